/- For every two rows of tokens, the law TokensWrite returns true and leaves its arguments as they were, where the listed tables read as the program's text lays them (the card ties them): what is written of tokens that are not too great is the document's, and whether two rows are the same is too. -/
import Derived.Test.YtbnaphbmmkmaeaaDoorCards
import Derived.Test.YtbnaphbmmkmaeaaDoorRows
import Derived.Test.YtbnaphbmmkmaeaaDoorTd25
import Derived.Test.YtbnaphbmmkmaeaaDoorTie
set_option linter.unusedSimpArgs false
set_option linter.unusedVariables false
namespace Go.Proofs.YtbnaphbmmkmaeaaDoor
open Go.ChangeShapes Go.WideShapes Go.ChangeAt Go.RowKit

set_option maxRecDepth 100000 in
theorem tokensWrite_lifted (os : Os) (started : os.Started) (H : Type) (enc : TypeId × Value → H) :
    ReturnsInHanded {} Tryd.checked os 5 .any (fun w args => (Rows.tokensWriteSpec.pre enc Tryd.prog Tryd.f5 Rows.tokensWriteRow.domain false w args ∧ laidMetH Tryd.prog Rows.tokensWriteRow.laid w) ∧ sizedMet enc Tryd.prog Tryd.f5 (OpenSpec.ofChange Rows.tokensWriteSpec) false w args)
      (Rows.tokensWriteSpec.post enc Tryd.prog Tryd.f5 false true false false) := by
  refine returnsInHanded_of_both (C := Tryd.checked) (X := fun w _ => laidMetH Tryd.prog Rows.tokensWriteRow.laid w) (fun _ _ _ hh h => h.of_heap hh) own0 started (by kernel_rfl) Tryd.func5
    (ChangeSpec.witness_shaped (enc := enc) (C := Tryd.checked) (os := os) (X := fun w _ => laidMetH Tryd.prog Rows.tokensWriteRow.laid w) false (World.laidAll Tryd.prog os Rows.tokensWriteRow.laid) #[.slice none 0 0, .slice none 0 0] 8 (World.laidAll_os _ _ _)
      (World.shaped_of_ZipB (by kernel_rfl) (by kernel_rfl)) (by kernel_rfl) (by kernel_rfl) (by kernel_rfl)
      (by rw [MakeChecks.laidMetH_plain _ _ _ (show (Rows.tokensWriteRow.laid.all fun x => x.2.handleName?.isNone) = true from laid_plain)]; exact laidMet_laidAll _ (by kernel_rfl) (by kernel_rfl))) ?_
  intro W base args ds gs before hval0 hW hc hz0 hL hsh
  have hval : ∀ (j : Nat) t v, Tryd.f5.params[j]? = some t → args[j]? = some v → Value.okWide Tryd.prog W .any base t v := hval0
  have hW' := hW
  have hlt : ∀ p ∈ before, p.block < W.heap.size := fun p hp => hW'.lt p hp
  obtain ⟨p, q, hA0, hV, rfl, _, _⟩ := hW
  have hA : DataW.TrodAll enc Tryd.prog W 0 (fun _ => true) true Tryd.f5.params.toList args.toList ds p := hA0
  rw [Tryd.params5] at hA hval
  have hz : (DataW.weightsEach Tryd.prog ([23, 23] ++ []) (ds ++ gs)).all (· ≤ reachBytes) = true := hz0
  obtain ⟨v0, v1, d0, d1, p0, p1, rfl, rfl, rfl, h0, h1⟩ := trodAll_two hA
  obtain ⟨rfl, rfl⟩ := trodVars_none hV
  obtain ⟨A, c, l, rfl, hr, hw⟩ := open_toks (hval 0 23 v0 rfl rfl) h0
  obtain ⟨A', c', l', rfl, hr', -⟩ := open_toks (hval 1 23 v1 rfl rfl) h1
  have hsz := hw fun n hn => by
    have hm := DataW.weights_mem_each (P := Tryd.prog) (ts := [23, 23] ++ []) (ds := [d0, d1] ++ []) (j := 0) (t := 23) (d := d0) rfl rfl n hn
    simpa using List.all_eq_true.1 hz n hm
  clear hA0 hval0 hval hw hz hz0
  simp only [List.append_nil] at hW' hlt
  refine (lawWrite_any A A' c c' l l' W (gl_laid hL hsh) (size_shape hsh) hr.a hr'.a hr.len hr'.len hr.subs hr'.subs hsz).mono fun e W' ⟨he, hw⟩ => ?_
  subst he
  have hs0 : ∀ p ∈ p0, W.sameAt W' p := fun p hp => hw.same (hlt p (List.mem_append_left _ hp))
  have hs1 : ∀ p ∈ p1, W.sameAt W' p := fun p hp => hw.same (hlt p (List.mem_append_right _ hp))
  exact ⟨_, rfl, shut_below (pa := p0 ++ p1) (pv := []) hW' (fun _ _ _ => trodAll_mk1 (shut_bool Tryd.underlying4 true))
    (fun sp hsp => trodAll_mk2 (stays_toks h0 hs0 (fun p hp => hsp p (List.mem_append_left _ hp))) (stays_toks h1 hs1 (fun p hp => hsp p (List.mem_append_right _ hp)))) (fun _ _ => rfl) (by simp)
    hw (ok_one (by kernel_rfl) rfl (okWide_bool_mk Tryd.underlying4 true))⟩

theorem tokensWrite_row : Rows.TokensWriteSaid :=
  OpenClaim.holds_of_wide 5 Tryd.f5 rfl rfl rfl rfl rfl rfl rfl ⟨rfl, rfl, rfl, rfl, rfl⟩ rfl rfl rfl rfl rfl (by kernel_rfl) Tryd.func5 (by kernel_rfl)
    (of_decide_eq_true (by kernel_rfl)) (by unfold Func.isWrapper; first | (rw [if_pos (by decide +kernel)]; kernel_rfl) | (rw [if_neg (by decide +kernel)]; exact ⟨rfl, rfl⟩))
    (fun os started H enc _ => tokensWrite_lifted os started H enc)
theorem tokensWrite_card : Rows.TokensWriteCardSaid :=
  Claim7.holds_tied_plain_at .later [] [.data, .data, .data, .pinned, .pinned] true (true, "4d164c0ca94be412c296c73932c2549da318b2dc12d50e06998c8c9e3c6b061e") false tokensWrite_row (fun _ h => by cases h) (by kernel_rfl) (fun _ h => by cases h) tokensWrite_row_tie rfl ⟨rfl, rfl⟩ (by kernel_rfl) rfl
    (fun f fn hf hfn => by
      obtain rfl : f = 5 := Option.some.inj ((show Tryd.prog.funcNamed "carding/cardinglaw14.TokensWrite" = some 5 by kernel_rfl).symm.trans hf) |>.symm
      obtain rfl : fn = Tryd.f5 := (Option.some.inj (Tryd.func5.symm.trans hfn)).symm
      exact ⟨by kernel_rfl, fun j t ht => by
        rw [Tryd.params5] at ht
        have hm : t ∈ [23, 23] := by simpa using Array.mem_of_getElem? ht
        have hall : ([23, 23].all fun u => !Tryd.prog.wantsStandIn u) = true := by kernel_rfl
        have := List.all_eq_true.1 hall t hm
        have h2 : Tryd.prog.wantsStandIn t = false := by simpa using this
        exact h2⟩)
    (by kernel_rfl)
end Go.Proofs.YtbnaphbmmkmaeaaDoor
