/- For every input, the law StrictCut returns true and leaves its arguments as they were, where the listed tables read as the program's text lays them (the card ties them): no text that is cut off within its root is well-formed. -/
import Derived.Test.YtbbpkcddifmieaaGreatDoorCards
import Derived.Test.YtbbpkcddifmieaaGreatDoorRows
import Derived.Test.YtbbpkcddifmieaaGreatDoorSw37
import Derived.Test.YtbbpkcddifmieaaGreatDoorSw43
import Derived.Test.YtbbpkcddifmieaaGreatDoorTie
set_option linter.unusedSimpArgs false
set_option linter.unusedVariables false
namespace Go.Proofs.YtbbpkcddifmieaaGreatDoor
open Go.ChangeShapes Go.WideShapes Go.ChangeAt Go.RowKit

set_option maxRecDepth 100000 in
theorem strictCut_lifted (os : Os) (started : os.Started) (H : Type) (enc : TypeId × Value → H) :
  ReturnsInHanded {} Tryz.checked os 6 .any (fun w args => (Rows.strictCutSpec.pre enc Tryz.prog Tryz.f6 Rows.strictCutRow.domain false w args ∧ laidMetH Tryz.prog Rows.strictCutRow.laid w) ∧ sizedMet enc Tryz.prog Tryz.f6 (OpenSpec.ofChange Rows.strictCutSpec) false w args)
   (Rows.strictCutSpec.post enc Tryz.prog Tryz.f6 false true false false) := by
 refine returnsInHanded_of_both (C := Tryz.checked) (X := fun w _ => laidMetH Tryz.prog Rows.strictCutRow.laid w) (fun _ _ _ hh h => h.of_heap hh) own0 started (by kernel_rfl) Tryz.func6
  (ChangeSpec.witness_shaped (enc := enc) (C := Tryz.checked) (os := os) (X := fun w _ => laidMetH Tryz.prog Rows.strictCutRow.laid w) false (World.laidAll Tryz.prog os Rows.strictCutRow.laid) #[.string ⟨#[]⟩, .int .i64 0] 8 (World.laidAll_os _ _ _)
   (World.shaped_of_ZipB (by kernel_rfl) (by kernel_rfl)) (by kernel_rfl) (by kernel_rfl) (by kernel_rfl)
   (by rw [MakeChecks.laidMetH_plain _ _ _ (show (Rows.strictCutRow.laid.all fun x => x.2.handleName?.isNone) = true from laid_plain)]; exact laidMet_laidAll _ (by kernel_rfl) (by kernel_rfl))) ?_
 intro W base args ds gs before hval0 hW hc _ hL hsh
 have hval : ∀ (j : Nat) t v, Tryz.f6.params[j]? = some t → args[j]? = some v → Value.okWide Tryz.prog W .any base t v := hval0
 have hW' := hW
 have hlt : ∀ p ∈ before, p.block < W.heap.size := fun p hp => hW'.lt p hp
 obtain ⟨p, q, hA0, hV, rfl, _, _⟩ := hW
 have hA : DataW.TrodAll enc Tryz.prog W 0 (fun _ => true) true Tryz.f6.params.toList args.toList ds p := hA0
 rw [Tryz.params6] at hA hval
 obtain ⟨v0, v1, d0, d1, p0, p1, rfl, rfl, rfl, h0, h1⟩ := trodAll_two hA
 obtain ⟨rfl, rfl⟩ := trodVars_none hV
 obtain ⟨s0, rfl, rfl, rfl, ws0⟩ := Go.ChangeMaps.open_string Tryz.underlying9 (hval 0 9 v0 rfl rfl) h0
 obtain ⟨l0, rfl⟩ : ∃ l, s0 = bstr l := ⟨_, (bstr_of s0).symm⟩
 obtain ⟨k1, rfl, rfl, rfl, wk1⟩ := open_int Tryz.underlying3 (hval 1 3 v1 rfl rfl) h1
 clear hA0 hval0
 simp only [List.append_nil, List.nil_append] at hW' hlt
 refine (lawCut_any l0 k1 W (gl_laid hL hsh) (size_shape hsh) wk1).mono fun e W' ⟨he, hw⟩ => ?_
 subst he
 exact ⟨_, rfl, shut_below (pa := []) (pv := []) hW' (fun _ _ _ => trodAll_mk1 (shut_bool Tryz.underlying4 true)) (fun sp _ => trodAll_mk2 (Go.ChangeMaps.shut_string Tryz.underlying9 ws0) (shut_int Tryz.underlying3 wk1)) (fun _ _ => rfl) rfl
  hw (ok_one (by kernel_rfl) rfl (okWide_bool_mk Tryz.underlying4 true))⟩

theorem strictCut_row : Rows.StrictCutSaid :=
 OpenClaim.holds_of_wide 6 Tryz.f6 rfl rfl rfl rfl rfl rfl rfl ⟨rfl, rfl, rfl, rfl, rfl⟩ rfl rfl rfl rfl rfl (by kernel_rfl) Tryz.func6 (by kernel_rfl)
  (of_decide_eq_true (by kernel_rfl)) (by unfold Func.isWrapper; first | (rw [if_pos (by decide +kernel)]; kernel_rfl) | (rw [if_neg (by decide +kernel)]; exact ⟨rfl, rfl⟩))
  (fun os started H enc _ => strictCut_lifted os started H enc)
theorem strictCut_card : Rows.StrictCutCardSaid :=
 Claim7.holds_tied_plain_at .later [] [.data, .data, .data, .pinned, .pinned] true (true, "ab315008d6675735c92df7688d08ca0d220036e20ebef9e72458c725763129f0") false strictCut_row (fun _ h => by cases h) (by kernel_rfl) (fun _ h => by cases h) strictCut_row_tie rfl ⟨rfl, rfl⟩ (by kernel_rfl) rfl
  (fun f fn hf hfn => by
   obtain rfl : f = 6 := Option.some.inj ((show Tryz.prog.funcNamed "carding/cardinglaw15.StrictCut" = some 6 by kernel_rfl).symm.trans hf) |>.symm
   obtain rfl : fn = Tryz.f6 := (Option.some.inj (Tryz.func6.symm.trans hfn)).symm
   exact ⟨by kernel_rfl, fun j t ht => by
    rw [Tryz.params6] at ht
    have hm : t ∈ [9, 3] := by simpa using Array.mem_of_getElem? ht
    have hall : ([9, 3].all fun u => !Tryz.prog.wantsStandIn u) = true := by kernel_rfl
    have := List.all_eq_true.1 hall t hm
    have h2 : Tryz.prog.wantsStandIn t = false := by simpa using this
    exact h2⟩)
  (by kernel_rfl)
end Go.Proofs.YtbbpkcddifmieaaGreatDoor
