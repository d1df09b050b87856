/- For every input, the law StrictValues returns true and leaves its arguments as they were, where the listed tables read as the program's text lays them (the card ties them): a value as written, and what declarations say of a prefix, are the document's. -/
import Derived.Test.YtbbpkcddifmieaaGreatDoorCards
import Derived.Test.YtbbpkcddifmieaaGreatDoorRows
import Derived.Test.YtbbpkcddifmieaaGreatDoorSv35
import Derived.Test.YtbbpkcddifmieaaGreatDoorSv36
import Derived.Test.YtbbpkcddifmieaaGreatDoorTie
set_option linter.unusedSimpArgs false
set_option linter.unusedVariables false
namespace Go.Proofs.YtbbpkcddifmieaaGreatDoor
open Go.ChangeShapes Go.WideShapes Go.ChangeAt Go.RowKit

set_option maxRecDepth 100000 in
theorem strictValues_lifted (os : Os) (started : os.Started) (H : Type) (enc : TypeId × Value → H) :
    ReturnsInHanded {} Tryz.checked os 3 .any (fun w args => (Rows.strictValuesSpec.pre enc Tryz.prog Tryz.f3 Rows.strictValuesRow.domain false w args ∧ laidMetH Tryz.prog Rows.strictValuesRow.laid w) ∧ sizedMet enc Tryz.prog Tryz.f3 (OpenSpec.ofChange Rows.strictValuesSpec) false w args)
      (Rows.strictValuesSpec.post enc Tryz.prog Tryz.f3 false true false false) := by
  refine returnsInHanded_of_both (C := Tryz.checked) (X := fun w _ => laidMetH Tryz.prog Rows.strictValuesRow.laid w) (fun _ _ _ hh h => h.of_heap hh) own0 started (by kernel_rfl) Tryz.func3
    (ChangeSpec.witness_shaped (enc := enc) (C := Tryz.checked) (os := os) (X := fun w _ => laidMetH Tryz.prog Rows.strictValuesRow.laid w) false (World.laidAll Tryz.prog os Rows.strictValuesRow.laid) #[.string ⟨#[]⟩, .slice none 0 0, .string ⟨#[]⟩] 8 (World.laidAll_os _ _ _)
      (World.shaped_of_ZipB (by kernel_rfl) (by kernel_rfl)) (by kernel_rfl) (by kernel_rfl) (by kernel_rfl)
      (by rw [MakeChecks.laidMetH_plain _ _ _ (show (Rows.strictValuesRow.laid.all fun x => x.2.handleName?.isNone) = true from laid_plain)]; exact laidMet_laidAll _ (by kernel_rfl) (by kernel_rfl))) ?_
  intro W base args ds gs before hval0 hW hc _ hL hsh
  have hval : ∀ (j : Nat) t v, Tryz.f3.params[j]? = some t → args[j]? = some v → Value.okWide Tryz.prog W .any base t v := hval0
  have hW' := hW
  have hlt : ∀ p ∈ before, p.block < W.heap.size := fun p hp => hW'.lt p hp
  obtain ⟨p, q, hA0, hV, rfl, _, _⟩ := hW
  have hA : DataW.TrodAll enc Tryz.prog W 0 (fun _ => true) true Tryz.f3.params.toList args.toList ds p := hA0
  rw [Tryz.params3] at hA hval
  obtain ⟨v0, v1, v2, d0, d1, d2, p0, p1, p2, rfl, rfl, rfl, h0, h1, h2⟩ := trodAll_three hA
  obtain ⟨rfl, rfl⟩ := trodVars_none hV
  obtain ⟨s0, rfl, rfl, rfl, ws0⟩ := Go.ChangeMaps.open_string Tryz.underlying9 (hval 0 9 v0 rfl rfl) h0
  obtain ⟨l0, rfl⟩ : ∃ l, s0 = bstr l := ⟨_, (bstr_of s0).symm⟩
  obtain ⟨A1, c1, l1, rfl, hr1⟩ := open_dcls (hval 1 22 v1 rfl rfl) h1
  obtain ⟨s2, rfl, rfl, rfl, ws2⟩ := Go.ChangeMaps.open_string Tryz.underlying9 (hval 2 9 v2 rfl rfl) h2
  obtain ⟨l2, rfl⟩ : ∃ l, s2 = bstr l := ⟨_, (bstr_of s2).symm⟩
  clear hA0 hval0
  simp only [List.append_nil, List.nil_append] at hW' hlt
  refine (lawValues_any l0 A1 c1 l1 l2 W (gl_laid hL hsh) (size_shape hsh) hr1).mono fun e W' ⟨he, hw⟩ => ?_
  subst he
  have hs1 : ∀ p ∈ p1, W.sameAt W' p := fun p hp => hw.same (hlt p hp)
  exact ⟨_, rfl, shut_below (pa := p1) (pv := []) hW' (fun _ _ _ => trodAll_mk1 (shut_bool Tryz.underlying4 true)) (fun sp hsp => by have := trodAll_mk3 (Go.ChangeMaps.shut_string Tryz.underlying9 ws0) (stays_dcls h1 hs1 (fun p hp => hsp p hp)) (Go.ChangeMaps.shut_string Tryz.underlying9 ws2); simp only [List.append_nil, List.nil_append] at this; exact this) (fun _ _ => rfl) (by simp)
    hw (ok_one (by kernel_rfl) rfl (okWide_bool_mk Tryz.underlying4 true))⟩

theorem strictValues_row : Rows.StrictValuesSaid :=
  OpenClaim.holds_of_wide 3 Tryz.f3 rfl rfl rfl rfl rfl rfl rfl ⟨rfl, rfl, rfl, rfl, rfl⟩ rfl rfl rfl rfl rfl (by kernel_rfl) Tryz.func3 (by kernel_rfl)
    (of_decide_eq_true (by kernel_rfl)) (by unfold Func.isWrapper; first | (rw [if_pos (by decide +kernel)]; kernel_rfl) | (rw [if_neg (by decide +kernel)]; exact ⟨rfl, rfl⟩))
    (fun os started H enc _ => strictValues_lifted os started H enc)
theorem strictValues_card : Rows.StrictValuesCardSaid :=
  Claim7.holds_tied_plain_at .later [] [.data, .data, .data, .pinned, .pinned] true (true, "ab315008d6675735c92df7688d08ca0d220036e20ebef9e72458c725763129f0") false strictValues_row (fun _ h => by cases h) (by kernel_rfl) (fun _ h => by cases h) strictValues_row_tie rfl ⟨rfl, rfl⟩ (by kernel_rfl) rfl
    (fun f fn hf hfn => by
      obtain rfl : f = 3 := Option.some.inj ((show Tryz.prog.funcNamed "carding/cardinglaw15.StrictValues" = some 3 by kernel_rfl).symm.trans hf) |>.symm
      obtain rfl : fn = Tryz.f3 := (Option.some.inj (Tryz.func3.symm.trans hfn)).symm
      exact ⟨by kernel_rfl, fun j t ht => by
        rw [Tryz.params3] at ht
        have hm : t ∈ [9, 22, 9] := by simpa using Array.mem_of_getElem? ht
        have hall : ([9, 22, 9].all fun u => !Tryz.prog.wantsStandIn u) = true := by kernel_rfl
        have := List.all_eq_true.1 hall t hm
        have h2 : Tryz.prog.wantsStandIn t = false := by simpa using this
        exact h2⟩)
    (by kernel_rfl)
end Go.Proofs.YtbbpkcddifmieaaGreatDoor
