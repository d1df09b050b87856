/- For every input, the law StrictAbout returns true and leaves its arguments as they were, where the listed tables read as the program's text lays them (the card ties them): white space, comments and instructions about the root make no difference to the events of a well-formed text. -/
import Derived.Test.YtbbpkcddifmieaaGreatDoorCards
import Derived.Test.YtbbpkcddifmieaaGreatDoorRows
import Derived.Test.YtbbpkcddifmieaaGreatDoorSw37
import Derived.Test.YtbbpkcddifmieaaGreatDoorSw40
import Derived.Test.YtbbpkcddifmieaaGreatDoorSw42
import Derived.Test.YtbbpkcddifmieaaGreatDoorTie
set_option linter.unusedSimpArgs false
set_option linter.unusedVariables false
namespace Go.Proofs.YtbbpkcddifmieaaGreatDoor
open Go.ChangeShapes Go.WideShapes Go.ChangeAt Go.RowKit

set_option maxRecDepth 100000 in
theorem strictAbout_lifted (os : Os) (started : os.Started) (H : Type) (enc : TypeId × Value → H) :
  ReturnsInHanded {} Tryz.checked os 4 .any (fun w args => (Rows.strictAboutSpec.pre enc Tryz.prog Tryz.f4 Rows.strictAboutRow.domain false w args ∧ laidMetH Tryz.prog Rows.strictAboutRow.laid w) ∧ sizedMet enc Tryz.prog Tryz.f4 (OpenSpec.ofChange Rows.strictAboutSpec) false w args)
   (Rows.strictAboutSpec.post enc Tryz.prog Tryz.f4 false true false false) := by
 refine returnsInHanded_of_both (C := Tryz.checked) (X := fun w _ => laidMetH Tryz.prog Rows.strictAboutRow.laid w) (fun _ _ _ hh h => h.of_heap hh) own0 started (by kernel_rfl) Tryz.func4
  (ChangeSpec.witness_shaped (enc := enc) (C := Tryz.checked) (os := os) (X := fun w _ => laidMetH Tryz.prog Rows.strictAboutRow.laid w) false (World.laidAll Tryz.prog os Rows.strictAboutRow.laid) #[.string ⟨#[]⟩, .slice none 0 0] 8 (World.laidAll_os _ _ _)
   (World.shaped_of_ZipB (by kernel_rfl) (by kernel_rfl)) (by kernel_rfl) (by kernel_rfl) (by kernel_rfl)
   (by rw [MakeChecks.laidMetH_plain _ _ _ (show (Rows.strictAboutRow.laid.all fun x => x.2.handleName?.isNone) = true from laid_plain)]; exact laidMet_laidAll _ (by kernel_rfl) (by kernel_rfl))) ?_
 intro W base args ds gs before hval0 hW hc _ hL hsh
 have hval : ∀ (j : Nat) t v, Tryz.f4.params[j]? = some t → args[j]? = some v → Value.okWide Tryz.prog W .any base t v := hval0
 have hW' := hW
 have hlt : ∀ p ∈ before, p.block < W.heap.size := fun p hp => hW'.lt p hp
 obtain ⟨p, q, hA0, hV, rfl, _, _⟩ := hW
 have hA : DataW.TrodAll enc Tryz.prog W 0 (fun _ => true) true Tryz.f4.params.toList args.toList ds p := hA0
 rw [Tryz.params4] at hA hval
 obtain ⟨v0, v1, d0, d1, p0, p1, rfl, rfl, rfl, h0, h1⟩ := trodAll_two hA
 obtain ⟨rfl, rfl⟩ := trodVars_none hV
 obtain ⟨s0, rfl, rfl, rfl, ws0⟩ := Go.ChangeMaps.open_string Tryz.underlying9 (hval 0 9 v0 rfl rfl) h0
 obtain ⟨l0, rfl⟩ : ∃ l, s0 = bstr l := ⟨_, (bstr_of s0).symm⟩
 obtain ⟨A1, c1, l1, rfl, hr1⟩ := open_ints (hval 1 31 v1 rfl rfl) h1
 clear hA0 hval0
 simp only [List.append_nil, List.nil_append] at hW' hlt
 refine (lawAbout_any l0 A1 c1 l1 W (gl_laid hL hsh) (size_shape hsh) hr1).mono fun e W' ⟨he, hw⟩ => ?_
 subst he
 have hs1 : ∀ p ∈ p1, W.sameAt W' p := fun p hp => hw.same (hlt p hp)
 exact ⟨_, rfl, shut_below (pa := p1) (pv := []) hW' (fun _ _ _ => trodAll_mk1 (shut_bool Tryz.underlying4 true)) (fun sp hsp => by have := trodAll_mk2 (Go.ChangeMaps.shut_string Tryz.underlying9 ws0) (stays_ints h1 hs1 (fun p hp => hsp p hp)); simp only [List.append_nil, List.nil_append] at this; exact this) (fun _ _ => rfl) (by simp)
  hw (ok_one (by kernel_rfl) rfl (okWide_bool_mk Tryz.underlying4 true))⟩

theorem strictAbout_row : Rows.StrictAboutSaid :=
 OpenClaim.holds_of_wide 4 Tryz.f4 rfl rfl rfl rfl rfl rfl rfl ⟨rfl, rfl, rfl, rfl, rfl⟩ rfl rfl rfl rfl rfl (by kernel_rfl) Tryz.func4 (by kernel_rfl)
  (of_decide_eq_true (by kernel_rfl)) (by unfold Func.isWrapper; first | (rw [if_pos (by decide +kernel)]; kernel_rfl) | (rw [if_neg (by decide +kernel)]; exact ⟨rfl, rfl⟩))
  (fun os started H enc _ => strictAbout_lifted os started H enc)
theorem strictAbout_card : Rows.StrictAboutCardSaid :=
 Claim7.holds_tied_plain_at .later [] [.data, .data, .data, .pinned, .pinned] true (true, "ab315008d6675735c92df7688d08ca0d220036e20ebef9e72458c725763129f0") false strictAbout_row (fun _ h => by cases h) (by kernel_rfl) (fun _ h => by cases h) strictAbout_row_tie rfl ⟨rfl, rfl⟩ (by kernel_rfl) rfl
  (fun f fn hf hfn => by
   obtain rfl : f = 4 := Option.some.inj ((show Tryz.prog.funcNamed "carding/cardinglaw15.StrictAbout" = some 4 by kernel_rfl).symm.trans hf) |>.symm
   obtain rfl : fn = Tryz.f4 := (Option.some.inj (Tryz.func4.symm.trans hfn)).symm
   exact ⟨by kernel_rfl, fun j t ht => by
    rw [Tryz.params4] at ht
    have hm : t ∈ [9, 31] := by simpa using Array.mem_of_getElem? ht
    have hall : ([9, 31].all fun u => !Tryz.prog.wantsStandIn u) = true := by kernel_rfl
    have := List.all_eq_true.1 hall t hm
    have h2 : Tryz.prog.wantsStandIn t = false := by simpa using this
    exact h2⟩)
  (by kernel_rfl)
end Go.Proofs.YtbbpkcddifmieaaGreatDoor
