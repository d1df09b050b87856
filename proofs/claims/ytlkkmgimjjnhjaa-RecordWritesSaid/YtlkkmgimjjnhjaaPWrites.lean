/- For every two records, the law RecordWrites returns true and leaves its arguments as they were: whether a record may be, its bytes, its frame, and whether two are the same, are told alike by the program and by the document. -/
import Derived.Test.YtlkkmgimjjnhjaaMA33
import Derived.Test.YtlkkmgimjjnhjaaMA34
import Derived.Test.YtlkkmgimjjnhjaaRows
set_option linter.unusedSimpArgs false
set_option linter.unusedVariables false
namespace Go.Proofs.Ytlkkmgimjjnhjaa
open Go.ChangeShapes Go.WideShapes Go.ChangeAt Go.RowKit Rec

set_option maxRecDepth 100000 in
theorem recordWrites_lifted (os : Os) (started : os.Started) (H : Type) (enc : TypeId × Value → H) :
    ReturnsInHanded {} Try.checked os 3 .any (Rows.recordWritesSpec.pre6 enc Try.prog Try.f3 Rows.recordWritesRow.domain false) (Rows.recordWritesSpec.post enc Try.prog Try.f3 false true false false) := by
  refine returnsInHanded_of_change (C := Try.checked) Try.own started (by kernel_rfl) Try.func3
    (ChangeSpec.witness6 (enc := enc) (C := Try.checked) false ⟨#[], #[.agg #[.int .i8 0, .int .i64 0, .string ⟨#[]⟩, .string ⟨#[]⟩, .bool false, .slice none 0 0, .string ⟨#[]⟩, .slice none 0 0], .agg #[.int .i8 0, .int .i64 0, .string ⟨#[]⟩, .string ⟨#[]⟩, .bool false, .slice none 0 0, .string ⟨#[]⟩, .slice none 0 0]], []⟩ 8 (by kernel_rfl) (by kernel_rfl) (by kernel_rfl) (by kernel_rfl)) ?_
  intro W base args ds gs before hval0 hW hcnd _
  have hval : ∀ (j : Nat) t v, Try.f3.params[j]? = some t → args[j]? = some v → Value.okWide Try.prog W .any base t v := hval0
  have hW' := hW
  have hlt : ∀ p ∈ before, p.block < W.heap.size := fun p hp => hW'.lt p hp
  obtain ⟨p, q, hA0, hV, rfl, hfz, hnd⟩ := hW
  have hA : DataW.TrodAll enc Try.prog W 0 (fun _ => true) true Try.f3.params.toList args.toList ds p := hA0
  rw [Try.params3] at hA hval
  obtain ⟨v0, v1, d0, d1, p0, p1, rfl, rfl, rfl, h0, h1⟩ := trodAll_two hA
  obtain ⟨rfl, rfl⟩ := trodVars_none hV
  obtain ⟨cs0, rfl, _⟩ := okWide_struct Try.underlying28 (hval 0 28 v0 rfl rfl)
  obtain ⟨cs1, rfl, _⟩ := okWide_struct Try.underlying28 (hval 1 28 v1 rfl rfl)
  have k0 := h0
  have k1 := h1
  obtain ⟨fuel0, hf0⟩ := k0
  obtain ⟨fuel1, hf1⟩ := k1
  obtain ⟨x0, A0, A0', c0, c0', hx0, hg0⟩ := open_rcd hf0
  obtain ⟨x1, A1, A1', c1, c1', hx1, hg1⟩ := open_rcd hf1
  have e0 : cs0 = rcdCells x0 A0 c0 A0' c0' := by
    apply Array.ext'
    rw [← hx0]
    simp [Value.cells]
  have e1 : cs1 = rcdCells x1 A1 c1 A1' c1' := by
    apply Array.ext'
    rw [← hx1]
    simp [Value.cells]
  subst e0 e1
  clear hA0 hval0 hval hx0 hx1 hf0 hf1
  simp only [List.append_nil] at hW' hlt
  refine (lawWrites_any x0 x1 A0 A0' A1 A1' c0 c0' c1 c1' W hg0 hg1).mono fun e W' ⟨he, hw⟩ => ?_
  subst he
  have hs0 : ∀ p ∈ p0, W.sameAt W' p := fun p hp => hw.same (hlt p (List.mem_append_left _ hp))
  have hs1 : ∀ p ∈ p1, W.sameAt W' p := fun p hp => hw.same (hlt p (List.mem_append_right _ hp))
  exact ⟨_, rfl, shut_below (pa := p0 ++ p1) (pv := []) hW' (fun _ _ _ => trodAll_mk1 (shut_bool Try.underlying4 true))
    (fun sp hsp => trodAll_mk2 (stays_rcd h0 hs0 (fun p hp => hsp p (List.mem_append_left _ hp))) (stays_rcd h1 hs1 (fun p hp => hsp p (List.mem_append_right _ hp)))) (fun _ _ => rfl) (by simp)
    hw (ok_one (by kernel_rfl) rfl (okWide_bool_mk Try.underlying4 true))⟩

theorem recordWrites_holds : Rows.RecordWritesSaid :=
  OpenClaim.holds_of_wide 3 Try.f3 rfl rfl rfl rfl rfl rfl rfl ⟨rfl, rfl, rfl, rfl, rfl⟩ rfl rfl rfl rfl rfl (by kernel_rfl) Try.func3 (by kernel_rfl)
    (of_decide_eq_true (by kernel_rfl)) (by unfold Func.isWrapper; rw [if_neg (by decide +kernel)]; exact ⟨rfl, rfl⟩)
    (fun os started H enc _ => recordWrites_lifted os started H enc)
end Go.Proofs.Ytlkkmgimjjnhjaa
