/- For every two feeds, the law WriteTells returns true and leaves its arguments as they were: whether a feed may be, its document, its size, and whether two feeds and two entries are the same, are as the document says. -/
import Derived.Test.YtlcfakmbcfdgbaaGreatWt17
import Derived.Test.YtlcfakmbcfdgbaaGreatWt29
set_option linter.unusedSimpArgs false
set_option linter.unusedVariables false
namespace Go.Proofs.YtlcfakmbcfdgbaaGreat
open Go.ChangeShapes Go.WideShapes Go.ChangeAt Go.RowKit

set_option maxRecDepth 100000 in
theorem writeTells_lifted (os : Os) (started : os.Started) (H : Type) (enc : TypeId × Value → H) :
    ReturnsInHanded {} Tryz.checked os 3 .any (Rows.writeTellsSpec.pre6 enc Tryz.prog Tryz.f3 Rows.writeTellsRow.domain false) (Rows.writeTellsSpec.post enc Tryz.prog Tryz.f3 false true false false) := by
  refine returnsInHanded_of_change (C := Tryz.checked) own0 started (by kernel_rfl) Tryz.func3
    (ChangeSpec.witness6 (enc := enc) (C := Tryz.checked) false ⟨#[], #[.agg #[.string ⟨#[]⟩, .string ⟨#[]⟩, .string ⟨#[]⟩, .bool false, .int .i64 0, .slice none 0 0], .agg #[.string ⟨#[]⟩, .string ⟨#[]⟩, .string ⟨#[]⟩, .bool false, .int .i64 0, .slice none 0 0]], []⟩ 8 (by kernel_rfl) (by kernel_rfl) (by kernel_rfl) (by kernel_rfl)) ?_
  intro W base args ds gs before hval0 hW hcnd _
  have hval : ∀ (j : Nat) t v, Tryz.f3.params[j]? = some t → args[j]? = some v → Value.okWide Tryz.prog W .any base t v := hval0
  have hW' := hW
  have hlt : ∀ p ∈ before, p.block < W.heap.size := fun p hp => hW'.lt p hp
  obtain ⟨p, q, hA0, hV, rfl, hfz, hnd⟩ := hW
  have hA : DataW.TrodAll enc Tryz.prog W 0 (fun _ => true) true Tryz.f3.params.toList args.toList ds p := hA0
  rw [Tryz.params3] at hA hval
  obtain ⟨v0, v1, d0, d1, p0, p1, rfl, rfl, rfl, h0, h1⟩ := trodAll_two hA
  obtain ⟨rfl, rfl⟩ := trodVars_none hV
  obtain ⟨cs0, rfl, _⟩ := okWide_struct Tryz.underlying26 (hval 0 26 v0 rfl rfl)
  have k0 := h0
  obtain ⟨fuel0, hf0⟩ := k0
  obtain ⟨x0, A0, n0, c0, hx0, hg0⟩ := open_feed hf0
  have e0 : cs0 = x0.cells A0 n0 c0 := by
    apply Array.ext'
    rw [← hx0]
    simp [Value.cells]
  subst e0
  obtain ⟨cs1, rfl, _⟩ := okWide_struct Tryz.underlying26 (hval 1 26 v1 rfl rfl)
  have k1 := h1
  obtain ⟨fuel1, hf1⟩ := k1
  obtain ⟨x1, A1, n1, c1, hx1, hg1⟩ := open_feed hf1
  have e1 : cs1 = x1.cells A1 n1 c1 := by
    apply Array.ext'
    rw [← hx1]
    simp [Value.cells]
  subst e1
  clear hA0 hval0 hval hx0 hx1 hf0 hf1
  simp only [List.append_nil] at hW' hlt
  refine (lawTells26_any x0 x1 A0 A1 n0 c0 n1 c1 W.heap.size W hg0.rd hg0.hn hg1.rd hg1.hn (Nat.le_refl _) hg0.hm hg1.hm ⟨hg0.hs, hg0.hes⟩ ⟨hg1.hs, hg1.hes⟩).mono fun e W' ⟨he, hw⟩ => ?_
  subst he
  have hs0 : ∀ p ∈ p0, W.sameAt W' p := fun p hp => hw.same (hlt p (List.mem_append_left _ hp))
  have hs1 : ∀ p ∈ p1, W.sameAt W' p := fun p hp => hw.same (hlt p (List.mem_append_right _ hp))
  exact ⟨_, rfl, shut_below (pa := p0 ++ p1) (pv := []) hW' (fun _ _ _ => trodAll_mk1 (shut_bool Tryz.underlying4 true))
    (fun sp hsp => trodAll_mk2 (stays_feed h0 hs0 (fun p hp => hsp p (List.mem_append_left _ hp))) (stays_feed h1 hs1 (fun p hp => hsp p (List.mem_append_right _ hp)))) (fun _ _ => rfl) (by simp)
    hw (ok_one (by kernel_rfl) rfl (okWide_bool_mk Tryz.underlying4 true))⟩

theorem writeTells_holds : Rows.WriteTellsSaid :=
  OpenClaim.holds_of_wide 3 Tryz.f3 rfl rfl rfl rfl rfl rfl rfl ⟨rfl, rfl, rfl, rfl, rfl⟩ rfl rfl rfl rfl rfl (by kernel_rfl) Tryz.func3 (by kernel_rfl)
    (of_decide_eq_true (by kernel_rfl)) (by unfold Func.isWrapper; rw [if_neg (by decide +kernel)]; exact ⟨rfl, rfl⟩)
    (fun os started H enc _ => writeTells_lifted os started H enc)
end Go.Proofs.YtlcfakmbcfdgbaaGreat
