/- For every feed, the law WriteGrows returns true and leaves its argument as it was: a feed without its last entry may be, and its document is shorter, and begins likewise. -/
import Derived.Test.YtheaknghgpafpaaWv19
import Derived.Test.YtheaknghgpafpaaWv22
set_option linter.unusedSimpArgs false
set_option linter.unusedVariables false
namespace Go.Proofs.Ytheaknghgpafpaa
open Go.ChangeShapes Go.WideShapes Go.ChangeAt Go.RowKit

set_option maxRecDepth 100000 in
theorem writeGrows_lifted (os : Os) (started : os.Started) (H : Type) (enc : TypeId × Value → H) :
    ReturnsInHanded {} Try.checked os 4 .any (Rows.writeGrowsSpec.pre6 enc Try.prog Try.f4 Rows.writeGrowsRow.domain false) (Rows.writeGrowsSpec.post enc Try.prog Try.f4 false true false false) := by
  refine returnsInHanded_of_change (C := Try.checked) own0 started (by kernel_rfl) Try.func4
    (ChangeSpec.witness6 (enc := enc) (C := Try.checked) false ⟨#[], #[.agg #[.string ⟨#[]⟩, .string ⟨#[]⟩, .string ⟨#[]⟩, .bool false, .int .i64 0, .slice none 0 0]], []⟩ 8 (by kernel_rfl) (by kernel_rfl) (by kernel_rfl) (by kernel_rfl)) ?_
  intro W base args ds gs before hval0 hW hcnd _
  have hval : ∀ (j : Nat) t v, Try.f4.params[j]? = some t → args[j]? = some v → Value.okWide Try.prog W .any base t v := hval0
  have hW' := hW
  have hlt : ∀ p ∈ before, p.block < W.heap.size := fun p hp => hW'.lt p hp
  obtain ⟨p, q, hA0, hV, rfl, hfz, hnd⟩ := hW
  have hA : DataW.TrodAll enc Try.prog W 0 (fun _ => true) true Try.f4.params.toList args.toList ds p := hA0
  rw [Try.params4] at hA hval
  obtain ⟨v0, d0, rfl, rfl, h0⟩ := trodAll_one hA
  obtain ⟨rfl, rfl⟩ := trodVars_none hV
  obtain ⟨cs0, rfl, _⟩ := okWide_struct Try.underlying26 (hval 0 26 v0 rfl rfl)
  have k0 := h0
  obtain ⟨fuel0, hf0⟩ := k0
  obtain ⟨x0, A0, n0, c0, hx0, hg0⟩ := open_feed hf0
  have e0 : cs0 = x0.cells A0 n0 c0 := by
    apply Array.ext'
    rw [← hx0]
    simp [Value.cells]
  subst e0
  clear hA0 hval0 hval hx0 hf0
  simp only [List.append_nil] at hW' hlt
  refine (lawGrows_any x0 A0 n0 c0 W.heap.size W hg0.rd hg0.hn (Nat.le_refl _) hg0.hm hg0.hc ⟨hg0.hs, hg0.hes⟩).mono fun e W' ⟨he, hw⟩ => ?_
  subst he
  have hs0 : ∀ p_ ∈ p, W.sameAt W' p_ := fun p_ hp => hw.same (hlt p_ hp)
  exact ⟨_, rfl, shut_below (pa := p) (pv := []) hW' (fun _ _ _ => trodAll_mk1 (shut_bool Try.underlying4 true))
    (fun sp hsp => trodAll_mk1 (stays_feed h0 hs0 (fun p_ hp => hsp p_ hp))) (fun _ _ => rfl) (by simp)
    hw (ok_one (by kernel_rfl) rfl (okWide_bool_mk Try.underlying4 true))⟩

theorem writeGrows_holds : Rows.WriteGrowsSaid :=
  OpenClaim.holds_of_wide 4 Try.f4 rfl rfl rfl rfl rfl rfl rfl ⟨rfl, rfl, rfl, rfl, rfl⟩ rfl rfl rfl rfl rfl (by kernel_rfl) Try.func4 (by kernel_rfl)
    (of_decide_eq_true (by kernel_rfl)) (by unfold Func.isWrapper; rw [if_neg (by decide +kernel)]; exact ⟨rfl, rfl⟩)
    (fun os started H enc _ => writeGrows_lifted os started H enc)
end Go.Proofs.Ytheaknghgpafpaa
