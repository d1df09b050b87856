/- Arguments opened: a row of ints from its reading; its reading stays. -/
import Derived.Test.YtbbpkcddifmieaaGreatDoorSw41
set_option linter.unusedSimpArgs false
set_option linter.unusedVariables false
namespace Go.Proofs.YtbbpkcddifmieaaGreatDoor
open Go.ChangeShapes Go.WideShapes Go.ChangeAt Go.RowKit

theorem flat_one : ∀ l : List Int, l.flatMap (fun k : Int => [Value.int .i64 k]) = l.map fun k => .int .i64 k
 | [] => rfl
 | x :: l => by rw [List.flatMap_cons, flat_one l]; rfl
section
variable {H : Type} {enc : TypeId × Value → H} {w : World} {sp : Nat → Bool} {held : Bool}
set_option maxRecDepth 100000 in
theorem open_ints {r : Reach} {b0 : Nat} {v : Value} {d : DataW H} {ps : List MemPlace} (hval : Value.okWide Tryz.prog w r b0 31 v) (h : DataW.Trod enc Tryz.prog w 0 (fun _ => true) true 31 v d ps) :
  ∃ (A : Option Addr) (c : Nat) (l : List Int), v = .slice A l.length c ∧ Reads w w.heap.size 1 A l.length (l.map fun k => .int .i64 k) := by
 obtain ⟨fuel, hf⟩ := h
 obtain ⟨A, l, c, e, hA, -, -⟩ := open_rowsD (s := 1) (f := fun k : Int => [Value.int .i64 k]) (R := fun _ _ => True) (fun _ => rfl) (by omega) Tryz.underlying31 (by kernel_rfl)
  (fun n cs y hy => by
   obtain ⟨k, e, _, _⟩ := DataW.trod_int Tryz.underlying3 hy
   exact ⟨k, e, trivial⟩) hf
 have hv : v = .slice A l.length c := by
  obtain ⟨a, len, cap, rfl⟩ := okWide_slice Tryz.underlying31 hval
  simpa [Value.cells] using e
 refine ⟨A, c, l, hv, ?_⟩
 have e2 := flat_one l
 rwa [e2] at hA
set_option maxRecDepth 100000 in
theorem stays_ints {W W' : World} {sp' : Nat → Bool} {v : Value} {d : DataW H} {ps : List MemPlace} (h : DataW.Trod enc Tryz.prog W 0 (fun _ => true) true 31 v d ps) (hsame : ∀ p ∈ ps, W.sameAt W' p) (hs : ∀ p ∈ ps, sp' p.block = true) :
  DataW.Trod enc Tryz.prog W' 0 sp' true 31 v d ps :=
 WideElems.Trod_stays (by kernel_rfl) (by kernel_rfl) (of_decide_eq_true (by kernel_rfl)) h hsame hs
end
end Go.Proofs.YtbbpkcddifmieaaGreatDoor
