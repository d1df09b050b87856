/- Tokens: the scan's name, value. (Printed by wip/genTkG.py.) · References in plain data: what a reference names, the text that a text with references stands for; no program in sight. · UTF-8 and tokens in plain data: what stands at the front of a text is told by its own bytes; no program in sight. · The document's till: where the first such piece stands, from a byte on. -/
import Derived.Test.YtbbpkcddifmieaaGreatDoorSw02
import Derived.Test.YtbbpkcddifmieaaGreatDoorSw04
import Derived.Test.YtbbpkcddifmieaaGreatDoorSw05
import Derived.Deep.QuietTactic
import Derived.BigQuiet
import Derived.Deep.LoopGhost
import Derived.WalkSpells
import Derived.WalkLawsBesides
set_option linter.unusedSimpArgs false
set_option linter.unusedVariables false
namespace Go.Proofs.YtbbpkcddifmieaaGreatDoor
open Go.RowKit Tk

theorem piecesN_lt : ∀ (n k : Nat) (l : L), l.length ≤ n → ∀ p ∈ Utf.piecesN n k l, p.1 < k + l.length
 | _, _, [], _, p, hp => by unfold Utf.piecesN at hp; cases hp
 | 0, _, c :: l, h, _, _ => absurd h (by simp)
 | n + 1, k, c :: l, h, p, hp => by
  unfold Utf.piecesN at hp
  have hl := Utf.piece_len c l
  rcases List.mem_cons.1 hp with rfl | hp
  ·simp
  ·have := piecesN_lt n _ _ (by rw [List.length_drop]; simp at h ⊢; omega) p hp
   rw [List.length_drop] at this
   simp at this hl ⊢
   omega
theorem pieces_lt (l : L) (p : Nat × Int) (hp : p ∈ Utf.pieces l) : p.1 < l.length := by
 have := piecesN_lt l.length 0 l (Nat.le_refl _) p hp
 omega
theorem take_le (l : L) : take l ≤ l.length := by
 unfold take stop
 cases h : (Utf.pieces l).find? fun p => !nameOk p.1 p.2 with
 | none => simp
 | some x =>
  have hm := List.mem_of_find?_eq_some h
  simp only [Option.map_some, Option.getD_some]
  exact Nat.le_of_lt (pieces_lt l x hm)

set_option maxHeartbeats 8000000 in
theorem name_any (w : World) (X : Nat) (s : ByteArray) (k : Nat) (hX : Sc w X s k) (ha : k ≤ s.size) (hs : s.size ≤ 1000000000) :
  Calls Tryz.prog 102 #[.pointer (some ⟨X, 0, none⟩)] w fun e w' => e = .returned (.string (s.extract k (k + take (s.data.toList.drop k)))) ∧ Sc w' X s (k + take (s.data.toList.drop k)) ∧ But X w w' := by
 have HP := hide (show ∀ W, Calls Tryz.prog 127 #[.string (s.extract k s.size)] W fun e w' => e = .returned (.int .i64 (take (s.data.toList.drop k) : Nat)) ∧ Below W.heap.size W w' from fun W => by
  have h := take_any (s.extract k s.size) W (by rw [ByteArray.size_extract]; omega)
  rw [extract_end, bstr_list] at h
  rw [extract_end]
  exact h)
 have hn : take (s.data.toList.drop k) ≤ s.size - k := by
  have := take_le (s.data.toList.drop k)
  rwa [List.length_drop, size_list] at this
 generalize take (s.data.toList.drop k) = n at *
 have HK := hide hX
 have HB := hide (But.refl X w)
 have hns : ¬ s.size < k := by omega
 clear hX
 go_enter Tryz.func102, Tryz.ntmps102
 go_wp2
 refine wp_region_held_drew (S := fun W => Sc W X s (k) ∧ But X w W) (by kernel_rfl) ?_ (fun hHeld => ?_)
 ·(try dsimp only)
  first | exact ⟨Blk.drew HK.out, But.drew HB.out⟩ | exact ⟨Blk.go hHeld.1 hb, But.go hHeld.2 hb⟩ | exact hHeld
 change wpAnyH _ _ _ _ _ 11 #[false, false, false, false, false, false, false, false, false, false, false] _ _
 refine held_take (i := 0) (d := 4) (v := ?_) rfl rfl (by kernel_rfl) (by kernel_rfl) (by kernel_rfl) (fun _ _ _ h => h) (by kernel_rfl) hHeld ?_ ?_
 rotate_left
 ·intro w hSw
  (try dsimp only at hSw)
  go_simp
  first | done | with_reducible rfl
 (try simp only [Act.put, List.setIfInBounds_toArray, List.set_cons_zero, List.set_cons_succ])
 refine held_take (i := 1) (d := 5) (v := ?_) rfl rfl (by kernel_rfl) (by kernel_rfl) (by kernel_rfl) (fun _ _ _ h => h) (by kernel_rfl) hHeld ?_ ?_
 rotate_left
 ·intro w hSw
  (try dsimp only at hSw)
  go_simp
  first | done | with_reducible rfl
 (try simp only [Act.put, List.setIfInBounds_toArray, List.set_cons_zero, List.set_cons_succ])
 refine held_take (i := 2) (d := 6) (v := ?_) rfl rfl (by kernel_rfl) (by kernel_rfl) (by kernel_rfl) (fun _ _ _ h => h) (by kernel_rfl) hHeld ?_ ?_
 rotate_left
 ·intro w hSw
  (try dsimp only at hSw)
  go_simp
  first | done | with_reducible rfl
 (try simp only [Act.put, List.setIfInBounds_toArray, List.set_cons_zero, List.set_cons_succ])
 refine held_take (i := 3) (d := 7) (v := ?_) rfl rfl (by kernel_rfl) (by kernel_rfl) (by kernel_rfl) (fun _ _ _ h => h) (by kernel_rfl) hHeld ?_ ?_
 rotate_left
 ·intro w hSw
  (try dsimp only at hSw)
  have q0 := Sc.c0 hSw.1
  have q1 := Sc.c1 hSw.1
  go_simp
  first | done | with_reducible rfl
 (try simp only [Act.put, List.setIfInBounds_toArray, List.set_cons_zero, List.set_cons_succ])
 refine held_take (i := 4) (d := 8) (v := ?_) rfl rfl (by kernel_rfl) (by kernel_rfl) (by kernel_rfl) (fun _ _ _ h => h) (by kernel_rfl) hHeld ?_ ?_
 rotate_left
 ·intro w hSw
  (try dsimp only at hSw)
  go_simp
  first | done | with_reducible rfl
 (try simp only [Act.put, List.setIfInBounds_toArray, List.set_cons_zero, List.set_cons_succ])
 refine held_take (i := 5) (d := 9) (v := ?_) rfl rfl (by kernel_rfl) (by kernel_rfl) (by kernel_rfl) (fun _ _ _ h => h) (by kernel_rfl) hHeld ?_ ?_
 rotate_left
 ·intro w hSw
  (try dsimp only at hSw)
  go_simp
  first | done | with_reducible rfl
 (try simp only [Act.put, List.setIfInBounds_toArray, List.set_cons_zero, List.set_cons_succ])
 refine held_take (i := 6) (d := 10) (v := ?_) rfl rfl (by kernel_rfl) (by kernel_rfl) (by kernel_rfl) (fun _ _ _ h => h) (by kernel_rfl) hHeld ?_ ?_
 rotate_left
 ·intro w hSw
  (try dsimp only at hSw)
  go_simp
  first | done | with_reducible rfl
 (try simp only [Act.put, List.setIfInBounds_toArray, List.set_cons_zero, List.set_cons_succ])
 refine held_take (i := 7) (d := 11) (v := ?_) rfl rfl (by kernel_rfl) (by kernel_rfl) (by kernel_rfl) (fun _ _ _ h => h) (by kernel_rfl) hHeld ?_ ?_
 rotate_left
 ·intro w hSw
  (try dsimp only at hSw)
  have q0 := Sc.c0 hSw.1
  have q1 := Sc.c1 hSw.1
  go_simp
  first | done | with_reducible rfl
 (try simp only [Act.put, List.setIfInBounds_toArray, List.set_cons_zero, List.set_cons_succ])
 refine held_take (i := 8) (d := 12) (v := ?_) rfl rfl (by kernel_rfl) (by kernel_rfl) (by kernel_rfl) (fun _ _ _ h => h) (by kernel_rfl) hHeld ?_ ?_
 rotate_left
 ·intro w hSw
  (try dsimp only at hSw)
  go_simp
  first | done | with_reducible rfl
 (try simp only [Act.put, List.setIfInBounds_toArray, List.set_cons_zero, List.set_cons_succ])
 refine held_call (i := 9) rfl (by kernel_rfl) (by kernel_rfl) (fun K hK => ?_)
 go_simp
 go_at_call 127
 refine (HP.out _).mono ?_
 rintro e w' ⟨rfl, hb⟩
 (try dsimp only)
 refine hK.out _ _ ?_ (fun hHeld' => ?_)
 ·(try dsimp only)
  first | exact ⟨Blk.drew HK.out, But.drew HB.out⟩ | exact ⟨Blk.go hHeld.1 hb, But.go hHeld.2 hb⟩ | exact hHeld
 clear hK K hHeld
 have hHeld := hHeld'
 clear hHeld'
 (try simp only [Act.put, List.setIfInBounds_toArray, List.set_cons_zero, List.set_cons_succ])
 refine held_take (i := 10) (d := 3) (v := ?_) rfl rfl (by kernel_rfl) (by kernel_rfl) (by kernel_rfl) (fun _ _ _ h => h) (by kernel_rfl) hHeld ?_ ?_
 rotate_left
 ·intro w hSw
  (try dsimp only at hSw)
  go_simp
  first | done | with_reducible rfl
 (try simp only [Act.put, List.setIfInBounds_toArray, List.set_cons_zero, List.set_cons_succ])
 refine wpAnyH_done (by kernel_rfl) ?_ _
 have K1 := hide hHeld.1
 have B1 := hide hHeld.2
 have q1 := Sc.c1 hHeld.1
 have f1 := Sc.f1 hHeld.1
 clear hHeld HP HK HB
 have hw0 : IntKind.i64.wrap ((k : Int) + n) = (k : Int) + n := IntWalk.i64_in _ (by omega)
 have hw1 : IntKind.i64.wrap ((k : Int) + n - n) = (k : Int) := by rw [show (k : Int) + n - n = k by omega]; exact IntWalk.i64_in _ (by omega)
 have hw2 : IntKind.i64.wrap (k : Int) = (k : Int) := IntWalk.i64_in _ (by omega)
 have h4 : (0 : Int) ≤ (k : Int) + n ∧ (k : Int) + n ≤ (s.size : Int) := by omega
 have h5 : (k : Int) ≤ (k : Int) + n := by omega
 have h6 : ((k : Int) + n).toNat = k + n := by omega
 have h7 : (0 : Int) ≤ (k : Int) := by omega
 go_wp2
 have K2 := hide (Sc.move K1.out (k + n))
 have B2 := hide (B1.out.setCell (p := ⟨X, 1, none⟩) (.inl rfl) (.int .i64 ((k + n : Nat) : Int)))
 clear q1 f1 K1 B1
 refine wp_region_held_drew (S := fun W => Sc W X s (k + n) ∧ But X w W) (by kernel_rfl) ?_ (fun hHeld => ?_)
 ·(try dsimp only)
  first | exact ⟨Blk.drew K2.out, But.drew B2.out⟩ | exact ⟨Blk.go hHeld.1 hb, But.go hHeld.2 hb⟩ | exact hHeld
 change wpAnyH _ _ _ _ _ 16 #[false, false, false, false, false, false, false, false, false, false, false, false, false, false, false, false] _ _
 refine held_take (i := 0) (d := 22) (v := ?_) rfl rfl (by kernel_rfl) (by kernel_rfl) (by kernel_rfl) (fun _ _ _ h => h) (by kernel_rfl) hHeld ?_ ?_
 rotate_left
 ·intro w hSw
  (try dsimp only at hSw)
  go_simp
  first | done | with_reducible rfl
 (try simp only [Act.put, List.setIfInBounds_toArray, List.set_cons_zero, List.set_cons_succ])
 refine held_take (i := 1) (d := 23) (v := ?_) rfl rfl (by kernel_rfl) (by kernel_rfl) (by kernel_rfl) (fun _ _ _ h => h) (by kernel_rfl) hHeld ?_ ?_
 rotate_left
 ·intro w hSw
  (try dsimp only at hSw)
  go_simp
  first | done | with_reducible rfl
 (try simp only [Act.put, List.setIfInBounds_toArray, List.set_cons_zero, List.set_cons_succ])
 refine held_take (i := 2) (d := 24) (v := ?_) rfl rfl (by kernel_rfl) (by kernel_rfl) (by kernel_rfl) (fun _ _ _ h => h) (by kernel_rfl) hHeld ?_ ?_
 rotate_left
 ·intro w hSw
  (try dsimp only at hSw)
  go_simp
  first | done | with_reducible rfl
 (try simp only [Act.put, List.setIfInBounds_toArray, List.set_cons_zero, List.set_cons_succ])
 refine held_take (i := 3) (d := 25) (v := ?_) rfl rfl (by kernel_rfl) (by kernel_rfl) (by kernel_rfl) (fun _ _ _ h => h) (by kernel_rfl) hHeld ?_ ?_
 rotate_left
 ·intro w hSw
  (try dsimp only at hSw)
  have q0 := Sc.c0 hSw.1
  have q1 := Sc.c1 hSw.1
  go_simp
  first | done | with_reducible rfl
 (try simp only [Act.put, List.setIfInBounds_toArray, List.set_cons_zero, List.set_cons_succ])
 refine held_take (i := 4) (d := 26) (v := ?_) rfl rfl (by kernel_rfl) (by kernel_rfl) (by kernel_rfl) (fun _ _ _ h => h) (by kernel_rfl) hHeld ?_ ?_
 rotate_left
 ·intro w hSw
  (try dsimp only at hSw)
  go_simp
  first | done | with_reducible rfl
 (try simp only [Act.put, List.setIfInBounds_toArray, List.set_cons_zero, List.set_cons_succ])
 refine held_take (i := 5) (d := 27) (v := ?_) rfl rfl (by kernel_rfl) (by kernel_rfl) (by kernel_rfl) (fun _ _ _ h => h) (by kernel_rfl) hHeld ?_ ?_
 rotate_left
 ·intro w hSw
  (try dsimp only at hSw)
  go_simp
  first | done | with_reducible rfl
 (try simp only [Act.put, List.setIfInBounds_toArray, List.set_cons_zero, List.set_cons_succ])
 refine held_take (i := 6) (d := 28) (v := ?_) rfl rfl (by kernel_rfl) (by kernel_rfl) (by kernel_rfl) (fun _ _ _ h => h) (by kernel_rfl) hHeld ?_ ?_
 rotate_left
 ·intro w hSw
  (try dsimp only at hSw)
  go_simp
  first | done | with_reducible rfl
 (try simp only [Act.put, List.setIfInBounds_toArray, List.set_cons_zero, List.set_cons_succ])
 refine held_take (i := 7) (d := 29) (v := ?_) rfl rfl (by kernel_rfl) (by kernel_rfl) (by kernel_rfl) (fun _ _ _ h => h) (by kernel_rfl) hHeld ?_ ?_
 rotate_left
 ·intro w hSw
  (try dsimp only at hSw)
  have q0 := Sc.c0 hSw.1
  have q1 := Sc.c1 hSw.1
  go_simp
  first | done | with_reducible rfl
 (try simp only [Act.put, List.setIfInBounds_toArray, List.set_cons_zero, List.set_cons_succ])
 refine held_take (i := 8) (d := 30) (v := ?_) rfl rfl (by kernel_rfl) (by kernel_rfl) (by kernel_rfl) (fun _ _ _ h => h) (by kernel_rfl) hHeld ?_ ?_
 rotate_left
 ·intro w hSw
  (try dsimp only at hSw)
  go_simp
  first | done | with_reducible rfl
 (try simp only [Act.put, List.setIfInBounds_toArray, List.set_cons_zero, List.set_cons_succ])
 refine held_take (i := 9) (d := 31) (v := ?_) rfl rfl (by kernel_rfl) (by kernel_rfl) (by kernel_rfl) (fun _ _ _ h => h) (by kernel_rfl) hHeld ?_ ?_
 rotate_left
 ·intro w hSw
  (try dsimp only at hSw)
  go_simp
  first | done | with_reducible rfl
 (try simp only [Act.put, List.setIfInBounds_toArray, List.set_cons_zero, List.set_cons_succ])
 refine held_take (i := 10) (d := 32) (v := ?_) rfl rfl (by kernel_rfl) (by kernel_rfl) (by kernel_rfl) (fun _ _ _ h => h) (by kernel_rfl) hHeld ?_ ?_
 rotate_left
 ·intro w hSw
  (try dsimp only at hSw)
  go_simp
  first | done | with_reducible rfl
 (try simp only [Act.put, List.setIfInBounds_toArray, List.set_cons_zero, List.set_cons_succ])
 refine held_take (i := 11) (d := 33) (v := ?_) rfl rfl (by kernel_rfl) (by kernel_rfl) (by kernel_rfl) (fun _ _ _ h => h) (by kernel_rfl) hHeld ?_ ?_
 rotate_left
 ·intro w hSw
  (try dsimp only at hSw)
  go_simp
  first | done | with_reducible rfl
 (try simp only [Act.put, List.setIfInBounds_toArray, List.set_cons_zero, List.set_cons_succ])
 refine held_take (i := 12) (d := 34) (v := ?_) rfl rfl (by kernel_rfl) (by kernel_rfl) (by kernel_rfl) (fun _ _ _ h => h) (by kernel_rfl) hHeld ?_ ?_
 rotate_left
 ·intro w hSw
  (try dsimp only at hSw)
  go_simp
  first | done | with_reducible rfl
 (try simp only [Act.put, List.setIfInBounds_toArray, List.set_cons_zero, List.set_cons_succ])
 refine held_take (i := 13) (d := 35) (v := ?_) rfl rfl (by kernel_rfl) (by kernel_rfl) (by kernel_rfl) (fun _ _ _ h => h) (by kernel_rfl) hHeld ?_ ?_
 rotate_left
 ·intro w hSw
  (try dsimp only at hSw)
  have q0 := Sc.c0 hSw.1
  have q1 := Sc.c1 hSw.1
  go_simp
  first | done | with_reducible rfl
 (try simp only [Act.put, List.setIfInBounds_toArray, List.set_cons_zero, List.set_cons_succ])
 refine held_take (i := 14) (d := 36) (v := ?_) rfl rfl (by kernel_rfl) (by kernel_rfl) (by kernel_rfl) (fun _ _ _ h => h) (by kernel_rfl) hHeld ?_ ?_
 rotate_left
 ·intro w hSw
  (try dsimp only at hSw)
  go_simp
  first | done | with_reducible rfl
 (try simp only [Act.put, List.setIfInBounds_toArray, List.set_cons_zero, List.set_cons_succ])
 refine held_take (i := 15) (d := 2) (v := ?_) rfl rfl (by kernel_rfl) (by kernel_rfl) (by kernel_rfl) (fun _ _ _ h => h) (by kernel_rfl) hHeld ?_ ?_
 rotate_left
 ·intro w hSw
  (try dsimp only at hSw)
  go_simp
  first | done | with_reducible rfl
 (try simp only [Act.put, List.setIfInBounds_toArray, List.set_cons_zero, List.set_cons_succ])
 refine wpAnyH_done (by kernel_rfl) ?_ _
 go_wp2
 go_ret
 exact ⟨rfl, hHeld.1, hHeld.2⟩
end Go.Proofs.YtbbpkcddifmieaaGreatDoor
namespace Go.Proofs.YtbbpkcddifmieaaGreatDoor
open Go Tk
namespace Sx
/-- Where a ; stands, with no & and no < ahead of it. -/
def ends : L → Option Nat
 | [] => none
 | c :: r => if c = 59 then some 0 else if c = 38 ∨ c = 60 then none else (ends r).map (· + 1)
/-- A digit's worth; 16: it is none. -/
def worth (c : UInt8) : Nat := if 48 ≤ c.toNat ∧ c.toNat ≤ 57 then c.toNat - 48 else if 97 ≤ c.toNat ∧ c.toNat ≤ 102 then c.toNat - 87 else if 65 ≤ c.toNat ∧ c.toNat ≤ 70 then c.toNat - 55 else 16
def numVal (base : Nat) : Nat → L → Option Nat
 | v, [] => some v
 | v, c :: r => if base ≤ worth c then none else numVal base (v * base + worth c) r
def chk (v : Nat) : Option Nat := if charOk v then some v else none
/-- A number's scalar: none: it is no number; none within: it is a number of no Char. -/
def number (s : L) : Option (Option Nat) :=
 if s.head? = some 35 then
  if s.tail.head? = some 120 then if s.tail.tail = [] then none else (numVal 16 0 s.tail.tail).map chk
  else if s.tail = [] then none else (numVal 10 0 s.tail).map chk
 else none
def sLt : L := [108, 116]
def sGt : L := [103, 116]
def sAmp : L := [97, 109, 112]
def sApos : L := [97, 112, 111, 115]
def sQuot : L := [113, 117, 111, 116]
def named (s : L) : Option Nat := if s = sLt then some 60 else if s = sGt then some 62 else if s = sAmp then some 38 else if s = sApos then some 39 else if s = sQuot then some 34 else none
def scalar (s : L) : Option Nat := match number s with
 | some (some v) => some v
 | _ => named s
theorem ends_le : ∀ {s : L} {n : Nat}, ends s = some n → n < s.length
 | [], n, h => by cases h
 | c :: r, n, h => by
  unfold ends at h
  by_cases h1 : c = 59
  ·rw [if_pos h1] at h; cases h; simp
  rw [if_neg h1] at h
  by_cases h2 : c = 38 ∨ c = 60
  ·rw [if_pos h2] at h; cases h
  rw [if_neg h2] at h
  cases he : ends r with
  | none => rw [he] at h; cases h
  | some m =>
   rw [he] at h
   simp only [Option.map_some, Option.some.injEq] at h
   have := ends_le he
   simp only [List.length_cons]
   omega
end Sx
end Go.Proofs.YtbbpkcddifmieaaGreatDoor
namespace Go.Proofs.YtbbpkcddifmieaaGreatDoor
namespace Utf

theorem cont_zero (l : List UInt8) (r n lo hi : Int) : cont l 0 r n lo hi = (r, n) := by cases l <;> simp [cont]
theorem cont_take : ∀ (l : List UInt8) (k : Nat) (r n lo hi : Int), 0 ≤ (cont l k r n lo hi).1 → ∀ y, cont (l.take k ++ y) k r n lo hi = cont l k r n lo hi
 | l, 0, r, n, lo, hi, _, y => by simp only [cont_zero]
 | [], k + 1, r, n, lo, hi, h, _ => by simp [cont] at h
 | c :: l, k + 1, r, n, lo, hi, h, y => by
  rw [List.take_succ_cons, List.cons_append]
  simp only [cont] at h ⊢
  split
  ·rfl
  ·rename_i hb; rw [if_neg hb] at h; exact cont_take l k _ _ _ _ h y
theorem follow_nonneg (c : UInt8) : 0 ≤ (follow c.toNat).2.1 := by
 have hb := byte_lt c
 have := follow_cases c.toNat (by omega) (by omega)
 omega
/-- A right piece is told by its own bytes. -/
theorem piece_take {l : List UInt8} (h : 0 ≤ (piece l).1) (y : List UInt8) : piece (l.take (piece l).2.toNat ++ y) = piece l := by
 cases l with
 | nil => simp [piece] at h
 | cons c l =>
  have hb := follow_nonneg c
  rw [piece_cons] at h ⊢
  by_cases hn : (follow c.toNat).1 < 0
  ·rw [if_pos hn] at h; simp at h
  rw [if_neg hn] at h ⊢
  have h2 := cont_neg l (follow c.toNat).1.toNat (follow c.toNat).2.1 1 (follow c.toNat).2.2.1 (follow c.toNat).2.2.2 hb
  rcases h2 with h2 | ⟨_, h2⟩
  ·omega
  have e : (cont l (follow c.toNat).1.toNat (follow c.toNat).2.1 1 (follow c.toNat).2.2.1 (follow c.toNat).2.2.2).2.toNat = (follow c.toNat).1.toNat + 1 := by rw [h2]; omega
  rw [e, List.take_succ_cons, List.cons_append, piece_cons, if_neg hn]
  exact cont_take _ _ _ _ _ _ h y
theorem piece_app {p : List UInt8} (h : 0 ≤ (piece p).1) (q : List UInt8) : piece (p ++ q) = piece p := by
 have := piece_take h (p.drop (piece p).2.toNat ++ q)
 rwa [← List.append_assoc, List.take_append_drop] at this
/-- An ASCII byte is a piece of its own. -/
theorem piece_ascii {c : UInt8} (h : c.toNat < 128) (l : List UInt8) : piece (c :: l) = ((c.toNat : Int), 1) := by
 have e : follow (c.toNat : Int) = (0, (c.toNat : Int), 128, 191) := by unfold follow; rw [if_pos (by omega)]
 rw [piece_cons, e]
 simp [cont_zero]
theorem piece_n (c : UInt8) (l : List UInt8) : 1 ≤ (piece (c :: l)).2.toNat ∧ (piece (c :: l)).2.toNat ≤ (c :: l).length := by
 have := piece_len c l
 omega
theorem valid_step {c : UInt8} {l : List UInt8} (h : valid (c :: l) = true) : 0 ≤ (piece (c :: l)).1 ∧ valid ((c :: l).drop (piece (c :: l)).2.toNat) = true := by
 rw [valid_cons] at h
 split at h
 ·cases h
 ·exact ⟨by omega, h⟩
theorem app_step {c : UInt8} {l : List UInt8} (h : 0 ≤ (piece (c :: l)).1) (q : List UInt8) : (c :: l ++ q).drop (piece (c :: l ++ q)).2.toNat = (c :: l).drop (piece (c :: l)).2.toNat ++ q := by
 rw [piece_app h, List.drop_append_of_le_length (piece_n c l).2]
theorem from_app_n : ∀ (k : Nat) (p q : List UInt8) (at_ : Nat), p.length ≤ k → valid p = true → from_ at_ (p ++ q) = from_ at_ p ++ from_ (at_ + p.length) q := by
 intro k
 induction k with
 | zero => intro p q at_ hk _; cases p with
  | nil => simp [from_nil]
  | cons c l => simp at hk
 | succ k ih =>
  intro p q at_ hk hv
  cases p with
  | nil => simp [from_nil]
  | cons c l =>
   obtain ⟨h1, h2⟩ := valid_step hv
   have hn := piece_n c l
   rw [List.cons_append, from_cons, from_cons, ← List.cons_append, app_step h1, piece_app h1, ih _ q _ (by rw [List.length_drop]; omega) h2, List.cons_append, List.length_drop]
   generalize (piece (c :: l)).2.toNat = m at *
   rw [show at_ + m + ((c :: l).length - m) = at_ + (c :: l).length by omega]
theorem from_app {p : List UInt8} (h : valid p = true) (q : List UInt8) (at_ : Nat) : from_ at_ (p ++ q) = from_ at_ p ++ from_ (at_ + p.length) q := from_app_n _ p q at_ (Nat.le_refl _) h
theorem valid_app_n : ∀ (k : Nat) (p q : List UInt8), p.length ≤ k → valid p = true → valid (p ++ q) = valid q := by
 intro k
 induction k with
 | zero => intro p q hk _; cases p with
  | nil => rfl
  | cons c l => simp at hk
 | succ k ih =>
  intro p q hk hv
  cases p with
  | nil => rfl
  | cons c l =>
   obtain ⟨h1, h2⟩ := valid_step hv
   have hn := piece_n c l
   rw [List.cons_append, valid_cons, ← List.cons_append, piece_app h1, if_neg (by omega)]
   have := app_step h1 q
   rw [piece_app h1] at this
   rw [this, ih _ q (by rw [List.length_drop]; omega) h2]
theorem valid_app {p : List UInt8} (h : valid p = true) (q : List UInt8) : valid (p ++ q) = valid q := valid_app_n _ p q (Nat.le_refl _) h
/-- The bytes behind the first of a right piece are none of ASCII. -/
theorem cont_high : ∀ (l : List UInt8) (k : Nat) (r n lo hi : Int), 128 ≤ lo → 0 ≤ (cont l k r n lo hi).1 → ∀ i, i < k → ∃ c, l[i]? = some c ∧ 128 ≤ c.toNat
 | l, 0, _, _, _, _, _, _, i, hi' => by omega
 | [], k + 1, _, _, _, _, _, h, _, _ => by simp [cont] at h
 | c :: l, k + 1, r, n, lo, hi, hlo, h, i, hi' => by
  simp only [cont] at h
  split at h
  ·simp at h
  ·rename_i hb
   cases i with
   | zero => exact ⟨c, rfl, by omega⟩
   | succ i =>
    obtain ⟨d, h1, h2⟩ := cont_high l k _ _ 128 191 (by omega) h i (by omega)
    exact ⟨d, by simpa using h1, h2⟩
theorem piece_high {l : List UInt8} (h : 0 ≤ (piece l).1) (i : Nat) (h1 : 0 < i) (h2 : i < (piece l).2.toNat) : ∃ c, l[i]? = some c ∧ 128 ≤ c.toNat := by
 cases l with
 | nil => simp [piece] at h
 | cons c l =>
  have hb := byte_lt c
  have hc := follow_cases c.toNat (by omega) (by omega)
  rw [piece_cons] at h h2
  by_cases hn : (follow c.toNat).1 < 0
  ·rw [if_pos hn] at h; simp at h
  rw [if_neg hn] at h h2
  have h3 := cont_neg l (follow c.toNat).1.toNat (follow c.toNat).2.1 1 (follow c.toNat).2.2.1 (follow c.toNat).2.2.2 (follow_nonneg c)
  rcases h3 with h3 | ⟨_, h3⟩
  ·omega
  rw [h3] at h2
  cases i with
  | zero => omega
  | succ i =>
   obtain ⟨d, e1, e2⟩ := cont_high l _ _ _ _ _ (by
    rcases hc with hc | hc | hc | hc | hc
    ·have e : follow (c.toNat : Int) = (0, (c.toNat : Int), 128, 191) := by unfold follow; rw [if_pos hc.2.2]
     rw [e]
     exact Int.le_refl 128
    all_goals omega) h i (by omega)
   exact ⟨d, by simpa using e1, e2⟩
/-- A right text that holds an ASCII byte is right ahead of it, and from it on. -/
theorem valid_split_n : ∀ (k : Nat) (p : List UInt8) (c : UInt8) (q : List UInt8), p.length ≤ k → c.toNat < 128 → valid (p ++ c :: q) = true → valid p = true := by
 intro k
 induction k with
 | zero => intro p c q hk _ _; cases p with
  | nil => rfl
  | cons d l => simp at hk
 | succ k ih =>
  intro p c q hk hc hv
  cases p with
  | nil => rfl
  | cons d l =>
   obtain ⟨h1, h2⟩ := valid_step (c := d) (l := l ++ c :: q) hv
   have hn := piece_n d (l ++ c :: q)
   have hle : (piece (d :: (l ++ c :: q))).2.toNat ≤ (d :: l).length := by
    apply Nat.le_of_not_lt
    intro hlt
    obtain ⟨e, e1, e2⟩ := piece_high h1 (d :: l).length (by simp) hlt
    rw [← List.cons_append, List.getElem?_append_right (Nat.le_refl _), Nat.sub_self] at e1
    simp only [List.getElem?_cons_zero, Option.some.injEq] at e1
    subst e1
    omega
   have h3 := piece_take h1 ((d :: l).drop (piece (d :: (l ++ c :: q))).2.toNat)
   rw [← List.cons_append, List.take_append_of_le_length (by rw [List.cons_append]; exact hle), List.cons_append, List.take_append_drop] at h3
   rw [valid_cons, h3, if_neg (by omega)]
   rw [← List.cons_append, List.drop_append_of_le_length (by rw [List.cons_append]; exact hle), List.cons_append] at h2
   exact ih _ c q (by rw [List.length_drop]; omega) hc h2
theorem valid_split {p : List UInt8} {c : UInt8} {q : List UInt8} (hc : c.toNat < 128) (hv : valid (p ++ c :: q) = true) : valid p = true := valid_split_n _ p c q (Nat.le_refl _) hc hv
theorem valid_ascii {c : UInt8} (hc : c.toNat < 128) (q : List UInt8) : valid (c :: q) = valid q := by
 rw [valid_cons, piece_ascii hc, if_neg (by simp)]
 rfl
theorem valid_behind {p : List UInt8} {c : UInt8} {q : List UInt8} (hc : c.toNat < 128) (hv : valid (p ++ c :: q) = true) : valid q = true := by
 rw [valid_app (valid_split hc hv), valid_ascii hc] at hv
 exact hv
theorem from_ascii {c : UInt8} (hc : c.toNat < 128) (q : List UInt8) (at_ : Nat) : from_ at_ (c :: q) = (at_, (c.toNat : Int)) :: from_ (at_ + 1) q := by
 rw [from_cons, piece_ascii hc]
 rfl
/-- Where the first piece stands that is not as asked: all ahead of it is right. -/
theorem stop_split {ok : Nat → Int → Bool} (hok : ∀ k r, r < 0 → ok k r = false) : ∀ (k : Nat) (l : List UInt8) (at_ : Nat), l.length ≤ k → ∃ n, ((((from_ at_ l).find? fun p => !ok p.1 p.2).map (·.1)).getD (at_ + l.length)) = at_ + n ∧ n ≤ l.length ∧
  valid (l.take n) = true ∧ (∀ p ∈ from_ at_ (l.take n), ok p.1 p.2 = true) ∧ (n < l.length → ok (at_ + n) (piece (l.drop n)).1 = false) := by
 intro k
 induction k with
 | zero => intro l at_ hk; cases l with
  | nil => exact ⟨0, rfl, Nat.le_refl _, rfl, (fun p hp => nomatch hp), (fun h => nomatch h)⟩
  | cons c l => simp at hk
 | succ k ih =>
  intro l at_ hk
  cases l with
  | nil => exact ⟨0, rfl, Nat.le_refl _, rfl, (fun p hp => nomatch hp), (fun h => nomatch h)⟩
  | cons c l =>
   have hn := piece_n c l
   rw [from_cons, List.find?_cons]
   dsimp only
   cases ho : ok at_ (piece (c :: l)).1 with
   | false => exact ⟨0, rfl, by simp, rfl, (fun p hp => nomatch hp), (fun _ => by simpa using ho)⟩
   | true =>
    have h0 : 0 ≤ (piece (c :: l)).1 := Int.not_lt.1 fun h => by rw [hok _ _ h] at ho; cases ho
    obtain ⟨n, h1, h2, h3, h4, h5⟩ := ih ((c :: l).drop (piece (c :: l)).2.toNat) (at_ + (piece (c :: l)).2.toNat) (by rw [List.length_drop]; omega)
    generalize hm : (piece (c :: l)).2.toNat = m at *
    rw [List.length_drop] at h1 h2 h5
    have e : at_ + m + ((c :: l).length - m) = at_ + (c :: l).length := by omega
    rw [e] at h1
    have ht : (c :: l).take (m + n) = (c :: l).take m ++ ((c :: l).drop m).take n := List.take_add
    have hp := piece_take h0 []
    rw [hm, List.append_nil] at hp
    obtain ⟨m', rfl⟩ : ∃ m', m = m' + 1 := ⟨m - 1, by omega⟩
    have hv1 : valid ((c :: l).take (m' + 1)) = true := by
     rw [List.take_succ_cons] at hp ⊢
     rw [valid_cons, hp, if_neg (by omega), hm, List.drop_of_length_le (by simp; omega)]
     rfl
    refine ⟨m' + 1 + n, by simp only [Bool.not_true]; rw [h1]; omega, by omega, ?_, ?_, ?_⟩
    ·rw [ht, valid_app hv1, h3]
    ·rw [ht, from_app hv1]
     intro p hp'
     rcases List.mem_append.1 hp' with hp' | hp'
     ·rw [List.take_succ_cons] at hp hp'
      rw [from_cons, hp, hm, List.drop_of_length_le (by simp; omega), from_nil] at hp'
      simp only [List.mem_singleton] at hp'
      have e1 : p.1 = at_ := by rw [hp']
      have e2 : p.2 = (piece (c :: l)).1 := by rw [hp']
      rw [e1, e2]
      exact ho
     ·rw [List.length_take, Nat.min_eq_left hn.2] at hp'
      exact h4 p hp'
    ·intro hlt
     have := h5 (by omega)
     rwa [List.drop_drop, Nat.add_assoc] at this
theorem from_shift_n : ∀ (k : Nat) (l : List UInt8) (at_ d : Nat), l.length ≤ k → from_ (at_ + d) l = (from_ at_ l).map fun p => (p.1 + d, p.2) := by
 intro k
 induction k with
 | zero => intro l at_ d hk; cases l with
  | nil => rfl
  | cons c l => simp at hk
 | succ k ih =>
  intro l at_ d hk
  cases l with
  | nil => rfl
  | cons c l =>
   have hn := piece_n c l
   rw [from_cons, from_cons, List.map_cons, ← ih _ _ _ (by rw [List.length_drop]; omega), Nat.add_right_comm]
theorem from_shift (l : List UInt8) (at_ d : Nat) : from_ (at_ + d) l = (from_ at_ l).map fun p => (p.1 + d, p.2) := from_shift_n _ l at_ d (Nat.le_refl _)
end Utf
namespace Tk
/-- A name, whole. -/
def Name (p : L) : Prop := Utf.valid p = true ∧ ∀ q ∈ Utf.from_ 0 p, nameOk q.1 q.2 = true
theorem within_neg {r a b : Int} (h : r < 0) (ha : 0 ≤ a) : within r a b = false := by
 unfold within
 rw [decide_eq_false (by omega)]
 rfl
theorem firstOk_neg' {r : Int} (h : r < 0) : firstOk r = false := by
 unfold firstOk
 simp only [within_neg h (by decide : (0 : Int) ≤ 97), within_neg h (by decide : (0 : Int) ≤ 65), within_neg h (by decide : (0 : Int) ≤ 95), within_neg h (by decide : (0 : Int) ≤ 192), within_neg h (by decide : (0 : Int) ≤ 216), within_neg h (by decide : (0 : Int) ≤ 248), within_neg h (by decide : (0 : Int) ≤ 880), within_neg h (by decide : (0 : Int) ≤ 895), within_neg h (by decide : (0 : Int) ≤ 8204), within_neg h (by decide : (0 : Int) ≤ 8304), within_neg h (by decide : (0 : Int) ≤ 11264), within_neg h (by decide : (0 : Int) ≤ 12289), within_neg h (by decide : (0 : Int) ≤ 63744), within_neg h (by decide : (0 : Int) ≤ 65008), within_neg h (by decide : (0 : Int) ≤ 65536)]
 rfl
theorem nameOk_neg' (k : Nat) (r : Int) (h : r < 0) : nameOk k r = false := by
 unfold nameOk furtherOk
 rw [firstOk_neg' h]
 simp only [within_neg h (by decide : (0 : Int) ≤ 45), within_neg h (by decide : (0 : Int) ≤ 48), within_neg h (by decide : (0 : Int) ≤ 183), within_neg h (by decide : (0 : Int) ≤ 768), within_neg h (by decide : (0 : Int) ≤ 8255), decide_eq_false (show ¬ r = 58 by omega)]
 simp
theorem charOk_neg' (r : Int) (h : r < 0) : charOk r = false := by
 unfold charOk
 simp only [within_neg h (by decide : (0 : Int) ≤ 9), within_neg h (by decide : (0 : Int) ≤ 13), within_neg h (by decide : (0 : Int) ≤ 32), within_neg h (by decide : (0 : Int) ≤ 57344), within_neg h (by decide : (0 : Int) ≤ 65536)]
 rfl
/-- What stands at the front is a name, and ends where no more can follow. -/
theorem take_spec (l : L) : take l ≤ l.length ∧ Name (l.take (take l)) ∧ (take l < l.length → nameOk (take l) (Utf.piece (l.drop (take l))).1 = false) := by
 obtain ⟨n, h1, h2, h3, h4, h5⟩ := Utf.stop_split nameOk_neg' l.length l 0 (Nat.le_refl _)
 have e : take l = n := by
  unfold take stop
  rw [Nat.zero_add, Nat.zero_add] at h1
  exact h1
 rw [e]
 rw [Nat.zero_add] at h5
 exact ⟨h2, ⟨h3, h4⟩, h5⟩
theorem take_of {p q : L} (h : Name p) (hq : q = [] ∨ nameOk p.length (Utf.piece q).1 = false) : take (p ++ q) = p.length := by
 unfold take stop
 have e : Utf.pieces (p ++ q) = Utf.from_ 0 p ++ Utf.from_ (0 + p.length) q := Utf.from_app h.1 q 0
 have hn : (Utf.from_ 0 p).find? (fun p => !nameOk p.1 p.2) = none := List.find?_eq_none.2 fun x hx => by rw [h.2 x hx]; simp
 rw [e, List.find?_append, hn, Option.none_or, Nat.zero_add]
 rcases hq with rfl | hq
 ·simp [Utf.from_nil]
 ·cases q with
  | nil => simp [Utf.from_nil]
  | cons c q =>
   rw [Utf.from_cons, List.find?_cons]
   dsimp only
   rw [hq]
   rfl
/-- A name's end is told by the byte that stands there, if that is one of ASCII. -/
theorem take_ascii {a r r' : L} {c : UInt8} (h : take (a ++ r) < a.length) (hc : a[take (a ++ r)]? = some c) (h7 : c.toNat < 128) : take (a ++ r') = take (a ++ r) := by
 obtain ⟨h1, h2, h3⟩ := take_spec (a ++ r)
 generalize take (a ++ r) = n at *
 have e : a = a.take n ++ c :: a.drop (n + 1) := by
  obtain ⟨_, e2⟩ := List.getElem?_eq_some_iff.1 hc
  rw [← e2, ← List.drop_eq_getElem_cons, List.take_append_drop]
 have hl : (a.take n).length = n := by rw [List.length_take]; omega
 rw [List.take_append_of_le_length (by omega)] at h2
 have h4 := h3 (by rw [List.length_append]; omega)
 rw [List.drop_append_of_le_length (by omega)] at h4
 have e3 : a.drop n = c :: a.drop (n + 1) := by
  obtain ⟨_, e2⟩ := List.getElem?_eq_some_iff.1 hc
  rw [← e2, ← List.drop_eq_getElem_cons]
 rw [e3, List.cons_append, Utf.piece_ascii h7] at h4
 have := take_of (p := a.take n) (q := c :: (a.drop (n + 1) ++ r')) h2 (.inr (by rw [Utf.piece_ascii h7, hl]; exact h4))
 rw [hl] at this
 rw [← this]
 conv => lhs; rw [e]
 simp
theorem nsp_app {a r r' : L} (h : nsp (a ++ r) < a.length) : nsp (a ++ r') = nsp (a ++ r) := by
 unfold nsp at *
 rw [List.takeWhile_append] at h ⊢
 rw [List.takeWhile_append]
 split at h
 ·rw [List.length_append] at h; omega
 ·rename_i hn
  rw [if_neg hn, if_neg hn]
theorem pfx_app {p a r : L} (h : p.length ≤ a.length) : p.isPrefixOf (a ++ r) = p.isPrefixOf a := by
 rw [Bool.eq_iff_iff, List.isPrefixOf_iff_prefix, List.isPrefixOf_iff_prefix]
 exact ⟨fun hp => List.prefix_of_prefix_length_le hp (List.prefix_append _ _) h, fun hp => hp.trans (List.prefix_append _ _)⟩
theorem index_first' {s p : L} {n : Nat} (h : Lib.index s p = n) : Lib.occAt s p n = true ∧ n ≤ s.length ∧ ∀ j, j < n → Lib.occAt s p j = false := by
 induction s generalizing n with
 | nil =>
  unfold Lib.index at h
  split at h
  ·rename_i he
   have : n = 0 := by omega
   subst this
   refine ⟨?_, Nat.le_refl _, fun j hj => by omega⟩
   cases p with
   | nil => rfl
   | cons a t => cases he
  ·omega
 | cons b l ih =>
  unfold Lib.index at h
  split at h
  ·rename_i he
   have : n = 0 := by omega
   subst this
   exact ⟨by simpa [Lib.occAt] using he, by simp, fun j hj => by omega⟩
  ·rename_i he
   split at h
   ·omega
   ·rename_i he2
    have he2 : Lib.index l p ≠ -1 := by simpa using he2
    have hg := Lib.index_ge l p
    obtain ⟨n', rfl⟩ : ∃ n', n = n' + 1 := ⟨n - 1, by omega⟩
    obtain ⟨h1, h2, h3⟩ := ih (n := n') (by omega)
    refine ⟨by simpa [Lib.occAt] using h1, by simpa using h2, fun j hj => ?_⟩
    cases j with
    | zero => exact Bool.eq_false_iff.2 he
    | succ j => simpa [Lib.occAt] using h3 j (by omega)
theorem till_iff {p l : L} {n : Nat} : till p l = some n ↔ Lib.index l p = n := by
 unfold till
 constructor
 ·intro h
  split at h
  ·cases h
  ·rename_i hn
   have := Option.some.inj h
   omega
 ·intro h
  rw [if_neg (by omega), h]
  simp
theorem occ_app {p a r : L} {i : Nat} (h : i + p.length ≤ a.length) : Lib.occAt (a ++ r) p i = Lib.occAt a p i := by
 unfold Lib.occAt
 rw [List.drop_append_of_le_length (by omega), pfx_app (by rw [List.length_drop]; omega)]
theorem till_app {p a r r' : L} {n : Nat} (h : till p (a ++ r) = some n) (hn : n + p.length ≤ a.length) : till p (a ++ r') = some n := by
 rw [till_iff] at h ⊢
 obtain ⟨h1, h2, h3⟩ := index_first' h
 refine Lib.index_first (by rw [List.length_append]; omega) ?_ fun j hj => ?_
 ·rw [occ_app hn] at h1 ⊢; exact h1
 ·have := h3 j hj
  rw [occ_app (by omega)] at this ⊢
  exact this
theorem till_len {p l : L} {n : Nat} (h : till p l = some n) : n + p.length ≤ l.length := by
 rw [till_iff] at h
 obtain ⟨h1, h2, h3⟩ := index_first' h
 rcases Lib.occAt_room h1 with h4 | rfl
 ·exact h4
 ·simpa using h2
end Tk
end Go.Proofs.YtbbpkcddifmieaaGreatDoor
namespace Go.Proofs.YtbbpkcddifmieaaGreatDoor
open Go.RowKit Tk

/-- Where the first such piece stands, from byte k on; -1: nowhere. -/
def tillAt (l q : L) (k : Nat) : Int := match Tk.till q (l.drop k) with
 | some n => ((k + n : Nat) : Int)
 | none => -1
theorem tillAt_here {l q : L} {k : Nat} (h : q.isPrefixOf (l.drop k) = true) : tillAt l q k = k := by
 have : Tk.till q (l.drop k) = some 0 := by
  rw [till_iff]
  exact Lib.index_first (Nat.zero_le _) (by unfold Lib.occAt; rw [List.drop_zero]; exact h) fun j hj => by omega
 unfold tillAt
 rw [this]
 rfl
theorem tillAt_next {l q : L} {k : Nat} (hk : k < l.length) (h : q.isPrefixOf (l.drop k) = false) : tillAt l q k = tillAt l q (k + 1) := by
 obtain ⟨b, hb⟩ : ∃ b, l[k]? = some b := ⟨_, List.getElem?_eq_getElem hk⟩
 have e : l.drop k = b :: l.drop (k + 1) := by
  obtain ⟨h1, h2⟩ := List.getElem?_eq_some_iff.1 hb
  rw [← h2, ← List.drop_eq_getElem_cons]
 have hi : Lib.index (l.drop k) q = if Lib.index (l.drop (k + 1)) q == -1 then -1 else Lib.index (l.drop (k + 1)) q + 1 := by
  rw [e] at h ⊢
  conv => lhs; unfold Lib.index
  rw [if_neg (by rw [h]; simp)]
 have hg := Lib.index_ge (l.drop (k + 1)) q
 unfold tillAt Tk.till
 rw [hi]
 by_cases hn : Lib.index (l.drop (k + 1)) q = -1
 ·rw [hn]; rfl
 ·have : (Lib.index (l.drop (k + 1)) q == -1) = false := beq_eq_false_iff_ne.2 hn
  have h2 : (if (Lib.index (l.drop (k + 1)) q == -1) = true then -1 else Lib.index (l.drop (k + 1)) q + 1) = Lib.index (l.drop (k + 1)) q + 1 := by rw [if_neg (by rw [this]; simp)]
  rw [h2, if_neg (by omega), if_neg (by omega)]
  dsimp only
  omega
theorem tillAt_no {l q : L} {k : Nat} (hq : q ≠ []) (h : l.length < k + q.length) : tillAt l q k = -1 := by
 unfold tillAt
 cases ht : Tk.till q (l.drop k) with
 | none => rfl
 | some n =>
  have := till_len ht
  rw [List.length_drop] at this
  have := List.length_pos_iff.2 hq
  omega

set_option maxHeartbeats 4000000 in
theorem refTill_any (s q : ByteArray) (at_ : Nat) (w : World) (ha : at_ ≤ s.size) (hs : s.size ≤ 140737488355328) (hq : q.size ≤ 1000) (hq0 : 0 < q.size) :
  Calls Tryz.prog 120 #[.string s, .int .i64 (at_ : Int), .string q] w fun e w' => e = .returned (.int .i64 (tillAt s.data.toList q.data.toList at_)) ∧ w' = w := by
 obtain ⟨D, hD⟩ : ∃ D, s.data.toList = D := ⟨_, rfl⟩
 obtain ⟨Q, hQ⟩ : ∃ Q, q.data.toList = Q := ⟨_, rfl⟩
 have HDl := hide (show D.length = s.size by rw [← hD, size_list])
 have HQl := hide (show Q.length = q.size by rw [← hQ, size_list])
 have HQ0 := hide (show Q ≠ [] from fun e => by have := HQl.out; rw [e] at this; simp at this; omega)
 have HE := hide (show ∀ k, k + q.size ≤ s.size → ((s.extract k (k + q.size)).toList == q.toList) = Q.isPrefixOf (D.drop k) from fun k hk => by
  rw [ByteArray.toList_eq, ByteArray.toList_eq, extract_bstr, bstr_list, hD, hQ, Nat.add_sub_cancel_left, ← HQl.out, Bool.eq_iff_iff, beq_iff_eq, List.isPrefixOf_iff_prefix, List.prefix_iff_eq_take]
  exact eq_comm)
 rw [hD, hQ]
 obtain ⟨z, hz⟩ : ∃ z, tillAt D Q at_ = z := ⟨_, rfl⟩
 have Hz := hide hz
 rw [hz]
 clear hD hQ hz
 go_enter Tryz.func120, Tryz.ntmps120
 go_wp2
 go_loopg [7] (s.size + 1 - at_) (fun g v wr => ∃ k : Nat, g = s.size + 1 - k ∧ k ≤ s.size ∧ v = .int .i64 (k : Int) ∧ tillAt D Q k = z ∧ wr = w)
 case atStart => exact ⟨at_, rfl, ha, rfl, Hz.out, rfl⟩
 case round =>
  obtain ⟨k, hg, hk, rfl, hzk, rfl⟩ := hrel
  have Hg := hide hg
  have Hzk := hide hzk
  clear hg hzk Hz
  have hw : IntKind.i64.wrap ((k : Int) + (q.size : Int)) = (k : Int) + (q.size : Int) := IntWalk.i64_in _ (by omega)
  by_cases hlt : k + q.size ≤ s.size
  ·have hd : decide ((k : Int) + (q.size : Int) ≤ (s.size : Int)) = true := decide_eq_true (by omega)
   have hb1 : 0 ≤ (k : Int) ∧ (k : Int) ≤ (k : Int) + (q.size : Int) ∧ (k : Int) + (q.size : Int) ≤ (s.size : Int) := by omega
   have tn : ((k : Int) + (q.size : Int)).toNat = k + q.size := by omega
   have hE := HE.out k hlt
   cases hp : Q.isPrefixOf (D.drop k) with
   | true =>
    rw [hp] at hE
    have Hr := hide (show (k : Int) = z by rw [← Hzk.out, tillAt_here hp])
    clear hp
    go_wp2
    go_ret
    exact ⟨ret_eq1 (int_eq Hr.out), rfl⟩
   | false =>
    rw [hp] at hE
    have Hn := hide (show tillAt D Q (k + 1) = z by rw [← Hzk.out, tillAt_next (by rw [HDl.out]; omega) hp])
    clear hp
    go_wp2
    go_roundg (s.size + 1 - (k + 1))
    case measure => have := Hg.out; omega
    case rel => exact ⟨k + 1, rfl, by omega, by go_num, Hn.out, rfl⟩
  ·have hd : decide ((k : Int) + (q.size : Int) ≤ (s.size : Int)) = false := decide_eq_false (by omega)
   have Hr := hide (show (-1 : Int) = z by rw [← Hzk.out, tillAt_no HQ0.out (by rw [HDl.out, HQl.out]; omega)])
   go_wp2
   go_ret
   exact ⟨ret_eq1 (int_eq Hr.out), rfl⟩
end Go.Proofs.YtbbpkcddifmieaaGreatDoor
