/- Tokens: the scan's small methods, walked. (Printed by wip/genTkA.py.) · Tokens: the scan's name, value. (Printed by wip/genTkG.py.) · References in plain data: what a reference names, the text that a text with references stands for; no program in sight. -/
import Derived.Test.YtaickkaoglohgaaGreatDoorBw01
import Derived.Test.YtaickkaoglohgaaGreatDoorBw03
import Derived.Test.YtaickkaoglohgaaGreatDoorShelf
set_option linter.unusedSimpArgs false
set_option linter.unusedVariables false
namespace Go.Proofs.YtaickkaoglohgaaGreatDoor
section
open Go.RowKit Tk

def Sc (w : World) (X : Nat) (s : ByteArray) (k : Nat) : Prop := Blk w X 109 #[.string s, .int .i64 (k : Int)]
theorem Sc.c0 {w : World} {X : Nat} {s : ByteArray} {k : Nat} (h : Sc w X s k) : w.cell? ⟨X, 0, none⟩ = some (.string s) := Blk.cell h 0
theorem Sc.c1 {w : World} {X : Nat} {s : ByteArray} {k : Nat} (h : Sc w X s k) : w.cell? ⟨X, 1, none⟩ = some (.int .i64 (k : Int)) := Blk.cell h 1
theorem Sc.f1 {w : World} {X : Nat} {s : ByteArray} {k : Nat} (h : Sc w X s k) : w.frozen? ⟨X, 1, none⟩ = false := Blk.frozen h 1
theorem Sc.move {w : World} {X : Nat} {s : ByteArray} {k : Nat} (h : Sc w X s k) (j : Nat) : Sc (w.setCell ⟨X, 1, none⟩ (.int .i64 (j : Int))) X s j := by
 have := Blk.set_ h 1 (.int .i64 (j : Int))
 simpa [Sc] using this
theorem idx_run (s : ByteArray) (k : Nat) (c : UInt8) (h : s.data.toList[k]? = some c) (w : World) : (Instr.index 9 (.string s) (.int .i64 (k : Int))).run Tryz.prog w = .ok (.int .u8 (c.toNat : Nat)) w := by
 obtain ⟨hk, hc⟩ := List.getElem?_eq_some_iff.1 h;rw [size_list] at hk;have hc' : s[k] = c := hc;go_simp
theorem nsp_at (l : L) (j : Nat) (h : j < nsp l) : ∃ c, l[j]? = some c ∧ sp c = true := by
 induction l generalizing j with
 | nil => simp [nsp] at h
 | cons c l ih =>
  unfold nsp at h;rw [List.takeWhile_cons] at h
  split at h
  ·rename_i hc
   cases j with
   | zero => exact ⟨c, rfl, hc⟩
   | succ j => exact ih j (by simpa [nsp] using h)
  simp at h
theorem nsp_end (l : L) : l.length = nsp l ∨ ∃ c, l[nsp l]? = some c ∧ sp c = false := by
 induction l with
 | nil => left; rfl
 | cons c l ih =>
  unfold nsp;rw [List.takeWhile_cons];split
  ·rcases ih with h | ⟨d, h1, h2⟩
   ·left; simpa [nsp] using h
   right; exact ⟨d, by simpa [nsp] using h1, h2⟩
  rename_i hc
  right
  exact ⟨c, rfl, by simpa using hc⟩
theorem nsp_le (l : L) : nsp l ≤ l.length := by
 unfold nsp;exact (List.takeWhile_sublist sp).length_le

set_option maxHeartbeats 8000000 in
theorem blanks_any (w : World) (X : Nat) (s : ByteArray) (at_ : Nat) (hX : Sc w X s at_) (ha : at_ ≤ s.size) (hs : s.size ≤ 1000000000) :
  Calls Tryz.prog 85 #[.pointer (some ⟨X, 0, none⟩)] w fun e w' => e = .returned (.bool (decide (0 < nsp (s.data.toList.drop at_)))) ∧ Sc w' X s (at_ + nsp (s.data.toList.drop at_)) ∧ But X w w' := by
 obtain ⟨N, hN⟩ : ∃ N, nsp (s.data.toList.drop at_) = N := ⟨_, rfl⟩
 have HL := hide (show at_ + N ≤ s.size from by
  have := nsp_le (s.data.toList.drop at_);rw [List.length_drop, size_list, hN] at this
  omega)
 have HI := hide fun j (hj : j < N) => (show ∃ c, s.data.toList[at_ + j]? = some c ∧ sp c = true from by
  obtain ⟨c, h1, h2⟩ := nsp_at (s.data.toList.drop at_) j (by rw [hN]; exact hj);exact ⟨c, by rwa [List.getElem?_drop] at h1, h2⟩)
 have HE := hide (show s.size = at_ + N ∨ ∃ c, s.data.toList[at_ + N]? = some c ∧ sp c = false from by
  rcases nsp_end (s.data.toList.drop at_) with h | ⟨c, h1, h2⟩
  ·left
   rw [List.length_drop, size_list, hN] at h;omega
  right
  rw [hN] at h1;exact ⟨c, by rwa [List.getElem?_drop] at h1, h2⟩)
 rw [hN];have q0 : w.cell? ⟨X, 0, none⟩ = some (.string s) := Blk.cell hX 0;have q1 : w.cell? ⟨X, 1, none⟩ = some (.int .i64 (at_ : Int)) := Blk.cell hX 1;have HX := hide hX;clear hX hN
 go_enter Tryz.func85, Tryz.ntmps85
 go_wp2;clear q0 q1
 go_loopg [] N (fun g wr => ∃ k : Nat, g = at_ + N - k ∧ at_ ≤ k ∧ k ≤ at_ + N ∧ Sc wr X s k ∧ But X w wr)
 case atStart => exact ⟨at_, by omega, by omega, by omega, HX.out, But.refl _ _⟩
 case round =>
  obtain ⟨k, hg, hk0, hk1, hK, hB⟩ := hrel;have Hg := hide hg;have HK := hide hK;have HB := hide hB;have hk2 : k ≤ s.size := by have := HL.out; omega
  clear hg hK hB
  by_cases hlt : k < at_ + N
  ·obtain ⟨c, hc, hsp⟩ := HI.out (k - at_) (by omega);rw [show at_ + (k - at_) = k by omega] at hc;have hks : k < s.size := by have := HL.out; omega
   have HSP := hide (space_any c);rw [hsp] at HSP;have hix := idx_run s k c hc;clear hc hsp;go_wp2;refine wp_region_held_drew (S := fun W => Sc W X s k ∧ But X w W) (by kernel_rfl) ?_ (fun hHeld => ?_)
   ·(try dsimp only)
    first | exact ⟨Blk.drew HK.out, But.drew HB.out⟩ | exact ⟨Blk.go hHeld.1 hb, But.go hHeld.2 hb⟩ | exact hHeld
   change wpAnyH _ _ _ _ _ 22 #[false, false, false, false, false, false, false, false, false, false, false, false, false, false, false, false, false, false, false, false, false, false] _ _;iterate 3 (refine nxT (v := ?_) rfl rfl hHeld ?_ ?_; rotate_left; (· (intro w hSw; (try dsimp only at hSw); go_simp; try with_reducible rfl)); (try simp only [nx, List.set]))
   (refine nxT (v := ?_) rfl rfl hHeld ?_ ?_; rotate_left; (· (intro w hSw; (try dsimp only at hSw); have q0 := Sc.c0 hSw.1; have q1 := Sc.c1 hSw.1; go_simp; try with_reducible rfl)); (try simp only [nx, List.set]));iterate 3 (refine nxT (v := ?_) rfl rfl hHeld ?_ ?_; rotate_left; (· (intro w hSw; (try dsimp only at hSw); go_simp; try with_reducible rfl)); (try simp only [nx, List.set]))
   (refine nxT (v := ?_) rfl rfl hHeld ?_ ?_; rotate_left; (· (intro w hSw; (try dsimp only at hSw); have q0 := Sc.c0 hSw.1; have q1 := Sc.c1 hSw.1; go_simp; try with_reducible rfl)); (try simp only [nx, List.set]));iterate 6 (refine nxT (v := ?_) rfl rfl hHeld ?_ ?_; rotate_left; (· (intro w hSw; (try dsimp only at hSw); go_simp; try with_reducible rfl)); (try simp only [nx, List.set]))
   (refine nxT (v := ?_) rfl rfl hHeld ?_ ?_; rotate_left; (· (intro w hSw; (try dsimp only at hSw); have q0 := Sc.c0 hSw.1; have q1 := Sc.c1 hSw.1; go_simp; try with_reducible rfl)); (try simp only [nx, List.set]));iterate 3 (refine nxT (v := ?_) rfl rfl hHeld ?_ ?_; rotate_left; (· (intro w hSw; (try dsimp only at hSw); go_simp; try with_reducible rfl)); (try simp only [nx, List.set]))
   (refine nxT (v := ?_) rfl rfl hHeld ?_ ?_; rotate_left; (· (intro w hSw; (try dsimp only at hSw); have q0 := Sc.c0 hSw.1; have q1 := Sc.c1 hSw.1; go_simp; try with_reducible rfl)); (try simp only [nx, List.set]));(refine nxT (v := ?_) rfl rfl hHeld ?_ ?_; rotate_left; (· (intro w hSw; (try dsimp only at hSw); go_simp; try with_reducible rfl)); (try simp only [nx, List.set]));refine held_call (i := 20) rfl (by kernel_rfl) (by kernel_rfl) (fun K hK => ?_);go_simp
   go_at_call 90
   refine (HSP.out _).mono ?_;rintro e w' ⟨rfl, rfl⟩;(try dsimp only);refine hK.out _ _ ?_ (fun hHeld' => ?_)
   ·(try dsimp only)
    first | exact ⟨Blk.drew HK.out, But.drew HB.out⟩ | exact ⟨Blk.go hHeld.1 hb, But.go hHeld.2 hb⟩ | exact hHeld
   clear hK K hHeld;have hHeld := hHeld';clear hHeld';(try simp only [Act.put, List.setIfInBounds_toArray, List.set_cons_zero, List.set_cons_succ]);(refine nxT (v := ?_) rfl rfl hHeld ?_ ?_; rotate_left; (· (intro w hSw; (try dsimp only at hSw); go_simp; try with_reducible rfl)); (try simp only [nx, List.set]));refine wpAnyH_done (by kernel_rfl) ?_ _;have K1 := hide hHeld.1;have B1 := hide hHeld.2;have q1 := Sc.c1 hHeld.1;have f1 := Sc.f1 hHeld.1;clear hHeld;go_wp2
   go_roundg (at_ + N - (k + 1))
   case measure => have := Hg.out; omega
   case rel => exact ⟨k + 1, by omega, by omega, by omega, Sc.move K1.out (k + 1), B1.out.setCell (.inl rfl) _⟩
  have hke : k = at_ + N := by omega
  rcases HE.out with he | ⟨c, hc, hsp⟩
  ·have hks : ¬ k < s.size := by omega
   have HKE := hide hke;clear hke he hlt;go_wp2;refine wp_region_held_drew (S := fun W => Sc W X s k ∧ But X w W) (by kernel_rfl) ?_ (fun hHeld => ?_)
   ·(try dsimp only)
    first | exact ⟨Blk.drew HK.out, But.drew HB.out⟩ | exact ⟨Blk.go hHeld.1 hb, But.go hHeld.2 hb⟩ | exact hHeld
   change wpAnyH _ _ _ _ _ 22 #[false, false, false, false, false, false, false, false, false, false, false, false, false, false, false, false, false, false, false, false, false, false] _ _;iterate 3 (refine nxT (v := ?_) rfl rfl hHeld ?_ ?_; rotate_left; (· (intro w hSw; (try dsimp only at hSw); go_simp; try with_reducible rfl)); (try simp only [nx, List.set]))
   (refine nxT (v := ?_) rfl rfl hHeld ?_ ?_; rotate_left; (· (intro w hSw; (try dsimp only at hSw); have q0 := Sc.c0 hSw.1; have q1 := Sc.c1 hSw.1; go_simp; try with_reducible rfl)); (try simp only [nx, List.set]));iterate 3 (refine nxT (v := ?_) rfl rfl hHeld ?_ ?_; rotate_left; (· (intro w hSw; (try dsimp only at hSw); go_simp; try with_reducible rfl)); (try simp only [nx, List.set]))
   (refine nxT (v := ?_) rfl rfl hHeld ?_ ?_; rotate_left; (· (intro w hSw; (try dsimp only at hSw); have q0 := Sc.c0 hSw.1; have q1 := Sc.c1 hSw.1; go_simp; try with_reducible rfl)); (try simp only [nx, List.set]));iterate 3 (refine nxT (v := ?_) rfl rfl hHeld ?_ ?_; rotate_left; (· (intro w hSw; (try dsimp only at hSw); go_simp; try with_reducible rfl)); (try simp only [nx, List.set]))
   iterate 10 (refine nxK rfl rfl hHeld ?_; (try simp only [nx, List.set]))
   (refine nxT (v := ?_) rfl rfl hHeld ?_ ?_; rotate_left; (· (intro w hSw; (try dsimp only at hSw); go_simp; try with_reducible rfl)); (try simp only [nx, List.set]));refine wpAnyH_done (by kernel_rfl) ?_ _;have K1 := hide hHeld.1;have B1 := hide hHeld.2;have q1 := Sc.c1 hHeld.1;clear hHeld;go_wp2;go_ret;exact ⟨ret_eq1 (bool_eq (by rw [HKE.out]; simp)), by rw [← HKE.out]; exact K1.out, B1.out⟩
  rw [← hke] at hc
  have hks : k < s.size := by
   have := (List.getElem?_eq_some_iff.1 hc).1;rwa [size_list] at this
  have HSP := hide (space_any c);rw [hsp] at HSP;have hix := idx_run s k c hc;have HKE := hide hke;clear hc hsp hke hlt;go_wp2;refine wp_region_held_drew (S := fun W => Sc W X s k ∧ But X w W) (by kernel_rfl) ?_ (fun hHeld => ?_)
  ·(try dsimp only)
   first | exact ⟨Blk.drew HK.out, But.drew HB.out⟩ | exact ⟨Blk.go hHeld.1 hb, But.go hHeld.2 hb⟩ | exact hHeld
  change wpAnyH _ _ _ _ _ 22 #[false, false, false, false, false, false, false, false, false, false, false, false, false, false, false, false, false, false, false, false, false, false] _ _;iterate 3 (refine nxT (v := ?_) rfl rfl hHeld ?_ ?_; rotate_left; (· (intro w hSw; (try dsimp only at hSw); go_simp; try with_reducible rfl)); (try simp only [nx, List.set]))
  (refine nxT (v := ?_) rfl rfl hHeld ?_ ?_; rotate_left; (· (intro w hSw; (try dsimp only at hSw); have q0 := Sc.c0 hSw.1; have q1 := Sc.c1 hSw.1; go_simp; try with_reducible rfl)); (try simp only [nx, List.set]));iterate 3 (refine nxT (v := ?_) rfl rfl hHeld ?_ ?_; rotate_left; (· (intro w hSw; (try dsimp only at hSw); go_simp; try with_reducible rfl)); (try simp only [nx, List.set]))
  (refine nxT (v := ?_) rfl rfl hHeld ?_ ?_; rotate_left; (· (intro w hSw; (try dsimp only at hSw); have q0 := Sc.c0 hSw.1; have q1 := Sc.c1 hSw.1; go_simp; try with_reducible rfl)); (try simp only [nx, List.set]));iterate 6 (refine nxT (v := ?_) rfl rfl hHeld ?_ ?_; rotate_left; (· (intro w hSw; (try dsimp only at hSw); go_simp; try with_reducible rfl)); (try simp only [nx, List.set]))
  (refine nxT (v := ?_) rfl rfl hHeld ?_ ?_; rotate_left; (· (intro w hSw; (try dsimp only at hSw); have q0 := Sc.c0 hSw.1; have q1 := Sc.c1 hSw.1; go_simp; try with_reducible rfl)); (try simp only [nx, List.set]));iterate 3 (refine nxT (v := ?_) rfl rfl hHeld ?_ ?_; rotate_left; (· (intro w hSw; (try dsimp only at hSw); go_simp; try with_reducible rfl)); (try simp only [nx, List.set]))
  (refine nxT (v := ?_) rfl rfl hHeld ?_ ?_; rotate_left; (· (intro w hSw; (try dsimp only at hSw); have q0 := Sc.c0 hSw.1; have q1 := Sc.c1 hSw.1; go_simp; try with_reducible rfl)); (try simp only [nx, List.set]));(refine nxT (v := ?_) rfl rfl hHeld ?_ ?_; rotate_left; (· (intro w hSw; (try dsimp only at hSw); go_simp; try with_reducible rfl)); (try simp only [nx, List.set]));refine held_call (i := 20) rfl (by kernel_rfl) (by kernel_rfl) (fun K hK => ?_);go_simp
  go_at_call 90
  refine (HSP.out _).mono ?_;rintro e w' ⟨rfl, rfl⟩;(try dsimp only);refine hK.out _ _ ?_ (fun hHeld' => ?_)
  ·(try dsimp only)
   first | exact ⟨Blk.drew HK.out, But.drew HB.out⟩ | exact ⟨Blk.go hHeld.1 hb, But.go hHeld.2 hb⟩ | exact hHeld
  clear hK K hHeld;have hHeld := hHeld';clear hHeld';(try simp only [Act.put, List.setIfInBounds_toArray, List.set_cons_zero, List.set_cons_succ]);(refine nxT (v := ?_) rfl rfl hHeld ?_ ?_; rotate_left; (· (intro w hSw; (try dsimp only at hSw); go_simp; try with_reducible rfl)); (try simp only [nx, List.set]));refine wpAnyH_done (by kernel_rfl) ?_ _;have K1 := hide hHeld.1;have B1 := hide hHeld.2;have q1 := Sc.c1 hHeld.1;clear hHeld;go_wp2;go_ret;exact ⟨ret_eq1 (bool_eq (by rw [HKE.out]; simp)), by rw [← HKE.out]; exact K1.out, B1.out⟩

set_option maxHeartbeats 8000000 in
theorem isp_any (w : World) (X : Nat) (s q : ByteArray) (k : Nat) (hX : Sc w X s k) (ha : k ≤ s.size) (hs : s.size ≤ 1000000000) (hq : q.size ≤ 1000) :
  Calls Tryz.prog 86 #[.pointer (some ⟨X, 0, none⟩), .string q] w fun e w' => e = .returned (.bool (q.data.toList.isPrefixOf (s.data.toList.drop k))) ∧ Sc w' X s (if q.data.toList.isPrefixOf (s.data.toList.drop k) = true then k + q.size else k) ∧ But X w w' := by
 have HP := hide (show ∀ W, Calls Tryz.prog 36 #[.string (s.extract k s.size), .string q] W fun e w' => e = .returned (.bool (q.data.toList.isPrefixOf (s.data.toList.drop k))) ∧ w' = W from fun W => by
  have h := Tryz.strings_HasPrefix (s.extract k s.size) q W;rw [extract_end, bstr_list] at h;rw [extract_end];exact h)
 generalize q.data.toList.isPrefixOf (s.data.toList.drop k) = b at *
 have HK := hide hX;have HB := hide (But.refl X w);have hns : ¬ s.size < k := by omega
 clear hX
 go_enter Tryz.func86, Tryz.ntmps86
 go_wp2;refine wp_region_held_drew (S := fun W => Sc W X s k ∧ But X w W) (by kernel_rfl) ?_ (fun hHeld => ?_)
 ·(try dsimp only)
  first | exact ⟨Blk.drew HK.out, But.drew HB.out⟩ | exact ⟨Blk.go hHeld.1 hb, But.go hHeld.2 hb⟩ | exact hHeld
 change wpAnyH _ _ _ _ _ 12 #[false, false, false, false, false, false, false, false, false, false, false, false] _ _;iterate 3 (refine nxT (v := ?_) rfl rfl hHeld ?_ ?_; rotate_left; (· (intro w hSw; (try dsimp only at hSw); go_simp; try with_reducible rfl)); (try simp only [nx, List.set]))
 (refine nxT (v := ?_) rfl rfl hHeld ?_ ?_; rotate_left; (· (intro w hSw; (try dsimp only at hSw); have q0 := Sc.c0 hSw.1; have q1 := Sc.c1 hSw.1; go_simp; try with_reducible rfl)); (try simp only [nx, List.set]));iterate 3 (refine nxT (v := ?_) rfl rfl hHeld ?_ ?_; rotate_left; (· (intro w hSw; (try dsimp only at hSw); go_simp; try with_reducible rfl)); (try simp only [nx, List.set]))
 (refine nxT (v := ?_) rfl rfl hHeld ?_ ?_; rotate_left; (· (intro w hSw; (try dsimp only at hSw); have q0 := Sc.c0 hSw.1; have q1 := Sc.c1 hSw.1; go_simp; try with_reducible rfl)); (try simp only [nx, List.set]));iterate 2 (refine nxT (v := ?_) rfl rfl hHeld ?_ ?_; rotate_left; (· (intro w hSw; (try dsimp only at hSw); go_simp; try with_reducible rfl)); (try simp only [nx, List.set]))
 refine held_call (i := 10) rfl (by kernel_rfl) (by kernel_rfl) (fun K hK => ?_);go_simp
 go_at_call 36
 refine (HP.out _).mono ?_;rintro e w' ⟨rfl, rfl⟩;(try dsimp only);refine hK.out _ _ ?_ (fun hHeld' => ?_)
 ·(try dsimp only)
  first | exact ⟨Blk.drew HK.out, But.drew HB.out⟩ | exact ⟨Blk.go hHeld.1 hb, But.go hHeld.2 hb⟩ | exact hHeld
 clear hK K hHeld;have hHeld := hHeld';clear hHeld';(try simp only [Act.put, List.setIfInBounds_toArray, List.set_cons_zero, List.set_cons_succ]);(refine nxT (v := ?_) rfl rfl hHeld ?_ ?_; rotate_left; (· (intro w hSw; (try dsimp only at hSw); go_simp; try with_reducible rfl)); (try simp only [nx, List.set]));refine wpAnyH_done (by kernel_rfl) ?_ _;have K1 := hide hHeld.1;have B1 := hide hHeld.2;have q1 := Sc.c1 hHeld.1;have f1 := Sc.f1 hHeld.1;clear hHeld
 cases b with
 | true =>
  go_wp2;go_ret;exact ⟨rfl, Blk.drew (Sc.move HK.out (k + q.size)), ((But.refl X w).setCell (.inl rfl) _).drew⟩
 | false =>
  go_wp2;go_ret;exact ⟨rfl, K1.out, B1.out⟩

theorem lt_of_cell {w : World} {a : Addr} {v : Value} (h : w.cell? a = some v) : a.block < w.heap.size := by
 by_cases hb : a.block < w.heap.size
 ·exact hb
 exfalso
 have hn : w.heap[a.block]? = none := Array.getElem?_eq_none (by omega);unfold World.cell? at h;simp [hn] at h
structure Gm (w : World) : Prop where
 most : ∃ m, w.cell? ⟨0, 0, none⟩ = some (.int .i64 m)
theorem Gm.keep {w w' : World} (h : Gm w) (hk : ∀ g i v, g < 6 → w.cell? ⟨g, i, none⟩ = some v → w'.cell? ⟨g, i, none⟩ = some v) : Gm w' :=
 ⟨by obtain ⟨m, hm⟩ := h.most; exact ⟨m, hk _ _ _ (by decide) hm⟩⟩
theorem Gm.below {w w' : World} (h : Gm w) (hb : Below w.heap.size w w') : Gm w' := h.keep fun g i v _ hv => (hb.cell (lt_of_cell hv)).trans hv
structure Gl (w : World) : Prop where
 most : ∃ m, w.cell? ⟨0, 0, none⟩ = some (.int .i64 m)
 fold : ∀ p ∈ ([(120, 88), (88, 120), (109, 77), (77, 109), (108, 76), (76, 108)] : List (Nat × Int)), w.cell? ⟨1, p.1, none⟩ = some (.int .u16 p.2)
theorem Gl.m {w : World} (h : Gl w) : Gm w := ⟨h.most⟩
theorem Gl.keep {w w' : World} (h : Gl w) (hk : ∀ g i v, g < 6 → w.cell? ⟨g, i, none⟩ = some v → w'.cell? ⟨g, i, none⟩ = some v) : Gl w' :=
 ⟨by obtain ⟨m, hm⟩ := h.most; exact ⟨m, hk _ _ _ (by decide) hm⟩, fun p hp => hk _ _ _ (by decide) (h.fold p hp)⟩
theorem Gl.below {w w' : World} (h : Gl w) (hb : Below w.heap.size w w') : Gl w' := h.keep fun g i v _ hv => (hb.cell (lt_of_cell hv)).trans hv
theorem Gl.but {w w' : World} {X : Nat} (h : Gl w) (hb : But X w w') (hX : 6 ≤ X) : Gl w' := h.keep fun g i v hg hv =>
 (World.cell?_of_block (a := ⟨g, i, none⟩) (hb.block g (lt_of_cell hv) (by omega))).trans hv
theorem till_runm (s q : ByteArray) (w : World) (hg : Gm w) (hs : s.size ≤ 1000000000) :
  Calls Tryz.prog 49 #[.string s, .string q] w fun e w' => e = .returned (.int .i64 (Lib.index s.data.toList q.data.toList)) ∧ w' = w := by
 obtain ⟨m, hm⟩ := hg.most;exact Tryz.strings_Index s q m w (by omega) hm
theorem till_run (s q : ByteArray) (w : World) (hg : Gl w) (hs : s.size ≤ 1000000000) :
  Calls Tryz.prog 49 #[.string s, .string q] w fun e w' => e = .returned (.int .i64 (Lib.index s.data.toList q.data.toList)) ∧ w' = w := till_runm s q w hg.m hs

theorem index_fits {s q : L} (h : 0 ≤ Lib.index s q) : Lib.index s q + q.length ≤ s.length := by
 induction s with
 | nil =>
  unfold Lib.index at h ⊢
  cases q with
  | nil => simp
  | cons a q => simp at h
 | cons c l ih =>
  unfold Lib.index at h ⊢;split
  ·rename_i hp
   have := List.IsPrefix.length_le (List.isPrefixOf_iff_prefix.1 hp);simp at this ⊢;omega
  rename_i hp
  rw [if_neg hp] at h;split
  ·rename_i h1
   rw [if_pos h1] at h;omega
  rename_i h1
  rw [if_neg h1] at h;have h2 := Lib.index_ge l q;have h3 : Lib.index l q ≠ -1 := by simpa using h1
  have := ih (by omega);simp;omega

theorem till_some {q d : L} {n : Nat} (h : till q d = some n) : Lib.index d q = n ∧ n + q.length ≤ d.length := by
 unfold till at h
 split at h
 ·cases h
 rename_i hb
 have := index_fits (s := d) (q := q) (by omega);simp only [Option.some.injEq] at h;omega
theorem till_none {q d : L} (h : till q d = none) : Lib.index d q < 0 := by
 unfold till at h
 split at h
 ·assumption
 cases h

set_option maxHeartbeats 8000000 in
theorem till_no (w : World) (X : Nat) (s q : ByteArray) (k : Nat) (h : till q.data.toList (s.data.toList.drop k) = none) (hX : Sc w X s k) (hX6 : 6 ≤ X) (hg : Gl w) (ha : k ≤ s.size) (hs : s.size ≤ 1000000000) (hq : q.size ≤ 1000) :
  Calls Tryz.prog 89 #[.pointer (some ⟨X, 0, none⟩), .string q] w fun e w' => e = .returned (.tuple #[.string ⟨#[]⟩, .bool false]) ∧ Sc w' X s k ∧ But X w w' := by
 have HP := hide (show ∀ W, Gl W → Calls Tryz.prog 49 #[.string (s.extract k s.size), .string q] W fun e w' => e = .returned (.int .i64 (Lib.index (s.data.toList.drop k) q.data.toList)) ∧ w' = W from fun W hW => by
  have h := till_run (s.extract k s.size) q W hW (by rw [ByteArray.size_extract]; omega);rw [extract_end, bstr_list] at h;rw [extract_end];exact h)
 have hb := till_none h;generalize Lib.index (s.data.toList.drop k) q.data.toList = b at *
 clear h;have HK := hide hX;have HB := hide (But.refl X w);have HGl := hide hg;have hns : ¬ s.size < k := by omega
 clear hX hg
 go_enter Tryz.func89, Tryz.ntmps89
 go_wp2;refine wp_region_held_drew (S := fun W => Sc W X s k ∧ But X w W) (by kernel_rfl) ?_ (fun hHeld => ?_)
 ·(try dsimp only)
  first | exact ⟨Blk.drew HK.out, But.drew HB.out⟩ | exact ⟨Blk.go hHeld.1 hb, But.go hHeld.2 hb⟩ | exact hHeld
 change wpAnyH _ _ _ _ _ 12 #[false, false, false, false, false, false, false, false, false, false, false, false] _ _;iterate 3 (refine nxT (v := ?_) rfl rfl hHeld ?_ ?_; rotate_left; (· (intro w hSw; (try dsimp only at hSw); go_simp; try with_reducible rfl)); (try simp only [nx, List.set]))
 (refine nxT (v := ?_) rfl rfl hHeld ?_ ?_; rotate_left; (· (intro w hSw; (try dsimp only at hSw); have q0 := Sc.c0 hSw.1; have q1 := Sc.c1 hSw.1; go_simp; try with_reducible rfl)); (try simp only [nx, List.set]));iterate 3 (refine nxT (v := ?_) rfl rfl hHeld ?_ ?_; rotate_left; (· (intro w hSw; (try dsimp only at hSw); go_simp; try with_reducible rfl)); (try simp only [nx, List.set]))
 (refine nxT (v := ?_) rfl rfl hHeld ?_ ?_; rotate_left; (· (intro w hSw; (try dsimp only at hSw); have q0 := Sc.c0 hSw.1; have q1 := Sc.c1 hSw.1; go_simp; try with_reducible rfl)); (try simp only [nx, List.set]));iterate 2 (refine nxT (v := ?_) rfl rfl hHeld ?_ ?_; rotate_left; (· (intro w hSw; (try dsimp only at hSw); go_simp; try with_reducible rfl)); (try simp only [nx, List.set]))
 refine held_call (i := 10) rfl (by kernel_rfl) (by kernel_rfl) (fun K hK => ?_);go_simp
 go_at_call 49
 refine (HP.out _ (HGl.out.but hHeld.2 hX6)).mono ?_;rintro e w' ⟨rfl, rfl⟩;(try dsimp only);refine hK.out _ _ ?_ (fun hHeld' => ?_)
 ·(try dsimp only)
  first | exact ⟨Blk.drew HK.out, But.drew HB.out⟩ | exact ⟨Blk.go hHeld.1 hb, But.go hHeld.2 hb⟩ | exact hHeld
 clear hK K hHeld;have hHeld := hHeld';clear hHeld';(try simp only [Act.put, List.setIfInBounds_toArray, List.set_cons_zero, List.set_cons_succ]);(refine nxT (v := ?_) rfl rfl hHeld ?_ ?_; rotate_left; (· (intro w hSw; (try dsimp only at hSw); go_simp; try with_reducible rfl)); (try simp only [nx, List.set]));refine wpAnyH_done (by kernel_rfl) ?_ _;go_wp2;go_ret2;exact ⟨rfl, hHeld.1, hHeld.2⟩

set_option maxHeartbeats 8000000 in
theorem till_yes (w : World) (X : Nat) (s q : ByteArray) (k : Nat) (n : Nat) (h : till q.data.toList (s.data.toList.drop k) = some n) (hX : Sc w X s k) (hX6 : 6 ≤ X) (hg : Gl w) (ha : k ≤ s.size) (hs : s.size ≤ 1000000000) (hq : q.size ≤ 1000) :
  Calls Tryz.prog 89 #[.pointer (some ⟨X, 0, none⟩), .string q] w fun e w' => e = .returned (.tuple #[.string (s.extract k (k + n)), .bool true]) ∧ Sc w' X s (k + n + q.size) ∧ But X w w' := by
 have HP := hide (show ∀ W, Gl W → Calls Tryz.prog 49 #[.string (s.extract k s.size), .string q] W fun e w' => e = .returned (.int .i64 (Lib.index (s.data.toList.drop k) q.data.toList)) ∧ w' = W from fun W hW => by
  have h := till_run (s.extract k s.size) q W hW (by rw [ByteArray.size_extract]; omega);rw [extract_end, bstr_list] at h;rw [extract_end];exact h)
 obtain ⟨hb, hn⟩ := till_some h;rw [hb] at HP;rw [List.length_drop, size_list, size_list] at hn;clear h hb;have HK := hide hX;have HB := hide (But.refl X w);have HGl := hide hg;have hns : ¬ s.size < k := by omega
 clear hX hg
 go_enter Tryz.func89, Tryz.ntmps89
 go_wp2;refine wp_region_held_drew (S := fun W => Sc W X s k ∧ But X w W) (by kernel_rfl) ?_ (fun hHeld => ?_)
 ·(try dsimp only)
  first | exact ⟨Blk.drew HK.out, But.drew HB.out⟩ | exact ⟨Blk.go hHeld.1 hb, But.go hHeld.2 hb⟩ | exact hHeld
 change wpAnyH _ _ _ _ _ 12 #[false, false, false, false, false, false, false, false, false, false, false, false] _ _;iterate 3 (refine nxT (v := ?_) rfl rfl hHeld ?_ ?_; rotate_left; (· (intro w hSw; (try dsimp only at hSw); go_simp; try with_reducible rfl)); (try simp only [nx, List.set]))
 (refine nxT (v := ?_) rfl rfl hHeld ?_ ?_; rotate_left; (· (intro w hSw; (try dsimp only at hSw); have q0 := Sc.c0 hSw.1; have q1 := Sc.c1 hSw.1; go_simp; try with_reducible rfl)); (try simp only [nx, List.set]));iterate 3 (refine nxT (v := ?_) rfl rfl hHeld ?_ ?_; rotate_left; (· (intro w hSw; (try dsimp only at hSw); go_simp; try with_reducible rfl)); (try simp only [nx, List.set]))
 (refine nxT (v := ?_) rfl rfl hHeld ?_ ?_; rotate_left; (· (intro w hSw; (try dsimp only at hSw); have q0 := Sc.c0 hSw.1; have q1 := Sc.c1 hSw.1; go_simp; try with_reducible rfl)); (try simp only [nx, List.set]));iterate 2 (refine nxT (v := ?_) rfl rfl hHeld ?_ ?_; rotate_left; (· (intro w hSw; (try dsimp only at hSw); go_simp; try with_reducible rfl)); (try simp only [nx, List.set]))
 refine held_call (i := 10) rfl (by kernel_rfl) (by kernel_rfl) (fun K hK => ?_);go_simp
 go_at_call 49
 refine (HP.out _ (HGl.out.but hHeld.2 hX6)).mono ?_;rintro e w' ⟨rfl, rfl⟩;(try dsimp only);refine hK.out _ _ ?_ (fun hHeld' => ?_)
 ·(try dsimp only)
  first | exact ⟨Blk.drew HK.out, But.drew HB.out⟩ | exact ⟨Blk.go hHeld.1 hb, But.go hHeld.2 hb⟩ | exact hHeld
 clear hK K hHeld;have hHeld := hHeld';clear hHeld';(try simp only [Act.put, List.setIfInBounds_toArray, List.set_cons_zero, List.set_cons_succ]);(refine nxT (v := ?_) rfl rfl hHeld ?_ ?_; rotate_left; (· (intro w hSw; (try dsimp only at hSw); go_simp; try with_reducible rfl)); (try simp only [nx, List.set]));refine wpAnyH_done (by kernel_rfl) ?_ _;have HK2 := hide hHeld.1;have HB2 := hide hHeld.2;clear hHeld HP HK HB;have h0 : ¬ ((n : Int) < 0) := by omega
 have h1 : k + n ≤ s.size := by omega
 have h2 : ¬ s.size < k + n := by omega
 have hw : IntKind.i64.wrap ((k : Int) + n) = (k : Int) + n := IntWalk.i64_in _ (by omega);have h4 : (0 : Int) ≤ (k : Int) + n ∧ (k : Int) + n ≤ (s.size : Int) := by omega
 have h5 : (k : Int) ≤ (k : Int) + n := by omega
 have h6 : ((k : Int) + n).toNat = k + n := by omega
 go_wp2;refine wp_region_held_drew (S := fun W => Sc W X s k ∧ But X w W) (by kernel_rfl) ?_ (fun hHeld => ?_)
 ·(try dsimp only)
  first | exact ⟨Blk.drew HK2.out, But.drew HB2.out⟩ | exact ⟨Blk.go hHeld.1 hb, But.go hHeld.2 hb⟩ | exact hHeld
 change wpAnyH _ _ _ _ _ 16 #[false, false, false, false, false, false, false, false, false, false, false, false, false, false, false, false] _ _;iterate 3 (refine nxT (v := ?_) rfl rfl hHeld ?_ ?_; rotate_left; (· (intro w hSw; (try dsimp only at hSw); go_simp; try with_reducible rfl)); (try simp only [nx, List.set]))
 (refine nxT (v := ?_) rfl rfl hHeld ?_ ?_; rotate_left; (· (intro w hSw; (try dsimp only at hSw); have q0 := Sc.c0 hSw.1; have q1 := Sc.c1 hSw.1; go_simp; try with_reducible rfl)); (try simp only [nx, List.set]));iterate 3 (refine nxT (v := ?_) rfl rfl hHeld ?_ ?_; rotate_left; (· (intro w hSw; (try dsimp only at hSw); go_simp; try with_reducible rfl)); (try simp only [nx, List.set]))
 (refine nxT (v := ?_) rfl rfl hHeld ?_ ?_; rotate_left; (· (intro w hSw; (try dsimp only at hSw); have q0 := Sc.c0 hSw.1; have q1 := Sc.c1 hSw.1; go_simp; try with_reducible rfl)); (try simp only [nx, List.set]));iterate 3 (refine nxT (v := ?_) rfl rfl hHeld ?_ ?_; rotate_left; (· (intro w hSw; (try dsimp only at hSw); go_simp; try with_reducible rfl)); (try simp only [nx, List.set]))
 (refine nxT (v := ?_) rfl rfl hHeld ?_ ?_; rotate_left; (· (intro w hSw; (try dsimp only at hSw); have q0 := Sc.c0 hSw.1; have q1 := Sc.c1 hSw.1; go_simp; try with_reducible rfl)); (try simp only [nx, List.set]));iterate 4 (refine nxT (v := ?_) rfl rfl hHeld ?_ ?_; rotate_left; (· (intro w hSw; (try dsimp only at hSw); go_simp; try with_reducible rfl)); (try simp only [nx, List.set]))
 refine wpAnyH_done (by kernel_rfl) ?_ _;have K1 := hide hHeld.1;have B1 := hide hHeld.2;have q1 := Sc.c1 hHeld.1;have f1 := Sc.f1 hHeld.1;clear hHeld;go_wp2;go_ret2;exact ⟨rfl, by rw [Nat.add_assoc]; exact Sc.move K1.out (k + (n + q.size)), B1.out.setCell (.inl rfl) _⟩
end
section
open Go.RowKit Tk

theorem piecesN_lt : ∀ (n k : Nat) (l : L), l.length ≤ n → ∀ p ∈ Utf.piecesN n k l, p.1 < k + l.length
 | _, _, [], _, p, hp => by unfold Utf.piecesN at hp; cases hp
 | 0, _, c :: l, h, _, _ => absurd h (by simp)
 | n + 1, k, c :: l, h, p, hp => by
  unfold Utf.piecesN at hp;have hl := Utf.piece_len c l
  rcases List.mem_cons.1 hp with rfl | hp
  ·simp
  have := piecesN_lt n _ _ (by rw [List.length_drop]; simp at h ⊢; omega) p hp;rw [List.length_drop] at this;simp at this hl ⊢;omega
theorem pieces_lt (l : L) (p : Nat × Int) (hp : p ∈ Utf.pieces l) : p.1 < l.length := by
 have := piecesN_lt l.length 0 l (Nat.le_refl _) p hp;omega
theorem take_le (l : L) : take l ≤ l.length := by
 unfold take stop
 cases h : (Utf.pieces l).find? fun p => !nameOk p.1 p.2 with
 | none => simp
 | some x =>
  have hm := List.mem_of_find?_eq_some h;simp only [Option.map_some, Option.getD_some];exact Nat.le_of_lt (pieces_lt l x hm)

set_option maxHeartbeats 8000000 in
theorem name_any (w : World) (X : Nat) (s : ByteArray) (k : Nat) (hX : Sc w X s k) (ha : k ≤ s.size) (hs : s.size ≤ 1000000000) :
  Calls Tryz.prog 84 #[.pointer (some ⟨X, 0, none⟩)] w fun e w' => e = .returned (.string (s.extract k (k + take (s.data.toList.drop k)))) ∧ Sc w' X s (k + take (s.data.toList.drop k)) ∧ But X w w' := by
 have HP := hide (show ∀ W, Calls Tryz.prog 37 #[.string (s.extract k s.size)] W fun e w' => e = .returned (.int .i64 (take (s.data.toList.drop k) : Nat)) ∧ Below W.heap.size W w' from fun W => by
  have h := take_any (s.extract k s.size) W (by rw [ByteArray.size_extract]; omega);rw [extract_end, bstr_list] at h;rw [extract_end];exact h)
 have hn : take (s.data.toList.drop k) ≤ s.size - k := by
  have := take_le (s.data.toList.drop k);rwa [List.length_drop, size_list] at this
 generalize take (s.data.toList.drop k) = n at *
 have HK := hide hX;have HB := hide (But.refl X w);have hns : ¬ s.size < k := by omega
 clear hX
 go_enter Tryz.func84, Tryz.ntmps84
 go_wp2;refine wp_region_held_drew (S := fun W => Sc W X s (k) ∧ But X w W) (by kernel_rfl) ?_ (fun hHeld => ?_)
 ·(try dsimp only)
  first | exact ⟨Blk.drew HK.out, But.drew HB.out⟩ | exact ⟨Blk.go hHeld.1 hb, But.go hHeld.2 hb⟩ | exact hHeld
 change wpAnyH _ _ _ _ _ 11 #[false, false, false, false, false, false, false, false, false, false, false] _ _;iterate 3 (refine nxT (v := ?_) rfl rfl hHeld ?_ ?_; rotate_left; (· (intro w hSw; (try dsimp only at hSw); go_simp; try with_reducible rfl)); (try simp only [nx, List.set]))
 (refine nxT (v := ?_) rfl rfl hHeld ?_ ?_; rotate_left; (· (intro w hSw; (try dsimp only at hSw); have q0 := Sc.c0 hSw.1; have q1 := Sc.c1 hSw.1; go_simp; try with_reducible rfl)); (try simp only [nx, List.set]));iterate 3 (refine nxT (v := ?_) rfl rfl hHeld ?_ ?_; rotate_left; (· (intro w hSw; (try dsimp only at hSw); go_simp; try with_reducible rfl)); (try simp only [nx, List.set]))
 (refine nxT (v := ?_) rfl rfl hHeld ?_ ?_; rotate_left; (· (intro w hSw; (try dsimp only at hSw); have q0 := Sc.c0 hSw.1; have q1 := Sc.c1 hSw.1; go_simp; try with_reducible rfl)); (try simp only [nx, List.set]));(refine nxT (v := ?_) rfl rfl hHeld ?_ ?_; rotate_left; (· (intro w hSw; (try dsimp only at hSw); go_simp; try with_reducible rfl)); (try simp only [nx, List.set]));refine held_call (i := 9) rfl (by kernel_rfl) (by kernel_rfl) (fun K hK => ?_);go_simp
 go_at_call 37
 refine (HP.out _).mono ?_;rintro e w' ⟨rfl, hb⟩;(try dsimp only);refine hK.out _ _ ?_ (fun hHeld' => ?_)
 ·(try dsimp only)
  first | exact ⟨Blk.drew HK.out, But.drew HB.out⟩ | exact ⟨Blk.go hHeld.1 hb, But.go hHeld.2 hb⟩ | exact hHeld
 clear hK K hHeld;have hHeld := hHeld';clear hHeld';(try simp only [Act.put, List.setIfInBounds_toArray, List.set_cons_zero, List.set_cons_succ]);(refine nxT (v := ?_) rfl rfl hHeld ?_ ?_; rotate_left; (· (intro w hSw; (try dsimp only at hSw); go_simp; try with_reducible rfl)); (try simp only [nx, List.set]));refine wpAnyH_done (by kernel_rfl) ?_ _;have K1 := hide hHeld.1;have B1 := hide hHeld.2;have q1 := Sc.c1 hHeld.1;have f1 := Sc.f1 hHeld.1;clear hHeld HP HK HB;have hw0 : IntKind.i64.wrap ((k : Int) + n) = (k : Int) + n := IntWalk.i64_in _ (by omega);have hw1 : IntKind.i64.wrap ((k : Int) + n - n) = (k : Int) := by rw [show (k : Int) + n - n = k by omega]; exact IntWalk.i64_in _ (by omega)
 have hw2 : IntKind.i64.wrap (k : Int) = (k : Int) := IntWalk.i64_in _ (by omega);have h4 : (0 : Int) ≤ (k : Int) + n ∧ (k : Int) + n ≤ (s.size : Int) := by omega
 have h5 : (k : Int) ≤ (k : Int) + n := by omega
 have h6 : ((k : Int) + n).toNat = k + n := by omega
 have h7 : (0 : Int) ≤ (k : Int) := by omega
 go_wp2;have K2 := hide (Sc.move K1.out (k + n));have B2 := hide (B1.out.setCell (p := ⟨X, 1, none⟩) (.inl rfl) (.int .i64 ((k + n : Nat) : Int)));clear q1 f1 K1 B1;refine wp_region_held_drew (S := fun W => Sc W X s (k + n) ∧ But X w W) (by kernel_rfl) ?_ (fun hHeld => ?_)
 ·(try dsimp only)
  first | exact ⟨Blk.drew K2.out, But.drew B2.out⟩ | exact ⟨Blk.go hHeld.1 hb, But.go hHeld.2 hb⟩ | exact hHeld
 change wpAnyH _ _ _ _ _ 16 #[false, false, false, false, false, false, false, false, false, false, false, false, false, false, false, false] _ _;iterate 3 (refine nxT (v := ?_) rfl rfl hHeld ?_ ?_; rotate_left; (· (intro w hSw; (try dsimp only at hSw); go_simp; try with_reducible rfl)); (try simp only [nx, List.set]))
 (refine nxT (v := ?_) rfl rfl hHeld ?_ ?_; rotate_left; (· (intro w hSw; (try dsimp only at hSw); have q0 := Sc.c0 hSw.1; have q1 := Sc.c1 hSw.1; go_simp; try with_reducible rfl)); (try simp only [nx, List.set]));iterate 3 (refine nxT (v := ?_) rfl rfl hHeld ?_ ?_; rotate_left; (· (intro w hSw; (try dsimp only at hSw); go_simp; try with_reducible rfl)); (try simp only [nx, List.set]))
 (refine nxT (v := ?_) rfl rfl hHeld ?_ ?_; rotate_left; (· (intro w hSw; (try dsimp only at hSw); have q0 := Sc.c0 hSw.1; have q1 := Sc.c1 hSw.1; go_simp; try with_reducible rfl)); (try simp only [nx, List.set]));iterate 5 (refine nxT (v := ?_) rfl rfl hHeld ?_ ?_; rotate_left; (· (intro w hSw; (try dsimp only at hSw); go_simp; try with_reducible rfl)); (try simp only [nx, List.set]))
 (refine nxT (v := ?_) rfl rfl hHeld ?_ ?_; rotate_left; (· (intro w hSw; (try dsimp only at hSw); have q0 := Sc.c0 hSw.1; have q1 := Sc.c1 hSw.1; go_simp; try with_reducible rfl)); (try simp only [nx, List.set]));iterate 2 (refine nxT (v := ?_) rfl rfl hHeld ?_ ?_; rotate_left; (· (intro w hSw; (try dsimp only at hSw); go_simp; try with_reducible rfl)); (try simp only [nx, List.set]))
 refine wpAnyH_done (by kernel_rfl) ?_ _;go_wp2;go_ret;exact ⟨rfl, hHeld.1, hHeld.2⟩
end
section
open Go Tk
namespace Sx
def ends : L → Option Nat
 | [] => none
 | c :: r => if c = 59 then some 0 else if c = 38 ∨ c = 60 then none else (ends r).map (· + 1)
def worth (c : UInt8) : Nat := if 48 ≤ c.toNat ∧ c.toNat ≤ 57 then c.toNat - 48 else if 97 ≤ c.toNat ∧ c.toNat ≤ 102 then c.toNat - 87 else if 65 ≤ c.toNat ∧ c.toNat ≤ 70 then c.toNat - 55 else 16
def numVal (base : Nat) : Nat → L → Option Nat
 | v, [] => some v
 | v, c :: r => if base ≤ worth c then none else numVal base (v * base + worth c) r
def chk (v : Nat) : Option Nat := if charOk v then some v else none
def number (s : L) : Option (Option Nat) :=
 if s.head? = some 35 then
  if s.tail.head? = some 120 then if s.tail.tail = [] then none else (numVal 16 0 s.tail.tail).map chk
  else if s.tail = [] then none else (numVal 10 0 s.tail).map chk
 else none
def sLt : L := [108, 116]
def sGt : L := [103, 116]
def sAmp : L := [97, 109, 112]
def sApos : L := [97, 112, 111, 115]
def sQuot : L := [113, 117, 111, 116]
def named (s : L) : Option Nat := if s = sLt then some 60 else if s = sGt then some 62 else if s = sAmp then some 38 else if s = sApos then some 39 else if s = sQuot then some 34 else none
def scalar (s : L) : Option Nat := match number s with
 | some (some v) => some v
 | _ => named s
theorem ends_le : ∀ {s : L} {n : Nat}, ends s = some n → n < s.length
 | [], n, h => by cases h
 | c :: r, n, h => by
  unfold ends at h
  by_cases h1 : c = 59
  ·rw [if_pos h1] at h; cases h; simp
  rw [if_neg h1] at h
  by_cases h2 : c = 38 ∨ c = 60
  ·rw [if_pos h2] at h; cases h
  rw [if_neg h2] at h
  cases he : ends r with
  | none => rw [he] at h; cases h
  | some m =>
   rw [he] at h;simp only [Option.map_some, Option.some.injEq] at h;have := ends_le he;simp only [List.length_cons];omega
end Sx
end
end Go.Proofs.YtaickkaoglohgaaGreatDoor
