/- The document's bytes of a record. (Printed by wip/genRecU.py.) -/
import Derived.Test.YtlkkmgimjjnhjaaMA14
set_option linter.unusedSimpArgs false
set_option linter.unusedVariables false
namespace Go.Proofs.Ytlkkmgimjjnhjaa
open Go.RowKit Rec
attribute [local go_sem ↓] Go.wp_at_zero Go.wp_at_succ

/-- What a call of the document's bytes leaves. -/
def RB (w : World) (F : List UInt8) (e : Ending) (w' : World) : Prop := (∃ A' c', e = .returned (.slice A' F.length c') ∧ Sl w' w.heap.size F A' c') ∧ ∀ b, Tur w.heap.size 5 b w w'
theorem RB.mk {w w' : World} {F : List UInt8} {A' : Option Addr} {c' : Nat} {v : Value} (hv : v = .slice A' F.length c') (h : Sl w' w.heap.size F A' c') (ht : ∀ b, Tur w.heap.size 5 b w w') : RB w F (.returned v) w' := by
  subst hv; exact ⟨⟨A', c', rfl, h⟩, ht⟩


set_option maxHeartbeats 2000000 in
theorem rbytes_6 (r : Rcd) (A2 A3 : Option Addr) (c2 c3 : Nat) (w : World) (hk : r.kind = 6) (hr : RcdAt w w.heap.size r A2 A3) :
    Calls Try.prog 31 #[.agg (rcdCells r A2 c2 A3 c3)] w (RB w (Rec.bytes r)) := by
  obtain ⟨k, g, u, i, b, l, s, m⟩ := r
  dsimp only at hk
  subst hk
  unfold rcdCells
  dsimp only
  have HR := hide hr
  obtain ⟨F, hF⟩ : ∃ F, Rec.bytes ⟨6, g, u, i, b, l, s, m⟩ = F := ⟨_, rfl⟩
  rw [hF]
  have HF := hide hF
  have hu : IntKind.u8.wrap 6 = 6 := by decide
  have k0 := (Blk.new w 28 #[.int .i8 6, .int .i64 g, .string u, .string i, .bool b, .slice A2 l.length c2, .string s, .slice A3 m.length c3]).alloc (.cells #[.int .u8 6] 5)
  have W1 := hide (show Sl ((w.alloc (.cells #[.int .i8 6, .int .i64 g, .string u, .string i, .bool b, .slice A2 l.length c2, .string s, .slice A3 m.length c3] 28)).alloc (.cells #[.int .u8 6] 5)) w.heap.size (kb 6) (some ⟨w.heap.size + 1, 0, none⟩) 1 from
    ⟨own_bytes1 (w.alloc (.cells #[.int .i8 6, .int .i64 g, .string u, .string i, .bool b, .slice A2 l.length c2, .string s, .slice A3 m.length c3] 28)) 5 w.heap.size (w.heap.size + 1) (by simp) (by omega) 6 (by omega), by simp; omega, by simp [kb]⟩)
  have T1 := hide fun q => ((Tur.refl w.heap.size 5 q w).alloc (.cells #[.int .i8 6, .int .i64 g, .string u, .string i, .bool b, .slice A2 l.length c2, .string s, .slice A3 m.length c3] 28)).alloc (.cells #[.int .u8 6] 5)
  have K0 := hide k0
  clear hr hF k0
  go_enter Try.func31, Try.ntmps31
  go_wp2_with fail
  go_ret
  have e := HF.out
  have hb : Rec.bytes ⟨6, g, u, i, b, l, s, m⟩ = kb 6 := rfl
  rw [hb] at e
  subst e
  exact RB.mk (by first | rfl | (rw [List.length_append]; rfl)) W1.out T1.out

set_option maxHeartbeats 2000000 in
theorem rbytes_0 (r : Rcd) (A2 A3 : Option Addr) (c2 c3 : Nat) (w : World) (hk : r.kind = 0) (hr : RcdAt w w.heap.size r A2 A3) :
    Calls Try.prog 31 #[.agg (rcdCells r A2 c2 A3 c3)] w (RB w (Rec.bytes r)) := by
  obtain ⟨k, g, u, i, b, l, s, m⟩ := r
  dsimp only at hk
  subst hk
  obtain ⟨n, rfl⟩ : ∃ n : Nat, g = (n : Int) := ⟨g.toNat, by have := hr.gen.1; simp at this; omega⟩
  have hn : n < 1000000000000 := by have := hr.gen.2; simp at this; omega
  unfold rcdCells
  dsimp only
  have HR := hide hr
  obtain ⟨F, hF⟩ : ∃ F, Rec.bytes ⟨0, n, u, i, b, l, s, m⟩ = F := ⟨_, rfl⟩
  rw [hF]
  have HF := hide hF
  have hu : IntKind.u8.wrap 0 = 0 := by decide
  have k0 := (Blk.new w 28 #[.int .i8 0, .int .i64 n, .string u, .string i, .bool b, .slice A2 l.length c2, .string s, .slice A3 m.length c3]).alloc (.cells #[.int .u8 0] 5)
  have W1 := hide (show Sl ((w.alloc (.cells #[.int .i8 0, .int .i64 n, .string u, .string i, .bool b, .slice A2 l.length c2, .string s, .slice A3 m.length c3] 28)).alloc (.cells #[.int .u8 0] 5)) w.heap.size (kb 0) (some ⟨w.heap.size + 1, 0, none⟩) 1 from
    ⟨own_bytes1 (w.alloc (.cells #[.int .i8 0, .int .i64 n, .string u, .string i, .bool b, .slice A2 l.length c2, .string s, .slice A3 m.length c3] 28)) 5 w.heap.size (w.heap.size + 1) (by simp) (by omega) 0 (by omega), by simp; omega, by simp [kb]⟩)
  have T1 := hide fun q => ((Tur.refl w.heap.size 5 q w).alloc (.cells #[.int .i8 0, .int .i64 n, .string u, .string i, .bool b, .slice A2 l.length c2, .string s, .slice A3 m.length c3] 28)).alloc (.cells #[.int .u8 0] 5)
  have K0 := hide k0
  clear hr hF k0
  go_enter Try.func31, Try.ntmps31
  go_wp2_with fail
  refine (rnumber_any n _ w.heap.size (kb 0) _ 1 W1.out (by simp [kb]) hn).mono ?_
  rintro e w2 ⟨⟨E2, d2, rfl, hW⟩, ht⟩
  have W2 := hide hW
  have T2 := hide fun q => (T1.out q).trans (ht q)
  clear hW ht
  go_wp2
  go_ret
  have e := HF.out
  have hb : Rec.bytes ⟨0, n, u, i, b, l, s, m⟩ = kb 0 ++ num n := rfl
  rw [hb] at e
  subst e
  exact RB.mk (by first | rfl | (rw [List.length_append]; rfl)) W2.out T2.out

set_option maxHeartbeats 2000000 in
theorem rbytes_1 (r : Rcd) (A2 A3 : Option Addr) (c2 c3 : Nat) (w : World) (hk : r.kind = 1) (hr : RcdAt w w.heap.size r A2 A3) :
    Calls Try.prog 31 #[.agg (rcdCells r A2 c2 A3 c3)] w (RB w (Rec.bytes r)) := by
  obtain ⟨k, g, u, i, b, l, s, m⟩ := r
  dsimp only at hk
  subst hk
  unfold rcdCells
  dsimp only
  have HR := hide hr
  obtain ⟨F, hF⟩ : ∃ F, Rec.bytes ⟨1, g, u, i, b, l, s, m⟩ = F := ⟨_, rfl⟩
  rw [hF]
  have HF := hide hF
  have hu : IntKind.u8.wrap 1 = 1 := by decide
  have k0 := (Blk.new w 28 #[.int .i8 1, .int .i64 g, .string u, .string i, .bool b, .slice A2 l.length c2, .string s, .slice A3 m.length c3]).alloc (.cells #[.int .u8 1] 5)
  have W1 := hide (show Sl ((w.alloc (.cells #[.int .i8 1, .int .i64 g, .string u, .string i, .bool b, .slice A2 l.length c2, .string s, .slice A3 m.length c3] 28)).alloc (.cells #[.int .u8 1] 5)) w.heap.size (kb 1) (some ⟨w.heap.size + 1, 0, none⟩) 1 from
    ⟨own_bytes1 (w.alloc (.cells #[.int .i8 1, .int .i64 g, .string u, .string i, .bool b, .slice A2 l.length c2, .string s, .slice A3 m.length c3] 28)) 5 w.heap.size (w.heap.size + 1) (by simp) (by omega) 1 (by omega), by simp; omega, by simp [kb]⟩)
  have T1 := hide fun q => ((Tur.refl w.heap.size 5 q w).alloc (.cells #[.int .i8 1, .int .i64 g, .string u, .string i, .bool b, .slice A2 l.length c2, .string s, .slice A3 m.length c3] 28)).alloc (.cells #[.int .u8 1] 5)
  have K0 := hide k0
  clear hr hF k0
  go_enter Try.func31, Try.ntmps31
  go_wp2_with fail
  have hu' : u.size ≤ 10000000 := Nat.le_trans HR.out.su (by omega)
  refine (rtext_any u _ w.heap.size (kb 1) _ 1 W1.out (by simp [kb]) hu').mono ?_
  rintro e w2 ⟨⟨E2, d2, rfl, hW⟩, ht⟩
  have W2 := hide hW
  have T2 := hide fun q => (T1.out q).trans (ht q)
  clear hW ht
  go_wp2
  go_ret
  have e := HF.out
  have hb : Rec.bytes ⟨1, g, u, i, b, l, s, m⟩ = kb 1 ++ text u := rfl
  rw [hb] at e
  subst e
  exact RB.mk (by first | rfl | (rw [List.length_append]; rfl)) W2.out T2.out

set_option maxHeartbeats 2000000 in
theorem rbytes_2 (r : Rcd) (A2 A3 : Option Addr) (c2 c3 : Nat) (w : World) (hk : r.kind = 2) (hr : RcdAt w w.heap.size r A2 A3) :
    Calls Try.prog 31 #[.agg (rcdCells r A2 c2 A3 c3)] w (RB w (Rec.bytes r)) := by
  obtain ⟨k, g, u, i, b, l, s, m⟩ := r
  dsimp only at hk
  subst hk
  unfold rcdCells
  dsimp only
  have HR := hide hr
  obtain ⟨F, hF⟩ : ∃ F, Rec.bytes ⟨2, g, u, i, b, l, s, m⟩ = F := ⟨_, rfl⟩
  rw [hF]
  have HF := hide hF
  have hu : IntKind.u8.wrap 2 = 2 := by decide
  have k0 := (Blk.new w 28 #[.int .i8 2, .int .i64 g, .string u, .string i, .bool b, .slice A2 l.length c2, .string s, .slice A3 m.length c3]).alloc (.cells #[.int .u8 2] 5)
  have W1 := hide (show Sl ((w.alloc (.cells #[.int .i8 2, .int .i64 g, .string u, .string i, .bool b, .slice A2 l.length c2, .string s, .slice A3 m.length c3] 28)).alloc (.cells #[.int .u8 2] 5)) w.heap.size (kb 2) (some ⟨w.heap.size + 1, 0, none⟩) 1 from
    ⟨own_bytes1 (w.alloc (.cells #[.int .i8 2, .int .i64 g, .string u, .string i, .bool b, .slice A2 l.length c2, .string s, .slice A3 m.length c3] 28)) 5 w.heap.size (w.heap.size + 1) (by simp) (by omega) 2 (by omega), by simp; omega, by simp [kb]⟩)
  have T1 := hide fun q => ((Tur.refl w.heap.size 5 q w).alloc (.cells #[.int .i8 2, .int .i64 g, .string u, .string i, .bool b, .slice A2 l.length c2, .string s, .slice A3 m.length c3] 28)).alloc (.cells #[.int .u8 2] 5)
  have K0 := hide k0
  clear hr hF k0
  go_enter Try.func31, Try.ntmps31
  go_wp2_with fail
  have hu' : u.size ≤ 10000000 := Nat.le_trans HR.out.su (by omega)
  refine (rtext_any u _ w.heap.size (kb 2) _ 1 W1.out (by simp [kb]) hu').mono ?_
  rintro e w2 ⟨⟨E2, d2, rfl, hW⟩, ht⟩
  have W2 := hide hW
  have T2 := hide fun q => (T1.out q).trans (ht q)
  clear hW ht
  go_wp2
  go_ret
  have e := HF.out
  have hb : Rec.bytes ⟨2, g, u, i, b, l, s, m⟩ = kb 2 ++ text u := rfl
  rw [hb] at e
  subst e
  exact RB.mk (by first | rfl | (rw [List.length_append]; rfl)) W2.out T2.out

set_option maxHeartbeats 2000000 in
theorem rbytes_4 (r : Rcd) (A2 A3 : Option Addr) (c2 c3 : Nat) (w : World) (hk : r.kind = 4) (hr : RcdAt w w.heap.size r A2 A3) :
    Calls Try.prog 31 #[.agg (rcdCells r A2 c2 A3 c3)] w (RB w (Rec.bytes r)) := by
  obtain ⟨k, g, u, i, b, l, s, m⟩ := r
  dsimp only at hk
  subst hk
  unfold rcdCells
  dsimp only
  have HR := hide hr
  obtain ⟨F, hF⟩ : ∃ F, Rec.bytes ⟨4, g, u, i, b, l, s, m⟩ = F := ⟨_, rfl⟩
  rw [hF]
  have HF := hide hF
  have hu : IntKind.u8.wrap 4 = 4 := by decide
  have k0 := (Blk.new w 28 #[.int .i8 4, .int .i64 g, .string u, .string i, .bool b, .slice A2 l.length c2, .string s, .slice A3 m.length c3]).alloc (.cells #[.int .u8 4] 5)
  have W1 := hide (show Sl ((w.alloc (.cells #[.int .i8 4, .int .i64 g, .string u, .string i, .bool b, .slice A2 l.length c2, .string s, .slice A3 m.length c3] 28)).alloc (.cells #[.int .u8 4] 5)) w.heap.size (kb 4) (some ⟨w.heap.size + 1, 0, none⟩) 1 from
    ⟨own_bytes1 (w.alloc (.cells #[.int .i8 4, .int .i64 g, .string u, .string i, .bool b, .slice A2 l.length c2, .string s, .slice A3 m.length c3] 28)) 5 w.heap.size (w.heap.size + 1) (by simp) (by omega) 4 (by omega), by simp; omega, by simp [kb]⟩)
  have T1 := hide fun q => ((Tur.refl w.heap.size 5 q w).alloc (.cells #[.int .i8 4, .int .i64 g, .string u, .string i, .bool b, .slice A2 l.length c2, .string s, .slice A3 m.length c3] 28)).alloc (.cells #[.int .u8 4] 5)
  have K0 := hide k0
  clear hr hF k0
  go_enter Try.func31, Try.ntmps31
  go_wp2_with fail
  have hu' : u.size ≤ 100000 := HR.out.su
  have hi' : i.size ≤ 100000 := HR.out.si
  obtain ⟨L2, hL2⟩ : ∃ L, kb 4 ++ text u = L := ⟨_, rfl⟩
  have l2 : L2.length ≤ 200000 := by rw [← hL2]; simp [text, num, flag, kb]; omega
  obtain ⟨L3, hL3⟩ : ∃ L, L2 ++ text i = L := ⟨_, rfl⟩
  have l3 : L3.length ≤ 400000 := by rw [← hL3]; simp [text, num, flag, kb]; omega
  obtain ⟨L4, hL4⟩ : ∃ L, L3 ++ flag b = L := ⟨_, rfl⟩
  have l4 : L4.length ≤ 500000 := by rw [← hL4]; simp [text, num, flag, kb]; omega
  have H1 := hide fun (W : World) A c (hW : Sl W w.heap.size (kb 4) A c) => rtext_any u W w.heap.size (kb 4) A c hW (by simp [kb]) (by omega)
  rw [hL2] at H1
  have H2 := hide fun (W : World) A c (hW : Sl W w.heap.size L2 A c) => rtext_any i W w.heap.size L2 A c hW (by omega) (by omega)
  rw [hL3] at H2
  have H3 := hide fun (W : World) A c (hW : Sl W w.heap.size L3 A c) => rflag_any b W w.heap.size L3 A c hW (by omega)
  rw [hL4] at H3
  have hL : kb 4 ++ (text u ++ text i ++ flag b) = L4 := by rw [← hL4, ← hL3, ← hL2]; simp [List.append_assoc]
  have HL := hide hL
  clear hL hL2 hL3 hL4 l2 l3 l4 hu' hi' hu
  replace W1 := hide W1.out.drew
  replace T1 := hide fun q => (T1.out q).drew
  refine wp_region_held_drew (S := fun w' => Blk w' w.heap.size 28 #[.int .i8 4, .int .i64 g, .string u, .string i, .bool b, .slice A2 l.length c2, .string s, .slice A3 m.length c3] ∧ w'.cell? ⟨w.heap.size, 2, none⟩ = some (.string u) ∧ w'.cell? ⟨w.heap.size, 3, none⟩ = some (.string i) ∧ w'.cell? ⟨w.heap.size, 4, none⟩ = some (.bool b)) (by kernel_rfl) ?_ (fun hHeld => ?_)
  · (try dsimp only)
    exact ⟨K0.out.drew, K0.out.drew.cell 2, K0.out.drew.cell 3, K0.out.drew.cell 4⟩
  change wpAnyH _ _ _ _ _ 11 #[false, false, false, false, false, false, false, false, false, false, false] _ _
  refine held_take (i := 0) (d := 51) (v := ?_) rfl rfl (by kernel_rfl) (by kernel_rfl) (by kernel_rfl) (fun _ _ _ h => h) (by kernel_rfl) hHeld ?_ ?_
  rotate_left
  · intro w hSw
    (try dsimp only at hSw)
    go_simp
    first | done | with_reducible rfl
  (try simp only [Act.put, List.setIfInBounds_toArray, List.set_cons_zero, List.set_cons_succ])
  refine held_take (i := 1) (d := 52) (v := ?_) rfl rfl (by kernel_rfl) (by kernel_rfl) (by kernel_rfl) (fun _ _ _ h => h) (by kernel_rfl) hHeld ?_ ?_
  rotate_left
  · intro w hSw
    (try dsimp only at hSw)
    go_simp
    first | done | with_reducible rfl
  (try simp only [Act.put, List.setIfInBounds_toArray, List.set_cons_zero, List.set_cons_succ])
  refine held_take (i := 2) (d := 53) (v := ?_) rfl rfl (by kernel_rfl) (by kernel_rfl) (by kernel_rfl) (fun _ _ _ h => h) (by kernel_rfl) hHeld ?_ ?_
  rotate_left
  · intro w hSw
    (try dsimp only at hSw)
    go_simp
    first | done | with_reducible rfl
  (try simp only [Act.put, List.setIfInBounds_toArray, List.set_cons_zero, List.set_cons_succ])
  refine held_take (i := 4) (d := 55) (v := ?_) rfl rfl (by kernel_rfl) (by kernel_rfl) (by kernel_rfl) (fun _ _ _ h => h) (by kernel_rfl) hHeld ?_ ?_
  rotate_left
  · intro w hSw
    (try dsimp only at hSw)
    go_simp
    first | done | with_reducible rfl
  (try simp only [Act.put, List.setIfInBounds_toArray, List.set_cons_zero, List.set_cons_succ])
  refine held_take (i := 5) (d := 56) (v := ?_) rfl rfl (by kernel_rfl) (by kernel_rfl) (by kernel_rfl) (fun _ _ _ h => h) (by kernel_rfl) hHeld ?_ ?_
  rotate_left
  · intro w hSw
    (try dsimp only at hSw)
    go_simp
    first | done | with_reducible rfl
  (try simp only [Act.put, List.setIfInBounds_toArray, List.set_cons_zero, List.set_cons_succ])
  refine held_take (i := 7) (d := 58) (v := ?_) rfl rfl (by kernel_rfl) (by kernel_rfl) (by kernel_rfl) (fun _ _ _ h => h) (by kernel_rfl) hHeld ?_ ?_
  rotate_left
  · intro w hSw
    (try dsimp only at hSw)
    go_simp
    first | done | with_reducible rfl
  (try simp only [Act.put, List.setIfInBounds_toArray, List.set_cons_zero, List.set_cons_succ])
  refine held_take (i := 8) (d := 59) (v := ?_) rfl rfl (by kernel_rfl) (by kernel_rfl) (by kernel_rfl) (fun _ _ _ h => h) (by kernel_rfl) hHeld ?_ ?_
  rotate_left
  · intro w hSw
    (try dsimp only at hSw)
    go_simp
    first | done | with_reducible rfl
  (try simp only [Act.put, List.setIfInBounds_toArray, List.set_cons_zero, List.set_cons_succ])
  refine held_call (i := 3) rfl (by kernel_rfl) (by kernel_rfl) (fun K hK => ?_)
  go_simp
  go_at_call 33
  refine (H1.out _ _ _ W1.out).mono ?_
  rintro e w2 ⟨⟨E2, d2, rfl, hW⟩, ht⟩
  have W2 := hide hW
  clear hW
  have T2 := hide fun q => (T1.out q).trans (ht q)
  (try dsimp only)
  refine hK.out _ _ ?_ (fun hHeld' => ?_)
  · (try dsimp only)
    have kk' := (ht (w.heap.size + 1)).blk hHeld.1 (by omega) (by decide)
    exact ⟨kk', kk'.cell 2, kk'.cell 3, kk'.cell 4⟩
  clear hK K hHeld
  have hHeld := hHeld'
  clear hHeld'
  (try simp only [Act.put, List.setIfInBounds_toArray, List.set_cons_zero, List.set_cons_succ])
  refine held_call (i := 6) rfl (by kernel_rfl) (by kernel_rfl) (fun K hK => ?_)
  go_simp
  go_at_call 33
  refine (H2.out _ _ _ W2.out).mono ?_
  rintro e w3 ⟨⟨E3, d3, rfl, hW⟩, ht⟩
  have W3 := hide hW
  clear hW
  have T3 := hide fun q => (T2.out q).trans (ht q)
  (try dsimp only)
  refine hK.out _ _ ?_ (fun hHeld' => ?_)
  · (try dsimp only)
    have kk' := (ht (w.heap.size + 1)).blk hHeld.1 (by omega) (by decide)
    exact ⟨kk', kk'.cell 2, kk'.cell 3, kk'.cell 4⟩
  clear hK K hHeld
  have hHeld := hHeld'
  clear hHeld'
  (try simp only [Act.put, List.setIfInBounds_toArray, List.set_cons_zero, List.set_cons_succ])
  refine held_call (i := 9) rfl (by kernel_rfl) (by kernel_rfl) (fun K hK => ?_)
  go_simp
  go_at_call 61
  refine (H3.out _ _ _ W3.out).mono ?_
  rintro e w4 ⟨⟨E4, d4, rfl, hW⟩, ht⟩
  have W4 := hide hW
  clear hW
  have T4 := hide fun q => (T3.out q).trans (ht q)
  (try dsimp only)
  refine hK.out _ _ ?_ (fun hHeld' => ?_)
  · (try dsimp only)
    have kk' := (ht (w.heap.size + 1)).blk hHeld.1 (by omega) (by decide)
    exact ⟨kk', kk'.cell 2, kk'.cell 3, kk'.cell 4⟩
  clear hK K hHeld
  have hHeld := hHeld'
  clear hHeld'
  (try simp only [Act.put, List.setIfInBounds_toArray, List.set_cons_zero, List.set_cons_succ])
  refine held_take (i := 10) (d := 3) (v := ?_) rfl rfl (by kernel_rfl) (by kernel_rfl) (by kernel_rfl) (fun _ _ _ h => h) (by kernel_rfl) hHeld ?_ ?_
  rotate_left
  · intro w hSw
    (try dsimp only at hSw)
    go_simp
    first | done | with_reducible rfl
  (try simp only [Act.put, List.setIfInBounds_toArray, List.set_cons_zero, List.set_cons_succ])
  refine wpAnyH_done (by kernel_rfl) ?_ _
  go_wp2
  go_ret
  have e := HF.out
  have hb : Rec.bytes ⟨4, g, u, i, b, l, s, m⟩ = kb 4 ++ (text u ++ text i ++ flag b) := rfl
  rw [hb] at e
  rw [HL.out] at e
  subst e
  exact RB.mk (by first | rfl | (rw [List.length_append]; rfl)) W4.out T4.out

end Go.Proofs.Ytlkkmgimjjnhjaa
