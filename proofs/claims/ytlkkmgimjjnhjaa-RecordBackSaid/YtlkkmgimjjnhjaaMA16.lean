/- The document's bytes of a record: entries, subs. (Printed by wip/genRecV.py.) · The document's May, Bytes, Frame. -/
import Derived.Test.YtlkkmgimjjnhjaaMA15
set_option linter.unusedSimpArgs false
set_option linter.unusedVariables false
namespace Go.Proofs.Ytlkkmgimjjnhjaa
open Go.RowKit Rec
attribute [local go_sem ↓] Go.wp_at_zero Go.wp_at_succ


set_option maxHeartbeats 2000000 in
theorem rbytes_3 (r : Rcd) (A2 A3 : Option Addr) (c2 c3 : Nat) (w : World) (hk : r.kind = 3) (hr : RcdAt w w.heap.size r A2 A3) :
    Calls Try.prog 31 #[.agg (rcdCells r A2 c2 A3 c3)] w (RB w (Rec.bytes r)) := by
  obtain ⟨k, g, u, i, b, l, s, m⟩ := r
  dsimp only at hk
  subst hk
  unfold rcdCells
  dsimp only
  have HR := hide hr
  obtain ⟨F, hF⟩ : ∃ F, Rec.bytes ⟨3, g, u, i, b, l, s, m⟩ = F := ⟨_, rfl⟩
  rw [hF]
  have HF := hide hF
  have hu : IntKind.u8.wrap 3 = 3 := by decide
  have k0 := (Blk.new w 28 #[.int .i8 3, .int .i64 g, .string u, .string i, .bool b, .slice A2 l.length c2, .string s, .slice A3 m.length c3]).alloc (.cells #[.int .u8 3] 5)
  have W1 := hide (show Sl ((w.alloc (.cells #[.int .i8 3, .int .i64 g, .string u, .string i, .bool b, .slice A2 l.length c2, .string s, .slice A3 m.length c3] 28)).alloc (.cells #[.int .u8 3] 5)) w.heap.size (kb 3) (some ⟨w.heap.size + 1, 0, none⟩) 1 from
    ⟨own_bytes1 (w.alloc (.cells #[.int .i8 3, .int .i64 g, .string u, .string i, .bool b, .slice A2 l.length c2, .string s, .slice A3 m.length c3] 28)) 5 w.heap.size (w.heap.size + 1) (by simp) (by omega) 3 (by omega), by simp; omega, by simp [kb]⟩)
  have T1 := hide fun q => ((Tur.refl w.heap.size 5 q w).alloc (.cells #[.int .i8 3, .int .i64 g, .string u, .string i, .bool b, .slice A2 l.length c2, .string s, .slice A3 m.length c3] 28)).alloc (.cells #[.int .u8 3] 5)
  have K0 := hide k0
  clear hr hF k0
  obtain ⟨n, hn⟩ : ∃ n, l.length = n := ⟨_, rfl⟩
  have hn32 : n ≤ 32 := by rw [← hn]; exact HR.out.na
  have HL := hide hn
  have hu' : u.size ≤ 100000 := HR.out.su
  obtain ⟨L2, hL2⟩ : ∃ L, kb 3 ++ text u = L := ⟨_, rfl⟩
  have l2 : L2.length ≤ 200000 := by rw [← hL2]; simp [text, num, flag, kb]; omega
  obtain ⟨L3, hL3⟩ : ∃ L, L2 ++ num (n : Int) = L := ⟨_, rfl⟩
  have l3 : L3.length ≤ 200100 := by rw [← hL3]; simp [text, num, flag, kb]; omega
  have H1 := hide fun (W : World) A c (hW : Sl W w.heap.size (kb 3) A c) => rtext_any u W w.heap.size (kb 3) A c hW (by simp [kb]) (by omega)
  rw [hL2] at H1
  have H2 := hide fun (W : World) A c (hW : Sl W w.heap.size L2 A c) => rnumber_any n W w.heap.size L2 A c hW (by omega) (by omega)
  rw [hL3] at H2
  have HL2 := hide hL2
  have HL3 := hide hL3
  simp only [hn] at K0 W1 T1 ⊢
  clear hL2 hL3 hn hu' l2
  go_enter Try.func31, Try.ntmps31
  go_wp2_with fail
  replace W1 := hide W1.out.drew
  replace T1 := hide fun q => (T1.out q).drew
  refine wp_region_held_drew (S := fun w' => Blk w' w.heap.size 28 #[.int .i8 3, .int .i64 g, .string u, .string i, .bool b, .slice A2 n c2, .string s, .slice A3 m.length c3] ∧ w'.cell? ⟨w.heap.size, 2, none⟩ = some (.string u) ∧ w'.cell? ⟨w.heap.size, 5, none⟩ = some (.slice A2 n c2)) (by kernel_rfl) ?_ (fun hHeld => ?_)
  · (try dsimp only)
    exact ⟨K0.out.drew, K0.out.drew.cell 2, K0.out.drew.cell 5⟩
  change wpAnyH _ _ _ _ _ 9 #[false, false, false, false, false, false, false, false, false] _ _
  refine held_take (i := 0) (d := 27) (v := ?_) rfl rfl (by kernel_rfl) (by kernel_rfl) (by kernel_rfl) (fun _ _ _ h => h) (by kernel_rfl) hHeld ?_ ?_
  rotate_left
  · intro w hSw
    (try dsimp only at hSw)
    go_simp
    first | done | with_reducible rfl
  (try simp only [Act.put, List.setIfInBounds_toArray, List.set_cons_zero, List.set_cons_succ])
  refine held_take (i := 1) (d := 28) (v := ?_) rfl rfl (by kernel_rfl) (by kernel_rfl) (by kernel_rfl) (fun _ _ _ h => h) (by kernel_rfl) hHeld ?_ ?_
  rotate_left
  · intro w hSw
    (try dsimp only at hSw)
    go_simp
    first | done | with_reducible rfl
  (try simp only [Act.put, List.setIfInBounds_toArray, List.set_cons_zero, List.set_cons_succ])
  refine held_take (i := 2) (d := 29) (v := ?_) rfl rfl (by kernel_rfl) (by kernel_rfl) (by kernel_rfl) (fun _ _ _ h => h) (by kernel_rfl) hHeld ?_ ?_
  rotate_left
  · intro w hSw
    (try dsimp only at hSw)
    go_simp
    first | done | with_reducible rfl
  (try simp only [Act.put, List.setIfInBounds_toArray, List.set_cons_zero, List.set_cons_succ])
  refine held_take (i := 4) (d := 31) (v := ?_) rfl rfl (by kernel_rfl) (by kernel_rfl) (by kernel_rfl) (fun _ _ _ h => h) (by kernel_rfl) hHeld ?_ ?_
  rotate_left
  · intro w hSw
    (try dsimp only at hSw)
    go_simp
    first | done | with_reducible rfl
  (try simp only [Act.put, List.setIfInBounds_toArray, List.set_cons_zero, List.set_cons_succ])
  refine held_take (i := 5) (d := 32) (v := ?_) rfl rfl (by kernel_rfl) (by kernel_rfl) (by kernel_rfl) (fun _ _ _ h => h) (by kernel_rfl) hHeld ?_ ?_
  rotate_left
  · intro w hSw
    (try dsimp only at hSw)
    go_simp
    first | done | with_reducible rfl
  (try simp only [Act.put, List.setIfInBounds_toArray, List.set_cons_zero, List.set_cons_succ])
  refine held_take (i := 6) (d := 33) (v := ?_) rfl rfl (by kernel_rfl) (by kernel_rfl) (by kernel_rfl) (fun _ _ _ h => h) (by kernel_rfl) hHeld ?_ ?_
  rotate_left
  · intro w hSw
    (try dsimp only at hSw)
    go_simp
    first | done | with_reducible rfl
  (try simp only [Act.put, List.setIfInBounds_toArray, List.set_cons_zero, List.set_cons_succ])
  refine held_call (i := 3) rfl (by kernel_rfl) (by kernel_rfl) (fun K hK => ?_)
  go_simp
  go_at_call 33
  refine (H1.out _ _ _ W1.out).mono ?_
  rintro e w2 ⟨⟨E2, d2, rfl, hW⟩, ht⟩
  have W2 := hide hW
  clear hW
  have T2 := hide fun q => (T1.out q).trans (ht q)
  (try dsimp only)
  refine hK.out _ _ ?_ (fun hHeld' => ?_)
  · (try dsimp only)
    have kk' := (ht (w.heap.size + 1)).blk hHeld.1 (by omega) (by decide)
    exact ⟨kk', kk'.cell 2, kk'.cell 5⟩
  clear hK K hHeld
  have hHeld := hHeld'
  clear hHeld'
  (try simp only [Act.put, List.setIfInBounds_toArray, List.set_cons_zero, List.set_cons_succ])
  refine held_call (i := 7) rfl (by kernel_rfl) (by kernel_rfl) (fun K hK => ?_)
  go_simp
  go_at_call 59
  refine (H2.out _ _ _ W2.out).mono ?_
  rintro e w3 ⟨⟨E3, d3, rfl, hW⟩, ht⟩
  have W3 := hide hW
  clear hW
  have T3 := hide fun q => (T2.out q).trans (ht q)
  (try dsimp only)
  refine hK.out _ _ ?_ (fun hHeld' => ?_)
  · (try dsimp only)
    have kk' := (ht (w.heap.size + 1)).blk hHeld.1 (by omega) (by decide)
    exact ⟨kk', kk'.cell 2, kk'.cell 5⟩
  clear hK K hHeld
  have hHeld := hHeld'
  clear hHeld'
  (try simp only [Act.put, List.setIfInBounds_toArray, List.set_cons_zero, List.set_cons_succ])
  refine held_take (i := 8) (d := 3) (v := ?_) rfl rfl (by kernel_rfl) (by kernel_rfl) (by kernel_rfl) (fun _ _ _ h => h) (by kernel_rfl) hHeld ?_ ?_
  rotate_left
  · intro w hSw
    (try dsimp only at hSw)
    go_simp
    first | done | with_reducible rfl
  (try simp only [Act.put, List.setIfInBounds_toArray, List.set_cons_zero, List.set_cons_succ])
  refine wpAnyH_done (by kernel_rfl) ?_ _
  have K3 := hide hHeld.1
  clear hHeld H1 H2 hu
  go_wp2
  go_loopg [3, 4] n (fun gk v3 vi wr => ∃ k : Nat, gk = n - k ∧ k ≤ n ∧ vi = .int .i64 k ∧ (∃ E d, v3 = .slice E (L3 ++ (l.take k).flatMap entry).length d ∧ Sl wr w.heap.size (L3 ++ (l.take k).flatMap entry) E d) ∧ Blk wr w.heap.size 28 #[.int .i8 3, .int .i64 g, .string u, .string i, .bool b, .slice A2 n c2, .string s, .slice A3 m.length c3] ∧ ∀ q, Tur w.heap.size 5 q w wr)
  case atStart => exact ⟨0, rfl, Nat.zero_le _, rfl, ⟨E3, d3, by simp, by simpa using W3.out⟩, K3.out, T3.out⟩
  case round =>
    obtain ⟨k, hg, hk, rfl, ⟨E9, d9, rfl, hW⟩, k0, ht⟩ := hrel
    have Hg := hide hg
    obtain ⟨L9, hL9⟩ : ∃ L9, (L3 ++ (l.take k).flatMap entry) = L9 := ⟨_, rfl⟩
    rw [hL9] at hW ⊢
    have l9 : L9.length ≤ 300000000 := by
      rw [← hL9, List.length_append]
      have := take_len entry l k 160001 (fun x hx => by have := entry_len x (HR.out.pa x hx); omega) (by rw [HL.out]; exact hn32)
      omega
    have HL9 := hide hL9
    have W9 := hide hW
    have T9 := hide ht
    have K9 := hide k0
    have q5 := k0.cell 5
    clear hg hW ht hL9 K3 k0
    by_cases hlt : k < n
    · have h1 : k < l.length := by rw [HL.out]; exact hlt
      obtain ⟨b', off, rfl, hb', hx⟩ := (HR.out.a.below ((T9.out w.heap.size).below (Nat.le_refl _) (Nat.le_refl _) (Nat.le_refl _))).ent h1
      obtain ⟨x, ex⟩ : ∃ x, l[k] = x := ⟨_, rfl⟩
      have hp : Plain x := by
        have := HR.out.pa l[k] (List.getElem_mem h1)
        rwa [ex] at this
      rw [ex] at hx
      have Ex := hide ex
      have hnx : (L3 ++ (l.take (k + 1)).flatMap entry) = L9 ++ entry x := by rw [flat_next _ _ _ h1, ← List.append_assoc, HL9.out, ex]
      have HN := hide hnx
      have HE := hide fun (W : World) A c (hW : Sl W w.heap.size L9 A c) => rentry_any x W w.heap.size L9 A c hW (by omega) (fun k hk => Nat.le_trans (hp.1 k hk) (by omega)) hp.2
      unfold entCells at HE
      have x0 := hx.c0
      have x1 := hx.c1
      have x2 := hx.c2
      have x3 := hx.c3
      have x4 := hx.c4
      have x5 := hx.c5
      have x6 := hx.c6
      obtain ⟨L10, hL10⟩ : ∃ L, L9 ++ entry x = L := ⟨_, rfl⟩
      rw [hL10] at HE hnx
      have HN := hide hnx
      clear hx ex hp hnx hL10
      go_wp2_with fail
      refine (HE.out _ _ _ W9.out).mono ?_
      rintro e w8 ⟨⟨E8, d8, rfl, hW⟩, ht⟩
      have k8 := (ht (w.heap.size + 1)).blk K9.out (by omega) (by decide)
      have W8 := hide hW
      have T8 := hide fun q => (T9.out q).trans (ht q)
      have K8 := hide k8
      clear hW ht k8
      go_wp2
      go_roundg (n - (k + 1))
      case measure => have := Hg.out; omega
      case rel => exact ⟨k + 1, rfl, by omega, by go_num, ⟨E8, d8, by rw [HN.out], by rw [HN.out]; exact W8.out⟩, K8.out, T8.out⟩
    · go_wp2
      go_ret
      have e := HF.out
      have hb : Rec.bytes ⟨3, g, u, i, b, l, s, m⟩ = kb 3 ++ (text u ++ num l.length ++ l.flatMap entry) := rfl
      rw [hb] at e
      have e1 := HL9.out
      rw [List.take_of_length_le (by rw [HL.out]; omega), ← HL3.out, ← HL2.out, ← HL.out] at e1
      have e2 : F = L9 := by rw [← e, ← e1]; simp [List.append_assoc]
      rw [e2]
      exact RB.mk rfl W9.out T9.out


set_option maxHeartbeats 2000000 in
theorem rbytes_5 (r : Rcd) (A2 A3 : Option Addr) (c2 c3 : Nat) (w : World) (hk : r.kind = 5) (hr : RcdAt w w.heap.size r A2 A3) :
    Calls Try.prog 31 #[.agg (rcdCells r A2 c2 A3 c3)] w (RB w (Rec.bytes r)) := by
  obtain ⟨k, g, u, i, b, l, s, m⟩ := r
  dsimp only at hk
  subst hk
  unfold rcdCells
  dsimp only
  have HR := hide hr
  obtain ⟨F, hF⟩ : ∃ F, Rec.bytes ⟨5, g, u, i, b, l, s, m⟩ = F := ⟨_, rfl⟩
  rw [hF]
  have HF := hide hF
  have hu : IntKind.u8.wrap 5 = 5 := by decide
  have k0 := (Blk.new w 28 #[.int .i8 5, .int .i64 g, .string u, .string i, .bool b, .slice A2 l.length c2, .string s, .slice A3 m.length c3]).alloc (.cells #[.int .u8 5] 5)
  have W1 := hide (show Sl ((w.alloc (.cells #[.int .i8 5, .int .i64 g, .string u, .string i, .bool b, .slice A2 l.length c2, .string s, .slice A3 m.length c3] 28)).alloc (.cells #[.int .u8 5] 5)) w.heap.size (kb 5) (some ⟨w.heap.size + 1, 0, none⟩) 1 from
    ⟨own_bytes1 (w.alloc (.cells #[.int .i8 5, .int .i64 g, .string u, .string i, .bool b, .slice A2 l.length c2, .string s, .slice A3 m.length c3] 28)) 5 w.heap.size (w.heap.size + 1) (by simp) (by omega) 5 (by omega), by simp; omega, by simp [kb]⟩)
  have T1 := hide fun q => ((Tur.refl w.heap.size 5 q w).alloc (.cells #[.int .i8 5, .int .i64 g, .string u, .string i, .bool b, .slice A2 l.length c2, .string s, .slice A3 m.length c3] 28)).alloc (.cells #[.int .u8 5] 5)
  have K0 := hide k0
  clear hr hF k0
  obtain ⟨n, hn⟩ : ∃ n, m.length = n := ⟨_, rfl⟩
  have hn32 : n ≤ 32 := by rw [← hn]; exact HR.out.nk
  have HL := hide hn
  have hu' : s.size ≤ 100000 := HR.out.ss
  obtain ⟨L2, hL2⟩ : ∃ L, kb 5 ++ text s = L := ⟨_, rfl⟩
  have l2 : L2.length ≤ 200000 := by rw [← hL2]; simp [text, num, flag, kb]; omega
  obtain ⟨L3, hL3⟩ : ∃ L, L2 ++ num (n : Int) = L := ⟨_, rfl⟩
  have l3 : L3.length ≤ 200100 := by rw [← hL3]; simp [text, num, flag, kb]; omega
  have H1 := hide fun (W : World) A c (hW : Sl W w.heap.size (kb 5) A c) => rtext_any s W w.heap.size (kb 5) A c hW (by simp [kb]) (by omega)
  rw [hL2] at H1
  have H2 := hide fun (W : World) A c (hW : Sl W w.heap.size L2 A c) => rnumber_any n W w.heap.size L2 A c hW (by omega) (by omega)
  rw [hL3] at H2
  have HL2 := hide hL2
  have HL3 := hide hL3
  simp only [hn] at K0 W1 T1 ⊢
  clear hL2 hL3 hn hu' l2
  go_enter Try.func31, Try.ntmps31
  go_wp2_with fail
  replace W1 := hide W1.out.drew
  replace T1 := hide fun q => (T1.out q).drew
  refine wp_region_held_drew (S := fun w' => Blk w' w.heap.size 28 #[.int .i8 5, .int .i64 g, .string u, .string i, .bool b, .slice A2 l.length c2, .string s, .slice A3 n c3] ∧ w'.cell? ⟨w.heap.size, 6, none⟩ = some (.string s) ∧ w'.cell? ⟨w.heap.size, 7, none⟩ = some (.slice A3 n c3)) (by kernel_rfl) ?_ (fun hHeld => ?_)
  · (try dsimp only)
    exact ⟨K0.out.drew, K0.out.drew.cell 6, K0.out.drew.cell 7⟩
  change wpAnyH _ _ _ _ _ 11 #[false, false, false, false, false, false, false, false, false, false, false] _ _
  refine held_take (i := 0) (d := 63) (v := ?_) rfl rfl (by kernel_rfl) (by kernel_rfl) (by kernel_rfl) (fun _ _ _ h => h) (by kernel_rfl) hHeld ?_ ?_
  rotate_left
  · intro w hSw
    (try dsimp only at hSw)
    go_simp
    first | done | with_reducible rfl
  (try simp only [Act.put, List.setIfInBounds_toArray, List.set_cons_zero, List.set_cons_succ])
  refine held_take (i := 1) (d := 64) (v := ?_) rfl rfl (by kernel_rfl) (by kernel_rfl) (by kernel_rfl) (fun _ _ _ h => h) (by kernel_rfl) hHeld ?_ ?_
  rotate_left
  · intro w hSw
    (try dsimp only at hSw)
    go_simp
    first | done | with_reducible rfl
  (try simp only [Act.put, List.setIfInBounds_toArray, List.set_cons_zero, List.set_cons_succ])
  refine held_take (i := 2) (d := 65) (v := ?_) rfl rfl (by kernel_rfl) (by kernel_rfl) (by kernel_rfl) (fun _ _ _ h => h) (by kernel_rfl) hHeld ?_ ?_
  rotate_left
  · intro w hSw
    (try dsimp only at hSw)
    go_simp
    first | done | with_reducible rfl
  (try simp only [Act.put, List.setIfInBounds_toArray, List.set_cons_zero, List.set_cons_succ])
  refine held_take (i := 3) (d := 66) (v := ?_) rfl rfl (by kernel_rfl) (by kernel_rfl) (by kernel_rfl) (fun _ _ _ h => h) (by kernel_rfl) hHeld ?_ ?_
  rotate_left
  · intro w hSw
    (try dsimp only at hSw)
    go_simp
    first | done | with_reducible rfl
  (try simp only [Act.put, List.setIfInBounds_toArray, List.set_cons_zero, List.set_cons_succ])
  refine held_take (i := 5) (d := 68) (v := ?_) rfl rfl (by kernel_rfl) (by kernel_rfl) (by kernel_rfl) (fun _ _ _ h => h) (by kernel_rfl) hHeld ?_ ?_
  rotate_left
  · intro w hSw
    (try dsimp only at hSw)
    go_simp
    first | done | with_reducible rfl
  (try simp only [Act.put, List.setIfInBounds_toArray, List.set_cons_zero, List.set_cons_succ])
  refine held_take (i := 6) (d := 69) (v := ?_) rfl rfl (by kernel_rfl) (by kernel_rfl) (by kernel_rfl) (fun _ _ _ h => h) (by kernel_rfl) hHeld ?_ ?_
  rotate_left
  · intro w hSw
    (try dsimp only at hSw)
    go_simp
    first | done | with_reducible rfl
  (try simp only [Act.put, List.setIfInBounds_toArray, List.set_cons_zero, List.set_cons_succ])
  refine held_take (i := 7) (d := 70) (v := ?_) rfl rfl (by kernel_rfl) (by kernel_rfl) (by kernel_rfl) (fun _ _ _ h => h) (by kernel_rfl) hHeld ?_ ?_
  rotate_left
  · intro w hSw
    (try dsimp only at hSw)
    go_simp
    first | done | with_reducible rfl
  (try simp only [Act.put, List.setIfInBounds_toArray, List.set_cons_zero, List.set_cons_succ])
  refine held_take (i := 8) (d := 71) (v := ?_) rfl rfl (by kernel_rfl) (by kernel_rfl) (by kernel_rfl) (fun _ _ _ h => h) (by kernel_rfl) hHeld ?_ ?_
  rotate_left
  · intro w hSw
    (try dsimp only at hSw)
    go_simp
    first | done | with_reducible rfl
  (try simp only [Act.put, List.setIfInBounds_toArray, List.set_cons_zero, List.set_cons_succ])
  refine held_call (i := 4) rfl (by kernel_rfl) (by kernel_rfl) (fun K hK => ?_)
  go_simp
  go_at_call 33
  refine (H1.out _ _ _ W1.out).mono ?_
  rintro e w2 ⟨⟨E2, d2, rfl, hW⟩, ht⟩
  have W2 := hide hW
  clear hW
  have T2 := hide fun q => (T1.out q).trans (ht q)
  (try dsimp only)
  refine hK.out _ _ ?_ (fun hHeld' => ?_)
  · (try dsimp only)
    have kk' := (ht (w.heap.size + 1)).blk hHeld.1 (by omega) (by decide)
    exact ⟨kk', kk'.cell 6, kk'.cell 7⟩
  clear hK K hHeld
  have hHeld := hHeld'
  clear hHeld'
  (try simp only [Act.put, List.setIfInBounds_toArray, List.set_cons_zero, List.set_cons_succ])
  refine held_call (i := 9) rfl (by kernel_rfl) (by kernel_rfl) (fun K hK => ?_)
  go_simp
  go_at_call 59
  refine (H2.out _ _ _ W2.out).mono ?_
  rintro e w3 ⟨⟨E3, d3, rfl, hW⟩, ht⟩
  have W3 := hide hW
  clear hW
  have T3 := hide fun q => (T2.out q).trans (ht q)
  (try dsimp only)
  refine hK.out _ _ ?_ (fun hHeld' => ?_)
  · (try dsimp only)
    have kk' := (ht (w.heap.size + 1)).blk hHeld.1 (by omega) (by decide)
    exact ⟨kk', kk'.cell 6, kk'.cell 7⟩
  clear hK K hHeld
  have hHeld := hHeld'
  clear hHeld'
  (try simp only [Act.put, List.setIfInBounds_toArray, List.set_cons_zero, List.set_cons_succ])
  refine held_take (i := 10) (d := 3) (v := ?_) rfl rfl (by kernel_rfl) (by kernel_rfl) (by kernel_rfl) (fun _ _ _ h => h) (by kernel_rfl) hHeld ?_ ?_
  rotate_left
  · intro w hSw
    (try dsimp only at hSw)
    go_simp
    first | done | with_reducible rfl
  (try simp only [Act.put, List.setIfInBounds_toArray, List.set_cons_zero, List.set_cons_succ])
  refine wpAnyH_done (by kernel_rfl) ?_ _
  have K3 := hide hHeld.1
  clear hHeld H1 H2 hu
  go_wp2
  go_loopg [3, 5] n (fun gk v3 vi wr => ∃ k : Nat, gk = n - k ∧ k ≤ n ∧ vi = .int .i64 k ∧ (∃ E d, v3 = .slice E (L3 ++ (m.take k).flatMap keptB).length d ∧ Sl wr w.heap.size (L3 ++ (m.take k).flatMap keptB) E d) ∧ Blk wr w.heap.size 28 #[.int .i8 5, .int .i64 g, .string u, .string i, .bool b, .slice A2 l.length c2, .string s, .slice A3 n c3] ∧ ∀ q, Tur w.heap.size 5 q w wr)
  case atStart => exact ⟨0, rfl, Nat.zero_le _, rfl, ⟨E3, d3, by simp, by simpa using W3.out⟩, K3.out, T3.out⟩
  case round =>
    obtain ⟨k, hg, hk, rfl, ⟨E9, d9, rfl, hW⟩, k0, ht⟩ := hrel
    have Hg := hide hg
    obtain ⟨L9, hL9⟩ : ∃ L9, (L3 ++ (m.take k).flatMap keptB) = L9 := ⟨_, rfl⟩
    rw [hL9] at hW ⊢
    have l9 : L9.length ≤ 300000000 := by
      rw [← hL9, List.length_append]
      have := take_len keptB m k 160001 (fun x hx => by have := entry_len x.e (HR.out.pk x hx); simp [keptB, flag]; omega) (by rw [HL.out]; exact hn32)
      omega
    have HL9 := hide hL9
    have W9 := hide hW
    have T9 := hide ht
    have K9 := hide k0
    have q7 := k0.cell 7
    clear hg hW ht hL9 K3 k0
    by_cases hlt : k < n
    · have h1 : k < m.length := by rw [HL.out]; exact hlt
      obtain ⟨b', off, rfl, hb', hx⟩ := (HR.out.k.below ((T9.out w.heap.size).below (Nat.le_refl _) (Nat.le_refl _) (Nat.le_refl _))).kpt h1
      obtain ⟨x, ex⟩ : ∃ x, m[k] = x := ⟨_, rfl⟩
      have hp : Plain x.e := by
        have := HR.out.pk m[k] (List.getElem_mem h1)
        rwa [ex] at this
      rw [ex] at hx
      have Ex := hide ex
      have hnx : (L3 ++ (m.take (k + 1)).flatMap keptB) = L9 ++ keptB x := by rw [flat_next _ _ _ h1, ← List.append_assoc, HL9.out, ex]
      have HN := hide hnx
      have HE := hide fun (W : World) A c (hW : Sl W w.heap.size L9 A c) => rentry_any x.e W w.heap.size L9 A c hW (by omega) (fun k hk => Nat.le_trans (hp.1 k hk) (by omega)) hp.2
      unfold entCells at HE
      have x0 := hx.c0
      have x1 := hx.c1
      have x2 := hx.c2
      have x3 := hx.c3
      have x4 := hx.c4
      have x5 := hx.c5
      have x6 := hx.c6
      have x7 := hx.c7
      obtain ⟨L10, hL10⟩ : ∃ L, L9 ++ entry x.e = L := ⟨_, rfl⟩
      have l10 : L10.length ≤ 400000000 := by
        have := entry_len x.e hp
        rw [← hL10]; simp; omega
      rw [keptB, ← List.append_assoc, hL10] at hnx
      rw [hL10] at HE
      have HF1 := hide fun (W : World) A c (hW : Sl W w.heap.size L10 A c) => rflag_any x.read W w.heap.size L10 A c hW (by omega)
      obtain ⟨L11, hL11⟩ : ∃ L, L10 ++ flag x.read = L := ⟨_, rfl⟩
      rw [hL11] at HF1 hnx
      have HN := hide hnx
      have j1 : (0 : Int) ≤ (k : Int) := by omega
      have j2 : (k : Int) < (n : Int) := by omega
      have W10 := hide W9.out.drew
      have T10 := hide fun q => (T9.out q).drew
      clear hx ex hp hnx hL10 hL11 l10
      go_wp2
      refine wp_region_held_drew (S := fun w' => Blk w' w.heap.size 28 #[.int .i8 5, .int .i64 g, .string u, .string i, .bool b, .slice A2 l.length c2, .string s, .slice (some ⟨b', off, none⟩) n c3] ∧ w'.cell? ⟨w.heap.size, 7, none⟩ = some (.slice (some ⟨b', off, none⟩) n c3) ∧ w'.cell? ⟨b', off + k * 8, none⟩ = some (.string x.e.id) ∧ w'.cell? ⟨b', off + k * 8 + 1, none⟩ = some (.string x.e.title) ∧ w'.cell? ⟨b', off + k * 8 + 2, none⟩ = some (.string x.e.link) ∧ w'.cell? ⟨b', off + k * 8 + 3, none⟩ = some (.string x.e.author) ∧ w'.cell? ⟨b', off + k * 8 + 4, none⟩ = some (.string x.e.content) ∧ w'.cell? ⟨b', off + k * 8 + 5, none⟩ = some (.bool x.e.has) ∧ w'.cell? ⟨b', off + k * 8 + 6, none⟩ = some (.int .i64 x.e.sec) ∧ w'.cell? ⟨b', off + k * 8 + 7, none⟩ = some (.bool x.read)) (by kernel_rfl) ?_ (fun hHeld => ?_)
      · (try dsimp only)
        exact ⟨K9.out.drew, K9.out.drew.cell 7, x0, x1, x2, x3, x4, x5, x6, x7⟩
      change wpAnyH _ _ _ _ _ 18 #[false, false, false, false, false, false, false, false, false, false, false, false, false, false, false, false, false, false] _ _
      refine held_take (i := 0) (d := 81) (v := ?_) rfl rfl (by kernel_rfl) (by kernel_rfl) (by kernel_rfl) (fun _ _ _ h => h) (by kernel_rfl) hHeld ?_ ?_
      rotate_left
      · intro w hSw
        (try dsimp only at hSw)
        go_simp
        first | done | with_reducible rfl
      (try simp only [Act.put, List.setIfInBounds_toArray, List.set_cons_zero, List.set_cons_succ])
      refine held_take (i := 1) (d := 82) (v := ?_) rfl rfl (by kernel_rfl) (by kernel_rfl) (by kernel_rfl) (fun _ _ _ h => h) (by kernel_rfl) hHeld ?_ ?_
      rotate_left
      · intro w hSw
        (try dsimp only at hSw)
        go_simp
        first | done | with_reducible rfl
      (try simp only [Act.put, List.setIfInBounds_toArray, List.set_cons_zero, List.set_cons_succ])
      refine held_take (i := 2) (d := 83) (v := ?_) rfl rfl (by kernel_rfl) (by kernel_rfl) (by kernel_rfl) (fun _ _ _ h => h) (by kernel_rfl) hHeld ?_ ?_
      rotate_left
      · intro w hSw
        (try dsimp only at hSw)
        go_simp
        first | done | with_reducible rfl
      (try simp only [Act.put, List.setIfInBounds_toArray, List.set_cons_zero, List.set_cons_succ])
      refine held_take (i := 3) (d := 84) (v := ?_) rfl rfl (by kernel_rfl) (by kernel_rfl) (by kernel_rfl) (fun _ _ _ h => h) (by kernel_rfl) hHeld ?_ ?_
      rotate_left
      · intro w hSw
        (try dsimp only at hSw)
        go_simp
        first | done | with_reducible rfl
      (try simp only [Act.put, List.setIfInBounds_toArray, List.set_cons_zero, List.set_cons_succ])
      refine held_take (i := 4) (d := 85) (v := ?_) rfl rfl (by kernel_rfl) (by kernel_rfl) (by kernel_rfl) (fun _ _ _ h => h) (by kernel_rfl) hHeld ?_ ?_
      rotate_left
      · intro w hSw
        (try dsimp only at hSw)
        go_simp
        first | done | with_reducible rfl
      (try simp only [Act.put, List.setIfInBounds_toArray, List.set_cons_zero, List.set_cons_succ])
      refine held_take (i := 5) (d := 86) (v := ?_) rfl rfl (by kernel_rfl) (by kernel_rfl) (by kernel_rfl) (fun _ _ _ h => h) (by kernel_rfl) hHeld ?_ ?_
      rotate_left
      · intro w hSw
        (try dsimp only at hSw)
        go_simp
        first | done | with_reducible rfl
      (try simp only [Act.put, List.setIfInBounds_toArray, List.set_cons_zero, List.set_cons_succ])
      refine held_take (i := 6) (d := 87) (v := ?_) rfl rfl (by kernel_rfl) (by kernel_rfl) (by kernel_rfl) (fun _ _ _ h => h) (by kernel_rfl) hHeld ?_ ?_
      rotate_left
      · intro w hSw
        (try dsimp only at hSw)
        go_simp
        first | done | with_reducible rfl
      (try simp only [Act.put, List.setIfInBounds_toArray, List.set_cons_zero, List.set_cons_succ])
      refine held_take (i := 7) (d := 88) (v := ?_) rfl rfl (by kernel_rfl) (by kernel_rfl) (by kernel_rfl) (fun _ _ _ h => h) (by kernel_rfl) hHeld ?_ ?_
      rotate_left
      · intro w hSw
        (try dsimp only at hSw)
        go_simp
        first | done | with_reducible rfl
      (try simp only [Act.put, List.setIfInBounds_toArray, List.set_cons_zero, List.set_cons_succ])
      refine held_take (i := 9) (d := 90) (v := ?_) rfl rfl (by kernel_rfl) (by kernel_rfl) (by kernel_rfl) (fun _ _ _ h => h) (by kernel_rfl) hHeld ?_ ?_
      rotate_left
      · intro w hSw
        (try dsimp only at hSw)
        go_simp
        first | done | with_reducible rfl
      (try simp only [Act.put, List.setIfInBounds_toArray, List.set_cons_zero, List.set_cons_succ])
      refine held_take (i := 10) (d := 91) (v := ?_) rfl rfl (by kernel_rfl) (by kernel_rfl) (by kernel_rfl) (fun _ _ _ h => h) (by kernel_rfl) hHeld ?_ ?_
      rotate_left
      · intro w hSw
        (try dsimp only at hSw)
        go_simp
        first | done | with_reducible rfl
      (try simp only [Act.put, List.setIfInBounds_toArray, List.set_cons_zero, List.set_cons_succ])
      refine held_take (i := 11) (d := 92) (v := ?_) rfl rfl (by kernel_rfl) (by kernel_rfl) (by kernel_rfl) (fun _ _ _ h => h) (by kernel_rfl) hHeld ?_ ?_
      rotate_left
      · intro w hSw
        (try dsimp only at hSw)
        go_simp
        first | done | with_reducible rfl
      (try simp only [Act.put, List.setIfInBounds_toArray, List.set_cons_zero, List.set_cons_succ])
      refine held_take (i := 12) (d := 93) (v := ?_) rfl rfl (by kernel_rfl) (by kernel_rfl) (by kernel_rfl) (fun _ _ _ h => h) (by kernel_rfl) hHeld ?_ ?_
      rotate_left
      · intro w hSw
        (try dsimp only at hSw)
        go_simp
        first | done | with_reducible rfl
      (try simp only [Act.put, List.setIfInBounds_toArray, List.set_cons_zero, List.set_cons_succ])
      refine held_take (i := 13) (d := 94) (v := ?_) rfl rfl (by kernel_rfl) (by kernel_rfl) (by kernel_rfl) (fun _ _ _ h => h) (by kernel_rfl) hHeld ?_ ?_
      rotate_left
      · intro w hSw
        (try dsimp only at hSw)
        go_simp
        first | done | with_reducible rfl
      (try simp only [Act.put, List.setIfInBounds_toArray, List.set_cons_zero, List.set_cons_succ])
      refine held_take (i := 14) (d := 95) (v := ?_) rfl rfl (by kernel_rfl) (by kernel_rfl) (by kernel_rfl) (fun _ _ _ h => h) (by kernel_rfl) hHeld ?_ ?_
      rotate_left
      · intro w hSw
        (try dsimp only at hSw)
        go_simp
        first | done | with_reducible rfl
      (try simp only [Act.put, List.setIfInBounds_toArray, List.set_cons_zero, List.set_cons_succ])
      refine held_take (i := 15) (d := 96) (v := ?_) rfl rfl (by kernel_rfl) (by kernel_rfl) (by kernel_rfl) (fun _ _ _ h => h) (by kernel_rfl) hHeld ?_ ?_
      rotate_left
      · intro w hSw
        (try dsimp only at hSw)
        go_simp
        first | done | with_reducible rfl
      (try simp only [Act.put, List.setIfInBounds_toArray, List.set_cons_zero, List.set_cons_succ])
      refine held_call (i := 8) rfl (by kernel_rfl) (by kernel_rfl) (fun K hK => ?_)
      go_simp
      go_at_call 60
      refine (HE.out _ _ _ W10.out).mono ?_
      rintro e w11 ⟨⟨E11, d11, rfl, hW⟩, ht⟩
      have W11 := hide hW
      clear hW
      have T11 := hide fun q => (T10.out q).trans (ht q)
      (try dsimp only)
      refine hK.out _ _ ?_ (fun hHeld' => ?_)
      · (try dsimp only)
        have kk' := (ht (w.heap.size + 1)).blk hHeld.1 (by omega) (by decide)
        have hbl := (ht w.heap.size).below (Nat.le_refl _) (Nat.le_refl _) (T10.out 0).size
        exact ⟨kk', kk'.cell 7, (hbl.cell (p := ⟨b', _, none⟩) hb').trans hHeld.2.2.1, (hbl.cell (p := ⟨b', _, none⟩) hb').trans hHeld.2.2.2.1, (hbl.cell (p := ⟨b', _, none⟩) hb').trans hHeld.2.2.2.2.1, (hbl.cell (p := ⟨b', _, none⟩) hb').trans hHeld.2.2.2.2.2.1, (hbl.cell (p := ⟨b', _, none⟩) hb').trans hHeld.2.2.2.2.2.2.1, (hbl.cell (p := ⟨b', _, none⟩) hb').trans hHeld.2.2.2.2.2.2.2.1, (hbl.cell (p := ⟨b', _, none⟩) hb').trans hHeld.2.2.2.2.2.2.2.2.1, (hbl.cell (p := ⟨b', _, none⟩) hb').trans hHeld.2.2.2.2.2.2.2.2.2⟩
      clear hK K hHeld
      have hHeld := hHeld'
      clear hHeld'
      (try simp only [Act.put, List.setIfInBounds_toArray, List.set_cons_zero, List.set_cons_succ])
      refine held_call (i := 16) rfl (by kernel_rfl) (by kernel_rfl) (fun K hK => ?_)
      go_simp
      go_at_call 61
      refine (HF1.out _ _ _ W11.out).mono ?_
      rintro e w12 ⟨⟨E12, d12, rfl, hW⟩, ht⟩
      have W12 := hide hW
      clear hW
      have T12 := hide fun q => (T11.out q).trans (ht q)
      (try dsimp only)
      refine hK.out _ _ ?_ (fun hHeld' => ?_)
      · (try dsimp only)
        have kk' := (ht (w.heap.size + 1)).blk hHeld.1 (by omega) (by decide)
        have hbl := (ht w.heap.size).below (Nat.le_refl _) (Nat.le_refl _) (T11.out 0).size
        exact ⟨kk', kk'.cell 7, (hbl.cell (p := ⟨b', _, none⟩) hb').trans hHeld.2.2.1, (hbl.cell (p := ⟨b', _, none⟩) hb').trans hHeld.2.2.2.1, (hbl.cell (p := ⟨b', _, none⟩) hb').trans hHeld.2.2.2.2.1, (hbl.cell (p := ⟨b', _, none⟩) hb').trans hHeld.2.2.2.2.2.1, (hbl.cell (p := ⟨b', _, none⟩) hb').trans hHeld.2.2.2.2.2.2.1, (hbl.cell (p := ⟨b', _, none⟩) hb').trans hHeld.2.2.2.2.2.2.2.1, (hbl.cell (p := ⟨b', _, none⟩) hb').trans hHeld.2.2.2.2.2.2.2.2.1, (hbl.cell (p := ⟨b', _, none⟩) hb').trans hHeld.2.2.2.2.2.2.2.2.2⟩
      clear hK K hHeld
      have hHeld := hHeld'
      clear hHeld'
      (try simp only [Act.put, List.setIfInBounds_toArray, List.set_cons_zero, List.set_cons_succ])
      refine held_take (i := 17) (d := 3) (v := ?_) rfl rfl (by kernel_rfl) (by kernel_rfl) (by kernel_rfl) (fun _ _ _ h => h) (by kernel_rfl) hHeld ?_ ?_
      rotate_left
      · intro w hSw
        (try dsimp only at hSw)
        go_simp
        first | done | with_reducible rfl
      (try simp only [Act.put, List.setIfInBounds_toArray, List.set_cons_zero, List.set_cons_succ])
      refine wpAnyH_done (by kernel_rfl) ?_ _
      have K8 := hide hHeld.1
      clear hHeld
      go_wp2
      go_roundg (n - (k + 1))
      case measure => have := Hg.out; omega
      case rel => exact ⟨k + 1, rfl, by omega, by go_num, ⟨E12, d12, by rw [HN.out], by rw [HN.out]; exact W12.out⟩, K8.out, T12.out⟩
    · go_wp2
      go_ret
      have e := HF.out
      have hb : Rec.bytes ⟨5, g, u, i, b, l, s, m⟩ = kb 5 ++ (text s ++ num m.length ++ m.flatMap keptB) := rfl
      rw [hb] at e
      have e1 := HL9.out
      rw [List.take_of_length_le (by rw [HL.out]; omega), ← HL3.out, ← HL2.out, ← HL.out] at e1
      have e2 : F = L9 := by rw [← e, ← e1]; simp [List.append_assoc]
      rw [e2]
      exact RB.mk rfl W9.out T9.out


theorem rbytes_any (r : Rcd) (A2 A3 : Option Addr) (c2 c3 : Nat) (w : World) (hk : 0 ≤ r.kind ∧ r.kind ≤ 6) (hr : RcdAt w w.heap.size r A2 A3) :
    Calls Try.prog 31 #[.agg (rcdCells r A2 c2 A3 c3)] w (RB w (Rec.bytes r)) := by
  have : r.kind = 0 ∨ r.kind = 1 ∨ r.kind = 2 ∨ r.kind = 3 ∨ r.kind = 4 ∨ r.kind = 5 ∨ r.kind = 6 := by omega
  rcases this with h | h | h | h | h | h | h
  · exact rbytes_0 r A2 A3 c2 c3 w h hr
  · exact rbytes_1 r A2 A3 c2 c3 w h hr
  · exact rbytes_2 r A2 A3 c2 c3 w h hr
  · exact rbytes_3 r A2 A3 c2 c3 w h hr
  · exact rbytes_4 r A2 A3 c2 c3 w h hr
  · exact rbytes_5 r A2 A3 c2 c3 w h hr
  · exact rbytes_6 r A2 A3 c2 c3 w h hr
end Go.Proofs.Ytlkkmgimjjnhjaa
namespace Go.Proofs.Ytlkkmgimjjnhjaa
open Go.RowKit Rec

theorem RcdIn.at {w : World} {r : Rcd} {A A' : Option Addr} (hi : RcdIn w r A A') (hm : may r = true) : RcdAt w w.heap.size r A A' := by
  have hf := may_fine hm
  exact ⟨hi.a, hi.k, hf.na, hf.nk, hf.pa, hf.pk, hf.gen, hf.su, hf.si, hf.ss⟩
theorem RB.below {w w' : World} {F : List UInt8} {e : Ending} (h : RB w F e w') : Below w.heap.size w w' := (h.2 w.heap.size).below (Nat.le_refl _) (Nat.le_refl _) (Nat.le_refl _)

set_option maxHeartbeats 1000000 in
theorem rmayP_any (r : Rcd) (A A' : Option Addr) (c c' : Nat) (w : World) (hi : RcdIn w r A A') :
    Calls Try.prog 16 #[.agg (rcdCells r A c A' c')] w fun e w' => e = .returned (.bool (mayAll r)) ∧ Below w.heap.size w w' := by
  have HM := hide fun (W : World) (hb : Below w.heap.size w W) => rmay_any r A A' c c' W (hi.later hb)
  rcases Bool.eq_false_or_eq_true (may r) with hm | hm
  · have HB := hide fun (W : World) (hb : Below w.heap.size w W) => rbytes_any r A A' c c' W (may_fine hm).kind ((hi.later hb).at hm)
    rw [hm] at HM
    obtain ⟨F, hF⟩ : ∃ F, Rec.bytes r = F := ⟨_, rfl⟩
    have e0 : mayAll r = decide (F.length ≤ 65536) := by unfold mayAll; rw [hm, hF]; rfl
    rw [hF] at HB
    rw [e0]
    clear e0 hF hm hi
    unfold rcdCells at HM HB ⊢
    obtain ⟨k, g, u, i, b, l, s, m⟩ := r
    dsimp only at HM HB ⊢
    go_enter Try.func16, Try.ntmps16
    go_wp2_with first
      | (go_at_call 34; refine (HM.out _ (below_alloc _ _)).mono ?_; rintro e w1 ⟨rfl, hb⟩; have k0 := (Blk.new w 28 #[.int .i8 k, .int .i64 g, .string u, .string i, .bool b, .slice A l.length c, .string s, .slice A' m.length c']).below hb (by simp); have Hb := hide (below_go (below_alloc _ _) hb (Nat.le_refl _)); clear hb; have q0 := k0.cell 0; have q1 := k0.cell 1; have q2 := k0.cell 2; have q3 := k0.cell 3; have q4 := k0.cell 4; have q5 := k0.cell 5; have q6 := k0.cell 6; have q7 := k0.cell 7)
      | (go_at_call 31; refine (HB.out _ Hb.out).mono ?_; intro e w2 hrb; have Hb2 := hide (below_go Hb.out hrb.below (Nat.le_refl _)); obtain ⟨⟨E, d, rfl, hS⟩, _⟩ := hrb; clear hS)
    go_ret
    exact ⟨ret_eq1 (bool_eq (by rw [decide_eq_decide]; omega)), Hb2.out⟩
  · rw [hm] at HM
    have e0 : mayAll r = false := by unfold mayAll; rw [hm]; rfl
    rw [e0]
    clear hi hm e0
    unfold rcdCells at HM ⊢
    go_enter Try.func16, Try.ntmps16
    go_wp2_with (go_at_call 34; refine (HM.out _ (below_alloc _ _)).mono ?_; rintro e w1 ⟨rfl, hb⟩)
    go_ret
    exact ⟨rfl, below_go (below_alloc _ _) (by assumption) (Nat.le_refl _)⟩

set_option maxHeartbeats 1000000 in
theorem rbytesP_any (r : Rcd) (A A' : Option Addr) (c c' : Nat) (w : World) (hi : RcdIn w r A A') :
    Calls Try.prog 12 #[.agg (rcdCells r A c A' c')] w fun e w' => e = .returned (.tuple #[.string (bytesOut r), .int .i64 (codeOut r)]) ∧ Below w.heap.size w w' := by
  have HM := hide fun (W : World) (hb : Below w.heap.size w W) => rmayP_any r A A' c c' W (hi.later hb)
  rcases Bool.eq_false_or_eq_true (mayAll r) with hma | hma
  · have hm : may r = true := by
      unfold mayAll at hma
      simp at hma
      exact hma.1
    have HB := hide fun (W : World) (hb : Below w.heap.size w W) => rbytes_any r A A' c c' W (may_fine hm).kind ((hi.later hb).at hm)
    have e0 : bytesOut r = bstr (Rec.bytes r) := by unfold bytesOut; rw [hma]; rfl
    have e1 : codeOut r = 0 := by unfold codeOut; rw [hma]; rfl
    rw [hma] at HM
    rw [e0, e1]
    obtain ⟨F, hF⟩ : ∃ F, Rec.bytes r = F := ⟨_, rfl⟩
    rw [hF] at HB ⊢
    clear e0 e1 hF hm hma hi
    unfold rcdCells at HM HB ⊢
    obtain ⟨k, g, u, i, b, l, s, m⟩ := r
    dsimp only at HM HB ⊢
    go_enter Try.func12, Try.ntmps12
    go_wp2_with first
      | (go_at_call 16; refine (HM.out _ (below_alloc _ _)).mono ?_; rintro e w1 ⟨rfl, hb⟩; have k0 := (Blk.new w 28 #[.int .i8 k, .int .i64 g, .string u, .string i, .bool b, .slice A l.length c, .string s, .slice A' m.length c']).below hb (by simp); have Hb := hide (below_go (below_alloc _ _) hb (Nat.le_refl _)); clear hb; have q0 := k0.cell 0; have q1 := k0.cell 1; have q2 := k0.cell 2; have q3 := k0.cell 3; have q4 := k0.cell 4; have q5 := k0.cell 5; have q6 := k0.cell 6; have q7 := k0.cell 7)
      | (go_at_call 31; refine (HB.out _ Hb.out).mono ?_; intro e w2 hrb; have Hb2 := hide (below_go Hb.out hrb.below (Nat.le_refl _)); obtain ⟨⟨E, d, rfl, hS⟩, _⟩ := hrb; have HS := hide hS; clear hS)
      | (with_reducible show wpList _ _ _ (⟨_, .convert 54 9 _, _, _, _, _⟩ :: _) _ _; refine wpList_to_string rfl 54 9 5 (.tmp 8) rfl Try.underlying54 Try.underlying5 Try.underlying9 w1.heap.size (.slice E F.length d) F.length rfl F HS.out.own ?_; intro t ht)
    go_ret2
    exact ⟨ret_eq2 (str_eqv (strIs_eq ht)) rfl, Hb2.out⟩
  · have e0 : bytesOut r = ⟨#[]⟩ := by unfold bytesOut; rw [hma]; rfl
    have e1 : codeOut r = 2 := by unfold codeOut; rw [hma]; rfl
    rw [hma] at HM
    rw [e0, e1]
    clear e0 e1 hma hi
    unfold rcdCells at HM ⊢
    go_enter Try.func12, Try.ntmps12
    go_wp2_with (go_at_call 16; refine (HM.out _ (below_alloc _ _)).mono ?_; rintro e w1 ⟨rfl, hb⟩)
    go_ret2
    exact ⟨rfl, below_go (below_alloc _ _) (by assumption) (Nat.le_refl _)⟩

set_option maxHeartbeats 1000000 in
theorem rframe_any (r : Rcd) (A A' : Option Addr) (c c' : Nat) (w : World) (hi : RcdIn w r A A') :
    Calls Try.prog 14 #[.agg (rcdCells r A c A' c')] w fun e w' => e = .returned (.tuple #[.string (frameOut r), .int .i64 (codeOut r)]) ∧ Below w.heap.size w w' := by
  have HM := hide fun (W : World) (hb : Below w.heap.size w W) => rbytesP_any r A A' c c' W (hi.later hb)
  clear hi
  unfold rcdCells at HM ⊢
  rcases Bool.eq_false_or_eq_true (mayAll r) with hm | hm
  · have e0 : bytesOut r = bstr (Rec.bytes r) := by unfold bytesOut; rw [hm]; rfl
    have e1 : codeOut r = 0 := by unfold codeOut; rw [hm]; rfl
    have e2 : frameOut r = bstr (text (bstr (Rec.bytes r))) := by unfold frameOut; rw [hm]; rfl
    have hsz : (bstr (Rec.bytes r)).size ≤ 65536 := by
      unfold mayAll at hm
      simp at hm
      simpa [bstr, ByteArray.size] using hm.2
    rw [e0, e1] at HM
    rw [e1, e2]
    clear e0 e1 e2 hm
    generalize bstr (Rec.bytes r) = t at *
    have HT := hide fun (W : World) => by
      have h := rtext_any t W W.heap.size [] none 0 (Sl.none_ (Nat.le_refl _)) (by simp) (by omega)
      rw [List.nil_append] at h
      exact h
    clear hsz
    obtain ⟨Lb, hLb⟩ : ∃ Lb, text t = Lb := ⟨_, rfl⟩
    rw [hLb] at HT ⊢
    clear hLb
    go_enter Try.func14, Try.ntmps14
    go_wp2_with first
      | (go_at_call 12; refine (HM.out _ (below_alloc _ _)).mono ?_; rintro e w1 ⟨rfl, hb⟩; have Hb := hide (below_go (below_alloc _ _) hb (Nat.le_refl _)); clear hb)
      | (go_at_call 33; refine (HT.out _).mono ?_; rintro e w2 ⟨⟨E, d, rfl, hW⟩, ht⟩; have W2 := hide hW; have Hb2 := hide (below_go Hb.out ((ht w1.heap.size).below (Nat.le_refl _) (Nat.le_refl _) (Nat.le_refl _)) (Nat.le_refl _)); clear hW ht)
      | (with_reducible show wpList _ _ _ (⟨_, .convert 54 9 _, _, _, _, _⟩ :: _) _ _; refine wpList_to_string rfl 54 9 5 (.tmp 15) rfl Try.underlying54 Try.underlying5 Try.underlying9 w1.heap.size (.slice E Lb.length d) Lb.length rfl Lb W2.out.own ?_; intro t ht)
    go_ret2
    exact ⟨ret_eq2 (str_eqv (strIs_eq ht)) rfl, Hb2.out⟩
  · have e0 : bytesOut r = ⟨#[]⟩ := by unfold bytesOut; rw [hm]; rfl
    have e1 : codeOut r = 2 := by unfold codeOut; rw [hm]; rfl
    have e2 : frameOut r = ⟨#[]⟩ := by unfold frameOut; rw [hm]; rfl
    rw [e0, e1] at HM
    rw [e1, e2]
    clear e0 e1 e2 hm
    go_enter Try.func14, Try.ntmps14
    go_wp2_with (go_at_call 12; refine (HM.out _ (below_alloc _ _)).mono ?_; rintro e w1 ⟨rfl, hb⟩)
    go_ret2
    exact ⟨rfl, below_go (below_alloc _ _) (by assumption) (Nat.le_refl _)⟩
end Go.Proofs.Ytlkkmgimjjnhjaa
