/- Tokens: a text. (Printed by wip/genTkP.py.) -/
import Derived.Test.YtbbpkcddifmieaaGreatDoorSw09
set_option linter.unusedSimpArgs false
set_option linter.unusedVariables false
namespace Go.Proofs.YtbbpkcddifmieaaGreatDoor
open Go.RowKit Tk

theorem index_one (l : L) (c : UInt8) : Lib.index l [c] = Lib.indexByte l c := by
 induction l with
 | nil => rfl
 | cons b l ih =>
  unfold Lib.index Lib.indexByte
  rw [ih]
  have : ([c] : L).isPrefixOf (b :: l) = (b == c) := by
   simp only [List.isPrefixOf, Bool.and_true]
   rw [Bool.eq_iff_iff, beq_iff_eq, beq_iff_eq]
   exact eq_comm
  rw [this]
theorem text_ends (l : L) : (till [60] l).getD l.length = if Lib.indexByte l 60 < 0 then l.length else (Lib.indexByte l 60).toNat := by
 unfold till
 rw [index_one]
 split <;> rfl
theorem index_pos {c : UInt8} {l : L} (h : ([c] : L).isPrefixOf l = false) : Lib.index l [c] ≠ 0 := by
 cases l with
 | nil => simp [Lib.index]
 | cons b l =>
  unfold Lib.index
  rw [h]
  have h1 := Lib.index_ge l [c]
  show (if Lib.index l [c] == -1 then -1 else Lib.index l [c] + 1) ≠ 0
  split
  ·decide
  ·rename_i h2
   have h3 : Lib.index l [c] ≠ -1 := by simpa using h2
   omega
theorem text_pos {l : L} (h : ([60] : L).isPrefixOf l = false) (h0 : 0 < l.length) : 0 < (till [60] l).getD l.length := by
 cases ht : till [60] l with
 | none => exact h0
 | some n =>
  have h1 := (till_some ht).1
  have h2 := index_pos h
  simp
  omega
theorem text_short (l : L) : (till [60] l).getD l.length ≤ l.length := by
 cases h : till [60] l with
 | none => exact Nat.le_refl _
 | some n =>
  have := (till_some h).2
  simp at this ⊢
  omega

set_option maxHeartbeats 16000000 in
set_option maxRecDepth 20000 in
theorem text_any (w : World) (base X T : Nat) (s : ByteArray) (k : Nat) (hX : Sc w X s k) (hT : T0 w T k) (hne : X ≠ T) (hX6 : 6 ≤ X) (hT6 : 6 ≤ T) (hg : Gl w) (ha : k < s.size) (hs : s.size ≤ 1000000000) (h60 : ([60] : L).isPrefixOf (s.data.toList.drop k) = false) :
  Calls Tryz.prog 80 #[.pointer (some ⟨X, 0, none⟩), .pointer (some ⟨T, 0, none⟩)] w (PieceR w base X T s k (Tk.text k (s.data.toList.drop k))) := by
 have HP := hide (show ∀ W, Calls Tryz.prog 20 #[.string (s.extract k s.size), .int .u8 60] W fun e w' => e = .returned (.int .i64 (Lib.indexByte (s.data.toList.drop k) 60)) ∧ w' = W from fun W => by
  have h := Tryz.strings_IndexByte (s.extract k s.size) 60 W
  rw [extract_end, bstr_list] at h
  rw [extract_end]
  exact h)
 have HS0 := hide hX
 have HT0 := hide hT
 have f0 := Tb.f hT 0
 have c0 := Tb.c0 hT
 have hns : ¬ s.size < k := by omega
 have HG := hide hg
 obtain ⟨z, hz⟩ : ∃ z, Lib.indexByte (s.data.toList.drop k) 60 = z := ⟨_, rfl⟩
 obtain ⟨n, hn⟩ : ∃ n, (till [60] (s.data.toList.drop k)).getD (s.data.toList.drop k).length = n := ⟨_, rfl⟩
 have hte := text_ends (s.data.toList.drop k)
 have hts := text_short (s.data.toList.drop k)
 have htp := text_pos h60
 rw [hn, List.length_drop, size_list] at hts htp
 rw [hn, hz, List.length_drop, size_list] at hte
 rw [hz] at HP
 have HX := hide (show s.extract k (k + n) = bstr ((s.data.toList.drop k).take n) by rw [extract_bstr, show k + n - k = n by omega])
 have HC := hide fun W (hW : Gl W) => (show Calls Tryz.prog 110 #[.string (s.extract k (k + n)), .string ⟨#[93, 93, 62]⟩] W fun e w' => e = .returned (.bool (decide (0 ≤ Lib.index ((s.data.toList.drop k).take n) [93, 93, 62]))) ∧ w' = W from by
  obtain ⟨m, hm⟩ := hW.most
  have h := Tryz.strings_Contains (s.extract k (k + n)) ⟨#[93, 93, 62]⟩ m W (by rw [ByteArray.size_extract]; omega) hm
  rw [HX.out, bstr_list] at h
  rw [HX.out]
  exact h)
 obtain ⟨res, hres⟩ : ∃ o, Tk.text k (s.data.toList.drop k) = o := ⟨_, rfl⟩
 rw [hres]
 have hR : res = if Lib.index ((s.data.toList.drop k).take n) [93, 93, 62] < 0 then some ⟨2, [], [], false, (s.data.toList.drop k).take n, k, k + n⟩ else none := by
  rw [← hres]
  unfold Tk.text
  dsimp only
  rw [hn]
 obtain ⟨cb, hcb⟩ : ∃ b, decide (0 ≤ Lib.index ((s.data.toList.drop k).take n) [93, 93, 62]) = b := ⟨_, rfl⟩
 rw [hcb] at HC
 have hR' : res = if cb = true then none else some ⟨2, [], [], false, (s.data.toList.drop k).take n, k, k + n⟩ := by
  rw [hR, ← hcb]
  by_cases h : Lib.index ((s.data.toList.drop k).take n) [93, 93, 62] < 0
  ·rw [if_pos h, if_neg (by simp; omega)]
  ·rw [if_neg h, if_pos (by simp; omega)]
 have HR := hide hR'
 have HN := hide (show k + n ≤ s.size by omega)
 have HN1 := hide (show 0 < n from htp (by omega))
 clear hres hR hR' hcb hn hts htp hz h60
 have hale : k ≤ s.size := by omega
 clear ha
 go_enter Tryz.func80, Tryz.ntmps80
 go_wp2
 have S1 := hide (Sc.far HS0.out hne (i := 0) (.int .i8 2))
 have T1 := hide (Tb.kind_ HT0.out 2)
 have B1 := hide ((But2.refl X T w).setCell (p := ⟨T, 0, none⟩) (.inr (.inl rfl)) (.int .i8 2))
 clear f0 c0
 refine wp_region_held_drew (S := fun W => Sc W X s k ∧ But2 X T w W ∧ Tb W T 2 ⟨#[]⟩ (.slice none 0 0) false ⟨#[]⟩ k 0) (by kernel_rfl) ?_ (fun hHeld => ?_)
 ·(try dsimp only)
  first | exact ⟨Blk.drew S1.out, But2.drew B1.out, Blk.drew T1.out⟩ | exact ⟨Blk.go hHeld.1 hb, But2.go hHeld.2.1 hb, Blk.go hHeld.2.2 hb⟩ | exact hHeld
 change wpAnyH _ _ _ _ _ 11 #[false, false, false, false, false, false, false, false, false, false, false] _ _
 refine held_take (i := 0) (d := 9) (v := ?_) rfl rfl (by kernel_rfl) (by kernel_rfl) (by kernel_rfl) (fun _ _ _ h => h) (by kernel_rfl) hHeld ?_ ?_
 rotate_left
 ·intro w hSw
  (try dsimp only at hSw)
  go_simp
  first | done | with_reducible rfl
 (try simp only [Act.put, List.setIfInBounds_toArray, List.set_cons_zero, List.set_cons_succ])
 refine held_take (i := 1) (d := 10) (v := ?_) rfl rfl (by kernel_rfl) (by kernel_rfl) (by kernel_rfl) (fun _ _ _ h => h) (by kernel_rfl) hHeld ?_ ?_
 rotate_left
 ·intro w hSw
  (try dsimp only at hSw)
  go_simp
  first | done | with_reducible rfl
 (try simp only [Act.put, List.setIfInBounds_toArray, List.set_cons_zero, List.set_cons_succ])
 refine held_take (i := 2) (d := 11) (v := ?_) rfl rfl (by kernel_rfl) (by kernel_rfl) (by kernel_rfl) (fun _ _ _ h => h) (by kernel_rfl) hHeld ?_ ?_
 rotate_left
 ·intro w hSw
  (try dsimp only at hSw)
  go_simp
  first | done | with_reducible rfl
 (try simp only [Act.put, List.setIfInBounds_toArray, List.set_cons_zero, List.set_cons_succ])
 refine held_take (i := 3) (d := 12) (v := ?_) rfl rfl (by kernel_rfl) (by kernel_rfl) (by kernel_rfl) (fun _ _ _ h => h) (by kernel_rfl) hHeld ?_ ?_
 rotate_left
 ·intro w hSw
  (try dsimp only at hSw)
  have q0 := Sc.c0 hSw.1
  have q1 := Sc.c1 hSw.1
  go_simp
  first | done | with_reducible rfl
 (try simp only [Act.put, List.setIfInBounds_toArray, List.set_cons_zero, List.set_cons_succ])
 refine held_take (i := 4) (d := 13) (v := ?_) rfl rfl (by kernel_rfl) (by kernel_rfl) (by kernel_rfl) (fun _ _ _ h => h) (by kernel_rfl) hHeld ?_ ?_
 rotate_left
 ·intro w hSw
  (try dsimp only at hSw)
  go_simp
  first | done | with_reducible rfl
 (try simp only [Act.put, List.setIfInBounds_toArray, List.set_cons_zero, List.set_cons_succ])
 refine held_take (i := 5) (d := 14) (v := ?_) rfl rfl (by kernel_rfl) (by kernel_rfl) (by kernel_rfl) (fun _ _ _ h => h) (by kernel_rfl) hHeld ?_ ?_
 rotate_left
 ·intro w hSw
  (try dsimp only at hSw)
  go_simp
  first | done | with_reducible rfl
 (try simp only [Act.put, List.setIfInBounds_toArray, List.set_cons_zero, List.set_cons_succ])
 refine held_take (i := 6) (d := 15) (v := ?_) rfl rfl (by kernel_rfl) (by kernel_rfl) (by kernel_rfl) (fun _ _ _ h => h) (by kernel_rfl) hHeld ?_ ?_
 rotate_left
 ·intro w hSw
  (try dsimp only at hSw)
  go_simp
  first | done | with_reducible rfl
 (try simp only [Act.put, List.setIfInBounds_toArray, List.set_cons_zero, List.set_cons_succ])
 refine held_take (i := 7) (d := 16) (v := ?_) rfl rfl (by kernel_rfl) (by kernel_rfl) (by kernel_rfl) (fun _ _ _ h => h) (by kernel_rfl) hHeld ?_ ?_
 rotate_left
 ·intro w hSw
  (try dsimp only at hSw)
  have q0 := Sc.c0 hSw.1
  have q1 := Sc.c1 hSw.1
  go_simp
  first | done | with_reducible rfl
 (try simp only [Act.put, List.setIfInBounds_toArray, List.set_cons_zero, List.set_cons_succ])
 refine held_take (i := 8) (d := 17) (v := ?_) rfl rfl (by kernel_rfl) (by kernel_rfl) (by kernel_rfl) (fun _ _ _ h => h) (by kernel_rfl) hHeld ?_ ?_
 rotate_left
 ·intro w hSw
  (try dsimp only at hSw)
  go_simp
  first | done | with_reducible rfl
 (try simp only [Act.put, List.setIfInBounds_toArray, List.set_cons_zero, List.set_cons_succ])
 refine held_call (i := 9) rfl (by kernel_rfl) (by kernel_rfl) (fun K hK => ?_)
 go_simp
 go_at_call 20
 refine (HP.out _).mono ?_
 rintro e w' ⟨rfl, rfl⟩
 (try dsimp only)
 refine hK.out _ _ ?_ (fun hHeld' => ?_)
 ·(try dsimp only)
  first | exact ⟨Blk.drew S1.out, But2.drew B1.out, Blk.drew T1.out⟩ | exact ⟨Blk.go hHeld.1 hb, But2.go hHeld.2.1 hb, Blk.go hHeld.2.2 hb⟩ | exact hHeld
 clear hK K hHeld
 have hHeld := hHeld'
 clear hHeld'
 (try simp only [Act.put, List.setIfInBounds_toArray, List.set_cons_zero, List.set_cons_succ])
 refine held_take (i := 10) (d := 5) (v := ?_) rfl rfl (by kernel_rfl) (by kernel_rfl) (by kernel_rfl) (fun _ _ _ h => h) (by kernel_rfl) hHeld ?_ ?_
 rotate_left
 ·intro w hSw
  (try dsimp only at hSw)
  go_simp
  first | done | with_reducible rfl
 (try simp only [Act.put, List.setIfInBounds_toArray, List.set_cons_zero, List.set_cons_succ])
 refine wpAnyH_done (by kernel_rfl) ?_ _
 have S2 := hide hHeld.1
 have B2 := hide hHeld.2.1
 have T2 := hide hHeld.2.2
 clear hHeld HP S1 B1 T1 HS0 HT0
 generalize (w.setCell ⟨T, 0, none⟩ (.int .i8 2)).drew = W2 at *
 have hw0 : IntKind.i64.wrap ((k : Int) + n) = (k : Int) + n := IntWalk.i64_in _ (by have := HN.out; omega)
 have h4 : (0 : Int) ≤ (k : Int) + n ∧ (k : Int) + n ≤ (s.size : Int) := by have := HN.out; omega
 have h5 : (k : Int) ≤ (k : Int) + n := by omega
 have h6 : ((k : Int) + n).toNat = k + n := by omega
 by_cases hz : z < 0
 ·rw [if_pos hz] at hte
  have hw1 : IntKind.i64.wrap ((s.size : Int) - k) = (n : Int) := by rw [show (s.size : Int) - k = n by omega]; exact IntWalk.i64_in _ (by omega)
  have hnk : s.size - k = n := by omega
  have hw2 : IntKind.i64.wrap ((s.size - k : Nat) : Int) = (n : Int) := by rw [show s.size - k = n by omega]; exact IntWalk.i64_in _ (by omega)
  clear hte
  go_wp2
  refine wp_region_held_drew (S := fun W => Sc W X s k ∧ But2 X T w W ∧ Tb W T 2 ⟨#[]⟩ (.slice none 0 0) false ⟨#[]⟩ k 0) (by kernel_rfl) ?_ (fun hHeld => ?_)
  ·(try dsimp only)
   first | exact ⟨Blk.drew S2.out, But2.drew B2.out, Blk.drew T2.out⟩ | exact ⟨Blk.go hHeld.1 hb, But2.go hHeld.2.1 hb, Blk.go hHeld.2.2 hb⟩ | exact hHeld
  change wpAnyH _ _ _ _ _ 11 #[false, false, false, false, false, false, false, false, false, false, false] _ _
  refine held_take (i := 0) (d := 21) (v := ?_) rfl rfl (by kernel_rfl) (by kernel_rfl) (by kernel_rfl) (fun _ _ _ h => h) (by kernel_rfl) hHeld ?_ ?_
  rotate_left
  ·intro w hSw
   (try dsimp only at hSw)
   go_simp
   first | done | with_reducible rfl
  (try simp only [Act.put, List.setIfInBounds_toArray, List.set_cons_zero, List.set_cons_succ])
  refine held_take (i := 1) (d := 22) (v := ?_) rfl rfl (by kernel_rfl) (by kernel_rfl) (by kernel_rfl) (fun _ _ _ h => h) (by kernel_rfl) hHeld ?_ ?_
  rotate_left
  ·intro w hSw
   (try dsimp only at hSw)
   go_simp
   first | done | with_reducible rfl
  (try simp only [Act.put, List.setIfInBounds_toArray, List.set_cons_zero, List.set_cons_succ])
  refine held_take (i := 2) (d := 23) (v := ?_) rfl rfl (by kernel_rfl) (by kernel_rfl) (by kernel_rfl) (fun _ _ _ h => h) (by kernel_rfl) hHeld ?_ ?_
  rotate_left
  ·intro w hSw
   (try dsimp only at hSw)
   go_simp
   first | done | with_reducible rfl
  (try simp only [Act.put, List.setIfInBounds_toArray, List.set_cons_zero, List.set_cons_succ])
  refine held_take (i := 3) (d := 24) (v := ?_) rfl rfl (by kernel_rfl) (by kernel_rfl) (by kernel_rfl) (fun _ _ _ h => h) (by kernel_rfl) hHeld ?_ ?_
  rotate_left
  ·intro w hSw
   (try dsimp only at hSw)
   have q0 := Sc.c0 hSw.1
   have q1 := Sc.c1 hSw.1
   go_simp
   first | done | with_reducible rfl
  (try simp only [Act.put, List.setIfInBounds_toArray, List.set_cons_zero, List.set_cons_succ])
  refine held_take (i := 4) (d := 25) (v := ?_) rfl rfl (by kernel_rfl) (by kernel_rfl) (by kernel_rfl) (fun _ _ _ h => h) (by kernel_rfl) hHeld ?_ ?_
  rotate_left
  ·intro w hSw
   (try dsimp only at hSw)
   go_simp
   first | done | with_reducible rfl
  (try simp only [Act.put, List.setIfInBounds_toArray, List.set_cons_zero, List.set_cons_succ])
  refine held_take (i := 5) (d := 26) (v := ?_) rfl rfl (by kernel_rfl) (by kernel_rfl) (by kernel_rfl) (fun _ _ _ h => h) (by kernel_rfl) hHeld ?_ ?_
  rotate_left
  ·intro w hSw
   (try dsimp only at hSw)
   go_simp
   first | done | with_reducible rfl
  (try simp only [Act.put, List.setIfInBounds_toArray, List.set_cons_zero, List.set_cons_succ])
  refine held_take (i := 6) (d := 27) (v := ?_) rfl rfl (by kernel_rfl) (by kernel_rfl) (by kernel_rfl) (fun _ _ _ h => h) (by kernel_rfl) hHeld ?_ ?_
  rotate_left
  ·intro w hSw
   (try dsimp only at hSw)
   go_simp
   first | done | with_reducible rfl
  (try simp only [Act.put, List.setIfInBounds_toArray, List.set_cons_zero, List.set_cons_succ])
  refine held_take (i := 7) (d := 28) (v := ?_) rfl rfl (by kernel_rfl) (by kernel_rfl) (by kernel_rfl) (fun _ _ _ h => h) (by kernel_rfl) hHeld ?_ ?_
  rotate_left
  ·intro w hSw
   (try dsimp only at hSw)
   go_simp
   first | done | with_reducible rfl
  (try simp only [Act.put, List.setIfInBounds_toArray, List.set_cons_zero, List.set_cons_succ])
  refine held_take (i := 8) (d := 29) (v := ?_) rfl rfl (by kernel_rfl) (by kernel_rfl) (by kernel_rfl) (fun _ _ _ h => h) (by kernel_rfl) hHeld ?_ ?_
  rotate_left
  ·intro w hSw
   (try dsimp only at hSw)
   have q0 := Sc.c0 hSw.1
   have q1 := Sc.c1 hSw.1
   go_simp
   first | done | with_reducible rfl
  (try simp only [Act.put, List.setIfInBounds_toArray, List.set_cons_zero, List.set_cons_succ])
  refine held_take (i := 9) (d := 30) (v := ?_) rfl rfl (by kernel_rfl) (by kernel_rfl) (by kernel_rfl) (fun _ _ _ h => h) (by kernel_rfl) hHeld ?_ ?_
  rotate_left
  ·intro w hSw
   (try dsimp only at hSw)
   go_simp
   first | done | with_reducible rfl
  (try simp only [Act.put, List.setIfInBounds_toArray, List.set_cons_zero, List.set_cons_succ])
  refine held_take (i := 10) (d := 5) (v := ?_) rfl rfl (by kernel_rfl) (by kernel_rfl) (by kernel_rfl) (fun _ _ _ h => h) (by kernel_rfl) hHeld ?_ ?_
  rotate_left
  ·intro w hSw
   (try dsimp only at hSw)
   go_simp
   first | done | with_reducible rfl
  (try simp only [Act.put, List.setIfInBounds_toArray, List.set_cons_zero, List.set_cons_succ])
  refine wpAnyH_done (by kernel_rfl) ?_ _
  have S3 := hide hHeld.1
  have B3 := hide hHeld.2.1
  have T3 := hide hHeld.2.2
  clear hHeld S2 B2 T2 hz
  generalize W2.drew = W3 at *
  go_wp2
  refine wp_region_held_drew (S := fun W => Sc W X s k ∧ But2 X T w W ∧ ∃ tx, Tb W T 2 ⟨#[]⟩ (.slice none 0 0) false tx k 0) (by kernel_rfl) ?_ (fun hHeld => ?_)
  ·(try dsimp only)
   first | exact ⟨Blk.drew S3.out, But2.drew B3.out, ⟨_, Blk.drew T3.out⟩⟩ | exact ⟨Blk.go hHeld.1 hb, But2.go hHeld.2.1 hb, Blk.go hHeld.2.2 hb⟩ | exact hHeld
  change wpAnyH _ _ _ _ _ 19 #[false, false, false, false, false, false, false, false, false, false, false, false, false, false, false, false, false, false, false] _ _
  refine held_take (i := 0) (d := 31) (v := ?_) rfl rfl (by kernel_rfl) (by kernel_rfl) (by kernel_rfl) (fun _ _ _ h => h) (by kernel_rfl) hHeld ?_ ?_
  rotate_left
  ·intro w hSw
   (try dsimp only at hSw)
   go_simp
   first | done | with_reducible rfl
  (try simp only [Act.put, List.setIfInBounds_toArray, List.set_cons_zero, List.set_cons_succ])
  refine held_take (i := 1) (d := 32) (v := ?_) rfl rfl (by kernel_rfl) (by kernel_rfl) (by kernel_rfl) (fun _ _ _ h => h) (by kernel_rfl) hHeld ?_ ?_
  rotate_left
  ·intro w hSw
   (try dsimp only at hSw)
   go_simp
   first | done | with_reducible rfl
  (try simp only [Act.put, List.setIfInBounds_toArray, List.set_cons_zero, List.set_cons_succ])
  refine held_take (i := 2) (d := 33) (v := ?_) rfl rfl (by kernel_rfl) (by kernel_rfl) (by kernel_rfl) (fun _ _ _ h => h) (by kernel_rfl) hHeld ?_ ?_
  rotate_left
  ·intro w hSw
   (try dsimp only at hSw)
   go_simp
   first | done | with_reducible rfl
  (try simp only [Act.put, List.setIfInBounds_toArray, List.set_cons_zero, List.set_cons_succ])
  refine held_take (i := 3) (d := 34) (v := ?_) rfl rfl (by kernel_rfl) (by kernel_rfl) (by kernel_rfl) (fun _ _ _ h => h) (by kernel_rfl) hHeld ?_ ?_
  rotate_left
  ·intro w hSw
   (try dsimp only at hSw)
   go_simp
   first | done | with_reducible rfl
  (try simp only [Act.put, List.setIfInBounds_toArray, List.set_cons_zero, List.set_cons_succ])
  refine held_take (i := 4) (d := 35) (v := ?_) rfl rfl (by kernel_rfl) (by kernel_rfl) (by kernel_rfl) (fun _ _ _ h => h) (by kernel_rfl) hHeld ?_ ?_
  rotate_left
  ·intro w hSw
   (try dsimp only at hSw)
   have q0 := Sc.c0 hSw.1
   have q1 := Sc.c1 hSw.1
   go_simp
   first | done | with_reducible rfl
  (try simp only [Act.put, List.setIfInBounds_toArray, List.set_cons_zero, List.set_cons_succ])
  refine held_take (i := 5) (d := 36) (v := ?_) rfl rfl (by kernel_rfl) (by kernel_rfl) (by kernel_rfl) (fun _ _ _ h => h) (by kernel_rfl) hHeld ?_ ?_
  rotate_left
  ·intro w hSw
   (try dsimp only at hSw)
   go_simp
   first | done | with_reducible rfl
  (try simp only [Act.put, List.setIfInBounds_toArray, List.set_cons_zero, List.set_cons_succ])
  refine held_take (i := 6) (d := 37) (v := ?_) rfl rfl (by kernel_rfl) (by kernel_rfl) (by kernel_rfl) (fun _ _ _ h => h) (by kernel_rfl) hHeld ?_ ?_
  rotate_left
  ·intro w hSw
   (try dsimp only at hSw)
   go_simp
   first | done | with_reducible rfl
  (try simp only [Act.put, List.setIfInBounds_toArray, List.set_cons_zero, List.set_cons_succ])
  refine held_take (i := 7) (d := 38) (v := ?_) rfl rfl (by kernel_rfl) (by kernel_rfl) (by kernel_rfl) (fun _ _ _ h => h) (by kernel_rfl) hHeld ?_ ?_
  rotate_left
  ·intro w hSw
   (try dsimp only at hSw)
   go_simp
   first | done | with_reducible rfl
  (try simp only [Act.put, List.setIfInBounds_toArray, List.set_cons_zero, List.set_cons_succ])
  refine held_take (i := 8) (d := 39) (v := ?_) rfl rfl (by kernel_rfl) (by kernel_rfl) (by kernel_rfl) (fun _ _ _ h => h) (by kernel_rfl) hHeld ?_ ?_
  rotate_left
  ·intro w hSw
   (try dsimp only at hSw)
   have q0 := Sc.c0 hSw.1
   have q1 := Sc.c1 hSw.1
   go_simp
   first | done | with_reducible rfl
  (try simp only [Act.put, List.setIfInBounds_toArray, List.set_cons_zero, List.set_cons_succ])
  refine held_take (i := 9) (d := 40) (v := ?_) rfl rfl (by kernel_rfl) (by kernel_rfl) (by kernel_rfl) (fun _ _ _ h => h) (by kernel_rfl) hHeld ?_ ?_
  rotate_left
  ·intro w hSw
   (try dsimp only at hSw)
   go_simp
   first | done | with_reducible rfl
  (try simp only [Act.put, List.setIfInBounds_toArray, List.set_cons_zero, List.set_cons_succ])
  refine held_take (i := 10) (d := 41) (v := ?_) rfl rfl (by kernel_rfl) (by kernel_rfl) (by kernel_rfl) (fun _ _ _ h => h) (by kernel_rfl) hHeld ?_ ?_
  rotate_left
  ·intro w hSw
   (try dsimp only at hSw)
   go_simp
   first | done | with_reducible rfl
  (try simp only [Act.put, List.setIfInBounds_toArray, List.set_cons_zero, List.set_cons_succ])
  refine held_take (i := 11) (d := 42) (v := ?_) rfl rfl (by kernel_rfl) (by kernel_rfl) (by kernel_rfl) (fun _ _ _ h => h) (by kernel_rfl) hHeld ?_ ?_
  rotate_left
  ·intro w hSw
   (try dsimp only at hSw)
   go_simp
   first | done | with_reducible rfl
  (try simp only [Act.put, List.setIfInBounds_toArray, List.set_cons_zero, List.set_cons_succ])
  refine held_take (i := 12) (d := 43) (v := ?_) rfl rfl (by kernel_rfl) (by kernel_rfl) (by kernel_rfl) (fun _ _ _ h => h) (by kernel_rfl) hHeld ?_ ?_
  rotate_left
  ·intro w hSw
   (try dsimp only at hSw)
   have q0 := Sc.c0 hSw.1
   have q1 := Sc.c1 hSw.1
   go_simp
   first | done | with_reducible rfl
  (try simp only [Act.put, List.setIfInBounds_toArray, List.set_cons_zero, List.set_cons_succ])
  refine held_take (i := 13) (d := 44) (v := ?_) rfl rfl (by kernel_rfl) (by kernel_rfl) (by kernel_rfl) (fun _ _ _ h => h) (by kernel_rfl) hHeld ?_ ?_
  rotate_left
  ·intro w hSw
   (try dsimp only at hSw)
   go_simp
   first | done | with_reducible rfl
  (try simp only [Act.put, List.setIfInBounds_toArray, List.set_cons_zero, List.set_cons_succ])
  refine held_take (i := 14) (d := 45) (v := ?_) rfl rfl (by kernel_rfl) (by kernel_rfl) (by kernel_rfl) (fun _ _ _ h => h) (by kernel_rfl) hHeld ?_ ?_
  rotate_left
  ·intro w hSw
   (try dsimp only at hSw)
   go_simp
   first | done | with_reducible rfl
  (try simp only [Act.put, List.setIfInBounds_toArray, List.set_cons_zero, List.set_cons_succ])
  refine held_take (i := 15) (d := 46) (v := ?_) rfl rfl (by kernel_rfl) (by kernel_rfl) (by kernel_rfl) (fun _ _ _ h => h) (by kernel_rfl) hHeld ?_ ?_
  rotate_left
  ·intro w hSw
   (try dsimp only at hSw)
   go_simp
   first | done | with_reducible rfl
  (try simp only [Act.put, List.setIfInBounds_toArray, List.set_cons_zero, List.set_cons_succ])
  refine held_take (i := 16) (d := 47) (v := ?_) rfl rfl (by kernel_rfl) (by kernel_rfl) (by kernel_rfl) (fun _ _ _ h => h) (by kernel_rfl) hHeld ?_ ?_
  rotate_left
  ·intro w hSw
   (try dsimp only at hSw)
   go_simp
   first | done | with_reducible rfl
  (try simp only [Act.put, List.setIfInBounds_toArray, List.set_cons_zero, List.set_cons_succ])
  refine held_take (i := 17) (d := 48) (v := ?_) rfl rfl (by kernel_rfl) (by kernel_rfl) (by kernel_rfl) (fun _ _ _ h => h) (by kernel_rfl) hHeld ?_ ?_
  rotate_left
  ·intro w hSw
   (try dsimp only at hSw)
   go_simp
   first | done | with_reducible rfl
  (try simp only [Act.put, List.setIfInBounds_toArray, List.set_cons_zero, List.set_cons_succ])
  obtain ⟨tx, hT5⟩ := hHeld.2.2
  have f4 := Tb.f hT5 4
  have c4 := Tb.c4 hT5
  have S6 := hide (Sc.far (i := 4) hHeld.1 hne (.string (s.extract k (k + n))))
  have B6 := hide (hHeld.2.1.setCell (p := ⟨T, 4, none⟩) (.inr (.inl rfl)) (.string (s.extract k (k + n))))
  have T6 := hide (Tb.text_ hT5 (s.extract k (k + n)))
  clear hT5
  refine held_call (i := 18) rfl (by kernel_rfl) (by kernel_rfl) (fun K hK => ?_)
  go_simp
  (try dsimp only)
  refine hK.out _ _ ?_ (fun hHeld' => ?_)
  ·exact ⟨S6.out, B6.out, _, T6.out⟩
  clear f4 c4
  clear hK K hHeld
  have hHeld := hHeld'
  clear hHeld'
  (try simp only [Act.put, List.setIfInBounds_toArray, List.set_cons_zero, List.set_cons_succ])
  refine wpAnyH_done (by kernel_rfl) ?_ _
  clear hHeld S3 B3 T3
  obtain ⟨W6, hW6⟩ : ∃ W6, (W3.setCell ⟨T, 4, none⟩ (.string (s.extract k (k + n)))).drew = W6 := ⟨_, rfl⟩
  rw [hW6]
  replace S6 := hide (show Sc W6 X s k by rw [← hW6]; exact S6.out)
  replace B6 := hide (show But2 X T w W6 by rw [← hW6]; exact B6.out)
  replace T6 := hide (show Tb W6 T 2 ⟨#[]⟩ (.slice none 0 0) false (s.extract k (k + n)) k 0 by rw [← hW6]; exact T6.out)
  clear hW6
  have q1 := Sc.c1 S6.out
  have f1 := Sc.f1 S6.out
  have c4 := Tb.c4 T6.out
  go_wp2_with fail
  have S7 := hide (Sc.move S6.out (k + n))
  have B7 := hide (B6.out.setCell (p := ⟨X, 1, none⟩) (.inl rfl) (.int .i64 ((k + n : Nat) : Int)))
  have T7 := hide (Tb.far (i := 1) T6.out (Ne.symm hne) (.int .i64 ((k + n : Nat) : Int)))
  clear q1 f1 c4
  refine (HC.out _ (HG.out.but2 B7.out hX6 hT6)).mono ?_
  rintro e w8 ⟨rfl, rfl⟩
  cases cb with
  | true =>
   go_wp2
   go_ret
   exact PieceR.no (HR.out.trans (by simp)) B7.out rfl HN.out S7.out ⟨_, _, _, _, _, _, _, T7.out⟩
  | false =>
   go_wp2
   go_ret
   refine PieceR.yes (t := ⟨2, [], [], false, (s.data.toList.drop k).take n, k, k + n⟩) (HR.out.trans (by simp)) B7.out rfl HN.out (by have := HN1.out; dsimp only; omega) S7.out ⟨none, 0, ?_, World.ownsRow_nil _ _ _ _⟩
   have h := T7.out
   rw [HX.out] at h
   exact h
 ·rw [if_neg hz] at hte
  obtain rfl : z = (n : Int) := by omega
  have hzn : ¬ ((n : Int) < 0) := by omega
  clear hz hte
  go_wp2
  refine wp_region_held_drew (S := fun W => Sc W X s k ∧ But2 X T w W ∧ ∃ tx, Tb W T 2 ⟨#[]⟩ (.slice none 0 0) false tx k 0) (by kernel_rfl) ?_ (fun hHeld => ?_)
  ·(try dsimp only)
   first | exact ⟨Blk.drew S2.out, But2.drew B2.out, ⟨_, Blk.drew T2.out⟩⟩ | exact ⟨Blk.go hHeld.1 hb, But2.go hHeld.2.1 hb, Blk.go hHeld.2.2 hb⟩ | exact hHeld
  change wpAnyH _ _ _ _ _ 19 #[false, false, false, false, false, false, false, false, false, false, false, false, false, false, false, false, false, false, false] _ _
  refine held_take (i := 0) (d := 31) (v := ?_) rfl rfl (by kernel_rfl) (by kernel_rfl) (by kernel_rfl) (fun _ _ _ h => h) (by kernel_rfl) hHeld ?_ ?_
  rotate_left
  ·intro w hSw
   (try dsimp only at hSw)
   go_simp
   first | done | with_reducible rfl
  (try simp only [Act.put, List.setIfInBounds_toArray, List.set_cons_zero, List.set_cons_succ])
  refine held_take (i := 1) (d := 32) (v := ?_) rfl rfl (by kernel_rfl) (by kernel_rfl) (by kernel_rfl) (fun _ _ _ h => h) (by kernel_rfl) hHeld ?_ ?_
  rotate_left
  ·intro w hSw
   (try dsimp only at hSw)
   go_simp
   first | done | with_reducible rfl
  (try simp only [Act.put, List.setIfInBounds_toArray, List.set_cons_zero, List.set_cons_succ])
  refine held_take (i := 2) (d := 33) (v := ?_) rfl rfl (by kernel_rfl) (by kernel_rfl) (by kernel_rfl) (fun _ _ _ h => h) (by kernel_rfl) hHeld ?_ ?_
  rotate_left
  ·intro w hSw
   (try dsimp only at hSw)
   go_simp
   first | done | with_reducible rfl
  (try simp only [Act.put, List.setIfInBounds_toArray, List.set_cons_zero, List.set_cons_succ])
  refine held_take (i := 3) (d := 34) (v := ?_) rfl rfl (by kernel_rfl) (by kernel_rfl) (by kernel_rfl) (fun _ _ _ h => h) (by kernel_rfl) hHeld ?_ ?_
  rotate_left
  ·intro w hSw
   (try dsimp only at hSw)
   go_simp
   first | done | with_reducible rfl
  (try simp only [Act.put, List.setIfInBounds_toArray, List.set_cons_zero, List.set_cons_succ])
  refine held_take (i := 4) (d := 35) (v := ?_) rfl rfl (by kernel_rfl) (by kernel_rfl) (by kernel_rfl) (fun _ _ _ h => h) (by kernel_rfl) hHeld ?_ ?_
  rotate_left
  ·intro w hSw
   (try dsimp only at hSw)
   have q0 := Sc.c0 hSw.1
   have q1 := Sc.c1 hSw.1
   go_simp
   first | done | with_reducible rfl
  (try simp only [Act.put, List.setIfInBounds_toArray, List.set_cons_zero, List.set_cons_succ])
  refine held_take (i := 5) (d := 36) (v := ?_) rfl rfl (by kernel_rfl) (by kernel_rfl) (by kernel_rfl) (fun _ _ _ h => h) (by kernel_rfl) hHeld ?_ ?_
  rotate_left
  ·intro w hSw
   (try dsimp only at hSw)
   go_simp
   first | done | with_reducible rfl
  (try simp only [Act.put, List.setIfInBounds_toArray, List.set_cons_zero, List.set_cons_succ])
  refine held_take (i := 6) (d := 37) (v := ?_) rfl rfl (by kernel_rfl) (by kernel_rfl) (by kernel_rfl) (fun _ _ _ h => h) (by kernel_rfl) hHeld ?_ ?_
  rotate_left
  ·intro w hSw
   (try dsimp only at hSw)
   go_simp
   first | done | with_reducible rfl
  (try simp only [Act.put, List.setIfInBounds_toArray, List.set_cons_zero, List.set_cons_succ])
  refine held_take (i := 7) (d := 38) (v := ?_) rfl rfl (by kernel_rfl) (by kernel_rfl) (by kernel_rfl) (fun _ _ _ h => h) (by kernel_rfl) hHeld ?_ ?_
  rotate_left
  ·intro w hSw
   (try dsimp only at hSw)
   go_simp
   first | done | with_reducible rfl
  (try simp only [Act.put, List.setIfInBounds_toArray, List.set_cons_zero, List.set_cons_succ])
  refine held_take (i := 8) (d := 39) (v := ?_) rfl rfl (by kernel_rfl) (by kernel_rfl) (by kernel_rfl) (fun _ _ _ h => h) (by kernel_rfl) hHeld ?_ ?_
  rotate_left
  ·intro w hSw
   (try dsimp only at hSw)
   have q0 := Sc.c0 hSw.1
   have q1 := Sc.c1 hSw.1
   go_simp
   first | done | with_reducible rfl
  (try simp only [Act.put, List.setIfInBounds_toArray, List.set_cons_zero, List.set_cons_succ])
  refine held_take (i := 9) (d := 40) (v := ?_) rfl rfl (by kernel_rfl) (by kernel_rfl) (by kernel_rfl) (fun _ _ _ h => h) (by kernel_rfl) hHeld ?_ ?_
  rotate_left
  ·intro w hSw
   (try dsimp only at hSw)
   go_simp
   first | done | with_reducible rfl
  (try simp only [Act.put, List.setIfInBounds_toArray, List.set_cons_zero, List.set_cons_succ])
  refine held_take (i := 10) (d := 41) (v := ?_) rfl rfl (by kernel_rfl) (by kernel_rfl) (by kernel_rfl) (fun _ _ _ h => h) (by kernel_rfl) hHeld ?_ ?_
  rotate_left
  ·intro w hSw
   (try dsimp only at hSw)
   go_simp
   first | done | with_reducible rfl
  (try simp only [Act.put, List.setIfInBounds_toArray, List.set_cons_zero, List.set_cons_succ])
  refine held_take (i := 11) (d := 42) (v := ?_) rfl rfl (by kernel_rfl) (by kernel_rfl) (by kernel_rfl) (fun _ _ _ h => h) (by kernel_rfl) hHeld ?_ ?_
  rotate_left
  ·intro w hSw
   (try dsimp only at hSw)
   go_simp
   first | done | with_reducible rfl
  (try simp only [Act.put, List.setIfInBounds_toArray, List.set_cons_zero, List.set_cons_succ])
  refine held_take (i := 12) (d := 43) (v := ?_) rfl rfl (by kernel_rfl) (by kernel_rfl) (by kernel_rfl) (fun _ _ _ h => h) (by kernel_rfl) hHeld ?_ ?_
  rotate_left
  ·intro w hSw
   (try dsimp only at hSw)
   have q0 := Sc.c0 hSw.1
   have q1 := Sc.c1 hSw.1
   go_simp
   first | done | with_reducible rfl
  (try simp only [Act.put, List.setIfInBounds_toArray, List.set_cons_zero, List.set_cons_succ])
  refine held_take (i := 13) (d := 44) (v := ?_) rfl rfl (by kernel_rfl) (by kernel_rfl) (by kernel_rfl) (fun _ _ _ h => h) (by kernel_rfl) hHeld ?_ ?_
  rotate_left
  ·intro w hSw
   (try dsimp only at hSw)
   go_simp
   first | done | with_reducible rfl
  (try simp only [Act.put, List.setIfInBounds_toArray, List.set_cons_zero, List.set_cons_succ])
  refine held_take (i := 14) (d := 45) (v := ?_) rfl rfl (by kernel_rfl) (by kernel_rfl) (by kernel_rfl) (fun _ _ _ h => h) (by kernel_rfl) hHeld ?_ ?_
  rotate_left
  ·intro w hSw
   (try dsimp only at hSw)
   go_simp
   first | done | with_reducible rfl
  (try simp only [Act.put, List.setIfInBounds_toArray, List.set_cons_zero, List.set_cons_succ])
  refine held_take (i := 15) (d := 46) (v := ?_) rfl rfl (by kernel_rfl) (by kernel_rfl) (by kernel_rfl) (fun _ _ _ h => h) (by kernel_rfl) hHeld ?_ ?_
  rotate_left
  ·intro w hSw
   (try dsimp only at hSw)
   go_simp
   first | done | with_reducible rfl
  (try simp only [Act.put, List.setIfInBounds_toArray, List.set_cons_zero, List.set_cons_succ])
  refine held_take (i := 16) (d := 47) (v := ?_) rfl rfl (by kernel_rfl) (by kernel_rfl) (by kernel_rfl) (fun _ _ _ h => h) (by kernel_rfl) hHeld ?_ ?_
  rotate_left
  ·intro w hSw
   (try dsimp only at hSw)
   go_simp
   first | done | with_reducible rfl
  (try simp only [Act.put, List.setIfInBounds_toArray, List.set_cons_zero, List.set_cons_succ])
  refine held_take (i := 17) (d := 48) (v := ?_) rfl rfl (by kernel_rfl) (by kernel_rfl) (by kernel_rfl) (fun _ _ _ h => h) (by kernel_rfl) hHeld ?_ ?_
  rotate_left
  ·intro w hSw
   (try dsimp only at hSw)
   go_simp
   first | done | with_reducible rfl
  (try simp only [Act.put, List.setIfInBounds_toArray, List.set_cons_zero, List.set_cons_succ])
  obtain ⟨tx, hT5⟩ := hHeld.2.2
  have f4 := Tb.f hT5 4
  have c4 := Tb.c4 hT5
  have S6 := hide (Sc.far (i := 4) hHeld.1 hne (.string (s.extract k (k + n))))
  have B6 := hide (hHeld.2.1.setCell (p := ⟨T, 4, none⟩) (.inr (.inl rfl)) (.string (s.extract k (k + n))))
  have T6 := hide (Tb.text_ hT5 (s.extract k (k + n)))
  clear hT5
  refine held_call (i := 18) rfl (by kernel_rfl) (by kernel_rfl) (fun K hK => ?_)
  go_simp
  (try dsimp only)
  refine hK.out _ _ ?_ (fun hHeld' => ?_)
  ·exact ⟨S6.out, B6.out, _, T6.out⟩
  clear f4 c4
  clear hK K hHeld
  have hHeld := hHeld'
  clear hHeld'
  (try simp only [Act.put, List.setIfInBounds_toArray, List.set_cons_zero, List.set_cons_succ])
  refine wpAnyH_done (by kernel_rfl) ?_ _
  clear hHeld S2 B2 T2
  obtain ⟨W6, hW6⟩ : ∃ W6, (W2.setCell ⟨T, 4, none⟩ (.string (s.extract k (k + n)))).drew = W6 := ⟨_, rfl⟩
  rw [hW6]
  replace S6 := hide (show Sc W6 X s k by rw [← hW6]; exact S6.out)
  replace B6 := hide (show But2 X T w W6 by rw [← hW6]; exact B6.out)
  replace T6 := hide (show Tb W6 T 2 ⟨#[]⟩ (.slice none 0 0) false (s.extract k (k + n)) k 0 by rw [← hW6]; exact T6.out)
  clear hW6
  have q1 := Sc.c1 S6.out
  have f1 := Sc.f1 S6.out
  have c4 := Tb.c4 T6.out
  go_wp2_with fail
  have S7 := hide (Sc.move S6.out (k + n))
  have B7 := hide (B6.out.setCell (p := ⟨X, 1, none⟩) (.inl rfl) (.int .i64 ((k + n : Nat) : Int)))
  have T7 := hide (Tb.far (i := 1) T6.out (Ne.symm hne) (.int .i64 ((k + n : Nat) : Int)))
  clear q1 f1 c4
  refine (HC.out _ (HG.out.but2 B7.out hX6 hT6)).mono ?_
  rintro e w8 ⟨rfl, rfl⟩
  cases cb with
  | true =>
   go_wp2
   go_ret
   exact PieceR.no (HR.out.trans (by simp)) B7.out rfl HN.out S7.out ⟨_, _, _, _, _, _, _, T7.out⟩
  | false =>
   go_wp2
   go_ret
   refine PieceR.yes (t := ⟨2, [], [], false, (s.data.toList.drop k).take n, k, k + n⟩) (HR.out.trans (by simp)) B7.out rfl HN.out (by have := HN1.out; dsimp only; omega) S7.out ⟨none, 0, ?_, World.ownsRow_nil _ _ _ _⟩
   have h := T7.out
   rw [HX.out] at h
   exact h
end Go.Proofs.YtbbpkcddifmieaaGreatDoor
