/- The program's reader: a record, kinds [0, 1, 2, 4]. (Printed by wip/genRecRd.py.) -/
import Derived.Test.YtlkkmgimjjnhjaaMA20
set_option linter.unusedSimpArgs false
set_option linter.unusedVariables false
namespace Go.Proofs.Ytlkkmgimjjnhjaa
open Go.RowKit Rec
attribute [local go_sem ↓] Go.wp_at_zero Go.wp_at_succ

set_option maxHeartbeats 4000000 in
theorem read_0 (w : World) (R : Nat) (c : UInt8) (l : List UInt8) (hk : c.toNat % 128 = 0) (hR : Rl w R (c :: l) false) : Calls Try.prog 38 #[.pointer (some ⟨R, 0, none⟩)] w (ReadQ w R (c :: l)) := by
  have HX := hide (show w.heap.size ≠ R from fun e => by have := Blk.lt hR; omega)
  have HRl := hide (show R < w.heap.size from Blk.lt hR)
  have HT := hide fun (o : Obj) => (show Calls Try.prog 64 #[.pointer (some ⟨R, 0, none⟩), .int .i64 1] (w.alloc o) fun e w' => e = .returned (.string (bstr [c])) ∧ Rl w' R l false ∧ But R (w.alloc o) w' from take_yes 1 (w.alloc o) R (c :: l) (Blk.alloc hR o) (by simp))
  have i0 := index_byte' [c] 0 (by simp) 0 rfl
  simp only [List.getElem_cons_zero] at i0
  have hz : (bstr [c]).size = 1 := bstr_size _
  obtain ⟨op, hop⟩ : ∃ o, pRcd (c :: l) = o := ⟨_, rfl⟩
  obtain ⟨oa, hoa⟩ : ∃ o, afterKind c l = o := ⟨_, rfl⟩
  have HOP := hide (show op = oa.bind fun x => pBody 0 x.2 by rw [← hop, ← hoa]; exact rcd_after c l _ hk)
  have HOA := hide (show oa = if decide (6 < c.toNat) then none else some ((), l) from hoa.symm)
  unfold ReadQ
  rw [hop]
  have hm := mask127 c.toNat c.toNat_lt
  rw [hk] at hm
  generalize bstr [c] = t at *
  have hc8 := c.toNat_lt
  generalize c.toNat = n at *
  have Hk := hide hk
  clear hop hoa hR hk
  go_enter Try.func38, Try.ntmps38
  go_wp2_with fail
  refine (HT.out _).mono ?_
  rintro e w1 ⟨rfl, hr, hb⟩
  have K := hide (show Blk w1 w.heap.size 28 (rbox 0 0 ⟨#[]⟩ ⟨#[]⟩ false (.slice none 0 0) ⟨#[]⟩ (.slice none 0 0)) from hb.blk (Blk.new w 28 _) HX.out)
  have B := hide ((But.of_below (below_alloc w _)).trans hb)
  have x0 : w1.cell? ⟨w.heap.size, 0, none⟩ = some (.int .i8 0) := K.out.cell 0
  have x1 : w1.cell? ⟨w.heap.size, 1, none⟩ = some (.int .i64 0) := K.out.cell 1
  have x2 : w1.cell? ⟨w.heap.size, 2, none⟩ = some (.string ⟨#[]⟩) := K.out.cell 2
  have x3 : w1.cell? ⟨w.heap.size, 3, none⟩ = some (.string ⟨#[]⟩) := K.out.cell 3
  have x4 : w1.cell? ⟨w.heap.size, 4, none⟩ = some (.bool false) := K.out.cell 4
  have x5 : w1.cell? ⟨w.heap.size, 5, none⟩ = some (.slice none 0 0) := K.out.cell 5
  have x6 : w1.cell? ⟨w.heap.size, 6, none⟩ = some (.string ⟨#[]⟩) := K.out.cell 6
  have x7 : w1.cell? ⟨w.heap.size, 7, none⟩ = some (.slice none 0 0) := K.out.cell 7
  have f0 := K.out.frozen 0
  have f1 := K.out.frozen 1
  have f2 := K.out.frozen 2
  have f3 := K.out.frozen 3
  have f4 := K.out.frozen 4
  have f5 := K.out.frozen 5
  have f6 := K.out.frozen 6
  have f7 := K.out.frozen 7
  have d1 : w1.cell? ⟨R, 1, none⟩ = some (.bool false) := hr.cell 1
  have g1 := hr.frozen 1
  have hxr := HX.out
  have hrx := HX.out.symm
  have HR1 := hide hr
  clear hr hb
  go_wp2_with fail
  have hdd : decide ((6 : Int) < (n : Int)) = decide (6 < n) := decide_eq_decide.2 (by omega)
  have S := hide (show St ((w1.setCell ⟨w.heap.size, 0, none⟩ (.int .i8 0)).setCell ⟨R, 1, none⟩ (.bool (decide ((6 : Int) < (n : Int))))) R oa (fun _ => True) by
    rw [hdd, HOA.out]
    refine St.of ?_ () trivial
    have := Blk.set_ (Blk.far HR1.out (p := ⟨w.heap.size, 0, none⟩) hrx (.int .i8 0)) 1 (.bool (decide (6 < n)))
    unfold Rl Rd
    simpa using this)
  replace K := hide ((rb0 K.out 0).far (p := ⟨R, 1, none⟩) hxr (.bool (decide ((6 : Int) < (n : Int)))))
  replace B := hide (((B.out).setCell (p := ⟨w.heap.size, 0, none⟩) (.inr (Nat.le_refl _)) (.int .i8 0)).setCell (p := ⟨R, 1, none⟩) (.inl rfl) (.bool (decide ((6 : Int) < (n : Int)))))
  clear hdd HR1 HOA d1 g1 x0 x1 x2 x3 x4 x5 x6 x7 f0 f1 f2 f3 f4 f5 f6 f7
  refine (num_step _ _ _ S.out).mono ?_
  rintro e w2 ⟨b, rfl, hqb, hb, hs⟩
  replace S := hide hs
  replace K := hide (hb.blk K.out HX.out)
  replace B := hide (B.out.trans hb)
  clear hb hs
  have x0 : w2.cell? ⟨w.heap.size, 0, none⟩ = some (.int .i8 0) := K.out.cell 0
  have x1 : w2.cell? ⟨w.heap.size, 1, none⟩ = some (.int .i64 0) := K.out.cell 1
  have x2 : w2.cell? ⟨w.heap.size, 2, none⟩ = some (.string ⟨#[]⟩) := K.out.cell 2
  have x3 : w2.cell? ⟨w.heap.size, 3, none⟩ = some (.string ⟨#[]⟩) := K.out.cell 3
  have x4 : w2.cell? ⟨w.heap.size, 4, none⟩ = some (.bool false) := K.out.cell 4
  have x5 : w2.cell? ⟨w.heap.size, 5, none⟩ = some (.slice none 0 0) := K.out.cell 5
  have x6 : w2.cell? ⟨w.heap.size, 6, none⟩ = some (.string ⟨#[]⟩) := K.out.cell 6
  have x7 : w2.cell? ⟨w.heap.size, 7, none⟩ = some (.slice none 0 0) := K.out.cell 7
  have f0 := K.out.frozen 0
  have f1 := K.out.frozen 1
  have f2 := K.out.frozen 2
  have f3 := K.out.frozen 3
  have f4 := K.out.frozen 4
  have f5 := K.out.frozen 5
  have f6 := K.out.frozen 6
  have f7 := K.out.frozen 7
  go_wp2
  replace S := hide (S.out.keep (Below.heap_setCell _ ⟨w.heap.size, 1, none⟩ (.int .i64 (b : Int)) _ HX.out.symm))
  replace B := hide ((B.out).setCell (p := ⟨w.heap.size, 1, none⟩) (.inr (Nat.le_refl _)) (.int .i64 (b : Int)))
  replace K := hide (rb1 K.out b)
  refine read_ret rfl rfl (set8_blk K.out) ?_
  refine ⟨rec0 b, none, 0, none, 0, rfl, (B.out).set8 (Nat.le_refl _) _ _ _ _ _ _ _ _, ?_, Reads.none_, Reads.none_, above_none _, above_none _, typed_none _ _, typed_none _ _⟩
  rw [HOP.out, body0]
  exact St.mapf (Q := fun x => x = rec0 b) (fun x => rec0 x.2) (S.out.keep (set8_heap _ _ _ HX.out.symm _ _ _ _ _ _ _ _)) (fun a hP => by show rec0 a.2 = rec0 b; rw [hP.2])

set_option maxHeartbeats 4000000 in
theorem read_1 (w : World) (R : Nat) (c : UInt8) (l : List UInt8) (hk : c.toNat % 128 = 1) (hR : Rl w R (c :: l) false) : Calls Try.prog 38 #[.pointer (some ⟨R, 0, none⟩)] w (ReadQ w R (c :: l)) := by
  have HX := hide (show w.heap.size ≠ R from fun e => by have := Blk.lt hR; omega)
  have HRl := hide (show R < w.heap.size from Blk.lt hR)
  have HT := hide fun (o : Obj) => (show Calls Try.prog 64 #[.pointer (some ⟨R, 0, none⟩), .int .i64 1] (w.alloc o) fun e w' => e = .returned (.string (bstr [c])) ∧ Rl w' R l false ∧ But R (w.alloc o) w' from take_yes 1 (w.alloc o) R (c :: l) (Blk.alloc hR o) (by simp))
  have i0 := index_byte' [c] 0 (by simp) 0 rfl
  simp only [List.getElem_cons_zero] at i0
  have hz : (bstr [c]).size = 1 := bstr_size _
  obtain ⟨op, hop⟩ : ∃ o, pRcd (c :: l) = o := ⟨_, rfl⟩
  obtain ⟨oa, hoa⟩ : ∃ o, afterKind c l = o := ⟨_, rfl⟩
  have HOP := hide (show op = oa.bind fun x => pBody 1 x.2 by rw [← hop, ← hoa]; exact rcd_after c l _ hk)
  have HOA := hide (show oa = if decide (6 < c.toNat) then none else some ((), l) from hoa.symm)
  unfold ReadQ
  rw [hop]
  have hm := mask127 c.toNat c.toNat_lt
  rw [hk] at hm
  generalize bstr [c] = t at *
  have hc8 := c.toNat_lt
  generalize c.toNat = n at *
  have Hk := hide hk
  clear hop hoa hR hk
  go_enter Try.func38, Try.ntmps38
  go_wp2_with fail
  refine (HT.out _).mono ?_
  rintro e w1 ⟨rfl, hr, hb⟩
  have K := hide (show Blk w1 w.heap.size 28 (rbox 0 0 ⟨#[]⟩ ⟨#[]⟩ false (.slice none 0 0) ⟨#[]⟩ (.slice none 0 0)) from hb.blk (Blk.new w 28 _) HX.out)
  have B := hide ((But.of_below (below_alloc w _)).trans hb)
  have x0 : w1.cell? ⟨w.heap.size, 0, none⟩ = some (.int .i8 0) := K.out.cell 0
  have x1 : w1.cell? ⟨w.heap.size, 1, none⟩ = some (.int .i64 0) := K.out.cell 1
  have x2 : w1.cell? ⟨w.heap.size, 2, none⟩ = some (.string ⟨#[]⟩) := K.out.cell 2
  have x3 : w1.cell? ⟨w.heap.size, 3, none⟩ = some (.string ⟨#[]⟩) := K.out.cell 3
  have x4 : w1.cell? ⟨w.heap.size, 4, none⟩ = some (.bool false) := K.out.cell 4
  have x5 : w1.cell? ⟨w.heap.size, 5, none⟩ = some (.slice none 0 0) := K.out.cell 5
  have x6 : w1.cell? ⟨w.heap.size, 6, none⟩ = some (.string ⟨#[]⟩) := K.out.cell 6
  have x7 : w1.cell? ⟨w.heap.size, 7, none⟩ = some (.slice none 0 0) := K.out.cell 7
  have f0 := K.out.frozen 0
  have f1 := K.out.frozen 1
  have f2 := K.out.frozen 2
  have f3 := K.out.frozen 3
  have f4 := K.out.frozen 4
  have f5 := K.out.frozen 5
  have f6 := K.out.frozen 6
  have f7 := K.out.frozen 7
  have d1 : w1.cell? ⟨R, 1, none⟩ = some (.bool false) := hr.cell 1
  have g1 := hr.frozen 1
  have hxr := HX.out
  have hrx := HX.out.symm
  have HR1 := hide hr
  clear hr hb
  go_wp2_with fail
  have hdd : decide ((6 : Int) < (n : Int)) = decide (6 < n) := decide_eq_decide.2 (by omega)
  have S := hide (show St ((w1.setCell ⟨w.heap.size, 0, none⟩ (.int .i8 1)).setCell ⟨R, 1, none⟩ (.bool (decide ((6 : Int) < (n : Int))))) R oa (fun _ => True) by
    rw [hdd, HOA.out]
    refine St.of ?_ () trivial
    have := Blk.set_ (Blk.far HR1.out (p := ⟨w.heap.size, 0, none⟩) hrx (.int .i8 1)) 1 (.bool (decide (6 < n)))
    unfold Rl Rd
    simpa using this)
  replace K := hide ((rb0 K.out 1).far (p := ⟨R, 1, none⟩) hxr (.bool (decide ((6 : Int) < (n : Int)))))
  replace B := hide (((B.out).setCell (p := ⟨w.heap.size, 0, none⟩) (.inr (Nat.le_refl _)) (.int .i8 1)).setCell (p := ⟨R, 1, none⟩) (.inl rfl) (.bool (decide ((6 : Int) < (n : Int)))))
  clear hdd HR1 HOA d1 g1 x0 x1 x2 x3 x4 x5 x6 x7 f0 f1 f2 f3 f4 f5 f6 f7
  refine (text_stepS _ _ _ S.out).mono ?_
  rintro e w2 ⟨b, rfl, hqb, hb, hs⟩
  replace S := hide hs
  replace K := hide (hb.blk K.out HX.out)
  replace B := hide (B.out.trans hb)
  clear hb hs
  have x0 : w2.cell? ⟨w.heap.size, 0, none⟩ = some (.int .i8 1) := K.out.cell 0
  have x1 : w2.cell? ⟨w.heap.size, 1, none⟩ = some (.int .i64 0) := K.out.cell 1
  have x2 : w2.cell? ⟨w.heap.size, 2, none⟩ = some (.string ⟨#[]⟩) := K.out.cell 2
  have x3 : w2.cell? ⟨w.heap.size, 3, none⟩ = some (.string ⟨#[]⟩) := K.out.cell 3
  have x4 : w2.cell? ⟨w.heap.size, 4, none⟩ = some (.bool false) := K.out.cell 4
  have x5 : w2.cell? ⟨w.heap.size, 5, none⟩ = some (.slice none 0 0) := K.out.cell 5
  have x6 : w2.cell? ⟨w.heap.size, 6, none⟩ = some (.string ⟨#[]⟩) := K.out.cell 6
  have x7 : w2.cell? ⟨w.heap.size, 7, none⟩ = some (.slice none 0 0) := K.out.cell 7
  have f0 := K.out.frozen 0
  have f1 := K.out.frozen 1
  have f2 := K.out.frozen 2
  have f3 := K.out.frozen 3
  have f4 := K.out.frozen 4
  have f5 := K.out.frozen 5
  have f6 := K.out.frozen 6
  have f7 := K.out.frozen 7
  go_wp2
  replace S := hide (S.out.keep (Below.heap_setCell _ ⟨w.heap.size, 2, none⟩ (.string b) _ HX.out.symm))
  replace B := hide ((B.out).setCell (p := ⟨w.heap.size, 2, none⟩) (.inr (Nat.le_refl _)) (.string b))
  replace K := hide (rb2 K.out b)
  refine read_ret rfl rfl (set8_blk K.out) ?_
  refine ⟨rec1 1 b, none, 0, none, 0, rfl, (B.out).set8 (Nat.le_refl _) _ _ _ _ _ _ _ _, ?_, Reads.none_, Reads.none_, above_none _, above_none _, typed_none _ _, typed_none _ _⟩
  rw [HOP.out, body1]
  exact St.mapf (Q := fun x => x = rec1 1 b) (fun x => rec1 1 x.2) (S.out.keep (set8_heap _ _ _ HX.out.symm _ _ _ _ _ _ _ _)) (fun a hP => by show rec1 1 a.2 = rec1 1 b; rw [hP.2])

set_option maxHeartbeats 4000000 in
theorem read_2 (w : World) (R : Nat) (c : UInt8) (l : List UInt8) (hk : c.toNat % 128 = 2) (hR : Rl w R (c :: l) false) : Calls Try.prog 38 #[.pointer (some ⟨R, 0, none⟩)] w (ReadQ w R (c :: l)) := by
  have HX := hide (show w.heap.size ≠ R from fun e => by have := Blk.lt hR; omega)
  have HRl := hide (show R < w.heap.size from Blk.lt hR)
  have HT := hide fun (o : Obj) => (show Calls Try.prog 64 #[.pointer (some ⟨R, 0, none⟩), .int .i64 1] (w.alloc o) fun e w' => e = .returned (.string (bstr [c])) ∧ Rl w' R l false ∧ But R (w.alloc o) w' from take_yes 1 (w.alloc o) R (c :: l) (Blk.alloc hR o) (by simp))
  have i0 := index_byte' [c] 0 (by simp) 0 rfl
  simp only [List.getElem_cons_zero] at i0
  have hz : (bstr [c]).size = 1 := bstr_size _
  obtain ⟨op, hop⟩ : ∃ o, pRcd (c :: l) = o := ⟨_, rfl⟩
  obtain ⟨oa, hoa⟩ : ∃ o, afterKind c l = o := ⟨_, rfl⟩
  have HOP := hide (show op = oa.bind fun x => pBody 2 x.2 by rw [← hop, ← hoa]; exact rcd_after c l _ hk)
  have HOA := hide (show oa = if decide (6 < c.toNat) then none else some ((), l) from hoa.symm)
  unfold ReadQ
  rw [hop]
  have hm := mask127 c.toNat c.toNat_lt
  rw [hk] at hm
  generalize bstr [c] = t at *
  have hc8 := c.toNat_lt
  generalize c.toNat = n at *
  have Hk := hide hk
  clear hop hoa hR hk
  go_enter Try.func38, Try.ntmps38
  go_wp2_with fail
  refine (HT.out _).mono ?_
  rintro e w1 ⟨rfl, hr, hb⟩
  have K := hide (show Blk w1 w.heap.size 28 (rbox 0 0 ⟨#[]⟩ ⟨#[]⟩ false (.slice none 0 0) ⟨#[]⟩ (.slice none 0 0)) from hb.blk (Blk.new w 28 _) HX.out)
  have B := hide ((But.of_below (below_alloc w _)).trans hb)
  have x0 : w1.cell? ⟨w.heap.size, 0, none⟩ = some (.int .i8 0) := K.out.cell 0
  have x1 : w1.cell? ⟨w.heap.size, 1, none⟩ = some (.int .i64 0) := K.out.cell 1
  have x2 : w1.cell? ⟨w.heap.size, 2, none⟩ = some (.string ⟨#[]⟩) := K.out.cell 2
  have x3 : w1.cell? ⟨w.heap.size, 3, none⟩ = some (.string ⟨#[]⟩) := K.out.cell 3
  have x4 : w1.cell? ⟨w.heap.size, 4, none⟩ = some (.bool false) := K.out.cell 4
  have x5 : w1.cell? ⟨w.heap.size, 5, none⟩ = some (.slice none 0 0) := K.out.cell 5
  have x6 : w1.cell? ⟨w.heap.size, 6, none⟩ = some (.string ⟨#[]⟩) := K.out.cell 6
  have x7 : w1.cell? ⟨w.heap.size, 7, none⟩ = some (.slice none 0 0) := K.out.cell 7
  have f0 := K.out.frozen 0
  have f1 := K.out.frozen 1
  have f2 := K.out.frozen 2
  have f3 := K.out.frozen 3
  have f4 := K.out.frozen 4
  have f5 := K.out.frozen 5
  have f6 := K.out.frozen 6
  have f7 := K.out.frozen 7
  have d1 : w1.cell? ⟨R, 1, none⟩ = some (.bool false) := hr.cell 1
  have g1 := hr.frozen 1
  have hxr := HX.out
  have hrx := HX.out.symm
  have HR1 := hide hr
  clear hr hb
  go_wp2_with fail
  have hdd : decide ((6 : Int) < (n : Int)) = decide (6 < n) := decide_eq_decide.2 (by omega)
  have S := hide (show St ((w1.setCell ⟨w.heap.size, 0, none⟩ (.int .i8 2)).setCell ⟨R, 1, none⟩ (.bool (decide ((6 : Int) < (n : Int))))) R oa (fun _ => True) by
    rw [hdd, HOA.out]
    refine St.of ?_ () trivial
    have := Blk.set_ (Blk.far HR1.out (p := ⟨w.heap.size, 0, none⟩) hrx (.int .i8 2)) 1 (.bool (decide (6 < n)))
    unfold Rl Rd
    simpa using this)
  replace K := hide ((rb0 K.out 2).far (p := ⟨R, 1, none⟩) hxr (.bool (decide ((6 : Int) < (n : Int)))))
  replace B := hide (((B.out).setCell (p := ⟨w.heap.size, 0, none⟩) (.inr (Nat.le_refl _)) (.int .i8 2)).setCell (p := ⟨R, 1, none⟩) (.inl rfl) (.bool (decide ((6 : Int) < (n : Int)))))
  clear hdd HR1 HOA d1 g1 x0 x1 x2 x3 x4 x5 x6 x7 f0 f1 f2 f3 f4 f5 f6 f7
  refine (text_stepS _ _ _ S.out).mono ?_
  rintro e w2 ⟨b, rfl, hqb, hb, hs⟩
  replace S := hide hs
  replace K := hide (hb.blk K.out HX.out)
  replace B := hide (B.out.trans hb)
  clear hb hs
  have x0 : w2.cell? ⟨w.heap.size, 0, none⟩ = some (.int .i8 2) := K.out.cell 0
  have x1 : w2.cell? ⟨w.heap.size, 1, none⟩ = some (.int .i64 0) := K.out.cell 1
  have x2 : w2.cell? ⟨w.heap.size, 2, none⟩ = some (.string ⟨#[]⟩) := K.out.cell 2
  have x3 : w2.cell? ⟨w.heap.size, 3, none⟩ = some (.string ⟨#[]⟩) := K.out.cell 3
  have x4 : w2.cell? ⟨w.heap.size, 4, none⟩ = some (.bool false) := K.out.cell 4
  have x5 : w2.cell? ⟨w.heap.size, 5, none⟩ = some (.slice none 0 0) := K.out.cell 5
  have x6 : w2.cell? ⟨w.heap.size, 6, none⟩ = some (.string ⟨#[]⟩) := K.out.cell 6
  have x7 : w2.cell? ⟨w.heap.size, 7, none⟩ = some (.slice none 0 0) := K.out.cell 7
  have f0 := K.out.frozen 0
  have f1 := K.out.frozen 1
  have f2 := K.out.frozen 2
  have f3 := K.out.frozen 3
  have f4 := K.out.frozen 4
  have f5 := K.out.frozen 5
  have f6 := K.out.frozen 6
  have f7 := K.out.frozen 7
  go_wp2
  replace S := hide (S.out.keep (Below.heap_setCell _ ⟨w.heap.size, 2, none⟩ (.string b) _ HX.out.symm))
  replace B := hide ((B.out).setCell (p := ⟨w.heap.size, 2, none⟩) (.inr (Nat.le_refl _)) (.string b))
  replace K := hide (rb2 K.out b)
  refine read_ret rfl rfl (set8_blk K.out) ?_
  refine ⟨rec1 2 b, none, 0, none, 0, rfl, (B.out).set8 (Nat.le_refl _) _ _ _ _ _ _ _ _, ?_, Reads.none_, Reads.none_, above_none _, above_none _, typed_none _ _, typed_none _ _⟩
  rw [HOP.out, body2]
  exact St.mapf (Q := fun x => x = rec1 2 b) (fun x => rec1 2 x.2) (S.out.keep (set8_heap _ _ _ HX.out.symm _ _ _ _ _ _ _ _)) (fun a hP => by show rec1 2 a.2 = rec1 2 b; rw [hP.2])

set_option maxHeartbeats 4000000 in
theorem read_4 (w : World) (R : Nat) (c : UInt8) (l : List UInt8) (hk : c.toNat % 128 = 4) (hR : Rl w R (c :: l) false) : Calls Try.prog 38 #[.pointer (some ⟨R, 0, none⟩)] w (ReadQ w R (c :: l)) := by
  have HX := hide (show w.heap.size ≠ R from fun e => by have := Blk.lt hR; omega)
  have HRl := hide (show R < w.heap.size from Blk.lt hR)
  have HT := hide fun (o : Obj) => (show Calls Try.prog 64 #[.pointer (some ⟨R, 0, none⟩), .int .i64 1] (w.alloc o) fun e w' => e = .returned (.string (bstr [c])) ∧ Rl w' R l false ∧ But R (w.alloc o) w' from take_yes 1 (w.alloc o) R (c :: l) (Blk.alloc hR o) (by simp))
  have i0 := index_byte' [c] 0 (by simp) 0 rfl
  simp only [List.getElem_cons_zero] at i0
  have hz : (bstr [c]).size = 1 := bstr_size _
  obtain ⟨op, hop⟩ : ∃ o, pRcd (c :: l) = o := ⟨_, rfl⟩
  obtain ⟨oa, hoa⟩ : ∃ o, afterKind c l = o := ⟨_, rfl⟩
  have HOP := hide (show op = oa.bind fun x => pBody 4 x.2 by rw [← hop, ← hoa]; exact rcd_after c l _ hk)
  have HOA := hide (show oa = if decide (6 < c.toNat) then none else some ((), l) from hoa.symm)
  unfold ReadQ
  rw [hop]
  have hm := mask127 c.toNat c.toNat_lt
  rw [hk] at hm
  generalize bstr [c] = t at *
  have hc8 := c.toNat_lt
  generalize c.toNat = n at *
  have Hk := hide hk
  clear hop hoa hR hk
  go_enter Try.func38, Try.ntmps38
  go_wp2_with fail
  refine (HT.out _).mono ?_
  rintro e w1 ⟨rfl, hr, hb⟩
  have K := hide (show Blk w1 w.heap.size 28 (rbox 0 0 ⟨#[]⟩ ⟨#[]⟩ false (.slice none 0 0) ⟨#[]⟩ (.slice none 0 0)) from hb.blk (Blk.new w 28 _) HX.out)
  have B := hide ((But.of_below (below_alloc w _)).trans hb)
  have x0 : w1.cell? ⟨w.heap.size, 0, none⟩ = some (.int .i8 0) := K.out.cell 0
  have x1 : w1.cell? ⟨w.heap.size, 1, none⟩ = some (.int .i64 0) := K.out.cell 1
  have x2 : w1.cell? ⟨w.heap.size, 2, none⟩ = some (.string ⟨#[]⟩) := K.out.cell 2
  have x3 : w1.cell? ⟨w.heap.size, 3, none⟩ = some (.string ⟨#[]⟩) := K.out.cell 3
  have x4 : w1.cell? ⟨w.heap.size, 4, none⟩ = some (.bool false) := K.out.cell 4
  have x5 : w1.cell? ⟨w.heap.size, 5, none⟩ = some (.slice none 0 0) := K.out.cell 5
  have x6 : w1.cell? ⟨w.heap.size, 6, none⟩ = some (.string ⟨#[]⟩) := K.out.cell 6
  have x7 : w1.cell? ⟨w.heap.size, 7, none⟩ = some (.slice none 0 0) := K.out.cell 7
  have f0 := K.out.frozen 0
  have f1 := K.out.frozen 1
  have f2 := K.out.frozen 2
  have f3 := K.out.frozen 3
  have f4 := K.out.frozen 4
  have f5 := K.out.frozen 5
  have f6 := K.out.frozen 6
  have f7 := K.out.frozen 7
  have d1 : w1.cell? ⟨R, 1, none⟩ = some (.bool false) := hr.cell 1
  have g1 := hr.frozen 1
  have hxr := HX.out
  have hrx := HX.out.symm
  have HR1 := hide hr
  clear hr hb
  go_wp2_with fail
  have hdd : decide ((6 : Int) < (n : Int)) = decide (6 < n) := decide_eq_decide.2 (by omega)
  have S := hide (show St ((w1.setCell ⟨w.heap.size, 0, none⟩ (.int .i8 4)).setCell ⟨R, 1, none⟩ (.bool (decide ((6 : Int) < (n : Int))))) R oa (fun _ => True) by
    rw [hdd, HOA.out]
    refine St.of ?_ () trivial
    have := Blk.set_ (Blk.far HR1.out (p := ⟨w.heap.size, 0, none⟩) hrx (.int .i8 4)) 1 (.bool (decide (6 < n)))
    unfold Rl Rd
    simpa using this)
  replace K := hide ((rb0 K.out 4).far (p := ⟨R, 1, none⟩) hxr (.bool (decide ((6 : Int) < (n : Int)))))
  replace B := hide (((B.out).setCell (p := ⟨w.heap.size, 0, none⟩) (.inr (Nat.le_refl _)) (.int .i8 4)).setCell (p := ⟨R, 1, none⟩) (.inl rfl) (.bool (decide ((6 : Int) < (n : Int)))))
  clear hdd HR1 HOA d1 g1 x0 x1 x2 x3 x4 x5 x6 x7 f0 f1 f2 f3 f4 f5 f6 f7
  refine (text_stepS _ _ _ S.out).mono ?_
  rintro e w2 ⟨u, rfl, hqu, hb, hs⟩
  replace S := hide hs
  replace K := hide (hb.blk K.out HX.out)
  replace B := hide (B.out.trans hb)
  clear hb hs
  have x0 : w2.cell? ⟨w.heap.size, 0, none⟩ = some (.int .i8 4) := K.out.cell 0
  have x1 : w2.cell? ⟨w.heap.size, 1, none⟩ = some (.int .i64 0) := K.out.cell 1
  have x2 : w2.cell? ⟨w.heap.size, 2, none⟩ = some (.string ⟨#[]⟩) := K.out.cell 2
  have x3 : w2.cell? ⟨w.heap.size, 3, none⟩ = some (.string ⟨#[]⟩) := K.out.cell 3
  have x4 : w2.cell? ⟨w.heap.size, 4, none⟩ = some (.bool false) := K.out.cell 4
  have x5 : w2.cell? ⟨w.heap.size, 5, none⟩ = some (.slice none 0 0) := K.out.cell 5
  have x6 : w2.cell? ⟨w.heap.size, 6, none⟩ = some (.string ⟨#[]⟩) := K.out.cell 6
  have x7 : w2.cell? ⟨w.heap.size, 7, none⟩ = some (.slice none 0 0) := K.out.cell 7
  have f0 := K.out.frozen 0
  have f1 := K.out.frozen 1
  have f2 := K.out.frozen 2
  have f3 := K.out.frozen 3
  have f4 := K.out.frozen 4
  have f5 := K.out.frozen 5
  have f6 := K.out.frozen 6
  have f7 := K.out.frozen 7
  go_wp2_with fail
  replace S := hide (S.out.keep (Below.heap_setCell _ ⟨w.heap.size, 2, none⟩ (.string u) _ HX.out.symm))
  replace B := hide ((B.out).setCell (p := ⟨w.heap.size, 2, none⟩) (.inr (Nat.le_refl _)) (.string u))
  replace K := hide (rb2 K.out u)
  clear x0 x1 x2 x3 x4 x5 x6 x7 f0 f1 f2 f3 f4 f5 f6 f7
  refine (text_stepS _ _ _ S.out).mono ?_
  rintro e w3 ⟨i, rfl, hqi, hb, hs⟩
  replace S := hide hs
  replace K := hide (hb.blk K.out HX.out)
  replace B := hide (B.out.trans hb)
  clear hb hs
  have x0 : w3.cell? ⟨w.heap.size, 0, none⟩ = some (.int .i8 4) := K.out.cell 0
  have x1 : w3.cell? ⟨w.heap.size, 1, none⟩ = some (.int .i64 0) := K.out.cell 1
  have x2 : w3.cell? ⟨w.heap.size, 2, none⟩ = some (.string u) := K.out.cell 2
  have x3 : w3.cell? ⟨w.heap.size, 3, none⟩ = some (.string ⟨#[]⟩) := K.out.cell 3
  have x4 : w3.cell? ⟨w.heap.size, 4, none⟩ = some (.bool false) := K.out.cell 4
  have x5 : w3.cell? ⟨w.heap.size, 5, none⟩ = some (.slice none 0 0) := K.out.cell 5
  have x6 : w3.cell? ⟨w.heap.size, 6, none⟩ = some (.string ⟨#[]⟩) := K.out.cell 6
  have x7 : w3.cell? ⟨w.heap.size, 7, none⟩ = some (.slice none 0 0) := K.out.cell 7
  have f0 := K.out.frozen 0
  have f1 := K.out.frozen 1
  have f2 := K.out.frozen 2
  have f3 := K.out.frozen 3
  have f4 := K.out.frozen 4
  have f5 := K.out.frozen 5
  have f6 := K.out.frozen 6
  have f7 := K.out.frozen 7
  go_wp2_with fail
  replace S := hide (S.out.keep (Below.heap_setCell _ ⟨w.heap.size, 3, none⟩ (.string i) _ HX.out.symm))
  replace B := hide ((B.out).setCell (p := ⟨w.heap.size, 3, none⟩) (.inr (Nat.le_refl _)) (.string i))
  replace K := hide (rb3 K.out i)
  clear x0 x1 x2 x3 x4 x5 x6 x7 f0 f1 f2 f3 f4 f5 f6 f7
  refine (flag_step _ _ _ S.out).mono ?_
  rintro e w4 ⟨b, rfl, hqb, hb, hs⟩
  replace S := hide hs
  replace K := hide (hb.blk K.out HX.out)
  replace B := hide (B.out.trans hb)
  clear hb hs
  have x0 : w4.cell? ⟨w.heap.size, 0, none⟩ = some (.int .i8 4) := K.out.cell 0
  have x1 : w4.cell? ⟨w.heap.size, 1, none⟩ = some (.int .i64 0) := K.out.cell 1
  have x2 : w4.cell? ⟨w.heap.size, 2, none⟩ = some (.string u) := K.out.cell 2
  have x3 : w4.cell? ⟨w.heap.size, 3, none⟩ = some (.string i) := K.out.cell 3
  have x4 : w4.cell? ⟨w.heap.size, 4, none⟩ = some (.bool false) := K.out.cell 4
  have x5 : w4.cell? ⟨w.heap.size, 5, none⟩ = some (.slice none 0 0) := K.out.cell 5
  have x6 : w4.cell? ⟨w.heap.size, 6, none⟩ = some (.string ⟨#[]⟩) := K.out.cell 6
  have x7 : w4.cell? ⟨w.heap.size, 7, none⟩ = some (.slice none 0 0) := K.out.cell 7
  have f0 := K.out.frozen 0
  have f1 := K.out.frozen 1
  have f2 := K.out.frozen 2
  have f3 := K.out.frozen 3
  have f4 := K.out.frozen 4
  have f5 := K.out.frozen 5
  have f6 := K.out.frozen 6
  have f7 := K.out.frozen 7
  go_wp2
  replace S := hide (S.out.keep (Below.heap_setCell _ ⟨w.heap.size, 4, none⟩ (.bool b) _ HX.out.symm))
  replace B := hide ((B.out).setCell (p := ⟨w.heap.size, 4, none⟩) (.inr (Nat.le_refl _)) (.bool b))
  replace K := hide (rb4 K.out b)
  refine read_ret rfl rfl (set8_blk K.out) ?_
  refine ⟨rec4 u i b, none, 0, none, 0, rfl, (B.out).set8 (Nat.le_refl _) _ _ _ _ _ _ _ _, ?_, Reads.none_, Reads.none_, above_none _, above_none _, typed_none _ _, typed_none _ _⟩
  rw [HOP.out, body4]
  exact St.mapf (Q := fun x => x = rec4 u i b) (fun x => rec4 x.1.1.2 x.1.2 x.2) (S.out.keep (set8_heap _ _ _ HX.out.symm _ _ _ _ _ _ _ _)) (fun a hP => by show rec4 a.1.1.2 a.1.2 a.2 = rec4 u i b; rw [hP.1.1.2, hP.1.2, hP.2])
end Go.Proofs.Ytlkkmgimjjnhjaa
