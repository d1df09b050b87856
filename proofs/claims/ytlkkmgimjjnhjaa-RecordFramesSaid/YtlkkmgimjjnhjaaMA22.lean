/- The program's reader: a record, kinds [6, 3]. (Printed by wip/genRecRd.py.) · The program's reader: a record, kinds [5]. (Printed by wip/genRecRd.py.) -/
import Derived.Test.YtlkkmgimjjnhjaaMA20
set_option linter.unusedSimpArgs false
set_option linter.unusedVariables false
namespace Go.Proofs.Ytlkkmgimjjnhjaa
open Go.RowKit Rec
attribute [local go_sem ↓] Go.wp_at_zero Go.wp_at_succ

set_option maxHeartbeats 4000000 in
theorem read_6 (w : World) (R : Nat) (c : UInt8) (l : List UInt8) (k : Nat) (hk : c.toNat % 128 = k) (hk6 : 6 ≤ k) (hR : Rl w R (c :: l) false) : Calls Try.prog 38 #[.pointer (some ⟨R, 0, none⟩)] w (ReadQ w R (c :: l)) := by
  have HX := hide (show w.heap.size ≠ R from fun e => by have := Blk.lt hR; omega)
  have HRl := hide (show R < w.heap.size from Blk.lt hR)
  have HT := hide fun (o : Obj) => (show Calls Try.prog 64 #[.pointer (some ⟨R, 0, none⟩), .int .i64 1] (w.alloc o) fun e w' => e = .returned (.string (bstr [c])) ∧ Rl w' R l false ∧ But R (w.alloc o) w' from take_yes 1 (w.alloc o) R (c :: l) (Blk.alloc hR o) (by simp))
  have i0 := index_byte' [c] 0 (by simp) 0 rfl
  simp only [List.getElem_cons_zero] at i0
  have hz : (bstr [c]).size = 1 := bstr_size _
  obtain ⟨op, hop⟩ : ∃ o, pRcd (c :: l) = o := ⟨_, rfl⟩
  obtain ⟨oa, hoa⟩ : ∃ o, afterKind c l = o := ⟨_, rfl⟩
  have HOP := hide (show op = oa.bind fun x => pBody k x.2 by rw [← hop, ← hoa]; exact rcd_after c l _ hk)
  have HOA := hide (show oa = if decide (6 < c.toNat) then none else some ((), l) from hoa.symm)
  unfold ReadQ
  rw [hop]
  have hm := mask127 c.toNat c.toNat_lt
  rw [hk] at hm
  generalize bstr [c] = t at *
  have hc8 := c.toNat_lt
  generalize c.toNat = n at *
  have Hk := hide hk
  clear hop hoa hR hk
  have hk7 : k < 128 := by have := Hk.out; omega
  go_enter Try.func38, Try.ntmps38
  go_wp2_with fail
  refine (HT.out _).mono ?_
  rintro e w1 ⟨rfl, hr, hb⟩
  have K := hide (show Blk w1 w.heap.size 28 (rbox 0 0 ⟨#[]⟩ ⟨#[]⟩ false (.slice none 0 0) ⟨#[]⟩ (.slice none 0 0)) from hb.blk (Blk.new w 28 _) HX.out)
  have B := hide ((But.of_below (below_alloc w _)).trans hb)
  have x0 : w1.cell? ⟨w.heap.size, 0, none⟩ = some (.int .i8 0) := K.out.cell 0
  have x1 : w1.cell? ⟨w.heap.size, 1, none⟩ = some (.int .i64 0) := K.out.cell 1
  have x2 : w1.cell? ⟨w.heap.size, 2, none⟩ = some (.string ⟨#[]⟩) := K.out.cell 2
  have x3 : w1.cell? ⟨w.heap.size, 3, none⟩ = some (.string ⟨#[]⟩) := K.out.cell 3
  have x4 : w1.cell? ⟨w.heap.size, 4, none⟩ = some (.bool false) := K.out.cell 4
  have x5 : w1.cell? ⟨w.heap.size, 5, none⟩ = some (.slice none 0 0) := K.out.cell 5
  have x6 : w1.cell? ⟨w.heap.size, 6, none⟩ = some (.string ⟨#[]⟩) := K.out.cell 6
  have x7 : w1.cell? ⟨w.heap.size, 7, none⟩ = some (.slice none 0 0) := K.out.cell 7
  have f0 := K.out.frozen 0
  have f1 := K.out.frozen 1
  have f2 := K.out.frozen 2
  have f3 := K.out.frozen 3
  have f4 := K.out.frozen 4
  have f5 := K.out.frozen 5
  have f6 := K.out.frozen 6
  have f7 := K.out.frozen 7
  have d1 : w1.cell? ⟨R, 1, none⟩ = some (.bool false) := hr.cell 1
  have g1 := hr.frozen 1
  have hxr := HX.out
  have hrx := HX.out.symm
  have HR1 := hide hr
  clear hr hb
  have e0 : ((k : Int) == 0) = false := by rw [beq_eq_false_iff_ne]; omega
  have e1 : ((k : Int) == 1) = false := by rw [beq_eq_false_iff_ne]; omega
  have e2 : ((k : Int) == 2) = false := by rw [beq_eq_false_iff_ne]; omega
  have e3 : ((k : Int) == 3) = false := by rw [beq_eq_false_iff_ne]; omega
  have e4 : ((k : Int) == 4) = false := by rw [beq_eq_false_iff_ne]; omega
  have e5 : ((k : Int) == 5) = false := by rw [beq_eq_false_iff_ne]; omega
  have hkb : (k : Int) < 128 := by omega
  have Hk6 := hide hk6
  clear hk6 hk7
  go_wp2
  have hdd : decide ((6 : Int) < (n : Int)) = decide (6 < n) := decide_eq_decide.2 (by omega)
  have S := hide (show St ((w1.setCell ⟨w.heap.size, 0, none⟩ (.int .i8 k)).setCell ⟨R, 1, none⟩ (.bool (decide ((6 : Int) < (n : Int))))) R oa (fun _ => True) by
    rw [hdd, HOA.out]
    refine St.of ?_ () trivial
    have := Blk.set_ (Blk.far HR1.out (p := ⟨w.heap.size, 0, none⟩) hrx (.int .i8 k)) 1 (.bool (decide (6 < n)))
    unfold Rl Rd
    simpa using this)
  replace K := hide ((rb0 K.out k).far (p := ⟨R, 1, none⟩) hxr (.bool (decide ((6 : Int) < (n : Int)))))
  replace B := hide (((B.out).setCell (p := ⟨w.heap.size, 0, none⟩) (.inr (Nat.le_refl _)) (.int .i8 k)).setCell (p := ⟨R, 1, none⟩) (.inl rfl) (.bool (decide ((6 : Int) < (n : Int)))))
  clear hdd HR1 d1 g1 x0 x1 x2 x3 x4 x5 x6 x7 f0 f1 f2 f3 f4 f5 f6 f7
  refine read_ret rfl rfl (set8_blk K.out) ?_
  refine ⟨rec1 k ⟨#[]⟩, none, 0, none, 0, rfl, (B.out).set8 (Nat.le_refl _) _ _ _ _ _ _ _ _, ?_, Reads.none_, Reads.none_, above_none _, above_none _, typed_none _ _, typed_none _ _⟩
  refine St.map (S.out.keep (set8_heap _ _ _ HX.out.symm _ _ _ _ _ _ _ _)) (fun e => by rw [HOP.out, e]; rfl) fun a r e hP => ⟨rec1 k ⟨#[]⟩, ?_, rfl⟩
  have h6 : ¬ 6 < n := by
    intro h
    have := HOA.out
    rw [e, if_pos (by simpa using h)] at this
    cases this
  have hk6 : k = 6 := by have := Hk.out; have := Hk6.out; omega
  rw [HOP.out, e, hk6]
  rfl

set_option maxHeartbeats 4000000 in
theorem read_3 (w : World) (R : Nat) (c : UInt8) (l : List UInt8) (hk : c.toNat % 128 = 3) (hR : Rl w R (c :: l) false) : Calls Try.prog 38 #[.pointer (some ⟨R, 0, none⟩)] w (ReadQ w R (c :: l)) := by
  have HX := hide (show w.heap.size ≠ R from fun e => by have := Blk.lt hR; omega)
  have HRl := hide (show R < w.heap.size from Blk.lt hR)
  have HT := hide fun (o : Obj) => (show Calls Try.prog 64 #[.pointer (some ⟨R, 0, none⟩), .int .i64 1] (w.alloc o) fun e w' => e = .returned (.string (bstr [c])) ∧ Rl w' R l false ∧ But R (w.alloc o) w' from take_yes 1 (w.alloc o) R (c :: l) (Blk.alloc hR o) (by simp))
  have i0 := index_byte' [c] 0 (by simp) 0 rfl
  simp only [List.getElem_cons_zero] at i0
  have hz : (bstr [c]).size = 1 := bstr_size _
  obtain ⟨op, hop⟩ : ∃ o, pRcd (c :: l) = o := ⟨_, rfl⟩
  obtain ⟨oa, hoa⟩ : ∃ o, afterKind c l = o := ⟨_, rfl⟩
  have HOP := hide (show op = oa.bind fun x => pBody 3 x.2 by rw [← hop, ← hoa]; exact rcd_after c l _ hk)
  have HOA := hide (show oa = if decide (6 < c.toNat) then none else some ((), l) from hoa.symm)
  unfold ReadQ
  rw [hop]
  have hm := mask127 c.toNat c.toNat_lt
  rw [hk] at hm
  generalize bstr [c] = t at *
  have hc8 := c.toNat_lt
  generalize c.toNat = n at *
  have Hk := hide hk
  clear hop hoa hR hk
  go_enter Try.func38, Try.ntmps38
  go_wp2_with fail
  refine (HT.out _).mono ?_
  rintro e w1 ⟨rfl, hr, hb⟩
  have K := hide (show Blk w1 w.heap.size 28 (rbox 0 0 ⟨#[]⟩ ⟨#[]⟩ false (.slice none 0 0) ⟨#[]⟩ (.slice none 0 0)) from hb.blk (Blk.new w 28 _) HX.out)
  have B := hide ((But.of_below (below_alloc w _)).trans hb)
  have x0 : w1.cell? ⟨w.heap.size, 0, none⟩ = some (.int .i8 0) := K.out.cell 0
  have x1 : w1.cell? ⟨w.heap.size, 1, none⟩ = some (.int .i64 0) := K.out.cell 1
  have x2 : w1.cell? ⟨w.heap.size, 2, none⟩ = some (.string ⟨#[]⟩) := K.out.cell 2
  have x3 : w1.cell? ⟨w.heap.size, 3, none⟩ = some (.string ⟨#[]⟩) := K.out.cell 3
  have x4 : w1.cell? ⟨w.heap.size, 4, none⟩ = some (.bool false) := K.out.cell 4
  have x5 : w1.cell? ⟨w.heap.size, 5, none⟩ = some (.slice none 0 0) := K.out.cell 5
  have x6 : w1.cell? ⟨w.heap.size, 6, none⟩ = some (.string ⟨#[]⟩) := K.out.cell 6
  have x7 : w1.cell? ⟨w.heap.size, 7, none⟩ = some (.slice none 0 0) := K.out.cell 7
  have f0 := K.out.frozen 0
  have f1 := K.out.frozen 1
  have f2 := K.out.frozen 2
  have f3 := K.out.frozen 3
  have f4 := K.out.frozen 4
  have f5 := K.out.frozen 5
  have f6 := K.out.frozen 6
  have f7 := K.out.frozen 7
  have d1 : w1.cell? ⟨R, 1, none⟩ = some (.bool false) := hr.cell 1
  have g1 := hr.frozen 1
  have hxr := HX.out
  have hrx := HX.out.symm
  have HR1 := hide hr
  clear hr hb
  go_wp2_with fail
  have hdd : decide ((6 : Int) < (n : Int)) = decide (6 < n) := decide_eq_decide.2 (by omega)
  have S := hide (show St ((w1.setCell ⟨w.heap.size, 0, none⟩ (.int .i8 3)).setCell ⟨R, 1, none⟩ (.bool (decide ((6 : Int) < (n : Int))))) R oa (fun _ => True) by
    rw [hdd, HOA.out]
    refine St.of ?_ () trivial
    have := Blk.set_ (Blk.far HR1.out (p := ⟨w.heap.size, 0, none⟩) hrx (.int .i8 3)) 1 (.bool (decide (6 < n)))
    unfold Rl Rd
    simpa using this)
  replace K := hide ((rb0 K.out 3).far (p := ⟨R, 1, none⟩) hxr (.bool (decide ((6 : Int) < (n : Int)))))
  replace B := hide (((B.out).setCell (p := ⟨w.heap.size, 0, none⟩) (.inr (Nat.le_refl _)) (.int .i8 3)).setCell (p := ⟨R, 1, none⟩) (.inl rfl) (.bool (decide ((6 : Int) < (n : Int)))))
  clear hdd HR1 HOA d1 g1 x0 x1 x2 x3 x4 x5 x6 x7 f0 f1 f2 f3 f4 f5 f6 f7
  refine (text_stepS _ _ _ S.out).mono ?_
  rintro e w2 ⟨u, rfl, hqu, hb, hs⟩
  replace S := hide hs
  replace K := hide (hb.blk K.out HX.out)
  replace B := hide (B.out.trans hb)
  clear hb hs
  have x0 : w2.cell? ⟨w.heap.size, 0, none⟩ = some (.int .i8 3) := K.out.cell 0
  have x1 : w2.cell? ⟨w.heap.size, 1, none⟩ = some (.int .i64 0) := K.out.cell 1
  have x2 : w2.cell? ⟨w.heap.size, 2, none⟩ = some (.string ⟨#[]⟩) := K.out.cell 2
  have x3 : w2.cell? ⟨w.heap.size, 3, none⟩ = some (.string ⟨#[]⟩) := K.out.cell 3
  have x4 : w2.cell? ⟨w.heap.size, 4, none⟩ = some (.bool false) := K.out.cell 4
  have x5 : w2.cell? ⟨w.heap.size, 5, none⟩ = some (.slice none 0 0) := K.out.cell 5
  have x6 : w2.cell? ⟨w.heap.size, 6, none⟩ = some (.string ⟨#[]⟩) := K.out.cell 6
  have x7 : w2.cell? ⟨w.heap.size, 7, none⟩ = some (.slice none 0 0) := K.out.cell 7
  have f0 := K.out.frozen 0
  have f1 := K.out.frozen 1
  have f2 := K.out.frozen 2
  have f3 := K.out.frozen 3
  have f4 := K.out.frozen 4
  have f5 := K.out.frozen 5
  have f6 := K.out.frozen 6
  have f7 := K.out.frozen 7
  go_wp2_with fail
  replace S := hide (S.out.keep (Below.heap_setCell _ ⟨w.heap.size, 2, none⟩ (.string u) _ HX.out.symm))
  replace B := hide ((B.out).setCell (p := ⟨w.heap.size, 2, none⟩) (.inr (Nat.le_refl _)) (.string u))
  replace K := hide (rb2 K.out u)
  clear x0 x1 x2 x3 x4 x5 x6 x7 f0 f1 f2 f3 f4 f5 f6 f7
  refine (many_step 16 _ _ _ S.out).mono ?_
  rintro e w3 ⟨N, rfl, hqN, hb, hs⟩
  replace S := hide hs
  replace K := hide (hb.blk K.out HX.out)
  replace B := hide (B.out.trans hb)
  clear hb hs
  have hN16 : N ≤ 16 := hqN
  have HP2 := hide (show ∀ x, also (also oa pText) (pMany 16) = some x → x.1.2 = N from by
    intro x h
    have := S.out
    rw [h] at this
    exact this.2.2)
  have body := hide (body3 oa u N HP2.out)
  obtain ⟨o2, ho2⟩ : ∃ o, also (also oa pText) (pMany 16) = o := ⟨_, rfl⟩
  rw [ho2] at S body
  clear ho2 HP2 hqN hc8
  have H0 := hide (show w3.ownsRow w.heap.size 47 7 (.slice none 0 0) 0 (ents []) from World.ownsRow_nil _ _ _ _)
  go_wp2
  go_loopg [43] N (fun g vi wr => ∃ (k : Nat) (L : List Ent) (A : Option Addr) (c : Nat), g = N - k ∧ k ≤ N ∧ vi = .int .i64 k ∧ Blk wr w.heap.size 28 (rbox 3 0 u ⟨#[]⟩ false (.slice A k c) ⟨#[]⟩ (.slice none 0 0)) ∧ wr.ownsRow w.heap.size 47 7 (.slice A k c) k (ents L) ∧ St wr R (rep o2 pEntry k) (fun x => (fun a : (Unit × ByteArray) × Nat => (True ∧ a.1.2 = u) ∧ a.2 = N) x.1 ∧ x.2 = L) ∧ But R w wr)
  case atStart => exact ⟨0, [], none, 0, rfl, by omega, rfl, K.out, H0.out, S.out.rep0, B.out⟩
  case round =>
    obtain ⟨k, L, A, c0, hg, hk, rfl, hK, hown, hS, hB⟩ := hrel
    have Hg := hide hg
    have K := hide hK
    have Hown := hide hown
    have S := hide hS
    have B := hide hB
    clear hg hK hown hS hB H0
    by_cases hlt : k < N
    · have x5 : wr.cell? ⟨w.heap.size, 5, none⟩ = some (.slice A k c0) := K.out.cell 5
      have HC := hide fun (W : World) (h : But R wr W) (hh : W.heap[R]? = wr.heap[R]?) => entry_step' W _ _ (S.out.keep hh)
      go_wp2
      go_region_law
        (first
          | (show if Region.wanted (⟨some 48, _, _, _, _, _⟩ : Oper) _ = true then _ else _; rw [if_pos (by kernel_rfl)]; go_simp; refine (HC.out _ (But.drew (But.refl R wr)) (by rfl)).mono ?_; rintro e w4 ⟨x, rfl, -, hb4, hs4⟩; have K4 := hide (hb4.blk K.out.drew HX.out); have y5 : w4.cell? ⟨w.heap.size, 5, none⟩ = some (.slice A k c0) := K4.out.cell 5; have z5 := K4.out.frozen 5; have xa : ∀ o, (w4.alloc o).cell? ⟨w.heap.size, 5, none⟩ = some (.slice A k c0) := (fun o => cell_go (below_alloc _ _) y5); have HO4 := hide (Hown.out.drew.kept_but hb4 HX.out HRl.out); have B4 := hide (B.out.drew.trans hb4); have HNE := hide (own_blk_ne HO4.out K4.out (by decide)).symm; have Hs4 := hide hs4; clear hb4 hs4)
          | (show if Region.wanted (⟨some 50, _, _, _, _, _⟩ : Oper) _ = true then _ else _; refine step_append_elem _ (by rfl) _ _ _ (by rfl) w.heap.size 47 _ 7 96 Try.underlying23 info_ent (by rfl) (by omega) (.slice A k c0) k (ents L) (by rfl) (by exact ((HO4.out).alloc _).drew) (entCells x) rfl (ent_one x) w4.heap.size (by exact (Blk.new w4 47 _).drew) (by rfl) (by unfold maxLen; omega) (by omega) (by have := B4.out.size; simp [World.drew]; omega) ?_; intro g cap w5 hown5 hgrow5 hlt5; have K5 := hide (show Blk w5 w.heap.size 28 (rbox 3 0 u ⟨#[]⟩ false (.slice A k c0) ⟨#[]⟩ (.slice none 0 0)) from Blk.grown (K4.out.alloc (.cells #[.string x.id, .string x.title, .string x.link, .string x.author, .string x.content, .bool x.has, .int .i64 x.sec] 47)) hgrow5 HNE.out); have y5' : w5.cell? ⟨w.heap.size, 5, none⟩ = some (.slice A k c0) := K5.out.cell 5; have z5' := K5.out.frozen 5; have Hgrow5 := hide hgrow5; have Hown5 := hide hown5; clear hown5 hgrow5 hlt5))
      all_goals go_wp2
      all_goals
       have S5 := hide (show St w5 R (rep o2 pEntry (k + 1)) (fun y => (fun a : (Unit × ByteArray) × Nat => (True ∧ a.1.2 = u) ∧ a.2 = N) y.1 ∧ y.2 = L ++ [x]) from (St.repS (P := fun a : (Unit × ByteArray) × Nat => (True ∧ a.1.2 = u) ∧ a.2 = N) Hs4.out).keep ((Hgrow5.out.block R (by have := Hs4.out.lt; simp [World.drew]; omega) (fun e => by have := (own_isT HO4.out R e.symm).1; have := HRl.out; omega)).trans (Below.heap_alloc w4 _ R Hs4.out.lt)))
       have B5 := hide ((B4.out.alloc _).grown Hgrow5.out (fun j e => (own_isT HO4.out j e).1))
       have K6 := hide (rb5 K5.out (.slice (some ⟨g, 0, none⟩) (k + 1) cap))
       have O6 := hide (ownsRow_setCell_other Hown5.out (a := ⟨w.heap.size, 5, none⟩) (own_blk_ne Hown5.out K5.out (by decide)) (.slice (some ⟨g, 0, none⟩) (k + 1) cap))
       have S6 := hide (S5.out.keep (Below.heap_setCell w5 ⟨w.heap.size, 5, none⟩ (.slice (some ⟨g, 0, none⟩) (k + 1) cap) R hrx))
       have B6 := hide ((B5.out).setCell (p := ⟨w.heap.size, 5, none⟩) (.inr (Nat.le_refl _)) (.slice (some ⟨g, 0, none⟩) (k + 1) cap))
       go_roundg (N - (k + 1))
       case measure => have := Hg.out; omega
       case rel => exact ⟨k + 1, L ++ [x], some ⟨g, 0, none⟩, cap, rfl, by omega, by go_num, K6.out, by rw [ents_snoc]; exact O6.out, S6.out, B6.out⟩
    · have hkN : k = N := by omega
      have HkN := hide hkN
      have x0 : wr.cell? ⟨w.heap.size, 0, none⟩ = some (.int .i8 3) := K.out.cell 0
      have x1 : wr.cell? ⟨w.heap.size, 1, none⟩ = some (.int .i64 0) := K.out.cell 1
      have x2 : wr.cell? ⟨w.heap.size, 2, none⟩ = some (.string u) := K.out.cell 2
      have x3 : wr.cell? ⟨w.heap.size, 3, none⟩ = some (.string ⟨#[]⟩) := K.out.cell 3
      have x4 : wr.cell? ⟨w.heap.size, 4, none⟩ = some (.bool false) := K.out.cell 4
      have x5 : wr.cell? ⟨w.heap.size, 5, none⟩ = some (.slice A k c0) := K.out.cell 5
      have x6 : wr.cell? ⟨w.heap.size, 6, none⟩ = some (.string ⟨#[]⟩) := K.out.cell 6
      have x7 : wr.cell? ⟨w.heap.size, 7, none⟩ = some (.slice none 0 0) := K.out.cell 7
      have f0 := K.out.frozen 0
      have f1 := K.out.frozen 1
      have f2 := K.out.frozen 2
      have f3 := K.out.frozen 3
      have f4 := K.out.frozen 4
      have f5 := K.out.frozen 5
      have f6 := K.out.frozen 6
      have f7 := K.out.frozen 7
      clear hkN
      go_wp2
      have hLk := hide (show L.length = k by have := Hown.out.1; rw [ents_length] at this; omega)
      refine read_ret rfl rfl (set8_blk K.out) ?_
      refine ⟨rec3 u L, A, c0, none, 0, ?_, (B.out).set8 (Nat.le_refl _) _ _ _ _ _ _ _ _, ?_, ?_, Reads.none_, above_own Hown.out, above_none _, typed_own (own_set8 Hown.out (own_blk_ne Hown.out K.out (by decide)) _ _ _ _ _ _ _ _), typed_none _ _⟩
      · unfold rcdCells rec3 rbox
        rw [hLk.out]
        rfl
      · rw [HOP.out, body.out, ← HkN.out]
        exact St.mapf (Q := fun x => x = rec3 u L) (fun x => rec3 x.1.1.2 x.2) (S.out.keep (set8_heap _ _ _ HX.out.symm _ _ _ _ _ _ _ _)) (fun a hP => by show rec3 a.1.1.2 a.2 = rec3 u L; rw [hP.1.1.2, hP.2])
      · have ho := own_set8 Hown.out (own_blk_ne Hown.out K.out (by decide)) (.int .i8 3) (.int .i64 0) (.string u) (.string ⟨#[]⟩) (.bool false) (.slice A k c0) (.string ⟨#[]⟩) (.slice none 0 0)
        have := Reads.of_own ho
        show Reads _ _ 7 A L.length (ents L)
        rw [hLk.out]
        exact this
end Go.Proofs.Ytlkkmgimjjnhjaa
namespace Go.Proofs.Ytlkkmgimjjnhjaa
open Go.RowKit Rec
attribute [local go_sem ↓] Go.wp_at_zero Go.wp_at_succ

set_option maxHeartbeats 4000000 in
theorem read_5 (w : World) (R : Nat) (c : UInt8) (l : List UInt8) (hk : c.toNat % 128 = 5) (hR : Rl w R (c :: l) false) : Calls Try.prog 38 #[.pointer (some ⟨R, 0, none⟩)] w (ReadQ w R (c :: l)) := by
  have HX := hide (show w.heap.size ≠ R from fun e => by have := Blk.lt hR; omega)
  have HRl := hide (show R < w.heap.size from Blk.lt hR)
  have HT := hide fun (o : Obj) => (show Calls Try.prog 64 #[.pointer (some ⟨R, 0, none⟩), .int .i64 1] (w.alloc o) fun e w' => e = .returned (.string (bstr [c])) ∧ Rl w' R l false ∧ But R (w.alloc o) w' from take_yes 1 (w.alloc o) R (c :: l) (Blk.alloc hR o) (by simp))
  have i0 := index_byte' [c] 0 (by simp) 0 rfl
  simp only [List.getElem_cons_zero] at i0
  have hz : (bstr [c]).size = 1 := bstr_size _
  obtain ⟨op, hop⟩ : ∃ o, pRcd (c :: l) = o := ⟨_, rfl⟩
  obtain ⟨oa, hoa⟩ : ∃ o, afterKind c l = o := ⟨_, rfl⟩
  have HOP := hide (show op = oa.bind fun x => pBody 5 x.2 by rw [← hop, ← hoa]; exact rcd_after c l _ hk)
  have HOA := hide (show oa = if decide (6 < c.toNat) then none else some ((), l) from hoa.symm)
  unfold ReadQ
  rw [hop]
  have hm := mask127 c.toNat c.toNat_lt
  rw [hk] at hm
  generalize bstr [c] = t at *
  have hc8 := c.toNat_lt
  generalize c.toNat = n at *
  have Hk := hide hk
  clear hop hoa hR hk
  go_enter Try.func38, Try.ntmps38
  go_wp2_with fail
  refine (HT.out _).mono ?_
  rintro e w1 ⟨rfl, hr, hb⟩
  have K := hide (show Blk w1 w.heap.size 28 (rbox 0 0 ⟨#[]⟩ ⟨#[]⟩ false (.slice none 0 0) ⟨#[]⟩ (.slice none 0 0)) from hb.blk (Blk.new w 28 _) HX.out)
  have B := hide ((But.of_below (below_alloc w _)).trans hb)
  have x0 : w1.cell? ⟨w.heap.size, 0, none⟩ = some (.int .i8 0) := K.out.cell 0
  have x1 : w1.cell? ⟨w.heap.size, 1, none⟩ = some (.int .i64 0) := K.out.cell 1
  have x2 : w1.cell? ⟨w.heap.size, 2, none⟩ = some (.string ⟨#[]⟩) := K.out.cell 2
  have x3 : w1.cell? ⟨w.heap.size, 3, none⟩ = some (.string ⟨#[]⟩) := K.out.cell 3
  have x4 : w1.cell? ⟨w.heap.size, 4, none⟩ = some (.bool false) := K.out.cell 4
  have x5 : w1.cell? ⟨w.heap.size, 5, none⟩ = some (.slice none 0 0) := K.out.cell 5
  have x6 : w1.cell? ⟨w.heap.size, 6, none⟩ = some (.string ⟨#[]⟩) := K.out.cell 6
  have x7 : w1.cell? ⟨w.heap.size, 7, none⟩ = some (.slice none 0 0) := K.out.cell 7
  have f0 := K.out.frozen 0
  have f1 := K.out.frozen 1
  have f2 := K.out.frozen 2
  have f3 := K.out.frozen 3
  have f4 := K.out.frozen 4
  have f5 := K.out.frozen 5
  have f6 := K.out.frozen 6
  have f7 := K.out.frozen 7
  have d1 : w1.cell? ⟨R, 1, none⟩ = some (.bool false) := hr.cell 1
  have g1 := hr.frozen 1
  have hxr := HX.out
  have hrx := HX.out.symm
  have HR1 := hide hr
  clear hr hb
  go_wp2_with fail
  have hdd : decide ((6 : Int) < (n : Int)) = decide (6 < n) := decide_eq_decide.2 (by omega)
  have S := hide (show St ((w1.setCell ⟨w.heap.size, 0, none⟩ (.int .i8 5)).setCell ⟨R, 1, none⟩ (.bool (decide ((6 : Int) < (n : Int))))) R oa (fun _ => True) by
    rw [hdd, HOA.out]
    refine St.of ?_ () trivial
    have := Blk.set_ (Blk.far HR1.out (p := ⟨w.heap.size, 0, none⟩) hrx (.int .i8 5)) 1 (.bool (decide (6 < n)))
    unfold Rl Rd
    simpa using this)
  replace K := hide ((rb0 K.out 5).far (p := ⟨R, 1, none⟩) hxr (.bool (decide ((6 : Int) < (n : Int)))))
  replace B := hide (((B.out).setCell (p := ⟨w.heap.size, 0, none⟩) (.inr (Nat.le_refl _)) (.int .i8 5)).setCell (p := ⟨R, 1, none⟩) (.inl rfl) (.bool (decide ((6 : Int) < (n : Int)))))
  clear hdd HR1 HOA d1 g1 x0 x1 x2 x3 x4 x5 x6 x7 f0 f1 f2 f3 f4 f5 f6 f7
  refine (text_stepS _ _ _ S.out).mono ?_
  rintro e w2 ⟨u, rfl, hqu, hb, hs⟩
  replace S := hide hs
  replace K := hide (hb.blk K.out HX.out)
  replace B := hide (B.out.trans hb)
  clear hb hs
  have x0 : w2.cell? ⟨w.heap.size, 0, none⟩ = some (.int .i8 5) := K.out.cell 0
  have x1 : w2.cell? ⟨w.heap.size, 1, none⟩ = some (.int .i64 0) := K.out.cell 1
  have x2 : w2.cell? ⟨w.heap.size, 2, none⟩ = some (.string ⟨#[]⟩) := K.out.cell 2
  have x3 : w2.cell? ⟨w.heap.size, 3, none⟩ = some (.string ⟨#[]⟩) := K.out.cell 3
  have x4 : w2.cell? ⟨w.heap.size, 4, none⟩ = some (.bool false) := K.out.cell 4
  have x5 : w2.cell? ⟨w.heap.size, 5, none⟩ = some (.slice none 0 0) := K.out.cell 5
  have x6 : w2.cell? ⟨w.heap.size, 6, none⟩ = some (.string ⟨#[]⟩) := K.out.cell 6
  have x7 : w2.cell? ⟨w.heap.size, 7, none⟩ = some (.slice none 0 0) := K.out.cell 7
  have f0 := K.out.frozen 0
  have f1 := K.out.frozen 1
  have f2 := K.out.frozen 2
  have f3 := K.out.frozen 3
  have f4 := K.out.frozen 4
  have f5 := K.out.frozen 5
  have f6 := K.out.frozen 6
  have f7 := K.out.frozen 7
  go_wp2_with fail
  replace S := hide (S.out.keep (Below.heap_setCell _ ⟨w.heap.size, 6, none⟩ (.string u) _ HX.out.symm))
  replace B := hide ((B.out).setCell (p := ⟨w.heap.size, 6, none⟩) (.inr (Nat.le_refl _)) (.string u))
  replace K := hide (rb6 K.out u)
  clear x0 x1 x2 x3 x4 x5 x6 x7 f0 f1 f2 f3 f4 f5 f6 f7
  refine (many_step 32 _ _ _ S.out).mono ?_
  rintro e w3 ⟨N, rfl, hqN, hb, hs⟩
  replace S := hide hs
  replace K := hide (hb.blk K.out HX.out)
  replace B := hide (B.out.trans hb)
  clear hb hs
  have hN16 : N ≤ 32 := hqN
  have HP2 := hide (show ∀ x, also (also oa pText) (pMany 32) = some x → x.1.2 = N from by
    intro x h
    have := S.out
    rw [h] at this
    exact this.2.2)
  have body := hide (body5 oa u N HP2.out)
  obtain ⟨o2, ho2⟩ : ∃ o, also (also oa pText) (pMany 32) = o := ⟨_, rfl⟩
  rw [ho2] at S body
  clear ho2 HP2 hqN hc8
  have H0 := hide (show w3.ownsRow w.heap.size 64 8 (.slice none 0 0) 0 (kpts []) from World.ownsRow_nil _ _ _ _)
  go_wp2
  go_loopg [72] N (fun g vi wr => ∃ (k : Nat) (L : List Kpt) (A : Option Addr) (c : Nat), g = N - k ∧ k ≤ N ∧ vi = .int .i64 k ∧ Blk wr w.heap.size 28 (rbox 5 0 ⟨#[]⟩ ⟨#[]⟩ false (.slice none 0 0) u (.slice A k c)) ∧ wr.ownsRow w.heap.size 64 8 (.slice A k c) k (kpts L) ∧ St wr R (rep o2 pKpt k) (fun x => (fun a : (Unit × ByteArray) × Nat => (True ∧ a.1.2 = u) ∧ a.2 = N) x.1 ∧ x.2 = L) ∧ But R w wr)
  case atStart => exact ⟨0, [], none, 0, rfl, by omega, rfl, K.out, H0.out, S.out.rep0, B.out⟩
  case round =>
    obtain ⟨k, L, A, c0, hg, hk, rfl, hK, hown, hS, hB⟩ := hrel
    have Hg := hide hg
    have K := hide hK
    have Hown := hide hown
    have S := hide hS
    have B := hide hB
    clear hg hK hown hS hB H0
    by_cases hlt : k < N
    · go_wp2_with fail
      refine (entry_step' _ _ _ S.out).mono ?_
      rintro e w4 ⟨x, rfl, -, hb4, hs4⟩
      replace K := hide (hb4.blk K.out HX.out)
      replace Hown := hide (Hown.out.kept_but hb4 HX.out HRl.out)
      replace B := hide (B.out.trans hb4)
      have S4 := hide (hs4.keep (Below.heap_alloc w4 (.cells #[.string x.id, .string x.title, .string x.link, .string x.author, .string x.content, .bool x.has, .int .i64 x.sec, .bool false] 64) R hs4.lt))
      have Y := hide (Blk.new w4 64 #[.string x.id, .string x.title, .string x.link, .string x.author, .string x.content, .bool x.has, .int .i64 x.sec, .bool false])
      have hRY := hide (show w4.heap.size ≠ R from fun e => by have := hs4.lt; omega)
      have hXY := hide (show w.heap.size < w4.heap.size from K.out.lt)
      have hOY := hide (show (Value.slice A k c0).ownBlock ≠ some w4.heap.size from fun e => by have := (own_isT Hown.out _ e).2.lt; omega)
      clear hb4 hs4
      go_wp2_with fail
      refine (flag_step _ _ _ S4.out).mono ?_
      rintro e w5 ⟨b, rfl, -, hb5, hs5⟩
      replace K := hide (hb5.blk (K.out.alloc _) HX.out)
      replace Hown := hide ((Hown.out.alloc _).kept_but hb5 HX.out HRl.out)
      replace B := hide ((B.out.alloc _).trans hb5)
      replace Y := hide (hb5.blk Y.out hRY.out)
      have S5 := hide (show St w5 R (rep o2 pKpt (k + 1)) (fun y => (fun a : (Unit × ByteArray) × Nat => (True ∧ a.1.2 = u) ∧ a.2 = N) y.1 ∧ y.2 = L ++ [⟨x, b⟩]) from St.repK (P := fun a : (Unit × ByteArray) × Nat => (True ∧ a.1.2 = u) ∧ a.2 = N) hs5)
      clear hb5 hs5 S S4
      have y0 : w5.cell? ⟨w4.heap.size, 0, none⟩ = some (.string x.id) := Y.out.cell 0
      have y1 : w5.cell? ⟨w4.heap.size, 1, none⟩ = some (.string x.title) := Y.out.cell 1
      have y2 : w5.cell? ⟨w4.heap.size, 2, none⟩ = some (.string x.link) := Y.out.cell 2
      have y3 : w5.cell? ⟨w4.heap.size, 3, none⟩ = some (.string x.author) := Y.out.cell 3
      have y4 : w5.cell? ⟨w4.heap.size, 4, none⟩ = some (.string x.content) := Y.out.cell 4
      have y5 : w5.cell? ⟨w4.heap.size, 5, none⟩ = some (.bool x.has) := Y.out.cell 5
      have y6 : w5.cell? ⟨w4.heap.size, 6, none⟩ = some (.int .i64 x.sec) := Y.out.cell 6
      have y7 : w5.cell? ⟨w4.heap.size, 7, none⟩ = some (.bool false) := Y.out.cell 7
      have e7 := Y.out.frozen 7
      have x7 : w5.cell? ⟨w.heap.size, 7, none⟩ = some (.slice A k c0) := K.out.cell 7
      have f7 := K.out.frozen 7
      have hxy := Nat.ne_of_lt hXY.out
      have hyx := hxy.symm
      have hxr := HX.out
      have hrx := HX.out.symm
      have hyr := hRY.out
      have hry := hRY.out.symm
      have HBs := hide B.out.size
      replace K := hide (K.out.far (p := ⟨w4.heap.size, 7, none⟩) hxy (.bool b))
      replace Hown := hide (ownsRow_setCell_other Hown.out (a := ⟨w4.heap.size, 7, none⟩) hOY.out (.bool b))
      replace B := hide ((B.out).setCell (p := ⟨w4.heap.size, 7, none⟩) (.inr (Nat.le_of_lt hXY.out)) (.bool b))
      replace S5 := hide (S5.out.keep (Below.heap_setCell w5 ⟨w4.heap.size, 7, none⟩ (.bool b) R hry))
      have hs5 : (w5.setCell ⟨w4.heap.size, 7, none⟩ (.bool b)).heap.size = w5.heap.size := by simp [World.setCell]
      have HK := hide (show Blk ((w5.setCell ⟨w4.heap.size, 7, none⟩ (.bool b)).alloc (.cells #[.string x.id, .string x.title, .string x.link, .string x.author, .string x.content, .bool x.has, .int .i64 x.sec, .bool b] 64)) w5.heap.size 64 ([.string x.id, .string x.title, .string x.link, .string x.author, .string x.content, .bool x.has, .int .i64 x.sec, .bool b] : List Value).toArray from hs5 ▸ Blk.new (w5.setCell ⟨w4.heap.size, 7, none⟩ (.bool b)) 64 #[.string x.id, .string x.title, .string x.link, .string x.author, .string x.content, .bool x.has, .int .i64 x.sec, .bool b])
      have K6 := hide (K.out.alloc (.cells #[.string x.id, .string x.title, .string x.link, .string x.author, .string x.content, .bool x.has, .int .i64 x.sec, .bool b] 64))
      have HNE := hide (own_blk_ne Hown.out K.out (by decide)).symm
      have x5 : w5.heap.size + 1 = (w5.setCell ⟨w4.heap.size, 7, none⟩ (.bool b)).heap.size + 1 := by omega
      clear hs5 x5
      go_wp2_with (at_builtin; go_loud (refine wpList_append_elem_at ((w5.setCell ⟨w4.heap.size, 7, none⟩ (.bool b)).alloc (.cells #[.string x.id, .string x.title, .string x.link, .string x.author, .string x.content, .bool x.has, .int .i64 x.sec, .bool b] 64)) rfl (.tmp 82) (.tmp 84) 24 rfl w.heap.size 64 (.agg #[.string ⟨#[]⟩, .string ⟨#[]⟩, .string ⟨#[]⟩, .string ⟨#[]⟩, .string ⟨#[]⟩, .bool false, .int .i64 0, .bool false]) 8 104 Try.underlying24 info_kpt rfl (by omega) (.slice A k c0) k (kpts L) rfl (Hown.out.alloc _) [.string x.id, .string x.title, .string x.link, .string x.author, .string x.content, .bool x.has, .int .i64 x.sec, .bool b] rfl (kpt_one ⟨x, b⟩) w5.heap.size HK.out rfl (by unfold maxLen; omega) (by omega) (by have := HBs.out; simp; omega) ?_); intro g cap w6 hown6 hgrow6 hlt6; have K7 := hide (K6.out.grown hgrow6 HNE.out); have y7' : w6.cell? ⟨w.heap.size, 7, none⟩ = some (.slice A k c0) := K7.out.cell 7; have z7' := K7.out.frozen 7; have Hgrow6 := hide hgrow6; have Hown6 := hide hown6; clear hown6 hgrow6 hlt6)
      have S6 := hide (((S5.out.keep (Below.heap_alloc _ (.cells #[.string x.id, .string x.title, .string x.link, .string x.author, .string x.content, .bool x.has, .int .i64 x.sec, .bool b] 64) R S5.out.lt)).keep (Hgrow6.out.block R (Nat.lt_of_lt_of_le S5.out.lt (by simp)) (fun e => by have := (own_isT Hown.out R e.symm).1; have := HRl.out; omega))).keep (Below.heap_setCell w6 ⟨w.heap.size, 7, none⟩ (.slice (some ⟨g, 0, none⟩) (k + 1) cap) R hrx))
      have B6 := hide (((B.out.alloc _).grown Hgrow6.out (fun j e => (own_isT Hown.out j e).1)).setCell (p := ⟨w.heap.size, 7, none⟩) (.inr (Nat.le_refl _)) (.slice (some ⟨g, 0, none⟩) (k + 1) cap))
      have K8 := hide (rb7 K7.out (.slice (some ⟨g, 0, none⟩) (k + 1) cap))
      have O6 := hide (ownsRow_setCell_other Hown6.out (a := ⟨w.heap.size, 7, none⟩) (own_blk_ne Hown6.out K7.out (by decide)) (.slice (some ⟨g, 0, none⟩) (k + 1) cap))
      go_roundg (N - (k + 1))
      case measure => have := Hg.out; omega
      case rel => exact ⟨k + 1, L ++ [⟨x, b⟩], some ⟨g, 0, none⟩, cap, rfl, by omega, by go_num, K8.out, by rw [kpts_snoc]; exact O6.out, S6.out, B6.out⟩
    · have hkN : k = N := by omega
      have HkN := hide hkN
      have x0 : wr.cell? ⟨w.heap.size, 0, none⟩ = some (.int .i8 5) := K.out.cell 0
      have x1 : wr.cell? ⟨w.heap.size, 1, none⟩ = some (.int .i64 0) := K.out.cell 1
      have x2 : wr.cell? ⟨w.heap.size, 2, none⟩ = some (.string ⟨#[]⟩) := K.out.cell 2
      have x3 : wr.cell? ⟨w.heap.size, 3, none⟩ = some (.string ⟨#[]⟩) := K.out.cell 3
      have x4 : wr.cell? ⟨w.heap.size, 4, none⟩ = some (.bool false) := K.out.cell 4
      have x5 : wr.cell? ⟨w.heap.size, 5, none⟩ = some (.slice none 0 0) := K.out.cell 5
      have x6 : wr.cell? ⟨w.heap.size, 6, none⟩ = some (.string u) := K.out.cell 6
      have x7 : wr.cell? ⟨w.heap.size, 7, none⟩ = some (.slice A k c0) := K.out.cell 7
      have f0 := K.out.frozen 0
      have f1 := K.out.frozen 1
      have f2 := K.out.frozen 2
      have f3 := K.out.frozen 3
      have f4 := K.out.frozen 4
      have f5 := K.out.frozen 5
      have f6 := K.out.frozen 6
      have f7 := K.out.frozen 7
      clear hkN
      go_wp2
      have hLk := hide (show L.length = k by have := Hown.out.1; rw [kpts_length] at this; omega)
      refine read_ret rfl rfl (set8_blk K.out) ?_
      refine ⟨rec5 u L, none, 0, A, c0, ?_, (B.out).set8 (Nat.le_refl _) _ _ _ _ _ _ _ _, ?_, Reads.none_, ?_, above_none _, above_own Hown.out, typed_none _ _, typed_own (own_set8 Hown.out (own_blk_ne Hown.out K.out (by decide)) _ _ _ _ _ _ _ _)⟩
      · unfold rcdCells rec5 rbox
        rw [hLk.out]
        rfl
      · rw [HOP.out, body.out, ← HkN.out]
        exact St.mapf (Q := fun x => x = rec5 u L) (fun x => rec5 x.1.1.2 x.2) (S.out.keep (set8_heap _ _ _ HX.out.symm _ _ _ _ _ _ _ _)) (fun a hP => by show rec5 a.1.1.2 a.2 = rec5 u L; rw [hP.1.1.2, hP.2])
      · have ho := own_set8 Hown.out (own_blk_ne Hown.out K.out (by decide)) (.int .i8 5) (.int .i64 0) (.string ⟨#[]⟩) (.string ⟨#[]⟩) (.bool false) (.slice none 0 0) (.string u) (.slice A k c0)
        have := Reads.of_own ho
        show Reads _ _ 8 A L.length (kpts L)
        rw [hLk.out]
        exact this
end Go.Proofs.Ytlkkmgimjjnhjaa
