/- The document's Read: kinds 0, 1, 2, 4. (Printed by wip/genRefRd.py.) -/
import Derived.Test.YtlkkmgimjjnhjaaMA24
set_option linter.unusedSimpArgs false
set_option linter.unusedVariables false
namespace Go.Proofs.Ytlkkmgimjjnhjaa
open Go.RowKit Rec
attribute [local go_sem ↓] Go.wp_at_zero Go.wp_at_succ

set_option maxHeartbeats 4000000 in
theorem rread_0 (b : ByteArray) (w : World) (c : UInt8) (l : List UInt8) (hl : b.data.toList = c :: l) (hk : c.toNat = 0) (hs : b.size ≤ 65536) :
    Calls Try.prog 22 #[.string b] w (ReadR w (readOut b)) := by
  obtain ⟨op, hop⟩ : ∃ o, pRcd (c :: l) = o := ⟨_, rfl⟩
  have hout := readOut_of (b := b) (o := op) (by rw [hl, hop]) hs
  have HOK := hide fun r rest (h : op = some (r, rest)) => pRcd_ok (hop.trans h) (by have := congrArg List.length hl; simp at this; simp; omega)
  have hob : op = (if false then none else some ((), l)).bind fun x => pBody 0 x.2 := by rw [← hop]; show pBody c.toNat l = pBody 0 l; rw [hk]
  obtain ⟨oa, hoa⟩ : ∃ o : Option (Unit × List UInt8), (if false then none else some ((), l)) = o := ⟨_, rfl⟩
  rw [hoa] at hob
  have HOB := hide hob
  have HOA := hide hoa
  obtain ⟨oo, hoo⟩ : ∃ o, readOut b = o := ⟨_, rfl⟩
  rw [hoo] at hout ⊢
  have HOUT := hide hout
  clear hop hout hob hoa hoo
  have i0 := index_byte' [c] 0 (by simp) 0 rfl
  simp only [List.getElem_cons_zero, hk] at i0
  have hz : (bstr [c]).size = 1 := bstr_size _
  have hd : decide ((65536 : Int) < b.size) = false := by simp; omega
  have HZ := hide (show b.size ≤ 1000000000 by omega)
  have HT := hide fun (W : World) (hR : Ql W (w.heap.size + 1) b b.data.toList false) => (show Calls Try.prog 39 #[.pointer (some ⟨w.heap.size + 1, 0, none⟩), .int .i64 1] W fun e w' => e = .returned (.string (bstr [c])) ∧ Ql w' (w.heap.size + 1) b l false ∧ But (w.heap.size + 1) W w' from by have h2 := hR; rw [hl] at h2; exact qtake_yes 1 W (w.heap.size + 1) b (c :: l) h2 (by omega) (by simp))
  have H0 := hide (show Ql ((w.alloc (.cells (rbox 0 0 ⟨#[]⟩ ⟨#[]⟩ false (.slice none 0 0) ⟨#[]⟩ (.slice none 0 0)) 28)).alloc (.cells #[.string b, .int .i64 0, .bool false] 71)) (w.heap.size + 1) b b.data.toList false from ⟨0, by omega, by simp, by
    have := Blk.new (w.alloc (.cells (rbox 0 0 ⟨#[]⟩ ⟨#[]⟩ false (.slice none 0 0) ⟨#[]⟩ (.slice none 0 0)) 28)) 71 #[.string b, .int .i64 0, .bool false]
    rw [World.size_alloc] at this
    exact this⟩)
  generalize bstr [c] = t at *
  clear hl hk hs
  go_enter Try.func22, Try.ntmps22
  go_wp2_with fail
  refine (HT.out _ H0.out).mono ?_
  rintro e w1 ⟨rfl, hr, hb⟩
  have B := hide ((((Below.refl w.heap.size w).alloc (Nat.le_refl _) (.cells (rbox 0 0 ⟨#[]⟩ ⟨#[]⟩ false (.slice none 0 0) ⟨#[]⟩ (.slice none 0 0)) 28)).alloc (by simp) (.cells #[.string b, .int .i64 0, .bool false] 71)).trans (hb.below (B := w.heap.size) (by omega) (by simp; omega)))
  have KX := hide (show Blk w1 w.heap.size 28 (rbox 0 0 ⟨#[]⟩ ⟨#[]⟩ false (.slice none 0 0) ⟨#[]⟩ (.slice none 0 0)) from hb.blk ((Blk.new w 28 (rbox 0 0 ⟨#[]⟩ ⟨#[]⟩ false (.slice none 0 0) ⟨#[]⟩ (.slice none 0 0))).alloc _) (by omega))
  have hRYo := hide (show (w.heap.size + 1) < w1.heap.size from hr.lt)
  have hXYo := hide (show w.heap.size < w1.heap.size from KX.out.lt)
  have d2 : w1.cell? ⟨w.heap.size + 1, 2, none⟩ = some (.bool false) := by obtain ⟨_, q, _⟩ := hr.bad?; exact q
  have KY := hide (Blk.new w1 28 (rbox 0 0 ⟨#[]⟩ ⟨#[]⟩ false (.slice none 0 0) ⟨#[]⟩ (.slice none 0 0)))
  have Bu := hide (But.refl (w.heap.size + 1) (w1.alloc (.cells (rbox 0 0 ⟨#[]⟩ ⟨#[]⟩ false (.slice none 0 0) ⟨#[]⟩ (.slice none 0 0)) 28)))
  have KX0 := KX
  have B0 := B
  replace KX := hide (KX.out.alloc (.cells (rbox 0 0 ⟨#[]⟩ ⟨#[]⟩ false (.slice none 0 0) ⟨#[]⟩ (.slice none 0 0)) 28))
  replace B := hide (B.out.alloc (Nat.le_of_lt hXYo.out) (.cells (rbox 0 0 ⟨#[]⟩ ⟨#[]⟩ false (.slice none 0 0) ⟨#[]⟩ (.slice none 0 0)) 28))
  have S := hide (show StQ (w1.alloc (.cells (rbox 0 0 ⟨#[]⟩ ⟨#[]⟩ false (.slice none 0 0) ⟨#[]⟩ (.slice none 0 0)) 28)) (w.heap.size + 1) b oa (fun _ => True) by
    rw [← HOA.out]
    exact StQ.of (bad := false) (hr.keep (Below.heap_alloc _ _ _ hr.lt)) () trivial)
  clear hr hb HOA
  have hXY := hXYo.out
  have hXR : w.heap.size ≠ (w.heap.size + 1) := by omega
  have hRX := hXR.symm
  have hRY := hRYo.out
  have hYR : w1.heap.size ≠ (w.heap.size + 1) := by omega
  have hRY' := hYR.symm
  have hXYn : w.heap.size ≠ w1.heap.size := by omega
  have hYX := hXYn.symm
  go_wp2_with fail
  refine (qnum_step HZ.out _ _ _ S.out).mono ?_
  rintro e w2 ⟨n, rfl, hqn, hb, hs⟩
  replace S := hide hs
  replace KX := hide (hb.blk KX.out hXR)
  replace KY := hide (hb.blk KY.out hYR)
  replace B := hide (B.out.trans (hb.below (B := w.heap.size) (by omega) (by have := KX.out.lt; have := B.out.size; omega)))
  clear hb hs
  have x0 : w2.cell? ⟨w.heap.size, 0, none⟩ = some (.int .i8 0) := KX.out.cell 0
  have x1 : w2.cell? ⟨w.heap.size, 1, none⟩ = some (.int .i64 0) := KX.out.cell 1
  have x2 : w2.cell? ⟨w.heap.size, 2, none⟩ = some (.string ⟨#[]⟩) := KX.out.cell 2
  have x3 : w2.cell? ⟨w.heap.size, 3, none⟩ = some (.string ⟨#[]⟩) := KX.out.cell 3
  have x4 : w2.cell? ⟨w.heap.size, 4, none⟩ = some (.bool false) := KX.out.cell 4
  have x5 : w2.cell? ⟨w.heap.size, 5, none⟩ = some (.slice none 0 0) := KX.out.cell 5
  have x6 : w2.cell? ⟨w.heap.size, 6, none⟩ = some (.string ⟨#[]⟩) := KX.out.cell 6
  have x7 : w2.cell? ⟨w.heap.size, 7, none⟩ = some (.slice none 0 0) := KX.out.cell 7
  have f0 := KX.out.frozen 0
  have f1 := KX.out.frozen 1
  have f2 := KX.out.frozen 2
  have f3 := KX.out.frozen 3
  have f4 := KX.out.frozen 4
  have f5 := KX.out.frozen 5
  have f6 := KX.out.frozen 6
  have f7 := KX.out.frozen 7
  have y0 : w2.cell? ⟨w1.heap.size, 0, none⟩ = some (.int .i8 0) := KY.out.cell 0
  have y1 : w2.cell? ⟨w1.heap.size, 1, none⟩ = some (.int .i64 0) := KY.out.cell 1
  have y2 : w2.cell? ⟨w1.heap.size, 2, none⟩ = some (.string ⟨#[]⟩) := KY.out.cell 2
  have y3 : w2.cell? ⟨w1.heap.size, 3, none⟩ = some (.string ⟨#[]⟩) := KY.out.cell 3
  have y4 : w2.cell? ⟨w1.heap.size, 4, none⟩ = some (.bool false) := KY.out.cell 4
  have y5 : w2.cell? ⟨w1.heap.size, 5, none⟩ = some (.slice none 0 0) := KY.out.cell 5
  have y6 : w2.cell? ⟨w1.heap.size, 6, none⟩ = some (.string ⟨#[]⟩) := KY.out.cell 6
  have y7 : w2.cell? ⟨w1.heap.size, 7, none⟩ = some (.slice none 0 0) := KY.out.cell 7
  have g0 := KY.out.frozen 0
  have g1 := KY.out.frozen 1
  have g2 := KY.out.frozen 2
  have g3 := KY.out.frozen 3
  have g4 := KY.out.frozen 4
  have g5 := KY.out.frozen 5
  have g6 := KY.out.frozen 6
  have g7 := KY.out.frozen 7
  obtain ⟨oz, hoz⟩ : ∃ o, op = o := ⟨_, rfl⟩
  have S9 := hide (show StQ w2 (w.heap.size + 1) b op (fun x => x = rec0 n) from by rw [HOB.out, body0]; exact StQ.mapf (Q := fun x => x = rec0 n) (fun x => rec0 x.2) S.out (fun a hP => by show rec0 a.2 = rec0 n; rw [hP.2]))
  rw [hoz] at S9 HOUT HOK
  clear hoz
  replace S := hide (S.out.keep (Below.heap_setCell _ ⟨w1.heap.size, 1, none⟩ (.int .i64 (n : Int)) _ hRY'))
  replace B := hide ((B.out).setCell (p := ⟨w1.heap.size, 1, none⟩) (Nat.le_of_lt hXY) (.int .i64 (n : Int)))
  replace KX := hide (KX.out.far (p := ⟨w1.heap.size, 1, none⟩) hXYn (.int .i64 (n : Int)))
  replace KY := hide (rb1 KY.out n)
  clear S
  cases oz with
  | none =>
    have d2 := S9.out.cell2
    simp only [Option.isNone_none] at d2
    go_wp2
    refine read2_retq rfl rfl rfl (set8_blk KX.out) ?_
    have hn : oo = none := HOUT.out
    subst hn
    exact ReadR.none_ rfl (below_set8 B.out (Nat.le_refl _) _ _ _ _ _ _ _ _)
  | some q =>
    obtain ⟨rr, rest⟩ := q
    obtain ⟨⟨at9, hp9, hrest, hq9⟩, hrr⟩ := S9.out
    have Hrr := hide (show rr = rec0 n from hrr)
    have d1 : w2.cell? ⟨w.heap.size + 1, 1, none⟩ = some (.int .i64 (at9 : Int)) := hq9.cell 1
    have d2 : w2.cell? ⟨w.heap.size + 1, 2, none⟩ = some (.bool false) := hq9.cell 2
    have Hrest := hide (show rest = [] ↔ at9 = b.size by rw [hrest]; exact rest_nil hp9)
    have Hok := hide (show RcdOk (rec0 n) by have := HOK.out rr rest rfl; rw [Hrr.out] at this; exact this)
    clear hp9 hrest hq9 hrr HOK S9
    by_cases he : at9 = b.size
    · subst he
      obtain ⟨m, hm⟩ : ∃ m, mayAll (rec0 n) = m := ⟨_, rfl⟩
      have HM := hide fun (W : World) => rmayP_any (rec0 n) (none) (none) (0) (0) W ⟨Reads.none_, Reads.none_, Hok.out.na, Hok.out.nk, Hok.out.sa, Hok.out.sk, Hok.out.su, Hok.out.si⟩
      rw [hm] at HM
      have Hm := hide hm
      unfold rcdCells rec0 at HM
      clear hm
      go_wp2_with fail
      refine (HM.out _).mono ?_
      rintro e wz ⟨rfl, hbz⟩
      have KX2 := hide (KX.out.below hbz KX.out.lt)
      have KY2 := hide (KY.out.below hbz KY.out.lt)
      have B2 := hide (B.out.trans (hbz.mono B.out.size))
      have Hbz := hide hbz
      clear hbz x0 x1 x2 x3 x4 x5 x6 x7 f0 f1 f2 f3 f4 f5 f6 f7
      clear y0 y1 y2 y3 y4 y5 y6 y7 g0 g1 g2 g3 g4 g5 g6 g7
      have x0 : wz.cell? ⟨w.heap.size, 0, none⟩ = some (.int .i8 0) := KX2.out.cell 0
      have x1 : wz.cell? ⟨w.heap.size, 1, none⟩ = some (.int .i64 0) := KX2.out.cell 1
      have x2 : wz.cell? ⟨w.heap.size, 2, none⟩ = some (.string ⟨#[]⟩) := KX2.out.cell 2
      have x3 : wz.cell? ⟨w.heap.size, 3, none⟩ = some (.string ⟨#[]⟩) := KX2.out.cell 3
      have x4 : wz.cell? ⟨w.heap.size, 4, none⟩ = some (.bool false) := KX2.out.cell 4
      have x5 : wz.cell? ⟨w.heap.size, 5, none⟩ = some (.slice none 0 0) := KX2.out.cell 5
      have x6 : wz.cell? ⟨w.heap.size, 6, none⟩ = some (.string ⟨#[]⟩) := KX2.out.cell 6
      have x7 : wz.cell? ⟨w.heap.size, 7, none⟩ = some (.slice none 0 0) := KX2.out.cell 7
      have f0 := KX2.out.frozen 0
      have f1 := KX2.out.frozen 1
      have f2 := KX2.out.frozen 2
      have f3 := KX2.out.frozen 3
      have f4 := KX2.out.frozen 4
      have f5 := KX2.out.frozen 5
      have f6 := KX2.out.frozen 6
      have f7 := KX2.out.frozen 7
      have y0 : wz.cell? ⟨w1.heap.size, 0, none⟩ = some (.int .i8 0) := KY2.out.cell 0
      have y1 : wz.cell? ⟨w1.heap.size, 1, none⟩ = some (.int .i64 (n : Int)) := KY2.out.cell 1
      have y2 : wz.cell? ⟨w1.heap.size, 2, none⟩ = some (.string ⟨#[]⟩) := KY2.out.cell 2
      have y3 : wz.cell? ⟨w1.heap.size, 3, none⟩ = some (.string ⟨#[]⟩) := KY2.out.cell 3
      have y4 : wz.cell? ⟨w1.heap.size, 4, none⟩ = some (.bool false) := KY2.out.cell 4
      have y5 : wz.cell? ⟨w1.heap.size, 5, none⟩ = some (.slice none 0 0) := KY2.out.cell 5
      have y6 : wz.cell? ⟨w1.heap.size, 6, none⟩ = some (.string ⟨#[]⟩) := KY2.out.cell 6
      have y7 : wz.cell? ⟨w1.heap.size, 7, none⟩ = some (.slice none 0 0) := KY2.out.cell 7
      cases m
      · go_wp2
        refine read2_retq rfl rfl rfl (set8_blk KX2.out) ?_
        have hn : oo = none := by rw [HOUT.out, Hrr.out]; exact if_neg (fun h => by rw [Hm.out] at h; cases h.2)
        subst hn
        exact ReadR.none_ rfl (below_set8 B2.out (Nat.le_refl _) _ _ _ _ _ _ _ _)
      · go_wp2
        refine read2_retq rfl rfl rfl (set8_blk KX2.out) ?_
        have hn : oo = some (rec0 n) := by rw [HOUT.out, Hrr.out]; exact if_pos ⟨by first | exact Hrest.out.2 rfl | exact Hrest.out.2 trivial, Hm.out⟩
        subst hn
        exact ⟨none, 0, none, 0, rfl, below_set8 B2.out (Nat.le_refl _) _ _ _ _ _ _ _ _, Reads.none_, Reads.none_, above_none _, above_none _, typed_none _ _, typed_none _ _⟩
    · have hn : oo = none := by rw [HOUT.out]; exact if_neg (fun h => he (Hrest.out.1 h.1))
      subst hn
      have he2 : ¬ b.size = at9 := fun h => he h.symm
      go_wp2
      refine read2_retq rfl rfl rfl (set8_blk KX.out) ?_
      exact ReadR.none_ rfl (below_set8 B.out (Nat.le_refl _) _ _ _ _ _ _ _ _)

set_option maxHeartbeats 4000000 in
theorem rread_1 (b : ByteArray) (w : World) (c : UInt8) (l : List UInt8) (hl : b.data.toList = c :: l) (hk : c.toNat = 1) (hs : b.size ≤ 65536) :
    Calls Try.prog 22 #[.string b] w (ReadR w (readOut b)) := by
  obtain ⟨op, hop⟩ : ∃ o, pRcd (c :: l) = o := ⟨_, rfl⟩
  have hout := readOut_of (b := b) (o := op) (by rw [hl, hop]) hs
  have HOK := hide fun r rest (h : op = some (r, rest)) => pRcd_ok (hop.trans h) (by have := congrArg List.length hl; simp at this; simp; omega)
  have hob : op = (if false then none else some ((), l)).bind fun x => pBody 1 x.2 := by rw [← hop]; show pBody c.toNat l = pBody 1 l; rw [hk]
  obtain ⟨oa, hoa⟩ : ∃ o : Option (Unit × List UInt8), (if false then none else some ((), l)) = o := ⟨_, rfl⟩
  rw [hoa] at hob
  have HOB := hide hob
  have HOA := hide hoa
  obtain ⟨oo, hoo⟩ : ∃ o, readOut b = o := ⟨_, rfl⟩
  rw [hoo] at hout ⊢
  have HOUT := hide hout
  clear hop hout hob hoa hoo
  have i0 := index_byte' [c] 0 (by simp) 0 rfl
  simp only [List.getElem_cons_zero, hk] at i0
  have hz : (bstr [c]).size = 1 := bstr_size _
  have hd : decide ((65536 : Int) < b.size) = false := by simp; omega
  have HZ := hide (show b.size ≤ 1000000000 by omega)
  have HT := hide fun (W : World) (hR : Ql W (w.heap.size + 1) b b.data.toList false) => (show Calls Try.prog 39 #[.pointer (some ⟨w.heap.size + 1, 0, none⟩), .int .i64 1] W fun e w' => e = .returned (.string (bstr [c])) ∧ Ql w' (w.heap.size + 1) b l false ∧ But (w.heap.size + 1) W w' from by have h2 := hR; rw [hl] at h2; exact qtake_yes 1 W (w.heap.size + 1) b (c :: l) h2 (by omega) (by simp))
  have H0 := hide (show Ql ((w.alloc (.cells (rbox 0 0 ⟨#[]⟩ ⟨#[]⟩ false (.slice none 0 0) ⟨#[]⟩ (.slice none 0 0)) 28)).alloc (.cells #[.string b, .int .i64 0, .bool false] 71)) (w.heap.size + 1) b b.data.toList false from ⟨0, by omega, by simp, by
    have := Blk.new (w.alloc (.cells (rbox 0 0 ⟨#[]⟩ ⟨#[]⟩ false (.slice none 0 0) ⟨#[]⟩ (.slice none 0 0)) 28)) 71 #[.string b, .int .i64 0, .bool false]
    rw [World.size_alloc] at this
    exact this⟩)
  generalize bstr [c] = t at *
  clear hl hk hs
  go_enter Try.func22, Try.ntmps22
  go_wp2_with fail
  refine (HT.out _ H0.out).mono ?_
  rintro e w1 ⟨rfl, hr, hb⟩
  have B := hide ((((Below.refl w.heap.size w).alloc (Nat.le_refl _) (.cells (rbox 0 0 ⟨#[]⟩ ⟨#[]⟩ false (.slice none 0 0) ⟨#[]⟩ (.slice none 0 0)) 28)).alloc (by simp) (.cells #[.string b, .int .i64 0, .bool false] 71)).trans (hb.below (B := w.heap.size) (by omega) (by simp; omega)))
  have KX := hide (show Blk w1 w.heap.size 28 (rbox 0 0 ⟨#[]⟩ ⟨#[]⟩ false (.slice none 0 0) ⟨#[]⟩ (.slice none 0 0)) from hb.blk ((Blk.new w 28 (rbox 0 0 ⟨#[]⟩ ⟨#[]⟩ false (.slice none 0 0) ⟨#[]⟩ (.slice none 0 0))).alloc _) (by omega))
  have hRYo := hide (show (w.heap.size + 1) < w1.heap.size from hr.lt)
  have hXYo := hide (show w.heap.size < w1.heap.size from KX.out.lt)
  have d2 : w1.cell? ⟨w.heap.size + 1, 2, none⟩ = some (.bool false) := by obtain ⟨_, q, _⟩ := hr.bad?; exact q
  have KY := hide (Blk.new w1 28 (rbox 1 0 ⟨#[]⟩ ⟨#[]⟩ false (.slice none 0 0) ⟨#[]⟩ (.slice none 0 0)))
  have Bu := hide (But.refl (w.heap.size + 1) (w1.alloc (.cells (rbox 1 0 ⟨#[]⟩ ⟨#[]⟩ false (.slice none 0 0) ⟨#[]⟩ (.slice none 0 0)) 28)))
  have KX0 := KX
  have B0 := B
  replace KX := hide (KX.out.alloc (.cells (rbox 1 0 ⟨#[]⟩ ⟨#[]⟩ false (.slice none 0 0) ⟨#[]⟩ (.slice none 0 0)) 28))
  replace B := hide (B.out.alloc (Nat.le_of_lt hXYo.out) (.cells (rbox 1 0 ⟨#[]⟩ ⟨#[]⟩ false (.slice none 0 0) ⟨#[]⟩ (.slice none 0 0)) 28))
  have S := hide (show StQ (w1.alloc (.cells (rbox 1 0 ⟨#[]⟩ ⟨#[]⟩ false (.slice none 0 0) ⟨#[]⟩ (.slice none 0 0)) 28)) (w.heap.size + 1) b oa (fun _ => True) by
    rw [← HOA.out]
    exact StQ.of (bad := false) (hr.keep (Below.heap_alloc _ _ _ hr.lt)) () trivial)
  clear hr hb HOA
  have hXY := hXYo.out
  have hXR : w.heap.size ≠ (w.heap.size + 1) := by omega
  have hRX := hXR.symm
  have hRY := hRYo.out
  have hYR : w1.heap.size ≠ (w.heap.size + 1) := by omega
  have hRY' := hYR.symm
  have hXYn : w.heap.size ≠ w1.heap.size := by omega
  have hYX := hXYn.symm
  go_wp2_with fail
  refine (qtext_step HZ.out _ _ _ S.out).mono ?_
  rintro e w2 ⟨u, rfl, hqu, hb, hs⟩
  replace S := hide hs
  replace KX := hide (hb.blk KX.out hXR)
  replace KY := hide (hb.blk KY.out hYR)
  replace B := hide (B.out.trans (hb.below (B := w.heap.size) (by omega) (by have := KX.out.lt; have := B.out.size; omega)))
  clear hb hs
  have x0 : w2.cell? ⟨w.heap.size, 0, none⟩ = some (.int .i8 0) := KX.out.cell 0
  have x1 : w2.cell? ⟨w.heap.size, 1, none⟩ = some (.int .i64 0) := KX.out.cell 1
  have x2 : w2.cell? ⟨w.heap.size, 2, none⟩ = some (.string ⟨#[]⟩) := KX.out.cell 2
  have x3 : w2.cell? ⟨w.heap.size, 3, none⟩ = some (.string ⟨#[]⟩) := KX.out.cell 3
  have x4 : w2.cell? ⟨w.heap.size, 4, none⟩ = some (.bool false) := KX.out.cell 4
  have x5 : w2.cell? ⟨w.heap.size, 5, none⟩ = some (.slice none 0 0) := KX.out.cell 5
  have x6 : w2.cell? ⟨w.heap.size, 6, none⟩ = some (.string ⟨#[]⟩) := KX.out.cell 6
  have x7 : w2.cell? ⟨w.heap.size, 7, none⟩ = some (.slice none 0 0) := KX.out.cell 7
  have f0 := KX.out.frozen 0
  have f1 := KX.out.frozen 1
  have f2 := KX.out.frozen 2
  have f3 := KX.out.frozen 3
  have f4 := KX.out.frozen 4
  have f5 := KX.out.frozen 5
  have f6 := KX.out.frozen 6
  have f7 := KX.out.frozen 7
  have y0 : w2.cell? ⟨w1.heap.size, 0, none⟩ = some (.int .i8 1) := KY.out.cell 0
  have y1 : w2.cell? ⟨w1.heap.size, 1, none⟩ = some (.int .i64 0) := KY.out.cell 1
  have y2 : w2.cell? ⟨w1.heap.size, 2, none⟩ = some (.string ⟨#[]⟩) := KY.out.cell 2
  have y3 : w2.cell? ⟨w1.heap.size, 3, none⟩ = some (.string ⟨#[]⟩) := KY.out.cell 3
  have y4 : w2.cell? ⟨w1.heap.size, 4, none⟩ = some (.bool false) := KY.out.cell 4
  have y5 : w2.cell? ⟨w1.heap.size, 5, none⟩ = some (.slice none 0 0) := KY.out.cell 5
  have y6 : w2.cell? ⟨w1.heap.size, 6, none⟩ = some (.string ⟨#[]⟩) := KY.out.cell 6
  have y7 : w2.cell? ⟨w1.heap.size, 7, none⟩ = some (.slice none 0 0) := KY.out.cell 7
  have g0 := KY.out.frozen 0
  have g1 := KY.out.frozen 1
  have g2 := KY.out.frozen 2
  have g3 := KY.out.frozen 3
  have g4 := KY.out.frozen 4
  have g5 := KY.out.frozen 5
  have g6 := KY.out.frozen 6
  have g7 := KY.out.frozen 7
  obtain ⟨oz, hoz⟩ : ∃ o, op = o := ⟨_, rfl⟩
  have S9 := hide (show StQ w2 (w.heap.size + 1) b op (fun x => x = rec1 1 u) from by rw [HOB.out, body1]; exact StQ.mapf (Q := fun x => x = rec1 1 u) (fun x => rec1 1 x.2) S.out (fun a hP => by show rec1 1 a.2 = rec1 1 u; rw [hP.2]))
  rw [hoz] at S9 HOUT HOK
  clear hoz
  replace S := hide (S.out.keep (Below.heap_setCell _ ⟨w1.heap.size, 2, none⟩ (.string u) _ hRY'))
  replace B := hide ((B.out).setCell (p := ⟨w1.heap.size, 2, none⟩) (Nat.le_of_lt hXY) (.string u))
  replace KX := hide (KX.out.far (p := ⟨w1.heap.size, 2, none⟩) hXYn (.string u))
  replace KY := hide (rb2 KY.out u)
  clear S
  cases oz with
  | none =>
    have d2 := S9.out.cell2
    simp only [Option.isNone_none] at d2
    go_wp2
    refine read2_retq rfl rfl rfl (set8_blk KX.out) ?_
    have hn : oo = none := HOUT.out
    subst hn
    exact ReadR.none_ rfl (below_set8 B.out (Nat.le_refl _) _ _ _ _ _ _ _ _)
  | some q =>
    obtain ⟨rr, rest⟩ := q
    obtain ⟨⟨at9, hp9, hrest, hq9⟩, hrr⟩ := S9.out
    have Hrr := hide (show rr = rec1 1 u from hrr)
    have d1 : w2.cell? ⟨w.heap.size + 1, 1, none⟩ = some (.int .i64 (at9 : Int)) := hq9.cell 1
    have d2 : w2.cell? ⟨w.heap.size + 1, 2, none⟩ = some (.bool false) := hq9.cell 2
    have Hrest := hide (show rest = [] ↔ at9 = b.size by rw [hrest]; exact rest_nil hp9)
    have Hok := hide (show RcdOk (rec1 1 u) by have := HOK.out rr rest rfl; rw [Hrr.out] at this; exact this)
    clear hp9 hrest hq9 hrr HOK S9
    by_cases he : at9 = b.size
    · subst he
      obtain ⟨m, hm⟩ : ∃ m, mayAll (rec1 1 u) = m := ⟨_, rfl⟩
      have HM := hide fun (W : World) => rmayP_any (rec1 1 u) (none) (none) (0) (0) W ⟨Reads.none_, Reads.none_, Hok.out.na, Hok.out.nk, Hok.out.sa, Hok.out.sk, Hok.out.su, Hok.out.si⟩
      rw [hm] at HM
      have Hm := hide hm
      unfold rcdCells rec1 at HM
      clear hm
      go_wp2_with fail
      refine (HM.out _).mono ?_
      rintro e wz ⟨rfl, hbz⟩
      have KX2 := hide (KX.out.below hbz KX.out.lt)
      have KY2 := hide (KY.out.below hbz KY.out.lt)
      have B2 := hide (B.out.trans (hbz.mono B.out.size))
      have Hbz := hide hbz
      clear hbz x0 x1 x2 x3 x4 x5 x6 x7 f0 f1 f2 f3 f4 f5 f6 f7
      clear y0 y1 y2 y3 y4 y5 y6 y7 g0 g1 g2 g3 g4 g5 g6 g7
      have x0 : wz.cell? ⟨w.heap.size, 0, none⟩ = some (.int .i8 0) := KX2.out.cell 0
      have x1 : wz.cell? ⟨w.heap.size, 1, none⟩ = some (.int .i64 0) := KX2.out.cell 1
      have x2 : wz.cell? ⟨w.heap.size, 2, none⟩ = some (.string ⟨#[]⟩) := KX2.out.cell 2
      have x3 : wz.cell? ⟨w.heap.size, 3, none⟩ = some (.string ⟨#[]⟩) := KX2.out.cell 3
      have x4 : wz.cell? ⟨w.heap.size, 4, none⟩ = some (.bool false) := KX2.out.cell 4
      have x5 : wz.cell? ⟨w.heap.size, 5, none⟩ = some (.slice none 0 0) := KX2.out.cell 5
      have x6 : wz.cell? ⟨w.heap.size, 6, none⟩ = some (.string ⟨#[]⟩) := KX2.out.cell 6
      have x7 : wz.cell? ⟨w.heap.size, 7, none⟩ = some (.slice none 0 0) := KX2.out.cell 7
      have f0 := KX2.out.frozen 0
      have f1 := KX2.out.frozen 1
      have f2 := KX2.out.frozen 2
      have f3 := KX2.out.frozen 3
      have f4 := KX2.out.frozen 4
      have f5 := KX2.out.frozen 5
      have f6 := KX2.out.frozen 6
      have f7 := KX2.out.frozen 7
      have y0 : wz.cell? ⟨w1.heap.size, 0, none⟩ = some (.int .i8 1) := KY2.out.cell 0
      have y1 : wz.cell? ⟨w1.heap.size, 1, none⟩ = some (.int .i64 0) := KY2.out.cell 1
      have y2 : wz.cell? ⟨w1.heap.size, 2, none⟩ = some (.string u) := KY2.out.cell 2
      have y3 : wz.cell? ⟨w1.heap.size, 3, none⟩ = some (.string ⟨#[]⟩) := KY2.out.cell 3
      have y4 : wz.cell? ⟨w1.heap.size, 4, none⟩ = some (.bool false) := KY2.out.cell 4
      have y5 : wz.cell? ⟨w1.heap.size, 5, none⟩ = some (.slice none 0 0) := KY2.out.cell 5
      have y6 : wz.cell? ⟨w1.heap.size, 6, none⟩ = some (.string ⟨#[]⟩) := KY2.out.cell 6
      have y7 : wz.cell? ⟨w1.heap.size, 7, none⟩ = some (.slice none 0 0) := KY2.out.cell 7
      cases m
      · go_wp2
        refine read2_retq rfl rfl rfl (set8_blk KX2.out) ?_
        have hn : oo = none := by rw [HOUT.out, Hrr.out]; exact if_neg (fun h => by rw [Hm.out] at h; cases h.2)
        subst hn
        exact ReadR.none_ rfl (below_set8 B2.out (Nat.le_refl _) _ _ _ _ _ _ _ _)
      · go_wp2
        refine read2_retq rfl rfl rfl (set8_blk KX2.out) ?_
        have hn : oo = some (rec1 1 u) := by rw [HOUT.out, Hrr.out]; exact if_pos ⟨by first | exact Hrest.out.2 rfl | exact Hrest.out.2 trivial, Hm.out⟩
        subst hn
        exact ⟨none, 0, none, 0, rfl, below_set8 B2.out (Nat.le_refl _) _ _ _ _ _ _ _ _, Reads.none_, Reads.none_, above_none _, above_none _, typed_none _ _, typed_none _ _⟩
    · have hn : oo = none := by rw [HOUT.out]; exact if_neg (fun h => he (Hrest.out.1 h.1))
      subst hn
      have he2 : ¬ b.size = at9 := fun h => he h.symm
      go_wp2
      refine read2_retq rfl rfl rfl (set8_blk KX.out) ?_
      exact ReadR.none_ rfl (below_set8 B.out (Nat.le_refl _) _ _ _ _ _ _ _ _)

set_option maxHeartbeats 4000000 in
theorem rread_2 (b : ByteArray) (w : World) (c : UInt8) (l : List UInt8) (hl : b.data.toList = c :: l) (hk : c.toNat = 2) (hs : b.size ≤ 65536) :
    Calls Try.prog 22 #[.string b] w (ReadR w (readOut b)) := by
  obtain ⟨op, hop⟩ : ∃ o, pRcd (c :: l) = o := ⟨_, rfl⟩
  have hout := readOut_of (b := b) (o := op) (by rw [hl, hop]) hs
  have HOK := hide fun r rest (h : op = some (r, rest)) => pRcd_ok (hop.trans h) (by have := congrArg List.length hl; simp at this; simp; omega)
  have hob : op = (if false then none else some ((), l)).bind fun x => pBody 2 x.2 := by rw [← hop]; show pBody c.toNat l = pBody 2 l; rw [hk]
  obtain ⟨oa, hoa⟩ : ∃ o : Option (Unit × List UInt8), (if false then none else some ((), l)) = o := ⟨_, rfl⟩
  rw [hoa] at hob
  have HOB := hide hob
  have HOA := hide hoa
  obtain ⟨oo, hoo⟩ : ∃ o, readOut b = o := ⟨_, rfl⟩
  rw [hoo] at hout ⊢
  have HOUT := hide hout
  clear hop hout hob hoa hoo
  have i0 := index_byte' [c] 0 (by simp) 0 rfl
  simp only [List.getElem_cons_zero, hk] at i0
  have hz : (bstr [c]).size = 1 := bstr_size _
  have hd : decide ((65536 : Int) < b.size) = false := by simp; omega
  have HZ := hide (show b.size ≤ 1000000000 by omega)
  have HT := hide fun (W : World) (hR : Ql W (w.heap.size + 1) b b.data.toList false) => (show Calls Try.prog 39 #[.pointer (some ⟨w.heap.size + 1, 0, none⟩), .int .i64 1] W fun e w' => e = .returned (.string (bstr [c])) ∧ Ql w' (w.heap.size + 1) b l false ∧ But (w.heap.size + 1) W w' from by have h2 := hR; rw [hl] at h2; exact qtake_yes 1 W (w.heap.size + 1) b (c :: l) h2 (by omega) (by simp))
  have H0 := hide (show Ql ((w.alloc (.cells (rbox 0 0 ⟨#[]⟩ ⟨#[]⟩ false (.slice none 0 0) ⟨#[]⟩ (.slice none 0 0)) 28)).alloc (.cells #[.string b, .int .i64 0, .bool false] 71)) (w.heap.size + 1) b b.data.toList false from ⟨0, by omega, by simp, by
    have := Blk.new (w.alloc (.cells (rbox 0 0 ⟨#[]⟩ ⟨#[]⟩ false (.slice none 0 0) ⟨#[]⟩ (.slice none 0 0)) 28)) 71 #[.string b, .int .i64 0, .bool false]
    rw [World.size_alloc] at this
    exact this⟩)
  generalize bstr [c] = t at *
  clear hl hk hs
  go_enter Try.func22, Try.ntmps22
  go_wp2_with fail
  refine (HT.out _ H0.out).mono ?_
  rintro e w1 ⟨rfl, hr, hb⟩
  have B := hide ((((Below.refl w.heap.size w).alloc (Nat.le_refl _) (.cells (rbox 0 0 ⟨#[]⟩ ⟨#[]⟩ false (.slice none 0 0) ⟨#[]⟩ (.slice none 0 0)) 28)).alloc (by simp) (.cells #[.string b, .int .i64 0, .bool false] 71)).trans (hb.below (B := w.heap.size) (by omega) (by simp; omega)))
  have KX := hide (show Blk w1 w.heap.size 28 (rbox 0 0 ⟨#[]⟩ ⟨#[]⟩ false (.slice none 0 0) ⟨#[]⟩ (.slice none 0 0)) from hb.blk ((Blk.new w 28 (rbox 0 0 ⟨#[]⟩ ⟨#[]⟩ false (.slice none 0 0) ⟨#[]⟩ (.slice none 0 0))).alloc _) (by omega))
  have hRYo := hide (show (w.heap.size + 1) < w1.heap.size from hr.lt)
  have hXYo := hide (show w.heap.size < w1.heap.size from KX.out.lt)
  have d2 : w1.cell? ⟨w.heap.size + 1, 2, none⟩ = some (.bool false) := by obtain ⟨_, q, _⟩ := hr.bad?; exact q
  have KY := hide (Blk.new w1 28 (rbox 2 0 ⟨#[]⟩ ⟨#[]⟩ false (.slice none 0 0) ⟨#[]⟩ (.slice none 0 0)))
  have Bu := hide (But.refl (w.heap.size + 1) (w1.alloc (.cells (rbox 2 0 ⟨#[]⟩ ⟨#[]⟩ false (.slice none 0 0) ⟨#[]⟩ (.slice none 0 0)) 28)))
  have KX0 := KX
  have B0 := B
  replace KX := hide (KX.out.alloc (.cells (rbox 2 0 ⟨#[]⟩ ⟨#[]⟩ false (.slice none 0 0) ⟨#[]⟩ (.slice none 0 0)) 28))
  replace B := hide (B.out.alloc (Nat.le_of_lt hXYo.out) (.cells (rbox 2 0 ⟨#[]⟩ ⟨#[]⟩ false (.slice none 0 0) ⟨#[]⟩ (.slice none 0 0)) 28))
  have S := hide (show StQ (w1.alloc (.cells (rbox 2 0 ⟨#[]⟩ ⟨#[]⟩ false (.slice none 0 0) ⟨#[]⟩ (.slice none 0 0)) 28)) (w.heap.size + 1) b oa (fun _ => True) by
    rw [← HOA.out]
    exact StQ.of (bad := false) (hr.keep (Below.heap_alloc _ _ _ hr.lt)) () trivial)
  clear hr hb HOA
  have hXY := hXYo.out
  have hXR : w.heap.size ≠ (w.heap.size + 1) := by omega
  have hRX := hXR.symm
  have hRY := hRYo.out
  have hYR : w1.heap.size ≠ (w.heap.size + 1) := by omega
  have hRY' := hYR.symm
  have hXYn : w.heap.size ≠ w1.heap.size := by omega
  have hYX := hXYn.symm
  go_wp2_with fail
  refine (qtext_step HZ.out _ _ _ S.out).mono ?_
  rintro e w2 ⟨u, rfl, hqu, hb, hs⟩
  replace S := hide hs
  replace KX := hide (hb.blk KX.out hXR)
  replace KY := hide (hb.blk KY.out hYR)
  replace B := hide (B.out.trans (hb.below (B := w.heap.size) (by omega) (by have := KX.out.lt; have := B.out.size; omega)))
  clear hb hs
  have x0 : w2.cell? ⟨w.heap.size, 0, none⟩ = some (.int .i8 0) := KX.out.cell 0
  have x1 : w2.cell? ⟨w.heap.size, 1, none⟩ = some (.int .i64 0) := KX.out.cell 1
  have x2 : w2.cell? ⟨w.heap.size, 2, none⟩ = some (.string ⟨#[]⟩) := KX.out.cell 2
  have x3 : w2.cell? ⟨w.heap.size, 3, none⟩ = some (.string ⟨#[]⟩) := KX.out.cell 3
  have x4 : w2.cell? ⟨w.heap.size, 4, none⟩ = some (.bool false) := KX.out.cell 4
  have x5 : w2.cell? ⟨w.heap.size, 5, none⟩ = some (.slice none 0 0) := KX.out.cell 5
  have x6 : w2.cell? ⟨w.heap.size, 6, none⟩ = some (.string ⟨#[]⟩) := KX.out.cell 6
  have x7 : w2.cell? ⟨w.heap.size, 7, none⟩ = some (.slice none 0 0) := KX.out.cell 7
  have f0 := KX.out.frozen 0
  have f1 := KX.out.frozen 1
  have f2 := KX.out.frozen 2
  have f3 := KX.out.frozen 3
  have f4 := KX.out.frozen 4
  have f5 := KX.out.frozen 5
  have f6 := KX.out.frozen 6
  have f7 := KX.out.frozen 7
  have y0 : w2.cell? ⟨w1.heap.size, 0, none⟩ = some (.int .i8 2) := KY.out.cell 0
  have y1 : w2.cell? ⟨w1.heap.size, 1, none⟩ = some (.int .i64 0) := KY.out.cell 1
  have y2 : w2.cell? ⟨w1.heap.size, 2, none⟩ = some (.string ⟨#[]⟩) := KY.out.cell 2
  have y3 : w2.cell? ⟨w1.heap.size, 3, none⟩ = some (.string ⟨#[]⟩) := KY.out.cell 3
  have y4 : w2.cell? ⟨w1.heap.size, 4, none⟩ = some (.bool false) := KY.out.cell 4
  have y5 : w2.cell? ⟨w1.heap.size, 5, none⟩ = some (.slice none 0 0) := KY.out.cell 5
  have y6 : w2.cell? ⟨w1.heap.size, 6, none⟩ = some (.string ⟨#[]⟩) := KY.out.cell 6
  have y7 : w2.cell? ⟨w1.heap.size, 7, none⟩ = some (.slice none 0 0) := KY.out.cell 7
  have g0 := KY.out.frozen 0
  have g1 := KY.out.frozen 1
  have g2 := KY.out.frozen 2
  have g3 := KY.out.frozen 3
  have g4 := KY.out.frozen 4
  have g5 := KY.out.frozen 5
  have g6 := KY.out.frozen 6
  have g7 := KY.out.frozen 7
  obtain ⟨oz, hoz⟩ : ∃ o, op = o := ⟨_, rfl⟩
  have S9 := hide (show StQ w2 (w.heap.size + 1) b op (fun x => x = rec1 2 u) from by rw [HOB.out, body2]; exact StQ.mapf (Q := fun x => x = rec1 2 u) (fun x => rec1 2 x.2) S.out (fun a hP => by show rec1 2 a.2 = rec1 2 u; rw [hP.2]))
  rw [hoz] at S9 HOUT HOK
  clear hoz
  replace S := hide (S.out.keep (Below.heap_setCell _ ⟨w1.heap.size, 2, none⟩ (.string u) _ hRY'))
  replace B := hide ((B.out).setCell (p := ⟨w1.heap.size, 2, none⟩) (Nat.le_of_lt hXY) (.string u))
  replace KX := hide (KX.out.far (p := ⟨w1.heap.size, 2, none⟩) hXYn (.string u))
  replace KY := hide (rb2 KY.out u)
  clear S
  cases oz with
  | none =>
    have d2 := S9.out.cell2
    simp only [Option.isNone_none] at d2
    go_wp2
    refine read2_retq rfl rfl rfl (set8_blk KX.out) ?_
    have hn : oo = none := HOUT.out
    subst hn
    exact ReadR.none_ rfl (below_set8 B.out (Nat.le_refl _) _ _ _ _ _ _ _ _)
  | some q =>
    obtain ⟨rr, rest⟩ := q
    obtain ⟨⟨at9, hp9, hrest, hq9⟩, hrr⟩ := S9.out
    have Hrr := hide (show rr = rec1 2 u from hrr)
    have d1 : w2.cell? ⟨w.heap.size + 1, 1, none⟩ = some (.int .i64 (at9 : Int)) := hq9.cell 1
    have d2 : w2.cell? ⟨w.heap.size + 1, 2, none⟩ = some (.bool false) := hq9.cell 2
    have Hrest := hide (show rest = [] ↔ at9 = b.size by rw [hrest]; exact rest_nil hp9)
    have Hok := hide (show RcdOk (rec1 2 u) by have := HOK.out rr rest rfl; rw [Hrr.out] at this; exact this)
    clear hp9 hrest hq9 hrr HOK S9
    by_cases he : at9 = b.size
    · subst he
      obtain ⟨m, hm⟩ : ∃ m, mayAll (rec1 2 u) = m := ⟨_, rfl⟩
      have HM := hide fun (W : World) => rmayP_any (rec1 2 u) (none) (none) (0) (0) W ⟨Reads.none_, Reads.none_, Hok.out.na, Hok.out.nk, Hok.out.sa, Hok.out.sk, Hok.out.su, Hok.out.si⟩
      rw [hm] at HM
      have Hm := hide hm
      unfold rcdCells rec1 at HM
      clear hm
      go_wp2_with fail
      refine (HM.out _).mono ?_
      rintro e wz ⟨rfl, hbz⟩
      have KX2 := hide (KX.out.below hbz KX.out.lt)
      have KY2 := hide (KY.out.below hbz KY.out.lt)
      have B2 := hide (B.out.trans (hbz.mono B.out.size))
      have Hbz := hide hbz
      clear hbz x0 x1 x2 x3 x4 x5 x6 x7 f0 f1 f2 f3 f4 f5 f6 f7
      clear y0 y1 y2 y3 y4 y5 y6 y7 g0 g1 g2 g3 g4 g5 g6 g7
      have x0 : wz.cell? ⟨w.heap.size, 0, none⟩ = some (.int .i8 0) := KX2.out.cell 0
      have x1 : wz.cell? ⟨w.heap.size, 1, none⟩ = some (.int .i64 0) := KX2.out.cell 1
      have x2 : wz.cell? ⟨w.heap.size, 2, none⟩ = some (.string ⟨#[]⟩) := KX2.out.cell 2
      have x3 : wz.cell? ⟨w.heap.size, 3, none⟩ = some (.string ⟨#[]⟩) := KX2.out.cell 3
      have x4 : wz.cell? ⟨w.heap.size, 4, none⟩ = some (.bool false) := KX2.out.cell 4
      have x5 : wz.cell? ⟨w.heap.size, 5, none⟩ = some (.slice none 0 0) := KX2.out.cell 5
      have x6 : wz.cell? ⟨w.heap.size, 6, none⟩ = some (.string ⟨#[]⟩) := KX2.out.cell 6
      have x7 : wz.cell? ⟨w.heap.size, 7, none⟩ = some (.slice none 0 0) := KX2.out.cell 7
      have f0 := KX2.out.frozen 0
      have f1 := KX2.out.frozen 1
      have f2 := KX2.out.frozen 2
      have f3 := KX2.out.frozen 3
      have f4 := KX2.out.frozen 4
      have f5 := KX2.out.frozen 5
      have f6 := KX2.out.frozen 6
      have f7 := KX2.out.frozen 7
      have y0 : wz.cell? ⟨w1.heap.size, 0, none⟩ = some (.int .i8 2) := KY2.out.cell 0
      have y1 : wz.cell? ⟨w1.heap.size, 1, none⟩ = some (.int .i64 0) := KY2.out.cell 1
      have y2 : wz.cell? ⟨w1.heap.size, 2, none⟩ = some (.string u) := KY2.out.cell 2
      have y3 : wz.cell? ⟨w1.heap.size, 3, none⟩ = some (.string ⟨#[]⟩) := KY2.out.cell 3
      have y4 : wz.cell? ⟨w1.heap.size, 4, none⟩ = some (.bool false) := KY2.out.cell 4
      have y5 : wz.cell? ⟨w1.heap.size, 5, none⟩ = some (.slice none 0 0) := KY2.out.cell 5
      have y6 : wz.cell? ⟨w1.heap.size, 6, none⟩ = some (.string ⟨#[]⟩) := KY2.out.cell 6
      have y7 : wz.cell? ⟨w1.heap.size, 7, none⟩ = some (.slice none 0 0) := KY2.out.cell 7
      cases m
      · go_wp2
        refine read2_retq rfl rfl rfl (set8_blk KX2.out) ?_
        have hn : oo = none := by rw [HOUT.out, Hrr.out]; exact if_neg (fun h => by rw [Hm.out] at h; cases h.2)
        subst hn
        exact ReadR.none_ rfl (below_set8 B2.out (Nat.le_refl _) _ _ _ _ _ _ _ _)
      · go_wp2
        refine read2_retq rfl rfl rfl (set8_blk KX2.out) ?_
        have hn : oo = some (rec1 2 u) := by rw [HOUT.out, Hrr.out]; exact if_pos ⟨by first | exact Hrest.out.2 rfl | exact Hrest.out.2 trivial, Hm.out⟩
        subst hn
        exact ⟨none, 0, none, 0, rfl, below_set8 B2.out (Nat.le_refl _) _ _ _ _ _ _ _ _, Reads.none_, Reads.none_, above_none _, above_none _, typed_none _ _, typed_none _ _⟩
    · have hn : oo = none := by rw [HOUT.out]; exact if_neg (fun h => he (Hrest.out.1 h.1))
      subst hn
      have he2 : ¬ b.size = at9 := fun h => he h.symm
      go_wp2
      refine read2_retq rfl rfl rfl (set8_blk KX.out) ?_
      exact ReadR.none_ rfl (below_set8 B.out (Nat.le_refl _) _ _ _ _ _ _ _ _)

set_option maxHeartbeats 4000000 in
theorem rread_4 (b : ByteArray) (w : World) (c : UInt8) (l : List UInt8) (hl : b.data.toList = c :: l) (hk : c.toNat = 4) (hs : b.size ≤ 65536) :
    Calls Try.prog 22 #[.string b] w (ReadR w (readOut b)) := by
  obtain ⟨op, hop⟩ : ∃ o, pRcd (c :: l) = o := ⟨_, rfl⟩
  have hout := readOut_of (b := b) (o := op) (by rw [hl, hop]) hs
  have HOK := hide fun r rest (h : op = some (r, rest)) => pRcd_ok (hop.trans h) (by have := congrArg List.length hl; simp at this; simp; omega)
  have hob : op = (if false then none else some ((), l)).bind fun x => pBody 4 x.2 := by rw [← hop]; show pBody c.toNat l = pBody 4 l; rw [hk]
  obtain ⟨oa, hoa⟩ : ∃ o : Option (Unit × List UInt8), (if false then none else some ((), l)) = o := ⟨_, rfl⟩
  rw [hoa] at hob
  have HOB := hide hob
  have HOA := hide hoa
  obtain ⟨oo, hoo⟩ : ∃ o, readOut b = o := ⟨_, rfl⟩
  rw [hoo] at hout ⊢
  have HOUT := hide hout
  clear hop hout hob hoa hoo
  have i0 := index_byte' [c] 0 (by simp) 0 rfl
  simp only [List.getElem_cons_zero, hk] at i0
  have hz : (bstr [c]).size = 1 := bstr_size _
  have hd : decide ((65536 : Int) < b.size) = false := by simp; omega
  have HZ := hide (show b.size ≤ 1000000000 by omega)
  have HT := hide fun (W : World) (hR : Ql W (w.heap.size + 1) b b.data.toList false) => (show Calls Try.prog 39 #[.pointer (some ⟨w.heap.size + 1, 0, none⟩), .int .i64 1] W fun e w' => e = .returned (.string (bstr [c])) ∧ Ql w' (w.heap.size + 1) b l false ∧ But (w.heap.size + 1) W w' from by have h2 := hR; rw [hl] at h2; exact qtake_yes 1 W (w.heap.size + 1) b (c :: l) h2 (by omega) (by simp))
  have H0 := hide (show Ql ((w.alloc (.cells (rbox 0 0 ⟨#[]⟩ ⟨#[]⟩ false (.slice none 0 0) ⟨#[]⟩ (.slice none 0 0)) 28)).alloc (.cells #[.string b, .int .i64 0, .bool false] 71)) (w.heap.size + 1) b b.data.toList false from ⟨0, by omega, by simp, by
    have := Blk.new (w.alloc (.cells (rbox 0 0 ⟨#[]⟩ ⟨#[]⟩ false (.slice none 0 0) ⟨#[]⟩ (.slice none 0 0)) 28)) 71 #[.string b, .int .i64 0, .bool false]
    rw [World.size_alloc] at this
    exact this⟩)
  generalize bstr [c] = t at *
  clear hl hk hs
  go_enter Try.func22, Try.ntmps22
  go_wp2_with fail
  refine (HT.out _ H0.out).mono ?_
  rintro e w1 ⟨rfl, hr, hb⟩
  have B := hide ((((Below.refl w.heap.size w).alloc (Nat.le_refl _) (.cells (rbox 0 0 ⟨#[]⟩ ⟨#[]⟩ false (.slice none 0 0) ⟨#[]⟩ (.slice none 0 0)) 28)).alloc (by simp) (.cells #[.string b, .int .i64 0, .bool false] 71)).trans (hb.below (B := w.heap.size) (by omega) (by simp; omega)))
  have KX := hide (show Blk w1 w.heap.size 28 (rbox 0 0 ⟨#[]⟩ ⟨#[]⟩ false (.slice none 0 0) ⟨#[]⟩ (.slice none 0 0)) from hb.blk ((Blk.new w 28 (rbox 0 0 ⟨#[]⟩ ⟨#[]⟩ false (.slice none 0 0) ⟨#[]⟩ (.slice none 0 0))).alloc _) (by omega))
  have hRYo := hide (show (w.heap.size + 1) < w1.heap.size from hr.lt)
  have hXYo := hide (show w.heap.size < w1.heap.size from KX.out.lt)
  have d2 : w1.cell? ⟨w.heap.size + 1, 2, none⟩ = some (.bool false) := by obtain ⟨_, q, _⟩ := hr.bad?; exact q
  have KY := hide (Blk.new w1 28 (rbox 4 0 ⟨#[]⟩ ⟨#[]⟩ false (.slice none 0 0) ⟨#[]⟩ (.slice none 0 0)))
  have Bu := hide (But.refl (w.heap.size + 1) (w1.alloc (.cells (rbox 4 0 ⟨#[]⟩ ⟨#[]⟩ false (.slice none 0 0) ⟨#[]⟩ (.slice none 0 0)) 28)))
  have KX0 := KX
  have B0 := B
  replace KX := hide (KX.out.alloc (.cells (rbox 4 0 ⟨#[]⟩ ⟨#[]⟩ false (.slice none 0 0) ⟨#[]⟩ (.slice none 0 0)) 28))
  replace B := hide (B.out.alloc (Nat.le_of_lt hXYo.out) (.cells (rbox 4 0 ⟨#[]⟩ ⟨#[]⟩ false (.slice none 0 0) ⟨#[]⟩ (.slice none 0 0)) 28))
  have S := hide (show StQ (w1.alloc (.cells (rbox 4 0 ⟨#[]⟩ ⟨#[]⟩ false (.slice none 0 0) ⟨#[]⟩ (.slice none 0 0)) 28)) (w.heap.size + 1) b oa (fun _ => True) by
    rw [← HOA.out]
    exact StQ.of (bad := false) (hr.keep (Below.heap_alloc _ _ _ hr.lt)) () trivial)
  clear hr hb HOA
  have hXY := hXYo.out
  have hXR : w.heap.size ≠ (w.heap.size + 1) := by omega
  have hRX := hXR.symm
  have hRY := hRYo.out
  have hYR : w1.heap.size ≠ (w.heap.size + 1) := by omega
  have hRY' := hYR.symm
  have hXYn : w.heap.size ≠ w1.heap.size := by omega
  have hYX := hXYn.symm
  go_wp2_with fail
  refine (qtext_step HZ.out _ _ _ S.out).mono ?_
  rintro e w2 ⟨u, rfl, hqu, hb, hs⟩
  replace S := hide hs
  replace KX := hide (hb.blk KX.out hXR)
  replace KY := hide (hb.blk KY.out hYR)
  replace B := hide (B.out.trans (hb.below (B := w.heap.size) (by omega) (by have := KX.out.lt; have := B.out.size; omega)))
  clear hb hs
  have y0 : w2.cell? ⟨w1.heap.size, 0, none⟩ = some (.int .i8 4) := KY.out.cell 0
  have y1 : w2.cell? ⟨w1.heap.size, 1, none⟩ = some (.int .i64 0) := KY.out.cell 1
  have y2 : w2.cell? ⟨w1.heap.size, 2, none⟩ = some (.string ⟨#[]⟩) := KY.out.cell 2
  have y3 : w2.cell? ⟨w1.heap.size, 3, none⟩ = some (.string ⟨#[]⟩) := KY.out.cell 3
  have y4 : w2.cell? ⟨w1.heap.size, 4, none⟩ = some (.bool false) := KY.out.cell 4
  have y5 : w2.cell? ⟨w1.heap.size, 5, none⟩ = some (.slice none 0 0) := KY.out.cell 5
  have y6 : w2.cell? ⟨w1.heap.size, 6, none⟩ = some (.string ⟨#[]⟩) := KY.out.cell 6
  have y7 : w2.cell? ⟨w1.heap.size, 7, none⟩ = some (.slice none 0 0) := KY.out.cell 7
  have g0 := KY.out.frozen 0
  have g1 := KY.out.frozen 1
  have g2 := KY.out.frozen 2
  have g3 := KY.out.frozen 3
  have g4 := KY.out.frozen 4
  have g5 := KY.out.frozen 5
  have g6 := KY.out.frozen 6
  have g7 := KY.out.frozen 7
  go_wp2_with fail
  replace S := hide (S.out.keep (Below.heap_setCell _ ⟨w1.heap.size, 2, none⟩ (.string u) _ hRY'))
  replace B := hide ((B.out).setCell (p := ⟨w1.heap.size, 2, none⟩) (Nat.le_of_lt hXY) (.string u))
  replace KX := hide (KX.out.far (p := ⟨w1.heap.size, 2, none⟩) hXYn (.string u))
  replace KY := hide (rb2 KY.out u)
  clear y0 y1 y2 y3 y4 y5 y6 y7 g0 g1 g2 g3 g4 g5 g6 g7
  refine (qtext_step HZ.out _ _ _ S.out).mono ?_
  rintro e w3 ⟨i, rfl, hqi, hb, hs⟩
  replace S := hide hs
  replace KX := hide (hb.blk KX.out hXR)
  replace KY := hide (hb.blk KY.out hYR)
  replace B := hide (B.out.trans (hb.below (B := w.heap.size) (by omega) (by have := KX.out.lt; have := B.out.size; omega)))
  clear hb hs
  have y0 : w3.cell? ⟨w1.heap.size, 0, none⟩ = some (.int .i8 4) := KY.out.cell 0
  have y1 : w3.cell? ⟨w1.heap.size, 1, none⟩ = some (.int .i64 0) := KY.out.cell 1
  have y2 : w3.cell? ⟨w1.heap.size, 2, none⟩ = some (.string u) := KY.out.cell 2
  have y3 : w3.cell? ⟨w1.heap.size, 3, none⟩ = some (.string ⟨#[]⟩) := KY.out.cell 3
  have y4 : w3.cell? ⟨w1.heap.size, 4, none⟩ = some (.bool false) := KY.out.cell 4
  have y5 : w3.cell? ⟨w1.heap.size, 5, none⟩ = some (.slice none 0 0) := KY.out.cell 5
  have y6 : w3.cell? ⟨w1.heap.size, 6, none⟩ = some (.string ⟨#[]⟩) := KY.out.cell 6
  have y7 : w3.cell? ⟨w1.heap.size, 7, none⟩ = some (.slice none 0 0) := KY.out.cell 7
  have g0 := KY.out.frozen 0
  have g1 := KY.out.frozen 1
  have g2 := KY.out.frozen 2
  have g3 := KY.out.frozen 3
  have g4 := KY.out.frozen 4
  have g5 := KY.out.frozen 5
  have g6 := KY.out.frozen 6
  have g7 := KY.out.frozen 7
  go_wp2_with fail
  replace S := hide (S.out.keep (Below.heap_setCell _ ⟨w1.heap.size, 3, none⟩ (.string i) _ hRY'))
  replace B := hide ((B.out).setCell (p := ⟨w1.heap.size, 3, none⟩) (Nat.le_of_lt hXY) (.string i))
  replace KX := hide (KX.out.far (p := ⟨w1.heap.size, 3, none⟩) hXYn (.string i))
  replace KY := hide (rb3 KY.out i)
  clear y0 y1 y2 y3 y4 y5 y6 y7 g0 g1 g2 g3 g4 g5 g6 g7
  refine (qflag_step HZ.out _ _ _ S.out).mono ?_
  rintro e w4 ⟨f, rfl, hqf, hb, hs⟩
  replace S := hide hs
  replace KX := hide (hb.blk KX.out hXR)
  replace KY := hide (hb.blk KY.out hYR)
  replace B := hide (B.out.trans (hb.below (B := w.heap.size) (by omega) (by have := KX.out.lt; have := B.out.size; omega)))
  clear hb hs
  have x0 : w4.cell? ⟨w.heap.size, 0, none⟩ = some (.int .i8 0) := KX.out.cell 0
  have x1 : w4.cell? ⟨w.heap.size, 1, none⟩ = some (.int .i64 0) := KX.out.cell 1
  have x2 : w4.cell? ⟨w.heap.size, 2, none⟩ = some (.string ⟨#[]⟩) := KX.out.cell 2
  have x3 : w4.cell? ⟨w.heap.size, 3, none⟩ = some (.string ⟨#[]⟩) := KX.out.cell 3
  have x4 : w4.cell? ⟨w.heap.size, 4, none⟩ = some (.bool false) := KX.out.cell 4
  have x5 : w4.cell? ⟨w.heap.size, 5, none⟩ = some (.slice none 0 0) := KX.out.cell 5
  have x6 : w4.cell? ⟨w.heap.size, 6, none⟩ = some (.string ⟨#[]⟩) := KX.out.cell 6
  have x7 : w4.cell? ⟨w.heap.size, 7, none⟩ = some (.slice none 0 0) := KX.out.cell 7
  have f0 := KX.out.frozen 0
  have f1 := KX.out.frozen 1
  have f2 := KX.out.frozen 2
  have f3 := KX.out.frozen 3
  have f4 := KX.out.frozen 4
  have f5 := KX.out.frozen 5
  have f6 := KX.out.frozen 6
  have f7 := KX.out.frozen 7
  have y0 : w4.cell? ⟨w1.heap.size, 0, none⟩ = some (.int .i8 4) := KY.out.cell 0
  have y1 : w4.cell? ⟨w1.heap.size, 1, none⟩ = some (.int .i64 0) := KY.out.cell 1
  have y2 : w4.cell? ⟨w1.heap.size, 2, none⟩ = some (.string u) := KY.out.cell 2
  have y3 : w4.cell? ⟨w1.heap.size, 3, none⟩ = some (.string i) := KY.out.cell 3
  have y4 : w4.cell? ⟨w1.heap.size, 4, none⟩ = some (.bool false) := KY.out.cell 4
  have y5 : w4.cell? ⟨w1.heap.size, 5, none⟩ = some (.slice none 0 0) := KY.out.cell 5
  have y6 : w4.cell? ⟨w1.heap.size, 6, none⟩ = some (.string ⟨#[]⟩) := KY.out.cell 6
  have y7 : w4.cell? ⟨w1.heap.size, 7, none⟩ = some (.slice none 0 0) := KY.out.cell 7
  have g0 := KY.out.frozen 0
  have g1 := KY.out.frozen 1
  have g2 := KY.out.frozen 2
  have g3 := KY.out.frozen 3
  have g4 := KY.out.frozen 4
  have g5 := KY.out.frozen 5
  have g6 := KY.out.frozen 6
  have g7 := KY.out.frozen 7
  obtain ⟨oz, hoz⟩ : ∃ o, op = o := ⟨_, rfl⟩
  have S9 := hide (show StQ w4 (w.heap.size + 1) b op (fun x => x = rec4 u i f) from by rw [HOB.out, body4]; exact StQ.mapf (Q := fun x => x = rec4 u i f) (fun x => rec4 x.1.1.2 x.1.2 x.2) S.out (fun a hP => by show rec4 a.1.1.2 a.1.2 a.2 = rec4 u i f; rw [hP.1.1.2, hP.1.2, hP.2]))
  rw [hoz] at S9 HOUT HOK
  clear hoz
  replace S := hide (S.out.keep (Below.heap_setCell _ ⟨w1.heap.size, 4, none⟩ (.bool f) _ hRY'))
  replace B := hide ((B.out).setCell (p := ⟨w1.heap.size, 4, none⟩) (Nat.le_of_lt hXY) (.bool f))
  replace KX := hide (KX.out.far (p := ⟨w1.heap.size, 4, none⟩) hXYn (.bool f))
  replace KY := hide (rb4 KY.out f)
  clear S
  cases oz with
  | none =>
    have d2 := S9.out.cell2
    simp only [Option.isNone_none] at d2
    go_wp2
    refine read2_retq rfl rfl rfl (set8_blk KX.out) ?_
    have hn : oo = none := HOUT.out
    subst hn
    exact ReadR.none_ rfl (below_set8 B.out (Nat.le_refl _) _ _ _ _ _ _ _ _)
  | some q =>
    obtain ⟨rr, rest⟩ := q
    obtain ⟨⟨at9, hp9, hrest, hq9⟩, hrr⟩ := S9.out
    have Hrr := hide (show rr = rec4 u i f from hrr)
    have d1 : w4.cell? ⟨w.heap.size + 1, 1, none⟩ = some (.int .i64 (at9 : Int)) := hq9.cell 1
    have d2 : w4.cell? ⟨w.heap.size + 1, 2, none⟩ = some (.bool false) := hq9.cell 2
    have Hrest := hide (show rest = [] ↔ at9 = b.size by rw [hrest]; exact rest_nil hp9)
    have Hok := hide (show RcdOk (rec4 u i f) by have := HOK.out rr rest rfl; rw [Hrr.out] at this; exact this)
    clear hp9 hrest hq9 hrr HOK S9
    by_cases he : at9 = b.size
    · subst he
      obtain ⟨m, hm⟩ : ∃ m, mayAll (rec4 u i f) = m := ⟨_, rfl⟩
      have HM := hide fun (W : World) => rmayP_any (rec4 u i f) (none) (none) (0) (0) W ⟨Reads.none_, Reads.none_, Hok.out.na, Hok.out.nk, Hok.out.sa, Hok.out.sk, Hok.out.su, Hok.out.si⟩
      rw [hm] at HM
      have Hm := hide hm
      unfold rcdCells rec4 at HM
      clear hm
      go_wp2_with fail
      refine (HM.out _).mono ?_
      rintro e wz ⟨rfl, hbz⟩
      have KX2 := hide (KX.out.below hbz KX.out.lt)
      have KY2 := hide (KY.out.below hbz KY.out.lt)
      have B2 := hide (B.out.trans (hbz.mono B.out.size))
      have Hbz := hide hbz
      clear hbz x0 x1 x2 x3 x4 x5 x6 x7 f0 f1 f2 f3 f4 f5 f6 f7
      clear y0 y1 y2 y3 y4 y5 y6 y7 g0 g1 g2 g3 g4 g5 g6 g7
      have x0 : wz.cell? ⟨w.heap.size, 0, none⟩ = some (.int .i8 0) := KX2.out.cell 0
      have x1 : wz.cell? ⟨w.heap.size, 1, none⟩ = some (.int .i64 0) := KX2.out.cell 1
      have x2 : wz.cell? ⟨w.heap.size, 2, none⟩ = some (.string ⟨#[]⟩) := KX2.out.cell 2
      have x3 : wz.cell? ⟨w.heap.size, 3, none⟩ = some (.string ⟨#[]⟩) := KX2.out.cell 3
      have x4 : wz.cell? ⟨w.heap.size, 4, none⟩ = some (.bool false) := KX2.out.cell 4
      have x5 : wz.cell? ⟨w.heap.size, 5, none⟩ = some (.slice none 0 0) := KX2.out.cell 5
      have x6 : wz.cell? ⟨w.heap.size, 6, none⟩ = some (.string ⟨#[]⟩) := KX2.out.cell 6
      have x7 : wz.cell? ⟨w.heap.size, 7, none⟩ = some (.slice none 0 0) := KX2.out.cell 7
      have f0 := KX2.out.frozen 0
      have f1 := KX2.out.frozen 1
      have f2 := KX2.out.frozen 2
      have f3 := KX2.out.frozen 3
      have f4 := KX2.out.frozen 4
      have f5 := KX2.out.frozen 5
      have f6 := KX2.out.frozen 6
      have f7 := KX2.out.frozen 7
      have y0 : wz.cell? ⟨w1.heap.size, 0, none⟩ = some (.int .i8 4) := KY2.out.cell 0
      have y1 : wz.cell? ⟨w1.heap.size, 1, none⟩ = some (.int .i64 0) := KY2.out.cell 1
      have y2 : wz.cell? ⟨w1.heap.size, 2, none⟩ = some (.string u) := KY2.out.cell 2
      have y3 : wz.cell? ⟨w1.heap.size, 3, none⟩ = some (.string i) := KY2.out.cell 3
      have y4 : wz.cell? ⟨w1.heap.size, 4, none⟩ = some (.bool f) := KY2.out.cell 4
      have y5 : wz.cell? ⟨w1.heap.size, 5, none⟩ = some (.slice none 0 0) := KY2.out.cell 5
      have y6 : wz.cell? ⟨w1.heap.size, 6, none⟩ = some (.string ⟨#[]⟩) := KY2.out.cell 6
      have y7 : wz.cell? ⟨w1.heap.size, 7, none⟩ = some (.slice none 0 0) := KY2.out.cell 7
      cases m
      · go_wp2
        refine read2_retq rfl rfl rfl (set8_blk KX2.out) ?_
        have hn : oo = none := by rw [HOUT.out, Hrr.out]; exact if_neg (fun h => by rw [Hm.out] at h; cases h.2)
        subst hn
        exact ReadR.none_ rfl (below_set8 B2.out (Nat.le_refl _) _ _ _ _ _ _ _ _)
      · go_wp2
        refine read2_retq rfl rfl rfl (set8_blk KX2.out) ?_
        have hn : oo = some (rec4 u i f) := by rw [HOUT.out, Hrr.out]; exact if_pos ⟨by first | exact Hrest.out.2 rfl | exact Hrest.out.2 trivial, Hm.out⟩
        subst hn
        exact ⟨none, 0, none, 0, rfl, below_set8 B2.out (Nat.le_refl _) _ _ _ _ _ _ _ _, Reads.none_, Reads.none_, above_none _, above_none _, typed_none _ _, typed_none _ _⟩
    · have hn : oo = none := by rw [HOUT.out]; exact if_neg (fun h => he (Hrest.out.1 h.1))
      subst hn
      have he2 : ¬ b.size = at9 := fun h => he h.symm
      go_wp2
      refine read2_retq rfl rfl rfl (set8_blk KX.out) ?_
      exact ReadR.none_ rfl (below_set8 B.out (Nat.le_refl _) _ _ _ _ _ _ _ _)
end Go.Proofs.Ytlkkmgimjjnhjaa
