/- The document's Read: kind 6. (Printed by wip/genRefRd.py.) · The document's Read: kind 3. (Printed by wip/genRefRd.py.) -/
import Derived.Test.YtlkkmgimjjnhjaaMA24
set_option linter.unusedSimpArgs false
set_option linter.unusedVariables false
namespace Go.Proofs.Ytlkkmgimjjnhjaa
open Go.RowKit Rec
attribute [local go_sem ↓] Go.wp_at_zero Go.wp_at_succ

set_option maxHeartbeats 4000000 in
theorem rread_6 (b : ByteArray) (w : World) (c : UInt8) (l : List UInt8) (hl : b.data.toList = c :: l) (hk : c.toNat = 6) (hs : b.size ≤ 65536) :
    Calls Try.prog 22 #[.string b] w (ReadR w (readOut b)) := by
  obtain ⟨op, hop⟩ : ∃ o, pRcd (c :: l) = o := ⟨_, rfl⟩
  have hout := readOut_of (b := b) (o := op) (by rw [hl, hop]) hs
  have HOK := hide fun r rest (h : op = some (r, rest)) => pRcd_ok (hop.trans h) (by have := congrArg List.length hl; simp at this; simp; omega)
  have hob : op = (if false then none else some ((), l)).bind fun x => pBody 6 x.2 := by rw [← hop]; show pBody c.toNat l = pBody 6 l; rw [hk]
  obtain ⟨oa, hoa⟩ : ∃ o : Option (Unit × List UInt8), (if false then none else some ((), l)) = o := ⟨_, rfl⟩
  rw [hoa] at hob
  have HOB := hide hob
  have HOA := hide hoa
  obtain ⟨oo, hoo⟩ : ∃ o, readOut b = o := ⟨_, rfl⟩
  rw [hoo] at hout ⊢
  have HOUT := hide hout
  clear hop hout hob hoa hoo
  have i0 := index_byte' [c] 0 (by simp) 0 rfl
  simp only [List.getElem_cons_zero, hk] at i0
  have hz : (bstr [c]).size = 1 := bstr_size _
  have hd : decide ((65536 : Int) < b.size) = false := by simp; omega
  have HZ := hide (show b.size ≤ 1000000000 by omega)
  have HT := hide fun (W : World) (hR : Ql W (w.heap.size + 1) b b.data.toList false) => (show Calls Try.prog 39 #[.pointer (some ⟨w.heap.size + 1, 0, none⟩), .int .i64 1] W fun e w' => e = .returned (.string (bstr [c])) ∧ Ql w' (w.heap.size + 1) b l false ∧ But (w.heap.size + 1) W w' from by have h2 := hR; rw [hl] at h2; exact qtake_yes 1 W (w.heap.size + 1) b (c :: l) h2 (by omega) (by simp))
  have H0 := hide (show Ql ((w.alloc (.cells (rbox 0 0 ⟨#[]⟩ ⟨#[]⟩ false (.slice none 0 0) ⟨#[]⟩ (.slice none 0 0)) 28)).alloc (.cells #[.string b, .int .i64 0, .bool false] 71)) (w.heap.size + 1) b b.data.toList false from ⟨0, by omega, by simp, by
    have := Blk.new (w.alloc (.cells (rbox 0 0 ⟨#[]⟩ ⟨#[]⟩ false (.slice none 0 0) ⟨#[]⟩ (.slice none 0 0)) 28)) 71 #[.string b, .int .i64 0, .bool false]
    rw [World.size_alloc] at this
    exact this⟩)
  generalize bstr [c] = t at *
  clear hl hk hs
  go_enter Try.func22, Try.ntmps22
  go_wp2_with fail
  refine (HT.out _ H0.out).mono ?_
  rintro e w1 ⟨rfl, hr, hb⟩
  have B := hide ((((Below.refl w.heap.size w).alloc (Nat.le_refl _) (.cells (rbox 0 0 ⟨#[]⟩ ⟨#[]⟩ false (.slice none 0 0) ⟨#[]⟩ (.slice none 0 0)) 28)).alloc (by simp) (.cells #[.string b, .int .i64 0, .bool false] 71)).trans (hb.below (B := w.heap.size) (by omega) (by simp; omega)))
  have KX := hide (show Blk w1 w.heap.size 28 (rbox 0 0 ⟨#[]⟩ ⟨#[]⟩ false (.slice none 0 0) ⟨#[]⟩ (.slice none 0 0)) from hb.blk ((Blk.new w 28 (rbox 0 0 ⟨#[]⟩ ⟨#[]⟩ false (.slice none 0 0) ⟨#[]⟩ (.slice none 0 0))).alloc _) (by omega))
  have hRYo := hide (show (w.heap.size + 1) < w1.heap.size from hr.lt)
  have hXYo := hide (show w.heap.size < w1.heap.size from KX.out.lt)
  have d2 : w1.cell? ⟨w.heap.size + 1, 2, none⟩ = some (.bool false) := by obtain ⟨_, q, _⟩ := hr.bad?; exact q
  have KY := hide (Blk.new w1 28 (rbox 6 0 ⟨#[]⟩ ⟨#[]⟩ false (.slice none 0 0) ⟨#[]⟩ (.slice none 0 0)))
  have Bu := hide (But.refl (w.heap.size + 1) (w1.alloc (.cells (rbox 6 0 ⟨#[]⟩ ⟨#[]⟩ false (.slice none 0 0) ⟨#[]⟩ (.slice none 0 0)) 28)))
  have KX0 := KX
  have B0 := B
  replace KX := hide (KX.out.alloc (.cells (rbox 6 0 ⟨#[]⟩ ⟨#[]⟩ false (.slice none 0 0) ⟨#[]⟩ (.slice none 0 0)) 28))
  replace B := hide (B.out.alloc (Nat.le_of_lt hXYo.out) (.cells (rbox 6 0 ⟨#[]⟩ ⟨#[]⟩ false (.slice none 0 0) ⟨#[]⟩ (.slice none 0 0)) 28))
  have S := hide (show StQ (w1.alloc (.cells (rbox 6 0 ⟨#[]⟩ ⟨#[]⟩ false (.slice none 0 0) ⟨#[]⟩ (.slice none 0 0)) 28)) (w.heap.size + 1) b oa (fun _ => True) by
    rw [← HOA.out]
    exact StQ.of (bad := false) (hr.keep (Below.heap_alloc _ _ _ hr.lt)) () trivial)
  clear hr hb HOA
  have hXY := hXYo.out
  have hXR : w.heap.size ≠ (w.heap.size + 1) := by omega
  have hRX := hXR.symm
  have hRY := hRYo.out
  have hYR : w1.heap.size ≠ (w.heap.size + 1) := by omega
  have hRY' := hYR.symm
  have hXYn : w.heap.size ≠ w1.heap.size := by omega
  have hYX := hXYn.symm
  have x0 : w1.cell? ⟨w.heap.size, 0, none⟩ = some (.int .i8 0) := ((below_alloc w1 _).cell (p := ⟨w.heap.size, 0, none⟩) hXY).symm.trans (KX.out.cell 0)
  have x1 : w1.cell? ⟨w.heap.size, 1, none⟩ = some (.int .i64 0) := ((below_alloc w1 _).cell (p := ⟨w.heap.size, 1, none⟩) hXY).symm.trans (KX.out.cell 1)
  have x2 : w1.cell? ⟨w.heap.size, 2, none⟩ = some (.string ⟨#[]⟩) := ((below_alloc w1 _).cell (p := ⟨w.heap.size, 2, none⟩) hXY).symm.trans (KX.out.cell 2)
  have x3 : w1.cell? ⟨w.heap.size, 3, none⟩ = some (.string ⟨#[]⟩) := ((below_alloc w1 _).cell (p := ⟨w.heap.size, 3, none⟩) hXY).symm.trans (KX.out.cell 3)
  have x4 : w1.cell? ⟨w.heap.size, 4, none⟩ = some (.bool false) := ((below_alloc w1 _).cell (p := ⟨w.heap.size, 4, none⟩) hXY).symm.trans (KX.out.cell 4)
  have x5 : w1.cell? ⟨w.heap.size, 5, none⟩ = some (.slice none 0 0) := ((below_alloc w1 _).cell (p := ⟨w.heap.size, 5, none⟩) hXY).symm.trans (KX.out.cell 5)
  have x6 : w1.cell? ⟨w.heap.size, 6, none⟩ = some (.string ⟨#[]⟩) := ((below_alloc w1 _).cell (p := ⟨w.heap.size, 6, none⟩) hXY).symm.trans (KX.out.cell 6)
  have x7 : w1.cell? ⟨w.heap.size, 7, none⟩ = some (.slice none 0 0) := ((below_alloc w1 _).cell (p := ⟨w.heap.size, 7, none⟩) hXY).symm.trans (KX.out.cell 7)
  have f0 : w1.frozen? ⟨w.heap.size, 0, none⟩ = false := ((below_alloc w1 _).frozen (p := ⟨w.heap.size, 0, none⟩) hXY).symm.trans (KX.out.frozen 0)
  have f1 : w1.frozen? ⟨w.heap.size, 1, none⟩ = false := ((below_alloc w1 _).frozen (p := ⟨w.heap.size, 1, none⟩) hXY).symm.trans (KX.out.frozen 1)
  have f2 : w1.frozen? ⟨w.heap.size, 2, none⟩ = false := ((below_alloc w1 _).frozen (p := ⟨w.heap.size, 2, none⟩) hXY).symm.trans (KX.out.frozen 2)
  have f3 : w1.frozen? ⟨w.heap.size, 3, none⟩ = false := ((below_alloc w1 _).frozen (p := ⟨w.heap.size, 3, none⟩) hXY).symm.trans (KX.out.frozen 3)
  have f4 : w1.frozen? ⟨w.heap.size, 4, none⟩ = false := ((below_alloc w1 _).frozen (p := ⟨w.heap.size, 4, none⟩) hXY).symm.trans (KX.out.frozen 4)
  have f5 : w1.frozen? ⟨w.heap.size, 5, none⟩ = false := ((below_alloc w1 _).frozen (p := ⟨w.heap.size, 5, none⟩) hXY).symm.trans (KX.out.frozen 5)
  have f6 : w1.frozen? ⟨w.heap.size, 6, none⟩ = false := ((below_alloc w1 _).frozen (p := ⟨w.heap.size, 6, none⟩) hXY).symm.trans (KX.out.frozen 6)
  have f7 : w1.frozen? ⟨w.heap.size, 7, none⟩ = false := ((below_alloc w1 _).frozen (p := ⟨w.heap.size, 7, none⟩) hXY).symm.trans (KX.out.frozen 7)
  obtain ⟨oz, hoz⟩ : ∃ o, op = o := ⟨_, rfl⟩
  have S9 := hide (show StQ (w1.alloc (.cells (rbox 6 0 ⟨#[]⟩ ⟨#[]⟩ false (.slice none 0 0) ⟨#[]⟩ (.slice none 0 0)) 28)) (w.heap.size + 1) b op (fun x => x = rec1 6 ⟨#[]⟩) from by rw [HOB.out, body6]; exact StQ.mapf (Q := fun x => x = rec1 6 ⟨#[]⟩) (fun _ => rec1 6 ⟨#[]⟩) S.out (fun a hP => rfl))
  rw [hoz] at S9 HOUT HOK
  clear hoz
  clear S
  cases oz with
  | none =>
    have d3 := ((below_alloc w1 _).cell (p := ⟨w.heap.size + 1, 2, none⟩) hRY).symm.trans S9.out.cell2
    rw [d2] at d3
    simp at d3
  | some q =>
    obtain ⟨rr, rest⟩ := q
    obtain ⟨⟨at9, hp9, hrest, hq9⟩, hrr⟩ := S9.out
    have Hrr := hide (show rr = rec1 6 ⟨#[]⟩ from hrr)
    have d1 : w1.cell? ⟨w.heap.size + 1, 1, none⟩ = some (.int .i64 (at9 : Int)) := ((below_alloc w1 _).cell (p := ⟨w.heap.size + 1, 1, none⟩) hRY).symm.trans (hq9.cell 1)
    have d2 : w1.cell? ⟨w.heap.size + 1, 2, none⟩ = some (.bool false) := ((below_alloc w1 _).cell (p := ⟨w.heap.size + 1, 2, none⟩) hRY).symm.trans (hq9.cell 2)
    have Hrest := hide (show rest = [] ↔ at9 = b.size by rw [hrest]; exact rest_nil hp9)
    have Hok := hide (show RcdOk (rec1 6 ⟨#[]⟩) by have := HOK.out rr rest rfl; rw [Hrr.out] at this; exact this)
    clear hp9 hrest hq9 hrr HOK S9
    by_cases he : at9 = b.size
    · subst he
      obtain ⟨m, hm⟩ : ∃ m, mayAll (rec1 6 ⟨#[]⟩) = m := ⟨_, rfl⟩
      have HM := hide fun (W : World) => rmayP_any (rec1 6 ⟨#[]⟩) (none) (none) (0) (0) W ⟨Reads.none_, Reads.none_, Hok.out.na, Hok.out.nk, Hok.out.sa, Hok.out.sk, Hok.out.su, Hok.out.si⟩
      rw [hm] at HM
      have Hm := hide hm
      unfold rcdCells rec1 at HM
      clear hm
      go_wp2_with fail
      refine (HM.out _).mono ?_
      rintro e wz ⟨rfl, hbz⟩
      have KX2 := hide (KX.out.below hbz KX.out.lt)
      have KY2 := hide (KY.out.below hbz KY.out.lt)
      have B2 := hide (B.out.trans (hbz.mono B.out.size))
      have Hbz := hide hbz
      clear hbz x0 x1 x2 x3 x4 x5 x6 x7 f0 f1 f2 f3 f4 f5 f6 f7
      have x0 : wz.cell? ⟨w.heap.size, 0, none⟩ = some (.int .i8 0) := KX2.out.cell 0
      have x1 : wz.cell? ⟨w.heap.size, 1, none⟩ = some (.int .i64 0) := KX2.out.cell 1
      have x2 : wz.cell? ⟨w.heap.size, 2, none⟩ = some (.string ⟨#[]⟩) := KX2.out.cell 2
      have x3 : wz.cell? ⟨w.heap.size, 3, none⟩ = some (.string ⟨#[]⟩) := KX2.out.cell 3
      have x4 : wz.cell? ⟨w.heap.size, 4, none⟩ = some (.bool false) := KX2.out.cell 4
      have x5 : wz.cell? ⟨w.heap.size, 5, none⟩ = some (.slice none 0 0) := KX2.out.cell 5
      have x6 : wz.cell? ⟨w.heap.size, 6, none⟩ = some (.string ⟨#[]⟩) := KX2.out.cell 6
      have x7 : wz.cell? ⟨w.heap.size, 7, none⟩ = some (.slice none 0 0) := KX2.out.cell 7
      have f0 := KX2.out.frozen 0
      have f1 := KX2.out.frozen 1
      have f2 := KX2.out.frozen 2
      have f3 := KX2.out.frozen 3
      have f4 := KX2.out.frozen 4
      have f5 := KX2.out.frozen 5
      have f6 := KX2.out.frozen 6
      have f7 := KX2.out.frozen 7
      have y0 : wz.cell? ⟨w1.heap.size, 0, none⟩ = some (.int .i8 6) := KY2.out.cell 0
      have y1 : wz.cell? ⟨w1.heap.size, 1, none⟩ = some (.int .i64 0) := KY2.out.cell 1
      have y2 : wz.cell? ⟨w1.heap.size, 2, none⟩ = some (.string ⟨#[]⟩) := KY2.out.cell 2
      have y3 : wz.cell? ⟨w1.heap.size, 3, none⟩ = some (.string ⟨#[]⟩) := KY2.out.cell 3
      have y4 : wz.cell? ⟨w1.heap.size, 4, none⟩ = some (.bool false) := KY2.out.cell 4
      have y5 : wz.cell? ⟨w1.heap.size, 5, none⟩ = some (.slice none 0 0) := KY2.out.cell 5
      have y6 : wz.cell? ⟨w1.heap.size, 6, none⟩ = some (.string ⟨#[]⟩) := KY2.out.cell 6
      have y7 : wz.cell? ⟨w1.heap.size, 7, none⟩ = some (.slice none 0 0) := KY2.out.cell 7
      cases m
      · go_wp2
        refine read2_retq rfl rfl rfl (set8_blk KX2.out) ?_
        have hn : oo = none := by rw [HOUT.out, Hrr.out]; exact if_neg (fun h => by rw [Hm.out] at h; cases h.2)
        subst hn
        exact ReadR.none_ rfl (below_set8 B2.out (Nat.le_refl _) _ _ _ _ _ _ _ _)
      · go_wp2
        refine read2_retq rfl rfl rfl (set8_blk KX2.out) ?_
        have hn : oo = some (rec1 6 ⟨#[]⟩) := by rw [HOUT.out, Hrr.out]; exact if_pos ⟨by first | exact Hrest.out.2 rfl | exact Hrest.out.2 trivial, Hm.out⟩
        subst hn
        exact ⟨none, 0, none, 0, rfl, below_set8 B2.out (Nat.le_refl _) _ _ _ _ _ _ _ _, Reads.none_, Reads.none_, above_none _, above_none _, typed_none _ _, typed_none _ _⟩
    · have hn : oo = none := by rw [HOUT.out]; exact if_neg (fun h => he (Hrest.out.1 h.1))
      subst hn
      have he2 : ¬ b.size = at9 := fun h => he h.symm
      go_wp2
      refine read2_retq rfl rfl rfl ((set8_blk KX0.out).alloc _) ?_
      exact ReadR.none_ rfl ((below_set8 B0.out (Nat.le_refl _) _ _ _ _ _ _ _ _).alloc (by rw [set8_size]; exact Nat.le_of_lt hXY) _)
end Go.Proofs.Ytlkkmgimjjnhjaa
namespace Go.Proofs.Ytlkkmgimjjnhjaa
open Go.RowKit Rec
attribute [local go_sem ↓] Go.wp_at_zero Go.wp_at_succ

set_option maxHeartbeats 4000000 in
theorem rread_3 (b : ByteArray) (w : World) (c : UInt8) (l : List UInt8) (hl : b.data.toList = c :: l) (hk : c.toNat = 3) (hs : b.size ≤ 65536) :
    Calls Try.prog 22 #[.string b] w (ReadR w (readOut b)) := by
  obtain ⟨op, hop⟩ : ∃ o, pRcd (c :: l) = o := ⟨_, rfl⟩
  have hout := readOut_of (b := b) (o := op) (by rw [hl, hop]) hs
  have HOK := hide fun r rest (h : op = some (r, rest)) => pRcd_ok (hop.trans h) (by have := congrArg List.length hl; simp at this; simp; omega)
  have hob : op = (if false then none else some ((), l)).bind fun x => pBody 3 x.2 := by rw [← hop]; show pBody c.toNat l = pBody 3 l; rw [hk]
  obtain ⟨oa, hoa⟩ : ∃ o : Option (Unit × List UInt8), (if false then none else some ((), l)) = o := ⟨_, rfl⟩
  rw [hoa] at hob
  have HOB := hide hob
  have HOA := hide hoa
  obtain ⟨oo, hoo⟩ : ∃ o, readOut b = o := ⟨_, rfl⟩
  rw [hoo] at hout ⊢
  have HOUT := hide hout
  clear hop hout hob hoa hoo
  have i0 := index_byte' [c] 0 (by simp) 0 rfl
  simp only [List.getElem_cons_zero, hk] at i0
  have hz : (bstr [c]).size = 1 := bstr_size _
  have hd : decide ((65536 : Int) < b.size) = false := by simp; omega
  have HZ := hide (show b.size ≤ 1000000000 by omega)
  have HT := hide fun (W : World) (hR : Ql W (w.heap.size + 1) b b.data.toList false) => (show Calls Try.prog 39 #[.pointer (some ⟨w.heap.size + 1, 0, none⟩), .int .i64 1] W fun e w' => e = .returned (.string (bstr [c])) ∧ Ql w' (w.heap.size + 1) b l false ∧ But (w.heap.size + 1) W w' from by have h2 := hR; rw [hl] at h2; exact qtake_yes 1 W (w.heap.size + 1) b (c :: l) h2 (by omega) (by simp))
  have H0 := hide (show Ql ((w.alloc (.cells (rbox 0 0 ⟨#[]⟩ ⟨#[]⟩ false (.slice none 0 0) ⟨#[]⟩ (.slice none 0 0)) 28)).alloc (.cells #[.string b, .int .i64 0, .bool false] 71)) (w.heap.size + 1) b b.data.toList false from ⟨0, by omega, by simp, by
    have := Blk.new (w.alloc (.cells (rbox 0 0 ⟨#[]⟩ ⟨#[]⟩ false (.slice none 0 0) ⟨#[]⟩ (.slice none 0 0)) 28)) 71 #[.string b, .int .i64 0, .bool false]
    rw [World.size_alloc] at this
    exact this⟩)
  generalize bstr [c] = t at *
  clear hl hk hs
  go_enter Try.func22, Try.ntmps22
  go_wp2_with fail
  refine (HT.out _ H0.out).mono ?_
  rintro e w1 ⟨rfl, hr, hb⟩
  have B := hide ((((Below.refl w.heap.size w).alloc (Nat.le_refl _) (.cells (rbox 0 0 ⟨#[]⟩ ⟨#[]⟩ false (.slice none 0 0) ⟨#[]⟩ (.slice none 0 0)) 28)).alloc (by simp) (.cells #[.string b, .int .i64 0, .bool false] 71)).trans (hb.below (B := w.heap.size) (by omega) (by simp; omega)))
  have KX := hide (show Blk w1 w.heap.size 28 (rbox 0 0 ⟨#[]⟩ ⟨#[]⟩ false (.slice none 0 0) ⟨#[]⟩ (.slice none 0 0)) from hb.blk ((Blk.new w 28 (rbox 0 0 ⟨#[]⟩ ⟨#[]⟩ false (.slice none 0 0) ⟨#[]⟩ (.slice none 0 0))).alloc _) (by omega))
  have hRYo := hide (show (w.heap.size + 1) < w1.heap.size from hr.lt)
  have hXYo := hide (show w.heap.size < w1.heap.size from KX.out.lt)
  have d2 : w1.cell? ⟨w.heap.size + 1, 2, none⟩ = some (.bool false) := by obtain ⟨_, q, _⟩ := hr.bad?; exact q
  have KY := hide (Blk.new w1 28 (rbox 3 0 ⟨#[]⟩ ⟨#[]⟩ false (.slice none 0 0) ⟨#[]⟩ (.slice none 0 0)))
  have Bu := hide (But.refl (w.heap.size + 1) (w1.alloc (.cells (rbox 3 0 ⟨#[]⟩ ⟨#[]⟩ false (.slice none 0 0) ⟨#[]⟩ (.slice none 0 0)) 28)))
  have KX0 := KX
  have B0 := B
  replace KX := hide (KX.out.alloc (.cells (rbox 3 0 ⟨#[]⟩ ⟨#[]⟩ false (.slice none 0 0) ⟨#[]⟩ (.slice none 0 0)) 28))
  replace B := hide (B.out.alloc (Nat.le_of_lt hXYo.out) (.cells (rbox 3 0 ⟨#[]⟩ ⟨#[]⟩ false (.slice none 0 0) ⟨#[]⟩ (.slice none 0 0)) 28))
  have S := hide (show StQ (w1.alloc (.cells (rbox 3 0 ⟨#[]⟩ ⟨#[]⟩ false (.slice none 0 0) ⟨#[]⟩ (.slice none 0 0)) 28)) (w.heap.size + 1) b oa (fun _ => True) by
    rw [← HOA.out]
    exact StQ.of (bad := false) (hr.keep (Below.heap_alloc _ _ _ hr.lt)) () trivial)
  clear hr hb HOA
  have hXY := hXYo.out
  have hXR : w.heap.size ≠ (w.heap.size + 1) := by omega
  have hRX := hXR.symm
  have hRY := hRYo.out
  have hYR : w1.heap.size ≠ (w.heap.size + 1) := by omega
  have hRY' := hYR.symm
  have hXYn : w.heap.size ≠ w1.heap.size := by omega
  have hYX := hXYn.symm
  go_wp2_with fail
  refine (qtext_step HZ.out _ _ _ S.out).mono ?_
  rintro e w2 ⟨u, rfl, hqu, hb, hs⟩
  replace S := hide hs
  replace KX := hide (hb.blk KX.out hXR)
  replace KY := hide (hb.blk KY.out hYR)
  replace B := hide (B.out.trans (hb.below (B := w.heap.size) (by omega) (by have := KX.out.lt; have := B.out.size; omega)))
  clear hb hs
  have y0 : w2.cell? ⟨w1.heap.size, 0, none⟩ = some (.int .i8 3) := KY.out.cell 0
  have y1 : w2.cell? ⟨w1.heap.size, 1, none⟩ = some (.int .i64 0) := KY.out.cell 1
  have y2 : w2.cell? ⟨w1.heap.size, 2, none⟩ = some (.string ⟨#[]⟩) := KY.out.cell 2
  have y3 : w2.cell? ⟨w1.heap.size, 3, none⟩ = some (.string ⟨#[]⟩) := KY.out.cell 3
  have y4 : w2.cell? ⟨w1.heap.size, 4, none⟩ = some (.bool false) := KY.out.cell 4
  have y5 : w2.cell? ⟨w1.heap.size, 5, none⟩ = some (.slice none 0 0) := KY.out.cell 5
  have y6 : w2.cell? ⟨w1.heap.size, 6, none⟩ = some (.string ⟨#[]⟩) := KY.out.cell 6
  have y7 : w2.cell? ⟨w1.heap.size, 7, none⟩ = some (.slice none 0 0) := KY.out.cell 7
  have g0 := KY.out.frozen 0
  have g1 := KY.out.frozen 1
  have g2 := KY.out.frozen 2
  have g3 := KY.out.frozen 3
  have g4 := KY.out.frozen 4
  have g5 := KY.out.frozen 5
  have g6 := KY.out.frozen 6
  have g7 := KY.out.frozen 7
  go_wp2_with fail
  replace S := hide (S.out.keep (Below.heap_setCell _ ⟨w1.heap.size, 2, none⟩ (.string u) _ hRY'))
  replace B := hide ((B.out).setCell (p := ⟨w1.heap.size, 2, none⟩) (Nat.le_of_lt hXY) (.string u))
  replace KX := hide (KX.out.far (p := ⟨w1.heap.size, 2, none⟩) hXYn (.string u))
  replace KY := hide (rb2 KY.out u)
  clear y0 y1 y2 y3 y4 y5 y6 y7 g0 g1 g2 g3 g4 g5 g6 g7
  refine (qmany_step HZ.out _ _ _ S.out 16).mono ?_
  rintro e w3 ⟨N, rfl, hqN, hb, hs⟩
  replace S := hide hs
  replace KX := hide (hb.blk KX.out hXR)
  replace KY := hide (hb.blk KY.out hYR)
  replace B := hide (B.out.trans (hb.below (B := w.heap.size) (by omega) (by have := KX.out.lt; have := B.out.size; omega)))
  clear hb hs
  have hN16 : N ≤ 16 := hqN
  have HP2 := hide (show ∀ x, also (also oa pText) (pMany 16) = some x → x.1.2 = N from by
    intro x h
    have := S.out
    rw [h] at this
    exact this.2.2)
  have body := hide (body3 oa u N HP2.out)
  obtain ⟨o2, ho2⟩ : ∃ o, also (also oa pText) (pMany 16) = o := ⟨_, rfl⟩
  rw [ho2] at S body
  clear ho2 HP2 hqN
  have H0 := hide (show w3.ownsRow w1.heap.size 47 7 (.slice none 0 0) 0 (ents []) from World.ownsRow_nil _ _ _ _)
  go_wp2
  go_loopg [8] N (fun g vi wr => ∃ (k : Nat) (L : List Ent) (A : Option Addr) (c : Nat), g = N - k ∧ k ≤ N ∧ vi = .int .i64 k ∧ Blk wr w1.heap.size 28 (rbox 3 0 u ⟨#[]⟩ false (.slice A k c) ⟨#[]⟩ (.slice none 0 0)) ∧ wr.ownsRow w1.heap.size 47 7 (.slice A k c) k (ents L) ∧ StQ wr (w.heap.size + 1) b (rep o2 pEntry k) (fun x => (fun a : (Unit × ByteArray) × Nat => (True ∧ a.1.2 = u) ∧ a.2 = N) x.1 ∧ x.2 = L) ∧ Below w.heap.size w wr ∧ Blk wr w.heap.size 28 (rbox 0 0 ⟨#[]⟩ ⟨#[]⟩ false (.slice none 0 0) ⟨#[]⟩ (.slice none 0 0)))
  case atStart => exact ⟨0, [], none, 0, rfl, by omega, rfl, KY.out, H0.out, S.out.rep0, B.out, KX.out⟩
  case round =>
    obtain ⟨k, L, A, c0, hg, hk, rfl, hK, hown, hS, hB, hKX⟩ := hrel
    have Hg := hide hg
    have KY := hide hK
    have Hown := hide hown
    have S := hide hS
    have B := hide hB
    have KX := hide hKX
    clear hg hK hown hS hB hKX H0
    obtain ⟨ok, hok⟩ : ∃ o, rep o2 pEntry k = o := ⟨_, rfl⟩
    have Hok' := hide hok
    cases ok with
    | none =>
      have d2 := S.out.cell2
      rw [hok] at d2
      simp only [Option.isNone_none] at d2
      have HN := hide (show op = none by rw [HOB.out, body.out, rep_none hok hk]; rfl)
      rw [HN.out] at HOUT
      clear hok
      have x0 : wr.cell? ⟨w.heap.size, 0, none⟩ = some (.int .i8 0) := KX.out.cell 0
      have x1 : wr.cell? ⟨w.heap.size, 1, none⟩ = some (.int .i64 0) := KX.out.cell 1
      have x2 : wr.cell? ⟨w.heap.size, 2, none⟩ = some (.string ⟨#[]⟩) := KX.out.cell 2
      have x3 : wr.cell? ⟨w.heap.size, 3, none⟩ = some (.string ⟨#[]⟩) := KX.out.cell 3
      have x4 : wr.cell? ⟨w.heap.size, 4, none⟩ = some (.bool false) := KX.out.cell 4
      have x5 : wr.cell? ⟨w.heap.size, 5, none⟩ = some (.slice none 0 0) := KX.out.cell 5
      have x6 : wr.cell? ⟨w.heap.size, 6, none⟩ = some (.string ⟨#[]⟩) := KX.out.cell 6
      have x7 : wr.cell? ⟨w.heap.size, 7, none⟩ = some (.slice none 0 0) := KX.out.cell 7
      have f0 := KX.out.frozen 0
      have f1 := KX.out.frozen 1
      have f2 := KX.out.frozen 2
      have f3 := KX.out.frozen 3
      have f4 := KX.out.frozen 4
      have f5 := KX.out.frozen 5
      have f6 := KX.out.frozen 6
      have f7 := KX.out.frozen 7
      by_cases hlt : k < N
      all_goals
        go_wp2
        refine read2_retq rfl rfl rfl (set8_blk KX.out) ?_
        have hn : oo = none := HOUT.out
        subst hn
        exact ReadR.none_ rfl (below_set8 B.out (Nat.le_refl _) _ _ _ _ _ _ _ _)
    | some okq =>
      by_cases hlt : k < N
      · have d2 := S.out.cell2
        rw [hok] at d2
        simp only [Option.isNone_some] at d2
        clear hok
        have x5 : wr.cell? ⟨w1.heap.size, 5, none⟩ = some (.slice A k c0) := KY.out.cell 5
        have HC := hide fun (W : World) (h : But (w.heap.size + 1) wr W) (hh : W.heap[(w.heap.size + 1)]? = wr.heap[(w.heap.size + 1)]?) => qentry_step' HZ.out W _ _ (S.out.keep hh)
        go_wp2
        go_region_law
         (first
          | (show if Region.wanted (⟨some 71, _, _, _, _, _⟩ : Oper) _ = true then _ else _; rw [if_pos (by kernel_rfl)]; go_simp; refine (HC.out _ (But.drew (But.refl (w.heap.size + 1) wr)) (by rfl)).mono ?_; rintro e w4 ⟨x, rfl, -, hb4, hs4⟩; have K4 := hide (hb4.blk KY.out.drew hYR); have y5 : w4.cell? ⟨w1.heap.size, 5, none⟩ = some (.slice A k c0) := K4.out.cell 5; have z5 := K4.out.frozen 5; have xa : ∀ o, (w4.alloc o).cell? ⟨w1.heap.size, 5, none⟩ = some (.slice A k c0) := (fun o => cell_go (below_alloc _ _) y5); have HO4 := hide (Hown.out.drew.kept_but hb4 hYR hRY); have B4 := hide (B.out.drew.trans (hb4.below (B := w.heap.size) (by omega) (by exact B.out.size))); have X4 := hide (hb4.blk KX.out.drew hXR); have HNE := hide (own_blk_ne HO4.out K4.out (by decide)).symm; have HNX := hide (own_blk_ne HO4.out X4.out (by decide)).symm; have Hs4 := hide hs4; clear hb4 hs4)
          | (show if Region.wanted (⟨some 73, _, _, _, _, _⟩ : Oper) _ = true then _ else _; refine step_append_elem _ (by rfl) _ _ _ (by rfl) w1.heap.size 47 _ 7 96 Try.underlying23 info_ent (by rfl) (by omega) (.slice A k c0) k (ents L) (by rfl) (by exact ((HO4.out).alloc _)) (entCells x) rfl (ent_one x) w4.heap.size (by exact (Blk.new w4 47 _)) (by rfl) (by unfold maxLen; omega) (by omega) (by have := K4.out.lt; simp; omega) ?_; intro g cap w5 hown5 hgrow5 hlt5; have K5 := hide (show Blk w5 w1.heap.size 28 (rbox 3 0 u ⟨#[]⟩ false (.slice A k c0) ⟨#[]⟩ (.slice none 0 0)) from Blk.grown (K4.out.alloc (.cells #[.string x.id, .string x.title, .string x.link, .string x.author, .string x.content, .bool x.has, .int .i64 x.sec] 47)) hgrow5 HNE.out); have y5' : w5.cell? ⟨w1.heap.size, 5, none⟩ = some (.slice A k c0) := K5.out.cell 5; have z5' := K5.out.frozen 5; have Hgrow5 := hide hgrow5; have Hown5 := hide hown5; clear hown5 hgrow5 hlt5))
        all_goals go_wp2
        all_goals
          have S5 := hide (show StQ w5 (w.heap.size + 1) b (rep o2 pEntry (k + 1)) (fun y => (fun a : (Unit × ByteArray) × Nat => (True ∧ a.1.2 = u) ∧ a.2 = N) y.1 ∧ y.2 = L ++ [x]) from (StQ.repS (P := fun a : (Unit × ByteArray) × Nat => (True ∧ a.1.2 = u) ∧ a.2 = N) Hs4.out).keep ((Hgrow5.out.block (w.heap.size + 1) (by have := Hs4.out.lt; simp; omega) (fun e => by have := (own_isT HO4.out (w.heap.size + 1) e.symm).1; omega)).trans (Below.heap_alloc w4 _ (w.heap.size + 1) Hs4.out.lt)))
          have B5 := hide ((B4.out.alloc (by have := X4.out.lt; omega) _).grown Hgrow5.out (by have := X4.out.lt; simp; omega) (fun j e => by have := (own_isT HO4.out j e).1; omega))
          have X5 := hide (Blk.grown (X4.out.alloc (.cells #[.string x.id, .string x.title, .string x.link, .string x.author, .string x.content, .bool x.has, .int .i64 x.sec] 47)) Hgrow5.out HNX.out)
          have K6 := hide (rb5 K5.out (.slice (some ⟨g, 0, none⟩) (k + 1) cap))
          have O6 := hide (ownsRow_setCell_other Hown5.out (a := ⟨w1.heap.size, 5, none⟩) (own_blk_ne Hown5.out K5.out (by decide)) (.slice (some ⟨g, 0, none⟩) (k + 1) cap))
          have S6 := hide (S5.out.keep (Below.heap_setCell w5 ⟨w1.heap.size, 5, none⟩ (.slice (some ⟨g, 0, none⟩) (k + 1) cap) (w.heap.size + 1) hRY'))
          have B6 := hide ((B5.out).setCell (p := ⟨w1.heap.size, 5, none⟩) (Nat.le_of_lt hXY) (.slice (some ⟨g, 0, none⟩) (k + 1) cap))
          have X6 := hide (X5.out.far (p := ⟨w1.heap.size, 5, none⟩) hXYn (.slice (some ⟨g, 0, none⟩) (k + 1) cap))
          go_roundg (N - (k + 1))
          case measure => have := Hg.out; omega
          case rel => exact ⟨k + 1, L ++ [x], some ⟨g, 0, none⟩, cap, rfl, by omega, by go_num, K6.out, by rw [ents_snoc]; exact O6.out, S6.out, B6.out, X6.out⟩
      · have hkN : k = N := by omega
        have hLk : k = L.length := by have := Hown.out.1; rw [ents_length] at this; omega
        clear hok
        subst hLk
        have HkN := hide hkN
        have Ra := hide (Reads.of_own Hown.out)
        have Ta := hide (typed_own Hown.out)
        have Va := hide ((above_own Hown.out).more (B' := w.heap.size + 1) (by omega))
        clear hkN Hok'
        have x0 : wr.cell? ⟨w.heap.size, 0, none⟩ = some (.int .i8 0) := KX.out.cell 0
        have x1 : wr.cell? ⟨w.heap.size, 1, none⟩ = some (.int .i64 0) := KX.out.cell 1
        have x2 : wr.cell? ⟨w.heap.size, 2, none⟩ = some (.string ⟨#[]⟩) := KX.out.cell 2
        have x3 : wr.cell? ⟨w.heap.size, 3, none⟩ = some (.string ⟨#[]⟩) := KX.out.cell 3
        have x4 : wr.cell? ⟨w.heap.size, 4, none⟩ = some (.bool false) := KX.out.cell 4
        have x5 : wr.cell? ⟨w.heap.size, 5, none⟩ = some (.slice none 0 0) := KX.out.cell 5
        have x6 : wr.cell? ⟨w.heap.size, 6, none⟩ = some (.string ⟨#[]⟩) := KX.out.cell 6
        have x7 : wr.cell? ⟨w.heap.size, 7, none⟩ = some (.slice none 0 0) := KX.out.cell 7
        have f0 := KX.out.frozen 0
        have f1 := KX.out.frozen 1
        have f2 := KX.out.frozen 2
        have f3 := KX.out.frozen 3
        have f4 := KX.out.frozen 4
        have f5 := KX.out.frozen 5
        have f6 := KX.out.frozen 6
        have f7 := KX.out.frozen 7
        have y0 : wr.cell? ⟨w1.heap.size, 0, none⟩ = some (.int .i8 3) := KY.out.cell 0
        have y1 : wr.cell? ⟨w1.heap.size, 1, none⟩ = some (.int .i64 0) := KY.out.cell 1
        have y2 : wr.cell? ⟨w1.heap.size, 2, none⟩ = some (.string u) := KY.out.cell 2
        have y3 : wr.cell? ⟨w1.heap.size, 3, none⟩ = some (.string ⟨#[]⟩) := KY.out.cell 3
        have y4 : wr.cell? ⟨w1.heap.size, 4, none⟩ = some (.bool false) := KY.out.cell 4
        have y5 : wr.cell? ⟨w1.heap.size, 5, none⟩ = some (.slice A L.length c0) := KY.out.cell 5
        have y6 : wr.cell? ⟨w1.heap.size, 6, none⟩ = some (.string ⟨#[]⟩) := KY.out.cell 6
        have y7 : wr.cell? ⟨w1.heap.size, 7, none⟩ = some (.slice none 0 0) := KY.out.cell 7
        have g0 := KY.out.frozen 0
        have g1 := KY.out.frozen 1
        have g2 := KY.out.frozen 2
        have g3 := KY.out.frozen 3
        have g4 := KY.out.frozen 4
        have g5 := KY.out.frozen 5
        have g6 := KY.out.frozen 6
        have g7 := KY.out.frozen 7
        obtain ⟨oz, hoz⟩ : ∃ o, op = o := ⟨_, rfl⟩
        have S9 := hide (show StQ wr (w.heap.size + 1) b op (fun x => x = rec3 u L) from by rw [HOB.out, body.out, ← HkN.out]; exact StQ.mapf (Q := fun x => x = rec3 u L) (fun x => rec3 x.1.1.2 x.2) S.out (fun a hP => by show rec3 a.1.1.2 a.2 = rec3 u L; rw [hP.1.1.2, hP.2]))
        rw [hoz] at S9 HOUT HOK
        clear hoz
        clear S
        cases oz with
        | none =>
          have d2 := S9.out.cell2
          simp only [Option.isNone_none] at d2
          go_wp2
          refine read2_retq rfl rfl rfl (set8_blk KX.out) ?_
          have hn : oo = none := HOUT.out
          subst hn
          exact ReadR.none_ rfl (below_set8 B.out (Nat.le_refl _) _ _ _ _ _ _ _ _)
        | some q =>
          obtain ⟨rr, rest⟩ := q
          obtain ⟨⟨at9, hp9, hrest, hq9⟩, hrr⟩ := S9.out
          have Hrr := hide (show rr = rec3 u L from hrr)
          have d1 : wr.cell? ⟨w.heap.size + 1, 1, none⟩ = some (.int .i64 (at9 : Int)) := hq9.cell 1
          have d2 : wr.cell? ⟨w.heap.size + 1, 2, none⟩ = some (.bool false) := hq9.cell 2
          have Hrest := hide (show rest = [] ↔ at9 = b.size by rw [hrest]; exact rest_nil hp9)
          have Hok := hide (show RcdOk (rec3 u L) by have := HOK.out rr rest rfl; rw [Hrr.out] at this; exact this)
          clear hp9 hrest hq9 hrr HOK S9
          by_cases he : at9 = b.size
          · subst he
            obtain ⟨m, hm⟩ : ∃ m, mayAll (rec3 u L) = m := ⟨_, rfl⟩
            have HM := hide fun (W : World) (hW : Below wr.heap.size wr W) => rmayP_any (rec3 u L) (A) (none) (c0) (0) W ⟨Ra.out.later hW, Reads.none_, Hok.out.na, Hok.out.nk, Hok.out.sa, Hok.out.sk, Hok.out.su, Hok.out.si⟩
            rw [hm] at HM
            have Hm := hide hm
            unfold rcdCells rec3 at HM
            clear hm
            go_wp2_with fail
            refine (HM.out _ (Below.refl _ _)).mono ?_
            rintro e wz ⟨rfl, hbz⟩
            have KX2 := hide (KX.out.below hbz KX.out.lt)
            have KY2 := hide (KY.out.below hbz KY.out.lt)
            have B2 := hide (B.out.trans (hbz.mono B.out.size))
            have Hbz := hide hbz
            clear hbz x0 x1 x2 x3 x4 x5 x6 x7 f0 f1 f2 f3 f4 f5 f6 f7
            clear y0 y1 y2 y3 y4 y5 y6 y7 g0 g1 g2 g3 g4 g5 g6 g7
            have x0 : wz.cell? ⟨w.heap.size, 0, none⟩ = some (.int .i8 0) := KX2.out.cell 0
            have x1 : wz.cell? ⟨w.heap.size, 1, none⟩ = some (.int .i64 0) := KX2.out.cell 1
            have x2 : wz.cell? ⟨w.heap.size, 2, none⟩ = some (.string ⟨#[]⟩) := KX2.out.cell 2
            have x3 : wz.cell? ⟨w.heap.size, 3, none⟩ = some (.string ⟨#[]⟩) := KX2.out.cell 3
            have x4 : wz.cell? ⟨w.heap.size, 4, none⟩ = some (.bool false) := KX2.out.cell 4
            have x5 : wz.cell? ⟨w.heap.size, 5, none⟩ = some (.slice none 0 0) := KX2.out.cell 5
            have x6 : wz.cell? ⟨w.heap.size, 6, none⟩ = some (.string ⟨#[]⟩) := KX2.out.cell 6
            have x7 : wz.cell? ⟨w.heap.size, 7, none⟩ = some (.slice none 0 0) := KX2.out.cell 7
            have f0 := KX2.out.frozen 0
            have f1 := KX2.out.frozen 1
            have f2 := KX2.out.frozen 2
            have f3 := KX2.out.frozen 3
            have f4 := KX2.out.frozen 4
            have f5 := KX2.out.frozen 5
            have f6 := KX2.out.frozen 6
            have f7 := KX2.out.frozen 7
            have y0 : wz.cell? ⟨w1.heap.size, 0, none⟩ = some (.int .i8 3) := KY2.out.cell 0
            have y1 : wz.cell? ⟨w1.heap.size, 1, none⟩ = some (.int .i64 0) := KY2.out.cell 1
            have y2 : wz.cell? ⟨w1.heap.size, 2, none⟩ = some (.string u) := KY2.out.cell 2
            have y3 : wz.cell? ⟨w1.heap.size, 3, none⟩ = some (.string ⟨#[]⟩) := KY2.out.cell 3
            have y4 : wz.cell? ⟨w1.heap.size, 4, none⟩ = some (.bool false) := KY2.out.cell 4
            have y5 : wz.cell? ⟨w1.heap.size, 5, none⟩ = some (.slice A L.length c0) := KY2.out.cell 5
            have y6 : wz.cell? ⟨w1.heap.size, 6, none⟩ = some (.string ⟨#[]⟩) := KY2.out.cell 6
            have y7 : wz.cell? ⟨w1.heap.size, 7, none⟩ = some (.slice none 0 0) := KY2.out.cell 7
            cases m
            · go_wp2
              refine read2_retq rfl rfl rfl (set8_blk KX2.out) ?_
              have hn : oo = none := by rw [HOUT.out, Hrr.out]; exact if_neg (fun h => by rw [Hm.out] at h; cases h.2)
              subst hn
              exact ReadR.none_ rfl (below_set8 B2.out (Nat.le_refl _) _ _ _ _ _ _ _ _)
            · go_wp2
              refine read2_retq rfl rfl rfl (set8_blk KX2.out) ?_
              have hn : oo = some (rec3 u L) := by rw [HOUT.out, Hrr.out]; exact if_pos ⟨by first | exact Hrest.out.2 rfl | exact Hrest.out.2 trivial, Hm.out⟩
              subst hn
              exact ⟨A, c0, none, 0, rfl, below_set8 B2.out (Nat.le_refl _) _ _ _ _ _ _ _ _, (((Ra.out.below Hbz.out).more Hbz.out.size).set8 Va.out _ _ _ _ _ _ _ _).more (Nat.le_of_eq (set8_size wz w.heap.size _ _ _ _ _ _ _ _).symm), Reads.none_, Va.out.more (by omega), above_none _, (Ta.out.below Hbz.out).set8 w.heap.size _ _ _ _ _ _ _ _, typed_none _ _⟩
          · have hn : oo = none := by rw [HOUT.out]; exact if_neg (fun h => he (Hrest.out.1 h.1))
            subst hn
            have he2 : ¬ b.size = at9 := fun h => he h.symm
            go_wp2
            refine read2_retq rfl rfl rfl (set8_blk KX.out) ?_
            exact ReadR.none_ rfl (below_set8 B.out (Nat.le_refl _) _ _ _ _ _ _ _ _)
end Go.Proofs.Ytlkkmgimjjnhjaa
