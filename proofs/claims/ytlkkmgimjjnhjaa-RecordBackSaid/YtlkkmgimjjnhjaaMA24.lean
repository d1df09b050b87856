/- The document's Read: bad bytes. (Printed by wip/genRefRd.py.) -/
import Derived.Test.YtlkkmgimjjnhjaaMA23
set_option linter.unusedSimpArgs false
set_option linter.unusedVariables false
namespace Go.Proofs.Ytlkkmgimjjnhjaa
open Go.RowKit Rec
attribute [local go_sem ↓] Go.wp_at_zero Go.wp_at_succ

set_option maxHeartbeats 4000000 in
theorem rread_empty (b : ByteArray) (w : World) (hb0 : b.data.toList = []) (hs : b.size ≤ 1000000000) :
    Calls Try.prog 22 #[.string b] w (ReadR w (readOut b)) := by
  have HT := hide fun (W : World) (hR : Ql W (w.heap.size + 1) b b.data.toList false) => (show Calls Try.prog 39 #[.pointer (some ⟨w.heap.size + 1, 0, none⟩), .int .i64 1] W fun e w' => e = .returned (.string ⟨#[]⟩) ∧ Ql w' (w.heap.size + 1) b [] true ∧ But (w.heap.size + 1) W w' from by have h2 := hR; rw [hb0] at h2; exact qtake_no 1 W (w.heap.size + 1) b [] false h2 hs (by omega) (.inr (by simp)))
  have H0 := hide (show Ql ((w.alloc (.cells (rbox 0 0 ⟨#[]⟩ ⟨#[]⟩ false (.slice none 0 0) ⟨#[]⟩ (.slice none 0 0)) 28)).alloc (.cells #[.string b, .int .i64 0, .bool false] 71)) (w.heap.size + 1) b b.data.toList false from ⟨0, by omega, by simp, by
    have := Blk.new (w.alloc (.cells (rbox 0 0 ⟨#[]⟩ ⟨#[]⟩ false (.slice none 0 0) ⟨#[]⟩ (.slice none 0 0)) 28)) 71 #[.string b, .int .i64 0, .bool false]
    rw [World.size_alloc] at this
    exact this⟩)
  have hout : readOut b = none := by unfold readOut; rw [hb0]; rfl
  rw [hout]
  clear hout hb0
  go_enter Try.func22, Try.ntmps22
  go_wp2_with fail
  refine (HT.out _ H0.out).mono ?_
  rintro e w1 ⟨rfl, hr, hb⟩
  have B := hide ((((Below.refl w.heap.size w).alloc (Nat.le_refl _) (.cells (rbox 0 0 ⟨#[]⟩ ⟨#[]⟩ false (.slice none 0 0) ⟨#[]⟩ (.slice none 0 0)) 28)).alloc (by simp) (.cells #[.string b, .int .i64 0, .bool false] 71)).trans (hb.below (B := w.heap.size) (by omega) (by simp; omega)))
  have KX := hide (show Blk w1 w.heap.size 28 (rbox 0 0 ⟨#[]⟩ ⟨#[]⟩ false (.slice none 0 0) ⟨#[]⟩ (.slice none 0 0)) from hb.blk ((Blk.new w 28 (rbox 0 0 ⟨#[]⟩ ⟨#[]⟩ false (.slice none 0 0) ⟨#[]⟩ (.slice none 0 0))).alloc _) (by omega))
  have hRYo := hide (show (w.heap.size + 1) < w1.heap.size from hr.lt)
  have hXYo := hide (show w.heap.size < w1.heap.size from KX.out.lt)
  have d2 : w1.cell? ⟨w.heap.size + 1, 2, none⟩ = some (.bool true) := by obtain ⟨_, q, _⟩ := hr.bad?; exact q
  have x0 : w1.cell? ⟨w.heap.size, 0, none⟩ = some (.int .i8 0) := KX.out.cell 0
  have x1 : w1.cell? ⟨w.heap.size, 1, none⟩ = some (.int .i64 0) := KX.out.cell 1
  have x2 : w1.cell? ⟨w.heap.size, 2, none⟩ = some (.string ⟨#[]⟩) := KX.out.cell 2
  have x3 : w1.cell? ⟨w.heap.size, 3, none⟩ = some (.string ⟨#[]⟩) := KX.out.cell 3
  have x4 : w1.cell? ⟨w.heap.size, 4, none⟩ = some (.bool false) := KX.out.cell 4
  have x5 : w1.cell? ⟨w.heap.size, 5, none⟩ = some (.slice none 0 0) := KX.out.cell 5
  have x6 : w1.cell? ⟨w.heap.size, 6, none⟩ = some (.string ⟨#[]⟩) := KX.out.cell 6
  have x7 : w1.cell? ⟨w.heap.size, 7, none⟩ = some (.slice none 0 0) := KX.out.cell 7
  have f0 := KX.out.frozen 0
  have f1 := KX.out.frozen 1
  have f2 := KX.out.frozen 2
  have f3 := KX.out.frozen 3
  have f4 := KX.out.frozen 4
  have f5 := KX.out.frozen 5
  have f6 := KX.out.frozen 6
  have f7 := KX.out.frozen 7
  go_wp2
  refine read2_retq rfl rfl rfl (set8_blk KX.out) ?_
  exact ReadR.none_ rfl (below_set8 B.out (Nat.le_refl _) _ _ _ _ _ _ _ _)

set_option maxHeartbeats 4000000 in
theorem rread_great (b : ByteArray) (w : World) (c : UInt8) (l : List UInt8) (hl : b.data.toList = c :: l) (h64 : 65536 < b.size ∨ 6 < c.toNat) (hs : b.size ≤ 1000000000) :
    Calls Try.prog 22 #[.string b] w (ReadR w (readOut b)) := by
  have hout : readOut b = none := by
    unfold readOut
    rw [hl]
    rcases h64 with h | h
    · cases h1 : pRcd (c :: l) with
      | none => rfl
      | some x => exact if_neg (fun hh => absurd hh.2.1 (by omega))
    · have : pRcd (c :: l) = none := by
        show pBody c.toNat l = none
        unfold pBody
        rw [if_neg (by omega), if_neg (by omega), if_neg (by omega), if_neg (by omega), if_neg (by omega), if_neg (by omega)]
      rw [this]; rfl
  rw [hout]
  clear hout
  have i0 := index_byte' [c] 0 (by simp) 0 rfl
  simp only [List.getElem_cons_zero] at i0
  have hz : (bstr [c]).size = 1 := bstr_size _
  have HT := hide fun (W : World) (hR : Ql W (w.heap.size + 1) b b.data.toList false) => (show Calls Try.prog 39 #[.pointer (some ⟨w.heap.size + 1, 0, none⟩), .int .i64 1] W fun e w' => e = .returned (.string (bstr [c])) ∧ Ql w' (w.heap.size + 1) b l false ∧ But (w.heap.size + 1) W w' from by have h2 := hR; rw [hl] at h2; exact qtake_yes 1 W (w.heap.size + 1) b (c :: l) h2 hs (by simp))
  have H0 := hide (show Ql ((w.alloc (.cells (rbox 0 0 ⟨#[]⟩ ⟨#[]⟩ false (.slice none 0 0) ⟨#[]⟩ (.slice none 0 0)) 28)).alloc (.cells #[.string b, .int .i64 0, .bool false] 71)) (w.heap.size + 1) b b.data.toList false from ⟨0, by omega, by simp, by
    have := Blk.new (w.alloc (.cells (rbox 0 0 ⟨#[]⟩ ⟨#[]⟩ false (.slice none 0 0) ⟨#[]⟩ (.slice none 0 0)) 28)) 71 #[.string b, .int .i64 0, .bool false]
    rw [World.size_alloc] at this
    exact this⟩)
  generalize bstr [c] = t at *
  generalize c.toNat = n at *
  clear hl
  go_enter Try.func22, Try.ntmps22
  go_wp2_with fail
  refine (HT.out _ H0.out).mono ?_
  rintro e w1 ⟨rfl, hr, hb⟩
  have B := hide ((((Below.refl w.heap.size w).alloc (Nat.le_refl _) (.cells (rbox 0 0 ⟨#[]⟩ ⟨#[]⟩ false (.slice none 0 0) ⟨#[]⟩ (.slice none 0 0)) 28)).alloc (by simp) (.cells #[.string b, .int .i64 0, .bool false] 71)).trans (hb.below (B := w.heap.size) (by omega) (by simp; omega)))
  have KX := hide (show Blk w1 w.heap.size 28 (rbox 0 0 ⟨#[]⟩ ⟨#[]⟩ false (.slice none 0 0) ⟨#[]⟩ (.slice none 0 0)) from hb.blk ((Blk.new w 28 (rbox 0 0 ⟨#[]⟩ ⟨#[]⟩ false (.slice none 0 0) ⟨#[]⟩ (.slice none 0 0))).alloc _) (by omega))
  have hRYo := hide (show (w.heap.size + 1) < w1.heap.size from hr.lt)
  have hXYo := hide (show w.heap.size < w1.heap.size from KX.out.lt)
  have d2 : w1.cell? ⟨w.heap.size + 1, 2, none⟩ = some (.bool false) := by obtain ⟨_, q, _⟩ := hr.bad?; exact q
  have x0 : w1.cell? ⟨w.heap.size, 0, none⟩ = some (.int .i8 0) := KX.out.cell 0
  have x1 : w1.cell? ⟨w.heap.size, 1, none⟩ = some (.int .i64 0) := KX.out.cell 1
  have x2 : w1.cell? ⟨w.heap.size, 2, none⟩ = some (.string ⟨#[]⟩) := KX.out.cell 2
  have x3 : w1.cell? ⟨w.heap.size, 3, none⟩ = some (.string ⟨#[]⟩) := KX.out.cell 3
  have x4 : w1.cell? ⟨w.heap.size, 4, none⟩ = some (.bool false) := KX.out.cell 4
  have x5 : w1.cell? ⟨w.heap.size, 5, none⟩ = some (.slice none 0 0) := KX.out.cell 5
  have x6 : w1.cell? ⟨w.heap.size, 6, none⟩ = some (.string ⟨#[]⟩) := KX.out.cell 6
  have x7 : w1.cell? ⟨w.heap.size, 7, none⟩ = some (.slice none 0 0) := KX.out.cell 7
  have f0 := KX.out.frozen 0
  have f1 := KX.out.frozen 1
  have f2 := KX.out.frozen 2
  have f3 := KX.out.frozen 3
  have f4 := KX.out.frozen 4
  have f5 := KX.out.frozen 5
  have f6 := KX.out.frozen 6
  have f7 := KX.out.frozen 7
  clear hr hb
  by_cases h6 : 65536 < b.size
  · have hd : decide ((65536 : Int) < b.size) = true := by simp; omega
    clear h64 hs
    go_wp2
    refine read2_retq rfl rfl rfl (set8_blk KX.out) ?_
    exact ReadR.none_ rfl (below_set8 B.out (Nat.le_refl _) _ _ _ _ _ _ _ _)
  · have hd : decide ((65536 : Int) < b.size) = false := by simp; omega
    have hd2 : decide ((6 : Int) < n) = true := by simp; omega
    clear h64 hs h6
    go_wp2
    refine read2_retq rfl rfl rfl (set8_blk KX.out) ?_
    exact ReadR.none_ rfl (below_set8 B.out (Nat.le_refl _) _ _ _ _ _ _ _ _)
end Go.Proofs.Ytlkkmgimjjnhjaa
