/- The document's Read: kind 5. (Printed by wip/genRefRd.py.) · The document's Read as a whole. · A range over a function whose iterator keeps its state in a block of its own: the law of the statement. · One operation of a region that draws its order, taken by itself, inside a fence. -/
import Derived.Test.YtlkkmgimjjnhjaaMA02
import Derived.Test.YtlkkmgimjjnhjaaMA04
import Derived.Test.YtlkkmgimjjnhjaaMA24
import Derived.Test.YtlkkmgimjjnhjaaMA25
import Derived.Test.YtlkkmgimjjnhjaaMA26
import Derived.OrdersIn
set_option linter.unusedSimpArgs false
set_option linter.unusedVariables false
namespace Go.Proofs.Ytlkkmgimjjnhjaa
open Go.RowKit Rec
attribute [local go_sem ↓] Go.wp_at_zero Go.wp_at_succ

set_option maxHeartbeats 4000000 in
theorem rread_5 (b : ByteArray) (w : World) (c : UInt8) (l : List UInt8) (hl : b.data.toList = c :: l) (hk : c.toNat = 5) (hs : b.size ≤ 65536) :
    Calls Try.prog 22 #[.string b] w (ReadR w (readOut b)) := by
  obtain ⟨op, hop⟩ : ∃ o, pRcd (c :: l) = o := ⟨_, rfl⟩
  have hout := readOut_of (b := b) (o := op) (by rw [hl, hop]) hs
  have HOK := hide fun r rest (h : op = some (r, rest)) => pRcd_ok (hop.trans h) (by have := congrArg List.length hl; simp at this; simp; omega)
  have hob : op = (if false then none else some ((), l)).bind fun x => pBody 5 x.2 := by rw [← hop]; show pBody c.toNat l = pBody 5 l; rw [hk]
  obtain ⟨oa, hoa⟩ : ∃ o : Option (Unit × List UInt8), (if false then none else some ((), l)) = o := ⟨_, rfl⟩
  rw [hoa] at hob
  have HOB := hide hob
  have HOA := hide hoa
  obtain ⟨oo, hoo⟩ : ∃ o, readOut b = o := ⟨_, rfl⟩
  rw [hoo] at hout ⊢
  have HOUT := hide hout
  clear hop hout hob hoa hoo
  have i0 := index_byte' [c] 0 (by simp) 0 rfl
  simp only [List.getElem_cons_zero, hk] at i0
  have hz : (bstr [c]).size = 1 := bstr_size _
  have hd : decide ((65536 : Int) < b.size) = false := by simp; omega
  have HZ := hide (show b.size ≤ 1000000000 by omega)
  have HT := hide fun (W : World) (hR : Ql W (w.heap.size + 1) b b.data.toList false) => (show Calls Try.prog 39 #[.pointer (some ⟨w.heap.size + 1, 0, none⟩), .int .i64 1] W fun e w' => e = .returned (.string (bstr [c])) ∧ Ql w' (w.heap.size + 1) b l false ∧ But (w.heap.size + 1) W w' from by have h2 := hR; rw [hl] at h2; exact qtake_yes 1 W (w.heap.size + 1) b (c :: l) h2 (by omega) (by simp))
  have H0 := hide (show Ql ((w.alloc (.cells (rbox 0 0 ⟨#[]⟩ ⟨#[]⟩ false (.slice none 0 0) ⟨#[]⟩ (.slice none 0 0)) 28)).alloc (.cells #[.string b, .int .i64 0, .bool false] 71)) (w.heap.size + 1) b b.data.toList false from ⟨0, by omega, by simp, by
    have := Blk.new (w.alloc (.cells (rbox 0 0 ⟨#[]⟩ ⟨#[]⟩ false (.slice none 0 0) ⟨#[]⟩ (.slice none 0 0)) 28)) 71 #[.string b, .int .i64 0, .bool false]
    rw [World.size_alloc] at this
    exact this⟩)
  generalize bstr [c] = t at *
  clear hl hk hs
  go_enter Try.func22, Try.ntmps22
  go_wp2_with fail
  refine (HT.out _ H0.out).mono ?_
  rintro e w1 ⟨rfl, hr, hb⟩
  have B := hide ((((Below.refl w.heap.size w).alloc (Nat.le_refl _) (.cells (rbox 0 0 ⟨#[]⟩ ⟨#[]⟩ false (.slice none 0 0) ⟨#[]⟩ (.slice none 0 0)) 28)).alloc (by simp) (.cells #[.string b, .int .i64 0, .bool false] 71)).trans (hb.below (B := w.heap.size) (by omega) (by simp; omega)))
  have KX := hide (show Blk w1 w.heap.size 28 (rbox 0 0 ⟨#[]⟩ ⟨#[]⟩ false (.slice none 0 0) ⟨#[]⟩ (.slice none 0 0)) from hb.blk ((Blk.new w 28 (rbox 0 0 ⟨#[]⟩ ⟨#[]⟩ false (.slice none 0 0) ⟨#[]⟩ (.slice none 0 0))).alloc _) (by omega))
  have hRYo := hide (show (w.heap.size + 1) < w1.heap.size from hr.lt)
  have hXYo := hide (show w.heap.size < w1.heap.size from KX.out.lt)
  have d2 : w1.cell? ⟨w.heap.size + 1, 2, none⟩ = some (.bool false) := by obtain ⟨_, q, _⟩ := hr.bad?; exact q
  have KY := hide (Blk.new w1 28 (rbox 5 0 ⟨#[]⟩ ⟨#[]⟩ false (.slice none 0 0) ⟨#[]⟩ (.slice none 0 0)))
  have Bu := hide (But.refl (w.heap.size + 1) (w1.alloc (.cells (rbox 5 0 ⟨#[]⟩ ⟨#[]⟩ false (.slice none 0 0) ⟨#[]⟩ (.slice none 0 0)) 28)))
  have KX0 := KX
  have B0 := B
  replace KX := hide (KX.out.alloc (.cells (rbox 5 0 ⟨#[]⟩ ⟨#[]⟩ false (.slice none 0 0) ⟨#[]⟩ (.slice none 0 0)) 28))
  replace B := hide (B.out.alloc (Nat.le_of_lt hXYo.out) (.cells (rbox 5 0 ⟨#[]⟩ ⟨#[]⟩ false (.slice none 0 0) ⟨#[]⟩ (.slice none 0 0)) 28))
  have S := hide (show StQ (w1.alloc (.cells (rbox 5 0 ⟨#[]⟩ ⟨#[]⟩ false (.slice none 0 0) ⟨#[]⟩ (.slice none 0 0)) 28)) (w.heap.size + 1) b oa (fun _ => True) by
    rw [← HOA.out]
    exact StQ.of (bad := false) (hr.keep (Below.heap_alloc _ _ _ hr.lt)) () trivial)
  clear hr hb HOA
  have hXY := hXYo.out
  have hXR : w.heap.size ≠ (w.heap.size + 1) := by omega
  have hRX := hXR.symm
  have hRY := hRYo.out
  have hYR : w1.heap.size ≠ (w.heap.size + 1) := by omega
  have hRY' := hYR.symm
  have hXYn : w.heap.size ≠ w1.heap.size := by omega
  have hYX := hXYn.symm
  go_wp2_with fail
  refine (qtext_step HZ.out _ _ _ S.out).mono ?_
  rintro e w2 ⟨u, rfl, hqu, hb, hs⟩
  replace S := hide hs
  replace KX := hide (hb.blk KX.out hXR)
  replace KY := hide (hb.blk KY.out hYR)
  replace B := hide (B.out.trans (hb.below (B := w.heap.size) (by omega) (by have := KX.out.lt; have := B.out.size; omega)))
  clear hb hs
  have y0 : w2.cell? ⟨w1.heap.size, 0, none⟩ = some (.int .i8 5) := KY.out.cell 0
  have y1 : w2.cell? ⟨w1.heap.size, 1, none⟩ = some (.int .i64 0) := KY.out.cell 1
  have y2 : w2.cell? ⟨w1.heap.size, 2, none⟩ = some (.string ⟨#[]⟩) := KY.out.cell 2
  have y3 : w2.cell? ⟨w1.heap.size, 3, none⟩ = some (.string ⟨#[]⟩) := KY.out.cell 3
  have y4 : w2.cell? ⟨w1.heap.size, 4, none⟩ = some (.bool false) := KY.out.cell 4
  have y5 : w2.cell? ⟨w1.heap.size, 5, none⟩ = some (.slice none 0 0) := KY.out.cell 5
  have y6 : w2.cell? ⟨w1.heap.size, 6, none⟩ = some (.string ⟨#[]⟩) := KY.out.cell 6
  have y7 : w2.cell? ⟨w1.heap.size, 7, none⟩ = some (.slice none 0 0) := KY.out.cell 7
  have g0 := KY.out.frozen 0
  have g1 := KY.out.frozen 1
  have g2 := KY.out.frozen 2
  have g3 := KY.out.frozen 3
  have g4 := KY.out.frozen 4
  have g5 := KY.out.frozen 5
  have g6 := KY.out.frozen 6
  have g7 := KY.out.frozen 7
  go_wp2_with fail
  replace S := hide (S.out.keep (Below.heap_setCell _ ⟨w1.heap.size, 6, none⟩ (.string u) _ hRY'))
  replace B := hide ((B.out).setCell (p := ⟨w1.heap.size, 6, none⟩) (Nat.le_of_lt hXY) (.string u))
  replace KX := hide (KX.out.far (p := ⟨w1.heap.size, 6, none⟩) hXYn (.string u))
  replace KY := hide (rb6 KY.out u)
  clear y0 y1 y2 y3 y4 y5 y6 y7 g0 g1 g2 g3 g4 g5 g6 g7
  refine (qmany_step HZ.out _ _ _ S.out 32).mono ?_
  rintro e w3 ⟨N, rfl, hqN, hb, hs⟩
  replace S := hide hs
  replace KX := hide (hb.blk KX.out hXR)
  replace KY := hide (hb.blk KY.out hYR)
  replace B := hide (B.out.trans (hb.below (B := w.heap.size) (by omega) (by have := KX.out.lt; have := B.out.size; omega)))
  clear hb hs
  have hN16 : N ≤ 32 := hqN
  have HP2 := hide (show ∀ x, also (also oa pText) (pMany 32) = some x → x.1.2 = N from by
    intro x h
    have := S.out
    rw [h] at this
    exact this.2.2)
  have body := hide (body5 oa u N HP2.out)
  obtain ⟨o2, ho2⟩ : ∃ o, also (also oa pText) (pMany 32) = o := ⟨_, rfl⟩
  rw [ho2] at S body
  clear ho2 HP2 hqN
  have H0 := hide (show w3.ownsRow w1.heap.size 64 8 (.slice none 0 0) 0 (kpts []) from World.ownsRow_nil _ _ _ _)
  go_wp2
  go_loopg [10] N (fun g vi wr => ∃ (k : Nat) (L : List Kpt) (A : Option Addr) (c : Nat), g = N - k ∧ k ≤ N ∧ vi = .int .i64 k ∧ Blk wr w1.heap.size 28 (rbox 5 0 ⟨#[]⟩ ⟨#[]⟩ false (.slice none 0 0) u (.slice A k c)) ∧ wr.ownsRow w1.heap.size 64 8 (.slice A k c) k (kpts L) ∧ StQ wr (w.heap.size + 1) b (rep o2 pKpt k) (fun x => (fun a : (Unit × ByteArray) × Nat => (True ∧ a.1.2 = u) ∧ a.2 = N) x.1 ∧ x.2 = L) ∧ Below w.heap.size w wr ∧ Blk wr w.heap.size 28 (rbox 0 0 ⟨#[]⟩ ⟨#[]⟩ false (.slice none 0 0) ⟨#[]⟩ (.slice none 0 0)))
  case atStart => exact ⟨0, [], none, 0, rfl, by omega, rfl, KY.out, H0.out, S.out.rep0, B.out, KX.out⟩
  case round =>
    obtain ⟨k, L, A, c0, hg, hk, rfl, hK, hown, hS, hB, hKX⟩ := hrel
    have Hg := hide hg
    have KY := hide hK
    have Hown := hide hown
    have S := hide hS
    have B := hide hB
    have KX := hide hKX
    clear hg hK hown hS hB hKX H0
    obtain ⟨ok, hok⟩ : ∃ o, rep o2 pKpt k = o := ⟨_, rfl⟩
    have Hok' := hide hok
    cases ok with
    | none =>
      have d2 := S.out.cell2
      rw [hok] at d2
      simp only [Option.isNone_none] at d2
      have HN := hide (show op = none by rw [HOB.out, body.out, rep_none hok hk]; rfl)
      rw [HN.out] at HOUT
      clear hok
      have x0 : wr.cell? ⟨w.heap.size, 0, none⟩ = some (.int .i8 0) := KX.out.cell 0
      have x1 : wr.cell? ⟨w.heap.size, 1, none⟩ = some (.int .i64 0) := KX.out.cell 1
      have x2 : wr.cell? ⟨w.heap.size, 2, none⟩ = some (.string ⟨#[]⟩) := KX.out.cell 2
      have x3 : wr.cell? ⟨w.heap.size, 3, none⟩ = some (.string ⟨#[]⟩) := KX.out.cell 3
      have x4 : wr.cell? ⟨w.heap.size, 4, none⟩ = some (.bool false) := KX.out.cell 4
      have x5 : wr.cell? ⟨w.heap.size, 5, none⟩ = some (.slice none 0 0) := KX.out.cell 5
      have x6 : wr.cell? ⟨w.heap.size, 6, none⟩ = some (.string ⟨#[]⟩) := KX.out.cell 6
      have x7 : wr.cell? ⟨w.heap.size, 7, none⟩ = some (.slice none 0 0) := KX.out.cell 7
      have f0 := KX.out.frozen 0
      have f1 := KX.out.frozen 1
      have f2 := KX.out.frozen 2
      have f3 := KX.out.frozen 3
      have f4 := KX.out.frozen 4
      have f5 := KX.out.frozen 5
      have f6 := KX.out.frozen 6
      have f7 := KX.out.frozen 7
      by_cases hlt : k < N
      all_goals
        go_wp2
        refine read2_retq rfl rfl rfl (set8_blk KX.out) ?_
        have hn : oo = none := HOUT.out
        subst hn
        exact ReadR.none_ rfl (below_set8 B.out (Nat.le_refl _) _ _ _ _ _ _ _ _)
    | some okq =>
      by_cases hlt : k < N
      · have d2 := S.out.cell2
        rw [hok] at d2
        simp only [Option.isNone_some] at d2
        clear hok
        go_wp2_with fail
        refine (qentry_step' HZ.out _ _ _ S.out).mono ?_
        rintro e w4 ⟨x, rfl, -, hb4, hs4⟩
        replace KY := hide (hb4.blk KY.out hYR)
        replace KX := hide (hb4.blk KX.out hXR)
        replace Hown := hide (Hown.out.kept_but hb4 hYR hRY)
        replace B := hide (B.out.trans (hb4.below (B := w.heap.size) (by omega) (by exact B.out.size)))
        have S4 := hide hs4
        clear hb4 hs4 S
        have hYE := KY.out.lt
        have hYEn := Nat.ne_of_lt hYE
        have hEY := hYEn.symm
        have y7 : w4.cell? ⟨w1.heap.size, 7, none⟩ = some (.slice A k c0) := KY.out.cell 7
        have hOE := hide (show (Value.slice A k c0).ownBlock ≠ some w4.heap.size from fun e => by have := (own_isT Hown.out _ e).2.lt; omega)
        have HC := hide fun (W : World) (h : But (w.heap.size + 1) w4 W) (hh : W.heap[(w.heap.size + 1)]? = w4.heap[(w.heap.size + 1)]?) => qflag_step HZ.out W _ _ (S4.out.keep hh)
        have hRE : (w.heap.size + 1) < w4.heap.size := by omega
        have ya := hide (Below.heap_alloc w4 (.cells #[.string x.id, .string x.title, .string x.link, .string x.author, .string x.content, .bool x.has, .int .i64 x.sec] 47) (w.heap.size + 1) hRE)
        go_wp2
        go_region_law
         (first
          | (show if Region.wanted (⟨some 113, _, _, _, _, _⟩ : Oper) _ = true then _ else _; rw [if_pos (by kernel_rfl)]; go_simp; refine (HC.out _ (((But.refl (w.heap.size + 1) w4).alloc (.cells #[.string x.id, .string x.title, .string x.link, .string x.author, .string x.content, .bool x.has, .int .i64 x.sec] 47)).drew) (by exact ya.out)).mono ?_; rintro e w5 ⟨f, rfl, -, hb5, hs5⟩; have K5 := hide (hb5.blk (KY.out.alloc (.cells #[.string x.id, .string x.title, .string x.link, .string x.author, .string x.content, .bool x.has, .int .i64 x.sec] 47)).drew hYR); have y5 : w5.cell? ⟨w1.heap.size, 7, none⟩ = some (.slice A k c0) := K5.out.cell 7; have z5 := K5.out.frozen 7; have xa : ∀ o, (w5.alloc o).cell? ⟨w1.heap.size, 7, none⟩ = some (.slice A k c0) := (fun o => cell_go (below_alloc _ _) y5); have HO5 := hide ((Hown.out.alloc (.cells #[.string x.id, .string x.title, .string x.link, .string x.author, .string x.content, .bool x.has, .int .i64 x.sec] 47)).drew.kept_but hb5 hYR hRY); have B5 := hide ((B.out.alloc (by have := KX.out.lt; omega) (.cells #[.string x.id, .string x.title, .string x.link, .string x.author, .string x.content, .bool x.has, .int .i64 x.sec] 47)).drew.trans (hb5.below (B := w.heap.size) (by omega) (by exact (B.out.alloc (by have := KX.out.lt; omega) (.cells #[.string x.id, .string x.title, .string x.link, .string x.author, .string x.content, .bool x.has, .int .i64 x.sec] 47)).size))); have X5 := hide (hb5.blk (KX.out.alloc (.cells #[.string x.id, .string x.title, .string x.link, .string x.author, .string x.content, .bool x.has, .int .i64 x.sec] 47)).drew hXR); have E5 := hide (show Blk w5 w4.heap.size 47 #[.string x.id, .string x.title, .string x.link, .string x.author, .string x.content, .bool x.has, .int .i64 x.sec] from hb5.blk (Blk.new w4 47 #[.string x.id, .string x.title, .string x.link, .string x.author, .string x.content, .bool x.has, .int .i64 x.sec]).drew (by omega)); have e0 : w5.cell? ⟨w4.heap.size, 0, none⟩ = some (.string x.id) := E5.out.cell 0; have e1 : w5.cell? ⟨w4.heap.size, 1, none⟩ = some (.string x.title) := E5.out.cell 1; have e2 : w5.cell? ⟨w4.heap.size, 2, none⟩ = some (.string x.link) := E5.out.cell 2; have e3 : w5.cell? ⟨w4.heap.size, 3, none⟩ = some (.string x.author) := E5.out.cell 3; have e4 : w5.cell? ⟨w4.heap.size, 4, none⟩ = some (.string x.content) := E5.out.cell 4; have e5 : w5.cell? ⟨w4.heap.size, 5, none⟩ = some (.bool x.has) := E5.out.cell 5; have e6 : w5.cell? ⟨w4.heap.size, 6, none⟩ = some (.int .i64 x.sec) := E5.out.cell 6; have HNE := hide (own_blk_ne HO5.out K5.out (by decide)).symm; have HNX := hide (own_blk_ne HO5.out X5.out (by decide)).symm; have Hs5 := hide hs5; clear hb5 hs5)
          | (show if Region.wanted (⟨some 116, _, _, _, _, _⟩ : Oper) _ = true then _ else _; refine step_append_elem _ (by rfl) _ _ _ (by rfl) w1.heap.size 64 _ 8 104 Try.underlying24 info_kpt (by rfl) (by omega) (.slice A k c0) k (kpts L) (by rfl) (by exact ((HO5.out).alloc _)) [.string x.id, .string x.title, .string x.link, .string x.author, .string x.content, .bool x.has, .int .i64 x.sec, .bool f] rfl (kpt_one ⟨x, f⟩) w5.heap.size (by exact (Blk.new w5 64 _)) (by rfl) (by unfold maxLen; omega) (by omega) (by have := K5.out.lt; simp; omega) ?_; intro g cap w6 hown6 hgrow6 hlt6; have K6 := hide (show Blk w6 w1.heap.size 28 (rbox 5 0 ⟨#[]⟩ ⟨#[]⟩ false (.slice none 0 0) u (.slice A k c0)) from Blk.grown (K5.out.alloc (.cells #[.string x.id, .string x.title, .string x.link, .string x.author, .string x.content, .bool x.has, .int .i64 x.sec, .bool f] 64)) hgrow6 HNE.out); have y6' : w6.cell? ⟨w1.heap.size, 7, none⟩ = some (.slice A k c0) := K6.out.cell 7; have z6' := K6.out.frozen 7; have Hgrow6 := hide hgrow6; have Hown6 := hide hown6; clear hown6 hgrow6 hlt6))
        all_goals go_wp2
        all_goals
          have S6 := hide (show StQ w6 (w.heap.size + 1) b (rep o2 pKpt (k + 1)) (fun y => (fun a : (Unit × ByteArray) × Nat => (True ∧ a.1.2 = u) ∧ a.2 = N) y.1 ∧ y.2 = L ++ [⟨x, f⟩]) from (StQ.repK (P := fun a : (Unit × ByteArray) × Nat => (True ∧ a.1.2 = u) ∧ a.2 = N) Hs5.out).keep ((Hgrow6.out.block (w.heap.size + 1) (by have := Hs5.out.lt; simp; omega) (fun e => by have := (own_isT HO5.out (w.heap.size + 1) e.symm).1; omega)).trans (Below.heap_alloc w5 _ (w.heap.size + 1) Hs5.out.lt)))
          have B6 := hide ((B5.out.alloc (by have := X5.out.lt; omega) _).grown Hgrow6.out (by have := X5.out.lt; simp; omega) (fun j e => by have := (own_isT HO5.out j e).1; omega))
          have X6 := hide (Blk.grown (X5.out.alloc (.cells #[.string x.id, .string x.title, .string x.link, .string x.author, .string x.content, .bool x.has, .int .i64 x.sec, .bool f] 64)) Hgrow6.out HNX.out)
          have K7 := hide (rb7 K6.out (.slice (some ⟨g, 0, none⟩) (k + 1) cap))
          have O7 := hide (ownsRow_setCell_other Hown6.out (a := ⟨w1.heap.size, 7, none⟩) (own_blk_ne Hown6.out K6.out (by decide)) (.slice (some ⟨g, 0, none⟩) (k + 1) cap))
          have S7 := hide (S6.out.keep (Below.heap_setCell w6 ⟨w1.heap.size, 7, none⟩ (.slice (some ⟨g, 0, none⟩) (k + 1) cap) (w.heap.size + 1) hRY'))
          have B7 := hide ((B6.out).setCell (p := ⟨w1.heap.size, 7, none⟩) (Nat.le_of_lt hXY) (.slice (some ⟨g, 0, none⟩) (k + 1) cap))
          have X7 := hide (X6.out.far (p := ⟨w1.heap.size, 7, none⟩) hXYn (.slice (some ⟨g, 0, none⟩) (k + 1) cap))
          go_roundg (N - (k + 1))
          case measure => have := Hg.out; omega
          case rel => exact ⟨k + 1, L ++ [⟨x, f⟩], some ⟨g, 0, none⟩, cap, rfl, by omega, by go_num, K7.out, by rw [kpts_snoc]; exact O7.out, S7.out, B7.out, X7.out⟩
      · have hkN : k = N := by omega
        have hLk : k = L.length := by have := Hown.out.1; rw [kpts_length] at this; omega
        clear hok
        subst hLk
        have HkN := hide hkN
        have Ra := hide (Reads.of_own Hown.out)
        have Ta := hide (typed_own Hown.out)
        have Va := hide ((above_own Hown.out).more (B' := w.heap.size + 1) (by omega))
        clear hkN Hok'
        have x0 : wr.cell? ⟨w.heap.size, 0, none⟩ = some (.int .i8 0) := KX.out.cell 0
        have x1 : wr.cell? ⟨w.heap.size, 1, none⟩ = some (.int .i64 0) := KX.out.cell 1
        have x2 : wr.cell? ⟨w.heap.size, 2, none⟩ = some (.string ⟨#[]⟩) := KX.out.cell 2
        have x3 : wr.cell? ⟨w.heap.size, 3, none⟩ = some (.string ⟨#[]⟩) := KX.out.cell 3
        have x4 : wr.cell? ⟨w.heap.size, 4, none⟩ = some (.bool false) := KX.out.cell 4
        have x5 : wr.cell? ⟨w.heap.size, 5, none⟩ = some (.slice none 0 0) := KX.out.cell 5
        have x6 : wr.cell? ⟨w.heap.size, 6, none⟩ = some (.string ⟨#[]⟩) := KX.out.cell 6
        have x7 : wr.cell? ⟨w.heap.size, 7, none⟩ = some (.slice none 0 0) := KX.out.cell 7
        have f0 := KX.out.frozen 0
        have f1 := KX.out.frozen 1
        have f2 := KX.out.frozen 2
        have f3 := KX.out.frozen 3
        have f4 := KX.out.frozen 4
        have f5 := KX.out.frozen 5
        have f6 := KX.out.frozen 6
        have f7 := KX.out.frozen 7
        have y0 : wr.cell? ⟨w1.heap.size, 0, none⟩ = some (.int .i8 5) := KY.out.cell 0
        have y1 : wr.cell? ⟨w1.heap.size, 1, none⟩ = some (.int .i64 0) := KY.out.cell 1
        have y2 : wr.cell? ⟨w1.heap.size, 2, none⟩ = some (.string ⟨#[]⟩) := KY.out.cell 2
        have y3 : wr.cell? ⟨w1.heap.size, 3, none⟩ = some (.string ⟨#[]⟩) := KY.out.cell 3
        have y4 : wr.cell? ⟨w1.heap.size, 4, none⟩ = some (.bool false) := KY.out.cell 4
        have y5 : wr.cell? ⟨w1.heap.size, 5, none⟩ = some (.slice none 0 0) := KY.out.cell 5
        have y6 : wr.cell? ⟨w1.heap.size, 6, none⟩ = some (.string u) := KY.out.cell 6
        have y7 : wr.cell? ⟨w1.heap.size, 7, none⟩ = some (.slice A L.length c0) := KY.out.cell 7
        have g0 := KY.out.frozen 0
        have g1 := KY.out.frozen 1
        have g2 := KY.out.frozen 2
        have g3 := KY.out.frozen 3
        have g4 := KY.out.frozen 4
        have g5 := KY.out.frozen 5
        have g6 := KY.out.frozen 6
        have g7 := KY.out.frozen 7
        obtain ⟨oz, hoz⟩ : ∃ o, op = o := ⟨_, rfl⟩
        have S9 := hide (show StQ wr (w.heap.size + 1) b op (fun x => x = rec5 u L) from by rw [HOB.out, body.out, ← HkN.out]; exact StQ.mapf (Q := fun x => x = rec5 u L) (fun x => rec5 x.1.1.2 x.2) S.out (fun a hP => by show rec5 a.1.1.2 a.2 = rec5 u L; rw [hP.1.1.2, hP.2]))
        rw [hoz] at S9 HOUT HOK
        clear hoz
        clear S
        cases oz with
        | none =>
          have d2 := S9.out.cell2
          simp only [Option.isNone_none] at d2
          go_wp2
          refine read2_retq rfl rfl rfl (set8_blk KX.out) ?_
          have hn : oo = none := HOUT.out
          subst hn
          exact ReadR.none_ rfl (below_set8 B.out (Nat.le_refl _) _ _ _ _ _ _ _ _)
        | some q =>
          obtain ⟨rr, rest⟩ := q
          obtain ⟨⟨at9, hp9, hrest, hq9⟩, hrr⟩ := S9.out
          have Hrr := hide (show rr = rec5 u L from hrr)
          have d1 : wr.cell? ⟨w.heap.size + 1, 1, none⟩ = some (.int .i64 (at9 : Int)) := hq9.cell 1
          have d2 : wr.cell? ⟨w.heap.size + 1, 2, none⟩ = some (.bool false) := hq9.cell 2
          have Hrest := hide (show rest = [] ↔ at9 = b.size by rw [hrest]; exact rest_nil hp9)
          have Hok := hide (show RcdOk (rec5 u L) by have := HOK.out rr rest rfl; rw [Hrr.out] at this; exact this)
          clear hp9 hrest hq9 hrr HOK S9
          by_cases he : at9 = b.size
          · subst he
            obtain ⟨m, hm⟩ : ∃ m, mayAll (rec5 u L) = m := ⟨_, rfl⟩
            have HM := hide fun (W : World) (hW : Below wr.heap.size wr W) => rmayP_any (rec5 u L) (none) (A) (0) (c0) W ⟨Reads.none_, Ra.out.later hW, Hok.out.na, Hok.out.nk, Hok.out.sa, Hok.out.sk, Hok.out.su, Hok.out.si⟩
            rw [hm] at HM
            have Hm := hide hm
            unfold rcdCells rec5 at HM
            clear hm
            go_wp2_with fail
            refine (HM.out _ (Below.refl _ _)).mono ?_
            rintro e wz ⟨rfl, hbz⟩
            have KX2 := hide (KX.out.below hbz KX.out.lt)
            have KY2 := hide (KY.out.below hbz KY.out.lt)
            have B2 := hide (B.out.trans (hbz.mono B.out.size))
            have Hbz := hide hbz
            clear hbz x0 x1 x2 x3 x4 x5 x6 x7 f0 f1 f2 f3 f4 f5 f6 f7
            clear y0 y1 y2 y3 y4 y5 y6 y7 g0 g1 g2 g3 g4 g5 g6 g7
            have x0 : wz.cell? ⟨w.heap.size, 0, none⟩ = some (.int .i8 0) := KX2.out.cell 0
            have x1 : wz.cell? ⟨w.heap.size, 1, none⟩ = some (.int .i64 0) := KX2.out.cell 1
            have x2 : wz.cell? ⟨w.heap.size, 2, none⟩ = some (.string ⟨#[]⟩) := KX2.out.cell 2
            have x3 : wz.cell? ⟨w.heap.size, 3, none⟩ = some (.string ⟨#[]⟩) := KX2.out.cell 3
            have x4 : wz.cell? ⟨w.heap.size, 4, none⟩ = some (.bool false) := KX2.out.cell 4
            have x5 : wz.cell? ⟨w.heap.size, 5, none⟩ = some (.slice none 0 0) := KX2.out.cell 5
            have x6 : wz.cell? ⟨w.heap.size, 6, none⟩ = some (.string ⟨#[]⟩) := KX2.out.cell 6
            have x7 : wz.cell? ⟨w.heap.size, 7, none⟩ = some (.slice none 0 0) := KX2.out.cell 7
            have f0 := KX2.out.frozen 0
            have f1 := KX2.out.frozen 1
            have f2 := KX2.out.frozen 2
            have f3 := KX2.out.frozen 3
            have f4 := KX2.out.frozen 4
            have f5 := KX2.out.frozen 5
            have f6 := KX2.out.frozen 6
            have f7 := KX2.out.frozen 7
            have y0 : wz.cell? ⟨w1.heap.size, 0, none⟩ = some (.int .i8 5) := KY2.out.cell 0
            have y1 : wz.cell? ⟨w1.heap.size, 1, none⟩ = some (.int .i64 0) := KY2.out.cell 1
            have y2 : wz.cell? ⟨w1.heap.size, 2, none⟩ = some (.string ⟨#[]⟩) := KY2.out.cell 2
            have y3 : wz.cell? ⟨w1.heap.size, 3, none⟩ = some (.string ⟨#[]⟩) := KY2.out.cell 3
            have y4 : wz.cell? ⟨w1.heap.size, 4, none⟩ = some (.bool false) := KY2.out.cell 4
            have y5 : wz.cell? ⟨w1.heap.size, 5, none⟩ = some (.slice none 0 0) := KY2.out.cell 5
            have y6 : wz.cell? ⟨w1.heap.size, 6, none⟩ = some (.string u) := KY2.out.cell 6
            have y7 : wz.cell? ⟨w1.heap.size, 7, none⟩ = some (.slice A L.length c0) := KY2.out.cell 7
            cases m
            · go_wp2
              refine read2_retq rfl rfl rfl (set8_blk KX2.out) ?_
              have hn : oo = none := by rw [HOUT.out, Hrr.out]; exact if_neg (fun h => by rw [Hm.out] at h; cases h.2)
              subst hn
              exact ReadR.none_ rfl (below_set8 B2.out (Nat.le_refl _) _ _ _ _ _ _ _ _)
            · go_wp2
              refine read2_retq rfl rfl rfl (set8_blk KX2.out) ?_
              have hn : oo = some (rec5 u L) := by rw [HOUT.out, Hrr.out]; exact if_pos ⟨by first | exact Hrest.out.2 rfl | exact Hrest.out.2 trivial, Hm.out⟩
              subst hn
              exact ⟨none, 0, A, c0, rfl, below_set8 B2.out (Nat.le_refl _) _ _ _ _ _ _ _ _, Reads.none_, (((Ra.out.below Hbz.out).more Hbz.out.size).set8 Va.out _ _ _ _ _ _ _ _).more (Nat.le_of_eq (set8_size wz w.heap.size _ _ _ _ _ _ _ _).symm), above_none _, Va.out.more (by omega), typed_none _ _, (Ta.out.below Hbz.out).set8 w.heap.size _ _ _ _ _ _ _ _⟩
          · have hn : oo = none := by rw [HOUT.out]; exact if_neg (fun h => he (Hrest.out.1 h.1))
            subst hn
            have he2 : ¬ b.size = at9 := fun h => he h.symm
            go_wp2
            refine read2_retq rfl rfl rfl (set8_blk KX.out) ?_
            exact ReadR.none_ rfl (below_set8 B.out (Nat.le_refl _) _ _ _ _ _ _ _ _)
end Go.Proofs.Ytlkkmgimjjnhjaa
namespace Go.Proofs.Ytlkkmgimjjnhjaa
open Go.RowKit Rec

theorem ref_read (b : ByteArray) (w : World) (hs : b.size ≤ 1000000000) : Calls Try.prog 22 #[.string b] w (ReadR w (readOut b)) := by
  cases hl : b.data.toList with
  | nil => exact rread_empty b w hl hs
  | cons c l =>
    by_cases h : 65536 < b.size ∨ 6 < c.toNat
    · exact rread_great b w c l hl h hs
    · have h1 : b.size ≤ 65536 := by omega
      have : c.toNat = 0 ∨ c.toNat = 1 ∨ c.toNat = 2 ∨ c.toNat = 3 ∨ c.toNat = 4 ∨ c.toNat = 5 ∨ c.toNat = 6 := by omega
      rcases this with h | h | h | h | h | h | h
      · exact rread_0 b w c l hl h h1
      · exact rread_1 b w c l hl h h1
      · exact rread_2 b w c l hl h h1
      · exact rread_3 b w c l hl h h1
      · exact rread_4 b w c l hl h h1
      · exact rread_5 b w c l hl h h1
      · exact rread_6 b w c l hl h h1
end Go.Proofs.Ytlkkmgimjjnhjaa
namespace Go.Proofs.Ytlkkmgimjjnhjaa
open Go.RowKit

/-- A round that is left at its body's end: what it has kept, what holds then. -/
def roundEnd {α : Type} (B : Nat) (Kp : World → World → Prop) (I : List α → World → Prop) (xs : List α) (W : World) : Exit → Act → World → Prop
  | .normal, _, W' => KeepsFrom B W W' ∧ Kp W W' ∧ I xs W'
  | _, _, _ => False

/-- What an iterator promises: it writes block R alone of what was there when it is called; each element bears 'Fact'; all of them come. -/
def Gives {α : Type} (F : Fence) (n : Nat) (P : Program) (g : Nat) (lb : Array Value) (encs : α → Array Value) (Kp : World → World → Prop) (Fact : α → World → Prop) (S : List α → Prop) (N : Nat) (W : World) : Prop :=
  ∀ (l : Nat) (J : List α → World → Prop), (∀ s A B, J s A → But W.heap.size A B → J s B) → J [] W →
    (∀ pre x W1, J pre W1 → Fact x W1 → pre.length < N → YieldAt F (n - 1) P l (encs x) W1 fun e W' => e = .returned (.bool true) ∧ J (pre ++ [x]) W' ∧ Kp W1 W') →
    CallsIn F n P g (#[.func (.yield l) #[] #[]] ++ lb) W fun e W' => (∃ v, e = .returned v) ∧ ∃ xs, S xs ∧ J xs W'

theorem range_gives {α : Type} {F : Fence} {n : Nat} {P : Program} {g : Operand} {ps : Array Tmp} {assign body : Code} {Q : Exit → Act → World → Prop} {a : Act} {w : World}
    (hro : F.round = none) (h1 : 1 ≤ n) {gf : Nat} {lb : Array Value} (hg : a.eval g = .func (.func gf) #[] lb) (hFg : F.fn gf) (eg : ∀ args w, (callFunc gf args).run P w = .ok (.enter gf args) w)
    {encs : α → Array Value} {Kp : World → World → Prop} {Fact : α → World → Prop} {S : List α → Prop} {N : Nat} (hps : ∀ x, (encs x).size = ps.size)
    (hseq : ∀ o o', Gives F (n - 1) P gf lb encs Kp Fact S N ((w.alloc o).alloc o'))
    (hKt : ∀ {A B C : World}, Kp A B → Kp B C → Kp A C) (hKb : ∀ (W : World) (o : Obj), w.heap.size + 1 < W.heap.size → Kp W (W.putObj (w.heap.size + 1) o))
    (I : List α → World → Prop) (hIp : ∀ s W o, I s W → w.heap.size + 1 < W.heap.size → I s (W.putObj (w.heap.size + 1) o)) (hIb : ∀ s A B, I s A → But (w.heap.size + 2) A B → I s B)
    (hF : ∀ x W o, Fact x W → Fact x (W.putObj (w.heap.size + 1) o)) (hFa : ∀ x W o, Fact x W → Fact x (W.alloc o)) (hKa : ∀ x W o, Fact x W → Kp W (W.alloc o)) (h0 : ∀ o o', I [] ((w.alloc o).alloc o')) (obj : α → Obj) (a₁ : α → Nat → Act)
    (hassign : ∀ (l : Nat) (x : α) (W : World) (K : Act → World → Prop), K (a₁ x W.heap.size) (W.alloc (obj x)) →
      assign.wpIn (F.inRound l) (n - 1 - 1) P (Exit.then K (fun _ _ _ => False)) { tmps := (ps.zip (encs x)).foldl (fun t (p, v) => t.setIfInBounds p v) a.tmps, defers := [] } W)
    (hbody : ∀ (l : Nat) (pre : List α) (x : α) (H : Nat) (W : World), I pre W → Fact x W → pre.length < N → w.heap.size + 2 ≤ H → W.heap[H]? = some (obj x) → W.heap.size = H + 1 → body.wpIn (F.inRound l) (n - 1 - 1) P (roundEnd w.heap.size Kp I (pre ++ [x]) W) (a₁ x H) W)
    (hdone : ∀ (D : Nat) (xs : List α) (W : World), D = w.heap.size → S xs → I xs W → W.heap[D]? = some (.deferred (some [])) → Q .normal { a with defers := { target := .collected D, args := #[] } :: a.defers } W) :
    (Code.rangeFunc g ps assign body).wpIn F n P Q a w := by
  refine wpIn_rangeFunc fun fn hfn => ?_
  rw [hro]
  let D := w.heap.size
  let r0 : Loop := { state := .ready, pending := none, fn, tmps := a.tmps, params := ps, assign, body, defers := D }
  let r1 : Loop := { state := .busy, pending := none, fn, tmps := a.tmps, params := ps, assign, body, defers := D }
  let W0 := (w.alloc (.deferred (some []))).alloc (.loop r0)
  have hsz : W0.heap.size = D + 2 := by show ((w.alloc _).alloc _).heap.size = _; simp [D]
  have hl0 : W0.heap[D + 1]? = some (.loop r0) := by
    have := World.alloc_heap_new (w.alloc (.deferred (some []))) (.loop r0)
    rwa [World.size_alloc] at this
  have hd0 : W0.heap[D]? = some (.deferred (some [])) := (Below.heap_alloc _ _ _ (by simp [D])).trans (World.alloc_heap_new w _)
  refine ⟨D + 1, [{ target := .collected D, args := #[] }], W0, { target := .fn (.func gf) lb, args := #[.func (.yield (D + 1)) #[] #[]] }, W0, gf, #[.func (.yield (D + 1)) #[] #[]] ++ lb, W0,
    run_enterLoop_outer _ _ _ _ _, by simp only [resolve, hg]; simp [go_sem], fun f' hf' => by simp [Target.leads] at hf'; subst hf'; exact hFg, by simp [invoke, go_sem, eg], fun _ => h1, ?_⟩
  have keepD : ∀ {A B : World} {k : Nat} {o : Obj}, But W0.heap.size A B → A.heap[k]? = some o → k < D + 2 → B.heap[k]? = some o := fun hb hk hlt =>
    (hb.block _ (Array.getElem?_eq_some_iff.1 hk).1 (by omega)).trans hk
  refine (hseq _ _ (D + 1) (fun pre W => I pre W ∧ W.heap[D + 1]? = some (.loop r0) ∧ W.heap[D]? = some (.deferred (some [])))
    (fun s A B h hb => ⟨hIb s A B h.1 (hsz ▸ hb), keepD hb h.2.1 (by omega), keepD hb h.2.2 (by omega)⟩) ⟨h0 _ _, hl0, hd0⟩ ?_).mono ?_
  · rintro pre x W ⟨hi, hl, hd⟩ hf hlen
    have hlt : D + 1 < W.heap.size := (Array.getElem?_eq_some_iff.1 hl).1
    have hy := run_yield (P := P) (args := encs x) hl (hps x)
    have hla : (W.alloc (obj x)).heap[D + 1]? = some (.loop r0) := (Below.heap_alloc _ _ _ hlt).trans hl
    have hda : (W.alloc (obj x)).heap[D]? = some (.deferred (some [])) := (Below.heap_alloc _ _ _ (by omega)).trans hd
    have hlta : D + 1 < (W.alloc (obj x)).heap.size := by simp; omega
    refine ⟨fn, _, assign, body, hy, roundIn_of_wpIn hfn (hassign _ x W _ ⟨_, run_beginRound hla rfl, ?_⟩)⟩
    have hl2 : ((W.alloc (obj x)).putObj (D + 1) (.loop r1)).heap[D + 1]? = some (.loop r1) := World.putObj_heap_same hlta
    have hd2 : ((W.alloc (obj x)).putObj (D + 1) (.loop r1)).heap[D]? = some (.deferred (some [])) := (World.putObj_heap_other (by omega)).trans hda
    have hx2 : ((W.alloc (obj x)).putObj (D + 1) (.loop r1)).heap[W.heap.size]? = some (obj x) := (World.putObj_heap_other (by omega)).trans (World.alloc_heap_new W _)
    have hia : I pre (W.alloc (obj x)) := hIb _ _ _ hi ((But.refl _ W).alloc _)
    refine wpIn_mono (hbody _ pre x W.heap.size _ (hIp _ _ _ hia hlta) (hF _ _ _ (hFa _ _ _ hf)) hlen (by omega) hx2 (by simp)) ?_
    rintro e a3 W3 hp
    cases e with
    | normal =>
      obtain ⟨hk3, hkp, hi3⟩ := hp
      have hl3 := hk3.same _ _ (by omega) hl2 rfl
      have hd3 := hk3.same _ _ (Nat.le_refl _) hd2 rfl
      have hlt3 := (Array.getElem?_eq_some_iff.1 hl3).1
      have he := run_endRound (P := P) none hl3
      exact ⟨_, _, he, rfl, ⟨hIp _ _ _ hi3 hlt3, World.putObj_heap_same hlt3, (World.putObj_heap_other (by omega)).trans hd3⟩, hKt (hKt (hKt (hKa x W _ hf) (hKb _ _ hlta)) hkp) (hKb _ _ hlt3)⟩
    | ret => exact hp.elim
    | exit id => exact hp.elim
    | goto t => exact hp.elim
    | panic ch => exact hp.elim
    | outgrown => exact hp.elim
  · rintro e W2 ⟨⟨v, rfl⟩, xs, hS, hi, hl, hd⟩
    have hlt := (Array.getElem?_eq_some_iff.1 hl).1
    exact ⟨none, _, run_endLoop (P := P) hl (by simp [r0]), hdone D xs _ rfl hS (hIp _ _ _ hi hlt) ((World.putObj_heap_other (by omega)).trans hd)⟩
end Go.Proofs.Ytlkkmgimjjnhjaa
namespace Go.Proofs.Ytlkkmgimjjnhjaa
open Go

section
variable {F : Fence} {n : Nat} {P : Program} {l : List Oper} {Q : Exit → Act → World → Prop} {md : Region.Mode}
theorem in_take {i d : Nat} {oi : Oper} {v : Value} {fuel : Nat} {listed : Array Bool} {a : Act} {w : World} (hro : F.round = none) (hi : l[i]? = some oi) (hd : oi.dst = some d)
    (hs : Region.noSelect l.toArray = true) (hf : Region.free md l.toArray listed i = true) (hr : (Region.ready md l.toArray listed).contains i = true)
    (hQ : ∀ c a w, Q (.panic c) (a.put oi.dst v) w → Q (.panic c) a w) (hw : Region.wanted oi (yielded l.toArray a.tmps) = true) (hy : ∀ w, (execOp a.eval oi).run P w = .ok (.value v) w)
    (hab : ∀ w, oi.about P w a.eval = none)
    (h : wpAnyIn F n P md l.toArray Q fuel (listed.setIfInBounds i true) { tmps := a.tmps.setIfInBounds d v, defers := a.defers } w) : wpAnyIn F n P md l.toArray Q (fuel + 1) listed a w :=
  wpAnyIn_take hro (by simpa using hi) hs hf hr hQ ⟨Or.inl ⟨hw, hy⟩, hab⟩ (by rw [put_some hd]; exact h)
theorem in_cons {i : Nat} {oi : Oper} {fuel : Nat} {listed : Array Bool} {a : Act} {w : World} {rs : List Nat} (hi : l[i]? = some oi) (hw : Region.wanted oi (yielded l.toArray a.tmps) = true)
    (h : ∀ K' : Act → World → Prop, (∀ a w, wpAnyIn F n P md l.toArray Q fuel (listed.setIfInBounds i true) a w → K' a w) → Oper.wpIn F n P oi a w K' Q)
    (hs : AllReadyIn F n P md l.toArray Q fuel listed a w rs) : AllReadyIn F n P md l.toArray Q fuel listed a w (i :: rs) :=
  AllReadyIn.cons (o := oi) (by simpa using hi) (fun K hK => by rw [if_pos hw]; exact h K hK) hs
theorem in_one {i : Nat} {oi : Oper} {fuel : Nat} {listed : Array Bool} {a : Act} {w : World} (hi : l[i]? = some oi) (hr : Region.ready md l.toArray listed = [i]) (hw : Region.wanted oi (yielded l.toArray a.tmps) = true)
    (h : ∀ K' : Act → World → Prop, (∀ a w, wpAnyIn F n P md l.toArray Q fuel (listed.setIfInBounds i true) a w → K' a w) → Oper.wpIn F n P oi a w K' Q) : wpAnyIn F n P md l.toArray Q (fuel + 1) listed a w :=
  wpAnyIn_ready hr (by simp) (in_cons hi hw h AllReadyIn.nil)
end
end Go.Proofs.Ytlkkmgimjjnhjaa
