/- The document's strict: start, its early answers. (Printed by wip/genSuI.py.) -/
import Derived.Test.YtbbpkcddifmieaaGreatDoorSw30
import Derived.Test.YtbbpkcddifmieaaGreatDoorSw35
set_option linter.unusedSimpArgs false
set_option linter.unusedVariables false
namespace Go.Proofs.YtbbpkcddifmieaaGreatDoor
section
open Go.RowKit Tk Sx

def DStep (B P : Nat) (w : World) (r : Except (Nat × Nat) St) (e : Ending) (w' : World) : Prop := e = .returned (.tuple #[]) ∧ DMov B P w w' ∧ match r with
 | .ok st => ∃ d v, PD B P w' d none v ∧ d.st = st ∧ d.Nt
 | .error x => ∃ d v, PD B P w' d (some x) v
theorem open_is (d : Dst) : d.st.open_ = d.open_ := rfl
theorem rooted_is (d : Dst) : d.st.rooted = d.rooted := rfl
theorem scope_is (d : Dst) : d.st.scope = d.scope := rfl

set_option maxRecDepth 100000 in
set_option maxHeartbeats 64000000 in
theorem dstart_early (B P : Nat) (w : World) (d : Dst) (v : Dv) (t : Tok) (A : Option Addr) (c : Nat) (h : PD B P w d none v) (hB : B ≤ w.heap.size) (hr : Reads w B 3 A t.attrs.length (gas (t.attrs.map At.g))) (hs : TokS 100000 t) (hk : OkS d.st 90000000 100000000000000000 1000000) (x : Nat × Nat) (he : Sx.early d.st t = some x) :
  Calls Tryz.prog 58 #[.pointer (some ⟨P, 0, none⟩), .agg (tokC t A c)] w (DStep B P w (.error x)) := by
 have KT := hide (Blk.new w 64 (tokC t A c));have BT := hide (below_alloc w (.cells (tokC t A c) 64));obtain ⟨W0, hW0⟩ : ∃ W0, w.alloc (.cells (tokC t A c) 64) = W0 := ⟨_, rfl⟩;rw [hW0] at KT BT;have HNm := hide (dnames_any W0 t A c ((hr.below (BT.out.mono hB)).more (Nat.le_trans hB BT.out.size)) hs);have H := hide h;have HB := hide hB;have Hr := hide hr;have Hs := hide hs;have Hk := hide hk;obtain ⟨T, hT⟩ : ∃ T, w.heap.size = T := ⟨_, rfl⟩;have HT := hide hT;have HTP := hide (show P < T by have := h.blk.lt; omega);rw [hT] at KT;have k0 := KT.out.cell 0;have k1 := KT.out.cell 1;have k2 := KT.out.cell 2;have k3 := KT.out.cell 3;have k4 := KT.out.cell 4;have k5 := KT.out.cell 5;have k6 := KT.out.cell 6;have KT0 := KT;have BT0 := BT;have H0 := hide (H.out.go BT0.out);have HB0 := hide (Nat.le_trans HB.out BT0.out.size);have M0 := hide (DMov.of_below (B := B) (P := P) BT0.out);have HWr := hide (fun (W : World) (k : Nat) (h : PD B P W d none v) => dwrong_any B P W d v k h);unfold Sx.early at he;rw [open_is, rooted_is] at he
 cases hn : names t with
 | some a =>
  rw [hn] at he HNm;simp only [Option.some.injEq] at he;subst he;have h0 : decide ((a : Int) < 0) = false := by rw [decide_eq_false_iff_not]; omega
  have h1 : decide ((0 : Int) ≤ (a : Int)) = true := by rw [decide_eq_true_iff]; omega
  clear h hB hr hs hk hn;unfold tokC at HNm k0 k1 k2 k3 k4 k5 k6 hW0 ⊢;dsimp only [optN] at HNm
  go_enter Tryz.func58, Tryz.ntmps58
  go_wp2_with fail
  refine HNm.out.mono ?_;rintro e w1 ⟨rfl, b1⟩;have H1 := hide (H0.out.go b1);have M1 := hide (M0.out.go b1);have HW1 := hide (HWr.out w1 a H1.out);clear b1 k0 k1 k2 k3 k4 k5 k6 hW0
  go_wp2_with fail
  refine HW1.out.mono ?_;rintro e w2 ⟨rfl, h2, m2⟩;have H2 := hide h2;have M2 := hide (M1.out.trans (DMov.of_but m2));clear h2 m2;go_wp2;go_end0;exact ⟨rfl, M2.out, d, v, H2.out⟩
 | none =>
  rw [hn] at he HNm;dsimp only at he;have h0 : decide ((-1 : Int) < 0) = true := by decide
  have h1 : decide ((0 : Int) ≤ (-1 : Int)) = false := by decide
  obtain ⟨no, hno⟩ : ∃ no, d.open_.length = no := ⟨_, rfl⟩;have Hno := hide hno;obtain ⟨ro, hro⟩ : ∃ ro, d.rooted = ro := ⟨_, rfl⟩;have Hro := hide hro;have hem : d.open_.isEmpty = decide (no = 0) := by rw [← hno]; cases d.open_ <;> simp
  rw [hem, hno, hro] at he;have hno0 : ((no : Int) == 0) = decide (no = 0) := by rw [Bool.eq_iff_iff, beq_iff_eq, decide_eq_true_iff]; omega
  have HKk := hide (show ∀ W, Below W0.heap.size W0 W → W.cell? ⟨T, 2, none⟩ = some (.slice A t.attrs.length c) ∧ W.cell? ⟨T, 5, none⟩ = some (.int .i64 (t.at_ : Int)) ∧ W.cell? ⟨P, 0, none⟩ = some (.slice v.Ao no v.co) ∧ W.cell? ⟨P, 4, none⟩ = some (.bool ro) from fun W hW => by
   have hh := (H0.out.go hW).cell;rw [hno, hro] at hh;exact ⟨(KT0.out.go hW).cell 2, (KT0.out.go hW).cell 5, hh.1, hh.2.2.2.2.1⟩)
  obtain ⟨na, hna⟩ : ∃ na, t.attrs.length = na := ⟨_, rfl⟩;have Hna := hide hna;rw [hna] at he HKk;clear h hB hr hs hk hn hno hro hem;unfold tokC at HNm k0 k1 k2 k3 k4 k5 k6 hW0 ⊢;dsimp only [optN] at HNm;rw [hna] at HNm k2 hW0 ⊢;clear hna
  by_cases c1 : (ro && decide (no = 0)) = true
  ·rw [if_pos c1] at he;simp only [Option.some.injEq] at he;subst he;rw [Bool.and_eq_true] at c1;obtain ⟨c2, c3⟩ := c1;subst c2;rw [c3] at hno0;have h2 : decide ((0 : Int) ≤ (t.at_ : Int)) = true := by rw [decide_eq_true_iff]; omega
   clear c3
   go_enter Tryz.func58, Tryz.ntmps58
   go_wp2_with fail
   refine HNm.out.mono ?_;rintro e w1 ⟨rfl, b1⟩;have H1 := hide (H0.out.go b1);have M1 := hide (M0.out.go b1);obtain ⟨y2, y5, p0, p4⟩ := HKk.out w1 b1;have HW1 := hide (HWr.out w1 t.at_ H1.out);clear b1 k0 k1 k2 k3 k4 k5 k6 hW0
   go_wp2_with fail
   refine HW1.out.mono ?_;rintro e w2 ⟨rfl, h2, m2⟩;have H2 := hide h2;have M2 := hide (M1.out.trans (DMov.of_but m2));clear h2 m2;go_wp2;go_end0;exact ⟨rfl, M2.out, d, v, H2.out⟩
  rw [if_neg c1] at he
  have hmode : decide (no = 0) = false ∨ (decide (no = 0) = true ∧ ro = false) := by
   cases hd : decide (no = 0) with
   | false => exact .inl rfl
   | true =>
    cases ro with
    | false => exact .inr ⟨rfl, rfl⟩
    | true => exact absurd (by rw [hd]; rfl) c1
  clear c1
  by_cases c2 : 16 < na
  ·rw [if_pos c2] at he;simp only [Option.some.injEq] at he;subst he;have h3 : decide ((16 : Int) < (na : Int)) = true := by rw [decide_eq_true_iff]; omega
   go_enter Tryz.func58, Tryz.ntmps58
   go_wp2_with fail
   refine HNm.out.mono ?_;rintro e w1 ⟨rfl, b1⟩;have H1 := hide (H0.out.go b1);have M1 := hide (M0.out.go b1);obtain ⟨y2, y5, p0, p4⟩ := HKk.out w1 b1;have f5 := H1.out.frz 5;have f6 : (w1.setCell ⟨P, 5, none⟩ (.int .i64 (t.at_ : Int))).frozen? ⟨P, 6, none⟩ = false := (H1.out.blk.set_ 5 _).frozen 6;have p5 := H1.out.cell.2.2.2.2.2.1;have p6 : (w1.setCell ⟨P, 5, none⟩ (.int .i64 (t.at_ : Int))).cell? ⟨P, 6, none⟩ = some (.int .i64 (badE none)) := (H1.out.blk.set_ 5 _).cell 6;clear b1 k0 k1 k2 k3 k4 k5 k6 hW0
   rcases hmode with hm | ⟨hm, rfl⟩
   ·rw [hm] at hno0;go_wp2;go_end0;exact ⟨rfl, (M1.out.setCell (p := ⟨P, 5, none⟩) (.inl rfl) _).setCell (p := ⟨P, 6, none⟩) (.inl rfl) _, d, v, (H1.out.put (d' := d) (b' := some (t.at_, 0)) 5 _ rfl rfl rfl rfl).put (d' := d) (b' := some (t.at_, 42)) 6 _ rfl rfl rfl rfl⟩
   rw [hm] at hno0;go_wp2;go_end0;exact ⟨rfl, (M1.out.setCell (p := ⟨P, 5, none⟩) (.inl rfl) _).setCell (p := ⟨P, 6, none⟩) (.inl rfl) _, d, v, (H1.out.put (d' := d) (b' := some (t.at_, 0)) 5 _ rfl rfl rfl rfl).put (d' := d) (b' := some (t.at_, 42)) 6 _ rfl rfl rfl rfl⟩
  rw [if_neg c2] at he
  by_cases c3 : no = 16
  ·rw [if_pos c3] at he;simp only [Option.some.injEq] at he;subst he;have h3 : decide ((16 : Int) < (na : Int)) = false := by rw [decide_eq_false_iff_not]; omega
   have h4 : decide ((16 : Int) ≤ (no : Int)) = true := by rw [decide_eq_true_iff]; omega
   have hm : decide (no = 0) = false := by rw [decide_eq_false_iff_not]; omega
   rw [hm] at hno0;clear hmode hm c3
   go_enter Tryz.func58, Tryz.ntmps58
   go_wp2_with fail
   refine HNm.out.mono ?_;rintro e w1 ⟨rfl, b1⟩;have H1 := hide (H0.out.go b1);have M1 := hide (M0.out.go b1);obtain ⟨y2, y5, p0, p4⟩ := HKk.out w1 b1;have f5 := H1.out.frz 5;have f6 : (w1.setCell ⟨P, 5, none⟩ (.int .i64 (t.at_ : Int))).frozen? ⟨P, 6, none⟩ = false := (H1.out.blk.set_ 5 _).frozen 6;have p5 := H1.out.cell.2.2.2.2.2.1;have p6 : (w1.setCell ⟨P, 5, none⟩ (.int .i64 (t.at_ : Int))).cell? ⟨P, 6, none⟩ = some (.int .i64 (badE none)) := (H1.out.blk.set_ 5 _).cell 6;clear b1 k0 k1 k2 k3 k4 k5 k6 hW0;go_wp2;go_end0;exact ⟨rfl, (M1.out.setCell (p := ⟨P, 5, none⟩) (.inl rfl) _).setCell (p := ⟨P, 6, none⟩) (.inl rfl) _, d, v, (H1.out.put (d' := d) (b' := some (t.at_, 0)) 5 _ rfl rfl rfl rfl).put (d' := d) (b' := some (t.at_, 41)) 6 _ rfl rfl rfl rfl⟩
  rw [if_neg c3] at he;cases he
end
end Go.Proofs.YtbbpkcddifmieaaGreatDoor
