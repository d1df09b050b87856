/- The document's strict: start, its late answers. (Printed by wip/genSuI.py.) -/
import Derived.Test.YtbbpkcddifmieaaGreatDoorSw36
import Derived.Deep.CutBlock
set_option linter.unusedSimpArgs false
set_option linter.unusedVariables false
namespace Go.Proofs.YtbbpkcddifmieaaGreatDoor
section
open Go.RowKit Tk Sx

theorem PD.setEl {B P E i : Nat} {w : World} {d : Dst} {b : Bad} {v : Dv} {cs : Array Value} (h : PD B P w d b v) (hE : Blk w E 111 cs) (hBE : B ≤ E) (hn : ∀ a, v.Ao = some a → a.block ≠ E) (u : Value) : PD B P (w.setCell ⟨E, i, none⟩ u) d b v := by
 have hm : DMov B P w (w.setCell ⟨E, i, none⟩ u) := (DMov.refl B P w).setDMine (p := ⟨E, i, none⟩) ⟨hBE, .inl hE.isT⟩ u;refine ⟨h.blk.far (p := ⟨E, i, none⟩) (fun e => by have e2 : P = E := e; subst e2; exact isT_ne h.blk.isT hE.isT (by decide)) u, h.bp, ?_, ?_, ?_, h.ev, ?_⟩
 ·refine ⟨h.o.1, ?_⟩
  rcases h.o.2 with hn2 | ⟨g, cap, cur, hv, hbg, hgg, rest⟩
  ·exact .inl hn2
  refine .inr ⟨g, cap, cur, hv, hbg, (Below.heap_setCell _ _ _ _ ?_).trans hgg, rest⟩;have hA : v.Ao = some ⟨g, 0, none⟩ := by injection hv
  exact hn _ hA
 ·exact own_far (p := ⟨E, i, none⟩) h.s hE (by decide) u
 ·exact own_far (p := ⟨E, i, none⟩) h.e hE (by decide) u
 exact fun x hx => (h.inn x hx).dmov hm (ew_notD (h.inn x hx) h.blk)
theorem closeD_st (d : Dst) : (closeD d).st = closeSt d.st := by
 unfold closeD closeSt;rw [open_is]
 cases hx : d.open_.getLast? with
 | none => rfl
 | some x =>
  dsimp only;rw [put_other (by simp)];rfl
theorem closeD_nt {d : Dst} (h : d.open_ ≠ []) : (closeD d).Nt := by
 unfold closeD
 cases hx : d.open_.getLast? with
 | none => exact absurd (List.getLast?_eq_none_iff.1 hx) h
 | some x =>
  refine ⟨fun y hy => ?_, fun _ => rfl⟩;simp only [List.getLast?_append, List.getLast?_singleton, Option.some_or, Option.some.injEq] at hy;subst hy;simp
theorem DMov.of_mvs {B P : Nat} {w w' : World} (h : Mvs B P [24] w w') : DMov B P w w' := ⟨h.os, h.tape, h.output, h.size, fun k hk hP hn => h.block k hk hP fun hh => hn ⟨hh.1, by obtain ⟨t, ht, h2⟩ := hh.2; rw [List.mem_singleton.1 ht] at h2; exact .inr (.inl h2)⟩⟩
def DclD (B P E T base : Nat) (w : World) (d : Dst) (t : Tok) (A : Option Addr) (c : Nat) (Ao Al : Option Addr) (nl cl : Nat) (W : World) : Prop :=
 ∃ v sc, PD B P W ⟨d.open_, sc, d.all, [], d.rooted⟩ none v ∧ v.Ao = Ao ∧ sc.length ≤ d.scope.length + t.attrs.length ∧ (b1 t = none → sc = sc1 d.st t) ∧ Blk W E 111 #[.string (bstr t.name), .string ⟨#[]⟩, .string ⟨#[]⟩, .int .i64 (d.scope.length : Int)] ∧
  Blk W T 64 (tokC t A c) ∧ DMov B P w W ∧ (b1 t = none → nl = t.attrs.length ∧ W.ownsRow base 9 1 (.slice Al t.attrs.length cl) t.attrs.length (strRow (t.attrs.map Sx.valOf)))
theorem tok_cells {w : World} {T : Nat} {t : Tok} {A : Option Addr} {c : Nat} (h : Blk w T 64 (tokC t A c)) : w.cell? ⟨T, 0, none⟩ = some (.int .i8 t.kind) ∧ w.cell? ⟨T, 1, none⟩ = some (.string (bstr t.name)) ∧ w.cell? ⟨T, 2, none⟩ = some (.slice A t.attrs.length c) ∧ w.cell? ⟨T, 3, none⟩ = some (.bool t.empty) ∧
  w.cell? ⟨T, 4, none⟩ = some (.string (bstr t.text)) ∧ w.cell? ⟨T, 5, none⟩ = some (.int .i64 (t.at_ : Int)) ∧ w.cell? ⟨T, 6, none⟩ = some (.int .i64 (t.end_ : Int)) :=
 ⟨h.cell 0, h.cell 1, h.cell 2, h.cell 3, h.cell 4, h.cell 5, h.cell 6⟩
theorem optN_lt (x : Option Nat) : decide (optN x < 0) = decide (x = none) := by
 cases x with
 | none => rfl
 | some a => rw [decide_eq_false (show ¬ optN (some a) < 0 by show ¬ (a : Int) < 0; omega)]; rfl
set_option maxRecDepth 100000 in
set_option maxHeartbeats 64000000 in
theorem dstart_late (B P : Nat) (w : World) (d : Dst) (v : Dv) (t : Tok) (A : Option Addr) (c : Nat) (h : PD B P w d none v) (hB : B ≤ w.heap.size) (hr : Reads w B 3 A t.attrs.length (gas (t.attrs.map At.g))) (hs : TokS 100000 t) (hk : OkS d.st 90000000 100000000000000000 1000000) (he : Sx.early d.st t = none) :
  Calls Tryz.prog 58 #[.pointer (some ⟨P, 0, none⟩), .agg (tokC t A c)] w (DStep B P w (Sx.start d.st t)) := by
 have KT := hide (Blk.new w 64 (tokC t A c));have BT := hide (below_alloc w (.cells (tokC t A c) 64));obtain ⟨W0, hW0⟩ : ∃ W0, w.alloc (.cells (tokC t A c) 64) = W0 := ⟨_, rfl⟩;rw [hW0] at KT BT;have HNm := hide (dnames_any W0 t A c ((hr.below (BT.out.mono hB)).more (Nat.le_trans hB BT.out.size)) hs);have H := hide h;have HB := hide hB;have Hr := hide hr;have Hs := hide hs;have Hk := hide hk;obtain ⟨T, hT⟩ : ∃ T, w.heap.size = T := ⟨_, rfl⟩;have HT := hide hT;have HTP := hide (show P < T by have := h.blk.lt; omega);rw [hT] at KT;have k0 := KT.out.cell 0;have k1 := KT.out.cell 1;have k2 := KT.out.cell 2;have k3 := KT.out.cell 3;have k4 := KT.out.cell 4;have k5 := KT.out.cell 5;have k6 := KT.out.cell 6
 have hnm : names t = none := by
  unfold Sx.early at he
  cases hn : names t with
  | none => rfl
  | some a => rw [hn] at he; cases he
 have he2 : ¬(d.rooted = true ∧ d.open_.length = 0) ∧ t.attrs.length ≤ 16 ∧ d.open_.length ≠ 16 := by
  unfold Sx.early at he;rw [hnm, open_is, rooted_is] at he;dsimp only at he
  by_cases c1 : (d.rooted && d.open_.isEmpty) = true
  ·rw [if_pos c1] at he; cases he
  rw [if_neg c1] at he
  by_cases c2 : 16 < t.attrs.length
  ·rw [if_pos c2] at he; cases he
  rw [if_neg c2] at he
  by_cases c3 : d.open_.length = 16
  ·rw [if_pos c3] at he; cases he
  refine ⟨fun hc => c1 ?_, by omega, c3⟩;rw [hc.1, List.eq_nil_of_length_eq_zero hc.2];rfl
 have Hst := hide (show Sx.start d.st t = match b3 d.st t with | some a => .error (a, 50) | none => .ok (if t.empty then closeSt (started d.st t) else started d.st t) by unfold Sx.start; rw [he, late_is]; rfl);have hopl : d.open_.length ≤ 16 := hk.ok.op;have hevl : d.all.length ≤ 90000000 := hk.ok.ev;have hscl : d.scope.length ≤ 90000000 := hk.ok.sc;have Hopl := hide hopl;have Hevl := hide hevl;have Hscl := hide hscl
 have hevs : d.evs.length ≤ 90000000 := by
  unfold Dst.all at hevl
  split at hevl
  ·exact hevl
  rw [List.length_append] at hevl; omega
 have Hevs := hide hevs;have He2 := hide he2
 have HspN := hide (show (split t.name).isSome = true by
  unfold names at hnm
  cases hz : split t.name with
  | none => rw [hz] at hnm; simp at hnm
  | some z => rfl)
 have KT0 := KT;have BT0 := BT;have H0 := hide (H.out.go BT0.out);have HB0 := hide (Nat.le_trans HB.out BT0.out.size);have M0 := hide (DMov.of_below (B := B) (P := P) BT0.out);rw [hnm] at HNm;obtain ⟨no, hno⟩ : ∃ no, d.open_.length = no := ⟨_, rfl⟩;have Hno := hide hno;obtain ⟨ro, hro⟩ : ∃ ro, d.rooted = ro := ⟨_, rfl⟩;have Hro := hide hro;obtain ⟨na, hna⟩ : ∃ na, t.attrs.length = na := ⟨_, rfl⟩;have Hna := hide hna;have h0 : decide ((-1 : Int) < 0) = true := by decide
 have h1 : decide ((0 : Int) ≤ (-1 : Int)) = false := by decide
 have HSN := hide (fun W => refSplit_any t.name W (Nat.le_trans hs.nm (by decide)));rw [splV_is] at HSN;rw [HspN.out] at HSN;clear h hB hr hs hk he hnm he2 hopl hevl hscl hevs;unfold tokC at HNm k0 k1 k2 k3 k4 k5 k6 hW0 ⊢;dsimp only [optN] at HNm;rw [hna] at HNm k2 hW0 ⊢;clear hna hno hro
 go_enter Tryz.func58, Tryz.ntmps58
 go_upto_region 2 with (go_at_call 87; refine HNm.out.mono ?_; rintro e w1 ⟨rfl, b1⟩; have B1 := hide b1; clear b1)
 have H1 := hide (H0.out.go B1.out);have M1 := hide (M0.out.go B1.out);have K1 := hide (KT0.out.go B1.out);have HB1 := hide (Nat.le_trans HB0.out B1.out.size);clear k0 k1 k2 k3 k4 k5 k6 hW0
 go_cut [30] (fun s30 wx => s30 = .bool false ∧ wx = w1)
 case first =>
  obtain ⟨p0, -, -, -, p4, -, -⟩ := H1.out.cell;rw [Hno.out] at p0;rw [Hro.out] at p4
  have hmode : decide (no = 0) = false ∨ (decide (no = 0) = true ∧ ro = false) := by
   have := He2.out.1;rw [Hno.out, Hro.out] at this
   cases hd : decide (no = 0) with
   | false => exact .inl rfl
   | true =>
    cases ro with
    | false => exact .inr ⟨rfl, rfl⟩
    | true => exact absurd ⟨rfl, of_decide_eq_true hd⟩ this
  have hno0 : ((no : Int) == 0) = decide (no = 0) := by rw [Bool.eq_iff_iff, beq_iff_eq, decide_eq_true_iff]; omega
  rcases hmode with hm | ⟨hm, rfl⟩
  ·rw [hm] at hno0;go_wp2;(try simp only [Exit.then]);(try refine Met.intro ?_)
   first
    | (rename_i hJ hM; refine hM _ _ (Met.intro ?_); refine hJ _ _ ?_)
    | (rename_i hJ; refine hJ _ _ ?_)
    | (rename_i hJ hT; refine hJ _ _ ?_)
    | (rename_i hJ hT hT2; refine hJ _ _ ?_)
    | (rename_i hJ hT hT2 hT3; refine hJ _ _ ?_)
   (repeat apply Exists.intro);exact ⟨⟨rfl, rfl⟩, rfl⟩
  rw [hm] at hno0;go_wp2;(try simp only [Exit.then]);(try refine Met.intro ?_)
  first
   | (rename_i hJ hM; refine hM _ _ (Met.intro ?_); refine hJ _ _ ?_)
   | (rename_i hJ; refine hJ _ _ ?_)
   | (rename_i hJ hT; refine hJ _ _ ?_)
   | (rename_i hJ hT hT2; refine hJ _ _ ?_)
   | (rename_i hJ hT hT2 hT3; refine hJ _ _ ?_)
  (repeat apply Exists.intro);exact ⟨⟨rfl, rfl⟩, rfl⟩
 case rest =>
  obtain ⟨rfl, hc1⟩ := hcut;have hc2 := hc1.symm;clear hc1;subst hc2;have HFl := hide (flush_any B P w1 d none v H1.out HB1.out (Nat.le_trans Hevs.out (by decide)));obtain ⟨p0, -, -, -, -, -, -⟩ := H1.out.cell;rw [Hno.out] at p0;have y2 := (tok_cells K1.out).2.2.1;rw [Hna.out] at y2;have h3 : decide ((16 : Int) < (na : Int)) = false := by rw [decide_eq_false_iff_not]; have := He2.out.2.1; have := Hna.out; omega
  have h4 : decide ((16 : Int) ≤ (no : Int)) = false := by rw [decide_eq_false_iff_not]; have := He2.out.2.2; have := Hno.out; have := Hopl.out; omega
  go_upto_region 13 with (go_at_call 88; refine HFl.out.mono ?_; rintro e w2 ⟨rfl, m2, v2, h2⟩; have H2 := hide h2; have M2 := hide (M1.out.trans m2); have K2 := hide (m2.blk K1.out (by have := HTP.out; omega) (by decide)); clear m2 h2)
  have HB2 := hide (Nat.le_trans HB.out M2.out.size);have hPl := H2.out.blk.lt;have q1 := H2.out.cell.2.1;dsimp only at q1;have x1 := (tok_cells K2.out).2.1;have hTl := K2.out.lt;obtain ⟨E, hE⟩ : ∃ E, w2.heap.size = E := ⟨_, rfl⟩;have HE := hide hE
  have HAoE := hide (show ∀ a, v2.Ao = some a → a.block ≠ E from fun a ha => by
   have ho := H2.out.o;rw [ha] at ho
   rcases ho.2 with ⟨h1, _⟩ | ⟨g, cap, cur, hv, _, hh, _⟩
   ·cases h1
   cases hv;have := (Array.getElem?_eq_some_iff.1 hh).1;show g ≠ E
   omega)
  have HEP := hide (show E ≠ P by omega);have HET := hide (show E ≠ T by omega);have HBE := hide (show B ≤ E by rw [← hE]; exact HB2.out);clear hE p0 y2 h3 h4 HFl
  go_cut [5] (fun s5 wx => s5 = .pointer (some ⟨E, 0, none⟩) ∧ Blk wx E 111 #[.string (bstr t.name), .string ⟨#[]⟩, .string ⟨#[]⟩, .int .i64 (d.scope.length : Int)] ∧ Below w2.heap.size w2 wx)
  case first =>
   have ya : ∀ o', (w2.alloc o').cell? ⟨T, 1, none⟩ = some (.string (bstr t.name)) := fun o' => ((below_alloc w2 o').cell (p := ⟨T, 1, none⟩) hTl).trans x1;have yb : ∀ o', (w2.alloc o').cell? ⟨P, 1, none⟩ = some (.slice v2.As d.scope.length v2.cs) := fun o' => ((below_alloc w2 o').cell (p := ⟨P, 1, none⟩) hPl).trans q1
   go_region
   all_goals
    rw [HE.out];have kb := Blk.new w2 111 #[.string (bstr t.name), .string ⟨#[]⟩, .string ⟨#[]⟩, .int .i64 (d.scope.length : Int)];rw [HE.out] at kb;have hb := below_alloc w2 (.cells #[.string (bstr t.name), .string ⟨#[]⟩, .string ⟨#[]⟩, .int .i64 (d.scope.length : Int)] 111);(try simp only [Exit.then]);(try refine Met.intro ?_)
    first
     | (rename_i hJ hM; refine hM _ _ (Met.intro ?_); refine hJ _ _ ?_)
     | (rename_i hJ; refine hJ _ _ ?_)
     | (rename_i hJ hT; refine hJ _ _ ?_)
     | (rename_i hJ hT hT2; refine hJ _ _ ?_)
     | (rename_i hJ hT hT2 hT3; refine hJ _ _ ?_)
    (repeat apply Exists.intro);refine ⟨⟨rfl, ?_, ?_⟩, rfl⟩
    ·first | exact kb | exact kb.drew
    first | exact hb | exact hb.drew
  case rest =>
   obtain ⟨rfl, k3, b3⟩ := hcut;have H3 := hide (H2.out.go b3);have E3 := hide k3;have K3 := hide (K2.out.go b3);have M3 := hide (M2.out.go b3);have HB3 := hide (Nat.le_trans HB2.out b3.size);have BW3 := hide (M3.out.below (C := B) (Nat.le_refl _) H.out.bp HB.out);have HVl := hide (dvalues_any wc t A c ((Hr.out.below BW3.out).more HB3.out) Hs.out);obtain ⟨z0, z1, z2, z3, z4, z5, z6⟩ := tok_cells K3.out;unfold tokC at HVl;rw [Hna.out] at z2 HVl;clear k3 b3 q1 x1 hPl hTl
   go_upto_if 80 with (go_at_call 89; refine HVl.out.mono ?_; rintro e w4 ⟨b4, Al, nl, cl, rfl, ho4⟩; have B4 := hide b4; have O4 := hide ho4; clear b4 ho4)
   have H4 := hide (H3.out.go B4.out);have E4 := hide (E3.out.go B4.out);have K4 := hide (K3.out.go B4.out);have M4 := hide (M3.out.go B4.out);have HB4 := hide (Nat.le_trans HB3.out B4.out.size);have HWs := hide (show w.heap.size ≤ wc.heap.size from M3.out.size);clear z0 z1 z2 z3 z4 z5 z6
   go_cut [4] (fun s4 wx => s4 = .int .i64 (optN (b1 t)) ∧ DclD B P E T w.heap.size w d t A c v2.Ao Al nl cl wx)
   case first =>
    cases hva : valsAt t.attrs with
    | some a =>
     have Hb1 := hide (show b1 t = some a by unfold b1; rw [hva]; rfl);have hl : decide ((a : Int) < 0) = false := by rw [decide_eq_false_iff_not]; omega
     dsimp only [optN];clear hva;go_wp2;(try simp only [Exit.then]);(try refine Met.intro ?_)
     first
      | (rename_i hJ hM; refine hM _ _ (Met.intro ?_); refine hJ _ _ ?_)
      | (rename_i hJ; refine hJ _ _ ?_)
      | (rename_i hJ hT; refine hJ _ _ ?_)
      | (rename_i hJ hT hT2; refine hJ _ _ ?_)
      | (rename_i hJ hT hT2 hT3; refine hJ _ _ ?_)
     (repeat apply Exists.intro);rw [Hb1.out];refine ⟨⟨rfl, ?_⟩, rfl⟩;exact ⟨v2, d.scope, H4.out, rfl, Nat.le_add_right _ _, fun h => (by rw [Hb1.out] at h; cases h), E4.out, K4.out, M4.out, fun h => (by rw [Hb1.out] at h; cases h)⟩
    | none =>
     have Hb1 := hide (show b1 t = declAt (t.attrs.map valued) by unfold b1; rw [hva]; rfl);have Hsc1 := hide (show sc1 d.st t = declared d.scope (t.attrs.map valued) by unfold sc1; rw [hva]; rfl);obtain ⟨hnl, ho4⟩ := O4.out hva;have Ho4 := hide ho4;have Hnl := hide hnl;have hd0 := declared_any B P wc.heap.size w4 ⟨d.open_, d.scope, d.all, [], d.rooted⟩ v2 t A Al c cl H4.out HB4.out HB3.out (Hr.out.below (M4.out.below (C := B) (Nat.le_refl _) H.out.bp HB.out)) Hs.out ho4 (Nat.le_trans Hscl.out (by decide));rw [← hnl] at hd0;have HDc := hide hd0;dsimp only [optN];obtain ⟨z0, z1, z2, z3, z4, z5, z6⟩ := tok_cells K4.out;unfold tokC at HDc;rw [Hna.out] at z2 HDc;clear hva hd0 hnl ho4
     go_wp2_with fail
     refine HDc.out.mono ?_;rintro e w5 ⟨rfl, m5, v5, sc5, p5, hAo5, hle5, hsc5⟩;have P5 := hide p5;have M5 := hide m5;have HA5 := hide hAo5;have HL5 := hide hle5;have HS5 := hide hsc5;clear p5 m5 hAo5 hle5 hsc5 z0 z1 z2 z3 z4 z5 z6;dsimp only
     rename_i hK0
     refine hK0 _ _ ?_;clear hK0;go_wp2;(try simp only [Exit.then]);(try refine Met.intro ?_)
     first
      | (rename_i hJ hM; refine hM _ _ (Met.intro ?_); refine hJ _ _ ?_)
      | (rename_i hJ; refine hJ _ _ ?_)
      | (rename_i hJ hT; refine hJ _ _ ?_)
      | (rename_i hJ hT hT2; refine hJ _ _ ?_)
      | (rename_i hJ hT hT2 hT3; refine hJ _ _ ?_)
     (repeat apply Exists.intro);rw [Hb1.out];refine ⟨⟨rfl, ?_⟩, rfl⟩;refine ⟨v5, sc5, P5.out, HA5.out, HL5.out, fun h => ?_, M5.out.blk E4.out HEP.out (by decide), M5.out.blk K4.out (by have := HTP.out; omega) (by decide), M4.out.trans (.of_mvs M5.out), fun h => ⟨Hnl.out, ?_⟩⟩
     ·rw [Hsc1.out]; exact HS5.out (by rw [← Hb1.out]; exact h)
     exact (M5.out.own Ho4.out H4.out.blk (by decide) (by decide)).mono (base' := w.heap.size) HWs.out
   case rest =>
    obtain ⟨rfl, v5, sc, p5, hAo5, hle5, hsc5, e5, k5, m5, hrow5⟩ := hcut;have P5 := hide p5;have HA5 := hide hAo5;have HL5 := hide hle5;have HS5 := hide hsc5;have E5 := hide e5;have K5 := hide k5;have M5 := hide m5;have HR5 := hide hrow5;have HB5 := hide (Nat.le_trans HB.out m5.size);have HEA := hide (show ∀ a, v5.Ao = some a → a.block ≠ E from fun a ha => HAoE.out a (by rw [← hAo5]; exact ha));have x1 := (tok_cells k5).2.1;obtain ⟨n4, hn4⟩ : ∃ n4, optN (b1 t) = n4 := ⟨_, rfl⟩;have Hn4 := hide hn4;have q4 := optN_lt (b1 t);rw [hn4] at q4 ⊢;obtain ⟨⟨sps, spo⟩, hsp⟩ : ∃ x, spaceOf sc (preN t.name) = x := ⟨_, rfl⟩;have Hsp := hide hsp
    have HSpc := hide (fun (W : World) (h : Below wc.heap.size wc W) => (show Calls Tryz.prog 13 #[.slice v5.As sc.length v5.cs, .string (bstr (preN t.name))] W fun e w' => e = .returned (.tuple #[.string (bstr sps), .bool spo]) ∧ w' = W by
     have hp := p5.go h;have := refSpace15_any v5.As v5.cs W.heap.size sc (preN t.name) W (Reads.of_own hp.s) (by have := Hscl.out; have := He2.out.2.1; omega);rw [hsp] at this;exact this))
    have HC1 := hide (fun (W : World) (h : Below wc.heap.size wc W) => (show W.cell? ⟨P, 1, none⟩ = some (.slice v5.As sc.length v5.cs) from (p5.go h).cell.2.1));have hx := lit_eq (bstr (preN t.name)) [120, 109, 108, 110, 115];obtain ⟨px, hpx⟩ : ∃ px, decide (preN t.name = pXmlns) = px := ⟨_, rfl⟩;have hx2 : ((bstr (preN t.name)).toList == [120, 109, 108, 110, 115]) = px := hx.trans hpx;have Hpx := hide hpx;clear p5 hAo5 hle5 hsc5 e5 k5 m5 hrow5 hn4 hsp hx hpx
    go_upto_region 19 with first
     | (go_at_call 91; refine (HSN.out _).mono ?_; rintro e w6 ⟨rfl, b6⟩; have B6 := hide b6; have c61 := HC1.out w6 b6; clear b6)
     | (go_at_call 13; refine (HSpc.out w6 B6.out).mono ?_; rintro e w7 ⟨rfl, hw7⟩; subst w7)
    have P6 := hide (P5.out.go B6.out);have E6 := hide (E5.out.go B6.out);have K6 := hide (K5.out.go B6.out);have M6 := hide (M5.out.go B6.out);have HB6 := hide (Nat.le_trans HB5.out B6.out.size);clear x1 c61 HSpc HC1
    go_cut [110] (fun s110 wx => s110 = .bool (decide (b1 t = none) && (!spo || px)) ∧ wx = w6)
    case first =>
     generalize decide (b1 t = none) = q at *
     cases q with
     | false =>
      go_wp2;(try simp only [Exit.then]);(try refine Met.intro ?_)
      first
       | (rename_i hJ hM; refine hM _ _ (Met.intro ?_); refine hJ _ _ ?_)
       | (rename_i hJ; refine hJ _ _ ?_)
       | (rename_i hJ hT; refine hJ _ _ ?_)
       | (rename_i hJ hT hT2; refine hJ _ _ ?_)
       | (rename_i hJ hT hT2 hT3; refine hJ _ _ ?_)
      (repeat apply Exists.intro);exact ⟨⟨rfl, rfl⟩, rfl⟩
     | true =>
      cases spo with
      | false =>
       go_wp2;(try simp only [Exit.then]);(try refine Met.intro ?_)
       first
        | (rename_i hJ hM; refine hM _ _ (Met.intro ?_); refine hJ _ _ ?_)
        | (rename_i hJ; refine hJ _ _ ?_)
        | (rename_i hJ hT; refine hJ _ _ ?_)
        | (rename_i hJ hT hT2; refine hJ _ _ ?_)
        | (rename_i hJ hT hT2 hT3; refine hJ _ _ ?_)
       (repeat apply Exists.intro);exact ⟨⟨rfl, rfl⟩, rfl⟩
      | true =>
       cases px with
       | false =>
        go_wp2;(try simp only [Exit.then]);(try refine Met.intro ?_)
        first
         | (rename_i hJ hM; refine hM _ _ (Met.intro ?_); refine hJ _ _ ?_)
         | (rename_i hJ; refine hJ _ _ ?_)
         | (rename_i hJ hT; refine hJ _ _ ?_)
         | (rename_i hJ hT hT2; refine hJ _ _ ?_)
         | (rename_i hJ hT hT2 hT3; refine hJ _ _ ?_)
        (repeat apply Exists.intro);exact ⟨⟨rfl, rfl⟩, rfl⟩
       | true =>
        go_wp2;(try simp only [Exit.then]);(try refine Met.intro ?_)
        first
         | (rename_i hJ hM; refine hM _ _ (Met.intro ?_); refine hJ _ _ ?_)
         | (rename_i hJ; refine hJ _ _ ?_)
         | (rename_i hJ hT; refine hJ _ _ ?_)
         | (rename_i hJ hT hT2; refine hJ _ _ ?_)
         | (rename_i hJ hT hT2 hT3; refine hJ _ _ ?_)
        (repeat apply Exists.intro);exact ⟨⟨rfl, rfl⟩, rfl⟩
    case rest =>
     obtain ⟨rfl, hc1⟩ := hcut;have hc2 := hc1.symm;clear hc1;subst hc2
     have Hspw := hide (show spWrong sc t = if (!spo || px) = true then some t.at_ else none by
      unfold spWrong;have e1 : spaceOf sc (preOf t) = (sps, spo) := Hsp.out;have e2 : decide (preOf t = pXmlns) = px := Hpx.out;rw [e1];dsimp only
      by_cases h : spo = false ∨ preOf t = pXmlns
      ·rw [if_pos h, if_pos]
       rcases h with h | h
       ·rw [h]; rfl
       rw [← e2, decide_eq_true h]; simp
      rw [if_neg h, if_neg];intro h2;rw [Bool.or_eq_true] at h2
      rcases h2 with h2 | h2
      ·exact h (.inl (by simpa using h2))
      rw [← e2] at h2; exact h (.inr (of_decide_eq_true h2)))
     have x5 := (tok_cells K6.out).2.2.2.2.2.1;obtain ⟨sw, hsw⟩ : ∃ sw, (!spo || px) = sw := ⟨_, rfl⟩;rw [hsw] at Hspw ⊢;clear hsw hx2
     go_upto_if 110 with fail
     go_cut [4] (fun s4 wx => s4 = .int .i64 (optN ((b1 t).or (spWrong sc t))) ∧ wx = w6)
     case first =>
      cases hb : b1 t with
      | some a =>
       simp only [reduceCtorEq, decide_false, Bool.false_and];go_wp2;(try simp only [Exit.then]);(try refine Met.intro ?_)
       first
        | (rename_i hJ hM; refine hM _ _ (Met.intro ?_); refine hJ _ _ ?_)
        | (rename_i hJ; refine hJ _ _ ?_)
        | (rename_i hJ hT; refine hJ _ _ ?_)
        | (rename_i hJ hT hT2; refine hJ _ _ ?_)
        | (rename_i hJ hT hT2 hT3; refine hJ _ _ ?_)
       (repeat apply Exists.intro);exact ⟨⟨by rw [← Hn4.out, hb]; rfl, rfl⟩, rfl⟩
      | none =>
       simp only [decide_true, Bool.true_and]
       cases sw with
       | true =>
        go_wp2;(try simp only [Exit.then]);(try refine Met.intro ?_)
        first
         | (rename_i hJ hM; refine hM _ _ (Met.intro ?_); refine hJ _ _ ?_)
         | (rename_i hJ; refine hJ _ _ ?_)
         | (rename_i hJ hT; refine hJ _ _ ?_)
         | (rename_i hJ hT hT2; refine hJ _ _ ?_)
         | (rename_i hJ hT hT2 hT3; refine hJ _ _ ?_)
        (repeat apply Exists.intro);exact ⟨⟨by rw [hb, Hspw.out]; rfl, rfl⟩, rfl⟩
       | false =>
        go_wp2;(try simp only [Exit.then]);(try refine Met.intro ?_)
        first
         | (rename_i hJ hM; refine hM _ _ (Met.intro ?_); refine hJ _ _ ?_)
         | (rename_i hJ; refine hJ _ _ ?_)
         | (rename_i hJ hT; refine hJ _ _ ?_)
         | (rename_i hJ hT hT2; refine hJ _ _ ?_)
         | (rename_i hJ hT hT2 hT3; refine hJ _ _ ?_)
        (repeat apply Exists.intro);exact ⟨⟨by rw [← Hn4.out, hb, Hspw.out]; rfl, rfl⟩, rfl⟩
     case rest =>
      obtain ⟨rfl, hc1⟩ := hcut;have hc2 := hc1.symm;clear hc1;subst hc2;obtain ⟨b2, hb2⟩ : ∃ b2, (b1 t).or (spWrong sc t) = b2 := ⟨_, rfl⟩;have Hb2 := hide hb2;have HAt := hide (fun (h : nl = t.attrs.length) (ho : w6.ownsRow w.heap.size 9 1 (.slice Al t.attrs.length cl) t.attrs.length (strRow (t.attrs.map Sx.valOf))) => dattrs_any B P w.heap.size w6 ⟨d.open_, sc, d.all, [], d.rooted⟩ v5 t A Al c cl P6.out HB6.out (Hr.out.below (M6.out.below (C := B) (Nat.le_refl _) H.out.bp HB.out)) Hs.out ho (by have := HL5.out; have := Hscl.out; have := He2.out.2.1; show sc.length ≤ _; omega));obtain ⟨n5, hn5⟩ : ∃ n5, optN b2 = n5 := ⟨_, rfl⟩;have Hn5 := hide hn5;have q5 := optN_lt b2;rw [hb2];rw [hn5] at q5 ⊢
      have Hb3 := hide (show b3 d.st t = b2.or (attrsAt (sc1 d.st t) [] (splits t)) by
       unfold b3;rw [← hb2]
       cases hb : b1 t with
       | some a => rfl
       | none => rw [← HS5.out hb])
      have Hsc2 := hide (show b2 = none → b1 t = none from fun h => by
       rw [← hb2] at h
       cases hb : b1 t with
       | some a => rw [hb] at h; cases h
       | none => rfl)
      clear hb2 hn5 x5 q4
      go_upto_if 114 with fail
      go_cut [12, 4] (fun s12 s4 wx => ∃ A9 n9 c9, s12 = .slice A9 n9 c9 ∧ s4 = .int .i64 (optN (b3 d.st t)) ∧ Below w6.heap.size w6 wx ∧ (b3 d.st t = none → n9 = (attrsOf (sc1 d.st t) (splits t)).length ∧ wx.ownsRow w.heap.size 49 3 (.slice A9 (attrsOf (sc1 d.st t) (splits t)).length c9) (attrsOf (sc1 d.st t) (splits t)).length (atts (attrsOf (sc1 d.st t) (splits t)))))
      case first =>
       cases hb : b2 with
       | some a =>
        rw [hb] at q5;simp only [reduceCtorEq, decide_false] at q5;have Hb3' := hide (show b3 d.st t = b2 by rw [Hb3.out, hb]; rfl);have Hnb := hide (show b3 d.st t ≠ none by rw [Hb3.out, hb]; simp);clear hb;go_wp2;(try simp only [Exit.then]);(try refine Met.intro ?_)
        first
         | (rename_i hJ hM; refine hM _ _ (Met.intro ?_); refine hJ _ _ ?_)
         | (rename_i hJ; refine hJ _ _ ?_)
         | (rename_i hJ hT; refine hJ _ _ ?_)
         | (rename_i hJ hT hT2; refine hJ _ _ ?_)
         | (rename_i hJ hT hT2 hT3; refine hJ _ _ ?_)
        (repeat apply Exists.intro);refine ⟨⟨none, 0, 0, rfl, ?_, Below.refl _ _, fun h => absurd h Hnb.out⟩, rfl⟩;rw [Hb3'.out, Hn5.out]
       | none =>
        rw [hb] at q5;simp only [decide_true] at q5;have Hb1n := hide (Hsc2.out hb);obtain ⟨hnl, hrow⟩ := HR5.out Hb1n.out;have hd0 := HAt.out hnl (own_go hrow B6.out);rw [← hnl] at hd0;have HDa := hide hd0;have Hscs := hide (HS5.out Hb1n.out);have Hb3' := hide (show b3 d.st t = attrsAt sc [] (t.attrs.map valued) by rw [Hb3.out, hb, Option.none_or, Hscs.out]; rfl);obtain ⟨z0, z1, z2, z3, z4, z5, z6⟩ := tok_cells K6.out;unfold tokC at HDa;rw [Hna.out] at z2 HDa;clear hb hnl hrow hd0
        go_wp2_with fail
        refine HDa.out.mono ?_;rintro e w8 ⟨b8, A9, n9, c9, rfl, ho9⟩;have B8 := hide b8;have O9 := hide ho9;clear b8 ho9 z0 z1 z2 z3 z4 z5 z6;dsimp only
        rename_i hK0
        refine hK0 _ _ ?_;clear hK0;go_wp2;(try simp only [Exit.then]);(try refine Met.intro ?_)
        first
         | (rename_i hJ hM; refine hM _ _ (Met.intro ?_); refine hJ _ _ ?_)
         | (rename_i hJ; refine hJ _ _ ?_)
         | (rename_i hJ hT; refine hJ _ _ ?_)
         | (rename_i hJ hT hT2; refine hJ _ _ ?_)
         | (rename_i hJ hT hT2 hT3; refine hJ _ _ ?_)
        (repeat apply Exists.intro);refine ⟨⟨A9, n9, c9, rfl, by rw [Hb3'.out], B8.out, fun h => ?_⟩, rfl⟩;rw [Hb3'.out] at h;obtain ⟨h1, h2⟩ := O9.out h;(try dsimp only at h1 h2);rw [Hscs.out] at h1 h2;exact ⟨h1, h2.mono (base' := w.heap.size) M6.out.size⟩
      case rest =>
       obtain ⟨A9, n9, c9, rfl, rfl, b9, ho9⟩ := hcut;have P9 := hide (P6.out.go b9);have E9 := hide (E6.out.go b9);have K9 := hide (K6.out.go b9);have M9 := hide (M6.out.go b9);have HB9 := hide (Nat.le_trans HB6.out b9.size);have O9 := hide ho9;clear b9 ho9 q5
       cases hb3 : b3 d.st t with
       | some a =>
        have h9 : decide ((0 : Int) ≤ (a : Int)) = true := by rw [decide_eq_true_iff]; omega
        have HW := hide (dwrong_any B P wc _ v5 a P9.out);rw [hb3] at Hst;dsimp only [optN];clear hb3
        go_wp2_with fail
        refine HW.out.mono ?_;rintro e w10 ⟨rfl, h10, m10⟩;have H10 := hide h10;have M10 := hide (M9.out.trans (DMov.of_but m10));clear h10 m10;dsimp only
        rename_i hK0
        refine hK0 _ _ ?_;clear hK0;go_wp2;go_end0;rw [Hst.out];exact ⟨rfl, M10.out, _, v5, H10.out⟩
       | none =>
        have h9 : decide ((0 : Int) ≤ (-1 : Int)) = false := by decide
        rw [hb3] at Hst;obtain ⟨hn9, ho9⟩ := O9.out hb3
        have Hb1n := hide (show b1 t = none by
         rw [Hb3.out] at hb3;exact Hsc2.out (by cases b2 with | none => rfl | some x => cases hb3))
        have Hscs := hide (HS5.out Hb1n.out);have Hstd := hide (started_is hb3);dsimp only [optN];subst hn9;obtain ⟨as9, has9⟩ : ∃ as9, attrsOf (sc1 d.st t) (splits t) = as9 := ⟨_, rfl⟩;have Has9 := hide has9;rw [has9] at ho9 ⊢;have OA := hide ho9;obtain ⟨el, hel⟩ : ∃ el : El, (⟨t.name, ⟨sps, locN t.name⟩, d.scope.length⟩ : El) = el := ⟨_, rfl⟩;have Hel := hide hel
        have HelO := hide (show elOf d.st t (sc1 d.st t) = el by
         unfold elOf;rw [← hel, ← Hscs.out];have e1 : spaceOf sc (preOf t) = (sps, spo) := Hsp.out;rw [e1]
         rfl)
        have fe1 := E9.out.frozen 1;have fe2 : (wc.setCell ⟨E, 1, none⟩ (.string (bstr sps))).frozen? ⟨E, 2, none⟩ = false := (E9.out.set_ 1 _).frozen 2;have c9 : wc.cell? ⟨E, 1, none⟩ = some (.string ⟨#[]⟩) := E9.out.cell 1;have c92 : wc.cell? ⟨E, 2, none⟩ = some (.string ⟨#[]⟩) := E9.out.cell 2;clear hb3 has9 ho9 hel
        go_upto_region 27 with fail
        have i26 := (P9.out.setEl E9.out HBE.out HEA.out (i := 1) (.string (bstr sps))).setEl (E9.out.set_ 1 _) HBE.out HEA.out (i := 2) (.string (bstr (locN t.name)))
        have e26 : Blk ((wc.setCell ⟨E, 1, none⟩ (.string (bstr sps))).setCell ⟨E, 2, none⟩ (.string (bstr (locN t.name)))) E 111 (elCells el).toArray := by
         rw [← Hel.out];exact (E9.out.set_ 1 _).set_ 2 _
        have k26 := (K9.out.far (p := ⟨E, 1, none⟩) HET.out.symm (.string (bstr sps))).far (p := ⟨E, 2, none⟩) HET.out.symm (.string (bstr (locN t.name)));have hwE : w.heap.size ≤ E := by rw [← HE.out]; exact M2.out.size
        have m26 := (M9.out.setCell (p := ⟨E, 1, none⟩) (.inr hwE) (.string (bstr sps))).setCell (p := ⟨E, 2, none⟩) (.inr hwE) (.string (bstr (locN t.name)));have oa26 := own_far (p := ⟨E, 2, none⟩) (own_far (p := ⟨E, 1, none⟩) OA.out E9.out (by decide) (.string (bstr sps))) (E9.out.set_ 1 (.string (bstr sps))) (by decide) (.string (bstr (locN t.name)));obtain ⟨W26, hW26⟩ : ∃ W26, (wc.setCell ⟨E, 1, none⟩ (.string (bstr sps))).setCell ⟨E, 2, none⟩ (.string (bstr (locN t.name))) = W26 := ⟨_, rfl⟩;rw [hW26] at i26 e26 k26 m26 oa26 ⊢;have I26 := hide i26;have E26 := hide e26;have K26 := hide k26;have M26 := hide m26;have OA26 := hide oa26;have HB26 := hide (Nat.le_trans HB.out m26.size);have OO := hide (show W26.ownsRow B 111 4 (.slice v5.Ao no v5.co) no (els d.open_) by rw [← Hno.out]; exact i26.o);have C0 : Hid (W26.cell? ⟨P, 0, none⟩ = some (.slice v5.Ao no v5.co)) := hide (by rw [← Hno.out]; exact i26.cell.1);have KC0 : Hid (W26.cell? ⟨E, 0, none⟩ = some (.string (bstr el.written))) := hide (e26.cell 0);have KC1 : Hid (W26.cell? ⟨E, 1, none⟩ = some (.string (bstr el.name.ns))) := hide (e26.cell 1);have KC2 : Hid (W26.cell? ⟨E, 2, none⟩ = some (.string (bstr el.name.loc))) := hide (e26.cell 2);have KC3 : Hid (W26.cell? ⟨E, 3, none⟩ = some (.int .i64 (el.scope : Int))) := hide (e26.cell 3)
        have BX := hide (show Below W26.heap.size W26 (W26.drew.alloc (.cells (elCells el).toArray 111)) from (Below.refl _ _).drew.alloc (Nat.le_refl _) _);have KX := hide (show Blk (W26.drew.alloc (.cells (elCells el).toArray 111)) W26.heap.size 111 (elCells el).toArray from Blk.new W26.drew 111 _);clear i26 e26 k26 m26 oa26 hW26 hwE fe1 fe2 c9 c92
        go_cut [] (fun wx => ∃ v11, PD B P wx ⟨d.open_ ++ [el], sc, d.all, [], d.rooted⟩ none v11 ∧ Blk wx E 111 (elCells el).toArray ∧ Blk wx T 64 (tokC t A c) ∧ wx.ownsRow w.heap.size 49 3 (.slice A9 as9.length c9) as9.length (atts as9) ∧ DMov B P w wx)
        case first =>
         refine wp_region_B 10 (fun W' => W'.cell? ⟨P, 0, none⟩ = some (.slice v5.Ao no v5.co) ∧ W'.cell? ⟨E, 0, none⟩ = some (.string (bstr el.written)) ∧ W'.cell? ⟨E, 1, none⟩ = some (.string (bstr el.name.ns)) ∧ W'.cell? ⟨E, 2, none⟩ = some (.string (bstr el.name.loc)) ∧ W'.cell? ⟨E, 3, none⟩ = some (.int .i64 (el.scope : Int))) (by kernel_rfl) ?_ (fun hHeld => ?_)
         ·(try dsimp only);exact ⟨C0.out, KC0.out, KC1.out, KC2.out, KC3.out⟩
         change wpAnyB _ _ _ _ _ _ 11 #[false, false, false, false, false, false, false, false, false, false, false] _ _;iterate 4 (refine nbF (v := ?_) rfl rfl hHeld ?_ ?_; rotate_left; (· (intro w'; go_simp; try with_reducible rfl)); (try simp only [nx, List.set]))
         iterate 2 (refine nbT (v := ?_) rfl rfl hHeld ?_ ?_; rotate_left; (· (intro w' hSw; obtain ⟨z0, z1, z2, z3, z4⟩ := hSw; go_simp; try with_reducible rfl)); (try simp only [nx, List.set]))
         refine heldB_call (i := 6) rfl (by kernel_rfl) (by kernel_rfl) (fun K hK => ?_);go_simp;(try dsimp only);refine hK.out _ _ ?_ (fun hHeld' => ?_)
         ·(try dsimp only);exact ⟨(BX.out.cell (lt_of_cell C0.out)).trans C0.out, (BX.out.cell (lt_of_cell KC0.out)).trans KC0.out, (BX.out.cell (lt_of_cell KC1.out)).trans KC1.out, (BX.out.cell (lt_of_cell KC2.out)).trans KC2.out, (BX.out.cell (lt_of_cell KC3.out)).trans KC3.out⟩
         clear hK K hHeld;have hHeld := hHeld';clear hHeld';(try simp only [Act.put, List.setIfInBounds_toArray, List.set_cons_zero, List.set_cons_succ]);refine heldB_call (i := 7) rfl (by kernel_rfl) (by kernel_rfl) (fun K hK => ?_);refine oper_append_elem _ (by rfl) _ _ _ (by rfl) B 111 _ 4 56 Tryz.underlying69 info_opn (by rfl) (by omega) (.slice v5.Ao no v5.co) no (els d.open_) (by rfl) (own_go OO.out BX.out) (elCells el) rfl (el_one el) W26.heap.size KX.out (by rfl) (by unfold maxLen; have := Hopl.out; have := Hno.out; omega) (by have := Hopl.out; have := Hno.out; omega) (Nat.le_trans HB26.out BX.out.size) ?_;intro g8 cap8 w10 hown8 hgrow8 hlt8;have HO8 := hide hown8;have HG8 := hide hgrow8;have MT10 := hide (show MovT B 111 W26 w10 from (MovT.of_below BX.out).trans (.grown hgrow8 fun j hj => own_isT (own_go OO.out BX.out) j hj));clear hown8 hgrow8 hlt8;(try dsimp only)
         have hne8 : some E ≠ (Value.slice v5.Ao no v5.co).ownBlock := fun hj => by
          cases hA : v5.Ao with
          | none => rw [hA] at hj; cases hj
          | some a => rw [hA] at hj; simp only [Value.ownBlock, Option.some.injEq] at hj; exact HEA.out a hA hj.symm
         have K10 := hide ((E26.out.go BX.out).grown HG8.out hne8);have PB10 := hide (MT10.out.blk I26.out.blk (by decide));have c0' : w10.cell? ⟨P, 0, none⟩ = some (.slice v5.Ao no v5.co) := by rw [← Hno.out]; exact PB10.out.cell 0
         refine hK.out _ _ ?_ (fun hHeld' => ?_)
         ·(try dsimp only);exact ⟨c0', K10.out.cell 0, K10.out.cell 1, K10.out.cell 2, K10.out.cell 3⟩
         clear hK K hHeld;have hHeld := hHeld';clear hHeld';(try simp only [Act.put, List.setIfInBounds_toArray, List.set_cons_zero, List.set_cons_succ]);iterate 2 (refine nbF (v := ?_) rfl rfl hHeld ?_ ?_; rotate_left; (· (intro w'; go_simp; try with_reducible rfl)); (try simp only [nx, List.set]))
         have f0 := PB10.out.frozen 0;refine heldB_last (i := 10) rfl (by kernel_rfl) (by kernel_rfl) (by kernel_rfl) (fun K hK => ?_);go_simp;(try dsimp only);refine hK.out _ _ ?_;clear hK K;(try simp only [Act.put, List.setIfInBounds_toArray, List.set_cons_zero, List.set_cons_succ]);refine heldB_done (by kernel_rfl) ?_ _;have hop : d.open_.length + 1 = (d.open_ ++ [el]).length := by rw [List.length_append]; rfl
         have ho10 : w10.ownsRow B 111 4 (.slice (some ⟨g8, 0, none⟩) (d.open_ ++ [el]).length cap8) (d.open_ ++ [el]).length (els (d.open_ ++ [el])) := by
          rw [els_snoc, ← hop, Hno.out];exact HO8.out
         have i10 := I26.out.setO MT10.out ho10;rw [← hop, Hno.out] at i10;have I10 := hide i10;clear hop ho10 i10 c0' f0;(try simp only [Exit.then]);(try refine Met.intro ?_)
         first
          | (rename_i hJ hM; refine hM _ _ (Met.intro ?_); refine hJ _ _ ?_)
          | (rename_i hJ; refine hJ _ _ ?_)
          | (rename_i hJ hT; refine hJ _ _ ?_)
          | (rename_i hJ hT hT2; refine hJ _ _ ?_)
          | (rename_i hJ hT hT2 hT3; refine hJ _ _ ?_)
         (repeat apply Exists.intro);refine ⟨⟨_, I10.out, K10.out.far (p := ⟨P, 0, none⟩) HEP.out _, (MT10.out.blk K26.out (by decide)).far (p := ⟨P, 0, none⟩) (Nat.ne_of_gt HTP.out) _, own_far (p := ⟨P, 0, none⟩) (MT10.out.own OA26.out (by decide)) PB10.out (by decide) _, ?_⟩, rfl⟩;exact (M26.out.trans (MT10.out.dmov (.inl rfl))).setCell (p := ⟨P, 0, none⟩) (.inl rfl) _
        case rest =>
         obtain ⟨v11, p11, e11, k11, o11, m11⟩ := hcut;have f4 := p11.frz 4;have p4 := p11.cell.2.2.2.2.1;have P11 := hide p11;have E11 := hide e11;have K11 := hide k11;have O11 := hide o11;have M11 := hide m11;clear p11 e11 k11 o11 m11;go_wp2;have i12 := P11.out.putR;have e12 := E11.out.far (p := ⟨P, 4, none⟩) HEP.out (.bool true);have k12 := K11.out.far (p := ⟨P, 4, none⟩) (Nat.ne_of_gt HTP.out) (.bool true);have o12 := own_far (p := ⟨P, 4, none⟩) O11.out P11.out.blk (by decide) (.bool true);have m12 := M11.out.setCell (p := ⟨P, 4, none⟩) (.inl rfl) (.bool true);obtain ⟨W12, hW12⟩ : ∃ W12, wc.setCell ⟨P, 4, none⟩ (.bool true) = W12 := ⟨_, rfl⟩;rw [hW12] at i12 e12 k12 o12 m12 ⊢;have I12 := hide i12;have E12 := hide e12;have K12 := hide k12;have O12 := hide o12;have M12 := hide m12;have HB12 := hide (Nat.le_trans HB.out m12.size);obtain ⟨m, hm⟩ : ∃ m, v11.xs.length = m := ⟨_, rfl⟩;have Hm := hide hm;have Hml := hide (show m ≤ 90000000 by rw [← hm, i12.len]; exact Hevl.out);have OE := hide (show W12.ownsRow B 43 5 (.slice v11.Ae m v11.ce) m (ews v11.xs) by rw [← hm]; exact i12.e);have C2 : Hid (W12.cell? ⟨P, 2, none⟩ = some (.slice v11.Ae m v11.ce)) := hide (by rw [← hm]; exact i12.cell.2.2.1);have Y1 : Hid (W12.cell? ⟨E, 1, none⟩ = some (.string (bstr el.name.ns))) := hide (e12.cell 1)
         have Y2 : Hid (W12.cell? ⟨E, 2, none⟩ = some (.string (bstr el.name.loc))) := hide (e12.cell 2);have BX := hide (show Below W12.heap.size W12 (W12.drew.alloc (.cells (ewCells ⟨⟨0, el.name, as9, []⟩, A9, c9⟩).toArray 43)) from (Below.refl _ _).drew.alloc (Nat.le_refl _) _);have KX := hide (show Blk (W12.drew.alloc (.cells (ewCells ⟨⟨0, el.name, as9, []⟩, A9, c9⟩).toArray 43)) W12.heap.size 43 (ewCells ⟨⟨0, el.name, as9, []⟩, A9, c9⟩).toArray from Blk.new W12.drew 43 _);clear i12 e12 k12 o12 m12 hW12 hm f4 p4;refine wp_region_B 13 (fun W' => W'.cell? ⟨P, 2, none⟩ = some (.slice v11.Ae m v11.ce) ∧ W'.cell? ⟨E, 1, none⟩ = some (.string (bstr el.name.ns)) ∧ W'.cell? ⟨E, 2, none⟩ = some (.string (bstr el.name.loc))) (by kernel_rfl) ?_ (fun hHeld => ?_)
         ·(try dsimp only);exact ⟨C2.out, Y1.out, Y2.out⟩
         change wpAnyB _ _ _ _ _ _ 14 #[false, false, false, false, false, false, false, false, false, false, false, false, false, false] _ _;iterate 4 (refine nbF (v := ?_) rfl rfl hHeld ?_ ?_; rotate_left; (· (intro w'; go_simp; try with_reducible rfl)); (try simp only [nx, List.set]))
         (refine nbT (v := ?_) rfl rfl hHeld ?_ ?_; rotate_left; (· (intro w' hSw; obtain ⟨z0, z1, z2⟩ := hSw; go_simp; try with_reducible rfl)); (try simp only [nx, List.set]));(refine nbF (v := ?_) rfl rfl hHeld ?_ ?_; rotate_left; (· (intro w'; go_simp; try with_reducible rfl)); (try simp only [nx, List.set]));(refine nbT (v := ?_) rfl rfl hHeld ?_ ?_; rotate_left; (· (intro w' hSw; obtain ⟨z0, z1, z2⟩ := hSw; go_simp; try with_reducible rfl)); (try simp only [nx, List.set]));iterate 2 (refine nbF (v := ?_) rfl rfl hHeld ?_ ?_; rotate_left; (· (intro w'; go_simp; try with_reducible rfl)); (try simp only [nx, List.set]))
         refine heldB_call (i := 9) rfl (by kernel_rfl) (by kernel_rfl) (fun K hK => ?_);go_simp;(try dsimp only);refine hK.out _ _ ?_ (fun hHeld' => ?_)
         ·(try dsimp only);exact ⟨(BX.out.cell (lt_of_cell C2.out)).trans C2.out, (BX.out.cell (lt_of_cell Y1.out)).trans Y1.out, (BX.out.cell (lt_of_cell Y2.out)).trans Y2.out⟩
         clear hK K hHeld;have hHeld := hHeld';clear hHeld';(try simp only [Act.put, List.setIfInBounds_toArray, List.set_cons_zero, List.set_cons_succ]);refine heldB_call (i := 10) rfl (by kernel_rfl) (by kernel_rfl) (fun K hK => ?_);refine oper_append_elem _ (by rfl) _ _ _ (by rfl) B 43 _ 5 80 Tryz.underlying32 info_ev (by rfl) (by omega) (.slice v11.Ae m v11.ce) m (ews v11.xs) (by rfl) (own_go OE.out BX.out) (ewCells ⟨⟨0, el.name, as9, []⟩, A9, c9⟩) rfl (ev_one _) W12.heap.size KX.out (by rfl) (by unfold maxLen; have := Hml.out; omega) (by have := Hml.out; omega) (Nat.le_trans HB12.out BX.out.size) ?_;intro g8 cap8 w10 hown8 hgrow8 hlt8;have HO8 := hide hown8;have HG8 := hide hgrow8;have MT10 := hide (show MovT B 43 W12 w10 from (MovT.of_below BX.out).trans (.grown hgrow8 fun j hj => own_isT (own_go OE.out BX.out) j hj));clear hown8 hgrow8 hlt8;(try dsimp only);have PB10 := hide (MT10.out.blk I12.out.blk (by decide));have K10 := hide (MT10.out.blk E12.out (by decide));have c2' : w10.cell? ⟨P, 2, none⟩ = some (.slice v11.Ae m v11.ce) := by rw [← Hm.out]; exact PB10.out.cell 2
         refine hK.out _ _ ?_ (fun hHeld' => ?_)
         ·(try dsimp only);exact ⟨c2', K10.out.cell 1, K10.out.cell 2⟩
         clear hK K hHeld;have hHeld := hHeld';clear hHeld';(try simp only [Act.put, List.setIfInBounds_toArray, List.set_cons_zero, List.set_cons_succ]);iterate 2 (refine nbF (v := ?_) rfl rfl hHeld ?_ ?_; rotate_left; (· (intro w'; go_simp; try with_reducible rfl)); (try simp only [nx, List.set]))
         have f2 := PB10.out.frozen 2;refine heldB_last (i := 13) rfl (by kernel_rfl) (by kernel_rfl) (by kernel_rfl) (fun K hK => ?_);go_simp;(try dsimp only);refine hK.out _ _ ?_;clear hK K;(try simp only [Act.put, List.setIfInBounds_toArray, List.set_cons_zero, List.set_cons_succ]);refine heldB_done (by kernel_rfl) ?_ _;have i14 := I12.out.setE (x := ⟨⟨0, el.name, as9, []⟩, A9, c9⟩) MT10.out (by rw [Hm.out]; exact HO8.out) (in_own O12.out HB.out);rw [Hm.out] at i14;have I14 := hide i14;have M14 := hide ((M12.out.trans (MT10.out.dmov (.inr (.inr rfl)))).setCell (p := ⟨P, 2, none⟩) (.inl rfl) (.slice (some ⟨g8, 0, none⟩) (m + 1) cap8));have t3 := (tok_cells ((MT10.out.blk K12.out (by decide)).far (p := ⟨P, 2, none⟩) (Nat.ne_of_gt HTP.out) (.slice (some ⟨g8, 0, none⟩) (m + 1) cap8))).2.2.2.1
         have Hd14 := hide (show Dst.st ⟨d.open_ ++ [el], sc, d.all ++ [⟨0, el.name, as9, []⟩], [], true⟩ = started d.st t by
          rw [← Hstd.out];unfold startedW;rw [HelO.out]
          have hev : evOf t (sc1 d.st t) = ⟨0, el.name, as9, []⟩ := by
           unfold evOf;rw [Has9.out, ← HelO.out];rfl
          rw [hev, put_other (by simp), ← Hscs.out]
          rfl)
         have Hnt := hide (show Dst.Nt ⟨d.open_ ++ [el], sc, d.all ++ [⟨0, el.name, as9, []⟩], [], true⟩ from ⟨fun y hy => by
          simp only [List.getLast?_append, List.getLast?_singleton, Option.some_or, Option.some.injEq] at hy;subst hy
          simp, fun _ => rfl⟩)
         have HC := hide (dclose_any B P (w10.setCell ⟨P, 2, none⟩ (.slice (some ⟨g8, 0, none⟩) (m + 1) cap8)) ⟨d.open_ ++ [el], sc, d.all ++ [⟨0, el.name, as9, []⟩], [], true⟩ none _ I14.out (Nat.le_trans HB.out M14.out.size) (by have := Hevl.out; show (d.all ++ [_]).length ≤ _; rw [List.length_append, List.length_singleton]; omega)
          (by have := Hopl.out; have := He2.out.2.2; show (d.open_ ++ [_]).length ≤ _; rw [List.length_append, List.length_singleton]; omega)
          (fun x hx => by
           have hg := sc1_ge d.st t;rw [← Hscs.out] at hg;rw [scope_is] at hg
           rcases List.mem_append.1 hx with hx | hx
           ·exact Nat.le_trans (Hk.out.ok.in_ x hx) hg
           rw [List.mem_singleton.1 hx, ← Hel.out]; exact hg) (by show d.open_ ++ [_] ≠ []; simp))
         obtain ⟨te, hte⟩ : ∃ te, t.empty = te := ⟨_, rfl⟩;rw [hte] at t3;have Hte := hide hte;clear i14 c2' f2 hte
         cases te with
         | false =>
          go_wp2;go_end0;unfold DStep;rw [Hst.out, Hte.out];exact ⟨rfl, M14.out, _, _, I14.out, Hd14.out, Hnt.out⟩
         | true =>
          go_wp2_with fail
          refine HC.out.mono ?_;rintro e w14 ⟨rfl, h2, v14, h1⟩;have P14 := hide h1;have M15 := hide (M14.out.trans h2);clear h1 h2;dsimp only
          rename_i hK0
          refine hK0 _ _ ?_;clear hK0;go_wp2;go_end0;unfold DStep;rw [Hst.out, Hte.out];exact ⟨rfl, M15.out, _, v14, P14.out, by rw [closeD_st, Hd14.out]; rfl, closeD_nt (by show d.open_ ++ [_] ≠ []; simp)⟩
end
end Go.Proofs.YtbbpkcddifmieaaGreatDoor
