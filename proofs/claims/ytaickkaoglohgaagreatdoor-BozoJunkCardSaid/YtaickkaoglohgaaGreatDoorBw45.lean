/- Bozo: Parse. · Strict: a token's step: the program's start, end, text, data, skip. · Strict: the program's Parse. · Strict: events in memory; Well; what the laws' wake-up asks. -/
import Derived.Test.YtaickkaoglohgaaGreatDoorBw16
import Derived.Test.YtaickkaoglohgaaGreatDoorBw28
import Derived.Test.YtaickkaoglohgaaGreatDoorBw32
import Derived.Test.YtaickkaoglohgaaGreatDoorBw37
import Derived.Test.YtaickkaoglohgaaGreatDoorBw44
import Derived.Laws.EntriesVeiled
set_option linter.unusedSimpArgs false
set_option linter.unusedVariables false
namespace Go.Proofs.YtaickkaoglohgaaGreatDoor
section
open Go.RowKit Tk Sx

def ParseB (w : World) (r : Except Nat (List Ev × List Rsn)) (e : Ending) (w' : World) : Prop := Below w.heap.size w w' ∧ match r with
 | .error x => e = .returned (.tuple #[.slice none 0 0, .slice none 0 0, .int .i64 (x : Int)])
 | .ok (evs, rs) => ∃ xs A c Ar cr, xs.map (·.e) = evs ∧ e = .returned (.tuple #[.slice A xs.length c, .slice Ar rs.length cr, .int .i64 0]) ∧ xs.length ≤ c ∧ rs.length ≤ cr ∧ Reads w' w'.heap.size 5 A xs.length (ews xs) ∧ Above w.heap.size A ∧ Typed w' A 40 ∧ (∀ x ∈ xs, x.In w.heap.size w') ∧ Reads w' w'.heap.size 2 Ar rs.length (rss rs)
theorem PB.zero (B : Nat) (w : World) (l : L) (hB : B ≤ w.heap.size) : PB B w.heap.size (w.alloc (.cells #[.string (bstr l), .int .i64 0, .slice none 0 0, .slice none 0 0, .slice none 0 0, .slice none 0 0, .bool false, .bool false, .int .i64 0] 62)) (Bz.b0 l) ⟨none, 0, none, 0, none, 0, none, 0, []⟩ :=
 ⟨Blk.new w 62 _, hB, World.ownsRow_nil _ _ _ _, World.ownsRow_nil _ _ _ _, World.ownsRow_nil _ _ _ _, World.ownsRow_nil _ _ _ _, rfl, fun x hx => (by cases hx)⟩
theorem Bz.behind_len : ∀ (f : Nat) (p : Bs), (Bz.behind f p).rs.length ≤ p.rs.length + 1
 | 0, _ => Nat.le_succ _
 | f + 1, p => by
  rw [behind_step];split
  ·rename_i h
   simp only [Bool.and_eq_true] at h;have h1 := Bz.behind_len f (Bz.skipB 4 [45, 45, 62] (Bz.untilB Bz.solid p)).2;rw [(skip_found h.2).1] at h1;exact h1
  split
  ·rename_i h
   simp only [Bool.and_eq_true] at h;have h1 := Bz.behind_len f (Bz.skipB 2 [63, 62] (Bz.untilB Bz.solid p)).2;rw [(skip_found h.2).1] at h1;exact h1
  split
  ·rw [Bz.mend_rs]; exact Nat.le_refl _
  exact Nat.le_succ _
def Bz.more (p : Bs) : Bool := decide (p.l ≠ [] ∧ p.e = 0 ∧ (p.st.rooted = false ∨ p.st.open_ ≠ []))
theorem go_step (f : Nat) (p : Bs) : Bz.go (f + 1) p = if Bz.more p = true then Bz.go f (Bz.piece p) else p := by
 rw [Bz.go];unfold Bz.more;simp only [decide_eq_true_eq]
theorem rss_take (l : List Rsn) (k : Nat) : rss (l.take k) = (rss l).take (k * 2) := by
 unfold rss;rw [fm_take (m := 2) (fun _ => rfl)]
set_option maxRecDepth 100000 in
set_option maxHeartbeats 32000000 in
theorem bparse_any (l : L) (w : World) (hg : Gm w) (hw6 : 6 ≤ w.heap.size) (hl : l.length ≤ 5000) :
  Calls Tryz.prog 7 #[.string (bstr l)] w (ParseB w (Bz.parse l)) := by
 have HG := hide hg;have H6 := hide hw6;have hsz : (bstr l).size = l.length := bstr_size l;obtain ⟨R, hR⟩ : ∃ R, Bz.parse l = R := ⟨_, rfl⟩;rw [hR];unfold Bz.parse at hR;obtain ⟨N, hN⟩ : ∃ N, l.length = N := ⟨_, rfl⟩;have HN := hide hN;rw [hN] at hR hl hsz;obtain ⟨G, hG⟩ : ∃ G, Bz.go (N + 1) (Bz.b0 l) = G := ⟨_, rfl⟩;rw [hG] at hR;have HGo := hide hG;have HR := hide hR;have I0 := hide (PB.zero w.heap.size w l (Nat.le_refl _));have BA := hide (below_alloc w (.cells #[.string (bstr l), .int .i64 0, .slice none 0 0, .slice none 0 0, .slice none 0 0, .slice none 0 0, .bool false, .bool false, .int .i64 0] 62));obtain ⟨W1, hW1⟩ : ∃ W1, w.alloc (.cells #[.string (bstr l), .int .i64 0, .slice none 0 0, .slice none 0 0, .slice none 0 0, .slice none 0 0, .bool false, .bool false, .int .i64 0] 62) = W1 := ⟨_, rfl⟩;rw [hW1] at I0 BA;obtain ⟨B, hB⟩ : ∃ B, w.heap.size = B := ⟨_, rfl⟩;have HBe := hide hB;rw [hB] at I0;have D0 := hide (show Gd B W1 from ⟨by rw [← hB]; exact BA.out.size, by rw [← hB]; exact hw6, hg.below BA.out⟩);have Hl := hide hl;clear hg hw6 hG hR hN
 go_enter Tryz.func7, Tryz.ntmps7
 go_wp2;(try rw [hW1]);(try rw [hB]);clear hW1 hB
 go_loopg [] (N + 1) (fun gk wr => ∃ (f : Nat) (q : Bs) (vq : Bv), gk = f ∧ PB B B wr q vq ∧ BMov B B W1 wr ∧ Bz.go f q = G ∧ q.l.length < f ∧ Bz.OkB N q)
 case atStart => exact ⟨N + 1, Bz.b0 l, _, rfl, I0.out, .refl B B W1, HGo.out, by show l.length < _; rw [HN.out]; omega, by rw [← HN.out]; exact Bz.okB0 l⟩
 case round =>
  obtain ⟨f, q, vq, hgk, hq, hm, hgo, hf, hok⟩ := hrel;obtain ⟨f, rfl⟩ : ∃ g, f = g + 1 := ⟨f - 1, by omega⟩;have Hg := hide hgk;have Hq := hide hq;have Hm := hide hm;have Hok := hide hok;have Hf := hide hf;rw [go_step] at hgo;have z0 := hq.cell.1;have z2 := hq.cell.2.2.1;have z6 := hq.cell.2.2.2.2.2.2.1;have z8 := hq.cell.2.2.2.2.2.2.2.2;obtain ⟨D, hD⟩ : ∃ D, q.l = D := ⟨_, rfl⟩;obtain ⟨no, hno⟩ : ∃ n, q.st.open_.length = n := ⟨_, rfl⟩;obtain ⟨ro, hro⟩ : ∃ r, q.st.rooted = r := ⟨_, rfl⟩;obtain ⟨ee, hee⟩ : ∃ r, q.e = r := ⟨_, rfl⟩;rw [hD] at z0;rw [hno] at z2;rw [hro] at z6;rw [hee] at z8;have HDD := hide hD;have Hno := hide hno;have Hro := hide hro;have Hee := hide hee;obtain ⟨mo, hmo⟩ : ∃ m, Bz.more q = m := ⟨_, rfl⟩;rw [hmo] at hgo
  have hmo2 : mo = decide (D ≠ [] ∧ ee = 0 ∧ (ro = false ∨ no ≠ 0)) := by
   rw [← hmo];unfold Bz.more;rw [hD, hro, hee, ← hno];have : (q.st.open_ ≠ []) ↔ (q.st.open_.length ≠ 0) := by simp
   simp only [this]
  have Hmo := hide hmo;have Hmo2 := hide hmo2;have Hgo := hide hgo;clear hgk hq hm hok hf hgo hD hno hro hee hmo hmo2 I0
  go_upto_region 2 with fail
  go_cut [35] (fun s wx => s = .bool mo ∧ wx = wr)
  case first =>
   cases D with
   | nil =>
    have hemp2 : (bstr ([] : L)).toList.isEmpty = true := by rw [ByteArray.toList_eq, bstr_list]; rfl
    have hempt : ((bstr ([] : L)).toList == ([] : L)) = true := lit_eq (bstr []) [];go_wp2;(try simp only [Exit.then]);(try refine Met.intro ?_)
    first
     | (rename_i hJ hM; refine hM _ _ (Met.intro ?_); refine hJ _ _ ?_)
     | (rename_i hJ; refine hJ _ _ ?_)
     | (rename_i hJ hT; refine hJ _ _ ?_)
     | (rename_i hJ hT hT2; refine hJ _ _ ?_)
     | (rename_i hJ hT hT2 hT3; refine hJ _ _ ?_)
    (repeat apply Exists.intro);exact ⟨⟨by rw [Hmo2.out]; simp, rfl⟩, rfl⟩
   | cons ch r =>
    have hemp2 : (bstr (ch :: r : L)).toList.isEmpty = false := by rw [ByteArray.toList_eq, bstr_list]; rfl
    have hempt : ((bstr (ch :: r : L)).toList == ([] : L)) = false := lit_eq (bstr (ch :: r)) []
    by_cases he : ee = 0
    ·have Hee0 := hide he;have hee : ((ee : Int) == 0) = true := by rw [beq_iff_eq]; omega
     have hez : (ee : Int) = 0 := by omega
     clear he
     cases ro with
     | false =>
      go_wp2;(try simp only [Exit.then]);(try refine Met.intro ?_)
      first
       | (rename_i hJ hM; refine hM _ _ (Met.intro ?_); refine hJ _ _ ?_)
       | (rename_i hJ; refine hJ _ _ ?_)
       | (rename_i hJ hT; refine hJ _ _ ?_)
       | (rename_i hJ hT hT2; refine hJ _ _ ?_)
       | (rename_i hJ hT hT2 hT3; refine hJ _ _ ?_)
      (repeat apply Exists.intro);exact ⟨⟨by rw [Hmo2.out]; simp [Hee0.out], rfl⟩, rfl⟩
     | true =>
      by_cases hn : 0 < no
      ·go_wp2;(try simp only [Exit.then]);(try refine Met.intro ?_)
       first
        | (rename_i hJ hM; refine hM _ _ (Met.intro ?_); refine hJ _ _ ?_)
        | (rename_i hJ; refine hJ _ _ ?_)
        | (rename_i hJ hT; refine hJ _ _ ?_)
        | (rename_i hJ hT hT2; refine hJ _ _ ?_)
        | (rename_i hJ hT hT2 hT3; refine hJ _ _ ?_)
       (repeat apply Exists.intro);exact ⟨⟨by rw [Hmo2.out]; simp [Hee0.out]; omega, rfl⟩, rfl⟩
      have Hn0 := hide (show no = 0 by omega);have hn0 : decide ((0 : Int) < (no : Int)) = false := decide_eq_false (by omega);go_wp2;(try simp only [Exit.then]);(try refine Met.intro ?_)
      first
       | (rename_i hJ hM; refine hM _ _ (Met.intro ?_); refine hJ _ _ ?_)
       | (rename_i hJ; refine hJ _ _ ?_)
       | (rename_i hJ hT; refine hJ _ _ ?_)
       | (rename_i hJ hT hT2; refine hJ _ _ ?_)
       | (rename_i hJ hT hT2 hT3; refine hJ _ _ ?_)
      (repeat apply Exists.intro);exact ⟨⟨by rw [Hmo2.out]; simp [Hee0.out, Hn0.out], rfl⟩, rfl⟩
    have Hee0 := hide he;have hee : ((ee : Int) == 0) = false := by rw [beq_eq_false_iff_ne]; omega
    have hez : ¬ (ee : Int) = 0 := by omega
    clear he;go_wp2;(try simp only [Exit.then]);(try refine Met.intro ?_)
    first
     | (rename_i hJ hM; refine hM _ _ (Met.intro ?_); refine hJ _ _ ?_)
     | (rename_i hJ; refine hJ _ _ ?_)
     | (rename_i hJ hT; refine hJ _ _ ?_)
     | (rename_i hJ hT hT2; refine hJ _ _ ?_)
     | (rename_i hJ hT hT2 hT3; refine hJ _ _ ?_)
    (repeat apply Exists.intro);exact ⟨⟨by rw [Hmo2.out]; simp [Hee0.out], rfl⟩, rfl⟩
  case rest =>
   obtain ⟨rfl, hwc⟩ := hcut;have hc2 := hwc.symm;clear hwc;subst hc2
   cases mo with
   | true =>
    have hgo := Hgo.out;simp only [if_true] at hgo;have Hgo2 := hide hgo;have hne : q.l ≠ [] := by have h := Hmo.out; unfold Bz.more at h; exact (of_decide_eq_true h).1
    have hokp := Bz.okB_piece Hok.out hne;have Hokp := hide hokp
    have HP := hide (bpiece_any B B wr q vq Hq.out (D0.out.bmov Hm.out (Nat.le_refl _)) (by
      have h1 := Hok.out.ok;have h2 := Hok.out.at_;have h3 := Hl.out;exact Bz.ok_more h1 (by omega) (by omega)) (by have h2 := Hok.out.at_; have h3 := Hl.out; omega) (by have h1 := Hok.out.rs; have h2 := Hok.out.at_; have h3 := Hl.out; omega) hne (fun d hd => by have h1 := Hok.out.ns d hd; have h3 := Hl.out; omega))
    clear hgo hne hokp z0 z2 z6 z8
    go_wp2_with fail
    refine HP.out.mono ?_;rintro e w2 ⟨rfl, m2, v2, p2⟩;have M2 := hide m2;have P2 := hide p2;clear m2 p2;go_wp2
    go_roundg f
    case measure => have := Hg.out; omega
    case rel => exact ⟨f, _, v2, rfl, P2.out, Hm.out.trans M2.out, Hgo2.out, by have := Hokp.out.2; have := Hf.out; omega, Hokp.out.1⟩
   | false =>
    have hgo := Hgo.out;simp only [Bool.false_eq_true, if_false] at hgo;have HqG := hide hgo;have hR := HR.out;rw [← hgo] at hR;unfold Bz.fin at hR;rw [Hee.out, Hro.out] at hR;obtain ⟨q2, hq2⟩ : ∃ q2, (if q.st.open_ = [] then Bz.behind (q.l.length + 1) q else q) = q2 := ⟨_, rfl⟩;have Hq2 := hide hq2
    have Hsame := hide (show q2.st = q.st ∧ q2.rs.length ≤ q.rs.length + 1 by
     rw [← hq2];split
     ·exact ⟨(Bz.behind_st _ _).1, Bz.behind_len _ _⟩
     exact ⟨rfl, Nat.le_succ _⟩)
    have Hno16 := hide (show no ≤ 16 by rw [← Hno.out]; exact Hok.out.ok.op);have HRf := hide hR;clear hgo z0 hR hq2
    go_upto_block 2 with fail
    go_cut [] (fun wx => ee = 0 ∧ ro = true ∧ ∃ v, PB B B wx q2 v ∧ BMov B B W1 wx)
    case first =>
     by_cases he : ee = 0
     ·have hez : (ee : Int) = 0 := by omega
      have hee : ((ee : Int) == 0) = true := by rw [beq_iff_eq]; exact hez
      have hee2 : ((ee : Int) != 0) = false := by rw [bne, hee]; rfl
      have Hee0 := hide he;clear he
      cases ro with
      | false =>
       have HRE := hide (show (.error 43 : Except Nat (List Ev × List Rsn)) = R by have h := HRf.out; rw [if_neg (by simp [Hee0.out])] at h; simpa using h);go_wp2;go_ret3;rw [← HRE.out];exact ⟨(BA.out.trans ((Hm.out.below (C := B) (Nat.le_refl _) (Nat.le_refl _) D0.out.hB).mono (by rw [HBe.out]; exact Nat.le_refl _))), rfl⟩
      | true =>
       by_cases hn : no = 0
       ·have hn2 : ((no : Int) == 0) = true := by rw [beq_iff_eq]; omega
        have hq2 := Hq2.out;rw [if_pos (List.eq_nil_of_length_eq_zero (by rw [Hno.out]; exact hn))] at hq2;have HBh := hide (bbehind_any B B wr q vq Hq.out (D0.out.bmov Hm.out (Nat.le_refl _)) (by have h2 := Hok.out.at_; have h3 := Hl.out; omega) (by have h1 := Hok.out.rs; have h2 := Hok.out.at_; have h3 := Hl.out; omega));rw [hq2] at HBh;clear hq2;subst hn
        go_wp2_with fail
        refine HBh.out.mono ?_;rintro e w2 ⟨rfl, m2, v2, p2⟩;have M2 := hide (Hm.out.trans m2);have P2 := hide p2;clear m2 p2;dsimp only
        rename_i hM KK hK0 hJ
        refine hK0 _ _ ?_;clear hK0 KK;go_wp2;(try simp only [Exit.then]);(try refine hM _ _ (Met.intro ?_));refine hJ _ _ ?_;(repeat apply Exists.intro);exact ⟨⟨Hee0.out, trivial, v2, P2.out, M2.out⟩, rfl⟩
       have hn2 : ((no : Int) == 0) = false := by rw [beq_eq_false_iff_ne]; omega
       have hq2 := Hq2.out;rw [if_neg (fun h => hn (by rw [← Hno.out, h]; rfl))] at hq2;have P2 := hide (show PB B B wr q2 vq by rw [← hq2]; exact Hq.out);have hn3 : ¬ (no : Int) = 0 := by omega
       clear hq2;go_wp2;(try simp only [Exit.then]);(try refine Met.intro ?_)
       first
        | (rename_i hJ hM; refine hM _ _ (Met.intro ?_); refine hJ _ _ ?_)
        | (rename_i hJ; refine hJ _ _ ?_)
        | (rename_i hJ hT; refine hJ _ _ ?_)
       (repeat apply Exists.intro);exact ⟨⟨Hee0.out, trivial, vq, P2.out, Hm.out⟩, rfl⟩
     have hez : ¬ (ee : Int) = 0 := by omega
     have hee : ((ee : Int) == 0) = false := by rw [beq_eq_false_iff_ne]; exact hez
     have hee2 : ((ee : Int) != 0) = true := by rw [bne, hee]; rfl
     have HRE := hide (show (.error ee : Except Nat (List Ev × List Rsn)) = R by have h := HRf.out; rw [if_pos he] at h; exact h);go_wp2
     go_quiet (fail)
     go_wp2;go_ret3;rw [← HRE.out];exact ⟨below_drewN (BA.out.trans ((Hm.out.below (C := B) (Nat.le_refl _) (Nat.le_refl _) D0.out.hB).mono (by rw [HBe.out]; exact Nat.le_refl _))) _, rfl⟩
    case rest =>
     obtain ⟨he, rfl, v3, p3, m3⟩ := hcut;have P3 := hide p3;have M3 := hide m3;have D3 := hide (D0.out.bmov m3 (Nat.le_refl _));have hR := HRf.out;rw [if_neg (by simp [he]), if_neg (by simp)] at hR;dsimp only at hR;rw [Hq2.out] at hR;have HRE := hide hR;have Hno2 := hide (show q2.st.open_.length = no by rw [Hsame.out.1]; exact Hno.out);clear p3 m3 he hR z2 z6 z8;go_wp2
     go_loopg [] no (fun gk wx => ∃ (q' : Bs) (vq' : Bv) (r : Nat), gk = r ∧ PB B B wx q' vq' ∧ BMov B B W1 wx ∧ q'.st.open_.length = r ∧ Bz.closeN N r q' = Bz.closeN N no q2 ∧ Ok q'.st (900000016 - r) 10000000000000000 ∧ q'.rs.length + r ≤ 900000000)
     case atStart => exact ⟨q2, v3, no, rfl, P3.out, M3.out, Hno2.out, rfl, (by
       rw [Hsame.out.1];have h1 := Hok.out.ok;have h2 := Hok.out.at_;have h3 := Hl.out;have h4 := Hno16.out;exact Bz.ok_more h1 (by omega) (by omega)), (by have h1 := Hok.out.rs; have h2 := Hok.out.at_; have h3 := Hl.out; have h4 := Hno16.out; have h5 := Hsame.out.2; omega)⟩
     case round =>
      obtain ⟨q', vq', r, hgk2, hq1, hq2', hq3, hq4, hq5, hq6⟩ := hrel;have Hg2 := hide hgk2;have Q1 := hide hq1;have Q2 := hide hq2';have Q3 := hide hq3;have Q4 := hide hq4;have Q5 := hide hq5;have Q6 := hide hq6;have cq2 := hq1.cell.2.2.1;rw [hq3] at cq2;clear hgk2 hq1 hq2' hq3 hq4 hq5 hq6
      cases r with
      | zero =>
       have hnl : decide ((0 : Int) < ((0 : Nat) : Int)) = false := decide_eq_false (by omega);have c4 := Q1.out.cell.2.2.2.2.1;have c5 := Q1.out.cell.2.2.2.2.2.1;obtain ⟨ne, hne⟩ : ∃ n, vq'.xs.length = n := ⟨_, rfl⟩;obtain ⟨nr, hnr⟩ : ∃ n, q'.rs.length = n := ⟨_, rfl⟩;rw [hne] at c4;rw [hnr] at c5;have Hne := hide hne;have Hnr := hide hnr;have HK := hide (fun W => bkeep_any vq'.Ar nr vq'.cr W (by rw [← hnr]; exact own_cap Q1.out.r) (by rw [← hnr]; have := Q6.out; omega));clear hne hnr;go_wp2
       go_quiet ((go_at_call 20; refine Calls.quiet_of_same (HK.out _)))
       go_wp2;go_ret3
       rename_i nq
       have BQ := below_drewN (Below.refl wr.heap.size wr) nq;have p9 := Q1.out.go BQ;have m9 := Q2.out.go BQ;generalize wr.drewN nq = W9 at *
       have hcl : Bz.closeN N no q2 = q' := Q4.out.symm;have hRE := HRE.out;rw [Hno2.out, hcl] at hRE;subst hRE;have hmn : (q'.rs.take 8).length = min nr 8 := by rw [List.length_take, Hnr.out, Nat.min_comm]
       have hBw : B ≤ w.heap.size := by rw [HBe.out]; exact Nat.le_refl _
       have hwB : w.heap.size ≤ B := by rw [HBe.out]; exact Nat.le_refl _
       refine ⟨BA.out.trans ((m9.below (C := B) (Nat.le_refl _) (Nat.le_refl _) D0.out.hB).mono (by rw [HBe.out]; exact Nat.le_refl _)), vq'.xs, vq'.Ae, vq'.ce, vq'.Ar, min nr 8, p9.ev, by rw [hmn, Hne.out]; rfl, own_cap p9.e, Nat.le_of_eq hmn, Reads.of_own p9.e, (above_own p9.e).more hwB, typed_own p9.e, fun x hx => ⟨(p9.inn x hx).a, (p9.inn x hx).va.more hwB, (p9.inn x hx).ta⟩, ?_⟩;rw [hmn];have h8 := own_take p9.r (k := min nr 8) (by rw [Hnr.out]; omega);have hrl : (rss q'.rs).length = nr * 2 := by rw [p9.r.1, Hnr.out]
       have htk : (rss q'.rs).take (8 * 2) = (rss q'.rs).take (min nr 8 * 2) := by
        by_cases h : nr ≤ 8
        ·rw [Nat.min_eq_left h, List.take_of_length_le (by omega), List.take_of_length_le (by omega)]
        rw [Nat.min_eq_right (by omega)]
       rw [rss_take, htk];exact Reads.of_own h8
      | succ r =>
       have hgt : decide ((0 : Int) < ((r + 1 : Nat) : Int)) = true := decide_eq_true (by omega);have HM := hide (bmend_any B B wr q' vq' 11 N Q1.out (Nat.le_trans D0.out.hB Q2.out.size) (by have := Q6.out; omega));have HCl := hide (fun W v7 (h7 : PB B B W (Bz.mend 11 N q') v7) (hB7 : B ≤ W.heap.size) => bclose_any B B W (Bz.mend 11 N q') v7 h7 hB7 ⟨Q5.out.op, Nat.le_trans Q5.out.sc (by omega), Nat.le_trans Q5.out.ev (by omega), fun y hy => Nat.le_trans (Q5.out.tx y hy) (by omega), Q5.out.in_, Q5.out.srt⟩ (by intro e0; have h9 := Q3.out; have e1 : q'.st.open_ = [] := e0; rw [e1] at h9; simp at h9))
       go_wp2_with fail
       refine HM.out.mono ?_;rintro e w7 ⟨rfl, m7, v7, p7⟩;have M7 := hide (Q2.out.trans m7);have P7 := hide p7;clear m7 p7
       go_wp2_with fail
       refine (HCl.out w7 v7 P7.out (Nat.le_trans D0.out.hB M7.out.size)).mono ?_;rintro e w8 ⟨rfl, m8, v8, p8⟩;have M8 := hide (M7.out.trans m8);have P8 := hide p8;clear m8 p8;go_wp2
       go_roundg r
       case measure => have := Hg2.out; omega
       case rel => exact ⟨_, v8, r, rfl, P8.out, M8.out, (by show (closeSt q'.st).open_.length = _; rw [Bz.close_open, List.length_dropLast, Q3.out]; omega), Q4.out, (by have h9 := ok_close Q5.out; rw [show 900000016 - (r + 1) + 1 = 900000016 - r by have := Q6.out; omega] at h9; exact h9), (by show (Bz.mend 11 N q').rs.length + r ≤ _; rw [Bz.mend_rs]; have := Q6.out; omega)⟩
end
section
open Go.RowKit Tk Sx

theorem sskip_any (B P : Nat) (w : World) (st : St) (v : Pv) (b o : Nat) (t : Tok) (h : PI B P w st none v) :
  Calls Tryz.prog 15 #[.pointer (some ⟨P, 0, none⟩), .pointer (some ⟨b, o, none⟩)] w (StepR B P w (.ok st)) := by
 go_enter Tryz.func15, Tryz.ntmps15
 go_wp2;go_end0;exact ⟨rfl, Mov.refl _ _ _, _, h⟩
theorem sstart_any (B P : Nat) (w : World) (st : St) (v : Pv) (b o : Nat) (t : Tok) (At_ : Option Addr) (ct : Nat) (h : PI B P w st none v) (hB : B ≤ w.heap.size) (h6 : 6 ≤ B) (hg : Gl w) (ht : TkB B w b o t)
  (hta : w.cell? ⟨b, o + 2, none⟩ = some (.slice At_ t.attrs.length ct)) (hr : Reads w B 3 At_ t.attrs.length (gas (t.attrs.map At.g))) (hs : TokS 100000 t) (hk : OkS st 90000000 100000000000000000 1000000) :
  Calls Tryz.prog 11 #[.pointer (some ⟨P, 0, none⟩), .pointer (some ⟨b, o, none⟩)] w (StepR B P w (Sx.start st t)) := by
 cases he : Sx.early st t with
 | some x =>
  rw [show Sx.start st t = .error x by unfold Sx.start; rw [he]];exact start_early B P w st v b o t At_ ct h hB h6 hg ht hta hr (Nat.le_trans hs.ats (by decide)) (Nat.le_trans hs.nm (by decide)) (fun a ha => Nat.le_trans (hs.an a ha).1 (by decide)) x he
 | none => exact start_late B P w st v b o t At_ ct h hB h6 hg ht hta hr hs.nm hs.an hk.ok hk.ns he
def fnK (k : Int) : Nat := if k = 0 then 11 else if k = 1 then 12 else if k = 2 then 13 else if k = 3 then 14 else 15
theorem step_any (B P : Nat) (w : World) (st : St) (v : Pv) (b o : Nat) (t : Tok) (At_ : Option Addr) (ct : Nat) (h : PI B P w st none v) (hB : B ≤ w.heap.size) (h6 : 6 ≤ B) (hg : Gl w) (ht : TkB B w b o t)
  (hta : w.cell? ⟨b, o + 2, none⟩ = some (.slice At_ t.attrs.length ct)) (hr : Reads w B 3 At_ t.attrs.length (gas (t.attrs.map At.g))) (hs : TokS 100000 t) (hk : OkS st 90000000 100000000000000000 1000000) :
  Calls Tryz.prog (fnK t.kind) #[.pointer (some ⟨P, 0, none⟩), .pointer (some ⟨b, o, none⟩)] w (StepR B P w (Sx.step st t)) := by
 have hk1 : Ok st 1000000000 100000000000000000 := Ok_up hk.ok (by decide);unfold fnK Sx.step;split
 ·exact sstart_any B P w st v b o t At_ ct h hB h6 hg ht hta hr hs hk
 split
 ·exact send_any B P w st v b o t h hB hk1 ht
 split
 ·exact stext_any B P w st v b o t h hB hk1 ht hs.tx
 split
 ·exact data_any B P w st v b o t h hB hk1 ht (Nat.le_trans hs.tx (by decide))
 exact sskip_any B P w st v b o t h
end
section
open Go.RowKit Tk Sx

def ParseR (w : World) (r : Except (Nat × Nat) (List Ev)) (e : Ending) (w' : World) : Prop := Below w.heap.size w w' ∧ match r with
 | .error x => e = .returned (.tuple #[.slice none 0 0, .int .i64 (x.1 : Int), .int .i64 (x.2 : Int)])
 | .ok evs => ∃ xs A c, xs.map (·.e) = evs ∧ e = .returned (.tuple #[.slice A xs.length c, .int .i64 (-1), .int .i64 0]) ∧ xs.length ≤ c ∧ Reads w' w'.heap.size 5 A xs.length (ews xs) ∧ Above w.heap.size A ∧ Typed w' A 40 ∧ ∀ x ∈ xs, x.In w.heap.size w'
theorem kind_nat {N : Nat} {t : Tok} (h : TokS N t) : ∃ kn : Nat, t.kind = (kn : Int) ∧ kn < 5 := by
 rcases h.kd with h | h | h | h | h
 ·exact ⟨0, h, by omega⟩
 ·exact ⟨1, h, by omega⟩
 ·exact ⟨2, h, by omega⟩
 ·exact ⟨3, h, by omega⟩
 exact ⟨4, h, by omega⟩
def bound (P : Nat) : Array Value := #[.func (.func 11) #[.pointer (some ⟨P, 0, none⟩)] #[], .func (.func 12) #[.pointer (some ⟨P, 0, none⟩)] #[], .func (.func 13) #[.pointer (some ⟨P, 0, none⟩)] #[], .func (.func 14) #[.pointer (some ⟨P, 0, none⟩)] #[], .func (.func 15) #[.pointer (some ⟨P, 0, none⟩)] #[]]
theorem bound_at {W : World} {K P : Nat} (h : Blk W K 52 (bound P)) {kn : Nat} (hk : kn < 5) : W.cell? ⟨K, kn, none⟩ = some (.func (.func (fnK (kn : Int))) #[.pointer (some ⟨P, 0, none⟩)] #[]) := by
 have c0 := h.cell 0;have c1 := h.cell 1;have c2 := h.cell 2;have c3 := h.cell 3;have c4 := h.cell 4
 match kn, hk with
 | 0, _ => exact c0
 | 1, _ => exact c1
 | 2, _ => exact c2
 | 3, _ => exact c3
 | 4, _ => exact c4
theorem fnK_enter {kn : Nat} (hk : kn < 5) (args : Array Value) (w : World) : (callFunc (fnK (kn : Int)) args).run Tryz.prog w = .ok (.enter (fnK (kn : Int)) args) w := by
 match kn, hk with
 | 0, _ => exact callFunc_body Tryz.func11 (by kernel_rfl) (by kernel_rfl) _ _
 | 1, _ => exact callFunc_body Tryz.func12 (by kernel_rfl) (by kernel_rfl) _ _
 | 2, _ => exact callFunc_body Tryz.func13 (by kernel_rfl) (by kernel_rfl) _ _
 | 3, _ => exact callFunc_body Tryz.func14 (by kernel_rfl) (by kernel_rfl) _ _
 | 4, _ => exact callFunc_body Tryz.func15 (by kernel_rfl) (by kernel_rfl) _ _
theorem PI.zero (B : Nat) (w : World) (hB : B ≤ w.heap.size) : PI B w.heap.size (w.alloc (.cells #[.slice none 0 0, .slice none 0 0, .slice none 0 0, .bool false, .pointer none] 50)) st0 none ⟨none, 0, none, 0, none, 0, .pointer none, []⟩ :=
 ⟨Blk.new w 50 _, hB, World.ownsRow_nil _ _ _ _, World.ownsRow_nil _ _ _ _, World.ownsRow_nil _ _ _ _, rfl, fun x hx => (by cases hx), rfl⟩

theorem allP_toks {s : L} {ts : List Tok} {n : Nat} {ok : Bool} (hf : fine s = true) (h : AllP s ts n ok) : toks s.length 0 s = ts ∧ tokEnd ts = n ∧ ok = decide (n = s.length) := by
 obtain ⟨_, hc, hok⟩ := h.len;have hv := fine_valid hf;have he := ends_all hc;unfold ends at he;rw [List.take_length] at he;rw [hv, Bool.and_true] at hok;unfold AllP at h;rw [if_pos hv] at h;obtain ⟨w, rest, rfl, h1, h2, h3, h4⟩ := h;exact ⟨toks_row h1 (by simpa using h2) _ (Nat.le_refl _), he, hok⟩

set_option maxRecDepth 100000 in
set_option maxHeartbeats 16000000 in
theorem parse_any (s : ByteArray) (w : World) (hg : Gl w) (hw6 : 6 ≤ w.heap.size) (hs : s.size ≤ 100000) :
  Calls Tryz.prog 6 #[.string s] w (ParseR w (Sx.parse s.data.toList)) := by
 have HBd := hide (bad_any s w (by omega));have HT := hide (fun W (h : Below w.heap.size w W) => tks_any W s (hg.below h) (Nat.le_trans hw6 h.size) (by omega));obtain ⟨D, hD⟩ : ∃ D, s.data.toList = D := ⟨_, rfl⟩;rw [hD] at HBd HT ⊢;have HDl := hide (show D.length = s.size by rw [← hD, size_list]);have HG := hide hg;obtain ⟨R, hR⟩ : ∃ R, Sx.parse D = R := ⟨_, rfl⟩;rw [hR];unfold Sx.parse at hR;obtain ⟨bd, hbd⟩ : ∃ bd, bad D = bd := ⟨_, rfl⟩;rw [hbd] at HBd hR;have Hbd := hide hbd;clear hg hD hbd
 by_cases h0 : 0 ≤ bd
 ·rw [if_pos h0] at hR;obtain ⟨k, rfl⟩ : ∃ k : Nat, bd = (k : Int) := ⟨bd.toNat, by omega⟩;have HR := hide hR;have hd : decide ((0 : Int) ≤ (k : Int)) = true := decide_eq_true h0;clear hR h0 HT
  go_enter Tryz.func6, Tryz.ntmps6
  go_wp2_with fail
  refine HBd.out.mono ?_;rintro e w1 ⟨rfl, b1⟩;go_wp2;go_ret3;rw [← HR.out];exact ⟨b1, by simp⟩
 rw [if_neg h0] at hR;have HR := hide hR;have hd : decide ((0 : Int) ≤ bd) = false := decide_eq_false h0;have hbf := bad_fine D;rw [Hbd.out, hd] at hbf;have Hfi := hide (show fine D = true by simpa using hbf);clear hR h0 hbf
 go_enter Tryz.func6, Tryz.ntmps6
 go_wp2_with fail
 refine HBd.out.mono ?_;rintro e w1 ⟨rfl, b1⟩;have B1 := hide b1;clear b1
 go_wp2_with fail
 refine (HT.out _ B1.out).mono ?_;rintro e w2 ⟨xs, A, c, n, ok, hP, hxl, hxc, rfl, b2, hr, -, -, hi⟩;have B2 := hide (B1.out.trans (b2.mono B1.out.size));have HP := hide hP;have HTk := hide (TkL.of hr hi);obtain ⟨N, hN⟩ : ∃ N, xs.length = N := ⟨_, rfl⟩;have HN := hide hN;rw [hN] at hxl hxc ⊢;have Hxl := hide hxl;have Hxc := hide hxc;clear hP hr hi b2 hN hxl hxc
 cases ok with
 | false =>
  go_wp2;go_ret3
  have hRe : R = .error (n, 50) := by
   obtain ⟨h1, h2, h3⟩ := allP_toks Hfi.out HP.out;rw [← HR.out, h1, h2, if_pos (by simpa using h3)]
  rw [hRe];exact ⟨B2.out, rfl⟩
 | true =>
  have I0 := hide ((PI.zero w2.heap.size w2 (Nat.le_refl _)).go (below_alloc _ (.cells (bound w2.heap.size) 52)));have k0 := Blk.new (w2.alloc (.cells #[.slice none 0 0, .slice none 0 0, .slice none 0 0, .bool false, .pointer none] 50)) 52 (bound w2.heap.size);rw [World.size_alloc] at k0;have K0 := hide k0;have T0 := hide (((Below.refl _ w2).alloc (Nat.le_refl _) (.cells #[.slice none 0 0, .slice none 0 0, .slice none 0 0, .bool false, .pointer none] 50)).alloc (by simp) (.cells (bound w2.heap.size) 52));have G2 := hide (HG.out.below B2.out);have H6 := hide (Nat.le_trans hw6 B2.out.size);clear k0;go_wp2;obtain ⟨B, hB⟩ : ∃ B, w2.heap.size = B := ⟨_, rfl⟩;rw [hB] at I0 K0 T0 HTk H6 ⊢;have HB := hide hB;obtain ⟨ts, hts⟩ : ∃ ts, xs.map (·.t) = ts := ⟨_, rfl⟩;rw [hts] at HP;have Hts := hide hts;have HBw := hide (show w.heap.size ≤ B by rw [← hB]; exact B2.out.size);have hN5 : N ≤ 100000 := by have := Hxl.out; have := HDl.out; omega
  clear hB hts
  go_loopg [39] N (fun gk vk wr => ∃ (k : Nat) (st : St) (v : Pv), gk = N - k ∧ k ≤ N ∧ vk = .int .i64 (k : Int) ∧ run st0 (ts.take k) = .ok st ∧ PI B B wr st none v ∧ Blk wr (B + 1) 52 (bound B) ∧ Below B w2 wr ∧ OkS st (18 * k) (400000 * k) 1000000)
  case atStart => exact ⟨0, st0, _, rfl, by omega, rfl, rfl, I0.out, K0.out, T0.out, ⟨⟨by simp [st0], by simp [st0], by simp [st0], by simp [st0], by simp [st0], by simp [st0]⟩, by simp [st0]⟩⟩
  case round =>
   obtain ⟨k, st, v, hgk, hk, rfl, h1, h2, h3, h4, h5⟩ := hrel;have Hg := hide hgk;have H1 := hide h1;have I1 := hide h2;have K1 := hide h3;have T1 := hide h4;have Ok1 := hide h5;clear hgk h1 h2 h3 h4 h5 I0 K0 T0
   by_cases hlt : k < N
   ·obtain ⟨x, hx⟩ : ∃ x, xs[k]? = some x := ⟨_, List.getElem?_eq_getElem (by rw [HN.out]; exact hlt)⟩;obtain ⟨b, off, rfl, hb, hat⟩ := HTk.out.at_ hx;have hxm : x.t ∈ ts := by rw [← Hts.out]; exact List.mem_map_of_mem (List.mem_of_getElem? hx)
    have htk : ts[k]? = some x.t := by rw [← Hts.out, List.getElem?_map, hx]; rfl
    have hsub := HTk.out.sub x.g (List.mem_map_of_mem (List.mem_of_getElem? hx));have hsm := (allP_small HP.out x.t hxm).more (show D.length ≤ 100000 by rw [HDl.out]; exact hs);obtain ⟨kn, hkn, hk5⟩ := kind_nat hsm;have y0 : wr.cell? ⟨b, off + k * 7, none⟩ = some (.int .i8 (kn : Int)) := by rw [← hkn]; exact (T1.out.cell (p := ⟨b, off + k * 7, none⟩) hb).trans hat.c0
    have yf := bound_at K1.out hk5;have ht : TkB B wr b (off + k * 7) x.t := ⟨hb, (T1.out.cell (p := ⟨b, off + k * 7 + 1, none⟩) hb).trans hat.c1, (T1.out.cell (p := ⟨b, off + k * 7 + 3, none⟩) hb).trans hat.c3, (T1.out.cell (p := ⟨b, off + k * 7 + 4, none⟩) hb).trans hat.c4, (T1.out.cell (p := ⟨b, off + k * 7 + 5, none⟩) hb).trans hat.c5⟩
    have hta : wr.cell? ⟨b, off + k * 7 + 2, none⟩ = some (.slice x.A x.t.attrs.length x.c) := by
     have := (T1.out.cell (p := ⟨b, off + k * 7 + 2, none⟩) hb).trans hat.c2;rwa [show x.g.as_.length = x.t.attrs.length from List.length_map _] at this
    have hrd : Reads wr B 3 x.A x.t.attrs.length (gas (x.t.attrs.map At.g)) := by
     have := hsub.below T1.out;rwa [show x.g.as_.length = x.t.attrs.length from List.length_map _] at this
    have hSt := step_any B B wr.drew st v b (off + k * 7) x.t x.A x.c (I1.out.go (Below.refl _ _).drew) (by rw [← HB.out]; exact T1.out.size) H6.out ((G2.out.below (by rw [HB.out]; exact T1.out)).below (Below.refl _ _).drew) ⟨ht.lt, ht.c1, ht.c3, ht.c4, ht.c5⟩ hta hrd hsm ⟨⟨Ok1.out.ok.op, by have := Ok1.out.ok.sc; have := Hxl.out; have := HDl.out; omega, by have := Ok1.out.ok.ev; have := Hxl.out; have := HDl.out; omega, fun y hy => by have := Ok1.out.ok.tx y hy; have := Hxl.out; have := HDl.out; omega, Ok1.out.ok.in_, Ok1.out.ok.srt⟩, Ok1.out.ns⟩;rw [hkn] at hSt;have HSt := hide hSt;have Hrun := hide (show run st0 (ts.take (k + 1)) = Sx.step st x.t by rw [List.take_add_one, htk]; show run st0 (ts.take k ++ [x.t]) = _; rw [run_snoc, H1.out]);have Hsm := hide hsm;have hcf := fun args w => fnK_enter hk5 args w;generalize fnK (kn : Int) = fn at *
    obtain ⟨r, hr⟩ : ∃ r, Sx.step st x.t = r := ⟨_, rfl⟩;have Hr := hide hr;rw [hr] at HSt Hrun;clear hat hx hxm htk hsub hsm hkn ht hta hrd hSt hr
    cases r with
    | error y =>
     have hRe : R = .error y := by
      obtain ⟨q1, q2, q3⟩ := allP_toks Hfi.out HP.out;have := run_error Hrun.out (ts.drop (k + 1));rw [List.take_append_drop] at this;rw [← HR.out, q1, q2, if_neg (by simpa using q3), this]
     subst hRe;go_wp2
     go_region_with (refine HSt.out.mono ?_; rintro e w3 ⟨rfl, hm, st', v', hp⟩)
     all_goals
      have c4 := hp.c4;obtain ⟨F, hF, hFv, hFk⟩ := hp.bad;rw [hFv] at c4;have z0 := hFk.cell 0;have z1 := hFk.cell 1;have M3 := hide hm;have HwB := hide (show B ≤ wr.heap.size by rw [← HB.out]; exact T1.out.size);clear hp hF hFv hFk hm;go_wp2
      go_quiet (fail)
      go_wp2;go_ret3;exact ⟨below_drewN (B2.out.trans ((T1.out.trans (((Mov.refl B B wr).drew.trans M3.out).below (C := B) (Nat.le_refl _) (Nat.le_refl _) HwB.out)).mono HBw.out)) _, rfl⟩
    | ok st' =>
     have hk' := ok_step (N := 100000) ⟨Ok1.out.ok, Ok1.out.ns⟩ Hsm.out (by decide) Hr.out;have Ok2 := hide hk';clear hk';go_wp2
     go_region_with (refine HSt.out.mono ?_; rintro e w3 ⟨rfl, hm, v', hp⟩)
     all_goals
      have c4 := hp.c4;rw [hp.vb_none] at c4;have P3 := hide hp;have M3 := hide hm;have HwB := hide (show B ≤ wr.heap.size by rw [← HB.out]; exact T1.out.size);clear hp hm;go_wp2
      go_roundg (N - (k + 1))
      case measure => have := Hg.out; omega
      case rel =>
       have hm' : Mov B B wr w3 := (Mov.refl B B wr).drew.trans M3.out;exact ⟨k + 1, st', v', rfl, by omega, by first | rfl | go_num, Hrun.out, P3.out, hm'.blk K1.out (by omega) (by decide), T1.out.trans (hm'.below (Nat.le_refl _) (Nat.le_refl _) HwB.out), ⟨⟨Ok2.out.ok.op, Nat.le_trans Ok2.out.ok.sc (by omega), Nat.le_trans Ok2.out.ok.ev (by omega), fun y hy => Nat.le_trans (Ok2.out.ok.tx y hy) (by omega), Ok2.out.ok.in_, Ok2.out.ok.srt⟩, Ok2.out.ns⟩⟩
   have hkN : k = N := by omega
   subst hkN;have hall : ts.take k = ts := List.take_of_length_le (by rw [← Hts.out, List.length_map, HN.out]; exact Nat.le_refl _);have hrun := H1.out;rw [hall] at hrun
   have hRe : R = if st.open_ = [] ∧ st.rooted = true then .ok st.evs else .error (D.length, 50) := by
    obtain ⟨q1, q2, q3⟩ := allP_toks Hfi.out HP.out;rw [← HR.out, q1, q2, if_neg (by simpa using q3), hrun]
   have HRe := hide hRe;have c0 := I1.out.c;have c3 := I1.out.c3;obtain ⟨no, hno⟩ : ∃ no, st.open_.length = no := ⟨_, rfl⟩;have Hno := hide hno;rw [hno] at c0;obtain ⟨ro, hro⟩ : ∃ ro, st.rooted = ro := ⟨_, rfl⟩;have Hro := hide hro;rw [hro] at c3;have HBe := hide (B2.out.trans (T1.out.mono (by have := B2.out.size; have := HB.out; omega)));clear hall hrun hRe hno hro HR
   by_cases h0 : no = 0
   ·subst h0;have ho : st.open_ = [] := List.eq_nil_of_length_eq_zero Hno.out
    cases ro with
    | true =>
     have hR2 : R = .ok st.evs := by rw [HRe.out, if_pos ⟨ho, Hro.out⟩]
     have c2 := I1.out.c2;obtain ⟨ne, hne⟩ : ∃ ne, v.xs.length = ne := ⟨_, rfl⟩;rw [hne] at c2;have Hne := hide hne;subst hR2;clear ho hne;go_wp2;go_ret3;refine ⟨HBe.out, v.xs, v.Ae, v.ce, I1.out.ev, ?_, own_cap I1.out.e, Reads.of_own I1.out.e, (above_own I1.out.e).more HBw.out, typed_own I1.out.e, fun x hx => ⟨(I1.out.inn x hx).a, (I1.out.inn x hx).va.more HBw.out, (I1.out.inn x hx).ta⟩⟩;rw [Hne.out];rfl
    | false =>
     have hR2 : R = .error (s.size, 50) := by rw [HRe.out, if_neg (by rw [Hro.out]; simp), HDl.out]
     subst hR2;clear ho;go_wp2;go_ret3;exact ⟨HBe.out, rfl⟩
   have hR2 : R = .error (s.size, 50) := by rw [HRe.out, if_neg (by intro h; apply h0; rw [← Hno.out, h.1]; rfl), HDl.out]
   have hn0 : 0 < no := by omega
   subst hR2;clear h0;go_wp2;go_ret3;exact ⟨HBe.out, rfl⟩
end
section
open Go.RowKit Tk Sx

structure EvAt (w : World) (b o : Nat) (x : Ew) : Prop where
 c0 : w.cell? ⟨b, o, none⟩ = some (.int .i8 (x.e.kind : Int))
 c1 : w.cell? ⟨b, o + 1, none⟩ = some (.string (bstr x.e.name.ns))
 c2 : w.cell? ⟨b, o + 2, none⟩ = some (.string (bstr x.e.name.loc))
 c3 : w.cell? ⟨b, o + 3, none⟩ = some (.slice x.A x.e.attrs.length x.c)
 c4 : w.cell? ⟨b, o + 4, none⟩ = some (.string (bstr x.e.text))
structure AttAt (w : World) (b o : Nat) (x : Att) : Prop where
 c0 : w.cell? ⟨b, o, none⟩ = some (.string (bstr x.name.ns))
 c1 : w.cell? ⟨b, o + 1, none⟩ = some (.string (bstr x.name.loc))
 c2 : w.cell? ⟨b, o + 2, none⟩ = some (.string (bstr x.val))
structure EvL (w : World) (B : Nat) (A : Option Addr) (xs : List Ew) : Prop where
 row : Reads w B 5 A xs.length (ews xs)
 sub : ∀ x ∈ xs, Reads w B 3 x.A x.e.attrs.length (atts x.e.attrs)
section
variable {w w' : World} {B B' : Nat} {A : Option Addr} {xs : List Ew}
theorem EvL.below (h : EvL w B A xs) (hb : Below B w w') : EvL w' B A xs := ⟨h.row.below hb, fun x hx => (h.sub x hx).below hb⟩
theorem EvL.more (h : EvL w B A xs) (hB : B ≤ B') : EvL w B' A xs := ⟨h.row.more hB, fun x hx => (h.sub x hx).more hB⟩
theorem EvL.at_ (h : EvL w B A xs) {k : Nat} {x : Ew} (hx : xs[k]? = some x) : ∃ b off, A = some ⟨b, off, none⟩ ∧ b < B ∧ EvAt w b (off + k * 5) x := by
 obtain ⟨hk, he⟩ := List.getElem?_eq_some_iff.1 hx;obtain ⟨b, off, hA, hb, hc⟩ := h.row.2 (by omega)
 have hf : ∀ j, j < 5 → (ews xs)[k * 5 + j]? = (ewCells x)[j]? := fun j hj => by
  unfold ews;rw [fm_at ew_len xs k hk j hj, he]
 refine ⟨b, off, hA, hb, ?_⟩
 constructor
 ·have := hc (k * 5 + 0) _ (hf 0 (by omega)); simpa using this
 ·have := hc (k * 5 + 1) _ (hf 1 (by omega)); rwa [← Nat.add_assoc] at this
 ·have := hc (k * 5 + 2) _ (hf 2 (by omega)); rwa [← Nat.add_assoc] at this
 ·have := hc (k * 5 + 3) _ (hf 3 (by omega)); rwa [← Nat.add_assoc] at this
 have := hc (k * 5 + 4) _ (hf 4 (by omega)); rwa [← Nat.add_assoc] at this
theorem atts_at {l : List Att} (h : Reads w B 3 A l.length (atts l)) {k : Nat} {x : Att} (hx : l[k]? = some x) : ∃ b off, A = some ⟨b, off, none⟩ ∧ b < B ∧ AttAt w b (off + k * 3) x := by
 obtain ⟨hk, he⟩ := List.getElem?_eq_some_iff.1 hx;obtain ⟨b, off, hA, hb, hc⟩ := h.2 (by omega)
 have hf : ∀ j, j < 3 → (atts l)[k * 3 + j]? = (attCells x)[j]? := fun j hj => by
  unfold atts;rw [fm_at att_len l k hk j hj, he]
 refine ⟨b, off, hA, hb, ?_⟩
 constructor
 ·have := hc (k * 3 + 0) _ (hf 0 (by omega)); simpa using this
 ·have := hc (k * 3 + 1) _ (hf 1 (by omega)); rwa [← Nat.add_assoc] at this
 have := hc (k * 3 + 2) _ (hf 2 (by omega)); rwa [← Nat.add_assoc] at this
end
theorem EvL.of {B : Nat} {W : World} {A : Option Addr} {xs : List Ew} (h : Reads W W.heap.size 5 A xs.length (ews xs)) (hi : ∀ x ∈ xs, x.In B W) : EvL W W.heap.size A xs := ⟨h, fun x hx => (hi x hx).a⟩
end
end Go.Proofs.YtaickkaoglohgaaGreatDoor
