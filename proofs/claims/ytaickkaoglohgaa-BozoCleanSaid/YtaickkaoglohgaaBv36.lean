/- Bozo: Parse. · Strict: a token's step: the program's start, end, text, data, skip. · Strict: the program's Parse. · Strict: events in memory; Well; what the laws' wake-up asks. · Bozo: what the laws' wake-up asks. -/
import Derived.Test.YtaickkaoglohgaaBv10
import Derived.Test.YtaickkaoglohgaaBv18
import Derived.Test.YtaickkaoglohgaaBv23
import Derived.Test.YtaickkaoglohgaaBv28
import Derived.Test.YtaickkaoglohgaaBv35
import Derived.Laws.EntriesVeiled
set_option linter.unusedSimpArgs false
set_option linter.unusedVariables false
namespace Go.Proofs.Ytaickkaoglohgaa
open Go.RowKit Tk Sx

/-- What Parse leaves. -/
def ParseB (w : World) (r : Except Nat (List Ev × List Rsn)) (e : Ending) (w' : World) : Prop := Below w.heap.size w w' ∧ match r with
  | .error x => e = .returned (.tuple #[.slice none 0 0, .slice none 0 0, .int .i64 (x : Int)])
  | .ok (evs, rs) => ∃ xs A c Ar cr, xs.map (·.e) = evs ∧ e = .returned (.tuple #[.slice A xs.length c, .slice Ar rs.length cr, .int .i64 0]) ∧ xs.length ≤ c ∧ rs.length ≤ cr ∧ Reads w' w'.heap.size 5 A xs.length (ews xs) ∧ Above w.heap.size A ∧ Typed w' A 39 ∧ (∀ x ∈ xs, x.In w.heap.size w') ∧ Reads w' w'.heap.size 2 Ar rs.length (rss rs)
theorem PB.zero (B : Nat) (w : World) (l : L) (hB : B ≤ w.heap.size) : PB B w.heap.size (w.alloc (.cells #[.string (bstr l), .int .i64 0, .slice none 0 0, .slice none 0 0, .slice none 0 0, .slice none 0 0, .bool false, .bool false, .int .i64 0] 52)) (Bz.b0 l) ⟨none, 0, none, 0, none, 0, none, 0, []⟩ :=
  ⟨Blk.new w 52 _, hB, World.ownsRow_nil _ _ _ _, World.ownsRow_nil _ _ _ _, World.ownsRow_nil _ _ _ _, World.ownsRow_nil _ _ _ _, rfl, fun x hx => (by cases hx)⟩
theorem Bz.behind_len : ∀ (f : Nat) (p : Bs), (Bz.behind f p).rs.length ≤ p.rs.length + 1
  | 0, _ => Nat.le_succ _
  | f + 1, p => by
    rw [behind_step]
    split
    · rename_i h
      simp only [Bool.and_eq_true] at h
      have h1 := Bz.behind_len f (Bz.skipB 4 [45, 45, 62] (Bz.untilB Bz.solid p)).2
      rw [(skip_found h.2).1] at h1
      exact h1
    split
    · rename_i h
      simp only [Bool.and_eq_true] at h
      have h1 := Bz.behind_len f (Bz.skipB 2 [63, 62] (Bz.untilB Bz.solid p)).2
      rw [(skip_found h.2).1] at h1
      exact h1
    split
    · rw [Bz.mend_rs]; exact Nat.le_refl _
    · exact Nat.le_succ _
/-- Is there a piece to come? -/
def Bz.more (p : Bs) : Bool := decide (p.l ≠ [] ∧ p.e = 0 ∧ (p.st.rooted = false ∨ p.st.open_ ≠ []))
theorem go_step (f : Nat) (p : Bs) : Bz.go (f + 1) p = if Bz.more p = true then Bz.go f (Bz.piece p) else p := by
  rw [Bz.go]
  unfold Bz.more
  simp only [decide_eq_true_eq]
theorem rss_take (l : List Rsn) (k : Nat) : rss (l.take k) = (rss l).take (k * 2) := by
  unfold rss
  rw [fm_take (m := 2) (fun _ => rfl)]
set_option maxRecDepth 100000 in
set_option maxHeartbeats 32000000 in
theorem bparse_any (l : L) (w : World) (hg : Gm w) (hl : l.length ≤ 5000) :
    Calls Try.prog 12 #[.string (bstr l)] w (ParseB w (Bz.parse l)) := by
  have HG := hide hg
  have hw6 := hg.lt
  have H6 := hide hw6
  have hsz : (bstr l).size = l.length := bstr_size l
  obtain ⟨R, hR⟩ : ∃ R, Bz.parse l = R := ⟨_, rfl⟩
  rw [hR]
  unfold Bz.parse at hR
  obtain ⟨N, hN⟩ : ∃ N, l.length = N := ⟨_, rfl⟩
  have HN := hide hN
  rw [hN] at hR hl hsz
  obtain ⟨G, hG⟩ : ∃ G, Bz.go (N + 1) (Bz.b0 l) = G := ⟨_, rfl⟩
  rw [hG] at hR
  have HGo := hide hG
  have HR := hide hR
  have I0 := hide (PB.zero w.heap.size w l (Nat.le_refl _))
  have BA := hide (below_alloc w (.cells #[.string (bstr l), .int .i64 0, .slice none 0 0, .slice none 0 0, .slice none 0 0, .slice none 0 0, .bool false, .bool false, .int .i64 0] 52))
  obtain ⟨W1, hW1⟩ : ∃ W1, w.alloc (.cells #[.string (bstr l), .int .i64 0, .slice none 0 0, .slice none 0 0, .slice none 0 0, .slice none 0 0, .bool false, .bool false, .int .i64 0] 52) = W1 := ⟨_, rfl⟩
  rw [hW1] at I0 BA
  obtain ⟨B, hB⟩ : ∃ B, w.heap.size = B := ⟨_, rfl⟩
  have HBe := hide hB
  rw [hB] at I0
  have D0 := hide (show Gd B W1 from ⟨by rw [← hB]; exact BA.out.size, by rw [← hB]; exact hw6, hg.below BA.out⟩)
  have Hl := hide hl
  clear hg hw6 hG hR hN
  go_enter Try.func12, Try.ntmps12
  go_wp2
  (try rw [hW1])
  (try rw [hB])
  clear hW1 hB
  go_loopg [] (N + 1) (fun gk wr => ∃ (f : Nat) (q : Bs) (vq : Bv), gk = f ∧ PB B B wr q vq ∧ BMov B B W1 wr ∧ Bz.go f q = G ∧ q.l.length < f ∧ Bz.OkB N q)
  case atStart => exact ⟨N + 1, Bz.b0 l, _, rfl, I0.out, .refl B B W1, HGo.out, by show l.length < _; rw [HN.out]; omega, by rw [← HN.out]; exact Bz.okB0 l⟩
  case round =>
    obtain ⟨f, q, vq, hgk, hq, hm, hgo, hf, hok⟩ := hrel
    obtain ⟨f, rfl⟩ : ∃ g, f = g + 1 := ⟨f - 1, by omega⟩
    have Hg := hide hgk
    have Hq := hide hq
    have Hm := hide hm
    have Hok := hide hok
    have Hf := hide hf
    rw [go_step] at hgo
    have z0 := hq.cell.1
    have z2 := hq.cell.2.2.1
    have z6 := hq.cell.2.2.2.2.2.2.1
    have z8 := hq.cell.2.2.2.2.2.2.2.2
    obtain ⟨D, hD⟩ : ∃ D, q.l = D := ⟨_, rfl⟩
    obtain ⟨no, hno⟩ : ∃ n, q.st.open_.length = n := ⟨_, rfl⟩
    obtain ⟨ro, hro⟩ : ∃ r, q.st.rooted = r := ⟨_, rfl⟩
    obtain ⟨ee, hee⟩ : ∃ r, q.e = r := ⟨_, rfl⟩
    rw [hD] at z0
    rw [hno] at z2
    rw [hro] at z6
    rw [hee] at z8
    have HDD := hide hD
    have Hno := hide hno
    have Hro := hide hro
    have Hee := hide hee
    obtain ⟨mo, hmo⟩ : ∃ m, Bz.more q = m := ⟨_, rfl⟩
    rw [hmo] at hgo
    have hmo2 : mo = decide (D ≠ [] ∧ ee = 0 ∧ (ro = false ∨ no ≠ 0)) := by
      rw [← hmo]
      unfold Bz.more
      rw [hD, hro, hee, ← hno]
      have : (q.st.open_ ≠ []) ↔ (q.st.open_.length ≠ 0) := by simp
      simp only [this]
    have Hmo := hide hmo
    have Hmo2 := hide hmo2
    have Hgo := hide hgo
    clear hgk hq hm hok hf hgo hD hno hro hee hmo hmo2 I0
    go_upto_region 2 with fail
    go_cut [35] (fun s wx => s = .bool mo ∧ wx = wr)
    case first =>
      cases D with
      | nil =>
        have hemp2 : (bstr ([] : L)).toList.isEmpty = true := by rw [ByteArray.toList_eq, bstr_list]; rfl
        have hempt : ((bstr ([] : L)).toList == ([] : L)) = true := lit_eq (bstr []) []
        go_wp2
        (try simp only [Exit.then])
        (try refine Met.intro ?_)
        first
          | (rename_i hJ hM; refine hM _ _ (Met.intro ?_); refine hJ _ _ ?_)
          | (rename_i hJ; refine hJ _ _ ?_)
          | (rename_i hJ hT; refine hJ _ _ ?_)
          | (rename_i hJ hT hT2; refine hJ _ _ ?_)
          | (rename_i hJ hT hT2 hT3; refine hJ _ _ ?_)
        (repeat apply Exists.intro)
        exact ⟨⟨by rw [Hmo2.out]; simp, rfl⟩, rfl⟩
      | cons ch r =>
        have hemp2 : (bstr (ch :: r : L)).toList.isEmpty = false := by rw [ByteArray.toList_eq, bstr_list]; rfl
        have hempt : ((bstr (ch :: r : L)).toList == ([] : L)) = false := lit_eq (bstr (ch :: r)) []
        by_cases he : ee = 0
        · have Hee0 := hide he
          have hee : ((ee : Int) == 0) = true := by rw [beq_iff_eq]; omega
          have hez : (ee : Int) = 0 := by omega
          clear he
          cases ro with
          | false =>
            go_wp2
            (try simp only [Exit.then])
            (try refine Met.intro ?_)
            first
              | (rename_i hJ hM; refine hM _ _ (Met.intro ?_); refine hJ _ _ ?_)
              | (rename_i hJ; refine hJ _ _ ?_)
              | (rename_i hJ hT; refine hJ _ _ ?_)
              | (rename_i hJ hT hT2; refine hJ _ _ ?_)
              | (rename_i hJ hT hT2 hT3; refine hJ _ _ ?_)
            (repeat apply Exists.intro)
            exact ⟨⟨by rw [Hmo2.out]; simp [Hee0.out], rfl⟩, rfl⟩
          | true =>
            by_cases hn : 0 < no
            · go_wp2
              (try simp only [Exit.then])
              (try refine Met.intro ?_)
              first
                | (rename_i hJ hM; refine hM _ _ (Met.intro ?_); refine hJ _ _ ?_)
                | (rename_i hJ; refine hJ _ _ ?_)
                | (rename_i hJ hT; refine hJ _ _ ?_)
                | (rename_i hJ hT hT2; refine hJ _ _ ?_)
                | (rename_i hJ hT hT2 hT3; refine hJ _ _ ?_)
              (repeat apply Exists.intro)
              exact ⟨⟨by rw [Hmo2.out]; simp [Hee0.out]; omega, rfl⟩, rfl⟩
            · have Hn0 := hide (show no = 0 by omega)
              have hn0 : decide ((0 : Int) < (no : Int)) = false := decide_eq_false (by omega)
              go_wp2
              (try simp only [Exit.then])
              (try refine Met.intro ?_)
              first
                | (rename_i hJ hM; refine hM _ _ (Met.intro ?_); refine hJ _ _ ?_)
                | (rename_i hJ; refine hJ _ _ ?_)
                | (rename_i hJ hT; refine hJ _ _ ?_)
                | (rename_i hJ hT hT2; refine hJ _ _ ?_)
                | (rename_i hJ hT hT2 hT3; refine hJ _ _ ?_)
              (repeat apply Exists.intro)
              exact ⟨⟨by rw [Hmo2.out]; simp [Hee0.out, Hn0.out], rfl⟩, rfl⟩
        · have Hee0 := hide he
          have hee : ((ee : Int) == 0) = false := by rw [beq_eq_false_iff_ne]; omega
          have hez : ¬ (ee : Int) = 0 := by omega
          clear he
          go_wp2
          (try simp only [Exit.then])
          (try refine Met.intro ?_)
          first
            | (rename_i hJ hM; refine hM _ _ (Met.intro ?_); refine hJ _ _ ?_)
            | (rename_i hJ; refine hJ _ _ ?_)
            | (rename_i hJ hT; refine hJ _ _ ?_)
            | (rename_i hJ hT hT2; refine hJ _ _ ?_)
            | (rename_i hJ hT hT2 hT3; refine hJ _ _ ?_)
          (repeat apply Exists.intro)
          exact ⟨⟨by rw [Hmo2.out]; simp [Hee0.out], rfl⟩, rfl⟩
    case rest =>
      obtain ⟨rfl, hwc⟩ := hcut
      have hc2 := hwc.symm
      clear hwc
      subst hc2
      cases mo with
      | true =>
        have hgo := Hgo.out
        simp only [if_true] at hgo
        have Hgo2 := hide hgo
        have hne : q.l ≠ [] := by have h := Hmo.out; unfold Bz.more at h; exact (of_decide_eq_true h).1
        have hokp := Bz.okB_piece Hok.out hne
        have Hokp := hide hokp
        have HP := hide (bpiece_any B B wr q vq Hq.out (D0.out.bmov Hm.out (Nat.le_refl _)) (by
            have h1 := Hok.out.ok
            have h2 := Hok.out.at_
            have h3 := Hl.out
            exact Bz.ok_more h1 (by omega) (by omega)) (by have h2 := Hok.out.at_; have h3 := Hl.out; omega) (by have h1 := Hok.out.rs; have h2 := Hok.out.at_; have h3 := Hl.out; omega) hne (fun d hd => by have h1 := Hok.out.ns d hd; have h3 := Hl.out; omega))
        clear hgo hne hokp z0 z2 z6 z8
        go_wp2_with fail
        refine HP.out.mono ?_
        rintro e w2 ⟨rfl, m2, v2, p2⟩
        have M2 := hide m2
        have P2 := hide p2
        clear m2 p2
        go_wp2
        go_roundg f
        case measure => have := Hg.out; omega
        case rel => exact ⟨f, _, v2, rfl, P2.out, Hm.out.trans M2.out, Hgo2.out, by have := Hokp.out.2; have := Hf.out; omega, Hokp.out.1⟩
      | false =>
        have hgo := Hgo.out
        simp only [Bool.false_eq_true, if_false] at hgo
        have HqG := hide hgo
        have hR := HR.out
        rw [← hgo] at hR
        unfold Bz.fin at hR
        rw [Hee.out, Hro.out] at hR
        obtain ⟨q2, hq2⟩ : ∃ q2, (if q.st.open_ = [] then Bz.behind (q.l.length + 1) q else q) = q2 := ⟨_, rfl⟩
        have Hq2 := hide hq2
        have Hsame := hide (show q2.st = q.st ∧ q2.rs.length ≤ q.rs.length + 1 by
          rw [← hq2]
          split
          · exact ⟨(Bz.behind_st _ _).1, Bz.behind_len _ _⟩
          · exact ⟨rfl, Nat.le_succ _⟩)
        have Hno16 := hide (show no ≤ 16 by rw [← Hno.out]; exact Hok.out.ok.op)
        have HRf := hide hR
        clear hgo z0 hR hq2
        go_upto_block 2 with fail
        go_cut [] (fun wx => ee = 0 ∧ ro = true ∧ ∃ v, PB B B wx q2 v ∧ BMov B B W1 wx)
        case first =>
          by_cases he : ee = 0
          · have hez : (ee : Int) = 0 := by omega
            have hee : ((ee : Int) == 0) = true := by rw [beq_iff_eq]; exact hez
            have hee2 : ((ee : Int) != 0) = false := by rw [bne, hee]; rfl
            have Hee0 := hide he
            clear he
            cases ro with
            | false =>
              have HRE := hide (show (.error 43 : Except Nat (List Ev × List Rsn)) = R by have h := HRf.out; rw [if_neg (by simp [Hee0.out])] at h; simpa using h)
              go_wp2
              go_ret3
              rw [← HRE.out]
              exact ⟨(BA.out.trans ((Hm.out.below (C := B) (Nat.le_refl _) (Nat.le_refl _) D0.out.hB).mono (by rw [HBe.out]; exact Nat.le_refl _))), rfl⟩
            | true =>
              by_cases hn : no = 0
              · have hn2 : ((no : Int) == 0) = true := by rw [beq_iff_eq]; omega
                have hq2 := Hq2.out
                rw [if_pos (List.eq_nil_of_length_eq_zero (by rw [Hno.out]; exact hn))] at hq2
                have HBh := hide (bbehind_any B B wr q vq Hq.out (D0.out.bmov Hm.out (Nat.le_refl _)) (by have h2 := Hok.out.at_; have h3 := Hl.out; omega) (by have h1 := Hok.out.rs; have h2 := Hok.out.at_; have h3 := Hl.out; omega))
                rw [hq2] at HBh
                clear hq2
                subst hn
                go_wp2_with fail
                refine HBh.out.mono ?_
                rintro e w2 ⟨rfl, m2, v2, p2⟩
                have M2 := hide (Hm.out.trans m2)
                have P2 := hide p2
                clear m2 p2
                dsimp only
                rename_i hM KK hK0 hJ
                refine hK0 _ _ ?_
                clear hK0 KK
                go_wp2
                (try simp only [Exit.then])
                (try refine hM _ _ (Met.intro ?_))
                refine hJ _ _ ?_
                (repeat apply Exists.intro)
                exact ⟨⟨Hee0.out, trivial, v2, P2.out, M2.out⟩, rfl⟩
              · have hn2 : ((no : Int) == 0) = false := by rw [beq_eq_false_iff_ne]; omega
                have hq2 := Hq2.out
                rw [if_neg (fun h => hn (by rw [← Hno.out, h]; rfl))] at hq2
                have P2 := hide (show PB B B wr q2 vq by rw [← hq2]; exact Hq.out)
                have hn3 : ¬ (no : Int) = 0 := by omega
                clear hq2
                go_wp2
                (try simp only [Exit.then])
                (try refine Met.intro ?_)
                first
                  | (rename_i hJ hM; refine hM _ _ (Met.intro ?_); refine hJ _ _ ?_)
                  | (rename_i hJ; refine hJ _ _ ?_)
                  | (rename_i hJ hT; refine hJ _ _ ?_)
                (repeat apply Exists.intro)
                exact ⟨⟨Hee0.out, trivial, vq, P2.out, Hm.out⟩, rfl⟩
          · have hez : ¬ (ee : Int) = 0 := by omega
            have hee : ((ee : Int) == 0) = false := by rw [beq_eq_false_iff_ne]; exact hez
            have hee2 : ((ee : Int) != 0) = true := by rw [bne, hee]; rfl
            have HRE := hide (show (.error ee : Except Nat (List Ev × List Rsn)) = R by have h := HRf.out; rw [if_pos he] at h; exact h)
            go_wp2
            go_quiet (fail)
            go_wp2
            go_ret3
            rw [← HRE.out]
            exact ⟨below_drewN (BA.out.trans ((Hm.out.below (C := B) (Nat.le_refl _) (Nat.le_refl _) D0.out.hB).mono (by rw [HBe.out]; exact Nat.le_refl _))) _, rfl⟩
        case rest =>
          obtain ⟨he, rfl, v3, p3, m3⟩ := hcut
          have P3 := hide p3
          have M3 := hide m3
          have D3 := hide (D0.out.bmov m3 (Nat.le_refl _))
          have hR := HRf.out
          rw [if_neg (by simp [he]), if_neg (by simp)] at hR
          dsimp only at hR
          rw [Hq2.out] at hR
          have HRE := hide hR
          have Hno2 := hide (show q2.st.open_.length = no by rw [Hsame.out.1]; exact Hno.out)
          clear p3 m3 he hR z2 z6 z8
          go_wp2
          go_loopg [] no (fun gk wx => ∃ (q' : Bs) (vq' : Bv) (r : Nat), gk = r ∧ PB B B wx q' vq' ∧ BMov B B W1 wx ∧ q'.st.open_.length = r ∧ Bz.closeN N r q' = Bz.closeN N no q2 ∧ Ok q'.st (900000016 - r) 10000000000000000 ∧ q'.rs.length + r ≤ 900000000)
          case atStart => exact ⟨q2, v3, no, rfl, P3.out, M3.out, Hno2.out, rfl, (by
              rw [Hsame.out.1]
              have h1 := Hok.out.ok
              have h2 := Hok.out.at_
              have h3 := Hl.out
              have h4 := Hno16.out
              exact Bz.ok_more h1 (by omega) (by omega)), (by have h1 := Hok.out.rs; have h2 := Hok.out.at_; have h3 := Hl.out; have h4 := Hno16.out; have h5 := Hsame.out.2; omega)⟩
          case round =>
            obtain ⟨q', vq', r, hgk2, hq1, hq2', hq3, hq4, hq5, hq6⟩ := hrel
            have Hg2 := hide hgk2
            have Q1 := hide hq1
            have Q2 := hide hq2'
            have Q3 := hide hq3
            have Q4 := hide hq4
            have Q5 := hide hq5
            have Q6 := hide hq6
            have cq2 := hq1.cell.2.2.1
            rw [hq3] at cq2
            clear hgk2 hq1 hq2' hq3 hq4 hq5 hq6
            cases r with
            | zero =>
              have hnl : decide ((0 : Int) < ((0 : Nat) : Int)) = false := decide_eq_false (by omega)
              have c4 := Q1.out.cell.2.2.2.2.1
              have c5 := Q1.out.cell.2.2.2.2.2.1
              obtain ⟨ne, hne⟩ : ∃ n, vq'.xs.length = n := ⟨_, rfl⟩
              obtain ⟨nr, hnr⟩ : ∃ n, q'.rs.length = n := ⟨_, rfl⟩
              rw [hne] at c4
              rw [hnr] at c5
              have Hne := hide hne
              have Hnr := hide hnr
              have HK := hide (fun W => bkeep_any vq'.Ar nr vq'.cr W (by rw [← hnr]; exact own_cap Q1.out.r) (by rw [← hnr]; have := Q6.out; omega))
              clear hne hnr
              go_wp2
              go_quiet ((go_at_call 9; refine Calls.quiet_of_same (HK.out _)))
              go_wp2
              go_ret3
              rename_i nq
              have BQ := below_drewN (Below.refl wr.heap.size wr) nq
              have p9 := Q1.out.go BQ
              have m9 := Q2.out.go BQ
              generalize wr.drewN nq = W9 at *
              have hcl : Bz.closeN N no q2 = q' := Q4.out.symm
              have hRE := HRE.out
              rw [Hno2.out, hcl] at hRE
              subst hRE
              have hmn : (q'.rs.take 8).length = min nr 8 := by rw [List.length_take, Hnr.out, Nat.min_comm]
              have hBw : B ≤ w.heap.size := by rw [HBe.out]; exact Nat.le_refl _
              have hwB : w.heap.size ≤ B := by rw [HBe.out]; exact Nat.le_refl _
              refine ⟨BA.out.trans ((m9.below (C := B) (Nat.le_refl _) (Nat.le_refl _) D0.out.hB).mono (by rw [HBe.out]; exact Nat.le_refl _)), vq'.xs, vq'.Ae, vq'.ce, vq'.Ar, min nr 8, p9.ev, by rw [hmn, Hne.out]; rfl, own_cap p9.e, Nat.le_of_eq hmn, Reads.of_own p9.e, (above_own p9.e).more hwB, typed_own p9.e, fun x hx => ⟨(p9.inn x hx).a, (p9.inn x hx).va.more hwB, (p9.inn x hx).ta⟩, ?_⟩
              rw [hmn]
              have h8 := own_take p9.r (k := min nr 8) (by rw [Hnr.out]; omega)
              have hrl : (rss q'.rs).length = nr * 2 := by rw [p9.r.1, Hnr.out]
              have htk : (rss q'.rs).take (8 * 2) = (rss q'.rs).take (min nr 8 * 2) := by
                by_cases h : nr ≤ 8
                · rw [Nat.min_eq_left h, List.take_of_length_le (by omega), List.take_of_length_le (by omega)]
                · rw [Nat.min_eq_right (by omega)]
              rw [rss_take, htk]
              exact Reads.of_own h8
            | succ r =>
              have hgt : decide ((0 : Int) < ((r + 1 : Nat) : Int)) = true := decide_eq_true (by omega)
              have HM := hide (bmend_any B B wr q' vq' 11 N Q1.out (Nat.le_trans D0.out.hB Q2.out.size) (by have := Q6.out; omega))
              have HCl := hide (fun W v7 (h7 : PB B B W (Bz.mend 11 N q') v7) (hB7 : B ≤ W.heap.size) => bclose_any B B W (Bz.mend 11 N q') v7 h7 hB7 ⟨Q5.out.op, Nat.le_trans Q5.out.sc (by omega), Nat.le_trans Q5.out.ev (by omega), fun y hy => Nat.le_trans (Q5.out.tx y hy) (by omega), Q5.out.in_, Q5.out.srt⟩ (by intro e0; have h9 := Q3.out; have e1 : q'.st.open_ = [] := e0; rw [e1] at h9; simp at h9))
              go_wp2_with fail
              refine HM.out.mono ?_
              rintro e w7 ⟨rfl, m7, v7, p7⟩
              have M7 := hide (Q2.out.trans m7)
              have P7 := hide p7
              clear m7 p7
              go_wp2_with fail
              refine (HCl.out w7 v7 P7.out (Nat.le_trans D0.out.hB M7.out.size)).mono ?_
              rintro e w8 ⟨rfl, m8, v8, p8⟩
              have M8 := hide (M7.out.trans m8)
              have P8 := hide p8
              clear m8 p8
              go_wp2
              go_roundg r
              case measure => have := Hg2.out; omega
              case rel => exact ⟨_, v8, r, rfl, P8.out, M8.out, (by show (closeSt q'.st).open_.length = _; rw [Bz.close_open, List.length_dropLast, Q3.out]; omega), Q4.out, (by have h9 := ok_close Q5.out; rw [show 900000016 - (r + 1) + 1 = 900000016 - r by have := Q6.out; omega] at h9; exact h9), (by show (Bz.mend 11 N q').rs.length + r ≤ _; rw [Bz.mend_rs]; have := Q6.out; omega)⟩
end Go.Proofs.Ytaickkaoglohgaa
namespace Go.Proofs.Ytaickkaoglohgaa
open Go.RowKit Tk Sx

end Go.Proofs.Ytaickkaoglohgaa
namespace Go.Proofs.Ytaickkaoglohgaa
open Go.RowKit Tk Sx

/-- What Parse leaves. -/
def ParseR (w : World) (r : Except (Nat × Nat) (List Ev)) (e : Ending) (w' : World) : Prop := Below w.heap.size w w' ∧ match r with
  | .error x => e = .returned (.tuple #[.slice none 0 0, .int .i64 (x.1 : Int), .int .i64 (x.2 : Int)])
  | .ok evs => ∃ xs A c, xs.map (·.e) = evs ∧ e = .returned (.tuple #[.slice A xs.length c, .int .i64 (-1), .int .i64 0]) ∧ xs.length ≤ c ∧ Reads w' w'.heap.size 5 A xs.length (ews xs) ∧ Above w.heap.size A ∧ Typed w' A 39 ∧ ∀ x ∈ xs, x.In w.heap.size w'
/-- The kind that a token is of, as a natural number. -/
theorem kind_nat {N : Nat} {t : Tok} (h : TokS N t) : ∃ kn : Nat, t.kind = (kn : Int) ∧ kn < 5 := by
  rcases h.kd with h | h | h | h | h
  · exact ⟨0, h, by omega⟩
  · exact ⟨1, h, by omega⟩
  · exact ⟨2, h, by omega⟩
  · exact ⟨3, h, by omega⟩
  · exact ⟨4, h, by omega⟩
theorem allP_toks {s : L} {ts : List Tok} {n : Nat} {ok : Bool} (hf : fine s = true) (h : AllP s ts n ok) : toks s.length 0 s = ts ∧ tokEnd ts = n ∧ ok = decide (n = s.length) := by
  obtain ⟨_, hc, hok⟩ := h.len
  have hv := fine_valid hf
  have he := ends_all hc
  unfold ends at he
  rw [List.take_length] at he
  rw [hv, Bool.and_true] at hok
  unfold AllP at h
  rw [if_pos hv] at h
  obtain ⟨w, rest, rfl, h1, h2, h3, h4⟩ := h
  exact ⟨toks_row h1 (by simpa using h2) _ (Nat.le_refl _), he, hok⟩

end Go.Proofs.Ytaickkaoglohgaa
namespace Go.Proofs.Ytaickkaoglohgaa
open Go.RowKit Tk Sx

/-- An event in memory. -/
structure EvAt (w : World) (b o : Nat) (x : Ew) : Prop where
  c0 : w.cell? ⟨b, o, none⟩ = some (.int .i8 (x.e.kind : Int))
  c1 : w.cell? ⟨b, o + 1, none⟩ = some (.string (bstr x.e.name.ns))
  c2 : w.cell? ⟨b, o + 2, none⟩ = some (.string (bstr x.e.name.loc))
  c3 : w.cell? ⟨b, o + 3, none⟩ = some (.slice x.A x.e.attrs.length x.c)
  c4 : w.cell? ⟨b, o + 4, none⟩ = some (.string (bstr x.e.text))
structure AttAt (w : World) (b o : Nat) (x : Att) : Prop where
  c0 : w.cell? ⟨b, o, none⟩ = some (.string (bstr x.name.ns))
  c1 : w.cell? ⟨b, o + 1, none⟩ = some (.string (bstr x.name.loc))
  c2 : w.cell? ⟨b, o + 2, none⟩ = some (.string (bstr x.val))
/-- A list of events, wherever it lies. -/
structure EvL (w : World) (B : Nat) (A : Option Addr) (xs : List Ew) : Prop where
  row : Reads w B 5 A xs.length (ews xs)
  sub : ∀ x ∈ xs, Reads w B 3 x.A x.e.attrs.length (atts x.e.attrs)
section
variable {w w' : World} {B B' : Nat} {A : Option Addr} {xs : List Ew}
theorem EvL.below (h : EvL w B A xs) (hb : Below B w w') : EvL w' B A xs := ⟨h.row.below hb, fun x hx => (h.sub x hx).below hb⟩
theorem EvL.more (h : EvL w B A xs) (hB : B ≤ B') : EvL w B' A xs := ⟨h.row.more hB, fun x hx => (h.sub x hx).more hB⟩
theorem EvL.at_ (h : EvL w B A xs) {k : Nat} {x : Ew} (hx : xs[k]? = some x) : ∃ b off, A = some ⟨b, off, none⟩ ∧ b < B ∧ EvAt w b (off + k * 5) x := by
  obtain ⟨hk, he⟩ := List.getElem?_eq_some_iff.1 hx
  obtain ⟨b, off, hA, hb, hc⟩ := h.row.2 (by omega)
  have hf : ∀ j, j < 5 → (ews xs)[k * 5 + j]? = (ewCells x)[j]? := fun j hj => by
    unfold ews
    rw [fm_at ew_len xs k hk j hj, he]
  refine ⟨b, off, hA, hb, ?_⟩
  constructor
  · have := hc (k * 5 + 0) _ (hf 0 (by omega)); simpa using this
  · have := hc (k * 5 + 1) _ (hf 1 (by omega)); rwa [← Nat.add_assoc] at this
  · have := hc (k * 5 + 2) _ (hf 2 (by omega)); rwa [← Nat.add_assoc] at this
  · have := hc (k * 5 + 3) _ (hf 3 (by omega)); rwa [← Nat.add_assoc] at this
  · have := hc (k * 5 + 4) _ (hf 4 (by omega)); rwa [← Nat.add_assoc] at this
theorem atts_at {l : List Att} (h : Reads w B 3 A l.length (atts l)) {k : Nat} {x : Att} (hx : l[k]? = some x) : ∃ b off, A = some ⟨b, off, none⟩ ∧ b < B ∧ AttAt w b (off + k * 3) x := by
  obtain ⟨hk, he⟩ := List.getElem?_eq_some_iff.1 hx
  obtain ⟨b, off, hA, hb, hc⟩ := h.2 (by omega)
  have hf : ∀ j, j < 3 → (atts l)[k * 3 + j]? = (attCells x)[j]? := fun j hj => by
    unfold atts
    rw [fm_at att_len l k hk j hj, he]
  refine ⟨b, off, hA, hb, ?_⟩
  constructor
  · have := hc (k * 3 + 0) _ (hf 0 (by omega)); simpa using this
  · have := hc (k * 3 + 1) _ (hf 1 (by omega)); rwa [← Nat.add_assoc] at this
  · have := hc (k * 3 + 2) _ (hf 2 (by omega)); rwa [← Nat.add_assoc] at this
end
theorem EvL.of {B : Nat} {W : World} {A : Option Addr} {xs : List Ew} (h : Reads W W.heap.size 5 A xs.length (ews xs)) (hi : ∀ x ∈ xs, x.In B W) : EvL W W.heap.size A xs := ⟨h, fun x hx => (hi x hx).a⟩
def isOk {α β : Type} (r : Except α β) : Bool := match r with
  | .ok _ => true
  | .error _ => false

def wkS1 : L := [60, 97, 32, 120, 61, 34, 49, 34, 62, 98, 60, 33, 45, 45, 99, 45, 45, 62, 100, 60, 47, 97, 62]
def wkS2 : L := [60, 97, 62, 60, 47, 98, 62]
theorem wkS1_is : Sx.parse wkS1 = .ok [⟨0, ⟨[], [97]⟩, [⟨⟨[], [120]⟩, [49]⟩], []⟩, ⟨2, noNm, [], [98, 100]⟩, ⟨1, ⟨[], [97]⟩, [], []⟩] := by kernel_rfl
theorem wkS2_is : Sx.parse wkS2 = .error (3, 50) := by kernel_rfl
/-- The cells that the wake-up asks for. -/
theorem wkS1_cells {W : World} {A : Option Addr} {xs : List Ew} {B : Nat} (h : EvL W B A xs) (hx : xs.map (·.e) = [⟨0, ⟨[], [97]⟩, [⟨⟨[], [120]⟩, [49]⟩], []⟩, ⟨2, noNm, [], [98, 100]⟩, ⟨1, ⟨[], [97]⟩, [], []⟩]) :
    xs.length = 3 ∧ ∃ b off b' off' cc, A = some ⟨b, off, none⟩ ∧ b < B ∧ b' < B ∧ W.cell? ⟨b, off + 3, none⟩ = some (.slice (some ⟨b', off', none⟩) 1 cc) ∧ W.cell? ⟨b', off' + 2, none⟩ = some (.string ⟨#[49]⟩) ∧ W.cell? ⟨b, off + 5 + 4, none⟩ = some (.string ⟨#[98, 100]⟩) := by
  have hl := congrArg List.length hx
  rw [List.length_map] at hl
  have h0 : (xs[0]?).map (·.e) = some ⟨0, ⟨[], [97]⟩, [⟨⟨[], [120]⟩, [49]⟩], []⟩ := by rw [← List.getElem?_map, hx]; rfl
  have h1 : (xs[1]?).map (·.e) = some ⟨2, noNm, [], [98, 100]⟩ := by rw [← List.getElem?_map, hx]; rfl
  obtain ⟨x, hx0, e0⟩ := Option.map_eq_some_iff.1 h0
  obtain ⟨y, hy0, e1⟩ := Option.map_eq_some_iff.1 h1
  obtain ⟨b, off, rfl, hb, k0⟩ := h.at_ hx0
  obtain ⟨b1, off1, e, hb1, k1⟩ := h.at_ hy0
  cases e
  have hs := h.sub x (List.mem_of_getElem? hx0)
  rw [e0] at hs
  obtain ⟨b', off', eA, hb', g0⟩ := atts_at hs (k := 0) (x := ⟨⟨[], [120]⟩, [49]⟩) rfl
  refine ⟨hl, b, off, b', off', x.c, rfl, hb, hb', ?_, ?_, ?_⟩
  · have := k0.c3; rw [e0, eA, Nat.zero_mul, Nat.add_zero] at this; exact this
  · have := g0.c2; rw [Nat.zero_mul, Nat.add_zero] at this; exact this
  · have := k1.c4; rw [e1, Nat.one_mul] at this; exact this

end Go.Proofs.Ytaickkaoglohgaa
namespace Go.Proofs.Ytaickkaoglohgaa
open Go.RowKit Tk Sx

def wkB1 : L := [60, 97, 62, 60, 98, 62, 120, 60, 47, 97, 62]
def wkB2 : L := [60, 97, 62, 49, 32, 60, 32, 50, 32, 38, 32, 51, 60, 47, 97, 62]
theorem wkB1_is : Bz.parse wkB1 = .ok ([⟨0, ⟨[], [97]⟩, [], []⟩, ⟨0, ⟨[], [98]⟩, [], []⟩, ⟨2, noNm, [], [120]⟩, ⟨1, ⟨[], [98]⟩, [], []⟩, ⟨1, ⟨[], [97]⟩, [], []⟩], [⟨11, 7⟩]) := by kernel_rfl
theorem wkB2_is : Bz.parse wkB2 = .ok ([⟨0, ⟨[], [97]⟩, [], []⟩, ⟨2, noNm, [], [49, 32, 60, 32, 50, 32, 38, 32, 51]⟩, ⟨1, ⟨[], [97]⟩, [], []⟩], [⟨5, 5⟩, ⟨6, 6⟩]) := by kernel_rfl
theorem rss_cells {W : World} {B : Nat} {A : Option Addr} {l : List Rsn} (h : Reads W B 2 A l.length (rss l)) {k : Nat} {r : Rsn} (hr : l[k]? = some r) : ∃ b off, A = some ⟨b, off, none⟩ ∧ b < B ∧ W.cell? ⟨b, off + k * 2, none⟩ = some (.int .i8 r.kind) ∧ W.cell? ⟨b, off + k * 2 + 1, none⟩ = some (.int .i64 (r.at_ : Int)) := by
  obtain ⟨hk, he⟩ := List.getElem?_eq_some_iff.1 hr
  obtain ⟨b, off, hA, hb, hc⟩ := h.2 (by omega)
  obtain ⟨h0, h1⟩ := rss_at hr
  refine ⟨b, off, hA, hb, ?_, ?_⟩
  · exact hc (k * 2) _ h0
  · have := hc (k * 2 + 1) _ h1; rwa [← Nat.add_assoc] at this
theorem wkB2_cells {W : World} {A : Option Addr} {xs : List Ew} {B : Nat} (h : EvL W B A xs) (hx : xs.map (·.e) = [⟨0, ⟨[], [97]⟩, [], []⟩, ⟨2, noNm, [], [49, 32, 60, 32, 50, 32, 38, 32, 51]⟩, ⟨1, ⟨[], [97]⟩, [], []⟩]) :
    xs.length = 3 ∧ ∃ b off, A = some ⟨b, off, none⟩ ∧ b < B ∧ W.cell? ⟨b, off + 5 + 4, none⟩ = some (.string ⟨#[49, 32, 60, 32, 50, 32, 38, 32, 51]⟩) := by
  have hl := congrArg List.length hx
  rw [List.length_map] at hl
  have h1 : (xs[1]?).map (·.e) = some ⟨2, noNm, [], [49, 32, 60, 32, 50, 32, 38, 32, 51]⟩ := by rw [← List.getElem?_map, hx]; rfl
  obtain ⟨y, hy0, e1⟩ := Option.map_eq_some_iff.1 h1
  obtain ⟨b, off, rfl, hb, k1⟩ := h.at_ hy0
  refine ⟨hl, b, off, rfl, hb, ?_⟩
  have := k1.c4; rw [e1, Nat.one_mul] at this; exact this
set_option maxHeartbeats 8000000 in
theorem wakes17_any (w : World) (hg : Gm w) : Calls Try.prog 6 #[] w fun e w' => e = .returned (.bool true) ∧ Below w.heap.size w w' := by
  have HG := hide hg
  have h1 := bparse_any wkB1 w hg (by decide)
  rw [wkB1_is] at h1
  replace h1 : Calls _ _ #[.string ⟨#[60, 97, 62, 60, 98, 62, 120, 60, 47, 97, 62]⟩] _ (ParseB w _) := h1
  have H1 := hide h1
  clear hg h1
  go_enter Try.func6, Try.ntmps6
  go_wp2_with fail
  refine H1.out.mono ?_
  rintro e w1 ⟨b1, xs, A, c, Ar, cr, hx, rfl, -, -, hr, -, -, hi, hrr⟩
  have h2 := bparse_any wkB2 w1 (HG.out.below b1) (by decide)
  rw [wkB2_is] at h2
  replace h2 : Calls _ _ #[.string ⟨#[60, 97, 62, 49, 32, 60, 32, 50, 32, 38, 32, 51, 60, 47, 97, 62]⟩] _ (ParseB w1 _) := h2
  have H2 := hide h2
  obtain ⟨b, off, rfl, hb, q1, -⟩ := rss_cells (k := 0) (r := ⟨11, 7⟩) hrr rfl
  have hn : xs.length = 5 := by have hl := congrArg List.length hx; rw [List.length_map] at hl; exact hl
  have B1 := hide b1
  dsimp only at q1
  rw [Nat.zero_mul, Nat.add_zero] at q1
  rw [hn]
  clear hr hi hx b1 hn H1 h2 hrr
  go_wp2_with fail
  refine H2.out.mono ?_
  rintro e w2 ⟨b2, ys, A2, c2, Ar2, cr2, hy, rfl, -, -, hr2, -, -, hi2, hrr2⟩
  replace q1 := cell_go b2 q1
  obtain ⟨hn2, d, off2, rfl, hd, q2⟩ := wkB2_cells (EvL.of hr2 hi2) hy
  obtain ⟨f, off3, rfl, hf, q3, -⟩ := rss_cells (k := 0) (r := ⟨5, 5⟩) hrr2 rfl
  obtain ⟨f', off3', e3, hf', q4, -⟩ := rss_cells (k := 1) (r := ⟨6, 6⟩) hrr2 rfl
  cases e3
  have B2 := hide (B1.out.trans (b2.mono B1.out.size))
  dsimp only at q3 q4
  rw [Nat.zero_mul, Nat.add_zero] at q3
  rw [Nat.one_mul] at q4
  rw [hn2]
  clear b2 B1 H2 hy hr2 hi2 hrr2 hn2
  go_wp2
  go_ret
  exact ⟨rfl, B2.out⟩
end Go.Proofs.Ytaickkaoglohgaa
