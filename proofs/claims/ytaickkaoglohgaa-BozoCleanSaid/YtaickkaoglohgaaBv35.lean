/- Bozo: what may stand behind the root. · Bozo, plain: what a piece may make at most. -/
import Derived.Test.YtaickkaoglohgaaBv34
set_option linter.unusedSimpArgs false
set_option linter.unusedVariables false
namespace Go.Proofs.Ytaickkaoglohgaa
open Go.RowKit Tk Sx

theorem behind_step (f : Nat) (p : Bs) : Bz.behind (f + 1) p =
    if (sComment.isPrefixOf (Bz.untilB Bz.solid p).l && (till [45, 45, 62] ((Bz.untilB Bz.solid p).l.drop 4)).isSome) = true then Bz.behind f (Bz.skipB 4 [45, 45, 62] (Bz.untilB Bz.solid p)).2
    else if (([60, 63] : L).isPrefixOf (Bz.untilB Bz.solid p).l && (till [63, 62] ((Bz.untilB Bz.solid p).l.drop 2)).isSome) = true then Bz.behind f (Bz.skipB 2 [63, 62] (Bz.untilB Bz.solid p)).2
    else if (Bz.untilB Bz.solid p).l ≠ [] then Bz.mend 13 (Bz.untilB Bz.solid p).at_ (Bz.untilB Bz.solid p) else Bz.untilB Bz.solid p := by
  rw [Bz.behind]
  simp only [Bool.and_eq_true]
theorem skip_found {op : Nat} {e : L} {p : Bs} (h : (till e (p.l.drop op)).isSome = true) : (Bz.skipB op e p).2.rs = p.rs ∧ (Bz.skipB op e p).2.at_ + (Bz.skipB op e p).2.l.length = p.at_ + p.l.length ∧ (Bz.skipB op e p).2.l.length + e.length ≤ p.l.length ∧ (Bz.skipB op e p).2.st = p.st := by
  obtain ⟨n, hn⟩ := Option.isSome_iff_exists.1 h
  have hl := till_len hn
  unfold Bz.skipB
  rw [hn]
  dsimp only
  rw [List.length_drop] at hl
  unfold Bz.cutB
  simp only [List.length_drop]
  refine ⟨trivial, ?_, ?_, trivial⟩ <;> omega
/-- A look for an end, as a Bool. -/
theorem index_some (D e : L) : decide (0 ≤ Lib.index D e) = (till e D).isSome := by
  cases h : till e D with
  | none => have := till_none h; exact decide_eq_false (by omega)
  | some n => have := till_some h; exact decide_eq_true (by omega)
set_option maxHeartbeats 16000000 in
theorem bbehind_any (B P : Nat) (w : World) (p : Bs) (v : Bv) (h : PB B P w p v) (hd : Gd B w) (hl : p.at_ + p.l.length ≤ 90000) (hn : p.rs.length ≤ 800000000) :
    Calls Try.prog 16 #[.pointer (some ⟨P, 0, none⟩)] w (BR B P w (Bz.behind (p.l.length + 1) p) (.tuple #[])) := by
  have H := hide h
  have HD := hide hd
  have Hl := hide hl
  have Hn := hide hn
  obtain ⟨R, hR⟩ : ∃ R, Bz.behind (p.l.length + 1) p = R := ⟨_, rfl⟩
  rw [hR]
  have HR := hide hR
  obtain ⟨n0, hn0⟩ : ∃ n0, p.l.length = n0 := ⟨_, rfl⟩
  rw [hn0] at HR
  have HN0 := hide hn0
  clear h hd hl hn hR hn0
  go_enter Try.func16, Try.ntmps16
  go_wp2
  go_loopg [] (n0 + 1) (fun gk wr => ∃ (f : Nat) (q : Bs) (vq : Bv), gk = f ∧ PB B P wr q vq ∧ BMov B P w wr ∧ Bz.behind f q = R ∧ q.l.length < f ∧ q.at_ + q.l.length ≤ 90000 ∧ q.rs.length ≤ 800000000)
  case atStart => exact ⟨n0 + 1, p, v, rfl, H.out, .refl B P w, HR.out, by rw [HN0.out]; omega, Hl.out, Hn.out⟩
  case round =>
    obtain ⟨f, q, vq, hgk, hq, hm, hbe, hf, hat, hrs⟩ := hrel
    obtain ⟨f, rfl⟩ : ∃ g, f = g + 1 := ⟨f - 1, by omega⟩
    have Hg := hide hgk
    have Hq := hide hq
    have Hm := hide hm
    have HU := hide (buntil_solid B P wr q vq hq (by omega))
    rw [behind_step] at hbe
    obtain ⟨u1, u2, u3⟩ := Bz.len_until Bz.solid q
    obtain ⟨q1, hq1⟩ : ∃ x, Bz.untilB Bz.solid q = x := ⟨_, rfl⟩
    rw [hq1] at hbe HU u1 u2 u3
    have Hb := hide (show q1.at_ + q1.l.length ≤ 90000 ∧ q1.rs.length ≤ 800000000 ∧ q1.l.length < f + 1 by rw [u3]; omega)
    obtain ⟨D, hD⟩ : ∃ D, q1.l = D := ⟨_, rfl⟩
    have HDD := hide hD
    rw [hD] at hbe
    have Hbe := hide hbe
    have hDl : D.length ≤ 90000 := by rw [← hD]; omega
    have HDl := hide hDl
    have HPC := hide (fun W => bpre_any D sComment W)
    have HPQ := hide (fun W => bpre_any D [60, 63] W)
    obtain ⟨D4, hD4⟩ : ∃ D4, D.drop 4 = D4 := ⟨_, rfl⟩
    obtain ⟨D2, hD2⟩ : ∃ D2, D.drop 2 = D2 := ⟨_, rfl⟩
    have HD4 := hide hD4
    have HD2 := hide hD2
    have HTC := hide (fun W (h : Gd B W) => h.till D4 [45, 45, 62] (by rw [← hD4, List.length_drop]; omega))
    have HTQ := hide (fun W (h : Gd B W) => h.till D2 [63, 62] (by rw [← hD2, List.length_drop]; omega))
    have hic := index_some D4 [45, 45, 62]
    have hiq := index_some D2 [63, 62]
    clear hgk hq hm hf hat hrs u1 u2 u3 hq1 hD hbe hDl hD4 hD2
    go_wp2_with fail
    refine HU.out.mono ?_
    rintro e w1 ⟨rfl, m1, v1, p1⟩
    have M1 := hide (Hm.out.trans m1)
    have P1 := hide p1
    have D1 := hide (HD.out.bmov M1.out H.out.bp)
    have z0 : w1.cell? ⟨P, 0, none⟩ = some (.string (bstr D)) := by rw [← HDD.out]; exact p1.cell.1
    clear m1 p1
    obtain ⟨bC, hbC⟩ : ∃ x, sComment.isPrefixOf D = x := ⟨_, rfl⟩
    obtain ⟨bQ, hbQ⟩ : ∃ x, ([60, 63] : L).isPrefixOf D = x := ⟨_, rfl⟩
    rw [hbC] at HPC
    rw [hbQ] at HPQ
    have HbC := hide hbC
    have HbQ := hide hbQ
    obtain ⟨iC, hiC⟩ : ∃ x, (till [45, 45, 62] D4).isSome = x := ⟨_, rfl⟩
    obtain ⟨iQ, hiQ⟩ : ∃ x, (till [63, 62] D2).isSome = x := ⟨_, rfl⟩
    rw [hiC] at hic
    rw [hiQ] at hiq
    have HiC := hide hiC
    have HiQ := hide hiQ
    generalize Lib.index D4 [45, 45, 62] = xC at *
    generalize Lib.index D2 [63, 62] = xQ at *
    have hs : (bstr D).size = D.length := bstr_size D
    clear hbC hbQ hiC hiQ
    go_upto_region 1 with fail
    go_cut [4] (fun s wx => s = .bool (bC && iC) ∧ wx = w1)
    case first =>
      cases bC with
      | true =>
        have h4 : 4 ≤ D.length := (List.isPrefixOf_iff_prefix.1 HbC.out).length_le
        have hx1 : (bstr D).extract 4 D.length = bstr D4 := by rw [← HD4.out, extract_bstr, bstr_list, ← List.length_drop, List.take_length]
        have hbd : (0 : Int) ≤ 4 ∧ (4 : Int) ≤ (D.length : Int) := by omega
        have hbd2 : (D.length : Int) ≤ (D.length : Int) := Int.le_refl _
        go_wp2_with fail
        refine cq (HPC.out _) ?_
        go_wp2_with fail
        refine cq (HTC.out _ D1.out) ?_
        dsimp only
        rename_i hM hJ KK hK0
        refine hK0 _ _ ?_
        clear hK0 KK
        go_wp2
        (try simp only [Exit.then])
        (try refine hM _ _ (Met.intro ?_))
        refine hJ _ _ ?_
        (repeat apply Exists.intro)
        exact ⟨⟨rfl, rfl⟩, rfl⟩
      | false =>
        go_wp2_with fail
        refine cq (HPC.out _) ?_
        go_wp2
        (try simp only [Exit.then])
        (try refine Met.intro ?_)
        first
          | (rename_i hJ hM; refine hM _ _ (Met.intro ?_); refine hJ _ _ ?_)
          | (rename_i hJ; refine hJ _ _ ?_)
          | (rename_i hJ hT; refine hJ _ _ ?_)
          | (rename_i hJ hT hT2; refine hJ _ _ ?_)
          | (rename_i hJ hT hT2 hT3; refine hJ _ _ ?_)
        (repeat apply Exists.intro)
        exact ⟨⟨rfl, rfl⟩, rfl⟩
    case rest =>
      obtain ⟨rfl, hwc⟩ := hcut
      have hc2 := hwc.symm
      clear hwc
      subst hc2
      have hbe := Hbe.out
      rw [HbC.out, HbQ.out, HD4.out, HD2.out, HiC.out, HiQ.out] at hbe
      obtain ⟨c1, hc1⟩ : ∃ c1, (bC && iC) = c1 := ⟨_, rfl⟩
      rw [hc1] at hbe ⊢
      cases c1 with
      | true =>
        have hi : iC = true := by simp only [Bool.and_eq_true] at hc1; exact hc1.2
        have hsk := skip_found (op := 4) (e := [45, 45, 62]) (p := q1) (by rw [HDD.out, HD4.out, HiC.out]; exact hi)
        simp only [if_true] at hbe
        have Hbe2 := hide hbe
        have Hsk := hide hsk
        have HS := hide (bskip_any B P w1 q1 v1 4 [45, 45, 62] P1.out D1.out (by have := Hb.out; omega) (by have := Hb.out; omega))
        clear hbe hc1 hi hsk
        go_wp2_with fail
        refine HS.out.mono ?_
        rintro e w2 ⟨rfl, m2, v2, p2⟩
        have M2 := hide m2
        have P2 := hide p2
        clear m2 p2
        go_wp2
        go_roundg f
        case measure => have := Hg.out; omega
        case rel =>
          have hb := Hb.out
          obtain ⟨s1, s2, s3, -⟩ := Hsk.out
          have e3 : ([45, 45, 62] : L).length = 3 := rfl
          exact ⟨f, _, v2, rfl, P2.out, M1.out.trans M2.out, Hbe2.out, by omega, by omega, by rw [s1]; omega⟩
      | false =>
        simp only [Bool.false_eq_true, if_false] at hbe
        have Hbe2 := hide hbe
        clear hbe hc1
        go_upto_region 3 with fail
        go_cut [21] (fun s wx => s = .bool (bQ && iQ) ∧ wx = w1)
        case first =>
          cases bQ with
          | true =>
            have h4 : 2 ≤ D.length := (List.isPrefixOf_iff_prefix.1 HbQ.out).length_le
            have hx1 : (bstr D).extract 2 D.length = bstr D2 := by rw [← HD2.out, extract_bstr, bstr_list, ← List.length_drop, List.take_length]
            have hbd : (0 : Int) ≤ 2 ∧ (2 : Int) ≤ (D.length : Int) := by omega
            have hbd2 : (D.length : Int) ≤ (D.length : Int) := Int.le_refl _
            go_wp2_with fail
            refine cq (HPQ.out _) ?_
            go_wp2_with fail
            refine cq (HTQ.out _ D1.out) ?_
            dsimp only
            rename_i hM hJ KK hK0
            refine hK0 _ _ ?_
            clear hK0 KK
            go_wp2
            (try simp only [Exit.then])
            (try refine hM _ _ (Met.intro ?_))
            refine hJ _ _ ?_
            (repeat apply Exists.intro)
            exact ⟨⟨rfl, rfl⟩, rfl⟩
          | false =>
            go_wp2_with fail
            refine cq (HPQ.out _) ?_
            go_wp2
            (try simp only [Exit.then])
            (try refine Met.intro ?_)
            first
              | (rename_i hJ hM; refine hM _ _ (Met.intro ?_); refine hJ _ _ ?_)
              | (rename_i hJ; refine hJ _ _ ?_)
              | (rename_i hJ hT; refine hJ _ _ ?_)
              | (rename_i hJ hT hT2; refine hJ _ _ ?_)
              | (rename_i hJ hT hT2 hT3; refine hJ _ _ ?_)
            (repeat apply Exists.intro)
            exact ⟨⟨rfl, rfl⟩, rfl⟩
        case rest =>
          obtain ⟨rfl, hwc⟩ := hcut
          have hc2 := hwc.symm
          clear hwc
          subst hc2
          have hbe := Hbe2.out
          obtain ⟨c1, hc1⟩ : ∃ c1, (bQ && iQ) = c1 := ⟨_, rfl⟩
          rw [hc1] at hbe ⊢
          cases c1 with
          | true =>
            have hi : iQ = true := by simp only [Bool.and_eq_true] at hc1; exact hc1.2
            have hsk := skip_found (op := 2) (e := [63, 62]) (p := q1) (by rw [HDD.out, HD2.out, HiQ.out]; exact hi)
            simp only [if_true] at hbe
            have Hbe3 := hide hbe
            have Hsk := hide hsk
            have HS := hide (bskip_any B P w1 q1 v1 2 [63, 62] P1.out D1.out (by have := Hb.out; omega) (by have := Hb.out; omega))
            clear hbe hc1 hi hsk
            go_wp2_with fail
            refine HS.out.mono ?_
            rintro e w2 ⟨rfl, m2, v2, p2⟩
            have M2 := hide m2
            have P2 := hide p2
            clear m2 p2
            go_wp2
            go_roundg f
            case measure => have := Hg.out; omega
            case rel =>
              have hb := Hb.out
              obtain ⟨s1, s2, s3, -⟩ := Hsk.out
              have e3 : ([63, 62] : L).length = 2 := rfl
              exact ⟨f, _, v2, rfl, P2.out, M1.out.trans M2.out, Hbe3.out, by omega, by omega, by rw [s1]; omega⟩
          | false =>
            simp only [Bool.false_eq_true, if_false] at hbe
            clear hc1
            have x1 := P1.out.cell.2.1
            cases D with
            | nil =>
              have Hbe3 := hide (show q1 = R by rw [if_neg (by simp)] at hbe; exact hbe)
              have hemp2 : (bstr ([] : L)).toList.isEmpty = true := by rw [ByteArray.toList_eq, bstr_list]; rfl
              have hempt : ((bstr ([] : L)).toList == ([] : L)) = true := lit_eq (bstr []) []
              clear hbe
              go_wp2
              go_end0
              rw [← Hbe3.out]
              exact ⟨rfl, M1.out, v1, P1.out⟩
            | cons ch r =>
              have Hbe3 := hide (show Bz.mend 13 q1.at_ q1 = R by rw [if_pos (by simp)] at hbe; exact hbe)
              have hemp2 : (bstr (ch :: r : L)).toList.isEmpty = false := by rw [ByteArray.toList_eq, bstr_list]; rfl
              have hempt : ((bstr (ch :: r : L)).toList == ([] : L)) = false := lit_eq (bstr (ch :: r)) []
              clear hbe
              go_wp2_with fail
              refine (bmend_any B P w1 q1 v1 13 q1.at_ P1.out D1.out.hB (by have := Hb.out; omega)).mono ?_
              rintro e w2 ⟨rfl, m2, v2, p2⟩
              have M2 := hide m2; have P2 := hide p2; clear m2 p2
              go_wp2
              go_end0
              rw [← Hbe3.out]
              exact ⟨rfl, M1.out.trans M2.out, v2, P2.out⟩
end Go.Proofs.Ytaickkaoglohgaa
namespace Go.Proofs.Ytaickkaoglohgaa
open Go Tk Sx
namespace Bz
/-- What a step that cuts off c bytes makes at most. -/
structure Eff (p q : Bs) (c : Nat) : Prop where
  at_ : q.at_ + q.l.length = p.at_ + p.l.length
  len : q.l.length + c = p.l.length
  rs : p.st.open_.length ≤ 16 → q.rs.length ≤ p.rs.length + 60 * c
  ok : ∀ n M, Ok p.st n M → Ok q.st (n + 40 * c) (M + 12 * c)
  ns : ∀ V, 12 * p.l.length ≤ V → (∀ d ∈ p.st.scope, d.ns.length ≤ V) → ∀ d ∈ q.st.scope, d.ns.length ≤ V
theorem ok_more {st : St} {n n' M M' : Nat} (h : Ok st n M) (hn : n ≤ n') (hM : M ≤ M') : Ok st n' M' := ⟨h.op, Nat.le_trans h.sc hn, Nat.le_trans h.ev hn, fun y hy => Nat.le_trans (h.tx y hy) hM, h.in_, h.srt⟩
theorem eff_st {p q : Bs} {c : Nat} (h1 : q.at_ + q.l.length = p.at_ + p.l.length) (h2 : q.l.length + c = p.l.length) (h3 : q.rs.length ≤ p.rs.length + 60 * c) (h4 : q.st = p.st) : Eff p q c :=
  ⟨h1, h2, fun _ => h3, fun n M h => by rw [h4]; exact ok_more h (by omega) (by omega), fun V _ h => by rw [h4]; exact h⟩
theorem says_len (s : L) (a : Nat) (how : L → Nat → Bs → L × Bs) (q : Bs) (h1 : (how s a q).2.st = q.st) (h2 : (how s a q).2.l = q.l) (h3 : (how s a q).2.at_ = q.at_) (h4 : (how s a q).1.length ≤ 12 * s.length) (h5 : (how s a q).2.rs.length ≤ q.rs.length + 5 * s.length) :
    (says s a how q).l = q.l ∧ (says s a how q).at_ = q.at_ ∧ (says s a how q).rs.length ≤ q.rs.length + 5 * s.length + 1 ∧ (∀ n M, Ok q.st n M → Ok (says s a how q).st (n + 1) (M + 12 * s.length)) ∧ (says s a how q).st.scope = q.st.scope := by
  unfold says
  split
  · refine ⟨h2, h3, by dsimp only; omega, fun n M h => ?_, ?_⟩
    · show Ok (putSt (how s a q).2.st (how s a q).1) _ _
      rw [h1]
      exact ok_text h _ h4
    · show (putSt (how s a q).2.st (how s a q).1).scope = _
      rw [h1]
      rfl
  split
  · refine ⟨rfl, rfl, ?_, fun n M h => ok_more h (by omega) (by omega), rfl⟩
    show (mend 13 a q).rs.length ≤ _
    rw [mend_rs]
    omega
  · exact ⟨rfl, rfl, by omega, fun n M h => ok_more h (by omega) (by omega), rfl⟩
theorem ploose_lat (s : L) (a : Nat) (p : Bs) : (ploose s a p).2.l = p.l ∧ (ploose s a p).2.at_ = p.at_ := ⟨rfl, rfl⟩
theorem skip_len {op : Nat} {e : L} {p : Bs} (hop : op ≤ p.l.length) : (skipB op e p).2.at_ + (skipB op e p).2.l.length = p.at_ + p.l.length ∧ (∃ c, op ≤ c ∧ (skipB op e p).2.l.length + c = p.l.length ∧ (skipB op e p).1.length ≤ c) ∧ (skipB op e p).2.rs.length ≤ p.rs.length + 1 ∧ (skipB op e p).2.st = p.st := by
  have hr := (skip_rs op e p).1
  have hs := skip_st op p e
  refine ⟨?_, ?_, hr, hs⟩
  · unfold skipB
    split
    · show p.at_ + min op p.l.length + (p.l.drop op).length + ((p.l.drop (min op p.l.length)).drop (p.l.drop op).length).length = _
      simp only [List.length_drop]
      omega
    · rename_i n hn
      have hl := till_len hn
      rw [List.length_drop] at hl
      show p.at_ + min op p.l.length + n + e.length + (((p.l.drop (min op p.l.length)).drop n).drop e.length).length = _
      simp only [List.length_drop]
      omega
  · unfold skipB
    split
    · refine ⟨p.l.length, hop, ?_, by dsimp only; rw [List.length_drop]; omega⟩
      show ((p.l.drop (min op p.l.length)).drop (p.l.drop op).length).length + _ = _
      simp only [List.length_drop]
      omega
    · rename_i n hn
      have hl := till_len hn
      rw [List.length_drop] at hl
      refine ⟨op + n + e.length, by omega, ?_, by dsimp only; rw [List.length_take]; omega⟩
      show (((p.l.drop (min op p.l.length)).drop n).drop e.length).length + _ = _
      simp only [List.length_drop]
      omega
theorem closeN_len (a : Nat) : ∀ (k : Nat) (p : Bs), (closeN a k p).l = p.l ∧ (closeN a k p).at_ = p.at_ ∧ (closeN a k p).rs.length = p.rs.length + k ∧ (∀ n M, Ok p.st n M → Ok (closeN a k p).st (n + k) M) ∧ (∀ d ∈ (closeN a k p).st.scope, d ∈ p.st.scope)
  | 0, p => ⟨rfl, rfl, rfl, fun _ _ h => h, fun _ h => h⟩
  | k + 1, p => by
    obtain ⟨h1, h2, h3, h4, h5⟩ := closeN_len a k (close (mend 11 a p))
    rw [closeN]
    refine ⟨h1, h2, ?_, fun n M h => ?_, fun d hd => ?_⟩
    · rw [h3]
      show (mend 11 a p).rs.length + k = _
      rw [mend_rs]
      omega
    · have := h4 (n + 1) M (ok_close (st := p.st) h)
      rw [show n + 1 + k = n + (k + 1) by omega] at this
      exact this
    · have := h5 d hd
      exact close_scope p.st d this
where
  close_scope (st : St) (d : Dcl) (h : d ∈ (closeSt st).scope) : d ∈ st.scope := by
    unfold closeSt at h
    split at h
    · exact h
    · exact List.mem_of_mem_take h
theorem endCut_len {n : Nat} {p : Bs} (h2 : 2 ≤ p.l.length) (hn : n ≤ (p.l.drop 2).length) : (endCut n p).at_ + (endCut n p).l.length = p.at_ + p.l.length ∧ (endCut n p).l.length + 2 ≤ p.l.length ∧ (endCut n p).rs.length ≤ p.rs.length + 1 := by
  obtain ⟨c1, c2⟩ := len_cut h2
  have e2 : (cutB 2 p).l = p.l.drop 2 := rfl
  obtain ⟨d1, d2⟩ := len_cut (n := n) (p := cutB 2 p) (by rw [e2]; exact hn)
  obtain ⟨u1, u2, u3⟩ := len_until angle (cutB n (cutB 2 p))
  rw [endCut_at']
  (try dsimp only)
  have key : ∀ b : Bool, let p4 := if b then mend 14 p.at_ (untilB angle (cutB n (cutB 2 p))) else untilB angle (cutB n (cutB 2 p)); p4.at_ = (untilB angle (cutB n (cutB 2 p))).at_ ∧ p4.l = (untilB angle (cutB n (cutB 2 p))).l ∧ p4.rs.length ≤ p.rs.length + 1 := by
    intro b
    cases b
    · exact ⟨rfl, rfl, Nat.le_succ _⟩
    · refine ⟨rfl, rfl, ?_⟩
      show (mend 14 p.at_ (untilB angle (cutB n (cutB 2 p)))).rs.length ≤ _
      rw [mend_rs]
      exact Nat.le_refl _
  generalize (!([62] : L).isPrefixOf (untilB angle (cutB n (cutB 2 p))).l || !((cutB n (cutB 2 p)).l.take (span angle (cutB n (cutB 2 p)).l)).all sp) = b
  obtain ⟨k1, k2, k3⟩ := key b
  (try dsimp only at k1 k2 k3)
  generalize (if b = true then mend 14 p.at_ (untilB angle (cutB n (cutB 2 p))) else untilB angle (cutB n (cutB 2 p))) = p4 at *
  split
  · rename_i hp
    have h1 : 1 ≤ p4.l.length := by
      cases hl : p4.l with
      | nil => rw [hl] at hp; cases hp
      | cons c r => simp
    obtain ⟨f1, f2⟩ := len_cut h1
    have e : (cutB 1 p4).rs = p4.rs := rfl
    rw [e]
    rw [k1, k2] at f1
    rw [k2] at f2
    exact ⟨f1.trans (u1.trans (d1.trans c1)), by omega, k3⟩
  · rw [k1, k2]
    exact ⟨u1.trans (d1.trans c1), by omega, k3⟩
where
  endCut_at' {n : Nat} {p : Bs} : endCut n p = (let p3 := untilB angle (cutB n (cutB 2 p)); let p4 := if !([62] : L).isPrefixOf p3.l || !((cutB n (cutB 2 p)).l.take (span angle (cutB n (cutB 2 p)).l)).all sp then mend 14 p.at_ p3 else p3; if ([62] : L).isPrefixOf p4.l then cutB 1 p4 else p4) := rfl
theorem end_eff {n : Nat} {p : Bs} (h2 : 2 ≤ p.l.length) (hn : n ≤ (p.l.drop 2).length) : ∃ c, 2 ≤ c ∧ Eff p (endB n p) c := by
  obtain ⟨e1, e2, e3⟩ := endCut_len h2 hn
  have est := (endCut_st n p).1
  obtain ⟨c, hc⟩ : ∃ c, (endCut n p).l.length + c = p.l.length := ⟨p.l.length - (endCut n p).l.length, by omega⟩
  refine ⟨c, by omega, ?_⟩
  unfold endB
  split
  · exact eff_st e1 hc (by rw [mend_rs]; omega) est
  · rename_i k hk
    have hkl := lastOf_lt hk
    obtain ⟨n1, n2, n3, n4, n5⟩ := closeN_len p.at_ ((endCut n p).st.open_.length - (k + 1)) (endCut n p)
    generalize closeN p.at_ ((endCut n p).st.open_.length - (k + 1)) (endCut n p) = r at *
    have r1 : (close r).l = (endCut n p).l := n1
    have r2 : (close r).at_ = (endCut n p).at_ := n2
    have r3 : (close r).rs = r.rs := rfl
    refine ⟨by rw [r1, r2]; exact e1, by rw [r1]; exact hc, fun ho => ?_, fun m M h => ?_, fun V _ h d hd => ?_⟩
    · rw [r3, n3]
      rw [est] at hkl ⊢
      omega
    · have h4 := n4 m M (by rw [est]; exact h)
      have h5 := ok_close (st := r.st) h4
      have hop := h.op
      rw [← est] at hop
      exact ok_more h5 (by omega) (by omega)
    · have := closeN_len.close_scope r.st d hd
      have := n5 d this
      rw [est] at this
      exact h d this
theorem name_lat (wr : L) (att : Bool) (a : Nat) (p : Bs) : (name wr att a p).2.l = p.l ∧ (name wr att a p).2.at_ = p.at_ := by
  unfold name
  split
  · exact ⟨rfl, rfl⟩
  · split
    · exact ⟨rfl, rfl⟩
    split
    · exact ⟨rfl, rfl⟩
    split
    · exact ⟨rfl, rfl⟩
    · exact ⟨rfl, rfl⟩
theorem attrs_lat : ∀ (l : List At) (seen : List Nm) (p : Bs), (attrsB seen l p).2.l = p.l ∧ (attrsB seen l p).2.at_ = p.at_ ∧ (attrsB seen l p).2.rs.length ≤ p.rs.length + 2 * l.length
  | [], _, _ => ⟨rfl, rfl, Nat.le_refl _⟩
  | x :: r, seen, p => by
    obtain ⟨n1, n2⟩ := name_lat x.name true x.at_ p
    have n3 := name_rs x.name true x.at_ p
    rw [attrsB, List.length_cons]
    split
    · obtain ⟨h1, h2, h3⟩ := attrs_lat r seen p
      exact ⟨h1, h2, by omega⟩
    split
    · obtain ⟨h1, h2, h3⟩ := attrs_lat r seen (mend 9 x.at_ (name x.name true x.at_ p).2)
      rw [mend_rs] at h3
      exact ⟨h1.trans n1, h2.trans n2, by omega⟩
    · obtain ⟨h1, h2, h3⟩ := attrs_lat r (seen ++ [(name x.name true x.at_ p).1]) (name x.name true x.at_ p).2
      exact ⟨h1.trans n1, h2.trans n2, by dsimp only; omega⟩
theorem begun_len {wr : L} {a : Nat} {l : List At} {empty : Bool} {p : Bs} (hl : l.length ≤ 16) (ho : p.st.open_.length < 16) (V : Nat) (hv : ∀ x ∈ l, x.value.length ≤ V) :
    (begun wr a p.st.scope.length l empty p).l = p.l ∧ (begun wr a p.st.scope.length l empty p).at_ = p.at_ ∧ (begun wr a p.st.scope.length l empty p).rs.length ≤ p.rs.length + 49 ∧
    (∀ n M, Ok p.st n M → Ok (begun wr a p.st.scope.length l empty p).st (n + 17) M) ∧ ((∀ d ∈ p.st.scope, d.ns.length ≤ V) → ∀ d ∈ (begun wr a p.st.scope.length l empty p).st.scope, d.ns.length ≤ V) := by
  obtain ⟨o1, _, o3, o4⟩ := once_st l [] p
  obtain ⟨q1, q2, q3⟩ := once_rs l [] p
  unfold begun
  dsimp only
  generalize once [] l p = o at *
  have d1 := declaredB_len o.1 p.st.scope
  have d2 := declaredB_ge o.1 p.st.scope
  have d3 : (∀ d ∈ p.st.scope, d.ns.length ≤ V) → ∀ d ∈ declaredB p.st.scope o.1, d.ns.length ≤ V := fun h => declaredB_ns o.1 _ h (fun x hx => hv x (o4 x hx))
  have e3 : ({ o.2 with st := ⟨o.2.st.open_, declaredB o.2.st.scope o.1, o.2.st.evs, o.2.st.rooted⟩ } : Bs).st = ⟨p.st.open_, declaredB p.st.scope o.1, p.st.evs, p.st.rooted⟩ := by rw [o1]
  have e4 : ({ o.2 with st := ⟨o.2.st.open_, declaredB o.2.st.scope o.1, o.2.st.evs, o.2.st.rooted⟩ } : Bs).l = p.l ∧ ({ o.2 with st := ⟨o.2.st.open_, declaredB o.2.st.scope o.1, o.2.st.evs, o.2.st.rooted⟩ } : Bs).at_ = p.at_ ∧ ({ o.2 with st := ⟨o.2.st.open_, declaredB o.2.st.scope o.1, o.2.st.evs, o.2.st.rooted⟩ } : Bs).rs = o.2.rs := ⟨q2, q3, rfl⟩
  generalize ({ o.2 with st := ⟨o.2.st.open_, declaredB o.2.st.scope o.1, o.2.st.evs, o.2.st.rooted⟩ } : Bs) = p3 at *
  obtain ⟨n1, n2⟩ := name_lat wr false a p3
  have n3 := name_rs wr false a p3
  have n4 := name_stq wr false a p3
  generalize name wr false a p3 = nm at *
  obtain ⟨a1, a2, a3⟩ := attrs_lat o.1 [] nm.2
  have a4 := (attrs_st o.1 [] nm.2).1
  generalize attrsB [] o.1 nm.2 = x at *
  have ex : x.2.st = ⟨p.st.open_, declaredB p.st.scope o.1, p.st.evs, p.st.rooted⟩ := a4.trans (n4.trans e3)
  have f1 : x.2.l = p.l := a1.trans (n1.trans e4.1)
  have f2 : x.2.at_ = p.at_ := a2.trans (n2.trans e4.2.1)
  have f3 : x.2.rs.length ≤ p.rs.length + 49 := by rw [e4.2.2] at n3; omega
  have hok : ∀ n M, Ok p.st n M → Ok ⟨x.2.st.open_ ++ [⟨wr, nm.1, p.st.scope.length⟩], x.2.st.scope, putEv x.2.st.evs ⟨0, nm.1, x.1, []⟩, true⟩ (n + 16) M := fun n M h => by
    rw [ex]
    have h2 := h.sc
    exact ok_more (begun_ok2 (st := p.st) (el := ⟨wr, nm.1, p.st.scope.length⟩) (sc := declaredB p.st.scope o.1) (e := ⟨0, nm.1, x.1, []⟩) (m := n + 16) h ho (by omega) d2 rfl rfl rfl) (by omega) (Nat.le_refl _)
  split
  · refine ⟨f1, f2, f3, fun n M h => ok_close (hok n M h), fun h d hd => ?_⟩
    have := closeN_len.close_scope _ d hd
    dsimp only at this
    rw [ex] at this
    exact d3 h d this
  · refine ⟨f1, f2, f3, fun n M h => ok_more (hok n M h) (by omega) (Nat.le_refl _), fun h d hd => ?_⟩
    have : d ∈ x.2.st.scope := hd
    rw [ex] at this
    exact d3 h d this
theorem start_eff {n : Nat} {p : Bs} (h1 : 1 ≤ p.l.length) (hn : n ≤ (p.l.drop 1).length) : ∃ c, 1 ≤ c ∧ Eff p (startB n p) c := by
  obtain ⟨c1, c2⟩ := len_cut h1
  have e2 : (cutB 1 p).l = p.l.drop 1 := rfl
  obtain ⟨d1, d2⟩ := len_cut (n := n) (p := cutB 1 p) (by rw [e2]; exact hn)
  obtain ⟨t1, t2, t3, t4, t5⟩ := len_tag p.at_ ((cutB n (cutB 1 p)).l.length + 1) [] (cutB n (cutB 1 p))
  have ht := tag_st p.at_ ((cutB n (cutB 1 p)).l.length + 1) [] (cutB n (cutB 1 p))
  unfold startB
  dsimp only
  have er : (cutB n (cutB 1 p)).rs = p.rs := rfl
  have est : (cutB n (cutB 1 p)).st = p.st := rfl
  rw [er] at t2
  rw [est] at ht
  have hv : ∀ x ∈ (tag p.at_ ((cutB n (cutB 1 p)).l.length + 1) [] (cutB n (cutB 1 p))).1, x.value.length ≤ 12 * p.l.length := fun x hx => by
    rcases t3 x hx with h | h
    · cases h
    · omega
  generalize tag p.at_ ((cutB n (cutB 1 p)).l.length + 1) [] (cutB n (cutB 1 p)) = t at *
  obtain ⟨c, hc⟩ : ∃ c, t.2.2.l.length + c = p.l.length := ⟨p.l.length - t.2.2.l.length, by omega⟩
  have hc1 : 1 ≤ c := by omega
  refine ⟨c, hc1, ?_⟩
  split
  · exact eff_st (by show t.2.2.at_ + t.2.2.l.length = _; omega) hc (by show t.2.2.rs.length ≤ _; omega) ht
  split
  · exact eff_st (by show t.2.2.at_ + t.2.2.l.length = _; omega) hc (by show t.2.2.rs.length ≤ _; omega) ht
  · rename_i g1 g2
    have hsc : p.st.scope.length = t.2.2.st.scope.length := by rw [ht]
    rw [hsc]
    obtain ⟨b1, b2, b3, b4, _⟩ := begun_len (wr := (p.l.drop 1).take n) (a := p.at_) (l := t.1) (empty := t.2.1) (p := t.2.2) (by omega) (by omega) (12 * p.l.length) hv
    refine ⟨by rw [b1, b2]; omega, by rw [b1]; exact hc, fun _ => by omega, fun m M h => ?_, fun V hV h => ?_⟩
    · exact ok_more (b4 m M (by rw [ht]; exact h)) (by omega) (by omega)
    · obtain ⟨_, _, _, _, b5⟩ := begun_len (wr := (p.l.drop 1).take n) (a := p.at_) (l := t.1) (empty := t.2.1) (p := t.2.2) (by omega) (by omega) V (fun x hx => Nat.le_trans (hv x hx) hV)
      exact b5 (by rw [ht]; exact h)
theorem piece_eff {p : Bs} (hne : p.l ≠ []) : ∃ c, 1 ≤ c ∧ Eff p (piece p) c := by
  have hl1 := List.length_pos_iff.2 hne
  unfold piece
  split
  · rename_i hn
    obtain ⟨u1, u2, u3⟩ := len_until isLt p
    have hsp : 1 ≤ span isLt p.l := by
      cases hl : p.l with
      | nil => exact absurd hl hne
      | cons c r =>
        have hc : isLt c = false := by
          unfold isLt
          rw [beq_eq_false_iff_ne]
          rintro rfl
          rw [hl] at hn
          exact hn rfl
        unfold span
        rw [List.takeWhile_cons, hc]
        simp
    have htl : (p.l.take (span isLt p.l)).length = span isLt p.l := by rw [List.length_take]; have := len_span isLt p.l; omega
    obtain ⟨x1, x2⟩ := ploose_len (p.l.take (span isLt p.l)) p.at_ (untilB isLt p)
    obtain ⟨s1, s2, s3, s4, s5⟩ := says_len (p.l.take (span isLt p.l)) p.at_ ploose (untilB isLt p) rfl rfl rfl x1 x2
    rw [htl] at s3 s4
    refine ⟨span isLt p.l, hsp, by rw [s1, s2]; exact u1, by rw [s1]; exact u2, fun _ => by rw [u3] at s3; omega, fun n M h => ok_more (s4 n M h) (by omega) (Nat.le_refl _), fun V _ h => by rw [s5]; exact h⟩
  split
  · rename_i hp
    have hop : 4 ≤ p.l.length := (List.isPrefixOf_iff_prefix.1 hp).length_le
    obtain ⟨k1, ⟨c, k2, k3, k4⟩, k5, k6⟩ := skip_len (e := [45, 45, 62]) hop
    exact ⟨c, by omega, eff_st k1 k3 (by omega) k6⟩
  split
  · rename_i hp
    have hop : 2 ≤ p.l.length := (List.isPrefixOf_iff_prefix.1 hp).length_le
    obtain ⟨k1, ⟨c, k2, k3, k4⟩, k5, k6⟩ := skip_len (e := [63, 62]) hop
    exact ⟨c, by omega, eff_st k1 k3 (by omega) k6⟩
  split
  · rename_i hp
    have hop : 9 ≤ p.l.length := (List.isPrefixOf_iff_prefix.1 hp).length_le
    obtain ⟨k1, ⟨c, k2, k3, k4⟩, k5, k6⟩ := skip_len (e := [93, 93, 62]) hop
    obtain ⟨x1, x2⟩ := pclean_len (skipB 9 [93, 93, 62] p).1 p.at_ (skipB 9 [93, 93, 62] p).2
    obtain ⟨s1, s2, s3, s4, s5⟩ := says_len (skipB 9 [93, 93, 62] p).1 p.at_ pclean (skipB 9 [93, 93, 62] p).2 rfl rfl rfl (by omega) (by omega)
    refine ⟨c, by omega, by rw [s1, s2]; exact k1, by rw [s1]; exact k3, fun _ => by omega, fun n M h => ok_more (s4 n M (by rw [k6]; exact h)) (by omega) (by omega), fun V _ h => by rw [s5, k6]; exact h⟩
  split
  · rename_i hp
    have hop : 2 ≤ (mend 15 p.at_ p).l.length := (List.isPrefixOf_iff_prefix.1 hp).length_le
    obtain ⟨k1, ⟨c, k2, k3, k4⟩, k5, k6⟩ := skip_len (e := [62]) hop
    rw [mend_rs] at k5
    exact ⟨c, by omega, eff_st k1 k3 (by omega) k6⟩
  split
  · rename_i hp
    have hop : 2 ≤ p.l.length := (List.isPrefixOf_iff_prefix.1 hp.1).length_le
    obtain ⟨c, h1, h2⟩ := end_eff hop (take_le (p.l.drop 2))
    exact ⟨c, by omega, h2⟩
  split
  · obtain ⟨c, h1, h2⟩ := start_eff hl1 (take_le (p.l.drop 1))
    exact ⟨c, h1, h2⟩
  · have h1 : 1 ≤ (mend 5 p.at_ p).l.length := hl1
    obtain ⟨k1, k2⟩ := len_cut h1
    obtain ⟨s1, s2, s3, s4, s5⟩ := says_len [60] p.at_ psame (cutB 1 (mend 5 p.at_ p)) rfl rfl rfl (by show 1 ≤ 12; omega) (by show (cutB 1 (mend 5 p.at_ p)).rs.length ≤ _; omega)
    have e : (cutB 1 (mend 5 p.at_ p)).rs.length = p.rs.length + 1 := mend_rs _ _ _
    rw [e] at s3
    have e1 : ([60] : L).length = 1 := rfl
    rw [e1] at s3 s4
    refine ⟨1, Nat.le_refl _, by rw [s1, s2]; exact k1, by rw [s1]; exact k2, fun _ => by omega, fun n M h => ok_more (s4 n M h) (by omega) (by omega), fun V _ h => by rw [s5]; exact h⟩
/-- Where a parse of at most N bytes stands. -/
structure OkB (N : Nat) (p : Bs) : Prop where
  at_ : p.at_ + p.l.length = N
  ok : Ok p.st (40 * p.at_) (12 * p.at_)
  rs : p.rs.length ≤ 60 * p.at_
  ns : ∀ d ∈ p.st.scope, d.ns.length ≤ 12 * N
theorem okB0 (s : L) : OkB s.length (b0 s) := ⟨by show 0 + s.length = _; omega, ⟨by simp [b0, st0], by simp [b0, st0], by simp [b0, st0], by simp [b0, st0], by simp [b0, st0], by simp [b0, st0]⟩, by simp [b0], by simp [b0, st0]⟩
theorem okB_piece {N : Nat} {p : Bs} (h : OkB N p) (hne : p.l ≠ []) : OkB N (piece p) ∧ (piece p).l.length < p.l.length := by
  obtain ⟨c, hc, he⟩ := piece_eff hne
  have h1 := he.at_
  have h2 := he.len
  have h3 := he.rs h.ok.op
  have h4 := h.at_
  have h5 := h.rs
  have e : (piece p).at_ = p.at_ + c := by omega
  refine ⟨⟨by omega, ?_, by omega, he.ns _ (by omega) h.ns⟩, by omega⟩
  rw [e]
  have := he.ok _ _ h.ok
  exact ok_more this (by omega) (by omega)
end Bz
end Go.Proofs.Ytaickkaoglohgaa
