/- Strict: the program's declare. (Printed by wip/genStH.py.) -/
import Derived.Test.YtbbpkcddifmieaaGreatDoorSw26
set_option linter.unusedSimpArgs false
set_option linter.unusedVariables false
namespace Go.Proofs.YtbbpkcddifmieaaGreatDoor
open Go.RowKit Tk Sx

theorem declared_snoc (sc : List Dcl) (l : List Spl) (s : Spl) : declared sc (l ++ [s]) = if (declares s).2 then declared sc l ++ [⟨(declares s).1, s.val⟩] else declared sc l := by
 induction l generalizing sc with
 | nil => simp only [List.nil_append, declared]
 | cons x l ih =>
  rw [List.cons_append, declared, declared]
  split
  ·exact ih _
  ·exact ih _
theorem declAt_snoc (l : List Spl) (s : Spl) : declAt (l ++ [s]) = (declAt l).or (if (declares s).2 && !mayD (declares s).1 s.val then some s.at_ else none) := by
 induction l with
 | nil => simp only [List.nil_append, declAt, Option.none_or]
 | cons x l ih =>
  rw [List.cons_append, declAt, declAt, ih]
  split
  ·rfl
  ·rfl
theorem declared_len (l : List Spl) : ∀ sc : List Dcl, (declared sc l).length ≤ sc.length + l.length := by
 induction l with
 | nil => intro sc; exact Nat.le_refl _
 | cons x l ih =>
  intro sc
  rw [declared]
  split
  ·have := ih (sc ++ [⟨(declares x).1, x.val⟩]); rw [List.length_append] at this; simp at this ⊢; omega
  ·have := ih sc; simp; omega
theorem PI.setS {B P : Nat} {w w1 : World} {st : St} {b : Bad} {v : Pv} {A : Option Addr} {c : Nat} {sc : List Dcl} (h : PI B P w st b v) (hm : MovT B 24 w w1) (ho : w1.ownsRow B 24 2 (.slice A sc.length c) sc.length (dcls sc)) :
  PI B P (w1.setCell ⟨P, 1, none⟩ (.slice A sc.length c)) ⟨st.open_, sc, st.evs, st.rooted⟩ b ⟨v.Ao, v.co, A, c, v.Ae, v.ce, v.vb, v.xs⟩ := by
 have hb := hm.blk h.blk (by decide)
 refine ⟨hb.set_ 1 _, h.bp, ?_, ?_, ?_, h.ev, ?_, ?_⟩
 ·exact own_far (p := ⟨P, 1, none⟩) (hm.own h.o (by decide)) hb (by decide) _
 ·exact own_far (p := ⟨P, 1, none⟩) ho hb (by decide) _
 ·exact own_far (p := ⟨P, 1, none⟩) (hm.own h.e (by decide)) hb (by decide) _
 ·intro y hy
  have hy1 : y.In B w1 := (h.inn y hy).movt hm (by decide)
  exact hy1.mov ((Mov.refl B P w1).setCell (p := ⟨P, 1, none⟩) (.inl rfl) _) (ew_notP hy1 hb)
 ·have h1 := h.bad.movt hm (by decide)
  exact h1.mov ((Mov.refl B P w1).setCell (p := ⟨P, 1, none⟩) (.inl rfl) _) hb (by decide)
theorem dcls_snoc (l : List Dcl) (p u : L) : dcls (l ++ [⟨p, u⟩]) = dcls l ++ [.string (bstr p), .string (bstr u)] := by simp [dcls, dclCells]
theorem two_one (p u : ByteArray) : ∀ x ∈ ([.string p, .string u] : List Value), x.oneCell' = true := by
 intro x hx
 simp only [List.mem_cons, List.not_mem_nil, or_false] at hx
 rcases hx with rfl | rfl <;> rfl
theorem sp_cells {w : World} {B g c n k : Nat} {l : List Spl} {x : Spl} (h : w.ownsRow B 137 4 (.slice (some ⟨g, 0, none⟩) n c) n (spls l)) (hn : l.length = n) (hx : l[k]? = some x) : SpAt w g (k * 4) x := by
 obtain ⟨h1, h2⟩ := List.getElem?_eq_some_iff.1 hx
 have hc : ∀ j, j < 4 → w.cell? ⟨g, k * 4 + j, none⟩ = (splCells x)[j]? := fun j hj => by
  rw [h.cellAt (k * 4 + j) (by omega)]
  unfold spls
  rw [fm_at spl_len l k h1 j hj, h2]
 exact ⟨hc 0 (by omega), hc 1 (by omega), hc 2 (by omega), hc 3 (by omega)⟩
/-- What declare leaves. -/
def DeclR (B P : Nat) (w : World) (st : St) (v : Pv) (ss : List Spl) (e : Ending) (w' : World) : Prop :=
 ∃ v', e = .returned (.tuple #[]) ∧ PI B P w' ⟨st.open_, declared st.scope ss, st.evs, st.rooted⟩ (badV (declAt ss)) v' ∧ Mvs B P [24] w w' ∧ v'.Ao = v.Ao

set_option maxHeartbeats 32000000 in
theorem declare_any (B P base : Nat) (w : World) (st : St) (v : Pv) (ss : List Spl) (Al : Option Addr) (cl : Nat) (h : PI B P w st none v) (hB : B ≤ w.heap.size)
  (hl : w.ownsRow base 137 4 (.slice Al ss.length cl) ss.length (spls ss)) (hn : ss.length ≤ 100000000) (hs : st.scope.length ≤ 100000000) :
  Calls Tryz.prog 51 #[.pointer (some ⟨P, 0, none⟩), .slice Al ss.length cl] w (DeclR B P w st v ss) := by
 have H := hide h
 have HB := hide hB
 have Hl := hide hl
 have Hs := hide hs
 obtain ⟨n, hnn⟩ : ∃ n, ss.length = n := ⟨_, rfl⟩
 rw [hnn] at hn Hl ⊢
 have HN := hide hnn
 clear h hB hl hnn hs
 go_enter Tryz.func51, Tryz.ntmps51
 go_wp2
 go_loopg [11] n (fun gk vk wr => ∃ (k : Nat) (vr : Pv), gk = n - k ∧ k ≤ n ∧ vk = .int .i64 (k : Int) ∧ PI B P wr ⟨st.open_, declared st.scope (ss.take k), st.evs, st.rooted⟩ (badV (declAt (ss.take k))) vr ∧ Mvs B P [24] w wr ∧ vr.Ao = v.Ao)
 case atStart => exact ⟨0, v, rfl, by omega, rfl, H.out, Mvs.refl _ _ _ _, rfl⟩
 case round =>
  obtain ⟨k, vr, hgk, hk, rfl, h1, h3, hAo⟩ := hrel
  have Hg := hide hgk
  have H1 := hide h1
  have H3 := hide h3
  have HAo := hide hAo
  clear hgk h1 h3 hAo
  by_cases hlt : k < n
  ·obtain ⟨s, hs⟩ : ∃ s, ss[k]? = some s := ⟨_, List.getElem?_eq_getElem (by rw [HN.out]; exact hlt)⟩
   have hkl : k < ss.length := by rw [HN.out]; exact hlt
   have O1 := hide (Mvs.own H3.out Hl.out H.out.blk (by decide) (by decide))
   obtain ⟨lg, lc, hlv, hlb, hll⟩ := O1.out.form (by omega)
   have hAl : Al = some ⟨lg, 0, none⟩ := by injection hlv
   subst hAl
   cases hlv
   have Sp := hide (sp_cells O1.out HN.out hs)
   have hwk : IntKind.i64.wrap ((k : Int) + 1) = (k : Int) + 1 := IntWalk.i64_in _ (by omega)
   have hts : ss.take (k + 1) = ss.take k ++ [s] := by rw [List.take_succ_eq_append_getElem hkl, (List.getElem?_eq_some_iff.1 hs).2]
   have HSc := hide (show declared st.scope (ss.take (k + 1)) = if (declares s).2 then declared st.scope (ss.take k) ++ [⟨(declares s).1, s.val⟩] else declared st.scope (ss.take k) by rw [hts]; exact declared_snoc _ _ _)
   have HBd := hide (show declAt (ss.take (k + 1)) = (declAt (ss.take k)).or (if (declares s).2 && !mayD (declares s).1 s.val then some s.at_ else none) by rw [hts]; exact declAt_snoc _ _)
   have HD := hide (declares_any s wr lg (k * 4) Sp.out)
   have Hwr := hide (show B ≤ wr.heap.size from Nat.le_trans HB.out H3.out.size)
   have Hdl := hide (show (declared st.scope (ss.take k)).length ≤ 200000000 by have := declared_len (ss.take k) st.scope; rw [List.length_take] at this; have := Hs.out; omega)
   have u2 := Sp.out.c2
   have u3 := Sp.out.c3
   obtain ⟨⟨p, is⟩, hd⟩ : ∃ d, declares s = d := ⟨_, rfl⟩
   rw [hd] at HSc HBd HD
   dsimp only at HSc HBd
   unfold spV at HD
   dsimp only at HD
   obtain ⟨u, hu⟩ : ∃ u, s.val = u := ⟨_, rfl⟩
   rw [hu] at u2 HSc HBd
   clear hts hs hkl hd hu
   cases is with
   | false =>
    go_wp2_with fail
    refine HD.out.mono ?_
    rintro e w2 ⟨rfl, b2⟩
    have I2 := hide (H1.out.go b2)
    have M2 := hide (H3.out.go b2)
    clear b2
    go_wp2
    go_roundg (n - (k + 1))
    case measure => have := Hg.out; omega
    case rel => exact ⟨k + 1, vr, rfl, by omega, by first | rfl | go_num, by rw [HSc.out, HBd.out]; simpa using I2.out, M2.out, HAo.out⟩
   | true =>
    have q1 : ((bstr p).toList == [120, 109, 108, 110, 115]) = decide (p = pXmlns) := lit_eq (bstr p) _
    have q2 : ((bstr u).toList == [104, 116, 116, 112, 58, 47, 47, 119, 119, 119, 46, 119, 51, 46, 111, 114, 103, 47, 50, 48, 48, 48, 47, 120, 109, 108, 110, 115, 47]) = decide (u = xmlnsNs) := lit_eq (bstr u) _
    have q3 : ((bstr p).toList == [120, 109, 108]) = decide (p = pXml) := lit_eq (bstr p) _
    have q4 : ((bstr u).toList == [104, 116, 116, 112, 58, 47, 47, 119, 119, 119, 46, 119, 51, 46, 111, 114, 103, 47, 88, 77, 76, 47, 49, 57, 57, 56, 47, 110, 97, 109, 101, 115, 112, 97, 99, 101]) = decide (u = xmlNs) := lit_eq (bstr u) _
    have q5 := isE p
    have q5' := eqE p
    have q6 := isE u
    have q6' := eqE u
    have hma : mayD p u = ((!decide (p = pXmlns)) && (!decide (u = xmlnsNs)) && (decide (p = pXml) == decide (u = xmlNs)) && (decide (p = []) || !decide (u = []))) := by unfold mayD; simp only [decide_not, ne_eq]
    generalize decide (p = pXmlns) = a1 at *
    generalize decide (u = xmlnsNs) = a2 at *
    generalize decide (p = pXml) = a3 at *
    generalize decide (u = xmlNs) = a4 at *
    generalize decide (p = []) = a5 at *
    generalize decide (u = []) = a6 at *
    cases a1 with
    | true =>
     have HM := hide (show mayD p u = false by rw [hma]; simp)
     clear hma
     go_wp2_with fail
     refine HD.out.mono ?_
     rintro e w2 ⟨rfl, b2⟩
     have I2 := hide (H1.out.go b2)
     have M2 := hide (H3.out.go b2)
     have Hw2 := hide (Nat.le_trans Hwr.out b2.size)
     replace u2 := (b2.cell (p := ⟨lg, k * 4 + 2, none⟩) hll).trans u2
     replace u3 := (b2.cell (p := ⟨lg, k * 4 + 3, none⟩) hll).trans u3
     clear b2
     have HW := hide (wrongB_any B P w2 _ _ _ s.at_ 50 I2.out Hw2.out)
     go_wp2_with fail
     refine HW.out.mono ?_
     rintro e w3 ⟨vb3, rfl, h1, h2⟩
     have I3 := hide h1
     have M3 := hide (M2.out.trans (.of_but h2))
     have Hw3 := hide (Nat.le_trans Hw2.out h2.size)
     clear h1 h2
     have c1 := I3.out.c1
     have f1 := I3.out.f1
     have hPl := I3.out.blk.lt
     have HX := hide (Blk.new w3 24 #[.string (bstr p), .string (bstr u)])
     obtain ⟨m, hm⟩ : ∃ m, (declared st.scope (ss.take k)).length = m := ⟨_, rfl⟩
     have OS := hide I3.out.s
     dsimp only at c1 OS
     rw [hm] at c1 OS
     have Hm := hide hm
     have Hml := hide (show m ≤ 200000000 by rw [← hm]; exact Hdl.out)
     clear hm
     go_wp2_with (at_builtin; go_loud (refine wpList_append_elem_at (w3.alloc (.cells #[.string (bstr p), .string (bstr u)] 24)) rfl (.tmp 62) (.tmp 66) 22 rfl B 24 _ 2 32 Tryz.underlying22 info_dcl rfl (by omega) (.slice _ m _) m _ rfl (OS.out.alloc _) [.string (bstr p), .string (bstr u)] rfl (two_one _ _) w3.heap.size HX.out rfl (by unfold maxLen; have := Hml.out; omega) (by have := Hml.out; omega) (by have := Hw3.out; simp; omega) ?_); intro g8 cap8 w8 hown8 hgrow8 hlt8; have hm8 : MovT B 24 w3 w8 := (MovT.of_below (below_alloc _ _)).trans (.grown hgrow8 fun j hj => own_isT (OS.out.alloc _) j hj); have q8 : w8.cell? ⟨P, 1, none⟩ = some _ := (hm8.blk I3.out.blk (by decide)).cell 1; have fr8 := (hm8.blk I3.out.blk (by decide)).frozen 1; have HM8 := hide hm8; have HO8 := hide hown8; clear hm8 hown8 hgrow8 hlt8)
     go_roundg (n - (k + 1))
     case measure => have := Hg.out; omega
     case rel =>
      have hlen : (declared st.scope (ss.take (k + 1))).length = m + 1 := by rw [HSc.out]; simp only [if_true, List.length_append, Hm.out]; rfl
      have ho : w8.ownsRow B 24 2 (.slice (some ⟨g8, 0, none⟩) (declared st.scope (ss.take (k + 1))).length cap8) (declared st.scope (ss.take (k + 1))).length (dcls (declared st.scope (ss.take (k + 1)))) := by
       rw [hlen, HSc.out]; simp only [if_true]; rw [dcls_snoc]; exact HO8.out
      have hI := I3.out.setS HM8.out ho
      rw [hlen] at hI
      rw [show orB (badV (declAt (ss.take k))) s.at_ 50 = badV (declAt (ss.take (k + 1))) by rw [HBd.out, HM.out, orB_badV]; simp] at hI
      exact ⟨k + 1, _, rfl, by omega, by first | rfl | go_num, hI, (M3.out.trans (.of_movt HM8.out (by simp))).setP (p := ⟨P, 1, none⟩) (.inl rfl) _, HAo.out⟩
    | false =>
     cases a2 with
     | true =>
      have HM := hide (show mayD p u = false by rw [hma]; simp)
      clear hma
      go_wp2_with fail
      refine HD.out.mono ?_
      rintro e w2 ⟨rfl, b2⟩
      have I2 := hide (H1.out.go b2)
      have M2 := hide (H3.out.go b2)
      have Hw2 := hide (Nat.le_trans Hwr.out b2.size)
      replace u2 := (b2.cell (p := ⟨lg, k * 4 + 2, none⟩) hll).trans u2
      replace u3 := (b2.cell (p := ⟨lg, k * 4 + 3, none⟩) hll).trans u3
      clear b2
      have HW := hide (wrongB_any B P w2 _ _ _ s.at_ 50 I2.out Hw2.out)
      go_wp2_with fail
      refine HW.out.mono ?_
      rintro e w3 ⟨vb3, rfl, h1, h2⟩
      have I3 := hide h1
      have M3 := hide (M2.out.trans (.of_but h2))
      have Hw3 := hide (Nat.le_trans Hw2.out h2.size)
      clear h1 h2
      have c1 := I3.out.c1
      have f1 := I3.out.f1
      have hPl := I3.out.blk.lt
      have HX := hide (Blk.new w3 24 #[.string (bstr p), .string (bstr u)])
      obtain ⟨m, hm⟩ : ∃ m, (declared st.scope (ss.take k)).length = m := ⟨_, rfl⟩
      have OS := hide I3.out.s
      dsimp only at c1 OS
      rw [hm] at c1 OS
      have Hm := hide hm
      have Hml := hide (show m ≤ 200000000 by rw [← hm]; exact Hdl.out)
      clear hm
      go_wp2_with (at_builtin; go_loud (refine wpList_append_elem_at (w3.alloc (.cells #[.string (bstr p), .string (bstr u)] 24)) rfl (.tmp 62) (.tmp 66) 22 rfl B 24 _ 2 32 Tryz.underlying22 info_dcl rfl (by omega) (.slice _ m _) m _ rfl (OS.out.alloc _) [.string (bstr p), .string (bstr u)] rfl (two_one _ _) w3.heap.size HX.out rfl (by unfold maxLen; have := Hml.out; omega) (by have := Hml.out; omega) (by have := Hw3.out; simp; omega) ?_); intro g8 cap8 w8 hown8 hgrow8 hlt8; have hm8 : MovT B 24 w3 w8 := (MovT.of_below (below_alloc _ _)).trans (.grown hgrow8 fun j hj => own_isT (OS.out.alloc _) j hj); have q8 : w8.cell? ⟨P, 1, none⟩ = some _ := (hm8.blk I3.out.blk (by decide)).cell 1; have fr8 := (hm8.blk I3.out.blk (by decide)).frozen 1; have HM8 := hide hm8; have HO8 := hide hown8; clear hm8 hown8 hgrow8 hlt8)
      go_roundg (n - (k + 1))
      case measure => have := Hg.out; omega
      case rel =>
       have hlen : (declared st.scope (ss.take (k + 1))).length = m + 1 := by rw [HSc.out]; simp only [if_true, List.length_append, Hm.out]; rfl
       have ho : w8.ownsRow B 24 2 (.slice (some ⟨g8, 0, none⟩) (declared st.scope (ss.take (k + 1))).length cap8) (declared st.scope (ss.take (k + 1))).length (dcls (declared st.scope (ss.take (k + 1)))) := by
        rw [hlen, HSc.out]; simp only [if_true]; rw [dcls_snoc]; exact HO8.out
       have hI := I3.out.setS HM8.out ho
       rw [hlen] at hI
       rw [show orB (badV (declAt (ss.take k))) s.at_ 50 = badV (declAt (ss.take (k + 1))) by rw [HBd.out, HM.out, orB_badV]; simp] at hI
       exact ⟨k + 1, _, rfl, by omega, by first | rfl | go_num, hI, (M3.out.trans (.of_movt HM8.out (by simp))).setP (p := ⟨P, 1, none⟩) (.inl rfl) _, HAo.out⟩
     | false =>
      cases a3 with
      | true =>
       cases a4 with
       | true =>
        cases a5 with
        | true =>
         have HM := hide (show mayD p u = true by rw [hma]; simp)
         clear hma
         go_wp2_with fail
         refine HD.out.mono ?_
         rintro e w2 ⟨rfl, b2⟩
         have I2 := hide (H1.out.go b2)
         have M2 := hide (H3.out.go b2)
         have Hw2 := hide (Nat.le_trans Hwr.out b2.size)
         replace u2 := (b2.cell (p := ⟨lg, k * 4 + 2, none⟩) hll).trans u2
         replace u3 := (b2.cell (p := ⟨lg, k * 4 + 3, none⟩) hll).trans u3
         clear b2
         have c1 := I2.out.c1
         have f1 := I2.out.f1
         have hPl := I2.out.blk.lt
         have HX := hide (Blk.new w2 24 #[.string (bstr p), .string (bstr u)])
         obtain ⟨m, hm⟩ : ∃ m, (declared st.scope (ss.take k)).length = m := ⟨_, rfl⟩
         have OS := hide I2.out.s
         dsimp only at c1 OS
         rw [hm] at c1 OS
         have Hm := hide hm
         have Hml := hide (show m ≤ 200000000 by rw [← hm]; exact Hdl.out)
         clear hm
         go_wp2_with (at_builtin; go_loud (refine wpList_append_elem_at (w2.alloc (.cells #[.string (bstr p), .string (bstr u)] 24)) rfl (.tmp 62) (.tmp 66) 22 rfl B 24 _ 2 32 Tryz.underlying22 info_dcl rfl (by omega) (.slice _ m _) m _ rfl (OS.out.alloc _) [.string (bstr p), .string (bstr u)] rfl (two_one _ _) w2.heap.size HX.out rfl (by unfold maxLen; have := Hml.out; omega) (by have := Hml.out; omega) (by have := Hw2.out; simp; omega) ?_); intro g8 cap8 w8 hown8 hgrow8 hlt8; have hm8 : MovT B 24 w2 w8 := (MovT.of_below (below_alloc _ _)).trans (.grown hgrow8 fun j hj => own_isT (OS.out.alloc _) j hj); have q8 : w8.cell? ⟨P, 1, none⟩ = some _ := (hm8.blk I2.out.blk (by decide)).cell 1; have fr8 := (hm8.blk I2.out.blk (by decide)).frozen 1; have HM8 := hide hm8; have HO8 := hide hown8; clear hm8 hown8 hgrow8 hlt8)
         go_roundg (n - (k + 1))
         case measure => have := Hg.out; omega
         case rel =>
          have hlen : (declared st.scope (ss.take (k + 1))).length = m + 1 := by rw [HSc.out]; simp only [if_true, List.length_append, Hm.out]; rfl
          have ho : w8.ownsRow B 24 2 (.slice (some ⟨g8, 0, none⟩) (declared st.scope (ss.take (k + 1))).length cap8) (declared st.scope (ss.take (k + 1))).length (dcls (declared st.scope (ss.take (k + 1)))) := by
           rw [hlen, HSc.out]; simp only [if_true]; rw [dcls_snoc]; exact HO8.out
          have hI := I2.out.setS HM8.out ho
          rw [hlen] at hI
          rw [show badV (declAt (ss.take k)) = badV (declAt (ss.take (k + 1))) by rw [HBd.out, HM.out]; simp] at hI
          exact ⟨k + 1, _, rfl, by omega, by first | rfl | go_num, hI, (M2.out.trans (.of_movt HM8.out (by simp))).setP (p := ⟨P, 1, none⟩) (.inl rfl) _, HAo.out⟩
        | false =>
         cases a6 with
         | true =>
          have HM := hide (show mayD p u = false by rw [hma]; simp)
          clear hma
          go_wp2_with fail
          refine HD.out.mono ?_
          rintro e w2 ⟨rfl, b2⟩
          have I2 := hide (H1.out.go b2)
          have M2 := hide (H3.out.go b2)
          have Hw2 := hide (Nat.le_trans Hwr.out b2.size)
          replace u2 := (b2.cell (p := ⟨lg, k * 4 + 2, none⟩) hll).trans u2
          replace u3 := (b2.cell (p := ⟨lg, k * 4 + 3, none⟩) hll).trans u3
          clear b2
          have HW := hide (wrongB_any B P w2 _ _ _ s.at_ 50 I2.out Hw2.out)
          go_wp2_with fail
          refine HW.out.mono ?_
          rintro e w3 ⟨vb3, rfl, h1, h2⟩
          have I3 := hide h1
          have M3 := hide (M2.out.trans (.of_but h2))
          have Hw3 := hide (Nat.le_trans Hw2.out h2.size)
          clear h1 h2
          have c1 := I3.out.c1
          have f1 := I3.out.f1
          have hPl := I3.out.blk.lt
          have HX := hide (Blk.new w3 24 #[.string (bstr p), .string (bstr u)])
          obtain ⟨m, hm⟩ : ∃ m, (declared st.scope (ss.take k)).length = m := ⟨_, rfl⟩
          have OS := hide I3.out.s
          dsimp only at c1 OS
          rw [hm] at c1 OS
          have Hm := hide hm
          have Hml := hide (show m ≤ 200000000 by rw [← hm]; exact Hdl.out)
          clear hm
          go_wp2_with (at_builtin; go_loud (refine wpList_append_elem_at (w3.alloc (.cells #[.string (bstr p), .string (bstr u)] 24)) rfl (.tmp 62) (.tmp 66) 22 rfl B 24 _ 2 32 Tryz.underlying22 info_dcl rfl (by omega) (.slice _ m _) m _ rfl (OS.out.alloc _) [.string (bstr p), .string (bstr u)] rfl (two_one _ _) w3.heap.size HX.out rfl (by unfold maxLen; have := Hml.out; omega) (by have := Hml.out; omega) (by have := Hw3.out; simp; omega) ?_); intro g8 cap8 w8 hown8 hgrow8 hlt8; have hm8 : MovT B 24 w3 w8 := (MovT.of_below (below_alloc _ _)).trans (.grown hgrow8 fun j hj => own_isT (OS.out.alloc _) j hj); have q8 : w8.cell? ⟨P, 1, none⟩ = some _ := (hm8.blk I3.out.blk (by decide)).cell 1; have fr8 := (hm8.blk I3.out.blk (by decide)).frozen 1; have HM8 := hide hm8; have HO8 := hide hown8; clear hm8 hown8 hgrow8 hlt8)
          go_roundg (n - (k + 1))
          case measure => have := Hg.out; omega
          case rel =>
           have hlen : (declared st.scope (ss.take (k + 1))).length = m + 1 := by rw [HSc.out]; simp only [if_true, List.length_append, Hm.out]; rfl
           have ho : w8.ownsRow B 24 2 (.slice (some ⟨g8, 0, none⟩) (declared st.scope (ss.take (k + 1))).length cap8) (declared st.scope (ss.take (k + 1))).length (dcls (declared st.scope (ss.take (k + 1)))) := by
            rw [hlen, HSc.out]; simp only [if_true]; rw [dcls_snoc]; exact HO8.out
           have hI := I3.out.setS HM8.out ho
           rw [hlen] at hI
           rw [show orB (badV (declAt (ss.take k))) s.at_ 50 = badV (declAt (ss.take (k + 1))) by rw [HBd.out, HM.out, orB_badV]; simp] at hI
           exact ⟨k + 1, _, rfl, by omega, by first | rfl | go_num, hI, (M3.out.trans (.of_movt HM8.out (by simp))).setP (p := ⟨P, 1, none⟩) (.inl rfl) _, HAo.out⟩
         | false =>
          have HM := hide (show mayD p u = true by rw [hma]; simp)
          clear hma
          go_wp2_with fail
          refine HD.out.mono ?_
          rintro e w2 ⟨rfl, b2⟩
          have I2 := hide (H1.out.go b2)
          have M2 := hide (H3.out.go b2)
          have Hw2 := hide (Nat.le_trans Hwr.out b2.size)
          replace u2 := (b2.cell (p := ⟨lg, k * 4 + 2, none⟩) hll).trans u2
          replace u3 := (b2.cell (p := ⟨lg, k * 4 + 3, none⟩) hll).trans u3
          clear b2
          have c1 := I2.out.c1
          have f1 := I2.out.f1
          have hPl := I2.out.blk.lt
          have HX := hide (Blk.new w2 24 #[.string (bstr p), .string (bstr u)])
          obtain ⟨m, hm⟩ : ∃ m, (declared st.scope (ss.take k)).length = m := ⟨_, rfl⟩
          have OS := hide I2.out.s
          dsimp only at c1 OS
          rw [hm] at c1 OS
          have Hm := hide hm
          have Hml := hide (show m ≤ 200000000 by rw [← hm]; exact Hdl.out)
          clear hm
          go_wp2_with (at_builtin; go_loud (refine wpList_append_elem_at (w2.alloc (.cells #[.string (bstr p), .string (bstr u)] 24)) rfl (.tmp 62) (.tmp 66) 22 rfl B 24 _ 2 32 Tryz.underlying22 info_dcl rfl (by omega) (.slice _ m _) m _ rfl (OS.out.alloc _) [.string (bstr p), .string (bstr u)] rfl (two_one _ _) w2.heap.size HX.out rfl (by unfold maxLen; have := Hml.out; omega) (by have := Hml.out; omega) (by have := Hw2.out; simp; omega) ?_); intro g8 cap8 w8 hown8 hgrow8 hlt8; have hm8 : MovT B 24 w2 w8 := (MovT.of_below (below_alloc _ _)).trans (.grown hgrow8 fun j hj => own_isT (OS.out.alloc _) j hj); have q8 : w8.cell? ⟨P, 1, none⟩ = some _ := (hm8.blk I2.out.blk (by decide)).cell 1; have fr8 := (hm8.blk I2.out.blk (by decide)).frozen 1; have HM8 := hide hm8; have HO8 := hide hown8; clear hm8 hown8 hgrow8 hlt8)
          go_roundg (n - (k + 1))
          case measure => have := Hg.out; omega
          case rel =>
           have hlen : (declared st.scope (ss.take (k + 1))).length = m + 1 := by rw [HSc.out]; simp only [if_true, List.length_append, Hm.out]; rfl
           have ho : w8.ownsRow B 24 2 (.slice (some ⟨g8, 0, none⟩) (declared st.scope (ss.take (k + 1))).length cap8) (declared st.scope (ss.take (k + 1))).length (dcls (declared st.scope (ss.take (k + 1)))) := by
            rw [hlen, HSc.out]; simp only [if_true]; rw [dcls_snoc]; exact HO8.out
           have hI := I2.out.setS HM8.out ho
           rw [hlen] at hI
           rw [show badV (declAt (ss.take k)) = badV (declAt (ss.take (k + 1))) by rw [HBd.out, HM.out]; simp] at hI
           exact ⟨k + 1, _, rfl, by omega, by first | rfl | go_num, hI, (M2.out.trans (.of_movt HM8.out (by simp))).setP (p := ⟨P, 1, none⟩) (.inl rfl) _, HAo.out⟩
       | false =>
        have HM := hide (show mayD p u = false by rw [hma]; simp)
        clear hma
        go_wp2_with fail
        refine HD.out.mono ?_
        rintro e w2 ⟨rfl, b2⟩
        have I2 := hide (H1.out.go b2)
        have M2 := hide (H3.out.go b2)
        have Hw2 := hide (Nat.le_trans Hwr.out b2.size)
        replace u2 := (b2.cell (p := ⟨lg, k * 4 + 2, none⟩) hll).trans u2
        replace u3 := (b2.cell (p := ⟨lg, k * 4 + 3, none⟩) hll).trans u3
        clear b2
        have HW := hide (wrongB_any B P w2 _ _ _ s.at_ 50 I2.out Hw2.out)
        go_wp2_with fail
        refine HW.out.mono ?_
        rintro e w3 ⟨vb3, rfl, h1, h2⟩
        have I3 := hide h1
        have M3 := hide (M2.out.trans (.of_but h2))
        have Hw3 := hide (Nat.le_trans Hw2.out h2.size)
        clear h1 h2
        have c1 := I3.out.c1
        have f1 := I3.out.f1
        have hPl := I3.out.blk.lt
        have HX := hide (Blk.new w3 24 #[.string (bstr p), .string (bstr u)])
        obtain ⟨m, hm⟩ : ∃ m, (declared st.scope (ss.take k)).length = m := ⟨_, rfl⟩
        have OS := hide I3.out.s
        dsimp only at c1 OS
        rw [hm] at c1 OS
        have Hm := hide hm
        have Hml := hide (show m ≤ 200000000 by rw [← hm]; exact Hdl.out)
        clear hm
        go_wp2_with (at_builtin; go_loud (refine wpList_append_elem_at (w3.alloc (.cells #[.string (bstr p), .string (bstr u)] 24)) rfl (.tmp 62) (.tmp 66) 22 rfl B 24 _ 2 32 Tryz.underlying22 info_dcl rfl (by omega) (.slice _ m _) m _ rfl (OS.out.alloc _) [.string (bstr p), .string (bstr u)] rfl (two_one _ _) w3.heap.size HX.out rfl (by unfold maxLen; have := Hml.out; omega) (by have := Hml.out; omega) (by have := Hw3.out; simp; omega) ?_); intro g8 cap8 w8 hown8 hgrow8 hlt8; have hm8 : MovT B 24 w3 w8 := (MovT.of_below (below_alloc _ _)).trans (.grown hgrow8 fun j hj => own_isT (OS.out.alloc _) j hj); have q8 : w8.cell? ⟨P, 1, none⟩ = some _ := (hm8.blk I3.out.blk (by decide)).cell 1; have fr8 := (hm8.blk I3.out.blk (by decide)).frozen 1; have HM8 := hide hm8; have HO8 := hide hown8; clear hm8 hown8 hgrow8 hlt8)
        go_roundg (n - (k + 1))
        case measure => have := Hg.out; omega
        case rel =>
         have hlen : (declared st.scope (ss.take (k + 1))).length = m + 1 := by rw [HSc.out]; simp only [if_true, List.length_append, Hm.out]; rfl
         have ho : w8.ownsRow B 24 2 (.slice (some ⟨g8, 0, none⟩) (declared st.scope (ss.take (k + 1))).length cap8) (declared st.scope (ss.take (k + 1))).length (dcls (declared st.scope (ss.take (k + 1)))) := by
          rw [hlen, HSc.out]; simp only [if_true]; rw [dcls_snoc]; exact HO8.out
         have hI := I3.out.setS HM8.out ho
         rw [hlen] at hI
         rw [show orB (badV (declAt (ss.take k))) s.at_ 50 = badV (declAt (ss.take (k + 1))) by rw [HBd.out, HM.out, orB_badV]; simp] at hI
         exact ⟨k + 1, _, rfl, by omega, by first | rfl | go_num, hI, (M3.out.trans (.of_movt HM8.out (by simp))).setP (p := ⟨P, 1, none⟩) (.inl rfl) _, HAo.out⟩
      | false =>
       cases a4 with
       | true =>
        have HM := hide (show mayD p u = false by rw [hma]; simp)
        clear hma
        go_wp2_with fail
        refine HD.out.mono ?_
        rintro e w2 ⟨rfl, b2⟩
        have I2 := hide (H1.out.go b2)
        have M2 := hide (H3.out.go b2)
        have Hw2 := hide (Nat.le_trans Hwr.out b2.size)
        replace u2 := (b2.cell (p := ⟨lg, k * 4 + 2, none⟩) hll).trans u2
        replace u3 := (b2.cell (p := ⟨lg, k * 4 + 3, none⟩) hll).trans u3
        clear b2
        have HW := hide (wrongB_any B P w2 _ _ _ s.at_ 50 I2.out Hw2.out)
        go_wp2_with fail
        refine HW.out.mono ?_
        rintro e w3 ⟨vb3, rfl, h1, h2⟩
        have I3 := hide h1
        have M3 := hide (M2.out.trans (.of_but h2))
        have Hw3 := hide (Nat.le_trans Hw2.out h2.size)
        clear h1 h2
        have c1 := I3.out.c1
        have f1 := I3.out.f1
        have hPl := I3.out.blk.lt
        have HX := hide (Blk.new w3 24 #[.string (bstr p), .string (bstr u)])
        obtain ⟨m, hm⟩ : ∃ m, (declared st.scope (ss.take k)).length = m := ⟨_, rfl⟩
        have OS := hide I3.out.s
        dsimp only at c1 OS
        rw [hm] at c1 OS
        have Hm := hide hm
        have Hml := hide (show m ≤ 200000000 by rw [← hm]; exact Hdl.out)
        clear hm
        go_wp2_with (at_builtin; go_loud (refine wpList_append_elem_at (w3.alloc (.cells #[.string (bstr p), .string (bstr u)] 24)) rfl (.tmp 62) (.tmp 66) 22 rfl B 24 _ 2 32 Tryz.underlying22 info_dcl rfl (by omega) (.slice _ m _) m _ rfl (OS.out.alloc _) [.string (bstr p), .string (bstr u)] rfl (two_one _ _) w3.heap.size HX.out rfl (by unfold maxLen; have := Hml.out; omega) (by have := Hml.out; omega) (by have := Hw3.out; simp; omega) ?_); intro g8 cap8 w8 hown8 hgrow8 hlt8; have hm8 : MovT B 24 w3 w8 := (MovT.of_below (below_alloc _ _)).trans (.grown hgrow8 fun j hj => own_isT (OS.out.alloc _) j hj); have q8 : w8.cell? ⟨P, 1, none⟩ = some _ := (hm8.blk I3.out.blk (by decide)).cell 1; have fr8 := (hm8.blk I3.out.blk (by decide)).frozen 1; have HM8 := hide hm8; have HO8 := hide hown8; clear hm8 hown8 hgrow8 hlt8)
        go_roundg (n - (k + 1))
        case measure => have := Hg.out; omega
        case rel =>
         have hlen : (declared st.scope (ss.take (k + 1))).length = m + 1 := by rw [HSc.out]; simp only [if_true, List.length_append, Hm.out]; rfl
         have ho : w8.ownsRow B 24 2 (.slice (some ⟨g8, 0, none⟩) (declared st.scope (ss.take (k + 1))).length cap8) (declared st.scope (ss.take (k + 1))).length (dcls (declared st.scope (ss.take (k + 1)))) := by
          rw [hlen, HSc.out]; simp only [if_true]; rw [dcls_snoc]; exact HO8.out
         have hI := I3.out.setS HM8.out ho
         rw [hlen] at hI
         rw [show orB (badV (declAt (ss.take k))) s.at_ 50 = badV (declAt (ss.take (k + 1))) by rw [HBd.out, HM.out, orB_badV]; simp] at hI
         exact ⟨k + 1, _, rfl, by omega, by first | rfl | go_num, hI, (M3.out.trans (.of_movt HM8.out (by simp))).setP (p := ⟨P, 1, none⟩) (.inl rfl) _, HAo.out⟩
       | false =>
        cases a5 with
        | true =>
         have HM := hide (show mayD p u = true by rw [hma]; simp)
         clear hma
         go_wp2_with fail
         refine HD.out.mono ?_
         rintro e w2 ⟨rfl, b2⟩
         have I2 := hide (H1.out.go b2)
         have M2 := hide (H3.out.go b2)
         have Hw2 := hide (Nat.le_trans Hwr.out b2.size)
         replace u2 := (b2.cell (p := ⟨lg, k * 4 + 2, none⟩) hll).trans u2
         replace u3 := (b2.cell (p := ⟨lg, k * 4 + 3, none⟩) hll).trans u3
         clear b2
         have c1 := I2.out.c1
         have f1 := I2.out.f1
         have hPl := I2.out.blk.lt
         have HX := hide (Blk.new w2 24 #[.string (bstr p), .string (bstr u)])
         obtain ⟨m, hm⟩ : ∃ m, (declared st.scope (ss.take k)).length = m := ⟨_, rfl⟩
         have OS := hide I2.out.s
         dsimp only at c1 OS
         rw [hm] at c1 OS
         have Hm := hide hm
         have Hml := hide (show m ≤ 200000000 by rw [← hm]; exact Hdl.out)
         clear hm
         go_wp2_with (at_builtin; go_loud (refine wpList_append_elem_at (w2.alloc (.cells #[.string (bstr p), .string (bstr u)] 24)) rfl (.tmp 62) (.tmp 66) 22 rfl B 24 _ 2 32 Tryz.underlying22 info_dcl rfl (by omega) (.slice _ m _) m _ rfl (OS.out.alloc _) [.string (bstr p), .string (bstr u)] rfl (two_one _ _) w2.heap.size HX.out rfl (by unfold maxLen; have := Hml.out; omega) (by have := Hml.out; omega) (by have := Hw2.out; simp; omega) ?_); intro g8 cap8 w8 hown8 hgrow8 hlt8; have hm8 : MovT B 24 w2 w8 := (MovT.of_below (below_alloc _ _)).trans (.grown hgrow8 fun j hj => own_isT (OS.out.alloc _) j hj); have q8 : w8.cell? ⟨P, 1, none⟩ = some _ := (hm8.blk I2.out.blk (by decide)).cell 1; have fr8 := (hm8.blk I2.out.blk (by decide)).frozen 1; have HM8 := hide hm8; have HO8 := hide hown8; clear hm8 hown8 hgrow8 hlt8)
         go_roundg (n - (k + 1))
         case measure => have := Hg.out; omega
         case rel =>
          have hlen : (declared st.scope (ss.take (k + 1))).length = m + 1 := by rw [HSc.out]; simp only [if_true, List.length_append, Hm.out]; rfl
          have ho : w8.ownsRow B 24 2 (.slice (some ⟨g8, 0, none⟩) (declared st.scope (ss.take (k + 1))).length cap8) (declared st.scope (ss.take (k + 1))).length (dcls (declared st.scope (ss.take (k + 1)))) := by
           rw [hlen, HSc.out]; simp only [if_true]; rw [dcls_snoc]; exact HO8.out
          have hI := I2.out.setS HM8.out ho
          rw [hlen] at hI
          rw [show badV (declAt (ss.take k)) = badV (declAt (ss.take (k + 1))) by rw [HBd.out, HM.out]; simp] at hI
          exact ⟨k + 1, _, rfl, by omega, by first | rfl | go_num, hI, (M2.out.trans (.of_movt HM8.out (by simp))).setP (p := ⟨P, 1, none⟩) (.inl rfl) _, HAo.out⟩
        | false =>
         cases a6 with
         | true =>
          have HM := hide (show mayD p u = false by rw [hma]; simp)
          clear hma
          go_wp2_with fail
          refine HD.out.mono ?_
          rintro e w2 ⟨rfl, b2⟩
          have I2 := hide (H1.out.go b2)
          have M2 := hide (H3.out.go b2)
          have Hw2 := hide (Nat.le_trans Hwr.out b2.size)
          replace u2 := (b2.cell (p := ⟨lg, k * 4 + 2, none⟩) hll).trans u2
          replace u3 := (b2.cell (p := ⟨lg, k * 4 + 3, none⟩) hll).trans u3
          clear b2
          have HW := hide (wrongB_any B P w2 _ _ _ s.at_ 50 I2.out Hw2.out)
          go_wp2_with fail
          refine HW.out.mono ?_
          rintro e w3 ⟨vb3, rfl, h1, h2⟩
          have I3 := hide h1
          have M3 := hide (M2.out.trans (.of_but h2))
          have Hw3 := hide (Nat.le_trans Hw2.out h2.size)
          clear h1 h2
          have c1 := I3.out.c1
          have f1 := I3.out.f1
          have hPl := I3.out.blk.lt
          have HX := hide (Blk.new w3 24 #[.string (bstr p), .string (bstr u)])
          obtain ⟨m, hm⟩ : ∃ m, (declared st.scope (ss.take k)).length = m := ⟨_, rfl⟩
          have OS := hide I3.out.s
          dsimp only at c1 OS
          rw [hm] at c1 OS
          have Hm := hide hm
          have Hml := hide (show m ≤ 200000000 by rw [← hm]; exact Hdl.out)
          clear hm
          go_wp2_with (at_builtin; go_loud (refine wpList_append_elem_at (w3.alloc (.cells #[.string (bstr p), .string (bstr u)] 24)) rfl (.tmp 62) (.tmp 66) 22 rfl B 24 _ 2 32 Tryz.underlying22 info_dcl rfl (by omega) (.slice _ m _) m _ rfl (OS.out.alloc _) [.string (bstr p), .string (bstr u)] rfl (two_one _ _) w3.heap.size HX.out rfl (by unfold maxLen; have := Hml.out; omega) (by have := Hml.out; omega) (by have := Hw3.out; simp; omega) ?_); intro g8 cap8 w8 hown8 hgrow8 hlt8; have hm8 : MovT B 24 w3 w8 := (MovT.of_below (below_alloc _ _)).trans (.grown hgrow8 fun j hj => own_isT (OS.out.alloc _) j hj); have q8 : w8.cell? ⟨P, 1, none⟩ = some _ := (hm8.blk I3.out.blk (by decide)).cell 1; have fr8 := (hm8.blk I3.out.blk (by decide)).frozen 1; have HM8 := hide hm8; have HO8 := hide hown8; clear hm8 hown8 hgrow8 hlt8)
          go_roundg (n - (k + 1))
          case measure => have := Hg.out; omega
          case rel =>
           have hlen : (declared st.scope (ss.take (k + 1))).length = m + 1 := by rw [HSc.out]; simp only [if_true, List.length_append, Hm.out]; rfl
           have ho : w8.ownsRow B 24 2 (.slice (some ⟨g8, 0, none⟩) (declared st.scope (ss.take (k + 1))).length cap8) (declared st.scope (ss.take (k + 1))).length (dcls (declared st.scope (ss.take (k + 1)))) := by
            rw [hlen, HSc.out]; simp only [if_true]; rw [dcls_snoc]; exact HO8.out
           have hI := I3.out.setS HM8.out ho
           rw [hlen] at hI
           rw [show orB (badV (declAt (ss.take k))) s.at_ 50 = badV (declAt (ss.take (k + 1))) by rw [HBd.out, HM.out, orB_badV]; simp] at hI
           exact ⟨k + 1, _, rfl, by omega, by first | rfl | go_num, hI, (M3.out.trans (.of_movt HM8.out (by simp))).setP (p := ⟨P, 1, none⟩) (.inl rfl) _, HAo.out⟩
         | false =>
          have HM := hide (show mayD p u = true by rw [hma]; simp)
          clear hma
          go_wp2_with fail
          refine HD.out.mono ?_
          rintro e w2 ⟨rfl, b2⟩
          have I2 := hide (H1.out.go b2)
          have M2 := hide (H3.out.go b2)
          have Hw2 := hide (Nat.le_trans Hwr.out b2.size)
          replace u2 := (b2.cell (p := ⟨lg, k * 4 + 2, none⟩) hll).trans u2
          replace u3 := (b2.cell (p := ⟨lg, k * 4 + 3, none⟩) hll).trans u3
          clear b2
          have c1 := I2.out.c1
          have f1 := I2.out.f1
          have hPl := I2.out.blk.lt
          have HX := hide (Blk.new w2 24 #[.string (bstr p), .string (bstr u)])
          obtain ⟨m, hm⟩ : ∃ m, (declared st.scope (ss.take k)).length = m := ⟨_, rfl⟩
          have OS := hide I2.out.s
          dsimp only at c1 OS
          rw [hm] at c1 OS
          have Hm := hide hm
          have Hml := hide (show m ≤ 200000000 by rw [← hm]; exact Hdl.out)
          clear hm
          go_wp2_with (at_builtin; go_loud (refine wpList_append_elem_at (w2.alloc (.cells #[.string (bstr p), .string (bstr u)] 24)) rfl (.tmp 62) (.tmp 66) 22 rfl B 24 _ 2 32 Tryz.underlying22 info_dcl rfl (by omega) (.slice _ m _) m _ rfl (OS.out.alloc _) [.string (bstr p), .string (bstr u)] rfl (two_one _ _) w2.heap.size HX.out rfl (by unfold maxLen; have := Hml.out; omega) (by have := Hml.out; omega) (by have := Hw2.out; simp; omega) ?_); intro g8 cap8 w8 hown8 hgrow8 hlt8; have hm8 : MovT B 24 w2 w8 := (MovT.of_below (below_alloc _ _)).trans (.grown hgrow8 fun j hj => own_isT (OS.out.alloc _) j hj); have q8 : w8.cell? ⟨P, 1, none⟩ = some _ := (hm8.blk I2.out.blk (by decide)).cell 1; have fr8 := (hm8.blk I2.out.blk (by decide)).frozen 1; have HM8 := hide hm8; have HO8 := hide hown8; clear hm8 hown8 hgrow8 hlt8)
          go_roundg (n - (k + 1))
          case measure => have := Hg.out; omega
          case rel =>
           have hlen : (declared st.scope (ss.take (k + 1))).length = m + 1 := by rw [HSc.out]; simp only [if_true, List.length_append, Hm.out]; rfl
           have ho : w8.ownsRow B 24 2 (.slice (some ⟨g8, 0, none⟩) (declared st.scope (ss.take (k + 1))).length cap8) (declared st.scope (ss.take (k + 1))).length (dcls (declared st.scope (ss.take (k + 1)))) := by
            rw [hlen, HSc.out]; simp only [if_true]; rw [dcls_snoc]; exact HO8.out
           have hI := I2.out.setS HM8.out ho
           rw [hlen] at hI
           rw [show badV (declAt (ss.take k)) = badV (declAt (ss.take (k + 1))) by rw [HBd.out, HM.out]; simp] at hI
           exact ⟨k + 1, _, rfl, by omega, by first | rfl | go_num, hI, (M2.out.trans (.of_movt HM8.out (by simp))).setP (p := ⟨P, 1, none⟩) (.inl rfl) _, HAo.out⟩
  ·have hall : k = n := by omega
   subst hall
   have e1 : ss.take k = ss := List.take_of_length_le (by rw [HN.out]; exact Nat.le_refl _)
   have I := hide H1.out
   rw [e1] at I
   clear e1
   go_wp2
   go_end0
   exact ⟨vr, rfl, I.out, H3.out, HAo.out⟩
end Go.Proofs.YtbbpkcddifmieaaGreatDoor
