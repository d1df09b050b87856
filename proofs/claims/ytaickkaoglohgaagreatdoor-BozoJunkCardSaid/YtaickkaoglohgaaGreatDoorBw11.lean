/- Tokens: what begins with <? or <!. (Printed by wip/genTkW.py.) · Tokens: words for one: which reading a piece calls, and whether it is of Chars alone. -/
import Derived.Test.YtaickkaoglohgaaGreatDoorBw03
import Derived.Test.YtaickkaoglohgaaGreatDoorBw10
import Derived.Deep.DeepCutAuto
import Derived.Deep.Onto
set_option linter.unusedSimpArgs false
set_option linter.unusedVariables false
namespace Go.Proofs.YtaickkaoglohgaaGreatDoor
section
open Go.RowKit Tk

theorem five_same {d : L} (h : 5 ≤ d.length) : ((d.take 5) == ([60, 63, 120, 109, 108] : L)) = sXml.isPrefixOf d := by
 rw [Bool.eq_iff_iff, beq_iff_eq, List.isPrefixOf_iff_prefix, List.prefix_iff_eq_take];exact eq_comm
set_option maxHeartbeats 32000000 in
set_option maxRecDepth 20000 in
theorem skip_any (w : World) (base X T : Nat) (s : ByteArray) (k : Nat) (hX : Sc w X s k) (hT : T0 w T k) (hne : X ≠ T) (hX6 : 6 ≤ X) (hT6 : 6 ≤ T) (hg : Gl w) (hk : k ≤ s.size) (hs : s.size ≤ 1000000000) :
  Calls Tryz.prog 57 #[.pointer (some ⟨X, 0, none⟩), .pointer (some ⟨T, 0, none⟩)] w (PieceR w base X T s k (Tk.skip k (s.data.toList.drop k))) := by
 obtain ⟨D, hD⟩ : ∃ D, s.data.toList = D := ⟨_, rfl⟩;have HD := hide hD;have HDl := hide (show D.length = s.size by rw [← hD, size_list]);have HG := hide hg;rw [hD];obtain ⟨res, hres⟩ : ∃ o, Tk.skip k (D.drop k) = o := ⟨_, rfl⟩;rw [hres]
 have hsk : res = if ([60, 33, 45, 45] : L).isPrefixOf (D.drop k) then (comment (D.drop (k + 4))).map fun n => ⟨4, [], [], false, [], k, k + 4 + n⟩
  else if ([60, 33, 91, 67, 68, 65, 84, 65, 91] : L).isPrefixOf (D.drop k) then (till [93, 93, 62] (D.drop (k + 9))).map fun n => ⟨3, [], [], false, (D.drop (k + 9)).take n, k, k + 9 + n + 3⟩
  else if k = 0 ∧ sXml.isPrefixOf (D.drop k) = true ∧ (((D.drop (k + 5)).head?).map sp).getD false = true then (decl (D.drop (k + 5))).map fun n => ⟨4, [], [], false, [], k, k + 5 + n⟩
  else if ([60, 63] : L).isPrefixOf (D.drop k) then (instr (D.drop (k + 2))).map fun n => ⟨4, [], [], false, [], k, k + 2 + n⟩
  else none := by
  rw [← hres];unfold Tk.skip;simp only [List.drop_drop, sComment, sData]
 have H1 := hide hsk;have HQ := hide (Sk.first hX hT hne);have f0 := Tb.f hT 0;have c0 := Tb.c0 hT;clear hres hsk hX hT hD hg
 cases hpA : (([60, 33, 45, 45] : L).isPrefixOf (D.drop k)) with
 | true =>
  have HR := hide (show res = (comment (D.drop (k + 4))).map fun n => ⟨4, [], [], false, [], k, k + 4 + n⟩ by rw [H1.out, if_pos hpA]);clear H1
  go_enter Tryz.func57, Tryz.ntmps57
  go_wp2_with fail
  refine (HQ.out.is_yes hne hs [60, 33, 45, 45] (by decide) hk (by rw [HD.out]; exact hpA)).mono ?_;rintro e wQ2 ⟨rfl, hQ2, lQ2⟩;have Q2 := hide hQ2;have LQ2 := hide lQ2;clear hQ2 lQ2;clear f0 c0;have hl4 : k + 4 ≤ s.size := LQ2.out;replace Q2 := hide (show Sk w wQ2 X T s k (k + 4) 4 [] from Q2.out)
  cases htl : till [45, 45] (D.drop (k + 4)) with
  | none =>
   have HRr := hide (show res = none by rw [HR.out, comment, htl]; rfl);clear HR
   go_wp2_with fail
   refine (Q2.out.till_no hne HG.out hX6 hT6 hs [45, 45] (by decide) hl4 (by rw [HD.out]; exact htl)).mono ?_;rintro e wQ3 ⟨rfl, hQ3⟩;have Q3 := hide hQ3;clear hQ3;go_wp2;go_ret;exact Q3.out.no HRr.out rfl hl4
  | some n =>
   go_wp2_with fail
   refine (Q2.out.till_yes hne HG.out hX6 hT6 hs [45, 45] (by decide) hl4 (by rw [HD.out]; exact htl)).mono ?_;rintro e wQ3 ⟨rfl, hQ3, lQ3⟩;have Q3 := hide hQ3;have LQ3 := hide lQ3;clear hQ3 lQ3;have hl6 : k + 4 + n + 2 ≤ s.size := LQ3.out;replace Q3 := hide (show Sk w wQ3 X T s k (k + 4 + n + 2) 4 [] from Q3.out)
   cases hpB : ([62] : L).isPrefixOf (D.drop (k + 4 + n + 2)) with
   | true =>
    have HRr := hide (show res = some ⟨4, [], [], false, [], k, k + 4 + n + 2 + 1⟩ by
     rw [HR.out, comment, htl, Option.bind_some, List.drop_drop, show k + 4 + (n + 2) = k + 4 + n + 2 by omega, if_pos hpB]
     rfl)
    clear HR
    go_wp2_with fail
    refine (Q3.out.is_yes hne hs [62] (by decide) hl6 (by rw [HD.out]; exact hpB)).mono ?_;rintro e wQ4 ⟨rfl, hQ4, lQ4⟩;have Q4 := hide hQ4;have LQ4 := hide lQ4;clear hQ4 lQ4;go_wp2;go_ret;exact Q4.out.yes HRr.out rfl LQ4.out (by omega)
   | false =>
    have HRr := hide (show res = none by
     rw [HR.out, comment, htl, Option.bind_some, List.drop_drop, show k + 4 + (n + 2) = k + 4 + n + 2 by omega, if_neg (by rw [hpB]; simp)]
     rfl)
    clear HR
    go_wp2_with fail
    refine (Q3.out.is_no hne hs [62] (by decide) hl6 (by rw [HD.out]; exact hpB)).mono ?_;rintro e wQ4 ⟨rfl, hQ4⟩;have Q4 := hide hQ4;clear hQ4;go_wp2;go_ret;exact Q4.out.no HRr.out rfl hl6
 | false =>
  cases hpB : (([60, 33, 91, 67, 68, 65, 84, 65, 91] : L).isPrefixOf (D.drop k)) with
  | true =>
   have HR := hide (show res = (till [93, 93, 62] (D.drop (k + 9))).map fun n => ⟨3, [], [], false, (D.drop (k + 9)).take n, k, k + 9 + n + 3⟩ by rw [H1.out, if_neg (by rw [hpA]; simp), if_pos hpB]);clear H1
   go_enter Tryz.func57, Tryz.ntmps57
   go_wp2_with fail
   refine (HQ.out.is_no hne hs [60, 33, 45, 45] (by decide) hk (by rw [HD.out]; exact hpA)).mono ?_;rintro e wQ1 ⟨rfl, hQ1⟩;have Q1 := hide hQ1;clear hQ1;clear f0 c0
   go_wp2_with fail
   refine (Q1.out.is_yes hne hs [60, 33, 91, 67, 68, 65, 84, 65, 91] (by decide) hk (by rw [HD.out]; exact hpB)).mono ?_;rintro e wQ2 ⟨rfl, hQ2, lQ2⟩;have Q2 := hide hQ2;have LQ2 := hide lQ2;clear hQ2 lQ2;have hl9 : k + 9 ≤ s.size := LQ2.out;replace Q2 := hide (show Sk w wQ2 X T s k (k + 9) 4 [] from Q2.out)
   cases htl : till [93, 93, 62] (D.drop (k + 9)) with
   | none =>
    have HRr := hide (show res = none by rw [HR.out, htl]; rfl);clear HR
    go_wp2_with fail
    refine (Q2.out.till_no hne HG.out hX6 hT6 hs [93, 93, 62] (by decide) hl9 (by rw [HD.out]; exact htl)).mono ?_;rintro e wQ3 ⟨rfl, hQ3⟩;have Q3 := hide hQ3;clear hQ3;have f0 := Tb.f Q3.out.tb 0;have c0 := Tb.c0 Q3.out.tb;have f4 := Tb.f Q3.out.tb 4;have c4 := Tb.c4 Q3.out.tb;go_wp2;go_ret;exact (Q3.out.data hne []).no HRr.out rfl hl9
   | some n =>
    have HRr := hide (show res = some ⟨3, [], [], false, (D.drop (k + 9)).take n, k, k + 9 + n + 3⟩ by rw [HR.out, htl]; rfl);clear HR
    go_wp2_with fail
    refine (Q2.out.till_yes hne HG.out hX6 hT6 hs [93, 93, 62] (by decide) hl9 (by rw [HD.out]; exact htl)).mono ?_;rintro e wQ3 ⟨rfl, hQ3, lQ3⟩;have Q3 := hide hQ3;have LQ3 := hide lQ3;clear hQ3 lQ3;have f0 := Tb.f Q3.out.tb 0;have c0 := Tb.c0 Q3.out.tb;have f4 := Tb.f Q3.out.tb 4;have c4 := Tb.c4 Q3.out.tb;rw [HD.out];obtain ⟨tx, htx⟩ : ∃ tx, (D.drop (k + 9)).take n = tx := ⟨_, rfl⟩;rw [htx] at HRr ⊢;clear htx;go_wp2;go_ret;exact (Q3.out.data hne tx).yes HRr.out rfl LQ3.out (by omega)
  | false =>
   have H2 := hide (show res = if k = 0 ∧ sXml.isPrefixOf (D.drop k) = true ∧ (((D.drop (k + 5)).head?).map sp).getD false = true then (decl (D.drop (k + 5))).map fun n => ⟨4, [], [], false, [], k, k + 5 + n⟩
    else if ([60, 63] : L).isPrefixOf (D.drop k) then (instr (D.drop (k + 2))).map fun n => ⟨4, [], [], false, [], k, k + 2 + n⟩ else none by
     rw [H1.out, if_neg (by rw [hpA]; simp), if_neg (by rw [hpB]; simp)])
   clear H1
   go_enter Tryz.func57, Tryz.ntmps57
   go_wp2_with fail
   refine (HQ.out.is_no hne hs [60, 33, 45, 45] (by decide) hk (by rw [HD.out]; exact hpA)).mono ?_;rintro e wQ1 ⟨rfl, hQ1⟩;have Q1 := hide hQ1;clear hQ1;clear f0 c0
   go_wp2_with fail
   refine (Q1.out.is_no hne hs [60, 33, 91, 67, 68, 65, 84, 65, 91] (by decide) hk (by rw [HD.out]; exact hpB)).mono ?_;rintro e wQ2 ⟨rfl, hQ2⟩;have Q2 := hide hQ2;clear hQ2;have q0 := Sc.c0 Q2.out.sc;have q1 := Sc.c1 Q2.out.sc;clear hpA hpB;obtain ⟨cb, hcb⟩ : ∃ cb, decide (k = 0 ∧ sXml.isPrefixOf (D.drop k) = true ∧ (((D.drop (k + 5)).head?).map sp).getD false = true) = cb := ⟨_, rfl⟩;have Hcb := hide hcb;clear hcb
   go_upto_region 9 with fail
   go_cut [44] (fun s44 wx => s44 = .bool cb ∧ wx = wQ2)
   case first =>
    by_cases hk0 : k = 0
    ·have HK := hide hk0;have hk00 : ((k : Int) == 0) = true := by rw [HK.out]; rfl
     clear hk0
     by_cases h5 : 5 < s.size
     ·have he5 : ((s.extract 0 5).toList == ([60, 63, 120, 109, 108] : L)) = sXml.isPrefixOf (D.drop k) := by
       rw [HK.out, extract_bstr, HD.out, str_list, bstr_list, List.drop_zero, Nat.sub_zero];exact five_same (by rw [HDl.out]; omega)
      have hle : 5 ≤ s.size := by omega
      have hd5 : decide ((5 : Int) < (s.size : Int)) = true := decide_eq_true (by omega)
      cases hpX : sXml.isPrefixOf (D.drop k) with
      | true =>
       rw [hpX] at he5;obtain ⟨c, hc⟩ : ∃ c, D[5]? = some c := ⟨_, List.getElem?_eq_getElem (by rw [HDl.out]; exact h5)⟩;have hhd : (D.drop (k + 5)).head? = some c := by rw [List.head?_drop, HK.out]; exact hc
       have hidx := idx_run s 5 c (by rw [HD.out]; exact hc)
       have hs5 : s[5] = c := by
        have h2 : s.data.toList[5]? = some c := by rw [HD.out]; exact hc
        obtain ⟨_, h3⟩ := List.getElem?_eq_some_iff.1 h2;exact h3
       have HSpc := hide (fun W => (show Calls Tryz.prog 90 #[.int .u8 (s[5].toNat : Nat)] W fun e w' => e = .returned (.bool (sp c)) ∧ w' = W from by rw [hs5]; exact space_any c W));have Hcv := hide (show sp c = cb by rw [← Hcb.out, hhd, hpX, Option.map_some, Option.getD_some]; cases sp c <;> simp [HK.out]);clear hs5 hidx hhd hpX;generalize sp c = sc at *
       go_wp2_with fail
       refine cq (HSpc.out _) ?_;go_wp2;(try simp only [Exit.then]);(try refine Met.intro ?_)
       first
        | (rename_i hJ hM; refine hM _ _ (Met.intro ?_); refine hJ _ _ ?_)
        | (rename_i hJ; refine hJ _ _ ?_)
        | (rename_i hJ hT; refine hJ _ _ ?_)
        | (rename_i hJ hT hT2; refine hJ _ _ ?_)
        | (rename_i hJ hT hT2 hT3; refine hJ _ _ ?_)
       (repeat apply Exists.intro);exact ⟨⟨by rw [Hcv.out], rfl⟩, rfl⟩
      | false =>
       rw [hpX] at he5;have Hcv := hide (show false = cb by rw [← Hcb.out, hpX]; simp);clear hpX;go_wp2;(try simp only [Exit.then]);(try refine Met.intro ?_)
       first
        | (rename_i hJ hM; refine hM _ _ (Met.intro ?_); refine hJ _ _ ?_)
        | (rename_i hJ; refine hJ _ _ ?_)
        | (rename_i hJ hT; refine hJ _ _ ?_)
        | (rename_i hJ hT hT2; refine hJ _ _ ?_)
        | (rename_i hJ hT hT2 hT3; refine hJ _ _ ?_)
       (repeat apply Exists.intro);exact ⟨⟨by rw [Hcv.out], rfl⟩, rfl⟩
     have hd5 : decide ((5 : Int) < (s.size : Int)) = false := decide_eq_false (by omega)
     have Hcv := hide (show false = cb by
      rw [← Hcb.out];refine (decide_eq_false ?_).symm;rintro ⟨_, h, h7⟩;have e5 := (List.isPrefixOf_iff_prefix.1 h).length_le
      have h6 : ((D.drop (k + 5)).head?.map sp).getD false = false := by
       rw [List.head?_drop, List.getElem?_eq_none (by rw [HDl.out, HK.out]; omega)];rfl
      rw [h6] at h7
      cases h7)
     clear h5;go_wp2;(try simp only [Exit.then]);(try refine Met.intro ?_)
     first
      | (rename_i hJ hM; refine hM _ _ (Met.intro ?_); refine hJ _ _ ?_)
      | (rename_i hJ; refine hJ _ _ ?_)
      | (rename_i hJ hT; refine hJ _ _ ?_)
      | (rename_i hJ hT hT2; refine hJ _ _ ?_)
      | (rename_i hJ hT hT2 hT3; refine hJ _ _ ?_)
     (repeat apply Exists.intro);exact ⟨⟨by rw [Hcv.out], rfl⟩, rfl⟩
    have hk00 : ((k : Int) == 0) = false := by rw [beq_eq_false_iff_ne]; omega
    have Hcv := hide (show false = cb by rw [← Hcb.out]; simp [hk0]);clear hk0;go_wp2;(try simp only [Exit.then]);(try refine Met.intro ?_)
    first
     | (rename_i hJ hM; refine hM _ _ (Met.intro ?_); refine hJ _ _ ?_)
     | (rename_i hJ; refine hJ _ _ ?_)
     | (rename_i hJ hT; refine hJ _ _ ?_)
     | (rename_i hJ hT hT2; refine hJ _ _ ?_)
     | (rename_i hJ hT hT2 hT3; refine hJ _ _ ?_)
    (repeat apply Exists.intro);exact ⟨⟨by rw [Hcv.out], rfl⟩, rfl⟩
   case rest =>
    obtain ⟨rfl, hwc⟩ := hcut;have hwc2 := hwc.symm;clear hwc;subst hwc2
    cases cb with
    | true =>
     have Hc := hide (of_decide_eq_true Hcb.out);have HK := hide Hc.out.1;have HR := hide (show res = (decl (D.drop (k + 5))).map fun n => ⟨4, [], [], false, [], k, k + 5 + n⟩ by rw [H2.out, if_pos Hc.out]);have HD5 := hide (show D.drop 5 = D.drop (k + 5) by rw [HK.out])
     have hle : 5 ≤ s.size := by
      have e5 := (List.isPrefixOf_iff_prefix.1 Hc.out.2.1).length_le;rw [List.length_drop, HDl.out, show sXml.length = 5 from rfl] at e5;omega
     clear H2;have f1 := Sc.f1 Q2.out.sc
     go_wp2_with fail
     have Q3 := hide (Q2.out.move hne 5);have HDc := hide (declaration_any _ X s 5 Q3.out.sc hX6 (Q3.out.gl HG.out hX6 hT6) (by omega) hs);refine HDc.out.mono ?_;rintro e w4 h4;rw [HD.out, HD5.out] at h4
     cases hdc : decl (D.drop (k + 5)) with
     | none =>
      rw [hdc] at h4;obtain ⟨b4, rfl, k4, l4, s4⟩ := h4;have Q4 := hide (Q3.out.go hne b4 s4);have HRr := hide (show res = none by rw [HR.out, hdc]; rfl);have L4 := hide l4;clear b4 s4 HDc l4 q0 q1 f1 hdc HR;go_wp2;go_ret;exact Q4.out.no HRr.out rfl L4.out
     | some n =>
      rw [hdc] at h4;obtain ⟨b4, rfl, l4, s4⟩ := h4;have Q4 := hide (Q3.out.go hne b4 s4);have HRr := hide (show res = some ⟨4, [], [], false, [], k, 5 + n⟩ by rw [HR.out, hdc, HK.out]; simp);have L4 := hide l4;have HK5 := hide (show k < 5 + n by rw [HK.out]; omega);clear b4 s4 HDc l4 q0 q1 f1 hdc HR;go_wp2;go_ret;exact Q4.out.yes HRr.out rfl L4.out HK5.out
    | false =>
     have HR := hide (show res = if ([60, 63] : L).isPrefixOf (D.drop k) then (instr (D.drop (k + 2))).map fun n => ⟨4, [], [], false, [], k, k + 2 + n⟩ else none by rw [H2.out, if_neg (of_decide_eq_false Hcb.out)]);clear H2 q0 q1
     cases hpD : (([60, 63] : L).isPrefixOf (D.drop k)) with
     | false =>
      have HRr := hide (show res = none by rw [HR.out, if_neg (by rw [hpD]; simp)])
      go_wp2_with fail
      refine (Q2.out.is_no hne hs [60, 63] (by decide) hk (by rw [HD.out]; exact hpD)).mono ?_;rintro e wQ4 ⟨rfl, hQ4⟩;have Q4 := hide hQ4;clear hQ4;go_wp2;go_ret;exact Q4.out.no HRr.out rfl hk
     | true =>
      have HR2 := hide (show res = (instr (D.drop (k + 2))).map fun n => ⟨4, [], [], false, [], k, k + 2 + n⟩ by rw [HR.out, if_pos hpD]);clear HR
      go_wp2_with fail
      refine (Q2.out.is_yes hne hs [60, 63] (by decide) hk (by rw [HD.out]; exact hpD)).mono ?_;rintro e wQ4 ⟨rfl, hQ4, lQ4⟩;have Q4 := hide hQ4;have LQ4 := hide lQ4;clear hQ4 lQ4;have hk2 : k + 2 ≤ s.size := LQ4.out;have HN := hide (name_any wQ4 X s (k + 2) Q4.out.sc hk2 hs);obtain ⟨m, hm⟩ : ∃ m, take (D.drop (k + 2)) = m := ⟨_, rfl⟩;have hml : k + 2 + m ≤ s.size := by have := take_le (D.drop (k + 2)); rw [List.length_drop, HDl.out] at this; omega
      obtain ⟨nl, hnl⟩ : ∃ nl, (D.drop (k + 2)).take m = nl := ⟨_, rfl⟩;obtain ⟨nm, hnm⟩ : ∃ nm, bstr nl = nm := ⟨_, rfl⟩;have hex : s.extract (k + 2) (k + 2 + m) = nm := by rw [extract_bstr, HD.out, show k + 2 + m - (k + 2) = m by omega, hnl, hnm]
      rw [HD.out, hm, hex] at HN;have hnll : nl.length = m := by rw [← hnl, List.length_take, List.length_drop, HDl.out]; omega
      have hnms : nm.size = m := by rw [← hnm, bstr_size, hnll]
      have hE : (nm.toList == ([] : L)) = decide (m = 0) := by
       rw [← hnm, str_emp', Bool.eq_iff_iff, List.isEmpty_iff, decide_eq_true_eq]
       constructor
       ·intro h; rw [h] at hnll; simpa using hnll.symm
       intro h; exact List.eq_nil_of_length_eq_zero (by omega)
      have hIn : instr (D.drop (k + 2)) = if m = 0 ∨ xml nl = true then none
        else if ([63, 62] : L).isPrefixOf (D.drop (k + 2 + m)) then some (m + 2)
        else (till [63, 62] (D.drop (k + 2 + m))).bind fun j => if (((D.drop (k + 2 + m)).head?).map sp).getD false then some (m + j + 2) else none := by
       unfold instr;rw [hm, hnl, List.drop_drop]
      rw [hIn] at HR2;have HFo := hide fun W (h : Gl W) => fold_any nm W h (by rw [hnms]; omega);rw [← hnm, bstr_list, hnm] at HFo;have hxl := fun h => xml_len (n := nl) h;rw [hnll] at hxl;generalize xml nl = xb at *
      clear hIn hnl hm hex hnm hnll
      go_wp2_with fail
      refine HN.out.mono ?_;rintro e w5 ⟨rfl, s5, b5⟩;have Q5 := hide (Q4.out.go hne b5 s5);clear s5 b5 HN
      by_cases h0 : m = 0
      ·rw [decide_eq_true h0] at hE;have HRr := hide (show res = none by rw [HR2.out, if_pos (.inl h0)]; rfl);clear HR2 h0;go_wp2;go_ret;exact Q5.out.no HRr.out rfl hml
      rw [decide_eq_false h0] at hE
      cases xb with
      | true =>
       have HRr := hide (show res = none by rw [HR2.out, if_pos (.inr rfl)]; rfl);have h3 : m = 3 := hxl rfl;subst h3;clear HR2 h0 hxl
       go_wp2_with fail
       refine (HFo.out _ (Q5.out.gl HG.out hX6 hT6)).mono ?_;rintro e w6 ⟨rfl, b6⟩;have Q6 := hide (Q5.out.below b6);clear b6;go_wp2;go_ret;exact Q6.out.no HRr.out rfl hml
      | false =>
       clear hxl
       have HR3 := hide (show res = (if ([63, 62] : L).isPrefixOf (D.drop (k + 2 + m)) then some (m + 2)
        else (till [63, 62] (D.drop (k + 2 + m))).bind fun j => if (((D.drop (k + 2 + m)).head?).map sp).getD false then some (m + j + 2) else none).map fun n => ⟨4, [], [], false, [], k, k + 2 + n⟩ by
         rw [HR2.out, if_neg (by simp; exact h0)])
       clear HR2
       go_wp2_with fail
       refine (HFo.out _ (Q5.out.gl HG.out hX6 hT6)).mono ?_;rintro e w6 ⟨rfl, b6⟩;have Q6 := hide (Q5.out.below b6);clear b6 HFo
       cases hpE : (([63, 62] : L).isPrefixOf (D.drop (k + 2 + m))) with
       | true =>
        have HRr := hide (show res = some ⟨4, [], [], false, [], k, k + 2 + m + 2⟩ by rw [HR3.out, if_pos hpE]; rfl);clear HR3
        go_wp2_with fail
        refine (Q6.out.is_yes hne hs [63, 62] (by decide) hml (by rw [HD.out]; exact hpE)).mono ?_;rintro e wQ7 ⟨rfl, hQ7, lQ7⟩;have Q7 := hide hQ7;have LQ7 := hide lQ7;clear hQ7 lQ7;go_wp2;go_ret;exact Q7.out.yes HRr.out rfl LQ7.out (by omega)
       | false =>
        have HR4 := hide (show res = ((till [63, 62] (D.drop (k + 2 + m))).bind fun j => if (((D.drop (k + 2 + m)).head?).map sp).getD false then some (m + j + 2) else none).map fun n => ⟨4, [], [], false, [], k, k + 2 + n⟩ by
         rw [HR3.out, if_neg (by rw [hpE]; simp)])
        clear HR3
        go_wp2_with fail
        refine (Q6.out.is_no hne hs [63, 62] (by decide) hml (by rw [HD.out]; exact hpE)).mono ?_;rintro e wQ7 ⟨rfl, hQ7⟩;have Q7 := hide hQ7;clear hQ7
        cases htl : till [63, 62] (D.drop (k + 2 + m)) with
        | none =>
         have HRr := hide (show res = none by rw [HR4.out, htl]; rfl);clear HR4
         go_wp2_with fail
         refine (Q7.out.till_no hne HG.out hX6 hT6 hs [63, 62] (by decide) hml (by rw [HD.out]; exact htl)).mono ?_;rintro e wQ8 ⟨rfl, hQ8⟩;have Q8 := hide hQ8;clear hQ8;clear htl hpE hpD;go_wp2;refine wp_region_held_drew (S := fun W => Sk w W X T s k (k + 2 + m) 4 []) (by kernel_rfl) ?_ (fun hHeld => ?_)
         ·(try dsimp only)
          first | exact Q8.out.drew | exact Q8.out | exact hHeld | exact hHeld.drew
         change wpAnyH _ _ _ _ _ 18 #[false, false, false, false, false, false, false, false, false, false, false, false, false, false, false, false, false, false] _ _;iterate 2 (refine nxT (v := ?_) rfl rfl hHeld ?_ ?_; rotate_left; (· (intro w hSw; (try dsimp only at hSw); go_simp; try with_reducible rfl)); (try simp only [nx, List.set]))
         iterate 14 (refine nxK rfl rfl hHeld ?_; (try simp only [nx, List.set]))
         iterate 2 (refine nxT (v := ?_) rfl rfl hHeld ?_ ?_; rotate_left; (· (intro w hSw; (try dsimp only at hSw); go_simp; try with_reducible rfl)); (try simp only [nx, List.set]))
         refine wpAnyH_done (by kernel_rfl) ?_ _;go_wp2;go_ret;exact hHeld.no HRr.out rfl hml
        | some n =>
         have hnn := (till_some htl).2;rw [List.length_drop, HDl.out] at hnn;obtain ⟨c, hc⟩ : ∃ c, D[k + 2 + m]? = some c := ⟨_, List.getElem?_eq_getElem (by rw [HDl.out]; have e : ([63, 62] : L).length = 2 := rfl; omega)⟩;have hhd : (D.drop (k + 2 + m)).head? = some c := by rw [List.head?_drop, hc]
         have HRr := hide (show res = if sp c then some ⟨4, [], [], false, [], k, k + 2 + m + n + 2⟩ else none by
          rw [HR4.out, htl, Option.bind_some, hhd]
          by_cases hcb : sp c = true
          ·rw [if_pos (show ((Option.map sp (some c)).getD false) = true from hcb), if_pos hcb];simp;omega
          rw [if_neg (show ¬((Option.map sp (some c)).getD false) = true from hcb), if_neg hcb]
          rfl)
         have hidx := idx_run s (k + 2 + m) c (by rw [HD.out]; exact hc);rw [show ((k + 2 + m : Nat) : Int) = (k : Int) + 2 + (m : Int) by omega] at hidx;have HSpc := hide (space_any c);obtain ⟨cb, hcb⟩ : ∃ b, sp c = b := ⟨_, rfl⟩;rw [hcb] at HSpc HRr;clear hcb;have hw2 : IntKind.i64.wrap ((k : Int) + 2) = (k : Int) + 2 := IntWalk.i64_in _ (by omega);have hw3 : IntKind.i64.wrap ((k : Int) + 2 + (m : Int)) = (k : Int) + 2 + (m : Int) := IntWalk.i64_in _ (by omega);clear HR4 hhd hc hnn
         go_wp2_with fail
         refine (Q7.out.till_yes hne HG.out hX6 hT6 hs [63, 62] (by decide) hml (by rw [HD.out]; exact htl)).mono ?_;rintro e wQ8 ⟨rfl, hQ8, lQ8⟩;have Q8 := hide hQ8;have LQ8 := hide lQ8;clear hQ8 lQ8;clear htl hpE hpD;replace LQ8 := hide (show k + 2 + m + n + 2 ≤ s.size from LQ8.out);replace Q8 := hide (show Sk w wQ8 X T s k (k + 2 + m + n + 2) 4 [] from Q8.out);go_wp2;refine wp_region_held_drew (S := fun W => Sk w W X T s k (k + 2 + m + n + 2) 4 []) (by kernel_rfl) ?_ (fun hHeld => ?_)
         ·(try dsimp only)
          first | exact Q8.out.drew | exact Q8.out | exact hHeld | exact hHeld.drew
         change wpAnyH _ _ _ _ _ 18 #[false, false, false, false, false, false, false, false, false, false, false, false, false, false, false, false, false, false] _ _;iterate 5 (refine nxT (v := ?_) rfl rfl hHeld ?_ ?_; rotate_left; (· (intro w hSw; (try dsimp only at hSw); go_simp; try with_reducible rfl)); (try simp only [nx, List.set]))
         (refine nxT (v := ?_) rfl rfl hHeld ?_ ?_; rotate_left; (· (intro w hSw; (try dsimp only at hSw); have q0 := Sc.c0 hSw.sc; have q5 := Tb.c5 hSw.tb; go_simp; try with_reducible rfl)); (try simp only [nx, List.set]));iterate 3 (refine nxT (v := ?_) rfl rfl hHeld ?_ ?_; rotate_left; (· (intro w hSw; (try dsimp only at hSw); go_simp; try with_reducible rfl)); (try simp only [nx, List.set]))
         (refine nxT (v := ?_) rfl rfl hHeld ?_ ?_; rotate_left; (· (intro w hSw; (try dsimp only at hSw); have q0 := Sc.c0 hSw.sc; have q5 := Tb.c5 hSw.tb; go_simp; try with_reducible rfl)); (try simp only [nx, List.set]));iterate 5 (refine nxT (v := ?_) rfl rfl hHeld ?_ ?_; rotate_left; (· (intro w hSw; (try dsimp only at hSw); go_simp; try with_reducible rfl)); (try simp only [nx, List.set]))
         refine held_call (i := 15) rfl (by kernel_rfl) (by kernel_rfl) (fun K hK => ?_);go_simp
         go_at_call 90
         refine (HSpc.out _).mono ?_;rintro e w' ⟨rfl, rfl⟩;(try dsimp only);refine hK.out _ _ ?_ (fun hHeld' => ?_)
         ·(try dsimp only)
          first | exact Q8.out.drew | exact Q8.out | exact hHeld | exact hHeld.drew
         clear hK K hHeld;have hHeld := hHeld';clear hHeld';(try simp only [Act.put, List.setIfInBounds_toArray, List.set_cons_zero, List.set_cons_succ]);iterate 2 (refine nxT (v := ?_) rfl rfl hHeld ?_ ?_; rotate_left; (· (intro w hSw; (try dsimp only at hSw); go_simp; try with_reducible rfl)); (try simp only [nx, List.set]))
         refine wpAnyH_done (by kernel_rfl) ?_ _;go_wp2;go_ret
         cases cb with
         | true => exact hHeld.yes HRr.out rfl LQ8.out (by omega)
         | false => exact hHeld.no HRr.out rfl LQ8.out
end
section
open Go.RowKit Tk

theorem bad_fine (l : L) : decide (0 ≤ bad l) = !fine l := by
 unfold bad fine stop
 cases h : (Utf.pieces l).find? (fun p => !charOk p.2) with
 | none =>
  have : (Utf.pieces l).all (fun p => charOk p.2) = true := List.all_eq_true.2 fun p hp => by
   have := List.find?_eq_none.1 h p hp
   simpa using this
  simp [this]
 | some p =>
  have h1 := List.find?_some h;have h2 := List.mem_of_find?_eq_some h
  have : (Utf.pieces l).all (fun p => charOk p.2) = false := by
   rw [Bool.eq_false_iff];intro ha;have := List.all_eq_true.1 ha p h2;rw [this] at h1;cases h1
  simp [this]
def tokCells (t : Tok) (v : Value) (e : Nat) : List Value := [.int .i8 t.kind, .string (bstr t.name), v, .bool t.empty, .string (bstr t.text), .int .i64 (t.at_ : Int), .int .i64 (e : Int)]
def zeroTok : List Value := [.int .i8 0, .string ⟨#[]⟩, .slice none 0 0, .bool false, .string ⟨#[]⟩, .int .i64 0, .int .i64 0]
def OneR (w : World) (o : Option Tok) (e : Ending) (w' : World) : Prop :=
 Below w.heap.size w w' ∧ match o with
  | none => e = .returned (.tuple #[.agg zeroTok.toArray, .bool false])
  | some t => ∃ A c, e = .returned (.tuple #[.agg (tokCells t (.slice A t.attrs.length c) t.end_).toArray, .bool true]) ∧ w'.ownsRow w.heap.size 114 3 (.slice A t.attrs.length c) t.attrs.length (attrVs t.attrs)
theorem OneR.no {w : World} {o : Option Tok} {e : Ending} {w' : World} (ho : o = none) (hb : Below w.heap.size w w') (he : e = .returned (.tuple #[.agg zeroTok.toArray, .bool false])) : OneR w o e w' := by subst ho; exact ⟨hb, he⟩
theorem OneR.no' {R : Nat} {w : World} {o : Option Tok} {e : Ending} {w' : World} (hR : w.heap.size = R) (ho : o = none) (hb : Below R w w') (he : e = .returned (.tuple #[.agg zeroTok.toArray, .bool false])) : OneR w o e w' := by subst hR; exact OneR.no ho hb he
theorem OneR.yes {w : World} {o : Option Tok} {t : Tok} {e : Ending} {w' : World} {A : Option Addr} {c : Nat} (ho : o = some t) (hb : Below w.heap.size w w') (he : e = .returned (.tuple #[.agg (tokCells t (.slice A t.attrs.length c) t.end_).toArray, .bool true]))
  (hr : w'.ownsRow w.heap.size 114 3 (.slice A t.attrs.length c) t.attrs.length (attrVs t.attrs)) : OneR w o e w' := by subst ho; exact ⟨hb, A, c, he, hr⟩
def fnOf (l : L) : Nat := if ([60, 47] : L).isPrefixOf l then 56 else if ([60, 33] : L).isPrefixOf l || ([60, 63] : L).isPrefixOf l then 57 else if ([60] : L).isPrefixOf l then 55 else 58
theorem kind_cases (l : L) : (kindOf l = 0 ∧ fnOf l = 55) ∨ (kindOf l = 1 ∧ fnOf l = 56) ∨ (kindOf l = 2 ∧ fnOf l = 57) ∨ (kindOf l = 3 ∧ fnOf l = 58) := by
 unfold kindOf fnOf
 cases ([60, 47] : L).isPrefixOf l <;> cases (([60, 33] : L).isPrefixOf l || ([60, 63] : L).isPrefixOf l) <;> cases ([60] : L).isPrefixOf l <;> simp
theorem piece_call (w : World) (X T : Nat) (s : ByteArray) (k : Nat) (hX : Sc w X s k) (hT : T0 w T k) (hne : X ≠ T) (hX6 : 6 ≤ X) (hT6 : 6 ≤ T) (hg : Gl w) (hk : k < s.size) (hs : s.size ≤ 1000000000) :
  Calls Tryz.prog (fnOf (s.data.toList.drop k)) #[.pointer (some ⟨X, 0, none⟩), .pointer (some ⟨T, 0, none⟩)] w (PieceR w w.heap.size X T s k (Tk.piece k (s.data.toList.drop k))) := by
 unfold fnOf Tk.piece;split
 ·rename_i hp
  have := pfx_len hp;rw [List.length_drop, size_list] at this;exact end_any w _ X T s k hX hT hne (by have e : ([60, 47] : L).length = 2 := rfl; omega) hs
 split
 ·exact skip_any w _ X T s k hX hT hne hX6 hT6 hg (by omega) hs
 split
 ·exact start_any w _ X T s k hX hT hne hX6 hT6 hg rfl hk hs
 rename_i hp
 exact text_any w _ X T s k hX hT hne hX6 hT6 hg hk hs (Bool.eq_false_iff.2 hp)
def oneW (w : World) (s : ByteArray) (k : Nat) : World :=
 (((w.alloc (.cells #[.int .i8 0, .string ⟨#[]⟩, .slice none 0 0, .bool false, .string ⟨#[]⟩, .int .i64 0, .int .i64 0] 55)).alloc
  (.cells #[.func (.func 55) #[] #[], .func (.func 56) #[] #[], .func (.func 57) #[] #[], .func (.func 58) #[] #[]] 107)).alloc
  (.cells #[.string s, .int .i64 (k : Int)] 109)).alloc (.cells #[.int .i8 0, .string ⟨#[]⟩, .slice none 0 0, .bool false, .string ⟨#[]⟩, .int .i64 (k : Int), .int .i64 0] 55)
structure OneW (w C : World) (s : ByteArray) (k R Y X T : Nat) : Prop where
 res : Blk C R 55 #[.int .i8 0, .string ⟨#[]⟩, .slice none 0 0, .bool false, .string ⟨#[]⟩, .int .i64 0, .int .i64 0]
 fns : Blk C Y 107 #[.func (.func 55) #[] #[], .func (.func 56) #[] #[], .func (.func 57) #[] #[], .func (.func 58) #[] #[]]
 sc : Sc C X s k
 tok : T0 C T k
 below : Below w.heap.size w C
 size : T < C.heap.size
 base : w.heap.size ≤ C.heap.size
 rX : R ≠ X
 rT : R ≠ T
 xT : X ≠ T
 xs : w.heap.size ≤ X
 ts : w.heap.size ≤ T
 rs : w.heap.size ≤ R
theorem oneW_is (w : World) (s : ByteArray) (k : Nat) : OneW w (oneW w s k) s k w.heap.size (w.heap.size + 1) (w.heap.size + 1 + 1) (w.heap.size + 1 + 1 + 1) := by
 have b0 := Blk.new w 55 #[.int .i8 0, .string ⟨#[]⟩, .slice none 0 0, .bool false, .string ⟨#[]⟩, .int .i64 0, .int .i64 0];have b1 := Blk.new (w.alloc (.cells #[.int .i8 0, .string ⟨#[]⟩, .slice none 0 0, .bool false, .string ⟨#[]⟩, .int .i64 0, .int .i64 0] 55)) 107 #[.func (.func 55) #[] #[], .func (.func 56) #[] #[], .func (.func 57) #[] #[], .func (.func 58) #[] #[]];rw [World.size_alloc] at b1;have b2 := Blk.new ((w.alloc (.cells #[.int .i8 0, .string ⟨#[]⟩, .slice none 0 0, .bool false, .string ⟨#[]⟩, .int .i64 0, .int .i64 0] 55)).alloc (.cells #[.func (.func 55) #[] #[], .func (.func 56) #[] #[], .func (.func 57) #[] #[], .func (.func 58) #[] #[]] 107)) 109 #[.string s, .int .i64 (k : Int)];rw [World.size_alloc, World.size_alloc] at b2
 have b3 := Blk.new (((w.alloc (.cells #[.int .i8 0, .string ⟨#[]⟩, .slice none 0 0, .bool false, .string ⟨#[]⟩, .int .i64 0, .int .i64 0] 55)).alloc (.cells #[.func (.func 55) #[] #[], .func (.func 56) #[] #[], .func (.func 57) #[] #[], .func (.func 58) #[] #[]] 107)).alloc (.cells #[.string s, .int .i64 (k : Int)] 109)) 55 #[.int .i8 0, .string ⟨#[]⟩, .slice none 0 0, .bool false, .string ⟨#[]⟩, .int .i64 (k : Int), .int .i64 0];rw [World.size_alloc, World.size_alloc, World.size_alloc] at b3;refine ⟨((b0.alloc _).alloc _).alloc _, (b1.alloc _).alloc _, b2.alloc _, b3, ?_, b3.lt, ?_, by omega, by omega, by omega, by omega, by omega, by omega⟩
 ·exact (((((Below.refl _ w).alloc (Nat.le_refl _) _).alloc (by simp) _).alloc (by simp; omega) _).alloc (by simp; omega) _)
 have := b3.lt;unfold oneW;omega
def put7 (w : World) (X : Nat) (v0 v1 v2 v3 v4 v5 v6 : Value) : World := (((((((w.setCell ⟨X, 0, none⟩ v0).setCell ⟨X, 1, none⟩ v1).setCell ⟨X, 2, none⟩ v2).setCell ⟨X, 3, none⟩ v3).setCell ⟨X, 4, none⟩ v4).setCell ⟨X, 5, none⟩ v5).setCell ⟨X, 6, none⟩ v6)
theorem below_put7 {B X : Nat} {w w1 : World} (h : Below B w w1) (hX : B ≤ X) (v0 v1 v2 v3 v4 v5 v6 : Value) : Below B w (put7 w1 X v0 v1 v2 v3 v4 v5 v6) :=
 ((((((h.setCell (p := ⟨X, 0, none⟩) hX v0).setCell (p := ⟨X, 1, none⟩) hX v1).setCell (p := ⟨X, 2, none⟩) hX v2).setCell (p := ⟨X, 3, none⟩) hX v3).setCell (p := ⟨X, 4, none⟩) hX v4).setCell (p := ⟨X, 5, none⟩) hX v5).setCell (p := ⟨X, 6, none⟩) hX v6
theorem put7_blk {w : World} {X t : Nat} {u0 u1 u2 u3 u4 u5 u6 : Value} (h : Blk w X t #[u0, u1, u2, u3, u4, u5, u6]) (v0 v1 v2 v3 v4 v5 v6 : Value) : Blk (put7 w X v0 v1 v2 v3 v4 v5 v6) X t #[v0, v1, v2, v3, v4, v5, v6] := by
 have := ((((((h.set_ 0 v0).set_ 1 v1).set_ 2 v2).set_ 3 v3).set_ 4 v4).set_ 5 v5).set_ 6 v6
 simpa [Go.Proofs.YtaickkaoglohgaaGreatDoor.put7] using this
theorem put7_own {w : World} {base e size n X : Nat} {v : Value} {xs : List Value} (h : w.ownsRow base e size v n xs) (hX : v.ownBlock ≠ some X) (v0 v1 v2 v3 v4 v5 v6 : Value) : (put7 w X v0 v1 v2 v3 v4 v5 v6).ownsRow base e size v n xs :=
 ownsRow_setCell_other (ownsRow_setCell_other (ownsRow_setCell_other (ownsRow_setCell_other (ownsRow_setCell_other (ownsRow_setCell_other (ownsRow_setCell_other h (a := ⟨X, 0, none⟩) hX _) (a := ⟨X, 1, none⟩) hX _) (a := ⟨X, 2, none⟩) hX _) (a := ⟨X, 3, none⟩) hX _) (a := ⟨X, 4, none⟩) hX _) (a := ⟨X, 5, none⟩) hX _) (a := ⟨X, 6, none⟩) hX _
theorem one_ret {Q : Ending → World → Prop} {a : Act} {W : World} {R : Nat} {v0 v1 v2 v3 v4 v5 v6 : Value} {b : Bool} (ha : a.tmps.getD 4 undef = .pointer (some ⟨R, 0, none⟩)) (h5 : a.tmps.getD 5 undef = .bool b) (hd : a.defers = []) (hK : Blk W R 55 #[v0, v1, v2, v3, v4, v5, v6])
  (hQ : Q (.returned (.tuple #[.agg #[v0, v1, v2, v3, v4, v5, v6], .bool b])) W) : bodyPost Tryz.prog Tryz.f24 Q .ret a W := by
 have p0 : W.cell? ⟨R, 0, none⟩ = some v0 := hK.cell 0;have p1 : W.cell? ⟨R, 1, none⟩ = some v1 := hK.cell 1;have p2 : W.cell? ⟨R, 2, none⟩ = some v2 := hK.cell 2;have p3 : W.cell? ⟨R, 3, none⟩ = some v3 := hK.cell 3;have p4 : W.cell? ⟨R, 4, none⟩ = some v4 := hK.cell 4;have p5 : W.cell? ⟨R, 5, none⟩ = some v5 := hK.cell 5;have p6 : W.cell? ⟨R, 6, none⟩ = some v6 := hK.cell 6;refine bodyPost_ret (v := .tuple #[.agg #[v0, v1, v2, v3, v4, v5, v6], .bool b]) ?_ hd hQ;obtain ⟨tm, df⟩ := a;dsimp only at ha h5 ⊢;have ha' : tm[4]?.getD undef = .pointer (some ⟨R, 0, none⟩) := by simpa using ha
 have hb' : tm[5]?.getD undef = .bool b := by simpa using h5
 simp [results, Tryz.results24, go_sem, p0, p1, p2, p3, p4, p5, p6, ha', hb']
theorem own_below {w w' : World} {base e size n : Nat} {v : Value} {xs : List Value} (h : w.ownsRow base e size v n xs) (hb : Below w.heap.size w w') : w'.ownsRow base e size v n xs :=
 h.kept (row := some w.heap.size) ⟨hb.os, hb.tape, hb.output, hb.size, fun i hi _ => hb.block i hi⟩ (.inr fun e => by have := (h.lt _ e).2; omega)
theorem But2.blk {X T g t : Nat} {cs : Array Value} {w w' : World} (h : But2 X T w w') (hg : Blk w g t cs) (hX : g ≠ X) (hT : g ≠ T) : Blk w' g t cs := (h.block g hg.lt hX hT).trans hg
end
end Go.Proofs.YtaickkaoglohgaaGreatDoor
