/- Tokens: what begins with <? or <!. (Printed by wip/genTkW.py.) -/
import Derived.Test.YtbbpkcddifmieaaGreatDoorSw12
set_option linter.unusedSimpArgs false
set_option linter.unusedVariables false
namespace Go.Proofs.YtbbpkcddifmieaaGreatDoor
open Go.RowKit Tk

theorem five_same {d : L} (h : 5 ≤ d.length) : ((d.take 5) == ([60, 63, 120, 109, 108] : L)) = sXml.isPrefixOf d := by
 rw [Bool.eq_iff_iff, beq_iff_eq, List.isPrefixOf_iff_prefix, List.prefix_iff_eq_take]
 exact eq_comm
set_option maxHeartbeats 32000000 in
set_option maxRecDepth 20000 in
theorem skip_any (w : World) (base X T : Nat) (s : ByteArray) (k : Nat) (hX : Sc w X s k) (hT : T0 w T k) (hne : X ≠ T) (hX6 : 6 ≤ X) (hT6 : 6 ≤ T) (hg : Gl w) (hk : k ≤ s.size) (hs : s.size ≤ 1000000000) :
  Calls Tryz.prog 79 #[.pointer (some ⟨X, 0, none⟩), .pointer (some ⟨T, 0, none⟩)] w (PieceR w base X T s k (Tk.skip k (s.data.toList.drop k))) := by
 obtain ⟨D, hD⟩ : ∃ D, s.data.toList = D := ⟨_, rfl⟩
 have HD := hide hD
 have HDl := hide (show D.length = s.size by rw [← hD, size_list])
 have HG := hide hg
 rw [hD]
 obtain ⟨res, hres⟩ : ∃ o, Tk.skip k (D.drop k) = o := ⟨_, rfl⟩
 rw [hres]
 have hsk : res = if ([60, 33, 45, 45] : L).isPrefixOf (D.drop k) then (comment (D.drop (k + 4))).map fun n => ⟨4, [], [], false, [], k, k + 4 + n⟩
  else if ([60, 33, 91, 67, 68, 65, 84, 65, 91] : L).isPrefixOf (D.drop k) then (till [93, 93, 62] (D.drop (k + 9))).map fun n => ⟨3, [], [], false, (D.drop (k + 9)).take n, k, k + 9 + n + 3⟩
  else if k = 0 ∧ sXml.isPrefixOf (D.drop k) = true ∧ (((D.drop (k + 5)).head?).map sp).getD false = true then (decl (D.drop (k + 5))).map fun n => ⟨4, [], [], false, [], k, k + 5 + n⟩
  else if ([60, 63] : L).isPrefixOf (D.drop k) then (instr (D.drop (k + 2))).map fun n => ⟨4, [], [], false, [], k, k + 2 + n⟩
  else none := by
  rw [← hres]
  unfold Tk.skip
  simp only [List.drop_drop, sComment, sData]
 have H1 := hide hsk
 have HQ := hide (Sk.first hX hT hne)
 have f0 := Tb.f hT 0
 have c0 := Tb.c0 hT
 clear hres hsk hX hT hD hg
 cases hpA : (([60, 33, 45, 45] : L).isPrefixOf (D.drop k)) with
 | true =>
  have HR := hide (show res = (comment (D.drop (k + 4))).map fun n => ⟨4, [], [], false, [], k, k + 4 + n⟩ by rw [H1.out, if_pos hpA])
  clear H1
  go_enter Tryz.func79, Tryz.ntmps79
  go_wp2_with fail
  refine (HQ.out.is_yes hne hs [60, 33, 45, 45] (by decide) hk (by rw [HD.out]; exact hpA)).mono ?_
  rintro e wQ2 ⟨rfl, hQ2, lQ2⟩
  have Q2 := hide hQ2
  have LQ2 := hide lQ2
  clear hQ2 lQ2
  clear f0 c0
  have hl4 : k + 4 ≤ s.size := LQ2.out
  replace Q2 := hide (show Sk w wQ2 X T s k (k + 4) 4 [] from Q2.out)
  cases htl : till [45, 45] (D.drop (k + 4)) with
  | none =>
   have HRr := hide (show res = none by rw [HR.out, comment, htl]; rfl)
   clear HR
   go_wp2_with fail
   refine (Q2.out.till_no hne HG.out hX6 hT6 hs [45, 45] (by decide) hl4 (by rw [HD.out]; exact htl)).mono ?_
   rintro e wQ3 ⟨rfl, hQ3⟩
   have Q3 := hide hQ3
   clear hQ3
   go_wp2
   go_ret
   exact Q3.out.no HRr.out rfl hl4
  | some n =>
   go_wp2_with fail
   refine (Q2.out.till_yes hne HG.out hX6 hT6 hs [45, 45] (by decide) hl4 (by rw [HD.out]; exact htl)).mono ?_
   rintro e wQ3 ⟨rfl, hQ3, lQ3⟩
   have Q3 := hide hQ3
   have LQ3 := hide lQ3
   clear hQ3 lQ3
   have hl6 : k + 4 + n + 2 ≤ s.size := LQ3.out
   replace Q3 := hide (show Sk w wQ3 X T s k (k + 4 + n + 2) 4 [] from Q3.out)
   cases hpB : ([62] : L).isPrefixOf (D.drop (k + 4 + n + 2)) with
   | true =>
    have HRr := hide (show res = some ⟨4, [], [], false, [], k, k + 4 + n + 2 + 1⟩ by
     rw [HR.out, comment, htl, Option.bind_some, List.drop_drop, show k + 4 + (n + 2) = k + 4 + n + 2 by omega, if_pos hpB]
     rfl)
    clear HR
    go_wp2_with fail
    refine (Q3.out.is_yes hne hs [62] (by decide) hl6 (by rw [HD.out]; exact hpB)).mono ?_
    rintro e wQ4 ⟨rfl, hQ4, lQ4⟩
    have Q4 := hide hQ4
    have LQ4 := hide lQ4
    clear hQ4 lQ4
    go_wp2
    go_ret
    exact Q4.out.yes HRr.out rfl LQ4.out (by omega)
   | false =>
    have HRr := hide (show res = none by
     rw [HR.out, comment, htl, Option.bind_some, List.drop_drop, show k + 4 + (n + 2) = k + 4 + n + 2 by omega, if_neg (by rw [hpB]; simp)]
     rfl)
    clear HR
    go_wp2_with fail
    refine (Q3.out.is_no hne hs [62] (by decide) hl6 (by rw [HD.out]; exact hpB)).mono ?_
    rintro e wQ4 ⟨rfl, hQ4⟩
    have Q4 := hide hQ4
    clear hQ4
    go_wp2
    go_ret
    exact Q4.out.no HRr.out rfl hl6
 | false =>
  cases hpB : (([60, 33, 91, 67, 68, 65, 84, 65, 91] : L).isPrefixOf (D.drop k)) with
  | true =>
   have HR := hide (show res = (till [93, 93, 62] (D.drop (k + 9))).map fun n => ⟨3, [], [], false, (D.drop (k + 9)).take n, k, k + 9 + n + 3⟩ by rw [H1.out, if_neg (by rw [hpA]; simp), if_pos hpB])
   clear H1
   go_enter Tryz.func79, Tryz.ntmps79
   go_wp2_with fail
   refine (HQ.out.is_no hne hs [60, 33, 45, 45] (by decide) hk (by rw [HD.out]; exact hpA)).mono ?_
   rintro e wQ1 ⟨rfl, hQ1⟩
   have Q1 := hide hQ1
   clear hQ1
   clear f0 c0
   go_wp2_with fail
   refine (Q1.out.is_yes hne hs [60, 33, 91, 67, 68, 65, 84, 65, 91] (by decide) hk (by rw [HD.out]; exact hpB)).mono ?_
   rintro e wQ2 ⟨rfl, hQ2, lQ2⟩
   have Q2 := hide hQ2
   have LQ2 := hide lQ2
   clear hQ2 lQ2
   have hl9 : k + 9 ≤ s.size := LQ2.out
   replace Q2 := hide (show Sk w wQ2 X T s k (k + 9) 4 [] from Q2.out)
   cases htl : till [93, 93, 62] (D.drop (k + 9)) with
   | none =>
    have HRr := hide (show res = none by rw [HR.out, htl]; rfl)
    clear HR
    go_wp2_with fail
    refine (Q2.out.till_no hne HG.out hX6 hT6 hs [93, 93, 62] (by decide) hl9 (by rw [HD.out]; exact htl)).mono ?_
    rintro e wQ3 ⟨rfl, hQ3⟩
    have Q3 := hide hQ3
    clear hQ3
    have f0 := Tb.f Q3.out.tb 0
    have c0 := Tb.c0 Q3.out.tb
    have f4 := Tb.f Q3.out.tb 4
    have c4 := Tb.c4 Q3.out.tb
    go_wp2
    go_ret
    exact (Q3.out.data hne []).no HRr.out rfl hl9
   | some n =>
    have HRr := hide (show res = some ⟨3, [], [], false, (D.drop (k + 9)).take n, k, k + 9 + n + 3⟩ by rw [HR.out, htl]; rfl)
    clear HR
    go_wp2_with fail
    refine (Q2.out.till_yes hne HG.out hX6 hT6 hs [93, 93, 62] (by decide) hl9 (by rw [HD.out]; exact htl)).mono ?_
    rintro e wQ3 ⟨rfl, hQ3, lQ3⟩
    have Q3 := hide hQ3
    have LQ3 := hide lQ3
    clear hQ3 lQ3
    have f0 := Tb.f Q3.out.tb 0
    have c0 := Tb.c0 Q3.out.tb
    have f4 := Tb.f Q3.out.tb 4
    have c4 := Tb.c4 Q3.out.tb
    rw [HD.out]
    obtain ⟨tx, htx⟩ : ∃ tx, (D.drop (k + 9)).take n = tx := ⟨_, rfl⟩
    rw [htx] at HRr ⊢
    clear htx
    go_wp2
    go_ret
    exact (Q3.out.data hne tx).yes HRr.out rfl LQ3.out (by omega)
  | false =>
   have H2 := hide (show res = if k = 0 ∧ sXml.isPrefixOf (D.drop k) = true ∧ (((D.drop (k + 5)).head?).map sp).getD false = true then (decl (D.drop (k + 5))).map fun n => ⟨4, [], [], false, [], k, k + 5 + n⟩
    else if ([60, 63] : L).isPrefixOf (D.drop k) then (instr (D.drop (k + 2))).map fun n => ⟨4, [], [], false, [], k, k + 2 + n⟩ else none by
     rw [H1.out, if_neg (by rw [hpA]; simp), if_neg (by rw [hpB]; simp)])
   clear H1
   go_enter Tryz.func79, Tryz.ntmps79
   go_wp2_with fail
   refine (HQ.out.is_no hne hs [60, 33, 45, 45] (by decide) hk (by rw [HD.out]; exact hpA)).mono ?_
   rintro e wQ1 ⟨rfl, hQ1⟩
   have Q1 := hide hQ1
   clear hQ1
   clear f0 c0
   go_wp2_with fail
   refine (Q1.out.is_no hne hs [60, 33, 91, 67, 68, 65, 84, 65, 91] (by decide) hk (by rw [HD.out]; exact hpB)).mono ?_
   rintro e wQ2 ⟨rfl, hQ2⟩
   have Q2 := hide hQ2
   clear hQ2
   have q0 := Sc.c0 Q2.out.sc
   have q1 := Sc.c1 Q2.out.sc
   clear hpA hpB
   by_cases hk0 : k = 0
   ·have HK := hide hk0
    have hk00 : ((k : Int) == 0) = true := by rw [HK.out]; rfl
    clear hk0
    by_cases h5 : 5 < s.size
    ·have he5 : ((s.extract 0 5).toList == ([60, 63, 120, 109, 108] : L)) = sXml.isPrefixOf (D.drop k) := by
      rw [HK.out, extract_bstr, HD.out, str_list, bstr_list, List.drop_zero, Nat.sub_zero]
      exact five_same (by rw [HDl.out]; omega)
     have hle : 5 ≤ s.size := by omega
     have hd5 : decide ((5 : Int) < (s.size : Int)) = true := decide_eq_true (by omega)
     cases hpX : sXml.isPrefixOf (D.drop k) with
     | true =>
      rw [hpX] at he5
      obtain ⟨c, hc⟩ : ∃ c, D[5]? = some c := ⟨_, List.getElem?_eq_getElem (by rw [HDl.out]; exact h5)⟩
      have hhd : (D.drop (k + 5)).head? = some c := by rw [List.head?_drop, HK.out]; exact hc
      have hidx := idx_run s 5 c (by rw [HD.out]; exact hc)
      rw [hhd] at H2
      have hs5 : s[5] = c := by
       have h2 : s.data.toList[5]? = some c := by rw [HD.out]; exact hc
       obtain ⟨_, h3⟩ := List.getElem?_eq_some_iff.1 h2
       exact h3
      have HSpc := hide (fun W => (show Calls Tryz.prog 107 #[.int .u8 (s[5].toNat : Nat)] W fun e w' => e = .returned (.bool (sp c)) ∧ w' = W from by rw [hs5]; exact space_any c W))
      clear hs5 hidx
      cases hcs : sp c with
      | true =>
       have HR := hide (show res = (decl (D.drop (k + 5))).map fun n => ⟨4, [], [], false, [], k, k + 5 + n⟩ by
        rw [H2.out, if_pos ⟨HK.out, hpX, by simp [hcs]⟩])
       have HD5 := hide (show D.drop 5 = D.drop (k + 5) by rw [HK.out])
       rw [hcs] at HSpc
       clear H2 hhd hc hcs hpX
       go_wp2_with fail
       refine (HSpc.out _).mono ?_
       rintro e w3 ⟨rfl, rfl⟩
       have f1 := Sc.f1 Q2.out.sc
       clear hk00 he5 hd5
       go_wp2_with fail
       have Q3 := hide (Q2.out.move hne 5)
       have HDc := hide (declaration_any _ X s 5 Q3.out.sc hX6 (Q3.out.gl HG.out hX6 hT6) (by omega) hs)
       refine HDc.out.mono ?_
       rintro e w4 h4
       rw [HD.out, HD5.out] at h4
       cases hdc : decl (D.drop (k + 5)) with
       | none =>
        rw [hdc] at h4
        obtain ⟨b4, rfl, k4, l4, s4⟩ := h4
        have Q4 := hide (Q3.out.go hne b4 s4)
        have HRr := hide (show res = none by rw [HR.out, hdc]; rfl)
        have L4 := hide l4
        clear b4 s4 HDc l4 q0 q1 f1 hdc HR
        go_wp2
        go_ret
        exact Q4.out.no HRr.out rfl L4.out
       | some n =>
        rw [hdc] at h4
        obtain ⟨b4, rfl, l4, s4⟩ := h4
        have Q4 := hide (Q3.out.go hne b4 s4)
        have HRr := hide (show res = some ⟨4, [], [], false, [], k, 5 + n⟩ by rw [HR.out, hdc, HK.out]; simp)
        have L4 := hide l4
        have HK5 := hide (show k < 5 + n by rw [HK.out]; omega)
        clear b4 s4 HDc l4 q0 q1 f1 hdc HR
        go_wp2
        go_ret
        exact Q4.out.yes HRr.out rfl L4.out HK5.out
      | false =>
       have HR := hide (show res = if ([60, 63] : L).isPrefixOf (D.drop k) then (instr (D.drop (k + 2))).map fun n => ⟨4, [], [], false, [], k, k + 2 + n⟩ else none by rw [H2.out, if_neg (by rintro ⟨_, _, h⟩; simp [hcs] at h)])
       rw [hcs] at HSpc
       clear H2 hhd hc hcs hpX
       go_wp2_with fail
       refine (HSpc.out _).mono ?_
       rintro e w3 ⟨rfl, rfl⟩
       clear q0 q1 he5 HSpc hk00 hd5 hle h5
       cases hpD : (([60, 63] : L).isPrefixOf (D.drop k)) with
       | false =>
        have HRr := hide (show res = none by rw [HR.out, if_neg (by rw [hpD]; simp)])
        go_wp2_with fail
        refine (Q2.out.is_no hne hs [60, 63] (by decide) hk (by rw [HD.out]; exact hpD)).mono ?_
        rintro e wQ4 ⟨rfl, hQ4⟩
        have Q4 := hide hQ4
        clear hQ4
        go_wp2
        go_ret
        exact Q4.out.no HRr.out rfl hk
       | true =>
        have HR2 := hide (show res = (instr (D.drop (k + 2))).map fun n => ⟨4, [], [], false, [], k, k + 2 + n⟩ by rw [HR.out, if_pos hpD])
        clear HR
        go_wp2_with fail
        refine (Q2.out.is_yes hne hs [60, 63] (by decide) hk (by rw [HD.out]; exact hpD)).mono ?_
        rintro e wQ4 ⟨rfl, hQ4, lQ4⟩
        have Q4 := hide hQ4
        have LQ4 := hide lQ4
        clear hQ4 lQ4
        have hk2 : k + 2 ≤ s.size := LQ4.out
        have HN := hide (name_any wQ4 X s (k + 2) Q4.out.sc hk2 hs)
        obtain ⟨m, hm⟩ : ∃ m, take (D.drop (k + 2)) = m := ⟨_, rfl⟩
        have hml : k + 2 + m ≤ s.size := by have := take_le (D.drop (k + 2)); rw [List.length_drop, HDl.out] at this; omega
        obtain ⟨nl, hnl⟩ : ∃ nl, (D.drop (k + 2)).take m = nl := ⟨_, rfl⟩
        obtain ⟨nm, hnm⟩ : ∃ nm, bstr nl = nm := ⟨_, rfl⟩
        have hex : s.extract (k + 2) (k + 2 + m) = nm := by rw [extract_bstr, HD.out, show k + 2 + m - (k + 2) = m by omega, hnl, hnm]
        rw [HD.out, hm, hex] at HN
        have hnll : nl.length = m := by rw [← hnl, List.length_take, List.length_drop, HDl.out]; omega
        have hnms : nm.size = m := by rw [← hnm, bstr_size, hnll]
        have hE : (nm.toList == ([] : L)) = decide (m = 0) := by
         rw [← hnm, str_emp', Bool.eq_iff_iff, List.isEmpty_iff, decide_eq_true_eq]
         constructor
         ·intro h; rw [h] at hnll; simpa using hnll.symm
         ·intro h; exact List.eq_nil_of_length_eq_zero (by omega)
        have hIn : instr (D.drop (k + 2)) = if m = 0 ∨ xml nl = true then none
          else if ([63, 62] : L).isPrefixOf (D.drop (k + 2 + m)) then some (m + 2)
          else (till [63, 62] (D.drop (k + 2 + m))).bind fun j => if (((D.drop (k + 2 + m)).head?).map sp).getD false then some (m + j + 2) else none := by
         unfold instr
         rw [hm, hnl, List.drop_drop]
        rw [hIn] at HR2
        have HFo := hide fun W (h : Gl W) => fold_any nm W h (by rw [hnms]; omega)
        rw [← hnm, bstr_list, hnm] at HFo
        have hxl := fun h => xml_len (n := nl) h
        rw [hnll] at hxl
        generalize xml nl = xb at *
        clear hIn hnl hm hex hnm hnll
        go_wp2_with fail
        refine HN.out.mono ?_
        rintro e w5 ⟨rfl, s5, b5⟩
        have Q5 := hide (Q4.out.go hne b5 s5)
        clear s5 b5 HN
        by_cases h0 : m = 0
        ·rw [decide_eq_true h0] at hE
         have HRr := hide (show res = none by rw [HR2.out, if_pos (.inl h0)]; rfl)
         clear HR2 h0
         go_wp2
         go_ret
         exact Q5.out.no HRr.out rfl hml
        rw [decide_eq_false h0] at hE
        cases xb with
        | true =>
         have HRr := hide (show res = none by rw [HR2.out, if_pos (.inr rfl)]; rfl)
         have h3 : m = 3 := hxl rfl
         subst h3
         clear HR2 h0 hxl
         go_wp2_with fail
         refine (HFo.out _ (Q5.out.gl HG.out hX6 hT6)).mono ?_
         rintro e w6 ⟨rfl, b6⟩
         have Q6 := hide (Q5.out.below b6)
         clear b6
         go_wp2
         go_ret
         exact Q6.out.no HRr.out rfl hml
        | false =>
         clear hxl
         have HR3 := hide (show res = (if ([63, 62] : L).isPrefixOf (D.drop (k + 2 + m)) then some (m + 2)
          else (till [63, 62] (D.drop (k + 2 + m))).bind fun j => if (((D.drop (k + 2 + m)).head?).map sp).getD false then some (m + j + 2) else none).map fun n => ⟨4, [], [], false, [], k, k + 2 + n⟩ by
           rw [HR2.out, if_neg (by simp; exact h0)])
         clear HR2
         go_wp2_with fail
         refine (HFo.out _ (Q5.out.gl HG.out hX6 hT6)).mono ?_
         rintro e w6 ⟨rfl, b6⟩
         have Q6 := hide (Q5.out.below b6)
         clear b6 HFo
         cases hpE : (([63, 62] : L).isPrefixOf (D.drop (k + 2 + m))) with
         | true =>
          have HRr := hide (show res = some ⟨4, [], [], false, [], k, k + 2 + m + 2⟩ by rw [HR3.out, if_pos hpE]; rfl)
          clear HR3
          go_wp2_with fail
          refine (Q6.out.is_yes hne hs [63, 62] (by decide) hml (by rw [HD.out]; exact hpE)).mono ?_
          rintro e wQ7 ⟨rfl, hQ7, lQ7⟩
          have Q7 := hide hQ7
          have LQ7 := hide lQ7
          clear hQ7 lQ7
          go_wp2
          go_ret
          exact Q7.out.yes HRr.out rfl LQ7.out (by omega)
         | false =>
          have HR4 := hide (show res = ((till [63, 62] (D.drop (k + 2 + m))).bind fun j => if (((D.drop (k + 2 + m)).head?).map sp).getD false then some (m + j + 2) else none).map fun n => ⟨4, [], [], false, [], k, k + 2 + n⟩ by
           rw [HR3.out, if_neg (by rw [hpE]; simp)])
          clear HR3
          go_wp2_with fail
          refine (Q6.out.is_no hne hs [63, 62] (by decide) hml (by rw [HD.out]; exact hpE)).mono ?_
          rintro e wQ7 ⟨rfl, hQ7⟩
          have Q7 := hide hQ7
          clear hQ7
          cases htl : till [63, 62] (D.drop (k + 2 + m)) with
          | none =>
           have HRr := hide (show res = none by rw [HR4.out, htl]; rfl)
           clear HR4
           go_wp2_with fail
           refine (Q7.out.till_no hne HG.out hX6 hT6 hs [63, 62] (by decide) hml (by rw [HD.out]; exact htl)).mono ?_
           rintro e wQ8 ⟨rfl, hQ8⟩
           have Q8 := hide hQ8
           clear hQ8
           clear htl hpE hpD
           go_wp2
           refine wp_region_held_drew (S := fun W => Sk w W X T s k (k + 2 + m) 4 []) (by kernel_rfl) ?_ (fun hHeld => ?_)
           ·(try dsimp only)
            first | exact Q8.out.drew | exact Q8.out | exact hHeld | exact hHeld.drew
           change wpAnyH _ _ _ _ _ 18 #[false, false, false, false, false, false, false, false, false, false, false, false, false, false, false, false, false, false] _ _
           refine held_take (i := 0) (d := 102) (v := ?_) rfl rfl (by kernel_rfl) (by kernel_rfl) (by kernel_rfl) (fun _ _ _ h => h) (by kernel_rfl) hHeld ?_ ?_
           rotate_left
           ·intro w hSw
            (try dsimp only at hSw)
            go_simp
            first | done | with_reducible rfl
           (try simp only [Act.put, List.setIfInBounds_toArray, List.set_cons_zero, List.set_cons_succ])
           refine held_take (i := 1) (d := 103) (v := ?_) rfl rfl (by kernel_rfl) (by kernel_rfl) (by kernel_rfl) (fun _ _ _ h => h) (by kernel_rfl) hHeld ?_ ?_
           rotate_left
           ·intro w hSw
            (try dsimp only at hSw)
            go_simp
            first | done | with_reducible rfl
           (try simp only [Act.put, List.setIfInBounds_toArray, List.set_cons_zero, List.set_cons_succ])
           refine held_skip (i := 2) (d := 104) rfl rfl (by kernel_rfl) (by kernel_rfl) (by kernel_rfl) (fun _ _ _ h => h) (by kernel_rfl) hHeld ?_
           (try simp only [Act.put, List.setIfInBounds_toArray, List.set_cons_zero, List.set_cons_succ])
           refine held_skip (i := 3) (d := 105) rfl rfl (by kernel_rfl) (by kernel_rfl) (by kernel_rfl) (fun _ _ _ h => h) (by kernel_rfl) hHeld ?_
           (try simp only [Act.put, List.setIfInBounds_toArray, List.set_cons_zero, List.set_cons_succ])
           refine held_skip (i := 4) (d := 106) rfl rfl (by kernel_rfl) (by kernel_rfl) (by kernel_rfl) (fun _ _ _ h => h) (by kernel_rfl) hHeld ?_
           (try simp only [Act.put, List.setIfInBounds_toArray, List.set_cons_zero, List.set_cons_succ])
           refine held_skip (i := 5) (d := 107) rfl rfl (by kernel_rfl) (by kernel_rfl) (by kernel_rfl) (fun _ _ _ h => h) (by kernel_rfl) hHeld ?_
           (try simp only [Act.put, List.setIfInBounds_toArray, List.set_cons_zero, List.set_cons_succ])
           refine held_skip (i := 6) (d := 108) rfl rfl (by kernel_rfl) (by kernel_rfl) (by kernel_rfl) (fun _ _ _ h => h) (by kernel_rfl) hHeld ?_
           (try simp only [Act.put, List.setIfInBounds_toArray, List.set_cons_zero, List.set_cons_succ])
           refine held_skip (i := 7) (d := 109) rfl rfl (by kernel_rfl) (by kernel_rfl) (by kernel_rfl) (fun _ _ _ h => h) (by kernel_rfl) hHeld ?_
           (try simp only [Act.put, List.setIfInBounds_toArray, List.set_cons_zero, List.set_cons_succ])
           refine held_skip (i := 8) (d := 110) rfl rfl (by kernel_rfl) (by kernel_rfl) (by kernel_rfl) (fun _ _ _ h => h) (by kernel_rfl) hHeld ?_
           (try simp only [Act.put, List.setIfInBounds_toArray, List.set_cons_zero, List.set_cons_succ])
           refine held_skip (i := 9) (d := 111) rfl rfl (by kernel_rfl) (by kernel_rfl) (by kernel_rfl) (fun _ _ _ h => h) (by kernel_rfl) hHeld ?_
           (try simp only [Act.put, List.setIfInBounds_toArray, List.set_cons_zero, List.set_cons_succ])
           refine held_skip (i := 10) (d := 112) rfl rfl (by kernel_rfl) (by kernel_rfl) (by kernel_rfl) (fun _ _ _ h => h) (by kernel_rfl) hHeld ?_
           (try simp only [Act.put, List.setIfInBounds_toArray, List.set_cons_zero, List.set_cons_succ])
           refine held_skip (i := 11) (d := 113) rfl rfl (by kernel_rfl) (by kernel_rfl) (by kernel_rfl) (fun _ _ _ h => h) (by kernel_rfl) hHeld ?_
           (try simp only [Act.put, List.setIfInBounds_toArray, List.set_cons_zero, List.set_cons_succ])
           refine held_skip (i := 12) (d := 114) rfl rfl (by kernel_rfl) (by kernel_rfl) (by kernel_rfl) (fun _ _ _ h => h) (by kernel_rfl) hHeld ?_
           (try simp only [Act.put, List.setIfInBounds_toArray, List.set_cons_zero, List.set_cons_succ])
           refine held_skip (i := 13) (d := 115) rfl rfl (by kernel_rfl) (by kernel_rfl) (by kernel_rfl) (fun _ _ _ h => h) (by kernel_rfl) hHeld ?_
           (try simp only [Act.put, List.setIfInBounds_toArray, List.set_cons_zero, List.set_cons_succ])
           refine held_skip (i := 14) (d := 116) rfl rfl (by kernel_rfl) (by kernel_rfl) (by kernel_rfl) (fun _ _ _ h => h) (by kernel_rfl) hHeld ?_
           (try simp only [Act.put, List.setIfInBounds_toArray, List.set_cons_zero, List.set_cons_succ])
           refine held_skip (i := 15) (d := 117) rfl rfl (by kernel_rfl) (by kernel_rfl) (by kernel_rfl) (fun _ _ _ h => h) (by kernel_rfl) hHeld ?_
           (try simp only [Act.put, List.setIfInBounds_toArray, List.set_cons_zero, List.set_cons_succ])
           refine held_take (i := 16) (d := 118) (v := ?_) rfl rfl (by kernel_rfl) (by kernel_rfl) (by kernel_rfl) (fun _ _ _ h => h) (by kernel_rfl) hHeld ?_ ?_
           rotate_left
           ·intro w hSw
            (try dsimp only at hSw)
            go_simp
            first | done | with_reducible rfl
           (try simp only [Act.put, List.setIfInBounds_toArray, List.set_cons_zero, List.set_cons_succ])
           refine held_take (i := 17) (d := 4) (v := ?_) rfl rfl (by kernel_rfl) (by kernel_rfl) (by kernel_rfl) (fun _ _ _ h => h) (by kernel_rfl) hHeld ?_ ?_
           rotate_left
           ·intro w hSw
            (try dsimp only at hSw)
            go_simp
            first | done | with_reducible rfl
           (try simp only [Act.put, List.setIfInBounds_toArray, List.set_cons_zero, List.set_cons_succ])
           refine wpAnyH_done (by kernel_rfl) ?_ _
           go_wp2
           go_ret
           exact hHeld.no HRr.out rfl hml
          | some n =>
           have hnn := (till_some htl).2
           rw [List.length_drop, HDl.out] at hnn
           obtain ⟨c, hc⟩ : ∃ c, D[k + 2 + m]? = some c := ⟨_, List.getElem?_eq_getElem (by rw [HDl.out]; have e : ([63, 62] : L).length = 2 := rfl; omega)⟩
           have hhd : (D.drop (k + 2 + m)).head? = some c := by rw [List.head?_drop, hc]
           have HRr := hide (show res = if sp c then some ⟨4, [], [], false, [], k, k + 2 + m + n + 2⟩ else none by
            rw [HR4.out, htl, Option.bind_some, hhd]
            by_cases hcb : sp c = true
            ·rw [if_pos (show ((Option.map sp (some c)).getD false) = true from hcb), if_pos hcb]
             simp
             omega
            ·rw [if_neg (show ¬((Option.map sp (some c)).getD false) = true from hcb), if_neg hcb]
             rfl)
           have hidx := idx_run s (k + 2 + m) c (by rw [HD.out]; exact hc)
           rw [show ((k + 2 + m : Nat) : Int) = (k : Int) + 2 + (m : Int) by omega] at hidx
           have HSpc := hide (space_any c)
           obtain ⟨cb, hcb⟩ : ∃ b, sp c = b := ⟨_, rfl⟩
           rw [hcb] at HSpc HRr
           clear hcb
           have hw2 : IntKind.i64.wrap ((k : Int) + 2) = (k : Int) + 2 := IntWalk.i64_in _ (by omega)
           have hw3 : IntKind.i64.wrap ((k : Int) + 2 + (m : Int)) = (k : Int) + 2 + (m : Int) := IntWalk.i64_in _ (by omega)
           clear HR4 hhd hc hnn
           go_wp2_with fail
           refine (Q7.out.till_yes hne HG.out hX6 hT6 hs [63, 62] (by decide) hml (by rw [HD.out]; exact htl)).mono ?_
           rintro e wQ8 ⟨rfl, hQ8, lQ8⟩
           have Q8 := hide hQ8
           have LQ8 := hide lQ8
           clear hQ8 lQ8
           clear htl hpE hpD
           replace LQ8 := hide (show k + 2 + m + n + 2 ≤ s.size from LQ8.out)
           replace Q8 := hide (show Sk w wQ8 X T s k (k + 2 + m + n + 2) 4 [] from Q8.out)
           go_wp2
           refine wp_region_held_drew (S := fun W => Sk w W X T s k (k + 2 + m + n + 2) 4 []) (by kernel_rfl) ?_ (fun hHeld => ?_)
           ·(try dsimp only)
            first | exact Q8.out.drew | exact Q8.out | exact hHeld | exact hHeld.drew
           change wpAnyH _ _ _ _ _ 18 #[false, false, false, false, false, false, false, false, false, false, false, false, false, false, false, false, false, false] _ _
           refine held_take (i := 0) (d := 102) (v := ?_) rfl rfl (by kernel_rfl) (by kernel_rfl) (by kernel_rfl) (fun _ _ _ h => h) (by kernel_rfl) hHeld ?_ ?_
           rotate_left
           ·intro w hSw
            (try dsimp only at hSw)
            go_simp
            first | done | with_reducible rfl
           (try simp only [Act.put, List.setIfInBounds_toArray, List.set_cons_zero, List.set_cons_succ])
           refine held_take (i := 1) (d := 103) (v := ?_) rfl rfl (by kernel_rfl) (by kernel_rfl) (by kernel_rfl) (fun _ _ _ h => h) (by kernel_rfl) hHeld ?_ ?_
           rotate_left
           ·intro w hSw
            (try dsimp only at hSw)
            go_simp
            first | done | with_reducible rfl
           (try simp only [Act.put, List.setIfInBounds_toArray, List.set_cons_zero, List.set_cons_succ])
           refine held_take (i := 2) (d := 104) (v := ?_) rfl rfl (by kernel_rfl) (by kernel_rfl) (by kernel_rfl) (fun _ _ _ h => h) (by kernel_rfl) hHeld ?_ ?_
           rotate_left
           ·intro w hSw
            (try dsimp only at hSw)
            go_simp
            first | done | with_reducible rfl
           (try simp only [Act.put, List.setIfInBounds_toArray, List.set_cons_zero, List.set_cons_succ])
           refine held_take (i := 3) (d := 105) (v := ?_) rfl rfl (by kernel_rfl) (by kernel_rfl) (by kernel_rfl) (fun _ _ _ h => h) (by kernel_rfl) hHeld ?_ ?_
           rotate_left
           ·intro w hSw
            (try dsimp only at hSw)
            go_simp
            first | done | with_reducible rfl
           (try simp only [Act.put, List.setIfInBounds_toArray, List.set_cons_zero, List.set_cons_succ])
           refine held_take (i := 4) (d := 106) (v := ?_) rfl rfl (by kernel_rfl) (by kernel_rfl) (by kernel_rfl) (fun _ _ _ h => h) (by kernel_rfl) hHeld ?_ ?_
           rotate_left
           ·intro w hSw
            (try dsimp only at hSw)
            go_simp
            first | done | with_reducible rfl
           (try simp only [Act.put, List.setIfInBounds_toArray, List.set_cons_zero, List.set_cons_succ])
           refine held_take (i := 5) (d := 107) (v := ?_) rfl rfl (by kernel_rfl) (by kernel_rfl) (by kernel_rfl) (fun _ _ _ h => h) (by kernel_rfl) hHeld ?_ ?_
           rotate_left
           ·intro w hSw
            (try dsimp only at hSw)
            have q0 := Sc.c0 hSw.sc
            have q5 := Tb.c5 hSw.tb
            go_simp
            first | done | with_reducible rfl
           (try simp only [Act.put, List.setIfInBounds_toArray, List.set_cons_zero, List.set_cons_succ])
           refine held_take (i := 6) (d := 108) (v := ?_) rfl rfl (by kernel_rfl) (by kernel_rfl) (by kernel_rfl) (fun _ _ _ h => h) (by kernel_rfl) hHeld ?_ ?_
           rotate_left
           ·intro w hSw
            (try dsimp only at hSw)
            go_simp
            first | done | with_reducible rfl
           (try simp only [Act.put, List.setIfInBounds_toArray, List.set_cons_zero, List.set_cons_succ])
           refine held_take (i := 7) (d := 109) (v := ?_) rfl rfl (by kernel_rfl) (by kernel_rfl) (by kernel_rfl) (fun _ _ _ h => h) (by kernel_rfl) hHeld ?_ ?_
           rotate_left
           ·intro w hSw
            (try dsimp only at hSw)
            go_simp
            first | done | with_reducible rfl
           (try simp only [Act.put, List.setIfInBounds_toArray, List.set_cons_zero, List.set_cons_succ])
           refine held_take (i := 8) (d := 110) (v := ?_) rfl rfl (by kernel_rfl) (by kernel_rfl) (by kernel_rfl) (fun _ _ _ h => h) (by kernel_rfl) hHeld ?_ ?_
           rotate_left
           ·intro w hSw
            (try dsimp only at hSw)
            go_simp
            first | done | with_reducible rfl
           (try simp only [Act.put, List.setIfInBounds_toArray, List.set_cons_zero, List.set_cons_succ])
           refine held_take (i := 9) (d := 111) (v := ?_) rfl rfl (by kernel_rfl) (by kernel_rfl) (by kernel_rfl) (fun _ _ _ h => h) (by kernel_rfl) hHeld ?_ ?_
           rotate_left
           ·intro w hSw
            (try dsimp only at hSw)
            have q0 := Sc.c0 hSw.sc
            have q5 := Tb.c5 hSw.tb
            go_simp
            first | done | with_reducible rfl
           (try simp only [Act.put, List.setIfInBounds_toArray, List.set_cons_zero, List.set_cons_succ])
           refine held_take (i := 10) (d := 112) (v := ?_) rfl rfl (by kernel_rfl) (by kernel_rfl) (by kernel_rfl) (fun _ _ _ h => h) (by kernel_rfl) hHeld ?_ ?_
           rotate_left
           ·intro w hSw
            (try dsimp only at hSw)
            go_simp
            first | done | with_reducible rfl
           (try simp only [Act.put, List.setIfInBounds_toArray, List.set_cons_zero, List.set_cons_succ])
           refine held_take (i := 11) (d := 113) (v := ?_) rfl rfl (by kernel_rfl) (by kernel_rfl) (by kernel_rfl) (fun _ _ _ h => h) (by kernel_rfl) hHeld ?_ ?_
           rotate_left
           ·intro w hSw
            (try dsimp only at hSw)
            go_simp
            first | done | with_reducible rfl
           (try simp only [Act.put, List.setIfInBounds_toArray, List.set_cons_zero, List.set_cons_succ])
           refine held_take (i := 12) (d := 114) (v := ?_) rfl rfl (by kernel_rfl) (by kernel_rfl) (by kernel_rfl) (fun _ _ _ h => h) (by kernel_rfl) hHeld ?_ ?_
           rotate_left
           ·intro w hSw
            (try dsimp only at hSw)
            go_simp
            first | done | with_reducible rfl
           (try simp only [Act.put, List.setIfInBounds_toArray, List.set_cons_zero, List.set_cons_succ])
           refine held_take (i := 13) (d := 115) (v := ?_) rfl rfl (by kernel_rfl) (by kernel_rfl) (by kernel_rfl) (fun _ _ _ h => h) (by kernel_rfl) hHeld ?_ ?_
           rotate_left
           ·intro w hSw
            (try dsimp only at hSw)
            go_simp
            first | done | with_reducible rfl
           (try simp only [Act.put, List.setIfInBounds_toArray, List.set_cons_zero, List.set_cons_succ])
           refine held_take (i := 14) (d := 116) (v := ?_) rfl rfl (by kernel_rfl) (by kernel_rfl) (by kernel_rfl) (fun _ _ _ h => h) (by kernel_rfl) hHeld ?_ ?_
           rotate_left
           ·intro w hSw
            (try dsimp only at hSw)
            go_simp
            first | done | with_reducible rfl
           (try simp only [Act.put, List.setIfInBounds_toArray, List.set_cons_zero, List.set_cons_succ])
           refine held_call (i := 15) rfl (by kernel_rfl) (by kernel_rfl) (fun K hK => ?_)
           go_simp
           go_at_call 107
           refine (HSpc.out _).mono ?_
           rintro e w' ⟨rfl, rfl⟩
           (try dsimp only)
           refine hK.out _ _ ?_ (fun hHeld' => ?_)
           ·(try dsimp only)
            first | exact Q8.out.drew | exact Q8.out | exact hHeld | exact hHeld.drew
           clear hK K hHeld
           have hHeld := hHeld'
           clear hHeld'
           (try simp only [Act.put, List.setIfInBounds_toArray, List.set_cons_zero, List.set_cons_succ])
           refine held_take (i := 16) (d := 118) (v := ?_) rfl rfl (by kernel_rfl) (by kernel_rfl) (by kernel_rfl) (fun _ _ _ h => h) (by kernel_rfl) hHeld ?_ ?_
           rotate_left
           ·intro w hSw
            (try dsimp only at hSw)
            go_simp
            first | done | with_reducible rfl
           (try simp only [Act.put, List.setIfInBounds_toArray, List.set_cons_zero, List.set_cons_succ])
           refine held_take (i := 17) (d := 4) (v := ?_) rfl rfl (by kernel_rfl) (by kernel_rfl) (by kernel_rfl) (fun _ _ _ h => h) (by kernel_rfl) hHeld ?_ ?_
           rotate_left
           ·intro w hSw
            (try dsimp only at hSw)
            go_simp
            first | done | with_reducible rfl
           (try simp only [Act.put, List.setIfInBounds_toArray, List.set_cons_zero, List.set_cons_succ])
           refine wpAnyH_done (by kernel_rfl) ?_ _
           go_wp2
           go_ret
           cases cb with
           | true => exact hHeld.yes HRr.out rfl LQ8.out (by omega)
           | false => exact hHeld.no HRr.out rfl LQ8.out
     | false =>
      rw [hpX] at he5
      have HR := hide (show res = if ([60, 63] : L).isPrefixOf (D.drop k) then (instr (D.drop (k + 2))).map fun n => ⟨4, [], [], false, [], k, k + 2 + n⟩ else none by rw [H2.out, if_neg (by rintro ⟨_, h, _⟩; rw [hpX] at h; cases h)])
      clear H2 hpX
      cases hpD : (([60, 63] : L).isPrefixOf (D.drop k)) with
      | false =>
       have HRr := hide (show res = none by rw [HR.out, if_neg (by rw [hpD]; simp)])
       go_wp2_with fail
       refine (Q2.out.is_no hne hs [60, 63] (by decide) hk (by rw [HD.out]; exact hpD)).mono ?_
       rintro e wQ4 ⟨rfl, hQ4⟩
       have Q4 := hide hQ4
       clear hQ4
       go_wp2
       go_ret
       exact Q4.out.no HRr.out rfl hk
      | true =>
       have HR2 := hide (show res = (instr (D.drop (k + 2))).map fun n => ⟨4, [], [], false, [], k, k + 2 + n⟩ by rw [HR.out, if_pos hpD])
       clear HR
       go_wp2_with fail
       refine (Q2.out.is_yes hne hs [60, 63] (by decide) hk (by rw [HD.out]; exact hpD)).mono ?_
       rintro e wQ4 ⟨rfl, hQ4, lQ4⟩
       have Q4 := hide hQ4
       have LQ4 := hide lQ4
       clear hQ4 lQ4
       have hk2 : k + 2 ≤ s.size := LQ4.out
       have HN := hide (name_any wQ4 X s (k + 2) Q4.out.sc hk2 hs)
       obtain ⟨m, hm⟩ : ∃ m, take (D.drop (k + 2)) = m := ⟨_, rfl⟩
       have hml : k + 2 + m ≤ s.size := by have := take_le (D.drop (k + 2)); rw [List.length_drop, HDl.out] at this; omega
       obtain ⟨nl, hnl⟩ : ∃ nl, (D.drop (k + 2)).take m = nl := ⟨_, rfl⟩
       obtain ⟨nm, hnm⟩ : ∃ nm, bstr nl = nm := ⟨_, rfl⟩
       have hex : s.extract (k + 2) (k + 2 + m) = nm := by rw [extract_bstr, HD.out, show k + 2 + m - (k + 2) = m by omega, hnl, hnm]
       rw [HD.out, hm, hex] at HN
       have hnll : nl.length = m := by rw [← hnl, List.length_take, List.length_drop, HDl.out]; omega
       have hnms : nm.size = m := by rw [← hnm, bstr_size, hnll]
       have hE : (nm.toList == ([] : L)) = decide (m = 0) := by
        rw [← hnm, str_emp', Bool.eq_iff_iff, List.isEmpty_iff, decide_eq_true_eq]
        constructor
        ·intro h; rw [h] at hnll; simpa using hnll.symm
        ·intro h; exact List.eq_nil_of_length_eq_zero (by omega)
       have hIn : instr (D.drop (k + 2)) = if m = 0 ∨ xml nl = true then none
         else if ([63, 62] : L).isPrefixOf (D.drop (k + 2 + m)) then some (m + 2)
         else (till [63, 62] (D.drop (k + 2 + m))).bind fun j => if (((D.drop (k + 2 + m)).head?).map sp).getD false then some (m + j + 2) else none := by
        unfold instr
        rw [hm, hnl, List.drop_drop]
       rw [hIn] at HR2
       have HFo := hide fun W (h : Gl W) => fold_any nm W h (by rw [hnms]; omega)
       rw [← hnm, bstr_list, hnm] at HFo
       have hxl := fun h => xml_len (n := nl) h
       rw [hnll] at hxl
       generalize xml nl = xb at *
       clear hIn hnl hm hex hnm hnll
       go_wp2_with fail
       refine HN.out.mono ?_
       rintro e w5 ⟨rfl, s5, b5⟩
       have Q5 := hide (Q4.out.go hne b5 s5)
       clear s5 b5 HN
       by_cases h0 : m = 0
       ·rw [decide_eq_true h0] at hE
        have HRr := hide (show res = none by rw [HR2.out, if_pos (.inl h0)]; rfl)
        clear HR2 h0
        go_wp2
        go_ret
        exact Q5.out.no HRr.out rfl hml
       rw [decide_eq_false h0] at hE
       cases xb with
       | true =>
        have HRr := hide (show res = none by rw [HR2.out, if_pos (.inr rfl)]; rfl)
        have h3 : m = 3 := hxl rfl
        subst h3
        clear HR2 h0 hxl
        go_wp2_with fail
        refine (HFo.out _ (Q5.out.gl HG.out hX6 hT6)).mono ?_
        rintro e w6 ⟨rfl, b6⟩
        have Q6 := hide (Q5.out.below b6)
        clear b6
        go_wp2
        go_ret
        exact Q6.out.no HRr.out rfl hml
       | false =>
        clear hxl
        have HR3 := hide (show res = (if ([63, 62] : L).isPrefixOf (D.drop (k + 2 + m)) then some (m + 2)
         else (till [63, 62] (D.drop (k + 2 + m))).bind fun j => if (((D.drop (k + 2 + m)).head?).map sp).getD false then some (m + j + 2) else none).map fun n => ⟨4, [], [], false, [], k, k + 2 + n⟩ by
          rw [HR2.out, if_neg (by simp; exact h0)])
        clear HR2
        go_wp2_with fail
        refine (HFo.out _ (Q5.out.gl HG.out hX6 hT6)).mono ?_
        rintro e w6 ⟨rfl, b6⟩
        have Q6 := hide (Q5.out.below b6)
        clear b6 HFo
        cases hpE : (([63, 62] : L).isPrefixOf (D.drop (k + 2 + m))) with
        | true =>
         have HRr := hide (show res = some ⟨4, [], [], false, [], k, k + 2 + m + 2⟩ by rw [HR3.out, if_pos hpE]; rfl)
         clear HR3
         go_wp2_with fail
         refine (Q6.out.is_yes hne hs [63, 62] (by decide) hml (by rw [HD.out]; exact hpE)).mono ?_
         rintro e wQ7 ⟨rfl, hQ7, lQ7⟩
         have Q7 := hide hQ7
         have LQ7 := hide lQ7
         clear hQ7 lQ7
         go_wp2
         go_ret
         exact Q7.out.yes HRr.out rfl LQ7.out (by omega)
        | false =>
         have HR4 := hide (show res = ((till [63, 62] (D.drop (k + 2 + m))).bind fun j => if (((D.drop (k + 2 + m)).head?).map sp).getD false then some (m + j + 2) else none).map fun n => ⟨4, [], [], false, [], k, k + 2 + n⟩ by
          rw [HR3.out, if_neg (by rw [hpE]; simp)])
         clear HR3
         go_wp2_with fail
         refine (Q6.out.is_no hne hs [63, 62] (by decide) hml (by rw [HD.out]; exact hpE)).mono ?_
         rintro e wQ7 ⟨rfl, hQ7⟩
         have Q7 := hide hQ7
         clear hQ7
         cases htl : till [63, 62] (D.drop (k + 2 + m)) with
         | none =>
          have HRr := hide (show res = none by rw [HR4.out, htl]; rfl)
          clear HR4
          go_wp2_with fail
          refine (Q7.out.till_no hne HG.out hX6 hT6 hs [63, 62] (by decide) hml (by rw [HD.out]; exact htl)).mono ?_
          rintro e wQ8 ⟨rfl, hQ8⟩
          have Q8 := hide hQ8
          clear hQ8
          clear htl hpE hpD
          go_wp2
          refine wp_region_held_drew (S := fun W => Sk w W X T s k (k + 2 + m) 4 []) (by kernel_rfl) ?_ (fun hHeld => ?_)
          ·(try dsimp only)
           first | exact Q8.out.drew | exact Q8.out | exact hHeld | exact hHeld.drew
          change wpAnyH _ _ _ _ _ 18 #[false, false, false, false, false, false, false, false, false, false, false, false, false, false, false, false, false, false] _ _
          refine held_take (i := 0) (d := 102) (v := ?_) rfl rfl (by kernel_rfl) (by kernel_rfl) (by kernel_rfl) (fun _ _ _ h => h) (by kernel_rfl) hHeld ?_ ?_
          rotate_left
          ·intro w hSw
           (try dsimp only at hSw)
           go_simp
           first | done | with_reducible rfl
          (try simp only [Act.put, List.setIfInBounds_toArray, List.set_cons_zero, List.set_cons_succ])
          refine held_take (i := 1) (d := 103) (v := ?_) rfl rfl (by kernel_rfl) (by kernel_rfl) (by kernel_rfl) (fun _ _ _ h => h) (by kernel_rfl) hHeld ?_ ?_
          rotate_left
          ·intro w hSw
           (try dsimp only at hSw)
           go_simp
           first | done | with_reducible rfl
          (try simp only [Act.put, List.setIfInBounds_toArray, List.set_cons_zero, List.set_cons_succ])
          refine held_skip (i := 2) (d := 104) rfl rfl (by kernel_rfl) (by kernel_rfl) (by kernel_rfl) (fun _ _ _ h => h) (by kernel_rfl) hHeld ?_
          (try simp only [Act.put, List.setIfInBounds_toArray, List.set_cons_zero, List.set_cons_succ])
          refine held_skip (i := 3) (d := 105) rfl rfl (by kernel_rfl) (by kernel_rfl) (by kernel_rfl) (fun _ _ _ h => h) (by kernel_rfl) hHeld ?_
          (try simp only [Act.put, List.setIfInBounds_toArray, List.set_cons_zero, List.set_cons_succ])
          refine held_skip (i := 4) (d := 106) rfl rfl (by kernel_rfl) (by kernel_rfl) (by kernel_rfl) (fun _ _ _ h => h) (by kernel_rfl) hHeld ?_
          (try simp only [Act.put, List.setIfInBounds_toArray, List.set_cons_zero, List.set_cons_succ])
          refine held_skip (i := 5) (d := 107) rfl rfl (by kernel_rfl) (by kernel_rfl) (by kernel_rfl) (fun _ _ _ h => h) (by kernel_rfl) hHeld ?_
          (try simp only [Act.put, List.setIfInBounds_toArray, List.set_cons_zero, List.set_cons_succ])
          refine held_skip (i := 6) (d := 108) rfl rfl (by kernel_rfl) (by kernel_rfl) (by kernel_rfl) (fun _ _ _ h => h) (by kernel_rfl) hHeld ?_
          (try simp only [Act.put, List.setIfInBounds_toArray, List.set_cons_zero, List.set_cons_succ])
          refine held_skip (i := 7) (d := 109) rfl rfl (by kernel_rfl) (by kernel_rfl) (by kernel_rfl) (fun _ _ _ h => h) (by kernel_rfl) hHeld ?_
          (try simp only [Act.put, List.setIfInBounds_toArray, List.set_cons_zero, List.set_cons_succ])
          refine held_skip (i := 8) (d := 110) rfl rfl (by kernel_rfl) (by kernel_rfl) (by kernel_rfl) (fun _ _ _ h => h) (by kernel_rfl) hHeld ?_
          (try simp only [Act.put, List.setIfInBounds_toArray, List.set_cons_zero, List.set_cons_succ])
          refine held_skip (i := 9) (d := 111) rfl rfl (by kernel_rfl) (by kernel_rfl) (by kernel_rfl) (fun _ _ _ h => h) (by kernel_rfl) hHeld ?_
          (try simp only [Act.put, List.setIfInBounds_toArray, List.set_cons_zero, List.set_cons_succ])
          refine held_skip (i := 10) (d := 112) rfl rfl (by kernel_rfl) (by kernel_rfl) (by kernel_rfl) (fun _ _ _ h => h) (by kernel_rfl) hHeld ?_
          (try simp only [Act.put, List.setIfInBounds_toArray, List.set_cons_zero, List.set_cons_succ])
          refine held_skip (i := 11) (d := 113) rfl rfl (by kernel_rfl) (by kernel_rfl) (by kernel_rfl) (fun _ _ _ h => h) (by kernel_rfl) hHeld ?_
          (try simp only [Act.put, List.setIfInBounds_toArray, List.set_cons_zero, List.set_cons_succ])
          refine held_skip (i := 12) (d := 114) rfl rfl (by kernel_rfl) (by kernel_rfl) (by kernel_rfl) (fun _ _ _ h => h) (by kernel_rfl) hHeld ?_
          (try simp only [Act.put, List.setIfInBounds_toArray, List.set_cons_zero, List.set_cons_succ])
          refine held_skip (i := 13) (d := 115) rfl rfl (by kernel_rfl) (by kernel_rfl) (by kernel_rfl) (fun _ _ _ h => h) (by kernel_rfl) hHeld ?_
          (try simp only [Act.put, List.setIfInBounds_toArray, List.set_cons_zero, List.set_cons_succ])
          refine held_skip (i := 14) (d := 116) rfl rfl (by kernel_rfl) (by kernel_rfl) (by kernel_rfl) (fun _ _ _ h => h) (by kernel_rfl) hHeld ?_
          (try simp only [Act.put, List.setIfInBounds_toArray, List.set_cons_zero, List.set_cons_succ])
          refine held_skip (i := 15) (d := 117) rfl rfl (by kernel_rfl) (by kernel_rfl) (by kernel_rfl) (fun _ _ _ h => h) (by kernel_rfl) hHeld ?_
          (try simp only [Act.put, List.setIfInBounds_toArray, List.set_cons_zero, List.set_cons_succ])
          refine held_take (i := 16) (d := 118) (v := ?_) rfl rfl (by kernel_rfl) (by kernel_rfl) (by kernel_rfl) (fun _ _ _ h => h) (by kernel_rfl) hHeld ?_ ?_
          rotate_left
          ·intro w hSw
           (try dsimp only at hSw)
           go_simp
           first | done | with_reducible rfl
          (try simp only [Act.put, List.setIfInBounds_toArray, List.set_cons_zero, List.set_cons_succ])
          refine held_take (i := 17) (d := 4) (v := ?_) rfl rfl (by kernel_rfl) (by kernel_rfl) (by kernel_rfl) (fun _ _ _ h => h) (by kernel_rfl) hHeld ?_ ?_
          rotate_left
          ·intro w hSw
           (try dsimp only at hSw)
           go_simp
           first | done | with_reducible rfl
          (try simp only [Act.put, List.setIfInBounds_toArray, List.set_cons_zero, List.set_cons_succ])
          refine wpAnyH_done (by kernel_rfl) ?_ _
          go_wp2
          go_ret
          exact hHeld.no HRr.out rfl hml
         | some n =>
          have hnn := (till_some htl).2
          rw [List.length_drop, HDl.out] at hnn
          obtain ⟨c, hc⟩ : ∃ c, D[k + 2 + m]? = some c := ⟨_, List.getElem?_eq_getElem (by rw [HDl.out]; have e : ([63, 62] : L).length = 2 := rfl; omega)⟩
          have hhd : (D.drop (k + 2 + m)).head? = some c := by rw [List.head?_drop, hc]
          have HRr := hide (show res = if sp c then some ⟨4, [], [], false, [], k, k + 2 + m + n + 2⟩ else none by
           rw [HR4.out, htl, Option.bind_some, hhd]
           by_cases hcb : sp c = true
           ·rw [if_pos (show ((Option.map sp (some c)).getD false) = true from hcb), if_pos hcb]
            simp
            omega
           ·rw [if_neg (show ¬((Option.map sp (some c)).getD false) = true from hcb), if_neg hcb]
            rfl)
          have hidx := idx_run s (k + 2 + m) c (by rw [HD.out]; exact hc)
          rw [show ((k + 2 + m : Nat) : Int) = (k : Int) + 2 + (m : Int) by omega] at hidx
          have HSpc := hide (space_any c)
          obtain ⟨cb, hcb⟩ : ∃ b, sp c = b := ⟨_, rfl⟩
          rw [hcb] at HSpc HRr
          clear hcb
          have hw2 : IntKind.i64.wrap ((k : Int) + 2) = (k : Int) + 2 := IntWalk.i64_in _ (by omega)
          have hw3 : IntKind.i64.wrap ((k : Int) + 2 + (m : Int)) = (k : Int) + 2 + (m : Int) := IntWalk.i64_in _ (by omega)
          clear HR4 hhd hc hnn
          go_wp2_with fail
          refine (Q7.out.till_yes hne HG.out hX6 hT6 hs [63, 62] (by decide) hml (by rw [HD.out]; exact htl)).mono ?_
          rintro e wQ8 ⟨rfl, hQ8, lQ8⟩
          have Q8 := hide hQ8
          have LQ8 := hide lQ8
          clear hQ8 lQ8
          clear htl hpE hpD
          replace LQ8 := hide (show k + 2 + m + n + 2 ≤ s.size from LQ8.out)
          replace Q8 := hide (show Sk w wQ8 X T s k (k + 2 + m + n + 2) 4 [] from Q8.out)
          go_wp2
          refine wp_region_held_drew (S := fun W => Sk w W X T s k (k + 2 + m + n + 2) 4 []) (by kernel_rfl) ?_ (fun hHeld => ?_)
          ·(try dsimp only)
           first | exact Q8.out.drew | exact Q8.out | exact hHeld | exact hHeld.drew
          change wpAnyH _ _ _ _ _ 18 #[false, false, false, false, false, false, false, false, false, false, false, false, false, false, false, false, false, false] _ _
          refine held_take (i := 0) (d := 102) (v := ?_) rfl rfl (by kernel_rfl) (by kernel_rfl) (by kernel_rfl) (fun _ _ _ h => h) (by kernel_rfl) hHeld ?_ ?_
          rotate_left
          ·intro w hSw
           (try dsimp only at hSw)
           go_simp
           first | done | with_reducible rfl
          (try simp only [Act.put, List.setIfInBounds_toArray, List.set_cons_zero, List.set_cons_succ])
          refine held_take (i := 1) (d := 103) (v := ?_) rfl rfl (by kernel_rfl) (by kernel_rfl) (by kernel_rfl) (fun _ _ _ h => h) (by kernel_rfl) hHeld ?_ ?_
          rotate_left
          ·intro w hSw
           (try dsimp only at hSw)
           go_simp
           first | done | with_reducible rfl
          (try simp only [Act.put, List.setIfInBounds_toArray, List.set_cons_zero, List.set_cons_succ])
          refine held_take (i := 2) (d := 104) (v := ?_) rfl rfl (by kernel_rfl) (by kernel_rfl) (by kernel_rfl) (fun _ _ _ h => h) (by kernel_rfl) hHeld ?_ ?_
          rotate_left
          ·intro w hSw
           (try dsimp only at hSw)
           go_simp
           first | done | with_reducible rfl
          (try simp only [Act.put, List.setIfInBounds_toArray, List.set_cons_zero, List.set_cons_succ])
          refine held_take (i := 3) (d := 105) (v := ?_) rfl rfl (by kernel_rfl) (by kernel_rfl) (by kernel_rfl) (fun _ _ _ h => h) (by kernel_rfl) hHeld ?_ ?_
          rotate_left
          ·intro w hSw
           (try dsimp only at hSw)
           go_simp
           first | done | with_reducible rfl
          (try simp only [Act.put, List.setIfInBounds_toArray, List.set_cons_zero, List.set_cons_succ])
          refine held_take (i := 4) (d := 106) (v := ?_) rfl rfl (by kernel_rfl) (by kernel_rfl) (by kernel_rfl) (fun _ _ _ h => h) (by kernel_rfl) hHeld ?_ ?_
          rotate_left
          ·intro w hSw
           (try dsimp only at hSw)
           go_simp
           first | done | with_reducible rfl
          (try simp only [Act.put, List.setIfInBounds_toArray, List.set_cons_zero, List.set_cons_succ])
          refine held_take (i := 5) (d := 107) (v := ?_) rfl rfl (by kernel_rfl) (by kernel_rfl) (by kernel_rfl) (fun _ _ _ h => h) (by kernel_rfl) hHeld ?_ ?_
          rotate_left
          ·intro w hSw
           (try dsimp only at hSw)
           have q0 := Sc.c0 hSw.sc
           have q5 := Tb.c5 hSw.tb
           go_simp
           first | done | with_reducible rfl
          (try simp only [Act.put, List.setIfInBounds_toArray, List.set_cons_zero, List.set_cons_succ])
          refine held_take (i := 6) (d := 108) (v := ?_) rfl rfl (by kernel_rfl) (by kernel_rfl) (by kernel_rfl) (fun _ _ _ h => h) (by kernel_rfl) hHeld ?_ ?_
          rotate_left
          ·intro w hSw
           (try dsimp only at hSw)
           go_simp
           first | done | with_reducible rfl
          (try simp only [Act.put, List.setIfInBounds_toArray, List.set_cons_zero, List.set_cons_succ])
          refine held_take (i := 7) (d := 109) (v := ?_) rfl rfl (by kernel_rfl) (by kernel_rfl) (by kernel_rfl) (fun _ _ _ h => h) (by kernel_rfl) hHeld ?_ ?_
          rotate_left
          ·intro w hSw
           (try dsimp only at hSw)
           go_simp
           first | done | with_reducible rfl
          (try simp only [Act.put, List.setIfInBounds_toArray, List.set_cons_zero, List.set_cons_succ])
          refine held_take (i := 8) (d := 110) (v := ?_) rfl rfl (by kernel_rfl) (by kernel_rfl) (by kernel_rfl) (fun _ _ _ h => h) (by kernel_rfl) hHeld ?_ ?_
          rotate_left
          ·intro w hSw
           (try dsimp only at hSw)
           go_simp
           first | done | with_reducible rfl
          (try simp only [Act.put, List.setIfInBounds_toArray, List.set_cons_zero, List.set_cons_succ])
          refine held_take (i := 9) (d := 111) (v := ?_) rfl rfl (by kernel_rfl) (by kernel_rfl) (by kernel_rfl) (fun _ _ _ h => h) (by kernel_rfl) hHeld ?_ ?_
          rotate_left
          ·intro w hSw
           (try dsimp only at hSw)
           have q0 := Sc.c0 hSw.sc
           have q5 := Tb.c5 hSw.tb
           go_simp
           first | done | with_reducible rfl
          (try simp only [Act.put, List.setIfInBounds_toArray, List.set_cons_zero, List.set_cons_succ])
          refine held_take (i := 10) (d := 112) (v := ?_) rfl rfl (by kernel_rfl) (by kernel_rfl) (by kernel_rfl) (fun _ _ _ h => h) (by kernel_rfl) hHeld ?_ ?_
          rotate_left
          ·intro w hSw
           (try dsimp only at hSw)
           go_simp
           first | done | with_reducible rfl
          (try simp only [Act.put, List.setIfInBounds_toArray, List.set_cons_zero, List.set_cons_succ])
          refine held_take (i := 11) (d := 113) (v := ?_) rfl rfl (by kernel_rfl) (by kernel_rfl) (by kernel_rfl) (fun _ _ _ h => h) (by kernel_rfl) hHeld ?_ ?_
          rotate_left
          ·intro w hSw
           (try dsimp only at hSw)
           go_simp
           first | done | with_reducible rfl
          (try simp only [Act.put, List.setIfInBounds_toArray, List.set_cons_zero, List.set_cons_succ])
          refine held_take (i := 12) (d := 114) (v := ?_) rfl rfl (by kernel_rfl) (by kernel_rfl) (by kernel_rfl) (fun _ _ _ h => h) (by kernel_rfl) hHeld ?_ ?_
          rotate_left
          ·intro w hSw
           (try dsimp only at hSw)
           go_simp
           first | done | with_reducible rfl
          (try simp only [Act.put, List.setIfInBounds_toArray, List.set_cons_zero, List.set_cons_succ])
          refine held_take (i := 13) (d := 115) (v := ?_) rfl rfl (by kernel_rfl) (by kernel_rfl) (by kernel_rfl) (fun _ _ _ h => h) (by kernel_rfl) hHeld ?_ ?_
          rotate_left
          ·intro w hSw
           (try dsimp only at hSw)
           go_simp
           first | done | with_reducible rfl
          (try simp only [Act.put, List.setIfInBounds_toArray, List.set_cons_zero, List.set_cons_succ])
          refine held_take (i := 14) (d := 116) (v := ?_) rfl rfl (by kernel_rfl) (by kernel_rfl) (by kernel_rfl) (fun _ _ _ h => h) (by kernel_rfl) hHeld ?_ ?_
          rotate_left
          ·intro w hSw
           (try dsimp only at hSw)
           go_simp
           first | done | with_reducible rfl
          (try simp only [Act.put, List.setIfInBounds_toArray, List.set_cons_zero, List.set_cons_succ])
          refine held_call (i := 15) rfl (by kernel_rfl) (by kernel_rfl) (fun K hK => ?_)
          go_simp
          go_at_call 107
          refine (HSpc.out _).mono ?_
          rintro e w' ⟨rfl, rfl⟩
          (try dsimp only)
          refine hK.out _ _ ?_ (fun hHeld' => ?_)
          ·(try dsimp only)
           first | exact Q8.out.drew | exact Q8.out | exact hHeld | exact hHeld.drew
          clear hK K hHeld
          have hHeld := hHeld'
          clear hHeld'
          (try simp only [Act.put, List.setIfInBounds_toArray, List.set_cons_zero, List.set_cons_succ])
          refine held_take (i := 16) (d := 118) (v := ?_) rfl rfl (by kernel_rfl) (by kernel_rfl) (by kernel_rfl) (fun _ _ _ h => h) (by kernel_rfl) hHeld ?_ ?_
          rotate_left
          ·intro w hSw
           (try dsimp only at hSw)
           go_simp
           first | done | with_reducible rfl
          (try simp only [Act.put, List.setIfInBounds_toArray, List.set_cons_zero, List.set_cons_succ])
          refine held_take (i := 17) (d := 4) (v := ?_) rfl rfl (by kernel_rfl) (by kernel_rfl) (by kernel_rfl) (fun _ _ _ h => h) (by kernel_rfl) hHeld ?_ ?_
          rotate_left
          ·intro w hSw
           (try dsimp only at hSw)
           go_simp
           first | done | with_reducible rfl
          (try simp only [Act.put, List.setIfInBounds_toArray, List.set_cons_zero, List.set_cons_succ])
          refine wpAnyH_done (by kernel_rfl) ?_ _
          go_wp2
          go_ret
          cases cb with
          | true => exact hHeld.yes HRr.out rfl LQ8.out (by omega)
          | false => exact hHeld.no HRr.out rfl LQ8.out
    ·have hd5 : decide ((5 : Int) < (s.size : Int)) = false := decide_eq_false (by omega)
     have HR := hide (show res = if ([60, 63] : L).isPrefixOf (D.drop k) then (instr (D.drop (k + 2))).map fun n => ⟨4, [], [], false, [], k, k + 2 + n⟩ else none by rw [H2.out, if_neg (by rintro ⟨_, _, h⟩; rw [List.drop_of_length_le (by rw [HDl.out]; omega)] at h; cases h)])
     clear H2
     cases hpD : (([60, 63] : L).isPrefixOf (D.drop k)) with
     | false =>
      have HRr := hide (show res = none by rw [HR.out, if_neg (by rw [hpD]; simp)])
      go_wp2_with fail
      refine (Q2.out.is_no hne hs [60, 63] (by decide) hk (by rw [HD.out]; exact hpD)).mono ?_
      rintro e wQ4 ⟨rfl, hQ4⟩
      have Q4 := hide hQ4
      clear hQ4
      go_wp2
      go_ret
      exact Q4.out.no HRr.out rfl hk
     | true =>
      have HR2 := hide (show res = (instr (D.drop (k + 2))).map fun n => ⟨4, [], [], false, [], k, k + 2 + n⟩ by rw [HR.out, if_pos hpD])
      clear HR
      go_wp2_with fail
      refine (Q2.out.is_yes hne hs [60, 63] (by decide) hk (by rw [HD.out]; exact hpD)).mono ?_
      rintro e wQ4 ⟨rfl, hQ4, lQ4⟩
      have Q4 := hide hQ4
      have LQ4 := hide lQ4
      clear hQ4 lQ4
      have hk2 : k + 2 ≤ s.size := LQ4.out
      have HN := hide (name_any wQ4 X s (k + 2) Q4.out.sc hk2 hs)
      obtain ⟨m, hm⟩ : ∃ m, take (D.drop (k + 2)) = m := ⟨_, rfl⟩
      have hml : k + 2 + m ≤ s.size := by have := take_le (D.drop (k + 2)); rw [List.length_drop, HDl.out] at this; omega
      obtain ⟨nl, hnl⟩ : ∃ nl, (D.drop (k + 2)).take m = nl := ⟨_, rfl⟩
      obtain ⟨nm, hnm⟩ : ∃ nm, bstr nl = nm := ⟨_, rfl⟩
      have hex : s.extract (k + 2) (k + 2 + m) = nm := by rw [extract_bstr, HD.out, show k + 2 + m - (k + 2) = m by omega, hnl, hnm]
      rw [HD.out, hm, hex] at HN
      have hnll : nl.length = m := by rw [← hnl, List.length_take, List.length_drop, HDl.out]; omega
      have hnms : nm.size = m := by rw [← hnm, bstr_size, hnll]
      have hE : (nm.toList == ([] : L)) = decide (m = 0) := by
       rw [← hnm, str_emp', Bool.eq_iff_iff, List.isEmpty_iff, decide_eq_true_eq]
       constructor
       ·intro h; rw [h] at hnll; simpa using hnll.symm
       ·intro h; exact List.eq_nil_of_length_eq_zero (by omega)
      have hIn : instr (D.drop (k + 2)) = if m = 0 ∨ xml nl = true then none
        else if ([63, 62] : L).isPrefixOf (D.drop (k + 2 + m)) then some (m + 2)
        else (till [63, 62] (D.drop (k + 2 + m))).bind fun j => if (((D.drop (k + 2 + m)).head?).map sp).getD false then some (m + j + 2) else none := by
       unfold instr
       rw [hm, hnl, List.drop_drop]
      rw [hIn] at HR2
      have HFo := hide fun W (h : Gl W) => fold_any nm W h (by rw [hnms]; omega)
      rw [← hnm, bstr_list, hnm] at HFo
      have hxl := fun h => xml_len (n := nl) h
      rw [hnll] at hxl
      generalize xml nl = xb at *
      clear hIn hnl hm hex hnm hnll
      go_wp2_with fail
      refine HN.out.mono ?_
      rintro e w5 ⟨rfl, s5, b5⟩
      have Q5 := hide (Q4.out.go hne b5 s5)
      clear s5 b5 HN
      by_cases h0 : m = 0
      ·rw [decide_eq_true h0] at hE
       have HRr := hide (show res = none by rw [HR2.out, if_pos (.inl h0)]; rfl)
       clear HR2 h0
       go_wp2
       go_ret
       exact Q5.out.no HRr.out rfl hml
      rw [decide_eq_false h0] at hE
      cases xb with
      | true =>
       have HRr := hide (show res = none by rw [HR2.out, if_pos (.inr rfl)]; rfl)
       have h3 : m = 3 := hxl rfl
       subst h3
       clear HR2 h0 hxl
       go_wp2_with fail
       refine (HFo.out _ (Q5.out.gl HG.out hX6 hT6)).mono ?_
       rintro e w6 ⟨rfl, b6⟩
       have Q6 := hide (Q5.out.below b6)
       clear b6
       go_wp2
       go_ret
       exact Q6.out.no HRr.out rfl hml
      | false =>
       clear hxl
       have HR3 := hide (show res = (if ([63, 62] : L).isPrefixOf (D.drop (k + 2 + m)) then some (m + 2)
        else (till [63, 62] (D.drop (k + 2 + m))).bind fun j => if (((D.drop (k + 2 + m)).head?).map sp).getD false then some (m + j + 2) else none).map fun n => ⟨4, [], [], false, [], k, k + 2 + n⟩ by
         rw [HR2.out, if_neg (by simp; exact h0)])
       clear HR2
       go_wp2_with fail
       refine (HFo.out _ (Q5.out.gl HG.out hX6 hT6)).mono ?_
       rintro e w6 ⟨rfl, b6⟩
       have Q6 := hide (Q5.out.below b6)
       clear b6 HFo
       cases hpE : (([63, 62] : L).isPrefixOf (D.drop (k + 2 + m))) with
       | true =>
        have HRr := hide (show res = some ⟨4, [], [], false, [], k, k + 2 + m + 2⟩ by rw [HR3.out, if_pos hpE]; rfl)
        clear HR3
        go_wp2_with fail
        refine (Q6.out.is_yes hne hs [63, 62] (by decide) hml (by rw [HD.out]; exact hpE)).mono ?_
        rintro e wQ7 ⟨rfl, hQ7, lQ7⟩
        have Q7 := hide hQ7
        have LQ7 := hide lQ7
        clear hQ7 lQ7
        go_wp2
        go_ret
        exact Q7.out.yes HRr.out rfl LQ7.out (by omega)
       | false =>
        have HR4 := hide (show res = ((till [63, 62] (D.drop (k + 2 + m))).bind fun j => if (((D.drop (k + 2 + m)).head?).map sp).getD false then some (m + j + 2) else none).map fun n => ⟨4, [], [], false, [], k, k + 2 + n⟩ by
         rw [HR3.out, if_neg (by rw [hpE]; simp)])
        clear HR3
        go_wp2_with fail
        refine (Q6.out.is_no hne hs [63, 62] (by decide) hml (by rw [HD.out]; exact hpE)).mono ?_
        rintro e wQ7 ⟨rfl, hQ7⟩
        have Q7 := hide hQ7
        clear hQ7
        cases htl : till [63, 62] (D.drop (k + 2 + m)) with
        | none =>
         have HRr := hide (show res = none by rw [HR4.out, htl]; rfl)
         clear HR4
         go_wp2_with fail
         refine (Q7.out.till_no hne HG.out hX6 hT6 hs [63, 62] (by decide) hml (by rw [HD.out]; exact htl)).mono ?_
         rintro e wQ8 ⟨rfl, hQ8⟩
         have Q8 := hide hQ8
         clear hQ8
         clear htl hpE hpD
         go_wp2
         refine wp_region_held_drew (S := fun W => Sk w W X T s k (k + 2 + m) 4 []) (by kernel_rfl) ?_ (fun hHeld => ?_)
         ·(try dsimp only)
          first | exact Q8.out.drew | exact Q8.out | exact hHeld | exact hHeld.drew
         change wpAnyH _ _ _ _ _ 18 #[false, false, false, false, false, false, false, false, false, false, false, false, false, false, false, false, false, false] _ _
         refine held_take (i := 0) (d := 102) (v := ?_) rfl rfl (by kernel_rfl) (by kernel_rfl) (by kernel_rfl) (fun _ _ _ h => h) (by kernel_rfl) hHeld ?_ ?_
         rotate_left
         ·intro w hSw
          (try dsimp only at hSw)
          go_simp
          first | done | with_reducible rfl
         (try simp only [Act.put, List.setIfInBounds_toArray, List.set_cons_zero, List.set_cons_succ])
         refine held_take (i := 1) (d := 103) (v := ?_) rfl rfl (by kernel_rfl) (by kernel_rfl) (by kernel_rfl) (fun _ _ _ h => h) (by kernel_rfl) hHeld ?_ ?_
         rotate_left
         ·intro w hSw
          (try dsimp only at hSw)
          go_simp
          first | done | with_reducible rfl
         (try simp only [Act.put, List.setIfInBounds_toArray, List.set_cons_zero, List.set_cons_succ])
         refine held_skip (i := 2) (d := 104) rfl rfl (by kernel_rfl) (by kernel_rfl) (by kernel_rfl) (fun _ _ _ h => h) (by kernel_rfl) hHeld ?_
         (try simp only [Act.put, List.setIfInBounds_toArray, List.set_cons_zero, List.set_cons_succ])
         refine held_skip (i := 3) (d := 105) rfl rfl (by kernel_rfl) (by kernel_rfl) (by kernel_rfl) (fun _ _ _ h => h) (by kernel_rfl) hHeld ?_
         (try simp only [Act.put, List.setIfInBounds_toArray, List.set_cons_zero, List.set_cons_succ])
         refine held_skip (i := 4) (d := 106) rfl rfl (by kernel_rfl) (by kernel_rfl) (by kernel_rfl) (fun _ _ _ h => h) (by kernel_rfl) hHeld ?_
         (try simp only [Act.put, List.setIfInBounds_toArray, List.set_cons_zero, List.set_cons_succ])
         refine held_skip (i := 5) (d := 107) rfl rfl (by kernel_rfl) (by kernel_rfl) (by kernel_rfl) (fun _ _ _ h => h) (by kernel_rfl) hHeld ?_
         (try simp only [Act.put, List.setIfInBounds_toArray, List.set_cons_zero, List.set_cons_succ])
         refine held_skip (i := 6) (d := 108) rfl rfl (by kernel_rfl) (by kernel_rfl) (by kernel_rfl) (fun _ _ _ h => h) (by kernel_rfl) hHeld ?_
         (try simp only [Act.put, List.setIfInBounds_toArray, List.set_cons_zero, List.set_cons_succ])
         refine held_skip (i := 7) (d := 109) rfl rfl (by kernel_rfl) (by kernel_rfl) (by kernel_rfl) (fun _ _ _ h => h) (by kernel_rfl) hHeld ?_
         (try simp only [Act.put, List.setIfInBounds_toArray, List.set_cons_zero, List.set_cons_succ])
         refine held_skip (i := 8) (d := 110) rfl rfl (by kernel_rfl) (by kernel_rfl) (by kernel_rfl) (fun _ _ _ h => h) (by kernel_rfl) hHeld ?_
         (try simp only [Act.put, List.setIfInBounds_toArray, List.set_cons_zero, List.set_cons_succ])
         refine held_skip (i := 9) (d := 111) rfl rfl (by kernel_rfl) (by kernel_rfl) (by kernel_rfl) (fun _ _ _ h => h) (by kernel_rfl) hHeld ?_
         (try simp only [Act.put, List.setIfInBounds_toArray, List.set_cons_zero, List.set_cons_succ])
         refine held_skip (i := 10) (d := 112) rfl rfl (by kernel_rfl) (by kernel_rfl) (by kernel_rfl) (fun _ _ _ h => h) (by kernel_rfl) hHeld ?_
         (try simp only [Act.put, List.setIfInBounds_toArray, List.set_cons_zero, List.set_cons_succ])
         refine held_skip (i := 11) (d := 113) rfl rfl (by kernel_rfl) (by kernel_rfl) (by kernel_rfl) (fun _ _ _ h => h) (by kernel_rfl) hHeld ?_
         (try simp only [Act.put, List.setIfInBounds_toArray, List.set_cons_zero, List.set_cons_succ])
         refine held_skip (i := 12) (d := 114) rfl rfl (by kernel_rfl) (by kernel_rfl) (by kernel_rfl) (fun _ _ _ h => h) (by kernel_rfl) hHeld ?_
         (try simp only [Act.put, List.setIfInBounds_toArray, List.set_cons_zero, List.set_cons_succ])
         refine held_skip (i := 13) (d := 115) rfl rfl (by kernel_rfl) (by kernel_rfl) (by kernel_rfl) (fun _ _ _ h => h) (by kernel_rfl) hHeld ?_
         (try simp only [Act.put, List.setIfInBounds_toArray, List.set_cons_zero, List.set_cons_succ])
         refine held_skip (i := 14) (d := 116) rfl rfl (by kernel_rfl) (by kernel_rfl) (by kernel_rfl) (fun _ _ _ h => h) (by kernel_rfl) hHeld ?_
         (try simp only [Act.put, List.setIfInBounds_toArray, List.set_cons_zero, List.set_cons_succ])
         refine held_skip (i := 15) (d := 117) rfl rfl (by kernel_rfl) (by kernel_rfl) (by kernel_rfl) (fun _ _ _ h => h) (by kernel_rfl) hHeld ?_
         (try simp only [Act.put, List.setIfInBounds_toArray, List.set_cons_zero, List.set_cons_succ])
         refine held_take (i := 16) (d := 118) (v := ?_) rfl rfl (by kernel_rfl) (by kernel_rfl) (by kernel_rfl) (fun _ _ _ h => h) (by kernel_rfl) hHeld ?_ ?_
         rotate_left
         ·intro w hSw
          (try dsimp only at hSw)
          go_simp
          first | done | with_reducible rfl
         (try simp only [Act.put, List.setIfInBounds_toArray, List.set_cons_zero, List.set_cons_succ])
         refine held_take (i := 17) (d := 4) (v := ?_) rfl rfl (by kernel_rfl) (by kernel_rfl) (by kernel_rfl) (fun _ _ _ h => h) (by kernel_rfl) hHeld ?_ ?_
         rotate_left
         ·intro w hSw
          (try dsimp only at hSw)
          go_simp
          first | done | with_reducible rfl
         (try simp only [Act.put, List.setIfInBounds_toArray, List.set_cons_zero, List.set_cons_succ])
         refine wpAnyH_done (by kernel_rfl) ?_ _
         go_wp2
         go_ret
         exact hHeld.no HRr.out rfl hml
        | some n =>
         have hnn := (till_some htl).2
         rw [List.length_drop, HDl.out] at hnn
         obtain ⟨c, hc⟩ : ∃ c, D[k + 2 + m]? = some c := ⟨_, List.getElem?_eq_getElem (by rw [HDl.out]; have e : ([63, 62] : L).length = 2 := rfl; omega)⟩
         have hhd : (D.drop (k + 2 + m)).head? = some c := by rw [List.head?_drop, hc]
         have HRr := hide (show res = if sp c then some ⟨4, [], [], false, [], k, k + 2 + m + n + 2⟩ else none by
          rw [HR4.out, htl, Option.bind_some, hhd]
          by_cases hcb : sp c = true
          ·rw [if_pos (show ((Option.map sp (some c)).getD false) = true from hcb), if_pos hcb]
           simp
           omega
          ·rw [if_neg (show ¬((Option.map sp (some c)).getD false) = true from hcb), if_neg hcb]
           rfl)
         have hidx := idx_run s (k + 2 + m) c (by rw [HD.out]; exact hc)
         rw [show ((k + 2 + m : Nat) : Int) = (k : Int) + 2 + (m : Int) by omega] at hidx
         have HSpc := hide (space_any c)
         obtain ⟨cb, hcb⟩ : ∃ b, sp c = b := ⟨_, rfl⟩
         rw [hcb] at HSpc HRr
         clear hcb
         have hw2 : IntKind.i64.wrap ((k : Int) + 2) = (k : Int) + 2 := IntWalk.i64_in _ (by omega)
         have hw3 : IntKind.i64.wrap ((k : Int) + 2 + (m : Int)) = (k : Int) + 2 + (m : Int) := IntWalk.i64_in _ (by omega)
         clear HR4 hhd hc hnn
         go_wp2_with fail
         refine (Q7.out.till_yes hne HG.out hX6 hT6 hs [63, 62] (by decide) hml (by rw [HD.out]; exact htl)).mono ?_
         rintro e wQ8 ⟨rfl, hQ8, lQ8⟩
         have Q8 := hide hQ8
         have LQ8 := hide lQ8
         clear hQ8 lQ8
         clear htl hpE hpD
         replace LQ8 := hide (show k + 2 + m + n + 2 ≤ s.size from LQ8.out)
         replace Q8 := hide (show Sk w wQ8 X T s k (k + 2 + m + n + 2) 4 [] from Q8.out)
         go_wp2
         refine wp_region_held_drew (S := fun W => Sk w W X T s k (k + 2 + m + n + 2) 4 []) (by kernel_rfl) ?_ (fun hHeld => ?_)
         ·(try dsimp only)
          first | exact Q8.out.drew | exact Q8.out | exact hHeld | exact hHeld.drew
         change wpAnyH _ _ _ _ _ 18 #[false, false, false, false, false, false, false, false, false, false, false, false, false, false, false, false, false, false] _ _
         refine held_take (i := 0) (d := 102) (v := ?_) rfl rfl (by kernel_rfl) (by kernel_rfl) (by kernel_rfl) (fun _ _ _ h => h) (by kernel_rfl) hHeld ?_ ?_
         rotate_left
         ·intro w hSw
          (try dsimp only at hSw)
          go_simp
          first | done | with_reducible rfl
         (try simp only [Act.put, List.setIfInBounds_toArray, List.set_cons_zero, List.set_cons_succ])
         refine held_take (i := 1) (d := 103) (v := ?_) rfl rfl (by kernel_rfl) (by kernel_rfl) (by kernel_rfl) (fun _ _ _ h => h) (by kernel_rfl) hHeld ?_ ?_
         rotate_left
         ·intro w hSw
          (try dsimp only at hSw)
          go_simp
          first | done | with_reducible rfl
         (try simp only [Act.put, List.setIfInBounds_toArray, List.set_cons_zero, List.set_cons_succ])
         refine held_take (i := 2) (d := 104) (v := ?_) rfl rfl (by kernel_rfl) (by kernel_rfl) (by kernel_rfl) (fun _ _ _ h => h) (by kernel_rfl) hHeld ?_ ?_
         rotate_left
         ·intro w hSw
          (try dsimp only at hSw)
          go_simp
          first | done | with_reducible rfl
         (try simp only [Act.put, List.setIfInBounds_toArray, List.set_cons_zero, List.set_cons_succ])
         refine held_take (i := 3) (d := 105) (v := ?_) rfl rfl (by kernel_rfl) (by kernel_rfl) (by kernel_rfl) (fun _ _ _ h => h) (by kernel_rfl) hHeld ?_ ?_
         rotate_left
         ·intro w hSw
          (try dsimp only at hSw)
          go_simp
          first | done | with_reducible rfl
         (try simp only [Act.put, List.setIfInBounds_toArray, List.set_cons_zero, List.set_cons_succ])
         refine held_take (i := 4) (d := 106) (v := ?_) rfl rfl (by kernel_rfl) (by kernel_rfl) (by kernel_rfl) (fun _ _ _ h => h) (by kernel_rfl) hHeld ?_ ?_
         rotate_left
         ·intro w hSw
          (try dsimp only at hSw)
          go_simp
          first | done | with_reducible rfl
         (try simp only [Act.put, List.setIfInBounds_toArray, List.set_cons_zero, List.set_cons_succ])
         refine held_take (i := 5) (d := 107) (v := ?_) rfl rfl (by kernel_rfl) (by kernel_rfl) (by kernel_rfl) (fun _ _ _ h => h) (by kernel_rfl) hHeld ?_ ?_
         rotate_left
         ·intro w hSw
          (try dsimp only at hSw)
          have q0 := Sc.c0 hSw.sc
          have q5 := Tb.c5 hSw.tb
          go_simp
          first | done | with_reducible rfl
         (try simp only [Act.put, List.setIfInBounds_toArray, List.set_cons_zero, List.set_cons_succ])
         refine held_take (i := 6) (d := 108) (v := ?_) rfl rfl (by kernel_rfl) (by kernel_rfl) (by kernel_rfl) (fun _ _ _ h => h) (by kernel_rfl) hHeld ?_ ?_
         rotate_left
         ·intro w hSw
          (try dsimp only at hSw)
          go_simp
          first | done | with_reducible rfl
         (try simp only [Act.put, List.setIfInBounds_toArray, List.set_cons_zero, List.set_cons_succ])
         refine held_take (i := 7) (d := 109) (v := ?_) rfl rfl (by kernel_rfl) (by kernel_rfl) (by kernel_rfl) (fun _ _ _ h => h) (by kernel_rfl) hHeld ?_ ?_
         rotate_left
         ·intro w hSw
          (try dsimp only at hSw)
          go_simp
          first | done | with_reducible rfl
         (try simp only [Act.put, List.setIfInBounds_toArray, List.set_cons_zero, List.set_cons_succ])
         refine held_take (i := 8) (d := 110) (v := ?_) rfl rfl (by kernel_rfl) (by kernel_rfl) (by kernel_rfl) (fun _ _ _ h => h) (by kernel_rfl) hHeld ?_ ?_
         rotate_left
         ·intro w hSw
          (try dsimp only at hSw)
          go_simp
          first | done | with_reducible rfl
         (try simp only [Act.put, List.setIfInBounds_toArray, List.set_cons_zero, List.set_cons_succ])
         refine held_take (i := 9) (d := 111) (v := ?_) rfl rfl (by kernel_rfl) (by kernel_rfl) (by kernel_rfl) (fun _ _ _ h => h) (by kernel_rfl) hHeld ?_ ?_
         rotate_left
         ·intro w hSw
          (try dsimp only at hSw)
          have q0 := Sc.c0 hSw.sc
          have q5 := Tb.c5 hSw.tb
          go_simp
          first | done | with_reducible rfl
         (try simp only [Act.put, List.setIfInBounds_toArray, List.set_cons_zero, List.set_cons_succ])
         refine held_take (i := 10) (d := 112) (v := ?_) rfl rfl (by kernel_rfl) (by kernel_rfl) (by kernel_rfl) (fun _ _ _ h => h) (by kernel_rfl) hHeld ?_ ?_
         rotate_left
         ·intro w hSw
          (try dsimp only at hSw)
          go_simp
          first | done | with_reducible rfl
         (try simp only [Act.put, List.setIfInBounds_toArray, List.set_cons_zero, List.set_cons_succ])
         refine held_take (i := 11) (d := 113) (v := ?_) rfl rfl (by kernel_rfl) (by kernel_rfl) (by kernel_rfl) (fun _ _ _ h => h) (by kernel_rfl) hHeld ?_ ?_
         rotate_left
         ·intro w hSw
          (try dsimp only at hSw)
          go_simp
          first | done | with_reducible rfl
         (try simp only [Act.put, List.setIfInBounds_toArray, List.set_cons_zero, List.set_cons_succ])
         refine held_take (i := 12) (d := 114) (v := ?_) rfl rfl (by kernel_rfl) (by kernel_rfl) (by kernel_rfl) (fun _ _ _ h => h) (by kernel_rfl) hHeld ?_ ?_
         rotate_left
         ·intro w hSw
          (try dsimp only at hSw)
          go_simp
          first | done | with_reducible rfl
         (try simp only [Act.put, List.setIfInBounds_toArray, List.set_cons_zero, List.set_cons_succ])
         refine held_take (i := 13) (d := 115) (v := ?_) rfl rfl (by kernel_rfl) (by kernel_rfl) (by kernel_rfl) (fun _ _ _ h => h) (by kernel_rfl) hHeld ?_ ?_
         rotate_left
         ·intro w hSw
          (try dsimp only at hSw)
          go_simp
          first | done | with_reducible rfl
         (try simp only [Act.put, List.setIfInBounds_toArray, List.set_cons_zero, List.set_cons_succ])
         refine held_take (i := 14) (d := 116) (v := ?_) rfl rfl (by kernel_rfl) (by kernel_rfl) (by kernel_rfl) (fun _ _ _ h => h) (by kernel_rfl) hHeld ?_ ?_
         rotate_left
         ·intro w hSw
          (try dsimp only at hSw)
          go_simp
          first | done | with_reducible rfl
         (try simp only [Act.put, List.setIfInBounds_toArray, List.set_cons_zero, List.set_cons_succ])
         refine held_call (i := 15) rfl (by kernel_rfl) (by kernel_rfl) (fun K hK => ?_)
         go_simp
         go_at_call 107
         refine (HSpc.out _).mono ?_
         rintro e w' ⟨rfl, rfl⟩
         (try dsimp only)
         refine hK.out _ _ ?_ (fun hHeld' => ?_)
         ·(try dsimp only)
          first | exact Q8.out.drew | exact Q8.out | exact hHeld | exact hHeld.drew
         clear hK K hHeld
         have hHeld := hHeld'
         clear hHeld'
         (try simp only [Act.put, List.setIfInBounds_toArray, List.set_cons_zero, List.set_cons_succ])
         refine held_take (i := 16) (d := 118) (v := ?_) rfl rfl (by kernel_rfl) (by kernel_rfl) (by kernel_rfl) (fun _ _ _ h => h) (by kernel_rfl) hHeld ?_ ?_
         rotate_left
         ·intro w hSw
          (try dsimp only at hSw)
          go_simp
          first | done | with_reducible rfl
         (try simp only [Act.put, List.setIfInBounds_toArray, List.set_cons_zero, List.set_cons_succ])
         refine held_take (i := 17) (d := 4) (v := ?_) rfl rfl (by kernel_rfl) (by kernel_rfl) (by kernel_rfl) (fun _ _ _ h => h) (by kernel_rfl) hHeld ?_ ?_
         rotate_left
         ·intro w hSw
          (try dsimp only at hSw)
          go_simp
          first | done | with_reducible rfl
         (try simp only [Act.put, List.setIfInBounds_toArray, List.set_cons_zero, List.set_cons_succ])
         refine wpAnyH_done (by kernel_rfl) ?_ _
         go_wp2
         go_ret
         cases cb with
         | true => exact hHeld.yes HRr.out rfl LQ8.out (by omega)
         | false => exact hHeld.no HRr.out rfl LQ8.out
   ·have hk00 : ((k : Int) == 0) = false := by rw [beq_eq_false_iff_ne]; omega
    have HR := hide (show res = if ([60, 63] : L).isPrefixOf (D.drop k) then (instr (D.drop (k + 2))).map fun n => ⟨4, [], [], false, [], k, k + 2 + n⟩ else none by rw [H2.out, if_neg (by rintro ⟨h, _, _⟩; exact hk0 h)])
    clear H2
    cases hpD : (([60, 63] : L).isPrefixOf (D.drop k)) with
    | false =>
     have HRr := hide (show res = none by rw [HR.out, if_neg (by rw [hpD]; simp)])
     go_wp2_with fail
     refine (Q2.out.is_no hne hs [60, 63] (by decide) hk (by rw [HD.out]; exact hpD)).mono ?_
     rintro e wQ4 ⟨rfl, hQ4⟩
     have Q4 := hide hQ4
     clear hQ4
     go_wp2
     go_ret
     exact Q4.out.no HRr.out rfl hk
    | true =>
     have HR2 := hide (show res = (instr (D.drop (k + 2))).map fun n => ⟨4, [], [], false, [], k, k + 2 + n⟩ by rw [HR.out, if_pos hpD])
     clear HR
     go_wp2_with fail
     refine (Q2.out.is_yes hne hs [60, 63] (by decide) hk (by rw [HD.out]; exact hpD)).mono ?_
     rintro e wQ4 ⟨rfl, hQ4, lQ4⟩
     have Q4 := hide hQ4
     have LQ4 := hide lQ4
     clear hQ4 lQ4
     have hk2 : k + 2 ≤ s.size := LQ4.out
     have HN := hide (name_any wQ4 X s (k + 2) Q4.out.sc hk2 hs)
     obtain ⟨m, hm⟩ : ∃ m, take (D.drop (k + 2)) = m := ⟨_, rfl⟩
     have hml : k + 2 + m ≤ s.size := by have := take_le (D.drop (k + 2)); rw [List.length_drop, HDl.out] at this; omega
     obtain ⟨nl, hnl⟩ : ∃ nl, (D.drop (k + 2)).take m = nl := ⟨_, rfl⟩
     obtain ⟨nm, hnm⟩ : ∃ nm, bstr nl = nm := ⟨_, rfl⟩
     have hex : s.extract (k + 2) (k + 2 + m) = nm := by rw [extract_bstr, HD.out, show k + 2 + m - (k + 2) = m by omega, hnl, hnm]
     rw [HD.out, hm, hex] at HN
     have hnll : nl.length = m := by rw [← hnl, List.length_take, List.length_drop, HDl.out]; omega
     have hnms : nm.size = m := by rw [← hnm, bstr_size, hnll]
     have hE : (nm.toList == ([] : L)) = decide (m = 0) := by
      rw [← hnm, str_emp', Bool.eq_iff_iff, List.isEmpty_iff, decide_eq_true_eq]
      constructor
      ·intro h; rw [h] at hnll; simpa using hnll.symm
      ·intro h; exact List.eq_nil_of_length_eq_zero (by omega)
     have hIn : instr (D.drop (k + 2)) = if m = 0 ∨ xml nl = true then none
       else if ([63, 62] : L).isPrefixOf (D.drop (k + 2 + m)) then some (m + 2)
       else (till [63, 62] (D.drop (k + 2 + m))).bind fun j => if (((D.drop (k + 2 + m)).head?).map sp).getD false then some (m + j + 2) else none := by
      unfold instr
      rw [hm, hnl, List.drop_drop]
     rw [hIn] at HR2
     have HFo := hide fun W (h : Gl W) => fold_any nm W h (by rw [hnms]; omega)
     rw [← hnm, bstr_list, hnm] at HFo
     have hxl := fun h => xml_len (n := nl) h
     rw [hnll] at hxl
     generalize xml nl = xb at *
     clear hIn hnl hm hex hnm hnll
     go_wp2_with fail
     refine HN.out.mono ?_
     rintro e w5 ⟨rfl, s5, b5⟩
     have Q5 := hide (Q4.out.go hne b5 s5)
     clear s5 b5 HN
     by_cases h0 : m = 0
     ·rw [decide_eq_true h0] at hE
      have HRr := hide (show res = none by rw [HR2.out, if_pos (.inl h0)]; rfl)
      clear HR2 h0
      go_wp2
      go_ret
      exact Q5.out.no HRr.out rfl hml
     rw [decide_eq_false h0] at hE
     cases xb with
     | true =>
      have HRr := hide (show res = none by rw [HR2.out, if_pos (.inr rfl)]; rfl)
      have h3 : m = 3 := hxl rfl
      subst h3
      clear HR2 h0 hxl
      go_wp2_with fail
      refine (HFo.out _ (Q5.out.gl HG.out hX6 hT6)).mono ?_
      rintro e w6 ⟨rfl, b6⟩
      have Q6 := hide (Q5.out.below b6)
      clear b6
      go_wp2
      go_ret
      exact Q6.out.no HRr.out rfl hml
     | false =>
      clear hxl
      have HR3 := hide (show res = (if ([63, 62] : L).isPrefixOf (D.drop (k + 2 + m)) then some (m + 2)
       else (till [63, 62] (D.drop (k + 2 + m))).bind fun j => if (((D.drop (k + 2 + m)).head?).map sp).getD false then some (m + j + 2) else none).map fun n => ⟨4, [], [], false, [], k, k + 2 + n⟩ by
        rw [HR2.out, if_neg (by simp; exact h0)])
      clear HR2
      go_wp2_with fail
      refine (HFo.out _ (Q5.out.gl HG.out hX6 hT6)).mono ?_
      rintro e w6 ⟨rfl, b6⟩
      have Q6 := hide (Q5.out.below b6)
      clear b6 HFo
      cases hpE : (([63, 62] : L).isPrefixOf (D.drop (k + 2 + m))) with
      | true =>
       have HRr := hide (show res = some ⟨4, [], [], false, [], k, k + 2 + m + 2⟩ by rw [HR3.out, if_pos hpE]; rfl)
       clear HR3
       go_wp2_with fail
       refine (Q6.out.is_yes hne hs [63, 62] (by decide) hml (by rw [HD.out]; exact hpE)).mono ?_
       rintro e wQ7 ⟨rfl, hQ7, lQ7⟩
       have Q7 := hide hQ7
       have LQ7 := hide lQ7
       clear hQ7 lQ7
       go_wp2
       go_ret
       exact Q7.out.yes HRr.out rfl LQ7.out (by omega)
      | false =>
       have HR4 := hide (show res = ((till [63, 62] (D.drop (k + 2 + m))).bind fun j => if (((D.drop (k + 2 + m)).head?).map sp).getD false then some (m + j + 2) else none).map fun n => ⟨4, [], [], false, [], k, k + 2 + n⟩ by
        rw [HR3.out, if_neg (by rw [hpE]; simp)])
       clear HR3
       go_wp2_with fail
       refine (Q6.out.is_no hne hs [63, 62] (by decide) hml (by rw [HD.out]; exact hpE)).mono ?_
       rintro e wQ7 ⟨rfl, hQ7⟩
       have Q7 := hide hQ7
       clear hQ7
       cases htl : till [63, 62] (D.drop (k + 2 + m)) with
       | none =>
        have HRr := hide (show res = none by rw [HR4.out, htl]; rfl)
        clear HR4
        go_wp2_with fail
        refine (Q7.out.till_no hne HG.out hX6 hT6 hs [63, 62] (by decide) hml (by rw [HD.out]; exact htl)).mono ?_
        rintro e wQ8 ⟨rfl, hQ8⟩
        have Q8 := hide hQ8
        clear hQ8
        clear htl hpE hpD
        go_wp2
        refine wp_region_held_drew (S := fun W => Sk w W X T s k (k + 2 + m) 4 []) (by kernel_rfl) ?_ (fun hHeld => ?_)
        ·(try dsimp only)
         first | exact Q8.out.drew | exact Q8.out | exact hHeld | exact hHeld.drew
        change wpAnyH _ _ _ _ _ 18 #[false, false, false, false, false, false, false, false, false, false, false, false, false, false, false, false, false, false] _ _
        refine held_take (i := 0) (d := 102) (v := ?_) rfl rfl (by kernel_rfl) (by kernel_rfl) (by kernel_rfl) (fun _ _ _ h => h) (by kernel_rfl) hHeld ?_ ?_
        rotate_left
        ·intro w hSw
         (try dsimp only at hSw)
         go_simp
         first | done | with_reducible rfl
        (try simp only [Act.put, List.setIfInBounds_toArray, List.set_cons_zero, List.set_cons_succ])
        refine held_take (i := 1) (d := 103) (v := ?_) rfl rfl (by kernel_rfl) (by kernel_rfl) (by kernel_rfl) (fun _ _ _ h => h) (by kernel_rfl) hHeld ?_ ?_
        rotate_left
        ·intro w hSw
         (try dsimp only at hSw)
         go_simp
         first | done | with_reducible rfl
        (try simp only [Act.put, List.setIfInBounds_toArray, List.set_cons_zero, List.set_cons_succ])
        refine held_skip (i := 2) (d := 104) rfl rfl (by kernel_rfl) (by kernel_rfl) (by kernel_rfl) (fun _ _ _ h => h) (by kernel_rfl) hHeld ?_
        (try simp only [Act.put, List.setIfInBounds_toArray, List.set_cons_zero, List.set_cons_succ])
        refine held_skip (i := 3) (d := 105) rfl rfl (by kernel_rfl) (by kernel_rfl) (by kernel_rfl) (fun _ _ _ h => h) (by kernel_rfl) hHeld ?_
        (try simp only [Act.put, List.setIfInBounds_toArray, List.set_cons_zero, List.set_cons_succ])
        refine held_skip (i := 4) (d := 106) rfl rfl (by kernel_rfl) (by kernel_rfl) (by kernel_rfl) (fun _ _ _ h => h) (by kernel_rfl) hHeld ?_
        (try simp only [Act.put, List.setIfInBounds_toArray, List.set_cons_zero, List.set_cons_succ])
        refine held_skip (i := 5) (d := 107) rfl rfl (by kernel_rfl) (by kernel_rfl) (by kernel_rfl) (fun _ _ _ h => h) (by kernel_rfl) hHeld ?_
        (try simp only [Act.put, List.setIfInBounds_toArray, List.set_cons_zero, List.set_cons_succ])
        refine held_skip (i := 6) (d := 108) rfl rfl (by kernel_rfl) (by kernel_rfl) (by kernel_rfl) (fun _ _ _ h => h) (by kernel_rfl) hHeld ?_
        (try simp only [Act.put, List.setIfInBounds_toArray, List.set_cons_zero, List.set_cons_succ])
        refine held_skip (i := 7) (d := 109) rfl rfl (by kernel_rfl) (by kernel_rfl) (by kernel_rfl) (fun _ _ _ h => h) (by kernel_rfl) hHeld ?_
        (try simp only [Act.put, List.setIfInBounds_toArray, List.set_cons_zero, List.set_cons_succ])
        refine held_skip (i := 8) (d := 110) rfl rfl (by kernel_rfl) (by kernel_rfl) (by kernel_rfl) (fun _ _ _ h => h) (by kernel_rfl) hHeld ?_
        (try simp only [Act.put, List.setIfInBounds_toArray, List.set_cons_zero, List.set_cons_succ])
        refine held_skip (i := 9) (d := 111) rfl rfl (by kernel_rfl) (by kernel_rfl) (by kernel_rfl) (fun _ _ _ h => h) (by kernel_rfl) hHeld ?_
        (try simp only [Act.put, List.setIfInBounds_toArray, List.set_cons_zero, List.set_cons_succ])
        refine held_skip (i := 10) (d := 112) rfl rfl (by kernel_rfl) (by kernel_rfl) (by kernel_rfl) (fun _ _ _ h => h) (by kernel_rfl) hHeld ?_
        (try simp only [Act.put, List.setIfInBounds_toArray, List.set_cons_zero, List.set_cons_succ])
        refine held_skip (i := 11) (d := 113) rfl rfl (by kernel_rfl) (by kernel_rfl) (by kernel_rfl) (fun _ _ _ h => h) (by kernel_rfl) hHeld ?_
        (try simp only [Act.put, List.setIfInBounds_toArray, List.set_cons_zero, List.set_cons_succ])
        refine held_skip (i := 12) (d := 114) rfl rfl (by kernel_rfl) (by kernel_rfl) (by kernel_rfl) (fun _ _ _ h => h) (by kernel_rfl) hHeld ?_
        (try simp only [Act.put, List.setIfInBounds_toArray, List.set_cons_zero, List.set_cons_succ])
        refine held_skip (i := 13) (d := 115) rfl rfl (by kernel_rfl) (by kernel_rfl) (by kernel_rfl) (fun _ _ _ h => h) (by kernel_rfl) hHeld ?_
        (try simp only [Act.put, List.setIfInBounds_toArray, List.set_cons_zero, List.set_cons_succ])
        refine held_skip (i := 14) (d := 116) rfl rfl (by kernel_rfl) (by kernel_rfl) (by kernel_rfl) (fun _ _ _ h => h) (by kernel_rfl) hHeld ?_
        (try simp only [Act.put, List.setIfInBounds_toArray, List.set_cons_zero, List.set_cons_succ])
        refine held_skip (i := 15) (d := 117) rfl rfl (by kernel_rfl) (by kernel_rfl) (by kernel_rfl) (fun _ _ _ h => h) (by kernel_rfl) hHeld ?_
        (try simp only [Act.put, List.setIfInBounds_toArray, List.set_cons_zero, List.set_cons_succ])
        refine held_take (i := 16) (d := 118) (v := ?_) rfl rfl (by kernel_rfl) (by kernel_rfl) (by kernel_rfl) (fun _ _ _ h => h) (by kernel_rfl) hHeld ?_ ?_
        rotate_left
        ·intro w hSw
         (try dsimp only at hSw)
         go_simp
         first | done | with_reducible rfl
        (try simp only [Act.put, List.setIfInBounds_toArray, List.set_cons_zero, List.set_cons_succ])
        refine held_take (i := 17) (d := 4) (v := ?_) rfl rfl (by kernel_rfl) (by kernel_rfl) (by kernel_rfl) (fun _ _ _ h => h) (by kernel_rfl) hHeld ?_ ?_
        rotate_left
        ·intro w hSw
         (try dsimp only at hSw)
         go_simp
         first | done | with_reducible rfl
        (try simp only [Act.put, List.setIfInBounds_toArray, List.set_cons_zero, List.set_cons_succ])
        refine wpAnyH_done (by kernel_rfl) ?_ _
        go_wp2
        go_ret
        exact hHeld.no HRr.out rfl hml
       | some n =>
        have hnn := (till_some htl).2
        rw [List.length_drop, HDl.out] at hnn
        obtain ⟨c, hc⟩ : ∃ c, D[k + 2 + m]? = some c := ⟨_, List.getElem?_eq_getElem (by rw [HDl.out]; have e : ([63, 62] : L).length = 2 := rfl; omega)⟩
        have hhd : (D.drop (k + 2 + m)).head? = some c := by rw [List.head?_drop, hc]
        have HRr := hide (show res = if sp c then some ⟨4, [], [], false, [], k, k + 2 + m + n + 2⟩ else none by
         rw [HR4.out, htl, Option.bind_some, hhd]
         by_cases hcb : sp c = true
         ·rw [if_pos (show ((Option.map sp (some c)).getD false) = true from hcb), if_pos hcb]
          simp
          omega
         ·rw [if_neg (show ¬((Option.map sp (some c)).getD false) = true from hcb), if_neg hcb]
          rfl)
        have hidx := idx_run s (k + 2 + m) c (by rw [HD.out]; exact hc)
        rw [show ((k + 2 + m : Nat) : Int) = (k : Int) + 2 + (m : Int) by omega] at hidx
        have HSpc := hide (space_any c)
        obtain ⟨cb, hcb⟩ : ∃ b, sp c = b := ⟨_, rfl⟩
        rw [hcb] at HSpc HRr
        clear hcb
        have hw2 : IntKind.i64.wrap ((k : Int) + 2) = (k : Int) + 2 := IntWalk.i64_in _ (by omega)
        have hw3 : IntKind.i64.wrap ((k : Int) + 2 + (m : Int)) = (k : Int) + 2 + (m : Int) := IntWalk.i64_in _ (by omega)
        clear HR4 hhd hc hnn
        go_wp2_with fail
        refine (Q7.out.till_yes hne HG.out hX6 hT6 hs [63, 62] (by decide) hml (by rw [HD.out]; exact htl)).mono ?_
        rintro e wQ8 ⟨rfl, hQ8, lQ8⟩
        have Q8 := hide hQ8
        have LQ8 := hide lQ8
        clear hQ8 lQ8
        clear htl hpE hpD
        replace LQ8 := hide (show k + 2 + m + n + 2 ≤ s.size from LQ8.out)
        replace Q8 := hide (show Sk w wQ8 X T s k (k + 2 + m + n + 2) 4 [] from Q8.out)
        go_wp2
        refine wp_region_held_drew (S := fun W => Sk w W X T s k (k + 2 + m + n + 2) 4 []) (by kernel_rfl) ?_ (fun hHeld => ?_)
        ·(try dsimp only)
         first | exact Q8.out.drew | exact Q8.out | exact hHeld | exact hHeld.drew
        change wpAnyH _ _ _ _ _ 18 #[false, false, false, false, false, false, false, false, false, false, false, false, false, false, false, false, false, false] _ _
        refine held_take (i := 0) (d := 102) (v := ?_) rfl rfl (by kernel_rfl) (by kernel_rfl) (by kernel_rfl) (fun _ _ _ h => h) (by kernel_rfl) hHeld ?_ ?_
        rotate_left
        ·intro w hSw
         (try dsimp only at hSw)
         go_simp
         first | done | with_reducible rfl
        (try simp only [Act.put, List.setIfInBounds_toArray, List.set_cons_zero, List.set_cons_succ])
        refine held_take (i := 1) (d := 103) (v := ?_) rfl rfl (by kernel_rfl) (by kernel_rfl) (by kernel_rfl) (fun _ _ _ h => h) (by kernel_rfl) hHeld ?_ ?_
        rotate_left
        ·intro w hSw
         (try dsimp only at hSw)
         go_simp
         first | done | with_reducible rfl
        (try simp only [Act.put, List.setIfInBounds_toArray, List.set_cons_zero, List.set_cons_succ])
        refine held_take (i := 2) (d := 104) (v := ?_) rfl rfl (by kernel_rfl) (by kernel_rfl) (by kernel_rfl) (fun _ _ _ h => h) (by kernel_rfl) hHeld ?_ ?_
        rotate_left
        ·intro w hSw
         (try dsimp only at hSw)
         go_simp
         first | done | with_reducible rfl
        (try simp only [Act.put, List.setIfInBounds_toArray, List.set_cons_zero, List.set_cons_succ])
        refine held_take (i := 3) (d := 105) (v := ?_) rfl rfl (by kernel_rfl) (by kernel_rfl) (by kernel_rfl) (fun _ _ _ h => h) (by kernel_rfl) hHeld ?_ ?_
        rotate_left
        ·intro w hSw
         (try dsimp only at hSw)
         go_simp
         first | done | with_reducible rfl
        (try simp only [Act.put, List.setIfInBounds_toArray, List.set_cons_zero, List.set_cons_succ])
        refine held_take (i := 4) (d := 106) (v := ?_) rfl rfl (by kernel_rfl) (by kernel_rfl) (by kernel_rfl) (fun _ _ _ h => h) (by kernel_rfl) hHeld ?_ ?_
        rotate_left
        ·intro w hSw
         (try dsimp only at hSw)
         go_simp
         first | done | with_reducible rfl
        (try simp only [Act.put, List.setIfInBounds_toArray, List.set_cons_zero, List.set_cons_succ])
        refine held_take (i := 5) (d := 107) (v := ?_) rfl rfl (by kernel_rfl) (by kernel_rfl) (by kernel_rfl) (fun _ _ _ h => h) (by kernel_rfl) hHeld ?_ ?_
        rotate_left
        ·intro w hSw
         (try dsimp only at hSw)
         have q0 := Sc.c0 hSw.sc
         have q5 := Tb.c5 hSw.tb
         go_simp
         first | done | with_reducible rfl
        (try simp only [Act.put, List.setIfInBounds_toArray, List.set_cons_zero, List.set_cons_succ])
        refine held_take (i := 6) (d := 108) (v := ?_) rfl rfl (by kernel_rfl) (by kernel_rfl) (by kernel_rfl) (fun _ _ _ h => h) (by kernel_rfl) hHeld ?_ ?_
        rotate_left
        ·intro w hSw
         (try dsimp only at hSw)
         go_simp
         first | done | with_reducible rfl
        (try simp only [Act.put, List.setIfInBounds_toArray, List.set_cons_zero, List.set_cons_succ])
        refine held_take (i := 7) (d := 109) (v := ?_) rfl rfl (by kernel_rfl) (by kernel_rfl) (by kernel_rfl) (fun _ _ _ h => h) (by kernel_rfl) hHeld ?_ ?_
        rotate_left
        ·intro w hSw
         (try dsimp only at hSw)
         go_simp
         first | done | with_reducible rfl
        (try simp only [Act.put, List.setIfInBounds_toArray, List.set_cons_zero, List.set_cons_succ])
        refine held_take (i := 8) (d := 110) (v := ?_) rfl rfl (by kernel_rfl) (by kernel_rfl) (by kernel_rfl) (fun _ _ _ h => h) (by kernel_rfl) hHeld ?_ ?_
        rotate_left
        ·intro w hSw
         (try dsimp only at hSw)
         go_simp
         first | done | with_reducible rfl
        (try simp only [Act.put, List.setIfInBounds_toArray, List.set_cons_zero, List.set_cons_succ])
        refine held_take (i := 9) (d := 111) (v := ?_) rfl rfl (by kernel_rfl) (by kernel_rfl) (by kernel_rfl) (fun _ _ _ h => h) (by kernel_rfl) hHeld ?_ ?_
        rotate_left
        ·intro w hSw
         (try dsimp only at hSw)
         have q0 := Sc.c0 hSw.sc
         have q5 := Tb.c5 hSw.tb
         go_simp
         first | done | with_reducible rfl
        (try simp only [Act.put, List.setIfInBounds_toArray, List.set_cons_zero, List.set_cons_succ])
        refine held_take (i := 10) (d := 112) (v := ?_) rfl rfl (by kernel_rfl) (by kernel_rfl) (by kernel_rfl) (fun _ _ _ h => h) (by kernel_rfl) hHeld ?_ ?_
        rotate_left
        ·intro w hSw
         (try dsimp only at hSw)
         go_simp
         first | done | with_reducible rfl
        (try simp only [Act.put, List.setIfInBounds_toArray, List.set_cons_zero, List.set_cons_succ])
        refine held_take (i := 11) (d := 113) (v := ?_) rfl rfl (by kernel_rfl) (by kernel_rfl) (by kernel_rfl) (fun _ _ _ h => h) (by kernel_rfl) hHeld ?_ ?_
        rotate_left
        ·intro w hSw
         (try dsimp only at hSw)
         go_simp
         first | done | with_reducible rfl
        (try simp only [Act.put, List.setIfInBounds_toArray, List.set_cons_zero, List.set_cons_succ])
        refine held_take (i := 12) (d := 114) (v := ?_) rfl rfl (by kernel_rfl) (by kernel_rfl) (by kernel_rfl) (fun _ _ _ h => h) (by kernel_rfl) hHeld ?_ ?_
        rotate_left
        ·intro w hSw
         (try dsimp only at hSw)
         go_simp
         first | done | with_reducible rfl
        (try simp only [Act.put, List.setIfInBounds_toArray, List.set_cons_zero, List.set_cons_succ])
        refine held_take (i := 13) (d := 115) (v := ?_) rfl rfl (by kernel_rfl) (by kernel_rfl) (by kernel_rfl) (fun _ _ _ h => h) (by kernel_rfl) hHeld ?_ ?_
        rotate_left
        ·intro w hSw
         (try dsimp only at hSw)
         go_simp
         first | done | with_reducible rfl
        (try simp only [Act.put, List.setIfInBounds_toArray, List.set_cons_zero, List.set_cons_succ])
        refine held_take (i := 14) (d := 116) (v := ?_) rfl rfl (by kernel_rfl) (by kernel_rfl) (by kernel_rfl) (fun _ _ _ h => h) (by kernel_rfl) hHeld ?_ ?_
        rotate_left
        ·intro w hSw
         (try dsimp only at hSw)
         go_simp
         first | done | with_reducible rfl
        (try simp only [Act.put, List.setIfInBounds_toArray, List.set_cons_zero, List.set_cons_succ])
        refine held_call (i := 15) rfl (by kernel_rfl) (by kernel_rfl) (fun K hK => ?_)
        go_simp
        go_at_call 107
        refine (HSpc.out _).mono ?_
        rintro e w' ⟨rfl, rfl⟩
        (try dsimp only)
        refine hK.out _ _ ?_ (fun hHeld' => ?_)
        ·(try dsimp only)
         first | exact Q8.out.drew | exact Q8.out | exact hHeld | exact hHeld.drew
        clear hK K hHeld
        have hHeld := hHeld'
        clear hHeld'
        (try simp only [Act.put, List.setIfInBounds_toArray, List.set_cons_zero, List.set_cons_succ])
        refine held_take (i := 16) (d := 118) (v := ?_) rfl rfl (by kernel_rfl) (by kernel_rfl) (by kernel_rfl) (fun _ _ _ h => h) (by kernel_rfl) hHeld ?_ ?_
        rotate_left
        ·intro w hSw
         (try dsimp only at hSw)
         go_simp
         first | done | with_reducible rfl
        (try simp only [Act.put, List.setIfInBounds_toArray, List.set_cons_zero, List.set_cons_succ])
        refine held_take (i := 17) (d := 4) (v := ?_) rfl rfl (by kernel_rfl) (by kernel_rfl) (by kernel_rfl) (fun _ _ _ h => h) (by kernel_rfl) hHeld ?_ ?_
        rotate_left
        ·intro w hSw
         (try dsimp only at hSw)
         go_simp
         first | done | with_reducible rfl
        (try simp only [Act.put, List.setIfInBounds_toArray, List.set_cons_zero, List.set_cons_succ])
        refine wpAnyH_done (by kernel_rfl) ?_ _
        go_wp2
        go_ret
        cases cb with
        | true => exact hHeld.yes HRr.out rfl LQ8.out (by omega)
        | false => exact hHeld.no HRr.out rfl LQ8.out
end Go.Proofs.YtbbpkcddifmieaaGreatDoor
