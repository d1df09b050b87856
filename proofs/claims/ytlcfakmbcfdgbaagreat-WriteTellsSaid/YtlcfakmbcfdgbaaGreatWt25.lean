/- Texts: the document's Line, Block, IsLine, IsBlock (ref22). · Stamps: the document's digits (ref19.put). · Stamps: the document's Text. (Printed by genTdK.py.) · write.entries: the iterator over a feed's entries; the law of a range over a function whose element lies in a block of the round's own. -/
import Derived.Test.YtlcfakmbcfdgbaaGreatWt04
import Derived.Test.YtlcfakmbcfdgbaaGreatWt13
import Derived.Test.YtlcfakmbcfdgbaaGreatWt14
import Derived.Test.YtlcfakmbcfdgbaaGreatWt18
import Derived.Test.YtlcfakmbcfdgbaaGreatWt22
import Derived.Test.YtlcfakmbcfdgbaaGreatWt23
import Derived.Test.YtlcfakmbcfdgbaaGreatWt24
set_option linter.unusedSimpArgs false
set_option linter.unusedVariables false
namespace Go.Proofs.YtlcfakmbcfdgbaaGreat
open Go.RowKit Go.WideShapes

set_option maxHeartbeats 4000000 in
theorem refLine_any (l : List UInt8) (w : World) (hs : l.length ≤ 200000) :
    Calls Tryz.prog 42 #[.string (bstr l)] w fun e w' => e = .returned (.string (bstr (Tx.line l))) ∧ Below w.heap.size w w' := by
  have H1 := hide (refOne22_any (bstr l) w (by rw [bstr_size]; omega))
  rw [bstr_list] at H1
  have hol := Tx.one_len l
  have H2 := hide (fun W => refNfc_any (bstr (Tx.one l)) W (by rw [bstr_size]; omega))
  rw [bstr_list] at H2
  clear hol
  go_enter Tryz.func42, Tryz.ntmps42
  go_wp2_with fail
  refine H1.out.mono ?_
  rintro e w1 ⟨rfl, hb⟩
  have HB := hide hb
  clear hb
  dsimp only
  go_wp2_with fail
  refine (H2.out w1).mono ?_
  rintro e w2 ⟨rfl, hb⟩
  have HB2 := hide (HB.out.trans (hb.mono HB.out.size))
  clear hb
  dsimp only
  go_wp2
  go_ret
  exact ⟨rfl, HB2.out⟩
set_option maxHeartbeats 4000000 in
theorem refBlock_any (l : List UInt8) (w : World) (hs : l.length ≤ 200000) :
    Calls Tryz.prog 43 #[.string (bstr l)] w fun e w' => e = .returned (.string (bstr (Tx.block l))) ∧ Below w.heap.size w w' := by
  have H1 := hide (refTrim22_any (bstr l) w (by rw [bstr_size]; omega))
  rw [bstr_list] at H1
  have hol := Tx.trim_len l
  have H2 := hide (fun W => refNfc_any (bstr (Tx.trim l)) W (by rw [bstr_size]; omega))
  rw [bstr_list] at H2
  clear hol
  go_enter Tryz.func43, Tryz.ntmps43
  go_wp2_with fail
  refine cq (H1.out) ?_
  dsimp only
  go_wp2_with fail
  refine (H2.out w).mono ?_
  rintro e w2 ⟨rfl, hb⟩
  have HB2 := hide hb
  clear hb
  dsimp only
  go_wp2
  go_ret
  exact ⟨rfl, HB2.out⟩
set_option maxHeartbeats 4000000 in
theorem refChars_any (l : List UInt8) (w : World) (hs : l.length ≤ 200000) :
    Calls Tryz.prog 41 #[.string (bstr l)] w fun e w' => e = .returned (.bool (Tx.right l)) ∧ Below w.heap.size w w' := by
  have H1 := hide (refValid_any (bstr l) w (by rw [bstr_size]; omega))
  have H2 := hide (fun W => refBad_any (bstr l) W (by rw [bstr_size]; omega))
  rw [bstr_list] at H1 H2
  unfold Tx.right
  cases hv : Utf.valid l with
  | false =>
    rw [hv] at H1
    clear hv
    go_enter Tryz.func41, Tryz.ntmps41
    go_wp2_with fail
    refine H1.out.mono ?_
    rintro e w1 ⟨rfl, hb⟩
    have HB := hide hb
    clear hb
    dsimp only
    go_wp2
    go_ret
    exact ⟨rfl, HB.out⟩
  | true =>
    rw [hv] at H1
    clear hv
    obtain ⟨q, hq⟩ : ∃ q, Tk.bad l = q := ⟨_, rfl⟩
    rw [hq] at H2 ⊢
    clear hq
    go_enter Tryz.func41, Tryz.ntmps41
    go_wp2_with fail
    refine H1.out.mono ?_
    rintro e w1 ⟨rfl, hb⟩
    have HB := hide hb
    clear hb
    dsimp only
    go_wp2_with fail
    refine (H2.out w1).mono ?_
    rintro e w2 ⟨rfl, hw2⟩
    subst hw2
    have HB2 := HB
    dsimp only
    go_wp2
    go_ret
    exact ⟨by rw [Bool.true_and]; rfl, HB2.out⟩
set_option maxHeartbeats 4000000 in
theorem refIsLine_any (l : List UInt8) (w : World) (hs : l.length ≤ 200000) :
    Calls Tryz.prog 27 #[.string (bstr l)] w fun e w' => e = .returned (.bool (Tx.isLine l)) ∧ Below w.heap.size w w' := by
  have H1 := hide (refChars_any l w hs)
  have H2 := hide (fun W => refLine_any l W hs)
  unfold Tx.isLine
  cases hv : Tx.right l with
  | false =>
    rw [hv] at H1
    clear hv
    go_enter Tryz.func27, Tryz.ntmps27
    go_wp2_with fail
    refine H1.out.mono ?_
    rintro e w1 ⟨rfl, hb⟩
    have HB := hide hb
    clear hb
    dsimp only
    go_wp2
    go_ret
    exact ⟨rfl, HB.out⟩
  | true =>
    rw [hv] at H1
    clear hv
    by_cases he : Tx.line l = l
    · rw [decide_eq_true he]
      rw [he] at H2
      clear he
      go_enter Tryz.func27, Tryz.ntmps27
      go_wp2_with fail
      refine H1.out.mono ?_
      rintro e w1 ⟨rfl, hb⟩
      have HB := hide hb
      clear hb
      dsimp only
      go_wp2_with fail
      refine (H2.out w1).mono ?_
      rintro e w2 ⟨rfl, hb⟩
      have HB2 := hide (HB.out.trans (hb.mono HB.out.size))
      clear hb
      dsimp only
      go_wp2
      go_ret
      exact ⟨rfl, HB2.out⟩
    · rw [decide_eq_false he]
      have hne := bstr_ne he
      have hbq := bstr_beq he
      clear he
      generalize Tx.line l = m at *
      go_enter Tryz.func27, Tryz.ntmps27
      go_wp2_with fail
      refine H1.out.mono ?_
      rintro e w1 ⟨rfl, hb⟩
      have HB := hide hb
      clear hb
      dsimp only
      go_wp2_with fail
      refine (H2.out w1).mono ?_
      rintro e w2 ⟨rfl, hb⟩
      have HB2 := hide (HB.out.trans (hb.mono HB.out.size))
      clear hb
      dsimp only
      go_wp2
      go_ret
      exact ⟨rfl, HB2.out⟩
set_option maxHeartbeats 4000000 in
theorem refIsBlock_any (l : List UInt8) (w : World) (hs : l.length ≤ 200000) :
    Calls Tryz.prog 29 #[.string (bstr l)] w fun e w' => e = .returned (.bool (Tx.isBlock l)) ∧ Below w.heap.size w w' := by
  have H1 := hide (refChars_any l w hs)
  have H2 := hide (fun W => refBlock_any l W hs)
  unfold Tx.isBlock
  cases hv : Tx.right l with
  | false =>
    rw [hv] at H1
    clear hv
    go_enter Tryz.func29, Tryz.ntmps29
    go_wp2_with fail
    refine H1.out.mono ?_
    rintro e w1 ⟨rfl, hb⟩
    have HB := hide hb
    clear hb
    dsimp only
    go_wp2
    go_ret
    exact ⟨rfl, HB.out⟩
  | true =>
    rw [hv] at H1
    clear hv
    by_cases he : Tx.block l = l
    · rw [decide_eq_true he]
      rw [he] at H2
      clear he
      go_enter Tryz.func29, Tryz.ntmps29
      go_wp2_with fail
      refine H1.out.mono ?_
      rintro e w1 ⟨rfl, hb⟩
      have HB := hide hb
      clear hb
      dsimp only
      go_wp2_with fail
      refine (H2.out w1).mono ?_
      rintro e w2 ⟨rfl, hb⟩
      have HB2 := hide (HB.out.trans (hb.mono HB.out.size))
      clear hb
      dsimp only
      go_wp2
      go_ret
      exact ⟨rfl, HB2.out⟩
    · rw [decide_eq_false he]
      have hne := bstr_ne he
      have hbq := bstr_beq he
      clear he
      generalize Tx.block l = m at *
      go_enter Tryz.func29, Tryz.ntmps29
      go_wp2_with fail
      refine H1.out.mono ?_
      rintro e w1 ⟨rfl, hb⟩
      have HB := hide hb
      clear hb
      dsimp only
      go_wp2_with fail
      refine (H2.out w1).mono ?_
      rintro e w2 ⟨rfl, hb⟩
      have HB2 := hide (HB.out.trans (hb.mono HB.out.size))
      clear hb
      dsimp only
      go_wp2
      go_ret
      exact ⟨rfl, HB2.out⟩
end Go.Proofs.YtlcfakmbcfdgbaaGreat
namespace Go.Proofs.YtlcfakmbcfdgbaaGreat
open Go.RowKit Go.WideShapes

set_option maxHeartbeats 8000000 in
set_option maxRecDepth 100000 in
theorem refPut19_any (n : Int) (k : Nat) (w : World) (hn : 0 ≤ n ∧ n ≤ 1000000) (hk : 1 ≤ k ∧ k ≤ 10) :
    Calls Tryz.prog 48 #[.int .i64 n, .int .i64 (k : Int)] w fun e w' => e = .returned (.string (bstr (Cv.dig k n))) ∧ Below w.heap.size w w' := by
  obtain ⟨F, hF⟩ : ∃ F, Cv.dig k n = F := ⟨_, rfl⟩
  have HF := hide (show Cv.digL 0 k n (List.replicate k 48) = F from hF)
  rw [hF]
  clear hF
  go_enter Tryz.func48, Tryz.ntmps48
  go_wp2
  go_loopg [5, 6] k (fun gk v5 v6 wr => ∃ (i : Nat) (A : Option Addr) (c : Nat), gk = k - i ∧ i ≤ k ∧ v6 = .int .i64 (i : Int) ∧ v5 = .slice A i c ∧ wr.ownsRow w.heap.size 5 1 (.slice A i c) i (byteVs (List.replicate i 48)) ∧ Below w.heap.size w wr)
  case atStart => exact ⟨0, none, 0, rfl, by omega, rfl, rfl, World.ownsRow_nil _ _ _ _, Below.refl _ _⟩
  case round =>
    obtain ⟨i, A, c, hgk, hi, rfl, rfl, ho, hb⟩ := hrel
    have Hg := hide hgk
    have HO := hide ho
    have HB := hide hb
    have hbs := hb.size
    clear hgk ho hb
    by_cases hlt : i < k
    · go_wp2_with (at_builtin; go_loud (refine wpList_append_elem wr rfl (.tmp 13) (.tmp 14) 40 rfl w.heap.size (.int .u8 0) 1 1 Tryz.underlying40 info_u8 rfl (by omega) (.slice A i c) i (byteVs (List.replicate i 48)) rfl HO.out (cs := [.int .u8 48]) rfl (by simp [Value.oneCell']) rfl (by unfold maxLen; omega) (by omega) hbs ?_); intro g' cap' w1 hown1 hgrow1 hat1 hlt1 hb1; have HO1 := hide hown1; have HB1 := hide (HB.out.grown hgrow1 hbs (fun k e => (own_isT HO.out k e).1)); clear hown1 hgrow1 hat1 hlt1 hb1)
      go_roundg (k - (i + 1))
      case measure => have := Hg.out; omega
      case rel =>
        refine ⟨i + 1, some ⟨g', 0, none⟩, cap', rfl, by omega, by first | rfl | go_num, rfl, ?_, HB1.out⟩
        rw [List.replicate_succ', byteVs_append]
        exact HO1.out
    · have hik : i = k := by omega
      subst hik
      obtain ⟨g, rfl⟩ : ∃ g, A = some ⟨g, 0, none⟩ := by
        rcases HO.out.2 with ⟨_, h0⟩ | ⟨g, cap, cur, e, _⟩
        · omega
        · cases e; exact ⟨g, rfl⟩
      have hcap : i ≤ c := own_len HO.out
      have hbg : w.heap.size ≤ g := by
        rcases HO.out.2 with ⟨h0, _⟩ | ⟨g', cap, cur, e, hb, _⟩
        · cases h0
        · cases e; exact hb
      have z0 : IntKind.i64.wrap ((i : Int) - 1) = (i : Int) - 1 := IntWalk.i64_in _ (by omega)
      go_wp2
      go_loopg [0, 7] i (fun gk v0 v7 wj => ∃ (j : Nat) (m : Int) (l : List UInt8), gk = j ∧ j ≤ i ∧ v0 = .int .i64 m ∧ 0 ≤ m ∧ m ≤ 1000000 ∧ v7 = .int .i64 ((j : Int) - 1) ∧ Cv.digL 0 j m l = F ∧ l.length = i ∧ wj.ownsRow w.heap.size 5 1 (.slice (some ⟨g, 0, none⟩) i c) i (byteVs l) ∧ Below w.heap.size w wj)
      case atStart => exact ⟨i, n, _, rfl, Nat.le_refl _, rfl, hn.1, hn.2, rfl, HF.out, List.length_replicate, HO.out, HB.out⟩
      case round =>
        obtain ⟨j, m, l, hgj, hji, rfl, hm0, hm1, rfl, hdl, hll, hol, hbl⟩ := hrel
        have Hgj := hide hgj
        have HDl := hide hdl
        have HLl := hide hll
        have HOl := hide hol
        have HBl := hide hbl
        clear hgj hdl hll hol hbl
        cases j with
        | zero =>
          have HE := hide (show l = F from HDl.out)
          have hneg : ¬ (0 : Int) ≤ -1 := by omega
          go_wp2_with (refine wpList_to_string rfl 40 9 5 _ rfl Tryz.underlying40 Tryz.underlying5 Tryz.underlying9 w.heap.size _ i (by rfl) l HOl.out ?_; intro t ht; have Ht := hide (str_is ht); clear ht)
          go_ret
          exact ⟨by rw [← HE.out, ← Ht.out]; rfl, HBl.out⟩
        | succ j =>
          obtain ⟨y, hy⟩ : ∃ y, (byteVs l)[j]? = some y := ⟨_, List.getElem?_eq_getElem (by rw [byteVs_length, HLl.out]; omega)⟩
          obtain ⟨hc1, hf1⟩ := own_at HOl.out hy
          have hst := own_store HOl.out (i := j) (.int .u8 (48 + m % 10))
          have hd1 := HDl.out
          rw [show Cv.digL 0 (j + 1) m l = Cv.digL 0 j (m / 10) (l.set j (bv (48 + m % 10))) by rw [Cv.digL, Nat.zero_add]] at hd1
          have t1 : Int.tmod m 10 = m % 10 := Int.tmod_eq_emod_of_nonneg hm0
          have t2 : Int.tdiv m 10 = m / 10 := Int.tdiv_eq_ediv_of_nonneg hm0
          have hbv : byteVs (l.set j (bv (48 + m % 10))) = (byteVs l).set j (.int .u8 (48 + m % 10)) := by rw [byteVs_set, bv_toNat _ (by omega) (by omega)]
          rw [← hbv] at hst
          obtain ⟨r, hr⟩ : ∃ r, m % 10 = r := ⟨_, rfl⟩
          obtain ⟨p, hp⟩ : ∃ p, m / 10 = p := ⟨_, rfl⟩
          have r0 : 0 ≤ r ∧ r < 10 := by omega
          have p0 : 0 ≤ p ∧ p ≤ 1000000 := by omega
          rw [hr] at t1 hst hd1
          rw [hp] at t2 hd1
          have z1 : IntKind.i64.wrap (48 + r) = 48 + r := IntWalk.i64_in _ (by omega)
          have z2 : IntKind.u8.wrap (48 + r) = 48 + r := by unfold IntKind.wrap; simp [IntKind.signed, IntKind.bits]; omega
          have z3 : IntKind.i64.wrap p = p := IntWalk.i64_in _ (by omega)
          have HD1 := hide hd1
          have HSt := hide hst
          have HP0 := hide p0
          have ej : ((j + 1 : Nat) : Int) - 1 = (j : Int) := by omega
          have hjp : (0 : Int) ≤ (j : Int) ∧ (j : Int) < (i : Int) := by omega
          have z4 : IntKind.i64.wrap ((j : Int) - 1) = (j : Int) - 1 := IntWalk.i64_in _ (by omega)
          rw [ej]
          clear hr hp r0 p0 hd1 hst hbv hy ej
          go_wp2
          go_roundg j
          case measure => have := Hgj.out; omega
          case rel => exact ⟨j, p, _, rfl, by omega, rfl, HP0.out.1, HP0.out.2, rfl, HD1.out, by rw [List.length_set]; exact HLl.out, HSt.out, HBl.out.setCell hbg _⟩
end Go.Proofs.YtlcfakmbcfdgbaaGreat
namespace Go.Proofs.YtlcfakmbcfdgbaaGreat
open Go.RowKit Go.WideShapes

theorem bstr_app (a b : List UInt8) : bstr (a ++ b) = bstr a ++ bstr b := by
  apply ByteArray.ext
  apply Array.ext'
  rw [bstr_list, app_list, bstr_list, bstr_list]
theorem dig_len (k : Nat) (n : Int) : (Cv.dig k n).length = k := by unfold Cv.dig; rw [Cv.digL_len, List.length_replicate]
theorem rest_ok (s : Int) : 0 ≤ Cv.rest s ∧ Cv.rest s < 86400 := by unfold Cv.rest; omega
set_option maxHeartbeats 16000000 in
set_option maxRecDepth 100000 in
theorem refText19_any (s : Int) (w : World) (hs : (Lit.int .i64 s).wf = true) : Calls Tryz.prog 37 #[.int .i64 s] w fun e w' => e = .returned (stampV (Cv.stamp s)) ∧ Below w.heap.size w w' := by
  have HC := hide (refCivil18_any s w hs)
  cases hc : Cv.civil s with
  | none =>
    have HV := hide (show stampV (Cv.stamp s) = .tuple #[.string ⟨#[]⟩, .bool false] by unfold Cv.stamp; rw [hc]; rfl)
    unfold CivilR at HC
    rw [hc] at HC
    clear hc
    dsimp only at HC
    go_enter Tryz.func37, Tryz.ntmps37
    go_wp2_with fail
    refine HC.out.mono ?_
    rintro e w1 ⟨hb1, v1, v2, v3, v4, v5, v6, rfl⟩
    have HB1 := hide (hb1.alloc hb1.size (.cells #[.int .i64 v1, .int .i64 v2, .int .i64 v3, .int .i64 v4, .int .i64 v5, .int .i64 v6] 74))
    clear hb1
    dsimp only
    go_wp2
    go_ret2
    exact ⟨by rw [HV.out]; rfl, HB1.out⟩
  | some x =>
  obtain ⟨y, m, d⟩ := x
  have hst := Cv.stamp_dig s y m d hc
  have hok : (1 ≤ y ∧ y ≤ 9999) ∧ (1 ≤ m ∧ m ≤ 12) ∧ 1 ≤ d ∧ d ≤ 31 := by
    unfold Cv.civil at hc
    split at hc
    · cases hc
    · exact Cv.date_ok hc
  have hr := rest_ok s
  obtain ⟨rs, hrs⟩ : ∃ r, Cv.rest s = r := ⟨_, rfl⟩
  unfold CivilR at HC
  rw [hc] at HC
  dsimp only at HC
  rw [hrs] at HC hst hr
  obtain ⟨hh, e1⟩ : ∃ r, rs / 3600 = r := ⟨_, rfl⟩
  obtain ⟨mi, e2⟩ : ∃ r, rs / 60 % 60 = r := ⟨_, rfl⟩
  obtain ⟨se, e3⟩ : ∃ r, rs % 60 = r := ⟨_, rfl⟩
  have P1 := hide (fun W => refPut19_any y 4 W (by omega) (by decide))
  have P2 := hide (fun W => refPut19_any m 2 W (by omega) (by decide))
  have P3 := hide (fun W => refPut19_any d 2 W (by omega) (by decide))
  have P4 := hide (fun W => refPut19_any hh 2 W (by omega) (by decide))
  have P5 := hide (fun W => refPut19_any mi 2 W (by omega) (by decide))
  have P6 := hide (fun W => refPut19_any se 2 W (by omega) (by decide))
  rw [e1, e2, e3] at HC hst
  rw [show ((4 : Nat) : Int) = 4 from rfl] at P1
  rw [show ((2 : Nat) : Int) = 2 from rfl] at P2 P3 P4 P5 P6
  have s1 : (bstr (Cv.dig 4 y)).size = 4 := by rw [bstr_size, dig_len]
  obtain ⟨D1, hD1⟩ : ∃ D, bstr (Cv.dig 4 y) = D := ⟨_, rfl⟩
  have s2 : (bstr (Cv.dig 2 m)).size = 2 := by rw [bstr_size, dig_len]
  obtain ⟨D2, hD2⟩ : ∃ D, bstr (Cv.dig 2 m) = D := ⟨_, rfl⟩
  have s3 : (bstr (Cv.dig 2 d)).size = 2 := by rw [bstr_size, dig_len]
  obtain ⟨D3, hD3⟩ : ∃ D, bstr (Cv.dig 2 d) = D := ⟨_, rfl⟩
  have s4 : (bstr (Cv.dig 2 hh)).size = 2 := by rw [bstr_size, dig_len]
  obtain ⟨D4, hD4⟩ : ∃ D, bstr (Cv.dig 2 hh) = D := ⟨_, rfl⟩
  have s5 : (bstr (Cv.dig 2 mi)).size = 2 := by rw [bstr_size, dig_len]
  obtain ⟨D5, hD5⟩ : ∃ D, bstr (Cv.dig 2 mi) = D := ⟨_, rfl⟩
  have s6 : (bstr (Cv.dig 2 se)).size = 2 := by rw [bstr_size, dig_len]
  obtain ⟨D6, hD6⟩ : ∃ D, bstr (Cv.dig 2 se) = D := ⟨_, rfl⟩
  have hvs : stampV (Cv.stamp s) = .tuple #[.string (D1 ++ (bstr [45] ++ (D2 ++ (bstr [45] ++ (D3 ++ (bstr [84] ++ (D4 ++ (bstr [58] ++ (D5 ++ (bstr [58] ++ (D6 ++ bstr [90]))))))))))), .bool true] := by
    rw [hst]
    unfold stampV
    dsimp only
    simp only [bstr_app, hD1, hD2, hD3, hD4, hD5, hD6]
  have HVs := hide hvs
  rw [hD1] at P1 s1
  rw [hD2] at P2 s2
  rw [hD3] at P3 s3
  rw [hD4] at P4 s4
  rw [hD5] at P5 s5
  rw [hD6] at P6 s6
  clear hvs hst hok hr hrs e1 e2 e3 hc hD1 hD2 hD3 hD4 hD5 hD6
  go_enter Tryz.func37, Tryz.ntmps37
  go_wp2_with fail
  refine HC.out.mono ?_
  rintro e w1 ⟨hb1, rfl⟩
  dsimp only
  have hk1 := Blk.new w1 74 #[.int .i64 y, .int .i64 m, .int .i64 d, .int .i64 hh, .int .i64 mi, .int .i64 se]
  have hb2 := hb1.alloc hb1.size (.cells #[.int .i64 y, .int .i64 m, .int .i64 d, .int .i64 hh, .int .i64 mi, .int .i64 se] 74)
  have HK1 := hide hk1
  have HB1 := hide hb2
  clear hk1 hb1 hb2
  go_wp2_with fail
  have HK2 := HK1
  have HB2 := HB1
  obtain ⟨w2, hw2⟩ : ∃ w2, w1.alloc (.cells #[.int .i64 y, .int .i64 m, .int .i64 d, .int .i64 hh, .int .i64 mi, .int .i64 se] 74) = w2 := ⟨_, rfl⟩
  rw [hw2] at HK2 HB2 ⊢
  clear hw2 HK1 HB1
  refine wp_region_held_drew (S := fun W => Below w2.heap.size w2 W) (by kernel_rfl) ?_ (fun hHeld => ?_)
  · (try dsimp only)
    first | done | exact (Below.refl _ _).drew | exact hHeld | exact hHeld.drew
  change wpAnyH _ _ _ _ _ 31 #[false, false, false, false, false, false, false, false, false, false, false, false, false, false, false, false, false, false, false, false, false, false, false, false, false, false, false, false, false, false, false] _ _
  refine held_take (i := 0) (d := 13) (v := ?_) rfl rfl (by kernel_rfl) (by kernel_rfl) (by kernel_rfl) (fun _ _ _ h => h) (by kernel_rfl) hHeld ?_ ?_
  rotate_left
  · intro w hSw
    (try dsimp only at hSw)
    go_simp
    first | done | with_reducible rfl
  (try simp only [Act.put, List.setIfInBounds_toArray, List.set_cons_zero, List.set_cons_succ])
  refine held_take (i := 1) (d := 14) (v := ?_) rfl rfl (by kernel_rfl) (by kernel_rfl) (by kernel_rfl) (fun _ _ _ h => h) (by kernel_rfl) hHeld ?_ ?_
  rotate_left
  · intro w hSw
    (try dsimp only at hSw)
    have hbk := HK2.out.go hSw
    have b0 := hbk.cell 0
    have b1 := hbk.cell 1
    have b2 := hbk.cell 2
    have b3 := hbk.cell 3
    have b4 := hbk.cell 4
    have b5 := hbk.cell 5
    clear hbk
    go_simp
    first | done | with_reducible rfl
  (try simp only [Act.put, List.setIfInBounds_toArray, List.set_cons_zero, List.set_cons_succ])
  refine held_take (i := 4) (d := 17) (v := ?_) rfl rfl (by kernel_rfl) (by kernel_rfl) (by kernel_rfl) (fun _ _ _ h => h) (by kernel_rfl) hHeld ?_ ?_
  rotate_left
  · intro w hSw
    (try dsimp only at hSw)
    go_simp
    first | done | with_reducible rfl
  (try simp only [Act.put, List.setIfInBounds_toArray, List.set_cons_zero, List.set_cons_succ])
  refine held_take (i := 5) (d := 18) (v := ?_) rfl rfl (by kernel_rfl) (by kernel_rfl) (by kernel_rfl) (fun _ _ _ h => h) (by kernel_rfl) hHeld ?_ ?_
  rotate_left
  · intro w hSw
    (try dsimp only at hSw)
    have hbk := HK2.out.go hSw
    have b0 := hbk.cell 0
    have b1 := hbk.cell 1
    have b2 := hbk.cell 2
    have b3 := hbk.cell 3
    have b4 := hbk.cell 4
    have b5 := hbk.cell 5
    clear hbk
    go_simp
    first | done | with_reducible rfl
  (try simp only [Act.put, List.setIfInBounds_toArray, List.set_cons_zero, List.set_cons_succ])
  refine held_take (i := 9) (d := 22) (v := ?_) rfl rfl (by kernel_rfl) (by kernel_rfl) (by kernel_rfl) (fun _ _ _ h => h) (by kernel_rfl) hHeld ?_ ?_
  rotate_left
  · intro w hSw
    (try dsimp only at hSw)
    go_simp
    first | done | with_reducible rfl
  (try simp only [Act.put, List.setIfInBounds_toArray, List.set_cons_zero, List.set_cons_succ])
  refine held_take (i := 10) (d := 23) (v := ?_) rfl rfl (by kernel_rfl) (by kernel_rfl) (by kernel_rfl) (fun _ _ _ h => h) (by kernel_rfl) hHeld ?_ ?_
  rotate_left
  · intro w hSw
    (try dsimp only at hSw)
    have hbk := HK2.out.go hSw
    have b0 := hbk.cell 0
    have b1 := hbk.cell 1
    have b2 := hbk.cell 2
    have b3 := hbk.cell 3
    have b4 := hbk.cell 4
    have b5 := hbk.cell 5
    clear hbk
    go_simp
    first | done | with_reducible rfl
  (try simp only [Act.put, List.setIfInBounds_toArray, List.set_cons_zero, List.set_cons_succ])
  refine held_take (i := 14) (d := 27) (v := ?_) rfl rfl (by kernel_rfl) (by kernel_rfl) (by kernel_rfl) (fun _ _ _ h => h) (by kernel_rfl) hHeld ?_ ?_
  rotate_left
  · intro w hSw
    (try dsimp only at hSw)
    go_simp
    first | done | with_reducible rfl
  (try simp only [Act.put, List.setIfInBounds_toArray, List.set_cons_zero, List.set_cons_succ])
  refine held_take (i := 15) (d := 28) (v := ?_) rfl rfl (by kernel_rfl) (by kernel_rfl) (by kernel_rfl) (fun _ _ _ h => h) (by kernel_rfl) hHeld ?_ ?_
  rotate_left
  · intro w hSw
    (try dsimp only at hSw)
    have hbk := HK2.out.go hSw
    have b0 := hbk.cell 0
    have b1 := hbk.cell 1
    have b2 := hbk.cell 2
    have b3 := hbk.cell 3
    have b4 := hbk.cell 4
    have b5 := hbk.cell 5
    clear hbk
    go_simp
    first | done | with_reducible rfl
  (try simp only [Act.put, List.setIfInBounds_toArray, List.set_cons_zero, List.set_cons_succ])
  refine held_take (i := 19) (d := 32) (v := ?_) rfl rfl (by kernel_rfl) (by kernel_rfl) (by kernel_rfl) (fun _ _ _ h => h) (by kernel_rfl) hHeld ?_ ?_
  rotate_left
  · intro w hSw
    (try dsimp only at hSw)
    go_simp
    first | done | with_reducible rfl
  (try simp only [Act.put, List.setIfInBounds_toArray, List.set_cons_zero, List.set_cons_succ])
  refine held_take (i := 20) (d := 33) (v := ?_) rfl rfl (by kernel_rfl) (by kernel_rfl) (by kernel_rfl) (fun _ _ _ h => h) (by kernel_rfl) hHeld ?_ ?_
  rotate_left
  · intro w hSw
    (try dsimp only at hSw)
    have hbk := HK2.out.go hSw
    have b0 := hbk.cell 0
    have b1 := hbk.cell 1
    have b2 := hbk.cell 2
    have b3 := hbk.cell 3
    have b4 := hbk.cell 4
    have b5 := hbk.cell 5
    clear hbk
    go_simp
    first | done | with_reducible rfl
  (try simp only [Act.put, List.setIfInBounds_toArray, List.set_cons_zero, List.set_cons_succ])
  refine held_take (i := 24) (d := 37) (v := ?_) rfl rfl (by kernel_rfl) (by kernel_rfl) (by kernel_rfl) (fun _ _ _ h => h) (by kernel_rfl) hHeld ?_ ?_
  rotate_left
  · intro w hSw
    (try dsimp only at hSw)
    go_simp
    first | done | with_reducible rfl
  (try simp only [Act.put, List.setIfInBounds_toArray, List.set_cons_zero, List.set_cons_succ])
  refine held_take (i := 25) (d := 38) (v := ?_) rfl rfl (by kernel_rfl) (by kernel_rfl) (by kernel_rfl) (fun _ _ _ h => h) (by kernel_rfl) hHeld ?_ ?_
  rotate_left
  · intro w hSw
    (try dsimp only at hSw)
    have hbk := HK2.out.go hSw
    have b0 := hbk.cell 0
    have b1 := hbk.cell 1
    have b2 := hbk.cell 2
    have b3 := hbk.cell 3
    have b4 := hbk.cell 4
    have b5 := hbk.cell 5
    clear hbk
    go_simp
    first | done | with_reducible rfl
  (try simp only [Act.put, List.setIfInBounds_toArray, List.set_cons_zero, List.set_cons_succ])
  refine held_call (i := 2) rfl (by kernel_rfl) (by kernel_rfl) (fun K hK => ?_)
  go_simp
  go_at_call 48
  refine (P1.out _).mono ?_
  rintro e w' ⟨rfl, hb⟩
  replace hHeld := hHeld.trans (hb.mono hHeld.size)
  (try dsimp only)
  refine hK.out _ _ ?_ (fun hHeld' => ?_)
  · (try dsimp only)
    first | done | exact (Below.refl _ _).drew | exact hHeld | exact hHeld.drew
  clear hK K hHeld
  have hHeld := hHeld'
  clear hHeld'
  (try simp only [Act.put, List.setIfInBounds_toArray, List.set_cons_zero, List.set_cons_succ])
  refine held_take (i := 3) (d := 16) (v := ?_) rfl rfl (by kernel_rfl) (by kernel_rfl) (by kernel_rfl) (fun _ _ _ h => h) (by kernel_rfl) hHeld ?_ ?_
  rotate_left
  · intro w hSw
    (try dsimp only at hSw)
    go_simp
    first | done | with_reducible rfl
  (try simp only [Act.put, List.setIfInBounds_toArray, List.set_cons_zero, List.set_cons_succ])
  refine held_call (i := 6) rfl (by kernel_rfl) (by kernel_rfl) (fun K hK => ?_)
  go_simp
  go_at_call 48
  refine (P2.out _).mono ?_
  rintro e w' ⟨rfl, hb⟩
  replace hHeld := hHeld.trans (hb.mono hHeld.size)
  (try dsimp only)
  refine hK.out _ _ ?_ (fun hHeld' => ?_)
  · (try dsimp only)
    first | done | exact (Below.refl _ _).drew | exact hHeld | exact hHeld.drew
  clear hK K hHeld
  have hHeld := hHeld'
  clear hHeld'
  (try simp only [Act.put, List.setIfInBounds_toArray, List.set_cons_zero, List.set_cons_succ])
  refine held_take (i := 7) (d := 20) (v := ?_) rfl rfl (by kernel_rfl) (by kernel_rfl) (by kernel_rfl) (fun _ _ _ h => h) (by kernel_rfl) hHeld ?_ ?_
  rotate_left
  · intro w hSw
    (try dsimp only at hSw)
    go_simp
    first | done | with_reducible rfl
  (try simp only [Act.put, List.setIfInBounds_toArray, List.set_cons_zero, List.set_cons_succ])
  refine held_take (i := 8) (d := 21) (v := ?_) rfl rfl (by kernel_rfl) (by kernel_rfl) (by kernel_rfl) (fun _ _ _ h => h) (by kernel_rfl) hHeld ?_ ?_
  rotate_left
  · intro w hSw
    (try dsimp only at hSw)
    go_simp
    first | done | with_reducible rfl
  (try simp only [Act.put, List.setIfInBounds_toArray, List.set_cons_zero, List.set_cons_succ])
  refine held_call (i := 11) rfl (by kernel_rfl) (by kernel_rfl) (fun K hK => ?_)
  go_simp
  go_at_call 48
  refine (P3.out _).mono ?_
  rintro e w' ⟨rfl, hb⟩
  replace hHeld := hHeld.trans (hb.mono hHeld.size)
  (try dsimp only)
  refine hK.out _ _ ?_ (fun hHeld' => ?_)
  · (try dsimp only)
    first | done | exact (Below.refl _ _).drew | exact hHeld | exact hHeld.drew
  clear hK K hHeld
  have hHeld := hHeld'
  clear hHeld'
  (try simp only [Act.put, List.setIfInBounds_toArray, List.set_cons_zero, List.set_cons_succ])
  refine held_take (i := 12) (d := 25) (v := ?_) rfl rfl (by kernel_rfl) (by kernel_rfl) (by kernel_rfl) (fun _ _ _ h => h) (by kernel_rfl) hHeld ?_ ?_
  rotate_left
  · intro w hSw
    (try dsimp only at hSw)
    go_simp
    first | done | with_reducible rfl
  (try simp only [Act.put, List.setIfInBounds_toArray, List.set_cons_zero, List.set_cons_succ])
  refine held_take (i := 13) (d := 26) (v := ?_) rfl rfl (by kernel_rfl) (by kernel_rfl) (by kernel_rfl) (fun _ _ _ h => h) (by kernel_rfl) hHeld ?_ ?_
  rotate_left
  · intro w hSw
    (try dsimp only at hSw)
    go_simp
    first | done | with_reducible rfl
  (try simp only [Act.put, List.setIfInBounds_toArray, List.set_cons_zero, List.set_cons_succ])
  refine held_call (i := 16) rfl (by kernel_rfl) (by kernel_rfl) (fun K hK => ?_)
  go_simp
  go_at_call 48
  refine (P4.out _).mono ?_
  rintro e w' ⟨rfl, hb⟩
  replace hHeld := hHeld.trans (hb.mono hHeld.size)
  (try dsimp only)
  refine hK.out _ _ ?_ (fun hHeld' => ?_)
  · (try dsimp only)
    first | done | exact (Below.refl _ _).drew | exact hHeld | exact hHeld.drew
  clear hK K hHeld
  have hHeld := hHeld'
  clear hHeld'
  (try simp only [Act.put, List.setIfInBounds_toArray, List.set_cons_zero, List.set_cons_succ])
  refine held_take (i := 17) (d := 30) (v := ?_) rfl rfl (by kernel_rfl) (by kernel_rfl) (by kernel_rfl) (fun _ _ _ h => h) (by kernel_rfl) hHeld ?_ ?_
  rotate_left
  · intro w hSw
    (try dsimp only at hSw)
    go_simp
    first | done | with_reducible rfl
  (try simp only [Act.put, List.setIfInBounds_toArray, List.set_cons_zero, List.set_cons_succ])
  refine held_take (i := 18) (d := 31) (v := ?_) rfl rfl (by kernel_rfl) (by kernel_rfl) (by kernel_rfl) (fun _ _ _ h => h) (by kernel_rfl) hHeld ?_ ?_
  rotate_left
  · intro w hSw
    (try dsimp only at hSw)
    go_simp
    first | done | with_reducible rfl
  (try simp only [Act.put, List.setIfInBounds_toArray, List.set_cons_zero, List.set_cons_succ])
  refine held_call (i := 21) rfl (by kernel_rfl) (by kernel_rfl) (fun K hK => ?_)
  go_simp
  go_at_call 48
  refine (P5.out _).mono ?_
  rintro e w' ⟨rfl, hb⟩
  replace hHeld := hHeld.trans (hb.mono hHeld.size)
  (try dsimp only)
  refine hK.out _ _ ?_ (fun hHeld' => ?_)
  · (try dsimp only)
    first | done | exact (Below.refl _ _).drew | exact hHeld | exact hHeld.drew
  clear hK K hHeld
  have hHeld := hHeld'
  clear hHeld'
  (try simp only [Act.put, List.setIfInBounds_toArray, List.set_cons_zero, List.set_cons_succ])
  refine held_take (i := 22) (d := 35) (v := ?_) rfl rfl (by kernel_rfl) (by kernel_rfl) (by kernel_rfl) (fun _ _ _ h => h) (by kernel_rfl) hHeld ?_ ?_
  rotate_left
  · intro w hSw
    (try dsimp only at hSw)
    go_simp
    first | done | with_reducible rfl
  (try simp only [Act.put, List.setIfInBounds_toArray, List.set_cons_zero, List.set_cons_succ])
  refine held_take (i := 23) (d := 36) (v := ?_) rfl rfl (by kernel_rfl) (by kernel_rfl) (by kernel_rfl) (fun _ _ _ h => h) (by kernel_rfl) hHeld ?_ ?_
  rotate_left
  · intro w hSw
    (try dsimp only at hSw)
    go_simp
    first | done | with_reducible rfl
  (try simp only [Act.put, List.setIfInBounds_toArray, List.set_cons_zero, List.set_cons_succ])
  refine held_call (i := 26) rfl (by kernel_rfl) (by kernel_rfl) (fun K hK => ?_)
  go_simp
  go_at_call 48
  refine (P6.out _).mono ?_
  rintro e w' ⟨rfl, hb⟩
  replace hHeld := hHeld.trans (hb.mono hHeld.size)
  (try dsimp only)
  refine hK.out _ _ ?_ (fun hHeld' => ?_)
  · (try dsimp only)
    first | done | exact (Below.refl _ _).drew | exact hHeld | exact hHeld.drew
  clear hK K hHeld
  have hHeld := hHeld'
  clear hHeld'
  (try simp only [Act.put, List.setIfInBounds_toArray, List.set_cons_zero, List.set_cons_succ])
  refine held_take (i := 27) (d := 40) (v := ?_) rfl rfl (by kernel_rfl) (by kernel_rfl) (by kernel_rfl) (fun _ _ _ h => h) (by kernel_rfl) hHeld ?_ ?_
  rotate_left
  · intro w hSw
    (try dsimp only at hSw)
    go_simp
    first | done | with_reducible rfl
  (try simp only [Act.put, List.setIfInBounds_toArray, List.set_cons_zero, List.set_cons_succ])
  refine held_take (i := 28) (d := 41) (v := ?_) rfl rfl (by kernel_rfl) (by kernel_rfl) (by kernel_rfl) (fun _ _ _ h => h) (by kernel_rfl) hHeld ?_ ?_
  rotate_left
  · intro w hSw
    (try dsimp only at hSw)
    go_simp
    first | done | with_reducible rfl
  (try simp only [Act.put, List.setIfInBounds_toArray, List.set_cons_zero, List.set_cons_succ])
  refine held_take (i := 29) (d := 2) (v := ?_) rfl rfl (by kernel_rfl) (by kernel_rfl) (by kernel_rfl) (fun _ _ _ h => h) (by kernel_rfl) hHeld ?_ ?_
  rotate_left
  · intro w hSw
    (try dsimp only at hSw)
    go_simp
    first | done | with_reducible rfl
  (try simp only [Act.put, List.setIfInBounds_toArray, List.set_cons_zero, List.set_cons_succ])
  refine held_take (i := 30) (d := 3) (v := ?_) rfl rfl (by kernel_rfl) (by kernel_rfl) (by kernel_rfl) (fun _ _ _ h => h) (by kernel_rfl) hHeld ?_ ?_
  rotate_left
  · intro w hSw
    (try dsimp only at hSw)
    go_simp
    first | done | with_reducible rfl
  (try simp only [Act.put, List.setIfInBounds_toArray, List.set_cons_zero, List.set_cons_succ])
  refine wpAnyH_done (by kernel_rfl) ?_ _
  go_wp2
  all_goals
    go_ret2
    refine ⟨?_, HB2.out.trans (hHeld.mono HB2.out.size)⟩
    rw [HVs.out]
    simp [ByteArray.append_assoc]
    rfl
end Go.Proofs.YtlcfakmbcfdgbaaGreat
namespace Go.Proofs.YtlcfakmbcfdgbaaGreat
open Go.RowKit Go.WideShapes

theorem range_ona {α : Type} {Fr : World → World → Prop} {F : Fence} {n : Nat} {P : Program} {g : Operand} {ps : Array Tmp} {assign body : Code} {Q : Exit → Act → World → Prop} {a : Act} {w : World} (hR : ∀ A B, Fr A B → ∀ k, w.heap.size ≤ k → k < A.heap.size → B.heap[k]? = A.heap[k]?)
    (hro : F.round = none) (h1 : 1 ≤ n) {gf : Nat} {lb : Array Value} (hg : a.eval g = .func (.func gf) #[] lb) (hFg : F.fn gf) (eg : ∀ args w, (callFunc gf args).run P w = .ok (.enter gf args) w)
    {encs : α → Array Value} {Kp : World → World → Prop} {Fact : α → World → Prop} {S : List α → Prop} {N : Nat} (hps : ∀ x, (encs x).size = ps.size)
    (hseq : ∀ o o', GivesOn Fr F (n - 1) P gf lb encs Kp Fact S N ((w.alloc o).alloc o'))
    (hKt : ∀ {A B C : World}, Kp A B → Kp B C → Kp A C) (hKb : ∀ (W : World) (o o' : Obj), W.heap[w.heap.size + 1]? = some o' → o'.isCells = false → Kp W (W.putObj (w.heap.size + 1) o))
    (I : List α → World → Prop) (hIp : ∀ s W o o', I s W → W.heap[w.heap.size + 1]? = some o' → o'.isCells = false → I s (W.putObj (w.heap.size + 1) o)) (hIb : ∀ s A B, I s A → Fr A B → I s B)
    (hF : ∀ x W o, Fact x W → Fact x (W.putObj (w.heap.size + 1) o)) (h0 : ∀ o o', I [] ((w.alloc o).alloc o')) (obj : α → Obj) (hIa : ∀ s W x, I s W → I s (W.alloc (obj x))) (hFa : ∀ x W, Fact x W → Fact x (W.alloc (obj x))) (hKa : ∀ W x, Kp W (W.alloc (obj x))) (a₁ : α → Nat → Act)
    (hassign : ∀ (l : Nat) (x : α) (W : World) (K : Act → World → Prop), K (a₁ x W.heap.size) (W.alloc (obj x)) →
      assign.wpIn (F.inRound l) (n - 1 - 1) P (Exit.then K (fun _ _ _ => False)) { tmps := (ps.zip (encs x)).foldl (fun t (p, v) => t.setIfInBounds p v) a.tmps, defers := [] } W)
    (hbody : ∀ (l : Nat) (pre : List α) (x : α) (H : Nat) (W : World), I pre W → Fact x W → pre.length < N → w.heap.size + 2 ≤ H → W.heap[H]? = some (obj x) → W.heap.size = H + 1 → body.wpIn (F.inRound l) (n - 1 - 1) P (roundEndO w.heap.size Kp I (pre ++ [x]) W) (a₁ x H) W)
    (hdone : ∀ (D : Nat) (xs : List α) (W : World), D = w.heap.size → S xs → I xs W → W.heap[D]? = some (.deferred (some [])) → Q .normal { a with defers := { target := .collected D, args := #[] } :: a.defers } W) :
    (Code.rangeFunc g ps assign body).wpIn F n P Q a w := by
  refine wpIn_rangeFunc fun fn hfn => ?_
  rw [hro]
  let D := w.heap.size
  let r0 : Loop := { state := .ready, pending := none, fn, tmps := a.tmps, params := ps, assign, body, defers := D }
  let r1 : Loop := { state := .busy, pending := none, fn, tmps := a.tmps, params := ps, assign, body, defers := D }
  let W0 := (w.alloc (.deferred (some []))).alloc (.loop r0)
  have hsz : W0.heap.size = D + 2 := by show ((w.alloc _).alloc _).heap.size = _; simp [D]
  have hl0 : W0.heap[D + 1]? = some (.loop r0) := by
    have := World.alloc_heap_new (w.alloc (.deferred (some []))) (.loop r0)
    rwa [World.size_alloc] at this
  have hd0 : W0.heap[D]? = some (.deferred (some [])) := (Below.heap_alloc _ _ _ (by simp [D])).trans (World.alloc_heap_new w _)
  refine ⟨D + 1, [{ target := .collected D, args := #[] }], W0, { target := .fn (.func gf) lb, args := #[.func (.yield (D + 1)) #[] #[]] }, W0, gf, #[.func (.yield (D + 1)) #[] #[]] ++ lb, W0,
    run_enterLoop_outer _ _ _ _ _, by simp only [resolve, hg]; simp [go_sem], fun f' hf' => by simp [Target.leads] at hf'; subst hf'; exact hFg, by simp [invoke, go_sem, eg], fun _ => h1, ?_⟩
  have keepD : ∀ {A B : World} {k : Nat} {o : Obj}, Fr A B → A.heap[k]? = some o → D ≤ k → B.heap[k]? = some o := fun hb hk hlt =>
    (hR _ _ hb _ hlt (Array.getElem?_eq_some_iff.1 hk).1).trans hk
  refine (hseq _ _ (D + 1) (fun pre W => I pre W ∧ W.heap[D + 1]? = some (.loop r0) ∧ W.heap[D]? = some (.deferred (some [])))
    (fun s A B h hb => ⟨hIb s A B h.1 hb, keepD hb h.2.1 (by omega), keepD hb h.2.2 (Nat.le_refl _)⟩) ⟨h0 _ _, hl0, hd0⟩ ?_).mono ?_
  · rintro pre x W ⟨hi, hl, hd⟩ hf hlen
    have hlt : D + 1 < W.heap.size := (Array.getElem?_eq_some_iff.1 hl).1
    have hy := run_yield (P := P) (args := encs x) hl (hps x)
    have hla : (W.alloc (obj x)).heap[D + 1]? = some (.loop r0) := (Below.heap_alloc _ _ _ hlt).trans hl
    have hda : (W.alloc (obj x)).heap[D]? = some (.deferred (some [])) := (Below.heap_alloc _ _ _ (by omega)).trans hd
    have hlta : D + 1 < (W.alloc (obj x)).heap.size := by simp; omega
    refine ⟨fn, _, assign, body, hy, roundIn_of_wpIn hfn (hassign _ x W _ ⟨_, run_beginRound hla rfl, ?_⟩)⟩
    have hl2 : ((W.alloc (obj x)).putObj (D + 1) (.loop r1)).heap[D + 1]? = some (.loop r1) := World.putObj_heap_same hlta
    have hd2 : ((W.alloc (obj x)).putObj (D + 1) (.loop r1)).heap[D]? = some (.deferred (some [])) := (World.putObj_heap_other (by omega)).trans hda
    have hx2 : ((W.alloc (obj x)).putObj (D + 1) (.loop r1)).heap[W.heap.size]? = some (obj x) := (World.putObj_heap_other (by omega)).trans (World.alloc_heap_new W _)
    refine wpIn_mono (hbody _ pre x W.heap.size _ (hIp _ _ _ _ (hIa _ _ _ hi) hla rfl) (hF _ _ _ (hFa _ _ hf)) hlen (by show D + 2 ≤ _; omega) hx2 (by simp)) ?_
    rintro e a3 W3 hp
    cases e with
    | normal =>
      obtain ⟨hk3, hkp, hi3⟩ := hp
      have hl3 := hk3.same _ _ (by omega) hl2 rfl
      have hd3 := hk3.same _ _ (Nat.le_refl _) hd2 rfl
      have hlt3 := (Array.getElem?_eq_some_iff.1 hl3).1
      have he := run_endRound (P := P) none hl3
      exact ⟨_, _, he, rfl, ⟨hIp _ _ _ _ hi3 hl3 rfl, World.putObj_heap_same hlt3, (World.putObj_heap_other (by omega)).trans hd3⟩, hKt (hKt (hKt (hKa W x) (hKb _ _ _ hla rfl)) hkp) (hKb _ _ _ hl3 rfl)⟩
    | ret => exact hp.elim
    | exit id => exact hp.elim
    | goto t => exact hp.elim
    | panic ch => exact hp.elim
    | outgrown => exact hp.elim
  · rintro e W2 ⟨⟨v, rfl⟩, xs, hS, hi, hl, hd⟩
    have hlt := (Array.getElem?_eq_some_iff.1 hl).1
    exact ⟨none, _, run_endLoop (P := P) hl (by simp [r0]), hdone D xs _ rfl hS (hIp _ _ _ _ hi hl rfl) ((World.putObj_heap_other (by omega)).trans hd)⟩

attribute [local go_sem] Oper.semAt_some
theorem entries_any (cs : Array Value) (w : World) (hcs : cs.size = 6) :
    Calls Tryz.prog 18 #[.agg cs] w fun e w' => e = .returned (.func (.func 36) #[] #[.pointer (some ⟨w.heap.size, 0, none⟩)]) ∧ w' = w.alloc (.cells cs 26) := by
  go_enter Tryz.func18, Tryz.ntmps18
  go_wp2
  go_ret
  exact ⟨rfl, rfl⟩
/-- A round keeps the feed's block and all that lies below. -/
def KpE (Bs B0 : Nat) (W W' : World) : Prop := W.heap.size ≤ W'.heap.size ∧ ∀ k, k < W.heap.size → (k = Bs ∨ k < B0) → W'.heap[k]? = W.heap[k]?
theorem KpE.trans {Bs B0 : Nat} {X Y Z : World} (h : KpE Bs B0 X Y) (k : KpE Bs B0 Y Z) : KpE Bs B0 X Z := ⟨Nat.le_trans h.1 k.1, fun j hj hk => (k.2 j (Nat.lt_of_lt_of_le hj h.1) hk).trans (h.2 j hj hk)⟩
set_option maxRecDepth 100000 in
set_option maxHeartbeats 8000000 in
theorem entries1_gives (m : Nat) (hm1 : 1 ≤ m) (Bs B0 : Nat) (f : Fd) (A : Option Addr) (n c : Nat) (W : World) (hR : Reads W B0 7 A n (entVs f.es)) (hn : f.es.length = n) (hm : n ≤ 1000) (hc : Blk W Bs 26 (f.cells A n c)) (hB0 : B0 ≤ W.heap.size) :
    GivesOn FrB Fence.wide m Tryz.prog 36 #[.pointer (some ⟨Bs, 0, none⟩)] (fun x : Ent => #[.agg x.cells]) (KpE Bs B0) (fun x _ => x ∈ f.es) (fun xs => xs = f.es) (n + 1) W := by
  intro l J hJ h0J hY
  refine callsIn_of_wp Tryz.func36 rfl trivial ?_ rfl
  simp only [Tryz.ntmps36, List.size_toArray, List.length_cons, List.length_nil, Nat.reduceAdd, Nat.reduceSub, Array.replicate_succ, Array.replicate_zero, List.push_toArray, List.append_toArray, List.nil_append, List.cons_append]
  obtain ⟨id, ti, lk, k, s, es⟩ := f
  dsimp only at hR hn hY ⊢
  have HN := hide hn
  have HY := hide hY
  have H0 := hide h0J
  have HC := hide hc
  have HRd := hide hR
  have HJ := hide hJ
  unfold Fd.cells at HC
  dsimp only at HC
  have q5 := HC.out.cell 5
  clear hn hY h0J hc hR hJ
  gi_wp2
  clear q5
  gi_loopg [4, 8] n (fun gk v4 v8 wr => ∃ i : Nat, v8 = .int .i64 (i : Int) ∧ gk = n - i ∧ i ≤ n ∧ J (es.take i) wr ∧ Reads wr B0 7 A n (entVs es) ∧ B0 ≤ wr.heap.size ∧ Blk wr Bs 26 #[.string (bstr id), .string (bstr ti), .string (bstr lk), .bool k, .int .i64 s, .slice A n c])
  case atStart => exact ⟨0, rfl, rfl, by omega, H0.out, HRd.out, hB0, HC.out⟩
  case round =>
    obtain ⟨i, rfl, hgk, hin, hj, hrd, hbr, hcr⟩ := hrel
    have Hgk := hide hgk
    have Hj := hide hj
    have HRr := hide hrd
    have HCr := hide hcr
    clear hgk hj hrd hcr
    by_cases hlt : i < n
    · have hil : i < es.length := by rw [HN.out]; exact hlt
      have hRw : Reads wr B0 7 A es.length (entVs es) := by rw [HN.out]; exact HRr.out
      obtain ⟨b, off, rfl, hbB, hx⟩ := hRw.ent hil
      have HTk := hide (show es.take (i + 1) = es.take i ++ [es[i]] from List.take_succ_eq_append_getElem hil)
      have HMem := hide (List.getElem_mem hil)
      obtain ⟨x, hxe⟩ : ∃ x, es[i] = x := ⟨_, rfl⟩
      rw [hxe] at hx HTk HMem
      obtain ⟨wa, hwa⟩ : ∃ wa, wr.alloc (.cells x.cells 36) = wa := ⟨_, rfl⟩
      have hbl : Below wr.heap.size wr wa := by rw [← hwa]; exact below_alloc _ _
      have hE : Blk wa wr.heap.size 36 x.cells := by rw [← hwa]; exact Blk.new wr _ _
      have hYx := HY.out (es.take i) x wa (HJ.out _ _ _ Hj.out hbl) HMem.out (by rw [List.length_take, HN.out]; omega)
      obtain ⟨fn, tmps, assign, body, hy, hRn⟩ := hYx
      have HRn := hide hRn
      have HBl := hide hbl
      have HE := hide hE
      have Hsw := hide hbl.size
      clear hxe hRn hRw hbl hE
      obtain ⟨xi, xt, xl, xa, xc, xk, xs⟩ := x
      have x0 := hx.c0
      have x1 := hx.c1
      have x2 := hx.c2
      have x3 := hx.c3
      have x4 := hx.c4
      have x5 := hx.c5
      have x6 := hx.c6
      unfold Ent.cells at hwa hy HE
      dsimp only at x0 x1 x2 x3 x4 x5 x6 hwa hy HE HRn
      have HCa := hide (HCr.out.go HBl.out)
      have HRa := hide (HRr.out.keep (w' := wa) fun p hp => World.cell?_of_block (HBl.out.block _ (by omega)))
      clear hx
      have e0 := HE.out.cell 0
      have e1 := HE.out.cell 1
      have e2 := HE.out.cell 2
      have e3 := HE.out.cell 3
      have e4 := HE.out.cell 4
      have e5 := HE.out.cell 5
      have e6 := HE.out.cell 6
      gi_wp2
      refine HRn.out.mono ?_
      rintro e W3 ⟨rfl, hJ3, hk3⟩
      have HJ3 := hide hJ3
      have HK3 := hide hk3
      clear hJ3 hk3 hwa x0 x1 x2 x3 x4 x5 x6 e0 e1 e2 e3 e4 e5 e6 hy
      have q3 := HBl.out.size
      gi_wp2
      go_roundg (n - (i + 1))
      case measure => have := Hgk.out; omega
      case rel =>
        have k1 := HK3.out
        have hs3 := Hsw.out
        refine ⟨i + 1, by first | rfl | go_num, rfl, hlt, ?_, HRa.out.keep (fun p hp => ?_), by have := k1.1; omega, ?_⟩
        · rw [HTk.out]
          exact HJ3.out
        · unfold World.cell?
          rw [k1.2 _ (by have := HBl.out.size; omega) (.inr hp)]
        · exact (k1.2 _ HCa.out.lt (.inl rfl)).trans HCa.out
    · have hi' : i = n := by omega
      subst hi'
      gi_wp2
      go_end0
      refine ⟨⟨_, rfl⟩, _, rfl, ?_⟩
      have h := Hj.out
      rwa [List.take_of_length_le (by rw [HN.out]; exact Nat.le_refl _)] at h
end Go.Proofs.YtlcfakmbcfdgbaaGreat
