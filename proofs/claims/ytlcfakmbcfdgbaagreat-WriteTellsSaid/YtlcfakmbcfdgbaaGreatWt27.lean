/- Writing: the document's lines (ref26). (Printed by genTdX.py.) · Writing: whether a feed may be, by the document (ref26.May). (Printed by genTdY.py.) -/
import Derived.Test.YtlcfakmbcfdgbaaGreatWt26
set_option linter.unusedSimpArgs false
set_option linter.unusedVariables false
namespace Go.Proofs.YtlcfakmbcfdgbaaGreat
open Go.RowKit Go.WideShapes

theorem bstr_nil : bstr [] = ByteArray.empty := rfl
theorem link_str (a : UInt8) (t : List UInt8) : bstr (Wr.link (a :: t)) = bstr Wr.linkOpen ++ (bstr (Tx.escape true (a :: t)) ++ bstr [34, 47, 62, 10]) := by
  have e : Wr.link (a :: t) = Wr.linkOpen ++ (Tx.escape true (a :: t) ++ [34, 47, 62, 10]) := by
    unfold Wr.link Wr.line
    rw [if_neg (by simp)]
    simp
  rw [e]
  simp only [bstr_app]
set_option maxHeartbeats 8000000 in
set_option maxRecDepth 100000 in
theorem refLines26_any (id ti lk : List UInt8) (k : Bool) (s : Int) (w : World) (h1 : id.length ≤ 20000) (h2 : ti.length ≤ 20000) (h3 : lk.length ≤ 20000) (hs : (Lit.int .i64 s).wf = true) (hw : whenP k s = true) :
    Calls Tryz.prog 21 #[.string (bstr id), .string (bstr ti), .string (bstr lk), .agg #[.bool k, .int .i64 s]] w fun e w' => e = .returned (.string (bstr (Wr.head id ti lk k s))) ∧ Below w.heap.size w w' := by
  have HO := hide (below_alloc w (.cells #[.bool k, .int .i64 s] 23))
  have HT := hide (Blk.new w 23 #[.bool k, .int .i64 s])
  have HI := hide (fun W => refLine26_any [105, 100] id W (by decide) h1)
  have HTi := hide (fun W => refLine26_any [116, 105, 116, 108, 101] ti W (by decide) h2)
  have HE := hide (fun W => refEscape13_any true lk W (by omega))
  have HTx := hide (fun W => refText19_any s W hs)
  have l1 := Wr.field_len [105, 100] id
  have l2 := Wr.field_len [116, 105, 116, 108, 101] ti
  have l3 := Tx.escape_len true lk
  simp only [List.length_cons, List.length_nil] at l1 l2
  have s1 : (bstr (Wr.field [105, 100] id)).size = (Wr.field [105, 100] id).length := bstr_size _
  have s2 : (bstr (Wr.field [116, 105, 116, 108, 101] ti)).size = (Wr.field [116, 105, 116, 108, 101] ti).length := bstr_size _
  have s3 : (bstr (Tx.escape true lk)).size = (Tx.escape true lk).length := bstr_size _
  have hh : bstr (Wr.head id ti lk k s) = bstr (Wr.field [105, 100] id) ++ (bstr (Wr.field [116, 105, 116, 108, 101] ti) ++ (bstr (Wr.link lk) ++ bstr (Wr.date k s))) := by
    unfold Wr.head
    simp only [bstr_app]
  obtain ⟨n1, hn1⟩ : ∃ n, (Wr.field [105, 100] id).length = n := ⟨_, rfl⟩
  obtain ⟨n2, hn2⟩ : ∃ n, (Wr.field [116, 105, 116, 108, 101] ti).length = n := ⟨_, rfl⟩
  obtain ⟨n3, hn3⟩ : ∃ n, (Tx.escape true lk).length = n := ⟨_, rfl⟩
  rw [hn1] at l1 s1
  rw [hn2] at l2 s2
  rw [hn3] at l3 s3
  have b1 : n1 ≤ 200000 := by omega
  have b2 : n2 ≤ 200000 := by omega
  have b3 : n3 ≤ 200000 := by omega
  obtain ⟨F1, hF1⟩ : ∃ S, bstr (Wr.field [105, 100] id) = S := ⟨_, rfl⟩
  obtain ⟨F2, hF2⟩ : ∃ S, bstr (Wr.field [116, 105, 116, 108, 101] ti) = S := ⟨_, rfl⟩
  rw [hF1] at s1 HI hh
  rw [hF2] at s2 HTi hh
  obtain ⟨R, hR⟩ : ∃ R, bstr (Wr.head id ti lk k s) = R := ⟨_, rfl⟩
  rw [hR] at hh ⊢
  clear hn1 hn2 hn3 hF1 hF2 hR l1 l2 l3
  obtain ⟨LK, hLK⟩ : ∃ L, bstr (Wr.link lk) = L := ⟨_, rfl⟩
  rw [hLK] at hh
  have t0 := HT.out.cell 0
  have t1 := HT.out.cell 1
  cases lk with
  | nil =>
    have hl : LK = bstr [] := by rw [← hLK]; rfl
    subst hl
    have emp : (bstr ([] : List UInt8)).toList.isEmpty = true := Wr.emp _
    clear hLK
    cases k with
    | false =>
      have hd : bstr (Wr.date false s) = bstr [] := by
        have : Wr.date false s = [] := by unfold Wr.date; cases Cv.stamp s <;> rfl
        rw [this]
      rw [hd] at hh
      have HH := hide hh
      clear hh hd hw
      go_enter Tryz.func21, Tryz.ntmps21
      go_wp2_with fail
      go_wp2_with fail
      refine cq (HI.out _) ?_
      dsimp only
      go_wp2_with fail
      go_wp2_with fail
      refine cq (HTi.out _) ?_
      dsimp only
      go_wp2
      go_ret
      refine ⟨?_, HO.out⟩
      rw [HH.out]
      simp [ByteArray.append_assoc, bstr_nil]
      try rfl
    | true =>
      obtain ⟨x, hx, hd⟩ := Wr.date_true hw
      have hxl := Wr.stamp_len hx
      rw [hd] at hh
      rw [hx] at HTx
      unfold stampV at HTx
      dsimp only at HTx
      have HL := hide (fun W => refLine26_any [117, 112, 100, 97, 116, 101, 100] x W (by decide) (by omega))
      have l4 := Wr.field_len [117, 112, 100, 97, 116, 101, 100] x
      simp only [List.length_cons, List.length_nil] at l4
      have s4 : (bstr (Wr.field [117, 112, 100, 97, 116, 101, 100] x)).size = (Wr.field [117, 112, 100, 97, 116, 101, 100] x).length := bstr_size _
      obtain ⟨n4, hn4⟩ : ∃ n, (Wr.field [117, 112, 100, 97, 116, 101, 100] x).length = n := ⟨_, rfl⟩
      rw [hn4] at l4 s4
      have b4 : n4 ≤ 200000 := by omega
      obtain ⟨F4, hF4⟩ : ∃ S, bstr (Wr.field [117, 112, 100, 97, 116, 101, 100] x) = S := ⟨_, rfl⟩
      rw [hF4] at s4 HL hh
      have HH := hide hh
      clear hh hd hw hx hxl hn4 hF4 l4
      go_enter Tryz.func21, Tryz.ntmps21
      go_wp2_with fail
      go_wp2_with fail
      refine cq (HI.out _) ?_
      dsimp only
      go_wp2_with fail
      go_wp2_with fail
      refine cq (HTi.out _) ?_
      dsimp only
      go_wp2_with fail
      refine (HTx.out _).mono ?_
      rintro e w2 ⟨rfl, hb2⟩
      have HB2 := hide (HO.out.trans (hb2.mono (by simp)))
      clear hb2
      dsimp only
      go_wp2_with fail
      go_wp2_with fail
      refine cq (HL.out _) ?_
      dsimp only
      go_wp2
      go_ret
      refine ⟨?_, HB2.out⟩
      rw [HH.out]
      simp [ByteArray.append_assoc, bstr_nil]
      try rfl
  | cons a lk =>
    have hl := link_str a lk
    rw [hLK] at hl
    obtain ⟨EL, hEL⟩ : ∃ E, bstr (Tx.escape true (a :: lk)) = E := ⟨_, rfl⟩
    rw [hEL] at s3 HE hl
    have emp : (bstr (a :: lk)).toList.isEmpty = false := Wr.emp _
    subst hl
    clear hLK hEL
    cases k with
    | false =>
      have hd : bstr (Wr.date false s) = bstr [] := by
        have : Wr.date false s = [] := by unfold Wr.date; cases Cv.stamp s <;> rfl
        rw [this]
      rw [hd] at hh
      have HH := hide hh
      clear hh hd hw
      go_enter Tryz.func21, Tryz.ntmps21
      go_wp2_with fail
      go_wp2_with fail
      refine cq (HI.out _) ?_
      dsimp only
      go_wp2_with fail
      go_wp2_with fail
      refine cq (HTi.out _) ?_
      dsimp only
      go_wp2_with fail
      go_wp2_with fail
      refine cq (HE.out _) ?_
      dsimp only
      go_wp2
      go_ret
      refine ⟨?_, HO.out⟩
      rw [HH.out]
      simp [ByteArray.append_assoc, bstr_nil]
      try rfl
    | true =>
      obtain ⟨x, hx, hd⟩ := Wr.date_true hw
      have hxl := Wr.stamp_len hx
      rw [hd] at hh
      rw [hx] at HTx
      unfold stampV at HTx
      dsimp only at HTx
      have HL := hide (fun W => refLine26_any [117, 112, 100, 97, 116, 101, 100] x W (by decide) (by omega))
      have l4 := Wr.field_len [117, 112, 100, 97, 116, 101, 100] x
      simp only [List.length_cons, List.length_nil] at l4
      have s4 : (bstr (Wr.field [117, 112, 100, 97, 116, 101, 100] x)).size = (Wr.field [117, 112, 100, 97, 116, 101, 100] x).length := bstr_size _
      obtain ⟨n4, hn4⟩ : ∃ n, (Wr.field [117, 112, 100, 97, 116, 101, 100] x).length = n := ⟨_, rfl⟩
      rw [hn4] at l4 s4
      have b4 : n4 ≤ 200000 := by omega
      obtain ⟨F4, hF4⟩ : ∃ S, bstr (Wr.field [117, 112, 100, 97, 116, 101, 100] x) = S := ⟨_, rfl⟩
      rw [hF4] at s4 HL hh
      have HH := hide hh
      clear hh hd hw hx hxl hn4 hF4 l4
      go_enter Tryz.func21, Tryz.ntmps21
      go_wp2_with fail
      go_wp2_with fail
      refine cq (HI.out _) ?_
      dsimp only
      go_wp2_with fail
      go_wp2_with fail
      refine cq (HTi.out _) ?_
      dsimp only
      go_wp2_with fail
      go_wp2_with fail
      refine cq (HE.out _) ?_
      dsimp only
      go_wp2_with fail
      refine (HTx.out _).mono ?_
      rintro e w2 ⟨rfl, hb2⟩
      have HB2 := hide (HO.out.trans (hb2.mono (by simp)))
      clear hb2
      dsimp only
      go_wp2_with fail
      go_wp2_with fail
      refine cq (HL.out _) ?_
      dsimp only
      go_wp2
      go_ret
      refine ⟨?_, HB2.out⟩
      rw [HH.out]
      simp [ByteArray.append_assoc, bstr_nil]
      try rfl
end Go.Proofs.YtlcfakmbcfdgbaaGreat
namespace Go.Proofs.YtlcfakmbcfdgbaaGreat
open Go.RowKit Go.WideShapes

theorem seen_no {es : List Ent} {i : Nat} {d : List UInt8} (h : ∀ k y, k < i → es[k]? = some y → y.id ≠ d) : (((es.take i).map (·.id)).reverse).contains d = false := by
  cases hc : (((es.take i).map (·.id)).reverse).contains d with
  | false => rfl
  | true =>
    rw [List.contains_iff_mem, List.mem_reverse] at hc
    obtain ⟨y, hy, e⟩ := List.mem_map.1 hc
    obtain ⟨k, hk, e2⟩ := List.getElem_of_mem hy
    rw [List.length_take] at hk
    rw [List.getElem_take] at e2
    exact absurd e (h k y (by omega) (by rw [← e2]; exact List.getElem?_eq_getElem (by omega)))
theorem seen_yes {es : List Ent} {i k : Nat} {d : List UInt8} {y : Ent} (hk : k < i) (hy : es[k]? = some y) (e : y.id = d) : (((es.take i).map (·.id)).reverse).contains d = true := by
  rw [List.contains_iff_mem, List.mem_reverse]
  refine List.mem_map.2 ⟨y, ?_, e⟩
  refine List.mem_of_getElem? (i := k) ?_
  rw [List.getElem?_take, if_pos hk]
  exact hy
set_option maxRecDepth 100000 in
set_option maxHeartbeats 16000000 in
theorem refMay26_any (f : Fd) (A : Option Addr) (n c B : Nat) (w : World) (hR : Reads w B 7 A n (entVs f.es)) (hn : f.es.length = n) (hB : B ≤ w.heap.size) (hm : n ≤ maxLen) (hok : f.Ok) :
    Calls Tryz.prog 9 #[.agg (f.cells A n c)] w fun e w' => e = .returned (.bool (Wr.may f)) ∧ Below w.heap.size w w' := by
  obtain ⟨id, ti, lk, k, s, es⟩ := f
  obtain ⟨h1, h2, h3, hs, hes⟩ := hok
  dsimp only at hR hn h1 h2 h3 hs hes
  have HB0 := hide (below_alloc w (.cells (Fd.cells ⟨id, ti, lk, k, s, es⟩ A n c) 26))
  have HT0 := hide (Blk.new w 26 (Fd.cells ⟨id, ti, lk, k, s, es⟩ A n c))
  have HRd := hide hR
  have Hn := hide hn
  have Hes := hide hes
  have hm' : (n : Int) ≤ 9223372036854775807 := by unfold maxLen at hm; omega
  have HI1 := hide (fun W => refIsLine_any id W (by omega))
  have HI2 := hide (fun W => refIsLine_any ti W (by omega))
  have HI3 := hide (fun W => refIsLine_any lk W (by omega))
  have HW := hide (fun W => refWhen_any k s W hs)
  have HV := hide (show Wr.may ⟨id, ti, lk, k, s, es⟩ = (((Tx.isLine id && (Tx.isLine ti && (Tx.isLine lk && true))) && whenP k s) && decide (n ≤ 16) && Wr.mayEs [] es) by unfold Wr.may; dsimp only; rw [hn]; rfl)
  clear hR hn hes
  obtain ⟨mv, hmv⟩ : ∃ v, Wr.may ⟨id, ti, lk, k, s, es⟩ = v := ⟨_, rfl⟩
  rw [hmv] at HV ⊢
  clear hmv
  unfold Fd.cells at HB0 HT0 ⊢
  dsimp only at HB0 HT0 ⊢
  go_enter Tryz.func9, Tryz.ntmps9
  have t0 := HT0.out.cell 0
  go_wp2_with fail
  refine (HI1.out _).mono ?_
  rintro e w1 ⟨rfl, hb⟩
  have HT1 := hide (HT0.out.go hb)
  have HB1 := hide (HB0.out.trans (hb.mono HB0.out.size))
  clear hb t0
  cases hq1 : Tx.isLine id with
  | false =>
    rw [hq1] at HV
    have hv : mv = false := by have := HV.out; simpa using this
    subst hv
    clear hq1
    dsimp only
    go_wp2
    go_ret
    exact ⟨rfl, HB1.out⟩
  | true =>
    rw [hq1] at HV
    clear hq1
    dsimp only
    have t1 := HT1.out.cell 1
    go_wp2_with fail
    refine (HI2.out _).mono ?_
    rintro e w2 ⟨rfl, hb⟩
    have HT2 := hide (HT1.out.go hb)
    have HB2 := hide (HB1.out.trans (hb.mono HB1.out.size))
    clear hb t1
    cases hq2 : Tx.isLine ti with
    | false =>
      rw [hq2] at HV
      have hv : mv = false := by have := HV.out; simpa using this
      subst hv
      clear hq2
      dsimp only
      go_wp2
      go_ret
      exact ⟨rfl, HB2.out⟩
    | true =>
      rw [hq2] at HV
      clear hq2
      dsimp only
      have t2 := HT2.out.cell 2
      go_wp2_with fail
      refine (HI3.out _).mono ?_
      rintro e w3 ⟨rfl, hb⟩
      have HT3 := hide (HT2.out.go hb)
      have HB3 := hide (HB2.out.trans (hb.mono HB2.out.size))
      clear hb t2
      cases hq3 : Tx.isLine lk with
      | false =>
        rw [hq3] at HV
        have hv : mv = false := by have := HV.out; simpa using this
        subst hv
        clear hq3
        dsimp only
        go_wp2
        go_ret
        exact ⟨rfl, HB3.out⟩
      | true =>
        rw [hq3] at HV
        clear hq3
        dsimp only
        have t3 := HT3.out.cell 3
        have t4 := HT3.out.cell 4
        go_wp2_with fail
        refine (HW.out _).mono ?_
        rintro e w4 ⟨rfl, hb⟩
        have HT4 := hide (HT3.out.go hb)
        have HB4 := hide (HB3.out.trans (hb.mono HB3.out.size))
        clear hb t3 t4
        cases hq4 : whenP k s with
        | false =>
          rw [hq4] at HV
          have hv : mv = false := by have := HV.out; simpa using this
          subst hv
          clear hq4
          dsimp only
          go_wp2
          go_ret
          exact ⟨rfl, HB4.out⟩
        | true =>
          rw [hq4] at HV
          clear hq4
          dsimp only
          have t5 := HT4.out.cell 5
          by_cases h16 : 16 < n
          · have hv : mv = false := by have := HV.out; rw [decide_eq_false (show ¬ n ≤ 16 by omega)] at this; simpa using this
            subst hv
            go_wp2
            go_ret
            exact ⟨rfl, HB4.out⟩
          have HV2 := hide (show mv = Wr.mayEs [] es by have := HV.out; rw [decide_eq_true (show n ≤ 16 by omega)] at this; simpa using this)
          have h16' : ¬ (16 : Int) < (n : Int) := by omega
          go_wp2
          clear t5
          go_loopg [3, 4, 5] n (fun gk v3 v4 v5 wr => ∃ (i : Nat), v3 = .int .i64 (i : Int) ∧ gk = n - i ∧ i ≤ n ∧ mv = Wr.mayEs ((es.take i).map (·.id)).reverse (es.drop i) ∧ Below w4.heap.size w4 wr)
          case atStart => exact ⟨0, rfl, rfl, by omega, HV2.out, Below.refl _ _⟩
          case round =>
            obtain ⟨i, rfl, hgk, hin, heq, hbw⟩ := hrel
            have HEq := hide heq
            have HBr := hide (HB4.out.trans (hbw.mono HB4.out.size))
            have HTr := hide (HT4.out.go hbw)
            have Hbw := hide hbw
            have Hgk := hide hgk
            have t5 := HTr.out.cell 5
            clear heq hbw hgk
            have hszr : w.heap.size + 1 ≤ wr.heap.size := by have := HTr.out.lt; omega
            by_cases hlt : i < n
            · have hil : i < es.length := by rw [Hn.out]; exact hlt
              have hRw : Reads wr B 7 A es.length (entVs es) := by
                rw [Hn.out]
                exact HRd.out.keep fun p hp => World.cell?_of_block (HBr.out.block _ (by omega))
              obtain ⟨b, off, rfl, hbB, hx⟩ := hRw.ent hil
              have Hox := hide (Hes.out _ (List.getElem_mem hil))
              have Hdr := hide (show es.drop i = es[i] :: es.drop (i + 1) from List.drop_eq_getElem_cons hil)
              have Htk := hide (show ((es.take (i + 1)).map (·.id)).reverse = es[i].id :: ((es.take i).map (·.id)).reverse by rw [List.take_succ_eq_append_getElem hil, List.map_append, List.reverse_append]; rfl)
              obtain ⟨x, hxe⟩ : ∃ x, es[i] = x := ⟨_, rfl⟩
              rw [hxe] at hx Hox Hdr Htk
              have HNext := hide (show mv = (Wr.mayE ((es.take i).map (·.id)).reverse x && Wr.mayEs (x.id :: ((es.take i).map (·.id)).reverse) (es.drop (i + 1))) by rw [HEq.out, Hdr.out]; rfl)
              have HSno := hide (show ∀ d, (∀ k y, k < i → es[k]? = some y → y.id ≠ d) → (((es.take i).map (·.id)).reverse).contains d = false from fun d h => seen_no h)
              have HSyes := hide (show ∀ k d y, k < i → es[k]? = some y → y.id = d → (((es.take i).map (·.id)).reverse).contains d = true from fun k d y h1 h2 h3 => seen_yes h1 h2 h3)
              obtain ⟨seen, hseen⟩ : ∃ seen, ((es.take i).map (·.id)).reverse = seen := ⟨_, rfl⟩
              rw [hseen] at HNext Htk HSno HSyes
              clear hxe hseen Hdr HEq hRw
              obtain ⟨xi, xt, xl, xa, xc, xk, xs⟩ := x
              obtain ⟨g1, g2, g3, g4, g5, g6⟩ := Hox.out
              dsimp only at g1 g2 g3 g4 g5 g6
              have x0 := hx.c0
              have x1 := hx.c1
              have x2 := hx.c2
              have x3 := hx.c3
              have x4 := hx.c4
              have x5 := hx.c5
              have x6 := hx.c6
              clear hx
              dsimp only at x0 x1 x2 x3 x4 x5 x6
              have HK0 := hide (Blk.new wr 36 #[.string (bstr xi), .string (bstr xt), .string (bstr xl), .string (bstr xa), .string (bstr xc), .bool xk, .int .i64 xs])
              have HC0 := hide (below_alloc wr (.cells #[.string (bstr xi), .string (bstr xt), .string (bstr xl), .string (bstr xa), .string (bstr xc), .bool xk, .int .i64 xs] 36))
              have HJ1 := hide (fun W => refIsLine_any xi W (by omega))
              have HJ2 := hide (fun W => refIsLine_any xt W (by omega))
              have HJ3 := hide (fun W => refIsLine_any xl W (by omega))
              have HJ4 := hide (fun W => refIsLine_any xa W (by omega))
              have HJ5 := hide (fun W => refIsBlock_any xc W (by omega))
              have HJ6 := hide (fun W => refWhen_any xk xs W g6)
              have HEnd := hide (show Wr.mayE seen ⟨xi, xt, xl, xa, xc, xk, xs⟩ = false → mv = false from fun h => by rw [HNext.out, h]; rfl)
              have HE1 := hide (show Wr.mayE seen ⟨xi, xt, xl, xa, xc, xk, xs⟩ = (!xi.isEmpty && !seen.contains xi && (Tx.isLine xi && (Tx.isLine xt && (Tx.isLine xl && (Tx.isLine xa && true)))) && Tx.isBlock xc && whenP xk xs) from rfl)
              obtain ⟨me, hme⟩ : ∃ v, Wr.mayE seen ⟨xi, xt, xl, xa, xc, xk, xs⟩ = v := ⟨_, rfl⟩
              rw [hme] at HE1 HEnd HNext
              have hk0 := HK0.out.cell 0
              clear hme g1 g2 g3 g4 g5 g6
              by_cases hxn : xi = []
              · subst hxn
                have hv : mv = false := HEnd.out (by rw [HE1.out]; rfl)
                subst hv
                have emp : (bstr ([] : List UInt8)).toList.isEmpty = true := Wr.emp _
                go_wp2
                go_ret
                exact ⟨rfl, HBr.out.trans (HC0.out.mono HBr.out.size)⟩
              have hemp : xi.isEmpty = false := by cases xi with
                | nil => exact absurd rfl hxn
                | cons a t => rfl
              have emp : (bstr xi).toList.isEmpty = false := (Wr.emp _).trans hemp
              rw [hemp] at HE1
              clear hxn hemp
              obtain ⟨C0, hC0⟩ : ∃ W, wr.alloc (.cells #[.string (bstr xi), .string (bstr xt), .string (bstr xl), .string (bstr xa), .string (bstr xc), .bool xk, .int .i64 xs] 36) = W := ⟨_, rfl⟩
              have HC0e := hide hC0
              rw [hC0] at HK0 HC0 hk0
              clear hC0
              go_wp2_with fail
              refine (HJ1.out _).mono ?_
              rintro e c1 ⟨rfl, hb⟩
              rw [HC0e.out] at hb
              have HK1 := hide (HK0.out.go hb)
              have HC1 := hide (HC0.out.trans (hb.mono HC0.out.size))
              clear hb hk0 x0 x1 x2 x3 x4 x5 x6 t5
              cases hq1 : Tx.isLine xi with
              | false =>
                rw [hq1] at HE1
                have hv : mv = false := HEnd.out (by have := HE1.out; simpa using this)
                subst hv
                clear hq1
                dsimp only
                go_wp2
                go_ret
                exact ⟨rfl, HBr.out.trans (HC1.out.mono HBr.out.size)⟩
              | true =>
                rw [hq1] at HE1
                clear hq1
                dsimp only
                have e1 := HK1.out.cell 1
                go_wp2_with fail
                refine (HJ2.out _).mono ?_
                rintro e c2 ⟨rfl, hb⟩
                have HK2 := hide (HK1.out.go hb)
                have HC2 := hide (HC1.out.trans (hb.mono HC1.out.size))
                clear hb e1
                cases hq2 : Tx.isLine xt with
                | false =>
                  rw [hq2] at HE1
                  have hv : mv = false := HEnd.out (by have := HE1.out; simpa using this)
                  subst hv
                  clear hq2
                  dsimp only
                  go_wp2
                  go_ret
                  exact ⟨rfl, HBr.out.trans (HC2.out.mono HBr.out.size)⟩
                | true =>
                  rw [hq2] at HE1
                  clear hq2
                  dsimp only
                  have e2 := HK2.out.cell 2
                  go_wp2_with fail
                  refine (HJ3.out _).mono ?_
                  rintro e c3 ⟨rfl, hb⟩
                  have HK3 := hide (HK2.out.go hb)
                  have HC3 := hide (HC2.out.trans (hb.mono HC2.out.size))
                  clear hb e2
                  cases hq3 : Tx.isLine xl with
                  | false =>
                    rw [hq3] at HE1
                    have hv : mv = false := HEnd.out (by have := HE1.out; simpa using this)
                    subst hv
                    clear hq3
                    dsimp only
                    go_wp2
                    go_ret
                    exact ⟨rfl, HBr.out.trans (HC3.out.mono HBr.out.size)⟩
                  | true =>
                    rw [hq3] at HE1
                    clear hq3
                    dsimp only
                    have e3 := HK3.out.cell 3
                    go_wp2_with fail
                    refine (HJ4.out _).mono ?_
                    rintro e c4 ⟨rfl, hb⟩
                    have HK4 := hide (HK3.out.go hb)
                    have HC4 := hide (HC3.out.trans (hb.mono HC3.out.size))
                    clear hb e3
                    cases hq4 : Tx.isLine xa with
                    | false =>
                      rw [hq4] at HE1
                      have hv : mv = false := HEnd.out (by have := HE1.out; simpa using this)
                      subst hv
                      clear hq4
                      dsimp only
                      go_wp2
                      go_ret
                      exact ⟨rfl, HBr.out.trans (HC4.out.mono HBr.out.size)⟩
                    | true =>
                      rw [hq4] at HE1
                      clear hq4
                      dsimp only
                      have e4 := HK4.out.cell 4
                      go_wp2_with fail
                      refine (HJ5.out _).mono ?_
                      rintro e c5 ⟨rfl, hb⟩
                      have HK5 := hide (HK4.out.go hb)
                      have HC5 := hide (HC4.out.trans (hb.mono HC4.out.size))
                      clear hb e4
                      cases hq5 : Tx.isBlock xc with
                      | false =>
                        rw [hq5] at HE1
                        have hv : mv = false := HEnd.out (by have := HE1.out; simpa using this)
                        subst hv
                        clear hq5
                        dsimp only
                        go_wp2
                        go_ret
                        exact ⟨rfl, HBr.out.trans (HC5.out.mono HBr.out.size)⟩
                      | true =>
                        rw [hq5] at HE1
                        clear hq5
                        dsimp only
                        have e5 := HK5.out.cell 5
                        have e6 := HK5.out.cell 6
                        go_wp2_with fail
                        refine (HJ6.out _).mono ?_
                        rintro e c6 ⟨rfl, hb⟩
                        have HK6 := hide (HK5.out.go hb)
                        have HC6 := hide (HC5.out.trans (hb.mono HC5.out.size))
                        clear hb e5 e6
                        cases hq6 : whenP xk xs with
                        | false =>
                          rw [hq6] at HE1
                          have hv : mv = false := HEnd.out (by have := HE1.out; simpa using this)
                          subst hv
                          clear hq6
                          dsimp only
                          go_wp2
                          go_ret
                          exact ⟨rfl, HBr.out.trans (HC6.out.mono HBr.out.size)⟩
                        | true =>
                          rw [hq6] at HE1
                          clear hq6
                          dsimp only
                          have HE2 := hide (show me = !seen.contains xi by have := HE1.out; simpa using this)
                          have HB6 := hide (HBr.out.trans (HC6.out.mono HBr.out.size))
                          have HT6 := hide (HTr.out.go HC6.out)
                          have Hbw7 := hide (Hbw.out.trans (HC6.out.mono Hbw.out.size))
                          have HK := HK6
                          clear HK0 HK1 HK2 HK3 HK4 HK5 HK6 HC0 HC1 HC2 HC3 HC4 HC5 HC6 HJ1 HJ2 HJ3 HJ4 HJ5 HJ6 HC0e HE1 Hox
                          go_wp2
                          rename World => wo
                          go_loopg [5] i (fun gq v5 wr2 => ∃ (j : Nat), v5 = .int .i64 (j : Int) ∧ gq = i - j ∧ j ≤ i ∧ (∀ k y, k < j → es[k]? = some y → y.id ≠ xi) ∧ Below wo.heap.size wo wr2)
                          case atStart => exact ⟨0, rfl, rfl, by omega, fun k y h => absurd h (by omega), Below.refl _ _⟩
                          case round =>
                            obtain ⟨j, rfl, hgq, hji, hno, hb2⟩ := hrel
                            have Hgq := hide hgq
                            have HNo := hide hno
                            have HB2' := hide hb2
                            have HB7 := hide (HB6.out.trans (hb2.mono HB6.out.size))
                            clear hgq hno hb2
                            by_cases hjlt : j < i
                            · have hjl : j < es.length := by omega
                              have hRw : Reads wr B 7 (some ⟨b, off, none⟩) es.length (entVs es) := by
                                rw [Hn.out]
                                exact HRd.out.keep fun p hp => World.cell?_of_block (HB7.out.block _ (by omega))
                              obtain ⟨b2, off2, eA, hbB2, hy⟩ := hRw.ent hjl
                              cases eA
                              have Hyj := hide (show es[j]? = some es[j] from List.getElem?_eq_getElem hjl)
                              obtain ⟨y, hye⟩ : ∃ y, es[j] = y := ⟨_, rfl⟩
                              rw [hye] at hy Hyj
                              have y0 := hy.c0
                              have t5 := (HT6.out.go HB2'.out).cell 5
                              have hk0 := (HK.out.go HB2'.out).cell 0
                              have hjj : (0 : Int) ≤ j ∧ (j : Int) < n := by omega
                              clear hy hye hRw hbB2
                              obtain ⟨yi, yt, yl, ya, yc, yk, ys⟩ := y
                              dsimp only at y0
                              by_cases heq : yi = xi
                              · have hv : mv = false := HEnd.out (by rw [HE2.out, HSyes.out j xi _ hjlt Hyj.out heq]; rfl)
                                subst hv
                                subst heq
                                go_wp2_with fail
                                go_quiet (fail)
                                go_wp2
                                go_ret
                                exact ⟨rfl, HB7.out.os, HB7.out.tape, HB7.out.output, HB7.out.size, HB7.out.block⟩
                              · have hbq := bstr_beq heq
                                have Hne := hide heq
                                clear heq
                                go_wp2_with fail
                                go_quiet (fail)
                                go_wp2
                                go_roundg (i - (j + 1))
                                case measure => have := Hgq.out; omega
                                case rel =>
                                  refine ⟨j + 1, by first | rfl | go_num, rfl, by omega, fun k y hk hy => ?_, HB2'.out.os, HB2'.out.tape, HB2'.out.output, HB2'.out.size, HB2'.out.block⟩
                                  by_cases hkj : k = j
                                  · subst hkj
                                    rw [Hyj.out] at hy
                                    cases hy
                                    exact Hne.out
                                  · exact HNo.out k y (by omega) hy
                            · have hji2 : j = i := by omega
                              subst hji2
                              have hme : me = true := by rw [HE2.out, HSno.out xi HNo.out]; rfl
                              subst hme
                              go_wp2
                              go_roundg (n - (j + 1))
                              case measure => have := Hgk.out; omega
                              case rel =>
                                refine ⟨j + 1, by first | rfl | go_num, rfl, by omega, by rw [Htk.out, HNext.out]; rfl, ?_⟩
                                exact Hbw7.out.trans (HB2'.out.mono Hbw7.out.size)
            · have hi' : i = n := by omega
              have hd : es.drop i = [] := List.drop_eq_nil_of_le (by rw [Hn.out]; omega)
              have hv : mv = true := by rw [HEq.out, hd]; rfl
              subst hv
              clear hd
              subst hi'
              go_wp2
              go_ret
              exact ⟨rfl, HBr.out⟩
end Go.Proofs.YtlcfakmbcfdgbaaGreat
