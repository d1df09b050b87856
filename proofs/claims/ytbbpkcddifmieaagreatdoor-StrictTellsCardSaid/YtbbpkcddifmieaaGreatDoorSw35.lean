/- The document's strict: attrs. (Printed by wip/genSuH.py.) -/
import Derived.Test.YtbbpkcddifmieaaGreatDoorSw27
import Derived.Test.YtbbpkcddifmieaaGreatDoorSw34
set_option linter.unusedSimpArgs false
set_option linter.unusedVariables false
namespace Go.Proofs.YtbbpkcddifmieaaGreatDoor
section
open Go.RowKit Tk Sx

def DatR (w : World) (sc : List Dcl) (as_ : List At) (e : Ending) (w' : World) : Prop := Below w.heap.size w w' ∧ ∃ A n c, e = .returned (.tuple #[.slice A n c, .int .i64 (optN (attrsAt sc [] (as_.map valued)))]) ∧
 (attrsAt sc [] (as_.map valued) = none → n = (attrsOf sc (as_.map valued)).length ∧ w'.ownsRow w.heap.size 49 3 (.slice A (attrsOf sc (as_.map valued)).length c) (attrsOf sc (as_.map valued)).length (atts (attrsOf sc (as_.map valued))))
theorem attrsAt_more {sc : List Dcl} {l r : List Spl} {x : Nat} : ∀ {seen : List Nm}, attrsAt sc seen l = some x → attrsAt sc seen (l ++ r) = some x := by
 induction l with
 | nil => intro seen h; cases h
 | cons y l ih =>
  intro seen h;rw [List.cons_append, attrsAt];rw [attrsAt] at h;split
  ·rename_i hc; rw [if_pos hc] at h; exact ih h
  rename_i hc
  rw [if_neg hc] at h;split
  ·rename_i hd; rw [if_pos hd] at h; exact h
  rename_i hd; rw [if_neg hd] at h; exact ih h
theorem att_cells {w : World} {B g c n k : Nat} {l : List Att} {x : Att} (h : w.ownsRow B 49 3 (.slice (some ⟨g, 0, none⟩) n c) n (atts l)) (hn : l.length = n) (hx : l[k]? = some x) : ∀ j, j < 3 → w.cell? ⟨g, k * 3 + j, none⟩ = (attCells x)[j]? := fun j hj => by
 obtain ⟨h1, h2⟩ := List.getElem?_eq_some_iff.1 hx;rw [h.cellAt (k * 3 + j) (by omega)];unfold atts;rw [fm_at (m := 3) (fun _ => rfl) l k h1 j hj, h2]
theorem nm_pre (sc : List Dcl) (a : At) : attSp sc (valued a) = if preN a.name = [] then ([], true) else spaceOf sc (preN a.name) := by
 unfold attSp;rw [show (valued a).pre = preN a.name from splOf_pre a]
theorem nm_is (sc : List Dcl) (a : At) : attNm sc (valued a) = ⟨(attSp sc (valued a)).1, locN a.name⟩ := by
 unfold attNm;rw [show (valued a).loc = locN a.name from splOf_locN a]

set_option maxRecDepth 100000 in
set_option maxHeartbeats 64000000 in
theorem dattrs_any (B P base : Nat) (w : World) (d : Dst) (v : Dv) (t : Tok) (A Al : Option Addr) (c cl : Nat) (h : PD B P w d none v) (hB : B ≤ w.heap.size) (hr : Reads w B 3 A t.attrs.length (gas (t.attrs.map At.g))) (hs : TokS 100000 t)
  (hl : w.ownsRow base 9 1 (.slice Al t.attrs.length cl) t.attrs.length (strRow (t.attrs.map Sx.valOf))) (hsc : d.scope.length ≤ 1000000000) :
  Calls Tryz.prog 92 #[.pointer (some ⟨P, 0, none⟩), .agg (tokC t A c), .slice Al t.attrs.length cl] w (DatR w d.scope t.attrs) := by
 have KT := hide (Blk.new w 64 (tokC t A c));have BT := hide (below_alloc w (.cells (tokC t A c) 64));have HD := hide (fun (a : At) (h : a ∈ t.attrs) W => ddeclares_any a.name W (Nat.le_trans (hs.an a h).1 (by decide)));have HS := hide (fun (a : At) (h : a ∈ t.attrs) W => refSplit_any a.name W (Nat.le_trans (hs.an a h).1 (by decide)));have HP := hide (fun (p : L) (W : World) (h : Reads W W.heap.size 2 v.As d.scope.length (dcls d.scope)) => refSpace15_any v.As v.cs W.heap.size d.scope p W h hsc);have H := hide h;have HB := hide hB;have Hr := hide hr;obtain ⟨na, hna⟩ : ∃ na, t.attrs.length = na := ⟨_, rfl⟩;have Hna := hide hna;have Hnal := hide (show na ≤ 100000 by rw [← hna]; exact hs.ats);obtain ⟨T, hT⟩ : ∃ T, w.heap.size = T := ⟨_, rfl⟩;have HT := hide hT;obtain ⟨ss, hss⟩ : ∃ ss, t.attrs.map valued = ss := ⟨_, rfl⟩;have Hss := hide hss;obtain ⟨sc, hscE⟩ : ∃ sc, d.scope = sc := ⟨_, rfl⟩;have HscE := hide hscE;rw [hna] at hl ⊢;have Hl := hide (own_go hl BT.out);have H0 := hide (H.out.go BT.out);have KT0 := hide (show Blk (w.alloc (.cells (tokC t A c) 64)) T 64 (tokC t A c) by rw [← HT.out]; exact KT.out);obtain ⟨W0, hW0⟩ : ∃ W0, w.alloc (.cells (tokC t A c) 64) = W0 := ⟨_, rfl⟩;rw [hW0] at H0 KT0 BT Hl;have HBT := hide BT.out;have Hr0 := hide (Hr.out.below (BT.out.mono HB.out));have HB0 := hide (Nat.le_trans HB.out BT.out.size)
 clear h hB hr hs hl hsc hss;rw [hscE];rw [hscE] at HP;unfold tokC;rw [hna];unfold tokC at hW0;rw [hna] at hW0;clear hna hscE
 go_enter Tryz.func92, Tryz.ntmps92
 go_wp2;(try rw [hW0]);clear hW0
 go_loopg [8, 9] na (fun gk vo vk wr => ∃ (i : Nat) (Ar : Option Addr) (cr m : Nat), gk = na - i ∧ i ≤ na ∧ vk = .int .i64 (i : Int) ∧ vo = .slice Ar m cr ∧ (attrsOf sc (ss.take i)).length = m ∧ Below W0.heap.size W0 wr ∧ attrsAt sc [] (ss.take i) = none ∧
  wr.ownsRow W0.heap.size 49 3 (.slice Ar m cr) m (atts (attrsOf sc (ss.take i))))
 case atStart => exact ⟨0, none, 0, 0, rfl, Nat.zero_le _, rfl, rfl, rfl, Below.refl _ _, rfl, World.ownsRow_nil _ _ _ _⟩
 case round =>
  obtain ⟨i, Ar, cr, m, hgi, hi, rfl, rfl, hm, hb, hno, hown⟩ := hrel;have Hgi := hide hgi;have Hm := hide hm;have Hb := hide hb;have Hno := hide hno;have Hown := hide hown;have KW := hide (KT0.out.go hb);have x2 := KW.out.cell 2;dsimp only [tokC] at x2;rw [Hna.out] at x2;have hss2 : ss.length = na := by rw [← Hss.out, List.length_map, Hna.out]
  have Hml := hide (show m ≤ 100000 by rw [← hm]; have := attrsOf_len sc (ss.take i); rw [List.length_take] at this; have := Hnal.out; omega);clear hgi hm hb hno hown
  by_cases hlt : i < na
  ·obtain ⟨a, ha⟩ : ∃ a, t.attrs[i]? = some a := ⟨_, List.getElem?_eq_getElem (by rw [Hna.out]; exact hlt)⟩;have hsi : ss[i]? = some (valued a) := by rw [← Hss.out, List.getElem?_map, ha]; rfl
   have hsl : i < ss.length := (List.getElem?_eq_some_iff.1 hsi).1;obtain ⟨ab, ao, hA, hab, ga0⟩ := attr_at Hr0.out ha;subst hA;have HGa := hide (fun (W : World) (hW : Below W0.heap.size W0 W) (j : Nat) => hW.cell (p := ⟨ab, j, none⟩) (by show ab < _; have := HB0.out; omega));have g0 : wr.cell? ⟨ab, ao + i * 3, none⟩ = some (.string (bstr a.name)) := (HGa.out _ Hb.out _).trans ga0.c0;have G0 := hide (show W0.cell? ⟨ab, ao + i * 3, none⟩ = some (.string (bstr a.name)) from ga0.c0);have G2 := hide (show W0.cell? ⟨ab, ao + i * 3 + 2, none⟩ = some (.int .i64 (a.at_ : Int)) from ga0.c2);have HDa := hide (HD.out a (List.mem_of_getElem? ha));have HSa := hide (HS.out a (List.mem_of_getElem? ha));rw [splV_is] at HSa;have hsp : ss.take (i + 1) = ss.take i ++ [valued a] := by rw [List.take_succ_eq_append_getElem hsl, (List.getElem?_eq_some_iff.1 hsi).2]
   have HOf := hide (show attrsOf sc (ss.take (i + 1)) = attrsOf sc (ss.take i) ++ (if (decN a.name).2 then [] else [⟨attNm sc (valued a), Sx.valOf a⟩]) by rw [hsp, attrsOf_snoc, decN_is]; rfl);have HAt := hide (show attrsAt sc [] (ss.take (i + 1)) = if (decN a.name).2 then none else if (attSp sc (valued a)).2 = false ∨ attNm sc (valued a) ∈ (attrsOf sc (ss.take i)).map (·.name) then some a.at_ else none by rw [hsp, attrsAt_snoc, Hno.out, Option.none_or, decN_is]; rfl);have HNm := hide (nm_is sc a);have HSp := hide (nm_pre sc a);have hwk : IntKind.i64.wrap ((i : Int) + 1) = (i : Int) + 1 := IntWalk.i64_in _ (by have := Hnal.out; omega)
   have HMore := hide (show ∀ x, attrsAt sc [] (ss.take (i + 1)) = some x → attrsAt sc [] ss = some x from fun x h => by
    rw [← List.take_append_drop (i + 1) ss]; exact attrsAt_more h)
   obtain ⟨g', hAl, lc0, -, -⟩ := str_cell (k := i) (x := Sx.valOf a) Hl.out (by rw [List.length_map, Hna.out]) (by rw [List.getElem?_map, ha]; rfl);subst hAl;have LC := hide lc0;obtain ⟨⟨dp, is⟩, hd⟩ : ∃ x, decN a.name = x := ⟨_, rfl⟩;rw [hd] at HOf HAt HDa;dsimp only at HOf HAt;unfold spV at HDa;dsimp only at HDa;clear hd ga0 ha hsi hsl hsp lc0
   cases is with
   | true =>
    go_wp2_with fail
    refine (HDa.out _).mono ?_;rintro e w2 ⟨rfl, b2⟩;have B2 := hide (Hb.out.trans (b2.mono Hb.out.size));have O2 := hide (own_go Hown.out b2);clear b2;go_wp2
    go_roundg (na - (i + 1))
    case measure => have := Hgi.out; omega
    case rel => exact ⟨i + 1, Ar, cr, m, rfl, by omega, by first | rfl | go_num, rfl, by rw [HOf.out]; simpa using Hm.out, B2.out, by rw [HAt.out]; simp, by rw [HOf.out]; simpa using O2.out⟩
   | false =>
    simp only [Bool.false_eq_true, if_false] at HOf HAt;have hpe := isE (preN a.name);have hpe2 := eqE (preN a.name);obtain ⟨pr, hpr⟩ : ∃ pr, preN a.name = pr := ⟨_, rfl⟩;obtain ⟨lo, hlo⟩ : ∃ lo, locN a.name = lo := ⟨_, rfl⟩;rw [hpr] at HSa HSp hpe hpe2;rw [hlo] at HSa HNm;obtain ⟨nm, hnm⟩ : ∃ nm, attNm sc (valued a) = nm := ⟨_, rfl⟩;rw [hnm] at HNm HAt HOf;clear hpr hlo hnm
    go_wp2_with fail
    refine (HDa.out _).mono ?_;rintro e w2 ⟨rfl, b2⟩;have B2 := hide (Hb.out.trans (b2.mono Hb.out.size));have O2 := hide (own_go Hown.out b2);replace g0 : w2.cell? ⟨ab, ao + i * 3, none⟩ = some (.string (bstr a.name)) := (HGa.out _ B2.out _).trans G0.out;replace x2 := (KW.out.go b2).cell 2;dsimp only [tokC] at x2;rw [Hna.out] at x2;clear b2
    go_wp2_with fail
    refine (HSa.out _).mono ?_;rintro e w3 ⟨rfl, b3⟩;have B3 := hide (B2.out.trans (b3.mono B2.out.size));have O3 := hide (own_go O2.out b3);have NK := hide (Blk.new w3 39 #[.string ⟨#[]⟩, .string (bstr lo)]);have NB := hide (below_alloc w3 (.cells #[.string ⟨#[]⟩, .string (bstr lo)] 39));have B4 := hide (B3.out.trans (NB.out.mono B3.out.size));have O4 := hide (own_go O3.out NB.out);clear b3 g0 x2
    by_cases hp0 : pr = []
    ·rw [decide_eq_true hp0] at hpe hpe2;rw [if_pos hp0] at HSp;have Hnm2 := hide (show nm = ⟨[], lo⟩ by rw [HNm.out, HSp.out]);have Hok := hide (show (attSp sc (valued a)).2 = true by rw [HSp.out]);have NN := hide (show Blk (w3.alloc (.cells #[.string ⟨#[]⟩, .string (bstr lo)] 39)) w3.heap.size 39 #[.string (bstr nm.ns), .string (bstr nm.loc)] by rw [Hnm2.out]; exact NK.out);have B5 := hide B4.out;have O5 := hide O4.out;clear hp0;go_wp2;obtain ⟨w5, hw5⟩ : ∃ w5, w3.alloc (.cells #[.string ⟨#[]⟩, .string (bstr lo)] 39) = w5 := ⟨_, rfl⟩;rw [hw5] at NN B5 O5 ⊢;obtain ⟨N, hN⟩ : ∃ N, w3.heap.size = N := ⟨_, rfl⟩;rw [hN] at NN ⊢;clear hw5 hN;obtain ⟨out, hout⟩ : ∃ out, attrsOf sc (ss.take i) = out := ⟨_, rfl⟩;rw [hout] at HOf HAt Hm O5;have HNlt := hide (show W0.heap.size ≤ w5.heap.size from B5.out.size);clear hout
     go_loopg [18] m (fun gk vk wr2 => ∃ k : Nat, gk = m - k ∧ k ≤ m ∧ vk = .int .i64 (k : Int) ∧ Below w5.heap.size w5 wr2 ∧ ∀ j y, j < k → out[j]? = some y → y.name ≠ nm)
     case atStart => exact ⟨0, rfl, Nat.zero_le _, rfl, Below.refl _ _, fun j y hj => by omega⟩
     case round =>
      obtain ⟨k, hgk, hk, rfl, hb6, hne⟩ := hrel;have Hgk := hide hgk;have Hne := hide hne;have B6 := hide (B5.out.trans (hb6.mono HNlt.out));have NN6 := hide (NN.out.go hb6);have O6 := hide (own_go O5.out hb6);have HB6 := hide hb6;have y0 := NN6.out.cell 0;have y1 := NN6.out.cell 1;clear hgk hb6 hne
      by_cases hlk : k < m
      ·obtain ⟨y, hy⟩ : ∃ y, out[k]? = some y := ⟨_, List.getElem?_eq_getElem (by rw [Hm.out]; exact hlk)⟩;obtain ⟨og, oc, hov, -, -⟩ := O6.out.form (by omega);have hAr : Ar = some ⟨og, 0, none⟩ := by injection hov
       subst hAr;have hoc := att_cells O6.out Hm.out hy;have o0 : wr.cell? ⟨og, k * 3, none⟩ = some (.string (bstr y.name.ns)) := hoc 0 (by omega);have o1 : wr.cell? ⟨og, k * 3 + 1, none⟩ = some (.string (bstr y.name.loc)) := hoc 1 (by omega);have hq1 := beq_bstr y.name.ns nm.ns;have hq2 := beq_bstr y.name.loc nm.loc;have hwj : IntKind.i64.wrap ((k : Int) + 1) = (k : Int) + 1 := IntWalk.i64_in _ (by have := Hml.out; omega);have Hy := hide hy;clear hy hoc hov
       by_cases he : y.name = nm
       ·have hmem : nm ∈ out.map (·.name) := List.mem_map.2 ⟨y, List.mem_of_getElem? Hy.out, he⟩;have Hst := hide (HMore.out a.at_ (by rw [HAt.out, if_pos (.inr hmem)]));clear hmem;rw [show decide (y.name.ns = nm.ns) = true from decide_eq_true (by rw [he])] at hq1;rw [show decide (y.name.loc = nm.loc) = true from decide_eq_true (by rw [he])] at hq2;have x2 := (KT0.out.go B6.out).cell 2;dsimp only [tokC] at x2;rw [Hna.out] at x2;have g2 : wr.cell? ⟨ab, ao + i * 3 + 2, none⟩ = some (.int .i64 (a.at_ : Int)) := (HGa.out _ B6.out _).trans G2.out;have B7 := hide (HBT.out.trans (B6.out.mono HBT.out.size));clear he;go_wp2
        go_quiet (fail)
        go_wp2
        go_quiet (fail)
        go_wp2;go_ret2;unfold DatR;rw [Hss.out, Hst.out];exact ⟨below_drewN (below_drewN B7.out _) _, none, 0, 0, rfl, fun h => by cases h⟩
       have He := hide he
       have next : Hid (∀ j u, j < k + 1 → out[j]? = some u → u.name ≠ nm) := hide fun j u hj hju => by
        by_cases hjk : j = k
        ·subst hjk;rw [Hy.out] at hju;rw [← Option.some.inj hju];exact He.out
        exact Hne.out j u (by omega) hju
       by_cases h1 : y.name.ns = nm.ns
       ·have h2 : ¬ y.name.loc = nm.loc := fun h2 => he (by
         obtain ⟨⟨a1, a2⟩, a3⟩ := y;obtain ⟨b1, b2⟩ := nm;dsimp only at h1 h2;rw [h1, h2])
        rw [decide_eq_true h1] at hq1;rw [decide_eq_false h2] at hq2;clear he h1 h2;go_wp2
        go_quiet (fail)
        go_wp2
        go_roundg (m - (k + 1))
        case measure => have := Hgk.out; omega
        case rel => exact ⟨k + 1, rfl, by omega, by first | rfl | go_num, below_drewN HB6.out _, next.out⟩
       rw [decide_eq_false h1] at hq1;clear he h1;go_wp2
       go_quiet (fail)
       go_wp2
       go_roundg (m - (k + 1))
       case measure => have := Hgk.out; omega
       case rel => exact ⟨k + 1, rfl, by omega, by first | rfl | go_num, below_drewN HB6.out _, next.out⟩
      have hkm : k = m := by omega
      subst hkm
      have Hnx := hide (show attrsAt sc [] (ss.take (i + 1)) = none by
       rw [HAt.out, if_neg];rintro (h | h)
       ·rw [Hok.out] at h; cases h
       obtain ⟨y, hy, hye⟩ := List.mem_map.1 h;obtain ⟨j, hj⟩ := List.getElem?_of_mem hy;exact Hne.out j y (by rw [← Hm.out]; exact (List.getElem?_eq_some_iff.1 hj).1) hj hye)
      have Y0 := hide y0;have Y1 := hide y1;have lc : wr.cell? ⟨g', i, none⟩ = some (.string (bstr (Sx.valOf a))) := (B6.out.cell (lt_of_cell LC.out)).trans LC.out;have LC6 := hide lc;have BX := hide (show Below wr.heap.size wr (wr.drew.alloc (.cells (attCells ⟨nm, Sx.valOf a⟩).toArray 49)) from (Below.refl _ _).drew.alloc (Nat.le_refl _) _);have KX := hide (show Blk (wr.drew.alloc (.cells (attCells ⟨nm, Sx.valOf a⟩).toArray 49)) wr.heap.size 49 (attCells ⟨nm, Sx.valOf a⟩).toArray from Blk.new wr.drew 49 _);have KL := hide (own_isT (own_go Hl.out B6.out) g' rfl).2;clear y0 y1 lc;go_wp2;refine wp_region_held_drew (S := fun W' => W'.cell? ⟨N, 0, none⟩ = some (.string (bstr nm.ns)) ∧ W'.cell? ⟨N, 1, none⟩ = some (.string (bstr nm.loc)) ∧ W'.cell? ⟨g', i, none⟩ = some (.string (bstr (Sx.valOf a)))) (by kernel_rfl) ?_ (fun hHeld => ?_)
      ·(try dsimp only);exact ⟨Y0.out, Y1.out, LC6.out⟩
      change wpAnyH _ _ _ _ _ 10 #[false, false, false, false, false, false, false, false, false, false] _ _;iterate 7 (refine nxT (v := ?_) rfl rfl hHeld ?_ ?_; rotate_left; (· (intro w' hSw; obtain ⟨z0, z1, z2⟩ := hSw; go_simp; try with_reducible rfl)); (try simp only [nx, List.set]))
      refine held_call (i := 7) rfl (by kernel_rfl) (by kernel_rfl) (fun K hK => ?_);go_simp;(try dsimp only);refine hK.out _ _ ?_ (fun hHeld' => ?_)
      ·(try dsimp only);exact ⟨(BX.out.cell (lt_of_cell Y0.out)).trans Y0.out, (BX.out.cell (lt_of_cell Y1.out)).trans Y1.out, (BX.out.cell (lt_of_cell LC6.out)).trans LC6.out⟩
      clear hK K hHeld;have hHeld := hHeld';clear hHeld';(try simp only [Act.put, List.setIfInBounds_toArray, List.set_cons_zero, List.set_cons_succ]);refine held_call (i := 8) rfl (by kernel_rfl) (by kernel_rfl) (fun K hK => ?_);refine oper_append_elem _ (by rfl) _ _ _ (by rfl) W0.heap.size 49 _ 3 48 Tryz.underlying41 info_atr (by rfl) (by omega) (.slice Ar k cr) k (atts out) (by rfl) (own_go O6.out BX.out) (attCells ⟨nm, Sx.valOf a⟩) rfl (attc_one _) wr.heap.size KX.out (by rfl) (by unfold maxLen; have := Hml.out; omega) (by have := Hml.out; omega) (Nat.le_trans B6.out.size BX.out.size) ?_;intro g8 cap8 w10 hown8 hgrow8 hlt8;have HO8 := hide hown8;have HG8 := hide hgrow8;have MT10 := hide (show MovT W0.heap.size 49 wr w10 from (MovT.of_below BX.out).trans (.grown hgrow8 fun j hj => own_isT (own_go O6.out BX.out) j hj));clear hown8 hgrow8 hlt8;(try dsimp only);have N10 := hide (MT10.out.blk NN6.out (by decide));have lc' : w10.cell? ⟨g', i, none⟩ = some (.string (bstr (Sx.valOf a))) := (World.cell?_of_block (a := ⟨g', i, none⟩) (MT10.out.block g' KL.out.lt (fun hh => isT_ne KL.out hh.2 (by decide)))).trans LC6.out;refine hK.out _ _ ?_ (fun hHeld' => ?_)
      ·(try dsimp only);exact ⟨N10.out.cell 0, N10.out.cell 1, lc'⟩
      clear hK K hHeld;have hHeld := hHeld';clear hHeld';(try simp only [Act.put, List.setIfInBounds_toArray, List.set_cons_zero, List.set_cons_succ]);(refine nxT (v := ?_) rfl rfl hHeld ?_ ?_; rotate_left; (· (intro w' hSw; obtain ⟨z0, z1, z2⟩ := hSw; go_simp; try with_reducible rfl)); (try simp only [nx, List.set]));refine wpAnyH_done (by kernel_rfl) ?_ _;have B10 := hide (B6.out.trans (MT10.out.below (C := W0.heap.size) (Nat.le_refl _) B6.out.size));clear lc';go_wp2
      go_roundg (na - (i + 1))
      case measure => have := Hgi.out; omega
      case rel =>
       have e2 : (attrsOf sc (ss.take (i + 1))).length = k + 1 := by rw [HOf.out, List.length_append, Hm.out]; rfl
       exact ⟨i + 1, _, _, k + 1, rfl, by omega, by first | rfl | go_num, rfl, e2, B10.out, Hnx.out, by rw [HOf.out, atts_snoc]; exact HO8.out⟩
    rw [decide_eq_false hp0] at hpe hpe2;rw [if_neg hp0] at HSp;have I4 := hide (H0.out.go B4.out);have c1 := I4.out.cell.2.1;(try dsimp only at c1);rw [HscE.out] at c1;have HPa := hide (HP.out pr (w3.alloc (.cells #[.string ⟨#[]⟩, .string (bstr lo)] 39)) (by have := Reads.of_own I4.out.s; (try dsimp only at this); rwa [HscE.out] at this));obtain ⟨⟨sps, spo⟩, hsx⟩ : ∃ x, spaceOf sc pr = x := ⟨_, rfl⟩;rw [hsx] at HPa HSp;unfold spV at HPa;dsimp only at HPa;clear hsx hp0
    cases spo with
    | false =>
     have Hst := hide (HMore.out a.at_ (by rw [HAt.out, if_pos (.inl (by rw [HSp.out]))]));have x2 := (KT0.out.go B4.out).cell 2;dsimp only [tokC] at x2;rw [Hna.out] at x2;have g2 : (w3.alloc (.cells #[.string ⟨#[]⟩, .string (bstr lo)] 39)).cell? ⟨ab, ao + i * 3 + 2, none⟩ = some (.int .i64 (a.at_ : Int)) := (HGa.out _ B4.out _).trans G2.out;have B5 := hide (HBT.out.trans (B4.out.mono HBT.out.size))
     go_wp2_with fail
     refine cq HPa.out ?_;go_wp2
     go_quiet (fail)
     go_wp2;go_ret2;unfold DatR;rw [Hss.out, Hst.out];exact ⟨below_drewN B5.out _, none, 0, 0, rfl, fun h => by cases h⟩
    | true =>
     have Hnm2 := hide (show nm = ⟨sps, lo⟩ by rw [HNm.out, HSp.out]);have Hok := hide (show (attSp sc (valued a)).2 = true by rw [HSp.out]);have n0 := NK.out.cell 0;have fn0 := NK.out.frozen 0
     go_wp2_with fail
     refine cq HPa.out ?_;have NN := hide (show Blk (w3.alloc (.cells #[.string (bstr sps), .string (bstr lo)] 39)) w3.heap.size 39 #[.string (bstr nm.ns), .string (bstr nm.loc)] by rw [Hnm2.out]; exact Blk.new w3 39 #[.string (bstr sps), .string (bstr lo)]);have NB5 := below_alloc w3 (.cells #[.string (bstr sps), .string (bstr lo)] 39);have B5 := hide (B3.out.trans (NB5.mono B3.out.size));have O5 := hide (own_go O3.out NB5);clear NB5;clear c1;go_wp2;obtain ⟨w5, hw5⟩ : ∃ w5, w3.alloc (.cells #[.string (bstr sps), .string (bstr lo)] 39) = w5 := ⟨_, rfl⟩;rw [hw5] at NN B5 O5 ⊢;obtain ⟨N, hN⟩ : ∃ N, w3.heap.size = N := ⟨_, rfl⟩;rw [hN] at NN n0 fn0 ⊢;clear hw5 hN n0 fn0;obtain ⟨out, hout⟩ : ∃ out, attrsOf sc (ss.take i) = out := ⟨_, rfl⟩;rw [hout] at HOf HAt Hm O5;have HNlt := hide (show W0.heap.size ≤ w5.heap.size from B5.out.size);clear hout
     go_loopg [18] m (fun gk vk wr2 => ∃ k : Nat, gk = m - k ∧ k ≤ m ∧ vk = .int .i64 (k : Int) ∧ Below w5.heap.size w5 wr2 ∧ ∀ j y, j < k → out[j]? = some y → y.name ≠ nm)
     case atStart => exact ⟨0, rfl, Nat.zero_le _, rfl, Below.refl _ _, fun j y hj => by omega⟩
     case round =>
      obtain ⟨k, hgk, hk, rfl, hb6, hne⟩ := hrel;have Hgk := hide hgk;have Hne := hide hne;have B6 := hide (B5.out.trans (hb6.mono HNlt.out));have NN6 := hide (NN.out.go hb6);have O6 := hide (own_go O5.out hb6);have HB6 := hide hb6;have y0 := NN6.out.cell 0;have y1 := NN6.out.cell 1;clear hgk hb6 hne
      by_cases hlk : k < m
      ·obtain ⟨y, hy⟩ : ∃ y, out[k]? = some y := ⟨_, List.getElem?_eq_getElem (by rw [Hm.out]; exact hlk)⟩;obtain ⟨og, oc, hov, -, -⟩ := O6.out.form (by omega);have hAr : Ar = some ⟨og, 0, none⟩ := by injection hov
       subst hAr;have hoc := att_cells O6.out Hm.out hy;have o0 : wr.cell? ⟨og, k * 3, none⟩ = some (.string (bstr y.name.ns)) := hoc 0 (by omega);have o1 : wr.cell? ⟨og, k * 3 + 1, none⟩ = some (.string (bstr y.name.loc)) := hoc 1 (by omega);have hq1 := beq_bstr y.name.ns nm.ns;have hq2 := beq_bstr y.name.loc nm.loc;have hwj : IntKind.i64.wrap ((k : Int) + 1) = (k : Int) + 1 := IntWalk.i64_in _ (by have := Hml.out; omega);have Hy := hide hy;clear hy hoc hov
       by_cases he : y.name = nm
       ·have hmem : nm ∈ out.map (·.name) := List.mem_map.2 ⟨y, List.mem_of_getElem? Hy.out, he⟩;have Hst := hide (HMore.out a.at_ (by rw [HAt.out, if_pos (.inr hmem)]));clear hmem;rw [show decide (y.name.ns = nm.ns) = true from decide_eq_true (by rw [he])] at hq1;rw [show decide (y.name.loc = nm.loc) = true from decide_eq_true (by rw [he])] at hq2;have x2 := (KT0.out.go B6.out).cell 2;dsimp only [tokC] at x2;rw [Hna.out] at x2;have g2 : wr.cell? ⟨ab, ao + i * 3 + 2, none⟩ = some (.int .i64 (a.at_ : Int)) := (HGa.out _ B6.out _).trans G2.out;have B7 := hide (HBT.out.trans (B6.out.mono HBT.out.size));clear he;go_wp2
        go_quiet (fail)
        go_wp2
        go_quiet (fail)
        go_wp2;go_ret2;unfold DatR;rw [Hss.out, Hst.out];exact ⟨below_drewN (below_drewN B7.out _) _, none, 0, 0, rfl, fun h => by cases h⟩
       have He := hide he
       have next : Hid (∀ j u, j < k + 1 → out[j]? = some u → u.name ≠ nm) := hide fun j u hj hju => by
        by_cases hjk : j = k
        ·subst hjk;rw [Hy.out] at hju;rw [← Option.some.inj hju];exact He.out
        exact Hne.out j u (by omega) hju
       by_cases h1 : y.name.ns = nm.ns
       ·have h2 : ¬ y.name.loc = nm.loc := fun h2 => he (by
         obtain ⟨⟨a1, a2⟩, a3⟩ := y;obtain ⟨b1, b2⟩ := nm;dsimp only at h1 h2;rw [h1, h2])
        rw [decide_eq_true h1] at hq1;rw [decide_eq_false h2] at hq2;clear he h1 h2;go_wp2
        go_quiet (fail)
        go_wp2
        go_roundg (m - (k + 1))
        case measure => have := Hgk.out; omega
        case rel => exact ⟨k + 1, rfl, by omega, by first | rfl | go_num, below_drewN HB6.out _, next.out⟩
       rw [decide_eq_false h1] at hq1;clear he h1;go_wp2
       go_quiet (fail)
       go_wp2
       go_roundg (m - (k + 1))
       case measure => have := Hgk.out; omega
       case rel => exact ⟨k + 1, rfl, by omega, by first | rfl | go_num, below_drewN HB6.out _, next.out⟩
      have hkm : k = m := by omega
      subst hkm
      have Hnx := hide (show attrsAt sc [] (ss.take (i + 1)) = none by
       rw [HAt.out, if_neg];rintro (h | h)
       ·rw [Hok.out] at h; cases h
       obtain ⟨y, hy, hye⟩ := List.mem_map.1 h;obtain ⟨j, hj⟩ := List.getElem?_of_mem hy;exact Hne.out j y (by rw [← Hm.out]; exact (List.getElem?_eq_some_iff.1 hj).1) hj hye)
      have Y0 := hide y0;have Y1 := hide y1;have lc : wr.cell? ⟨g', i, none⟩ = some (.string (bstr (Sx.valOf a))) := (B6.out.cell (lt_of_cell LC.out)).trans LC.out;have LC6 := hide lc;have BX := hide (show Below wr.heap.size wr (wr.drew.alloc (.cells (attCells ⟨nm, Sx.valOf a⟩).toArray 49)) from (Below.refl _ _).drew.alloc (Nat.le_refl _) _);have KX := hide (show Blk (wr.drew.alloc (.cells (attCells ⟨nm, Sx.valOf a⟩).toArray 49)) wr.heap.size 49 (attCells ⟨nm, Sx.valOf a⟩).toArray from Blk.new wr.drew 49 _);have KL := hide (own_isT (own_go Hl.out B6.out) g' rfl).2;clear y0 y1 lc;go_wp2;refine wp_region_held_drew (S := fun W' => W'.cell? ⟨N, 0, none⟩ = some (.string (bstr nm.ns)) ∧ W'.cell? ⟨N, 1, none⟩ = some (.string (bstr nm.loc)) ∧ W'.cell? ⟨g', i, none⟩ = some (.string (bstr (Sx.valOf a)))) (by kernel_rfl) ?_ (fun hHeld => ?_)
      ·(try dsimp only);exact ⟨Y0.out, Y1.out, LC6.out⟩
      change wpAnyH _ _ _ _ _ 10 #[false, false, false, false, false, false, false, false, false, false] _ _;iterate 7 (refine nxT (v := ?_) rfl rfl hHeld ?_ ?_; rotate_left; (· (intro w' hSw; obtain ⟨z0, z1, z2⟩ := hSw; go_simp; try with_reducible rfl)); (try simp only [nx, List.set]))
      refine held_call (i := 7) rfl (by kernel_rfl) (by kernel_rfl) (fun K hK => ?_);go_simp;(try dsimp only);refine hK.out _ _ ?_ (fun hHeld' => ?_)
      ·(try dsimp only);exact ⟨(BX.out.cell (lt_of_cell Y0.out)).trans Y0.out, (BX.out.cell (lt_of_cell Y1.out)).trans Y1.out, (BX.out.cell (lt_of_cell LC6.out)).trans LC6.out⟩
      clear hK K hHeld;have hHeld := hHeld';clear hHeld';(try simp only [Act.put, List.setIfInBounds_toArray, List.set_cons_zero, List.set_cons_succ]);refine held_call (i := 8) rfl (by kernel_rfl) (by kernel_rfl) (fun K hK => ?_);refine oper_append_elem _ (by rfl) _ _ _ (by rfl) W0.heap.size 49 _ 3 48 Tryz.underlying41 info_atr (by rfl) (by omega) (.slice Ar k cr) k (atts out) (by rfl) (own_go O6.out BX.out) (attCells ⟨nm, Sx.valOf a⟩) rfl (attc_one _) wr.heap.size KX.out (by rfl) (by unfold maxLen; have := Hml.out; omega) (by have := Hml.out; omega) (Nat.le_trans B6.out.size BX.out.size) ?_;intro g8 cap8 w10 hown8 hgrow8 hlt8;have HO8 := hide hown8;have HG8 := hide hgrow8;have MT10 := hide (show MovT W0.heap.size 49 wr w10 from (MovT.of_below BX.out).trans (.grown hgrow8 fun j hj => own_isT (own_go O6.out BX.out) j hj));clear hown8 hgrow8 hlt8;(try dsimp only);have N10 := hide (MT10.out.blk NN6.out (by decide));have lc' : w10.cell? ⟨g', i, none⟩ = some (.string (bstr (Sx.valOf a))) := (World.cell?_of_block (a := ⟨g', i, none⟩) (MT10.out.block g' KL.out.lt (fun hh => isT_ne KL.out hh.2 (by decide)))).trans LC6.out;refine hK.out _ _ ?_ (fun hHeld' => ?_)
      ·(try dsimp only);exact ⟨N10.out.cell 0, N10.out.cell 1, lc'⟩
      clear hK K hHeld;have hHeld := hHeld';clear hHeld';(try simp only [Act.put, List.setIfInBounds_toArray, List.set_cons_zero, List.set_cons_succ]);(refine nxT (v := ?_) rfl rfl hHeld ?_ ?_; rotate_left; (· (intro w' hSw; obtain ⟨z0, z1, z2⟩ := hSw; go_simp; try with_reducible rfl)); (try simp only [nx, List.set]));refine wpAnyH_done (by kernel_rfl) ?_ _;have B10 := hide (B6.out.trans (MT10.out.below (C := W0.heap.size) (Nat.le_refl _) B6.out.size));clear lc';go_wp2
      go_roundg (na - (i + 1))
      case measure => have := Hgi.out; omega
      case rel =>
       have e2 : (attrsOf sc (ss.take (i + 1))).length = k + 1 := by rw [HOf.out, List.length_append, Hm.out]; rfl
       exact ⟨i + 1, _, _, k + 1, rfl, by omega, by first | rfl | go_num, rfl, e2, B10.out, Hnx.out, by rw [HOf.out, atts_snoc]; exact HO8.out⟩
  have hall : i = na := by omega
  subst hall;have hta : ss.take i = ss := List.take_of_length_le (by omega);have Hst := hide (show attrsAt sc [] ss = none by rw [← hta]; exact Hno.out);have Hm2 := hide (show (attrsOf sc ss).length = m by rw [← hta]; exact Hm.out);have O2 := hide Hown.out;rw [hta] at O2;have B3 := hide (HBT.out.trans (Hb.out.mono HBT.out.size));clear hta;go_wp2;go_ret2;unfold DatR;rw [Hss.out, Hst.out, Hm2.out];exact ⟨B3.out, Ar, m, cr, rfl, fun _ => ⟨rfl, O2.out.mono (base' := w.heap.size) HBT.out.size⟩⟩
end
end Go.Proofs.YtbbpkcddifmieaaGreatDoor
