/- The document's strict: a token's step. · The document's reading of tokens: quoted values, parts of the declaration. · The document's reading of tokens: a part of the declaration. · The document's reading of tokens: digits and letters. · The document's reading of tokens: a version. -/
import Derived.Test.YtbbpkcddifmieaaGreatDoorSw06
import Derived.Test.YtbbpkcddifmieaaGreatDoorSw22
import Derived.Test.YtbbpkcddifmieaaGreatDoorSw37
set_option linter.unusedSimpArgs false
set_option linter.unusedVariables false
namespace Go.Proofs.YtbbpkcddifmieaaGreatDoor
section
open Go.RowKit Tk Sx

theorem dstart_any (B P : Nat) (w : World) (d : Dst) (v : Dv) (t : Tok) (A : Option Addr) (c : Nat) (h : PD B P w d none v) (hB : B ≤ w.heap.size) (hr : Reads w B 3 A t.attrs.length (gas (t.attrs.map At.g))) (hs : TokS 100000 t) (hk : OkS d.st 90000000 100000000000000000 1000000) :
  Calls Tryz.prog 58 #[.pointer (some ⟨P, 0, none⟩), .agg (tokC t A c)] w (DStep B P w (Sx.start d.st t)) := by
 cases he : Sx.early d.st t with
 | some x =>
  rw [show Sx.start d.st t = .error x by unfold Sx.start; rw [he]];exact dstart_early B P w d v t A c h hB hr hs hk x he
 | none => exact dstart_late B P w d v t A c h hB hr hs hk he
theorem put_wait {d : Dst} (h : d.Nt) (s : L) : Dst.st ⟨d.open_, d.scope, d.evs, d.text ++ s, d.rooted⟩ = putSt d.st s := by
 have key : Dst.all ⟨d.open_, d.scope, d.evs, d.text ++ s, d.rooted⟩ = putEv d.all (textEv s) := by
  unfold Dst.all;dsimp only
  by_cases ht : d.text = []
  ·rw [if_pos ht, ht, List.nil_append]
   have hp : putEv d.evs (textEv s) = if s = [] then d.evs else d.evs ++ [textEv s] := by
    unfold putEv;rw [if_neg (show ¬ (textEv s).kind ≠ 2 by simp [textEv])]
    cases hl : d.evs.getLast? with
    | none => rfl
    | some y => dsimp only; rw [if_neg (h.1 y hl)]; rfl
   rw [hp]
  rw [if_neg ht, if_neg (by intro hh; exact ht (List.append_eq_nil_iff.1 hh).1), put_text (y := textEv d.text) (x := textEv s) rfl rfl];rfl
 unfold Dst.st putSt;rw [key]
theorem wait_len {d : Dst} {n M : Nat} (h : Ok d.st n M) : d.text.length ≤ M := by
 by_cases ht : d.text = []
 ·rw [ht]; exact Nat.zero_le _
 have : textEv d.text ∈ d.st.evs := by
  show _ ∈ d.all;unfold Dst.all;rw [if_neg ht];simp
 exact h.tx _ this

set_option maxRecDepth 100000 in
set_option maxHeartbeats 64000000 in
theorem dtoken_any (B P : Nat) (w : World) (d : Dst) (v : Dv) (t : Tok) (A : Option Addr) (c : Nat) (h : PD B P w d none v) (hB : B ≤ w.heap.size) (hr : Reads w B 3 A t.attrs.length (gas (t.attrs.map At.g))) (hs : TokS 100000 t) (hk : OkS d.st 90000000 100000000000000000 1000000) (hnt : d.Nt) :
  Calls Tryz.prog 31 #[.pointer (some ⟨P, 0, none⟩), .agg (tokC t A c)] w (DStep B P w (Sx.step d.st t)) := by
 have KT := hide (Blk.new w 64 (tokC t A c));have BT := hide (below_alloc w (.cells (tokC t A c) 64));obtain ⟨W0, hW0⟩ : ∃ W0, w.alloc (.cells (tokC t A c) 64) = W0 := ⟨_, rfl⟩;rw [hW0] at KT BT;have H0 := hide (h.go BT.out);have HB0 := hide (Nat.le_trans hB BT.out.size);have M0 := hide (DMov.of_below (B := B) (P := P) BT.out);have HSt := hide (dstart_any B P W0 d v t A c H0.out HB0.out (hr.below (BT.out.mono hB)) hs hk);have HWr := hide (fun (W : World) (k : Nat) (h : PD B P W d none v) => dwrong_any B P W d v k h);have HBl := hide (fun W => refBlank_any t.text W (Nat.le_trans hs.tx (by decide)));have HSr := hide (fun W => strict13_any t.text W (Nat.le_trans hs.tx (by decide)))
 have HCn := hide (fun (hne : d.open_ ≠ []) (k : Nat) => dclose_any B P (W0.drewN k) d none v (H0.out.go (below_drewN (Below.refl _ _) k)) (Nat.le_trans HB0.out (below_drewN (Below.refl W0.heap.size W0) k).size) (by
  have hevl : d.all.length ≤ 90000000 := hk.ok.ev;unfold Dst.all at hevl
  split at hevl
  ·omega
  rw [List.length_append] at hevl; omega) hk.ok.op hk.ok.in_ hne)
 have hPT : P < w.heap.size := h.blk.lt;obtain ⟨T, hT⟩ : ∃ T, w.heap.size = T := ⟨_, rfl⟩;rw [hT] at KT hPT;obtain ⟨k0, k1, k2, k3, k4, k5, k6⟩ := tok_cells KT.out;obtain ⟨p0, -, -, p3, -, -, -⟩ := H0.out.cell;have f3 := H0.out.frz 3;have Hnt := hide hnt;have Hopl := hide (show d.open_.length ≤ 16 from hk.ok.op);have Htx := hide (wait_len hk.ok);have Htl := hide hs.tx;obtain ⟨no, hno⟩ : ∃ no, d.open_.length = no := ⟨_, rfl⟩;rw [hno] at p0 Hopl;have Hno := hide hno;have ho : W0.ownsRow B 111 4 (.slice v.Ao no v.co) no (els d.open_) := by rw [← hno]; exact H0.out.o
 have hkd := hs.kd;have Hstep := hide (show Sx.step d.st t = if t.kind = 0 then Sx.start d.st t else if t.kind = 1 then Sx.end_ d.st t else if t.kind = 2 then Sx.text d.st t else if t.kind = 3 then Sx.data d.st t else .ok d.st from rfl);have hno0 : ((no : Int) == 0) = decide (no = 0) := by rw [Bool.eq_iff_iff, beq_iff_eq, decide_eq_true_iff]; omega
 have hemp : d.open_ = [] ↔ no = 0 := by rw [← hno]; exact ⟨fun h => by rw [h]; rfl, List.eq_nil_of_length_eq_zero⟩
 have Hemp := hide hemp;obtain ⟨kd, hkE⟩ : ∃ kd, t.kind = kd := ⟨_, rfl⟩;unfold tokC at HSt hW0 ⊢;rw [hkE] at k0 hkd HSt Hstep hW0 ⊢;clear h hB hr hs hk hnt hno hemp hkE
 rcases hkd with rfl | rfl | rfl | rfl | rfl
 ·-- a start
  have Hr := hide (show Sx.step d.st t = Sx.start d.st t by rw [Hstep.out]; rfl);clear ho hno0 f3
  go_enter Tryz.func31, Tryz.ntmps31
  go_wp2_with fail
  refine HSt.out.mono ?_;rintro e w1 ⟨rfl, m1, r1⟩;have M1 := hide (M0.out.trans m1);have R1 := hide r1;clear m1 r1;go_wp2;go_end0;rw [Hr.out];exact ⟨rfl, M1.out, R1.out⟩
 ·-- an end
  by_cases h0 : no = 0
  ·have hol := Hemp.out.2 h0;have Hr := hide (show Sx.step d.st t = .error (t.at_, 50) by rw [Hstep.out, if_neg (by decide), if_pos rfl]; unfold Sx.end_; rw [open_is, hol]; rfl);rw [decide_eq_true h0] at hno0;have HW := hide (fun W (hW : Below W0.heap.size W0 W) => HWr.out W t.at_ (H0.out.go hW));clear ho h0 hol f3
   go_enter Tryz.func31, Tryz.ntmps31
   go_wp2
   go_quiet (fail)
   go_wp2_with fail
   refine (HW.out _ (below_drewN (Below.refl _ _) _)).mono ?_;rintro e w1 ⟨rfl, h1, m1⟩;have H1 := hide h1;have M1 := hide ((M0.out.go (below_drewN (Below.refl _ _) _)).trans (DMov.of_but m1));clear h1 m1;go_wp2;go_end0;rw [Hr.out];exact ⟨rfl, M1.out, d, v, H1.out⟩
  have hne : d.open_ ≠ [] := fun hh => h0 (Hemp.out.1 hh)
  obtain ⟨x, hx⟩ : ∃ x, d.open_.getLast? = some x := by
   cases hl : d.open_.getLast? with
   | none => exact absurd (List.getLast?_eq_none_iff.1 hl) hne
   | some x => exact ⟨x, rfl⟩
  obtain ⟨m, hm⟩ : ∃ m, no = m + 1 := ⟨no - 1, by omega⟩;have hxm : d.open_[m]? = some x := by rw [List.getLast?_eq_getElem?, Hno.out, hm] at hx; simpa using hx
  obtain ⟨g, cap, hv, hgb, hlt⟩ := ho.form (by omega);have hAo : v.Ao = some ⟨g, 0, none⟩ := by injection hv
  rw [hAo] at ho p0;have hce := delt_cells ho Hno.out hxm;have d0 : W0.cell? ⟨g, m * 4, none⟩ = some (.string (bstr x.written)) := hce 0 (by omega);have hw1 : IntKind.i64.wrap ((no : Int) - 1) = (m : Int) := by rw [IntWalk.i64_in _ (by have := Hopl.out; omega)]; omega
  have hmn : m < no := by omega
  have hq : ((bstr x.written).toList != (bstr t.name).toList) = !decide (x.written = t.name) := by rw [bne, beq_bstr]
  have hq2 := beq_bstr x.written t.name;rw [decide_eq_false h0] at hno0;have Hend := hide (show Sx.end_ d.st t = if x.written = t.name then .ok (closeSt d.st) else .error (t.at_, 50) by unfold Sx.end_; rw [open_is, hx]);have Hne := hide hne;clear h0 hne hx hm hxm hv hAo hce ho f3 p3
  by_cases he : x.written = t.name
  ·have Hr := hide (show Sx.step d.st t = .ok (closeSt d.st) by rw [Hstep.out, if_neg (by decide), if_pos rfl, Hend.out, if_pos he]);rw [decide_eq_true he] at hq hq2;clear he
   go_enter Tryz.func31, Tryz.ntmps31
   go_wp2
   go_quiet (fail)
   go_wp2_with fail
   refine (HCn.out Hne.out _).mono ?_;rintro e w1 ⟨rfl, m1, v1, h1⟩;have H1 := hide h1;have M1 := hide ((M0.out.go (below_drewN (Below.refl _ _) _)).trans m1);clear h1 m1;go_wp2;go_end0;rw [Hr.out];exact ⟨rfl, M1.out, _, v1, H1.out, closeD_st d, closeD_nt Hne.out⟩
  have Hr := hide (show Sx.step d.st t = .error (t.at_, 50) by rw [Hstep.out, if_neg (by decide), if_pos rfl, Hend.out, if_neg he]);rw [decide_eq_false he] at hq hq2;have HW := hide (fun W (hW : Below W0.heap.size W0 W) => HWr.out W t.at_ (H0.out.go hW));clear he
  go_enter Tryz.func31, Tryz.ntmps31
  go_wp2
  go_quiet (fail)
  go_wp2_with fail
  refine (HW.out _ (below_drewN (Below.refl _ _) _)).mono ?_;rintro e w1 ⟨rfl, h1, m1⟩;have H1 := hide h1;have M1 := hide ((M0.out.go (below_drewN (Below.refl _ _) _)).trans (DMov.of_but m1));clear h1 m1;go_wp2;go_end0;rw [Hr.out];exact ⟨rfl, M1.out, d, v, H1.out⟩
 ·-- a text
  by_cases h0 : no = 0
  ·have hol := Hemp.out.2 h0;rw [decide_eq_true h0] at hno0;have Hx := hide (show Sx.step d.st t = if t.text.all sp then .ok d.st else .error (t.at_, 50) by rw [Hstep.out, if_neg (by decide), if_neg (by decide), if_pos rfl]; unfold Sx.text; rw [open_is, if_pos hol]);have HW := hide (HWr.out W0 t.at_ H0.out);clear ho h0 hol f3
   cases hb : t.text.all sp with
   | true =>
    rw [hb] at HBl Hx;clear hb
    go_enter Tryz.func31, Tryz.ntmps31
    go_wp2_with fail
    refine cq (HBl.out _) ?_;go_wp2;go_end0;rw [Hx.out];exact ⟨rfl, M0.out, d, v, H0.out, rfl, Hnt.out⟩
   | false =>
    rw [hb] at HBl Hx;clear hb
    go_enter Tryz.func31, Tryz.ntmps31
    go_wp2_with fail
    refine cq (HBl.out _) ?_
    go_wp2_with fail
    refine HW.out.mono ?_;rintro e w1 ⟨rfl, h1, m1⟩;have H1 := hide h1;have M1 := hide (M0.out.trans (DMov.of_but m1));clear h1 m1;go_wp2;go_end0;rw [Hx.out];exact ⟨rfl, M1.out, d, v, H1.out⟩
  have hne : d.open_ ≠ [] := fun hh => h0 (Hemp.out.1 hh);rw [decide_eq_false h0] at hno0;have Hx := hide (show Sx.step d.st t = match sref t.text.length 0 t.text with | .ok s => .ok (putSt d.st s) | .error _ => .error (t.at_, 50) by rw [Hstep.out, if_neg (by decide), if_neg (by decide), if_pos rfl]; unfold Sx.text; rw [open_is, if_neg hne]; cases sref t.text.length 0 t.text <;> rfl);have Hne := hide hne;clear ho h0 hne
  cases hy : sref t.text.length 0 t.text with
  | error a =>
   rw [hy] at HSr Hx;unfold strV at HSr;have HW := hide (fun W (hW : Below W0.heap.size W0 W) => HWr.out W t.at_ (H0.out.go hW));have HK5 := hide (fun W (hW : Below W0.heap.size W0 W) => (tok_cells (KT.out.go hW)).2.2.2.2.2.1);clear hy
   go_enter Tryz.func31, Tryz.ntmps31
   go_wp2_with fail
   refine (HSr.out _).mono ?_;rintro e w1 ⟨rfl, b1⟩;have x5 := HK5.out w1 b1;have HW1 := hide (HW.out w1 b1);have M1 := hide (M0.out.go b1);clear b1 k0 k1 k2 k3 k4 k5 k6 hW0
   go_wp2_with fail
   refine HW1.out.mono ?_;rintro e w2 ⟨rfl, h1, m1⟩;have H1 := hide h1;have M2 := hide (M1.out.trans (DMov.of_but m1));clear h1 m1;go_wp2;go_end0;rw [Hx.out];exact ⟨rfl, M2.out, d, v, H1.out⟩
  | ok s =>
   rw [hy] at HSr Hx;unfold strV at HSr;have Hsl := hide (show s.length ≤ 400000 by have := sref_len _ _ _ _ hy; have := Htl.out; omega);clear hy
   go_enter Tryz.func31, Tryz.ntmps31
   go_wp2_with fail
   refine (HSr.out _).mono ?_;rintro e w1 ⟨rfl, b1⟩;have H1 := hide (H0.out.go b1);have M1 := hide (M0.out.go b1);have q3 := H1.out.cell.2.2.2.1;have g3 := H1.out.frz 3;have hap := bstr_app d.text s;have hsz : ¬ 9223372036854775807 < (bstr d.text).size + (bstr s).size := by rw [bstr_size, bstr_size]; have := Htx.out; have := Hsl.out; omega
   clear b1 k0 k1 k2 k3 k4 k5 k6 hW0;go_wp2;go_end0;rw [Hx.out];exact ⟨rfl, M1.out.setCell (p := ⟨P, 3, none⟩) (.inl rfl) _, _, v, H1.out.putT (d.text ++ s), put_wait Hnt.out s, Hnt.out.1, fun hh => absurd hh Hne.out⟩
 ·-- data
  by_cases h0 : no = 0
  ·have hol := Hemp.out.2 h0;have Hr := hide (show Sx.step d.st t = .error (t.at_, 50) by rw [Hstep.out, if_neg (by decide), if_neg (by decide), if_neg (by decide), if_pos rfl]; unfold Sx.data; rw [open_is, if_pos hol]);rw [decide_eq_true h0] at hno0;have HW := hide (HWr.out W0 t.at_ H0.out);clear ho h0 hol f3
   go_enter Tryz.func31, Tryz.ntmps31
   go_wp2_with fail
   refine HW.out.mono ?_;rintro e w1 ⟨rfl, h1, m1⟩;have H1 := hide h1;have M1 := hide (M0.out.trans (DMov.of_but m1));clear h1 m1;go_wp2;go_end0;rw [Hr.out];exact ⟨rfl, M1.out, d, v, H1.out⟩
  have hne : d.open_ ≠ [] := fun hh => h0 (Hemp.out.1 hh);rw [decide_eq_false h0] at hno0;have Hr := hide (show Sx.step d.st t = .ok (putSt d.st t.text) by rw [Hstep.out, if_neg (by decide), if_neg (by decide), if_neg (by decide), if_pos rfl]; unfold Sx.data; rw [open_is, if_neg hne]);have hap := bstr_app d.text t.text;have hsz : ¬ 9223372036854775807 < (bstr d.text).size + (bstr t.text).size := by rw [bstr_size, bstr_size]; have := Htx.out; have := Htl.out; omega
  have Hne := hide hne;clear ho h0 hne
  go_enter Tryz.func31, Tryz.ntmps31
  go_wp2
  go_region
  all_goals
   go_end0;rw [Hr.out];refine ⟨rfl, (M0.out.drew).setCell (p := ⟨P, 3, none⟩) (.inl rfl) _, _, v, (H0.out.go (Below.refl _ _).drew).putT (d.text ++ t.text), put_wait Hnt.out t.text, Hnt.out.1, fun hh => absurd hh Hne.out⟩
 -- what is skipped
 have Hr := hide (show Sx.step d.st t = .ok d.st by rw [Hstep.out]; rfl);clear ho hno0 f3
 go_enter Tryz.func31, Tryz.ntmps31
 go_wp2;go_end0;rw [Hr.out];exact ⟨rfl, M0.out, d, v, H0.out, rfl, Hnt.out⟩
end
section
open Go.RowKit Tk

def qv (r : Option (L × Nat)) (at_ : Nat) : Value := match r with
 | some (v, n) => .tuple #[.string (bstr v), .int .i64 ((at_ + n : Nat) : Int), .bool true]
 | none => .tuple #[.string ⟨#[]⟩, .int .i64 0, .bool false]
theorem drop_cons {D : L} {k : Nat} {c : UInt8} (h : D[k]? = some c) : D.drop k = c :: D.drop (k + 1) := by
 obtain ⟨h1, h2⟩ := List.getElem?_eq_some_iff.1 h;rw [← h2, ← List.drop_eq_getElem_cons]

set_option maxHeartbeats 4000000 in
theorem refQuoted_any (s : ByteArray) (at_ : Nat) (w : World) (ha : at_ ≤ s.size) (hs : s.size ≤ 1000000000) :
  Calls Tryz.prog 155 #[.string s, .int .i64 (at_ : Int)] w fun e w' => e = .returned (qv (Tk.quoted (s.data.toList.drop at_)) at_) ∧ w' = w := by
 by_cases hlt : at_ < s.size
 ·obtain ⟨c, hc⟩ : ∃ c, s.data.toList[at_]? = some c := ⟨_, List.getElem?_eq_getElem (by rw [size_list]; exact hlt)⟩;have hix := idx_run s at_ c hc;have hnl : ¬ (s.size : Int) ≤ (at_ : Int) := by omega
  have key : ∀ d : UInt8, ((c.toNat : Int) != (d.toNat : Int)) = (c != d) := fun d => by
   rw [Bool.eq_iff_iff, bne_iff_ne, bne_iff_ne];exact ⟨fun h h' => h (by rw [h']), fun h h' => h (UInt8.toNat_inj.1 (by omega))⟩
  have e1 : ((c.toNat : Int) != 34) = (c != 34) := key 34;have e2 : ((c.toNat : Int) != 39) = (c != 39) := key 39;clear key
  by_cases hq : c = 34 ∨ c = 39
  ·have Hq := hide (show Tk.quoted (s.data.toList.drop at_) = (Tk.till [c] (s.data.toList.drop (at_ + 1))).map fun k => ((s.data.toList.drop (at_ + 1)).take k, k + 2) from by
    rw [drop_cons hc]; unfold Tk.quoted; dsimp only; rw [if_pos hq])
   have hone : s.extract at_ (at_ + 1) = bstr [c] := by rw [extract_bstr, drop_cons hc]; simp
   have hw1 : IntKind.i64.wrap ((at_ : Int) + 1) = (at_ : Int) + 1 := IntWalk.i64_in _ (by omega);have tn : ((at_ : Int) + 1).toNat = at_ + 1 := by omega
   have hb1 : 0 ≤ (at_ : Int) ∧ (at_ : Int) ≤ (at_ : Int) + 1 ∧ (at_ : Int) + 1 ≤ (s.size : Int) := by omega
   have HT := hide (fun W => refTill_any s (bstr [c]) (at_ + 1) W (by omega) (by omega) (by rw [bstr_size]; simp) (by rw [bstr_size]; simp));have HT' := hide (show ∀ W, Calls Tryz.prog 120 #[.string s, .int .i64 ((at_ : Int) + 1), .string (bstr [c])] W fun e w' => e = .returned (.int .i64 (tillAt s.data.toList [c] (at_ + 1))) ∧ w' = W from HT.out);clear HT hc
   rcases hq with hq | hq
   ·have e1' : ((c.toNat : Int) != 34) = false := by rw [e1, hq]; rfl
    clear e1 e2 hq
    cases ht : Tk.till [c] (s.data.toList.drop (at_ + 1)) with
    | none =>
     have hz : tillAt s.data.toList [c] (at_ + 1) = -1 := by unfold tillAt; rw [ht]
     have Hr := hide (show Tk.quoted (s.data.toList.drop at_) = none by rw [Hq.out, ht]; rfl);rw [hz] at HT';clear hz ht Hq
     go_enter Tryz.func155, Tryz.ntmps155
     go_wp2_with fail
     refine cq (HT'.out _) ?_;go_wp2;go_ret3;rw [Hr.out];exact ⟨rfl, rfl⟩
    | some n =>
     have hz : tillAt s.data.toList [c] (at_ + 1) = ((at_ + 1 + n : Nat) : Int) := by unfold tillAt; rw [ht]
     have hn := till_len ht;rw [List.length_drop, size_list] at hn;have hn : at_ + 1 + n + 1 ≤ s.size := by simp at hn; omega
     have Hr := hide (show Tk.quoted (s.data.toList.drop at_) = some ((s.data.toList.drop (at_ + 1)).take n, n + 2) by rw [Hq.out, ht]; rfl);have hcut : s.extract (at_ + 1) (at_ + 1 + n) = bstr ((s.data.toList.drop (at_ + 1)).take n) := by rw [extract_bstr, Nat.add_sub_cancel_left]
     have hb2 : 0 ≤ (at_ : Int) + 1 ∧ (at_ : Int) + 1 ≤ ((at_ + 1 + n : Nat) : Int) ∧ ((at_ + 1 + n : Nat) : Int) ≤ (s.size : Int) := by omega
     rw [hz] at HT';clear hz ht Hq;obtain ⟨z, hz⟩ : ∃ z, at_ + 1 + n = z := ⟨_, rfl⟩;rw [hz] at HT' hb2 hcut;have Hz := hide hz;have hzs : z + 1 ≤ s.size := by omega
     have hw2 : IntKind.i64.wrap ((z : Int) + 1) = (z : Int) + 1 := IntWalk.i64_in _ (by omega);have hnz : ¬ (z : Int) < 0 := by omega
     have Hv := hide (show qv (some ((s.data.toList.drop (at_ + 1)).take n, n + 2)) at_ = .tuple #[.string (bstr ((s.data.toList.drop (at_ + 1)).take n)), .int .i64 ((z : Int) + 1), .bool true] from by
      unfold qv;dsimp only;rw [show ((at_ + (n + 2) : Nat) : Int) = (z : Int) + 1 by omega])
     clear hz hn
     go_enter Tryz.func155, Tryz.ntmps155
     go_wp2_with fail
     refine cq (HT'.out _) ?_;go_wp2;go_ret3;rw [Hr.out, Hv.out];exact ⟨rfl, rfl⟩
   have e1' : ((c.toNat : Int) != 34) = true := by rw [e1, hq]; rfl
   have e2' : ((c.toNat : Int) != 39) = false := by rw [e2, hq]; rfl
   clear e1 e2 hq
   cases ht : Tk.till [c] (s.data.toList.drop (at_ + 1)) with
   | none =>
    have hz : tillAt s.data.toList [c] (at_ + 1) = -1 := by unfold tillAt; rw [ht]
    have Hr := hide (show Tk.quoted (s.data.toList.drop at_) = none by rw [Hq.out, ht]; rfl);rw [hz] at HT';clear hz ht Hq
    go_enter Tryz.func155, Tryz.ntmps155
    go_wp2_with fail
    refine cq (HT'.out _) ?_;go_wp2;go_ret3;rw [Hr.out];exact ⟨rfl, rfl⟩
   | some n =>
    have hz : tillAt s.data.toList [c] (at_ + 1) = ((at_ + 1 + n : Nat) : Int) := by unfold tillAt; rw [ht]
    have hn := till_len ht;rw [List.length_drop, size_list] at hn;have hn : at_ + 1 + n + 1 ≤ s.size := by simp at hn; omega
    have Hr := hide (show Tk.quoted (s.data.toList.drop at_) = some ((s.data.toList.drop (at_ + 1)).take n, n + 2) by rw [Hq.out, ht]; rfl);have hcut : s.extract (at_ + 1) (at_ + 1 + n) = bstr ((s.data.toList.drop (at_ + 1)).take n) := by rw [extract_bstr, Nat.add_sub_cancel_left]
    have hb2 : 0 ≤ (at_ : Int) + 1 ∧ (at_ : Int) + 1 ≤ ((at_ + 1 + n : Nat) : Int) ∧ ((at_ + 1 + n : Nat) : Int) ≤ (s.size : Int) := by omega
    rw [hz] at HT';clear hz ht Hq;obtain ⟨z, hz⟩ : ∃ z, at_ + 1 + n = z := ⟨_, rfl⟩;rw [hz] at HT' hb2 hcut;have Hz := hide hz;have hzs : z + 1 ≤ s.size := by omega
    have hw2 : IntKind.i64.wrap ((z : Int) + 1) = (z : Int) + 1 := IntWalk.i64_in _ (by omega);have hnz : ¬ (z : Int) < 0 := by omega
    have Hv := hide (show qv (some ((s.data.toList.drop (at_ + 1)).take n, n + 2)) at_ = .tuple #[.string (bstr ((s.data.toList.drop (at_ + 1)).take n)), .int .i64 ((z : Int) + 1), .bool true] from by
     unfold qv;dsimp only;rw [show ((at_ + (n + 2) : Nat) : Int) = (z : Int) + 1 by omega])
    clear hz hn
    go_enter Tryz.func155, Tryz.ntmps155
    go_wp2_with fail
    refine cq (HT'.out _) ?_;go_wp2;go_ret3;rw [Hr.out, Hv.out];exact ⟨rfl, rfl⟩
  have Hr := hide (show Tk.quoted (s.data.toList.drop at_) = none from by
   rw [drop_cons hc]; unfold Tk.quoted; dsimp only; rw [if_neg hq])
  have e1' : ((c.toNat : Int) != 34) = true := by rw [e1, bne_iff_ne]; exact fun h => hq (.inl h)
  have e2' : ((c.toNat : Int) != 39) = true := by rw [e2, bne_iff_ne]; exact fun h => hq (.inr h)
  clear e1 e2 hq hc
  go_enter Tryz.func155, Tryz.ntmps155
  go_wp2;go_ret3;rw [Hr.out];exact ⟨rfl, rfl⟩
 have hnl : (s.size : Int) ≤ (at_ : Int) := by omega
 have Hq := hide (show Tk.quoted (s.data.toList.drop at_) = none by rw [List.drop_of_length_le (by rw [size_list]; omega)]; rfl)
 go_enter Tryz.func155, Tryz.ntmps155
 go_wp2;go_ret3;rw [Hq.out];exact ⟨rfl, rfl⟩

theorem eqvD_none {D : L} {at_ : Nat} (h : D.length ≤ at_ + nsp (D.drop at_)) : eqv (D.drop at_) = none := by
 unfold eqv;rw [List.drop_drop, List.drop_of_length_le (by omega)]
theorem eqvD_no {D : L} {at_ : Nat} {c : UInt8} (h : D[at_ + nsp (D.drop at_)]? = some c) (hc : c ≠ 61) : eqv (D.drop at_) = none := by
 unfold eqv;rw [List.drop_drop, drop_cons h];dsimp only;rw [if_neg hc]
theorem eqvD_yes {D : L} {at_ k M : Nat} (hk : at_ + nsp (D.drop at_) = k) (h : D[k]? = some 61) (hM : nsp (D.drop (k + 1)) = M) : qv (eqv (D.drop at_)) at_ = qv (Tk.quoted (D.drop (k + 1 + M))) (k + 1 + M) := by
 unfold eqv;rw [List.drop_drop, hk, drop_cons h];dsimp only;rw [if_pos rfl, hM, List.drop_drop]
 cases Tk.quoted (D.drop (k + 1 + M)) with
 | none => rfl
 | some x =>
  obtain ⟨v, n⟩ := x;unfold qv;dsimp only [Option.map_some];rw [show at_ + (nsp (D.drop at_) + 1 + M + n) = k + 1 + M + n by omega]

set_option maxHeartbeats 4000000 in
theorem refEquals_any (s : ByteArray) (at_ : Nat) (w : World) (ha : at_ ≤ s.size) (hs : s.size ≤ 1000000000) :
  Calls Tryz.prog 144 #[.string s, .int .i64 (at_ : Int)] w fun e w' => e = .returned (qv (eqv (s.data.toList.drop at_)) at_) ∧ w' = w := by
 have HB := hide (fun W => refBlanks_any s at_ W ha hs);obtain ⟨D, hD⟩ : ∃ D, s.data.toList = D := ⟨_, rfl⟩;have hDl : D.length = s.size := by rw [← hD, size_list]
 have hkl : at_ + nsp (D.drop at_) ≤ s.size := by have := nsp_le (D.drop at_); rw [List.length_drop] at this; omega
 rw [hD] at HB ⊢;obtain ⟨k, hk⟩ : ∃ k, at_ + nsp (D.drop at_) = k := ⟨_, rfl⟩;rw [hk] at HB hkl;have Hk := hide hk
 by_cases hlt : k < s.size
 ·have hnl : ¬ (s.size : Int) ≤ (k : Int) := by omega
  obtain ⟨c, hc⟩ : ∃ c, D[k]? = some c := ⟨_, List.getElem?_eq_getElem (by omega)⟩;have hix := idx_run s k c (by rw [hD]; exact hc)
  have e1 : ((c.toNat : Int) != 61) = (c != 61) := by
   rw [Bool.eq_iff_iff, bne_iff_ne, bne_iff_ne];exact ⟨fun h h' => h (by rw [h']; rfl), fun h h' => h (UInt8.toNat_inj.1 (by have : (61 : UInt8).toNat = 61 := rfl; omega))⟩
  by_cases hc1 : c = 61
  ·have e2 : ((c.toNat : Int) != 61) = false := by rw [e1, hc1]; rfl
   obtain ⟨M, hM⟩ : ∃ M, nsp (D.drop (k + 1)) = M := ⟨_, rfl⟩;have hml : k + 1 + M ≤ s.size := by have := nsp_le (D.drop (k + 1)); rw [List.length_drop] at this; omega
   have Hr := hide (eqvD_yes hk (hc1 ▸ hc) hM);have hw1 : IntKind.i64.wrap ((k : Int) + 1) = (k : Int) + 1 := IntWalk.i64_in _ (by omega)
   have HB2 := hide (show ∀ W, Calls Tryz.prog 118 #[.string s, .int .i64 ((k : Int) + 1)] W fun e w' => e = .returned (.int .i64 ((k + 1 + M : Nat) : Int)) ∧ w' = W from fun W => by
    have h := refBlanks_any s (k + 1) W (by omega) hs;rw [hD, hM] at h;exact h)
   have HQ := hide (fun W => refQuoted_any s (k + 1 + M) W hml hs);rw [hD] at HQ;obtain ⟨r, hr⟩ : ∃ r, Tk.quoted (D.drop (k + 1 + M)) = r := ⟨_, rfl⟩;rw [hr] at HQ Hr;obtain ⟨p, hp⟩ : ∃ p, k + 1 + M = p := ⟨_, rfl⟩;rw [hp] at HQ Hr HB2;clear hr hp e1 hc1 hc hD hDl hk hM hml
   cases r with
   | none =>
    go_enter Tryz.func144, Tryz.ntmps144
    go_wp2_with fail
    refine cq (HB.out _) ?_
    go_wp2_with fail
    refine cq (HB2.out _) ?_
    go_wp2_with fail
    refine cq (HQ.out _) ?_;unfold qv;go_wp2;go_ret3;rw [Hr.out];exact ⟨rfl, rfl⟩
   | some x =>
    obtain ⟨v, n⟩ := x
    go_enter Tryz.func144, Tryz.ntmps144
    go_wp2_with fail
    refine cq (HB.out _) ?_
    go_wp2_with fail
    refine cq (HB2.out _) ?_
    go_wp2_with fail
    refine cq (HQ.out _) ?_;unfold qv;go_wp2;go_ret3;rw [Hr.out];exact ⟨rfl, rfl⟩
  have e2 : ((c.toNat : Int) != 61) = true := by rw [e1, bne_iff_ne]; exact hc1
  have Hr := hide (eqvD_no (D := D) (at_ := at_) (by rw [hk]; exact hc) hc1);clear e1 hc1 hc hD hDl hk
  go_enter Tryz.func144, Tryz.ntmps144
  go_wp2_with fail
  refine cq (HB.out _) ?_;go_wp2;go_ret3;rw [Hr.out];exact ⟨rfl, rfl⟩
 have hnl : (s.size : Int) ≤ (k : Int) := by omega
 have Hr := hide (eqvD_none (D := D) (at_ := at_) (by rw [hk]; omega));clear hD hDl hk
 go_enter Tryz.func144, Tryz.ntmps144
 go_wp2_with fail
 refine cq (HB.out _) ?_;go_wp2;go_ret3;rw [Hr.out];exact ⟨rfl, rfl⟩
end
section
open Go.RowKit Tk

theorem partD_yes {D q : L} {at_ k : Nat} (hk : at_ + nsp (D.drop at_) = k) (h0 : k ≠ at_) (h : q.isPrefixOf (D.drop k) = true) : qv (Tk.part q (D.drop at_)) at_ = qv (eqv (D.drop (k + q.length))) (k + q.length) := by
 unfold Tk.part;rw [if_neg (by omega), List.drop_drop, hk, if_pos h, List.drop_drop, show at_ + (nsp (D.drop at_) + q.length) = k + q.length by omega]
 cases eqv (D.drop (k + q.length)) with
 | none => rfl
 | some x =>
  obtain ⟨v, n⟩ := x;unfold qv;dsimp only [Option.map_some];rw [show at_ + (nsp (D.drop at_) + q.length + n) = k + q.length + n by omega]
theorem partD_no {D q : L} {at_ k : Nat} (hk : at_ + nsp (D.drop at_) = k) (h : k = at_ ∨ q.isPrefixOf (D.drop k) = false) : Tk.part q (D.drop at_) = none := by
 unfold Tk.part
 by_cases h0 : nsp (D.drop at_) = 0
 ·rw [if_pos h0]
 rw [if_neg h0, List.drop_drop, hk, if_neg]
 rcases h with h | h
 ·omega
 rw [h]; simp

set_option maxHeartbeats 4000000 in
theorem refPart_any (s q : ByteArray) (at_ : Nat) (w : World) (ha : at_ ≤ s.size) (hs : s.size ≤ 1000000000) (hq : q.size ≤ 1000) (hq0 : 0 < q.size) :
  Calls Tryz.prog 152 #[.string s, .int .i64 (at_ : Int), .string q] w fun e w' => e = .returned (qv (Tk.part q.data.toList (s.data.toList.drop at_)) at_) ∧ w' = w := by
 have HB := hide (fun W => refBlanks_any s at_ W ha hs);have HE0 := fun (k : Nat) W (h : k ≤ s.size) => refEquals_any s k W h hs;have HS0 := fun (k : Nat) W (h : k ≤ s.size) => starts_any s q k W (by omega) (by omega) hq;obtain ⟨D, hD⟩ : ∃ D, s.data.toList = D := ⟨_, rfl⟩;obtain ⟨Q, hQ⟩ : ∃ Q, q.data.toList = Q := ⟨_, rfl⟩;have hQl : Q.length = q.size := by rw [← hQ, size_list]
 have hDl : D.length = s.size := by rw [← hD, size_list]
 have hkl : at_ + nsp (D.drop at_) ≤ s.size := by have := nsp_le (D.drop at_); rw [List.length_drop] at this; omega
 rw [hD] at HB HE0 HS0 ⊢;rw [hQ] at HS0 ⊢;obtain ⟨k, hk⟩ : ∃ k, at_ + nsp (D.drop at_) = k := ⟨_, rfl⟩;rw [hk] at HB hkl
 by_cases hka : k = at_
 ·have hd : ((k : Int) == (at_ : Int)) = true := by rw [beq_iff_eq]; omega
  have Hr := hide (partD_no (q := Q) hk (.inl hka));clear HE0 HS0 hD hQ hDl hQl hk hka
  go_enter Tryz.func152, Tryz.ntmps152
  go_wp2_with fail
  refine cq (HB.out _) ?_;go_wp2;go_ret3;rw [Hr.out];exact ⟨rfl, rfl⟩
 have hd : ((k : Int) == (at_ : Int)) = false := by rw [beq_eq_false_iff_ne]; omega
 have HS := hide (fun W => HS0 k W hkl)
 cases hp : Q.isPrefixOf (D.drop k) with
 | false =>
  rw [hp] at HS;have Hr := hide (partD_no (q := Q) hk (.inr hp));have Hq0 := hide (show ¬ q.size = 0 by omega);clear HE0 HS0 hD hQ hDl hQl hk hka hp hq0
  go_enter Tryz.func152, Tryz.ntmps152
  go_wp2_with fail
  refine cq (HB.out _) ?_
  go_wp2_with fail
  refine (HS.out _).mono ?_;rintro e w1 ⟨he, hw1⟩;subst w1;obtain rfl := he.resolve_left Hq0.out;go_wp2;go_ret3;rw [Hr.out];exact ⟨rfl, rfl⟩
 | true =>
  rw [hp] at HS;have Hr := hide (partD_yes hk hka hp);have Hq0 := hide (show ¬ q.size = 0 by omega)
  have hpl : k + q.size ≤ s.size := by
   have := (List.isPrefixOf_iff_prefix.1 hp).length_le;rw [List.length_drop] at this;omega
  have HE := hide (fun W => HE0 (k + q.size) W hpl);have hw1 : IntKind.i64.wrap ((k : Int) + (q.size : Int)) = ((k + q.size : Nat) : Int) := by rw [IntWalk.i64_in _ (by omega)]; omega
  rw [hQl] at Hr;obtain ⟨r, hr⟩ : ∃ r, eqv (D.drop (k + q.size)) = r := ⟨_, rfl⟩;rw [hr] at HE Hr;obtain ⟨p, hpp⟩ : ∃ p, k + q.size = p := ⟨_, rfl⟩;rw [hpp] at HE Hr hw1;clear HE0 HS0 hD hQ hDl hQl hk hka hp hq0 hr hpp hpl
  cases r with
  | none =>
   go_enter Tryz.func152, Tryz.ntmps152
   go_wp2_with fail
   refine cq (HB.out _) ?_
   go_wp2_with fail
   refine (HS.out _).mono ?_;rintro e w1 ⟨he, hw1⟩;subst w1;obtain rfl := he.resolve_left Hq0.out
   go_wp2_with fail
   refine cq (HE.out _) ?_;unfold qv;go_wp2;go_ret3;rw [Hr.out];exact ⟨rfl, rfl⟩
  | some x =>
   obtain ⟨v, n⟩ := x
   go_enter Tryz.func152, Tryz.ntmps152
   go_wp2_with fail
   refine cq (HB.out _) ?_
   go_wp2_with fail
   refine (HS.out _).mono ?_;rintro e w1 ⟨he, hw1⟩;subst w1;obtain rfl := he.resolve_left Hq0.out
   go_wp2_with fail
   refine cq (HE.out _) ?_;unfold qv;go_wp2;go_ret3;rw [Hr.out];exact ⟨rfl, rfl⟩
end
section
open Go.RowKit Tk

theorem u8_le {a c : UInt8} : decide (a ≤ c) = decide (a.toNat ≤ c.toNat) := by
 rw [decide_eq_decide]; exact UInt8.le_iff_toNat_le
theorem refDigit_any (c : UInt8) (w : World) : Calls Tryz.prog 160 #[.int .u8 (c.toNat : Nat)] w fun e w' => e = .returned (.bool (Tk.digit c)) ∧ w' = w := by
 have e : Tk.digit c = (decide (48 ≤ c.toNat) && decide (c.toNat ≤ 57)) := by unfold Tk.digit; rw [u8_le, u8_le]; rfl
 rw [e];clear e
 by_cases h1 : 48 ≤ c.toNat
 ·have g1 : (48 : Int) ≤ (c.toNat : Int) := by omega
  by_cases h2 : c.toNat ≤ 57
  ·have g2 : (c.toNat : Int) ≤ 57 := by omega
   have Hr := hide (show (decide (48 ≤ c.toNat) && decide (c.toNat ≤ 57)) = true by simp [h1, h2]);clear h1 h2
   go_enter Tryz.func160, Tryz.ntmps160
   go_wp2;go_ret;exact ⟨ret_eq1 (bool_eq Hr.out.symm), rfl⟩
  have g2 : ¬ (c.toNat : Int) ≤ 57 := by omega
  have Hr := hide (show (decide (48 ≤ c.toNat) && decide (c.toNat ≤ 57)) = false by simp [h1, h2]);clear h1 h2
  go_enter Tryz.func160, Tryz.ntmps160
  go_wp2;go_ret;exact ⟨ret_eq1 (bool_eq Hr.out.symm), rfl⟩
 have g1 : ¬ (48 : Int) ≤ (c.toNat : Int) := by omega
 have Hr := hide (show (decide (48 ≤ c.toNat) && decide (c.toNat ≤ 57)) = false by simp [h1]);clear h1
 go_enter Tryz.func160, Tryz.ntmps160
 go_wp2;go_ret;exact ⟨ret_eq1 (bool_eq Hr.out.symm), rfl⟩
theorem refLetter_any (c : UInt8) (w : World) : Calls Tryz.prog 161 #[.int .u8 (c.toNat : Nat)] w fun e w' => e = .returned (.bool (Tk.letter c)) ∧ w' = w := by
 have e : Tk.letter c = ((decide (65 ≤ c.toNat) && decide (c.toNat ≤ 90)) || (decide (97 ≤ c.toNat) && decide (c.toNat ≤ 122))) := by unfold Tk.letter; rw [u8_le, u8_le, u8_le, u8_le]; rfl
 by_cases h1 : (65 : Int) ≤ (c.toNat : Int)
 ·by_cases h2 : (c.toNat : Int) ≤ 90
  ·have Hr := hide (show Tk.letter c = true by rw [e]; simp; omega);clear e
   go_enter Tryz.func161, Tryz.ntmps161
   go_wp2;go_ret;exact ⟨ret_eq1 (bool_eq Hr.out.symm), rfl⟩
  by_cases h3 : (97 : Int) ≤ (c.toNat : Int)
  ·by_cases h4 : (c.toNat : Int) ≤ 122
   ·have Hr := hide (show Tk.letter c = true by rw [e]; simp; omega);clear e
    go_enter Tryz.func161, Tryz.ntmps161
    go_wp2;go_ret;exact ⟨ret_eq1 (bool_eq Hr.out.symm), rfl⟩
   have Hr := hide (show Tk.letter c = false by rw [e]; simp; omega);clear e
   go_enter Tryz.func161, Tryz.ntmps161
   go_wp2;go_ret;exact ⟨ret_eq1 (bool_eq Hr.out.symm), rfl⟩
  have Hr := hide (show Tk.letter c = false by rw [e]; simp; omega);clear e
  go_enter Tryz.func161, Tryz.ntmps161
  go_wp2;go_ret;exact ⟨ret_eq1 (bool_eq Hr.out.symm), rfl⟩
 have h3 : ¬ (97 : Int) ≤ (c.toNat : Int) := by omega
 have Hr := hide (show Tk.letter c = false by rw [e]; simp; omega);clear e
 go_enter Tryz.func161, Tryz.ntmps161
 go_wp2;go_ret;exact ⟨ret_eq1 (bool_eq Hr.out.symm), rfl⟩
end
section
open Go.RowKit Tk

theorem drop_cons1 {D : L} {k : Nat} {c : UInt8} (h : D[k]? = some c) : D.drop k = c :: D.drop (k + 1) := by
 obtain ⟨h1, h2⟩ := List.getElem?_eq_some_iff.1 h;rw [← h2, ← List.drop_eq_getElem_cons]
set_option maxHeartbeats 4000000 in
theorem refVersion_any (s : ByteArray) (w : World) (hs : s.size ≤ 1000000000) :
  Calls Tryz.prog 153 #[.string s] w fun e w' => e = .returned (.bool (Tk.version s.data.toList)) ∧ w' = w := by
 obtain ⟨D, hD⟩ : ∃ D, s.data.toList = D := ⟨_, rfl⟩;have hDl : D.length = s.size := by rw [← hD, size_list]
 rw [hD]
 by_cases h3 : s.size < 3
 ·have g3 : (s.size : Int) < 3 := by omega
  have Hr := hide (show Tk.version D = false by
   unfold Tk.version
   by_cases hp : ([49, 46] : L).isPrefixOf D = true
   ·have : D.length ≤ 2 := by omega
    rw [List.drop_of_length_le this]; simp
   rw [Bool.not_eq_true] at hp; rw [hp]; rfl)
  clear hD hDl h3
  go_enter Tryz.func153, Tryz.ntmps153
  go_wp2;go_ret;exact ⟨ret_eq1 (bool_eq Hr.out.symm), rfl⟩
 have g3 : ¬ (s.size : Int) < 3 := by omega
 have g2 : (2 : Int) ≤ (s.size : Int) := by omega
 have g2' : 2 ≤ s.size := by omega
 have hx : ((s.extract 0 2).toList == [49, 46]) = ([49, 46] : L).isPrefixOf D := by
  rw [ByteArray.toList_eq, extract_bstr, bstr_list, hD, Bool.eq_iff_iff, beq_iff_eq, List.isPrefixOf_iff_prefix, List.prefix_iff_eq_take];exact eq_comm
 have hne : (D.drop 2).isEmpty = false := by
  rw [List.isEmpty_eq_false_iff];intro h;have := congrArg List.length h;rw [List.length_drop, List.length_nil] at this;omega
 have Hv : Tk.version D = (([49, 46] : L).isPrefixOf D && (D.drop 2).all digit) := by unfold Tk.version; rw [hne]; simp
 clear hne
 cases hp : ([49, 46] : L).isPrefixOf D with
 | false =>
  rw [hp] at hx;have Hr := hide (show Tk.version D = false by rw [Hv, hp]; rfl);clear Hv hp hD hDl h3
  go_enter Tryz.func153, Tryz.ntmps153
  go_wp2;go_ret;exact ⟨ret_eq1 (bool_eq Hr.out.symm), rfl⟩
 | true =>
  rw [hp] at hx;have Hr := hide (show Tk.version D = (D.drop 2).all digit by rw [Hv, hp, Bool.true_and]);have HD := hide hD;have HDl := hide hDl;clear Hv hp hD hDl h3
  go_enter Tryz.func153, Tryz.ntmps153
  go_wp2
  go_loopg [3] (s.size - 2) (fun g v wr => ∃ k : Nat, g = s.size - k ∧ k ≤ s.size ∧ v = .int .i64 (k : Int) ∧ (D.drop 2).all digit = (D.drop k).all digit ∧ wr = w)
  case atStart => exact ⟨2, by omega, by omega, rfl, rfl, rfl⟩
  case round =>
   obtain ⟨k, hg, hk, rfl, hall, rfl⟩ := hrel;have Hg := hide hg;have Ha := hide hall;clear hg hall
   by_cases hlt : k < s.size
   ·obtain ⟨c, hc⟩ : ∃ c, D[k]? = some c := ⟨_, List.getElem?_eq_getElem (by rw [HDl.out]; exact hlt)⟩;have hix := idx_run s k c (by rw [HD.out]; exact hc);have HG := hide (refDigit_any c)
    cases hdg : Tk.digit c with
    | true =>
     rw [hdg] at HG;have Hn := hide (show (D.drop 2).all digit = (D.drop (k + 1)).all digit by rw [Ha.out, drop_cons1 hc, List.all_cons, hdg, Bool.true_and]);clear hc hdg
     go_wp2_with fail
     refine cq (HG.out _) ?_;go_wp2
     go_roundg (s.size - (k + 1))
     case measure => have := Hg.out; omega
     case rel => exact ⟨k + 1, by omega, by omega, by go_num, Hn.out, rfl⟩
    | false =>
     rw [hdg] at HG;have Hn := hide (show Tk.version D = false by rw [Hr.out, Ha.out, drop_cons1 hc, List.all_cons, hdg, Bool.false_and]);clear hc hdg
     go_wp2_with fail
     refine cq (HG.out _) ?_;go_wp2;go_ret;exact ⟨ret_eq1 (bool_eq Hn.out.symm), rfl⟩
   have Hn := hide (show Tk.version D = true by rw [Hr.out, Ha.out, List.drop_of_length_le (by rw [HDl.out]; omega)]; rfl);go_wp2;go_ret;exact ⟨ret_eq1 (bool_eq Hn.out.symm), rfl⟩
end
end Go.Proofs.YtbbpkcddifmieaaGreatDoor
