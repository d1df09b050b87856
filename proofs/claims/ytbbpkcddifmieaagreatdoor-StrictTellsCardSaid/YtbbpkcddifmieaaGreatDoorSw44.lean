/- The document's strict: Parse, Well. · Plain: a parse's events balance; where a parse is wrong lies within the text; no program in sight. · Plain: a text's parse by its row of tokens; tokens farther on do the same; no program in sight. · Strict: the document's SameEvents, where the events are the same. -/
import Derived.Test.YtbbpkcddifmieaaGreatDoorSw15
import Derived.Test.YtbbpkcddifmieaaGreatDoorSw30
import Derived.Test.YtbbpkcddifmieaaGreatDoorSw31
import Derived.Test.YtbbpkcddifmieaaGreatDoorSw38
import Derived.Test.YtbbpkcddifmieaaGreatDoorSw43
set_option linter.unusedSimpArgs false
set_option linter.unusedVariables false
namespace Go.Proofs.YtbbpkcddifmieaaGreatDoor
section
open Go.RowKit Tk Sx

theorem step_err {st : St} {t : Tok} {x : Nat × Nat} (h : Sx.step st t = .error x) : x.2 ≠ 0 := by
 unfold Sx.step at h
 split at h
 ·unfold Sx.start at h
  cases he : Sx.early st t with
  | some b =>
   rw [he] at h;have e : x = b := by injection h with h; exact h.symm
   subst e;unfold Sx.early at he
   split at he
   ·cases he; simp
   split at he
   ·cases he; simp
   split at he
   ·cases he; simp
   split at he
   ·cases he; simp
   cases he
  | none =>
   rw [he] at h;dsimp only at h
   split at h
   ·cases h; simp
   cases h
 split at h
 ·unfold Sx.end_ at h
  split at h
  ·cases h; simp
  split at h
  ·cases h
  cases h; simp
 split at h
 ·unfold Sx.text at h
  split at h
  ·split at h
   ·cases h
   cases h; simp
  split at h
  ·cases h
  cases h; simp
 split at h
 ·unfold Sx.data at h
  split at h
  ·cases h; simp
  cases h
 cases h
def d0 : Dst := ⟨[], [], [], [], false⟩
theorem PD.zero (B : Nat) (w : World) (hB : B ≤ w.heap.size) : PD B w.heap.size (w.alloc (.cells #[.slice none 0 0, .slice none 0 0, .slice none 0 0, .string ⟨#[]⟩, .bool false, .int .i64 (-1), .int .i64 0] 71)) d0 none ⟨none, 0, none, 0, none, 0, []⟩ :=
 ⟨Blk.new w 71 _, hB, World.ownsRow_nil _ _ _ _, World.ownsRow_nil _ _ _ _, World.ownsRow_nil _ _ _ _, rfl, fun x hx => (by cases hx)⟩

set_option maxRecDepth 100000 in
set_option maxHeartbeats 32000000 in
theorem dparse_any (s : ByteArray) (w : World) (hs : s.size ≤ 100000) :
  Calls Tryz.prog 16 #[.string s] w (ParseR w (Sx.parse s.data.toList)) := by
 have HBd := hide (refBad_any s w (by omega));have HT := hide (refTks_any w s (by omega));obtain ⟨D, hD⟩ : ∃ D, s.data.toList = D := ⟨_, rfl⟩;rw [hD] at HBd HT ⊢;have HDl := hide (show D.length = s.size by rw [← hD, size_list]);obtain ⟨R, hR⟩ : ∃ R, Sx.parse D = R := ⟨_, rfl⟩;rw [hR];unfold Sx.parse at hR;obtain ⟨bd, hbd⟩ : ∃ bd, bad D = bd := ⟨_, rfl⟩;rw [hbd] at HBd hR;have Hbd := hide hbd;clear hD hbd
 by_cases h0 : 0 ≤ bd
 ·rw [if_pos h0] at hR;obtain ⟨k, rfl⟩ : ∃ k : Nat, bd = (k : Int) := ⟨bd.toNat, by omega⟩;have HR := hide hR;have hd : decide ((0 : Int) ≤ (k : Int)) = true := decide_eq_true h0;clear hR h0 HT
  go_enter Tryz.func16, Tryz.ntmps16
  go_wp2_with fail
  refine cq HBd.out ?_;go_wp2;go_ret3;rw [← HR.out];exact ⟨Below.refl _ _, by simp⟩
 rw [if_neg h0] at hR;have HR := hide hR;have hd : decide ((0 : Int) ≤ bd) = false := decide_eq_false h0;have hbf := bad_fine D;rw [Hbd.out, hd] at hbf;have Hfi := hide (show fine D = true by simpa using hbf);clear hR h0 hbf
 go_enter Tryz.func16, Tryz.ntmps16
 go_wp2_with fail
 refine cq HBd.out ?_
 go_wp2_with fail
 refine HT.out.mono ?_;rintro e w2 ⟨xs, A, c, n, ok, hP, hxl, hxc, rfl, b2, hr, -, -, hi⟩;have B2 := hide b2;have HP := hide hP;have HTk := hide (TkL.of hr hi);obtain ⟨N, hN⟩ : ∃ N, xs.length = N := ⟨_, rfl⟩;have HN := hide hN;rw [hN] at hxl hxc ⊢;have Hxl := hide hxl;have Hxc := hide hxc;clear hP hr hi b2 hN hxl hxc
 cases ok with
 | false =>
  go_wp2;go_ret3
  have hRe : R = .error (n, 50) := by
   obtain ⟨h1, h2, h3⟩ := allP_toks Hfi.out HP.out;rw [← HR.out, h1, h2, if_pos (by simpa using h3)]
  rw [hRe];exact ⟨B2.out, rfl⟩
 | true =>
  have I0 := hide (PD.zero w2.heap.size w2 (Nat.le_refl _));have T0 := hide (below_alloc w2 (.cells #[.slice none 0 0, .slice none 0 0, .slice none 0 0, .string ⟨#[]⟩, .bool false, .int .i64 (-1), .int .i64 0] 71));go_wp2;obtain ⟨B, hB⟩ : ∃ B, w2.heap.size = B := ⟨_, rfl⟩;rw [hB] at I0 T0 HTk ⊢;have HB := hide hB;obtain ⟨ts, hts⟩ : ∃ ts, xs.map (·.t) = ts := ⟨_, rfl⟩;rw [hts] at HP;have Hts := hide hts;have HBw := hide (show w.heap.size ≤ B by rw [← hB]; exact B2.out.size);have hN5 : N ≤ 100000 := by have := Hxl.out; have := HDl.out; omega
  clear hB hts
  go_loopg [10] N (fun gk vk wr => ∃ (k : Nat) (d : Dst) (v : Dv), gk = N - k ∧ k ≤ N ∧ vk = .int .i64 (k : Int) ∧ run st0 (ts.take k) = .ok d.st ∧ PD B B wr d none v ∧ Below B w2 wr ∧ OkS d.st (18 * k) (400000 * k) 1000000 ∧ d.Nt)
  case atStart => exact ⟨0, d0, _, rfl, by omega, rfl, rfl, I0.out, T0.out, ⟨⟨by simp [Dst.st, Dst.all, d0], by simp [Dst.st, Dst.all, d0], by simp [Dst.st, Dst.all, d0], by simp [Dst.st, Dst.all, d0], by simp [Dst.st, Dst.all, d0], by simp [Dst.st, Dst.all, d0]⟩, by simp [Dst.st, Dst.all, d0]⟩, by simp [d0], fun _ => rfl⟩
  case round =>
   obtain ⟨k, d, v, hgk, hk, rfl, h1, h2, h4, h5, h6⟩ := hrel;have Hg := hide hgk;have H1 := hide h1;have I1 := hide h2;have T1 := hide h4;have Ok1 := hide h5;have Hnt := hide h6;clear hgk h1 h2 h4 h5 h6 I0 T0
   by_cases hlt : k < N
   ·obtain ⟨x, hx⟩ : ∃ x, xs[k]? = some x := ⟨_, List.getElem?_eq_getElem (by rw [HN.out]; exact hlt)⟩;obtain ⟨b, off, rfl, hb, hat⟩ := HTk.out.at_ hx;have hxm : x.t ∈ ts := by rw [← Hts.out]; exact List.mem_map_of_mem (List.mem_of_getElem? hx)
    have htk : ts[k]? = some x.t := by rw [← Hts.out, List.getElem?_map, hx]; rfl
    have hsub := HTk.out.sub x.g (List.mem_map_of_mem (List.mem_of_getElem? hx));have hsm := (allP_small HP.out x.t hxm).more (show D.length ≤ 100000 by rw [HDl.out]; exact hs);have y0 : wr.cell? ⟨b, off + k * 7, none⟩ = some (.int .i8 x.t.kind) := (T1.out.cell (p := ⟨b, off + k * 7, none⟩) hb).trans hat.c0;have y1 : wr.cell? ⟨b, off + k * 7 + 1, none⟩ = some (.string (bstr x.t.name)) := (T1.out.cell (p := ⟨b, off + k * 7 + 1, none⟩) hb).trans hat.c1
    have y2 : wr.cell? ⟨b, off + k * 7 + 2, none⟩ = some (.slice x.A x.t.attrs.length x.c) := by
     have := (T1.out.cell (p := ⟨b, off + k * 7 + 2, none⟩) hb).trans hat.c2;rwa [show x.g.as_.length = x.t.attrs.length from List.length_map _] at this
    have y3 : wr.cell? ⟨b, off + k * 7 + 3, none⟩ = some (.bool x.t.empty) := (T1.out.cell (p := ⟨b, off + k * 7 + 3, none⟩) hb).trans hat.c3;have y4 : wr.cell? ⟨b, off + k * 7 + 4, none⟩ = some (.string (bstr x.t.text)) := (T1.out.cell (p := ⟨b, off + k * 7 + 4, none⟩) hb).trans hat.c4;have y5 : wr.cell? ⟨b, off + k * 7 + 5, none⟩ = some (.int .i64 (x.t.at_ : Int)) := (T1.out.cell (p := ⟨b, off + k * 7 + 5, none⟩) hb).trans hat.c5;have y6 : wr.cell? ⟨b, off + k * 7 + 6, none⟩ = some (.int .i64 (x.t.end_ : Int)) := (T1.out.cell (p := ⟨b, off + k * 7 + 6, none⟩) hb).trans hat.c6
    have hrd : Reads wr B 3 x.A x.t.attrs.length (gas (x.t.attrs.map At.g)) := by
     have := hsub.below T1.out;rwa [show x.g.as_.length = x.t.attrs.length from List.length_map _] at this
    have hSt := dtoken_any B B wr d v x.t x.A x.c I1.out (by rw [← HB.out]; exact T1.out.size) hrd hsm ⟨⟨Ok1.out.ok.op, by have := Ok1.out.ok.sc; have := Hxl.out; have := HDl.out; omega, by have := Ok1.out.ok.ev; have := Hxl.out; have := HDl.out; omega, fun y hy => by have := Ok1.out.ok.tx y hy; have := Hxl.out; have := HDl.out; omega, Ok1.out.ok.in_, Ok1.out.ok.srt⟩, Ok1.out.ns⟩ Hnt.out;unfold tokC at hSt;have HSt := hide hSt;have Hrun := hide (show run st0 (ts.take (k + 1)) = Sx.step d.st x.t by rw [List.take_add_one, htk]; show run st0 (ts.take k ++ [x.t]) = _; rw [run_snoc, H1.out]);have Hsm := hide hsm;obtain ⟨r, hr⟩ : ∃ r, Sx.step d.st x.t = r := ⟨_, rfl⟩;have Hr := hide hr;rw [hr] at HSt Hrun;have HwB := hide (show B ≤ wr.heap.size by rw [← HB.out]; exact T1.out.size);have hwk : IntKind.i64.wrap ((k : Int) + 1) = (k : Int) + 1 := IntWalk.i64_in _ (by omega);clear hat hx hxm htk hsub hsm hrd hSt hr
    cases r with
    | error y =>
     have hRe : R = .error y := by
      obtain ⟨q1, q2, q3⟩ := allP_toks Hfi.out HP.out;have := run_error Hrun.out (ts.drop (k + 1));rw [List.take_append_drop] at this;rw [← HR.out, q1, q2, if_neg (by simpa using q3), this]
     subst hRe;obtain ⟨ya, ye⟩ := y
     have Hye := hide (show ye ≠ 0 from fun h0 => by
      subst h0;exact step_err Hr.out rfl)
     go_wp2_with fail
     refine HSt.out.mono ?_;rintro e w3 ⟨rfl, hm, d', v', hp⟩;obtain ⟨-, -, -, -, -, z5, z6⟩ := hp.cell;dsimp only [badN, badE] at z5 z6;have hne0 : ((ye : Int) != 0) = true := by rw [bne_iff_ne]; have := Hye.out; omega
     have hne1 : ((ye : Int) == 0) = false := by rw [beq_eq_false_iff_ne]; have := Hye.out; omega
     have B3 := hide (B2.out.trans ((T1.out.trans (hm.below (C := B) (Nat.le_refl _) (Nat.le_refl _) HwB.out)).mono HBw.out));clear hp hm y0 y1 y2 y3 y4 y5 y6;go_wp2
     go_quiet (fail)
     go_wp2;go_ret3;exact ⟨below_drewN B3.out _, rfl⟩
    | ok st' =>
     have hk' := ok_step (N := 100000) ⟨Ok1.out.ok, Ok1.out.ns⟩ Hsm.out (by decide) Hr.out;have Ok2 := hide hk';clear hk'
     go_wp2_with fail
     refine HSt.out.mono ?_;rintro e w3 ⟨rfl, hm, d', v', hp, hst, hnt⟩;obtain ⟨-, -, -, -, -, -, z6⟩ := hp.cell;dsimp only [badE] at z6;have P3 := hide hp;have B3 := hide (T1.out.trans (hm.below (C := B) (Nat.le_refl _) (Nat.le_refl _) HwB.out));have Hst := hide hst;have Hnt2 := hide hnt;clear hp hm hst hnt y0 y1 y2 y3 y4 y5 y6;go_wp2
     go_roundg (N - (k + 1))
     case measure => have := Hg.out; omega
     case rel =>
      refine ⟨k + 1, d', v', rfl, by omega, by first | rfl | go_num, by rw [Hrun.out, Hst.out], P3.out, B3.out, ?_, Hnt2.out⟩;rw [Hst.out];exact ⟨⟨Ok2.out.ok.op, Nat.le_trans Ok2.out.ok.sc (by omega), Nat.le_trans Ok2.out.ok.ev (by omega), fun y hy => Nat.le_trans (Ok2.out.ok.tx y hy) (by omega), Ok2.out.ok.in_, Ok2.out.ok.srt⟩, Ok2.out.ns⟩
   have hkN : k = N := by omega
   subst hkN;have hall : ts.take k = ts := List.take_of_length_le (by rw [← Hts.out, List.length_map, HN.out]; exact Nat.le_refl _);have hrun := H1.out;rw [hall] at hrun
   have hRe : R = if d.open_ = [] ∧ d.rooted = true then .ok d.all else .error (D.length, 50) := by
    obtain ⟨q1, q2, q3⟩ := allP_toks Hfi.out HP.out;rw [← HR.out, q1, q2, if_neg (by simpa using q3), hrun];rfl
   have HRe := hide hRe;obtain ⟨c0, -, c2, -, c4, -, -⟩ := I1.out.cell;obtain ⟨no, hno⟩ : ∃ no, d.open_.length = no := ⟨_, rfl⟩;have Hno := hide hno;rw [hno] at c0;obtain ⟨ro, hro⟩ : ∃ ro, d.rooted = ro := ⟨_, rfl⟩;have Hro := hide hro;rw [hro] at c4;have HBe := hide (B2.out.trans (T1.out.mono (by have := B2.out.size; have := HB.out; omega)));clear hall hrun hRe hno hro HR
   cases ro with
   | false =>
    have hR2 : R = .error (s.size, 50) := by rw [HRe.out, if_neg (by rw [Hro.out]; simp), HDl.out]
    subst hR2;clear c2;go_wp2;go_ret3;exact ⟨HBe.out, rfl⟩
   | true =>
    by_cases h0 : no = 0
    ·subst h0;have ho : d.open_ = [] := List.eq_nil_of_length_eq_zero Hno.out;have hev : d.all = d.evs := by unfold Dst.all; rw [if_pos (Hnt.out.2 ho)]
     have hR2 : R = .ok d.evs := by rw [HRe.out, if_pos ⟨ho, Hro.out⟩, hev]
     obtain ⟨ne, hne⟩ : ∃ ne, v.xs.length = ne := ⟨_, rfl⟩;rw [hne] at c2;have Hne := hide hne;subst hR2;clear ho hne hev;go_wp2;go_ret3;refine ⟨HBe.out, v.xs, v.Ae, v.ce, I1.out.ev, ?_, own_cap I1.out.e, Reads.of_own I1.out.e, (above_own I1.out.e).more HBw.out, typed_own I1.out.e, fun x hx => ⟨(I1.out.inn x hx).a, (I1.out.inn x hx).va.more HBw.out, (I1.out.inn x hx).ta⟩⟩;rw [Hne.out];rfl
    have hR2 : R = .error (s.size, 50) := by rw [HRe.out, if_neg (by intro h; apply h0; rw [← Hno.out, h.1]; rfl), HDl.out]
    have hn0 : 0 < no := by omega
    have hn1 : decide ((0 : Int) < (no : Int)) = true := by rw [decide_eq_true_iff]; omega
    subst hR2;clear h0 c2;go_wp2;go_ret3;exact ⟨HBe.out, rfl⟩

set_option maxHeartbeats 4000000 in
theorem dwell_any (s : ByteArray) (w : World) (hs : s.size ≤ 100000) (hc : ∀ x, Sx.parse s.data.toList = .error x → x.2 ≠ 0) :
  Calls Tryz.prog 18 #[.string s] w fun e w' => e = .returned (.bool (isOk (Sx.parse s.data.toList))) ∧ Below w.heap.size w w' := by
 have HPa := hide (dparse_any s w hs);obtain ⟨r, hr⟩ : ∃ r, Sx.parse s.data.toList = r := ⟨_, rfl⟩;rw [hr] at HPa hc ⊢;clear hr
 cases r with
 | error x =>
  have hx : ((x.2 : Int) == 0) = false := by rw [beq_eq_false_iff_ne]; have := hc x rfl; omega
  clear hc
  go_enter Tryz.func18, Tryz.ntmps18
  go_wp2_with fail
  refine HPa.out.mono ?_;rintro e w1 ⟨b1, rfl⟩;go_wp2;go_ret;exact ⟨rfl, b1⟩
 | ok evs =>
  clear hc
  go_enter Tryz.func18, Tryz.ntmps18
  go_wp2_with fail
  refine HPa.out.mono ?_;rintro e w1 ⟨b1, xs, A, c, -, rfl, -, -, -, -, -⟩;go_wp2;go_ret;exact ⟨rfl, b1⟩
end
section
open Tk Sx

def opnS (o : List Nm) (e : Ev) : List Nm := if e.kind = 0 then o ++ [e.name] else if e.kind = 1 then o.dropLast else o
def opn : List Nm → List Ev → List Nm
 | o, [] => o
 | o, e :: r => opn (opnS o e) r
def GoodE (o : List Nm) (k : Nat) (prev : Option Ev) (e : Ev) : Prop :=
 (e.kind = 0 ∧ (o = [] → k = 0) ∧ o.length < 16 ∧ e.attrs.length ≤ 16 ∧ e.name.loc ≠ []) ∨ (e.kind = 1 ∧ o.getLast? = some e.name) ∨ (e.kind = 2 ∧ o ≠ [] ∧ e.text ≠ [] ∧ fine e.text = true ∧ ∃ p, prev = some p ∧ p.kind ≠ 2)
def Bal (evs : List Ev) : Prop := ∀ k e, evs[k]? = some e → GoodE (opn [] (evs.take k)) k (evs[k - 1]?) e
structure Inv (st : St) : Prop where
 bal : Bal st.evs
 op : opn [] st.evs = st.open_.map (·.name)
 no : st.rooted = false → st.evs = [] ∧ st.open_ = []
 yes : st.rooted = true → st.evs ≠ []
 few : st.open_.length ≤ 16
theorem early_none {st : St} {t : Tok} (h : Sx.early st t = none) : names t = none ∧ ¬(st.rooted = true ∧ st.open_ = []) ∧ t.attrs.length ≤ 16 ∧ st.open_.length ≠ 16 := by
 unfold Sx.early at h
 cases hn : names t with
 | some a => rw [hn] at h; cases h
 | none =>
  rw [hn] at h;dsimp only at h
  split at h
  ·cases h
  rename_i h1
  split at h
  ·cases h
  rename_i h2
  split at h
  ·cases h
  rename_i h3
  refine ⟨rfl, fun hh => h1 ?_, by omega, h3⟩;rw [hh.1, hh.2];rfl
structure TokE (n : Nat) (t : Tok) : Prop where
 at_ : t.at_ ≤ n
 ats : ∀ a ∈ t.attrs, a.at_ ≤ n
theorem attrsW_at {off : Nat} {w : L} {as_ : List At} {e : Bool} (h : AttrsW off w as_ e) : ∀ a ∈ as_, a.at_ ≤ off + w.length := by
 induction h with
 | two => intro a ha; cases ha
 | one => intro a ha; cases ha
 | more off b nm v x w as_ e hb h0 hn hn0 hv h60 hw ih =>
  intro a ha;simp only [List.length_append]
  rcases List.mem_cons.1 ha with rfl | ha
  ·show off + b.length ≤ _; omega
  have := ih a ha; omega
theorem tokW_at {at_ : Nat} {w : L} {t : Tok} (h : TokW at_ w t) : TokE (at_ + w.length) t := by
 refine ⟨by rw [h.at_eq]; omega, ?_⟩
 cases h with
 | start _ nm wa as_ e hn h0 ha =>
  intro a hm;have := attrsW_at ha a hm;simp only [List.length_cons, List.length_append];omega
 | _ => intro a ha; cases ha
theorem row_at {at_ : Nat} {w rest : L} {ts : List Tok} (h : Row at_ w rest ts) : ∀ t ∈ ts, TokE (at_ + w.length) t := by
 induction h with
 | nil => intro t ht; cases ht
 | cons at_ w t w2 rest ts hw hf hk _ ih =>
  intro u hu;rw [List.length_append]
  rcases List.mem_cons.1 hu with rfl | hu
  ·have := tokW_at hw; exact ⟨by have := this.at_; omega, fun a ha => by have := this.ats a ha; omega⟩
  have := ih u hu; exact ⟨by have := this.at_; omega, fun a ha => by have := this.ats a ha; omega⟩
def Told (n : Nat) (x : Nat × Nat) : Prop := x.1 ≤ n ∧ (x.2 = 50 ∨ x.2 = 41 ∨ x.2 = 42)
theorem namesAt_le {n : Nat} : ∀ {l : List At} {seen : List L} {a : Nat}, (∀ x ∈ l, x.at_ ≤ n) → namesAt seen l = some a → a ≤ n
 | [], _, _, _, h => by cases h
 | x :: l, seen, a, hl, h => by
  unfold namesAt at h
  split at h
  ·simp only [Option.some.injEq] at h; subst h; exact hl x (List.mem_cons_self ..)
  exact namesAt_le (fun y hy => hl y (List.mem_cons_of_mem _ hy)) h
theorem valsAt_le {n : Nat} : ∀ {l : List At} {a : Nat}, (∀ x ∈ l, x.at_ ≤ n) → valsAt l = some a → a ≤ n
 | [], _, _, h => by cases h
 | x :: l, a, hl, h => by
  unfold valsAt at h
  split at h
  ·exact valsAt_le (fun y hy => hl y (List.mem_cons_of_mem _ hy)) h
  simp only [Option.some.injEq] at h; subst h; exact hl x (List.mem_cons_self ..)
theorem declAt_le {n : Nat} : ∀ {l : List Spl} {a : Nat}, (∀ x ∈ l, x.at_ ≤ n) → Sx.declAt l = some a → a ≤ n
 | [], _, _, h => by cases h
 | x :: l, a, hl, h => by
  unfold Sx.declAt at h
  split at h
  ·simp only [Option.some.injEq] at h; subst h; exact hl x (List.mem_cons_self ..)
  exact declAt_le (fun y hy => hl y (List.mem_cons_of_mem _ hy)) h
theorem attrsAt_le {n : Nat} {sc : List Dcl} : ∀ {l : List Spl} {seen : List Nm} {a : Nat}, (∀ x ∈ l, x.at_ ≤ n) → attrsAt sc seen l = some a → a ≤ n
 | [], _, _, _, h => by cases h
 | x :: l, seen, a, hl, h => by
  unfold attrsAt at h
  split at h
  ·exact attrsAt_le (fun y hy => hl y (List.mem_cons_of_mem _ hy)) h
  split at h
  ·simp only [Option.some.injEq] at h; subst h; exact hl x (List.mem_cons_self ..)
  exact attrsAt_le (fun y hy => hl y (List.mem_cons_of_mem _ hy)) h
theorem splits_at {n : Nat} {t : Tok} (h : TokE n t) : ∀ s ∈ splits t, s.at_ ≤ n := by
 intro s hs;obtain ⟨a, ha, rfl⟩ := List.mem_map.1 hs;exact h.ats a ha
theorem start_told {n : Nat} {st : St} {t : Tok} {x : Nat × Nat} (h : TokE n t) (hs : Sx.start st t = .error x) : Told n x := by
 unfold Sx.start at hs
 cases he : Sx.early st t with
 | some b =>
  rw [he] at hs;simp only [Except.error.injEq] at hs;subst hs;unfold Sx.early at he
  cases hn : names t with
  | some a =>
   rw [hn] at he;simp only [Option.some.injEq] at he;subst he;unfold names at hn
   split at hn
   ·simp only [Option.some.injEq] at hn; subst hn; exact ⟨h.at_, .inl rfl⟩
   exact ⟨namesAt_le h.ats hn, .inl rfl⟩
  | none =>
   rw [hn] at he;dsimp only at he
   split at he
   ·simp only [Option.some.injEq] at he; subst he; exact ⟨h.at_, .inl rfl⟩
   split at he
   ·simp only [Option.some.injEq] at he; subst he; exact ⟨h.at_, .inr (.inr rfl)⟩
   split at he
   ·simp only [Option.some.injEq] at he; subst he; exact ⟨h.at_, .inr (.inl rfl)⟩
   cases he
 | none =>
  rw [he] at hs;dsimp only at hs
  cases hl : late st t with
  | none => rw [hl] at hs; cases hs
  | some a =>
   rw [hl] at hs;simp only [Except.error.injEq] at hs;subst hs;refine ⟨?_, .inl rfl⟩;unfold late at hl
   split at hl
   ·rename_i hv; simp only [Option.some.injEq] at hl; subst hl; exact valsAt_le h.ats hv
   split at hl
   ·rename_i hd; simp only [Option.some.injEq] at hl; subst hl; exact declAt_le (splits_at h) hd
   split at hl
   ·simp only [Option.some.injEq] at hl; subst hl; exact h.at_
   exact attrsAt_le (splits_at h) hl
theorem step_told {n : Nat} {st : St} {t : Tok} {x : Nat × Nat} (h : TokE n t) (hs : Sx.step st t = .error x) : Told n x := by
 have key : ∀ {y : Nat × Nat}, (.error (t.at_, 50) : Except (Nat × Nat) St) = .error y → Told n y := fun {y} e => by
  simp only [Except.error.injEq] at e;subst e;exact ⟨h.at_, .inl rfl⟩
 unfold Sx.step at hs
 split at hs
 ·exact start_told h hs
 split at hs
 ·unfold Sx.end_ at hs
  split at hs
  ·exact key hs
  split at hs
  ·cases hs
  exact key hs
 split at hs
 ·unfold Sx.text at hs
  split at hs
  ·split at hs
   ·cases hs
   exact key hs
  split at hs
  ·cases hs
  exact key hs
 split at hs
 ·unfold Sx.data at hs
  split at hs
  ·exact key hs
  cases hs
 cases hs
theorem run_told {n : Nat} : ∀ {ts : List Tok} {st : St} {x : Nat × Nat}, (∀ t ∈ ts, TokE n t) → run st ts = .error x → Told n x
 | [], _, _, _, h => by cases h
 | t :: ts, st, x, ht, h => by
  simp only [run] at h
  cases hs : Sx.step st t with
  | error y =>
   rw [hs] at h;simp only [Except.error.injEq] at h;subst h;exact step_told (ht t (List.mem_cons_self ..)) hs
  | ok st1 => rw [hs] at h; exact run_told (fun u hu => ht u (List.mem_cons_of_mem _ hu)) h
theorem bad_le {s : L} (h : 0 ≤ bad s) : (bad s).toNat ≤ s.length := by
 unfold bad at h ⊢
 cases hs : stop (fun _ r => charOk r) s with
 | none => rw [hs] at h; simp at h
 | some k =>
  dsimp only;have := stop_lt hs;omega
theorem parse_told {s : L} {x : Nat × Nat} (h : Sx.parse s = .error x) : Told s.length x := by
 obtain ⟨w, rest, hw, hrow, _⟩ := toks_word s.length 0 s (Nat.le_refl _);have hwl : w.length ≤ s.length := by rw [hw, List.length_append]; omega
 unfold Sx.parse at h
 split at h
 ·rename_i hb
  simp only [Except.error.injEq] at h;subst h;exact ⟨bad_le hb, .inl rfl⟩
 split at h
 ·simp only [Except.error.injEq] at h;subst h;refine ⟨?_, .inl rfl⟩;have hc := hrow.chain;have he := ends_all hc;unfold ends at he;rw [List.take_length] at he;show tokEnd _ ≤ _;unfold tokEnd;omega
 cases hr : run st0 (toks s.length 0 s) with
 | error y =>
  rw [hr] at h;simp only [Except.error.injEq] at h;subst h
  exact run_told (fun t ht => by
   have := row_at hrow t ht;exact ⟨by have := this.at_; omega, fun a ha => by have := this.ats a ha; omega⟩) hr
 | ok st =>
  rw [hr] at h;dsimp only at h
  split at h
  ·cases h
  simp only [Except.error.injEq] at h;subst h;exact ⟨Nat.le_refl _, .inl rfl⟩
theorem ok_run : ∀ {ts : List Tok} {st st' : St} {n M V N : Nat}, OkS st n M V → (∀ t ∈ ts, TokS N t) → 4 * N ≤ V → run st ts = .ok st' → OkS st' (n + 18 * ts.length) (M + 4 * N * ts.length) V
 | [], st, st', n, M, V, N, h, _, _, hs => by
  simp only [run, Except.ok.injEq] at hs;subst hs;exact h
 | t :: ts, st, st', n, M, V, N, h, ht, hV, hs => by
  simp only [run] at hs
  cases hst : Sx.step st t with
  | error x => rw [hst] at hs; cases hs
  | ok st1 =>
   rw [hst] at hs;have h1 := ok_step h (ht t (List.mem_cons_self ..)) hV hst;have h2 := ok_run h1 (fun u hu => ht u (List.mem_cons_of_mem _ hu)) hV hs;have e1 : n + 18 + 18 * ts.length = n + 18 * (t :: ts).length := by rw [List.length_cons]; omega
   have e2 : M + 4 * N + 4 * N * ts.length = M + 4 * N * (t :: ts).length := by rw [List.length_cons, Nat.mul_succ]; omega
   rw [e1, e2] at h2;exact h2
theorem okS0 (V : Nat) : OkS st0 0 0 V := ⟨⟨by simp [st0], by simp [st0], by simp [st0], by simp [st0], by simp [st0], by simp [st0]⟩, by simp [st0]⟩
theorem toks_small (s : L) : (∀ t ∈ toks s.length 0 s, TokS s.length t) ∧ (toks s.length 0 s).length ≤ s.length := by
 obtain ⟨w, rest, hw, h, _⟩ := toks_word s.length 0 s (Nat.le_refl _);have hl : w.length ≤ s.length := by rw [hw, List.length_append]; omega
 exact ⟨fun t ht => (row_small h t ht).more hl, Nat.le_trans (row_len h) hl⟩
theorem parse_small {s : L} {evs : List Ev} {N : Nat} (h : Sx.parse s = .ok evs) (hN : s.length ≤ N) : evs.length ≤ 18 * N ∧ ∀ e ∈ evs, e.text.length ≤ 4 * N * N := by
 unfold Sx.parse at h
 split at h
 ·cases h
 split at h
 ·cases h
 cases hr : run st0 (toks s.length 0 s) with
 | error x => rw [hr] at h; cases h
 | ok st =>
  rw [hr] at h;dsimp only at h
  split at h
  ·simp only [Except.ok.injEq] at h;subst h;obtain ⟨t1, t2⟩ := toks_small s;have hk := ok_run (okS0 (4 * N)) (fun t ht => (t1 t ht).more hN) (Nat.le_refl _) hr;have hl : (toks s.length 0 s).length ≤ N := Nat.le_trans t2 hN;refine ⟨?_, fun e he => ?_⟩
   ·have := hk.ok.ev; omega
   have h1 := hk.ok.tx e he;have h2 : 4 * N * (toks s.length 0 s).length ≤ 4 * N * N := Nat.mul_le_mul_left _ hl;omega
  cases h
end
section
open Tk Sx

theorem row_parse {s : L} {evs : List Ev} (h : Sx.parse s = .ok evs) : ∃ ts st, Row 0 s [] ts ∧ run st0 ts = .ok st ∧ st.open_ = [] ∧ st.rooted = true ∧ st.evs = evs := by
 obtain ⟨w, rest, hw, hr, _⟩ := toks_word s.length 0 s (Nat.le_refl _);unfold Sx.parse at h
 split at h
 ·cases h
 split at h
 ·cases h
 rename_i hte
 have hc := hr.chain;have he := ends_all hc;unfold ends at he;rw [List.take_length] at he
 have hl : w.length = s.length := by
  have : tokEnd (toks s.length 0 s) = s.length := by simpa using hte
  unfold tokEnd at this;omega
 have hrest : rest = [] := by
  have := congrArg List.length hw;rw [List.length_append] at this;exact List.eq_nil_of_length_eq_zero (by omega)
 subst hrest;rw [List.append_nil] at hw;rw [← hw] at hr
 cases hrun : run st0 (toks s.length 0 s) with
 | error x => rw [hrun] at h; cases h
 | ok st =>
  rw [hrun] at h;dsimp only at h
  split at h
  ·rename_i ho
   simp only [Except.ok.injEq] at h;exact ⟨_, st, hr, hrun, ho.1, ho.2, h⟩
  cases h
/-! An event has few attributes. -/
def Few (l : List Ev) : Prop := ∀ e ∈ l, e.attrs.length ≤ 16
theorem few_put {l : List Ev} {x : Ev} (h : Few l) (hx : x.attrs.length ≤ 16) : Few (putEv l x) := by
 intro e he
 have h2 : ∀ e ∈ l ++ [x], e.attrs.length ≤ 16 := fun e he => by
  rcases List.mem_append.1 he with he | he
  ·exact h e he
  rw [List.mem_singleton.1 he]; exact hx
 unfold putEv at he
 split at he
 ·exact h2 e he
 split at he
 ·rename_i y hy
  split at he
  ·rcases List.mem_append.1 he with he | he
   ·exact h e (List.dropLast_subset _ he)
   rw [List.mem_singleton.1 he];exact h y (List.mem_of_getLast? hy)
  split at he
  ·exact h e he
  exact h2 e he
 split at he
 ·exact h e he
 exact h2 e he
theorem few_close {st : St} (h : Few st.evs) : Few (closeSt st).evs := by
 unfold closeSt;split
 ·exact h
 rename_i x _
 exact few_put (x := ⟨1, x.name, [], []⟩) h (by simp)
theorem few_step {st st' : St} {t : Tok} (h : Few st.evs) (hs : Sx.step st t = .ok st') : Few st'.evs := by
 unfold Sx.step at hs
 split at hs
 ·unfold Sx.start at hs
  cases he : Sx.early st t with
  | some b => rw [he] at hs; cases hs
  | none =>
   rw [he] at hs;obtain ⟨_, _, e3, _⟩ := early_none he;dsimp only at hs
   have hst : Few (started st t).evs := few_put (l := st.evs) (x := ⟨0, ⟨(spaceOf (scope' st t) (preOf t)).1, locOf t⟩, attrsOf (scope' st t) (splits t), []⟩) h (by
    have := attrsOf_len (scope' st t) (splits t);rw [show (splits t).length = t.attrs.length from List.length_map _] at this;show (attrsOf (scope' st t) (splits t)).length ≤ 16
    omega)
   cases hl : late st t with
   | some a => rw [hl] at hs; cases hs
   | none =>
    rw [hl] at hs;simp only [Except.ok.injEq] at hs;subst hs
    cases t.empty with
    | true => exact few_close hst
    | false => exact hst
 split at hs
 ·unfold Sx.end_ at hs
  split at hs
  ·cases hs
  split at hs
  ·simp only [Except.ok.injEq] at hs;subst hs;exact few_close h
  cases hs
 split at hs
 ·unfold Sx.text at hs
  split at hs
  ·split at hs
   ·simp only [Except.ok.injEq] at hs;subst hs;exact h
   cases hs
  split at hs
  ·rename_i x _
   simp only [Except.ok.injEq] at hs;subst hs;exact few_put (l := st.evs) (x := textEv x) h (by simp [textEv])
  cases hs
 split at hs
 ·unfold Sx.data at hs
  split at hs
  ·cases hs
  simp only [Except.ok.injEq] at hs;subst hs;exact few_put (l := st.evs) (x := textEv t.text) h (by simp [textEv])
 simp only [Except.ok.injEq] at hs;subst hs;exact h
theorem few_run : ∀ {ts : List Tok} {st st' : St}, Few st.evs → run st ts = .ok st' → Few st'.evs
 | [], st, st', h, hs => by simp only [run, Except.ok.injEq] at hs; subst hs; exact h
 | t :: ts, st, st', h, hs => by
  simp only [run] at hs
  cases hst : Sx.step st t with
  | error x => rw [hst] at hs; cases hs
  | ok st1 => rw [hst] at hs; exact few_run (few_step h hst) hs
theorem parse_few {s : L} {evs : List Ev} (h : Sx.parse s = .ok evs) : Few evs := by
 obtain ⟨ts, st, _, hrun, _, _, rfl⟩ := row_parse h;exact few_run (fun e he => by cases he) hrun
end
section
open Go.RowKit Tk Sx

set_option maxRecDepth 100000 in
set_option maxHeartbeats 32000000 in
theorem sameEvents_any (w : World) (B : Nat) (A A' : Option Addr) (c c' : Nat) (xs ys : List Ew) (h : EvL w B A xs) (h' : EvL w B A' ys) (he : xs.map (·.e) = ys.map (·.e)) (hn : xs.length ≤ 1000000000) (hna : ∀ x ∈ xs, x.e.attrs.length ≤ 1000000000) (hB : B ≤ w.heap.size) :
  Calls Tryz.prog 15 #[.slice A xs.length c, .slice A' ys.length c'] w fun e w' => e = .returned (.bool true) ∧ Below w.heap.size w w' := by
 have HX := hide h;have HY := hide h';have HE := hide he;have HNa := hide hna;have hl : ys.length = xs.length := by have := congrArg List.length he; simpa using this.symm
 obtain ⟨N, hN⟩ : ∃ N, xs.length = N := ⟨_, rfl⟩;rw [hl];rw [hN] at hn hl ⊢;have HN := hide hN;have HNy := hide hl;have HB := hide hB;clear h h' he hna hN hl hB
 go_enter Tryz.func15, Tryz.ntmps15
 go_wp2
 go_loopg [5] N (fun gk vk wr => ∃ k : Nat, gk = N - k ∧ k ≤ N ∧ vk = .int .i64 (k : Int) ∧ Below w.heap.size w wr)
 case atStart => exact ⟨0, rfl, by omega, rfl, Below.refl _ _⟩
 case round =>
  obtain ⟨k, hgk, hk, rfl, hb⟩ := hrel;have Hg := hide hgk;have Hb := hide hb;clear hgk hb
  by_cases hlt : k < N
  ·obtain ⟨x, hx⟩ : ∃ x, xs[k]? = some x := ⟨_, List.getElem?_eq_getElem (by rw [HN.out]; exact hlt)⟩;obtain ⟨y, hy⟩ : ∃ y, ys[k]? = some y := ⟨_, List.getElem?_eq_getElem (by rw [HNy.out]; exact hlt)⟩
   have hxy : y.e = x.e := by
    have h1 : (xs.map (·.e))[k]? = some x.e := by rw [List.getElem?_map, hx]; rfl
    have h2 : (ys.map (·.e))[k]? = some y.e := by rw [List.getElem?_map, hy]; rfl
    rw [HE.out, h2] at h1;exact Option.some.inj h1
   have bB := hide (Hb.out.mono HB.out);obtain ⟨b, off, rfl, hbl, hat⟩ := HX.out.at_ hx;obtain ⟨b', off', rfl, hbl', hat'⟩ := HY.out.at_ hy;have x0 := (bB.out.cell (p := ⟨b, off + k * 5, none⟩) hbl).trans hat.c0;have x1 := (bB.out.cell (p := ⟨b, off + k * 5 + 1, none⟩) hbl).trans hat.c1;have x2 := (bB.out.cell (p := ⟨b, off + k * 5 + 2, none⟩) hbl).trans hat.c2;have x3 := (bB.out.cell (p := ⟨b, off + k * 5 + 3, none⟩) hbl).trans hat.c3;have x4 := (bB.out.cell (p := ⟨b, off + k * 5 + 4, none⟩) hbl).trans hat.c4;have y0 := (bB.out.cell (p := ⟨b', off' + k * 5, none⟩) hbl').trans hat'.c0;have y1 := (bB.out.cell (p := ⟨b', off' + k * 5 + 1, none⟩) hbl').trans hat'.c1;have y2 := (bB.out.cell (p := ⟨b', off' + k * 5 + 2, none⟩) hbl').trans hat'.c2;have y3 := (bB.out.cell (p := ⟨b', off' + k * 5 + 3, none⟩) hbl').trans hat'.c3;have y4 := (bB.out.cell (p := ⟨b', off' + k * 5 + 4, none⟩) hbl').trans hat'.c4;rw [hxy] at y0 y1 y2 y3 y4;have X3 := fun W (hW : Below B w W) => (hW.cell (p := ⟨b, off + k * 5 + 3, none⟩) hbl).trans hat.c3;have Y3 := fun W (hW : Below B w W) => (hW.cell (p := ⟨b', off' + k * 5 + 3, none⟩) hbl').trans hat'.c3;rw [hxy] at Y3;have hsx := HX.out.sub x (List.mem_of_getElem? hx);have hsy := HY.out.sub y (List.mem_of_getElem? hy);rw [hxy] at hsy;have HSx := hide hsx;have HSy := hide hsy;have hna := HNa.out x (List.mem_of_getElem? hx)
   obtain ⟨as_, has⟩ : ∃ as_, x.e.attrs = as_ := ⟨_, rfl⟩;rw [has] at x3 y3 X3 Y3 hna HSx HSy;obtain ⟨na, hnn⟩ : ∃ na, as_.length = na := ⟨_, rfl⟩;rw [hnn] at x3 y3 X3 Y3 hna HSx HSy;have HX3 := hide X3;have HY3 := hide Y3;have Hnn := hide hnn;generalize bstr x.e.name.ns = s1 at *
   generalize bstr x.e.name.loc = s2 at *
   generalize bstr x.e.text = s4 at *
   generalize x.e.kind = kd at *
   generalize x.A = xA at *
   generalize y.A = yA at *
   generalize x.c = xc at *
   generalize y.c = yc at *
   clear X3 Y3 hat hat' hx hy hxy hsx hsy has hnn;go_wp2
   go_quiet (fail)
   go_wp2;clear x0 x1 x2 x3 x4 y0 y1 y2 y3 y4
   go_loopg [6] na (fun gk vj wr2 => ∃ j : Nat, gk = na - j ∧ j ≤ na ∧ vj = .int .i64 (j : Int) ∧ Below w.heap.size w wr2)
   case atStart => exact ⟨0, rfl, by omega, rfl, by first | exact Hb.out | exact below_drewN Hb.out _⟩
   case round =>
    obtain ⟨j, hgk2, hj, rfl, hb2⟩ := hrel;have Hg2 := hide hgk2;have Hb2 := hide hb2;have bB2 := hide (hb2.mono HB.out);clear hgk2 hb2;have x3 := HX3.out wr bB2.out;have y3 := HY3.out wr bB2.out
    by_cases hlj : j < na
    ·obtain ⟨a, ha⟩ : ∃ a, as_[j]? = some a := ⟨_, List.getElem?_eq_getElem (by rw [Hnn.out]; exact hlj)⟩;have r1 := HSx.out.below bB2.out;have r2 := HSy.out.below bB2.out;rw [← Hnn.out] at r1 r2;obtain ⟨ab, ao, rfl, _, ta⟩ := atts_at r1 ha;obtain ⟨ab', ao', rfl, _, ta'⟩ := atts_at r2 ha;obtain ⟨u0, u1, u2⟩ := ta;obtain ⟨v0, v1, v2⟩ := ta';generalize bstr a.name.ns = t1 at *
     generalize bstr a.name.loc = t2 at *
     generalize bstr a.val = t3 at *
     clear ha r1 r2;go_wp2
     go_quiet (fail)
     go_wp2
     go_roundg (na - (j + 1))
     case measure => have := Hg2.out; omega
     case rel => exact ⟨j + 1, rfl, by omega, by first | rfl | go_num, below_drewN Hb2.out _⟩
    go_wp2
    go_roundg (N - (k + 1))
    case measure => have := Hg.out; omega
    case rel => exact ⟨k + 1, rfl, by omega, by first | rfl | go_num, Hb2.out⟩
  go_wp2;go_ret;exact ⟨rfl, Hb.out⟩
end
end Go.Proofs.YtbbpkcddifmieaaGreatDoor
