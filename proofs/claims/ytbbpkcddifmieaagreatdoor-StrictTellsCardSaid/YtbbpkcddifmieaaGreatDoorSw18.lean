/- References in plain data: the pieces' text is the bytes' text; white space makes no difference to what is wrong. · References in plain data: a row of pieces, taken one by one. · Tokens: All: a text's tokens. · Tokens: lists that All has made, as lists that lie anywhere. · Strict in plain data: names, values, a start's attributes, a parse on its way; no program in sight. -/
import Derived.Test.YtbbpkcddifmieaaGreatDoorSw14
import Derived.Test.YtbbpkcddifmieaaGreatDoorSw15
import Derived.Test.YtbbpkcddifmieaaGreatDoorSw17
set_option linter.unusedSimpArgs false
set_option linter.unusedVariables false
namespace Go.Proofs.YtbbpkcddifmieaaGreatDoor
section
open Go Tk Sx
namespace Sx
def srp : List Pce → Except Nat L
 | [] => .ok []
 | x :: r => if x.ref = false ∧ x.text ≠ [38] then glueE x.text (srp r) else if x.ref then match scalar x.text with
   | some v => glueE (putL v) (srp r)
   | none => .error x.at_
  else .error x.at_
theorem glueE_nil (e : Except Nat L) : glueE [] e = e := by cases e <;> simp [glueE]
theorem sref_plain : ∀ (a : L) (f k : Nat) (r : L), (38 : UInt8) ∉ a → sref (a.length + f) k (a ++ r) = glueE a (sref f (k + a.length) r)
 | [], f, k, r, _ => by simp [glueE_nil]
 | c :: a, f, k, r, h => by
  have hc : c ≠ 38 := fun e => h (by rw [e]; simp);have ha : (38 : UInt8) ∉ a := fun e => h (List.mem_cons_of_mem _ e);rw [List.length_cons, show a.length + 1 + f = (a.length + f) + 1 by omega, List.cons_append, sref_byte hc, sref_plain a f (k + 1) r ha, glueE_glue, show k + 1 + a.length = k + (a.length + 1) by omega];rfl
theorem indexByte_no : ∀ {l : L} {c : UInt8}, Lib.indexByte l c < 0 → c ∉ l
 | [], c, _ => by simp
 | b :: l, c, h => by
  unfold Lib.indexByte at h
  split at h
  ·omega
  rename_i hb
  (try dsimp only at h)
  split at h
  ·rename_i h2
   have : Lib.indexByte l c = -1 := by simpa using h2
   have ih := indexByte_no (l := l) (c := c) (by omega);intro hm
   rcases List.mem_cons.1 hm with e | e
   ·rw [e] at hb; simp at hb
   exact ih e
  rename_i h2
  have hg := Lib.indexByte_ge l c;have : Lib.indexByte l c ≠ -1 := by simpa using h2
  omega
theorem indexByte_yes : ∀ {l : L} {c : UInt8} {m : Nat}, Lib.indexByte l c = m → c ∉ l.take m ∧ l[m]? = some c
 | [], c, m, h => by simp [Lib.indexByte] at h
 | b :: l, c, m, h => by
  unfold Lib.indexByte at h
  split at h
  ·rename_i hb
   have : m = 0 := by omega
   subst this;have hb' : b = c := by simpa using hb
   simp [hb']
  rename_i hb
  (try dsimp only at h)
  split at h
  ·omega
  rename_i h2
  have hg := Lib.indexByte_ge l c;have h3 : Lib.indexByte l c ≠ -1 := by simpa using h2
  obtain ⟨j, hj⟩ : ∃ j : Nat, Lib.indexByte l c = j := ⟨(Lib.indexByte l c).toNat, by omega⟩;obtain ⟨h4, h5⟩ := indexByte_yes hj;have : m = j + 1 := by omega
  subst this;refine ⟨?_, by simpa using h5⟩;rw [List.take_succ_cons];intro hm
  rcases List.mem_cons.1 hm with e | e
  ·rw [e] at hb; simp at hb
  exact h4 e
theorem srp_is : ∀ (f : Nat) (k : Nat) (l : L) (g : Nat), l.length ≤ f → l.length ≤ g → srp (rps f k l) = sref g k l := by
 intro f
 induction f with
 | zero =>
  intro k l g hf _;have : l = [] := List.length_eq_zero_iff.1 (by omega);subst this;rw [rps_nil, sref_nil];rfl
 | succ f ih =>
  intro k l g hf hg
  by_cases h0 : l = []
  ·subst h0; rw [rps_nil, sref_nil]; rfl
  have hlp := List.length_pos_iff.2 h0;have hge := Lib.indexByte_ge l 38
  by_cases hn : Lib.indexByte l 38 < 0
  ·rw [rps_rest h0 hn];have h38 := indexByte_no hn;have e := sref_plain l (g - l.length) k [] h38;rw [List.append_nil, show l.length + (g - l.length) = g by omega, sref_nil] at e;rw [e];unfold srp;rw [if_pos ⟨rfl, fun e => h38 (by have e2 : l = [38] := e; rw [e2]; simp)⟩];rfl
  obtain ⟨m, hm⟩ : ∃ m : Nat, Lib.indexByte l 38 = m := ⟨(Lib.indexByte l 38).toNat, by omega⟩;obtain ⟨h38, hat⟩ := indexByte_yes hm;have hml := (List.getElem?_eq_some_iff.1 hat).1
  by_cases hm0 : m = 0
  ·subst hm0;obtain ⟨c, r, rfl⟩ : ∃ c r, l = c :: r := ⟨_, _, (List.cons_head_tail h0).symm⟩;have hc : c = 38 := by simpa using hat
   subst hc;rw [List.length_cons] at hf hg;obtain ⟨g, rfl⟩ : ∃ g', g = g' + 1 := ⟨g - 1, by omega⟩
   cases he : ends r with
   | none =>
    rw [rps_amp h0 hm he, sref_none he];unfold srp;rw [if_neg (by simp), if_neg (by simp)]
   | some n =>
    rw [rps_ref h0 hm he];unfold srp;rw [if_neg (by simp), if_pos rfl];simp only [List.tail_cons]
    cases hs : scalar (r.take n) with
    | none => rw [sref_bad he hs]
    | some v =>
     rw [sref_ref he hs];simp only;congr 1;have e : (38 :: r : L).drop (n + 2) = r.drop (n + 1) := rfl;rw [e];exact ih _ _ _ (by rw [List.length_drop]; omega) (by rw [List.length_drop]; omega)
  rw [rps_text h0 hm (by omega)];unfold srp;have hne : l.take m ≠ [38] := fun e => h38 (by rw [e]; simp);rw [if_pos ⟨rfl, hne⟩];simp only;have hlt : (l.take m).length = m := by rw [List.length_take]; omega
  have e := sref_plain (l.take m) (g - m) k (l.drop m) h38;rw [List.take_append_drop, hlt, show m + (g - m) = g by omega] at e;rw [e];congr 1;exact ih _ _ _ (by rw [List.length_drop]; omega) (by rw [List.length_drop]; omega)
end Sx
end
section
open Go Tk Sx
namespace Sx
def stepP (x : Pce) : Option L := if x.ref = false ∧ x.text ≠ [38] then some x.text else if x.ref then (scalar x.text).map fun v => putL v else none
def outAll (l : List Pce) : L := l.flatMap fun x => (stepP x).getD []
theorem outAll_snoc (l : List Pce) (x : Pce) : outAll (l ++ [x]) = outAll l ++ (stepP x).getD [] := by simp [outAll]
theorem srp_cons {x : Pce} {r : List Pce} : srp (x :: r) = match stepP x with
  | some t => glueE t (srp r)
  | none => .error x.at_ := by
 conv => lhs; unfold srp
 unfold stepP
 by_cases h : x.ref = false ∧ x.text ≠ [38]
 ·rw [if_pos h, if_pos h]
 rw [if_neg h, if_neg h]
 cases hr : x.ref with
 | false => simp
 | true =>
  simp only [if_true]
  cases scalar x.text with
  | none => rfl
  | some v => rfl
theorem srp_ok : ∀ {l : List Pce}, (∀ x ∈ l, (stepP x).isSome = true) → srp l = .ok (outAll l)
 | [], _ => rfl
 | x :: r, h => by
  rw [srp_cons];obtain ⟨t, ht⟩ := Option.isSome_iff_exists.1 (h x (by simp));rw [ht, srp_ok fun y hy => h y (List.mem_cons_of_mem _ hy)];simp [glueE, outAll, ht]
theorem srp_err : ∀ {pre : List Pce} {x : Pce} {rest : List Pce}, (∀ y ∈ pre, (stepP y).isSome = true) → stepP x = none → srp (pre ++ x :: rest) = .error x.at_
 | [], x, rest, _, hx => by rw [List.nil_append, srp_cons, hx]
 | y :: pre, x, rest, h, hx => by
  rw [List.cons_append, srp_cons];obtain ⟨t, ht⟩ := Option.isSome_iff_exists.1 (h y (by simp));rw [ht, srp_err (fun z hz => h z (List.mem_cons_of_mem _ hz)) hx];rfl
theorem step_short {x : Pce} (h : x.text.length ≤ 100000) : ((stepP x).getD []).length ≤ 100000 := by
 unfold stepP;split
 ·exact h
 split
 ·cases scalar x.text with
  | none => simp
  | some v => have := putL_short (v : Int); simp; omega
 simp
theorem cut_short (x : Pce) : (cutPce x).text.length ≤ 100000 := by unfold cutPce; simp only [List.length_take]; omega
theorem outAll_short : ∀ {l : List Pce}, (outAll (l.map cutPce)).length ≤ l.length * 100000
 | [] => by simp [outAll]
 | x :: r => by
  have ih := outAll_short (l := r);have hx := step_short (cut_short x);have e : outAll ((x :: r).map cutPce) = (stepP (cutPce x)).getD [] ++ outAll (r.map cutPce) := by simp [outAll]
  rw [e, List.length_append, List.length_cons];omega
theorem rps_short : ∀ (f k : Nat) (l : L), ∀ x ∈ rps f k l, x.text.length ≤ max 1 l.length := by
 intro f
 induction f with
 | zero => intro k l x hx; simp [rps] at hx
 | succ f ih =>
  intro k l x hx
  by_cases h0 : l = []
  ·subst h0; rw [rps_nil] at hx; cases hx
  have hge := Lib.indexByte_ge l 38
  by_cases hn : Lib.indexByte l 38 < 0
  ·rw [rps_rest h0 hn] at hx;simp only [List.mem_singleton] at hx;subst hx;exact Nat.le_max_right _ _
  obtain ⟨m, hm⟩ : ∃ m : Nat, Lib.indexByte l 38 = m := ⟨(Lib.indexByte l 38).toNat, by omega⟩
  have step : ∀ (t : Pce) (k' j : Nat), t.text.length ≤ max 1 l.length → x ∈ t :: rps f k' (l.drop j) → x.text.length ≤ max 1 l.length := fun t k' j ht hm => by
   rcases List.mem_cons.1 hm with e | e
   ·rw [e]; exact ht
   have := ih _ _ x e;rw [List.length_drop] at this;omega
  by_cases hm0 : m = 0
  ·subst hm0
   cases he : ends l.tail with
   | none => rw [rps_amp h0 hm he] at hx; exact step _ _ _ (by simp; omega) hx
   | some n => rw [rps_ref h0 hm he] at hx; exact step _ _ _ (by simp; omega) hx
  rw [rps_text h0 hm (by omega)] at hx;exact step _ _ _ (by simp; omega) hx
theorem rps_cut {s : L} (hs : s.length ≤ 100000) (k f : Nat) : (rps f k s).map cutPce = rps f k s := by
 have h := rps_short f k s;generalize rps f k s = r at *
 induction r with
 | nil => rfl
 | cons x r ih =>
  rw [List.map_cons, ih fun y hy => h y (List.mem_cons_of_mem _ hy)];congr 1;refine cutPce_id ?_;have := h x (by simp);omega
end Sx
end
section
open Go.RowKit Tk

set_option maxHeartbeats 8000000 in
set_option maxRecDepth 20000 in
theorem tks_any (w : World) (s : ByteArray) (hg : Gl w) (hw6 : 6 ≤ w.heap.size) (hs : s.size ≤ 1000000) :
  Calls Tryz.prog 24 #[.string s] w (TksR w s.data.toList) := by
 have HV := hide (fun W => valid_any s W (by omega));obtain ⟨D, hD⟩ : ∃ D, s.data.toList = D := ⟨_, rfl⟩;have HD := hide hD;have HDl := hide (show D.length = s.size by rw [← hD, size_list]);have HO := hide (fun W k (h1 : Gl W) (h2 : 6 ≤ W.heap.size) (h3 : k < s.size) => one_any W s k h1 h2 h3 (by omega));rw [hD] at HV HO ⊢;clear hD;have HG := hide hg;clear hg
 cases hv : Utf.valid D with
 | false =>
  rw [hv] at HV;have HP := hide (show AllP D (([] : List Tv).map (·.t)) 0 false by unfold AllP; rw [if_neg (by rw [hv]; simp)]; exact ⟨rfl, rfl, rfl⟩);clear hv HO
  go_enter Tryz.func24, Tryz.ntmps24
  go_wp2
  go_step3
  go_wp2_with fail
  refine (HV.out _).mono ?_;rintro e w1 ⟨rfl, b1⟩;have B1 := hide b1;clear b1;go_wp2;rw [Exit.noGoto_ret];go_ret3;exact ⟨[], none, 0, 0, false, HP.out, by simp, by simp, rfl, B1.out, Reads.none_, (fun a h => by cases h), (fun a h => by cases h), (fun x hx => by cases hx)⟩
 | true =>
  rw [hv] at HV;have Hv := hide hv;clear hv
  go_enter Tryz.func24, Tryz.ntmps24
  go_wp2
  go_step3
  go_wp2_with fail
  refine (HV.out _).mono ?_;rintro e w1 ⟨rfl, b1⟩;have B1 := hide b1;clear b1 HV;go_wp2
  go_step3
  go_wp2
  go_loopg [2, 3] s.size (fun g vl va wr => ∃ (p : Nat) (xs : List Tv) (A : Option Addr) (c : Nat), g = s.size - p ∧ p ≤ s.size ∧ va = .int .i64 (p : Int) ∧ vl = .slice A xs.length c ∧
   wr.ownsRow w.heap.size 64 7 (.slice A xs.length c) xs.length (tvRows xs) ∧ (∀ x ∈ xs, x.In w.heap.size wr) ∧ Below w.heap.size w wr ∧ Row 0 (D.take p) (D.drop p) (xs.map (·.t)))
  case atStart => exact ⟨0, [], none, 0, rfl, by omega, rfl, rfl, World.ownsRow_nil _ _ _ _, (fun x hx => by cases hx), B1.out, .nil _ _⟩
  case round =>
   obtain ⟨p, xs, A, c, hgg, hp, rfl, rfl, hrow, hi, hB, hR⟩ := hrel;have Hg := hide hgg;have Hrow := hide hrow;have Hi := hide hi;have HB := hide hB;have HR := hide hR;clear hgg hrow hi hB hR B1
   by_cases hlt : p < s.size
   ·have hone := HO.out wr p (HG.out.below HB.out) (by have := HB.out.size; omega) hlt
    cases ho : Tk.one p (D.drop p) with
    | none =>
     rw [ho] at hone;have HX := hide (show Calls Tryz.prog 47 #[.string s, .int .i64 (p : Int)] wr fun e w' => Below wr.heap.size wr w' ∧ e = .returned (.tuple #[.agg #[.int .i8 0, .string ⟨#[]⟩, .slice none 0 0, .bool false, .string ⟨#[]⟩, .int .i64 0, .int .i64 0], .bool false]) from hone)
     have HP := hide (show AllP D (xs.map (·.t)) p ((p : Int) == (s.size : Int)) by
      unfold AllP;rw [if_pos Hv.out];have hl : (D.take p).length = p := by rw [List.length_take, HDl.out]; omega
      refine ⟨_, _, (List.take_append_drop p D).symm, HR.out, .inr (by rw [hl]; exact ho), hl.symm, ?_⟩
      have e1 : (D.drop p).isEmpty = false := by
       rw [Bool.eq_false_iff];intro e;have := congrArg List.length (List.isEmpty_iff.1 e);rw [List.length_drop, HDl.out] at this;simp at this;omega
      rw [e1, beq_eq_false_iff_ne]
      omega)
     have Hlen := hide (show xs.length ≤ D.length by have := row_len HR.out; rw [List.length_map, List.length_take] at this; omega);clear hone ho HO HR
     go_wp2_with fail
     refine HX.out.mono ?_;rintro e w2 ⟨b2, rfl⟩;have B2 := hide (b2.alloc b2.size (.cells #[.int .i8 0, .string ⟨#[]⟩, .slice none 0 0, .bool false, .string ⟨#[]⟩, .int .i64 0, .int .i64 0] 64));clear b2;have Own2 := hide (own_below Hrow.out B2.out);have In2 := hide (fun x hx => (Hi.out x hx).below B2.out);have HB2 := hide (HB.out.trans (B2.out.mono HB.out.size));go_wp2;rw [Exit.noGoto_ret];go_ret3;exact ⟨xs, A, c, p, _, HP.out, Hlen.out, own_cap Hrow.out, rfl, HB2.out, Reads.of_own Own2.out, above_own Own2.out, typed_own Own2.out, In2.out⟩
    | some t =>
     rw [ho] at hone
     have HX := hide (show Calls Tryz.prog 47 #[.string s, .int .i64 (p : Int)] wr fun e w' => Below wr.heap.size wr w' ∧ ∃ A c, e = .returned (.tuple #[.agg #[.int .i8 t.kind, .string (bstr t.name), .slice A t.attrs.length c, .bool t.empty, .string (bstr t.text), .int .i64 (t.at_ : Int), .int .i64 (t.end_ : Int)], .bool true]) ∧
      w'.ownsRow wr.heap.size 135 3 (.slice A t.attrs.length c) t.attrs.length (attrVs t.attrs) from hone)
     have HN := hide (row_next HR.out (by rw [HDl.out]; exact hlt) ho);have Hlen := hide (show xs.length ≤ D.length by have := row_len HR.out; rw [List.length_map, List.length_take] at this; omega);clear hone ho HO HR
     go_wp2_with fail
     refine HX.out.mono ?_;rintro e w2 ⟨b2, A2, c2, rfl, o2⟩;have B2 := hide b2;have N2 := hide (Tv.In.of_own o2);have Own2 := hide (own_below Hrow.out b2);have In2 := hide (fun x hx => (Hi.out x hx).below b2);have HB2 := hide (HB.out.trans (b2.mono HB.out.size));have Own3 := hide (Own2.out.alloc (.cells #[.int .i8 t.kind, .string (bstr t.name), .slice A2 t.attrs.length c2, .bool t.empty, .string (bstr t.text), .int .i64 (t.at_ : Int), .int .i64 (t.end_ : Int)] 64));have In3 := hide (fun x hx => (In2.out x hx).below (below_alloc w2 (.cells #[.int .i8 t.kind, .string (bstr t.name), .slice A2 t.attrs.length c2, .bool t.empty, .string (bstr t.text), .int .i64 (t.at_ : Int), .int .i64 (t.end_ : Int)] 64)));have N3 := hide ((N2.out.below (below_alloc w2 (.cells #[.int .i8 t.kind, .string (bstr t.name), .slice A2 t.attrs.length c2, .bool t.empty, .string (bstr t.text), .int .i64 (t.at_ : Int), .int .i64 (t.end_ : Int)] 64))).more HB.out.size);have HB3 := hide (HB2.out.alloc HB2.out.size (.cells #[.int .i8 t.kind, .string (bstr t.name), .slice A2 t.attrs.length c2, .bool t.empty, .string (bstr t.text), .int .i64 (t.at_ : Int), .int .i64 (t.end_ : Int)] 64));have V3 := hide (Blk.new w2 64 #[.int .i8 t.kind, .string (bstr t.name), .slice A2 t.attrs.length c2, .bool t.empty, .string (bstr t.text), .int .i64 (t.at_ : Int), .int .i64 (t.end_ : Int)])
     have HVn := hide (show (Value.slice A xs.length c).ownBlock ≠ some w2.heap.size from fun e => by have := (Own2.out.lt _ e).2; omega);have Hxl := hide (show xs.length ≤ 1000000 by have := Hlen.out; have := HDl.out; omega);clear b2 o2 N2 Own2 In2 HB2 B2;go_wp2;generalize w2.alloc (.cells #[.int .i8 t.kind, .string (bstr t.name), .slice A2 t.attrs.length c2, .bool t.empty, .string (bstr t.text), .int .i64 (t.at_ : Int), .int .i64 (t.end_ : Int)] 64) = W3 at *
     generalize w2.heap.size = V at *
     have y0 := V3.out.cell 0;have y1 := V3.out.cell 1;have y2 := V3.out.cell 2;have y3 := V3.out.cell 3;have y4 := V3.out.cell 4;have y5 := V3.out.cell 5;have y6 := V3.out.cell 6;have xa : ∀ o, (W3.alloc o).cell? ⟨V, 6, none⟩ = some (.int .i64 (t.end_ : Int)) := fun o => (V3.out.alloc o).cell 6
     go_region_law
      (show if Region.wanted (⟨some 25, _, _, _, _, _⟩ : Oper) _ = true then _ else _; refine step_append_elem _ (by rfl) _ _ _ (by rfl) w.heap.size 64 _ 7 88 Tryz.underlying52 info_tok (by rfl) (by omega) (.slice A xs.length c) xs.length (tvRows xs) (by rfl) (by first | exact Own3.out.alloc _ | exact (Own3.out.alloc _).drew) (Tv.row ⟨t, A2, c2⟩) rfl (tv_one ⟨t, A2, c2⟩) W3.heap.size (by first | exact Blk.new W3 64 _ | exact (Blk.new W3 64 _).drew) (by rfl) (by unfold maxLen; have := Hxl.out; omega) (by have := Hxl.out; omega) (by have := HB3.out.size; simp [World.drew]; omega) ?_; intro gg cap w8 hown8 hgrow8 hlt8; have V8 := hide (Blk.grown (Blk.drew (Blk.alloc V3.out (.cells (Tv.row ⟨t, A2, c2⟩).toArray 64))) hgrow8 HVn.out.symm); have z6 : w8.cell? ⟨V, 6, none⟩ = some (.int .i64 (t.end_ : Int)) := V8.out.cell 6; have Hgrow8 := hide hgrow8; have Hown8 := hide hown8; clear hown8 hgrow8 hlt8)
     all_goals go_wp2
     all_goals
      have HBA := hide ((HB3.out.alloc HB3.out.size (.cells (Tv.row ⟨t, A2, c2⟩).toArray 64)).drew);have HB8 := hide (HBA.out.grown Hgrow8.out HBA.out.size fun j e => (own_isT Own3.out j e).1)
      have In8 := hide (show ∀ x ∈ xs ++ [Tv.mk t A2 c2], x.In w.heap.size w8 from fun x hx => by
       rcases List.mem_append.1 hx with hx | hx
       ·exact (In3.out x hx).grown Own3.out Hgrow8.out
       simp only [List.mem_singleton] at hx;subst hx;exact N3.out.grown Own3.out Hgrow8.out)
      go_roundg (s.size - t.end_)
      case measure => have := Hg.out; have := HN.out.1; have := HN.out.2.1; have := HDl.out; omega
      case rel => exact ⟨t.end_, xs ++ [⟨t, A2, c2⟩], some ⟨gg, 0, none⟩, cap, rfl, by have := HN.out.2.1; have := HDl.out; omega, rfl, by rw [List.length_append]; rfl, by rw [List.length_append, tvRows_snoc]; exact Hown8.out, In8.out, HB8.out, by rw [List.map_append]; exact HN.out.2.2⟩
   have hpe : p = s.size := by omega
   subst hpe
   have HP := hide (show AllP D (xs.map (·.t)) s.size true by
    unfold AllP;rw [if_pos Hv.out];refine ⟨D, [], (List.append_nil _).symm, ?_, .inl rfl, HDl.out.symm, rfl⟩;have h := HR.out;rw [List.take_of_length_le (by rw [HDl.out]; exact Nat.le_refl _), List.drop_of_length_le (by rw [HDl.out]; exact Nat.le_refl _)] at h;exact h)
   have Hlen := hide (show xs.length ≤ D.length by have := row_len HR.out; rw [List.length_map, List.length_take] at this; omega);go_wp2;rw [Exit.noGoto_ret];go_ret3;exact ⟨xs, A, c, s.size, _, HP.out, Hlen.out, own_cap Hrow.out, rfl, HB.out, Reads.of_own Hrow.out, above_own Hrow.out, typed_own Hrow.out, Hi.out⟩
end
section
open Go.RowKit Tk

def Tk.At.g (a : At) : Ga := ⟨bstr a.name, bstr a.value, (a.at_ : Int)⟩
def Tv.g (x : Tv) : Gt := ⟨x.t.kind, bstr x.t.name, x.t.attrs.map At.g, x.A, x.c, x.t.empty, bstr x.t.text, (x.t.at_ : Int), (x.t.end_ : Int)⟩
theorem attrVs_g (l : List At) : attrVs l = gas (l.map At.g) := by
 induction l with
 | nil => rfl
 | cons a l ih => unfold attrVs gas at ih ⊢; rw [List.flatMap_cons, List.map_cons, List.flatMap_cons, ih]; rfl
theorem row_g (x : Tv) : x.row = gtCells x.g := by
 unfold Tv.row tokCells gtCells Tv.g;simp only [List.length_map]
theorem tvRows_g (xs : List Tv) : tvRows xs = gts (xs.map Tv.g) := by
 induction xs with
 | nil => rfl
 | cons a l ih => unfold tvRows gts at ih ⊢; rw [List.flatMap_cons, List.map_cons, List.flatMap_cons, ih, row_g]
theorem Tv.In.g {x : Tv} {B : Nat} {W : World} (h : x.In B W) : Reads W W.heap.size 3 x.g.A x.g.as_.length (gas x.g.as_) := by
 have := h.a;rw [attrVs_g] at this;unfold Tv.g;simp only [List.length_map];exact this
theorem TkL.of {W : World} {A : Option Addr} {xs : List Tv} {B : Nat} (h : Reads W W.heap.size 7 A xs.length (tvRows xs)) (hi : ∀ x ∈ xs, x.In B W) : TkL W W.heap.size A (xs.map Tv.g) := by
 refine ⟨?_, fun x hx => ?_⟩
 ·rw [List.length_map, ← tvRows_g]; exact h
 obtain ⟨y, hy, rfl⟩ := List.mem_map.1 hx;exact (hi y hy).g
theorem Tk.Chain.end_ : ∀ {ts : List Tok} {n e : Nat}, Chain n ts e → e = (ts.getLast?.map (·.end_)).getD n
 | [], n, e, h => h.symm
 | [t], n, e, h => h.2.2.symm
 | t :: u :: r, n, e, h => by
  have := Tk.Chain.end_ (ts := u :: r) h.2.2;rw [this];simp [List.getLast?_cons]
end
section
open Go Tk Sx
namespace Sx
def plainAt (k : Nat) (r : Int) : Bool := if k = 0 then firstOk r else furtherOk r
def plainOk (l : L) : Bool := !l.isEmpty && (stop plainAt l).isNone
def split (l : L) : Option (L × L) :=
 if (Lib.cut l [58]).2.2 then if plainOk (Lib.cut l [58]).1 && plainOk (Lib.cut l [58]).2.1 then some ((Lib.cut l [58]).1, (Lib.cut l [58]).2.1) else none
 else if plainOk l then some ([], l) else none
def norm (c : UInt8) : UInt8 := if c = 9 ∨ c = 10 ∨ c = 13 then 32 else c
def less : L → Option Nat
 | [] => none
 | c :: r => if c = 60 then some 0 else (less r).map (· + 1)
def value (l : L) : Except Nat L :=
 match less l with
 | some k => match sref k 0 ((l.take k).map norm) with
  | .error a => .error a
  | .ok _ => .error k
 | none => sref l.length 0 (l.map norm)
structure Nm where
 ns : L
 loc : L
 deriving DecidableEq
structure Att where
 name : Nm
 val : L
 deriving DecidableEq
structure Ev where
 kind : Nat
 name : Nm
 attrs : List Att
 text : L
 deriving DecidableEq
structure El where
 written : L
 name : Nm
 scope : Nat
structure St where
 open_ : List El
 scope : List Dcl
 evs : List Ev
 rooted : Bool
structure Spl where
 pre : L
 loc : L
 val : L
 at_ : Nat
def noNm : Nm := ⟨[], []⟩
abbrev Bad := Option (Nat × Nat)
def orB (b : Bad) (at_ e : Nat) : Bad := match b with
 | some x => some x
 | none => some (at_, e)
def pXmlns : L := [120, 109, 108, 110, 115]
def splOf (a : At) : Spl := match split a.name with
 | some (p, l) => ⟨p, l, [], a.at_⟩
 | none => ⟨[], [], [], a.at_⟩
def namesAt : List L → List At → Option Nat
 | _, [] => none
 | seen, a :: r => if (split a.name).isNone = true ∨ a.name ∈ seen then some a.at_ else namesAt (seen ++ [a.name]) r
def names (t : Tok) : Option Nat := if (split t.name).isNone then some t.at_ else namesAt [] t.attrs
def valOf (a : At) : L := match value a.value with
 | .ok v => v
 | .error _ => []
def valued (a : At) : Spl := ⟨(splOf a).pre, (splOf a).loc, valOf a, a.at_⟩
def valsAt : List At → Option Nat
 | [] => none
 | a :: r => match value a.value with
  | .ok _ => valsAt r
  | .error _ => some a.at_
def declares (s : Spl) : L × Bool := if s.pre = pXmlns then (s.loc, true) else ([], decide (s.pre = [] ∧ s.loc = pXmlns))
def mayD (p u : L) : Bool := decide (p ≠ pXmlns) && decide (u ≠ xmlnsNs) && (decide (p = pXml) == decide (u = xmlNs)) && (decide (p = []) || decide (u ≠ []))
def declared : List Dcl → List Spl → List Dcl
 | sc, [] => sc
 | sc, s :: r => if (declares s).2 then declared (sc ++ [⟨(declares s).1, s.val⟩]) r else declared sc r
def declAt : List Spl → Option Nat
 | [] => none
 | s :: r => if (declares s).2 && !mayD (declares s).1 s.val then some s.at_ else declAt r
def attSp (sc : List Dcl) (s : Spl) : L × Bool := if s.pre = [] then ([], true) else spaceOf sc s.pre
def attNm (sc : List Dcl) (s : Spl) : Nm := ⟨(attSp sc s).1, s.loc⟩
def attrsOf (sc : List Dcl) : List Spl → List Att
 | [] => []
 | s :: r => if (declares s).2 then attrsOf sc r else ⟨attNm sc s, s.val⟩ :: attrsOf sc r
def attrsAt (sc : List Dcl) : List Nm → List Spl → Option Nat
 | _, [] => none
 | seen, s :: r => if (declares s).2 then attrsAt sc seen r else if (attSp sc s).2 = false ∨ attNm sc s ∈ seen then some s.at_ else attrsAt sc (seen ++ [attNm sc s]) r
def putEv (l : List Ev) (x : Ev) : List Ev := if x.kind ≠ 2 then l ++ [x] else match l.getLast? with
 | some y => if y.kind = 2 then l.dropLast ++ [⟨2, y.name, y.attrs, y.text ++ x.text⟩] else if x.text = [] then l else l ++ [x]
 | none => if x.text = [] then l else l ++ [x]
def textEv (t : L) : Ev := ⟨2, noNm, [], t⟩
def closeSt (st : St) : St := match st.open_.getLast? with
 | none => st
 | some x => ⟨st.open_.dropLast, st.scope.take x.scope, putEv st.evs ⟨1, x.name, [], []⟩, st.rooted⟩
def preOf (t : Tok) : L := ((split t.name).getD ([], [])).1
def locOf (t : Tok) : L := ((split t.name).getD ([], [])).2
def early (st : St) (t : Tok) : Bad := match names t with
 | some a => some (a, 50)
 | none => if st.rooted && st.open_.isEmpty then some (t.at_, 50) else if 16 < t.attrs.length then some (t.at_, 42) else if st.open_.length = 16 then some (t.at_, 41) else none
def splits (t : Tok) : List Spl := t.attrs.map valued
def scope' (st : St) (t : Tok) : List Dcl := declared st.scope (splits t)
def late (st : St) (t : Tok) : Option Nat := match valsAt t.attrs with
 | some a => some a
 | none => match declAt (splits t) with
  | some a => some a
  | none => if (spaceOf (scope' st t) (preOf t)).2 = false ∨ preOf t = pXmlns then some t.at_ else attrsAt (scope' st t) [] (splits t)
def started (st : St) (t : Tok) : St :=
 ⟨st.open_ ++ [⟨t.name, ⟨(spaceOf (scope' st t) (preOf t)).1, locOf t⟩, st.scope.length⟩], scope' st t,
  putEv st.evs ⟨0, ⟨(spaceOf (scope' st t) (preOf t)).1, locOf t⟩, attrsOf (scope' st t) (splits t), []⟩, true⟩
def start (st : St) (t : Tok) : Except (Nat × Nat) St := match early st t with
 | some b => .error b
 | none => match late st t with
  | some a => .error (a, 50)
  | none => .ok (if t.empty then closeSt (started st t) else started st t)
def end_ (st : St) (t : Tok) : Except (Nat × Nat) St := match st.open_.getLast? with
 | none => .error (t.at_, 50)
 | some x => if x.written = t.name then .ok (closeSt st) else .error (t.at_, 50)
def putSt (st : St) (t : L) : St := ⟨st.open_, st.scope, putEv st.evs (textEv t), st.rooted⟩
def text (st : St) (t : Tok) : Except (Nat × Nat) St := if st.open_ = [] then if t.text.all sp then .ok st else .error (t.at_, 50) else match sref t.text.length 0 t.text with
 | .ok s => .ok (putSt st s)
 | .error _ => .error (t.at_, 50)
def data (st : St) (t : Tok) : Except (Nat × Nat) St := if st.open_ = [] then .error (t.at_, 50) else .ok (putSt st t.text)
def step (st : St) (t : Tok) : Except (Nat × Nat) St :=
 if t.kind = 0 then start st t else if t.kind = 1 then end_ st t else if t.kind = 2 then text st t else if t.kind = 3 then data st t else .ok st
def run : St → List Tok → Except (Nat × Nat) St
 | st, [] => .ok st
 | st, t :: r => match step st t with
  | .error x => .error x
  | .ok st' => run st' r
def st0 : St := ⟨[], [], [], false⟩
def tokEnd (ts : List Tok) : Nat := (ts.getLast?.map (·.end_)).getD 0
def parse (s : L) : Except (Nat × Nat) (List Ev) :=
 if 0 ≤ bad s then .error ((bad s).toNat, 50)
 else if tokEnd (toks s.length 0 s) ≠ s.length then .error (tokEnd (toks s.length 0 s), 50)
 else match run st0 (toks s.length 0 s) with
  | .error x => .error x
  | .ok st => if st.open_ = [] ∧ st.rooted = true then .ok st.evs else .error (s.length, 50)
end Sx
end
end Go.Proofs.YtbbpkcddifmieaaGreatDoor
