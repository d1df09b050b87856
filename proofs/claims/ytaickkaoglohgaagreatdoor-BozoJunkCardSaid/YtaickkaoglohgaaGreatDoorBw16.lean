/- Tokens: All: a text's tokens. · Tokens: lists that All has made, as lists that lie anywhere. · Strict in plain data: names, values, a start's attributes, a parse on its way; no program in sight. · Characters: the program's Plain and Split: names. -/
import Derived.Test.YtaickkaoglohgaaGreatDoorBw03
import Derived.Test.YtaickkaoglohgaaGreatDoorBw04
import Derived.Test.YtaickkaoglohgaaGreatDoorBw13
import Derived.Test.YtaickkaoglohgaaGreatDoorBw14
import Derived.Test.YtaickkaoglohgaaGreatDoorBw15
import Derived.Test.YtaickkaoglohgaaGreatDoorShelf
set_option linter.unusedSimpArgs false
set_option linter.unusedVariables false
namespace Go.Proofs.YtaickkaoglohgaaGreatDoor
section
open Go.RowKit Tk

set_option maxHeartbeats 8000000 in
set_option maxRecDepth 20000 in
theorem tks_any (w : World) (s : ByteArray) (hg : Gl w) (hw6 : 6 ≤ w.heap.size) (hs : s.size ≤ 1000000) :
  Calls Tryz.prog 10 #[.string s] w (TksR w s.data.toList) := by
 have HV := hide (fun W => valid_any s W (by omega));obtain ⟨D, hD⟩ : ∃ D, s.data.toList = D := ⟨_, rfl⟩;have HD := hide hD;have HDl := hide (show D.length = s.size by rw [← hD, size_list]);have HO := hide (fun W k (h1 : Gl W) (h2 : 6 ≤ W.heap.size) (h3 : k < s.size) => one_any W s k h1 h2 h3 (by omega));rw [hD] at HV HO ⊢;clear hD;have HG := hide hg;clear hg
 cases hv : Utf.valid D with
 | false =>
  rw [hv] at HV;have HP := hide (show AllP D (([] : List Tv).map (·.t)) 0 false by unfold AllP; rw [if_neg (by rw [hv]; simp)]; exact ⟨rfl, rfl, rfl⟩);clear hv HO
  go_enter Tryz.func10, Tryz.ntmps10
  go_wp2
  go_step3
  go_wp2_with fail
  refine (HV.out _).mono ?_;rintro e w1 ⟨rfl, b1⟩;have B1 := hide b1;clear b1;go_wp2;rw [Exit.noGoto_ret];go_ret3;exact ⟨[], none, 0, 0, false, HP.out, by simp, by simp, rfl, B1.out, Reads.none_, (fun a h => by cases h), (fun a h => by cases h), (fun x hx => by cases hx)⟩
 | true =>
  rw [hv] at HV;have Hv := hide hv;clear hv
  go_enter Tryz.func10, Tryz.ntmps10
  go_wp2
  go_step3
  go_wp2_with fail
  refine (HV.out _).mono ?_;rintro e w1 ⟨rfl, b1⟩;have B1 := hide b1;clear b1 HV;go_wp2
  go_step3
  go_wp2
  go_loopg [2, 3] s.size (fun g vl va wr => ∃ (p : Nat) (xs : List Tv) (A : Option Addr) (c : Nat), g = s.size - p ∧ p ≤ s.size ∧ va = .int .i64 (p : Int) ∧ vl = .slice A xs.length c ∧
   wr.ownsRow w.heap.size 55 7 (.slice A xs.length c) xs.length (tvRows xs) ∧ (∀ x ∈ xs, x.In w.heap.size wr) ∧ Below w.heap.size w wr ∧ Row 0 (D.take p) (D.drop p) (xs.map (·.t)))
  case atStart => exact ⟨0, [], none, 0, rfl, by omega, rfl, rfl, World.ownsRow_nil _ _ _ _, (fun x hx => by cases hx), B1.out, .nil _ _⟩
  case round =>
   obtain ⟨p, xs, A, c, hgg, hp, rfl, rfl, hrow, hi, hB, hR⟩ := hrel;have Hg := hide hgg;have Hrow := hide hrow;have Hi := hide hi;have HB := hide hB;have HR := hide hR;clear hgg hrow hi hB hR B1
   by_cases hlt : p < s.size
   ·have hone := HO.out wr p (HG.out.below HB.out) (by have := HB.out.size; omega) hlt
    cases ho : Tk.one p (D.drop p) with
    | none =>
     rw [ho] at hone;have HX := hide (show Calls Tryz.prog 24 #[.string s, .int .i64 (p : Int)] wr fun e w' => Below wr.heap.size wr w' ∧ e = .returned (.tuple #[.agg #[.int .i8 0, .string ⟨#[]⟩, .slice none 0 0, .bool false, .string ⟨#[]⟩, .int .i64 0, .int .i64 0], .bool false]) from hone)
     have HP := hide (show AllP D (xs.map (·.t)) p ((p : Int) == (s.size : Int)) by
      unfold AllP;rw [if_pos Hv.out];have hl : (D.take p).length = p := by rw [List.length_take, HDl.out]; omega
      refine ⟨_, _, (List.take_append_drop p D).symm, HR.out, .inr (by rw [hl]; exact ho), hl.symm, ?_⟩
      have e1 : (D.drop p).isEmpty = false := by
       rw [Bool.eq_false_iff];intro e;have := congrArg List.length (List.isEmpty_iff.1 e);rw [List.length_drop, HDl.out] at this;simp at this;omega
      rw [e1, beq_eq_false_iff_ne]
      omega)
     have Hlen := hide (show xs.length ≤ D.length by have := row_len HR.out; rw [List.length_map, List.length_take] at this; omega);clear hone ho HO HR
     go_wp2_with fail
     refine HX.out.mono ?_;rintro e w2 ⟨b2, rfl⟩;have B2 := hide (b2.alloc b2.size (.cells #[.int .i8 0, .string ⟨#[]⟩, .slice none 0 0, .bool false, .string ⟨#[]⟩, .int .i64 0, .int .i64 0] 55));clear b2;have Own2 := hide (own_below Hrow.out B2.out);have In2 := hide (fun x hx => (Hi.out x hx).below B2.out);have HB2 := hide (HB.out.trans (B2.out.mono HB.out.size));go_wp2;rw [Exit.noGoto_ret];go_ret3;exact ⟨xs, A, c, p, _, HP.out, Hlen.out, own_cap Hrow.out, rfl, HB2.out, Reads.of_own Own2.out, above_own Own2.out, typed_own Own2.out, In2.out⟩
    | some t =>
     rw [ho] at hone
     have HX := hide (show Calls Tryz.prog 24 #[.string s, .int .i64 (p : Int)] wr fun e w' => Below wr.heap.size wr w' ∧ ∃ A c, e = .returned (.tuple #[.agg #[.int .i8 t.kind, .string (bstr t.name), .slice A t.attrs.length c, .bool t.empty, .string (bstr t.text), .int .i64 (t.at_ : Int), .int .i64 (t.end_ : Int)], .bool true]) ∧
      w'.ownsRow wr.heap.size 114 3 (.slice A t.attrs.length c) t.attrs.length (attrVs t.attrs) from hone)
     have HN := hide (row_next HR.out (by rw [HDl.out]; exact hlt) ho);have Hlen := hide (show xs.length ≤ D.length by have := row_len HR.out; rw [List.length_map, List.length_take] at this; omega);clear hone ho HO HR
     go_wp2_with fail
     refine HX.out.mono ?_;rintro e w2 ⟨b2, A2, c2, rfl, o2⟩;have B2 := hide b2;have N2 := hide (Tv.In.of_own o2);have Own2 := hide (own_below Hrow.out b2);have In2 := hide (fun x hx => (Hi.out x hx).below b2);have HB2 := hide (HB.out.trans (b2.mono HB.out.size));have Own3 := hide (Own2.out.alloc (.cells #[.int .i8 t.kind, .string (bstr t.name), .slice A2 t.attrs.length c2, .bool t.empty, .string (bstr t.text), .int .i64 (t.at_ : Int), .int .i64 (t.end_ : Int)] 55));have In3 := hide (fun x hx => (In2.out x hx).below (below_alloc w2 (.cells #[.int .i8 t.kind, .string (bstr t.name), .slice A2 t.attrs.length c2, .bool t.empty, .string (bstr t.text), .int .i64 (t.at_ : Int), .int .i64 (t.end_ : Int)] 55)));have N3 := hide ((N2.out.below (below_alloc w2 (.cells #[.int .i8 t.kind, .string (bstr t.name), .slice A2 t.attrs.length c2, .bool t.empty, .string (bstr t.text), .int .i64 (t.at_ : Int), .int .i64 (t.end_ : Int)] 55))).more HB.out.size);have HB3 := hide (HB2.out.alloc HB2.out.size (.cells #[.int .i8 t.kind, .string (bstr t.name), .slice A2 t.attrs.length c2, .bool t.empty, .string (bstr t.text), .int .i64 (t.at_ : Int), .int .i64 (t.end_ : Int)] 55));have V3 := hide (Blk.new w2 55 #[.int .i8 t.kind, .string (bstr t.name), .slice A2 t.attrs.length c2, .bool t.empty, .string (bstr t.text), .int .i64 (t.at_ : Int), .int .i64 (t.end_ : Int)])
     have HVn := hide (show (Value.slice A xs.length c).ownBlock ≠ some w2.heap.size from fun e => by have := (Own2.out.lt _ e).2; omega);have Hxl := hide (show xs.length ≤ 1000000 by have := Hlen.out; have := HDl.out; omega);clear b2 o2 N2 Own2 In2 HB2 B2;go_wp2;generalize w2.alloc (.cells #[.int .i8 t.kind, .string (bstr t.name), .slice A2 t.attrs.length c2, .bool t.empty, .string (bstr t.text), .int .i64 (t.at_ : Int), .int .i64 (t.end_ : Int)] 55) = W3 at *
     generalize w2.heap.size = V at *
     have y0 := V3.out.cell 0;have y1 := V3.out.cell 1;have y2 := V3.out.cell 2;have y3 := V3.out.cell 3;have y4 := V3.out.cell 4;have y5 := V3.out.cell 5;have y6 := V3.out.cell 6;have xa : ∀ o, (W3.alloc o).cell? ⟨V, 6, none⟩ = some (.int .i64 (t.end_ : Int)) := fun o => (V3.out.alloc o).cell 6
     go_region_law
      (show if Region.wanted (⟨some 25, _, _, _, _, _⟩ : Oper) _ = true then _ else _; refine step_append_elem _ (by rfl) _ _ _ (by rfl) w.heap.size 55 _ 7 88 Tryz.underlying42 info_tok (by rfl) (by omega) (.slice A xs.length c) xs.length (tvRows xs) (by rfl) (by first | exact Own3.out.alloc _ | exact (Own3.out.alloc _).drew) (Tv.row ⟨t, A2, c2⟩) rfl (tv_one ⟨t, A2, c2⟩) W3.heap.size (by first | exact Blk.new W3 55 _ | exact (Blk.new W3 55 _).drew) (by rfl) (by unfold maxLen; have := Hxl.out; omega) (by have := Hxl.out; omega) (by have := HB3.out.size; simp [World.drew]; omega) ?_; intro gg cap w8 hown8 hgrow8 hlt8; have V8 := hide (Blk.grown (Blk.drew (Blk.alloc V3.out (.cells (Tv.row ⟨t, A2, c2⟩).toArray 55))) hgrow8 HVn.out.symm); have z6 : w8.cell? ⟨V, 6, none⟩ = some (.int .i64 (t.end_ : Int)) := V8.out.cell 6; have Hgrow8 := hide hgrow8; have Hown8 := hide hown8; clear hown8 hgrow8 hlt8)
     all_goals go_wp2
     all_goals
      have HBA := hide ((HB3.out.alloc HB3.out.size (.cells (Tv.row ⟨t, A2, c2⟩).toArray 55)).drew);have HB8 := hide (HBA.out.grown Hgrow8.out HBA.out.size fun j e => (own_isT Own3.out j e).1)
      have In8 := hide (show ∀ x ∈ xs ++ [Tv.mk t A2 c2], x.In w.heap.size w8 from fun x hx => by
       rcases List.mem_append.1 hx with hx | hx
       ·exact (In3.out x hx).grown Own3.out Hgrow8.out
       simp only [List.mem_singleton] at hx;subst hx;exact N3.out.grown Own3.out Hgrow8.out)
      go_roundg (s.size - t.end_)
      case measure => have := Hg.out; have := HN.out.1; have := HN.out.2.1; have := HDl.out; omega
      case rel => exact ⟨t.end_, xs ++ [⟨t, A2, c2⟩], some ⟨gg, 0, none⟩, cap, rfl, by have := HN.out.2.1; have := HDl.out; omega, rfl, by rw [List.length_append]; rfl, by rw [List.length_append, tvRows_snoc]; exact Hown8.out, In8.out, HB8.out, by rw [List.map_append]; exact HN.out.2.2⟩
   have hpe : p = s.size := by omega
   subst hpe
   have HP := hide (show AllP D (xs.map (·.t)) s.size true by
    unfold AllP;rw [if_pos Hv.out];refine ⟨D, [], (List.append_nil _).symm, ?_, .inl rfl, HDl.out.symm, rfl⟩;have h := HR.out;rw [List.take_of_length_le (by rw [HDl.out]; exact Nat.le_refl _), List.drop_of_length_le (by rw [HDl.out]; exact Nat.le_refl _)] at h;exact h)
   have Hlen := hide (show xs.length ≤ D.length by have := row_len HR.out; rw [List.length_map, List.length_take] at this; omega);go_wp2;rw [Exit.noGoto_ret];go_ret3;exact ⟨xs, A, c, s.size, _, HP.out, Hlen.out, own_cap Hrow.out, rfl, HB.out, Reads.of_own Hrow.out, above_own Hrow.out, typed_own Hrow.out, Hi.out⟩
end
section
open Go.RowKit Tk

def Tk.At.g (a : At) : Ga := ⟨bstr a.name, bstr a.value, (a.at_ : Int)⟩
def Tv.g (x : Tv) : Gt := ⟨x.t.kind, bstr x.t.name, x.t.attrs.map At.g, x.A, x.c, x.t.empty, bstr x.t.text, (x.t.at_ : Int), (x.t.end_ : Int)⟩
theorem attrVs_g (l : List At) : attrVs l = gas (l.map At.g) := by
 induction l with
 | nil => rfl
 | cons a l ih => unfold attrVs gas at ih ⊢; rw [List.flatMap_cons, List.map_cons, List.flatMap_cons, ih]; rfl
theorem row_g (x : Tv) : x.row = gtCells x.g := by
 unfold Tv.row tokCells gtCells Tv.g;simp only [List.length_map]
theorem tvRows_g (xs : List Tv) : tvRows xs = gts (xs.map Tv.g) := by
 induction xs with
 | nil => rfl
 | cons a l ih => unfold tvRows gts at ih ⊢; rw [List.flatMap_cons, List.map_cons, List.flatMap_cons, ih, row_g]
theorem Tv.In.g {x : Tv} {B : Nat} {W : World} (h : x.In B W) : Reads W W.heap.size 3 x.g.A x.g.as_.length (gas x.g.as_) := by
 have := h.a;rw [attrVs_g] at this;unfold Tv.g;simp only [List.length_map];exact this
theorem TkL.of {W : World} {A : Option Addr} {xs : List Tv} {B : Nat} (h : Reads W W.heap.size 7 A xs.length (tvRows xs)) (hi : ∀ x ∈ xs, x.In B W) : TkL W W.heap.size A (xs.map Tv.g) := by
 refine ⟨?_, fun x hx => ?_⟩
 ·rw [List.length_map, ← tvRows_g]; exact h
 obtain ⟨y, hy, rfl⟩ := List.mem_map.1 hx;exact (hi y hy).g
theorem Tk.Chain.end_ : ∀ {ts : List Tok} {n e : Nat}, Chain n ts e → e = (ts.getLast?.map (·.end_)).getD n
 | [], n, e, h => h.symm
 | [t], n, e, h => h.2.2.symm
 | t :: u :: r, n, e, h => by
  have := Tk.Chain.end_ (ts := u :: r) h.2.2;rw [this];simp [List.getLast?_cons]
end
section
open Go Tk Sx
namespace Sx
def plainAt (k : Nat) (r : Int) : Bool := if k = 0 then firstOk r else furtherOk r
def plainOk (l : L) : Bool := !l.isEmpty && (stop plainAt l).isNone
def split (l : L) : Option (L × L) :=
 if (Lib.cut l [58]).2.2 then if plainOk (Lib.cut l [58]).1 && plainOk (Lib.cut l [58]).2.1 then some ((Lib.cut l [58]).1, (Lib.cut l [58]).2.1) else none
 else if plainOk l then some ([], l) else none
def norm (c : UInt8) : UInt8 := if c = 9 ∨ c = 10 ∨ c = 13 then 32 else c
def less : L → Option Nat
 | [] => none
 | c :: r => if c = 60 then some 0 else (less r).map (· + 1)
def value (l : L) : Except Nat L :=
 match less l with
 | some k => match sref k 0 ((l.take k).map norm) with
  | .error a => .error a
  | .ok _ => .error k
 | none => sref l.length 0 (l.map norm)
structure Nm where
 ns : L
 loc : L
 deriving DecidableEq
structure Att where
 name : Nm
 val : L
 deriving DecidableEq
structure Ev where
 kind : Nat
 name : Nm
 attrs : List Att
 text : L
 deriving DecidableEq
structure El where
 written : L
 name : Nm
 scope : Nat
structure St where
 open_ : List El
 scope : List Dcl
 evs : List Ev
 rooted : Bool
structure Spl where
 pre : L
 loc : L
 val : L
 at_ : Nat
def noNm : Nm := ⟨[], []⟩
abbrev Bad := Option (Nat × Nat)
def orB (b : Bad) (at_ e : Nat) : Bad := match b with
 | some x => some x
 | none => some (at_, e)
def pXmlns : L := [120, 109, 108, 110, 115]
def splOf (a : At) : Spl := match split a.name with
 | some (p, l) => ⟨p, l, [], a.at_⟩
 | none => ⟨[], [], [], a.at_⟩
def namesAt : List L → List At → Option Nat
 | _, [] => none
 | seen, a :: r => if (split a.name).isNone = true ∨ a.name ∈ seen then some a.at_ else namesAt (seen ++ [a.name]) r
def names (t : Tok) : Option Nat := if (split t.name).isNone then some t.at_ else namesAt [] t.attrs
def valOf (a : At) : L := match value a.value with
 | .ok v => v
 | .error _ => []
def valued (a : At) : Spl := ⟨(splOf a).pre, (splOf a).loc, valOf a, a.at_⟩
def valsAt : List At → Option Nat
 | [] => none
 | a :: r => match value a.value with
  | .ok _ => valsAt r
  | .error _ => some a.at_
def declares (s : Spl) : L × Bool := if s.pre = pXmlns then (s.loc, true) else ([], decide (s.pre = [] ∧ s.loc = pXmlns))
def mayD (p u : L) : Bool := decide (p ≠ pXmlns) && decide (u ≠ xmlnsNs) && (decide (p = pXml) == decide (u = xmlNs)) && (decide (p = []) || decide (u ≠ []))
def declared : List Dcl → List Spl → List Dcl
 | sc, [] => sc
 | sc, s :: r => if (declares s).2 then declared (sc ++ [⟨(declares s).1, s.val⟩]) r else declared sc r
def declAt : List Spl → Option Nat
 | [] => none
 | s :: r => if (declares s).2 && !mayD (declares s).1 s.val then some s.at_ else declAt r
def attSp (sc : List Dcl) (s : Spl) : L × Bool := if s.pre = [] then ([], true) else spaceOf sc s.pre
def attNm (sc : List Dcl) (s : Spl) : Nm := ⟨(attSp sc s).1, s.loc⟩
def attrsOf (sc : List Dcl) : List Spl → List Att
 | [] => []
 | s :: r => if (declares s).2 then attrsOf sc r else ⟨attNm sc s, s.val⟩ :: attrsOf sc r
def attrsAt (sc : List Dcl) : List Nm → List Spl → Option Nat
 | _, [] => none
 | seen, s :: r => if (declares s).2 then attrsAt sc seen r else if (attSp sc s).2 = false ∨ attNm sc s ∈ seen then some s.at_ else attrsAt sc (seen ++ [attNm sc s]) r
def putEv (l : List Ev) (x : Ev) : List Ev := if x.kind ≠ 2 then l ++ [x] else match l.getLast? with
 | some y => if y.kind = 2 then l.dropLast ++ [⟨2, y.name, y.attrs, y.text ++ x.text⟩] else if x.text = [] then l else l ++ [x]
 | none => if x.text = [] then l else l ++ [x]
def textEv (t : L) : Ev := ⟨2, noNm, [], t⟩
def closeSt (st : St) : St := match st.open_.getLast? with
 | none => st
 | some x => ⟨st.open_.dropLast, st.scope.take x.scope, putEv st.evs ⟨1, x.name, [], []⟩, st.rooted⟩
def preOf (t : Tok) : L := ((split t.name).getD ([], [])).1
def locOf (t : Tok) : L := ((split t.name).getD ([], [])).2
def early (st : St) (t : Tok) : Bad := match names t with
 | some a => some (a, 50)
 | none => if st.rooted && st.open_.isEmpty then some (t.at_, 50) else if 16 < t.attrs.length then some (t.at_, 42) else if st.open_.length = 16 then some (t.at_, 41) else none
def splits (t : Tok) : List Spl := t.attrs.map valued
def scope' (st : St) (t : Tok) : List Dcl := declared st.scope (splits t)
def late (st : St) (t : Tok) : Option Nat := match valsAt t.attrs with
 | some a => some a
 | none => match declAt (splits t) with
  | some a => some a
  | none => if (spaceOf (scope' st t) (preOf t)).2 = false ∨ preOf t = pXmlns then some t.at_ else attrsAt (scope' st t) [] (splits t)
def started (st : St) (t : Tok) : St :=
 ⟨st.open_ ++ [⟨t.name, ⟨(spaceOf (scope' st t) (preOf t)).1, locOf t⟩, st.scope.length⟩], scope' st t,
  putEv st.evs ⟨0, ⟨(spaceOf (scope' st t) (preOf t)).1, locOf t⟩, attrsOf (scope' st t) (splits t), []⟩, true⟩
def start (st : St) (t : Tok) : Except (Nat × Nat) St := match early st t with
 | some b => .error b
 | none => match late st t with
  | some a => .error (a, 50)
  | none => .ok (if t.empty then closeSt (started st t) else started st t)
def end_ (st : St) (t : Tok) : Except (Nat × Nat) St := match st.open_.getLast? with
 | none => .error (t.at_, 50)
 | some x => if x.written = t.name then .ok (closeSt st) else .error (t.at_, 50)
def putSt (st : St) (t : L) : St := ⟨st.open_, st.scope, putEv st.evs (textEv t), st.rooted⟩
def text (st : St) (t : Tok) : Except (Nat × Nat) St := if st.open_ = [] then if t.text.all sp then .ok st else .error (t.at_, 50) else match sref t.text.length 0 t.text with
 | .ok s => .ok (putSt st s)
 | .error _ => .error (t.at_, 50)
def data (st : St) (t : Tok) : Except (Nat × Nat) St := if st.open_ = [] then .error (t.at_, 50) else .ok (putSt st t.text)
def step (st : St) (t : Tok) : Except (Nat × Nat) St :=
 if t.kind = 0 then start st t else if t.kind = 1 then end_ st t else if t.kind = 2 then text st t else if t.kind = 3 then data st t else .ok st
def run : St → List Tok → Except (Nat × Nat) St
 | st, [] => .ok st
 | st, t :: r => match step st t with
  | .error x => .error x
  | .ok st' => run st' r
def st0 : St := ⟨[], [], [], false⟩
def tokEnd (ts : List Tok) : Nat := (ts.getLast?.map (·.end_)).getD 0
def parse (s : L) : Except (Nat × Nat) (List Ev) :=
 if 0 ≤ bad s then .error ((bad s).toNat, 50)
 else if tokEnd (toks s.length 0 s) ≠ s.length then .error (tokEnd (toks s.length 0 s), 50)
 else match run st0 (toks s.length 0 s) with
  | .error x => .error x
  | .ok st => if st.open_ = [] ∧ st.rooted = true then .ok st.evs else .error (s.length, 50)
end Sx
end
section
open Go.RowKit Go.Shelf Tk Sx

attribute [local go_sem] Oper.semAt_some

def FrontI2 (w : World) (pre : List (Nat × Int)) (W : World) : Prop :=
 (∀ p ∈ pre, plainAt p.1 p.2 = true) ∧ Boxed W w.heap.size 70 (.func (.func 72) #[] #[]) ∧ (∃ v, Boxed W (w.heap.size + 1) 3 v) ∧ (∃ u, Boxed W (w.heap.size + 1 + 1) 9 u) ∧ Below w.heap.size w W
def FrontX2 (w : World) (c : Code) (pre : List (Nat × Int)) (W : World) : Prop :=
 c = .ret ∧ ∃ pre0 x, pre = pre0 ++ [x] ∧ (∀ p ∈ pre0, plainAt p.1 p.2 = true) ∧ plainAt x.1 x.2 = false ∧ Boxed W (w.heap.size + 1) 3 (.int .i64 (x.1 : Int)) ∧ Below w.heap.size w W
theorem FrontI2_own (w : World) : OwnFrom (w.heap.size + 1 + 1 + 1) (FrontI2 w) := by
 rintro s X Y row ⟨h1, hb, ⟨v, hv⟩, ⟨u, hu⟩, h3⟩ hg hrow;exact ⟨h1, hb.kept hg (box_row hrow hb), ⟨v, hv.kept hg (box_row hrow hv)⟩, ⟨u, hu.kept hg (box_row hrow hu)⟩, h3.grown hg h3.size (fun k e => by have := (hrow k e).1; omega)⟩
theorem FrontX2_own (w : World) (c : Code) : OwnFrom (w.heap.size + 1 + 1 + 1) (FrontX2 w c) := by
 rintro s X Y row ⟨h1, p, x, h2, h4, h5, hv, h3⟩ hg hrow;exact ⟨h1, p, x, h2, h4, h5, hv.kept hg (box_row hrow hv), h3.grown hg h3.size (fun k e => by have := (hrow k e).1; omega)⟩
theorem plainAt_neg (k : Nat) (r : Int) (h : r < 0) : plainAt k r = false := by
 unfold plainAt;rw [firstOk_neg r h, furtherOk_neg r h];simp
def frontP (l : L) : Nat := (stop plainAt l).getD l.length
set_option maxRecDepth 100000 in
set_option maxHeartbeats 4000000 in
theorem front2_any (s : ByteArray) (w : World) (hs : s.size ≤ 1000000000) :
  Calls Tryz.prog 70 #[.string s, .func (.func 72) #[] #[]] w fun e w' => e = .returned (.int .i64 (frontP s.data.toList : Nat)) ∧ Below w.heap.size w w' := by
 refine (callsIn_wide (n := 5)).1 ?_;refine callsIn_of_wp_marks Tryz.func70 rfl trivial ?_ rfl;simp only [Tryz.ntmps70, List.size_toArray, List.length_cons, List.length_nil, Nat.reduceAdd, Nat.reduceSub, Array.replicate_succ, Array.replicate_zero, List.push_toArray, List.append_toArray, List.nil_append, List.cons_append]
 gi_wp2_with (refine ⟨trivial, ?_⟩; gi_at_call 21; refine (callsIn_wide.2 (scalars_mk _ _)).mono ?_; rintro e w' ⟨rfl, rfl⟩)
 have b0 := Boxed.new w 70 (.func (.func 72) #[] #[]);have b1 := Boxed.new (w.alloc (.cells #[.func (.func 72) #[] #[]] 70)) 3 (.int .i64 0);rw [World.size_alloc] at b1;have b2 := Boxed.new ((w.alloc (.cells #[.func (.func 72) #[] #[]] 70)).alloc (.cells #[.int .i64 0] 3)) 9 (.string s);rw [World.size_alloc, World.size_alloc] at b2
 have hB0 : Below w.heap.size w (((w.alloc (.cells #[.func (.func 72) #[] #[]] 70)).alloc (.cells #[.int .i64 0] 3)).alloc (.cells #[.string s] 9)) :=
  (((Below.refl _ w).alloc (Nat.le_refl _) _).alloc (by simp) _).alloc (by simp; omega) _
 refine wpIn_rangeFunc_ownG rfl (by omega) (gf := 51) (lb := #[.pointer (some ⟨w.heap.size + 1 + 1, 0, none⟩)]) rfl trivial (enters_of Tryz.func51 (by kernel_rfl) rfl)
  (scalars_stops (5 - 1) (by omega) (w.heap.size + 1 + 1) s hs _ (by simp) b2.cell) SameBlk.trans (sameBlk_b (by simp)) (Below.refl _ _) (fun _ => rfl)
  (FrontI2 w) (FrontX2 w) (by simpa using FrontI2_own w) (fun c => by simpa using FrontX2_own w c)
  ⟨(fun p hp => by cases hp), (b0.alloc _).alloc _, ⟨_, b1.alloc _⟩, ⟨_, b2⟩, hB0⟩
  (fun x => { tmps := #[.string s, .func (.func 72) #[] #[], undef, .pointer (some ⟨w.heap.size, 0, none⟩), .pointer (some ⟨w.heap.size + 1, 0, none⟩), .int .i64 (x.1 : Int), .int .i64 x.2, .string s,
   .func (.func 51) #[] #[.pointer (some ⟨w.heap.size + 1 + 1, 0, none⟩)], .int .i64 (x.1 : Int), .int .i64 x.2, undef, undef, undef, undef, undef, undef, undef, undef, undef, undef, undef, undef, undef, undef, undef, undef], defers := [] }) ?assign ?body ?done ?stop
 case assign =>
  intro l x W K hK;gi_wp2;exact hK
 case body =>
  rintro l pre x W ⟨hp, hb0, ⟨v, hv⟩, ⟨u, hu⟩, hB⟩ hlen;have HP := hide hp;have h2 : w.heap.size + 1 + 1 < W.heap.size := hu.lt;have HF := hide (first_any x.2);have HT := hide (further_any x.2);have Hff := hide (first_further (r := x.2));clear hp
  by_cases h0 : x.1 = 0
  ·have h0' : ((x.1 : Int) == 0) = true := by simp [h0]
   cases hx : firstOk x.2 with
   | false =>
    rw [hx] at HF;have HX := hide (show plainAt x.1 x.2 = false by unfold plainAt; rw [if_pos h0, hx]);clear hx h0 HT Hff
    gi_wp2_with (refine ⟨trivial, ?_⟩; gi_at_call 102; refine (CallsIn.inRound l (callsIn_wide.2 (HF.out _))).mono ?_; rintro e w1 ⟨rfl, hb⟩; have hv1 := hv.kept (grown_below hb none) (by simp); have hc1 := hv1.cell; have hf1 := hv1.frozen)
    refine ⟨fun _ h => (by cases h), ?_⟩;gi_wp2;exact ⟨((others_below hb).trans (KeepsOthers.setCell _ _ _)).from _, rfl, pre, x, rfl, HP.out, HX.out, hv1.set _, (hB.trans (hb.mono hB.size)).setCell (p := ⟨w.heap.size + 1, 0, none⟩) (by simp) _⟩
   | true =>
    rw [hx] at HF;rw [Hff.out hx] at HT;have HX := hide (show plainAt x.1 x.2 = true by unfold plainAt; rw [if_pos h0, hx]);clear hx h0 Hff
    gi_wp2_with first
     | (refine ⟨trivial, ?_⟩; gi_at_call 102; refine (CallsIn.inRound l (callsIn_wide.2 (HF.out _))).mono ?_; rintro e w1 ⟨rfl, hb⟩; have hc0 := (hb0.kept (grown_below hb none) (by simp)).cell)
     | (refine ⟨trivial, ?_⟩; gi_at_call 72; refine (CallsIn.inRound l (callsIn_wide.2 (HT.out _))).mono ?_; rintro e w2 ⟨rfl, hb2⟩)
    have hb := hb.trans (hb2.mono hb.size);refine ⟨(others_below hb).from _, hb.block _ (by omega), fun p hp => ?_, hb0.kept (grown_below hb none) (by simp), ⟨v, hv.kept (grown_below hb none) (by simp)⟩, ⟨u, hu.kept (grown_below hb none) (by simp)⟩, hB.trans (hb.mono hB.size)⟩
    rcases List.mem_append.1 hp with hp | hp
    ·exact HP.out p hp
    have : p = x := by simpa using hp
    rw [this];exact HX.out
  have h0' : ((x.1 : Int) == 0) = false := by rw [beq_eq_false_iff_ne]; omega
  have hc0 := hb0.cell;obtain ⟨b, hbx⟩ : ∃ b, furtherOk x.2 = b := ⟨_, rfl⟩;rw [hbx] at HT;have HX := hide (show plainAt x.1 x.2 = b by unfold plainAt; rw [if_neg h0, hbx]);clear hbx h0 Hff HF
  gi_wp2_with fail
  refine ⟨trivial, ?_⟩
  cases b with
  | false =>
   gi_wp2_with (refine ⟨trivial, ?_⟩; gi_at_call 72; refine (CallsIn.inRound l (callsIn_wide.2 (HT.out _))).mono ?_; rintro e w1 ⟨rfl, hb⟩; have hv1 := hv.kept (grown_below hb none) (by simp); have hc1 := hv1.cell; have hf1 := hv1.frozen)
   exact ⟨((others_below hb).trans (KeepsOthers.setCell _ _ _)).from _, rfl, pre, x, rfl, HP.out, HX.out, hv1.set _, (hB.trans (hb.mono hB.size)).setCell (p := ⟨w.heap.size + 1, 0, none⟩) (by simp) _⟩
  | true =>
   gi_wp2_with (refine ⟨trivial, ?_⟩; gi_at_call 72; refine (CallsIn.inRound l (callsIn_wide.2 (HT.out _))).mono ?_; rintro e w1 ⟨rfl, hb⟩)
   refine ⟨(others_below hb).from _, hb.block _ (by omega), fun p hp => ?_, hb0.kept (grown_below hb none) (by simp), ⟨v, hv.kept (grown_below hb none) (by simp)⟩, ⟨u, hu.kept (grown_below hb none) (by simp)⟩, hB.trans (hb.mono hB.size)⟩
   rcases List.mem_append.1 hp with hp | hp
   ·exact HP.out p hp
   have : p = x := by simpa using hp
   rw [this];exact HX.out
 case done =>
  rintro D ys W hD hys ⟨hp, hb0, ⟨v, hv⟩, ⟨u, hu⟩, hB⟩ hK;have hc := hv.cell;have hf := hv.frozen
  have Hbad := hide (show frontP s.data.toList = s.size from by
   unfold frontP;rw [stop_none (ok := plainAt) plainAt_neg (by rw [← hys]; exact fun p h => hp p h)];exact size_list s)
  clear hys hp;gi_wp2;have hv2 := hv.set (.int .i64 (s.size : Int));have hK2 := (KeepsOthers.setCell W ⟨w.heap.size + 1, 0, none⟩ (.int .i64 (s.size : Int))).same D _ hK rfl;refine ⟨by simp, .inl ⟨_, _, rfl, run_takeDeferred hK2, ?_⟩⟩;have hc2 := cell_kept hv2.cell (grownBy_putObj' _ D (.deferred none)) (fun r e => by cases e; exact ⟨_, hK2, rfl⟩);refine ⟨.int .i64 (s.size : Int), ?_, ?_⟩
  ·simp [results, Tryz.results70, go_sem, hc2]
  exact ⟨ret_eq1 (int_eq (by rw [Hbad.out])), (hB.setCell (p := ⟨w.heap.size + 1, 0, none⟩) (by simp) _).trans (belowK_b (w := w) (Nat.le_refl _) _ D _ _ (by simp at hD; omega) hK2 rfl rfl)⟩
 case stop =>
  rintro D c pre W hD ⟨rest, hsp⟩ ⟨rfl, pre0, x, rfl, hp, hx, hv, hB⟩ hK;have hc := hv.cell;have hf := hv.frozen
  have Hbad := hide (show frontP s.data.toList = x.1 from by
   unfold frontP;rw [stop_at (ok := plainAt) plainAt_neg hsp (fun p h => hp p h) hx]
   rfl)
  clear hsp hp hx;gi_wp2;refine ⟨by simp, .inl ⟨_, _, rfl, run_takeDeferred hK, ?_⟩⟩;have hc2 := cell_kept hc (grownBy_putObj' _ D (.deferred none)) (fun r e => by cases e; exact ⟨_, hK, rfl⟩);refine ⟨.int .i64 (x.1 : Int), ?_, ?_⟩
  ·simp [results, Tryz.results70, go_sem, hc2]
  exact ⟨ret_eq1 (int_eq (by rw [Hbad.out])), hB.trans (belowK_b (w := w) (Nat.le_refl _) _ D _ _ (by simp at hD; omega) hK rfl rfl)⟩
theorem stop_lt {ok : Nat → Int → Bool} {l : L} {k : Nat} (h : stop ok l = some k) : k < l.length := by
 unfold stop at h
 cases hf : (Utf.pieces l).find? fun p => !ok p.1 p.2 with
 | none => rw [hf] at h; cases h
 | some p =>
  rw [hf] at h;simp only [Option.map_some, Option.some.injEq] at h;have := pieces_lt l p (List.mem_of_find?_eq_some hf);omega
theorem plainOk_is (l : L) : plainOk l = (!l.isEmpty && decide (frontP l = l.length)) := by
 unfold plainOk frontP
 cases h : stop plainAt l with
 | none => simp
 | some k =>
  have := stop_lt h;simp;intro _;omega
theorem cutc_any (l : L) (w : World) (hg : Gm w) (hl : l.length ≤ 1000000000) :
  Calls Tryz.prog 94 #[.string (bstr l), .string ⟨#[58]⟩] w fun e w' => e = .returned (.tuple #[.string (bstr (Lib.cut l [58]).1), .string (bstr (Lib.cut l [58]).2.1), .bool (Lib.cut l [58]).2.2]) ∧ Below w.heap.size w w' := by
 obtain ⟨m, hm⟩ := hg.most;refine (Tryz.strings_Cut (bstr l) ⟨#[58]⟩ m w (by rw [bstr_size]; omega) hm).mono ?_;rintro e w' ⟨rfl, n, rfl⟩;exact ⟨rfl, below_drewN (Below.refl _ _) n⟩
theorem cut_short' (l q : L) : (Lib.cut l q).1.length ≤ l.length ∧ (Lib.cut l q).2.1.length ≤ l.length := by
 unfold Lib.cut;split
 ·simp only [List.length_take, List.length_drop]; omega
 simp

theorem plain_any (l : L) (w : World) (hl : l.length ≤ 1000000000) :
  Calls Tryz.prog 95 #[.string (bstr l)] w fun e w' => e = .returned (.bool (plainOk l)) ∧ Below w.heap.size w w' := by
 have hem : (bstr l).toList.isEmpty = decide (l = []) := by rw [ByteArray.toList_eq, bstr_list]; cases l <;> simp
 have HF := hide (fun W => front2_any (bstr l) W (by rw [bstr_size]; exact hl));rw [bstr_list] at HF
 by_cases h : l = []
 ·rw [decide_eq_true h] at hem;have Hr := hide (show false = plainOk l by rw [h]; rfl);clear h
  go_enter Tryz.func95, Tryz.ntmps95
  go_wp2;go_ret;exact ⟨ret_eq1 (bool_eq Hr.out), Below.refl _ _⟩
 rw [decide_eq_false h] at hem;obtain ⟨n, hn⟩ : ∃ n, frontP l = n := ⟨_, rfl⟩;rw [hn] at HF;obtain ⟨b, hb⟩ : ∃ b, plainOk l = b := ⟨_, rfl⟩
 have hq : ((n : Int) == ((bstr l).size : Int)) = b := by
  rw [← hb, plainOk_is, hn, bstr_size]
  cases l with
  | nil => exact absurd rfl h
  | cons c r =>
   rw [Bool.eq_iff_iff, beq_iff_eq];simp;omega
 rw [hb];clear hn hb h
 go_enter Tryz.func95, Tryz.ntmps95
 go_wp2_with fail
 refine (HF.out _).mono ?_
 rintro e w1 ⟨rfl, b1⟩
 go_wp2;go_ret;exact ⟨rfl, b1⟩
def splV (x : Option (L × L)) : Value := match x with
 | some (p, l) => .tuple #[.string (bstr p), .string (bstr l), .bool true]
 | none => .tuple #[.string ⟨#[]⟩, .string ⟨#[]⟩, .bool false]

set_option maxHeartbeats 4000000 in
theorem splitm_any (l : L) (w : World) (hg : Gm w) (hl : l.length ≤ 1000000000) :
  Calls Tryz.prog 60 #[.string (bstr l)] w fun e w' => e = .returned (splV (split l)) ∧ Below w.heap.size w w' := by
 have HC := hide (fun W (h : Gm W) => cutc_any l W h hl);have HG := hide hg;have hcs := cut_short' l [58];obtain ⟨x, hx⟩ : ∃ x, split l = x := ⟨_, rfl⟩;rw [hx];unfold split at hx;obtain ⟨⟨p, r, ok⟩, hc⟩ : ∃ c, Lib.cut l [58] = c := ⟨_, rfl⟩;rw [hc] at HC hx hcs;dsimp only at HC hx hcs;have HP := hide (fun W => plain_any p W (by omega));have HR := hide (fun W => plain_any r W (by omega));have HL := hide (fun W => plain_any l W hl);clear hcs hc hg
 cases ok with
 | false =>
  cases hb : plainOk l with
  | false =>
   rw [hb] at HL hx;have Hr := hide (show splV x = .tuple #[.string ⟨#[]⟩, .string ⟨#[]⟩, .bool false] by rw [← hx]; rfl);clear hx hb
   go_enter Tryz.func60, Tryz.ntmps60
   go_wp2_with fail
   refine (HC.out _ HG.out).mono ?_
   rintro e w1 ⟨rfl, b1⟩
   go_wp2_with fail
   refine (HL.out _).mono ?_
   rintro e w2 ⟨rfl, b2⟩
   go_wp2;go_ret3;rw [Hr.out];exact ⟨rfl, b1.trans (b2.mono b1.size)⟩
  | true =>
   rw [hb] at HL hx;have Hr := hide (show splV x = .tuple #[.string ⟨#[]⟩, .string (bstr l), .bool true] by rw [← hx]; rfl);clear hx hb
   go_enter Tryz.func60, Tryz.ntmps60
   go_wp2_with fail
   refine (HC.out _ HG.out).mono ?_
   rintro e w1 ⟨rfl, b1⟩
   go_wp2_with fail
   refine (HL.out _).mono ?_
   rintro e w2 ⟨rfl, b2⟩
   go_wp2;go_ret3;rw [Hr.out];exact ⟨rfl, b1.trans (b2.mono b1.size)⟩
 | true =>
  cases hb : plainOk p with
  | false =>
   rw [hb] at HP hx;have Hr := hide (show splV x = .tuple #[.string ⟨#[]⟩, .string ⟨#[]⟩, .bool false] by rw [← hx]; rfl);clear hx hb
   go_enter Tryz.func60, Tryz.ntmps60
   go_wp2_with fail
   refine (HC.out _ HG.out).mono ?_
   rintro e w1 ⟨rfl, b1⟩
   go_wp2_with fail
   refine (HP.out _).mono ?_
   rintro e w2 ⟨rfl, b2⟩
   go_wp2;go_ret3;rw [Hr.out];exact ⟨rfl, b1.trans (b2.mono b1.size)⟩
  | true =>
   cases hd : plainOk r with
   | false =>
    rw [hb] at HP hx;rw [hd] at HR hx;have Hr := hide (show splV x = .tuple #[.string ⟨#[]⟩, .string ⟨#[]⟩, .bool false] by rw [← hx]; rfl);clear hx hb hd
    go_enter Tryz.func60, Tryz.ntmps60
    go_wp2_with fail
    refine (HC.out _ HG.out).mono ?_
    rintro e w1 ⟨rfl, b1⟩
    go_wp2_with fail
    refine (HP.out _).mono ?_
    rintro e w2 ⟨rfl, b2⟩
    go_wp2_with fail
    refine (HR.out _).mono ?_
    rintro e w3 ⟨rfl, b3⟩
    go_wp2;go_ret3;rw [Hr.out];exact ⟨rfl, (b1.trans (b2.mono b1.size)).trans (b3.mono (b1.trans (b2.mono b1.size)).size)⟩
   | true =>
    rw [hb] at HP hx;rw [hd] at HR hx;have Hr := hide (show splV x = .tuple #[.string (bstr p), .string (bstr r), .bool true] by rw [← hx]; rfl);clear hx hb hd
    go_enter Tryz.func60, Tryz.ntmps60
    go_wp2_with fail
    refine (HC.out _ HG.out).mono ?_
    rintro e w1 ⟨rfl, b1⟩
    go_wp2_with fail
    refine (HP.out _).mono ?_
    rintro e w2 ⟨rfl, b2⟩
    go_wp2_with fail
    refine (HR.out _).mono ?_
    rintro e w3 ⟨rfl, b3⟩
    go_wp2;go_ret3;rw [Hr.out];exact ⟨rfl, (b1.trans (b2.mono b1.size)).trans (b3.mono (b1.trans (b2.mono b1.size)).size)⟩
theorem split_any (l : L) (w : World) (hg : Gl w) (hl : l.length ≤ 1000000000) :
  Calls Tryz.prog 60 #[.string (bstr l)] w fun e w' => e = .returned (splV (split l)) ∧ Below w.heap.size w w' := splitm_any l w hg.m hl
end
end Go.Proofs.YtaickkaoglohgaaGreatDoor
