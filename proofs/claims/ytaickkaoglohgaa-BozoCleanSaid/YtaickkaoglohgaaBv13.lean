/- Bozo in plain data: what is made of anything, piece by piece; no program in sight. · Strict: the program's close, end. · Strict: the program's declares, values, declare. · Strict: the program's declare. (Printed by wip/genStH.py.) · Strict: the program's names: a map that counts. (Printed by wip/genStI.py.) -/
import Derived.Test.YtaickkaoglohgaaBv11
import Derived.Test.YtaickkaoglohgaaBv12
import Derived.Deep.DeepCutAuto
import Derived.Maps.OwnSet
set_option linter.unusedSimpArgs false
set_option linter.unusedVariables false
namespace Go.Proofs.Ytaickkaoglohgaa
open Go Tk Sx
/-- Something that was mended, and where. -/
structure Rsn where
  kind : Int
  at_ : Nat
  deriving DecidableEq
/-- A parse on its way: what is left, where that begins, and what was made so far. -/
structure Bs where
  l : L
  at_ : Nat
  st : St
  rs : List Rsn
  junk : Bool
  e : Nat
namespace Bz
/-- A text's Chars, and how many were none. -/
def cleanN : Nat → L → L × Nat
  | 0, _ => ([], 0)
  | _, [] => ([], 0)
  | f + 1, c :: r =>
    if 0 ≤ (Utf.piece (c :: r)).1 then
      if charOk (Utf.piece (c :: r)).1 then ((c :: r).take (Utf.piece (c :: r)).2.toNat ++ (cleanN f ((c :: r).drop (Utf.piece (c :: r)).2.toNat)).1, (cleanN f ((c :: r).drop (Utf.piece (c :: r)).2.toNat)).2)
      else ((if (Utf.piece (c :: r)).1 / 2 = 32767 then [239, 191, 189] else []) ++ (cleanN f ((c :: r).drop (Utf.piece (c :: r)).2.toNat)).1, (cleanN f ((c :: r).drop (Utf.piece (c :: r)).2.toNat)).2 + 1)
    else ([239, 191, 189] ++ (cleanN f r).1, (cleanN f r).2 + 1)
def clean (l : L) : L × Nat := if fine l then (l, 0) else cleanN l.length l
def mend (k : Int) (a : Nat) (p : Bs) : Bs := { p with rs := p.rs ++ [⟨k, a⟩] }
def mendN (n : Nat) (k : Int) (a : Nat) (p : Bs) : Bs := { p with rs := p.rs ++ List.replicate n ⟨k, a⟩ }
def mendL (l : List Rsn) (a : Nat) (p : Bs) : Bs := { p with rs := p.rs ++ l.map fun r => ⟨r.kind, a⟩ }
/-- So many bytes cut off. -/
def cutB (n : Nat) (p : Bs) : Bs := { p with l := p.l.drop n, at_ := p.at_ + n }
/-- How many bytes stand ahead of the first that is as asked. -/
def span (f : UInt8 → Bool) (l : L) : Nat := (l.takeWhile fun c => !f c).length
def angle (c : UInt8) : Bool := c == 60 || c == 62
def solid (c : UInt8) : Bool := !sp c
def isLt (c : UInt8) : Bool := c == 60
def anglesp (c : UInt8) : Bool := angle c || sp c
def untilB (f : UInt8 → Bool) (p : Bs) : Bs := cutB (span f p.l) p
/-- An opening of so many bytes skipped, and what is up to an end: that. -/
def skipB (op : Nat) (e : L) (p : Bs) : L × Bs :=
  match till e (p.l.drop op) with
  | none => (p.l.drop op, cutB (p.l.drop op).length (mend 14 p.at_ (cutB (min op p.l.length) p)))
  | some n => ((p.l.drop op).take n, cutB e.length (cutB n (cutB (min op p.l.length) p)))
def pclean (s : L) (a : Nat) (p : Bs) : L × Bs := ((clean s).1, mendN (clean s).2 4 a p)
def htmlNames : L := [32, 110, 98, 115, 112, 32, 105, 101, 120, 99, 108, 32, 99, 101, 110, 116, 32, 112, 111, 117, 110, 100, 32, 121, 101, 110, 32, 115, 101, 99, 116, 32, 99, 111, 112, 121, 32, 108, 97, 113, 117, 111, 32, 114, 101, 103, 32, 100, 101, 103, 32, 112, 108, 117, 115, 109, 110, 32, 112, 97, 114, 97, 32, 109, 105, 100, 100, 111, 116, 32, 114, 97, 113, 117, 111, 32, 102, 114, 97, 99, 49, 50, 32, 105, 113, 117, 101, 115, 116, 32, 65, 103, 114, 97, 118, 101, 32, 65, 97, 99, 117, 116, 101, 32, 65, 117, 109, 108, 32, 65, 114, 105, 110, 103, 32, 65, 69, 108, 105, 103, 32, 67, 99, 101, 100, 105, 108, 32, 69, 97, 99, 117, 116, 101, 32, 78, 116, 105, 108, 100, 101, 32, 79, 117, 109, 108, 32, 116, 105, 109, 101, 115, 32, 79, 115, 108, 97, 115, 104, 32, 85, 117, 109, 108, 32, 115, 122, 108, 105, 103, 32, 97, 103, 114, 97, 118, 101, 32, 97, 97, 99, 117, 116, 101, 32, 97, 117, 109, 108, 32, 99, 99, 101, 100, 105, 108, 32, 101, 97, 99, 117, 116, 101, 32, 110, 116, 105, 108, 100, 101, 32, 111, 117, 109, 108, 32, 117, 117, 109, 108, 32, 110, 100, 97, 115, 104, 32, 109, 100, 97, 115, 104, 32, 104, 101, 108, 108, 105, 112, 32]
def htmlVals : List Nat := [0xa0, 0xa1, 0xa2, 0xa3, 0xa5, 0xa7, 0xa9, 0xab, 0xae, 0xb0, 0xb1, 0xb6, 0xb7, 0xbb, 0xbd, 0xbf, 0xc0, 0xc1, 0xc4, 0xc5, 0xc6, 0xc7, 0xc9, 0xd1, 0xd6, 0xd7, 0xd8, 0xdc, 0xdf, 0xe0, 0xe1, 0xe4, 0xe7, 0xe9, 0xf1, 0xf6, 0xfc, 0x2013, 0x2014, 0x2026]
/-- What HTML calls so. -/
def html (n : L) : Option Nat :=
  if n = [] ∨ (32 : UInt8) ∈ n then none
  else (till (32 :: (n ++ [32])) htmlNames).bind fun k => htmlVals[((htmlNames.take k).filter (· == 32)).length]?
/-- A text, its references expanded; what was mended; 'a': where it stands. -/
def loose : Nat → Nat → L → L × List Rsn
  | 0, _, _ => ([], [])
  | _, _, [] => ([], [])
  | f + 1, a, c :: r =>
    if c ≠ 38 then (c :: (loose f (a + 1) r).1, (loose f (a + 1) r).2)
    else match ends r with
    | none => (38 :: (loose f (a + 1) r).1, ⟨6, a⟩ :: (loose f (a + 1) r).2)
    | some n =>
      match scalar (r.take n) with
      | some v => (putL v ++ (loose f (a + n + 2) (r.drop (n + 1))).1, (loose f (a + n + 2) (r.drop (n + 1))).2)
      | none =>
        if (number (r.take n)).isSome then (putL 65533 ++ (loose f (a + n + 2) (r.drop (n + 1))).1, ⟨4, a⟩ :: (loose f (a + n + 2) (r.drop (n + 1))).2)
        else match html (r.take n) with
        | some v => (putL v ++ (loose f (a + n + 2) (r.drop (n + 1))).1, ⟨7, a⟩ :: (loose f (a + n + 2) (r.drop (n + 1))).2)
        | none => (38 :: (r.take n ++ 59 :: (loose f (a + n + 2) (r.drop (n + 1))).1), ⟨6, a⟩ :: (loose f (a + n + 2) (r.drop (n + 1))).2)
def ploose (s : L) (a : Nat) (p : Bs) : L × Bs := pclean (loose s.length 0 s).1 a (mendL (loose s.length 0 s).2 a p)
def psame (s : L) (_ : Nat) (p : Bs) : L × Bs := (s, p)
/-- A text, if an element is open; ahead of the root it is junk. -/
def says (s : L) (a : Nat) (how : L → Nat → Bs → L × Bs) (p : Bs) : Bs :=
  if p.st.open_ ≠ [] then { (how s a p).2 with st := putSt (how s a p).2.st (how s a p).1 }
  else if !s.all sp && !p.junk then { mend 13 a p with junk := true } else p
def close (p : Bs) : Bs := { p with st := closeSt p.st }
def closeN (a : Nat) : Nat → Bs → Bs
  | 0, p => p
  | n + 1, p => closeN a n (close (mend 11 a p))
/-- The last element that is written so. -/
def lastOf (nm : L) (o : List El) : Nat → Option Nat
  | 0 => none
  | k + 1 => if (o[k]?.map (·.written)) = some nm then some k else lastOf nm o k
/-- An end of a name of so many bytes: what is left behind it. -/
def endCut (n : Nat) (p : Bs) : Bs :=
  let p2 := cutB n (cutB 2 p)
  let p3 := untilB angle p2
  let p4 := if !([62] : L).isPrefixOf p3.l || !(p2.l.take (span angle p2.l)).all sp then mend 14 p.at_ p3 else p3
  if ([62] : L).isPrefixOf p4.l then cutB 1 p4 else p4
def endB (n : Nat) (p : Bs) : Bs :=
  match lastOf ((p.l.drop 2).take n) (endCut n p).st.open_ (endCut n p).st.open_.length with
  | none => mend 12 p.at_ (endCut n p)
  | some k => close (closeN p.at_ ((endCut n p).st.open_.length - (k + 1)) (endCut n p))
/-- What is written behind =. -/
def unquoted (a : Nat) (p : Bs) : L × Bs := (p.l.take (span anglesp p.l), untilB anglesp (mend 8 a p))
def valueB (a : Nat) (p : Bs) : L × Bs :=
  match (untilB solid p).l with
  | [] => unquoted a (untilB solid p)
  | q :: r =>
    if q = 34 ∨ q = 39 then match till [q] r with
      | some n => (r.take n, cutB (n + 2) (untilB solid p))
      | none => (r.take (span angle r), untilB angle (cutB 1 (mend 8 a (untilB solid p))))
    else unquoted a (untilB solid p)
def attrB (n : Nat) (p : Bs) : At × Bs :=
  if ([61] : L).isPrefixOf (untilB solid (cutB n p)).l then
    let v := valueB p.at_ (cutB 1 (untilB solid (cutB n p)))
    let x := ploose (v.1.map norm) p.at_ v.2
    (⟨p.l.take n, x.1, p.at_⟩, x.2)
  else (⟨p.l.take n, [], p.at_⟩, mend 8 p.at_ (cutB n p))
/-- How many bytes stand there as one: a scalar's, or a wrong one. -/
def oneB (l : L) : Nat := if 0 ≤ (Utf.piece l).1 then max (Utf.piece l).2.toNat 1 else 1
/-- A start's attributes; whether it ends at once. -/
def tag (a : Nat) : Nat → List At → Bs → List At × Bool × Bs
  | 0, acc, p => (acc, false, p)
  | f + 1, acc, p =>
    let p1 := untilB solid p
    match p1.l with
    | [] => (acc, false, mend 14 a p1)
    | c :: _ =>
      if c = 60 then (acc, false, mend 14 a p1)
      else if c = 62 then (acc, false, cutB 1 p1)
      else if ([47, 62] : L).isPrefixOf p1.l then (acc, true, cutB 2 p1)
      else if 0 < take p1.l then tag a f (acc ++ [(attrB (take p1.l) p1).1]) (attrB (take p1.l) p1).2
      else tag a f acc (cutB (oneB p1.l) (mend 8 p1.at_ p1))
def kAtom : L := [97, 116, 111, 109]
def kContent : L := [99, 111, 110, 116, 101, 110, 116]
def kDc : L := [100, 99]
def kRdf : L := [114, 100, 102]
def kRss : L := [114, 115, 115]
def uAtom : L := [104, 116, 116, 112, 58, 47, 47, 119, 119, 119, 46, 119, 51, 46, 111, 114, 103, 47, 50, 48, 48, 53, 47, 65, 116, 111, 109]
def uContent : L := [104, 116, 116, 112, 58, 47, 47, 112, 117, 114, 108, 46, 111, 114, 103, 47, 114, 115, 115, 47, 49, 46, 48, 47, 109, 111, 100, 117, 108, 101, 115, 47, 99, 111, 110, 116, 101, 110, 116, 47]
def uDc : L := [104, 116, 116, 112, 58, 47, 47, 112, 117, 114, 108, 46, 111, 114, 103, 47, 100, 99, 47, 101, 108, 101, 109, 101, 110, 116, 115, 47, 49, 46, 49, 47]
def uRdf : L := [104, 116, 116, 112, 58, 47, 47, 119, 119, 119, 46, 119, 51, 46, 111, 114, 103, 47, 49, 57, 57, 57, 47, 48, 50, 47, 50, 50, 45, 114, 100, 102, 45, 115, 121, 110, 116, 97, 120, 45, 110, 115, 35]
def uRss : L := [104, 116, 116, 112, 58, 47, 47, 112, 117, 114, 108, 46, 111, 114, 103, 47, 114, 115, 115, 47, 49, 46, 48, 47]
/-- A prefix that is known without a declaration. -/
def known (p : L) : Option L := if p = kAtom then some uAtom else if p = kContent then some uContent else if p = kDc then some uDc else if p = kRdf then some uRdf else if p = kRss then some uRss else none
/-- What a name as written stands for. -/
def name (wr : L) (att : Bool) (a : Nat) (p : Bs) : Nm × Bs :=
  match split wr with
  | none => (⟨[], wr⟩, mend 10 a p)
  | some (pre, loc) =>
    if att = true ∧ pre = [] then (⟨[], loc⟩, p)
    else if (spaceOf p.st.scope pre).2 then (⟨(spaceOf p.st.scope pre).1, loc⟩, p)
    else match known pre with
    | some u => (⟨u, loc⟩, mend 10 a p)
    | none => (⟨[], wr⟩, mend 10 a p)
def preB (l : L) : L := ((split l).getD ([], [])).1
def locB (l : L) : L := ((split l).getD ([], [])).2
/-- What a name as written declares. -/
def declB (l : L) : L × Bool := if preB l = pXmlns then (locB l, true) else ([], decide (preB l = [] ∧ locB l = pXmlns))
/-- Attributes of which no two are written alike. -/
def once : List L → List At → Bs → List At × Bs
  | _, [], p => ([], p)
  | seen, x :: r, p => if x.name ∈ seen then once seen r (mend 9 x.at_ p) else (x :: (once (seen ++ [x.name]) r p).1, (once (seen ++ [x.name]) r p).2)
def declaredB : List Dcl → List At → List Dcl
  | sc, [] => sc
  | sc, x :: r => if (declB x.name).2 then declaredB (sc ++ [⟨(declB x.name).1, x.value⟩]) r else declaredB sc r
/-- Attributes that declare nothing, no two of a name. -/
def attrsB : List Nm → List At → Bs → List Att × Bs
  | _, [], p => ([], p)
  | seen, x :: r, p =>
    if (declB x.name).2 then attrsB seen r p
    else if (name x.name true x.at_ p).1 ∈ seen then attrsB seen r (mend 9 x.at_ (name x.name true x.at_ p).2)
    else (⟨(name x.name true x.at_ p).1, x.value⟩ :: (attrsB (seen ++ [(name x.name true x.at_ p).1]) r (name x.name true x.at_ p).2).1, (attrsB (seen ++ [(name x.name true x.at_ p).1]) r (name x.name true x.at_ p).2).2)
/-- An element that begins: of this name as written, its attributes as they were found. -/
def begun (wr : L) (a : Nat) (sc : Nat) (l : List At) (empty : Bool) (p : Bs) : Bs :=
  let o := once [] l p
  let p3 := { o.2 with st := ⟨o.2.st.open_, declaredB o.2.st.scope o.1, o.2.st.evs, o.2.st.rooted⟩ }
  let nm := name wr false a p3
  let x := attrsB [] o.1 nm.2
  let p4 := { x.2 with st := ⟨x.2.st.open_ ++ [⟨wr, nm.1, sc⟩], x.2.st.scope, putEv x.2.st.evs ⟨0, nm.1, x.1, []⟩, true⟩, junk := false }
  if empty then close p4 else p4
def startB (n : Nat) (p : Bs) : Bs :=
  let p2 := cutB n (cutB 1 p)
  let t := tag p.at_ (p2.l.length + 1) [] p2
  if 16 < t.1.length then { t.2.2 with e := 42 }
  else if 16 ≤ t.2.2.st.open_.length then { t.2.2 with e := 41 }
  else begun ((p.l.drop 1).take n) p.at_ p.st.scope.length t.1 t.2.1 t.2.2
/-- What stands at the front. -/
def piece (p : Bs) : Bs :=
  if ¬ ([60] : L).isPrefixOf p.l then says (p.l.take (span isLt p.l)) p.at_ ploose (untilB isLt p)
  else if sComment.isPrefixOf p.l then (skipB 4 [45, 45, 62] p).2
  else if ([60, 63] : L).isPrefixOf p.l then (skipB 2 [63, 62] p).2
  else if sData.isPrefixOf p.l then says (skipB 9 [93, 93, 62] p).1 p.at_ pclean (skipB 9 [93, 93, 62] p).2
  else if ([60, 33] : L).isPrefixOf p.l then (skipB 2 [62] (mend 15 p.at_ p)).2
  else if ([60, 47] : L).isPrefixOf p.l ∧ 0 < take (p.l.drop 2) then endB (take (p.l.drop 2)) p
  else if 0 < take (p.l.drop 1) then startB (take (p.l.drop 1)) p
  else says [60] p.at_ psame (cutB 1 (mend 5 p.at_ p))
/-- What may stand behind the root cut off; what is left is junk. -/
def behind : Nat → Bs → Bs
  | 0, p => p
  | f + 1, p =>
    let p1 := untilB solid p
    if sComment.isPrefixOf p1.l ∧ (till [45, 45, 62] (p1.l.drop 4)).isSome then behind f (skipB 4 [45, 45, 62] p1).2
    else if ([60, 63] : L).isPrefixOf p1.l ∧ (till [63, 62] (p1.l.drop 2)).isSome then behind f (skipB 2 [63, 62] p1).2
    else if p1.l ≠ [] then mend 13 p1.at_ p1 else p1
/-- Pieces, so many at most, until the root is closed. -/
def go : Nat → Bs → Bs
  | 0, p => p
  | f + 1, p => if p.l ≠ [] ∧ p.e = 0 ∧ (p.st.rooted = false ∨ p.st.open_ ≠ []) then go f (piece p) else p
def b0 (s : L) : Bs := ⟨s, 0, st0, [], false, 0⟩
def fin (n : Nat) (p : Bs) : Except Nat (List Ev × List Rsn) :=
  if p.e ≠ 0 then .error p.e else if p.st.rooted = false then .error 43
  else
    let q := if p.st.open_ = [] then behind (p.l.length + 1) p else p
    let r := closeN n q.st.open_.length q
    .ok (r.st.evs, r.rs.take 8)
/-- What is made of a text: events and reasons, or an error. -/
def parse (s : L) : Except Nat (List Ev × List Rsn) := fin s.length (go (s.length + 1) (b0 s))
end Bz
end Go.Proofs.Ytaickkaoglohgaa
namespace Go.Proofs.Ytaickkaoglohgaa
open Go.RowKit Tk Sx

section
variable {B P : Nat} {w : World} {st : St} {b : Bad} {v : Pv}
end
theorem last_at {st : St} {x : El} {m : Nat} (hx : st.open_.getLast? = some x) (hm : st.open_.length = m + 1) : st.open_[m]? = some x := by rw [List.getLast?_eq_getElem?, hm] at hx; simpa using hx

end Go.Proofs.Ytaickkaoglohgaa
namespace Go.Proofs.Ytaickkaoglohgaa
open Go.RowKit Tk Sx

/-- An attribute, cut, in memory. -/
structure SpAt (w : World) (b o : Nat) (s : Spl) : Prop where
  c0 : w.cell? ⟨b, o, none⟩ = some (.string (bstr s.pre))
  c1 : w.cell? ⟨b, o + 1, none⟩ = some (.string (bstr s.loc))
  c2 : w.cell? ⟨b, o + 2, none⟩ = some (.string (bstr s.val))
  c3 : w.cell? ⟨b, o + 3, none⟩ = some (.int .i64 (s.at_ : Int))
theorem isE (l : L) : (bstr l).toList.isEmpty = decide (l = []) := by rw [ByteArray.toList_eq, bstr_list]; cases l <;> simp
theorem eqE (l : L) : ((bstr l).toList == ([] : L)) = decide (l = []) := lit_eq (bstr l) []

/-- What a call may have turned: of the blocks that were there, P, and rows of the types T from B on. -/
structure Mvs (B P : Nat) (T : List Nat) (w w' : World) : Prop where
  os : w'.os = w.os
  tape : w'.tape = w.tape
  output : w'.output = w.output
  size : w.heap.size ≤ w'.heap.size
  block : ∀ k, k < w.heap.size → k ≠ P → ¬ (B ≤ k ∧ ∃ t ∈ T, IsT w k t) → w'.heap[k]? = w.heap[k]?
section
variable {B P : Nat} {T : List Nat} {w w1 w' : World}
theorem Mvs.refl (B P : Nat) (T : List Nat) (w : World) : Mvs B P T w w := ⟨rfl, rfl, rfl, Nat.le_refl _, fun _ _ _ _ => rfl⟩
theorem Mvs.trans (h : Mvs B P T w w1) (k : Mvs B P T w1 w') : Mvs B P T w w' := by
  refine ⟨k.os.trans h.os, k.tape.trans h.tape, k.output.trans h.output, Nat.le_trans h.size k.size, fun i hi hb hn => ?_⟩
  have e := h.block i hi hb hn
  rw [k.block i (Nat.lt_of_lt_of_le hi h.size) hb ?_, e]
  rintro ⟨h1, t, ht, h2⟩
  exact hn ⟨h1, t, ht, isT_same h2 e.symm⟩
theorem Mvs.of_below (h : Below w.heap.size w w') : Mvs B P T w w' := ⟨h.os, h.tape, h.output, h.size, fun k hk _ _ => h.block k hk⟩
theorem Mvs.of_but (h : But P w w') : Mvs B P T w w' := ⟨h.os, h.tape, h.output, h.size, fun k hk hP _ => h.block k hk hP⟩
theorem Mvs.of_movt {t : Nat} (h : MovT B t w w') (ht : t ∈ T) : Mvs B P T w w' := ⟨h.os, h.tape, h.output, h.size, fun k hk _ hn => h.block k hk fun hh => hn ⟨hh.1, t, ht, hh.2⟩⟩
theorem Mvs.go (h : Mvs B P T w w1) (k : Below w1.heap.size w1 w') : Mvs B P T w w' := h.trans (.of_below k)
theorem Mvs.below {C : Nat} (h : Mvs B P T w w') (hB : C ≤ B) (hP : C ≤ P) (hs : C ≤ w.heap.size) : Below C w w' := ⟨h.os, h.tape, h.output, h.size, fun k hk => h.block k (by omega) (by omega) (fun hh => by omega)⟩
theorem Mvs.setP (h : Mvs B P T w w1) {p : Addr} (hp : p.block = P ∨ w.heap.size ≤ p.block) (u : Value) : Mvs B P T w (w1.setCell p u) := by
  refine ⟨h.os, h.tape, h.output, by simpa [World.setCell] using h.size, fun k hk hb hn => ?_⟩
  rw [Below.heap_setCell _ _ _ _ (by omega)]
  exact h.block k hk hb hn
theorem Mvs.setT (h : Mvs B P T w w1) {p : Addr} {t : Nat} (hp : B ≤ p.block ∧ IsT w1 p.block t) (ht : t ∈ T) (u : Value) : Mvs B P T w (w1.setCell p u) :=
  h.trans ⟨rfl, rfl, rfl, by simp [World.setCell], fun k _ _ hn => Below.heap_setCell _ _ _ _ (by rintro rfl; exact hn ⟨hp.1, t, ht, hp.2⟩)⟩
theorem Mvs.blk {g t : Nat} {cs : Array Value} (h : Mvs B P T w w') (hg : Blk w g t cs) (hP : g ≠ P) (ht : t ∉ T) : Blk w' g t cs :=
  (h.block g hg.lt hP (fun ⟨_, t', ht', h2⟩ => isT_ne hg.isT h2 (fun e => ht (by rw [e]; exact ht')))).trans hg
theorem Mvs.more {T' : List Nat} (h : Mvs B P T w w') (hT : ∀ t ∈ T, t ∈ T') : Mvs B P T' w w' := ⟨h.os, h.tape, h.output, h.size, fun k hk hP hn => h.block k hk hP fun ⟨h1, t, ht, h2⟩ => hn ⟨h1, t, hT t ht, h2⟩⟩
theorem Mvs.own {b e size n t : Nat} {v : Value} {xs : List Value} {cs : Array Value} (h : Mvs B P T w w') (ho : w.ownsRow b e size v n xs) (hP : Blk w P t cs) (hne : e ≠ t) (ht : e ∉ T) : w'.ownsRow b e size v n xs := by
  refine ⟨ho.1, ?_⟩
  rcases ho.2 with hn | ⟨g, cap, cur, rfl, hbg, hgg, rest⟩
  · exact .inl hn
  · refine .inr ⟨g, cap, cur, rfl, hbg, (h.block g (Array.getElem?_eq_some_iff.1 hgg).1 (fun e1 => ?_) (fun ⟨_, t', ht', h2⟩ => isT_ne ⟨cur, _, hgg⟩ h2 (fun e1 => ht (by rw [e1]; exact ht')))).trans hgg, rest⟩
    subst e1
    exact isT_ne ⟨cur, _, hgg⟩ hP.isT hne
theorem But.mvs {Z : Nat} (h : But P w w1) (hZ : w.heap.size ≤ Z) (k : Mvs Z P T w1 w') : But P w w' :=
  ⟨k.os.trans h.os, k.tape.trans h.tape, k.output.trans h.output, Nat.le_trans h.size k.size, fun i hi hP => (k.block i (Nat.lt_of_lt_of_le hi h.size) hP (fun hh => by omega)).trans (h.block i hi hP)⟩
end
def badV (x : Option Nat) : Bad := x.map fun a => (a, 50)
theorem orB_badV (x : Option Nat) (a : Nat) : orB (badV x) a 50 = badV (x.or (some a)) := by cases x <;> rfl
theorem valsAt_snoc (l : List At) (a : At) : valsAt (l ++ [a]) = (valsAt l).or (match value a.value with | .ok _ => none | .error _ => some a.at_) := by
  induction l with
  | nil => simp only [List.nil_append, valsAt, Option.none_or]; cases value a.value <;> rfl
  | cons x l ih =>
    rw [List.cons_append, valsAt, valsAt, ih]
    cases value x.value <;> rfl
theorem splOf_at (a : At) : (splOf a).at_ = a.at_ := by unfold splOf; cases split a.name <;> rfl
theorem spl_len (s : Spl) : (splCells s).length = 4 := rfl
/-- The attributes, of which so many have their values. -/
def valTo (k : Nat) (as_ : List At) : List Spl := (as_.take k).map valued ++ (as_.drop k).map splOf
theorem valTo_len (k : Nat) (as_ : List At) : (valTo k as_).length = as_.length := by unfold valTo; simp only [List.length_append, List.length_map, List.length_take, List.length_drop]; omega
theorem valTo_next {k : Nat} {as_ : List At} {a : At} (h : as_[k]? = some a) : valTo (k + 1) as_ = (valTo k as_).set k (valued a) := by
  obtain ⟨h1, h2⟩ := List.getElem?_eq_some_iff.1 h
  have hl : ((as_.take k).map valued).length = k := by simp; omega
  unfold valTo
  rw [List.take_succ_eq_append_getElem h1, h2, List.map_append, List.set_append_right _ _ (by omega), hl, Nat.sub_self, List.drop_eq_getElem_cons h1, List.map_cons, List.map_cons, List.set_cons_zero, List.map_nil, List.append_assoc]
  rfl
theorem spls_set {k : Nat} {l : List Spl} {s : Spl} {d : L} (h : l[k]? = some s) : (spls l).set (k * 4 + 2) (.string (bstr d)) = spls (l.set k ⟨s.pre, s.loc, d, s.at_⟩) := by
  obtain ⟨h1, h2⟩ := List.getElem?_eq_some_iff.1 h
  have e : l = l.take k ++ s :: l.drop (k + 1) := by rw [← h2, ← List.drop_eq_getElem_cons h1, List.take_append_drop]
  have hl : (l.take k).length = k := by rw [List.length_take]; omega
  have e2 : l.set k ⟨s.pre, s.loc, d, s.at_⟩ = l.take k ++ ⟨s.pre, s.loc, d, s.at_⟩ :: l.drop (k + 1) := by
    conv => lhs; rw [e]
    rw [List.set_append_right _ _ (by omega), hl, Nat.sub_self]
    rfl
  rw [e2]
  conv => lhs; rw [e]
  unfold spls
  rw [List.flatMap_append, List.flatMap_append, List.flatMap_cons, List.flatMap_cons, List.set_append_right _ _ (by rw [fm_length spl_len, hl]; omega), fm_length spl_len, hl, Nat.add_sub_cancel_left]
  rfl

end Go.Proofs.Ytaickkaoglohgaa
namespace Go.Proofs.Ytaickkaoglohgaa
open Go.RowKit Tk Sx

theorem declared_snoc (sc : List Dcl) (l : List Spl) (s : Spl) : declared sc (l ++ [s]) = if (declares s).2 then declared sc l ++ [⟨(declares s).1, s.val⟩] else declared sc l := by
  induction l generalizing sc with
  | nil => simp only [List.nil_append, declared]
  | cons x l ih =>
    rw [List.cons_append, declared, declared]
    split
    · exact ih _
    · exact ih _
theorem declAt_snoc (l : List Spl) (s : Spl) : declAt (l ++ [s]) = (declAt l).or (if (declares s).2 && !mayD (declares s).1 s.val then some s.at_ else none) := by
  induction l with
  | nil => simp only [List.nil_append, declAt, Option.none_or]
  | cons x l ih =>
    rw [List.cons_append, declAt, declAt, ih]
    split
    · rfl
    · rfl
theorem declared_len (l : List Spl) : ∀ sc : List Dcl, (declared sc l).length ≤ sc.length + l.length := by
  induction l with
  | nil => intro sc; exact Nat.le_refl _
  | cons x l ih =>
    intro sc
    rw [declared]
    split
    · have := ih (sc ++ [⟨(declares x).1, x.val⟩]); rw [List.length_append] at this; simp at this ⊢; omega
    · have := ih sc; simp; omega
theorem dcls_snoc (l : List Dcl) (p u : L) : dcls (l ++ [⟨p, u⟩]) = dcls l ++ [.string (bstr p), .string (bstr u)] := by simp [dcls, dclCells]
theorem two_one (p u : ByteArray) : ∀ x ∈ ([.string p, .string u] : List Value), x.oneCell' = true := by
  intro x hx
  simp only [List.mem_cons, List.not_mem_nil, or_false] at hx
  rcases hx with rfl | rfl <;> rfl
end Go.Proofs.Ytaickkaoglohgaa
namespace Go.Proofs.Ytaickkaoglohgaa
open Go.RowKit Tk Sx

theorem law_str : Maps.Keyed Try.prog 9 := Maps.string_keyed Try.underlying9
theorem zero_int (w : World) : (zeroValue 3).run Try.prog w = .ok (.int .i64 0) w := by kernel_rfl
/-- A map that counts names. -/
structure Cnt (w : World) (b n : Nat) (seen : List L) (D : DataW Unit) : Prop where
  own : w.ownsMap Try.prog 9 (plainElem Try.prog 3) b n D
  is : Maps.IsMap D
  at_ : ∀ nm : L, D.atKey (.string nm) (.lit (.int .i64 0)) = .lit (.int .i64 (seen.count nm : Nat))
theorem map_same {w w' : World} {P : Program} {k : TypeId} {R : Value → Option (DataW Unit × List MemPlace)} {b n : Nat} {D : DataW Unit} (h : w.ownsMap P k R b n D) (e : w'.heap[b]? = w.heap[b]?) : w'.ownsMap P k R b n D := by
  obtain ⟨es, clock, hb, rest⟩ := h
  exact ⟨es, clock, e.trans hb, rest⟩
theorem Cnt.go {w w' : World} {b n : Nat} {seen : List L} {D : DataW Unit} (h : Cnt w b n seen D) (hb : Below w.heap.size w w') : Cnt w' b n seen D := ⟨map_same h.own (hb.block _ h.own.lt), h.is, h.at_⟩
theorem Cnt.set {w : World} {b n : Nat} {seen : List L} {D : DataW Unit} (h : Cnt w b n seen D) {p : Addr} (hp : b ≠ p.block) (u : Value) : Cnt (w.setCell p u) b n seen D := ⟨map_same h.own (Below.heap_setCell _ _ _ _ hp), h.is, h.at_⟩
theorem Cnt.but {w w' : World} {P b n : Nat} {seen : List L} {D : DataW Unit} (h : Cnt w b n seen D) (hb : But P w w') (hP : b ≠ P) : Cnt w' b n seen D := ⟨map_same h.own (hb.block _ h.own.lt hP), h.is, h.at_⟩
theorem Cnt.kept {w w' : World} {row : Option Nat} {b n : Nat} {seen : List L} {D : DataW Unit} (h : Cnt w b n seen D) (hg : w.grownBy w' row) (hne : some b ≠ row) : Cnt w' b n seen D := ⟨h.own.kept hg hne, h.is, h.at_⟩
theorem cnt_nil (w : World) : Cnt (w.alloc (.map #[] 0)) w.heap.size 0 [] (.map []) := ⟨World.ownsMap_made _ _ _ _, Maps.isMap_empty, fun _ => rfl⟩
theorem cnt_next {w w' : World} {b n q : Nat} {seen : List L} {D : DataW Unit} {nm : L} (h : Cnt w b n seen D) (hq : seen.count nm = q) (ho : w'.ownsMap Try.prog 9 (plainElem Try.prog 3) b (n + 1) (D.put (.string nm) (.lit (.int .i64 ((q : Int) + 1))))) : Cnt w' b (n + 1) (seen ++ [nm]) (D.put (.string nm) (.lit (.int .i64 ((q : Int) + 1)))) := by
  subst hq
  refine ⟨ho, h.is.put _ _, fun m => ?_⟩
  by_cases hm : m = nm
  · subst hm
    rw [Maps.atKey_put_same h.is (by simp [WideAt.IsKeyLit])]
    simp
  · rw [Maps.atKey_put_other (by intro e; injection e with e; exact hm e), h.at_ m, List.count_append, List.count_singleton]
    have : (nm == m) = false := by rw [beq_eq_false_iff_ne]; exact fun e => hm e.symm
    rw [this]
    simp
theorem Cnt.is_q {w : World} {b n : Nat} {seen : List L} {D : DataW Unit} {nm : L} {c : Int} (h : Cnt w b n seen D) (hc : D.atKey (.string nm) (.lit (.int .i64 0)) = .lit (.int .i64 c)) : c = (seen.count nm : Nat) := by
  rw [h.at_ nm] at hc
  injection hc with hc
  injection hc with _ hc
  exact hc.symm
theorem Cnt.is_r {w : World} {b n q : Nat} {seen : List L} {D : DataW Unit} {nm : L} {c : Int} (h : Cnt w b n seen D) (hq : seen.count nm = q) (hc : D.atKey (.string nm) (.lit (.int .i64 0)) = .lit (.int .i64 c)) : c = (q : Int) := by rw [h.is_q hc, hq]
theorem below_two (w : World) (o o' : Obj) : Below w.heap.size w ((w.alloc o).alloc o') := ((Below.refl _ _).alloc (Nat.le_refl _) o).alloc (by simp) o'
theorem Cnt.block {w : World} {b n : Nat} {seen : List L} {D : DataW Unit} (h : Cnt w b n seen D) : ∃ es cl, w.heap[b]? = some (.map es cl) := by
  obtain ⟨es, cl, hb, _⟩ := h.own
  exact ⟨es, cl, hb⟩
theorem But.grown {R : Nat} {w w1 w' : World} {row : Option Nat} (h : But R w w1) (hg : w1.grownBy w' row) (hr : ∀ k, row = some k → w.heap.size ≤ k) : But R w w' :=
  ⟨hg.os.trans h.os, hg.tape.trans h.tape, hg.output.trans h.output, Nat.le_trans h.size hg.size, fun k hk hR => (hg.block k (Nat.lt_of_lt_of_le hk h.size) (fun e => by have := hr k e.symm; omega)).trans (h.block k hk hR)⟩
theorem not_isT_map {w : World} {k t : Nat} {es : Array MapEntry} {cl : Nat} (h : w.heap[k]? = some (.map es cl)) : ¬ IsT w k t := by
  rintro ⟨cs, fr, h2⟩
  rw [h] at h2
  cases h2
theorem own_ne_map {w : World} {b e size n k : Nat} {v : Value} {xs : List Value} {es : Array MapEntry} {cl : Nat} (h : w.ownsRow b e size v n xs) (hm : w.heap[k]? = some (.map es cl)) : v.ownBlock ≠ some k := fun e1 => not_isT_map hm (own_isT h k e1).2
theorem namesAt_snoc (l : List At) (a : At) : ∀ seen : List L, namesAt seen (l ++ [a]) = (namesAt seen l).or (if (split a.name).isNone = true ∨ a.name ∈ seen ++ l.map (·.name) then some a.at_ else none) := by
  induction l with
  | nil => intro seen; simp only [List.nil_append, namesAt, List.map_nil, List.append_nil, Option.none_or]
  | cons x l ih =>
    intro seen
    rw [List.cons_append, namesAt, namesAt, ih, List.map_cons]
    split
    · rfl
    · rw [List.append_assoc]; rfl
theorem spls_snoc (l : List Spl) (s : Spl) : spls (l ++ [s]) = spls l ++ splCells s := by simp [spls]
theorem spl_one (s : Spl) : ∀ u ∈ splCells s, u.oneCell' = true := by
  intro u hu
  simp only [splCells, List.mem_cons, List.not_mem_nil, or_false] at hu
  rcases hu with rfl | rfl | rfl | rfl <;> rfl
/-- A look-up that is wanted. -/
theorem wpList_lookup_wanted {P : Program} (w : World) {ops : Array Oper} {rest : List Oper} {o : Oper} {a : Act} {Q : Exit → Act → World → Prop} (hw : Region.wanted o (yielded ops a.tmps) = true) (m x : Operand) (t : TypeId) (hop : o.op = Op.lookup t m x false)
    (mv xv v : Value) (hm : a.eval m = mv) (hx : a.eval x = xv) (hrun : (Instr.lookup t mv xv false).run P w = .ok v w) (hK : wpList P ops Q rest (a.put o.dst v) w) : wpList P ops Q (o :: rest) a w := by
  refine wpList_step fun K hK' => ?_
  rw [if_pos hw]
  unfold Oper.wp
  simp [execOp, hop, hm, hx, hrun, Result.andThen]
  exact hK' _ _ hK
/-- The name's own fault. -/
def own0_ (t : Tok) : Option Nat := if (split t.name).isNone then some t.at_ else none
theorem names_is (t : Tok) : names t = (own0_ t).or (namesAt [] t.attrs) := by unfold names own0_; split <;> simp
theorem splV_tok (t : Tok) : splV (split t.name) = .tuple #[.string (bstr (preOf t)), .string (bstr (locOf t)), .bool (split t.name).isSome] := by unfold preOf locOf; cases split t.name <;> rfl
end Go.Proofs.Ytaickkaoglohgaa
