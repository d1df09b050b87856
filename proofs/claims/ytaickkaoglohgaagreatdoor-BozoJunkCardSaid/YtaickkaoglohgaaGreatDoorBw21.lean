/- Bozo in plain data: what is made of anything, piece by piece; no program in sight. · Strict: the program's close, end. -/
import Derived.Test.YtaickkaoglohgaaGreatDoorBw16
import Derived.Test.YtaickkaoglohgaaGreatDoorBw20
set_option linter.unusedSimpArgs false
set_option linter.unusedVariables false
namespace Go.Proofs.YtaickkaoglohgaaGreatDoor
section
open Go Tk Sx
structure Rsn where
 kind : Int
 at_ : Nat
 deriving DecidableEq
structure Bs where
 l : L
 at_ : Nat
 st : St
 rs : List Rsn
 junk : Bool
 e : Nat
namespace Bz
def cleanN : Nat → L → L × Nat
 | 0, _ => ([], 0)
 | _, [] => ([], 0)
 | f + 1, c :: r =>
  if 0 ≤ (Utf.piece (c :: r)).1 then
   if charOk (Utf.piece (c :: r)).1 then ((c :: r).take (Utf.piece (c :: r)).2.toNat ++ (cleanN f ((c :: r).drop (Utf.piece (c :: r)).2.toNat)).1, (cleanN f ((c :: r).drop (Utf.piece (c :: r)).2.toNat)).2)
   else ((if (Utf.piece (c :: r)).1 / 2 = 32767 then [239, 191, 189] else []) ++ (cleanN f ((c :: r).drop (Utf.piece (c :: r)).2.toNat)).1, (cleanN f ((c :: r).drop (Utf.piece (c :: r)).2.toNat)).2 + 1)
  else ([239, 191, 189] ++ (cleanN f r).1, (cleanN f r).2 + 1)
def clean (l : L) : L × Nat := if fine l then (l, 0) else cleanN l.length l
def mend (k : Int) (a : Nat) (p : Bs) : Bs := { p with rs := p.rs ++ [⟨k, a⟩] }
def mendN (n : Nat) (k : Int) (a : Nat) (p : Bs) : Bs := { p with rs := p.rs ++ List.replicate n ⟨k, a⟩ }
def mendL (l : List Rsn) (a : Nat) (p : Bs) : Bs := { p with rs := p.rs ++ l.map fun r => ⟨r.kind, a⟩ }
def cutB (n : Nat) (p : Bs) : Bs := { p with l := p.l.drop n, at_ := p.at_ + n }
def span (f : UInt8 → Bool) (l : L) : Nat := (l.takeWhile fun c => !f c).length
def angle (c : UInt8) : Bool := c == 60 || c == 62
def solid (c : UInt8) : Bool := !sp c
def isLt (c : UInt8) : Bool := c == 60
def anglesp (c : UInt8) : Bool := angle c || sp c
def untilB (f : UInt8 → Bool) (p : Bs) : Bs := cutB (span f p.l) p
def skipB (op : Nat) (e : L) (p : Bs) : L × Bs :=
 match till e (p.l.drop op) with
 | none => (p.l.drop op, cutB (p.l.drop op).length (mend 14 p.at_ (cutB (min op p.l.length) p)))
 | some n => ((p.l.drop op).take n, cutB e.length (cutB n (cutB (min op p.l.length) p)))
def pclean (s : L) (a : Nat) (p : Bs) : L × Bs := ((clean s).1, mendN (clean s).2 4 a p)
def htmlNames : L := [32, 110, 98, 115, 112, 32, 105, 101, 120, 99, 108, 32, 99, 101, 110, 116, 32, 112, 111, 117, 110, 100, 32, 121, 101, 110, 32, 115, 101, 99, 116, 32, 99, 111, 112, 121, 32, 108, 97, 113, 117, 111, 32, 114, 101, 103, 32, 100, 101, 103, 32, 112, 108, 117, 115, 109, 110, 32, 112, 97, 114, 97, 32, 109, 105, 100, 100, 111, 116, 32, 114, 97, 113, 117, 111, 32, 102, 114, 97, 99, 49, 50, 32, 105, 113, 117, 101, 115, 116, 32, 65, 103, 114, 97, 118, 101, 32, 65, 97, 99, 117, 116, 101, 32, 65, 117, 109, 108, 32, 65, 114, 105, 110, 103, 32, 65, 69, 108, 105, 103, 32, 67, 99, 101, 100, 105, 108, 32, 69, 97, 99, 117, 116, 101, 32, 78, 116, 105, 108, 100, 101, 32, 79, 117, 109, 108, 32, 116, 105, 109, 101, 115, 32, 79, 115, 108, 97, 115, 104, 32, 85, 117, 109, 108, 32, 115, 122, 108, 105, 103, 32, 97, 103, 114, 97, 118, 101, 32, 97, 97, 99, 117, 116, 101, 32, 97, 117, 109, 108, 32, 99, 99, 101, 100, 105, 108, 32, 101, 97, 99, 117, 116, 101, 32, 110, 116, 105, 108, 100, 101, 32, 111, 117, 109, 108, 32, 117, 117, 109, 108, 32, 110, 100, 97, 115, 104, 32, 109, 100, 97, 115, 104, 32, 104, 101, 108, 108, 105, 112, 32]
def htmlVals : List Nat := [0xa0, 0xa1, 0xa2, 0xa3, 0xa5, 0xa7, 0xa9, 0xab, 0xae, 0xb0, 0xb1, 0xb6, 0xb7, 0xbb, 0xbd, 0xbf, 0xc0, 0xc1, 0xc4, 0xc5, 0xc6, 0xc7, 0xc9, 0xd1, 0xd6, 0xd7, 0xd8, 0xdc, 0xdf, 0xe0, 0xe1, 0xe4, 0xe7, 0xe9, 0xf1, 0xf6, 0xfc, 0x2013, 0x2014, 0x2026]
def html (n : L) : Option Nat :=
 if n = [] ∨ (32 : UInt8) ∈ n then none
 else (till (32 :: (n ++ [32])) htmlNames).bind fun k => htmlVals[((htmlNames.take k).filter (· == 32)).length]?
def loose : Nat → Nat → L → L × List Rsn
 | 0, _, _ => ([], [])
 | _, _, [] => ([], [])
 | f + 1, a, c :: r =>
  if c ≠ 38 then (c :: (loose f (a + 1) r).1, (loose f (a + 1) r).2)
  else match ends r with
  | none => (38 :: (loose f (a + 1) r).1, ⟨6, a⟩ :: (loose f (a + 1) r).2)
  | some n =>
   match scalar (r.take n) with
   | some v => (putL v ++ (loose f (a + n + 2) (r.drop (n + 1))).1, (loose f (a + n + 2) (r.drop (n + 1))).2)
   | none =>
    if (number (r.take n)).isSome then (putL 65533 ++ (loose f (a + n + 2) (r.drop (n + 1))).1, ⟨4, a⟩ :: (loose f (a + n + 2) (r.drop (n + 1))).2)
    else match html (r.take n) with
    | some v => (putL v ++ (loose f (a + n + 2) (r.drop (n + 1))).1, ⟨7, a⟩ :: (loose f (a + n + 2) (r.drop (n + 1))).2)
    | none => (38 :: (r.take n ++ 59 :: (loose f (a + n + 2) (r.drop (n + 1))).1), ⟨6, a⟩ :: (loose f (a + n + 2) (r.drop (n + 1))).2)
def ploose (s : L) (a : Nat) (p : Bs) : L × Bs := pclean (loose s.length 0 s).1 a (mendL (loose s.length 0 s).2 a p)
def psame (s : L) (_ : Nat) (p : Bs) : L × Bs := (s, p)
def says (s : L) (a : Nat) (how : L → Nat → Bs → L × Bs) (p : Bs) : Bs :=
 if p.st.open_ ≠ [] then { (how s a p).2 with st := putSt (how s a p).2.st (how s a p).1 }
 else if !s.all sp && !p.junk then { mend 13 a p with junk := true } else p
def close (p : Bs) : Bs := { p with st := closeSt p.st }
def closeN (a : Nat) : Nat → Bs → Bs
 | 0, p => p
 | n + 1, p => closeN a n (close (mend 11 a p))
def lastOf (nm : L) (o : List El) : Nat → Option Nat
 | 0 => none
 | k + 1 => if (o[k]?.map (·.written)) = some nm then some k else lastOf nm o k
def endCut (n : Nat) (p : Bs) : Bs :=
 let p2 := cutB n (cutB 2 p)
 let p3 := untilB angle p2
 let p4 := if !([62] : L).isPrefixOf p3.l || !(p2.l.take (span angle p2.l)).all sp then mend 14 p.at_ p3 else p3
 if ([62] : L).isPrefixOf p4.l then cutB 1 p4 else p4
def endB (n : Nat) (p : Bs) : Bs :=
 match lastOf ((p.l.drop 2).take n) (endCut n p).st.open_ (endCut n p).st.open_.length with
 | none => mend 12 p.at_ (endCut n p)
 | some k => close (closeN p.at_ ((endCut n p).st.open_.length - (k + 1)) (endCut n p))
def unquoted (a : Nat) (p : Bs) : L × Bs := (p.l.take (span anglesp p.l), untilB anglesp (mend 8 a p))
def valueB (a : Nat) (p : Bs) : L × Bs :=
 match (untilB solid p).l with
 | [] => unquoted a (untilB solid p)
 | q :: r =>
  if q = 34 ∨ q = 39 then match till [q] r with
   | some n => (r.take n, cutB (n + 2) (untilB solid p))
   | none => (r.take (span angle r), untilB angle (cutB 1 (mend 8 a (untilB solid p))))
  else unquoted a (untilB solid p)
def attrB (n : Nat) (p : Bs) : At × Bs :=
 if ([61] : L).isPrefixOf (untilB solid (cutB n p)).l then
  let v := valueB p.at_ (cutB 1 (untilB solid (cutB n p)))
  let x := ploose (v.1.map norm) p.at_ v.2
  (⟨p.l.take n, x.1, p.at_⟩, x.2)
 else (⟨p.l.take n, [], p.at_⟩, mend 8 p.at_ (cutB n p))
def oneB (l : L) : Nat := if 0 ≤ (Utf.piece l).1 then max (Utf.piece l).2.toNat 1 else 1
def tag (a : Nat) : Nat → List At → Bs → List At × Bool × Bs
 | 0, acc, p => (acc, false, p)
 | f + 1, acc, p =>
  let p1 := untilB solid p
  match p1.l with
  | [] => (acc, false, mend 14 a p1)
  | c :: _ =>
   if c = 60 then (acc, false, mend 14 a p1)
   else if c = 62 then (acc, false, cutB 1 p1)
   else if ([47, 62] : L).isPrefixOf p1.l then (acc, true, cutB 2 p1)
   else if 0 < take p1.l then tag a f (acc ++ [(attrB (take p1.l) p1).1]) (attrB (take p1.l) p1).2
   else tag a f acc (cutB (oneB p1.l) (mend 8 p1.at_ p1))
def kAtom : L := [97, 116, 111, 109]
def kContent : L := [99, 111, 110, 116, 101, 110, 116]
def kDc : L := [100, 99]
def kRdf : L := [114, 100, 102]
def kRss : L := [114, 115, 115]
def uAtom : L := [104, 116, 116, 112, 58, 47, 47, 119, 119, 119, 46, 119, 51, 46, 111, 114, 103, 47, 50, 48, 48, 53, 47, 65, 116, 111, 109]
def uContent : L := [104, 116, 116, 112, 58, 47, 47, 112, 117, 114, 108, 46, 111, 114, 103, 47, 114, 115, 115, 47, 49, 46, 48, 47, 109, 111, 100, 117, 108, 101, 115, 47, 99, 111, 110, 116, 101, 110, 116, 47]
def uDc : L := [104, 116, 116, 112, 58, 47, 47, 112, 117, 114, 108, 46, 111, 114, 103, 47, 100, 99, 47, 101, 108, 101, 109, 101, 110, 116, 115, 47, 49, 46, 49, 47]
def uRdf : L := [104, 116, 116, 112, 58, 47, 47, 119, 119, 119, 46, 119, 51, 46, 111, 114, 103, 47, 49, 57, 57, 57, 47, 48, 50, 47, 50, 50, 45, 114, 100, 102, 45, 115, 121, 110, 116, 97, 120, 45, 110, 115, 35]
def uRss : L := [104, 116, 116, 112, 58, 47, 47, 112, 117, 114, 108, 46, 111, 114, 103, 47, 114, 115, 115, 47, 49, 46, 48, 47]
def known (p : L) : Option L := if p = kAtom then some uAtom else if p = kContent then some uContent else if p = kDc then some uDc else if p = kRdf then some uRdf else if p = kRss then some uRss else none
def name (wr : L) (att : Bool) (a : Nat) (p : Bs) : Nm × Bs :=
 match split wr with
 | none => (⟨[], wr⟩, mend 10 a p)
 | some (pre, loc) =>
  if att = true ∧ pre = [] then (⟨[], loc⟩, p)
  else if (spaceOf p.st.scope pre).2 then (⟨(spaceOf p.st.scope pre).1, loc⟩, p)
  else match known pre with
  | some u => (⟨u, loc⟩, mend 10 a p)
  | none => (⟨[], wr⟩, mend 10 a p)
def preB (l : L) : L := ((split l).getD ([], [])).1
def locB (l : L) : L := ((split l).getD ([], [])).2
def declB (l : L) : L × Bool := if preB l = pXmlns then (locB l, true) else ([], decide (preB l = [] ∧ locB l = pXmlns))
def once : List L → List At → Bs → List At × Bs
 | _, [], p => ([], p)
 | seen, x :: r, p => if x.name ∈ seen then once seen r (mend 9 x.at_ p) else (x :: (once (seen ++ [x.name]) r p).1, (once (seen ++ [x.name]) r p).2)
def declaredB : List Dcl → List At → List Dcl
 | sc, [] => sc
 | sc, x :: r => if (declB x.name).2 then declaredB (sc ++ [⟨(declB x.name).1, x.value⟩]) r else declaredB sc r
def attrsB : List Nm → List At → Bs → List Att × Bs
 | _, [], p => ([], p)
 | seen, x :: r, p =>
  if (declB x.name).2 then attrsB seen r p
  else if (name x.name true x.at_ p).1 ∈ seen then attrsB seen r (mend 9 x.at_ (name x.name true x.at_ p).2)
  else (⟨(name x.name true x.at_ p).1, x.value⟩ :: (attrsB (seen ++ [(name x.name true x.at_ p).1]) r (name x.name true x.at_ p).2).1, (attrsB (seen ++ [(name x.name true x.at_ p).1]) r (name x.name true x.at_ p).2).2)
def begun (wr : L) (a : Nat) (sc : Nat) (l : List At) (empty : Bool) (p : Bs) : Bs :=
 let o := once [] l p
 let p3 := { o.2 with st := ⟨o.2.st.open_, declaredB o.2.st.scope o.1, o.2.st.evs, o.2.st.rooted⟩ }
 let nm := name wr false a p3
 let x := attrsB [] o.1 nm.2
 let p4 := { x.2 with st := ⟨x.2.st.open_ ++ [⟨wr, nm.1, sc⟩], x.2.st.scope, putEv x.2.st.evs ⟨0, nm.1, x.1, []⟩, true⟩, junk := false }
 if empty then close p4 else p4
def startB (n : Nat) (p : Bs) : Bs :=
 let p2 := cutB n (cutB 1 p)
 let t := tag p.at_ (p2.l.length + 1) [] p2
 if 16 < t.1.length then { t.2.2 with e := 42 }
 else if 16 ≤ t.2.2.st.open_.length then { t.2.2 with e := 41 }
 else begun ((p.l.drop 1).take n) p.at_ p.st.scope.length t.1 t.2.1 t.2.2
def piece (p : Bs) : Bs :=
 if ¬ ([60] : L).isPrefixOf p.l then says (p.l.take (span isLt p.l)) p.at_ ploose (untilB isLt p)
 else if sComment.isPrefixOf p.l then (skipB 4 [45, 45, 62] p).2
 else if ([60, 63] : L).isPrefixOf p.l then (skipB 2 [63, 62] p).2
 else if sData.isPrefixOf p.l then says (skipB 9 [93, 93, 62] p).1 p.at_ pclean (skipB 9 [93, 93, 62] p).2
 else if ([60, 33] : L).isPrefixOf p.l then (skipB 2 [62] (mend 15 p.at_ p)).2
 else if ([60, 47] : L).isPrefixOf p.l ∧ 0 < take (p.l.drop 2) then endB (take (p.l.drop 2)) p
 else if 0 < take (p.l.drop 1) then startB (take (p.l.drop 1)) p
 else says [60] p.at_ psame (cutB 1 (mend 5 p.at_ p))
def behind : Nat → Bs → Bs
 | 0, p => p
 | f + 1, p =>
  let p1 := untilB solid p
  if sComment.isPrefixOf p1.l ∧ (till [45, 45, 62] (p1.l.drop 4)).isSome then behind f (skipB 4 [45, 45, 62] p1).2
  else if ([60, 63] : L).isPrefixOf p1.l ∧ (till [63, 62] (p1.l.drop 2)).isSome then behind f (skipB 2 [63, 62] p1).2
  else if p1.l ≠ [] then mend 13 p1.at_ p1 else p1
def go : Nat → Bs → Bs
 | 0, p => p
 | f + 1, p => if p.l ≠ [] ∧ p.e = 0 ∧ (p.st.rooted = false ∨ p.st.open_ ≠ []) then go f (piece p) else p
def b0 (s : L) : Bs := ⟨s, 0, st0, [], false, 0⟩
def fin (n : Nat) (p : Bs) : Except Nat (List Ev × List Rsn) :=
 if p.e ≠ 0 then .error p.e else if p.st.rooted = false then .error 43
 else
  let q := if p.st.open_ = [] then behind (p.l.length + 1) p else p
  let r := closeN n q.st.open_.length q
  .ok (r.st.evs, r.rs.take 8)
def parse (s : L) : Except Nat (List Ev × List Rsn) := fin s.length (go (s.length + 1) (b0 s))
end Bz
end
section
open Go.RowKit Tk Sx

section
variable {B P : Nat} {w : World} {st : St} {b : Bad} {v : Pv}
theorem PI.c1 (hP : PI B P w st b v) : w.cell? ⟨P, 1, none⟩ = some (.slice v.As st.scope.length v.cs) := hP.blk.cell 1
theorem PI.f0 (hP : PI B P w st b v) : w.frozen? ⟨P, 0, none⟩ = false := hP.blk.frozen 0
theorem PI.f1 (hP : PI B P w st b v) : w.frozen? ⟨P, 1, none⟩ = false := hP.blk.frozen 1
theorem PI.cutO (h : PI B P w st b v) {k : Nat} (hk : k ≤ st.open_.length) : PI B P (w.setCell ⟨P, 0, none⟩ (.slice v.Ao k v.co)) ⟨st.open_.take k, st.scope, st.evs, st.rooted⟩ b v := by
 have hl : (st.open_.take k).length = k := by rw [List.length_take]; omega
 refine ⟨?_, h.bp, ?_, own_far (p := ⟨P, 0, none⟩) h.s h.blk (by decide) _, own_far (p := ⟨P, 0, none⟩) h.e h.blk (by decide) _, h.ev, fun x hx => (h.inn x hx).mov ((Mov.refl B P w).setCell (p := ⟨P, 0, none⟩) (.inl rfl) _) (ew_notP (h.inn x hx) h.blk),
  h.bad.mov ((Mov.refl B P w).setCell (p := ⟨P, 0, none⟩) (.inl rfl) _) h.blk (by decide)⟩
 ·have := h.blk.set_ 0 (.slice v.Ao k v.co);unfold prCells at this ⊢;dsimp only;rw [hl];exact this
 dsimp only;rw [hl];have := own_far (p := ⟨P, 0, none⟩) (own_take h.o hk) h.blk (by decide) (.slice v.Ao k v.co);unfold els;rw [fm_take (m := 4) (fun _ => rfl)];exact this
theorem PI.cutS (h : PI B P w st b v) {k : Nat} (hk : k ≤ st.scope.length) : PI B P (w.setCell ⟨P, 1, none⟩ (.slice v.As k v.cs)) ⟨st.open_, st.scope.take k, st.evs, st.rooted⟩ b v := by
 have hl : (st.scope.take k).length = k := by rw [List.length_take]; omega
 refine ⟨?_, h.bp, own_far (p := ⟨P, 1, none⟩) h.o h.blk (by decide) _, ?_, own_far (p := ⟨P, 1, none⟩) h.e h.blk (by decide) _, h.ev, fun x hx => (h.inn x hx).mov ((Mov.refl B P w).setCell (p := ⟨P, 1, none⟩) (.inl rfl) _) (ew_notP (h.inn x hx) h.blk),
  h.bad.mov ((Mov.refl B P w).setCell (p := ⟨P, 1, none⟩) (.inl rfl) _) h.blk (by decide)⟩
 ·have := h.blk.set_ 1 (.slice v.As k v.cs);unfold prCells at this ⊢;dsimp only;rw [hl];exact this
 dsimp only;rw [hl];have := own_far (p := ⟨P, 1, none⟩) (own_take h.s hk) h.blk (by decide) (.slice v.As k v.cs);unfold dcls;rw [fm_take (m := 2) (fun _ => rfl)];exact this
end
def CloseR (B P : Nat) (w : World) (st : St) (b : Bad) (e : Ending) (w' : World) : Prop := e = .returned (.tuple #[]) ∧ Mov B P w w' ∧ ∃ v, PI B P w' (closeSt st) b v
theorem el_cells {w : World} {B g c n m : Nat} {l : List El} {x : El} (h : w.ownsRow B 78 4 (.slice (some ⟨g, 0, none⟩) n c) n (els l)) (hn : l.length = n) (hx : l[m]? = some x) : ∀ j, j < 4 → w.cell? ⟨g, m * 4 + j, none⟩ = (elCells x)[j]? := fun j hj => by
 obtain ⟨h1, h2⟩ := List.getElem?_eq_some_iff.1 hx;rw [h.cellAt (m * 4 + j) (by omega)];unfold els;rw [fm_at (m := 4) (fun _ => rfl) l m h1 j hj, h2]

set_option maxHeartbeats 16000000 in
theorem sclose_any (B P : Nat) (w : World) (st : St) (bd : Bad) (v : Pv) (h : PI B P w st bd v) (hB : B ≤ w.heap.size) (hk : Ok st 1000000000 100000000000000000) (hne : st.open_ ≠ []) :
  Calls Tryz.prog 32 #[.pointer (some ⟨P, 0, none⟩)] w (CloseR B P w st bd) := by
 obtain ⟨x, hx⟩ : ∃ x, st.open_.getLast? = some x := by
  cases hl : st.open_.getLast? with
  | none => exact absurd (List.getLast?_eq_none_iff.1 hl) hne
  | some x => exact ⟨x, rfl⟩
 obtain ⟨m, hm⟩ : ∃ m, st.open_.length = m + 1 := ⟨st.open_.length - 1, by have := List.length_pos_iff.2 hne; omega⟩;have hxm : st.open_[m]? = some x := by rw [List.getLast?_eq_getElem?, hm] at hx; simpa using hx
 have hsc := hk.in_ x (List.mem_of_getElem? hxm)
 have Hr := hide (show closeSt st = ⟨st.open_.take m, st.scope.take x.scope, putEv st.evs ⟨1, x.name, [], []⟩, st.rooted⟩ by
  unfold closeSt; rw [hx]; dsimp only; rw [List.dropLast_eq_take, hm, Nat.add_sub_cancel])
 have H := hide h;have HB := hide hB;have ho := h.o;rw [hm] at ho;obtain ⟨g, cap, hv, hgb, hlt⟩ := ho.form (by omega);have hAo : v.Ao = some ⟨g, 0, none⟩ := by injection hv
 rw [hAo] at ho;have hce := el_cells ho hm hxm;have d0 : w.cell? ⟨g, m * 4, none⟩ = some (.string (bstr x.written)) := hce 0 (by omega);have d1 : w.cell? ⟨g, m * 4 + 1, none⟩ = some (.string (bstr x.name.ns)) := hce 1 (by omega);have d2 : w.cell? ⟨g, m * 4 + 2, none⟩ = some (.string (bstr x.name.loc)) := hce 2 (by omega);have d3 : w.cell? ⟨g, m * 4 + 3, none⟩ = some (.int .i64 (x.scope : Int)) := hce 3 (by omega);have c0 := h.c;rw [hm, hAo] at c0;have hPl := h.blk.lt;have hco := own_cap ho;have hcs := own_cap h.s;obtain ⟨n, hn⟩ : ∃ n, m + 1 = n := ⟨_, rfl⟩;rw [hn] at c0 hco;have hw1 : IntKind.i64.wrap ((n : Int) - 1) = (m : Int) := by rw [IntWalk.i64_in _ (by have := hk.op; omega)]; omega
 have hmn : m < n := by omega
 have HN := hide hn;have Hm := hide hm;have Hk := hide hk;have Hsc := hide hsc;have HAo := hide hAo;clear h hB hk hne hx hm hxm hsc ho hv hAo hce hn
 go_enter Tryz.func32, Tryz.ntmps32
 go_wp2;have k := Blk.new w 78 #[.string (bstr x.written), .string (bstr x.name.ns), .string (bstr x.name.loc), .int .i64 (x.scope : Int)];have hba := below_alloc w (.cells #[.string (bstr x.written), .string (bstr x.name.ns), .string (bstr x.name.loc), .int .i64 (x.scope : Int)] 78);obtain ⟨W, hW⟩ : ∃ W, w.alloc (.cells #[.string (bstr x.written), .string (bstr x.name.ns), .string (bstr x.name.loc), .int .i64 (x.scope : Int)] 78) = W := ⟨_, rfl⟩;obtain ⟨E, hE⟩ : ∃ E, w.heap.size = E := ⟨_, rfl⟩;rw [hW] at k hba ⊢;rw [hE] at k hPl ⊢;have HW := hide (H.out.go hba);have K := hide k;have c0' : W.cell? ⟨P, 0, none⟩ = some (.slice (some ⟨g, 0, none⟩) n v.co) := by rw [HW.out.c, HAo.out, Hm.out, HN.out]
 have c1' := HW.out.c1;have f0' := HW.out.f0;have f1' := HW.out.f1;have e3 : W.cell? ⟨E, 3, none⟩ = some (.int .i64 (x.scope : Int)) := k.cell 3;have hne : P ≠ E := by omega
 have BA := hide hba;have HE := hide hE;have hbd : (0 : Int) ≤ (m : Int) ∧ (m : Int) ≤ (v.co : Int) := by omega
 have hbs : (0 : Int) ≤ (x.scope : Int) ∧ (x.scope : Int) ≤ (v.cs : Int) := by have := Hsc.out; omega
 clear k hW c0 d0 d1 d2 d3 hE
 go_region
 have H2a := HW.out.cutO (k := m) (by rw [Hm.out]; omega);rw [HAo.out] at H2a;have H2b := (H2a.cutS (k := x.scope) Hsc.out).go (Below.refl _ _).drew;have M2a := (((Mov.of_below BA.out : Mov B P w W).setCell (p := ⟨P, 0, none⟩) (.inl rfl) (.slice (some ⟨g, 0, none⟩) m v.co)).setCell (p := ⟨P, 1, none⟩) (.inl rfl) (.slice v.As x.scope v.cs)).drew;have K2 : Blk ((W.setCell ⟨P, 0, none⟩ (.slice (some ⟨g, 0, none⟩) m v.co)).setCell ⟨P, 1, none⟩ (.slice v.As x.scope v.cs)).drew E 78 _ := (K.out.far (p := ⟨P, 0, none⟩) hne.symm _).far (p := ⟨P, 1, none⟩) hne.symm _;obtain ⟨W2, hW2⟩ : ∃ W2, ((W.setCell ⟨P, 0, none⟩ (.slice (some ⟨g, 0, none⟩) m v.co)).setCell ⟨P, 1, none⟩ (.slice v.As x.scope v.cs)).drew = W2 := ⟨_, rfl⟩;rw [hW2] at H2b M2a K2 ⊢;have H2 := hide H2b;have M2 := hide M2a;have c2 := H2b.c2;have x1 : W2.cell? ⟨E, 1, none⟩ = some (.string (bstr x.name.ns)) := K2.cell 1;have x2 : W2.cell? ⟨E, 2, none⟩ = some (.string (bstr x.name.loc)) := K2.cell 2;have HP := hide (put_any B v.xs ⟨⟨1, x.name, [], []⟩, none, 0⟩ v.Ae v.ce W2.drew H2b.e (Nat.le_trans HB.out M2a.size) (by rw [H2b.len]; exact Hk.out.ev) (fun y hy => by have := HW.out.tx Hk.out y hy; show _ + 0 ≤ _; omega));have HK := hide (show Blk W2.drew P 50 _ from H2b.blk);clear H2a H2b M2a K2 hW2 hba c0' c1' f0' f1' e3 hbd hbs hw1 hmn hco hcs hlt;go_wp2
 go_region_with (go_at_call 31; refine HP.out.mono ?_; rintro e w1 ⟨A, c, xs, rfl, ho, hx, hi, hm⟩; have q2 : w1.cell? ⟨P, 2, none⟩ = some _ := (hm.blk HK.out (by decide)).cell 2; have g2 := (hm.blk HK.out (by decide)).frozen 2)
 all_goals
  go_end0;unfold CloseR;rw [Hr.out];exact ⟨rfl, ((M2.out.drew).trans (hm.mov (by decide))).setCell (p := ⟨P, 2, none⟩) (.inl rfl) _, _, (H2.out.go (Below.refl _ _).drew).events hm ho hx hi (in_none _ rfl _)⟩
theorem last_at {st : St} {x : El} {m : Nat} (hx : st.open_.getLast? = some x) (hm : st.open_.length = m + 1) : st.open_[m]? = some x := by rw [List.getLast?_eq_getElem?, hm] at hx; simpa using hx

set_option maxHeartbeats 16000000 in
theorem send_any (B P : Nat) (w : World) (st : St) (v : Pv) (b o : Nat) (t : Tok) (h : PI B P w st none v) (hB : B ≤ w.heap.size) (hk : Ok st 1000000000 100000000000000000) (ht : TkB B w b o t) :
  Calls Tryz.prog 12 #[.pointer (some ⟨P, 0, none⟩), .pointer (some ⟨b, o, none⟩)] w (StepR B P w (Sx.end_ st t)) := by
 have t1 := ht.c1;have t5 := ht.c5;have H := hide h;have HB := hide hB;have Hk := hide hk;have c0 := h.c
 cases hx : st.open_.getLast? with
 | none =>
  have he := List.getLast?_eq_none_iff.1 hx;have Hr := hide (show Sx.end_ st t = .error (t.at_, 50) by unfold Sx.end_; rw [hx]);rw [he] at c0;have HW := hide (fun k => wrong_any B P (w.drewN k) st none v t.at_ 50 (h.go (below_drewN (Below.refl _ _) k)) hB);have hlo : decide ((-1 : Int) < 0) = true := by decide
  clear h hB hk ht hx he
  go_enter Tryz.func12, Tryz.ntmps12
  go_wp2
  go_quiet (fail)
  go_wp2_with fail
  refine (HW.out _).mono ?_;rintro e w1 ⟨vb, rfl, h1, h2⟩;have H1 := hide h1;have M1 := hide ((Mov.of_below (below_drewN (Below.refl _ _) _)).trans h2);clear h1 h2;go_wp2;go_end0;rw [Hr.out];exact ⟨rfl, M1.out, _, _, H1.out⟩
 | some x =>
  have hne : st.open_ ≠ [] := fun e => by rw [e] at hx; cases hx
  obtain ⟨m, hm⟩ : ∃ m, st.open_.length = m + 1 := ⟨st.open_.length - 1, by have := List.length_pos_iff.2 hne; omega⟩;have hxm := last_at hx hm;have ho := h.o;rw [hm] at ho;obtain ⟨g, cap, hv, hgb, hlt⟩ := ho.form (by omega);have hAo : v.Ao = some ⟨g, 0, none⟩ := by injection hv
  rw [hAo] at ho;have hce := el_cells ho hm hxm;have d0 : w.cell? ⟨g, m * 4, none⟩ = some (.string (bstr x.written)) := hce 0 (by omega);rw [hm, hAo] at c0;obtain ⟨n, hn⟩ : ∃ n, m + 1 = n := ⟨_, rfl⟩;rw [hn] at c0;have hw1 : IntKind.i64.wrap ((n : Int) - 1) = (m : Int) := by rw [IntWalk.i64_in _ (by have := hk.op; omega)]; omega
  have hmn : m < n := by omega
  have hlo : decide ((m : Int) < 0) = false := by rw [decide_eq_false_iff_not]; omega
  have hq : ((bstr x.written).toList != (bstr t.name).toList) = !decide (x.written = t.name) := by rw [bne, beq_bstr]
  have hq2 := beq_bstr x.written t.name
  by_cases he : x.written = t.name
  ·have Hr := hide (show Sx.end_ st t = .ok (closeSt st) by unfold Sx.end_; rw [hx]; exact if_pos he);rw [decide_eq_true he] at hq hq2;have HC := hide (fun k => sclose_any B P (w.drewN k) st none v (h.go (below_drewN (Below.refl _ _) k)) hB hk hne);clear h hB hk ht hx he hne hm hxm ho hv hAo hce hn
   go_enter Tryz.func12, Tryz.ntmps12
   go_wp2
   go_quiet (fail)
   go_wp2_with fail
   refine (HC.out _).mono ?_;rintro e w1 ⟨rfl, h2, v2, h1⟩;have H1 := hide h1;have M1 := hide ((Mov.of_below (below_drewN (Below.refl _ _) _)).trans h2);clear h1 h2;go_wp2;go_end0;rw [Hr.out];exact ⟨rfl, M1.out, _, H1.out⟩
  have Hr := hide (show Sx.end_ st t = .error (t.at_, 50) by unfold Sx.end_; rw [hx]; exact if_neg he);rw [decide_eq_false he] at hq hq2;have HW := hide (fun k => wrong_any B P (w.drewN k) st none v t.at_ 50 (h.go (below_drewN (Below.refl _ _) k)) hB);clear h hB hk ht hx he hne hm hxm ho hv hAo hce hn
  go_enter Tryz.func12, Tryz.ntmps12
  go_wp2
  go_quiet (fail)
  go_wp2_with fail
  refine (HW.out _).mono ?_;rintro e w1 ⟨vb, rfl, h1, h2⟩;have H1 := hide h1;have M1 := hide ((Mov.of_below (below_drewN (Below.refl _ _) _)).trans h2);clear h1 h2;go_wp2;go_end0;rw [Hr.out];exact ⟨rfl, M1.out, _, _, H1.out⟩
end
end Go.Proofs.YtaickkaoglohgaaGreatDoor
