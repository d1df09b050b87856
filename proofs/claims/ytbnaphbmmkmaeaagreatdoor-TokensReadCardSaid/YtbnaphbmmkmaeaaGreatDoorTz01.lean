/- Tokens in plain data: the piece that stands at a byte of a text, a text's tokens; no program in sight. · The walks over the UTF-8 layer: the program's 'follow', 'piece' and the document's 'lead', 'part'. · Tokens: white space. · One operation of a region that draws its order, taken by itself; the operation and its slot written out. · The walks over the UTF-8 layer: what stands at a byte. · The walks over the UTF-8 layer: what stands at a byte, by the document. · The walks over the UTF-8 layer: what stands at a byte, by the document, joined. -/
import Derived.Test.YtbnaphbmmkmaeaaGreatDoorProg
import Derived.Test.YtbnaphbmmkmaeaaGreatDoorTz00
import Derived.Lib.Index
import Derived.WalkKit
import Derived.WalkSpells
import Derived.WalkLawsBesides
import Derived.Deep.RegionHeld3
import Derived.Deep.LoopGhost
set_option linter.unusedSimpArgs false
set_option linter.unusedVariables false
namespace Go.Proofs.YtbnaphbmmkmaeaaGreatDoor
open Go
namespace Tk
abbrev L := List UInt8
/-- White space. -/
def sp (c : UInt8) : Bool := c == 32 || c == 9 || c == 10 || c == 13
def nsp (l : L) : Nat := (l.takeWhile sp).length
def within (r a b : Int) : Bool := decide (a ≤ r) && decide (r ≤ b)
def charOk (r : Int) : Bool := within r 9 10 || within r 13 13 || within r 32 55295 || within r 57344 65533 || within r 65536 1114111
def firstOk (r : Int) : Bool :=
  within r 97 122 || within r 65 90 || within r 95 95 || within r 192 214 || within r 216 246 || within r 248 767 || within r 880 893 || within r 895 8191 || within r 8204 8205 || within r 8304 8591 ||
    within r 11264 12271 || within r 12289 55295 || within r 63744 64975 || within r 65008 65533 || within r 65536 983039
def furtherOk (r : Int) : Bool := firstOk r || (within r 45 46 || within r 48 57 || within r 183 183 || within r 768 879 || within r 8255 8256)
/-- May a scalar stand there in a name? -/
def nameOk (at_ : Nat) (r : Int) : Bool := if at_ = 0 then firstOk r else furtherOk r || decide (r = 58)
/-- Where the first piece stands that is not as asked. -/
def stop (ok : Nat → Int → Bool) (l : L) : Option Nat := ((Utf.pieces l).find? fun p => !ok p.1 p.2).map (·.1)
/-- How many bytes a name at the front has. -/
def take (l : L) : Nat := (stop nameOk l).getD l.length
/-- Of Chars alone. -/
def fine (l : L) : Bool := (Utf.pieces l).all fun p => charOk p.2
def bad (l : L) : Int := match stop (fun _ r => charOk r) l with
  | some k => k
  | none => -1
def till (p l : L) : Option Nat := if Lib.index l p < 0 then none else some (Lib.index l p).toNat
/-- A quoted value, and how many bytes were read. -/
def quoted : L → Option (L × Nat)
  | [] => none
  | q :: r => if q = 34 ∨ q = 39 then (till [q] r).map fun k => (r.take k, k + 2) else none
/-- =, and a quoted value. -/
def eqv (l : L) : Option (L × Nat) :=
  match l.drop (nsp l) with
  | [] => none
  | c :: r => if c = 61 then (quoted (r.drop (nsp r))).map fun x => (x.1, nsp l + 1 + nsp r + x.2) else none
/-- A part of the declaration. -/
def part (name l : L) : Option (L × Nat) :=
  if nsp l = 0 then none else if name.isPrefixOf (l.drop (nsp l)) then (eqv (l.drop (nsp l + name.length))).map fun x => (x.1, nsp l + name.length + x.2) else none
def digit (c : UInt8) : Bool := decide (48 ≤ c) && decide (c ≤ 57)
def letter (c : UInt8) : Bool := (decide (65 ≤ c) && decide (c ≤ 90)) || (decide (97 ≤ c) && decide (c ≤ 122))
def sVersion : L := [118, 101, 114, 115, 105, 111, 110]
def sEncoding : L := [101, 110, 99, 111, 100, 105, 110, 103]
def sAlone : L := [115, 116, 97, 110, 100, 97, 108, 111, 110, 101]
def version (v : L) : Bool := [49, 46].isPrefixOf v && !(v.drop 2).isEmpty && (v.drop 2).all digit
def encTail (c : UInt8) : Bool := letter c || digit c || c == 46 || c == 95 || c == 45
def encoding : L → Bool
  | [] => false
  | c :: r => letter c && r.all encTail
def alone (v : L) : Bool := decide (v = [121, 101, 115]) || decide (v = [110, 111])
/-- A part that may be left out: how many bytes were read. -/
def opt (name : L) (may : L → Bool) (l : L) : Option Nat :=
  match part name l with
  | none => some 0
  | some x => if may x.1 then some x.2 else none
/-- The declaration behind its five bytes. -/
def decl (l : L) : Option Nat :=
  (part sVersion l).bind fun x => if version x.1 then
    (opt sEncoding encoding (l.drop x.2)).bind fun a => (opt sAlone alone (l.drop (x.2 + a))).bind fun b =>
      if [63, 62].isPrefixOf ((l.drop (x.2 + a + b)).drop (nsp (l.drop (x.2 + a + b)))) then some (x.2 + a + b + nsp (l.drop (x.2 + a + b)) + 2) else none
  else none
def lower (c : UInt8) : UInt8 := if 65 ≤ c ∧ c ≤ 90 then c + 32 else c
def xml (n : L) : Bool := decide (n.map lower = [120, 109, 108])
/-- An instruction behind its <?. -/
def instr (l : L) : Option Nat :=
  if take l = 0 ∨ xml (l.take (take l)) = true then none
  else if [63, 62].isPrefixOf (l.drop (take l)) then some (take l + 2)
  else (till [63, 62] (l.drop (take l))).bind fun k => if ((l.drop (take l)).head?.map sp).getD false then some (take l + k + 2) else none
/-- A comment behind its <!--. -/
def comment (l : L) : Option Nat := (till [45, 45] l).bind fun k => if [62].isPrefixOf (l.drop (k + 2)) then some (k + 3) else none

structure At where
  name : L
  value : L
  at_ : Nat
  deriving DecidableEq
structure Tok where
  kind : Int
  name : L
  attrs : List At
  empty : Bool
  text : L
  at_ : Nat
  end_ : Nat
  deriving DecidableEq
/-- The attributes and the end of a start, so many rounds at most; 'off': where the bytes stand. -/
def attrs : Nat → Nat → L → Option (List At × Bool × Nat)
  | 0, _, _ => none
  | k + 1, off, l =>
    if [47, 62].isPrefixOf (l.drop (nsp l)) then some ([], true, off + nsp l + 2)
    else if [62].isPrefixOf (l.drop (nsp l)) then some ([], false, off + nsp l + 1)
    else if nsp l = 0 then none
    else
      let r := l.drop (nsp l)
      let m := take r
      if m = 0 then none
      else (eqv (r.drop m)).bind fun x => if (60 : UInt8) ∈ x.1 then none
        else (attrs k (off + nsp l + m + x.2) (r.drop (m + x.2))).map fun y => (⟨r.take m, x.1, off + nsp l⟩ :: y.1, y.2)
def sComment : L := [60, 33, 45, 45]
def sData : L := [60, 33, 91, 67, 68, 65, 84, 65, 91]
def sXml : L := [60, 63, 120, 109, 108]
def noTok : Tok := ⟨0, [], [], false, [], 0, 0⟩
/-- The piece that stands at byte 'at_' of a text (the bytes from there on), its Chars not looked at. -/
def start (at_ : Nat) (l : L) : Option Tok :=
  if take l.tail = 0 then none
  else (attrs l.length (at_ + 1 + take l.tail) (l.drop (1 + take l.tail))).map fun x => ⟨0, l.tail.take (take l.tail), x.1, x.2.1, [], at_, x.2.2⟩
def end_ (at_ : Nat) (l : L) : Option Tok :=
  let r := l.drop 2
  if take r = 0 then none
  else if [62].isPrefixOf ((r.drop (take r)).drop (nsp (r.drop (take r)))) then some ⟨1, r.take (take r), [], false, [], at_, at_ + 2 + take r + nsp (r.drop (take r)) + 1⟩ else none
def text (at_ : Nat) (l : L) : Option Tok :=
  let n := (till [60] l).getD l.length
  if Lib.index (l.take n) [93, 93, 62] < 0 then some ⟨2, [], [], false, l.take n, at_, at_ + n⟩ else none
def skip (at_ : Nat) (l : L) : Option Tok :=
  if sComment.isPrefixOf l then (comment (l.drop 4)).map fun n => ⟨4, [], [], false, [], at_, at_ + 4 + n⟩
  else if sData.isPrefixOf l then (till [93, 93, 62] (l.drop 9)).map fun k => ⟨3, [], [], false, (l.drop 9).take k, at_, at_ + 9 + k + 3⟩
  else if at_ = 0 ∧ sXml.isPrefixOf l = true ∧ ((l.drop 5).head?.map sp).getD false = true then (decl (l.drop 5)).map fun n => ⟨4, [], [], false, [], at_, at_ + 5 + n⟩
  else if [60, 63].isPrefixOf l then (instr (l.drop 2)).map fun n => ⟨4, [], [], false, [], at_, at_ + 2 + n⟩
  else none
def piece (at_ : Nat) (l : L) : Option Tok :=
  if [60, 47].isPrefixOf l then end_ at_ l
  else if [60, 33].isPrefixOf l || [60, 63].isPrefixOf l then skip at_ l
  else if [60].isPrefixOf l then start at_ l
  else text at_ l
/-- The token that stands at byte 'at_'. -/
def one (at_ : Nat) (l : L) : Option Tok := (piece at_ l).bind fun t => if fine (l.take (t.end_ - at_)) then some t else none
/-- The tokens from byte 'at_' on, so many at most. -/
def toks : Nat → Nat → L → List Tok
  | 0, _, _ => []
  | k + 1, at_, l => if l.isEmpty then [] else match one at_ l with
    | none => []
    | some t => t :: toks k t.end_ (l.drop (t.end_ - at_))
end Tk
end Go.Proofs.YtbnaphbmmkmaeaaGreatDoor
namespace Go.Proofs.YtbnaphbmmkmaeaaGreatDoor
open Go.RowKit

theorem results_tmp4 {fn : Func} {t u v x : Tmp} (h : fn.results = #[.tmp t, .tmp u, .tmp v, .tmp x]) (tmps : Array Value) (P : Program) (w : World) :
    (results fn tmps).run P w = .ok (.tuple #[tmps.getD t undef, tmps.getD u undef, tmps.getD v undef, tmps.getD x undef]) w := by simp [results, h]

/-- The results of 'follow', as Go hands them back. -/
def followV (f : Int × Int × Int × Int) : Value := .tuple #[.int .i64 f.1, .int .i64 f.2.1, .int .u8 f.2.2.1, .int .u8 f.2.2.2]

theorem followV_eq {c a b d e : Int} (h : (a, b, d, e) = Utf.follow c) : Ending.returned (.tuple #[.int .i64 a, .int .i64 b, .int .u8 d, .int .u8 e]) = .returned (followV (Utf.follow c)) := by
  rw [← h]; rfl

set_option maxHeartbeats 400000 in
theorem follow_any (c : Int) (w : World) (h0 : 0 ≤ c) (h1 : c ≤ 255) :
    Calls Tryz.prog 97 #[.int .u8 c] w fun e w' => e = .returned (followV (Utf.follow c)) ∧ w = w' := by
  have b1 : bits .and .i64 c 31 = c % 32 := i64_mask c 5 h0 (by omega) (by omega) _ rfl
  have b2 : bits .and .i64 c 15 = c % 16 := i64_mask c 4 h0 (by omega) (by omega) _ rfl
  have b3 : bits .and .i64 c 7 = c % 8 := i64_mask c 3 h0 (by omega) (by omega) _ rfl
  go_enter Tryz.func97, Tryz.ntmps97
  go_wp2
  all_goals
    refine bodyPost_ret (results_tmp4 rfl _ _ _) rfl ?_
    refine ⟨followV_eq ?_, rfl⟩
    try simp only [beq_iff_eq, beq_eq_false_iff_ne] at *
    unfold Utf.follow
    repeat (first | rw [if_pos (by omega)] | rw [if_neg (by omega)])

/-- The results of 'lead': as 'follow', but what no byte that begins has. -/
def leadV (f : Int × Int × Int × Int) : Int × Int × Int := if f.1 < 0 then (-1, 0, 0) else if f.1 = 0 then (0, 0, 0) else (f.1, f.2.2.1, f.2.2.2)
def leadT (f : Int × Int × Int) : Value := .tuple #[.int .i64 f.1, .int .u8 f.2.1, .int .u8 f.2.2]
theorem leadV_eq {c a b d : Int} (h : (a, b, d) = leadV (Utf.follow c)) : Ending.returned (.tuple #[.int .i64 a, .int .u8 b, .int .u8 d]) = .returned (leadT (leadV (Utf.follow c))) := by
  rw [← h]; rfl

set_option maxHeartbeats 400000 in
theorem lead_any (c : Int) (w : World) (h0 : 0 ≤ c) (h1 : c ≤ 255) :
    Calls Tryz.prog 125 #[.int .u8 c] w fun e w' => e = .returned (leadT (leadV (Utf.follow c))) ∧ w = w' := by
  go_enter Tryz.func125, Tryz.ntmps125
  go_wp2
  all_goals
    go_ret3
    refine ⟨leadV_eq ?_, rfl⟩
    try simp only [beq_iff_eq, beq_eq_false_iff_ne] at *
    obtain ⟨q, hq⟩ : ∃ q, q = Utf.follow c := ⟨_, rfl⟩
    rw [← hq]
    unfold Utf.follow at hq
    repeat (first | rw [if_pos (by omega)] at hq | rw [if_neg (by omega)] at hq)
    subst hq
    first | rfl | (unfold leadV; simp)
end Go.Proofs.YtbnaphbmmkmaeaaGreatDoor
namespace Go.Proofs.YtbnaphbmmkmaeaaGreatDoor
open Go.RowKit Tk

theorem sp_bits : ∀ n : Fin 64, (bits BinOp.and IntKind.u64 (4294977024 / 2 ^ n.val) 1 == 1) = sp (UInt8.ofNat n.val) := by decide +kernel
theorem sp_far {c : UInt8} (h : ¬ c.toNat < 64) : sp c = false := by
  unfold sp
  have e : ∀ k : UInt8, k.toNat < 64 → (c == k) = false := fun k hk => by
    rw [beq_eq_false_iff_ne]
    intro e
    rw [e] at h
    exact h hk
  rw [e 32 (by decide), e 9 (by decide), e 10 (by decide), e 13 (by decide)]
  rfl
theorem space_any (c : UInt8) (w : World) : Calls Tryz.prog 92 #[.int .u8 (c.toNat : Nat)] w fun e w' => e = .returned (.bool (sp c)) ∧ w' = w := by
  by_cases h : c.toNat < 64
  · have hb := sp_bits ⟨c.toNat, h⟩
    rw [show UInt8.ofNat c.toNat = c from UInt8.ofNat_toNat] at hb
    dsimp only at hb
    have HB := hide hb
    clear hb
    go_enter Tryz.func92, Tryz.ntmps92
    go_wp2
    go_ret
    exact ⟨ret_eq1 (bool_eq HB.out), rfl⟩
  · have hs := hide (sp_far h)
    go_enter Tryz.func92, Tryz.ntmps92
    go_wp2
    go_ret
    exact ⟨ret_eq1 (bool_eq hs.out.symm), rfl⟩
end Go.Proofs.YtbnaphbmmkmaeaaGreatDoor
namespace Go.Proofs.YtbnaphbmmkmaeaaGreatDoor
open Go

section
variable {P : Program} {l : List Oper} {Q : Exit → Act → World → Prop} {md : Region.Mode} {S : World → Prop}
theorem put_some {a : Act} {d : Option Tmp} {k : Tmp} {v : Value} (hd : d = some k) : a.put d v = { tmps := a.tmps.setIfInBounds k v, defers := a.defers } := by subst hd; rfl
theorem held_take {i d : Nat} {oi : Oper} {v : Value} {fuel : Nat} {listed : Array Bool} {a : Act} {w : World} (hi : l[i]? = some oi) (hd : oi.dst = some d)
    (hs : Region.noSelect l.toArray = true) (hf : Region.free md l.toArray listed i = true) (hr : (Region.ready md l.toArray listed).contains i = true)
    (hQ : ∀ c a w, Q (.panic c) (a.put oi.dst v) w → Q (.panic c) a w) (hw : Region.wanted oi (yielded l.toArray a.tmps) = true) (hS : S w) (hy : ∀ w, S w → (execOp a.eval oi).run P w = .ok (.value v) w)
    (h : wpAnyH P md l.toArray Q S fuel (listed.setIfInBounds i true) { tmps := a.tmps.setIfInBounds d v, defers := a.defers } w) : wpAnyH P md l.toArray Q S (fuel + 1) listed a w :=
  wpAnyH_take (by simpa using hi) hs hf hr hQ (Or.inl ⟨hw, hy⟩) hS (by rw [put_some hd]; exact h)
theorem held_skip {i d : Nat} {oi : Oper} {fuel : Nat} {listed : Array Bool} {a : Act} {w : World} (hi : l[i]? = some oi) (hd : oi.dst = some d)
    (hs : Region.noSelect l.toArray = true) (hf : Region.free md l.toArray listed i = true) (hr : (Region.ready md l.toArray listed).contains i = true)
    (hQ : ∀ c a w, Q (.panic c) (a.put oi.dst undef) w → Q (.panic c) a w) (hw : Region.wanted oi (yielded l.toArray a.tmps) = false) (hS : S w)
    (h : wpAnyH P md l.toArray Q S fuel (listed.setIfInBounds i true) { tmps := a.tmps.setIfInBounds d undef, defers := a.defers } w) : wpAnyH P md l.toArray Q S (fuel + 1) listed a w :=
  wpAnyH_take (by simpa using hi) hs hf hr hQ (Or.inr ⟨hw, rfl⟩) hS (by rw [put_some hd]; exact h)
theorem held_call {i : Nat} {oi : Oper} {fuel : Nat} {listed : Array Bool} {a : Act} {w : World} (hi : l[i]? = some oi) (hr : Region.ready md l.toArray listed = [i]) (hw : Region.wanted oi (yielded l.toArray a.tmps) = true)
    (h : ∀ K' : Act → World → Prop, Shut (∀ a w, S w → (S w → wpAnyH P md l.toArray Q S fuel (listed.setIfInBounds i true) a w) → K' a w) → Oper.wp P oi a w K' Q) : wpAnyH P md l.toArray Q S (fuel + 1) listed a w :=
  wpAnyH_ready hr (by simp) (AllReadyH.cons (o := oi) (by simpa using hi) (fun K hK => by rw [if_pos hw]; exact h K hK) AllReadyH.nil)
end
end Go.Proofs.YtbnaphbmmkmaeaaGreatDoor
namespace Go.Proofs.YtbnaphbmmkmaeaaGreatDoor
open Go.RowKit

def pieceV (f : Int × Int) : Value := .tuple #[.int .i64 f.1, .int .i64 f.2]
theorem pieceV_eq {a b : Int} {f : Int × Int} (h : (a, b) = f) : Ending.returned (.tuple #[.int .i64 a, .int .i64 b]) = .returned (pieceV f) := by
  rw [← h]; rfl

theorem drop_at (s : ByteArray) (k : Nat) (h : k < s.size) : s.data.toList.drop k = s[k] :: s.data.toList.drop (k + 1) := by
  rw [List.drop_eq_getElem_cons (by simpa using h)]; rfl

/-- One step of 'cont' at a byte of the text. -/
theorem cont_end {s : ByteArray} {a j k : Nat} {r n lo hi : Int} (h : s.size ≤ a + j) : Utf.cont (s.data.toList.drop (a + j)) (k + 1) r n lo hi = (-1, n) := by
  rw [List.drop_of_length_le (by simpa using h)]; rfl
theorem cont_wrong {s : ByteArray} {a j k : Nat} {r n lo hi : Int} (h : a + j < s.size) (hc : (s[a + j].toNat : Int) < lo ∨ hi < (s[a + j].toNat : Int)) : Utf.cont (s.data.toList.drop (a + j)) (k + 1) r n lo hi = (-1, n) := by
  rw [drop_at s _ h]; simp only [Utf.cont]; rw [if_pos hc]
theorem cont_step {s : ByteArray} {a j k : Nat} {r n lo hi : Int} (h : a + j < s.size) (h1 : lo ≤ (s[a + j].toNat : Int)) (h2 : (s[a + j].toNat : Int) ≤ hi) :
    Utf.cont (s.data.toList.drop (a + j)) (k + 1) r n lo hi = Utf.cont (s.data.toList.drop (a + j + 1)) k (r * 64 + (s[a + j].toNat : Int) % 64) (n + 1) 128 191 := by
  rw [drop_at s _ h]; simp only [Utf.cont]; rw [if_neg (by omega)]

set_option maxHeartbeats 1000000 in
theorem piece_any (s : ByteArray) (at_ : Int) (w : World) (h0 : 0 ≤ at_) (h1 : at_ < s.size) (hs : s.size ≤ 1000000000) :
    Calls Tryz.prog 52 #[.string s, .int .i64 at_] w fun e w' => e = .returned (pieceV (Utf.piece (s.data.toList.drop at_.toNat))) ∧ w = w' := by
  obtain ⟨a, rfl⟩ := Int.eq_ofNat_of_zero_le h0
  rw [Int.toNat_natCast]
  have ha : a < s.size := by omega
  rw [drop_at s a ha, Utf.piece_cons]
  obtain ⟨c, hc⟩ : ∃ c : Int, ((s[a].toNat : Nat) : Int) = c := ⟨_, rfl⟩
  have hc0 : 0 ≤ c := by omega
  have hc1 : c ≤ 255 := by have := Utf.byte_lt s[a]; omega
  rw [hc]
  have hf := Utf.follow_cases c (by omega) (by omega)
  have Hc := hide hc
  clear hc
  obtain ⟨m, r, lo, hi, hq⟩ : ∃ m r lo hi, Utf.follow c = (m, r, lo, hi) := ⟨_, _, _, _, rfl⟩
  rw [hq] at hf ⊢
  dsimp only at hf ⊢
  have hm0 : -1 ≤ m := by omega
  have hm3 : m ≤ 3 := by omega
  have hr0 : 0 ≤ r := by omega
  have hr1 : r ≤ 127 := by omega
  have Hq := hide hq
  clear hf hq
  obtain ⟨res, hres⟩ : ∃ res, (if m < 0 then (-1, 1) else Utf.cont (s.data.toList.drop (a + 1)) m.toNat r 1 lo hi) = res := ⟨_, rfl⟩
  rw [hres]
  have Hres := hide hres
  clear hres
  go_enter Tryz.func52, Tryz.ntmps52
  go_wp2
  go_step3
  go_wp2_with (go_at_call 97; rw [Hc.out]; refine (follow_any _ _ hc0 hc1).mono ?_; rintro e w' ⟨rfl, rfl⟩; rw [Hq.out]; unfold followV; dsimp only)
  · rw [Exit.noGoto_ret]
    go_ret2
    exact ⟨pieceV_eq (by rw [← Hres.out, if_pos (by assumption)]), rfl⟩
  · have hm : 0 ≤ m := by assumption
    obtain ⟨k, rfl⟩ := Int.eq_ofNat_of_zero_le hm
    go_step3
    go_wp2
    go_loopg [4, 5, 7, 8] (k + 1) (fun g vr vn vlo vhi wr => ∃ (j : Nat) (r' lo' hi' : Int), g = k + 1 - j ∧ j ≤ k ∧ vr = .int .i64 r' ∧ vn = .int .i64 ((j : Int) + 1) ∧ vlo = .int .u8 lo' ∧ vhi = .int .u8 hi' ∧
      Utf.cont (s.data.toList.drop (a + (j + 1))) (k - j) r' ((j : Int) + 1) lo' hi' = res ∧ 0 ≤ r' ∧ (r' ≤ 127 ∧ j = 0 ∨ r' ≤ 8191 ∧ j = 1 ∨ r' ≤ 524287 ∧ j = 2 ∨ r' ≤ 33554431 ∧ j = 3) ∧ wr = w)
    case atStart => exact ⟨0, r, lo, hi, rfl, by omega, rfl, rfl, rfl, rfl, by rw [← Hres.out, if_neg (by omega)]; rfl, hr0, .inl ⟨hr1, rfl⟩, rfl⟩
    case round =>
      obtain ⟨j, r', lo', hi', hg, hj, rfl, rfl, rfl, rfl, hcont, hr0', hr1', rfl⟩ := hrel
      have Hcont := hide hcont
      have Hr := hide hr1'
      have Hg := hide hg
      have hr2 : r' ≤ 33554431 := by omega
      clear hcont hr1' hg hr1
      by_cases hlt : j < k
      · have hr3 : r' ≤ 524287 := by have := Hr.out; omega
        by_cases hend : s.size ≤ a + (j + 1)
        · go_wp2
          rw [Exit.noGoto_ret]
          go_ret2
          exact ⟨pieceV_eq (by rw [← Hcont.out, show k - j = (k - j - 1) + 1 from by omega, cont_end hend]), rfl⟩
        · have hlt2 : a + (j + 1) < s.size := by omega
          go_wp2
          · rw [Exit.noGoto_ret]
            go_ret2
            exact ⟨pieceV_eq (by rw [← Hcont.out, show k - j = (k - j - 1) + 1 from by omega, cont_wrong hlt2 (by assumption)]), rfl⟩
          · have hin : lo' ≤ ↑s[a + (j + 1)].toNat ∧ ↑s[a + (j + 1)].toNat ≤ hi' := by assumption
            have hb := Utf.byte_lt s[a + (j + 1)]
            go_roundg (k + 1 - (j + 1))
            case measure => have := Hg.out; omega
            case rel =>
              refine ⟨j + 1, r' * 64 + (s[a + (j + 1)].toNat : Int) % 64, 128, 191, rfl, by omega, ?_, by go_num, rfl, rfl, ?_, by omega, by have := Hr.out; omega, rfl⟩
              · rw [u8_and63 _ (by omega) hb, IntWalk.wrap64_in _ (by omega), i64_or64 r' _ hr0' (by omega) (by omega) (by omega)]
              · rw [← Hcont.out, show k - j = (k - (j + 1)) + 1 from by omega, cont_step hlt2 hin.1 hin.2]
                simp
                rfl
          · go_ret2
            exact ⟨pieceV_eq (by rw [← Hcont.out, show k - j = (k - j - 1) + 1 from by omega, cont_wrong hlt2 (.inl (by assumption))]), rfl⟩
      · go_wp2
        rw [Exit.noGoto_ret]
        go_ret2
        exact ⟨pieceV_eq (by rw [← Hcont.out, show k - j = 0 from by omega]; unfold Utf.cont; rfl), rfl⟩
end Go.Proofs.YtbnaphbmmkmaeaaGreatDoor
namespace Go.Proofs.YtbnaphbmmkmaeaaGreatDoor
open Go.RowKit

def partT (f : Int × Int × Bool) : Value := .tuple #[.int .i64 f.1, .int .i64 f.2.1, .bool f.2.2]
theorem partT_eq {a b : Int} {c : Bool} {f : Int × Int × Bool} (h : (a, b, c) = f) : Ending.returned (.tuple #[.int .i64 a, .int .i64 b, .bool c]) = .returned (partT f) := by
  rw [← h]; rfl

theorem i64_and127 (x : Int) (h0 : 0 ≤ x) (h1 : x < 256) : bits .and .i64 x 127 = x % 128 := i64_mask x 7 h0 (by omega) (by omega) _ rfl
theorem i64_and31 (x : Int) (h0 : 0 ≤ x) (h1 : x < 256) : bits .and .i64 x 31 = x % 32 := i64_mask x 5 h0 (by omega) (by omega) _ rfl
theorem i64_and15 (x : Int) (h0 : 0 ≤ x) (h1 : x < 256) : bits .and .i64 x 15 = x % 16 := i64_mask x 4 h0 (by omega) (by omega) _ rfl
theorem i64_and7 (x : Int) (h0 : 0 ≤ x) (h1 : x < 256) : bits .and .i64 x 7 = x % 8 := i64_mask x 3 h0 (by omega) (by omega) _ rfl

set_option maxHeartbeats 1000000 in
theorem part_wrong (s : ByteArray) (a : Nat) (w : World) (ha : a < s.size) (hs : s.size ≤ 1000000000) (hm : (Utf.follow s[a].toNat).1 < 0) :
    Calls Tryz.prog 84 #[.string s, .int .i64 a] w fun e w' => e = .returned (partT (0, 1, false)) ∧ w = w' := by
  obtain ⟨c, hc⟩ : ∃ c : Int, ((s[a].toNat : Nat) : Int) = c := ⟨_, rfl⟩
  have hc0 : 0 ≤ c := by omega
  have hc1 : c ≤ 255 := by have := Utf.byte_lt s[a]; omega
  rw [hc] at hm
  have Hc := hide hc
  have Hm : Hid (leadV (Utf.follow c) = (-1, 0, 0)) := by
    show leadV (Utf.follow c) = (-1, 0, 0)
    unfold leadV; rw [if_pos hm]
  clear hc hm
  go_enter Tryz.func84, Tryz.ntmps84
  go_wp2_with (go_at_call 125; rw [Hc.out]; refine (lead_any _ _ hc0 hc1).mono ?_; rintro e w' ⟨rfl, rfl⟩; rw [Hm.out]; unfold leadT; dsimp only)
  go_ret3
  exact ⟨rfl, rfl⟩

set_option maxHeartbeats 4000000 in
theorem part_right (s : ByteArray) (a k : Nat) (r lo hi least most : Int) (w : World) (ha : a < s.size) (hs : s.size ≤ 1000000000) (hf : Utf.follow s[a].toNat = ((k : Int), r, lo, hi))
    (hl : leadV (Utf.follow s[a].toNat) = ((k : Int), least, most)) (hll : 0 < k → least = lo ∧ most = hi) :
    Calls Tryz.prog 84 #[.string s, .int .i64 a] w fun e w' => e = .returned (partT (Utf.part (Utf.cont (s.data.toList.drop (a + 1)) k r 1 lo hi))) ∧ w = w' := by
  obtain ⟨c, hc⟩ : ∃ c : Int, ((s[a].toNat : Nat) : Int) = c := ⟨_, rfl⟩
  have hc0 : 0 ≤ c := by omega
  have hc1 : c ≤ 255 := by have := Utf.byte_lt s[a]; omega
  rw [hc] at hf hl
  have hcs := Utf.follow_cases c hc0 hc1
  have hbs := Utf.follow_bits c
  rw [hf] at hcs hbs
  dsimp only at hcs hbs
  have Hc := hide hc
  have Hl := hide hl
  have hr0 : 0 ≤ r := by omega
  have hr1 : r ≤ 127 := by omega
  have hk3 : k ≤ 3 := by omega
  have Hr : Hid ((k = 0 → c % 128 = r) ∧ (k = 1 → c % 32 = r) ∧ (k = 2 → c % 16 = r) ∧ (k = 3 → c % 8 = r)) := by
    show (k = 0 → c % 128 = r) ∧ (k = 1 → c % 32 = r) ∧ (k = 2 → c % 16 = r) ∧ (k = 3 → c % 8 = r)
    refine ⟨?_, ?_, ?_, ?_⟩ <;> omega
  have Hll := hide hll
  obtain ⟨res, hres⟩ : ∃ res, Utf.part (Utf.cont (s.data.toList.drop (a + 1)) k r 1 lo hi) = res := ⟨_, rfl⟩
  rw [hres]
  have Hres := hide hres
  clear hres hc hl hf hcs hbs hll
  have b0 : bits .and .i64 c 127 = c % 128 := i64_and127 c hc0 (by omega)
  have b1 : bits .and .i64 c 31 = c % 32 := i64_and31 c hc0 (by omega)
  have b2 : bits .and .i64 c 15 = c % 16 := i64_and15 c hc0 (by omega)
  have b3 : bits .and .i64 c 7 = c % 8 := i64_and7 c hc0 (by omega)
  have hk : k = 0 ∨ k = 1 ∨ k = 2 ∨ k = 3 := by omega
  go_enter Tryz.func84, Tryz.ntmps84
  rcases hk with rfl | rfl | rfl | rfl
  · go_wp2_with (go_at_call 125; rw [Hc.out]; refine (lead_any _ _ hc0 hc1).mono ?_; rintro e w' ⟨rfl, rfl⟩; rw [Hl.out]; unfold leadT; dsimp only)
    have hrr : bits .and .i64 (wrap64 (s[a].toNat : Int)) (127) = r := by
      rw [Hc.out, IntWalk.wrap64_in c (by omega), b0]
      exact Hr.out.1 (by trivial)
    rw [hrr]
    clear hrr b0 b1 b2 b3
    go_loopg [8, 9, 11, 12] (0 + 1) (fun g vlo vhi vr vn wr => ∃ (j : Nat) (r' lo' hi' : Int), g = 0 + 1 - j ∧ j ≤ 0 ∧ vr = .int .i64 r' ∧ vn = .int .i64 ((j : Int) + 1) ∧ vlo = .int .u8 lo' ∧ vhi = .int .u8 hi' ∧
      Utf.part (Utf.cont (s.data.toList.drop (a + (j + 1))) (0 - j) r' ((j : Int) + 1) (if 0 = 0 then lo else lo') (if 0 = 0 then hi else hi')) = res ∧ 0 ≤ r' ∧ (r' ≤ 127 ∧ j = 0 ∨ r' ≤ 8191 ∧ j = 1 ∨ r' ≤ 524287 ∧ j = 2 ∨ r' ≤ 33554431 ∧ j = 3) ∧ wr = w)
    case atStart =>
      refine ⟨0, r, least, most, rfl, by omega, rfl, rfl, rfl, rfl, ?_, hr0, .inl ⟨hr1, rfl⟩, rfl⟩
      rw [← Hres.out]
      rfl
    case round =>
      obtain ⟨j, r', lo', hi', hg, hj, rfl, rfl, rfl, rfl, hcont, hr0', hr1', rfl⟩ := hrel
      have Hcont := hide hcont
      have Hr1 := hide hr1'
      have Hg := hide hg
      have hr2 : r' ≤ 33554431 := by omega
      clear hcont hr1' hg hr1
      go_wp2
      go_ret3
      exact ⟨partT_eq (by rw [← Hcont.out, show j = 0 from by omega]; unfold Utf.cont; simp [Utf.part, hr0', show ¬ r' < 0 from by omega]), rfl⟩
  · go_wp2_with (go_at_call 125; rw [Hc.out]; refine (lead_any _ _ hc0 hc1).mono ?_; rintro e w' ⟨rfl, rfl⟩; rw [Hl.out]; unfold leadT; dsimp only)
    have hrr : bits .and .i64 (wrap64 (s[a].toNat : Int)) (31) = r := by
      rw [Hc.out, IntWalk.wrap64_in c (by omega), b1]
      exact Hr.out.2.1 (by trivial)
    rw [hrr]
    clear hrr b0 b1 b2 b3
    go_loopg [8, 9, 11, 12] (1 + 1) (fun g vlo vhi vr vn wr => ∃ (j : Nat) (r' lo' hi' : Int), g = 1 + 1 - j ∧ j ≤ 1 ∧ vr = .int .i64 r' ∧ vn = .int .i64 ((j : Int) + 1) ∧ vlo = .int .u8 lo' ∧ vhi = .int .u8 hi' ∧
      Utf.part (Utf.cont (s.data.toList.drop (a + (j + 1))) (1 - j) r' ((j : Int) + 1) (if 1 = 0 then lo else lo') (if 1 = 0 then hi else hi')) = res ∧ 0 ≤ r' ∧ (r' ≤ 127 ∧ j = 0 ∨ r' ≤ 8191 ∧ j = 1 ∨ r' ≤ 524287 ∧ j = 2 ∨ r' ≤ 33554431 ∧ j = 3) ∧ wr = w)
    case atStart =>
      refine ⟨0, r, least, most, rfl, by omega, rfl, rfl, rfl, rfl, ?_, hr0, .inl ⟨hr1, rfl⟩, rfl⟩
      rw [← Hres.out]
      have := Hll.out (by omega)
      rw [this.1, this.2]
      rfl
    case round =>
      obtain ⟨j, r', lo', hi', hg, hj, rfl, rfl, rfl, rfl, hcont, hr0', hr1', rfl⟩ := hrel
      have Hcont := hide hcont
      have Hr1 := hide hr1'
      have Hg := hide hg
      have hr2 : r' ≤ 33554431 := by omega
      clear hcont hr1' hg hr1
      by_cases hlt : j < 1
      · have hr3 : r' ≤ 524287 := by have := Hr1.out; omega
        by_cases hend : s.size ≤ a + (j + 1)
        · go_wp2
          go_ret3
          exact ⟨partT_eq (by rw [← Hcont.out, show 1 - j = (1 - j - 1) + 1 from by omega, cont_end hend]; rfl), rfl⟩
        · have hlt2 : a + (j + 1) < s.size := by omega
          go_wp2
          · go_ret3
            have hx : (↑s.size ≤ (a : Int) + ((j : Int) + 1) ∨ (s[a + (j + 1)].toNat : Int) < lo') ∨ hi' < (s[a + (j + 1)].toNat : Int) := by assumption
            exact ⟨partT_eq (by rw [← Hcont.out, show 1 - j = (1 - j - 1) + 1 from by omega, cont_wrong hlt2 (by simp only [show (1 = 0) = False from by simp, if_false]; omega)]; rfl), rfl⟩
          · have hin : ((a : Int) + ((j : Int) + 1) < s.size ∧ lo' ≤ (s[a + (j + 1)].toNat : Int)) ∧ (s[a + (j + 1)].toNat : Int) ≤ hi' := by assumption
            have hb := Utf.byte_lt s[a + (j + 1)]
            go_roundg (1 + 1 - (j + 1))
            case measure => have := Hg.out; omega
            case rel =>
              refine ⟨j + 1, r' * 64 + (s[a + (j + 1)].toNat : Int) % 64, 128, 191, rfl, by omega, ?_, by go_num, rfl, rfl, ?_, by omega, by have := Hr1.out; omega, rfl⟩
              · rw [u8_and63 _ (by omega) hb, IntWalk.wrap64_in _ (by omega), i64_or64 r' _ hr0' (by omega) (by omega) (by omega)]
              · rw [← Hcont.out, show 1 - j = (1 - (j + 1)) + 1 from by omega, cont_step hlt2 (by simpa using hin.1.2) (by simpa using hin.2)]
                simp
                rfl
          · go_ret3
            have hx : (s[a + (j + 1)].toNat : Int) < lo' := by assumption
            exact ⟨partT_eq (by rw [← Hcont.out, show 1 - j = (1 - j - 1) + 1 from by omega, cont_wrong hlt2 (.inl (by simpa using hx))]; rfl), rfl⟩
      · go_wp2
        go_ret3
        exact ⟨partT_eq (by rw [← Hcont.out, show j = 1 from by omega]; unfold Utf.cont; simp [Utf.part, hr0', show ¬ r' < 0 from by omega]), rfl⟩
  · go_wp2_with (go_at_call 125; rw [Hc.out]; refine (lead_any _ _ hc0 hc1).mono ?_; rintro e w' ⟨rfl, rfl⟩; rw [Hl.out]; unfold leadT; dsimp only)
    have hrr : bits .and .i64 (wrap64 (s[a].toNat : Int)) (15) = r := by
      rw [Hc.out, IntWalk.wrap64_in c (by omega), b2]
      exact Hr.out.2.2.1 (by trivial)
    rw [hrr]
    clear hrr b0 b1 b2 b3
    go_loopg [8, 9, 11, 12] (2 + 1) (fun g vlo vhi vr vn wr => ∃ (j : Nat) (r' lo' hi' : Int), g = 2 + 1 - j ∧ j ≤ 2 ∧ vr = .int .i64 r' ∧ vn = .int .i64 ((j : Int) + 1) ∧ vlo = .int .u8 lo' ∧ vhi = .int .u8 hi' ∧
      Utf.part (Utf.cont (s.data.toList.drop (a + (j + 1))) (2 - j) r' ((j : Int) + 1) (if 2 = 0 then lo else lo') (if 2 = 0 then hi else hi')) = res ∧ 0 ≤ r' ∧ (r' ≤ 127 ∧ j = 0 ∨ r' ≤ 8191 ∧ j = 1 ∨ r' ≤ 524287 ∧ j = 2 ∨ r' ≤ 33554431 ∧ j = 3) ∧ wr = w)
    case atStart =>
      refine ⟨0, r, least, most, rfl, by omega, rfl, rfl, rfl, rfl, ?_, hr0, .inl ⟨hr1, rfl⟩, rfl⟩
      rw [← Hres.out]
      have := Hll.out (by omega)
      rw [this.1, this.2]
      rfl
    case round =>
      obtain ⟨j, r', lo', hi', hg, hj, rfl, rfl, rfl, rfl, hcont, hr0', hr1', rfl⟩ := hrel
      have Hcont := hide hcont
      have Hr1 := hide hr1'
      have Hg := hide hg
      have hr2 : r' ≤ 33554431 := by omega
      clear hcont hr1' hg hr1
      by_cases hlt : j < 2
      · have hr3 : r' ≤ 524287 := by have := Hr1.out; omega
        by_cases hend : s.size ≤ a + (j + 1)
        · go_wp2
          go_ret3
          exact ⟨partT_eq (by rw [← Hcont.out, show 2 - j = (2 - j - 1) + 1 from by omega, cont_end hend]; rfl), rfl⟩
        · have hlt2 : a + (j + 1) < s.size := by omega
          go_wp2
          · go_ret3
            have hx : (↑s.size ≤ (a : Int) + ((j : Int) + 1) ∨ (s[a + (j + 1)].toNat : Int) < lo') ∨ hi' < (s[a + (j + 1)].toNat : Int) := by assumption
            exact ⟨partT_eq (by rw [← Hcont.out, show 2 - j = (2 - j - 1) + 1 from by omega, cont_wrong hlt2 (by simp only [show (2 = 0) = False from by simp, if_false]; omega)]; rfl), rfl⟩
          · have hin : ((a : Int) + ((j : Int) + 1) < s.size ∧ lo' ≤ (s[a + (j + 1)].toNat : Int)) ∧ (s[a + (j + 1)].toNat : Int) ≤ hi' := by assumption
            have hb := Utf.byte_lt s[a + (j + 1)]
            go_roundg (2 + 1 - (j + 1))
            case measure => have := Hg.out; omega
            case rel =>
              refine ⟨j + 1, r' * 64 + (s[a + (j + 1)].toNat : Int) % 64, 128, 191, rfl, by omega, ?_, by go_num, rfl, rfl, ?_, by omega, by have := Hr1.out; omega, rfl⟩
              · rw [u8_and63 _ (by omega) hb, IntWalk.wrap64_in _ (by omega), i64_or64 r' _ hr0' (by omega) (by omega) (by omega)]
              · rw [← Hcont.out, show 2 - j = (2 - (j + 1)) + 1 from by omega, cont_step hlt2 (by simpa using hin.1.2) (by simpa using hin.2)]
                simp
                rfl
          · go_ret3
            have hx : (s[a + (j + 1)].toNat : Int) < lo' := by assumption
            exact ⟨partT_eq (by rw [← Hcont.out, show 2 - j = (2 - j - 1) + 1 from by omega, cont_wrong hlt2 (.inl (by simpa using hx))]; rfl), rfl⟩
      · go_wp2
        go_ret3
        exact ⟨partT_eq (by rw [← Hcont.out, show j = 2 from by omega]; unfold Utf.cont; simp [Utf.part, hr0', show ¬ r' < 0 from by omega]), rfl⟩
  · go_wp2_with (go_at_call 125; rw [Hc.out]; refine (lead_any _ _ hc0 hc1).mono ?_; rintro e w' ⟨rfl, rfl⟩; rw [Hl.out]; unfold leadT; dsimp only)
    have hrr : bits .and .i64 (wrap64 (s[a].toNat : Int)) (7) = r := by
      rw [Hc.out, IntWalk.wrap64_in c (by omega), b3]
      exact Hr.out.2.2.2 (by trivial)
    rw [hrr]
    clear hrr b0 b1 b2 b3
    go_loopg [8, 9, 11, 12] (3 + 1) (fun g vlo vhi vr vn wr => ∃ (j : Nat) (r' lo' hi' : Int), g = 3 + 1 - j ∧ j ≤ 3 ∧ vr = .int .i64 r' ∧ vn = .int .i64 ((j : Int) + 1) ∧ vlo = .int .u8 lo' ∧ vhi = .int .u8 hi' ∧
      Utf.part (Utf.cont (s.data.toList.drop (a + (j + 1))) (3 - j) r' ((j : Int) + 1) (if 3 = 0 then lo else lo') (if 3 = 0 then hi else hi')) = res ∧ 0 ≤ r' ∧ (r' ≤ 127 ∧ j = 0 ∨ r' ≤ 8191 ∧ j = 1 ∨ r' ≤ 524287 ∧ j = 2 ∨ r' ≤ 33554431 ∧ j = 3) ∧ wr = w)
    case atStart =>
      refine ⟨0, r, least, most, rfl, by omega, rfl, rfl, rfl, rfl, ?_, hr0, .inl ⟨hr1, rfl⟩, rfl⟩
      rw [← Hres.out]
      have := Hll.out (by omega)
      rw [this.1, this.2]
      rfl
    case round =>
      obtain ⟨j, r', lo', hi', hg, hj, rfl, rfl, rfl, rfl, hcont, hr0', hr1', rfl⟩ := hrel
      have Hcont := hide hcont
      have Hr1 := hide hr1'
      have Hg := hide hg
      have hr2 : r' ≤ 33554431 := by omega
      clear hcont hr1' hg hr1
      by_cases hlt : j < 3
      · have hr3 : r' ≤ 524287 := by have := Hr1.out; omega
        by_cases hend : s.size ≤ a + (j + 1)
        · go_wp2
          go_ret3
          exact ⟨partT_eq (by rw [← Hcont.out, show 3 - j = (3 - j - 1) + 1 from by omega, cont_end hend]; rfl), rfl⟩
        · have hlt2 : a + (j + 1) < s.size := by omega
          go_wp2
          · go_ret3
            have hx : (↑s.size ≤ (a : Int) + ((j : Int) + 1) ∨ (s[a + (j + 1)].toNat : Int) < lo') ∨ hi' < (s[a + (j + 1)].toNat : Int) := by assumption
            exact ⟨partT_eq (by rw [← Hcont.out, show 3 - j = (3 - j - 1) + 1 from by omega, cont_wrong hlt2 (by simp only [show (3 = 0) = False from by simp, if_false]; omega)]; rfl), rfl⟩
          · have hin : ((a : Int) + ((j : Int) + 1) < s.size ∧ lo' ≤ (s[a + (j + 1)].toNat : Int)) ∧ (s[a + (j + 1)].toNat : Int) ≤ hi' := by assumption
            have hb := Utf.byte_lt s[a + (j + 1)]
            go_roundg (3 + 1 - (j + 1))
            case measure => have := Hg.out; omega
            case rel =>
              refine ⟨j + 1, r' * 64 + (s[a + (j + 1)].toNat : Int) % 64, 128, 191, rfl, by omega, ?_, by go_num, rfl, rfl, ?_, by omega, by have := Hr1.out; omega, rfl⟩
              · rw [u8_and63 _ (by omega) hb, IntWalk.wrap64_in _ (by omega), i64_or64 r' _ hr0' (by omega) (by omega) (by omega)]
              · rw [← Hcont.out, show 3 - j = (3 - (j + 1)) + 1 from by omega, cont_step hlt2 (by simpa using hin.1.2) (by simpa using hin.2)]
                simp
                rfl
          · go_ret3
            have hx : (s[a + (j + 1)].toNat : Int) < lo' := by assumption
            exact ⟨partT_eq (by rw [← Hcont.out, show 3 - j = (3 - j - 1) + 1 from by omega, cont_wrong hlt2 (.inl (by simpa using hx))]; rfl), rfl⟩
      · go_wp2
        go_ret3
        exact ⟨partT_eq (by rw [← Hcont.out, show j = 3 from by omega]; unfold Utf.cont; simp [Utf.part, hr0', show ¬ r' < 0 from by omega]), rfl⟩

end Go.Proofs.YtbnaphbmmkmaeaaGreatDoor
namespace Go.Proofs.YtbnaphbmmkmaeaaGreatDoor
open Go.RowKit

theorem part_any (s : ByteArray) (at_ : Int) (w : World) (h0 : 0 ≤ at_) (h1 : at_ < s.size) (hs : s.size ≤ 1000000000) :
    Calls Tryz.prog 84 #[.string s, .int .i64 at_] w fun e w' => e = .returned (partT (Utf.part (Utf.piece (s.data.toList.drop at_.toNat)))) ∧ w = w' := by
  obtain ⟨a, rfl⟩ := Int.eq_ofNat_of_zero_le h0
  rw [Int.toNat_natCast]
  have ha : a < s.size := by omega
  rw [drop_at s a ha, Utf.piece_cons]
  have hw := part_wrong s a w ha hs
  have hr := fun k r lo hi least most => part_right s a k r lo hi least most w ha hs
  obtain ⟨c, hc⟩ : ∃ c : Int, (s[a].toNat : Int) = c := ⟨_, rfl⟩
  rw [hc] at hw ⊢
  simp only [hc] at hr
  by_cases hm : (Utf.follow c).1 < 0
  · rw [if_pos hm]
    exact hw hm
  · rw [if_neg hm]
    obtain ⟨m, r, lo, hi, hq⟩ : ∃ m r lo hi, Utf.follow c = (m, r, lo, hi) := ⟨_, _, _, _, rfl⟩
    rw [hq] at hm hr ⊢
    dsimp only at hm ⊢
    obtain ⟨k, rfl⟩ := Int.eq_ofNat_of_zero_le (show 0 ≤ m by omega)
    rw [Int.toNat_natCast]
    by_cases hk0 : k = 0
    · subst hk0
      exact hr 0 r lo hi 0 0 rfl rfl (by omega)
    · exact hr k r lo hi lo hi rfl (by unfold leadV; rw [if_neg (by simp), if_neg (by simpa using hk0)]) (fun _ => ⟨rfl, rfl⟩)

/-- What the document's 'Next' says of a piece. -/
def nextT (f : Int × Int) : Value := if f.1 < 0 then .tuple #[.int .i64 0, .int .i64 0, .bool false] else .tuple #[.int .i64 f.1, .int .i64 f.2, .bool true]

set_option maxHeartbeats 400000 in
theorem next_any (s : ByteArray) (at_ : Int) (w : World) (h0 : 0 ≤ at_) (h1 : at_ < s.size) (hs : s.size ≤ 1000000000) :
    Calls Tryz.prog 43 #[.string s, .int .i64 at_] w fun e w' => e = .returned (nextT (Utf.piece (s.data.toList.drop at_.toNat))) ∧ w = w' := by
  have H := part_any s at_ w h0 h1 hs
  generalize Utf.piece (s.data.toList.drop at_.toNat) = f at *
  have HH := hide H
  clear H
  have g : ¬ at_ < 0 := by omega
  go_enter Tryz.func43, Tryz.ntmps43
  by_cases hf : f.1 < 0
  · have e1 : Hid (Utf.part f = (0, f.2, false)) := by show Utf.part f = _; unfold Utf.part; rw [if_pos hf]
    go_wp2_with (go_at_call 84; refine HH.out.mono ?_; rintro e w' ⟨rfl, rfl⟩; rw [e1.out]; unfold partT; dsimp only)
    go_ret3
    exact ⟨by unfold nextT; rw [if_pos hf]; rfl, rfl⟩
  · have e1 : Hid (Utf.part f = (f.1, f.2, true)) := by show Utf.part f = _; unfold Utf.part; rw [if_neg hf]
    go_wp2_with (go_at_call 84; refine HH.out.mono ?_; rintro e w' ⟨rfl, rfl⟩; rw [e1.out]; unfold partT; dsimp only)
    go_ret3
    exact ⟨by unfold nextT; rw [if_neg (by omega)]; rfl, rfl⟩
end Go.Proofs.YtbnaphbmmkmaeaaGreatDoor
