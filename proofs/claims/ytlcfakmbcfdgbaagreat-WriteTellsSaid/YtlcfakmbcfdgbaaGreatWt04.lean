/- Tokens in plain data: the piece that stands at a byte of a text, a text's tokens; no program in sight. · Tokens: white space. · One operation of a region that draws its order, taken by itself; the operation and its slot written out. · Tokens: the scan's small methods, walked. (Printed by wip/genTkA.py.) · The program's 'Is', 'Len', 'Put'. · The program's iterator over a text's pieces; 'Loose', 'Valid'. · Characters: the program's 'Next'; the iterator over a text's scalars. · Characters: ranges; First, Further, Char. · append of a string's bytes to a row of the call's own, in and out of a fence; append of one element in a fence. -/
import Derived.Test.YtlcfakmbcfdgbaaGreatShelf
import Derived.Test.YtlcfakmbcfdgbaaGreatWt00
import Derived.Test.YtlcfakmbcfdgbaaGreatWt01
import Derived.Lib.Index
import Derived.Deep.RegionHeld3
import Derived.LoopN
import Derived.RangeFuncNested
import Derived.RangeFuncBound
import Derived.RangeFuncCalls
import Derived.RangeFuncLeaves
import Derived.RangeFuncBox
import Derived.Lib.AppendStr
import Derived.Shelf.Abstract
import Derived.Shelf.RegionOpen
import Derived.OwnWalkIn
import Derived.TacticsInMore
import Derived.LoopNIn
import Derived.LoopIn
set_option linter.unusedSimpArgs false
set_option linter.unusedVariables false
namespace Go.Proofs.YtlcfakmbcfdgbaaGreat
open Go
namespace Tk
abbrev L := List UInt8
/-- White space. -/
def sp (c : UInt8) : Bool := c == 32 || c == 9 || c == 10 || c == 13
def nsp (l : L) : Nat := (l.takeWhile sp).length
def within (r a b : Int) : Bool := decide (a ≤ r) && decide (r ≤ b)
def charOk (r : Int) : Bool := within r 9 10 || within r 13 13 || within r 32 55295 || within r 57344 65533 || within r 65536 1114111
def firstOk (r : Int) : Bool :=
  within r 97 122 || within r 65 90 || within r 95 95 || within r 192 214 || within r 216 246 || within r 248 767 || within r 880 893 || within r 895 8191 || within r 8204 8205 || within r 8304 8591 ||
    within r 11264 12271 || within r 12289 55295 || within r 63744 64975 || within r 65008 65533 || within r 65536 983039
def furtherOk (r : Int) : Bool := firstOk r || (within r 45 46 || within r 48 57 || within r 183 183 || within r 768 879 || within r 8255 8256)
/-- May a scalar stand there in a name? -/
def nameOk (at_ : Nat) (r : Int) : Bool := if at_ = 0 then firstOk r else furtherOk r || decide (r = 58)
/-- Where the first piece stands that is not as asked. -/
def stop (ok : Nat → Int → Bool) (l : L) : Option Nat := ((Utf.pieces l).find? fun p => !ok p.1 p.2).map (·.1)
/-- How many bytes a name at the front has. -/
def take (l : L) : Nat := (stop nameOk l).getD l.length
/-- Of Chars alone. -/
def fine (l : L) : Bool := (Utf.pieces l).all fun p => charOk p.2
def bad (l : L) : Int := match stop (fun _ r => charOk r) l with
  | some k => k
  | none => -1
def till (p l : L) : Option Nat := if Lib.index l p < 0 then none else some (Lib.index l p).toNat
/-- A quoted value, and how many bytes were read. -/
def quoted : L → Option (L × Nat)
  | [] => none
  | q :: r => if q = 34 ∨ q = 39 then (till [q] r).map fun k => (r.take k, k + 2) else none
/-- =, and a quoted value. -/
def eqv (l : L) : Option (L × Nat) :=
  match l.drop (nsp l) with
  | [] => none
  | c :: r => if c = 61 then (quoted (r.drop (nsp r))).map fun x => (x.1, nsp l + 1 + nsp r + x.2) else none
/-- A part of the declaration. -/
def part (name l : L) : Option (L × Nat) :=
  if nsp l = 0 then none else if name.isPrefixOf (l.drop (nsp l)) then (eqv (l.drop (nsp l + name.length))).map fun x => (x.1, nsp l + name.length + x.2) else none
def digit (c : UInt8) : Bool := decide (48 ≤ c) && decide (c ≤ 57)
def letter (c : UInt8) : Bool := (decide (65 ≤ c) && decide (c ≤ 90)) || (decide (97 ≤ c) && decide (c ≤ 122))
def sVersion : L := [118, 101, 114, 115, 105, 111, 110]
def sEncoding : L := [101, 110, 99, 111, 100, 105, 110, 103]
def sAlone : L := [115, 116, 97, 110, 100, 97, 108, 111, 110, 101]
def version (v : L) : Bool := [49, 46].isPrefixOf v && !(v.drop 2).isEmpty && (v.drop 2).all digit
def encTail (c : UInt8) : Bool := letter c || digit c || c == 46 || c == 95 || c == 45
def encoding : L → Bool
  | [] => false
  | c :: r => letter c && r.all encTail
def alone (v : L) : Bool := decide (v = [121, 101, 115]) || decide (v = [110, 111])
/-- A part that may be left out: how many bytes were read. -/
def opt (name : L) (may : L → Bool) (l : L) : Option Nat :=
  match part name l with
  | none => some 0
  | some x => if may x.1 then some x.2 else none
/-- The declaration behind its five bytes. -/
def decl (l : L) : Option Nat :=
  (part sVersion l).bind fun x => if version x.1 then
    (opt sEncoding encoding (l.drop x.2)).bind fun a => (opt sAlone alone (l.drop (x.2 + a))).bind fun b =>
      if [63, 62].isPrefixOf ((l.drop (x.2 + a + b)).drop (nsp (l.drop (x.2 + a + b)))) then some (x.2 + a + b + nsp (l.drop (x.2 + a + b)) + 2) else none
  else none
def lower (c : UInt8) : UInt8 := if 65 ≤ c ∧ c ≤ 90 then c + 32 else c
def xml (n : L) : Bool := decide (n.map lower = [120, 109, 108])
/-- An instruction behind its <?. -/
def instr (l : L) : Option Nat :=
  if take l = 0 ∨ xml (l.take (take l)) = true then none
  else if [63, 62].isPrefixOf (l.drop (take l)) then some (take l + 2)
  else (till [63, 62] (l.drop (take l))).bind fun k => if ((l.drop (take l)).head?.map sp).getD false then some (take l + k + 2) else none
/-- A comment behind its <!--. -/
def comment (l : L) : Option Nat := (till [45, 45] l).bind fun k => if [62].isPrefixOf (l.drop (k + 2)) then some (k + 3) else none

structure At where
  name : L
  value : L
  at_ : Nat
  deriving DecidableEq
structure Tok where
  kind : Int
  name : L
  attrs : List At
  empty : Bool
  text : L
  at_ : Nat
  end_ : Nat
  deriving DecidableEq
/-- The attributes and the end of a start, so many rounds at most; 'off': where the bytes stand. -/
def attrs : Nat → Nat → L → Option (List At × Bool × Nat)
  | 0, _, _ => none
  | k + 1, off, l =>
    if [47, 62].isPrefixOf (l.drop (nsp l)) then some ([], true, off + nsp l + 2)
    else if [62].isPrefixOf (l.drop (nsp l)) then some ([], false, off + nsp l + 1)
    else if nsp l = 0 then none
    else
      let r := l.drop (nsp l)
      let m := take r
      if m = 0 then none
      else (eqv (r.drop m)).bind fun x => if (60 : UInt8) ∈ x.1 then none
        else (attrs k (off + nsp l + m + x.2) (r.drop (m + x.2))).map fun y => (⟨r.take m, x.1, off + nsp l⟩ :: y.1, y.2)
def sComment : L := [60, 33, 45, 45]
def sData : L := [60, 33, 91, 67, 68, 65, 84, 65, 91]
def sXml : L := [60, 63, 120, 109, 108]
/-- The piece that stands at byte 'at_' of a text (the bytes from there on), its Chars not looked at. -/
def start (at_ : Nat) (l : L) : Option Tok :=
  if take l.tail = 0 then none
  else (attrs l.length (at_ + 1 + take l.tail) (l.drop (1 + take l.tail))).map fun x => ⟨0, l.tail.take (take l.tail), x.1, x.2.1, [], at_, x.2.2⟩
def end_ (at_ : Nat) (l : L) : Option Tok :=
  let r := l.drop 2
  if take r = 0 then none
  else if [62].isPrefixOf ((r.drop (take r)).drop (nsp (r.drop (take r)))) then some ⟨1, r.take (take r), [], false, [], at_, at_ + 2 + take r + nsp (r.drop (take r)) + 1⟩ else none
def text (at_ : Nat) (l : L) : Option Tok :=
  let n := (till [60] l).getD l.length
  if Lib.index (l.take n) [93, 93, 62] < 0 then some ⟨2, [], [], false, l.take n, at_, at_ + n⟩ else none
def skip (at_ : Nat) (l : L) : Option Tok :=
  if sComment.isPrefixOf l then (comment (l.drop 4)).map fun n => ⟨4, [], [], false, [], at_, at_ + 4 + n⟩
  else if sData.isPrefixOf l then (till [93, 93, 62] (l.drop 9)).map fun k => ⟨3, [], [], false, (l.drop 9).take k, at_, at_ + 9 + k + 3⟩
  else if at_ = 0 ∧ sXml.isPrefixOf l = true ∧ ((l.drop 5).head?.map sp).getD false = true then (decl (l.drop 5)).map fun n => ⟨4, [], [], false, [], at_, at_ + 5 + n⟩
  else if [60, 63].isPrefixOf l then (instr (l.drop 2)).map fun n => ⟨4, [], [], false, [], at_, at_ + 2 + n⟩
  else none
def piece (at_ : Nat) (l : L) : Option Tok :=
  if [60, 47].isPrefixOf l then end_ at_ l
  else if [60, 33].isPrefixOf l || [60, 63].isPrefixOf l then skip at_ l
  else if [60].isPrefixOf l then start at_ l
  else text at_ l
/-- The token that stands at byte 'at_'. -/
def one (at_ : Nat) (l : L) : Option Tok := (piece at_ l).bind fun t => if fine (l.take (t.end_ - at_)) then some t else none
end Tk
end Go.Proofs.YtlcfakmbcfdgbaaGreat
namespace Go.Proofs.YtlcfakmbcfdgbaaGreat
open Go.RowKit Tk

end Go.Proofs.YtlcfakmbcfdgbaaGreat
namespace Go.Proofs.YtlcfakmbcfdgbaaGreat
open Go

section
variable {P : Program} {l : List Oper} {Q : Exit → Act → World → Prop} {md : Region.Mode} {S : World → Prop}
theorem put_some {a : Act} {d : Option Tmp} {k : Tmp} {v : Value} (hd : d = some k) : a.put d v = { tmps := a.tmps.setIfInBounds k v, defers := a.defers } := by subst hd; rfl
theorem held_take {i d : Nat} {oi : Oper} {v : Value} {fuel : Nat} {listed : Array Bool} {a : Act} {w : World} (hi : l[i]? = some oi) (hd : oi.dst = some d)
    (hs : Region.noSelect l.toArray = true) (hf : Region.free md l.toArray listed i = true) (hr : (Region.ready md l.toArray listed).contains i = true)
    (hQ : ∀ c a w, Q (.panic c) (a.put oi.dst v) w → Q (.panic c) a w) (hw : Region.wanted oi (yielded l.toArray a.tmps) = true) (hS : S w) (hy : ∀ w, S w → (execOp a.eval oi).run P w = .ok (.value v) w)
    (h : wpAnyH P md l.toArray Q S fuel (listed.setIfInBounds i true) { tmps := a.tmps.setIfInBounds d v, defers := a.defers } w) : wpAnyH P md l.toArray Q S (fuel + 1) listed a w :=
  wpAnyH_take (by simpa using hi) hs hf hr hQ (Or.inl ⟨hw, hy⟩) hS (by rw [put_some hd]; exact h)
theorem held_call {i : Nat} {oi : Oper} {fuel : Nat} {listed : Array Bool} {a : Act} {w : World} (hi : l[i]? = some oi) (hr : Region.ready md l.toArray listed = [i]) (hw : Region.wanted oi (yielded l.toArray a.tmps) = true)
    (h : ∀ K' : Act → World → Prop, Shut (∀ a w, S w → (S w → wpAnyH P md l.toArray Q S fuel (listed.setIfInBounds i true) a w) → K' a w) → Oper.wp P oi a w K' Q) : wpAnyH P md l.toArray Q S (fuel + 1) listed a w :=
  wpAnyH_ready hr (by simp) (AllReadyH.cons (o := oi) (by simpa using hi) (fun K hK => by rw [if_pos hw]; exact h K hK) AllReadyH.nil)
end
end Go.Proofs.YtlcfakmbcfdgbaaGreat
namespace Go.Proofs.YtlcfakmbcfdgbaaGreat
open Go.RowKit Tk

theorem idx_run (s : ByteArray) (k : Nat) (c : UInt8) (h : s.data.toList[k]? = some c) (w : World) : (Instr.index 9 (.string s) (.int .i64 (k : Int))).run Tryz.prog w = .ok (.int .u8 (c.toNat : Nat)) w := by
  obtain ⟨hk, hc⟩ := List.getElem?_eq_some_iff.1 h
  rw [size_list] at hk
  have hc' : s[k] = c := hc
  go_simp
theorem lt_of_cell {w : World} {a : Addr} {v : Value} (h : w.cell? a = some v) : a.block < w.heap.size := by
  by_cases hb : a.block < w.heap.size
  · exact hb
  · exfalso
    have hn : w.heap[a.block]? = none := Array.getElem?_eq_none (by omega)
    unfold World.cell? at h
    simp [hn] at h
end Go.Proofs.YtlcfakmbcfdgbaaGreat
namespace Go.Proofs.YtlcfakmbcfdgbaaGreat
open Go.RowKit

set_option maxHeartbeats 400000 in
theorem is_any (r : Int) (w : World) : Calls Tryz.prog 119 #[.int .i64 r] w fun e w' => e = .returned (.bool (Utf.isScalar r)) ∧ w = w' := by
  by_cases h0 : 0 ≤ r
  · by_cases h1 : r ≤ 1114111
    · by_cases h2 : r < 55296
      all_goals
        go_enter Tryz.func119, Tryz.ntmps119
        go_wp2
        go_ret
        exact ⟨ret_eq1 (bool_eq (by rw [Bool.eq_iff_iff]; simp [Utf.isScalar]; omega)), rfl⟩
    · go_enter Tryz.func119, Tryz.ntmps119
      go_wp2
      go_ret
      exact ⟨ret_eq1 (bool_eq (by rw [Bool.eq_iff_iff]; simp [Utf.isScalar]; omega)), rfl⟩
  · go_enter Tryz.func119, Tryz.ntmps119
    go_wp2
    go_ret
    exact ⟨ret_eq1 (bool_eq (by rw [Bool.eq_iff_iff]; simp [Utf.isScalar]; omega)), rfl⟩

def lenOf (r : Int) : Int := if r < 128 then 1 else if r < 2048 then 2 else if r < 65536 then 3 else 4

set_option maxHeartbeats 400000 in
theorem len_no (r : Int) (w : World) (h : Utf.isScalar r = false) : Calls Tryz.prog 102 #[.int .i64 r] w fun e w' => e = .returned (.int .i64 0) ∧ w = w' := by
  have H := hide h
  clear h
  go_enter Tryz.func102, Tryz.ntmps102
  go_wp2_with (go_at_call 119; refine (is_any _ _).mono ?_; rintro e w' ⟨rfl, rfl⟩; rw [H.out])
  go_ret
  exact ⟨rfl, rfl⟩

set_option maxHeartbeats 1000000 in
theorem len_yes (r : Int) (w : World) (h : Utf.isScalar r = true) : Calls Tryz.prog 102 #[.int .i64 r] w fun e w' => e = .returned (.int .i64 (lenOf r)) ∧ Below w.heap.size w w' := by
  have h1 : 0 ≤ r ∧ r ≤ 1114111 := by simp [Utf.isScalar] at h; omega
  obtain ⟨h1, h2⟩ := h1
  have H := hide h
  clear h
  have i0 : ∀ w, (Instr.index 132 (.agg #[.int .i64 128, .int .i64 2048, .int .i64 65536, .int .i64 1114112]) (.int .i64 0)).run Tryz.prog w = .ok (.int .i64 128) w := fun _ => by kernel_rfl
  have i1 : ∀ w, (Instr.index 132 (.agg #[.int .i64 128, .int .i64 2048, .int .i64 65536, .int .i64 1114112]) (.int .i64 1)).run Tryz.prog w = .ok (.int .i64 2048) w := fun _ => by kernel_rfl
  have i2 : ∀ w, (Instr.index 132 (.agg #[.int .i64 128, .int .i64 2048, .int .i64 65536, .int .i64 1114112]) (.int .i64 2)).run Tryz.prog w = .ok (.int .i64 65536) w := fun _ => by kernel_rfl
  have i3 : ∀ w, (Instr.index 132 (.agg #[.int .i64 128, .int .i64 2048, .int .i64 65536, .int .i64 1114112]) (.int .i64 3)).run Tryz.prog w = .ok (.int .i64 1114112) w := fun _ => by kernel_rfl
  go_enter Tryz.func102, Tryz.ntmps102
  go_wp2_with (go_at_call 119; refine (is_any _ _).mono ?_; rintro e w' ⟨rfl, rfl⟩; rw [H.out])
  refine wp_loop_rounds 4 ?_
  rw [rounds_succ]
  go_wp2
  · go_ret
    exact ⟨ret_eq1 (int_eq (by unfold lenOf; rw [if_pos (by omega)])), (Below.refl _ _).alloc (Nat.le_refl _) _⟩
  rw [rounds_succ]
  go_wp2
  · go_ret
    exact ⟨ret_eq1 (int_eq (by unfold lenOf; rw [if_neg (by omega), if_pos (by omega)])), (Below.refl _ _).alloc (Nat.le_refl _) _⟩
  rw [rounds_succ]
  go_wp2
  · go_ret
    exact ⟨ret_eq1 (int_eq (by unfold lenOf; rw [if_neg (by omega), if_neg (by omega), if_pos (by omega)])), (Below.refl _ _).alloc (Nat.le_refl _) _⟩
  rw [rounds_succ]
  go_wp2
  go_ret
  exact ⟨ret_eq1 (int_eq (by unfold lenOf; rw [if_neg (by omega), if_neg (by omega), if_neg (by omega)])), (Below.refl _ _).alloc (Nat.le_refl _) _⟩

set_option maxHeartbeats 400000 in
theorem put_no (r : Int) (w : World) (h : Utf.isScalar r = false) : Calls Tryz.prog 82 #[.int .i64 r] w fun e w' => e = .returned (.tuple #[.string ⟨#[]⟩, .bool false]) ∧ w = w' := by
  go_enter Tryz.func82, Tryz.ntmps82
  have H := hide h
  clear h
  go_wp2_with (go_at_call 102; refine (len_no _ _ H.out).mono ?_; rintro e w' ⟨rfl, rfl⟩)
  go_ret2
  exact ⟨rfl, rfl⟩

set_option maxHeartbeats 1000000 in
theorem put_one (r : Int) (w : World) (h0 : 0 ≤ r) (h1 : r < 128) : Calls Tryz.prog 82 #[.int .i64 r] w fun e w' => (∃ t : ByteArray, e = .returned (.tuple #[.string t, .bool true]) ∧ StrIs t ((Utf.put r).map bv)) ∧ Below w.heap.size w w' := by
  have H : Hid (Utf.isScalar r = true) := by show Utf.isScalar r = true; simp [Utf.isScalar]; omega
  have L : Hid (lenOf r = 1) := by show lenOf r = 1; unfold lenOf; rw [if_pos h1]
  go_enter Tryz.func82, Tryz.ntmps82
  go_wp2_with (first
    | (go_at_call 102; refine (len_yes _ _ H.out).mono ?_; rintro e w1 ⟨rfl, hb⟩; rw [L.out])
    | (with_reducible show wpList _ _ _ (⟨_, .convert 40 9 _, _, _, _, _⟩ :: _) _ _; refine wpList_to_string rfl 40 9 5 _ rfl Tryz.underlying40 Tryz.underlying5 Tryz.underlying9 w1.heap.size _ 1 rfl [bv r] (own_byte_lit w1 _ r h0 (by omega)) ?_; intro t ht))
  go_ret2
  exact ⟨⟨t, rfl, by unfold Utf.put; rw [if_pos h1]; exact ht⟩, hb.alloc hb.size _⟩

theorem u8_or_of (x y : Int) (k : Nat) (h0 : 0 ≤ x) (hy : 0 ≤ y) (hk : y < 2 ^ k) (hx : x * 2 ^ k + y < 256) (z : Int) (hz : z = x * 2 ^ k) : bits .or .u8 z y = z + y := by
  subst hz; exact u8_or_add x y k h0 hy hk hx

set_option maxHeartbeats 2000000 in
theorem put_many (r : Int) (w : World) (h0 : 128 ≤ r) (h1 : Utf.isScalar r = true) : Calls Tryz.prog 82 #[.int .i64 r] w fun e w' => (∃ t : ByteArray, e = .returned (.tuple #[.string t, .bool true]) ∧ StrIs t ((Utf.put r).map bv)) ∧ Below w.heap.size w w' := by
  have h2 : r ≤ 1114111 := by simp [Utf.isScalar] at h1; omega
  have H := hide h1
  clear h1
  go_enter Tryz.func82, Tryz.ntmps82
  by_cases ha : r < 2048
  · have L : Hid (lenOf r = 2) := by show lenOf r = 2; unfold lenOf; rw [if_neg (by omega), if_pos ha]
    have hmk : ∀ w, (Instr.makeSlice 40 (.int .i64 2) (.int .i64 2)).run Tryz.prog w = .ok (.slice (some ⟨w.heap.size, 0, none⟩) 2 2) (w.alloc (.cells #[.int .u8 0, .int .u8 0] 5)) := fun _ => by kernel_rfl
    have hor : bits .or .u8 192 (r / 64 % 256) = 192 + r / 64 := by rw [show r / 64 % 256 = r / 64 from by omega]; exact u8_or_of 6 _ 5 (by omega) (by omega) (by omega) (by omega) _ rfl
    go_wp2_with (first
      | (go_at_call 102; refine (len_yes _ _ H.out).mono ?_; rintro e w1 ⟨rfl, hb⟩; rw [L.out]))
    refine wp_loop_rounds 2 ?_
    rw [rounds_succ]
    go_wp2
    rw [rounds_succ]
    go_wp2_with (with_reducible show wpList _ _ _ (⟨_, .convert 40 9 _, _, _, _, _⟩ :: _) _ _; refine wpList_to_string rfl 40 9 5 _ rfl Tryz.underlying40 Tryz.underlying5 Tryz.underlying9 (w1.heap.size + 1) _ 2 rfl _ (own_bytes2 (w1.alloc _) _ _ _ (by simp) (Nat.le_refl _) (192 + r / 64) (128 + r % 64) (by omega) (by omega)) ?_; intro t ht)
    go_ret2
    exact ⟨⟨t, rfl, by unfold Utf.put; rw [if_neg (show ¬ r < 128 by omega), if_pos (show r < 2048 by omega)]; exact ht⟩, (hb.alloc hb.size _).alloc (by have := hb.size; simp; omega) _⟩
  by_cases h65 : r < 65536
  · have L : Hid (lenOf r = 3) := by show lenOf r = 3; unfold lenOf; rw [if_neg (by omega), if_neg ha, if_pos h65]
    have hmk : ∀ w, (Instr.makeSlice 40 (.int .i64 3) (.int .i64 3)).run Tryz.prog w = .ok (.slice (some ⟨w.heap.size, 0, none⟩) 3 3) (w.alloc (.cells #[.int .u8 0, .int .u8 0, .int .u8 0] 5)) := fun _ => by kernel_rfl
    go_wp2_with (first
      | (go_at_call 102; refine (len_yes _ _ H.out).mono ?_; rintro e w1 ⟨rfl, hb⟩; rw [L.out]))
    refine wp_loop_rounds 3 ?_
    rw [rounds_succ]
    go_wp2
    rw [rounds_succ]
    go_wp2
    rw [rounds_succ]
    go_wp2_with (with_reducible show wpList _ _ _ (⟨_, .convert 40 9 _, _, _, _, _⟩ :: _) _ _; refine wpList_to_string rfl 40 9 5 _ rfl Tryz.underlying40 Tryz.underlying5 Tryz.underlying9 (w1.heap.size + 1) _ 3 rfl _ (own_bytes3 (w1.alloc _) _ _ _ (by simp) (Nat.le_refl _) (224 + r / 64 / 64) (128 + r / 64 % 64) (128 + r % 64) (by omega) (by omega) (by omega)) ?_; intro t ht)
    go_ret2
    exact ⟨⟨t, rfl, by unfold Utf.put; rw [if_neg (show ¬ r < 128 by omega), if_neg (show ¬ r < 2048 by omega), if_pos (show r < 65536 by omega)]; exact ht⟩, (hb.alloc hb.size _).alloc (by have := hb.size; simp; omega) _⟩
  · have L : Hid (lenOf r = 4) := by show lenOf r = 4; unfold lenOf; rw [if_neg (by omega), if_neg ha, if_neg h65]
    have hmk : ∀ w, (Instr.makeSlice 40 (.int .i64 4) (.int .i64 4)).run Tryz.prog w = .ok (.slice (some ⟨w.heap.size, 0, none⟩) 4 4) (w.alloc (.cells #[.int .u8 0, .int .u8 0, .int .u8 0, .int .u8 0] 5)) := fun _ => by kernel_rfl
    go_wp2_with (first
      | (go_at_call 102; refine (len_yes _ _ H.out).mono ?_; rintro e w1 ⟨rfl, hb⟩; rw [L.out]))
    refine wp_loop_rounds 4 ?_
    rw [rounds_succ]
    go_wp2
    rw [rounds_succ]
    go_wp2
    rw [rounds_succ]
    go_wp2
    rw [rounds_succ]
    go_wp2_with (with_reducible show wpList _ _ _ (⟨_, .convert 40 9 _, _, _, _, _⟩ :: _) _ _; refine wpList_to_string rfl 40 9 5 _ rfl Tryz.underlying40 Tryz.underlying5 Tryz.underlying9 (w1.heap.size + 1) _ 4 rfl _ (own_bytes4 (w1.alloc _) _ _ _ (by simp) (Nat.le_refl _) (240 + r / 64 / 64 / 64) (128 + r / 64 / 64 % 64) (128 + r / 64 % 64) (128 + r % 64) (by omega) (by omega) (by omega) (by omega)) ?_; intro t ht)
    go_ret2
    exact ⟨⟨t, rfl, by unfold Utf.put; rw [if_neg (show ¬ r < 128 by omega), if_neg (show ¬ r < 2048 by omega), if_neg (show ¬ r < 65536 by omega)]; exact ht⟩, (hb.alloc hb.size _).alloc (by have := hb.size; simp; omega) _⟩

theorem put_yes (r : Int) (w : World) (h : Utf.isScalar r = true) : Calls Tryz.prog 82 #[.int .i64 r] w fun e w' => (∃ t : ByteArray, e = .returned (.tuple #[.string t, .bool true]) ∧ StrIs t ((Utf.put r).map bv)) ∧ Below w.heap.size w w' := by
  have h2 : 0 ≤ r := by simp [Utf.isScalar] at h; omega
  by_cases h1 : r < 128
  · exact put_one r w h2 h1
  · exact put_many r w (by omega) h

theorem put_short (r : Int) : (Utf.put r).length ≤ 4 := by
  unfold Utf.put
  split
  · simp
  split
  · simp
  split <;> simp
end Go.Proofs.YtlcfakmbcfdgbaaGreat
namespace Go.Proofs.YtlcfakmbcfdgbaaGreat
open Go.RowKit Go.Shelf

attribute [local go_sem] Oper.semAt_some

/-- A piece: where it begins, and a scalar or a number below 0. -/
abbrev Pc := { x : Nat × Int // x.2 < 0 ∨ Utf.isScalar x.2 = true }
theorem piece_pc (s : ByteArray) (k : Nat) : (Utf.piece (s.data.toList.drop k)).1 < 0 ∨ Utf.isScalar (Utf.piece (s.data.toList.drop k)).1 = true := by
  rcases Int.lt_or_le (Utf.piece (s.data.toList.drop k)).1 0 with h | h
  · exact .inl h
  · exact .inr (Utf.piece_scalar _ h)

/-- Block B lies as it lay. -/
def SameBlk (B : Nat) (W W' : World) : Prop := W'.heap[B]? = W.heap[B]?
theorem SameBlk.trans {B : Nat} {X Y Z : World} (h : SameBlk B X Y) (k : SameBlk B Y Z) : SameBlk B X Z := Eq.trans k h
theorem SameBlk.cell {B : Nat} {W W' : World} (h : SameBlk B W W') {i : Nat} {v : Value} (hc : W.cell? ⟨B, i, none⟩ = some v) : W'.cell? ⟨B, i, none⟩ = some v :=
  (World.cell?_of_block (w := W) (w' := W') (a := ⟨B, i, none⟩) h).trans hc
theorem sameBlk_b {w : World} {B : Nat} (hB : B < w.heap.size) (W : World) (l : Nat) (o o' : Obj) (hl : w.heap.size ≤ l) (_ : W.heap[l]? = some o) (_ : o.isCells = false) (_ : o.isWalk = false) : SameBlk B W (W.putObj l o') :=
  World.putObj_heap_other (by omega)

theorem piece_at' (s : ByteArray) (k : Nat) (h : k < s.size) : 1 ≤ (Utf.piece (s.data.toList.drop k)).2 ∧ (Utf.piece (s.data.toList.drop k)).2 ≤ 4 ∧ (Utf.piece (s.data.toList.drop k)).2 ≤ ((s.size - k : Nat) : Int) := by
  have := Utf.piece_len s[k] (s.data.toList.drop (k + 1))
  rw [← drop_at s k h] at this
  simpa using this

theorem from_at (s : ByteArray) (k : Nat) (h : k < s.size) :
    Utf.from_ k (s.data.toList.drop k) = (k, (Utf.piece (s.data.toList.drop k)).1) :: Utf.from_ (k + (Utf.piece (s.data.toList.drop k)).2.toNat) (s.data.toList.drop (k + (Utf.piece (s.data.toList.drop k)).2.toNat)) := by
  rw [drop_at s k h, Utf.from_cons, ← drop_at s k h, List.drop_drop]

set_option maxRecDepth 100000 in
set_option maxHeartbeats 2000000 in
theorem pieces1_in (n : Nat) (hn : 1 ≤ n) (l Bs : Nat) (s : ByteArray) (hs : s.size ≤ 1000000000)
    (J Jx : List Pc → World → Prop)
    (hY : ∀ pre x W, J pre W → pre.length < s.size → YieldAt Fence.wide (n - 1) Tryz.prog l #[.int .i64 (x.1.1 : Int), .int .i64 x.1.2] W fun e W' =>
      (e = .returned (.bool true) ∧ J (pre ++ [x]) W' ∧ SameBlk Bs W W') ∨ (e = .returned (.bool false) ∧ Jx (pre ++ [x]) W'))
    (W : World) (hBs : W.cell? ⟨Bs, 0, none⟩ = some (.string s)) (h0 : J [] W) :
    CallsIn Fence.wide n Tryz.prog 100 #[.func (.yield l) #[] #[], .pointer (some ⟨Bs, 0, none⟩)] W fun e W' => (∃ v, e = .returned v) ∧
      ((∃ ys : List Pc, ys.map (·.1) = Utf.pieces s.data.toList ∧ J ys W') ∨ (∃ pre : List Pc, (∃ rest, pre.map (·.1) ++ rest = Utf.pieces s.data.toList) ∧ Jx pre W')) := by
  refine callsIn_of_wp Tryz.func100 rfl trivial ?_ rfl
  simp only [Tryz.ntmps100, List.size_toArray, List.length_cons, List.length_nil, Nat.reduceAdd, Nat.reduceSub, Array.replicate_succ, Array.replicate_zero, List.push_toArray, List.append_toArray, List.nil_append, List.cons_append]
  obtain ⟨all, hall⟩ : ∃ all, Utf.pieces s.data.toList = all := ⟨_, rfl⟩
  rw [hall]
  have Hall := hide hall
  clear hall
  gi_wp2
  gi_loopw [3] (fun i wr => ∃ (k : Nat) (pre : List Pc), k ≤ s.size ∧ i = .int .i64 k ∧ pre.length ≤ k ∧ pre.map (·.1) ++ Utf.from_ k (s.data.toList.drop k) = all ∧ J pre wr ∧ SameBlk Bs W wr)
    (fun i _ => s.size - (intOf i).toNat)
  case atStart => exact ⟨0, [], Nat.zero_le _, rfl, Nat.le_refl _, by rw [← Hall.out]; rfl, h0, rfl⟩
  case round =>
    obtain ⟨k, pre, hk, rfl, hpl, hpre, hJs, hnx⟩ := hrel
    have Hpre := hide hpre
    clear hpre
    have hcx : wr.cell? ⟨Bs, 0, none⟩ = some (.string s) := hnx.cell hBs
    by_cases hlt : k < s.size
    · have hfr := from_at s k hlt
      have hp := piece_at' s k hlt
      have hpc := piece_pc s k
      have HP := hide (piece_any s k wr (by omega) (by omega) hs)
      rw [Int.toNat_natCast] at HP
      obtain ⟨f, hf⟩ : ∃ f, Utf.piece (s.data.toList.drop k) = f := ⟨_, rfl⟩
      rw [hf] at hp hfr HP hpc
      have Hfr := hide hfr
      clear hf hfr
      obtain ⟨fn, tmps, assign, body, hy, hR⟩ := hY pre ⟨(k, f.1), hpc⟩ wr hJs (by omega)
      dsimp only at hy
      gi_wp2_with (refine ⟨trivial, ?_⟩; gi_at_call 101; refine (callsIn_wide.2 HP.out).mono ?_; rintro e w' ⟨rfl, rfl⟩; unfold pieceV)
      refine hR.mono ?_
      rintro e W3 (⟨rfl, hJ3, hk3⟩ | ⟨rfl, hJx3⟩)
      · gi_wp2
        go_roundw
        case rel => exact ⟨k + f.2.toNat, pre ++ [⟨(k, f.1), hpc⟩], by omega, int_eq (by omega), by simp; omega, by rw [← Hpre.out, Hfr.out]; simp, hJ3, hnx.trans hk3⟩
        case measure => simp [intOf]; omega
      · gi_wp2
        refine bodyPost_ret (results_none rfl _ _ _) rfl ?_
        exact ⟨⟨_, rfl⟩, .inr ⟨_, ⟨_, by rw [← Hpre.out, Hfr.out, List.map_append, List.append_assoc]; rfl⟩, hJx3⟩⟩
    · gi_wp2
      go_end0
      exact ⟨⟨_, rfl⟩, .inl ⟨pre, by rw [← Hpre.out, List.drop_of_length_le (by simp; omega)]; simp [Utf.from_nil], hJs⟩⟩

theorem pieces_any (s : ByteArray) (w : World) :
    Calls Tryz.prog 81 #[.string s] w fun e w' => e = .returned (.func (.func 100) #[] #[.pointer (some ⟨w.heap.size, 0, none⟩)]) ∧ w' = w.alloc (.cells #[.string s] 9) := by
  go_enter Tryz.func81, Tryz.ntmps81
  go_wp2
  go_ret
  exact ⟨rfl, rfl⟩

/-- 'pieces(s)' hands back a value that goes over all pieces of s, or the first ones. -/
theorem pieces_stops (n : Nat) (hn : 1 ≤ n) (Bs : Nat) (s : ByteArray) (hs : s.size ≤ 1000000000) (w : World) (hBs : Bs < w.heap.size) (hc : w.cell? ⟨Bs, 0, none⟩ = some (.string s)) :
    SeqStopsK Fence.wide n Tryz.prog 100 #[.pointer (some ⟨Bs, 0, none⟩)] (fun x : Pc => #[Value.int .i64 (x.1.1 : Int), Value.int .i64 x.1.2]) (SameBlk Bs) (fun ys => ys.map (·.1) = Utf.pieces s.data.toList)
      (fun pre => ∃ rest, pre.map (·.1) ++ rest = Utf.pieces s.data.toList) s.size w := fun l J Jx W hW _ _ hY h0 =>
  pieces1_in n hn l Bs s hs J Jx hY W ((hW.cell (p := ⟨Bs, 0, none⟩) hBs).trans hc) h0
end Go.Proofs.YtlcfakmbcfdgbaaGreat
namespace Go.Proofs.YtlcfakmbcfdgbaaGreat
open Go.RowKit Go.Shelf Tk

attribute [local go_sem] Oper.semAt_some

def nextV (f : Int × Int) : Value := if f.1 < 0 then .tuple #[.int .i64 0, .int .i64 0, .bool false] else .tuple #[.int .i64 f.1, .int .i64 f.2, .bool true]
theorem pnext_any (s : ByteArray) (k : Nat) (w : World) (h1 : k < s.size) (hs : s.size ≤ 1000000000) :
    Calls Tryz.prog 84 #[.string s, .int .i64 (k : Int)] w fun e w' => e = .returned (nextV (Utf.piece (s.data.toList.drop k))) ∧ w' = w := by
  have HP := hide (piece_any s k w (by omega) (by omega) hs)
  rw [Int.toNat_natCast] at HP
  have hp := piece_at' s k h1
  generalize Utf.piece (s.data.toList.drop k) = f at *
  unfold nextV
  by_cases hf : f.1 < 0
  · go_enter Tryz.func84, Tryz.ntmps84
    go_wp2_with (go_at_call 101; refine HP.out.mono ?_; rintro e w' ⟨rfl, rfl⟩; unfold pieceV)
    go_ret3
    simp [hf]
  · go_enter Tryz.func84, Tryz.ntmps84
    go_wp2_with (go_at_call 101; refine HP.out.mono ?_; rintro e w' ⟨rfl, rfl⟩; unfold pieceV)
    go_ret3
    simp [hf]
namespace Tk
/-- The pieces up to the first that is no scalar, and it. -/
def upTo : List (Nat × Int) → List (Nat × Int)
  | [] => []
  | p :: l => if p.2 < 0 then [p] else p :: upTo l
end Tk
theorem cont_m1 : ∀ (l : List UInt8) (k : Nat) (r n lo hi : Int), 0 ≤ r → (Utf.cont l k r n lo hi).1 < 0 → (Utf.cont l k r n lo hi).1 = -1 := fun l k r n lo hi hr h => by
  rcases Utf.cont_neg l k r n lo hi hr with h1 | ⟨h1, -⟩ <;> omega
theorem piece_m1 (l : List UInt8) (h : (Utf.piece l).1 < 0) : (Utf.piece l).1 = -1 := by
  cases l with
  | nil => rfl
  | cons c l =>
    rw [Utf.piece_cons] at h ⊢
    split
    · rfl
    · rename_i hc
      rw [if_neg hc] at h
      refine cont_m1 _ _ _ _ _ _ ?_ h
      have := Utf.follow_cases c.toNat (by omega) (by have := Utf.byte_lt c; omega)
      omega

set_option maxRecDepth 100000 in
set_option maxHeartbeats 2000000 in
theorem scalars1_in (n : Nat) (hn : 1 ≤ n) (l Bs : Nat) (s : ByteArray) (hs : s.size ≤ 1000000000)
    (J Jx : List (Nat × Int) → World → Prop)
    (hY : ∀ pre x W, J pre W → pre.length < s.size → YieldAt Fence.wide (n - 1) Tryz.prog l #[.int .i64 (x.1 : Int), .int .i64 x.2] W fun e W' =>
      (e = .returned (.bool true) ∧ J (pre ++ [x]) W' ∧ SameBlk Bs W W') ∨ (e = .returned (.bool false) ∧ Jx (pre ++ [x]) W'))
    (W : World) (hBs : W.cell? ⟨Bs, 0, none⟩ = some (.string s)) (h0 : J [] W) :
    CallsIn Fence.wide n Tryz.prog 83 #[.func (.yield l) #[] #[], .pointer (some ⟨Bs, 0, none⟩)] W fun e W' => (∃ v, e = .returned v) ∧
      ((∃ ys : List (Nat × Int), ys = upTo (Utf.pieces s.data.toList) ∧ J ys W') ∨ (∃ pre : List (Nat × Int), (∃ rest, pre ++ rest = upTo (Utf.pieces s.data.toList)) ∧ Jx pre W')) := by
  refine callsIn_of_wp Tryz.func83 rfl trivial ?_ rfl
  simp only [Tryz.ntmps83, List.size_toArray, List.length_cons, List.length_nil, Nat.reduceAdd, Nat.reduceSub, Array.replicate_succ, Array.replicate_zero, List.push_toArray, List.append_toArray, List.nil_append, List.cons_append]
  obtain ⟨all, hall⟩ : ∃ all, upTo (Utf.pieces s.data.toList) = all := ⟨_, rfl⟩
  rw [hall]
  have Hall := hide hall
  clear hall
  gi_wp2
  gi_loopw [3] (fun i wr => ∃ (k : Nat) (pre : List (Nat × Int)), k ≤ s.size ∧ i = .int .i64 k ∧ pre.length ≤ k ∧ pre ++ upTo (Utf.from_ k (s.data.toList.drop k)) = all ∧ J pre wr ∧ SameBlk Bs W wr)
    (fun i _ => s.size - (intOf i).toNat)
  case atStart => exact ⟨0, [], Nat.zero_le _, rfl, Nat.le_refl _, by rw [← Hall.out]; rfl, h0, rfl⟩
  case round =>
    obtain ⟨k, pre, hk, rfl, hpl, hpre, hJs, hnx⟩ := hrel
    have Hpre := hide hpre
    clear hpre
    have hcx : wr.cell? ⟨Bs, 0, none⟩ = some (.string s) := hnx.cell hBs
    by_cases hlt : k < s.size
    · have hfr := from_at s k hlt
      have hp := piece_at' s k hlt
      have hm1 := piece_m1 (s.data.toList.drop k)
      have HP := hide (pnext_any s k wr hlt hs)
      obtain ⟨f, hf⟩ : ∃ f, Utf.piece (s.data.toList.drop k) = f := ⟨_, rfl⟩
      rw [hf] at hp hfr HP hm1
      have Hfr := hide hfr
      clear hf hfr
      by_cases hneg : f.1 < 0
      · have hv : nextV f = .tuple #[.int .i64 0, .int .i64 0, .bool false] := by unfold nextV; rw [if_pos hneg]
        rw [hv] at HP
        have hf1 := hm1 hneg
        have Hup := hide (show upTo (Utf.from_ k (s.data.toList.drop k)) = [(k, -1)] by rw [Hfr.out]; unfold upTo; rw [if_pos hneg, hf1])
        clear hm1 hv hneg hf1 Hfr hp
        obtain ⟨fn, tmps, assign, body, hy, hR⟩ := hY pre (k, -1) wr hJs (by omega)
        dsimp only at hy
        gi_wp2_with (refine ⟨trivial, ?_⟩; gi_at_call 84; refine (callsIn_wide.2 HP.out).mono ?_; rintro e w' ⟨rfl, rfl⟩)
        refine hR.mono ?_
        rintro e W3 (⟨rfl, hJ3, hk3⟩ | ⟨rfl, hJx3⟩)
        · gi_wp2
          refine bodyPost_ret (results_none rfl _ _ _) rfl ?_
          exact ⟨⟨_, rfl⟩, .inl ⟨_, by rw [← Hpre.out, Hup.out], hJ3⟩⟩
        · gi_wp2
          refine bodyPost_ret (results_none rfl _ _ _) rfl ?_
          exact ⟨⟨_, rfl⟩, .inr ⟨_, ⟨[], by rw [← Hpre.out, Hup.out, List.append_nil]⟩, hJx3⟩⟩
      · have hv : nextV f = .tuple #[.int .i64 f.1, .int .i64 f.2, .bool true] := by unfold nextV; rw [if_neg hneg]
        rw [hv] at HP
        have Hup := hide (show upTo (Utf.from_ k (s.data.toList.drop k)) = (k, f.1) :: upTo (Utf.from_ (k + f.2.toNat) (s.data.toList.drop (k + f.2.toNat))) by rw [Hfr.out]; conv => lhs; unfold upTo; rw [if_neg hneg])
        clear hm1 hv hneg Hfr
        obtain ⟨fn, tmps, assign, body, hy, hR⟩ := hY pre (k, f.1) wr hJs (by omega)
        dsimp only at hy
        gi_wp2_with (refine ⟨trivial, ?_⟩; gi_at_call 84; refine (callsIn_wide.2 HP.out).mono ?_; rintro e w' ⟨rfl, rfl⟩)
        refine hR.mono ?_
        rintro e W3 (⟨rfl, hJ3, hk3⟩ | ⟨rfl, hJx3⟩)
        · gi_wp2
          go_roundw
          case rel => exact ⟨k + f.2.toNat, pre ++ [(k, f.1)], by omega, int_eq (by omega), by simp; omega, by rw [← Hpre.out, Hup.out]; simp, hJ3, hnx.trans hk3⟩
          case measure => simp [intOf]; omega
        · gi_wp2
          refine bodyPost_ret (results_none rfl _ _ _) rfl ?_
          exact ⟨⟨_, rfl⟩, .inr ⟨_, ⟨_, by rw [← Hpre.out, Hup.out, List.append_assoc]; rfl⟩, hJx3⟩⟩
    · gi_wp2
      go_end0
      exact ⟨⟨_, rfl⟩, .inl ⟨pre, by rw [← Hpre.out, List.drop_of_length_le (by simp; omega)]; simp [Utf.from_nil, upTo], hJs⟩⟩

theorem scalars_mk (s : ByteArray) (w : World) :
    Calls Tryz.prog 65 #[.string s] w fun e w' => e = .returned (.func (.func 83) #[] #[.pointer (some ⟨w.heap.size, 0, none⟩)]) ∧ w' = w.alloc (.cells #[.string s] 9) := by
  go_enter Tryz.func65, Tryz.ntmps65
  go_wp2
  go_ret
  exact ⟨rfl, rfl⟩

theorem scalars_stops (n : Nat) (hn : 1 ≤ n) (Bs : Nat) (s : ByteArray) (hs : s.size ≤ 1000000000) (w : World) (hBs : Bs < w.heap.size) (hc : w.cell? ⟨Bs, 0, none⟩ = some (.string s)) :
    SeqStopsK Fence.wide n Tryz.prog 83 #[.pointer (some ⟨Bs, 0, none⟩)] (fun x : Nat × Int => #[Value.int .i64 (x.1 : Int), Value.int .i64 x.2]) (SameBlk Bs) (fun ys => ys = upTo (Utf.pieces s.data.toList))
      (fun pre => ∃ rest, pre ++ rest = upTo (Utf.pieces s.data.toList)) s.size w := fun l J Jx W hW _ _ hY h0 =>
  scalars1_in n hn l Bs s hs J Jx hY W ((hW.cell (p := ⟨Bs, 0, none⟩) hBs).trans hc) h0
end Go.Proofs.YtlcfakmbcfdgbaaGreat
namespace Go.Proofs.YtlcfakmbcfdgbaaGreat
open Go.RowKit Tk

/-- Ranges as cells. -/
def rngs (l : List (Int × Int)) : List Value := l.flatMap fun p => [.int .i64 p.1, .int .i64 p.2]
theorem rngs_length (l : List (Int × Int)) : (rngs l).length = l.length * 2 := by
  induction l with
  | nil => rfl
  | cons p l ih => unfold rngs at ih ⊢; rw [List.flatMap_cons, List.length_append, ih]; simp; omega
theorem rngs_at : ∀ (l : List (Int × Int)) (k : Nat) (h : k < l.length), (rngs l)[k * 2]? = some (.int .i64 l[k].1) ∧ (rngs l)[k * 2 + 1]? = some (.int .i64 l[k].2)
  | p :: l, 0, _ => ⟨rfl, rfl⟩
  | p :: l, k + 1, h => by
    have ih := rngs_at l k (by simpa using h)
    have e : rngs (p :: l) = .int .i64 p.1 :: .int .i64 p.2 :: rngs l := rfl
    rw [e, show (k + 1) * 2 = k * 2 + 2 by omega]
    simpa using ih
theorem blk_reads {w : World} {g t n s : Nat} {xs : List Value} (h : Blk w g t xs.toArray) (hl : xs.length = n * s) : Reads w w.heap.size s (some ⟨g, 0, none⟩) n xs :=
  ⟨hl, fun _ => ⟨g, 0, rfl, h.lt, fun j u hj => by rw [Nat.zero_add, h.cell j]; simpa using hj⟩⟩
def inOf (l : List (Int × Int)) (r : Int) : Bool := l.any fun p => within r p.1 p.2

set_option maxHeartbeats 4000000 in
theorem within_any (r : Int) (A : Option Addr) (c : Nat) (l : List (Int × Int)) (w : World) (hA : Reads w w.heap.size 2 A l.length (rngs l)) (hl : l.length ≤ 1000) :
    Calls Tryz.prog 85 #[.int .i64 r, .slice A l.length c] w fun e w' => e = .returned (.bool (inOf l r)) ∧ Below w.heap.size w w' := by
  obtain ⟨n, hn⟩ : ∃ n, l.length = n := ⟨_, rfl⟩
  have HA := hide hA
  rw [hn] at ⊢ hl
  have Hn := hide hn
  clear hn hA
  go_enter Tryz.func85, Tryz.ntmps85
  go_wp2
  go_loopg [9] n (fun g v wr => ∃ k : Nat, g = n - k ∧ k ≤ n ∧ v = .int .i64 k ∧ inOf l r = inOf (l.drop k) r ∧ Below w.heap.size w wr)
  case atStart => exact ⟨0, rfl, by omega, rfl, rfl, Below.refl _ _⟩
  case round =>
    obtain ⟨k, hg, hk, rfl, hin, hb⟩ := hrel
    have Hg := hide hg
    have Hin := hide hin
    have Hb := hide hb
    clear hg hin hb
    by_cases hlt : k < n
    · have h1 : k < l.length := by rw [Hn.out]; exact hlt
      obtain ⟨b, off, rfl, hbl, hc⟩ := (HA.out.below Hb.out).2 (by omega)
      obtain ⟨p, hp⟩ : ∃ p, l[k] = p := ⟨_, rfl⟩
      have c0 := hc _ _ (rngs_at l k h1).1
      have c1 := hc _ _ (rngs_at l k h1).2
      rw [← Nat.add_assoc] at c1
      rw [hp] at c0 c1
      have Hd := hide (show l.drop k = p :: l.drop (k + 1) by rw [← hp]; exact List.drop_eq_getElem_cons h1)
      clear hc hp
      obtain ⟨p1, p2⟩ := p
      dsimp only at c0 c1
      by_cases ha : p1 ≤ r
      · by_cases hb2 : r ≤ p2
        · go_wp2
          go_ret
          refine ⟨ret_eq1 (bool_eq ?_), ?_⟩
          · rw [Hin.out, Hd.out]
            simp [inOf, within, ha, hb2]
          · exact Hb.out.alloc Hb.out.size _
        · go_wp2
          go_roundg (n - (k + 1))
          case measure => have := Hg.out; omega
          case rel => exact ⟨k + 1, rfl, by omega, by go_num, by rw [Hin.out, Hd.out]; show (within r p1 p2 || inOf _ r) = _; rw [show within r p1 p2 = false by unfold within; rw [decide_eq_false (Int.not_le.2 hb2), Bool.and_false], Bool.false_or], Hb.out.alloc Hb.out.size _⟩
      · go_wp2
        go_roundg (n - (k + 1))
        case measure => have := Hg.out; omega
        case rel => exact ⟨k + 1, rfl, by omega, by go_num, by rw [Hin.out, Hd.out]; show (within r p1 p2 || inOf _ r) = _; rw [show within r p1 p2 = false by unfold within; rw [decide_eq_false (Int.not_le.2 ha), Bool.false_and], Bool.false_or], Hb.out.alloc Hb.out.size _⟩
    · go_wp2
      go_ret
      refine ⟨ret_eq1 (bool_eq ?_), Hb.out⟩
      rw [Hin.out, List.drop_of_length_le (by rw [Hn.out]; omega)]
      rfl
def charRs : List (Int × Int) := [(9, 10), (13, 13), (32, 55295), (57344, 65533), (65536, 1114111)]
theorem char_in (r : Int) : inOf charRs r = charOk r := by
  unfold inOf charRs charOk
  simp only [List.any_cons, List.any_nil, Bool.or_false, Bool.or_assoc]
theorem within_new (r : Int) (l : List (Int × Int)) (hl : l.length ≤ 1000) (w W : World) (g : Nat) (hw : W = w.alloc (.cells (rngs l).toArray 107)) (hg : g = w.heap.size) :
    Calls Tryz.prog 85 #[.int .i64 r, .slice (some ⟨g, 0, none⟩) l.length l.length] W fun e w' => e = .returned (.bool (inOf l r)) ∧ Below w.heap.size w w' := by
  subst hw hg
  have hk := Blk.new w 107 (rngs l).toArray
  refine (within_any r _ _ l _ (blk_reads hk (rngs_length l)) hl).mono ?_
  rintro e w' ⟨rfl, hb⟩
  exact ⟨rfl, (below_alloc w _).trans (hb.mono (by simp))⟩
theorem char_any (r : Int) (w : World) : Calls Tryz.prog 66 #[.int .i64 r] w fun e w' => e = .returned (.bool (charOk r)) ∧ Below w.heap.size w w' := by
  have HW := hide (show Calls Tryz.prog 85 #[.int .i64 r, .slice (some ⟨w.heap.size, 0, none⟩) 5 5] (w.alloc (.cells #[.int .i64 9, .int .i64 10, .int .i64 13, .int .i64 13, .int .i64 32, .int .i64 55295, .int .i64 57344, .int .i64 65533, .int .i64 65536, .int .i64 1114111] 107)) fun e w' => e = .returned (.bool (charOk r)) ∧ Below w.heap.size w w' from by
    rw [← char_in]
    exact within_new r charRs (by decide) w _ _ rfl rfl)
  generalize charOk r = b at *
  go_enter Tryz.func66, Tryz.ntmps66
  go_wp2_with (go_at_call 85; refine HW.out.mono ?_; rintro e w' ⟨rfl, hb⟩)
  go_ret
  exact ⟨rfl, by assumption⟩
end Go.Proofs.YtlcfakmbcfdgbaaGreat
namespace Go.Proofs.YtlcfakmbcfdgbaaGreat
open Go.RowKit

theorem own_form {w : World} {base e size n : Nat} {v : Value} {xs : List Value} (h : w.ownsRow base e size v n xs) : ∃ A c, v = .slice A n c := by
  rcases h.2 with ⟨rfl, rfl⟩ | ⟨g, cap, cur, rfl, _⟩
  · exact ⟨_, _, rfl⟩
  · exact ⟨_, _, rfl⟩

theorem strCells_is {t : ByteArray} {l : List UInt8} (h : StrIs t l) : Lib.strCells t = byteVs l := by
  unfold StrIs at h
  rw [← h]; rfl

theorem run_append_str {P : Program} (w : World) (base : Nat) (t u ty e : TypeId) (ht : P.underlying t = some (.slice e)) (hu : P.underlying u = some .string)
    (hinfo : (P.info? e).map (fun i => (i.zero, i.size, i.bytes)) = some (some (.int .u8 0), 1, 1))
    (v : Value) (n : Nat) (l : List UInt8) (hown : w.ownsRow base e 1 v n (byteVs l)) (s : ByteArray) (m : List UInt8) (hm : StrIs s m)
    (hbytes : n + m.length ≤ 140737488355328) (hbase : base ≤ w.heap.size) :
    ∃ A c w', (Builtin.append_ #[t, u] ty #[v, .string s]).run P w = .ok (.slice A (n + m.length) c) w' ∧ w'.ownsRow base e 1 (.slice A (n + m.length) c) (n + m.length) (byteVs (l ++ m)) ∧ w.grownBy w' v.ownBlock := by
  obtain ⟨i, hi, hz, hsize, hby⟩ := info_parts hinfo
  have hsz := hm.size
  obtain ⟨v', w', hr, h2, h3, _⟩ := Lib.run_append_own_string (P := P) w base t u ty e i ht hu hi hz hsize hby v n (byteVs l) hown s (by unfold maxLen; omega) (by omega) hbase
  rw [strCells_is hm, hsz, ← byteVs_append] at h2
  obtain ⟨A, c, rfl⟩ := own_form h2
  exact ⟨A, c, w', hr, h2, h3⟩

theorem wpList_append_str {P : Program} (w : World) {ops : Array Oper} {rest : List Oper} {o : Oper} {a : Act} {Q : Exit → Act → World → Prop} (hgd : o.guard = none) (sl x : Operand) (t u : TypeId)
    (ho : o.op = .call { callee := .builtin .append, args := #[sl, x], argTypes := #[t, u] })
    (base : Nat) (e : TypeId) (ht : P.underlying t = some (.slice e)) (hu : P.underlying u = some .string) (hinfo : (P.info? e).map (fun i => (i.zero, i.size, i.bytes)) = some (some (.int .u8 0), 1, 1))
    (v : Value) (n : Nat) (l : List UInt8) (hs : a.eval sl = v) (hown : w.ownsRow base e 1 v n (byteVs l)) (s : ByteArray) (m : List UInt8) (hm : StrIs s m) (hx : a.eval x = .string s)
    (hbytes : n + m.length ≤ 140737488355328) (hbase : base ≤ w.heap.size)
    (h : ∀ A c w', w'.ownsRow base e 1 (.slice A (n + m.length) c) (n + m.length) (byteVs (l ++ m)) → w.grownBy w' v.ownBlock → wpList P ops Q rest (a.put o.dst (.slice A (n + m.length) c)) w') : wpList P ops Q (o :: rest) a w := by
  refine wpList_plain hgd fun K hK => ?_
  obtain ⟨A, c, w', hr, h2, h3⟩ := run_append_str (P := P) w base t u o.type e ht hu hinfo v n l hown s m hm hbytes hbase
  unfold Oper.wp execOp
  simp only [ho, resolve, invoke, builtin, Sem.run_bind, Sem.run_pure, Result.andThen_ok, List.map_toArray, List.map_cons, List.map_nil, hs, hx, hr]
  exact hK _ _ (h A c w' h2 h3)

theorem wpListIn_append_str {F : Fence} {N : Nat} {P : Program} (w : World) {ops : Array Oper} {rest : List Oper} {o : Oper} {a : Act} {Q : Exit → Act → World → Prop} (hgd : o.guard = none) (sl x : Operand) (t u : TypeId)
    (ho : o.op = .call { callee := .builtin .append, args := #[sl, x], argTypes := #[t, u] })
    (base : Nat) (e : TypeId) (ht : P.underlying t = some (.slice e)) (hu : P.underlying u = some .string) (hinfo : (P.info? e).map (fun i => (i.zero, i.size, i.bytes)) = some (some (.int .u8 0), 1, 1))
    (v : Value) (n : Nat) (l : List UInt8) (hs : a.eval sl = v) (hown : w.ownsRow base e 1 v n (byteVs l)) (s : ByteArray) (m : List UInt8) (hm : StrIs s m) (hx : a.eval x = .string s)
    (hbytes : n + m.length ≤ 140737488355328) (hbase : base ≤ w.heap.size)
    (h : ∀ A c w', w'.ownsRow base e 1 (.slice A (n + m.length) c) (n + m.length) (byteVs (l ++ m)) → w.grownBy w' v.ownBlock → wpListIn F N P ops Q rest (a.put o.dst (.slice A (n + m.length) c)) w') : wpListIn F N P ops Q (o :: rest) a w := by
  refine wpListIn_plain hgd fun K hK => ?_
  obtain ⟨A, c, w', hr, h2, h3⟩ := run_append_str (P := P) w base t u o.type e ht hu hinfo v n l hown s m hm hbytes hbase
  unfold Oper.wpIn
  refine ⟨?_, ?_⟩
  · simp [Oper.about, ho, resolve, Target.leads, Sem.run_pure]
  · rw [Oper.semAt_plain F _ _ (by rw [ho]; intro c hc'; cases hc')]
    simp [execOp, ho, resolve, invoke, builtin, hs, hx, hr, Result.andThen]
    exact hK _ _ (h A c w' h2 h3)

end Go.Proofs.YtlcfakmbcfdgbaaGreat
