/- Tokens in plain data: the piece that stands at a byte of a text, a text's tokens; no program in sight. · Characters: the program's 'Next'; the iterator over a text's scalars. · The walks over the UTF-8 layer: what stands at a byte, by the document. · The walks over the UTF-8 layer: what stands at a byte, by the document, joined. · The document's 'Scalars', 'Valid': whether a text is right. -/
import Derived.Test.YtaickkaoglohgaaBv00
import Derived.Test.YtaickkaoglohgaaBv01
import Derived.Lib.Index
set_option linter.unusedSimpArgs false
set_option linter.unusedVariables false
namespace Go.Proofs.Ytaickkaoglohgaa
open Go
namespace Tk
abbrev L := List UInt8
/-- White space. -/
def sp (c : UInt8) : Bool := c == 32 || c == 9 || c == 10 || c == 13
def nsp (l : L) : Nat := (l.takeWhile sp).length
def within (r a b : Int) : Bool := decide (a ≤ r) && decide (r ≤ b)
def charOk (r : Int) : Bool := within r 9 10 || within r 13 13 || within r 32 55295 || within r 57344 65533 || within r 65536 1114111
def firstOk (r : Int) : Bool :=
  within r 97 122 || within r 65 90 || within r 95 95 || within r 192 214 || within r 216 246 || within r 248 767 || within r 880 893 || within r 895 8191 || within r 8204 8205 || within r 8304 8591 ||
    within r 11264 12271 || within r 12289 55295 || within r 63744 64975 || within r 65008 65533 || within r 65536 983039
def furtherOk (r : Int) : Bool := firstOk r || (within r 45 46 || within r 48 57 || within r 183 183 || within r 768 879 || within r 8255 8256)
/-- May a scalar stand there in a name? -/
def nameOk (at_ : Nat) (r : Int) : Bool := if at_ = 0 then firstOk r else furtherOk r || decide (r = 58)
/-- Where the first piece stands that is not as asked. -/
def stop (ok : Nat → Int → Bool) (l : L) : Option Nat := ((Utf.pieces l).find? fun p => !ok p.1 p.2).map (·.1)
/-- How many bytes a name at the front has. -/
def take (l : L) : Nat := (stop nameOk l).getD l.length
/-- Of Chars alone. -/
def fine (l : L) : Bool := (Utf.pieces l).all fun p => charOk p.2
def bad (l : L) : Int := match stop (fun _ r => charOk r) l with
  | some k => k
  | none => -1
def till (p l : L) : Option Nat := if Lib.index l p < 0 then none else some (Lib.index l p).toNat
/-- A quoted value, and how many bytes were read. -/
def quoted : L → Option (L × Nat)
  | [] => none
  | q :: r => if q = 34 ∨ q = 39 then (till [q] r).map fun k => (r.take k, k + 2) else none
/-- =, and a quoted value. -/
def eqv (l : L) : Option (L × Nat) :=
  match l.drop (nsp l) with
  | [] => none
  | c :: r => if c = 61 then (quoted (r.drop (nsp r))).map fun x => (x.1, nsp l + 1 + nsp r + x.2) else none
/-- A part of the declaration. -/
def part (name l : L) : Option (L × Nat) :=
  if nsp l = 0 then none else if name.isPrefixOf (l.drop (nsp l)) then (eqv (l.drop (nsp l + name.length))).map fun x => (x.1, nsp l + name.length + x.2) else none
def digit (c : UInt8) : Bool := decide (48 ≤ c) && decide (c ≤ 57)
def letter (c : UInt8) : Bool := (decide (65 ≤ c) && decide (c ≤ 90)) || (decide (97 ≤ c) && decide (c ≤ 122))
def sVersion : L := [118, 101, 114, 115, 105, 111, 110]
def sEncoding : L := [101, 110, 99, 111, 100, 105, 110, 103]
def sAlone : L := [115, 116, 97, 110, 100, 97, 108, 111, 110, 101]
def version (v : L) : Bool := [49, 46].isPrefixOf v && !(v.drop 2).isEmpty && (v.drop 2).all digit
def encTail (c : UInt8) : Bool := letter c || digit c || c == 46 || c == 95 || c == 45
def encoding : L → Bool
  | [] => false
  | c :: r => letter c && r.all encTail
def alone (v : L) : Bool := decide (v = [121, 101, 115]) || decide (v = [110, 111])
/-- A part that may be left out: how many bytes were read. -/
def opt (name : L) (may : L → Bool) (l : L) : Option Nat :=
  match part name l with
  | none => some 0
  | some x => if may x.1 then some x.2 else none
/-- The declaration behind its five bytes. -/
def decl (l : L) : Option Nat :=
  (part sVersion l).bind fun x => if version x.1 then
    (opt sEncoding encoding (l.drop x.2)).bind fun a => (opt sAlone alone (l.drop (x.2 + a))).bind fun b =>
      if [63, 62].isPrefixOf ((l.drop (x.2 + a + b)).drop (nsp (l.drop (x.2 + a + b)))) then some (x.2 + a + b + nsp (l.drop (x.2 + a + b)) + 2) else none
  else none
def lower (c : UInt8) : UInt8 := if 65 ≤ c ∧ c ≤ 90 then c + 32 else c
def xml (n : L) : Bool := decide (n.map lower = [120, 109, 108])
/-- An instruction behind its <?. -/
def instr (l : L) : Option Nat :=
  if take l = 0 ∨ xml (l.take (take l)) = true then none
  else if [63, 62].isPrefixOf (l.drop (take l)) then some (take l + 2)
  else (till [63, 62] (l.drop (take l))).bind fun k => if ((l.drop (take l)).head?.map sp).getD false then some (take l + k + 2) else none
/-- A comment behind its <!--. -/
def comment (l : L) : Option Nat := (till [45, 45] l).bind fun k => if [62].isPrefixOf (l.drop (k + 2)) then some (k + 3) else none

structure At where
  name : L
  value : L
  at_ : Nat
  deriving DecidableEq
structure Tok where
  kind : Int
  name : L
  attrs : List At
  empty : Bool
  text : L
  at_ : Nat
  end_ : Nat
  deriving DecidableEq
/-- The attributes and the end of a start, so many rounds at most; 'off': where the bytes stand. -/
def attrs : Nat → Nat → L → Option (List At × Bool × Nat)
  | 0, _, _ => none
  | k + 1, off, l =>
    if [47, 62].isPrefixOf (l.drop (nsp l)) then some ([], true, off + nsp l + 2)
    else if [62].isPrefixOf (l.drop (nsp l)) then some ([], false, off + nsp l + 1)
    else if nsp l = 0 then none
    else
      let r := l.drop (nsp l)
      let m := take r
      if m = 0 then none
      else (eqv (r.drop m)).bind fun x => if (60 : UInt8) ∈ x.1 then none
        else (attrs k (off + nsp l + m + x.2) (r.drop (m + x.2))).map fun y => (⟨r.take m, x.1, off + nsp l⟩ :: y.1, y.2)
def sComment : L := [60, 33, 45, 45]
def sData : L := [60, 33, 91, 67, 68, 65, 84, 65, 91]
def sXml : L := [60, 63, 120, 109, 108]
def noTok : Tok := ⟨0, [], [], false, [], 0, 0⟩
/-- The piece that stands at byte 'at_' of a text (the bytes from there on), its Chars not looked at. -/
def start (at_ : Nat) (l : L) : Option Tok :=
  if take l.tail = 0 then none
  else (attrs l.length (at_ + 1 + take l.tail) (l.drop (1 + take l.tail))).map fun x => ⟨0, l.tail.take (take l.tail), x.1, x.2.1, [], at_, x.2.2⟩
def end_ (at_ : Nat) (l : L) : Option Tok :=
  let r := l.drop 2
  if take r = 0 then none
  else if [62].isPrefixOf ((r.drop (take r)).drop (nsp (r.drop (take r)))) then some ⟨1, r.take (take r), [], false, [], at_, at_ + 2 + take r + nsp (r.drop (take r)) + 1⟩ else none
def text (at_ : Nat) (l : L) : Option Tok :=
  let n := (till [60] l).getD l.length
  if Lib.index (l.take n) [93, 93, 62] < 0 then some ⟨2, [], [], false, l.take n, at_, at_ + n⟩ else none
def skip (at_ : Nat) (l : L) : Option Tok :=
  if sComment.isPrefixOf l then (comment (l.drop 4)).map fun n => ⟨4, [], [], false, [], at_, at_ + 4 + n⟩
  else if sData.isPrefixOf l then (till [93, 93, 62] (l.drop 9)).map fun k => ⟨3, [], [], false, (l.drop 9).take k, at_, at_ + 9 + k + 3⟩
  else if at_ = 0 ∧ sXml.isPrefixOf l = true ∧ ((l.drop 5).head?.map sp).getD false = true then (decl (l.drop 5)).map fun n => ⟨4, [], [], false, [], at_, at_ + 5 + n⟩
  else if [60, 63].isPrefixOf l then (instr (l.drop 2)).map fun n => ⟨4, [], [], false, [], at_, at_ + 2 + n⟩
  else none
def piece (at_ : Nat) (l : L) : Option Tok :=
  if [60, 47].isPrefixOf l then end_ at_ l
  else if [60, 33].isPrefixOf l || [60, 63].isPrefixOf l then skip at_ l
  else if [60].isPrefixOf l then start at_ l
  else text at_ l
/-- The token that stands at byte 'at_'. -/
def one (at_ : Nat) (l : L) : Option Tok := (piece at_ l).bind fun t => if fine (l.take (t.end_ - at_)) then some t else none
/-- The tokens from byte 'at_' on, so many at most. -/
def toks : Nat → Nat → L → List Tok
  | 0, _, _ => []
  | k + 1, at_, l => if l.isEmpty then [] else match one at_ l with
    | none => []
    | some t => t :: toks k t.end_ (l.drop (t.end_ - at_))
end Tk
end Go.Proofs.Ytaickkaoglohgaa
namespace Go.Proofs.Ytaickkaoglohgaa
open Go.RowKit Go.Shelf Tk

attribute [local go_sem] Oper.semAt_some

def nextV (f : Int × Int) : Value := if f.1 < 0 then .tuple #[.int .i64 0, .int .i64 0, .bool false] else .tuple #[.int .i64 f.1, .int .i64 f.2, .bool true]
theorem pnext_any (s : ByteArray) (k : Nat) (w : World) (h1 : k < s.size) (hs : s.size ≤ 1000000000) :
    Calls Try.prog 22 #[.string s, .int .i64 (k : Int)] w fun e w' => e = .returned (nextV (Utf.piece (s.data.toList.drop k))) ∧ w' = w := by
  have HP := hide (piece_any s k w (by omega) (by omega) hs)
  rw [Int.toNat_natCast] at HP
  have hp := piece_at' s k h1
  generalize Utf.piece (s.data.toList.drop k) = f at *
  unfold nextV
  by_cases hf : f.1 < 0
  · go_enter Try.func22, Try.ntmps22
    go_wp2_with (go_at_call 45; refine HP.out.mono ?_; rintro e w' ⟨rfl, rfl⟩; unfold pieceV)
    go_ret3
    simp [hf]
  · go_enter Try.func22, Try.ntmps22
    go_wp2_with (go_at_call 45; refine HP.out.mono ?_; rintro e w' ⟨rfl, rfl⟩; unfold pieceV)
    go_ret3
    simp [hf]
namespace Tk
/-- The pieces up to the first that is no scalar, and it. -/
def upTo : List (Nat × Int) → List (Nat × Int)
  | [] => []
  | p :: l => if p.2 < 0 then [p] else p :: upTo l
end Tk
theorem cont_m1 : ∀ (l : List UInt8) (k : Nat) (r n lo hi : Int), 0 ≤ r → (Utf.cont l k r n lo hi).1 < 0 → (Utf.cont l k r n lo hi).1 = -1 := fun l k r n lo hi hr h => by
  rcases Utf.cont_neg l k r n lo hi hr with h1 | ⟨h1, -⟩ <;> omega
theorem piece_m1 (l : List UInt8) (h : (Utf.piece l).1 < 0) : (Utf.piece l).1 = -1 := by
  cases l with
  | nil => rfl
  | cons c l =>
    rw [Utf.piece_cons] at h ⊢
    split
    · rfl
    · rename_i hc
      rw [if_neg hc] at h
      refine cont_m1 _ _ _ _ _ _ ?_ h
      have := Utf.follow_cases c.toNat (by omega) (by have := Utf.byte_lt c; omega)
      omega

set_option maxRecDepth 100000 in
set_option maxHeartbeats 2000000 in
theorem scalars1_in (n : Nat) (hn : 1 ≤ n) (l Bs : Nat) (s : ByteArray) (hs : s.size ≤ 1000000000)
    (J Jx : List (Nat × Int) → World → Prop)
    (hY : ∀ pre x W, J pre W → pre.length < s.size → YieldAt Fence.wide (n - 1) Try.prog l #[.int .i64 (x.1 : Int), .int .i64 x.2] W fun e W' =>
      (e = .returned (.bool true) ∧ J (pre ++ [x]) W' ∧ SameBlk Bs W W') ∨ (e = .returned (.bool false) ∧ Jx (pre ++ [x]) W'))
    (W : World) (hBs : W.cell? ⟨Bs, 0, none⟩ = some (.string s)) (h0 : J [] W) :
    CallsIn Fence.wide n Try.prog 63 #[.func (.yield l) #[] #[], .pointer (some ⟨Bs, 0, none⟩)] W fun e W' => (∃ v, e = .returned v) ∧
      ((∃ ys : List (Nat × Int), ys = upTo (Utf.pieces s.data.toList) ∧ J ys W') ∨ (∃ pre : List (Nat × Int), (∃ rest, pre ++ rest = upTo (Utf.pieces s.data.toList)) ∧ Jx pre W')) := by
  refine callsIn_of_wp Try.func63 rfl trivial ?_ rfl
  simp only [Try.ntmps63, List.size_toArray, List.length_cons, List.length_nil, Nat.reduceAdd, Nat.reduceSub, Array.replicate_succ, Array.replicate_zero, List.push_toArray, List.append_toArray, List.nil_append, List.cons_append]
  obtain ⟨all, hall⟩ : ∃ all, upTo (Utf.pieces s.data.toList) = all := ⟨_, rfl⟩
  rw [hall]
  have Hall := hide hall
  clear hall
  gi_wp2
  gi_loopw [3] (fun i wr => ∃ (k : Nat) (pre : List (Nat × Int)), k ≤ s.size ∧ i = .int .i64 k ∧ pre.length ≤ k ∧ pre ++ upTo (Utf.from_ k (s.data.toList.drop k)) = all ∧ J pre wr ∧ SameBlk Bs W wr)
    (fun i _ => s.size - (intOf i).toNat)
  case atStart => exact ⟨0, [], Nat.zero_le _, rfl, Nat.le_refl _, by rw [← Hall.out]; rfl, h0, rfl⟩
  case round =>
    obtain ⟨k, pre, hk, rfl, hpl, hpre, hJs, hnx⟩ := hrel
    have Hpre := hide hpre
    clear hpre
    have hcx : wr.cell? ⟨Bs, 0, none⟩ = some (.string s) := hnx.cell hBs
    by_cases hlt : k < s.size
    · have hfr := from_at s k hlt
      have hp := piece_at' s k hlt
      have hm1 := piece_m1 (s.data.toList.drop k)
      have HP := hide (pnext_any s k wr hlt hs)
      obtain ⟨f, hf⟩ : ∃ f, Utf.piece (s.data.toList.drop k) = f := ⟨_, rfl⟩
      rw [hf] at hp hfr HP hm1
      have Hfr := hide hfr
      clear hf hfr
      by_cases hneg : f.1 < 0
      · have hv : nextV f = .tuple #[.int .i64 0, .int .i64 0, .bool false] := by unfold nextV; rw [if_pos hneg]
        rw [hv] at HP
        have hf1 := hm1 hneg
        have Hup := hide (show upTo (Utf.from_ k (s.data.toList.drop k)) = [(k, -1)] by rw [Hfr.out]; unfold upTo; rw [if_pos hneg, hf1])
        clear hm1 hv hneg hf1 Hfr hp
        obtain ⟨fn, tmps, assign, body, hy, hR⟩ := hY pre (k, -1) wr hJs (by omega)
        dsimp only at hy
        gi_wp2_with (refine ⟨trivial, ?_⟩; gi_at_call 22; refine (callsIn_wide.2 HP.out).mono ?_; rintro e w' ⟨rfl, rfl⟩)
        refine hR.mono ?_
        rintro e W3 (⟨rfl, hJ3, hk3⟩ | ⟨rfl, hJx3⟩)
        · gi_wp2
          refine bodyPost_ret (results_none rfl _ _ _) rfl ?_
          exact ⟨⟨_, rfl⟩, .inl ⟨_, by rw [← Hpre.out, Hup.out], hJ3⟩⟩
        · gi_wp2
          refine bodyPost_ret (results_none rfl _ _ _) rfl ?_
          exact ⟨⟨_, rfl⟩, .inr ⟨_, ⟨[], by rw [← Hpre.out, Hup.out, List.append_nil]⟩, hJx3⟩⟩
      · have hv : nextV f = .tuple #[.int .i64 f.1, .int .i64 f.2, .bool true] := by unfold nextV; rw [if_neg hneg]
        rw [hv] at HP
        have Hup := hide (show upTo (Utf.from_ k (s.data.toList.drop k)) = (k, f.1) :: upTo (Utf.from_ (k + f.2.toNat) (s.data.toList.drop (k + f.2.toNat))) by rw [Hfr.out]; conv => lhs; unfold upTo; rw [if_neg hneg])
        clear hm1 hv hneg Hfr
        obtain ⟨fn, tmps, assign, body, hy, hR⟩ := hY pre (k, f.1) wr hJs (by omega)
        dsimp only at hy
        gi_wp2_with (refine ⟨trivial, ?_⟩; gi_at_call 22; refine (callsIn_wide.2 HP.out).mono ?_; rintro e w' ⟨rfl, rfl⟩)
        refine hR.mono ?_
        rintro e W3 (⟨rfl, hJ3, hk3⟩ | ⟨rfl, hJx3⟩)
        · gi_wp2
          go_roundw
          case rel => exact ⟨k + f.2.toNat, pre ++ [(k, f.1)], by omega, int_eq (by omega), by simp; omega, by rw [← Hpre.out, Hup.out]; simp, hJ3, hnx.trans hk3⟩
          case measure => simp [intOf]; omega
        · gi_wp2
          refine bodyPost_ret (results_none rfl _ _ _) rfl ?_
          exact ⟨⟨_, rfl⟩, .inr ⟨_, ⟨_, by rw [← Hpre.out, Hup.out, List.append_assoc]; rfl⟩, hJx3⟩⟩
    · gi_wp2
      go_end0
      exact ⟨⟨_, rfl⟩, .inl ⟨pre, by rw [← Hpre.out, List.drop_of_length_le (by simp; omega)]; simp [Utf.from_nil, upTo], hJs⟩⟩

theorem scalars_mk (s : ByteArray) (w : World) :
    Calls Try.prog 44 #[.string s] w fun e w' => e = .returned (.func (.func 63) #[] #[.pointer (some ⟨w.heap.size, 0, none⟩)]) ∧ w' = w.alloc (.cells #[.string s] 9) := by
  go_enter Try.func44, Try.ntmps44
  go_wp2
  go_ret
  exact ⟨rfl, rfl⟩

theorem scalars_stops (n : Nat) (hn : 1 ≤ n) (Bs : Nat) (s : ByteArray) (hs : s.size ≤ 1000000000) (w : World) (hBs : Bs < w.heap.size) (hc : w.cell? ⟨Bs, 0, none⟩ = some (.string s)) :
    SeqStopsK Fence.wide n Try.prog 63 #[.pointer (some ⟨Bs, 0, none⟩)] (fun x : Nat × Int => #[Value.int .i64 (x.1 : Int), Value.int .i64 x.2]) (SameBlk Bs) (fun ys => ys = upTo (Utf.pieces s.data.toList))
      (fun pre => ∃ rest, pre ++ rest = upTo (Utf.pieces s.data.toList)) s.size w := fun l J Jx W hW _ _ hY h0 =>
  scalars1_in n hn l Bs s hs J Jx hY W ((hW.cell (p := ⟨Bs, 0, none⟩) hBs).trans hc) h0
end Go.Proofs.Ytaickkaoglohgaa
namespace Go.Proofs.Ytaickkaoglohgaa
open Go.RowKit

def partT (f : Int × Int × Bool) : Value := .tuple #[.int .i64 f.1, .int .i64 f.2.1, .bool f.2.2]
theorem partT_eq {a b : Int} {c : Bool} {f : Int × Int × Bool} (h : (a, b, c) = f) : Ending.returned (.tuple #[.int .i64 a, .int .i64 b, .bool c]) = .returned (partT f) := by
  rw [← h]; rfl

theorem i64_and127 (x : Int) (h0 : 0 ≤ x) (h1 : x < 256) : bits .and .i64 x 127 = x % 128 := i64_mask x 7 h0 (by omega) (by omega) _ rfl
theorem i64_and31 (x : Int) (h0 : 0 ≤ x) (h1 : x < 256) : bits .and .i64 x 31 = x % 32 := i64_mask x 5 h0 (by omega) (by omega) _ rfl
theorem i64_and15 (x : Int) (h0 : 0 ≤ x) (h1 : x < 256) : bits .and .i64 x 15 = x % 16 := i64_mask x 4 h0 (by omega) (by omega) _ rfl
theorem i64_and7 (x : Int) (h0 : 0 ≤ x) (h1 : x < 256) : bits .and .i64 x 7 = x % 8 := i64_mask x 3 h0 (by omega) (by omega) _ rfl

set_option maxHeartbeats 1000000 in
theorem part_wrong (s : ByteArray) (a : Nat) (w : World) (ha : a < s.size) (hs : s.size ≤ 1000000000) (hm : (Utf.follow s[a].toNat).1 < 0) :
    Calls Try.prog 42 #[.string s, .int .i64 a] w fun e w' => e = .returned (partT (0, 1, false)) ∧ w = w' := by
  obtain ⟨c, hc⟩ : ∃ c : Int, ((s[a].toNat : Nat) : Int) = c := ⟨_, rfl⟩
  have hc0 : 0 ≤ c := by omega
  have hc1 : c ≤ 255 := by have := Utf.byte_lt s[a]; omega
  rw [hc] at hm
  have Hc := hide hc
  have Hm : Hid (leadV (Utf.follow c) = (-1, 0, 0)) := by
    show leadV (Utf.follow c) = (-1, 0, 0)
    unfold leadV; rw [if_pos hm]
  clear hc hm
  go_enter Try.func42, Try.ntmps42
  go_wp2_with (go_at_call 62; rw [Hc.out]; refine (lead_any _ _ hc0 hc1).mono ?_; rintro e w' ⟨rfl, rfl⟩; rw [Hm.out]; unfold leadT; dsimp only)
  go_ret3
  exact ⟨rfl, rfl⟩

set_option maxHeartbeats 4000000 in
theorem part_right (s : ByteArray) (a k : Nat) (r lo hi least most : Int) (w : World) (ha : a < s.size) (hs : s.size ≤ 1000000000) (hf : Utf.follow s[a].toNat = ((k : Int), r, lo, hi))
    (hl : leadV (Utf.follow s[a].toNat) = ((k : Int), least, most)) (hll : 0 < k → least = lo ∧ most = hi) :
    Calls Try.prog 42 #[.string s, .int .i64 a] w fun e w' => e = .returned (partT (Utf.part (Utf.cont (s.data.toList.drop (a + 1)) k r 1 lo hi))) ∧ w = w' := by
  obtain ⟨c, hc⟩ : ∃ c : Int, ((s[a].toNat : Nat) : Int) = c := ⟨_, rfl⟩
  have hc0 : 0 ≤ c := by omega
  have hc1 : c ≤ 255 := by have := Utf.byte_lt s[a]; omega
  rw [hc] at hf hl
  have hcs := Utf.follow_cases c hc0 hc1
  have hbs := Utf.follow_bits c
  rw [hf] at hcs hbs
  dsimp only at hcs hbs
  have Hc := hide hc
  have Hl := hide hl
  have hr0 : 0 ≤ r := by omega
  have hr1 : r ≤ 127 := by omega
  have hk3 : k ≤ 3 := by omega
  have Hr : Hid ((k = 0 → c % 128 = r) ∧ (k = 1 → c % 32 = r) ∧ (k = 2 → c % 16 = r) ∧ (k = 3 → c % 8 = r)) := by
    show (k = 0 → c % 128 = r) ∧ (k = 1 → c % 32 = r) ∧ (k = 2 → c % 16 = r) ∧ (k = 3 → c % 8 = r)
    refine ⟨?_, ?_, ?_, ?_⟩ <;> omega
  have Hll := hide hll
  obtain ⟨res, hres⟩ : ∃ res, Utf.part (Utf.cont (s.data.toList.drop (a + 1)) k r 1 lo hi) = res := ⟨_, rfl⟩
  rw [hres]
  have Hres := hide hres
  clear hres hc hl hf hcs hbs hll
  have b0 : bits .and .i64 c 127 = c % 128 := i64_and127 c hc0 (by omega)
  have b1 : bits .and .i64 c 31 = c % 32 := i64_and31 c hc0 (by omega)
  have b2 : bits .and .i64 c 15 = c % 16 := i64_and15 c hc0 (by omega)
  have b3 : bits .and .i64 c 7 = c % 8 := i64_and7 c hc0 (by omega)
  have hk : k = 0 ∨ k = 1 ∨ k = 2 ∨ k = 3 := by omega
  go_enter Try.func42, Try.ntmps42
  rcases hk with rfl | rfl | rfl | rfl
  · go_wp2_with (go_at_call 62; rw [Hc.out]; refine (lead_any _ _ hc0 hc1).mono ?_; rintro e w' ⟨rfl, rfl⟩; rw [Hl.out]; unfold leadT; dsimp only)
    have hrr : bits .and .i64 (wrap64 (s[a].toNat : Int)) (127) = r := by
      rw [Hc.out, IntWalk.wrap64_in c (by omega), b0]
      exact Hr.out.1 (by trivial)
    rw [hrr]
    clear hrr b0 b1 b2 b3
    go_loopg [8, 9, 11, 12] (0 + 1) (fun g vlo vhi vr vn wr => ∃ (j : Nat) (r' lo' hi' : Int), g = 0 + 1 - j ∧ j ≤ 0 ∧ vr = .int .i64 r' ∧ vn = .int .i64 ((j : Int) + 1) ∧ vlo = .int .u8 lo' ∧ vhi = .int .u8 hi' ∧
      Utf.part (Utf.cont (s.data.toList.drop (a + (j + 1))) (0 - j) r' ((j : Int) + 1) (if 0 = 0 then lo else lo') (if 0 = 0 then hi else hi')) = res ∧ 0 ≤ r' ∧ (r' ≤ 127 ∧ j = 0 ∨ r' ≤ 8191 ∧ j = 1 ∨ r' ≤ 524287 ∧ j = 2 ∨ r' ≤ 33554431 ∧ j = 3) ∧ wr = w)
    case atStart =>
      refine ⟨0, r, least, most, rfl, by omega, rfl, rfl, rfl, rfl, ?_, hr0, .inl ⟨hr1, rfl⟩, rfl⟩
      rw [← Hres.out]
      rfl
    case round =>
      obtain ⟨j, r', lo', hi', hg, hj, rfl, rfl, rfl, rfl, hcont, hr0', hr1', rfl⟩ := hrel
      have Hcont := hide hcont
      have Hr1 := hide hr1'
      have Hg := hide hg
      have hr2 : r' ≤ 33554431 := by omega
      clear hcont hr1' hg hr1
      go_wp2
      go_ret3
      exact ⟨partT_eq (by rw [← Hcont.out, show j = 0 from by omega]; unfold Utf.cont; simp [Utf.part, hr0', show ¬ r' < 0 from by omega]), rfl⟩
  · go_wp2_with (go_at_call 62; rw [Hc.out]; refine (lead_any _ _ hc0 hc1).mono ?_; rintro e w' ⟨rfl, rfl⟩; rw [Hl.out]; unfold leadT; dsimp only)
    have hrr : bits .and .i64 (wrap64 (s[a].toNat : Int)) (31) = r := by
      rw [Hc.out, IntWalk.wrap64_in c (by omega), b1]
      exact Hr.out.2.1 (by trivial)
    rw [hrr]
    clear hrr b0 b1 b2 b3
    go_loopg [8, 9, 11, 12] (1 + 1) (fun g vlo vhi vr vn wr => ∃ (j : Nat) (r' lo' hi' : Int), g = 1 + 1 - j ∧ j ≤ 1 ∧ vr = .int .i64 r' ∧ vn = .int .i64 ((j : Int) + 1) ∧ vlo = .int .u8 lo' ∧ vhi = .int .u8 hi' ∧
      Utf.part (Utf.cont (s.data.toList.drop (a + (j + 1))) (1 - j) r' ((j : Int) + 1) (if 1 = 0 then lo else lo') (if 1 = 0 then hi else hi')) = res ∧ 0 ≤ r' ∧ (r' ≤ 127 ∧ j = 0 ∨ r' ≤ 8191 ∧ j = 1 ∨ r' ≤ 524287 ∧ j = 2 ∨ r' ≤ 33554431 ∧ j = 3) ∧ wr = w)
    case atStart =>
      refine ⟨0, r, least, most, rfl, by omega, rfl, rfl, rfl, rfl, ?_, hr0, .inl ⟨hr1, rfl⟩, rfl⟩
      rw [← Hres.out]
      have := Hll.out (by omega)
      rw [this.1, this.2]
      rfl
    case round =>
      obtain ⟨j, r', lo', hi', hg, hj, rfl, rfl, rfl, rfl, hcont, hr0', hr1', rfl⟩ := hrel
      have Hcont := hide hcont
      have Hr1 := hide hr1'
      have Hg := hide hg
      have hr2 : r' ≤ 33554431 := by omega
      clear hcont hr1' hg hr1
      by_cases hlt : j < 1
      · have hr3 : r' ≤ 524287 := by have := Hr1.out; omega
        by_cases hend : s.size ≤ a + (j + 1)
        · go_wp2
          go_ret3
          exact ⟨partT_eq (by rw [← Hcont.out, show 1 - j = (1 - j - 1) + 1 from by omega, cont_end hend]; rfl), rfl⟩
        · have hlt2 : a + (j + 1) < s.size := by omega
          go_wp2
          · go_ret3
            have hx : (↑s.size ≤ (a : Int) + ((j : Int) + 1) ∨ (s[a + (j + 1)].toNat : Int) < lo') ∨ hi' < (s[a + (j + 1)].toNat : Int) := by assumption
            exact ⟨partT_eq (by rw [← Hcont.out, show 1 - j = (1 - j - 1) + 1 from by omega, cont_wrong hlt2 (by simp only [show (1 = 0) = False from by simp, if_false]; omega)]; rfl), rfl⟩
          · have hin : ((a : Int) + ((j : Int) + 1) < s.size ∧ lo' ≤ (s[a + (j + 1)].toNat : Int)) ∧ (s[a + (j + 1)].toNat : Int) ≤ hi' := by assumption
            have hb := Utf.byte_lt s[a + (j + 1)]
            go_roundg (1 + 1 - (j + 1))
            case measure => have := Hg.out; omega
            case rel =>
              refine ⟨j + 1, r' * 64 + (s[a + (j + 1)].toNat : Int) % 64, 128, 191, rfl, by omega, ?_, by go_num, rfl, rfl, ?_, by omega, by have := Hr1.out; omega, rfl⟩
              · rw [u8_and63 _ (by omega) hb, IntWalk.wrap64_in _ (by omega), i64_or64 r' _ hr0' (by omega) (by omega) (by omega)]
              · rw [← Hcont.out, show 1 - j = (1 - (j + 1)) + 1 from by omega, cont_step hlt2 (by simpa using hin.1.2) (by simpa using hin.2)]
                simp
                rfl
          · go_ret3
            have hx : (s[a + (j + 1)].toNat : Int) < lo' := by assumption
            exact ⟨partT_eq (by rw [← Hcont.out, show 1 - j = (1 - j - 1) + 1 from by omega, cont_wrong hlt2 (.inl (by simpa using hx))]; rfl), rfl⟩
      · go_wp2
        go_ret3
        exact ⟨partT_eq (by rw [← Hcont.out, show j = 1 from by omega]; unfold Utf.cont; simp [Utf.part, hr0', show ¬ r' < 0 from by omega]), rfl⟩
  · go_wp2_with (go_at_call 62; rw [Hc.out]; refine (lead_any _ _ hc0 hc1).mono ?_; rintro e w' ⟨rfl, rfl⟩; rw [Hl.out]; unfold leadT; dsimp only)
    have hrr : bits .and .i64 (wrap64 (s[a].toNat : Int)) (15) = r := by
      rw [Hc.out, IntWalk.wrap64_in c (by omega), b2]
      exact Hr.out.2.2.1 (by trivial)
    rw [hrr]
    clear hrr b0 b1 b2 b3
    go_loopg [8, 9, 11, 12] (2 + 1) (fun g vlo vhi vr vn wr => ∃ (j : Nat) (r' lo' hi' : Int), g = 2 + 1 - j ∧ j ≤ 2 ∧ vr = .int .i64 r' ∧ vn = .int .i64 ((j : Int) + 1) ∧ vlo = .int .u8 lo' ∧ vhi = .int .u8 hi' ∧
      Utf.part (Utf.cont (s.data.toList.drop (a + (j + 1))) (2 - j) r' ((j : Int) + 1) (if 2 = 0 then lo else lo') (if 2 = 0 then hi else hi')) = res ∧ 0 ≤ r' ∧ (r' ≤ 127 ∧ j = 0 ∨ r' ≤ 8191 ∧ j = 1 ∨ r' ≤ 524287 ∧ j = 2 ∨ r' ≤ 33554431 ∧ j = 3) ∧ wr = w)
    case atStart =>
      refine ⟨0, r, least, most, rfl, by omega, rfl, rfl, rfl, rfl, ?_, hr0, .inl ⟨hr1, rfl⟩, rfl⟩
      rw [← Hres.out]
      have := Hll.out (by omega)
      rw [this.1, this.2]
      rfl
    case round =>
      obtain ⟨j, r', lo', hi', hg, hj, rfl, rfl, rfl, rfl, hcont, hr0', hr1', rfl⟩ := hrel
      have Hcont := hide hcont
      have Hr1 := hide hr1'
      have Hg := hide hg
      have hr2 : r' ≤ 33554431 := by omega
      clear hcont hr1' hg hr1
      by_cases hlt : j < 2
      · have hr3 : r' ≤ 524287 := by have := Hr1.out; omega
        by_cases hend : s.size ≤ a + (j + 1)
        · go_wp2
          go_ret3
          exact ⟨partT_eq (by rw [← Hcont.out, show 2 - j = (2 - j - 1) + 1 from by omega, cont_end hend]; rfl), rfl⟩
        · have hlt2 : a + (j + 1) < s.size := by omega
          go_wp2
          · go_ret3
            have hx : (↑s.size ≤ (a : Int) + ((j : Int) + 1) ∨ (s[a + (j + 1)].toNat : Int) < lo') ∨ hi' < (s[a + (j + 1)].toNat : Int) := by assumption
            exact ⟨partT_eq (by rw [← Hcont.out, show 2 - j = (2 - j - 1) + 1 from by omega, cont_wrong hlt2 (by simp only [show (2 = 0) = False from by simp, if_false]; omega)]; rfl), rfl⟩
          · have hin : ((a : Int) + ((j : Int) + 1) < s.size ∧ lo' ≤ (s[a + (j + 1)].toNat : Int)) ∧ (s[a + (j + 1)].toNat : Int) ≤ hi' := by assumption
            have hb := Utf.byte_lt s[a + (j + 1)]
            go_roundg (2 + 1 - (j + 1))
            case measure => have := Hg.out; omega
            case rel =>
              refine ⟨j + 1, r' * 64 + (s[a + (j + 1)].toNat : Int) % 64, 128, 191, rfl, by omega, ?_, by go_num, rfl, rfl, ?_, by omega, by have := Hr1.out; omega, rfl⟩
              · rw [u8_and63 _ (by omega) hb, IntWalk.wrap64_in _ (by omega), i64_or64 r' _ hr0' (by omega) (by omega) (by omega)]
              · rw [← Hcont.out, show 2 - j = (2 - (j + 1)) + 1 from by omega, cont_step hlt2 (by simpa using hin.1.2) (by simpa using hin.2)]
                simp
                rfl
          · go_ret3
            have hx : (s[a + (j + 1)].toNat : Int) < lo' := by assumption
            exact ⟨partT_eq (by rw [← Hcont.out, show 2 - j = (2 - j - 1) + 1 from by omega, cont_wrong hlt2 (.inl (by simpa using hx))]; rfl), rfl⟩
      · go_wp2
        go_ret3
        exact ⟨partT_eq (by rw [← Hcont.out, show j = 2 from by omega]; unfold Utf.cont; simp [Utf.part, hr0', show ¬ r' < 0 from by omega]), rfl⟩
  · go_wp2_with (go_at_call 62; rw [Hc.out]; refine (lead_any _ _ hc0 hc1).mono ?_; rintro e w' ⟨rfl, rfl⟩; rw [Hl.out]; unfold leadT; dsimp only)
    have hrr : bits .and .i64 (wrap64 (s[a].toNat : Int)) (7) = r := by
      rw [Hc.out, IntWalk.wrap64_in c (by omega), b3]
      exact Hr.out.2.2.2 (by trivial)
    rw [hrr]
    clear hrr b0 b1 b2 b3
    go_loopg [8, 9, 11, 12] (3 + 1) (fun g vlo vhi vr vn wr => ∃ (j : Nat) (r' lo' hi' : Int), g = 3 + 1 - j ∧ j ≤ 3 ∧ vr = .int .i64 r' ∧ vn = .int .i64 ((j : Int) + 1) ∧ vlo = .int .u8 lo' ∧ vhi = .int .u8 hi' ∧
      Utf.part (Utf.cont (s.data.toList.drop (a + (j + 1))) (3 - j) r' ((j : Int) + 1) (if 3 = 0 then lo else lo') (if 3 = 0 then hi else hi')) = res ∧ 0 ≤ r' ∧ (r' ≤ 127 ∧ j = 0 ∨ r' ≤ 8191 ∧ j = 1 ∨ r' ≤ 524287 ∧ j = 2 ∨ r' ≤ 33554431 ∧ j = 3) ∧ wr = w)
    case atStart =>
      refine ⟨0, r, least, most, rfl, by omega, rfl, rfl, rfl, rfl, ?_, hr0, .inl ⟨hr1, rfl⟩, rfl⟩
      rw [← Hres.out]
      have := Hll.out (by omega)
      rw [this.1, this.2]
      rfl
    case round =>
      obtain ⟨j, r', lo', hi', hg, hj, rfl, rfl, rfl, rfl, hcont, hr0', hr1', rfl⟩ := hrel
      have Hcont := hide hcont
      have Hr1 := hide hr1'
      have Hg := hide hg
      have hr2 : r' ≤ 33554431 := by omega
      clear hcont hr1' hg hr1
      by_cases hlt : j < 3
      · have hr3 : r' ≤ 524287 := by have := Hr1.out; omega
        by_cases hend : s.size ≤ a + (j + 1)
        · go_wp2
          go_ret3
          exact ⟨partT_eq (by rw [← Hcont.out, show 3 - j = (3 - j - 1) + 1 from by omega, cont_end hend]; rfl), rfl⟩
        · have hlt2 : a + (j + 1) < s.size := by omega
          go_wp2
          · go_ret3
            have hx : (↑s.size ≤ (a : Int) + ((j : Int) + 1) ∨ (s[a + (j + 1)].toNat : Int) < lo') ∨ hi' < (s[a + (j + 1)].toNat : Int) := by assumption
            exact ⟨partT_eq (by rw [← Hcont.out, show 3 - j = (3 - j - 1) + 1 from by omega, cont_wrong hlt2 (by simp only [show (3 = 0) = False from by simp, if_false]; omega)]; rfl), rfl⟩
          · have hin : ((a : Int) + ((j : Int) + 1) < s.size ∧ lo' ≤ (s[a + (j + 1)].toNat : Int)) ∧ (s[a + (j + 1)].toNat : Int) ≤ hi' := by assumption
            have hb := Utf.byte_lt s[a + (j + 1)]
            go_roundg (3 + 1 - (j + 1))
            case measure => have := Hg.out; omega
            case rel =>
              refine ⟨j + 1, r' * 64 + (s[a + (j + 1)].toNat : Int) % 64, 128, 191, rfl, by omega, ?_, by go_num, rfl, rfl, ?_, by omega, by have := Hr1.out; omega, rfl⟩
              · rw [u8_and63 _ (by omega) hb, IntWalk.wrap64_in _ (by omega), i64_or64 r' _ hr0' (by omega) (by omega) (by omega)]
              · rw [← Hcont.out, show 3 - j = (3 - (j + 1)) + 1 from by omega, cont_step hlt2 (by simpa using hin.1.2) (by simpa using hin.2)]
                simp
                rfl
          · go_ret3
            have hx : (s[a + (j + 1)].toNat : Int) < lo' := by assumption
            exact ⟨partT_eq (by rw [← Hcont.out, show 3 - j = (3 - j - 1) + 1 from by omega, cont_wrong hlt2 (.inl (by simpa using hx))]; rfl), rfl⟩
      · go_wp2
        go_ret3
        exact ⟨partT_eq (by rw [← Hcont.out, show j = 3 from by omega]; unfold Utf.cont; simp [Utf.part, hr0', show ¬ r' < 0 from by omega]), rfl⟩

end Go.Proofs.Ytaickkaoglohgaa
namespace Go.Proofs.Ytaickkaoglohgaa
open Go.RowKit

theorem part_any (s : ByteArray) (at_ : Int) (w : World) (h0 : 0 ≤ at_) (h1 : at_ < s.size) (hs : s.size ≤ 1000000000) :
    Calls Try.prog 42 #[.string s, .int .i64 at_] w fun e w' => e = .returned (partT (Utf.part (Utf.piece (s.data.toList.drop at_.toNat)))) ∧ w = w' := by
  obtain ⟨a, rfl⟩ := Int.eq_ofNat_of_zero_le h0
  rw [Int.toNat_natCast]
  have ha : a < s.size := by omega
  rw [drop_at s a ha, Utf.piece_cons]
  have hw := part_wrong s a w ha hs
  have hr := fun k r lo hi least most => part_right s a k r lo hi least most w ha hs
  obtain ⟨c, hc⟩ : ∃ c : Int, (s[a].toNat : Int) = c := ⟨_, rfl⟩
  rw [hc] at hw ⊢
  simp only [hc] at hr
  by_cases hm : (Utf.follow c).1 < 0
  · rw [if_pos hm]
    exact hw hm
  · rw [if_neg hm]
    obtain ⟨m, r, lo, hi, hq⟩ : ∃ m r lo hi, Utf.follow c = (m, r, lo, hi) := ⟨_, _, _, _, rfl⟩
    rw [hq] at hm hr ⊢
    dsimp only at hm ⊢
    obtain ⟨k, rfl⟩ := Int.eq_ofNat_of_zero_le (show 0 ≤ m by omega)
    rw [Int.toNat_natCast]
    by_cases hk0 : k = 0
    · subst hk0
      exact hr 0 r lo hi 0 0 rfl rfl (by omega)
    · exact hr k r lo hi lo hi rfl (by unfold leadV; rw [if_neg (by simp), if_neg (by simpa using hk0)]) (fun _ => ⟨rfl, rfl⟩)

/-- What the document's 'Next' says of a piece. -/
def nextT (f : Int × Int) : Value := if f.1 < 0 then .tuple #[.int .i64 0, .int .i64 0, .bool false] else .tuple #[.int .i64 f.1, .int .i64 f.2, .bool true]

set_option maxHeartbeats 400000 in
theorem next_any (s : ByteArray) (at_ : Int) (w : World) (h0 : 0 ≤ at_) (h1 : at_ < s.size) (hs : s.size ≤ 1000000000) :
    Calls Try.prog 19 #[.string s, .int .i64 at_] w fun e w' => e = .returned (nextT (Utf.piece (s.data.toList.drop at_.toNat))) ∧ w = w' := by
  have H := part_any s at_ w h0 h1 hs
  generalize Utf.piece (s.data.toList.drop at_.toNat) = f at *
  have HH := hide H
  clear H
  have g : ¬ at_ < 0 := by omega
  go_enter Try.func19, Try.ntmps19
  by_cases hf : f.1 < 0
  · have e1 : Hid (Utf.part f = (0, f.2, false)) := by show Utf.part f = _; unfold Utf.part; rw [if_pos hf]
    go_wp2_with (go_at_call 42; refine HH.out.mono ?_; rintro e w' ⟨rfl, rfl⟩; rw [e1.out]; unfold partT; dsimp only)
    go_ret3
    exact ⟨by unfold nextT; rw [if_pos hf]; rfl, rfl⟩
  · have e1 : Hid (Utf.part f = (f.1, f.2, true)) := by show Utf.part f = _; unfold Utf.part; rw [if_neg hf]
    go_wp2_with (go_at_call 42; refine HH.out.mono ?_; rintro e w' ⟨rfl, rfl⟩; rw [e1.out]; unfold partT; dsimp only)
    go_ret3
    exact ⟨by unfold nextT; rw [if_neg (by omega)]; rfl, rfl⟩
end Go.Proofs.Ytaickkaoglohgaa
namespace Go.Proofs.Ytaickkaoglohgaa
open Go.RowKit

theorem info_int : (Try.prog.info? 3).map (fun i => (i.zero, i.size, i.bytes)) = some (some (.int .i64 0), 1, 8) := by kernel_rfl

theorem valid_at (s : ByteArray) (k : Nat) (h : k < s.size) :
    Utf.valid (s.data.toList.drop k) = if (Utf.piece (s.data.toList.drop k)).1 < 0 then false else Utf.valid (s.data.toList.drop (k + (Utf.piece (s.data.toList.drop k)).2.toNat)) := by
  rw [drop_at s k h, Utf.valid_cons, ← drop_at s k h, List.drop_drop]
theorem piece_at (s : ByteArray) (k : Nat) (h : k < s.size) : 1 ≤ (Utf.piece (s.data.toList.drop k)).2 ∧ (Utf.piece (s.data.toList.drop k)).2 ≤ 4 ∧ (Utf.piece (s.data.toList.drop k)).2 ≤ ((s.size - k : Nat) : Int) := by
  have := Utf.piece_len s[k] (s.data.toList.drop (k + 1))
  rw [← drop_at s k h] at this
  simpa using this

end Go.Proofs.Ytaickkaoglohgaa
