/- Words for memory: a slice that reads as a list; a block that is known whole; what a call may have turned; append of one element. Sections 1 and 2 are turned from the guide's extra-words. · The document's 'Scalars', 'Valid': whether a text is right. · Words for memory that the tokens' walks use: what a call may have turned but one block; strings as lists of bytes. · NFC: the tables' small functions. Printed by genNfA.py. · NFC: keys that are pairs of numbers; the elements that are pairs. · NFC: the table of wholes: a row put into it. -/
import Derived.Test.YtheaknghgpafpaaWv00
import Derived.Below
import Derived.Laws.OwnMore
import Derived.Deep.AppendLies
import Derived.Deep.Draws
import Derived.Laws.Rows
import Derived.Maps.AppendAt
import Derived.RegionTactic
import Derived.OwnWalk
import Derived.Laws.IdiomStrings
import Derived.WalkKit
import Derived.Maps.Own
import Derived.Maps.OwnOps
import Derived.Maps.OwnSet
import Derived.Maps.RangeWalk
import Derived.Maps.Ext
import Derived.Maps.Views
import Derived.DeepKeys4
import Derived.Deep.LoopGhost
import Derived.Laws.RangeAny
import Derived.Lib.OthersKept
import Derived.WalkSmall
import Derived.DataShut
set_option linter.unusedSimpArgs false
set_option linter.unusedVariables false
namespace Go.Proofs.Ytheaknghgpafpaa
open Go.RowKit

/-- The slice value '.slice A n c' holds the cells xs ('size' cells an element) and lies below block B. -/
def Reads (w : World) (B size : Nat) (A : Option Addr) (n : Nat) (xs : List Value) : Prop :=
  xs.length = n * size ∧ (0 < n → ∃ b off, A = some ⟨b, off, none⟩ ∧ b < B ∧ ∀ j u, xs[j]? = some u → w.cell? ⟨b, off + j, none⟩ = some u)

section
variable {w w' : World} {B B' size n : Nat} {A : Option Addr} {xs : List Value}
theorem Reads.none_ : Reads w B size A 0 [] := ⟨by simp, fun h => absurd h (by omega)⟩
theorem Reads.keep (h : Reads w B size A n xs) (hk : ∀ p : Addr, p.block < B → w'.cell? p = w.cell? p) : Reads w' B size A n xs :=
  ⟨h.1, fun hn => by
    obtain ⟨b, off, e, hb, hc⟩ := h.2 hn
    exact ⟨b, off, e, hb, fun j u hu => (hk _ hb).trans (hc j u hu)⟩⟩
theorem Reads.below (h : Reads w B size A n xs) (hb : Below B w w') : Reads w' B size A n xs := h.keep fun _ hp => hb.cell hp
theorem Reads.of_own {base : Nat} {e : TypeId} {c : Nat} (h : w.ownsRow base e size (.slice A n c) n xs) : Reads w w.heap.size size A n xs := by
  refine ⟨h.1, fun hn => ?_⟩
  obtain ⟨g, cap, hv, _, hlt⟩ := h.form hn
  have hA : A = some ⟨g, 0, none⟩ := by injection hv
  subst hA
  exact ⟨g, 0, rfl, hlt, fun j u hu => by
    have := h.cells (g := g) rfl j u hu
    unfold Addr.add at this
    split at this
    · subst_vars; exact this
    · exact this⟩
end

/-- Block g is just the cells cs of element type t, none frozen. -/
def Blk (w : World) (g : Nat) (t : TypeId) (cs : Array Value) : Prop := w.heap[g]? = some (.cells cs t (0, 0))

section
variable {w w' : World} {g : Nat} {t : TypeId} {cs : Array Value}
theorem Blk.lt (h : Blk w g t cs) : g < w.heap.size := by
  rcases Nat.lt_or_ge g w.heap.size with hlt | hge
  · exact hlt
  · unfold Blk at h; rw [Array.getElem?_eq_none hge] at h; cases h
theorem Blk.cell (h : Blk w g t cs) (i : Nat) : w.cell? ⟨g, i, none⟩ = cs[i]? := cell_of_row w g i cs t (0, 0) h
theorem Blk.frozen (h : Blk w g t cs) (i : Nat) : w.frozen? ⟨g, i, none⟩ = false := by
  unfold Blk at h
  simp [World.frozen?, h]
theorem Blk.new (w : World) (t : TypeId) (cs : Array Value) : Blk (w.alloc (.cells cs t)) w.heap.size t cs := heap_alloc_new w _
theorem Blk.drew (h : Blk w g t cs) : Blk w.drew g t cs := h
theorem Blk.alloc (h : Blk w g t cs) (o : Obj) : Blk (w.alloc o) g t cs := (Below.heap_alloc w o g h.lt).trans h
theorem Blk.set_ (h : Blk w g t cs) (i : Nat) (u : Value) : Blk (w.setCell ⟨g, i, none⟩ u) g t (cs.setIfInBounds i u) := by
  unfold Blk at h ⊢
  simp [World.setCell, Array.getElem?_modify, h]
theorem Blk.far (h : Blk w g t cs) {p : Addr} (hp : g ≠ p.block) (u : Value) : Blk (w.setCell p u) g t cs := (Below.heap_setCell w p u g hp).trans h
theorem Blk.below {B : Nat} (h : Blk w g t cs) (hb : Below B w w') (hg : g < B) : Blk w' g t cs := (hb.block g hg).trans h
theorem Blk.grown {row : Option Nat} (h : Blk w g t cs) (hb : w.grownBy w' row) (hg : some g ≠ row) : Blk w' g t cs := (hb.block g h.lt hg).trans h
theorem Blk.ne_ {g' : Nat} {t' : TypeId} {cs' : Array Value} (h : Blk w g t cs) (h' : Blk w g' t' cs') (hne : t ≠ t') : g ≠ g' := by
  rintro rfl
  unfold Blk at h h'
  rw [h] at h'
  injection h' with h'
  injection h' with _ ht
  exact hne ht
theorem own_blk_ne {base : Nat} {e : TypeId} {size n : Nat} {v : Value} {xs : List Value} (h : w.ownsRow base e size v n xs) (hg : Blk w g t cs) (hne : e ≠ t) : v.ownBlock ≠ some g := by
  rcases h.2 with ⟨rfl, _⟩ | ⟨g', cap, cur, rfl, _, hh, _⟩
  · simp [Value.ownBlock]
  · intro he
    have : g' = g := by simpa [Value.ownBlock] using he
    subst this
    exact Blk.ne_ (t := e) hh hg hne rfl
end

/-- Block k is a row of cells of element type t. -/
def IsT (w : World) (k : Nat) (t : TypeId) : Prop := ∃ cs fr, w.heap[k]? = some (.cells cs t fr)

theorem IsT.lt {w : World} {k t : Nat} (h : IsT w k t) : k < w.heap.size := by
  obtain ⟨cs, fr, h⟩ := h
  rcases Nat.lt_or_ge k w.heap.size with hlt | hge
  · exact hlt
  · rw [Array.getElem?_eq_none hge] at h; cases h

/-- What a call may have turned: of the blocks that were there, those from 'base' on that are rows of element type t, and the block b; nothing else. -/
structure Turn (base t b : Nat) (w w' : World) : Prop where
  os : w'.os = w.os
  tape : w'.tape = w.tape
  output : w'.output = w.output
  size : w.heap.size ≤ w'.heap.size
  block : ∀ k, k < w.heap.size → k ≠ b → ¬ (base ≤ k ∧ IsT w k t) → w'.heap[k]? = w.heap[k]?
  kind : ∀ k, k < w.heap.size → IsT w k t → IsT w' k t

section
variable {base t b : Nat} {w w1 w' : World}
end

theorem own_isT {w : World} {base e size n : Nat} {v : Value} {xs : List Value} (h : w.ownsRow base e size v n xs) : ∀ k, v.ownBlock = some k → base ≤ k ∧ IsT w k e := by
  intro k hk
  rcases h.2 with ⟨rfl, _⟩ | ⟨g', cap, cur, rfl, hb, hh, _⟩
  · simp [Value.ownBlock] at hk
  · have : g' = k := by simpa [Value.ownBlock] using hk
    subst this
    exact ⟨hb, cur, _, hh⟩

/-- append of one element ('size' cells), which buildSlice has laid in a new block. -/
theorem wpList_append_elem {P : Program} (W : World) {e : TypeId} {cs : List Value} {ops : Array Oper} {rest : List Oper} {o : Oper} {a : Act} {Q : Exit → Act → World → Prop} (hgd : o.guard = none) (s x : Operand) (t : TypeId)
    (ho : o.op = .call { callee := .builtin .append, args := #[s, x], argTypes := #[t, t] })
    (base : Nat) (z : Value) (size bytes : Nat) (ht : P.underlying t = some (.slice e)) (hinfo : (P.info? e).map (fun i => (i.zero, i.size, i.bytes)) = some (some z, size, bytes))
    (hzs : z.cells.size = size) (hsz : 0 < size)
    (v : Value) (n : Nat) (xs : List Value) (hs : a.eval s = v) (hown : W.ownsRow base e size v n xs)
    (hcs : cs.length = size) (h1 : ∀ u ∈ cs, u.oneCell' = true) (hx : a.eval x = .slice (some ⟨W.heap.size, 0, none⟩) 1 1)
    (h63 : n + 1 ≤ maxLen) (hbytes : (n + 1) * bytes ≤ 140737488355328) (hbase : base ≤ W.heap.size)
    (h : ∀ g cap w', w'.ownsRow base e size (.slice (some ⟨g, 0, none⟩) (n + 1) cap) (n + 1) (xs ++ cs) → W.grownBy w' v.ownBlock → (v.ownBlock = some g ∨ W.heap.size ≤ g) → g < w'.heap.size → base ≤ g →
      wpList P ops Q rest (a.put o.dst (.slice (some ⟨g, 0, none⟩) (n + 1) cap)) w') : wpList P ops Q (o :: rest) a (W.alloc (.cells cs.toArray e)) := by
  obtain ⟨i, hi, hz, hsize, hby⟩ := info_parts hinfo
  refine wpList_append_lies (W.alloc (.cells cs.toArray e)) hgd s x t ho base e i z size bytes ht hi hz hsize hby hzs hsz v n xs hs (hown.alloc _) ⟨W.heap.size, 0, none⟩ 1 1 cs hx (by omega) ?_ h1 (by omega) h63 hbytes (by simp; omega) _ rfl ?_
  · intro j u hu
    exact World.news_of_block (Blk.new W e cs.toArray) j u (by simpa using hu)
  · intro g cap w' hown' hgrow hg hlt
    have hb : base ≤ g := (own_isT hown' g rfl).1
    refine h g cap w' hown' ⟨hgrow.os, hgrow.tape, hgrow.output, Nat.le_trans (by simp) hgrow.size, fun k hk hne => ?_⟩ ?_ hlt hb
    · exact (hgrow.block k (by simp; omega) hne).trans (Below.heap_alloc W _ k hk)
    · rcases hg with hg | hg
      · exact .inl hg
      · exact .inr (by simp at hg; omega)

theorem ret_eq2 {x x' y y' : Value} (h1 : x = x') (h2 : y = y') : Ending.returned (.tuple #[x, y]) = .returned (.tuple #[x', y']) := by rw [h1, h2]
theorem ret_eq1 {x x' : Value} (h1 : x = x') : Ending.returned x = .returned x' := by rw [h1]
theorem bool_eq {a b : Bool} (h : a = b) : Value.bool a = .bool b := by rw [h]
theorem int_eq {k : IntKind} {a b : Int} (h : a = b) : Value.int k a = .int k b := by rw [h]

/-- Bytes as cells. -/
def byteVs (l : List UInt8) : List Value := l.map fun b => .int .u8 (b.toNat : Int)
theorem byteVs_append (a b : List UInt8) : byteVs (a ++ b) = byteVs a ++ byteVs b := by simp [byteVs]
theorem byteVs_length (a : List UInt8) : (byteVs a).length = a.length := by simp [byteVs]
/-- A number of a byte, as a byte. -/
def bv (n : Int) : UInt8 := UInt8.ofNat n.toNat
theorem bv_toNat (n : Int) (h0 : 0 ≤ n) (h1 : n < 256) : ((bv n).toNat : Int) = n := by
  unfold bv
  rw [UInt8.toNat_ofNat']
  omega
theorem byteVs_bv (n : Int) (h0 : 0 ≤ n) (h1 : n < 256) : byteVs [bv n] = [.int .u8 n] := by
  show [Value.int .u8 ((bv n).toNat : Int)] = _
  rw [bv_toNat n h0 h1]

/-- A string's bytes. -/
def StrIs (t : ByteArray) (l : List UInt8) : Prop := t.data.toList = l
theorem StrIs.size {t : ByteArray} {l : List UInt8} (h : StrIs t l) : t.size = l.length := by
  unfold StrIs at h
  rw [← h]; simp

/-- 'string(b)', b a row of the call's own. -/
theorem run_to_string {P : Program} (w : World) (src dst e : TypeId) (hs : P.underlying src = some (.slice e)) (he : P.underlying e = some (.int .u8)) (hd : P.underlying dst = some .string)
    {base : Nat} {v : Value} {n : Nat} (l : List UInt8) (hown : w.ownsRow base e 1 v n (byteVs l)) : ∃ t : ByteArray, (convert src dst v).run P w = .ok (.string t) w ∧ StrIs t l := by
  have hn : l.length = n := by have := hown.1; rw [byteVs_length] at this; omega
  rcases hown.2 with ⟨rfl, hx⟩ | ⟨g, cap, cur, rfl, _⟩
  · subst hx
    have hl : l = [] := by
      exact List.eq_nil_of_length_eq_zero (by have := hown.1; rw [byteVs_length] at this; omega)
    subst hl
    refine ⟨ByteArray.empty, ?_, rfl⟩
    rw [run_convert_bytes_string w src dst e _ _ _ hs he hd]
    simp [Conv.bytesToString]
  · subst hn
    refine ⟨⟨l.toArray⟩, run_convert_bytes_back w src dst e ⟨g, 0, none⟩ cap l hs he hd ?_, rfl⟩
    intro j hj
    exact hown.cells (g := g) rfl j _ (by simp [byteVs, List.getElem?_eq_getElem hj])

theorem wpList_to_string {P : Program} {w : World} {ops : Array Oper} {rest : List Oper} {o : Oper} {a : Act} {Q : Exit → Act → World → Prop} (hgd : o.guard = none) (src dst e : TypeId) (x : Operand)
    (ho : o.op = .convert src dst x) (hs : P.underlying src = some (.slice e)) (he : P.underlying e = some (.int .u8)) (hd : P.underlying dst = some .string)
    (base : Nat) (v : Value) (n : Nat) (hx : a.eval x = v) (l : List UInt8) (hown : w.ownsRow base e 1 v n (byteVs l))
    (h : ∀ t : ByteArray, StrIs t l → wpList P ops Q rest (a.put o.dst (.string t)) w) : wpList P ops Q (o :: rest) a w := by
  obtain ⟨t, hrun, ht⟩ := run_to_string (P := P) w src dst e hs he hd l hown
  refine wpList_plain hgd fun K hK => ?_
  unfold Oper.wp execOp
  simp only [ho, Sem.run_bind, Sem.run_pure, Result.andThen_ok, hx, hrun]
  exact hK _ _ (h t ht)

theorem own_byte_lit (w : World) (e : TypeId) (n : Int) (h0 : 0 ≤ n) (h1 : n < 256) : (w.alloc (.cells #[.int .u8 n] e)).ownsRow w.heap.size e 1 (.slice (some ⟨w.heap.size, 0, none⟩) 1 1) 1 (byteVs [bv n]) := by
  rw [byteVs_bv n h0 h1]
  exact World.ownsRow_lit w #[.int .u8 n] 1 (Nat.le_refl _) (by unfold maxLen; omega) rfl

theorem own_bytes_lit (w : World) (e : TypeId) (ns : List Int) (h : ∀ n ∈ ns, 0 ≤ n ∧ n < 256) (hl : ns.length ≤ 1000) :
    (w.alloc (.cells (ns.map (Value.int .u8)).toArray e)).ownsRow w.heap.size e 1 (.slice (some ⟨w.heap.size, 0, none⟩) ns.length ns.length) ns.length (byteVs (ns.map bv)) := by
  have e1 : byteVs (ns.map bv) = ns.map (Value.int .u8) := by
    unfold byteVs
    rw [List.map_map]
    apply List.map_congr_left
    intro n hn
    have := h n hn
    simp only [Function.comp, bv_toNat n this.1 this.2]
  rw [e1]
  have := World.ownsRow_lit (base := w.heap.size) (e := e) (size := 1) w (ns.map (Value.int .u8)).toArray ns.length (Nat.le_refl _) (by unfold maxLen; omega) (by simp)
  simpa using this
theorem own_bytes2 (w : World) (e : TypeId) (base g : Nat) (hg : w.heap.size = g) (hbase : base ≤ g) (a b : Int) (ha : 0 ≤ a ∧ a < 256) (hb : 0 ≤ b ∧ b < 256) :
    (w.alloc (.cells #[.int .u8 a, .int .u8 b] e)).ownsRow base e 1 (.slice (some ⟨g, 0, none⟩) 2 2) 2 (byteVs [bv a, bv b]) := by
  subst hg
  have := own_bytes_lit w e [a, b] (by simp [ha, hb]) (by simp)
  exact ⟨this.1, .inr (by
    rcases this.2 with ⟨h, _⟩ | ⟨g, cap, cur, h1, h2, h3⟩
    · simp at h
    · exact ⟨g, cap, cur, h1, by omega, h3⟩)⟩
theorem own_bytes3 (w : World) (e : TypeId) (base g : Nat) (hg : w.heap.size = g) (hbase : base ≤ g) (a b c : Int) (ha : 0 ≤ a ∧ a < 256) (hb : 0 ≤ b ∧ b < 256) (hc : 0 ≤ c ∧ c < 256) :
    (w.alloc (.cells #[.int .u8 a, .int .u8 b, .int .u8 c] e)).ownsRow base e 1 (.slice (some ⟨g, 0, none⟩) 3 3) 3 (byteVs [bv a, bv b, bv c]) := by
  subst hg
  have := own_bytes_lit w e [a, b, c] (by simp [ha, hb, hc]) (by simp)
  exact ⟨this.1, .inr (by
    rcases this.2 with ⟨h, _⟩ | ⟨g, cap, cur, h1, h2, h3⟩
    · simp at h
    · exact ⟨g, cap, cur, h1, by omega, h3⟩)⟩
theorem own_bytes4 (w : World) (e : TypeId) (base g : Nat) (hg : w.heap.size = g) (hbase : base ≤ g) (a b c d : Int) (ha : 0 ≤ a ∧ a < 256) (hb : 0 ≤ b ∧ b < 256) (hc : 0 ≤ c ∧ c < 256) (hd : 0 ≤ d ∧ d < 256) :
    (w.alloc (.cells #[.int .u8 a, .int .u8 b, .int .u8 c, .int .u8 d] e)).ownsRow base e 1 (.slice (some ⟨g, 0, none⟩) 4 4) 4 (byteVs [bv a, bv b, bv c, bv d]) := by
  subst hg
  have := own_bytes_lit w e [a, b, c, d] (by simp [ha, hb, hc, hd]) (by simp)
  exact ⟨this.1, .inr (by
    rcases this.2 with ⟨h, _⟩ | ⟨g, cap, cur, h1, h2, h3⟩
    · simp at h
    · exact ⟨g, cap, cur, h1, by omega, h3⟩)⟩
end Go.Proofs.Ytheaknghgpafpaa
namespace Go.Proofs.Ytheaknghgpafpaa
open Go.RowKit

theorem info_int : (Try.prog.info? 3).map (fun i => (i.zero, i.size, i.bytes)) = some (some (.int .i64 0), 1, 8) := by kernel_rfl

end Go.Proofs.Ytheaknghgpafpaa
namespace Go.Proofs.Ytheaknghgpafpaa
open Go.RowKit

/-- Nothing that was there has turned, but block R. -/
structure But (R : Nat) (w w' : World) : Prop where
  os : w'.os = w.os
  tape : w'.tape = w.tape
  output : w'.output = w.output
  size : w.heap.size ≤ w'.heap.size
  block : ∀ k, k < w.heap.size → k ≠ R → w'.heap[k]? = w.heap[k]?
section
variable {R : Nat} {w w1 w' : World}
theorem But.refl (R : Nat) (w : World) : But R w w := ⟨rfl, rfl, rfl, Nat.le_refl _, fun _ _ _ => rfl⟩
theorem But.trans (h : But R w w1) (k : But R w1 w') : But R w w' :=
  ⟨k.os.trans h.os, k.tape.trans h.tape, k.output.trans h.output, Nat.le_trans h.size k.size, fun i hi hb => (k.block i (Nat.lt_of_lt_of_le hi h.size) hb).trans (h.block i hi hb)⟩
theorem But.below {B : Nat} (h : But R w w') (hb : B ≤ R) (hs : B ≤ w.heap.size) : Below B w w' := ⟨h.os, h.tape, h.output, h.size, fun k hk => h.block k (by omega) (by omega)⟩
theorem But.of_below (h : Below w.heap.size w w') : But R w w' := ⟨h.os, h.tape, h.output, h.size, fun k hk _ => h.block k hk⟩
theorem But.blk {g t' : Nat} {cs : Array Value} (h : But R w w') (hg : Blk w g t' cs) (hb : g ≠ R) : Blk w' g t' cs := (h.block g hg.lt hb).trans hg
theorem But.alloc (h : But R w w1) (o : Obj) : But R w (w1.alloc o) := h.trans ⟨rfl, rfl, rfl, by simp, fun k hk _ => Below.heap_alloc _ _ _ hk⟩
theorem But.drew (h : But R w w1) : But R w w1.drew := ⟨h.os, h.tape, h.output, h.size, h.block⟩
theorem But.setCell (h : But R w w1) {p : Addr} (hp : p.block = R ∨ w.heap.size ≤ p.block) (u : Value) : But R w (w1.setCell p u) := by
  refine ⟨h.os, h.tape, h.output, by simpa [World.setCell] using h.size, fun k hk hb => ?_⟩
  rw [Below.heap_setCell _ _ _ _ (by omega)]
  exact h.block k hk hb
theorem But.go (h : But R w w1) (hb : Below w1.heap.size w1 w') : But R w w' := h.trans (But.of_below hb)
end
theorem below_alloc (w : World) (o : Obj) : Below w.heap.size w (w.alloc o) := (Below.refl _ _).alloc (Nat.le_refl _) o
theorem Blk.go {w w' : World} {g t : Nat} {cs : Array Value} (h : Blk w g t cs) (hb : Below w.heap.size w w') : Blk w' g t cs := h.below hb h.lt

/-- Bytes as a string. -/
def bstr (l : List UInt8) : ByteArray := ⟨l.toArray⟩
theorem bstr_list (l : List UInt8) : (bstr l).data.toList = l := rfl
theorem bstr_of (b : ByteArray) : bstr b.data.toList = b := rfl
theorem bstr_size (l : List UInt8) : (bstr l).size = l.length := List.size_toArray ..
theorem size_list (s : ByteArray) : s.data.toList.length = s.size := Array.length_toList
theorem extract_bstr (s : ByteArray) (a b : Nat) : s.extract a b = bstr ((s.data.toList.drop a).take (b - a)) := by
  apply ByteArray.ext
  apply Array.ext'
  rw [ByteArray.data_extract, Array.toList_extract]
  rfl
theorem str_inj {a b : List UInt8} (h : bstr a = bstr b) : a = b := congrArg (fun x : ByteArray => x.data.toList) h
end Go.Proofs.Ytheaknghgpafpaa
namespace Go.Proofs.Ytheaknghgpafpaa
open Go.RowKit

set_option maxHeartbeats 4000000 in
theorem class_any (r : Int) (w : World) : Calls Try.prog 70 #[.int .i64 r] w fun e w' => e = .returned (.int .i64 (Nf.cls r)) ∧ w' = w := by
  obtain ⟨c, hc⟩ : ∃ c, Nf.cls r = c := ⟨_, rfl⟩
  rw [hc]
  unfold Nf.cls at hc
  by_cases h1 : r < 0x300 ∨ r > 0x345
  · rw [if_pos h1] at hc
    subst hc
    rcases h1 with h1 | h1
    · skip
      have g0 : r < 768 := by omega
      clear h1
      go_enter Try.func70, Try.ntmps70
      go_wp2
      go_ret
      exact ⟨rfl, rfl⟩
    · skip
      have g0 : ¬ r < 768 := by omega
      have g1 : 837 < r := by omega
      clear h1
      go_enter Try.func70, Try.ntmps70
      go_wp2
      go_ret
      exact ⟨rfl, rfl⟩
  rw [if_neg h1] at hc
  by_cases h2 : r ≤ 0x314 ∨ r = 0x340 ∨ r = 0x341
  · rw [if_pos h2] at hc
    subst hc
    rcases h2 with h2 | h2 | h2
    · skip
      have g0 : ¬ r < 768 := by omega
      have g1 : ¬ 837 < r := by omega
      have g2 : r ≤ 788 := by omega
      clear h1 h2
      go_enter Try.func70, Try.ntmps70
      go_wp2
      go_ret
      exact ⟨rfl, rfl⟩
    · subst h2
      clear h1
      go_enter Try.func70, Try.ntmps70
      go_wp2
      go_ret
      exact ⟨rfl, rfl⟩
    · subst h2
      clear h1
      go_enter Try.func70, Try.ntmps70
      go_wp2
      go_ret
      exact ⟨rfl, rfl⟩
  rw [if_neg h2] at hc
  by_cases h3 : r = 0x315
  · rw [if_pos h3] at hc
    subst hc
    subst h3
    clear h1 h2
    go_enter Try.func70, Try.ntmps70
    go_wp2
    go_ret
    exact ⟨rfl, rfl⟩
  rw [if_neg h3] at hc
  by_cases h4 : r ≤ 0x319 ∨ (r ≥ 0x323 ∧ r ≤ 0x326)
  · rw [if_pos h4] at hc
    subst hc
    rcases h4 with h4 | h4
    · skip
      have g0 : ¬ r < 768 := by omega
      have g1 : ¬ 837 < r := by omega
      have g2 : ¬ r ≤ 788 := by omega
      have g3 : ¬ r = 832 := by omega
      have g4 : ¬ r = 833 := by omega
      have g5 : ¬ r = 789 := by omega
      have g6 : r ≤ 793 := by omega
      clear h1 h2 h3 h4
      go_enter Try.func70, Try.ntmps70
      go_wp2
      go_ret
      exact ⟨rfl, rfl⟩
    · skip
      have g0 : ¬ r < 768 := by omega
      have g1 : ¬ 837 < r := by omega
      have g2 : ¬ r ≤ 788 := by omega
      have g3 : ¬ r = 832 := by omega
      have g4 : ¬ r = 833 := by omega
      have g5 : ¬ r = 789 := by omega
      have g6 : ¬ r ≤ 793 := by omega
      have g7 : 803 ≤ r := by omega
      have g8 : r ≤ 806 := by omega
      clear h1 h2 h3 h4
      go_enter Try.func70, Try.ntmps70
      go_wp2
      go_ret
      exact ⟨rfl, rfl⟩
  rw [if_neg h4] at hc
  by_cases h5 : r = 0x31B
  · rw [if_pos h5] at hc
    subst hc
    subst h5
    clear h1 h2 h3 h4
    go_enter Try.func70, Try.ntmps70
    go_wp2
    go_ret
    exact ⟨rfl, rfl⟩
  rw [if_neg h5] at hc
  by_cases h6 : r = 0x327 ∨ r = 0x328
  · rw [if_pos h6] at hc
    subst hc
    rcases h6 with h6 | h6
    · subst h6
      clear h1 h2 h3 h4 h5
      go_enter Try.func70, Try.ntmps70
      go_wp2
      go_ret
      exact ⟨rfl, rfl⟩
    · subst h6
      clear h1 h2 h3 h4 h5
      go_enter Try.func70, Try.ntmps70
      go_wp2
      go_ret
      exact ⟨rfl, rfl⟩
  rw [if_neg h6] at hc
  by_cases h7 : r = 0x338
  · rw [if_pos h7] at hc
    subst hc
    subst h7
    clear h1 h2 h3 h4 h5 h6
    go_enter Try.func70, Try.ntmps70
    go_wp2
    go_ret
    exact ⟨rfl, rfl⟩
  rw [if_neg h7] at hc
  by_cases h8 : r = 0x345
  · rw [if_pos h8] at hc
    subst hc
    subst h8
    clear h1 h2 h3 h4 h5 h6 h7
    go_enter Try.func70, Try.ntmps70
    go_wp2
    go_ret
    exact ⟨rfl, rfl⟩
  rw [if_neg h8] at hc
  subst hc
  have g0 : ¬ r < 768 := by omega
  have g1 : ¬ 837 < r := by omega
  have g2 : ¬ r ≤ 788 := by omega
  have g3 : ¬ r = 832 := by omega
  have g4 : ¬ r = 833 := by omega
  have g5 : ¬ r = 789 := by omega
  have g6 : ¬ r ≤ 793 := by omega
  have g7 : ¬ r = 795 := by omega
  have g8 : ¬ r = 807 := by omega
  have g9 : ¬ r = 808 := by omega
  have g10 : ¬ r = 824 := by omega
  have g11 : ¬ r = 837 := by omega
  by_cases hx : 803 ≤ r
  · have g20 : ¬ r ≤ 806 := by omega
    clear h1 h2 h3 h4 h5 h6 h7 h8
    go_enter Try.func70, Try.ntmps70
    go_wp2
    go_ret
    exact ⟨rfl, rfl⟩
  · clear h1 h2 h3 h4 h5 h6 h7 h8
    go_enter Try.func70, Try.ntmps70
    go_wp2
    go_ret
    exact ⟨rfl, rfl⟩
theorem in_any (r a n : Int) (w : World) (h : IntKind.i64.wrap (a + n) = a + n) : Calls Try.prog 78 #[.int .i64 r, .int .i64 a, .int .i64 n] w fun e w' => e = .returned (.bool (decide (a ≤ r ∧ r < a + n))) ∧ w' = w := by
  by_cases h1 : a ≤ r
  · rw [show decide (a ≤ r ∧ r < a + n) = decide (r < a + n) by simp [h1]]
    go_enter Try.func78, Try.ntmps78
    go_wp2
    go_ret
    exact ⟨rfl, rfl⟩
  · rw [show decide (a ≤ r ∧ r < a + n) = false by simp [h1]]
    go_enter Try.func78, Try.ntmps78
    go_wp2
    go_ret
    exact ⟨rfl, rfl⟩
theorem hangul_any (r : Int) (w : World) : Calls Try.prog 79 #[.int .i64 r] w fun e w' => e = .returned (.bool (Nf.hangul r)) ∧ w' = w := by
  unfold Nf.hangul
  by_cases h1 : 44032 ≤ r
  · rw [show decide (0xAC00 ≤ r ∧ r < 0xAC00 + 11172) = decide (r < 55204) by simp [h1]]
    go_enter Try.func79, Try.ntmps79
    go_wp2
    go_ret
    exact ⟨rfl, rfl⟩
  · rw [show decide (0xAC00 ≤ r ∧ r < 0xAC00 + 11172) = false by simp [h1]]
    go_enter Try.func79, Try.ntmps79
    go_wp2
    go_ret
    exact ⟨rfl, rfl⟩
theorem byClass_any (a b : Int) (w : World) : Calls Try.prog 75 #[.int .i64 a, .int .i64 b] w fun e w' => e = .returned (.int .i64 (Nf.cls a - Nf.cls b)) ∧ w' = w := by
  have HA := hide (fun W => class_any a W)
  have HB := hide (fun W => class_any b W)
  have hw : IntKind.i64.wrap (Nf.cls a - Nf.cls b) = Nf.cls a - Nf.cls b := IntWalk.i64_in _ (by have := Nf.cls_le a; have := Nf.cls_le b; omega)
  generalize Nf.cls a = ca at *
  generalize Nf.cls b = cb at *
  go_enter Try.func75, Try.ntmps75
  go_wp2_with fail
  refine cq (HA.out _) ?_
  go_wp2_with fail
  refine cq (HB.out _) ?_
  go_wp2
  go_ret
  exact ⟨rfl, rfl⟩
end Go.Proofs.Ytheaknghgpafpaa
namespace Go.Proofs.Ytheaknghgpafpaa
open Go.RowKit Go.WideShapes

theorem laidOut_n : laidOutB Try.prog = true := by kernel_rfl
theorem row_pr : (133 : TypeId) < Try.prog.types.size := of_decide_eq_true (by kernel_rfl)
theorem at_pr : Try.prog.keyTypeAt 2 133 = true := by kernel_rfl
theorem key_pr : WideMaps.KeyLaw Try.prog 133 := deep_law_laid laidOut_n (m := 2) (by decide) row_pr at_pr (by rw [Try.underlying133])
theorem law_pr : Maps.Keyed Try.prog 133 := Maps.Keyed.of_law key_pr
theorem law_int : Maps.Keyed Try.prog 3 := Maps.int_keyed Try.underlying3
theorem cells_pr : Try.prog.cellsOf 133 = 2 := by kernel_rfl
theorem cells_i : Try.prog.cellsOf 3 = 1 := by kernel_rfl
theorem keyT_pr : Try.prog.keyType 133 = true := by kernel_rfl
theorem types_pr : ∃ m, Try.prog.types.size = m + 1 := by
  have h := row_pr
  generalize Try.prog.types.size = s at h
  cases s with
  | zero => cases h
  | succ m => exact ⟨m, rfl⟩
def prV (x : Int × Int) : Value := .agg #[.int .i64 x.1, .int .i64 x.2]
def klP (x : Int × Int) : Lit := .string (keyBytes [.int .i64 x.1, .int .i64 x.2])
def Wf2 (x : Int × Int) : Prop := (Lit.int .i64 x.1).wf = true ∧ (Lit.int .i64 x.2).wf = true
theorem keyOf_pr {x : Int × Int} (h : Wf2 x) : keyOf Try.prog 133 (prV x) = some (klP x) := by
  obtain ⟨m, hm⟩ := types_pr
  obtain ⟨h1, h2⟩ := h
  unfold keyOf prV
  simp only [Try.underlying133]
  rw [if_pos (by simp [keyT_pr, Value.formed, Try.underlying133, cells_pr]), hm]
  unfold Program.keyLits
  simp only [Try.underlying133, Value.cells]
  simp [cells_pr, cells_i, Program.keyLits, Try.underlying3, h1, h2, List.range_succ, List.mapM_cons, klP]
theorem prV_inj {x y : Int × Int} (h : prV x = prV y) : x = y := by
  unfold prV at h
  simp only [Value.agg.injEq, Array.mk.injEq, List.cons.injEq, Value.int.injEq, true_and, and_true] at h
  exact Prod.ext h.1 h.2
theorem klP_inj {x y : Int × Int} (hx : Wf2 x) (hy : Wf2 y) (h : klP x = klP y) : x = y :=
  prV_inj (key_pr.inj (keyOf_pr hx) (by rw [h]; exact keyOf_pr hy))
/-- The reader of elements that are pairs. -/
def pairE : List Value → Option (DataW Unit × List MemPlace)
  | [.int .i64 a, .int .i64 b] => some (.agg [.lit (.int .i64 a), .lit (.int .i64 b)], [])
  | _ => none
def pairElem (v : Value) : Option (DataW Unit × List MemPlace) := match v with
  | .agg cs => pairE cs.toList
  | _ => none
def prD (x : Int × Int) : DataW Unit := .agg [.lit (.int .i64 x.1), .lit (.int .i64 x.2)]
theorem pairElem_mk (x : Int × Int) : pairElem (prV x) = some (prD x, []) := rfl
theorem pairElem_inv {v : Value} {y : DataW Unit × List MemPlace} (h : pairElem v = some y) : ∃ x, v = prV x ∧ y = (prD x, []) := by
  unfold pairElem at h
  split at h
  · rename_i cs
    unfold pairE at h
    split at h
    · rename_i a b he
      cases h
      refine ⟨(a, b), ?_, rfl⟩
      unfold prV
      congr 1
      exact Array.ext' he
    · cases h
  · cases h
theorem two_cells {c : List Value} (h : c.length = 2) : ∃ c0 c1, c = [c0, c1] := by
  match c, h with
  | [c0, c1], _ => exact ⟨c0, c1, rfl⟩
theorem keyLit_int {m : Nat} {c : Value} {x : List Lit} (h : Try.prog.keyLits (m + 1) 3 [c] = some x) : ∃ z, c = .int .i64 z ∧ (Lit.int .i64 z).wf = true ∧ x = [.int .i64 z] := by
  cases c <;> simp [Program.keyLits, Try.underlying3] at h
  obtain ⟨⟨rfl, hw⟩, rfl⟩ := h
  exact ⟨_, rfl, hw, rfl⟩
theorem keyOf_pr_inv {key : Value} {kl : Lit} (h : keyOf Try.prog 133 key = some kl) : ∃ x, Wf2 x ∧ key = prV x ∧ kl = klP x := by
  obtain ⟨m, hm⟩ := types_pr
  unfold keyOf at h
  simp only [Try.underlying133] at h
  split at h
  · rename_i hf
    rw [hm] at h
    simp only [Bool.and_eq_true] at hf
    obtain ⟨ls, hl, rfl⟩ := Option.map_eq_some_iff.1 h
    have hsz : 2 ≤ Try.prog.types.size := Nat.succ_le_of_lt (Nat.lt_of_le_of_lt (Nat.succ_le_of_lt (Nat.pos_of_ne_zero (by decide : (133 : Nat) ≠ 0))) row_pr)
    obtain ⟨m', rfl⟩ : ∃ m', m = m' + 1 := ⟨m - 1, by omega⟩
    unfold Program.keyLits at hl
    simp only [Try.underlying133] at hl
    split at hl
    · rename_i hc
      rw [cells_pr] at hc
      have hfo := hf.2
      simp only [Value.formed, Try.underlying133, cells_pr] at hfo
      split at hfo
      · rename_i cs
        obtain ⟨c⟩ := cs
        simp only [Value.cells] at hc hl
        obtain ⟨c0, c1, rfl⟩ := two_cells hc
        simp only [cells_i, List.range_succ, List.range_zero, List.nil_append, List.cons_append, List.mapM_cons, List.mapM_nil] at hl
        simp only [Nat.zero_mul, Nat.one_mul, List.drop_zero, List.take_succ_cons, List.take_zero, List.drop_succ_cons] at hl
        obtain ⟨k0, h0⟩ := Option.map_eq_some_iff.1 hl
        obtain ⟨h0, hk⟩ := h0
        cases e0 : Try.prog.keyLits (m' + 2) 3 [c0] with
        | none => rw [e0] at h0; cases h0
        | some x0 =>
          cases e1 : Try.prog.keyLits (m' + 2) 3 [c1] with
          | none => rw [e0, e1] at h0; cases h0
          | some x1 =>
            rw [e0, e1] at h0
            cases h0
            obtain ⟨z0, rfl, w0, rfl⟩ := keyLit_int e0
            obtain ⟨z1, rfl, w1, rfl⟩ := keyLit_int e1
            refine ⟨(z0, z1), ⟨w0, w1⟩, rfl, ?_⟩
            rw [← hk]; rfl
      · cases hfo
      · cases hfo
    · cases hl
  · cases h
end Go.Proofs.Ytheaknghgpafpaa
namespace Go.Proofs.Ytheaknghgpafpaa
open Go.RowKit Go.WideShapes

/-- A text's runes from a byte on. -/
inductive Runes (s : ByteArray) : Nat → List Int → Prop
  | nil (pos : Nat) (h : ¬ pos < s.size) : Runes s pos []
  | cons (pos : Nat) (r : Int) (l : List Int) (h : pos < s.size) (hr : (Utf8.decode s pos).1 = r) (hl : Runes s (pos + (Utf8.decode s pos).2) l) : Runes s pos (r :: l)
/-- A map of pairs that holds these. -/
structure PM (w : World) (b n : Nat) (l : List ((Int × Int) × Int)) (D : DataW Unit) : Prop where
  own : w.ownsMap Try.prog 133 (plainElem Try.prog 3) b n D
  is : Maps.IsMap D
  at_ : ∀ x, Wf2 x → D.atKey (klP x) (.lit (.int .i64 0)) = .lit (.int .i64 ((Nf.lookW x l).getD 0))
  has : ∀ x, Wf2 x → Maps.has D (klP x) = (Nf.lookW x l).isSome
theorem lookW_snoc (x y : Int × Int) (w : Int) : ∀ l, Nf.lookW x (l ++ [(y, w)]) = if (Nf.lookW x l).isSome then Nf.lookW x l else if y = x then some w else none
  | [] => by simp [Nf.lookW]
  | z :: l => by
    rw [List.cons_append, Nf.lookW, Nf.lookW]
    split
    · simp
    · exact lookW_snoc x y w l
theorem PM.next {w w' : World} {b n : Nat} {l : List ((Int × Int) × Int)} {D : DataW Unit} {x : Int × Int} {v : Int} (h : PM w b n l D) (hx : Wf2 x) (hn : Nf.lookW x l = none) (ho : w'.ownsMap Try.prog 133 (plainElem Try.prog 3) b (n + 1) (D.put (klP x) (.lit (.int .i64 v)))) : PM w' b (n + 1) (l ++ [(x, v)]) (D.put (klP x) (.lit (.int .i64 v))) := by
  refine ⟨ho, h.is.put _ _, fun y hy => ?_, fun y hy => ?_⟩
  · by_cases hm : y = x
    · subst hm
      rw [Maps.atKey_put_same h.is (by simp [WideAt.IsKeyLit, klP]), lookW_snoc, hn]
      simp
    · rw [Maps.atKey_put_other (fun e => hm (klP_inj hy hx e)), h.at_ y hy, lookW_snoc, if_neg (fun e : x = y => hm e.symm)]
      cases Nf.lookW y l <;> rfl
  · by_cases hm : y = x
    · subst hm
      rw [Maps.has_put_same h.is (by simp [WideAt.IsKeyLit, klP]), lookW_snoc, hn]
      simp
    · rw [Maps.has_put_other (fun e => hm (klP_inj hy hx e)), h.has y hy, lookW_snoc, if_neg (fun e : x = y => hm e.symm)]
      cases Nf.lookW y l <;> rfl
theorem map_sameN {w w' : World} {P : Program} {k : TypeId} {R : Value → Option (DataW Unit × List MemPlace)} {b n : Nat} {D : DataW Unit} (h : w.ownsMap P k R b n D) (e : w'.heap[b]? = w.heap[b]?) : w'.ownsMap P k R b n D := by
  obtain ⟨es, clock, hb, rest⟩ := h
  exact ⟨es, clock, e.trans hb, rest⟩
theorem PM.go {w w' : World} {b n : Nat} {l : List ((Int × Int) × Int)} {D : DataW Unit} (h : PM w b n l D) (hb : w'.heap[b]? = w.heap[b]?) : PM w' b n l D := ⟨map_sameN h.own hb, h.is, h.at_, h.has⟩
theorem PM.nil (w : World) : PM (w.alloc (.map #[] 0)) w.heap.size 0 [] (.map []) := ⟨World.ownsMap_made _ _ _ _, Maps.isMap_empty, fun _ _ => rfl, fun _ _ => rfl⟩
def intVs (l : List Int) : List Value := l.map fun z => .int .i64 z
theorem lookW_app (x : Int × Int) : ∀ l m, Nf.lookW x l = none → Nf.lookW x (l ++ m) = Nf.lookW x m
  | [], _, _ => rfl
  | z :: l, m, h => by
    rw [Nf.lookW] at h
    rw [List.cons_append, Nf.lookW]
    split at h
    · cases h
    · rename_i hz
      rw [if_neg hz]
      exact lookW_app x l m h
theorem lookW_row (a mark : Int) : ∀ ls ws, a ∉ ls → Nf.lookW (a, mark) (Nf.rowOf mark ls ws) = none
  | [], _, _ => by rw [Nf.rowOf]; rfl; intro _ _ _ _ h; cases h
  | x :: ls, [], _ => by rw [Nf.rowOf]; rfl; intro _ _ _ _ _ h; cases h
  | x :: ls, v :: ws, h => by
    rw [Nf.rowOf, Nf.lookW, if_neg (fun e => h (by cases e; exact List.mem_cons_self ..))]
    exact lookW_row a mark ls ws fun hm => h (List.mem_cons_of_mem _ hm)
theorem rowOf_next (mark : Int) : ∀ (ls ws : List Int) (j : Nat) (a v : Int), ls[j]? = some a → ws[j]? = some v → Nf.rowOf mark (ls.take (j + 1)) (ws.take (j + 1)) = Nf.rowOf mark (ls.take j) (ws.take j) ++ [((a, mark), v)]
  | [], _, _, _, _, h, _ => by cases h
  | _ :: _, [], _, _, _, _, h => by cases h
  | x :: ls, y :: ws, 0, a, v, h1, h2 => by cases h1; cases h2; rfl
  | x :: ls, y :: ws, j + 1, a, v, h1, h2 => by
    show _ :: Nf.rowOf mark (ls.take (j + 1)) (ws.take (j + 1)) = _
    rw [rowOf_next mark ls ws j a v h1 h2]
    rfl
theorem wf_i64r {a : Int} (h : (Lit.int .i64 a).wf = true) : -9223372036854775808 ≤ a ∧ a ≤ 9223372036854775807 := by
  have := (Go.Lit.wf_int_iff .i64 a).1 h
  exact this
theorem But.iterAtN {R k : Nat} {w w1 : World} (h : But R w w1) (hk : w.heap.size ≤ k) : ∀ (s : ByteArray) (q : Nat), But R w (w1.iterAt k s q) := fun s q =>
  ⟨h.os, h.tape, h.output, by rw [Lib.iterAt_size]; exact h.size, fun j hj hne => (Lib.iterAt_other _ _ _ _ _ (by omega)).trans (h.block j hj hne)⟩
theorem But.cellN {R g : Nat} {w w1 : World} (h : But R w w1) (hg : g < w.heap.size) (hne : g ≠ R) (i : Nat) : w1.cell? ⟨g, i, none⟩ = w.cell? ⟨g, i, none⟩ := by
  unfold World.cell?
  dsimp only
  rw [h.block g hg hne]
theorem But.grownN {R : Nat} {w w1 w2 : World} (h : But R w w1) (hg : w1.grownBy w2 (some R)) : But R w w2 :=
  ⟨hg.os.trans h.os, hg.tape.trans h.tape, hg.output.trans h.output, Nat.le_trans h.size hg.size, fun k hk hne => (hg.block k (Nat.lt_of_lt_of_le hk h.size) (fun e => hne (Option.some.inj e))).trans (h.block k hk hne)⟩
theorem rowOf_more (mark : Int) : ∀ (ls ws : List Int), Nf.rowOf mark ls (ws.take ls.length) = Nf.rowOf mark ls ws
  | [], ws => by rw [Nf.rowOf, Nf.rowOf] <;> (intro _ _ _ _ h; cases h)
  | x :: ls, [] => rfl
  | x :: ls, v :: ws => by
    show _ :: Nf.rowOf mark ls (ws.take ls.length) = _
    rw [rowOf_more mark ls ws]
    rfl
theorem notMem_take {l : List Int} {j : Nat} {a : Int} (h : l.Nodup) (ha : l[j]? = some a) : a ∉ l.take j := by
  intro hm
  obtain ⟨i, hi, e⟩ := List.mem_take_iff_getElem.1 hm
  obtain ⟨h1, h2⟩ := List.getElem?_eq_some_iff.1 ha
  have := (List.getElem_inj h).1 (e.trans h2.symm)
  omega
set_option maxHeartbeats 8000000 in
theorem row_any (b n : Nat) (mark : Int) (s : ByteArray) (ls ws : List Int) (A : Option Addr) (c : Nat) (l : List ((Int × Int) × Int)) (D : DataW Unit) (w : World) (h : PM w b n l D) (hs : Runes s 0 ls) (hr : Reads w w.heap.size 1 A ws.length (intVs ws)) (hlw : ls.length ≤ ws.length)
    (hnd : ls.Nodup) (hfr : ∀ a ∈ ls, Nf.lookW (a, mark) l = none) (hwf : ∀ a ∈ ls, Wf2 (a, mark)) (hwv : ∀ v ∈ ws, (Lit.int .i64 v).wf = true) (hn : n + ls.length ≤ 1000000) :
    Calls Try.prog 84 #[.map (some b), .int .i64 mark, .string s, .slice A ws.length c] w fun e w' => ∃ D', e = .returned (.tuple #[]) ∧ PM w' b (n + ls.length) (l ++ Nf.rowOf mark ls ws) D' ∧ But b w w' := by
  have H := hide h
  have HS := hide hs
  have HR := hide hr
  have HNd := hide hnd
  have HFr := hide hfr
  have HWf := hide hwf
  have HWv := hide hwv
  have HBl := hide h.own.lt
  clear h hs hr hnd hfr hwf hwv
  obtain ⟨N, hN⟩ : ∃ N, ls.length = N := ⟨_, rfl⟩
  obtain ⟨M, hM⟩ : ∃ M, ws.length = M := ⟨_, rfl⟩
  rw [hN] at hlw hn ⊢
  rw [hM] at hlw HR ⊢
  have HN := hide hN
  have HM := hide hM
  clear hN hM
  go_enter Try.func84, Try.ntmps84
  go_wp2
  go_loopg [8] N (fun gk vk wr => ∃ (j pos : Nat) (D' : DataW Unit), gk = N - j ∧ j ≤ N ∧ vk = .int .i64 (j : Int) ∧ Runes s pos (ls.drop j) ∧ PM wr b (n + j) (l ++ Nf.rowOf mark (ls.take j) (ws.take j)) D' ∧ wr.heap[w.heap.size]? = some (.stringIter s pos) ∧ But b w wr)
  case atStart => exact ⟨0, 0, D, rfl, by omega, rfl, HS.out, by rw [Nat.add_zero, List.take_zero, List.take_zero, show Nf.rowOf mark [] [] = [] from rfl, List.append_nil]; exact H.out.go (Below.heap_alloc w _ b HBl.out), World.iter_heap _ _ _, (But.refl b w).alloc _⟩
  case round =>
    obtain ⟨j, pos, D', hgk, hj, rfl, hru, hp, hit, hb⟩ := hrel
    have Hg := hide hgk
    have HP := hide hp
    have HI := hide hit
    have HB := hide hb
    clear hgk hp hb
    by_cases hlt : j < N
    · obtain ⟨a, ha⟩ : ∃ a, ls[j]? = some a := ⟨_, List.getElem?_eq_getElem (by rw [HN.out]; exact hlt)⟩
      obtain ⟨v, hv⟩ : ∃ v, ws[j]? = some v := ⟨_, List.getElem?_eq_getElem (by rw [HM.out]; omega)⟩
      obtain ⟨q1, q2⟩ := List.getElem?_eq_some_iff.1 ha
      rw [List.drop_eq_getElem_cons q1, q2] at hru
      rcases hru with _ | ⟨_, _, _, hps, hde, hl⟩
      have hnx : ∀ ty, (Instr.next (.pointer (some ⟨w.heap.size, 0, none⟩)) true ty).run Try.prog wr = _ := fun ty => Lib.run_next_any_at wr w.heap.size s pos ty hit hps
      rw [hde] at hnx
      have Hl := hide hl
      have Hps := hide hps
      have Ha := hide ha
      have Hv := hide hv
      have hwa := HWf.out a (List.mem_of_getElem? ha)
      have hcv : IntKind.i64.wrap a = a := IntWalk.i64_in _ (wf_i64r hwa.1)
      obtain ⟨gb, off, rfl, hgl, hcell⟩ := HR.out.2 (by omega)
      have y00 : w.cell? ⟨gb, off + j, none⟩ = some (.int .i64 v) := hcell j _ (by unfold intVs; rw [List.getElem?_map, Hv.out]; rfl)
      have hgne : gb ≠ b := fun e => by
        obtain ⟨es, cl, hmb, _⟩ := H.out.own
        subst e
        simp [World.cell?, hmb] at y00
      have hgi : gb ≠ w.heap.size := Nat.ne_of_lt hgl
      have y0 : wr.cell? ⟨gb, off + j, none⟩ = some (.int .i64 v) := (HB.out.cellN hgl hgne _).trans y00
      have y1 : ∀ q, (wr.iterAt w.heap.size s q).cell? ⟨gb, off + j, none⟩ = some (.int .i64 v) := fun q => ((HB.out.iterAtN (Nat.le_refl _) s q).cellN hgl hgne _).trans y00
      clear y00
      have hjM : j < M := by omega
      have Hhit := hide hit
      have hwv := HWv.out v (List.mem_of_getElem? Hv.out)
      have HP2 : ∀ q, PM (wr.iterAt w.heap.size s q) b (n + j) (l ++ Nf.rowOf mark (ls.take j) (ws.take j)) D' := fun q => HP.out.go (Lib.iterAt_other _ _ _ _ _ (Nat.ne_of_lt HBl.out))
      have HP2 := hide HP2
      have hnj : n + j < maxLen := by unfold maxLen; omega
      clear hl hps ha hv q1 q2 hde hcell hit
      go_wp2_with (at_mapUpdate; refine wpList_mapUpdate_own _ rfl _ _ _ 128 rfl 133 3 law_pr Try.underlying128 _ b (n + j) D' rfl (HP2.out _).own hnj _ _ _ (by rfl) (by rfl) (keyOf_pr hwa) _ [] (plainElem_int Try.underlying3 hwv) ?_; intro w8 hown8 hgrow8)
      go_roundg (N - (j + 1))
      case measure => have := Hg.out; omega
      case rel =>
        have hrx := rowOf_next mark ls ws j a v Ha.out Hv.out
        refine ⟨j + 1, _, D'.put (klP (a, mark)) (.lit (.int .i64 v)), rfl, by omega, by first | rfl | go_num, Hl.out, ?_, ?_, ?_⟩
        · rw [hrx, ← List.append_assoc]
          refine PM.next (HP2.out 0) hwa ?_ hown8
          rw [lookW_app _ _ _ (HFr.out a (List.mem_of_getElem? Ha.out))]
          exact lookW_row a mark _ _ (notMem_take HNd.out Ha.out)
        · exact (hgrow8.block _ (by rw [Lib.iterAt_size]; exact (Array.getElem?_eq_some_iff.1 Hhit.out).1) (fun e => by have := HBl.out; cases e; omega)).trans (Lib.iterAt_heap _ _ _ _ _ Hhit.out)
        · exact (HB.out.iterAtN (Nat.le_refl _) _ _).grownN hgrow8
    · have hjN : j = N := by omega
      subst hjN
      rw [List.drop_of_length_le (by rw [HN.out]; exact Nat.le_refl _)] at hru
      rcases hru with ⟨_, hps⟩ | _
      have hnx : ∀ ty, (Instr.next (.pointer (some ⟨w.heap.size, 0, none⟩)) true ty).run Try.prog wr = _ := fun ty => Lib.run_next_end_at wr w.heap.size s pos ty hit hps
      have Hps := hide hps
      clear hit hps
      go_wp2
      go_end0
      refine ⟨D', rfl, ?_, HB.out⟩
      have hp := HP.out
      rw [List.take_of_length_le (by rw [HN.out]; exact Nat.le_refl _), ← HN.out, rowOf_more] at hp
      rwa [HN.out] at hp
end Go.Proofs.Ytheaknghgpafpaa
