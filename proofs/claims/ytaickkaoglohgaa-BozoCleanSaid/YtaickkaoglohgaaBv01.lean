/- Words for memory: a slice that reads as a list; a block that is known whole; what a call may have turned; append of one element. Sections 1 and 2 are turned from the guide's extra-words. · The program's 'Is', 'Len', 'Put'. · The program's iterator over a text's pieces; 'Loose', 'Valid'. · Words for memory that the tokens' walks use: what a call may have turned but one block; strings as lists of bytes. -/
import Derived.Test.YtaickkaoglohgaaBv00
import Derived.Below
import Derived.Laws.OwnMore
import Derived.Deep.AppendLies
import Derived.Deep.Draws
import Derived.Laws.Rows
import Derived.Maps.AppendAt
import Derived.RegionTactic
import Derived.OwnWalk
import Derived.Laws.IdiomStrings
import Derived.WalkKit
import Derived.LoopN
import Derived.RangeFuncNested
import Derived.RangeFuncBound
import Derived.RangeFuncCalls
import Derived.RangeFuncLeaves
import Derived.RangeFuncBox
import Derived.Lib.AppendStr
import Derived.Shelf.Abstract
import Derived.Shelf.RegionOpen
import Derived.OwnWalkIn
import Derived.TacticsInMore
import Derived.LoopNIn
import Derived.LoopIn
set_option linter.unusedSimpArgs false
set_option linter.unusedVariables false
namespace Go.Proofs.Ytaickkaoglohgaa
open Go.RowKit

theorem block_of_add (a : Addr) (n : Nat) : (a.add n).block = a.block := by unfold Addr.add; split <;> rfl
theorem add_of_add (a : Addr) (i j : Nat) : (a.add i).add j = a.add (i + j) := by
  unfold Addr.add
  by_cases hi : i = 0 <;> by_cases hj : j = 0 <;> simp [hi, hj, Nat.add_assoc]

/-- The slice value '.slice A n c' holds the cells xs ('size' cells an element) and lies below block B. -/
def Reads (w : World) (B size : Nat) (A : Option Addr) (n : Nat) (xs : List Value) : Prop :=
  xs.length = n * size ∧ (0 < n → ∃ b off, A = some ⟨b, off, none⟩ ∧ b < B ∧ ∀ j u, xs[j]? = some u → w.cell? ⟨b, off + j, none⟩ = some u)

section
variable {w w' : World} {B B' size n : Nat} {A : Option Addr} {xs : List Value}
theorem Reads.none_ : Reads w B size A 0 [] := ⟨by simp, fun h => absurd h (by omega)⟩
theorem Reads.keep (h : Reads w B size A n xs) (hk : ∀ p : Addr, p.block < B → w'.cell? p = w.cell? p) : Reads w' B size A n xs :=
  ⟨h.1, fun hn => by
    obtain ⟨b, off, e, hb, hc⟩ := h.2 hn
    exact ⟨b, off, e, hb, fun j u hu => (hk _ hb).trans (hc j u hu)⟩⟩
theorem Reads.more (h : Reads w B size A n xs) (hB : B ≤ B') : Reads w B' size A n xs :=
  ⟨h.1, fun hn => by
    obtain ⟨b, off, e, hb, hc⟩ := h.2 hn
    exact ⟨b, off, e, by omega, hc⟩⟩
theorem Reads.below (h : Reads w B size A n xs) (hb : Below B w w') : Reads w' B size A n xs := h.keep fun _ hp => hb.cell hp
theorem Reads.of_own {base : Nat} {e : TypeId} {c : Nat} (h : w.ownsRow base e size (.slice A n c) n xs) : Reads w w.heap.size size A n xs := by
  refine ⟨h.1, fun hn => ?_⟩
  obtain ⟨g, cap, hv, _, hlt⟩ := h.form hn
  have hA : A = some ⟨g, 0, none⟩ := by injection hv
  subst hA
  exact ⟨g, 0, rfl, hlt, fun j u hu => by
    have := h.cells (g := g) rfl j u hu
    unfold Addr.add at this
    split at this
    · subst_vars; exact this
    · exact this⟩
end

/-- Block g is just the cells cs of element type t, none frozen. -/
def Blk (w : World) (g : Nat) (t : TypeId) (cs : Array Value) : Prop := w.heap[g]? = some (.cells cs t (0, 0))

section
variable {w w' : World} {g : Nat} {t : TypeId} {cs : Array Value}
theorem Blk.lt (h : Blk w g t cs) : g < w.heap.size := by
  rcases Nat.lt_or_ge g w.heap.size with hlt | hge
  · exact hlt
  · unfold Blk at h; rw [Array.getElem?_eq_none hge] at h; cases h
theorem Blk.cell (h : Blk w g t cs) (i : Nat) : w.cell? ⟨g, i, none⟩ = cs[i]? := cell_of_row w g i cs t (0, 0) h
theorem Blk.frozen (h : Blk w g t cs) (i : Nat) : w.frozen? ⟨g, i, none⟩ = false := by
  unfold Blk at h
  simp [World.frozen?, h]
theorem Blk.new (w : World) (t : TypeId) (cs : Array Value) : Blk (w.alloc (.cells cs t)) w.heap.size t cs := heap_alloc_new w _
theorem Blk.drew (h : Blk w g t cs) : Blk w.drew g t cs := h
theorem Blk.drewN (h : Blk w g t cs) (n : Nat) : Blk (w.drewN n) g t cs := h
theorem Blk.alloc (h : Blk w g t cs) (o : Obj) : Blk (w.alloc o) g t cs := (Below.heap_alloc w o g h.lt).trans h
theorem Blk.set_ (h : Blk w g t cs) (i : Nat) (u : Value) : Blk (w.setCell ⟨g, i, none⟩ u) g t (cs.setIfInBounds i u) := by
  unfold Blk at h ⊢
  simp [World.setCell, Array.getElem?_modify, h]
theorem Blk.far (h : Blk w g t cs) {p : Addr} (hp : g ≠ p.block) (u : Value) : Blk (w.setCell p u) g t cs := (Below.heap_setCell w p u g hp).trans h
theorem Blk.below {B : Nat} (h : Blk w g t cs) (hb : Below B w w') (hg : g < B) : Blk w' g t cs := (hb.block g hg).trans h
theorem Blk.grown {row : Option Nat} (h : Blk w g t cs) (hb : w.grownBy w' row) (hg : some g ≠ row) : Blk w' g t cs := (hb.block g h.lt hg).trans h
theorem Blk.ne_ {g' : Nat} {t' : TypeId} {cs' : Array Value} (h : Blk w g t cs) (h' : Blk w g' t' cs') (hne : t ≠ t') : g ≠ g' := by
  rintro rfl
  unfold Blk at h h'
  rw [h] at h'
  injection h' with h'
  injection h' with _ ht
  exact hne ht
theorem own_blk_ne {base : Nat} {e : TypeId} {size n : Nat} {v : Value} {xs : List Value} (h : w.ownsRow base e size v n xs) (hg : Blk w g t cs) (hne : e ≠ t) : v.ownBlock ≠ some g := by
  rcases h.2 with ⟨rfl, _⟩ | ⟨g', cap, cur, rfl, _, hh, _⟩
  · simp [Value.ownBlock]
  · intro he
    have : g' = g := by simpa [Value.ownBlock] using he
    subst this
    exact Blk.ne_ (t := e) hh hg hne rfl
end

/-- Block k is a row of cells of element type t. -/
def IsT (w : World) (k : Nat) (t : TypeId) : Prop := ∃ cs fr, w.heap[k]? = some (.cells cs t fr)

theorem Blk.isT {w : World} {g t : Nat} {cs : Array Value} (h : Blk w g t cs) : IsT w g t := ⟨cs, _, h⟩
theorem IsT.lt {w : World} {k t : Nat} (h : IsT w k t) : k < w.heap.size := by
  obtain ⟨cs, fr, h⟩ := h
  rcases Nat.lt_or_ge k w.heap.size with hlt | hge
  · exact hlt
  · rw [Array.getElem?_eq_none hge] at h; cases h

/-- What a call may have turned: of the blocks that were there, those from 'base' on that are rows of element type t, and the block b; nothing else. -/
structure Turn (base t b : Nat) (w w' : World) : Prop where
  os : w'.os = w.os
  tape : w'.tape = w.tape
  output : w'.output = w.output
  size : w.heap.size ≤ w'.heap.size
  block : ∀ k, k < w.heap.size → k ≠ b → ¬ (base ≤ k ∧ IsT w k t) → w'.heap[k]? = w.heap[k]?
  kind : ∀ k, k < w.heap.size → IsT w k t → IsT w' k t

section
variable {base t b : Nat} {w w1 w' : World}
theorem Turn.refl (base t b : Nat) (w : World) : Turn base t b w w := ⟨rfl, rfl, rfl, Nat.le_refl _, fun _ _ _ _ => rfl, fun _ _ h => h⟩
theorem Turn.trans (h : Turn base t b w w1) (k : Turn base t b w1 w') : Turn base t b w w' := by
  refine ⟨k.os.trans h.os, k.tape.trans h.tape, k.output.trans h.output, Nat.le_trans h.size k.size, fun i hi hb hn => ?_, fun i hi hT => k.kind i (Nat.lt_of_lt_of_le hi h.size) (h.kind i hi hT)⟩
  have e := h.block i hi hb hn
  rw [k.block i (Nat.lt_of_lt_of_le hi h.size) hb ?_, e]
  rintro ⟨h1, cs, fr, h2⟩
  exact hn ⟨h1, cs, fr, by rw [← e]; exact h2⟩
theorem Turn.below {B : Nat} (h : Turn base t b w w') (hB : B ≤ base) (hb : B ≤ b) (hs : B ≤ w.heap.size) : Below B w w' :=
  ⟨h.os, h.tape, h.output, h.size, fun k hk => h.block k (by omega) (by omega) (fun hh => by omega)⟩
theorem Turn.blk {g t' : Nat} {cs : Array Value} (h : Turn base t b w w') (hg : Blk w g t' cs) (hb : g ≠ b) (ht : t' ≠ t) : Blk w' g t' cs := by
  refine (h.block g hg.lt hb ?_).trans hg
  rintro ⟨_, cs', fr, h2⟩
  unfold Blk at hg
  rw [hg] at h2
  injection h2 with h2
  injection h2 with _ h3
  exact ht h3
theorem Turn.alloc (h : Turn base t b w w1) (o : Obj) : Turn base t b w (w1.alloc o) :=
  h.trans ⟨rfl, rfl, rfl, by simp, fun k hk _ _ => Below.heap_alloc _ _ _ hk, fun k hk ⟨cs, fr, h⟩ => ⟨cs, fr, (Below.heap_alloc _ _ _ hk).trans h⟩⟩
theorem Turn.drew (h : Turn base t b w w1) : Turn base t b w w1.drew := ⟨h.os, h.tape, h.output, h.size, h.block, h.kind⟩
theorem Turn.drewN (h : Turn base t b w w1) (n : Nat) : Turn base t b w (w1.drewN n) := ⟨h.os, h.tape, h.output, h.size, h.block, h.kind⟩
theorem isT_setCell {k : Nat} {p : Addr} {u : Value} (h : IsT w k t) : IsT (w.setCell p u) k t := by
  obtain ⟨cs, fr, h⟩ := h
  by_cases hk : k = p.block
  · subst hk
    unfold IsT
    simp only [World.setCell, Array.getElem?_modify, h, if_true, Option.map_some]
    exact ⟨_, _, rfl⟩
  · exact ⟨cs, fr, (Below.heap_setCell w p u k hk).trans h⟩
theorem Turn.setCell (h : Turn base t b w w1) {p : Addr} (hp : p.block = b ∨ w.heap.size ≤ p.block) (u : Value) : Turn base t b w (w1.setCell p u) := by
  refine ⟨h.os, h.tape, h.output, by simpa [World.setCell] using h.size, fun k hk hb hn => ?_, fun k hk hT => isT_setCell (h.kind k hk hT)⟩
  rw [Below.heap_setCell _ _ _ _ (by omega)]
  exact h.block k hk hb hn
theorem Turn.grown (h : Turn base t b w w1) {row : Option Nat} (hg : w1.grownBy w' row) (hr : ∀ k, row = some k → base ≤ k ∧ IsT w1 k t) (hk : ∀ k, row = some k → IsT w' k t) : Turn base t b w w' := by
  refine h.trans ⟨hg.os, hg.tape, hg.output, hg.size, fun k h1 _ hn => hg.block k h1 (fun e => hn (hr k e.symm)), fun k h1 hT => ?_⟩
  by_cases e : some k = row
  · exact hk k e.symm
  · obtain ⟨cs, fr, h2⟩ := hT
    exact ⟨cs, fr, (hg.block k h1 e).trans h2⟩
end

theorem own_isT {w : World} {base e size n : Nat} {v : Value} {xs : List Value} (h : w.ownsRow base e size v n xs) : ∀ k, v.ownBlock = some k → base ≤ k ∧ IsT w k e := by
  intro k hk
  rcases h.2 with ⟨rfl, _⟩ | ⟨g', cap, cur, rfl, hb, hh, _⟩
  · simp [Value.ownBlock] at hk
  · have : g' = k := by simpa [Value.ownBlock] using hk
    subst this
    exact ⟨hb, cur, _, hh⟩

/-- append of one element ('size' cells), which buildSlice has laid in a new block. -/
theorem wpList_append_elem {P : Program} (W : World) {e : TypeId} {cs : List Value} {ops : Array Oper} {rest : List Oper} {o : Oper} {a : Act} {Q : Exit → Act → World → Prop} (hgd : o.guard = none) (s x : Operand) (t : TypeId)
    (ho : o.op = .call { callee := .builtin .append, args := #[s, x], argTypes := #[t, t] })
    (base : Nat) (z : Value) (size bytes : Nat) (ht : P.underlying t = some (.slice e)) (hinfo : (P.info? e).map (fun i => (i.zero, i.size, i.bytes)) = some (some z, size, bytes))
    (hzs : z.cells.size = size) (hsz : 0 < size)
    (v : Value) (n : Nat) (xs : List Value) (hs : a.eval s = v) (hown : W.ownsRow base e size v n xs)
    (hcs : cs.length = size) (h1 : ∀ u ∈ cs, u.oneCell' = true) (hx : a.eval x = .slice (some ⟨W.heap.size, 0, none⟩) 1 1)
    (h63 : n + 1 ≤ maxLen) (hbytes : (n + 1) * bytes ≤ 140737488355328) (hbase : base ≤ W.heap.size)
    (h : ∀ g cap w', w'.ownsRow base e size (.slice (some ⟨g, 0, none⟩) (n + 1) cap) (n + 1) (xs ++ cs) → W.grownBy w' v.ownBlock → (v.ownBlock = some g ∨ W.heap.size ≤ g) → g < w'.heap.size → base ≤ g →
      wpList P ops Q rest (a.put o.dst (.slice (some ⟨g, 0, none⟩) (n + 1) cap)) w') : wpList P ops Q (o :: rest) a (W.alloc (.cells cs.toArray e)) := by
  obtain ⟨i, hi, hz, hsize, hby⟩ := info_parts hinfo
  refine wpList_append_lies (W.alloc (.cells cs.toArray e)) hgd s x t ho base e i z size bytes ht hi hz hsize hby hzs hsz v n xs hs (hown.alloc _) ⟨W.heap.size, 0, none⟩ 1 1 cs hx (by omega) ?_ h1 (by omega) h63 hbytes (by simp; omega) _ rfl ?_
  · intro j u hu
    exact World.news_of_block (Blk.new W e cs.toArray) j u (by simpa using hu)
  · intro g cap w' hown' hgrow hg hlt
    have hb : base ≤ g := (own_isT hown' g rfl).1
    refine h g cap w' hown' ⟨hgrow.os, hgrow.tape, hgrow.output, Nat.le_trans (by simp) hgrow.size, fun k hk hne => ?_⟩ ?_ hlt hb
    · exact (hgrow.block k (by simp; omega) hne).trans (Below.heap_alloc W _ k hk)
    · rcases hg with hg | hg
      · exact .inl hg
      · exact .inr (by simp at hg; omega)

theorem ret_eq2 {x x' y y' : Value} (h1 : x = x') (h2 : y = y') : Ending.returned (.tuple #[x, y]) = .returned (.tuple #[x', y']) := by rw [h1, h2]
theorem ret_eq1 {x x' : Value} (h1 : x = x') : Ending.returned x = .returned x' := by rw [h1]
theorem bool_eq {a b : Bool} (h : a = b) : Value.bool a = .bool b := by rw [h]
theorem int_eq {k : IntKind} {a b : Int} (h : a = b) : Value.int k a = .int k b := by rw [h]

/-- Bytes as cells. -/
def byteVs (l : List UInt8) : List Value := l.map fun b => .int .u8 (b.toNat : Int)
theorem byteVs_nil : byteVs [] = [] := rfl
theorem byteVs_append (a b : List UInt8) : byteVs (a ++ b) = byteVs a ++ byteVs b := by simp [byteVs]
theorem byteVs_length (a : List UInt8) : (byteVs a).length = a.length := by simp [byteVs]
theorem byteVs_one (l : List UInt8) : ∀ u ∈ byteVs l, u.oneCell' = true := by
  intro u hu
  simp only [byteVs, List.mem_map] at hu
  obtain ⟨b, _, rfl⟩ := hu
  rfl
/-- A number of a byte, as a byte. -/
def bv (n : Int) : UInt8 := UInt8.ofNat n.toNat
theorem bv_toNat (n : Int) (h0 : 0 ≤ n) (h1 : n < 256) : ((bv n).toNat : Int) = n := by
  unfold bv
  rw [UInt8.toNat_ofNat']
  omega
theorem byteVs_bv (n : Int) (h0 : 0 ≤ n) (h1 : n < 256) : byteVs [bv n] = [.int .u8 n] := by
  show [Value.int .u8 ((bv n).toNat : Int)] = _
  rw [bv_toNat n h0 h1]

/-- A string's bytes. -/
def StrIs (t : ByteArray) (l : List UInt8) : Prop := t.data.toList = l
theorem StrIs.size {t : ByteArray} {l : List UInt8} (h : StrIs t l) : t.size = l.length := by
  unfold StrIs at h
  rw [← h]; simp

/-- 'string(b)', b a row of the call's own. -/
theorem run_to_string {P : Program} (w : World) (src dst e : TypeId) (hs : P.underlying src = some (.slice e)) (he : P.underlying e = some (.int .u8)) (hd : P.underlying dst = some .string)
    {base : Nat} {v : Value} {n : Nat} (l : List UInt8) (hown : w.ownsRow base e 1 v n (byteVs l)) : ∃ t : ByteArray, (convert src dst v).run P w = .ok (.string t) w ∧ StrIs t l := by
  have hn : l.length = n := by have := hown.1; rw [byteVs_length] at this; omega
  rcases hown.2 with ⟨rfl, hx⟩ | ⟨g, cap, cur, rfl, _⟩
  · subst hx
    have hl : l = [] := by
      exact List.eq_nil_of_length_eq_zero (by have := hown.1; rw [byteVs_length] at this; omega)
    subst hl
    refine ⟨ByteArray.empty, ?_, rfl⟩
    rw [run_convert_bytes_string w src dst e _ _ _ hs he hd]
    simp [Conv.bytesToString]
  · subst hn
    refine ⟨⟨l.toArray⟩, run_convert_bytes_back w src dst e ⟨g, 0, none⟩ cap l hs he hd ?_, rfl⟩
    intro j hj
    exact hown.cells (g := g) rfl j _ (by simp [byteVs, List.getElem?_eq_getElem hj])

theorem wpList_to_string {P : Program} {w : World} {ops : Array Oper} {rest : List Oper} {o : Oper} {a : Act} {Q : Exit → Act → World → Prop} (hgd : o.guard = none) (src dst e : TypeId) (x : Operand)
    (ho : o.op = .convert src dst x) (hs : P.underlying src = some (.slice e)) (he : P.underlying e = some (.int .u8)) (hd : P.underlying dst = some .string)
    (base : Nat) (v : Value) (n : Nat) (hx : a.eval x = v) (l : List UInt8) (hown : w.ownsRow base e 1 v n (byteVs l))
    (h : ∀ t : ByteArray, StrIs t l → wpList P ops Q rest (a.put o.dst (.string t)) w) : wpList P ops Q (o :: rest) a w := by
  obtain ⟨t, hrun, ht⟩ := run_to_string (P := P) w src dst e hs he hd l hown
  refine wpList_plain hgd fun K hK => ?_
  unfold Oper.wp execOp
  simp only [ho, Sem.run_bind, Sem.run_pure, Result.andThen_ok, hx, hrun]
  exact hK _ _ (h t ht)

theorem own_byte_lit (w : World) (e : TypeId) (n : Int) (h0 : 0 ≤ n) (h1 : n < 256) : (w.alloc (.cells #[.int .u8 n] e)).ownsRow w.heap.size e 1 (.slice (some ⟨w.heap.size, 0, none⟩) 1 1) 1 (byteVs [bv n]) := by
  rw [byteVs_bv n h0 h1]
  exact World.ownsRow_lit w #[.int .u8 n] 1 (Nat.le_refl _) (by unfold maxLen; omega) rfl

theorem own_bytes_lit (w : World) (e : TypeId) (ns : List Int) (h : ∀ n ∈ ns, 0 ≤ n ∧ n < 256) (hl : ns.length ≤ 1000) :
    (w.alloc (.cells (ns.map (Value.int .u8)).toArray e)).ownsRow w.heap.size e 1 (.slice (some ⟨w.heap.size, 0, none⟩) ns.length ns.length) ns.length (byteVs (ns.map bv)) := by
  have e1 : byteVs (ns.map bv) = ns.map (Value.int .u8) := by
    unfold byteVs
    rw [List.map_map]
    apply List.map_congr_left
    intro n hn
    have := h n hn
    simp only [Function.comp, bv_toNat n this.1 this.2]
  rw [e1]
  have := World.ownsRow_lit (base := w.heap.size) (e := e) (size := 1) w (ns.map (Value.int .u8)).toArray ns.length (Nat.le_refl _) (by unfold maxLen; omega) (by simp)
  simpa using this
theorem own_bytes1 (w : World) (e : TypeId) (base g : Nat) (hg : w.heap.size = g) (hbase : base ≤ g) (a : Int) (ha : 0 ≤ a ∧ a < 256) :
    (w.alloc (.cells #[.int .u8 a] e)).ownsRow base e 1 (.slice (some ⟨g, 0, none⟩) 1 1) 1 (byteVs [bv a]) := by
  subst hg
  have := own_bytes_lit w e [a] (by simp [ha]) (by simp)
  exact ⟨this.1, .inr (by
    rcases this.2 with ⟨h, _⟩ | ⟨g, cap, cur, h1, h2, h3⟩
    · simp at h
    · exact ⟨g, cap, cur, h1, by omega, h3⟩)⟩
theorem own_bytes2 (w : World) (e : TypeId) (base g : Nat) (hg : w.heap.size = g) (hbase : base ≤ g) (a b : Int) (ha : 0 ≤ a ∧ a < 256) (hb : 0 ≤ b ∧ b < 256) :
    (w.alloc (.cells #[.int .u8 a, .int .u8 b] e)).ownsRow base e 1 (.slice (some ⟨g, 0, none⟩) 2 2) 2 (byteVs [bv a, bv b]) := by
  subst hg
  have := own_bytes_lit w e [a, b] (by simp [ha, hb]) (by simp)
  exact ⟨this.1, .inr (by
    rcases this.2 with ⟨h, _⟩ | ⟨g, cap, cur, h1, h2, h3⟩
    · simp at h
    · exact ⟨g, cap, cur, h1, by omega, h3⟩)⟩
theorem own_bytes3 (w : World) (e : TypeId) (base g : Nat) (hg : w.heap.size = g) (hbase : base ≤ g) (a b c : Int) (ha : 0 ≤ a ∧ a < 256) (hb : 0 ≤ b ∧ b < 256) (hc : 0 ≤ c ∧ c < 256) :
    (w.alloc (.cells #[.int .u8 a, .int .u8 b, .int .u8 c] e)).ownsRow base e 1 (.slice (some ⟨g, 0, none⟩) 3 3) 3 (byteVs [bv a, bv b, bv c]) := by
  subst hg
  have := own_bytes_lit w e [a, b, c] (by simp [ha, hb, hc]) (by simp)
  exact ⟨this.1, .inr (by
    rcases this.2 with ⟨h, _⟩ | ⟨g, cap, cur, h1, h2, h3⟩
    · simp at h
    · exact ⟨g, cap, cur, h1, by omega, h3⟩)⟩
theorem own_bytes4 (w : World) (e : TypeId) (base g : Nat) (hg : w.heap.size = g) (hbase : base ≤ g) (a b c d : Int) (ha : 0 ≤ a ∧ a < 256) (hb : 0 ≤ b ∧ b < 256) (hc : 0 ≤ c ∧ c < 256) (hd : 0 ≤ d ∧ d < 256) :
    (w.alloc (.cells #[.int .u8 a, .int .u8 b, .int .u8 c, .int .u8 d] e)).ownsRow base e 1 (.slice (some ⟨g, 0, none⟩) 4 4) 4 (byteVs [bv a, bv b, bv c, bv d]) := by
  subst hg
  have := own_bytes_lit w e [a, b, c, d] (by simp [ha, hb, hc, hd]) (by simp)
  exact ⟨this.1, .inr (by
    rcases this.2 with ⟨h, _⟩ | ⟨g, cap, cur, h1, h2, h3⟩
    · simp at h
    · exact ⟨g, cap, cur, h1, by omega, h3⟩)⟩
end Go.Proofs.Ytaickkaoglohgaa
namespace Go.Proofs.Ytaickkaoglohgaa
open Go.RowKit

set_option maxHeartbeats 400000 in
theorem is_any (r : Int) (w : World) : Calls Try.prog 98 #[.int .i64 r] w fun e w' => e = .returned (.bool (Utf.isScalar r)) ∧ w = w' := by
  by_cases h0 : 0 ≤ r
  · by_cases h1 : r ≤ 1114111
    · by_cases h2 : r < 55296
      all_goals
        go_enter Try.func98, Try.ntmps98
        go_wp2
        go_ret
        exact ⟨ret_eq1 (bool_eq (by rw [Bool.eq_iff_iff]; simp [Utf.isScalar]; omega)), rfl⟩
    · go_enter Try.func98, Try.ntmps98
      go_wp2
      go_ret
      exact ⟨ret_eq1 (bool_eq (by rw [Bool.eq_iff_iff]; simp [Utf.isScalar]; omega)), rfl⟩
  · go_enter Try.func98, Try.ntmps98
    go_wp2
    go_ret
    exact ⟨ret_eq1 (bool_eq (by rw [Bool.eq_iff_iff]; simp [Utf.isScalar]; omega)), rfl⟩

def lenOf (r : Int) : Int := if r < 128 then 1 else if r < 2048 then 2 else if r < 65536 then 3 else 4

set_option maxHeartbeats 400000 in
theorem len_no (r : Int) (w : World) (h : Utf.isScalar r = false) : Calls Try.prog 88 #[.int .i64 r] w fun e w' => e = .returned (.int .i64 0) ∧ w = w' := by
  have H := hide h
  clear h
  go_enter Try.func88, Try.ntmps88
  go_wp2_with (go_at_call 98; refine (is_any _ _).mono ?_; rintro e w' ⟨rfl, rfl⟩; rw [H.out])
  go_ret
  exact ⟨rfl, rfl⟩

set_option maxHeartbeats 1000000 in
theorem len_yes (r : Int) (w : World) (h : Utf.isScalar r = true) : Calls Try.prog 88 #[.int .i64 r] w fun e w' => e = .returned (.int .i64 (lenOf r)) ∧ Below w.heap.size w w' := by
  have h1 : 0 ≤ r ∧ r ≤ 1114111 := by simp [Utf.isScalar] at h; omega
  obtain ⟨h1, h2⟩ := h1
  have H := hide h
  clear h
  have i0 : ∀ w, (Instr.index 138 (.agg #[.int .i64 128, .int .i64 2048, .int .i64 65536, .int .i64 1114112]) (.int .i64 0)).run Try.prog w = .ok (.int .i64 128) w := fun _ => by kernel_rfl
  have i1 : ∀ w, (Instr.index 138 (.agg #[.int .i64 128, .int .i64 2048, .int .i64 65536, .int .i64 1114112]) (.int .i64 1)).run Try.prog w = .ok (.int .i64 2048) w := fun _ => by kernel_rfl
  have i2 : ∀ w, (Instr.index 138 (.agg #[.int .i64 128, .int .i64 2048, .int .i64 65536, .int .i64 1114112]) (.int .i64 2)).run Try.prog w = .ok (.int .i64 65536) w := fun _ => by kernel_rfl
  have i3 : ∀ w, (Instr.index 138 (.agg #[.int .i64 128, .int .i64 2048, .int .i64 65536, .int .i64 1114112]) (.int .i64 3)).run Try.prog w = .ok (.int .i64 1114112) w := fun _ => by kernel_rfl
  go_enter Try.func88, Try.ntmps88
  go_wp2_with (go_at_call 98; refine (is_any _ _).mono ?_; rintro e w' ⟨rfl, rfl⟩; rw [H.out])
  refine wp_loop_rounds 4 ?_
  rw [rounds_succ]
  go_wp2
  · go_ret
    exact ⟨ret_eq1 (int_eq (by unfold lenOf; rw [if_pos (by omega)])), (Below.refl _ _).alloc (Nat.le_refl _) _⟩
  rw [rounds_succ]
  go_wp2
  · go_ret
    exact ⟨ret_eq1 (int_eq (by unfold lenOf; rw [if_neg (by omega), if_pos (by omega)])), (Below.refl _ _).alloc (Nat.le_refl _) _⟩
  rw [rounds_succ]
  go_wp2
  · go_ret
    exact ⟨ret_eq1 (int_eq (by unfold lenOf; rw [if_neg (by omega), if_neg (by omega), if_pos (by omega)])), (Below.refl _ _).alloc (Nat.le_refl _) _⟩
  rw [rounds_succ]
  go_wp2
  go_ret
  exact ⟨ret_eq1 (int_eq (by unfold lenOf; rw [if_neg (by omega), if_neg (by omega), if_neg (by omega)])), (Below.refl _ _).alloc (Nat.le_refl _) _⟩

set_option maxHeartbeats 400000 in
theorem put_no (r : Int) (w : World) (h : Utf.isScalar r = false) : Calls Try.prog 72 #[.int .i64 r] w fun e w' => e = .returned (.tuple #[.string ⟨#[]⟩, .bool false]) ∧ w = w' := by
  go_enter Try.func72, Try.ntmps72
  have H := hide h
  clear h
  go_wp2_with (go_at_call 88; refine (len_no _ _ H.out).mono ?_; rintro e w' ⟨rfl, rfl⟩)
  go_ret2
  exact ⟨rfl, rfl⟩

set_option maxHeartbeats 1000000 in
theorem put_one (r : Int) (w : World) (h0 : 0 ≤ r) (h1 : r < 128) : Calls Try.prog 72 #[.int .i64 r] w fun e w' => (∃ t : ByteArray, e = .returned (.tuple #[.string t, .bool true]) ∧ StrIs t ((Utf.put r).map bv)) ∧ Below w.heap.size w w' := by
  have H : Hid (Utf.isScalar r = true) := by show Utf.isScalar r = true; simp [Utf.isScalar]; omega
  have L : Hid (lenOf r = 1) := by show lenOf r = 1; unfold lenOf; rw [if_pos h1]
  go_enter Try.func72, Try.ntmps72
  go_wp2_with (first
    | (go_at_call 88; refine (len_yes _ _ H.out).mono ?_; rintro e w1 ⟨rfl, hb⟩; rw [L.out])
    | (with_reducible show wpList _ _ _ (⟨_, .convert 58 9 _, _, _, _, _⟩ :: _) _ _; refine wpList_to_string rfl 58 9 5 _ rfl Try.underlying58 Try.underlying5 Try.underlying9 w1.heap.size _ 1 rfl [bv r] (own_byte_lit w1 _ r h0 (by omega)) ?_; intro t ht))
  go_ret2
  exact ⟨⟨t, rfl, by unfold Utf.put; rw [if_pos h1]; exact ht⟩, hb.alloc hb.size _⟩

theorem u8_or_of (x y : Int) (k : Nat) (h0 : 0 ≤ x) (hy : 0 ≤ y) (hk : y < 2 ^ k) (hx : x * 2 ^ k + y < 256) (z : Int) (hz : z = x * 2 ^ k) : bits .or .u8 z y = z + y := by
  subst hz; exact u8_or_add x y k h0 hy hk hx

set_option maxHeartbeats 2000000 in
theorem put_many (r : Int) (w : World) (h0 : 128 ≤ r) (h1 : Utf.isScalar r = true) : Calls Try.prog 72 #[.int .i64 r] w fun e w' => (∃ t : ByteArray, e = .returned (.tuple #[.string t, .bool true]) ∧ StrIs t ((Utf.put r).map bv)) ∧ Below w.heap.size w w' := by
  have h2 : r ≤ 1114111 := by simp [Utf.isScalar] at h1; omega
  have H := hide h1
  clear h1
  go_enter Try.func72, Try.ntmps72
  by_cases ha : r < 2048
  · have L : Hid (lenOf r = 2) := by show lenOf r = 2; unfold lenOf; rw [if_neg (by omega), if_pos ha]
    have hmk : ∀ w, (Instr.makeSlice 58 (.int .i64 2) (.int .i64 2)).run Try.prog w = .ok (.slice (some ⟨w.heap.size, 0, none⟩) 2 2) (w.alloc (.cells #[.int .u8 0, .int .u8 0] 5)) := fun _ => by kernel_rfl
    have hor : bits .or .u8 192 (r / 64 % 256) = 192 + r / 64 := by rw [show r / 64 % 256 = r / 64 from by omega]; exact u8_or_of 6 _ 5 (by omega) (by omega) (by omega) (by omega) _ rfl
    go_wp2_with (first
      | (go_at_call 88; refine (len_yes _ _ H.out).mono ?_; rintro e w1 ⟨rfl, hb⟩; rw [L.out]))
    refine wp_loop_rounds 2 ?_
    rw [rounds_succ]
    go_wp2
    rw [rounds_succ]
    go_wp2_with (with_reducible show wpList _ _ _ (⟨_, .convert 58 9 _, _, _, _, _⟩ :: _) _ _; refine wpList_to_string rfl 58 9 5 _ rfl Try.underlying58 Try.underlying5 Try.underlying9 (w1.heap.size + 1) _ 2 rfl _ (own_bytes2 (w1.alloc _) _ _ _ (by simp) (Nat.le_refl _) (192 + r / 64) (128 + r % 64) (by omega) (by omega)) ?_; intro t ht)
    go_ret2
    exact ⟨⟨t, rfl, by unfold Utf.put; rw [if_neg (show ¬ r < 128 by omega), if_pos (show r < 2048 by omega)]; exact ht⟩, (hb.alloc hb.size _).alloc (by have := hb.size; simp; omega) _⟩
  by_cases h65 : r < 65536
  · have L : Hid (lenOf r = 3) := by show lenOf r = 3; unfold lenOf; rw [if_neg (by omega), if_neg ha, if_pos h65]
    have hmk : ∀ w, (Instr.makeSlice 58 (.int .i64 3) (.int .i64 3)).run Try.prog w = .ok (.slice (some ⟨w.heap.size, 0, none⟩) 3 3) (w.alloc (.cells #[.int .u8 0, .int .u8 0, .int .u8 0] 5)) := fun _ => by kernel_rfl
    go_wp2_with (first
      | (go_at_call 88; refine (len_yes _ _ H.out).mono ?_; rintro e w1 ⟨rfl, hb⟩; rw [L.out]))
    refine wp_loop_rounds 3 ?_
    rw [rounds_succ]
    go_wp2
    rw [rounds_succ]
    go_wp2
    rw [rounds_succ]
    go_wp2_with (with_reducible show wpList _ _ _ (⟨_, .convert 58 9 _, _, _, _, _⟩ :: _) _ _; refine wpList_to_string rfl 58 9 5 _ rfl Try.underlying58 Try.underlying5 Try.underlying9 (w1.heap.size + 1) _ 3 rfl _ (own_bytes3 (w1.alloc _) _ _ _ (by simp) (Nat.le_refl _) (224 + r / 64 / 64) (128 + r / 64 % 64) (128 + r % 64) (by omega) (by omega) (by omega)) ?_; intro t ht)
    go_ret2
    exact ⟨⟨t, rfl, by unfold Utf.put; rw [if_neg (show ¬ r < 128 by omega), if_neg (show ¬ r < 2048 by omega), if_pos (show r < 65536 by omega)]; exact ht⟩, (hb.alloc hb.size _).alloc (by have := hb.size; simp; omega) _⟩
  · have L : Hid (lenOf r = 4) := by show lenOf r = 4; unfold lenOf; rw [if_neg (by omega), if_neg ha, if_neg h65]
    have hmk : ∀ w, (Instr.makeSlice 58 (.int .i64 4) (.int .i64 4)).run Try.prog w = .ok (.slice (some ⟨w.heap.size, 0, none⟩) 4 4) (w.alloc (.cells #[.int .u8 0, .int .u8 0, .int .u8 0, .int .u8 0] 5)) := fun _ => by kernel_rfl
    go_wp2_with (first
      | (go_at_call 88; refine (len_yes _ _ H.out).mono ?_; rintro e w1 ⟨rfl, hb⟩; rw [L.out]))
    refine wp_loop_rounds 4 ?_
    rw [rounds_succ]
    go_wp2
    rw [rounds_succ]
    go_wp2
    rw [rounds_succ]
    go_wp2
    rw [rounds_succ]
    go_wp2_with (with_reducible show wpList _ _ _ (⟨_, .convert 58 9 _, _, _, _, _⟩ :: _) _ _; refine wpList_to_string rfl 58 9 5 _ rfl Try.underlying58 Try.underlying5 Try.underlying9 (w1.heap.size + 1) _ 4 rfl _ (own_bytes4 (w1.alloc _) _ _ _ (by simp) (Nat.le_refl _) (240 + r / 64 / 64 / 64) (128 + r / 64 / 64 % 64) (128 + r / 64 % 64) (128 + r % 64) (by omega) (by omega) (by omega) (by omega)) ?_; intro t ht)
    go_ret2
    exact ⟨⟨t, rfl, by unfold Utf.put; rw [if_neg (show ¬ r < 128 by omega), if_neg (show ¬ r < 2048 by omega), if_neg (show ¬ r < 65536 by omega)]; exact ht⟩, (hb.alloc hb.size _).alloc (by have := hb.size; simp; omega) _⟩

theorem put_yes (r : Int) (w : World) (h : Utf.isScalar r = true) : Calls Try.prog 72 #[.int .i64 r] w fun e w' => (∃ t : ByteArray, e = .returned (.tuple #[.string t, .bool true]) ∧ StrIs t ((Utf.put r).map bv)) ∧ Below w.heap.size w w' := by
  have h2 : 0 ≤ r := by simp [Utf.isScalar] at h; omega
  by_cases h1 : r < 128
  · exact put_one r w h2 h1
  · exact put_many r w (by omega) h

theorem put_short (r : Int) : (Utf.put r).length ≤ 4 := by
  unfold Utf.put
  split
  · simp
  split
  · simp
  split <;> simp
end Go.Proofs.Ytaickkaoglohgaa
namespace Go.Proofs.Ytaickkaoglohgaa
open Go.RowKit Go.Shelf

attribute [local go_sem] Oper.semAt_some

/-- A piece: where it begins, and a scalar or a number below 0. -/
abbrev Pc := { x : Nat × Int // x.2 < 0 ∨ Utf.isScalar x.2 = true }
theorem piece_pc (s : ByteArray) (k : Nat) : (Utf.piece (s.data.toList.drop k)).1 < 0 ∨ Utf.isScalar (Utf.piece (s.data.toList.drop k)).1 = true := by
  rcases Int.lt_or_le (Utf.piece (s.data.toList.drop k)).1 0 with h | h
  · exact .inl h
  · exact .inr (Utf.piece_scalar _ h)

/-- Block B lies as it lay. -/
def SameBlk (B : Nat) (W W' : World) : Prop := W'.heap[B]? = W.heap[B]?
theorem SameBlk.trans {B : Nat} {X Y Z : World} (h : SameBlk B X Y) (k : SameBlk B Y Z) : SameBlk B X Z := Eq.trans k h
theorem SameBlk.cell {B : Nat} {W W' : World} (h : SameBlk B W W') {i : Nat} {v : Value} (hc : W.cell? ⟨B, i, none⟩ = some v) : W'.cell? ⟨B, i, none⟩ = some v :=
  (World.cell?_of_block (w := W) (w' := W') (a := ⟨B, i, none⟩) h).trans hc
theorem sameBlk_b {w : World} {B : Nat} (hB : B < w.heap.size) (W : World) (l : Nat) (o o' : Obj) (hl : w.heap.size ≤ l) (_ : W.heap[l]? = some o) (_ : o.isCells = false) (_ : o.isWalk = false) : SameBlk B W (W.putObj l o') :=
  World.putObj_heap_other (by omega)

theorem piece_at' (s : ByteArray) (k : Nat) (h : k < s.size) : 1 ≤ (Utf.piece (s.data.toList.drop k)).2 ∧ (Utf.piece (s.data.toList.drop k)).2 ≤ 4 ∧ (Utf.piece (s.data.toList.drop k)).2 ≤ ((s.size - k : Nat) : Int) := by
  have := Utf.piece_len s[k] (s.data.toList.drop (k + 1))
  rw [← drop_at s k h] at this
  simpa using this

theorem from_at (s : ByteArray) (k : Nat) (h : k < s.size) :
    Utf.from_ k (s.data.toList.drop k) = (k, (Utf.piece (s.data.toList.drop k)).1) :: Utf.from_ (k + (Utf.piece (s.data.toList.drop k)).2.toNat) (s.data.toList.drop (k + (Utf.piece (s.data.toList.drop k)).2.toNat)) := by
  rw [drop_at s k h, Utf.from_cons, ← drop_at s k h, List.drop_drop]

set_option maxRecDepth 100000 in
set_option maxHeartbeats 2000000 in
theorem pieces1_in (n : Nat) (hn : 1 ≤ n) (l Bs : Nat) (s : ByteArray) (hs : s.size ≤ 1000000000)
    (J Jx : List Pc → World → Prop)
    (hY : ∀ pre x W, J pre W → pre.length < s.size → YieldAt Fence.wide (n - 1) Try.prog l #[.int .i64 (x.1.1 : Int), .int .i64 x.1.2] W fun e W' =>
      (e = .returned (.bool true) ∧ J (pre ++ [x]) W' ∧ SameBlk Bs W W') ∨ (e = .returned (.bool false) ∧ Jx (pre ++ [x]) W'))
    (W : World) (hBs : W.cell? ⟨Bs, 0, none⟩ = some (.string s)) (h0 : J [] W) :
    CallsIn Fence.wide n Try.prog 101 #[.func (.yield l) #[] #[], .pointer (some ⟨Bs, 0, none⟩)] W fun e W' => (∃ v, e = .returned v) ∧
      ((∃ ys : List Pc, ys.map (·.1) = Utf.pieces s.data.toList ∧ J ys W') ∨ (∃ pre : List Pc, (∃ rest, pre.map (·.1) ++ rest = Utf.pieces s.data.toList) ∧ Jx pre W')) := by
  refine callsIn_of_wp Try.func101 rfl trivial ?_ rfl
  simp only [Try.ntmps101, List.size_toArray, List.length_cons, List.length_nil, Nat.reduceAdd, Nat.reduceSub, Array.replicate_succ, Array.replicate_zero, List.push_toArray, List.append_toArray, List.nil_append, List.cons_append]
  obtain ⟨all, hall⟩ : ∃ all, Utf.pieces s.data.toList = all := ⟨_, rfl⟩
  rw [hall]
  have Hall := hide hall
  clear hall
  gi_wp2
  gi_loopw [3] (fun i wr => ∃ (k : Nat) (pre : List Pc), k ≤ s.size ∧ i = .int .i64 k ∧ pre.length ≤ k ∧ pre.map (·.1) ++ Utf.from_ k (s.data.toList.drop k) = all ∧ J pre wr ∧ SameBlk Bs W wr)
    (fun i _ => s.size - (intOf i).toNat)
  case atStart => exact ⟨0, [], Nat.zero_le _, rfl, Nat.le_refl _, by rw [← Hall.out]; rfl, h0, rfl⟩
  case round =>
    obtain ⟨k, pre, hk, rfl, hpl, hpre, hJs, hnx⟩ := hrel
    have Hpre := hide hpre
    clear hpre
    have hcx : wr.cell? ⟨Bs, 0, none⟩ = some (.string s) := hnx.cell hBs
    by_cases hlt : k < s.size
    · have hfr := from_at s k hlt
      have hp := piece_at' s k hlt
      have hpc := piece_pc s k
      have HP := hide (piece_any s k wr (by omega) (by omega) hs)
      rw [Int.toNat_natCast] at HP
      obtain ⟨f, hf⟩ : ∃ f, Utf.piece (s.data.toList.drop k) = f := ⟨_, rfl⟩
      rw [hf] at hp hfr HP hpc
      have Hfr := hide hfr
      clear hf hfr
      obtain ⟨fn, tmps, assign, body, hy, hR⟩ := hY pre ⟨(k, f.1), hpc⟩ wr hJs (by omega)
      dsimp only at hy
      gi_wp2_with (refine ⟨trivial, ?_⟩; gi_at_call 45; refine (callsIn_wide.2 HP.out).mono ?_; rintro e w' ⟨rfl, rfl⟩; unfold pieceV)
      refine hR.mono ?_
      rintro e W3 (⟨rfl, hJ3, hk3⟩ | ⟨rfl, hJx3⟩)
      · gi_wp2
        go_roundw
        case rel => exact ⟨k + f.2.toNat, pre ++ [⟨(k, f.1), hpc⟩], by omega, int_eq (by omega), by simp; omega, by rw [← Hpre.out, Hfr.out]; simp, hJ3, hnx.trans hk3⟩
        case measure => simp [intOf]; omega
      · gi_wp2
        refine bodyPost_ret (results_none rfl _ _ _) rfl ?_
        exact ⟨⟨_, rfl⟩, .inr ⟨_, ⟨_, by rw [← Hpre.out, Hfr.out, List.map_append, List.append_assoc]; rfl⟩, hJx3⟩⟩
    · gi_wp2
      go_end0
      exact ⟨⟨_, rfl⟩, .inl ⟨pre, by rw [← Hpre.out, List.drop_of_length_le (by simp; omega)]; simp [Utf.from_nil], hJs⟩⟩

theorem pieces_any (s : ByteArray) (w : World) :
    Calls Try.prog 95 #[.string s] w fun e w' => e = .returned (.func (.func 101) #[] #[.pointer (some ⟨w.heap.size, 0, none⟩)]) ∧ w' = w.alloc (.cells #[.string s] 9) := by
  go_enter Try.func95, Try.ntmps95
  go_wp2
  go_ret
  exact ⟨rfl, rfl⟩

/-- 'pieces(s)' hands back a value that goes over all pieces of s, or the first ones. -/
theorem pieces_stops (n : Nat) (hn : 1 ≤ n) (Bs : Nat) (s : ByteArray) (hs : s.size ≤ 1000000000) (w : World) (hBs : Bs < w.heap.size) (hc : w.cell? ⟨Bs, 0, none⟩ = some (.string s)) :
    SeqStopsK Fence.wide n Try.prog 101 #[.pointer (some ⟨Bs, 0, none⟩)] (fun x : Pc => #[Value.int .i64 (x.1.1 : Int), Value.int .i64 x.1.2]) (SameBlk Bs) (fun ys => ys.map (·.1) = Utf.pieces s.data.toList)
      (fun pre => ∃ rest, pre.map (·.1) ++ rest = Utf.pieces s.data.toList) s.size w := fun l J Jx W hW _ _ hY h0 =>
  pieces1_in n hn l Bs s hs J Jx hY W ((hW.cell (p := ⟨Bs, 0, none⟩) hBs).trans hc) h0
end Go.Proofs.Ytaickkaoglohgaa
namespace Go.Proofs.Ytaickkaoglohgaa
open Go.RowKit

/-- Nothing that was there has turned, but block R. -/
structure But (R : Nat) (w w' : World) : Prop where
  os : w'.os = w.os
  tape : w'.tape = w.tape
  output : w'.output = w.output
  size : w.heap.size ≤ w'.heap.size
  block : ∀ k, k < w.heap.size → k ≠ R → w'.heap[k]? = w.heap[k]?
section
variable {R : Nat} {w w1 w' : World}
theorem But.refl (R : Nat) (w : World) : But R w w := ⟨rfl, rfl, rfl, Nat.le_refl _, fun _ _ _ => rfl⟩
theorem But.trans (h : But R w w1) (k : But R w1 w') : But R w w' :=
  ⟨k.os.trans h.os, k.tape.trans h.tape, k.output.trans h.output, Nat.le_trans h.size k.size, fun i hi hb => (k.block i (Nat.lt_of_lt_of_le hi h.size) hb).trans (h.block i hi hb)⟩
theorem But.below {B : Nat} (h : But R w w') (hb : B ≤ R) (hs : B ≤ w.heap.size) : Below B w w' := ⟨h.os, h.tape, h.output, h.size, fun k hk => h.block k (by omega) (by omega)⟩
theorem But.of_below (h : Below w.heap.size w w') : But R w w' := ⟨h.os, h.tape, h.output, h.size, fun k hk _ => h.block k hk⟩
theorem But.blk {g t' : Nat} {cs : Array Value} (h : But R w w') (hg : Blk w g t' cs) (hb : g ≠ R) : Blk w' g t' cs := (h.block g hg.lt hb).trans hg
theorem But.alloc (h : But R w w1) (o : Obj) : But R w (w1.alloc o) := h.trans ⟨rfl, rfl, rfl, by simp, fun k hk _ => Below.heap_alloc _ _ _ hk⟩
theorem But.drew (h : But R w w1) : But R w w1.drew := ⟨h.os, h.tape, h.output, h.size, h.block⟩
theorem But.setCell (h : But R w w1) {p : Addr} (hp : p.block = R ∨ w.heap.size ≤ p.block) (u : Value) : But R w (w1.setCell p u) := by
  refine ⟨h.os, h.tape, h.output, by simpa [World.setCell] using h.size, fun k hk hb => ?_⟩
  rw [Below.heap_setCell _ _ _ _ (by omega)]
  exact h.block k hk hb
theorem But.go (h : But R w w1) (hb : Below w1.heap.size w1 w') : But R w w' := h.trans (But.of_below hb)
end
theorem below_alloc (w : World) (o : Obj) : Below w.heap.size w (w.alloc o) := (Below.refl _ _).alloc (Nat.le_refl _) o
theorem Blk.go {w w' : World} {g t : Nat} {cs : Array Value} (h : Blk w g t cs) (hb : Below w.heap.size w w') : Blk w' g t cs := h.below hb h.lt

/-- Bytes as a string. -/
def bstr (l : List UInt8) : ByteArray := ⟨l.toArray⟩
theorem bstr_list (l : List UInt8) : (bstr l).data.toList = l := rfl
theorem bstr_of (b : ByteArray) : bstr b.data.toList = b := rfl
theorem bstr_size (l : List UInt8) : (bstr l).size = l.length := List.size_toArray ..
theorem size_list (s : ByteArray) : s.data.toList.length = s.size := Array.length_toList
theorem extract_bstr (s : ByteArray) (a b : Nat) : s.extract a b = bstr ((s.data.toList.drop a).take (b - a)) := by
  apply ByteArray.ext
  apply Array.ext'
  rw [ByteArray.data_extract, Array.toList_extract]
  rfl
theorem extract_end (s : ByteArray) (a : Nat) : s.extract a s.size = bstr (s.data.toList.drop a) := by
  rw [extract_bstr, List.take_of_length_le (by rw [List.length_drop, size_list]; exact Nat.le_refl _)]
theorem extract_all (s : ByteArray) : s.extract 0 s.size = s := by rw [extract_end, List.drop_zero, bstr_of]
theorem str_inj {a b : List UInt8} (h : bstr a = bstr b) : a = b := congrArg (fun x : ByteArray => x.data.toList) h
end Go.Proofs.Ytaickkaoglohgaa
