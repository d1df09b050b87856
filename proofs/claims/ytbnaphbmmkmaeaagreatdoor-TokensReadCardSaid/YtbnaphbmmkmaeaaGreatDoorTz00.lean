/- Words for memory: a slice that reads as a list; a block that is known whole; what a call may have turned; append of one element. Sections 1 and 2 are turned from the guide's extra-words. · Bits of int and of bytes as sums and remainders. · Words for memory that the tokens' walks use: what a call may have turned but one block; strings as lists of bytes. · UTF-8 in plain lists of bytes: what a first byte says, what stands at a byte, whether a text is right; no program in sight. -/
import Derived.Below
import Derived.Laws.OwnMore
import Derived.Deep.AppendLies
import Derived.Deep.Draws
import Derived.Laws.Rows
import Derived.Maps.AppendAt
import Derived.RegionTactic
import Derived.OwnWalk
import Derived.Laws.IdiomStrings
import Derived.WalkKit
set_option linter.unusedSimpArgs false
set_option linter.unusedVariables false
namespace Go.Proofs.YtbnaphbmmkmaeaaGreatDoor
open Go.RowKit

theorem block_of_add (a : Addr) (n : Nat) : (a.add n).block = a.block := by unfold Addr.add; split <;> rfl
theorem add_of_add (a : Addr) (i j : Nat) : (a.add i).add j = a.add (i + j) := by
  unfold Addr.add
  by_cases hi : i = 0 <;> by_cases hj : j = 0 <;> simp [hi, hj, Nat.add_assoc]

/-- The slice value '.slice A n c' holds the cells xs ('size' cells an element) and lies below block B. -/
def Reads (w : World) (B size : Nat) (A : Option Addr) (n : Nat) (xs : List Value) : Prop :=
  xs.length = n * size ∧ (0 < n → ∃ b off, A = some ⟨b, off, none⟩ ∧ b < B ∧ ∀ j u, xs[j]? = some u → w.cell? ⟨b, off + j, none⟩ = some u)

section
variable {w w' : World} {B B' size n : Nat} {A : Option Addr} {xs : List Value}
theorem Reads.none_ : Reads w B size A 0 [] := ⟨by simp, fun h => absurd h (by omega)⟩
theorem Reads.keep (h : Reads w B size A n xs) (hk : ∀ p : Addr, p.block < B → w'.cell? p = w.cell? p) : Reads w' B size A n xs :=
  ⟨h.1, fun hn => by
    obtain ⟨b, off, e, hb, hc⟩ := h.2 hn
    exact ⟨b, off, e, hb, fun j u hu => (hk _ hb).trans (hc j u hu)⟩⟩
theorem Reads.more (h : Reads w B size A n xs) (hB : B ≤ B') : Reads w B' size A n xs :=
  ⟨h.1, fun hn => by
    obtain ⟨b, off, e, hb, hc⟩ := h.2 hn
    exact ⟨b, off, e, by omega, hc⟩⟩
theorem Reads.below (h : Reads w B size A n xs) (hb : Below B w w') : Reads w' B size A n xs := h.keep fun _ hp => hb.cell hp
theorem Reads.of_own {base : Nat} {e : TypeId} {c : Nat} (h : w.ownsRow base e size (.slice A n c) n xs) : Reads w w.heap.size size A n xs := by
  refine ⟨h.1, fun hn => ?_⟩
  obtain ⟨g, cap, hv, _, hlt⟩ := h.form hn
  have hA : A = some ⟨g, 0, none⟩ := by injection hv
  subst hA
  exact ⟨g, 0, rfl, hlt, fun j u hu => by
    have := h.cells (g := g) rfl j u hu
    unfold Addr.add at this
    split at this
    · subst_vars; exact this
    · exact this⟩
end

/-- Block g is just the cells cs of element type t, none frozen. -/
def Blk (w : World) (g : Nat) (t : TypeId) (cs : Array Value) : Prop := w.heap[g]? = some (.cells cs t (0, 0))

section
variable {w w' : World} {g : Nat} {t : TypeId} {cs : Array Value}
theorem Blk.lt (h : Blk w g t cs) : g < w.heap.size := by
  rcases Nat.lt_or_ge g w.heap.size with hlt | hge
  · exact hlt
  · unfold Blk at h; rw [Array.getElem?_eq_none hge] at h; cases h
theorem Blk.cell (h : Blk w g t cs) (i : Nat) : w.cell? ⟨g, i, none⟩ = cs[i]? := cell_of_row w g i cs t (0, 0) h
theorem Blk.frozen (h : Blk w g t cs) (i : Nat) : w.frozen? ⟨g, i, none⟩ = false := by
  unfold Blk at h
  simp [World.frozen?, h]
theorem Blk.new (w : World) (t : TypeId) (cs : Array Value) : Blk (w.alloc (.cells cs t)) w.heap.size t cs := heap_alloc_new w _
theorem Blk.drew (h : Blk w g t cs) : Blk w.drew g t cs := h
theorem Blk.drewN (h : Blk w g t cs) (n : Nat) : Blk (w.drewN n) g t cs := h
theorem Blk.alloc (h : Blk w g t cs) (o : Obj) : Blk (w.alloc o) g t cs := (Below.heap_alloc w o g h.lt).trans h
theorem Blk.set_ (h : Blk w g t cs) (i : Nat) (u : Value) : Blk (w.setCell ⟨g, i, none⟩ u) g t (cs.setIfInBounds i u) := by
  unfold Blk at h ⊢
  simp [World.setCell, Array.getElem?_modify, h]
theorem Blk.far (h : Blk w g t cs) {p : Addr} (hp : g ≠ p.block) (u : Value) : Blk (w.setCell p u) g t cs := (Below.heap_setCell w p u g hp).trans h
theorem Blk.below {B : Nat} (h : Blk w g t cs) (hb : Below B w w') (hg : g < B) : Blk w' g t cs := (hb.block g hg).trans h
theorem Blk.grown {row : Option Nat} (h : Blk w g t cs) (hb : w.grownBy w' row) (hg : some g ≠ row) : Blk w' g t cs := (hb.block g h.lt hg).trans h
theorem Blk.ne_ {g' : Nat} {t' : TypeId} {cs' : Array Value} (h : Blk w g t cs) (h' : Blk w g' t' cs') (hne : t ≠ t') : g ≠ g' := by
  rintro rfl
  unfold Blk at h h'
  rw [h] at h'
  injection h' with h'
  injection h' with _ ht
  exact hne ht
theorem own_blk_ne {base : Nat} {e : TypeId} {size n : Nat} {v : Value} {xs : List Value} (h : w.ownsRow base e size v n xs) (hg : Blk w g t cs) (hne : e ≠ t) : v.ownBlock ≠ some g := by
  rcases h.2 with ⟨rfl, _⟩ | ⟨g', cap, cur, rfl, _, hh, _⟩
  · simp [Value.ownBlock]
  · intro he
    have : g' = g := by simpa [Value.ownBlock] using he
    subst this
    exact Blk.ne_ (t := e) hh hg hne rfl
end

/-- Block k is a row of cells of element type t. -/
def IsT (w : World) (k : Nat) (t : TypeId) : Prop := ∃ cs fr, w.heap[k]? = some (.cells cs t fr)

theorem Blk.isT {w : World} {g t : Nat} {cs : Array Value} (h : Blk w g t cs) : IsT w g t := ⟨cs, _, h⟩
theorem IsT.lt {w : World} {k t : Nat} (h : IsT w k t) : k < w.heap.size := by
  obtain ⟨cs, fr, h⟩ := h
  rcases Nat.lt_or_ge k w.heap.size with hlt | hge
  · exact hlt
  · rw [Array.getElem?_eq_none hge] at h; cases h

/-- What a call may have turned: of the blocks that were there, those from 'base' on that are rows of element type t, and the block b; nothing else. -/
structure Turn (base t b : Nat) (w w' : World) : Prop where
  os : w'.os = w.os
  tape : w'.tape = w.tape
  output : w'.output = w.output
  size : w.heap.size ≤ w'.heap.size
  block : ∀ k, k < w.heap.size → k ≠ b → ¬ (base ≤ k ∧ IsT w k t) → w'.heap[k]? = w.heap[k]?
  kind : ∀ k, k < w.heap.size → IsT w k t → IsT w' k t

section
variable {base t b : Nat} {w w1 w' : World}
theorem Turn.refl (base t b : Nat) (w : World) : Turn base t b w w := ⟨rfl, rfl, rfl, Nat.le_refl _, fun _ _ _ _ => rfl, fun _ _ h => h⟩
theorem Turn.trans (h : Turn base t b w w1) (k : Turn base t b w1 w') : Turn base t b w w' := by
  refine ⟨k.os.trans h.os, k.tape.trans h.tape, k.output.trans h.output, Nat.le_trans h.size k.size, fun i hi hb hn => ?_, fun i hi hT => k.kind i (Nat.lt_of_lt_of_le hi h.size) (h.kind i hi hT)⟩
  have e := h.block i hi hb hn
  rw [k.block i (Nat.lt_of_lt_of_le hi h.size) hb ?_, e]
  rintro ⟨h1, cs, fr, h2⟩
  exact hn ⟨h1, cs, fr, by rw [← e]; exact h2⟩
theorem Turn.below {B : Nat} (h : Turn base t b w w') (hB : B ≤ base) (hb : B ≤ b) (hs : B ≤ w.heap.size) : Below B w w' :=
  ⟨h.os, h.tape, h.output, h.size, fun k hk => h.block k (by omega) (by omega) (fun hh => by omega)⟩
theorem Turn.blk {g t' : Nat} {cs : Array Value} (h : Turn base t b w w') (hg : Blk w g t' cs) (hb : g ≠ b) (ht : t' ≠ t) : Blk w' g t' cs := by
  refine (h.block g hg.lt hb ?_).trans hg
  rintro ⟨_, cs', fr, h2⟩
  unfold Blk at hg
  rw [hg] at h2
  injection h2 with h2
  injection h2 with _ h3
  exact ht h3
theorem Turn.alloc (h : Turn base t b w w1) (o : Obj) : Turn base t b w (w1.alloc o) :=
  h.trans ⟨rfl, rfl, rfl, by simp, fun k hk _ _ => Below.heap_alloc _ _ _ hk, fun k hk ⟨cs, fr, h⟩ => ⟨cs, fr, (Below.heap_alloc _ _ _ hk).trans h⟩⟩
theorem Turn.drew (h : Turn base t b w w1) : Turn base t b w w1.drew := ⟨h.os, h.tape, h.output, h.size, h.block, h.kind⟩
theorem Turn.drewN (h : Turn base t b w w1) (n : Nat) : Turn base t b w (w1.drewN n) := ⟨h.os, h.tape, h.output, h.size, h.block, h.kind⟩
theorem isT_setCell {k : Nat} {p : Addr} {u : Value} (h : IsT w k t) : IsT (w.setCell p u) k t := by
  obtain ⟨cs, fr, h⟩ := h
  by_cases hk : k = p.block
  · subst hk
    unfold IsT
    simp only [World.setCell, Array.getElem?_modify, h, if_true, Option.map_some]
    exact ⟨_, _, rfl⟩
  · exact ⟨cs, fr, (Below.heap_setCell w p u k hk).trans h⟩
theorem Turn.setCell (h : Turn base t b w w1) {p : Addr} (hp : p.block = b ∨ w.heap.size ≤ p.block) (u : Value) : Turn base t b w (w1.setCell p u) := by
  refine ⟨h.os, h.tape, h.output, by simpa [World.setCell] using h.size, fun k hk hb hn => ?_, fun k hk hT => isT_setCell (h.kind k hk hT)⟩
  rw [Below.heap_setCell _ _ _ _ (by omega)]
  exact h.block k hk hb hn
theorem Turn.grown (h : Turn base t b w w1) {row : Option Nat} (hg : w1.grownBy w' row) (hr : ∀ k, row = some k → base ≤ k ∧ IsT w1 k t) (hk : ∀ k, row = some k → IsT w' k t) : Turn base t b w w' := by
  refine h.trans ⟨hg.os, hg.tape, hg.output, hg.size, fun k h1 _ hn => hg.block k h1 (fun e => hn (hr k e.symm)), fun k h1 hT => ?_⟩
  by_cases e : some k = row
  · exact hk k e.symm
  · obtain ⟨cs, fr, h2⟩ := hT
    exact ⟨cs, fr, (hg.block k h1 e).trans h2⟩
end

theorem own_isT {w : World} {base e size n : Nat} {v : Value} {xs : List Value} (h : w.ownsRow base e size v n xs) : ∀ k, v.ownBlock = some k → base ≤ k ∧ IsT w k e := by
  intro k hk
  rcases h.2 with ⟨rfl, _⟩ | ⟨g', cap, cur, rfl, hb, hh, _⟩
  · simp [Value.ownBlock] at hk
  · have : g' = k := by simpa [Value.ownBlock] using hk
    subst this
    exact ⟨hb, cur, _, hh⟩

/-- append of one element ('size' cells), which buildSlice has laid in a new block. -/
theorem wpList_append_elem {P : Program} (W : World) {e : TypeId} {cs : List Value} {ops : Array Oper} {rest : List Oper} {o : Oper} {a : Act} {Q : Exit → Act → World → Prop} (hgd : o.guard = none) (s x : Operand) (t : TypeId)
    (ho : o.op = .call { callee := .builtin .append, args := #[s, x], argTypes := #[t, t] })
    (base : Nat) (z : Value) (size bytes : Nat) (ht : P.underlying t = some (.slice e)) (hinfo : (P.info? e).map (fun i => (i.zero, i.size, i.bytes)) = some (some z, size, bytes))
    (hzs : z.cells.size = size) (hsz : 0 < size)
    (v : Value) (n : Nat) (xs : List Value) (hs : a.eval s = v) (hown : W.ownsRow base e size v n xs)
    (hcs : cs.length = size) (h1 : ∀ u ∈ cs, u.oneCell' = true) (hx : a.eval x = .slice (some ⟨W.heap.size, 0, none⟩) 1 1)
    (h63 : n + 1 ≤ maxLen) (hbytes : (n + 1) * bytes ≤ 140737488355328) (hbase : base ≤ W.heap.size)
    (h : ∀ g cap w', w'.ownsRow base e size (.slice (some ⟨g, 0, none⟩) (n + 1) cap) (n + 1) (xs ++ cs) → W.grownBy w' v.ownBlock → (v.ownBlock = some g ∨ W.heap.size ≤ g) → g < w'.heap.size → base ≤ g →
      wpList P ops Q rest (a.put o.dst (.slice (some ⟨g, 0, none⟩) (n + 1) cap)) w') : wpList P ops Q (o :: rest) a (W.alloc (.cells cs.toArray e)) := by
  obtain ⟨i, hi, hz, hsize, hby⟩ := info_parts hinfo
  refine wpList_append_lies (W.alloc (.cells cs.toArray e)) hgd s x t ho base e i z size bytes ht hi hz hsize hby hzs hsz v n xs hs (hown.alloc _) ⟨W.heap.size, 0, none⟩ 1 1 cs hx (by omega) ?_ h1 (by omega) h63 hbytes (by simp; omega) _ rfl ?_
  · intro j u hu
    exact World.news_of_block (Blk.new W e cs.toArray) j u (by simpa using hu)
  · intro g cap w' hown' hgrow hg hlt
    have hb : base ≤ g := (own_isT hown' g rfl).1
    refine h g cap w' hown' ⟨hgrow.os, hgrow.tape, hgrow.output, Nat.le_trans (by simp) hgrow.size, fun k hk hne => ?_⟩ ?_ hlt hb
    · exact (hgrow.block k (by simp; omega) hne).trans (Below.heap_alloc W _ k hk)
    · rcases hg with hg | hg
      · exact .inl hg
      · exact .inr (by simp at hg; omega)

theorem ret_eq2 {x x' y y' : Value} (h1 : x = x') (h2 : y = y') : Ending.returned (.tuple #[x, y]) = .returned (.tuple #[x', y']) := by rw [h1, h2]
theorem ret_eq1 {x x' : Value} (h1 : x = x') : Ending.returned x = .returned x' := by rw [h1]
theorem bool_eq {a b : Bool} (h : a = b) : Value.bool a = .bool b := by rw [h]
theorem int_eq {k : IntKind} {a b : Int} (h : a = b) : Value.int k a = .int k b := by rw [h]

/-- Bytes as cells. -/
def byteVs (l : List UInt8) : List Value := l.map fun b => .int .u8 (b.toNat : Int)
theorem byteVs_nil : byteVs [] = [] := rfl
theorem byteVs_append (a b : List UInt8) : byteVs (a ++ b) = byteVs a ++ byteVs b := by simp [byteVs]
theorem byteVs_length (a : List UInt8) : (byteVs a).length = a.length := by simp [byteVs]
theorem byteVs_one (l : List UInt8) : ∀ u ∈ byteVs l, u.oneCell' = true := by
  intro u hu
  simp only [byteVs, List.mem_map] at hu
  obtain ⟨b, _, rfl⟩ := hu
  rfl
/-- A number of a byte, as a byte. -/
def bv (n : Int) : UInt8 := UInt8.ofNat n.toNat
theorem bv_toNat (n : Int) (h0 : 0 ≤ n) (h1 : n < 256) : ((bv n).toNat : Int) = n := by
  unfold bv
  rw [UInt8.toNat_ofNat']
  omega
theorem byteVs_bv (n : Int) (h0 : 0 ≤ n) (h1 : n < 256) : byteVs [bv n] = [.int .u8 n] := by
  show [Value.int .u8 ((bv n).toNat : Int)] = _
  rw [bv_toNat n h0 h1]

/-- A string's bytes. -/
def StrIs (t : ByteArray) (l : List UInt8) : Prop := t.data.toList = l
theorem StrIs.size {t : ByteArray} {l : List UInt8} (h : StrIs t l) : t.size = l.length := by
  unfold StrIs at h
  rw [← h]; simp

/-- 'string(b)', b a row of the call's own. -/
theorem run_to_string {P : Program} (w : World) (src dst e : TypeId) (hs : P.underlying src = some (.slice e)) (he : P.underlying e = some (.int .u8)) (hd : P.underlying dst = some .string)
    {base : Nat} {v : Value} {n : Nat} (l : List UInt8) (hown : w.ownsRow base e 1 v n (byteVs l)) : ∃ t : ByteArray, (convert src dst v).run P w = .ok (.string t) w ∧ StrIs t l := by
  have hn : l.length = n := by have := hown.1; rw [byteVs_length] at this; omega
  rcases hown.2 with ⟨rfl, hx⟩ | ⟨g, cap, cur, rfl, _⟩
  · subst hx
    have hl : l = [] := by
      exact List.eq_nil_of_length_eq_zero (by have := hown.1; rw [byteVs_length] at this; omega)
    subst hl
    refine ⟨ByteArray.empty, ?_, rfl⟩
    rw [run_convert_bytes_string w src dst e _ _ _ hs he hd]
    simp [Conv.bytesToString]
  · subst hn
    refine ⟨⟨l.toArray⟩, run_convert_bytes_back w src dst e ⟨g, 0, none⟩ cap l hs he hd ?_, rfl⟩
    intro j hj
    exact hown.cells (g := g) rfl j _ (by simp [byteVs, List.getElem?_eq_getElem hj])

theorem wpList_to_string {P : Program} {w : World} {ops : Array Oper} {rest : List Oper} {o : Oper} {a : Act} {Q : Exit → Act → World → Prop} (hgd : o.guard = none) (src dst e : TypeId) (x : Operand)
    (ho : o.op = .convert src dst x) (hs : P.underlying src = some (.slice e)) (he : P.underlying e = some (.int .u8)) (hd : P.underlying dst = some .string)
    (base : Nat) (v : Value) (n : Nat) (hx : a.eval x = v) (l : List UInt8) (hown : w.ownsRow base e 1 v n (byteVs l))
    (h : ∀ t : ByteArray, StrIs t l → wpList P ops Q rest (a.put o.dst (.string t)) w) : wpList P ops Q (o :: rest) a w := by
  obtain ⟨t, hrun, ht⟩ := run_to_string (P := P) w src dst e hs he hd l hown
  refine wpList_plain hgd fun K hK => ?_
  unfold Oper.wp execOp
  simp only [ho, Sem.run_bind, Sem.run_pure, Result.andThen_ok, hx, hrun]
  exact hK _ _ (h t ht)

theorem own_byte_lit (w : World) (e : TypeId) (n : Int) (h0 : 0 ≤ n) (h1 : n < 256) : (w.alloc (.cells #[.int .u8 n] e)).ownsRow w.heap.size e 1 (.slice (some ⟨w.heap.size, 0, none⟩) 1 1) 1 (byteVs [bv n]) := by
  rw [byteVs_bv n h0 h1]
  exact World.ownsRow_lit w #[.int .u8 n] 1 (Nat.le_refl _) (by unfold maxLen; omega) rfl

theorem own_bytes_lit (w : World) (e : TypeId) (ns : List Int) (h : ∀ n ∈ ns, 0 ≤ n ∧ n < 256) (hl : ns.length ≤ 1000) :
    (w.alloc (.cells (ns.map (Value.int .u8)).toArray e)).ownsRow w.heap.size e 1 (.slice (some ⟨w.heap.size, 0, none⟩) ns.length ns.length) ns.length (byteVs (ns.map bv)) := by
  have e1 : byteVs (ns.map bv) = ns.map (Value.int .u8) := by
    unfold byteVs
    rw [List.map_map]
    apply List.map_congr_left
    intro n hn
    have := h n hn
    simp only [Function.comp, bv_toNat n this.1 this.2]
  rw [e1]
  have := World.ownsRow_lit (base := w.heap.size) (e := e) (size := 1) w (ns.map (Value.int .u8)).toArray ns.length (Nat.le_refl _) (by unfold maxLen; omega) (by simp)
  simpa using this
theorem own_bytes1 (w : World) (e : TypeId) (base g : Nat) (hg : w.heap.size = g) (hbase : base ≤ g) (a : Int) (ha : 0 ≤ a ∧ a < 256) :
    (w.alloc (.cells #[.int .u8 a] e)).ownsRow base e 1 (.slice (some ⟨g, 0, none⟩) 1 1) 1 (byteVs [bv a]) := by
  subst hg
  have := own_bytes_lit w e [a] (by simp [ha]) (by simp)
  exact ⟨this.1, .inr (by
    rcases this.2 with ⟨h, _⟩ | ⟨g, cap, cur, h1, h2, h3⟩
    · simp at h
    · exact ⟨g, cap, cur, h1, by omega, h3⟩)⟩
theorem own_bytes2 (w : World) (e : TypeId) (base g : Nat) (hg : w.heap.size = g) (hbase : base ≤ g) (a b : Int) (ha : 0 ≤ a ∧ a < 256) (hb : 0 ≤ b ∧ b < 256) :
    (w.alloc (.cells #[.int .u8 a, .int .u8 b] e)).ownsRow base e 1 (.slice (some ⟨g, 0, none⟩) 2 2) 2 (byteVs [bv a, bv b]) := by
  subst hg
  have := own_bytes_lit w e [a, b] (by simp [ha, hb]) (by simp)
  exact ⟨this.1, .inr (by
    rcases this.2 with ⟨h, _⟩ | ⟨g, cap, cur, h1, h2, h3⟩
    · simp at h
    · exact ⟨g, cap, cur, h1, by omega, h3⟩)⟩
theorem own_bytes3 (w : World) (e : TypeId) (base g : Nat) (hg : w.heap.size = g) (hbase : base ≤ g) (a b c : Int) (ha : 0 ≤ a ∧ a < 256) (hb : 0 ≤ b ∧ b < 256) (hc : 0 ≤ c ∧ c < 256) :
    (w.alloc (.cells #[.int .u8 a, .int .u8 b, .int .u8 c] e)).ownsRow base e 1 (.slice (some ⟨g, 0, none⟩) 3 3) 3 (byteVs [bv a, bv b, bv c]) := by
  subst hg
  have := own_bytes_lit w e [a, b, c] (by simp [ha, hb, hc]) (by simp)
  exact ⟨this.1, .inr (by
    rcases this.2 with ⟨h, _⟩ | ⟨g, cap, cur, h1, h2, h3⟩
    · simp at h
    · exact ⟨g, cap, cur, h1, by omega, h3⟩)⟩
theorem own_bytes4 (w : World) (e : TypeId) (base g : Nat) (hg : w.heap.size = g) (hbase : base ≤ g) (a b c d : Int) (ha : 0 ≤ a ∧ a < 256) (hb : 0 ≤ b ∧ b < 256) (hc : 0 ≤ c ∧ c < 256) (hd : 0 ≤ d ∧ d < 256) :
    (w.alloc (.cells #[.int .u8 a, .int .u8 b, .int .u8 c, .int .u8 d] e)).ownsRow base e 1 (.slice (some ⟨g, 0, none⟩) 4 4) 4 (byteVs [bv a, bv b, bv c, bv d]) := by
  subst hg
  have := own_bytes_lit w e [a, b, c, d] (by simp [ha, hb, hc, hd]) (by simp)
  exact ⟨this.1, .inr (by
    rcases this.2 with ⟨h, _⟩ | ⟨g, cap, cur, h1, h2, h3⟩
    · simp at h
    · exact ⟨g, cap, cur, h1, by omega, h3⟩)⟩
end Go.Proofs.YtbnaphbmmkmaeaaGreatDoor
namespace Go.Proofs.YtbnaphbmmkmaeaaGreatDoor
open Go.RowKit

theorem hide {p : Prop} (h : p) : Hid p := h

theorem ofInt_i64 (a : Nat) (ha : a < 9223372036854775808) : (BitVec.ofInt 64 (a : Int)).toNat = a := by
  rw [BitVec.ofInt_natCast, BitVec.toNat_ofNat]; exact Nat.mod_eq_of_lt (by omega)
theorem i64_and_nat (a b : Nat) (ha : a < 9223372036854775808) (hb : b < 9223372036854775808) : bits .and .i64 (a : Int) (b : Int) = ((a &&& b : Nat) : Int) := by
  have hx : a &&& b < 2 ^ 63 := Nat.and_lt_two_pow _ (by omega)
  show IntKind.i64.wrap ((BitVec.ofInt 64 (a : Int) &&& BitVec.ofInt 64 (b : Int)).toNat : Int) = _
  rw [BitVec.toNat_and, ofInt_i64 a ha, ofInt_i64 b hb, IntKind.wrap_i64]
  omega
theorem i64_or_nat (a b : Nat) (ha : a < 9223372036854775808) (hb : b < 9223372036854775808) : bits .or .i64 (a : Int) (b : Int) = ((a ||| b : Nat) : Int) := by
  have hx : a ||| b < 2 ^ 63 := Nat.or_lt_two_pow (by omega) (by omega)
  show IntKind.i64.wrap ((BitVec.ofInt 64 (a : Int) ||| BitVec.ofInt 64 (b : Int)).toNat : Int) = _
  rw [BitVec.toNat_or, ofInt_i64 a ha, ofInt_i64 b hb, IntKind.wrap_i64]
  omega
theorem ofInt_u8 (a : Nat) (ha : a < 256) : (BitVec.ofInt 8 (a : Int)).toNat = a := by
  rw [BitVec.ofInt_natCast, BitVec.toNat_ofNat]; exact Nat.mod_eq_of_lt (by omega)
theorem u8_and_nat (a b : Nat) (ha : a < 256) (hb : b < 256) : bits .and .u8 (a : Int) (b : Int) = ((a &&& b : Nat) : Int) := by
  have hx : a &&& b < 2 ^ 8 := Nat.and_lt_two_pow _ (by omega)
  show IntKind.u8.wrap ((BitVec.ofInt 8 (a : Int) &&& BitVec.ofInt 8 (b : Int)).toNat : Int) = _
  rw [BitVec.toNat_and, ofInt_u8 a ha, ofInt_u8 b hb, IntKind.wrap_u8]
  omega
theorem u8_or_nat (a b : Nat) (ha : a < 256) (hb : b < 256) : bits .or .u8 (a : Int) (b : Int) = ((a ||| b : Nat) : Int) := by
  have hx : a ||| b < 2 ^ 8 := Nat.or_lt_two_pow (by omega) (by omega)
  show IntKind.u8.wrap ((BitVec.ofInt 8 (a : Int) ||| BitVec.ofInt 8 (b : Int)).toNat : Int) = _
  rw [BitVec.toNat_or, ofInt_u8 a ha, ofInt_u8 b hb, IntKind.wrap_u8]
  omega

/-- 'x & (2^k - 1)' -/
theorem i64_mask (x : Int) (k : Nat) (h0 : 0 ≤ x) (h1 : x < 9223372036854775808) (hk : k < 63) (m : Int) (hm : m = 2 ^ k - 1) : bits .and .i64 x m = x % 2 ^ k := by
  obtain ⟨a, rfl⟩ := Int.eq_ofNat_of_zero_le h0
  have h2 : (2 : Nat) ^ k < 2 ^ 63 := Nat.pow_lt_pow_right (by omega) hk
  have h3 : 0 < (2 : Nat) ^ k := Nat.two_pow_pos k
  obtain rfl : m = ((2 ^ k - 1 : Nat) : Int) := by rw [hm, Int.ofNat_sub h3]; simp
  rw [i64_and_nat a _ (by omega) (by omega), Nat.and_two_pow_sub_one_eq_mod]
  simp
theorem u8_mask (x : Int) (k : Nat) (h0 : 0 ≤ x) (h1 : x < 256) (hk : k < 8) (m : Int) (hm : m = 2 ^ k - 1) : bits .and .u8 x m = x % 2 ^ k := by
  obtain ⟨a, rfl⟩ := Int.eq_ofNat_of_zero_le h0
  have h2 : (2 : Nat) ^ k < 2 ^ 8 := Nat.pow_lt_pow_right (by omega) hk
  have h3 : 0 < (2 : Nat) ^ k := Nat.two_pow_pos k
  obtain rfl : m = ((2 ^ k - 1 : Nat) : Int) := by rw [hm, Int.ofNat_sub h3]; simp
  rw [u8_and_nat a _ (by omega) (by omega), Nat.and_two_pow_sub_one_eq_mod]
  simp

/-- 'x * 2^k | y', y below 2^k: the sum. -/
theorem i64_or_add (x y : Int) (k : Nat) (h0 : 0 ≤ x) (hy : 0 ≤ y) (hk : y < 2 ^ k) (hx : x * 2 ^ k + y < 9223372036854775808) : bits .or .i64 (x * 2 ^ k) y = x * 2 ^ k + y := by
  obtain ⟨a, rfl⟩ := Int.eq_ofNat_of_zero_le h0
  obtain ⟨b, rfl⟩ := Int.eq_ofNat_of_zero_le hy
  have e : ((a : Int) * 2 ^ k) = ((a * 2 ^ k : Nat) : Int) := by simp
  have hb : b < 2 ^ k := by
    have : ((2 ^ k : Nat) : Int) = (2 : Int) ^ k := by simp
    omega
  rw [e] at hx ⊢
  rw [i64_or_nat _ _ (by omega) (by omega)]
  rw [Nat.mul_comm a, ← Nat.two_pow_add_eq_or_of_lt hb]
  simp
theorem u8_or_add (x y : Int) (k : Nat) (h0 : 0 ≤ x) (hy : 0 ≤ y) (hk : y < 2 ^ k) (hx : x * 2 ^ k + y < 256) : bits .or .u8 (x * 2 ^ k) y = x * 2 ^ k + y := by
  obtain ⟨a, rfl⟩ := Int.eq_ofNat_of_zero_le h0
  obtain ⟨b, rfl⟩ := Int.eq_ofNat_of_zero_le hy
  have e : ((a : Int) * 2 ^ k) = ((a * 2 ^ k : Nat) : Int) := by simp
  have hb : b < 2 ^ k := by
    have : ((2 ^ k : Nat) : Int) = (2 : Int) ^ k := by simp
    omega
  rw [e] at hx ⊢
  rw [u8_or_nat _ _ (by omega) (by omega)]
  rw [Nat.mul_comm a, ← Nat.two_pow_add_eq_or_of_lt hb]
  simp

theorem u8_and63 (x : Int) (h0 : 0 ≤ x) (h1 : x < 256) : bits .and .u8 x 63 = x % 64 := u8_mask x 6 h0 h1 (by omega) _ rfl
theorem i64_or64 (x y : Int) (h0 : 0 ≤ x) (h1 : x < 100000000000) (h2 : 0 ≤ y) (h3 : y < 64) : bits .or .i64 (x * 64) y = x * 64 + y := by
  have := i64_or_add x y 6 h0 h2 (by omega) (by omega)
  simpa using this
end Go.Proofs.YtbnaphbmmkmaeaaGreatDoor
namespace Go.Proofs.YtbnaphbmmkmaeaaGreatDoor
open Go.RowKit

/-- Nothing that was there has turned, but block R. -/
structure But (R : Nat) (w w' : World) : Prop where
  os : w'.os = w.os
  tape : w'.tape = w.tape
  output : w'.output = w.output
  size : w.heap.size ≤ w'.heap.size
  block : ∀ k, k < w.heap.size → k ≠ R → w'.heap[k]? = w.heap[k]?
section
variable {R : Nat} {w w1 w' : World}
theorem But.refl (R : Nat) (w : World) : But R w w := ⟨rfl, rfl, rfl, Nat.le_refl _, fun _ _ _ => rfl⟩
theorem But.trans (h : But R w w1) (k : But R w1 w') : But R w w' :=
  ⟨k.os.trans h.os, k.tape.trans h.tape, k.output.trans h.output, Nat.le_trans h.size k.size, fun i hi hb => (k.block i (Nat.lt_of_lt_of_le hi h.size) hb).trans (h.block i hi hb)⟩
theorem But.below {B : Nat} (h : But R w w') (hb : B ≤ R) (hs : B ≤ w.heap.size) : Below B w w' := ⟨h.os, h.tape, h.output, h.size, fun k hk => h.block k (by omega) (by omega)⟩
theorem But.of_below (h : Below w.heap.size w w') : But R w w' := ⟨h.os, h.tape, h.output, h.size, fun k hk _ => h.block k hk⟩
theorem But.blk {g t' : Nat} {cs : Array Value} (h : But R w w') (hg : Blk w g t' cs) (hb : g ≠ R) : Blk w' g t' cs := (h.block g hg.lt hb).trans hg
theorem But.alloc (h : But R w w1) (o : Obj) : But R w (w1.alloc o) := h.trans ⟨rfl, rfl, rfl, by simp, fun k hk _ => Below.heap_alloc _ _ _ hk⟩
theorem But.drew (h : But R w w1) : But R w w1.drew := ⟨h.os, h.tape, h.output, h.size, h.block⟩
theorem But.setCell (h : But R w w1) {p : Addr} (hp : p.block = R ∨ w.heap.size ≤ p.block) (u : Value) : But R w (w1.setCell p u) := by
  refine ⟨h.os, h.tape, h.output, by simpa [World.setCell] using h.size, fun k hk hb => ?_⟩
  rw [Below.heap_setCell _ _ _ _ (by omega)]
  exact h.block k hk hb
theorem But.go (h : But R w w1) (hb : Below w1.heap.size w1 w') : But R w w' := h.trans (But.of_below hb)
end
theorem below_alloc (w : World) (o : Obj) : Below w.heap.size w (w.alloc o) := (Below.refl _ _).alloc (Nat.le_refl _) o
theorem Blk.go {w w' : World} {g t : Nat} {cs : Array Value} (h : Blk w g t cs) (hb : Below w.heap.size w w') : Blk w' g t cs := h.below hb h.lt

/-- Bytes as a string. -/
def bstr (l : List UInt8) : ByteArray := ⟨l.toArray⟩
theorem bstr_list (l : List UInt8) : (bstr l).data.toList = l := rfl
theorem bstr_of (b : ByteArray) : bstr b.data.toList = b := rfl
theorem bstr_size (l : List UInt8) : (bstr l).size = l.length := List.size_toArray ..
theorem size_list (s : ByteArray) : s.data.toList.length = s.size := Array.length_toList
theorem extract_bstr (s : ByteArray) (a b : Nat) : s.extract a b = bstr ((s.data.toList.drop a).take (b - a)) := by
  apply ByteArray.ext
  apply Array.ext'
  rw [ByteArray.data_extract, Array.toList_extract]
  rfl
theorem extract_end (s : ByteArray) (a : Nat) : s.extract a s.size = bstr (s.data.toList.drop a) := by
  rw [extract_bstr, List.take_of_length_le (by rw [List.length_drop, size_list]; exact Nat.le_refl _)]
theorem extract_all (s : ByteArray) : s.extract 0 s.size = s := by rw [extract_end, List.drop_zero, bstr_of]
theorem str_inj {a b : List UInt8} (h : bstr a = bstr b) : a = b := congrArg (fun x : ByteArray => x.data.toList) h
end Go.Proofs.YtbnaphbmmkmaeaaGreatDoor
namespace Go.Proofs.YtbnaphbmmkmaeaaGreatDoor
namespace Utf

/-- What a first byte says: how many follow (-1: it is none), its bits, the next byte's least and greatest. -/
def follow (c : Int) : Int × Int × Int × Int :=
  if c < 128 then (0, c, 128, 191)
  else if c < 194 ∨ 244 < c then (-1, 0, 128, 191)
  else if c < 224 then (1, c % 32, 128, 191)
  else if c < 240 then (2, c % 16, if c = 224 then 160 else 128, if c = 237 then 159 else 191)
  else (3, c % 8, if c = 240 then 144 else 128, if c = 244 then 143 else 191)

/-- The bytes that follow: so many are still wanted; the scalar so far, how many bytes are behind. -/
def cont : List UInt8 → Nat → Int → Int → Int → Int → Int × Int
  | _, 0, r, n, _, _ => (r, n)
  | [], _ + 1, _, n, _, _ => (-1, n)
  | c :: l, k + 1, r, n, lo, hi => if (c.toNat : Int) < lo ∨ hi < (c.toNat : Int) then (-1, n) else cont l k (r * 64 + (c.toNat : Int) % 64) (n + 1) 128 191

/-- What stands at the head: a scalar (-1: a wrong part), and how many bytes that is. -/
def piece : List UInt8 → Int × Int
  | [] => (-1, 1)
  | c :: l => if (follow c.toNat).1 < 0 then (-1, 1) else cont l (follow c.toNat).1.toNat (follow c.toNat).2.1 1 (follow c.toNat).2.2.1 (follow c.toNat).2.2.2

def validN : Nat → List UInt8 → Bool
  | _, [] => true
  | 0, _ :: _ => false
  | k + 1, c :: l => if (piece (c :: l)).1 < 0 then false else validN k ((c :: l).drop (piece (c :: l)).2.toNat)

/-- Whether a text is right. -/
def valid (l : List UInt8) : Bool := validN l.length l

def isScalar (r : Int) : Bool := decide (0 ≤ r ∧ r ≤ 1114111 ∧ (r < 55296 ∨ 57343 < r))

/-- A scalar's bytes, as numbers. -/
def put (r : Int) : List Int :=
  if r < 128 then [r] else if r < 2048 then [192 + r / 64, 128 + r % 64] else if r < 65536 then [224 + r / 64 / 64, 128 + r / 64 % 64, 128 + r % 64]
  else [240 + r / 64 / 64 / 64, 128 + r / 64 / 64 % 64, 128 + r / 64 % 64, 128 + r % 64]

theorem follow_cases (c : Int) (h0 : 0 ≤ c) (h1 : c ≤ 255) :
    ((follow c).1 = 0 ∧ (follow c).2.1 = c ∧ c < 128) ∨ ((follow c).1 = -1 ∧ (follow c).2.1 = 0) ∨
    ((follow c).1 = 1 ∧ 2 ≤ (follow c).2.1 ∧ (follow c).2.1 < 32 ∧ (follow c).2.2.1 = 128 ∧ (follow c).2.2.2 = 191) ∨
    ((follow c).1 = 2 ∧ 0 ≤ (follow c).2.1 ∧ (follow c).2.1 < 16 ∧ 128 ≤ (follow c).2.2.1 ∧ (follow c).2.2.2 ≤ 191 ∧
      ((follow c).2.1 = 13 → (follow c).2.2.2 = 159) ∧ ((follow c).2.1 = 0 → (follow c).2.2.1 = 160)) ∨
    ((follow c).1 = 3 ∧ 0 ≤ (follow c).2.1 ∧ (follow c).2.1 ≤ 4 ∧ 128 ≤ (follow c).2.2.1 ∧ (follow c).2.2.2 ≤ 191 ∧
      ((follow c).2.1 = 4 → (follow c).2.2.2 = 143) ∧ ((follow c).2.1 = 0 → (follow c).2.2.1 = 144)) := by
  unfold follow
  by_cases a : c < 128
  · left; simp [a]
  by_cases b : c < 194 ∨ 244 < c
  · right; left; simp [a, b]
  by_cases d : c < 224
  · right; right; left; rw [if_neg a, if_neg b, if_pos d]; refine ⟨rfl, ?_, ?_, rfl, rfl⟩ <;> simp only <;> omega
  by_cases e : c < 240
  · right; right; right; left
    rw [if_neg a, if_neg b, if_neg d, if_pos e]
    simp only
    refine ⟨trivial, by omega, by omega, ?_, ?_, ?_, ?_⟩
    · split <;> omega
    · split <;> omega
    · intro h; rw [if_pos (by omega)]
    · intro h; rw [if_pos (by omega)]
  · right; right; right; right
    rw [if_neg a, if_neg b, if_neg d, if_neg e]
    simp only
    refine ⟨trivial, by omega, by omega, ?_, ?_, ?_, ?_⟩
    · split <;> omega
    · split <;> omega
    · intro h; rw [if_pos (by omega)]
    · intro h; rw [if_pos (by omega)]

theorem follow_bits (c : Int) : ((follow c).1 = 1 → (follow c).2.1 = c % 32) ∧ ((follow c).1 = 2 → (follow c).2.1 = c % 16) ∧ ((follow c).1 = 3 → (follow c).2.1 = c % 8) := by
  unfold follow
  by_cases a : c < 128
  · rw [if_pos a]; simp
  by_cases b : c < 194 ∨ 244 < c
  · rw [if_neg a, if_pos b]; simp
  by_cases d : c < 224
  · rw [if_neg a, if_neg b, if_pos d]; simp
  by_cases e : c < 240
  · rw [if_neg a, if_neg b, if_neg d, if_pos e]; simp
  · rw [if_neg a, if_neg b, if_neg d, if_neg e]; simp

/-- The bounds of what 'cont' says: it ends within the list, at most k bytes on. -/
theorem cont_len : ∀ (l : List UInt8) (k : Nat) (r n lo hi : Int), n ≤ (cont l k r n lo hi).2 ∧ (cont l k r n lo hi).2 ≤ n + k ∧ (cont l k r n lo hi).2 ≤ n + l.length := by
  intro l
  induction l with
  | nil => intro k r n lo hi; cases k <;> simp [cont] <;> omega
  | cons c l ih =>
    intro k r n lo hi
    cases k with
    | zero => simp [cont]; omega
    | succ k =>
      simp only [cont]
      by_cases h : (c.toNat : Int) < lo ∨ hi < (c.toNat : Int)
      · rw [if_pos h]; simp; omega
      · rw [if_neg h]
        have := ih k (r * 64 + (c.toNat : Int) % 64) (n + 1) 128 191
        simp only [List.length_cons]
        omega

theorem piece_cons (c : UInt8) (l : List UInt8) : piece (c :: l) = if (follow c.toNat).1 < 0 then (-1, 1) else cont l (follow c.toNat).1.toNat (follow c.toNat).2.1 1 (follow c.toNat).2.2.1 (follow c.toNat).2.2.2 := rfl

theorem byte_lt (c : UInt8) : (c.toNat : Int) < 256 := by have := c.toNat_lt; omega

theorem piece_len (c : UInt8) (l : List UInt8) : 1 ≤ (piece (c :: l)).2 ∧ (piece (c :: l)).2 ≤ 4 ∧ (piece (c :: l)).2 ≤ (c :: l).length := by
  have hb := byte_lt c
  rw [piece_cons]
  by_cases h : (follow c.toNat).1 < 0
  · rw [if_pos h]; simp; omega
  · rw [if_neg h]
    have h1 := cont_len l (follow c.toNat).1.toNat (follow c.toNat).2.1 1 (follow c.toNat).2.2.1 (follow c.toNat).2.2.2
    have h2 := follow_cases c.toNat (by omega) (by omega)
    simp only [List.length_cons]
    have : (follow c.toNat).1 ≤ 3 := by rcases h2 with h | h | h | h | h <;> omega
    omega

theorem cont_neg : ∀ (l : List UInt8) (k : Nat) (r n lo hi : Int), 0 ≤ r → (cont l k r n lo hi).1 = -1 ∨ (0 ≤ (cont l k r n lo hi).1 ∧ (cont l k r n lo hi).2 = n + k) := by
  intro l
  induction l with
  | nil =>
    intro k r n lo hi hr
    cases k with
    | zero => right; simp [cont, hr]
    | succ k => left; simp [cont]
  | cons c l ih =>
    intro k r n lo hi hr
    cases k with
    | zero => right; simp [cont, hr]
    | succ k =>
      simp only [cont]
      by_cases h : (c.toNat : Int) < lo ∨ hi < (c.toNat : Int)
      · left; rw [if_pos h]
      · rw [if_neg h]
        rcases ih k (r * 64 + (c.toNat : Int) % 64) (n + 1) 128 191 (by omega) with h1 | ⟨h1, h2⟩
        · exact .inl h1
        · exact .inr ⟨h1, by rw [h2]; omega⟩

/-- A piece that is not wrong is a scalar. -/
theorem piece_scalar (l : List UInt8) (h : 0 ≤ (piece l).1) : isScalar (piece l).1 = true := by
  cases l with
  | nil => simp [piece] at h
  | cons c l =>
    have hb := byte_lt c
    have hc := follow_cases c.toNat (by omega) (by omega)
    rw [piece_cons] at h ⊢
    by_cases hn : (follow c.toNat).1 < 0
    · rw [if_pos hn] at h; simp at h
    rw [if_neg hn] at h ⊢
    unfold isScalar
    rw [decide_eq_true_eq]
    revert h
    rcases hc with ⟨e, e2, h3⟩ | ⟨e, _⟩ | ⟨e, h3, h4, e5, e6⟩ | ⟨e, h3, h4, h5, h6, h7, h8⟩ | ⟨e, h3, h4, h5, h6, h7, h8⟩
    · rw [e]; simp only [Int.toNat_zero]
      cases l <;> simp only [cont] <;> omega
    · omega
    · rw [e]
      simp only [show (1 : Int).toNat = 1 from rfl]
      cases l with
      | nil => simp [cont]
      | cons c1 l =>
        have b1 := byte_lt c1
        simp only [cont]
        split
        · simp
        · cases l <;> simp only [cont] <;> omega
    · rw [e]
      simp only [show (2 : Int).toNat = 2 from rfl]
      cases l with
      | nil => simp [cont]
      | cons c1 l =>
        have b1 := byte_lt c1
        simp only [cont]
        split
        · simp
        · cases l with
          | nil => simp [cont]
          | cons c2 l =>
            have b2 := byte_lt c2
            simp only [cont]
            split
            · simp
            · cases l <;> simp only [cont] <;> omega
    · rw [e]
      simp only [show (3 : Int).toNat = 3 from rfl]
      cases l with
      | nil => simp [cont]
      | cons c1 l =>
        have b1 := byte_lt c1
        simp only [cont]
        split
        · simp
        · cases l with
          | nil => simp [cont]
          | cons c2 l =>
            have b2 := byte_lt c2
            simp only [cont]
            split
            · simp
            · cases l with
              | nil => simp [cont]
              | cons c3 l =>
                have b3 := byte_lt c3
                simp only [cont]
                split
                · simp
                · cases l <;> simp only [cont] <;> omega

/-- What the document's 'part' says of a piece. -/
def part (f : Int × Int) : Int × Int × Bool := if f.1 < 0 then (0, f.2, false) else (f.1, f.2, true)

theorem validN_mono : ∀ (k : Nat) (l : List UInt8), l.length ≤ k → validN k l = validN l.length l := by
  intro k
  induction k using Nat.strongRecOn with
  | _ k ih =>
    intro l hl
    cases l with
    | nil => cases k <;> simp [validN]
    | cons c l =>
      cases k with
      | zero => simp at hl
      | succ k =>
        have hp := piece_len c l
        simp only [validN, List.length_cons]
        by_cases h : (piece (c :: l)).1 < 0
        · rw [if_pos h, if_pos h]
        · rw [if_neg h, if_neg h]
          simp only [List.length_cons] at hl hp
          have e : ((c :: l).drop (piece (c :: l)).2.toNat).length = l.length + 1 - (piece (c :: l)).2.toNat := by simp
          rw [ih k (by omega) _ (by rw [e]; omega)]
          by_cases hk : l.length = k
          · rw [hk, ih k (by omega) _ (by rw [e]; omega)]
          · rw [ih l.length (by omega) _ (by rw [e]; omega)]

theorem valid_nil : valid [] = true := rfl
theorem valid_cons (c : UInt8) (l : List UInt8) : valid (c :: l) = if (piece (c :: l)).1 < 0 then false else valid ((c :: l).drop (piece (c :: l)).2.toNat) := by
  have hp := piece_len c l
  unfold valid
  simp only [List.length_cons, validN]
  by_cases h : (piece (c :: l)).1 < 0
  · rw [if_pos h, if_pos h]
  · rw [if_neg h, if_neg h]
    exact validN_mono _ _ (by simp at hp ⊢; omega)

/-- A text's pieces: where each begins, its scalar (-1: a wrong part). -/
def piecesN : Nat → Nat → List UInt8 → List (Nat × Int)
  | _, _, [] => []
  | 0, _, _ :: _ => []
  | k + 1, at_, c :: l => (at_, (piece (c :: l)).1) :: piecesN k (at_ + (piece (c :: l)).2.toNat) ((c :: l).drop (piece (c :: l)).2.toNat)
def pieces (l : List UInt8) : List (Nat × Int) := piecesN l.length 0 l

theorem piecesN_mono : ∀ (k at_ : Nat) (l : List UInt8), l.length ≤ k → piecesN k at_ l = piecesN l.length at_ l := by
  intro k
  induction k using Nat.strongRecOn with
  | _ k ih =>
    intro at_ l hl
    cases l with
    | nil => cases k <;> simp [piecesN]
    | cons c l =>
      cases k with
      | zero => simp at hl
      | succ k =>
        have hp := piece_len c l
        simp only [piecesN, List.length_cons]
        simp only [List.length_cons] at hl hp
        have e : ((c :: l).drop (piece (c :: l)).2.toNat).length = l.length + 1 - (piece (c :: l)).2.toNat := by simp
        rw [ih k (by omega) _ _ (by rw [e]; omega)]
        by_cases hk : l.length = k
        · rw [hk, ih k (by omega) _ _ (by rw [e]; omega)]
        · rw [ih l.length (by omega) _ _ (by rw [e]; omega)]

/-- From a byte on. -/
def from_ (at_ : Nat) (l : List UInt8) : List (Nat × Int) := piecesN l.length at_ l
theorem from_nil (at_ : Nat) : from_ at_ [] = [] := rfl
theorem from_cons (at_ : Nat) (c : UInt8) (l : List UInt8) : from_ at_ (c :: l) = (at_, (piece (c :: l)).1) :: from_ (at_ + (piece (c :: l)).2.toNat) ((c :: l).drop (piece (c :: l)).2.toNat) := by
  have hp := piece_len c l
  unfold from_
  simp only [List.length_cons, piecesN]
  rw [piecesN_mono _ _ _ (by simp at hp ⊢; omega)]

/-- The first wrong part's place, or -1. -/
def firstBad : List (Nat × Int) → Int
  | [] => -1
  | p :: l => if p.2 < 0 then (p.1 : Int) else firstBad l

theorem firstBad_cons (p : Nat × Int) (l : List (Nat × Int)) : firstBad (p :: l) = if p.2 < 0 then (p.1 : Int) else firstBad l := rfl
theorem firstBad_neg {p : Nat × Int} (l : List (Nat × Int)) (h : p.2 < 0) : firstBad (p :: l) = p.1 := by rw [firstBad_cons, if_pos h]
theorem firstBad_pos {p : Nat × Int} (l : List (Nat × Int)) (h : ¬ p.2 < 0) : firstBad (p :: l) = firstBad l := by rw [firstBad_cons, if_neg h]

theorem firstBad_snoc (l : List (Nat × Int)) (p : Nat × Int) : firstBad (l ++ [p]) = if firstBad l < 0 then (if p.2 < 0 then (p.1 : Int) else -1) else firstBad l := by
  induction l with
  | nil => simp [firstBad]
  | cons q l ih =>
    rw [List.cons_append]
    by_cases h : q.2 < 0
    · rw [firstBad_neg _ h, firstBad_neg _ h, if_neg (by omega)]
    · rw [firstBad_pos _ h, firstBad_pos _ h, ih]

theorem firstBad_ge (l : List (Nat × Int)) : -1 ≤ firstBad l := by
  induction l with
  | nil => simp [firstBad]
  | cons q l ih => simp only [firstBad]; split <;> omega

/-- Mended bytes. -/
def mended (l : List (Nat × Int)) : List UInt8 := l.flatMap fun p => if p.2 < 0 then [0xEF, 0xBF, 0xBD] else (put p.2).map fun n => UInt8.ofNat n.toNat

theorem valid_from : ∀ (k : Nat) (l : List UInt8) (at_ : Nat), l.length ≤ k → (valid l = true ↔ firstBad (from_ at_ l) < 0) := by
  intro k
  induction k with
  | zero =>
    intro l at_ hl
    cases l with
    | nil => simp [valid_nil, from_nil, firstBad]
    | cons c l => simp at hl
  | succ k ih =>
    intro l at_ hl
    cases l with
    | nil => simp [valid_nil, from_nil, firstBad]
    | cons c l =>
      have hp := piece_len c l
      simp only [List.length_cons] at hl hp
      rw [valid_cons, from_cons]
      simp only [firstBad]
      by_cases h : (piece (c :: l)).1 < 0
      · rw [if_pos h, if_pos h]
        simp
      · rw [if_neg h, if_neg h]
        exact ih _ _ (by simp; omega)

theorem valid_pieces (l : List UInt8) : valid l = decide (firstBad (pieces l) < 0) := by
  rw [Bool.eq_iff_iff, decide_eq_true_eq]
  exact valid_from l.length l 0 (Nat.le_refl _)

end Utf
end Go.Proofs.YtbnaphbmmkmaeaaGreatDoor
