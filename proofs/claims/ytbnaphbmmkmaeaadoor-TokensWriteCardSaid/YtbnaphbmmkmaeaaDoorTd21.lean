/- strings.Builder's writers, at this dump. (Turned from the shelf's walks.) · Tokens: Join: tokens written. (Printed by wip/genTkJb.py.) · Tokens: how long what is written of a row that is not too great is; whether a quote stands in a text. -/
import Derived.Test.YtbnaphbmmkmaeaaDoorTd03
import Derived.Test.YtbnaphbmmkmaeaaDoorTd04
import Derived.Test.YtbnaphbmmkmaeaaDoorTd18
import Derived.Test.YtbnaphbmmkmaeaaDoorTd20
import Derived.Lib.Builder
import Derived.Laws.Externs
set_option linter.unusedSimpArgs false
set_option linter.unusedVariables false
namespace Go.Proofs.YtbnaphbmmkmaeaaDoor
open Go.RowKit

theorem info_bld : (Tryd.prog.info? 51).map (·.size) = some 2 := by kernel_rfl
theorem lies_bld : liesAt Tryd.prog Tryd.prog.depth 51 (2 / Tryd.prog.cellsOf 51) 0 51 1 = true := by kernel_rfl
theorem info_u8b : (Tryd.prog.info? 5).map (fun i => (i.zero, i.size, i.bytes)) = some (some (.int .u8 0), 1, 1) := by kernel_rfl
set_option maxHeartbeats 1000000 in
set_option maxRecDepth 100000 in
theorem cc_used (b : Nat) (w : World) (h0 : w.cell? ⟨b, 0, none⟩ = some (.pointer (some ⟨b, 0, none⟩))) :
    Calls Tryd.prog 36 #[.pointer (some ⟨b, 0, none⟩)] w fun e w' => e = .returned (.tuple #[]) ∧ w' = w := by
  obtain ⟨j, hj, _⟩ := Option.map_eq_some_iff.1 info_bld
  go_enter Tryd.func36, Tryd.ntmps36
  go_wp2
  rw [Lib.run_neq_ptr_same w _ Tryd.underlying48 hj]
  go_wp2
  go_end0
  exact ⟨rfl, rfl⟩
set_option maxHeartbeats 1000000 in
set_option maxRecDepth 100000 in
theorem cc_fresh (b : Nat) (w : World) (h0 : w.cell? ⟨b, 0, none⟩ = some (.pointer none)) (hsh : w.shape? b = some (51, 2)) (hfz : w.frozen? ⟨b, 0, none⟩ = false) :
    Calls Tryd.prog 36 #[.pointer (some ⟨b, 0, none⟩)] w fun e w' => e = .returned (.tuple #[]) ∧ w' = w.setCell ⟨b, 0, none⟩ (.pointer (some ⟨b, 0, none⟩)) := by
  obtain ⟨j, hj, hjs⟩ := Option.map_eq_some_iff.1 info_bld
  go_enter Tryd.func36, Tryd.ntmps36
  go_wp2
  rw [Lib.run_to_unsafe w ⟨b, 0, none⟩ Tryd.underlying48 Tryd.underlying84 hj (by rw [hjs]; decide) hsh (Nat.zero_lt_succ 1)]
  simp only [Result.andThen]
  rw [Oper.upon_value]
  go_wp2
  rw [run_callFunc_extern Tryd.func53 (by kernel_rfl) (by kernel_rfl) (by kernel_rfl) (e := Extern.AbiNoEscape.same) (by kernel_rfl)]
  rw [Lib.run_noEscape]
  simp only [Result.andThen]
  rw [Oper.upon_value]
  go_wp2
  rw [Lib.run_from_unsafe w ⟨b, 0, none⟩ Tryd.underlying84 Tryd.underlying48 hj hsh lies_bld]
  simp only [Result.andThen]
  rw [Oper.upon_value]
  go_wp2
  go_end0
  exact ⟨rfl, rfl⟩
theorem cc_any (B b : Nat) (bs : List Value) (w : World) (h : Lib.IsBuilder 51 5 B b bs w) :
    Calls Tryd.prog 36 #[.pointer (some ⟨b, 0, none⟩)] w fun e w' => e = .returned (.tuple #[]) ∧ (Lib.BuilderAt 51 5 B b (.pointer (some ⟨b, 0, none⟩)) bs w' ∧ Below B w w') := by
  rcases h with h | h
  · refine (cc_fresh b w h.cell0 h.shape h.frozen0).mono ?_
    rintro e w' ⟨rfl, rfl⟩
    exact ⟨rfl, h.used _, (Below.refl B w).setCell (p := ⟨b, 0, none⟩) h.1 _⟩
  · refine (cc_used b w h.cell0).mono ?_
    rintro e w' ⟨rfl, rfl⟩
    exact ⟨rfl, h, Below.refl B _⟩
/-- Nothing that was there has turned, but block b and, from B on, rows of bytes. -/
structure BlT (B b : Nat) (w w' : World) : Prop where
  os : w'.os = w.os
  tape : w'.tape = w.tape
  output : w'.output = w.output
  size : w.heap.size ≤ w'.heap.size
  block : ∀ k, k < w.heap.size → k ≠ b → (k < B ∨ ¬ IsT w k 5) → w'.heap[k]? = w.heap[k]?
theorem BlT.refl (B b : Nat) (w : World) : BlT B b w w := ⟨rfl, rfl, rfl, Nat.le_refl _, fun _ _ _ _ => rfl⟩
theorem BlT.trans {B b : Nat} {w w1 w' : World} (h : BlT B b w w1) (k : BlT B b w1 w') : BlT B b w w' :=
  ⟨k.os.trans h.os, k.tape.trans h.tape, k.output.trans h.output, Nat.le_trans h.size k.size, fun i hi hb ht => by
    have e1 := h.block i hi hb ht
    refine (k.block i (Nat.lt_of_lt_of_le hi h.size) hb (ht.imp id fun hn hT => hn ?_)).trans e1
    obtain ⟨cs, fr, hh⟩ := hT
    exact ⟨cs, fr, e1.symm.trans hh⟩⟩
theorem BlT.below {B b : Nat} {w w' : World} (h : BlT B b w w') (hb : B ≤ b) (hs : B ≤ w.heap.size) : Below B w w' := ⟨h.os, h.tape, h.output, h.size, fun k hk => h.block k (by omega) (by omega) (.inl hk)⟩
theorem BlT.blk {B b g t : Nat} {cs : Array Value} {w w' : World} (h : BlT B b w w') (hg : Blk w g t cs) (hb : g ≠ b) (ht : t ≠ 5) : Blk w' g t cs :=
  (h.block g hg.lt hb (.inr fun ⟨cs', fr, hh⟩ => by
    have := (show w.heap[g]? = some (.cells cs t (0, 0)) from hg).symm.trans hh
    injection this with this
    injection this with _ h3
    exact ht h3)).trans hg
theorem BlT.of_below {B b : Nat} {w w' : World} (h : Below w.heap.size w w') : BlT B b w w' := ⟨h.os, h.tape, h.output, h.size, fun k hk _ _ => h.block k hk⟩
theorem BlT.setCell {B b : Nat} {w w1 : World} (h : BlT B b w w1) (i : Nat) (u : Value) : BlT B b w (w1.setCell ⟨b, i, none⟩ u) :=
  ⟨h.os, h.tape, h.output, by simpa [World.setCell] using h.size, fun k hk hb ht => by
    rw [Below.heap_setCell _ _ _ _ (by exact hb)]
    exact h.block k hk hb ht⟩
theorem BlT.alloc {B b : Nat} {w w1 : World} (h : BlT B b w w1) (o : Obj) : BlT B b w (w1.alloc o) := h.trans (BlT.of_below (below_alloc w1 o))
theorem BlT.grown {B b : Nat} {w w1 w2 : World} {row : Option Nat} (h : BlT B b w w1) (hg : w1.grownBy w2 row) (hr : ∀ k, row = some k → B ≤ k ∧ IsT w1 k 5) : BlT B b w w2 :=
  h.trans ⟨hg.os, hg.tape, hg.output, hg.size, fun k hk _ ht => hg.block k hk fun e => by
    obtain ⟨h1, h2⟩ := hr k e.symm
    rcases ht with ht | ht
    · omega
    · exact ht h2⟩
theorem cc_blt (B b : Nat) (bs : List Value) (w : World) (h : Lib.IsBuilder 51 5 B b bs w) :
    Calls Tryd.prog 36 #[.pointer (some ⟨b, 0, none⟩)] w fun e w' => e = .returned (.tuple #[]) ∧ (Lib.BuilderAt 51 5 B b (.pointer (some ⟨b, 0, none⟩)) bs w' ∧ BlT B b w w') := by
  rcases h with h | h
  · refine (cc_fresh b w h.cell0 h.shape h.frozen0).mono ?_
    rintro e w' ⟨rfl, rfl⟩
    exact ⟨rfl, h.used _, (BlT.refl B b w).setCell 0 _⟩
  · refine (cc_used b w h.cell0).mono ?_
    rintro e w' ⟨rfl, rfl⟩
    exact ⟨rfl, h, BlT.refl B b _⟩
theorem neB5 : 51 ≠ 5 := by decide
set_option maxHeartbeats 2000000 in
set_option maxRecDepth 100000 in
theorem wb_any (B b : Nat) (bs : List Value) (c : Int) (w : World) (h : Lib.IsBuilder 51 5 B b bs w) (hlen : bs.length + 1 ≤ 140737488355328) (hBw : B ≤ w.heap.size) :
    Calls Tryd.prog 24 #[.pointer (some ⟨b, 0, none⟩), .int .u8 c] w fun e w' => e = .returned .nilIface ∧ (Lib.IsBuilder 51 5 B b (bs ++ [.int .u8 c]) w' ∧ BlT B b w w') := by
  obtain ⟨i0, hi, hz0, hz1, hz2⟩ := info_parts info_u8b
  go_enter Tryd.func24, Tryd.ntmps24
  go_wp2_with fail
  refine (cc_blt B b bs _ h).mono ?_
  rintro e w1 ⟨rfl, h1, hb1⟩
  obtain ⟨hB, v, hbk, hown, hne⟩ := h1
  have c0 : w1.cell? ⟨b, 0, none⟩ = some (.pointer (some ⟨b, 0, none⟩)) := by rw [Lib.cell_of_heap hbk]; rfl
  have c1 : w1.cell? ⟨b, 1, none⟩ = some v := by rw [Lib.cell_of_heap hbk]; rfl
  go_wp2_with (at_builtin; refine wpList_append_own _ rfl _ _ 49 rfl B 5 i0 (.int .u8 0) 1 1 Tryd.underlying49 hi hz0 hz1 hz2 rfl (by decide) _ _ _ rfl (hown.alloc _) ⟨w1.heap.size, 0, none⟩ 1 1 [.int .u8 c] rfl rfl ?c1 ?c2 ?c3 ?c4 ?c5 ?_)
  case c1 =>
    intro j u hj
    match j, hj with
    | 0, hj => simp at hj; subst hj; simp [Addr.add]
  case c2 => intro u hu; simp at hu; subst hu; rfl
  case c3 => unfold maxLen; omega
  case c4 => omega
  case c5 => have := hb1.size; simp; omega
  intro v' w2 hown' hgrow _
  have hlt : b < w1.heap.size := by
    rcases Nat.lt_or_ge b w1.heap.size with h' | h'
    · exact h'
    · simp [Array.getElem?_eq_none h'] at hbk
  have hb2 : w2.heap[b]? = some (.cells #[.pointer (some ⟨b, 0, none⟩), v] 51 (0, 0)) := by
    rw [hgrow.block b (by simp; omega) (fun e => hne e.symm), Below.heap_alloc _ _ _ hlt]
    exact hbk
  have d0 : w2.cell? ⟨b, 0, none⟩ = some (.pointer (some ⟨b, 0, none⟩)) := by rw [Lib.cell_of_heap hb2]; rfl
  have d1 : w2.cell? ⟨b, 1, none⟩ = some v := by rw [Lib.cell_of_heap hb2]; rfl
  have f1 : w2.frozen? ⟨b, 1, none⟩ = false := Lib.frozen_of_heap hb2 1
  obtain ⟨g, cap, rfl⟩ : ∃ g cap, v' = .slice (some ⟨g, 0, none⟩) (bs.length + 1) cap := by
    rcases hown'.2 with ⟨_, h0⟩ | ⟨g, cap, cur, hv, _⟩
    · omega
    · exact ⟨g, cap, hv⟩
  go_wp2
  go_ret
  refine ⟨rfl, .inr ?_, ?_⟩
  · exact Lib.BuilderAt.put (T := 51) (e := 5) hB hb2 (bs' := bs ++ [.int .u8 c]) (by simpa using hown') neB5
  · exact ((hb1.alloc _).grown hgrow (fun k hk => ⟨(hown.lt k hk).1, by obtain ⟨_, cs, fr, hh⟩ := own_isT hown k hk; exact ⟨cs, fr, (Below.heap_alloc _ _ _ (own_isT hown k hk).2.lt).trans hh⟩⟩)).setCell 1 _
set_option maxHeartbeats 2000000 in
set_option maxRecDepth 100000 in
theorem ws_any (B b : Nat) (bs : List Value) (s : ByteArray) (w : World) (h : Lib.IsBuilder 51 5 B b bs w) (hlen : bs.length + s.size ≤ 140737488355328) (hBw : B ≤ w.heap.size) :
    Calls Tryd.prog 22 #[.pointer (some ⟨b, 0, none⟩), .string s] w fun e w' => e = .returned (.tuple #[.int .i64 s.size, .nilIface]) ∧ (Lib.IsBuilder 51 5 B b (bs ++ Lib.strCells s) w' ∧ BlT B b w w') := by
  obtain ⟨i0, hi, hz0, hz1, hz2⟩ := info_parts info_u8b
  go_enter Tryd.func22, Tryd.ntmps22
  go_wp2_with fail
  refine (cc_blt B b bs _ h).mono ?_
  rintro e w1 ⟨rfl, h1, hb1⟩
  obtain ⟨hB, v, hbk, hown, hne⟩ := h1
  have c0 : w1.cell? ⟨b, 0, none⟩ = some (.pointer (some ⟨b, 0, none⟩)) := by rw [Lib.cell_of_heap hbk]; rfl
  have c1 : w1.cell? ⟨b, 1, none⟩ = some v := by rw [Lib.cell_of_heap hbk]; rfl
  go_wp2_with (at_builtin; refine Lib.wpList_append_own_string _ rfl _ _ 49 9 rfl B 5 i0 Tryd.underlying49 Tryd.underlying9 hi hz0 hz1 hz2 _ _ _ rfl hown s rfl ?c3 ?c4 ?c5 ?_)
  case c3 => unfold maxLen; omega
  case c4 => omega
  case c5 => have := hb1.size; omega
  intro v' w2 hown' hgrow _
  have hlt : b < w1.heap.size := by
    rcases Nat.lt_or_ge b w1.heap.size with h' | h'
    · exact h'
    · simp [Array.getElem?_eq_none h'] at hbk
  have hb2 : w2.heap[b]? = some (.cells #[.pointer (some ⟨b, 0, none⟩), v] 51 (0, 0)) := by
    rw [hgrow.block b hlt (fun e => hne e.symm)]
    exact hbk
  have d0 : w2.cell? ⟨b, 0, none⟩ = some (.pointer (some ⟨b, 0, none⟩)) := by rw [Lib.cell_of_heap hb2]; rfl
  have d1 : w2.cell? ⟨b, 1, none⟩ = some v := by rw [Lib.cell_of_heap hb2]; rfl
  have f1 : w2.frozen? ⟨b, 1, none⟩ = false := Lib.frozen_of_heap hb2 1
  obtain ⟨ao, n', cap, rfl⟩ : ∃ ao n' cap, v' = .slice ao n' cap := by
    rcases hown'.2 with ⟨hv, _⟩ | ⟨g, cap, cur, hv, _⟩
    · exact ⟨_, _, _, hv⟩
    · exact ⟨_, _, _, hv⟩
  go_wp2
  go_ret2
  refine ⟨rfl, .inr ?_, ?_⟩
  · exact Lib.BuilderAt.put (T := 51) (e := 5) hB hb2 (bs' := bs ++ Lib.strCells s) (by simpa [Lib.strCells_length] using hown') neB5
  · exact (hb1.grown hgrow (fun k hk => ⟨(hown.lt k hk).1, (own_isT hown k hk).2⟩)).setCell 1 _
end Go.Proofs.YtbnaphbmmkmaeaaDoor
namespace Go.Proofs.YtbnaphbmmkmaeaaDoor
open Go.RowKit Tk

theorem in_byte (c : UInt8) (v : L) : (0 ≤ Lib.indexByte v c) ↔ c ∈ v := by
  induction v with
  | nil => simp [Lib.indexByte]
  | cons b l ih =>
    unfold Lib.indexByte
    by_cases hb : b = c
    · subst hb; simp
    · rw [if_neg (by simpa using hb)]
      have h1 := Lib.indexByte_ge l c
      have : c ∈ b :: l ↔ c ∈ l := by simp [Ne.symm hb]
      rw [this, ← ih]
      (try dsimp only)
      split
      · rename_i h2
        have : Lib.indexByte l c = -1 := by simpa using h2
        omega
      · rename_i h2
        have : Lib.indexByte l c ≠ -1 := by simpa using h2
        omega
/-- What is written of an attribute, of a token that lies anywhere. -/
def quoteG (v : ByteArray) : UInt8 := if (34 : UInt8) ∈ v.data.toList then 39 else 34
def joinGa (a : Ga) : L := 32 :: (a.name.data.toList ++ 61 :: quoteG a.value :: (a.value.data.toList ++ [quoteG a.value]))
def joinGt (t : Gt) : L :=
  if t.kind = 0 then 60 :: (t.name.data.toList ++ (t.as_.flatMap joinGa ++ ((if t.empty then [47] else []) ++ [62])))
  else if t.kind = 1 then 60 :: 47 :: (t.name.data.toList ++ [62])
  else if t.kind = 2 then t.text.data.toList
  else if t.kind = 3 then sData ++ (t.text.data.toList ++ [93, 93, 62])
  else []
def joinG (l : List Gt) : L := l.flatMap joinGt
theorem str_cells (s : ByteArray) : Lib.strCells s = Lib.byteCells s.data.toList := rfl
theorem byteCells_append (a b : L) : Lib.byteCells (a ++ b) = Lib.byteCells a ++ Lib.byteCells b := by simp [Lib.byteCells]
/-- A builder that holds these bytes. -/
def Bu (B b : Nat) (l : L) (w : World) : Prop := Lib.IsBuilder 51 5 B b (Lib.byteCells l) w
theorem Bu.ws {B b : Nat} {l : L} {w : World} (h : Bu B b l w) (s : ByteArray) (m : L) (hm : s.data.toList = m) (hlen : l.length + m.length ≤ 140737488355328) (hBw : B ≤ w.heap.size) :
    Calls Tryd.prog 22 #[.pointer (some ⟨b, 0, none⟩), .string s] w fun e w' => (∃ v, e = .returned v) ∧ Bu B b (l ++ m) w' ∧ BlT B b w w' := by
  have hs : s.size = m.length := by rw [← hm, size_list]
  refine (ws_any B b _ s w h (by rw [Lib.byteCells_length]; omega) hBw).mono ?_
  rintro e w' ⟨rfl, h1, h2⟩
  refine ⟨⟨_, rfl⟩, ?_, h2⟩
  unfold Bu
  rw [byteCells_append, ← hm]
  exact h1
theorem Bu.wb {B b : Nat} {l : L} {w : World} (h : Bu B b l w) (c : UInt8) (hlen : l.length + 1 ≤ 140737488355328) (hBw : B ≤ w.heap.size) :
    Calls Tryd.prog 24 #[.pointer (some ⟨b, 0, none⟩), .int .u8 (c.toNat : Nat)] w fun e w' => e = .returned .nilIface ∧ Bu B b (l ++ [c]) w' ∧ BlT B b w w' := by
  refine (wb_any B b _ _ w h (by rw [Lib.byteCells_length]; omega) hBw).mono ?_
  rintro e w' ⟨rfl, h1, h2⟩
  refine ⟨rfl, ?_, h2⟩
  unfold Bu
  rw [byteCells_append]
  exact h1
theorem Bu.alloc {B b : Nat} {l : L} {w : World} (h : Bu B b l w) (o : Obj) : Bu B b l (w.alloc o) := by
  have key : ∀ p, Lib.BuilderAt 51 5 B b p (Lib.byteCells l) w → Lib.BuilderAt 51 5 B b p (Lib.byteCells l) (w.alloc o) := fun p hp => by
    have hlt := hp.lt
    obtain ⟨hB, v, hb, hown, hne⟩ := hp
    exact ⟨hB, v, (Below.heap_alloc _ _ _ hlt).trans hb, hown.alloc o, hne⟩
  rcases h with h | h
  · exact .inl (key _ h)
  · exact .inr (key _ h)
theorem Bu.fresh (w : World) : Bu w.heap.size w.heap.size [] (w.alloc (.cells #[.pointer none, .slice none 0 0] 51)) :=
  .inl ⟨Nat.le_refl _, _, Blk.new w _ _, World.ownsRow_nil _ _ _ _, fun h => by cases h⟩
theorem Bu.lt {B b : Nat} {l : L} {w : World} (h : Bu B b l w) : b < w.heap.size := by
  rcases h with h | h <;> exact h.lt
theorem flat_len {α : Type} {f : α → L} {l : List α} {x : α} (hx : x ∈ l) : (f x).length ≤ (l.flatMap f).length := by
  induction l with
  | nil => cases hx
  | cons y l ih =>
    rw [List.flatMap_cons, List.length_append]
    rcases List.mem_cons.1 hx with rfl | hx
    · omega
    · have := ih hx; omega
theorem flat_take {α : Type} (f : α → L) {l : List α} {k : Nat} (hk : k < l.length) : (l.take (k + 1)).flatMap f = (l.take k).flatMap f ++ f l[k] := by
  rw [List.take_succ_eq_append_getElem hk, List.flatMap_append]
  simp
theorem flat_pre {α : Type} (f : α → L) (l : List α) (k : Nat) : ((l.take k).flatMap f).length ≤ (l.flatMap f).length := by
  conv => rhs; rw [← List.take_append_drop k l, List.flatMap_append, List.length_append]
  omega

set_option maxHeartbeats 32000000 in
set_option maxRecDepth 20000 in
theorem join_big (A : Option Addr) (c B0 : Nat) (l : List Gt) (w : World) (hA : TkL w B0 A l) (hB0 : B0 ≤ w.heap.size) (hl : l.length ≤ 1000000000) (hs : ∀ x ∈ l, x.as_.length ≤ 1000000000) (hj : (joinG l).length ≤ 140737488355228) :
    Calls Tryd.prog 13 #[.slice A l.length c] w fun e w' => e = .returned (.string (bstr (joinG l))) ∧ Below w.heap.size w w' := by
  obtain ⟨n, hn⟩ : ∃ n, l.length = n := ⟨_, rfl⟩
  have HA := hide hA
  rw [hn] at hl ⊢
  have Hn := hide hn
  have Hs := hide hs
  have Hj := hide hj
  have hst := fun W l h => Tryd.Builder_String_any w.heap.size w.heap.size l W h
  have HSt := hide hst
  clear hn hA hs hj hst
  have b0 := Bu.fresh w
  have HB0 := hide b0
  have hB1 : Below w.heap.size w (w.alloc (.cells #[.pointer none, .slice none 0 0] 51)) := (Below.refl _ w).alloc (Nat.le_refl _) _
  have HB1 := hide hB1
  clear b0 hB1
  go_enter Tryd.func13, Tryd.ntmps13
  go_wp2
  go_loopg [11] n (fun g vi wr => ∃ k : Nat, g = n - k ∧ k ≤ n ∧ vi = .int .i64 (k : Int) ∧ Bu w.heap.size w.heap.size (joinG (l.take k)) wr ∧ Below w.heap.size w wr)
  case atStart => exact ⟨0, rfl, Nat.zero_le _, rfl, HB0.out, HB1.out⟩
  case round =>
    obtain ⟨k, hg, hk, rfl, hb, hB⟩ := hrel
    have Hg := hide hg
    have Hb := hide hb
    have HB := hide hB
    clear hg hb hB HB0 HB1
    by_cases hlt : k < n
    · have h1 : k < l.length := by rw [Hn.out]; exact hlt
      obtain ⟨b, off, rfl, hb, hx⟩ := (HA.out.below (HB.out.mono hB0)).row.gt h1
      have HSubW := hide (fun W (hW : Below w.heap.size w W) => (HA.out.below (hW.mono hB0)).sub l[k] (List.getElem_mem h1))
      have hVb : wr.heap.size ≠ w.heap.size := by have := Hb.out.lt; omega
      have hsl := Hs.out l[k] (List.getElem_mem h1)
      have Hnext := hide (show joinG (l.take (k + 1)) = joinG (l.take k) ++ joinGt l[k] from flat_take joinGt h1)
      have Hbd := hide (show (joinG (l.take k)).length + (joinGt l[k]).length ≤ 140737488355228 by have h2 := flat_pre joinGt l (k + 1); rw [flat_take joinGt h1, List.length_append] at h2; have := Hj.out; unfold joinG at this ⊢; omega)
      generalize l[k] = x at *
      obtain ⟨pre, hpre⟩ : ∃ p, joinG (l.take k) = p := ⟨_, rfl⟩
      rw [hpre] at Hb Hnext Hbd
      have x0 := hx.c0
      have x1 := hx.c1
      have x2 := hx.c2
      have x3 := hx.c3
      have x4 := hx.c4
      have x5 := hx.c5
      have x6 := hx.c6
      obtain ⟨kd, nm, as_, A2, c2, em, tx, a0, e0⟩ := x
      dsimp only at x0 x1 x2 x3 x4 x5 x6 hsl HSubW
      have V1 := hide (Blk.new wr 29 #[.int .i8 kd, .string nm, .slice A2 as_.length c2, .bool em, .string tx, .int .i64 a0, .int .i64 e0])
      have p0 := V1.out.cell 0
      have p1 := V1.out.cell 1
      have p2 := V1.out.cell 2
      have p3 := V1.out.cell 3
      have p4 := V1.out.cell 4
      have Hb1 := hide (Hb.out.alloc (.cells #[.int .i8 kd, .string nm, .slice A2 as_.length c2, .bool em, .string tx, .int .i64 a0, .int .i64 e0] 29))
      have HB2 := hide (HB.out.alloc HB.out.size (.cells #[.int .i8 kd, .string nm, .slice A2 as_.length c2, .bool em, .string tx, .int .i64 a0, .int .i64 e0] 29))
      clear hx hpre Hb
      by_cases k0 : kd = 0
      · subst k0
        have Hjx := hide (show joinGt ⟨0, nm, as_, A2, c2, em, tx, a0, e0⟩ = 60 :: (nm.data.toList ++ (as_.flatMap joinGa ++ ((if em then [47] else []) ++ [62]))) from rfl)
        have hbd := Hbd.out
        rw [Hjx.out] at hbd
        simp only [List.length_append, List.length_cons, List.length_nil] at hbd
        have Hbd2 := hide hbd
        have hnz := size_list nm
        have k1 : ¬ 9223372036854775807 < 1 + nm.size := by omega
        clear hbd
        go_wp2_with fail
        generalize wr.heap.size = V at *
        refine (Hb1.out.ws _ (60 :: nm.data.toList) (by simp [ByteArray.data_append]) (by have := Hbd2.out; simp only [List.length_cons]; omega) HB2.out.size).mono ?_
        rintro e w3 ⟨⟨v3, rfl⟩, b3, t3⟩
        have hV : V ≠ w.heap.size := hVb
        have V3 := hide (t3.blk V1.out hV (by decide))
        have r2 := V3.out.cell 2
        have r3 := V3.out.cell 3
        have Hb3 := hide b3
        have HB3 := hide (HB2.out.trans (t3.below (Nat.le_refl _) HB2.out.size))
        obtain ⟨na, hna⟩ : ∃ na, as_.length = na := ⟨_, rfl⟩
        have Hna := hide hna
        rw [hna] at r2 hsl
        clear b3 t3 p0 p1 p2 p3 p4 hna k1 V1 Hb1 x0 x1 x2 x3 x4 x5 x6
        go_wp2
        go_loopg [26] na (fun g vi wr2 => ∃ j : Nat, g = na - j ∧ j ≤ na ∧ vi = .int .i64 (j : Int) ∧ Bu w.heap.size w.heap.size (pre ++ (60 :: nm.data.toList) ++ (as_.take j).flatMap joinGa) wr2 ∧ Below w.heap.size w wr2 ∧ Blk wr2 V 29 #[.int .i8 0, .string nm, .slice A2 as_.length c2, .bool em, .string tx, .int .i64 a0, .int .i64 e0])
        case atStart => exact ⟨0, rfl, Nat.zero_le _, rfl, by rw [List.take_zero, List.flatMap_nil, List.append_nil]; exact Hb3.out, HB3.out, V3.out⟩
        case round =>
          obtain ⟨j, hgj, hj2, rfl, hbj, hBj, hVj⟩ := hrel
          have Hgj := hide hgj
          have Hbj := hide hbj
          have HBj := hide hBj
          have HVj := hide hVj
          clear hgj hbj hBj hVj Hb3 HB3 V3 r2 r3
          by_cases hltj : j < na
          · have ha1 : j < as_.length := by rw [Hna.out]; exact hltj
            obtain ⟨b2, off2, rfl, hb2, hy⟩ := (HSubW.out _ HBj.out).ga ha1
            have Hnj := hide (show (as_.take (j + 1)).flatMap joinGa = (as_.take j).flatMap joinGa ++ joinGa as_[j] from flat_take joinGa ha1)
            have Hbdj := hide (show ((as_.take j).flatMap joinGa).length + (joinGa as_[j]).length ≤ (as_.flatMap joinGa).length by have h2 := flat_pre joinGa as_ (j + 1); rw [flat_take joinGa ha1, List.length_append] at h2; exact h2)
            generalize as_[j] = y at *
            obtain ⟨pj, hpj⟩ : ∃ p, (as_.take j).flatMap joinGa = p := ⟨_, rfl⟩
            rw [hpj] at Hbj Hnj Hbdj
            obtain ⟨yn, yv, ya⟩ := y
            have y0 : _ = some (Value.string yn) := hy.c0
            have y1 : _ = some (Value.string yv) := hy.c1
            have y2 : _ = some (Value.int .i64 ya) := hy.c2
            have W1 := hide (Blk.new wr 38 #[.string yn, .string yv, .int .i64 ya])
            have s0 := W1.out.cell 0
            have s1 := W1.out.cell 1
            have hct := Tryd.strings_Contains_one yv 34
            have hib := in_byte 34 yv.data.toList
            have hzn := size_list yn
            have hzv := size_list yv
            have hgl : (joinGa ⟨yn, yv, ya⟩).length = yn.size + yv.size + 4 := by unfold joinGa; simp only [List.length_cons, List.length_append, List.length_nil, hzn, hzv]; omega
            have HCt := hide hct
            have hb9 : yn.size + yv.size + 4 ≤ 140737488355328 := by have h1 := Hbdj.out; have h2 := Hbd2.out; rw [hgl] at h1; omega
            have m1 : ¬ 9223372036854775807 < 1 + yn.size := by omega
            have m2 : ¬ 9223372036854775807 < 1 + yn.size + 1 := by omega
            have m3 : ¬ 9223372036854775807 < 1 + yn.size + 1 + 1 := by omega
            have m4 : ¬ 9223372036854775807 < 1 + yn.size + 1 + 1 + yv.size := by omega
            have m5 : ¬ 9223372036854775807 < 1 + yn.size + 1 + 1 + yv.size + 1 := by omega
            have Hgl := hide hgl
            clear hy hct hpj hgl
            obtain ⟨z, hz⟩ : ∃ z, Lib.indexByte yv.data.toList 34 = z := ⟨_, rfl⟩
            rw [hz] at HCt hib
            clear hz
            by_cases h34 : 0 ≤ z
            · have hd : decide (0 ≤ z) = true := decide_eq_true h34
              rw [hd] at HCt
              have Hq := hide (show joinGa ⟨yn, yv, ya⟩ = 32 :: (yn.data.toList ++ 61 :: 39 :: (yv.data.toList ++ [39])) from by unfold joinGa quoteG; rw [if_pos (hib.1 h34)])
              clear h34 hib hd
              go_wp2_with fail
              refine (HCt.out _).mono ?_
              rintro e w4 ⟨rfl, rfl⟩
              go_wp2_with fail
              refine ((Hbj.out.alloc (.cells #[.string yn, .string yv, .int .i64 ya] 38)).ws _ (joinGa ⟨yn, yv, ya⟩) (by rw [Hq.out]; simp [ByteArray.data_append]) (by have h1 := Hbdj.out; have h2 := Hbd2.out; simp only [List.length_append, List.length_cons]; omega) (by have := HBj.out.size; simp; omega)).mono ?_
              rintro e w5 ⟨⟨v5, rfl⟩, b5, t5⟩
              have Hb5 := hide b5
              have HB5 := hide ((HBj.out.alloc HBj.out.size (.cells #[.string yn, .string yv, .int .i64 ya] 38)).trans (t5.below (Nat.le_refl _) (by have := HBj.out.size; simp; omega)))
              have HV5 := hide (t5.blk (HVj.out.alloc (.cells #[.string yn, .string yv, .int .i64 ya] 38)) hV (by decide))
              clear b5 t5
              go_wp2
              go_roundg (na - (j + 1))
              case measure => have := Hgj.out; omega
              case rel => exact ⟨j + 1, rfl, by omega, by go_num, by rw [Hnj.out, ← List.append_assoc]; exact Hb5.out, HB5.out, HV5.out⟩
            · have hd : decide (0 ≤ z) = false := decide_eq_false h34
              rw [hd] at HCt
              have Hq := hide (show joinGa ⟨yn, yv, ya⟩ = 32 :: (yn.data.toList ++ 61 :: 34 :: (yv.data.toList ++ [34])) from by unfold joinGa quoteG; rw [if_neg (fun h => h34 (hib.2 h))])
              clear h34 hib hd
              go_wp2_with fail
              refine (HCt.out _).mono ?_
              rintro e w4 ⟨rfl, rfl⟩
              go_wp2_with fail
              refine ((Hbj.out.alloc (.cells #[.string yn, .string yv, .int .i64 ya] 38)).ws _ (joinGa ⟨yn, yv, ya⟩) (by rw [Hq.out]; simp [ByteArray.data_append]) (by have h1 := Hbdj.out; have h2 := Hbd2.out; simp only [List.length_append, List.length_cons]; omega) (by have := HBj.out.size; simp; omega)).mono ?_
              rintro e w5 ⟨⟨v5, rfl⟩, b5, t5⟩
              have Hb5 := hide b5
              have HB5 := hide ((HBj.out.alloc HBj.out.size (.cells #[.string yn, .string yv, .int .i64 ya] 38)).trans (t5.below (Nat.le_refl _) (by have := HBj.out.size; simp; omega)))
              have HV5 := hide (t5.blk (HVj.out.alloc (.cells #[.string yn, .string yv, .int .i64 ya] 38)) hV (by decide))
              clear b5 t5
              go_wp2
              go_roundg (na - (j + 1))
              case measure => have := Hgj.out; omega
              case rel => exact ⟨j + 1, rfl, by omega, by go_num, by rw [Hnj.out, ← List.append_assoc]; exact Hb5.out, HB5.out, HV5.out⟩
          · have hjn : j = na := by omega
            subst hjn
            have r3 := HVj.out.cell 3
            have hbj := Hbj.out
            rw [List.take_of_length_le (by rw [Hna.out]; exact Nat.le_refl _)] at hbj
            have Hbe := hide hbj
            clear hbj
            cases em with
            | true =>
              go_wp2_with fail
              refine (Hbe.out.wb 47 (by have h2 := Hbd2.out; simp only [List.length_append, List.length_cons]; omega) HBj.out.size).mono ?_
              rintro e w6 ⟨rfl, b6, t6⟩
              have Hb6 := hide b6
              have HB6 := hide (HBj.out.trans (t6.below (Nat.le_refl _) HBj.out.size))
              clear b6 t6
              go_wp2_with fail
              refine (Hb6.out.wb 62 (by have h2 := Hbd2.out; simp only [List.length_append, List.length_cons, List.length_nil]; omega) HB6.out.size).mono ?_
              rintro e w7 ⟨rfl, b7, t7⟩
              have HB7 := hide (HB6.out.trans (t7.below (Nat.le_refl _) HB6.out.size))
              have Hb7 := hide (show Bu w.heap.size w.heap.size (pre ++ joinGt ⟨0, nm, as_, A2, c2, true, tx, a0, e0⟩) w7 by rw [Hjx.out]; simpa using b7)
              clear b7 t7
              go_wp2
              go_roundg (n - (k + 1))
              case measure => have := Hg.out; omega
              case rel => exact ⟨k + 1, rfl, by omega, by go_num, by rw [Hnext.out]; exact Hb7.out, HB7.out⟩
            | false =>
              go_wp2_with fail
              refine (Hbe.out.wb 62 (by have h2 := Hbd2.out; simp only [List.length_append, List.length_cons]; omega) HBj.out.size).mono ?_
              rintro e w7 ⟨rfl, b7, t7⟩
              have HB7 := hide (HBj.out.trans (t7.below (Nat.le_refl _) HBj.out.size))
              have Hb7 := hide (show Bu w.heap.size w.heap.size (pre ++ joinGt ⟨0, nm, as_, A2, c2, false, tx, a0, e0⟩) w7 by rw [Hjx.out]; simpa using b7)
              clear b7 t7
              go_wp2
              go_roundg (n - (k + 1))
              case measure => have := Hg.out; omega
              case rel => exact ⟨k + 1, rfl, by omega, by go_num, by rw [Hnext.out]; exact Hb7.out, HB7.out⟩
      have c0 : (kd == 0) = false := by simpa using k0
      by_cases k1 : kd = 1
      · subst k1
        have Hjx := hide (show joinGt ⟨1, nm, as_, A2, c2, em, tx, a0, e0⟩ = 60 :: 47 :: (nm.data.toList ++ [62]) from rfl)
        have hbd := Hbd.out
        rw [Hjx.out] at hbd
        (try simp only [List.length_append, List.length_cons, List.length_nil, sData] at hbd)
        have Hbd2 := hide hbd
        have hnz := size_list nm
        have htz := size_list tx
        have k1 : ¬ 9223372036854775807 < 2 + nm.size := by omega
        have k2 : ¬ 9223372036854775807 < 2 + nm.size + 1 := by omega
        clear hbd
        go_wp2_with fail
        refine (Hb1.out.ws _ (60 :: 47 :: (nm.data.toList ++ [62])) (by simp [ByteArray.data_append, sData]) (by have := Hbd2.out; (try simp only [List.length_append, List.length_cons, List.length_nil, sData]); omega) HB2.out.size).mono ?_
        rintro e w3 ⟨⟨v3, rfl⟩, b3, t3⟩
        have HB3 := hide (HB2.out.trans (t3.below (Nat.le_refl _) HB2.out.size))
        have Hb3 := hide (show Bu w.heap.size w.heap.size (pre ++ joinGt ⟨1, nm, as_, A2, c2, em, tx, a0, e0⟩) w3 by rw [Hjx.out]; exact b3)
        clear b3 t3
        go_wp2
        go_roundg (n - (k + 1))
        case measure => have := Hg.out; omega
        case rel => exact ⟨k + 1, rfl, by omega, by go_num, by rw [Hnext.out]; exact Hb3.out, HB3.out⟩
      have c1 : (kd == 1) = false := by simpa using k1
      by_cases k2 : kd = 2
      · subst k2
        have Hjx := hide (show joinGt ⟨2, nm, as_, A2, c2, em, tx, a0, e0⟩ = tx.data.toList from rfl)
        have hbd := Hbd.out
        rw [Hjx.out] at hbd
        (try simp only [List.length_append, List.length_cons, List.length_nil, sData] at hbd)
        have Hbd2 := hide hbd
        have hnz := size_list nm
        have htz := size_list tx

        clear hbd
        go_wp2_with fail
        refine (Hb1.out.ws _ (tx.data.toList) (by simp [ByteArray.data_append, sData]) (by have := Hbd2.out; (try simp only [List.length_append, List.length_cons, List.length_nil, sData]); omega) HB2.out.size).mono ?_
        rintro e w3 ⟨⟨v3, rfl⟩, b3, t3⟩
        have HB3 := hide (HB2.out.trans (t3.below (Nat.le_refl _) HB2.out.size))
        have Hb3 := hide (show Bu w.heap.size w.heap.size (pre ++ joinGt ⟨2, nm, as_, A2, c2, em, tx, a0, e0⟩) w3 by rw [Hjx.out]; exact b3)
        clear b3 t3
        go_wp2
        go_roundg (n - (k + 1))
        case measure => have := Hg.out; omega
        case rel => exact ⟨k + 1, rfl, by omega, by go_num, by rw [Hnext.out]; exact Hb3.out, HB3.out⟩
      have c2' : (kd == 2) = false := by simpa using k2
      by_cases k3 : kd = 3
      · subst k3
        have Hjx := hide (show joinGt ⟨3, nm, as_, A2, c2, em, tx, a0, e0⟩ = sData ++ (tx.data.toList ++ [93, 93, 62]) from rfl)
        have hbd := Hbd.out
        rw [Hjx.out] at hbd
        (try simp only [List.length_append, List.length_cons, List.length_nil, sData] at hbd)
        have Hbd2 := hide hbd
        have hnz := size_list nm
        have htz := size_list tx
        have k1 : ¬ 9223372036854775807 < 9 + tx.size := by omega
        have k2 : ¬ 9223372036854775807 < 9 + tx.size + 3 := by omega
        clear hbd
        go_wp2_with fail
        refine (Hb1.out.ws _ (sData ++ (tx.data.toList ++ [93, 93, 62])) (by simp [ByteArray.data_append, sData]) (by have := Hbd2.out; (try simp only [List.length_append, List.length_cons, List.length_nil, sData]); omega) HB2.out.size).mono ?_
        rintro e w3 ⟨⟨v3, rfl⟩, b3, t3⟩
        have HB3 := hide (HB2.out.trans (t3.below (Nat.le_refl _) HB2.out.size))
        have Hb3 := hide (show Bu w.heap.size w.heap.size (pre ++ joinGt ⟨3, nm, as_, A2, c2, em, tx, a0, e0⟩) w3 by rw [Hjx.out]; exact b3)
        clear b3 t3
        go_wp2
        go_roundg (n - (k + 1))
        case measure => have := Hg.out; omega
        case rel => exact ⟨k + 1, rfl, by omega, by go_num, by rw [Hnext.out]; exact Hb3.out, HB3.out⟩
      have c3 : (kd == 3) = false := by simpa using k3
      have Hjx := hide (show joinGt ⟨kd, nm, as_, A2, c2, em, tx, a0, e0⟩ = [] by unfold joinGt; rw [if_neg k0, if_neg k1, if_neg k2, if_neg k3])
      have Hb3 := hide (show Bu w.heap.size w.heap.size (pre ++ joinGt ⟨kd, nm, as_, A2, c2, em, tx, a0, e0⟩) _ by rw [Hjx.out, List.append_nil]; exact Hb1.out)
      go_wp2
      go_roundg (n - (k + 1))
      case measure => have := Hg.out; omega
      case rel => exact ⟨k + 1, rfl, by omega, by go_num, by rw [Hnext.out]; exact Hb3.out, HB2.out⟩
    · have hkn : k = n := by omega
      subst hkn
      have hb := Hb.out
      rw [List.take_of_length_le (by rw [Hn.out]; exact Nat.le_refl _)] at hb
      have Hb2 := hide hb
      clear hb Hb
      go_wp2_with fail
      refine (HSt.out _ _ Hb2.out HB.out.size).mono ?_
      rintro e w9 ⟨rfl, b9⟩
      have B9 := hide (HB.out.trans b9)
      clear b9
      go_wp2
      go_ret
      exact ⟨rfl, B9.out⟩
theorem join_any (A : Option Addr) (c B0 : Nat) (l : List Gt) (w : World) (hA : TkL w B0 A l) (hB0 : B0 ≤ w.heap.size) (hl : l.length ≤ 1000000000) (hs : ∀ x ∈ l, x.as_.length ≤ 1000000000) (hj : (joinG l).length ≤ 1000000000) :
    Calls Tryd.prog 13 #[.slice A l.length c] w fun e w' => e = .returned (.string (bstr (joinG l))) ∧ Below w.heap.size w w' := join_big A c B0 l w hA hB0 hl hs (Nat.le_trans hj (by omega))
end Go.Proofs.YtbnaphbmmkmaeaaDoor
namespace Go.Proofs.YtbnaphbmmkmaeaaDoor
open Go.RowKit Tk

theorem till_byte (c : UInt8) (v : L) : (0 ≤ Lib.index v [c]) ↔ c ∈ v := by
  induction v with
  | nil => simp [Lib.index]
  | cons b l ih =>
    unfold Lib.index
    have hp : ([c] : L).isPrefixOf (b :: l) = (c == b) := by simp [List.isPrefixOf]
    rw [hp]
    by_cases hb : c = b
    · subst hb; simp
    · have e : (c == b) = false := beq_eq_false_iff_ne.2 hb
      rw [e]
      have h1 := Lib.index_ge l [c]
      have : c ∈ b :: l ↔ c ∈ l := by simp [hb]
      rw [this, ← ih]
      simp only [Bool.false_eq_true, if_false]
      by_cases h2 : Lib.index l [c] = -1
      · rw [h2]; simp
      · have h3 : (Lib.index l [c] == -1) = false := beq_eq_false_iff_ne.2 h2
        rw [h3]
        simp only [Bool.false_eq_true, if_false]
        omega
theorem tillAt_one (c : UInt8) (v : L) : (0 ≤ tillAt v [c] 0) ↔ c ∈ v := by
  rw [← till_byte]
  unfold tillAt Tk.till
  rw [List.drop_zero]
  have h1 := Lib.index_ge v [c]
  by_cases h : Lib.index v [c] < 0
  · rw [if_pos h]
    constructor
    · intro h2; dsimp only at h2; omega
    · intro h2; omega
  · rw [if_neg h]
    dsimp only
    constructor <;> intro <;> omega

/-- A weight and how many bytes go with it. -/
def Ok (w c : Nat) : Prop := (w ≤ 4999 → c ≤ 4 * w) ∧ (w = 5000 → c ≤ 140737488351232)
theorem Ok.add {w c w' c' : Nat} (h : Ok w c) (h' : Ok w' c') : Ok (w + w') (c + c') := by
  unfold Ok at *
  obtain ⟨a, b⟩ := h
  obtain ⟨a', b'⟩ := h'
  constructor
  · intro hs; have := a (by omega); have := a' (by omega); omega
  · intro hs
    by_cases h1 : w = 5000
    · have := b h1; have := a' (by omega); omega
    · by_cases h2 : w' = 5000
      · have := b' h2; have := a (by omega); omega
      · have := a (by omega); have := a' (by omega); omega
theorem ok_m5 (s : ByteArray) (h : s.size ≤ 140737488351232) : Ok (m5 s) s.size := by
  unfold Ok m5
  constructor <;> intro <;> omega
theorem joinGa_len (a : Ga) : (joinGa a).length = a.name.size + a.value.size + 4 := by
  unfold joinGa
  simp only [List.length_cons, List.length_append, List.length_nil, size_list]; omega
theorem ok_ga (a : Ga) : Ok (wGa a) (joinGa a).length := by
  rw [joinGa_len]
  unfold Ok wGa m5
  constructor <;> intro <;> omega
theorem ok_gas (l : List Ga) : Ok (wGas l) (l.flatMap joinGa).length := by
  induction l with
  | nil => exact ⟨fun _ => Nat.zero_le _, fun h => by cases h⟩
  | cons a l ih =>
    have : wGas (a :: l) = wGa a + wGas l := by unfold wGas; simp
    rw [this, List.flatMap_cons, List.length_append]
    exact (ok_ga a).add ih
theorem ok_gt (x : Gt) (h1 : x.name.size ≤ 140737488351232) (h2 : x.text.size ≤ 140737488351232) : ∃ c, (joinGt x).length ≤ 12 + c ∧ Ok (wGt x) c := by
  refine ⟨x.name.size + x.text.size + (x.as_.flatMap joinGa).length, ?_, ((ok_m5 _ h1).add (ok_m5 _ h2)).add (ok_gas _)⟩
  have hn := size_list x.name
  have ht := size_list x.text
  unfold joinGt
  by_cases k0 : x.kind = 0
  · rw [if_pos k0]
    have : (if x.empty then [47] else [] : L).length ≤ 1 := by split <;> simp
    simp only [List.length_cons, List.length_append, List.length_nil, hn]; omega
  rw [if_neg k0]
  by_cases k1 : x.kind = 1
  · rw [if_pos k1]; simp only [List.length_cons, List.length_append, List.length_nil, hn]; omega
  rw [if_neg k1]
  by_cases k2 : x.kind = 2
  · rw [if_pos k2, ht]; omega
  rw [if_neg k2]
  by_cases k3 : x.kind = 3
  · rw [if_pos k3]; simp only [sData, List.length_cons, List.length_append, List.length_nil, ht]; omega
  rw [if_neg k3]; simp
theorem ok_gts (l : List Gt) (h : ∀ x ∈ l, x.name.size ≤ 140737488351232 ∧ x.text.size ≤ 140737488351232) : ∃ c, (joinG l).length ≤ 12 * l.length + c ∧ Ok (wGts l) c := by
  induction l with
  | nil => exact ⟨0, by simp [joinG], fun _ => Nat.zero_le _, fun h => by cases h⟩
  | cons x l ih =>
    obtain ⟨c, h1, h2⟩ := ih fun y hy => h y (List.mem_cons_of_mem _ hy)
    obtain ⟨d, h3, h4⟩ := ok_gt x (h x (List.mem_cons_self ..)).1 (h x (List.mem_cons_self ..)).2
    refine ⟨d + c, ?_, ?_⟩
    · have e : joinG (x :: l) = joinGt x ++ joinG l := by unfold joinG; rw [List.flatMap_cons]
      rw [e, List.length_append, List.length_cons]; omega
    · have e : wGts (x :: l) = wGt x + wGts l := by unfold wGts; simp
      rw [e]; exact h4.add h2
theorem small_join {l : List Gt} (hs : Small l) (h : ∀ x ∈ l, x.name.size ≤ 140737488351232 ∧ x.text.size ≤ 140737488351232) : (joinG l).length ≤ 140737488355228 := by
  obtain ⟨c, h1, h2, h3⟩ := ok_gts l h
  obtain ⟨h4, -, h5⟩ := hs
  by_cases he : wGts l = 5000
  · have := h3 he; omega
  · have := h2 (by omega); omega
end Go.Proofs.YtbnaphbmmkmaeaaDoor
