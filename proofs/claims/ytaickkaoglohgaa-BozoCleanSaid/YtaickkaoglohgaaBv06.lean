/- Tokens: words for one: which reading a piece calls, and whether it is of Chars alone. · Tokens: one: the piece that begins at a byte, of Chars alone. · Tokens in plain data: which words are read as what; no program in sight. -/
import Derived.Test.YtaickkaoglohgaaBv03
import Derived.Test.YtaickkaoglohgaaBv04
import Derived.Test.YtaickkaoglohgaaBv05
import Derived.Deep.Onto
import Derived.Laws.EntriesVeiled
set_option linter.unusedSimpArgs false
set_option linter.unusedVariables false
namespace Go.Proofs.Ytaickkaoglohgaa
open Go.RowKit Tk

theorem bad_fine (l : L) : decide (0 ≤ bad l) = !fine l := by
  unfold bad fine stop
  cases h : (Utf.pieces l).find? (fun p => !charOk p.2) with
  | none =>
    have : (Utf.pieces l).all (fun p => charOk p.2) = true := List.all_eq_true.2 fun p hp => by
      have := List.find?_eq_none.1 h p hp
      simpa using this
    simp [this]
  | some p =>
    have h1 := List.find?_some h
    have h2 := List.mem_of_find?_eq_some h
    have : (Utf.pieces l).all (fun p => charOk p.2) = false := by
      rw [Bool.eq_false_iff]
      intro ha
      have := List.all_eq_true.1 ha p h2
      rw [this] at h1
      cases h1
    simp [this]
def tokCells (t : Tok) (v : Value) (e : Nat) : List Value := [.int .i8 t.kind, .string (bstr t.name), v, .bool t.empty, .string (bstr t.text), .int .i64 (t.at_ : Int), .int .i64 (e : Int)]
def zeroTok : List Value := [.int .i8 0, .string ⟨#[]⟩, .slice none 0 0, .bool false, .string ⟨#[]⟩, .int .i64 0, .int .i64 0]
/-- Seven cells stored, one by one. -/
def put7 (w : World) (X : Nat) (v0 v1 v2 v3 v4 v5 v6 : Value) : World := (((((((w.setCell ⟨X, 0, none⟩ v0).setCell ⟨X, 1, none⟩ v1).setCell ⟨X, 2, none⟩ v2).setCell ⟨X, 3, none⟩ v3).setCell ⟨X, 4, none⟩ v4).setCell ⟨X, 5, none⟩ v5).setCell ⟨X, 6, none⟩ v6)
theorem below_put7 {B X : Nat} {w w1 : World} (h : Below B w w1) (hX : B ≤ X) (v0 v1 v2 v3 v4 v5 v6 : Value) : Below B w (put7 w1 X v0 v1 v2 v3 v4 v5 v6) :=
  ((((((h.setCell (p := ⟨X, 0, none⟩) hX v0).setCell (p := ⟨X, 1, none⟩) hX v1).setCell (p := ⟨X, 2, none⟩) hX v2).setCell (p := ⟨X, 3, none⟩) hX v3).setCell (p := ⟨X, 4, none⟩) hX v4).setCell (p := ⟨X, 5, none⟩) hX v5).setCell (p := ⟨X, 6, none⟩) hX v6
theorem put7_blk {w : World} {X t : Nat} {u0 u1 u2 u3 u4 u5 u6 : Value} (h : Blk w X t #[u0, u1, u2, u3, u4, u5, u6]) (v0 v1 v2 v3 v4 v5 v6 : Value) : Blk (put7 w X v0 v1 v2 v3 v4 v5 v6) X t #[v0, v1, v2, v3, v4, v5, v6] := by
  have := ((((((h.set_ 0 v0).set_ 1 v1).set_ 2 v2).set_ 3 v3).set_ 4 v4).set_ 5 v5).set_ 6 v6
  simpa [Go.Proofs.Ytaickkaoglohgaa.put7] using this
theorem put7_own {w : World} {base e size n X : Nat} {v : Value} {xs : List Value} (h : w.ownsRow base e size v n xs) (hX : v.ownBlock ≠ some X) (v0 v1 v2 v3 v4 v5 v6 : Value) : (put7 w X v0 v1 v2 v3 v4 v5 v6).ownsRow base e size v n xs :=
  ownsRow_setCell_other (ownsRow_setCell_other (ownsRow_setCell_other (ownsRow_setCell_other (ownsRow_setCell_other (ownsRow_setCell_other (ownsRow_setCell_other h (a := ⟨X, 0, none⟩) hX _) (a := ⟨X, 1, none⟩) hX _) (a := ⟨X, 2, none⟩) hX _) (a := ⟨X, 3, none⟩) hX _) (a := ⟨X, 4, none⟩) hX _) (a := ⟨X, 5, none⟩) hX _) (a := ⟨X, 6, none⟩) hX _
theorem own_below {w w' : World} {base e size n : Nat} {v : Value} {xs : List Value} (h : w.ownsRow base e size v n xs) (hb : Below w.heap.size w w') : w'.ownsRow base e size v n xs :=
  h.kept (row := some w.heap.size) ⟨hb.os, hb.tape, hb.output, hb.size, fun i hi _ => hb.block i hi⟩ (.inr fun e => by have := (h.lt _ e).2; omega)
theorem But2.blk {X T g t : Nat} {cs : Array Value} {w w' : World} (h : But2 X T w w') (hg : Blk w g t cs) (hX : g ≠ X) (hT : g ≠ T) : Blk w' g t cs := (h.block g hg.lt hX hT).trans hg
end Go.Proofs.Ytaickkaoglohgaa
namespace Go.Proofs.Ytaickkaoglohgaa
open Go.RowKit Tk

end Go.Proofs.Ytaickkaoglohgaa
namespace Go.Proofs.Ytaickkaoglohgaa
namespace Tk

def Sps (b : L) : Prop := b.all sp = true
theorem nsp_word (l : L) : ∃ b r, l = b ++ r ∧ Sps b ∧ nsp l = b.length ∧ (∀ c t, r = c :: t → sp c = false) := by
  refine ⟨l.takeWhile sp, l.dropWhile sp, (List.takeWhile_append_dropWhile).symm, ?_, rfl, ?_⟩
  · unfold Sps
    exact List.all_eq_true.2 fun x hx => by
      induction l with
      | nil => cases hx
      | cons c l ih =>
        rw [List.takeWhile_cons] at hx
        split at hx
        · rename_i hc
          rcases List.mem_cons.1 hx with rfl | hx
          · exact hc
          · exact ih hx
        · cases hx
  · intro c t h
    induction l with
    | nil => cases h
    | cons d l ih =>
      rw [List.dropWhile_cons] at h
      split at h
      · exact ih h
      · rename_i hd
        cases h
        simpa using hd
theorem nsp_of {b r : L} (hb : Sps b) (hr : ∀ c t, r = c :: t → sp c = false) : nsp (b ++ r) = b.length := by
  unfold nsp
  induction b with
  | nil =>
    cases r with
    | nil => rfl
    | cons c t => rw [List.nil_append, List.takeWhile_cons, hr c t rfl]; rfl
  | cons c b ih =>
    unfold Sps at hb
    rw [List.all_cons, Bool.and_eq_true] at hb
    rw [List.cons_append, List.takeWhile_cons, hb.1]
    show (c :: (b ++ r).takeWhile sp).length = _
    rw [List.length_cons, List.length_cons, ih hb.2]
theorem till_one {q : UInt8} {r : L} {k : Nat} (h : till [q] r = some k) : ∃ x rest, r = x ++ q :: rest ∧ q ∉ x ∧ k = x.length := by
  rw [till_iff] at h
  obtain ⟨h1, h2, h3⟩ := index_first' h
  have h4 := Lib.occAt_head (t := []) rfl h1
  obtain ⟨h5, h6⟩ := List.getElem?_eq_some_iff.1 h4
  refine ⟨r.take k, r.drop (k + 1), ?_, ?_, ?_⟩
  · rw [← h6, ← List.drop_eq_getElem_cons, List.take_append_drop]
  · intro hm
    obtain ⟨j, hj, e⟩ := List.getElem_of_mem hm
    rw [List.length_take] at hj
    have h7 := h3 j (by omega)
    rw [List.getElem_take] at e
    unfold Lib.occAt at h7
    rw [List.drop_eq_getElem_cons (by omega), e] at h7
    simp at h7
  · rw [List.length_take]; omega
theorem till_one_of {q : UInt8} {x : L} (hq : q ∉ x) (rest : L) : till [q] (x ++ q :: rest) = some x.length := by
  rw [till_iff]
  refine Lib.index_first (by simp) ?_ fun j hj => ?_
  · unfold Lib.occAt; rw [List.drop_left]; simp
  · unfold Lib.occAt
    rw [List.drop_append_of_le_length (by omega), List.drop_eq_getElem_cons hj, List.cons_append]
    have : x[j] ≠ q := fun e => hq (e ▸ List.getElem_mem hj)
    rw [Bool.eq_false_iff]
    intro h
    obtain ⟨r, h⟩ := List.isPrefixOf_iff_prefix.1 h
    exact this (List.cons.inj h).1.symm
theorem till_one_none {q : UInt8} {r : L} (h : till [q] r = none) : q ∉ r := by
  intro hm
  obtain ⟨s, t, e, hs⟩ := List.eq_append_cons_of_mem hm
  rw [e, till_one_of hs] at h
  cases h
/-- The words of an equals sign and a value. -/
def EqW (w x : L) : Prop := ∃ b1 b2 q, Sps b1 ∧ Sps b2 ∧ (q = 34 ∨ q = 39) ∧ q ∉ x ∧ w = b1 ++ 61 :: (b2 ++ q :: (x ++ [q]))
theorem quoted_word {l x : L} {n : Nat} (h : quoted l = some (x, n)) : ∃ q rest, (q = 34 ∨ q = 39) ∧ q ∉ x ∧ l = q :: (x ++ q :: rest) ∧ n = x.length + 2 := by
  cases l with
  | nil => cases h
  | cons q r =>
    simp only [quoted] at h
    split at h
    · rename_i hq
      cases ht : till [q] r with
      | none => rw [ht] at h; cases h
      | some k =>
        rw [ht] at h
        simp only [Option.map_some, Option.some.injEq, Prod.mk.injEq] at h
        obtain ⟨y, rest, rfl, h2, rfl⟩ := till_one ht
        rw [List.take_left] at h
        obtain ⟨rfl, rfl⟩ := h
        exact ⟨q, rest, hq, h2, rfl, rfl⟩
    · cases h
theorem quoted_of {q : UInt8} {x : L} (hq : q = 34 ∨ q = 39) (hx : q ∉ x) (rest : L) : quoted (q :: (x ++ q :: rest)) = some (x, x.length + 2) := by
  simp only [quoted]
  rw [if_pos hq, till_one_of hx, Option.map_some, List.take_left]
theorem eqv_word {l x : L} {n : Nat} (h : eqv l = some (x, n)) : ∃ w rest, l = w ++ rest ∧ n = w.length ∧ EqW w x := by
  obtain ⟨b1, r1, rfl, hb1, hn1, -⟩ := nsp_word l
  unfold eqv at h
  rw [hn1, List.drop_left] at h
  cases r1 with
  | nil => cases h
  | cons c r =>
    simp only at h
    split at h
    · rename_i hc
      subst hc
      obtain ⟨b2, r2, rfl, hb2, hn2, -⟩ := nsp_word r
      rw [hn2, List.drop_left] at h
      cases hq : quoted r2 with
      | none => rw [hq] at h; cases h
      | some y =>
        obtain ⟨y, m⟩ := y
        rw [hq] at h
        simp only [Option.map_some, Option.some.injEq, Prod.mk.injEq] at h
        obtain ⟨rfl, rfl⟩ := h
        obtain ⟨q, rest, h1, h2, rfl, rfl⟩ := quoted_word hq
        refine ⟨b1 ++ 61 :: (b2 ++ q :: (y ++ [q])), rest, by simp, ?_, b1, b2, q, hb1, hb2, h1, h2, rfl⟩
        simp only [List.length_append, List.length_cons, List.length_nil]
        omega
    · cases h
theorem q_nsp {q : UInt8} (h : q = 34 ∨ q = 39) : sp q = false := by rcases h with rfl | rfl <;> rfl
theorem head_eq {α : Type} {c d : α} {s t : List α} (h : c :: s = d :: t) : c = d := by cases h; rfl
theorem eqv_of {w x : L} (h : EqW w x) (rest : L) : eqv (w ++ rest) = some (x, w.length) := by
  obtain ⟨b1, b2, q, hb1, hb2, hq, hx, rfl⟩ := h
  have e : b1 ++ 61 :: (b2 ++ q :: (x ++ [q])) ++ rest = b1 ++ 61 :: (b2 ++ q :: (x ++ q :: rest)) := by simp
  rw [e]
  unfold eqv
  rw [nsp_of hb1 (fun c t h => by rw [← head_eq h]; rfl), List.drop_left]
  simp only [if_true]
  rw [nsp_of hb2 (fun c t h => by rw [← head_eq h]; exact q_nsp hq), List.drop_left, quoted_of hq hx]
  simp only [Option.map_some, List.length_append, List.length_cons, List.length_nil]
  congr 2
  omega
/-- A part of the declaration. -/
def PartW (name w x : L) : Prop := ∃ b v, Sps b ∧ b ≠ [] ∧ EqW v x ∧ w = b ++ name ++ v
theorem pfx_iff {p l : L} : p.isPrefixOf l = true ↔ ∃ r, l = p ++ r := by
  rw [List.isPrefixOf_iff_prefix]
  exact ⟨fun ⟨r, h⟩ => ⟨r, h.symm⟩, fun ⟨r, h⟩ => ⟨r, h.symm⟩⟩
theorem part_word {name l x : L} {n : Nat} (h : part name l = some (x, n)) : ∃ w rest, l = w ++ rest ∧ n = w.length ∧ PartW name w x := by
  obtain ⟨b, r, rfl, hb, hn, -⟩ := nsp_word l
  unfold part at h
  rw [hn, List.drop_left] at h
  split at h
  · cases h
  rename_i h0
  split at h
  · rename_i hp
    obtain ⟨r, rfl⟩ := pfx_iff.1 hp
    rw [show (b ++ (name ++ r)).drop (b.length + name.length) = r by rw [← List.append_assoc, ← List.length_append, List.drop_left]] at h
    cases he : eqv r with
    | none => rw [he] at h; cases h
    | some y =>
      obtain ⟨y, m⟩ := y
      rw [he] at h
      simp only [Option.map_some, Option.some.injEq, Prod.mk.injEq] at h
      obtain ⟨rfl, rfl⟩ := h
      obtain ⟨v, rest, rfl, rfl, hv⟩ := eqv_word he
      exact ⟨b ++ name ++ v, rest, by simp, by simp; omega, b, v, hb, by rintro rfl; exact h0 rfl, hv, rfl⟩
  · cases h
theorem part_of {name w x : L} {d : UInt8} {t : L} (hn : name = d :: t) (hd : sp d = false) (h : PartW name w x) (rest : L) : part name (w ++ rest) = some (x, w.length) := by
  obtain ⟨b, v, hb, h0, hv, rfl⟩ := h
  have e : b ++ name ++ v ++ rest = b ++ (name ++ (v ++ rest)) := by simp
  rw [e]
  unfold part
  rw [nsp_of hb (fun c s h => by rw [hn] at h; rw [← head_eq h]; exact hd), List.drop_left, if_neg (by intro h; exact h0 (List.eq_nil_of_length_eq_zero h)), if_pos (pfx_iff.2 ⟨_, rfl⟩)]
  rw [show (b ++ (name ++ (v ++ rest))).drop (b.length + name.length) = v ++ rest by rw [← List.append_assoc, ← List.length_append, List.drop_left], eqv_of hv]
  simp only [Option.map_some, List.length_append]
/-- A part is not there where another byte stands. -/
theorem part_off {name b r : L} {c d : UInt8} {t : L} (hn : name = d :: t) (hb : Sps b) (hc : sp c = false) (hcd : d ≠ c) : part name (b ++ c :: r) = none := by
  unfold part
  rw [nsp_of hb (fun e s h => by rw [← head_eq h]; exact hc), List.drop_left]
  split
  · rfl
  · rw [if_neg]
    rw [hn]
    simp
    exact fun e => absurd e hcd
/-- A part that may be left out. -/
def OptW (name : L) (may : L → Bool) (w : L) : Prop := w = [] ∨ ∃ x, PartW name w x ∧ may x = true
theorem opt_word {name l : L} {may : L → Bool} {n : Nat} (h : opt name may l = some n) : ∃ w rest, l = w ++ rest ∧ n = w.length ∧ OptW name may w := by
  unfold opt at h
  cases hp : part name l with
  | none => rw [hp] at h; cases h; exact ⟨[], l, rfl, rfl, .inl rfl⟩
  | some x =>
    rw [hp] at h
    simp only at h
    split at h
    · rename_i hm
      obtain ⟨w, rest, h1, h2, h3⟩ := part_word (x := x.1) (n := x.2) hp
      cases h
      exact ⟨w, rest, h1, h2, .inr ⟨_, h3, hm⟩⟩
    · cases h
theorem opt_of {name w : L} {may : L → Bool} {d : UInt8} {t : L} (hn : name = d :: t) (hd : sp d = false) (h : OptW name may w) {rest b r : L} {c : UInt8} (hr : rest = b ++ c :: r) (hb : Sps b) (hc : sp c = false) (hcd : d ≠ c) :
    opt name may (w ++ rest) = some w.length := by
  unfold opt
  rcases h with rfl | ⟨x, hp, hm⟩
  · rw [List.nil_append, hr, part_off hn hb hc hcd]
    rfl
  · rw [part_of hn hd hp]
    simp only
    rw [if_pos hm]
/-- The declaration behind its five bytes. -/
def DeclW (w : L) : Prop := ∃ v x e a b, PartW sVersion v x ∧ version x = true ∧ OptW sEncoding encoding e ∧ OptW sAlone alone a ∧ Sps b ∧ w = v ++ (e ++ (a ++ (b ++ [63, 62])))
theorem decl_word {l : L} {n : Nat} (h : decl l = some n) : ∃ w rest, l = w ++ rest ∧ n = w.length ∧ DeclW w := by
  unfold decl at h
  cases hv : part sVersion l with
  | none => rw [hv] at h; cases h
  | some x =>
    obtain ⟨x, m⟩ := x
    obtain ⟨v, r1, rfl, rfl, hpv⟩ := part_word hv
    rw [hv] at h
    simp only [Option.bind_some] at h
    split at h
    · rename_i hx
      rw [List.drop_left] at h
      cases he : opt sEncoding encoding r1 with
      | none => rw [he] at h; cases h
      | some m =>
        obtain ⟨e, r2, rfl, rfl, hoe⟩ := opt_word he
        rw [he] at h
        simp only [Option.bind_some] at h
        rw [show (v ++ (e ++ r2)).drop (v.length + e.length) = r2 by rw [← List.append_assoc, ← List.length_append, List.drop_left]] at h
        cases ha : opt sAlone alone r2 with
        | none => rw [ha] at h; cases h
        | some m =>
          obtain ⟨a, r3, rfl, rfl, hoa⟩ := opt_word ha
          rw [ha] at h
          simp only [Option.bind_some] at h
          rw [show (v ++ (e ++ (a ++ r3))).drop (v.length + e.length + a.length) = r3 by rw [← List.append_assoc, ← List.append_assoc, ← List.length_append, ← List.length_append, List.drop_left]] at h
          obtain ⟨b, r4, rfl, hb, hn, -⟩ := nsp_word r3
          rw [hn, List.drop_left] at h
          split at h
          · rename_i hp
            obtain ⟨r5, rfl⟩ := pfx_iff.1 hp
            cases h
            refine ⟨v ++ (e ++ (a ++ (b ++ [63, 62]))), r5, by simp, ?_, v, x, e, a, b, hpv, hx, hoe, hoa, hb, rfl⟩
            simp only [List.length_append, List.length_cons, List.length_nil]
            omega
          · cases h
    · cases h
theorem opt_front {name w : L} {may : L → Bool} {d : UInt8} {t : L} (hn : name = d :: t) (hd : sp d = false) (h : OptW name may w) {b r : L} {c : UInt8} (hb : Sps b) (hc : sp c = false) :
    ∃ b' c' r', w ++ (b ++ c :: r) = b' ++ c' :: r' ∧ Sps b' ∧ sp c' = false ∧ (c' = c ∨ c' = d) := by
  rcases h with rfl | ⟨x, ⟨b', v, h1, h2, h3, rfl⟩, _⟩
  · exact ⟨b, c, r, rfl, hb, hc, .inl rfl⟩
  · exact ⟨b', d, t ++ v ++ (b ++ c :: r), by rw [hn]; simp, h1, hd, .inr rfl⟩
theorem decl_of {w : L} (h : DeclW w) (rest : L) : decl (w ++ rest) = some w.length := by
  obtain ⟨v, x, e, a, b, hpv, hx, hoe, hoa, hb, rfl⟩ := h
  have e0 : v ++ (e ++ (a ++ (b ++ [63, 62]))) ++ rest = v ++ (e ++ (a ++ (b ++ 63 :: (62 :: rest)))) := by simp
  rw [e0]
  obtain ⟨b', c', r', h1, h2, h3, h4⟩ := opt_front (r := 62 :: rest) (show sAlone = 115 :: [116, 97, 110, 100, 97, 108, 111, 110, 101] from rfl) rfl hoa hb (c := 63) rfl
  unfold decl
  rw [part_of (show sVersion = 118 :: [101, 114, 115, 105, 111, 110] from rfl) rfl hpv, Option.bind_some]
  simp only
  rw [if_pos hx, List.drop_left, opt_of (show sEncoding = 101 :: [110, 99, 111, 100, 105, 110, 103] from rfl) rfl hoe h1 h2 h3 (by rcases h4 with rfl | rfl <;> decide), Option.bind_some]
  rw [show (v ++ (e ++ (a ++ (b ++ 63 :: (62 :: rest))))).drop (v.length + e.length) = a ++ (b ++ 63 :: (62 :: rest)) by rw [← List.append_assoc, ← List.length_append, List.drop_left]]
  rw [opt_of (show sAlone = 115 :: [116, 97, 110, 100, 97, 108, 111, 110, 101] from rfl) rfl hoa rfl hb (c := 63) rfl (by decide), Option.bind_some]
  rw [show (v ++ (e ++ (a ++ (b ++ 63 :: (62 :: rest))))).drop (v.length + e.length + a.length) = b ++ 63 :: (62 :: rest) by rw [← List.append_assoc, ← List.append_assoc, ← List.length_append, ← List.length_append, List.drop_left]]
  rw [nsp_of hb (fun c s h => by rw [← head_eq h]; rfl), List.drop_left, if_pos (by simp)]
  simp only [List.length_append, List.length_cons, List.length_nil]
  congr 1
  omega
/-- A name's first byte. -/
theorem name_head {p t : L} {c : UInt8} (h : Name p) (hp : p = c :: t) (hc : c.toNat < 128) : firstOk (c.toNat : Int) = true := by
  have := h.2 (0, (c.toNat : Int)) (by rw [hp, Utf.from_ascii hc]; exact List.mem_cons_self ..)
  exact this
theorem name_not {p t : L} {c d : UInt8} (h : Name p) (hp : p = c :: t) (hd : d.toNat < 128) (hf : firstOk (d.toNat : Int) = false) : c ≠ d := by
  rintro rfl
  rw [name_head h hp hd] at hf
  cases hf
theorem name_nsp {p t : L} {c : UInt8} (h : Name p) (hp : p = c :: t) : sp c = false := by
  unfold sp
  have e : ∀ d : UInt8, d.toNat < 128 → firstOk (d.toNat : Int) = false → (c == d) = false := fun d h1 h2 => by rw [beq_eq_false_iff_ne]; exact name_not h hp h1 h2
  rw [e 32 (by decide) (by decide), e 9 (by decide) (by decide), e 10 (by decide) (by decide), e 13 (by decide) (by decide)]
  rfl
/-- A byte that ends a name. -/
def Stops (c : UInt8) : Prop := c.toNat < 128 ∧ ∀ n, n ≠ 0 → nameOk n (c.toNat : Int) = false
theorem stops_of {c : UInt8} (h : c.toNat < 128) (h2 : (furtherOk (c.toNat : Int) || decide ((c.toNat : Int) = 58)) = false) : Stops c := ⟨h, fun n hn => by unfold nameOk; rw [if_neg hn]; exact h2⟩
theorem stops_sp {c : UInt8} (h : sp c = true) : Stops c := by
  unfold sp at h
  simp only [Bool.or_eq_true, beq_iff_eq] at h
  rcases h with ((rfl | rfl) | rfl) | rfl <;> exact stops_of (by decide) (by decide)
theorem stops61 : Stops 61 := stops_of (by decide) (by decide)
theorem stops62 : Stops 62 := stops_of (by decide) (by decide)
theorem stops47 : Stops 47 := stops_of (by decide) (by decide)
theorem stops63 : Stops 63 := stops_of (by decide) (by decide)
theorem take_word {p q : L} {c : UInt8} (h : Name p) (h0 : p ≠ []) (hc : Stops c) : take (p ++ c :: q) = p.length :=
  take_of h (.inr (by rw [Utf.piece_ascii hc.1]; exact hc.2 _ fun e => h0 (List.eq_nil_of_length_eq_zero e)))
theorem sps_front {b r : L} {c : UInt8} (hb : Sps b) (hc : Stops c) : ∃ d t, b ++ c :: r = d :: t ∧ Stops d := by
  cases b with
  | nil => exact ⟨c, r, rfl, hc⟩
  | cons d b =>
    unfold Sps at hb
    rw [List.all_cons, Bool.and_eq_true] at hb
    exact ⟨d, b ++ c :: r, rfl, stops_sp hb.1⟩
theorem eqw_front {w x : L} (h : EqW w x) (rest : L) : ∃ d t, w ++ rest = d :: t ∧ Stops d := by
  obtain ⟨b1, b2, q, hb1, _, _, _, rfl⟩ := h
  have := sps_front (r := b2 ++ q :: (x ++ [q]) ++ rest) hb1 stops61
  simpa using this
/-- The words of attributes and a start's end. -/
inductive AttrsW : Nat → L → List At → Bool → Prop
  | two (off : Nat) (b : L) : Sps b → AttrsW off (b ++ [47, 62]) [] true
  | one (off : Nat) (b : L) : Sps b → AttrsW off (b ++ [62]) [] false
  | more (off : Nat) (b nm v x w : L) (as_ : List At) (e : Bool) : Sps b → b ≠ [] → Name nm → nm ≠ [] → EqW v x → (60 : UInt8) ∉ x → AttrsW (off + b.length + nm.length + v.length) w as_ e →
      AttrsW off (b ++ (nm ++ (v ++ w))) (⟨nm, x, off + b.length⟩ :: as_) e
theorem attrs_word : ∀ (k off : Nat) (l : L) (as_ : List At) (e : Bool) (off' : Nat), attrs k off l = some (as_, e, off') → ∃ w rest, l = w ++ rest ∧ off' = off + w.length ∧ AttrsW off w as_ e
  | 0, _, _, _, _, _, h => by cases h
  | k + 1, off, l, as_, e, off', h => by
    obtain ⟨b, r, rfl, hb, hn, hr⟩ := nsp_word l
    unfold attrs at h
    rw [hn, List.drop_left] at h
    split at h
    · rename_i hp
      obtain ⟨r, rfl⟩ := pfx_iff.1 hp
      cases h
      exact ⟨b ++ [47, 62], r, by simp, by simp; omega, .two off b hb⟩
    split at h
    · rename_i hp
      obtain ⟨r, rfl⟩ := pfx_iff.1 hp
      cases h
      exact ⟨b ++ [62], r, by simp, by simp; omega, .one off b hb⟩
    split at h
    · cases h
    rename_i h0
    simp only at h
    split at h
    · cases h
    rename_i hm
    obtain ⟨t1, t2, -⟩ := take_spec r
    cases he : eqv (r.drop (take r)) with
    | none => rw [he] at h; cases h
    | some x =>
      obtain ⟨x, m⟩ := x
      rw [he] at h
      simp only [Option.bind_some] at h
      split at h
      · cases h
      rename_i h60
      obtain ⟨v, rest, h1, rfl, hv⟩ := eqv_word he
      have e1 : r = r.take (take r) ++ (v ++ rest) := by rw [← h1, List.take_append_drop]
      have e2 : r.drop (take r + v.length) = rest := by rw [← List.drop_drop, h1, List.drop_left]
      rw [e2] at h
      cases ha : attrs k (off + b.length + take r + v.length) rest with
      | none => rw [ha] at h; cases h
      | some y =>
        obtain ⟨as2, eb, o2⟩ := y
        rw [ha] at h
        simp only [Option.map_some, Option.some.injEq, Prod.mk.injEq] at h
        obtain ⟨rfl, rfl, rfl⟩ := h
        obtain ⟨w, rest2, rfl, rfl, hw⟩ := attrs_word k _ _ _ _ _ ha
        have hl : (r.take (take r)).length = take r := by rw [List.length_take]; omega
        refine ⟨b ++ (r.take (take r) ++ (v ++ w)), rest2, ?_, ?_, ?_⟩
        · conv => lhs; rw [e1]
          simp
        · simp only [List.length_append, hl]; omega
        · refine .more off b _ v x w as2 eb hb (by rintro rfl; exact h0 rfl) t2 ?_ hv h60 ?_
          · intro e; rw [e] at hl; exact hm hl.symm
          · rw [hl]; exact hw
theorem attrs_front {off : Nat} {w : L} {as_ : List At} {e : Bool} (h : AttrsW off w as_ e) (rest : L) : ∃ d t, w ++ rest = d :: t ∧ Stops d := by
  cases h with
  | two _ b hb => have := sps_front (r := 62 :: rest) hb stops47; simpa using this
  | one _ b hb => have := sps_front (r := rest) hb stops62; simpa using this
  | more _ b nm v x w as_ e hb h0 _ _ _ _ _ =>
    cases b with
    | nil => exact absurd rfl h0
    | cons d b =>
      unfold Sps at hb
      rw [List.all_cons, Bool.and_eq_true] at hb
      exact ⟨d, _, rfl, stops_sp hb.1⟩
theorem attrs_of {off : Nat} {w : L} {as_ : List At} {e : Bool} (h : AttrsW off w as_ e) : ∀ (k : Nat) (rest : L), w.length ≤ k → attrs k off (w ++ rest) = some (as_, e, off + w.length) := by
  induction h with
  | two off b hb =>
    intro k rest hk
    obtain ⟨k, rfl⟩ : ∃ j, k = j + 1 := ⟨k - 1, by simp at hk; omega⟩
    have e0 : b ++ [47, 62] ++ rest = b ++ (47 :: 62 :: rest) := by simp
    rw [e0]
    unfold attrs
    rw [nsp_of hb (fun c t h => by rw [← head_eq h]; rfl), List.drop_left, if_pos (by simp)]
    simp
    omega
  | one off b hb =>
    intro k rest hk
    obtain ⟨k, rfl⟩ : ∃ j, k = j + 1 := ⟨k - 1, by simp at hk; omega⟩
    have e0 : b ++ [62] ++ rest = b ++ (62 :: rest) := by simp
    rw [e0]
    unfold attrs
    rw [nsp_of hb (fun c t h => by rw [← head_eq h]; rfl), List.drop_left, if_neg (by simp), if_pos (by simp)]
    simp
    omega
  | more off b nm v x w as_ e hb h0 hn hn0 hv h60 hw ih =>
    intro k rest hk
    simp only [List.length_append] at hk
    have hbl : 0 < b.length := List.length_pos_iff.2 h0
    have hnl : 0 < nm.length := List.length_pos_iff.2 hn0
    obtain ⟨k, rfl⟩ : ∃ j, k = j + 1 := ⟨k - 1, by omega⟩
    have e0 : b ++ (nm ++ (v ++ w)) ++ rest = b ++ (nm ++ (v ++ (w ++ rest))) := by simp
    rw [e0]
    obtain ⟨c, nt, hc⟩ : ∃ c t, nm = c :: t := by cases nm with
      | nil => exact absurd rfl hn0
      | cons c t => exact ⟨c, t, rfl⟩
    have n47 : c ≠ 47 := name_not hn hc (by decide) (by decide)
    have n62 : c ≠ 62 := name_not hn hc (by decide) (by decide)
    unfold attrs
    rw [nsp_of hb (fun d t h => by rw [hc] at h; rw [← head_eq h]; exact name_nsp hn hc), List.drop_left]
    rw [if_neg (by rw [hc]; simp; exact fun h => absurd h.symm n47), if_neg (by rw [hc]; simp; exact fun h => absurd h.symm n62), if_neg (by omega)]
    obtain ⟨d, t, hd, hst⟩ := eqw_front hv (w ++ rest)
    have htk : take (nm ++ (v ++ (w ++ rest))) = nm.length := by rw [hd]; exact take_word hn hn0 hst
    simp only
    rw [htk, if_neg (by omega), List.drop_left, eqv_of hv, Option.bind_some]
    simp only
    rw [if_neg h60, show (nm ++ (v ++ (w ++ rest))).drop (nm.length + v.length) = w ++ rest by rw [← List.append_assoc, ← List.length_append, List.drop_left], ih k rest (by omega), List.take_left]
    simp only [Option.map_some, List.length_append]
    congr 3
    omega
end Tk
end Go.Proofs.Ytaickkaoglohgaa
