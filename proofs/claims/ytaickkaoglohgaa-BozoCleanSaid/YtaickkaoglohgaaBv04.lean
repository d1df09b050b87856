/- One operation of a region that draws its order, taken by itself; the operation and its slot written out. · Tokens: the scan's small methods, walked. (Printed by wip/genTkA.py.) · Tokens: the scan's name, value. (Printed by wip/genTkG.py.) · References in plain data: what a reference names, the text that a text with references stands for; no program in sight. · UTF-8 and tokens in plain data: what stands at the front of a text is told by its own bytes; no program in sight. · The document's till: where the first such piece stands, from a byte on. -/
import Derived.Test.YtaickkaoglohgaaBv02
import Derived.Test.YtaickkaoglohgaaBv03
import Derived.Test.YtaickkaoglohgaaShelf
import Derived.Deep.RegionHeld3
import Derived.Deep.QuietTactic
import Derived.BigQuiet
import Derived.Deep.LoopGhost
import Derived.WalkSpells
import Derived.WalkLawsBesides
set_option linter.unusedSimpArgs false
set_option linter.unusedVariables false
namespace Go.Proofs.Ytaickkaoglohgaa
open Go

section
variable {P : Program} {l : List Oper} {Q : Exit → Act → World → Prop} {md : Region.Mode} {S : World → Prop}
theorem put_some {a : Act} {d : Option Tmp} {k : Tmp} {v : Value} (hd : d = some k) : a.put d v = { tmps := a.tmps.setIfInBounds k v, defers := a.defers } := by subst hd; rfl
theorem held_take {i d : Nat} {oi : Oper} {v : Value} {fuel : Nat} {listed : Array Bool} {a : Act} {w : World} (hi : l[i]? = some oi) (hd : oi.dst = some d)
    (hs : Region.noSelect l.toArray = true) (hf : Region.free md l.toArray listed i = true) (hr : (Region.ready md l.toArray listed).contains i = true)
    (hQ : ∀ c a w, Q (.panic c) (a.put oi.dst v) w → Q (.panic c) a w) (hw : Region.wanted oi (yielded l.toArray a.tmps) = true) (hS : S w) (hy : ∀ w, S w → (execOp a.eval oi).run P w = .ok (.value v) w)
    (h : wpAnyH P md l.toArray Q S fuel (listed.setIfInBounds i true) { tmps := a.tmps.setIfInBounds d v, defers := a.defers } w) : wpAnyH P md l.toArray Q S (fuel + 1) listed a w :=
  wpAnyH_take (by simpa using hi) hs hf hr hQ (Or.inl ⟨hw, hy⟩) hS (by rw [put_some hd]; exact h)
theorem held_skip {i d : Nat} {oi : Oper} {fuel : Nat} {listed : Array Bool} {a : Act} {w : World} (hi : l[i]? = some oi) (hd : oi.dst = some d)
    (hs : Region.noSelect l.toArray = true) (hf : Region.free md l.toArray listed i = true) (hr : (Region.ready md l.toArray listed).contains i = true)
    (hQ : ∀ c a w, Q (.panic c) (a.put oi.dst undef) w → Q (.panic c) a w) (hw : Region.wanted oi (yielded l.toArray a.tmps) = false) (hS : S w)
    (h : wpAnyH P md l.toArray Q S fuel (listed.setIfInBounds i true) { tmps := a.tmps.setIfInBounds d undef, defers := a.defers } w) : wpAnyH P md l.toArray Q S (fuel + 1) listed a w :=
  wpAnyH_take (by simpa using hi) hs hf hr hQ (Or.inr ⟨hw, rfl⟩) hS (by rw [put_some hd]; exact h)
theorem held_call {i : Nat} {oi : Oper} {fuel : Nat} {listed : Array Bool} {a : Act} {w : World} (hi : l[i]? = some oi) (hr : Region.ready md l.toArray listed = [i]) (hw : Region.wanted oi (yielded l.toArray a.tmps) = true)
    (h : ∀ K' : Act → World → Prop, Shut (∀ a w, S w → (S w → wpAnyH P md l.toArray Q S fuel (listed.setIfInBounds i true) a w) → K' a w) → Oper.wp P oi a w K' Q) : wpAnyH P md l.toArray Q S (fuel + 1) listed a w :=
  wpAnyH_ready hr (by simp) (AllReadyH.cons (o := oi) (by simpa using hi) (fun K hK => by rw [if_pos hw]; exact h K hK) AllReadyH.nil)
/-- The next operation that was not taken yet. -/
def nx : List Bool → Nat
  | true :: r => nx r + 1
  | _ => 0
theorem nxT {d : Nat} {oi : Oper} {v : Value} {fuel : Nat} {ls : List Bool} {tm : List Value} {df : List Deferred} {w : World} (hi : l[nx ls]? = some oi) (hd : oi.dst = some d) (hS : S w)
    (hy : ∀ w, S w → (execOp (Act.eval ⟨tm.toArray, df⟩) oi).run P w = .ok (.value v) w) (h : wpAnyH P md l.toArray Q S fuel (ls.set (nx ls) true).toArray { tmps := (tm.set d v).toArray, defers := df } w)
    (hs : Region.noSelect l.toArray = true := by kernel_rfl) (hf : Region.free md l.toArray ls.toArray (nx ls) = true := by kernel_rfl) (hr : (Region.ready md l.toArray ls.toArray).contains (nx ls) = true := by kernel_rfl)
    (hw : Region.wanted oi (yielded l.toArray tm.toArray) = true := by kernel_rfl) (hQ : ∀ c a w, Q (.panic c) (a.put oi.dst v) w → Q (.panic c) a w := by exact fun _ _ _ h => h) : wpAnyH P md l.toArray Q S (fuel + 1) ls.toArray ⟨tm.toArray, df⟩ w :=
  held_take hi hd hs hf hr hQ hw hS hy (by simpa using h)
theorem nxK {d : Nat} {oi : Oper} {fuel : Nat} {ls : List Bool} {tm : List Value} {df : List Deferred} {w : World} (hi : l[nx ls]? = some oi) (hd : oi.dst = some d) (hS : S w)
    (h : wpAnyH P md l.toArray Q S fuel (ls.set (nx ls) true).toArray { tmps := (tm.set d undef).toArray, defers := df } w)
    (hs : Region.noSelect l.toArray = true := by kernel_rfl) (hf : Region.free md l.toArray ls.toArray (nx ls) = true := by kernel_rfl) (hr : (Region.ready md l.toArray ls.toArray).contains (nx ls) = true := by kernel_rfl)
    (hw : Region.wanted oi (yielded l.toArray tm.toArray) = false := by kernel_rfl) (hQ : ∀ c a w, Q (.panic c) (a.put oi.dst undef) w → Q (.panic c) a w := by exact fun _ _ _ h => h) : wpAnyH P md l.toArray Q S (fuel + 1) ls.toArray ⟨tm.toArray, df⟩ w :=
  held_skip hi hd hs hf hr hQ hw hS (by simpa using h)
end
end Go.Proofs.Ytaickkaoglohgaa
namespace Go.Proofs.Ytaickkaoglohgaa
open Go.RowKit Tk

theorem idx_run (s : ByteArray) (k : Nat) (c : UInt8) (h : s.data.toList[k]? = some c) (w : World) : (Instr.index 9 (.string s) (.int .i64 (k : Int))).run Try.prog w = .ok (.int .u8 (c.toNat : Nat)) w := by
  obtain ⟨hk, hc⟩ := List.getElem?_eq_some_iff.1 h
  rw [size_list] at hk
  have hc' : s[k] = c := hc
  go_simp
/-- A white byte, or none. -/
theorem nsp_at (l : L) (j : Nat) (h : j < nsp l) : ∃ c, l[j]? = some c ∧ sp c = true := by
  induction l generalizing j with
  | nil => simp [nsp] at h
  | cons c l ih =>
    unfold nsp at h
    rw [List.takeWhile_cons] at h
    split at h
    · rename_i hc
      cases j with
      | zero => exact ⟨c, rfl, hc⟩
      | succ j => exact ih j (by simpa [nsp] using h)
    · simp at h
theorem nsp_end (l : L) : l.length = nsp l ∨ ∃ c, l[nsp l]? = some c ∧ sp c = false := by
  induction l with
  | nil => left; rfl
  | cons c l ih =>
    unfold nsp
    rw [List.takeWhile_cons]
    split
    · rcases ih with h | ⟨d, h1, h2⟩
      · left; simpa [nsp] using h
      · right; exact ⟨d, by simpa [nsp] using h1, h2⟩
    · rename_i hc
      right
      exact ⟨c, rfl, by simpa using hc⟩
theorem nsp_le (l : L) : nsp l ≤ l.length := by
  unfold nsp
  exact (List.takeWhile_sublist sp).length_le

theorem lt_of_cell {w : World} {a : Addr} {v : Value} (h : w.cell? a = some v) : a.block < w.heap.size := by
  by_cases hb : a.block < w.heap.size
  · exact hb
  · exfalso
    have hn : w.heap[a.block]? = none := Array.getElem?_eq_none (by omega)
    unfold World.cell? at h
    simp [hn] at h
/-- The global that the library's searches read: it is there, below block 6. -/
structure Gm (w : World) : Prop where
  most : ∃ m, w.cell? ⟨0, 0, none⟩ = some (.int .i64 m)
theorem Gm.keep {w w' : World} (h : Gm w) (hk : ∀ g i v, g ≤ 0 → w.cell? ⟨g, i, none⟩ = some v → w'.cell? ⟨g, i, none⟩ = some v) : Gm w' :=
  ⟨by obtain ⟨m, hm⟩ := h.most; exact ⟨m, hk _ _ _ (Nat.le_refl _) hm⟩⟩
theorem Gm.lt {w : World} (h : Gm w) : 0 < w.heap.size := by obtain ⟨m, hm⟩ := h.most; exact lt_of_cell hm
theorem Gm.below {w w' : World} (h : Gm w) (hb : Below w.heap.size w w') : Gm w' := h.keep fun g i v _ hv => (hb.cell (lt_of_cell hv)).trans hv
theorem till_runm (s q : ByteArray) (w : World) (hg : Gm w) (hs : s.size ≤ 1000000000) :
    Calls Try.prog 40 #[.string s, .string q] w fun e w' => e = .returned (.int .i64 (Lib.index s.data.toList q.data.toList)) ∧ w' = w := by
  obtain ⟨m, hm⟩ := hg.most
  exact Try.strings_Index s q m w (by omega) hm
theorem index_fits {s q : L} (h : 0 ≤ Lib.index s q) : Lib.index s q + q.length ≤ s.length := by
  induction s with
  | nil =>
    unfold Lib.index at h ⊢
    cases q with
    | nil => simp
    | cons a q => simp at h
  | cons c l ih =>
    unfold Lib.index at h ⊢
    split
    · rename_i hp
      have := List.IsPrefix.length_le (List.isPrefixOf_iff_prefix.1 hp)
      simp at this ⊢
      omega
    · rename_i hp
      rw [if_neg hp] at h
      split
      · rename_i h1
        rw [if_pos h1] at h
        omega
      · rename_i h1
        rw [if_neg h1] at h
        have h2 := Lib.index_ge l q
        have h3 : Lib.index l q ≠ -1 := by simpa using h1
        have := ih (by omega)
        simp
        omega

theorem till_some {q d : L} {n : Nat} (h : till q d = some n) : Lib.index d q = n ∧ n + q.length ≤ d.length := by
  unfold till at h
  split at h
  · cases h
  · rename_i hb
    have := index_fits (s := d) (q := q) (by omega)
    simp only [Option.some.injEq] at h
    omega
theorem till_none {q d : L} (h : till q d = none) : Lib.index d q < 0 := by
  unfold till at h
  split at h
  · assumption
  · cases h

end Go.Proofs.Ytaickkaoglohgaa
namespace Go.Proofs.Ytaickkaoglohgaa
open Go.RowKit Tk

theorem piecesN_lt : ∀ (n k : Nat) (l : L), l.length ≤ n → ∀ p ∈ Utf.piecesN n k l, p.1 < k + l.length
  | _, _, [], _, p, hp => by unfold Utf.piecesN at hp; cases hp
  | 0, _, c :: l, h, _, _ => absurd h (by simp)
  | n + 1, k, c :: l, h, p, hp => by
    unfold Utf.piecesN at hp
    have hl := Utf.piece_len c l
    rcases List.mem_cons.1 hp with rfl | hp
    · simp
    · have := piecesN_lt n _ _ (by rw [List.length_drop]; simp at h ⊢; omega) p hp
      rw [List.length_drop] at this
      simp at this hl ⊢
      omega
theorem pieces_lt (l : L) (p : Nat × Int) (hp : p ∈ Utf.pieces l) : p.1 < l.length := by
  have := piecesN_lt l.length 0 l (Nat.le_refl _) p hp
  omega
theorem take_le (l : L) : take l ≤ l.length := by
  unfold take stop
  cases h : (Utf.pieces l).find? fun p => !nameOk p.1 p.2 with
  | none => simp
  | some x =>
    have hm := List.mem_of_find?_eq_some h
    simp only [Option.map_some, Option.getD_some]
    exact Nat.le_of_lt (pieces_lt l x hm)

end Go.Proofs.Ytaickkaoglohgaa
namespace Go.Proofs.Ytaickkaoglohgaa
open Go Tk
namespace Sx
/-- Where a ; stands, with no & and no < ahead of it. -/
def ends : L → Option Nat
  | [] => none
  | c :: r => if c = 59 then some 0 else if c = 38 ∨ c = 60 then none else (ends r).map (· + 1)
/-- A digit's worth; 16: it is none. -/
def worth (c : UInt8) : Nat := if 48 ≤ c.toNat ∧ c.toNat ≤ 57 then c.toNat - 48 else if 97 ≤ c.toNat ∧ c.toNat ≤ 102 then c.toNat - 87 else if 65 ≤ c.toNat ∧ c.toNat ≤ 70 then c.toNat - 55 else 16
def numVal (base : Nat) : Nat → L → Option Nat
  | v, [] => some v
  | v, c :: r => if base ≤ worth c then none else numVal base (v * base + worth c) r
def chk (v : Nat) : Option Nat := if charOk v then some v else none
/-- A number's scalar: none: it is no number; none within: it is a number of no Char. -/
def number (s : L) : Option (Option Nat) :=
  if s.head? = some 35 then
    if s.tail.head? = some 120 then if s.tail.tail = [] then none else (numVal 16 0 s.tail.tail).map chk
    else if s.tail = [] then none else (numVal 10 0 s.tail).map chk
  else none
def sLt : L := [108, 116]
def sGt : L := [103, 116]
def sAmp : L := [97, 109, 112]
def sApos : L := [97, 112, 111, 115]
def sQuot : L := [113, 117, 111, 116]
def named (s : L) : Option Nat := if s = sLt then some 60 else if s = sGt then some 62 else if s = sAmp then some 38 else if s = sApos then some 39 else if s = sQuot then some 34 else none
def scalar (s : L) : Option Nat := match number s with
  | some (some v) => some v
  | _ => named s
theorem ends_le : ∀ {s : L} {n : Nat}, ends s = some n → n < s.length
  | [], n, h => by cases h
  | c :: r, n, h => by
    unfold ends at h
    by_cases h1 : c = 59
    · rw [if_pos h1] at h; cases h; simp
    rw [if_neg h1] at h
    by_cases h2 : c = 38 ∨ c = 60
    · rw [if_pos h2] at h; cases h
    rw [if_neg h2] at h
    cases he : ends r with
    | none => rw [he] at h; cases h
    | some m =>
      rw [he] at h
      simp only [Option.map_some, Option.some.injEq] at h
      have := ends_le he
      simp only [List.length_cons]
      omega
end Sx
end Go.Proofs.Ytaickkaoglohgaa
namespace Go.Proofs.Ytaickkaoglohgaa
namespace Utf

theorem cont_zero (l : List UInt8) (r n lo hi : Int) : cont l 0 r n lo hi = (r, n) := by cases l <;> simp [cont]
theorem cont_take : ∀ (l : List UInt8) (k : Nat) (r n lo hi : Int), 0 ≤ (cont l k r n lo hi).1 → ∀ y, cont (l.take k ++ y) k r n lo hi = cont l k r n lo hi
  | l, 0, r, n, lo, hi, _, y => by simp only [cont_zero]
  | [], k + 1, r, n, lo, hi, h, _ => by simp [cont] at h
  | c :: l, k + 1, r, n, lo, hi, h, y => by
    rw [List.take_succ_cons, List.cons_append]
    simp only [cont] at h ⊢
    split
    · rfl
    · rename_i hb; rw [if_neg hb] at h; exact cont_take l k _ _ _ _ h y
theorem follow_nonneg (c : UInt8) : 0 ≤ (follow c.toNat).2.1 := by
  have hb := byte_lt c
  have := follow_cases c.toNat (by omega) (by omega)
  omega
/-- A right piece is told by its own bytes. -/
theorem piece_take {l : List UInt8} (h : 0 ≤ (piece l).1) (y : List UInt8) : piece (l.take (piece l).2.toNat ++ y) = piece l := by
  cases l with
  | nil => simp [piece] at h
  | cons c l =>
    have hb := follow_nonneg c
    rw [piece_cons] at h ⊢
    by_cases hn : (follow c.toNat).1 < 0
    · rw [if_pos hn] at h; simp at h
    rw [if_neg hn] at h ⊢
    have h2 := cont_neg l (follow c.toNat).1.toNat (follow c.toNat).2.1 1 (follow c.toNat).2.2.1 (follow c.toNat).2.2.2 hb
    rcases h2 with h2 | ⟨_, h2⟩
    · omega
    have e : (cont l (follow c.toNat).1.toNat (follow c.toNat).2.1 1 (follow c.toNat).2.2.1 (follow c.toNat).2.2.2).2.toNat = (follow c.toNat).1.toNat + 1 := by rw [h2]; omega
    rw [e, List.take_succ_cons, List.cons_append, piece_cons, if_neg hn]
    exact cont_take _ _ _ _ _ _ h y
theorem piece_app {p : List UInt8} (h : 0 ≤ (piece p).1) (q : List UInt8) : piece (p ++ q) = piece p := by
  have := piece_take h (p.drop (piece p).2.toNat ++ q)
  rwa [← List.append_assoc, List.take_append_drop] at this
/-- An ASCII byte is a piece of its own. -/
theorem piece_ascii {c : UInt8} (h : c.toNat < 128) (l : List UInt8) : piece (c :: l) = ((c.toNat : Int), 1) := by
  have e : follow (c.toNat : Int) = (0, (c.toNat : Int), 128, 191) := by unfold follow; rw [if_pos (by omega)]
  rw [piece_cons, e]
  simp [cont_zero]
theorem piece_n (c : UInt8) (l : List UInt8) : 1 ≤ (piece (c :: l)).2.toNat ∧ (piece (c :: l)).2.toNat ≤ (c :: l).length := by
  have := piece_len c l
  omega
theorem valid_step {c : UInt8} {l : List UInt8} (h : valid (c :: l) = true) : 0 ≤ (piece (c :: l)).1 ∧ valid ((c :: l).drop (piece (c :: l)).2.toNat) = true := by
  rw [valid_cons] at h
  split at h
  · cases h
  · exact ⟨by omega, h⟩
theorem app_step {c : UInt8} {l : List UInt8} (h : 0 ≤ (piece (c :: l)).1) (q : List UInt8) : (c :: l ++ q).drop (piece (c :: l ++ q)).2.toNat = (c :: l).drop (piece (c :: l)).2.toNat ++ q := by
  rw [piece_app h, List.drop_append_of_le_length (piece_n c l).2]
theorem from_app_n : ∀ (k : Nat) (p q : List UInt8) (at_ : Nat), p.length ≤ k → valid p = true → from_ at_ (p ++ q) = from_ at_ p ++ from_ (at_ + p.length) q := by
  intro k
  induction k with
  | zero => intro p q at_ hk _; cases p with
    | nil => simp [from_nil]
    | cons c l => simp at hk
  | succ k ih =>
    intro p q at_ hk hv
    cases p with
    | nil => simp [from_nil]
    | cons c l =>
      obtain ⟨h1, h2⟩ := valid_step hv
      have hn := piece_n c l
      rw [List.cons_append, from_cons, from_cons, ← List.cons_append, app_step h1, piece_app h1, ih _ q _ (by rw [List.length_drop]; omega) h2, List.cons_append, List.length_drop]
      generalize (piece (c :: l)).2.toNat = m at *
      rw [show at_ + m + ((c :: l).length - m) = at_ + (c :: l).length by omega]
theorem from_app {p : List UInt8} (h : valid p = true) (q : List UInt8) (at_ : Nat) : from_ at_ (p ++ q) = from_ at_ p ++ from_ (at_ + p.length) q := from_app_n _ p q at_ (Nat.le_refl _) h
theorem valid_app_n : ∀ (k : Nat) (p q : List UInt8), p.length ≤ k → valid p = true → valid (p ++ q) = valid q := by
  intro k
  induction k with
  | zero => intro p q hk _; cases p with
    | nil => rfl
    | cons c l => simp at hk
  | succ k ih =>
    intro p q hk hv
    cases p with
    | nil => rfl
    | cons c l =>
      obtain ⟨h1, h2⟩ := valid_step hv
      have hn := piece_n c l
      rw [List.cons_append, valid_cons, ← List.cons_append, piece_app h1, if_neg (by omega)]
      have := app_step h1 q
      rw [piece_app h1] at this
      rw [this, ih _ q (by rw [List.length_drop]; omega) h2]
theorem valid_app {p : List UInt8} (h : valid p = true) (q : List UInt8) : valid (p ++ q) = valid q := valid_app_n _ p q (Nat.le_refl _) h
/-- The bytes behind the first of a right piece are none of ASCII. -/
theorem cont_high : ∀ (l : List UInt8) (k : Nat) (r n lo hi : Int), 128 ≤ lo → 0 ≤ (cont l k r n lo hi).1 → ∀ i, i < k → ∃ c, l[i]? = some c ∧ 128 ≤ c.toNat
  | l, 0, _, _, _, _, _, _, i, hi' => by omega
  | [], k + 1, _, _, _, _, _, h, _, _ => by simp [cont] at h
  | c :: l, k + 1, r, n, lo, hi, hlo, h, i, hi' => by
    simp only [cont] at h
    split at h
    · simp at h
    · rename_i hb
      cases i with
      | zero => exact ⟨c, rfl, by omega⟩
      | succ i =>
        obtain ⟨d, h1, h2⟩ := cont_high l k _ _ 128 191 (by omega) h i (by omega)
        exact ⟨d, by simpa using h1, h2⟩
theorem piece_high {l : List UInt8} (h : 0 ≤ (piece l).1) (i : Nat) (h1 : 0 < i) (h2 : i < (piece l).2.toNat) : ∃ c, l[i]? = some c ∧ 128 ≤ c.toNat := by
  cases l with
  | nil => simp [piece] at h
  | cons c l =>
    have hb := byte_lt c
    have hc := follow_cases c.toNat (by omega) (by omega)
    rw [piece_cons] at h h2
    by_cases hn : (follow c.toNat).1 < 0
    · rw [if_pos hn] at h; simp at h
    rw [if_neg hn] at h h2
    have h3 := cont_neg l (follow c.toNat).1.toNat (follow c.toNat).2.1 1 (follow c.toNat).2.2.1 (follow c.toNat).2.2.2 (follow_nonneg c)
    rcases h3 with h3 | ⟨_, h3⟩
    · omega
    rw [h3] at h2
    cases i with
    | zero => omega
    | succ i =>
      obtain ⟨d, e1, e2⟩ := cont_high l _ _ _ _ _ (by
        rcases hc with hc | hc | hc | hc | hc
        · have e : follow (c.toNat : Int) = (0, (c.toNat : Int), 128, 191) := by unfold follow; rw [if_pos hc.2.2]
          rw [e]
          exact Int.le_refl 128
        all_goals omega) h i (by omega)
      exact ⟨d, by simpa using e1, e2⟩
/-- A right text that holds an ASCII byte is right ahead of it, and from it on. -/
theorem valid_split_n : ∀ (k : Nat) (p : List UInt8) (c : UInt8) (q : List UInt8), p.length ≤ k → c.toNat < 128 → valid (p ++ c :: q) = true → valid p = true := by
  intro k
  induction k with
  | zero => intro p c q hk _ _; cases p with
    | nil => rfl
    | cons d l => simp at hk
  | succ k ih =>
    intro p c q hk hc hv
    cases p with
    | nil => rfl
    | cons d l =>
      obtain ⟨h1, h2⟩ := valid_step (c := d) (l := l ++ c :: q) hv
      have hn := piece_n d (l ++ c :: q)
      have hle : (piece (d :: (l ++ c :: q))).2.toNat ≤ (d :: l).length := by
        apply Nat.le_of_not_lt
        intro hlt
        obtain ⟨e, e1, e2⟩ := piece_high h1 (d :: l).length (by simp) hlt
        rw [← List.cons_append, List.getElem?_append_right (Nat.le_refl _), Nat.sub_self] at e1
        simp only [List.getElem?_cons_zero, Option.some.injEq] at e1
        subst e1
        omega
      have h3 := piece_take h1 ((d :: l).drop (piece (d :: (l ++ c :: q))).2.toNat)
      rw [← List.cons_append, List.take_append_of_le_length (by rw [List.cons_append]; exact hle), List.cons_append, List.take_append_drop] at h3
      rw [valid_cons, h3, if_neg (by omega)]
      rw [← List.cons_append, List.drop_append_of_le_length (by rw [List.cons_append]; exact hle), List.cons_append] at h2
      exact ih _ c q (by rw [List.length_drop]; omega) hc h2
theorem valid_split {p : List UInt8} {c : UInt8} {q : List UInt8} (hc : c.toNat < 128) (hv : valid (p ++ c :: q) = true) : valid p = true := valid_split_n _ p c q (Nat.le_refl _) hc hv
theorem valid_ascii {c : UInt8} (hc : c.toNat < 128) (q : List UInt8) : valid (c :: q) = valid q := by
  rw [valid_cons, piece_ascii hc, if_neg (by simp)]
  rfl
theorem valid_behind {p : List UInt8} {c : UInt8} {q : List UInt8} (hc : c.toNat < 128) (hv : valid (p ++ c :: q) = true) : valid q = true := by
  rw [valid_app (valid_split hc hv), valid_ascii hc] at hv
  exact hv
theorem from_ascii {c : UInt8} (hc : c.toNat < 128) (q : List UInt8) (at_ : Nat) : from_ at_ (c :: q) = (at_, (c.toNat : Int)) :: from_ (at_ + 1) q := by
  rw [from_cons, piece_ascii hc]
  rfl
/-- Where the first piece stands that is not as asked: all ahead of it is right. -/
theorem stop_split {ok : Nat → Int → Bool} (hok : ∀ k r, r < 0 → ok k r = false) : ∀ (k : Nat) (l : List UInt8) (at_ : Nat), l.length ≤ k → ∃ n, ((((from_ at_ l).find? fun p => !ok p.1 p.2).map (·.1)).getD (at_ + l.length)) = at_ + n ∧ n ≤ l.length ∧
    valid (l.take n) = true ∧ (∀ p ∈ from_ at_ (l.take n), ok p.1 p.2 = true) ∧ (n < l.length → ok (at_ + n) (piece (l.drop n)).1 = false) := by
  intro k
  induction k with
  | zero => intro l at_ hk; cases l with
    | nil => exact ⟨0, rfl, Nat.le_refl _, rfl, (fun p hp => nomatch hp), (fun h => nomatch h)⟩
    | cons c l => simp at hk
  | succ k ih =>
    intro l at_ hk
    cases l with
    | nil => exact ⟨0, rfl, Nat.le_refl _, rfl, (fun p hp => nomatch hp), (fun h => nomatch h)⟩
    | cons c l =>
      have hn := piece_n c l
      rw [from_cons, List.find?_cons]
      dsimp only
      cases ho : ok at_ (piece (c :: l)).1 with
      | false => exact ⟨0, rfl, by simp, rfl, (fun p hp => nomatch hp), (fun _ => by simpa using ho)⟩
      | true =>
        have h0 : 0 ≤ (piece (c :: l)).1 := Int.not_lt.1 fun h => by rw [hok _ _ h] at ho; cases ho
        obtain ⟨n, h1, h2, h3, h4, h5⟩ := ih ((c :: l).drop (piece (c :: l)).2.toNat) (at_ + (piece (c :: l)).2.toNat) (by rw [List.length_drop]; omega)
        generalize hm : (piece (c :: l)).2.toNat = m at *
        rw [List.length_drop] at h1 h2 h5
        have e : at_ + m + ((c :: l).length - m) = at_ + (c :: l).length := by omega
        rw [e] at h1
        have ht : (c :: l).take (m + n) = (c :: l).take m ++ ((c :: l).drop m).take n := List.take_add
        have hp := piece_take h0 []
        rw [hm, List.append_nil] at hp
        obtain ⟨m', rfl⟩ : ∃ m', m = m' + 1 := ⟨m - 1, by omega⟩
        have hv1 : valid ((c :: l).take (m' + 1)) = true := by
          rw [List.take_succ_cons] at hp ⊢
          rw [valid_cons, hp, if_neg (by omega), hm, List.drop_of_length_le (by simp; omega)]
          rfl
        refine ⟨m' + 1 + n, by simp only [Bool.not_true]; rw [h1]; omega, by omega, ?_, ?_, ?_⟩
        · rw [ht, valid_app hv1, h3]
        · rw [ht, from_app hv1]
          intro p hp'
          rcases List.mem_append.1 hp' with hp' | hp'
          · rw [List.take_succ_cons] at hp hp'
            rw [from_cons, hp, hm, List.drop_of_length_le (by simp; omega), from_nil] at hp'
            simp only [List.mem_singleton] at hp'
            have e1 : p.1 = at_ := by rw [hp']
            have e2 : p.2 = (piece (c :: l)).1 := by rw [hp']
            rw [e1, e2]
            exact ho
          · rw [List.length_take, Nat.min_eq_left hn.2] at hp'
            exact h4 p hp'
        · intro hlt
          have := h5 (by omega)
          rwa [List.drop_drop, Nat.add_assoc] at this
theorem from_shift_n : ∀ (k : Nat) (l : List UInt8) (at_ d : Nat), l.length ≤ k → from_ (at_ + d) l = (from_ at_ l).map fun p => (p.1 + d, p.2) := by
  intro k
  induction k with
  | zero => intro l at_ d hk; cases l with
    | nil => rfl
    | cons c l => simp at hk
  | succ k ih =>
    intro l at_ d hk
    cases l with
    | nil => rfl
    | cons c l =>
      have hn := piece_n c l
      rw [from_cons, from_cons, List.map_cons, ← ih _ _ _ (by rw [List.length_drop]; omega), Nat.add_right_comm]
theorem from_shift (l : List UInt8) (at_ d : Nat) : from_ (at_ + d) l = (from_ at_ l).map fun p => (p.1 + d, p.2) := from_shift_n _ l at_ d (Nat.le_refl _)
end Utf
namespace Tk
/-- A name, whole. -/
def Name (p : L) : Prop := Utf.valid p = true ∧ ∀ q ∈ Utf.from_ 0 p, nameOk q.1 q.2 = true
theorem within_neg {r a b : Int} (h : r < 0) (ha : 0 ≤ a) : within r a b = false := by
  unfold within
  rw [decide_eq_false (by omega)]
  rfl
theorem firstOk_neg' {r : Int} (h : r < 0) : firstOk r = false := by
  unfold firstOk
  simp only [within_neg h (by decide : (0 : Int) ≤ 97), within_neg h (by decide : (0 : Int) ≤ 65), within_neg h (by decide : (0 : Int) ≤ 95), within_neg h (by decide : (0 : Int) ≤ 192), within_neg h (by decide : (0 : Int) ≤ 216), within_neg h (by decide : (0 : Int) ≤ 248), within_neg h (by decide : (0 : Int) ≤ 880), within_neg h (by decide : (0 : Int) ≤ 895), within_neg h (by decide : (0 : Int) ≤ 8204), within_neg h (by decide : (0 : Int) ≤ 8304), within_neg h (by decide : (0 : Int) ≤ 11264), within_neg h (by decide : (0 : Int) ≤ 12289), within_neg h (by decide : (0 : Int) ≤ 63744), within_neg h (by decide : (0 : Int) ≤ 65008), within_neg h (by decide : (0 : Int) ≤ 65536)]
  rfl
theorem nameOk_neg' (k : Nat) (r : Int) (h : r < 0) : nameOk k r = false := by
  unfold nameOk furtherOk
  rw [firstOk_neg' h]
  simp only [within_neg h (by decide : (0 : Int) ≤ 45), within_neg h (by decide : (0 : Int) ≤ 48), within_neg h (by decide : (0 : Int) ≤ 183), within_neg h (by decide : (0 : Int) ≤ 768), within_neg h (by decide : (0 : Int) ≤ 8255), decide_eq_false (show ¬ r = 58 by omega)]
  simp
theorem charOk_neg' (r : Int) (h : r < 0) : charOk r = false := by
  unfold charOk
  simp only [within_neg h (by decide : (0 : Int) ≤ 9), within_neg h (by decide : (0 : Int) ≤ 13), within_neg h (by decide : (0 : Int) ≤ 32), within_neg h (by decide : (0 : Int) ≤ 57344), within_neg h (by decide : (0 : Int) ≤ 65536)]
  rfl
/-- What stands at the front is a name, and ends where no more can follow. -/
theorem take_spec (l : L) : take l ≤ l.length ∧ Name (l.take (take l)) ∧ (take l < l.length → nameOk (take l) (Utf.piece (l.drop (take l))).1 = false) := by
  obtain ⟨n, h1, h2, h3, h4, h5⟩ := Utf.stop_split nameOk_neg' l.length l 0 (Nat.le_refl _)
  have e : take l = n := by
    unfold take stop
    rw [Nat.zero_add, Nat.zero_add] at h1
    exact h1
  rw [e]
  rw [Nat.zero_add] at h5
  exact ⟨h2, ⟨h3, h4⟩, h5⟩
theorem take_of {p q : L} (h : Name p) (hq : q = [] ∨ nameOk p.length (Utf.piece q).1 = false) : take (p ++ q) = p.length := by
  unfold take stop
  have e : Utf.pieces (p ++ q) = Utf.from_ 0 p ++ Utf.from_ (0 + p.length) q := Utf.from_app h.1 q 0
  have hn : (Utf.from_ 0 p).find? (fun p => !nameOk p.1 p.2) = none := List.find?_eq_none.2 fun x hx => by rw [h.2 x hx]; simp
  rw [e, List.find?_append, hn, Option.none_or, Nat.zero_add]
  rcases hq with rfl | hq
  · simp [Utf.from_nil]
  · cases q with
    | nil => simp [Utf.from_nil]
    | cons c q =>
      rw [Utf.from_cons, List.find?_cons]
      dsimp only
      rw [hq]
      rfl
/-- A name's end is told by the byte that stands there, if that is one of ASCII. -/
theorem take_ascii {a r r' : L} {c : UInt8} (h : take (a ++ r) < a.length) (hc : a[take (a ++ r)]? = some c) (h7 : c.toNat < 128) : take (a ++ r') = take (a ++ r) := by
  obtain ⟨h1, h2, h3⟩ := take_spec (a ++ r)
  generalize take (a ++ r) = n at *
  have e : a = a.take n ++ c :: a.drop (n + 1) := by
    obtain ⟨_, e2⟩ := List.getElem?_eq_some_iff.1 hc
    rw [← e2, ← List.drop_eq_getElem_cons, List.take_append_drop]
  have hl : (a.take n).length = n := by rw [List.length_take]; omega
  rw [List.take_append_of_le_length (by omega)] at h2
  have h4 := h3 (by rw [List.length_append]; omega)
  rw [List.drop_append_of_le_length (by omega)] at h4
  have e3 : a.drop n = c :: a.drop (n + 1) := by
    obtain ⟨_, e2⟩ := List.getElem?_eq_some_iff.1 hc
    rw [← e2, ← List.drop_eq_getElem_cons]
  rw [e3, List.cons_append, Utf.piece_ascii h7] at h4
  have := take_of (p := a.take n) (q := c :: (a.drop (n + 1) ++ r')) h2 (.inr (by rw [Utf.piece_ascii h7, hl]; exact h4))
  rw [hl] at this
  rw [← this]
  conv => lhs; rw [e]
  simp
theorem nsp_app {a r r' : L} (h : nsp (a ++ r) < a.length) : nsp (a ++ r') = nsp (a ++ r) := by
  unfold nsp at *
  rw [List.takeWhile_append] at h ⊢
  rw [List.takeWhile_append]
  split at h
  · rw [List.length_append] at h; omega
  · rename_i hn
    rw [if_neg hn, if_neg hn]
theorem pfx_app {p a r : L} (h : p.length ≤ a.length) : p.isPrefixOf (a ++ r) = p.isPrefixOf a := by
  rw [Bool.eq_iff_iff, List.isPrefixOf_iff_prefix, List.isPrefixOf_iff_prefix]
  exact ⟨fun hp => List.prefix_of_prefix_length_le hp (List.prefix_append _ _) h, fun hp => hp.trans (List.prefix_append _ _)⟩
theorem index_first' {s p : L} {n : Nat} (h : Lib.index s p = n) : Lib.occAt s p n = true ∧ n ≤ s.length ∧ ∀ j, j < n → Lib.occAt s p j = false := by
  induction s generalizing n with
  | nil =>
    unfold Lib.index at h
    split at h
    · rename_i he
      have : n = 0 := by omega
      subst this
      refine ⟨?_, Nat.le_refl _, fun j hj => by omega⟩
      cases p with
      | nil => rfl
      | cons a t => cases he
    · omega
  | cons b l ih =>
    unfold Lib.index at h
    split at h
    · rename_i he
      have : n = 0 := by omega
      subst this
      exact ⟨by simpa [Lib.occAt] using he, by simp, fun j hj => by omega⟩
    · rename_i he
      split at h
      · omega
      · rename_i he2
        have he2 : Lib.index l p ≠ -1 := by simpa using he2
        have hg := Lib.index_ge l p
        obtain ⟨n', rfl⟩ : ∃ n', n = n' + 1 := ⟨n - 1, by omega⟩
        obtain ⟨h1, h2, h3⟩ := ih (n := n') (by omega)
        refine ⟨by simpa [Lib.occAt] using h1, by simpa using h2, fun j hj => ?_⟩
        cases j with
        | zero => exact Bool.eq_false_iff.2 he
        | succ j => simpa [Lib.occAt] using h3 j (by omega)
theorem till_iff {p l : L} {n : Nat} : till p l = some n ↔ Lib.index l p = n := by
  unfold till
  constructor
  · intro h
    split at h
    · cases h
    · rename_i hn
      have := Option.some.inj h
      omega
  · intro h
    rw [if_neg (by omega), h]
    simp
theorem occ_app {p a r : L} {i : Nat} (h : i + p.length ≤ a.length) : Lib.occAt (a ++ r) p i = Lib.occAt a p i := by
  unfold Lib.occAt
  rw [List.drop_append_of_le_length (by omega), pfx_app (by rw [List.length_drop]; omega)]
theorem till_app {p a r r' : L} {n : Nat} (h : till p (a ++ r) = some n) (hn : n + p.length ≤ a.length) : till p (a ++ r') = some n := by
  rw [till_iff] at h ⊢
  obtain ⟨h1, h2, h3⟩ := index_first' h
  refine Lib.index_first (by rw [List.length_append]; omega) ?_ fun j hj => ?_
  · rw [occ_app hn] at h1 ⊢; exact h1
  · have := h3 j hj
    rw [occ_app (by omega)] at this ⊢
    exact this
theorem till_len {p l : L} {n : Nat} (h : till p l = some n) : n + p.length ≤ l.length := by
  rw [till_iff] at h
  obtain ⟨h1, h2, h3⟩ := index_first' h
  rcases Lib.occAt_room h1 with h4 | rfl
  · exact h4
  · simpa using h2
end Tk
end Go.Proofs.Ytaickkaoglohgaa
namespace Go.Proofs.Ytaickkaoglohgaa
open Go.RowKit Tk

/-- Where the first such piece stands, from byte k on; -1: nowhere. -/
def tillAt (l q : L) (k : Nat) : Int := match Tk.till q (l.drop k) with
  | some n => ((k + n : Nat) : Int)
  | none => -1
theorem tillAt_here {l q : L} {k : Nat} (h : q.isPrefixOf (l.drop k) = true) : tillAt l q k = k := by
  have : Tk.till q (l.drop k) = some 0 := by
    rw [till_iff]
    exact Lib.index_first (Nat.zero_le _) (by unfold Lib.occAt; rw [List.drop_zero]; exact h) fun j hj => by omega
  unfold tillAt
  rw [this]
  rfl
theorem tillAt_next {l q : L} {k : Nat} (hk : k < l.length) (h : q.isPrefixOf (l.drop k) = false) : tillAt l q k = tillAt l q (k + 1) := by
  obtain ⟨b, hb⟩ : ∃ b, l[k]? = some b := ⟨_, List.getElem?_eq_getElem hk⟩
  have e : l.drop k = b :: l.drop (k + 1) := by
    obtain ⟨h1, h2⟩ := List.getElem?_eq_some_iff.1 hb
    rw [← h2, ← List.drop_eq_getElem_cons]
  have hi : Lib.index (l.drop k) q = if Lib.index (l.drop (k + 1)) q == -1 then -1 else Lib.index (l.drop (k + 1)) q + 1 := by
    rw [e] at h ⊢
    conv => lhs; unfold Lib.index
    rw [if_neg (by rw [h]; simp)]
  have hg := Lib.index_ge (l.drop (k + 1)) q
  unfold tillAt Tk.till
  rw [hi]
  by_cases hn : Lib.index (l.drop (k + 1)) q = -1
  · rw [hn]; rfl
  · have : (Lib.index (l.drop (k + 1)) q == -1) = false := beq_eq_false_iff_ne.2 hn
    have h2 : (if (Lib.index (l.drop (k + 1)) q == -1) = true then -1 else Lib.index (l.drop (k + 1)) q + 1) = Lib.index (l.drop (k + 1)) q + 1 := by rw [if_neg (by rw [this]; simp)]
    rw [h2, if_neg (by omega), if_neg (by omega)]
    dsimp only
    omega
theorem tillAt_no {l q : L} {k : Nat} (hq : q ≠ []) (h : l.length < k + q.length) : tillAt l q k = -1 := by
  unfold tillAt
  cases ht : Tk.till q (l.drop k) with
  | none => rfl
  | some n =>
    have := till_len ht
    rw [List.length_drop] at this
    have := List.length_pos_iff.2 hq
    omega

end Go.Proofs.Ytaickkaoglohgaa
