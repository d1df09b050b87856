/- UTF-8 and tokens in plain data: what stands at the front of a text is told by its own bytes; no program in sight. · The document's till: where the first such piece stands, from a byte on. · References: a digit's worth, where a reference ends, what a name names. · Tokens: the scan's value. -/
import Derived.Test.YtaickkaoglohgaaGreatDoorBw01
import Derived.Test.YtaickkaoglohgaaGreatDoorBw04
import Derived.Deep.QuietTactic
import Derived.BigQuiet
import Derived.Deep.LoopGhost
import Derived.WalkSpells
import Derived.WalkLawsBesides
import Derived.Laws.IdiomStrings
set_option linter.unusedSimpArgs false
set_option linter.unusedVariables false
namespace Go.Proofs.YtaickkaoglohgaaGreatDoor
section
namespace Utf

theorem cont_zero (l : List UInt8) (r n lo hi : Int) : cont l 0 r n lo hi = (r, n) := by cases l <;> simp [cont]
theorem cont_take : ∀ (l : List UInt8) (k : Nat) (r n lo hi : Int), 0 ≤ (cont l k r n lo hi).1 → ∀ y, cont (l.take k ++ y) k r n lo hi = cont l k r n lo hi
 | l, 0, r, n, lo, hi, _, y => by simp only [cont_zero]
 | [], k + 1, r, n, lo, hi, h, _ => by simp [cont] at h
 | c :: l, k + 1, r, n, lo, hi, h, y => by
  rw [List.take_succ_cons, List.cons_append];simp only [cont] at h ⊢;split
  ·rfl
  rename_i hb; rw [if_neg hb] at h; exact cont_take l k _ _ _ _ h y
theorem follow_nonneg (c : UInt8) : 0 ≤ (follow c.toNat).2.1 := by
 have hb := byte_lt c;have := follow_cases c.toNat (by omega) (by omega);omega
theorem piece_take {l : List UInt8} (h : 0 ≤ (piece l).1) (y : List UInt8) : piece (l.take (piece l).2.toNat ++ y) = piece l := by
 cases l with
 | nil => simp [piece] at h
 | cons c l =>
  have hb := follow_nonneg c;rw [piece_cons] at h ⊢
  by_cases hn : (follow c.toNat).1 < 0
  ·rw [if_pos hn] at h; simp at h
  rw [if_neg hn] at h ⊢;have h2 := cont_neg l (follow c.toNat).1.toNat (follow c.toNat).2.1 1 (follow c.toNat).2.2.1 (follow c.toNat).2.2.2 hb
  rcases h2 with h2 | ⟨_, h2⟩
  ·omega
  have e : (cont l (follow c.toNat).1.toNat (follow c.toNat).2.1 1 (follow c.toNat).2.2.1 (follow c.toNat).2.2.2).2.toNat = (follow c.toNat).1.toNat + 1 := by rw [h2]; omega
  rw [e, List.take_succ_cons, List.cons_append, piece_cons, if_neg hn];exact cont_take _ _ _ _ _ _ h y
theorem piece_app {p : List UInt8} (h : 0 ≤ (piece p).1) (q : List UInt8) : piece (p ++ q) = piece p := by
 have := piece_take h (p.drop (piece p).2.toNat ++ q);rwa [← List.append_assoc, List.take_append_drop] at this
theorem piece_ascii {c : UInt8} (h : c.toNat < 128) (l : List UInt8) : piece (c :: l) = ((c.toNat : Int), 1) := by
 have e : follow (c.toNat : Int) = (0, (c.toNat : Int), 128, 191) := by unfold follow; rw [if_pos (by omega)]
 rw [piece_cons, e];simp [cont_zero]
theorem piece_n (c : UInt8) (l : List UInt8) : 1 ≤ (piece (c :: l)).2.toNat ∧ (piece (c :: l)).2.toNat ≤ (c :: l).length := by
 have := piece_len c l;omega
theorem valid_step {c : UInt8} {l : List UInt8} (h : valid (c :: l) = true) : 0 ≤ (piece (c :: l)).1 ∧ valid ((c :: l).drop (piece (c :: l)).2.toNat) = true := by
 rw [valid_cons] at h
 split at h
 ·cases h
 exact ⟨by omega, h⟩
theorem app_step {c : UInt8} {l : List UInt8} (h : 0 ≤ (piece (c :: l)).1) (q : List UInt8) : (c :: l ++ q).drop (piece (c :: l ++ q)).2.toNat = (c :: l).drop (piece (c :: l)).2.toNat ++ q := by
 rw [piece_app h, List.drop_append_of_le_length (piece_n c l).2]
theorem from_app_n : ∀ (k : Nat) (p q : List UInt8) (at_ : Nat), p.length ≤ k → valid p = true → from_ at_ (p ++ q) = from_ at_ p ++ from_ (at_ + p.length) q := by
 intro k
 induction k with
 | zero => intro p q at_ hk _; cases p with
  | nil => simp [from_nil]
  | cons c l => simp at hk
 | succ k ih =>
  intro p q at_ hk hv
  cases p with
  | nil => simp [from_nil]
  | cons c l =>
   obtain ⟨h1, h2⟩ := valid_step hv;have hn := piece_n c l;rw [List.cons_append, from_cons, from_cons, ← List.cons_append, app_step h1, piece_app h1, ih _ q _ (by rw [List.length_drop]; omega) h2, List.cons_append, List.length_drop];generalize (piece (c :: l)).2.toNat = m at *
   rw [show at_ + m + ((c :: l).length - m) = at_ + (c :: l).length by omega]
theorem from_app {p : List UInt8} (h : valid p = true) (q : List UInt8) (at_ : Nat) : from_ at_ (p ++ q) = from_ at_ p ++ from_ (at_ + p.length) q := from_app_n _ p q at_ (Nat.le_refl _) h
theorem valid_app_n : ∀ (k : Nat) (p q : List UInt8), p.length ≤ k → valid p = true → valid (p ++ q) = valid q := by
 intro k
 induction k with
 | zero => intro p q hk _; cases p with
  | nil => rfl
  | cons c l => simp at hk
 | succ k ih =>
  intro p q hk hv
  cases p with
  | nil => rfl
  | cons c l =>
   obtain ⟨h1, h2⟩ := valid_step hv;have hn := piece_n c l;rw [List.cons_append, valid_cons, ← List.cons_append, piece_app h1, if_neg (by omega)];have := app_step h1 q;rw [piece_app h1] at this;rw [this, ih _ q (by rw [List.length_drop]; omega) h2]
theorem valid_app {p : List UInt8} (h : valid p = true) (q : List UInt8) : valid (p ++ q) = valid q := valid_app_n _ p q (Nat.le_refl _) h
theorem cont_high : ∀ (l : List UInt8) (k : Nat) (r n lo hi : Int), 128 ≤ lo → 0 ≤ (cont l k r n lo hi).1 → ∀ i, i < k → ∃ c, l[i]? = some c ∧ 128 ≤ c.toNat
 | l, 0, _, _, _, _, _, _, i, hi' => by omega
 | [], k + 1, _, _, _, _, _, h, _, _ => by simp [cont] at h
 | c :: l, k + 1, r, n, lo, hi, hlo, h, i, hi' => by
  simp only [cont] at h
  split at h
  ·simp at h
  rename_i hb
  cases i with
  | zero => exact ⟨c, rfl, by omega⟩
  | succ i =>
   obtain ⟨d, h1, h2⟩ := cont_high l k _ _ 128 191 (by omega) h i (by omega);exact ⟨d, by simpa using h1, h2⟩
theorem piece_high {l : List UInt8} (h : 0 ≤ (piece l).1) (i : Nat) (h1 : 0 < i) (h2 : i < (piece l).2.toNat) : ∃ c, l[i]? = some c ∧ 128 ≤ c.toNat := by
 cases l with
 | nil => simp [piece] at h
 | cons c l =>
  have hb := byte_lt c;have hc := follow_cases c.toNat (by omega) (by omega);rw [piece_cons] at h h2
  by_cases hn : (follow c.toNat).1 < 0
  ·rw [if_pos hn] at h; simp at h
  rw [if_neg hn] at h h2;have h3 := cont_neg l (follow c.toNat).1.toNat (follow c.toNat).2.1 1 (follow c.toNat).2.2.1 (follow c.toNat).2.2.2 (follow_nonneg c)
  rcases h3 with h3 | ⟨_, h3⟩
  ·omega
  rw [h3] at h2
  cases i with
  | zero => omega
  | succ i =>
   obtain ⟨d, e1, e2⟩ := cont_high l _ _ _ _ _ (by
    rcases hc with hc | hc | hc | hc | hc
    ·have e : follow (c.toNat : Int) = (0, (c.toNat : Int), 128, 191) := by unfold follow; rw [if_pos hc.2.2]
     rw [e];exact Int.le_refl 128
    all_goals omega) h i (by omega)
   exact ⟨d, by simpa using e1, e2⟩
theorem valid_split_n : ∀ (k : Nat) (p : List UInt8) (c : UInt8) (q : List UInt8), p.length ≤ k → c.toNat < 128 → valid (p ++ c :: q) = true → valid p = true := by
 intro k
 induction k with
 | zero => intro p c q hk _ _; cases p with
  | nil => rfl
  | cons d l => simp at hk
 | succ k ih =>
  intro p c q hk hc hv
  cases p with
  | nil => rfl
  | cons d l =>
   obtain ⟨h1, h2⟩ := valid_step (c := d) (l := l ++ c :: q) hv;have hn := piece_n d (l ++ c :: q)
   have hle : (piece (d :: (l ++ c :: q))).2.toNat ≤ (d :: l).length := by
    apply Nat.le_of_not_lt
    intro hlt;obtain ⟨e, e1, e2⟩ := piece_high h1 (d :: l).length (by simp) hlt;rw [← List.cons_append, List.getElem?_append_right (Nat.le_refl _), Nat.sub_self] at e1;simp only [List.getElem?_cons_zero, Option.some.injEq] at e1;subst e1;omega
   have h3 := piece_take h1 ((d :: l).drop (piece (d :: (l ++ c :: q))).2.toNat);rw [← List.cons_append, List.take_append_of_le_length (by rw [List.cons_append]; exact hle), List.cons_append, List.take_append_drop] at h3;rw [valid_cons, h3, if_neg (by omega)];rw [← List.cons_append, List.drop_append_of_le_length (by rw [List.cons_append]; exact hle), List.cons_append] at h2;exact ih _ c q (by rw [List.length_drop]; omega) hc h2
theorem valid_split {p : List UInt8} {c : UInt8} {q : List UInt8} (hc : c.toNat < 128) (hv : valid (p ++ c :: q) = true) : valid p = true := valid_split_n _ p c q (Nat.le_refl _) hc hv
theorem from_ascii {c : UInt8} (hc : c.toNat < 128) (q : List UInt8) (at_ : Nat) : from_ at_ (c :: q) = (at_, (c.toNat : Int)) :: from_ (at_ + 1) q := by
 rw [from_cons, piece_ascii hc];rfl
theorem stop_split {ok : Nat → Int → Bool} (hok : ∀ k r, r < 0 → ok k r = false) : ∀ (k : Nat) (l : List UInt8) (at_ : Nat), l.length ≤ k → ∃ n, ((((from_ at_ l).find? fun p => !ok p.1 p.2).map (·.1)).getD (at_ + l.length)) = at_ + n ∧ n ≤ l.length ∧
  valid (l.take n) = true ∧ (∀ p ∈ from_ at_ (l.take n), ok p.1 p.2 = true) ∧ (n < l.length → ok (at_ + n) (piece (l.drop n)).1 = false) := by
 intro k
 induction k with
 | zero => intro l at_ hk; cases l with
  | nil => exact ⟨0, rfl, Nat.le_refl _, rfl, (fun p hp => nomatch hp), (fun h => nomatch h)⟩
  | cons c l => simp at hk
 | succ k ih =>
  intro l at_ hk
  cases l with
  | nil => exact ⟨0, rfl, Nat.le_refl _, rfl, (fun p hp => nomatch hp), (fun h => nomatch h)⟩
  | cons c l =>
   have hn := piece_n c l;rw [from_cons, List.find?_cons];dsimp only
   cases ho : ok at_ (piece (c :: l)).1 with
   | false => exact ⟨0, rfl, by simp, rfl, (fun p hp => nomatch hp), (fun _ => by simpa using ho)⟩
   | true =>
    have h0 : 0 ≤ (piece (c :: l)).1 := Int.not_lt.1 fun h => by rw [hok _ _ h] at ho; cases ho
    obtain ⟨n, h1, h2, h3, h4, h5⟩ := ih ((c :: l).drop (piece (c :: l)).2.toNat) (at_ + (piece (c :: l)).2.toNat) (by rw [List.length_drop]; omega);generalize hm : (piece (c :: l)).2.toNat = m at *
    rw [List.length_drop] at h1 h2 h5;have e : at_ + m + ((c :: l).length - m) = at_ + (c :: l).length := by omega
    rw [e] at h1;have ht : (c :: l).take (m + n) = (c :: l).take m ++ ((c :: l).drop m).take n := List.take_add;have hp := piece_take h0 [];rw [hm, List.append_nil] at hp;obtain ⟨m', rfl⟩ : ∃ m', m = m' + 1 := ⟨m - 1, by omega⟩
    have hv1 : valid ((c :: l).take (m' + 1)) = true := by
     rw [List.take_succ_cons] at hp ⊢;rw [valid_cons, hp, if_neg (by omega), hm, List.drop_of_length_le (by simp; omega)];rfl
    refine ⟨m' + 1 + n, by simp only [Bool.not_true]; rw [h1]; omega, by omega, ?_, ?_, ?_⟩
    ·rw [ht, valid_app hv1, h3]
    ·rw [ht, from_app hv1];intro p hp'
     rcases List.mem_append.1 hp' with hp' | hp'
     ·rw [List.take_succ_cons] at hp hp';rw [from_cons, hp, hm, List.drop_of_length_le (by simp; omega), from_nil] at hp';simp only [List.mem_singleton] at hp';have e1 : p.1 = at_ := by rw [hp']
      have e2 : p.2 = (piece (c :: l)).1 := by rw [hp']
      rw [e1, e2];exact ho
     rw [List.length_take, Nat.min_eq_left hn.2] at hp';exact h4 p hp'
    intro hlt;have := h5 (by omega);rwa [List.drop_drop, Nat.add_assoc] at this
theorem from_shift_n : ∀ (k : Nat) (l : List UInt8) (at_ d : Nat), l.length ≤ k → from_ (at_ + d) l = (from_ at_ l).map fun p => (p.1 + d, p.2) := by
 intro k
 induction k with
 | zero => intro l at_ d hk; cases l with
  | nil => rfl
  | cons c l => simp at hk
 | succ k ih =>
  intro l at_ d hk
  cases l with
  | nil => rfl
  | cons c l =>
   have hn := piece_n c l;rw [from_cons, from_cons, List.map_cons, ← ih _ _ _ (by rw [List.length_drop]; omega), Nat.add_right_comm]
theorem from_shift (l : List UInt8) (at_ d : Nat) : from_ (at_ + d) l = (from_ at_ l).map fun p => (p.1 + d, p.2) := from_shift_n _ l at_ d (Nat.le_refl _)
end Utf
namespace Tk
def Name (p : L) : Prop := Utf.valid p = true ∧ ∀ q ∈ Utf.from_ 0 p, nameOk q.1 q.2 = true
theorem within_neg {r a b : Int} (h : r < 0) (ha : 0 ≤ a) : within r a b = false := by
 unfold within;rw [decide_eq_false (by omega)];rfl
theorem firstOk_neg' {r : Int} (h : r < 0) : firstOk r = false := by
 unfold firstOk;simp only [within_neg h (by decide : (0 : Int) ≤ 97), within_neg h (by decide : (0 : Int) ≤ 65), within_neg h (by decide : (0 : Int) ≤ 95), within_neg h (by decide : (0 : Int) ≤ 192), within_neg h (by decide : (0 : Int) ≤ 216), within_neg h (by decide : (0 : Int) ≤ 248), within_neg h (by decide : (0 : Int) ≤ 880), within_neg h (by decide : (0 : Int) ≤ 895), within_neg h (by decide : (0 : Int) ≤ 8204), within_neg h (by decide : (0 : Int) ≤ 8304), within_neg h (by decide : (0 : Int) ≤ 11264), within_neg h (by decide : (0 : Int) ≤ 12289), within_neg h (by decide : (0 : Int) ≤ 63744), within_neg h (by decide : (0 : Int) ≤ 65008), within_neg h (by decide : (0 : Int) ≤ 65536)];rfl
theorem nameOk_neg' (k : Nat) (r : Int) (h : r < 0) : nameOk k r = false := by
 unfold nameOk furtherOk;rw [firstOk_neg' h];simp only [within_neg h (by decide : (0 : Int) ≤ 45), within_neg h (by decide : (0 : Int) ≤ 48), within_neg h (by decide : (0 : Int) ≤ 183), within_neg h (by decide : (0 : Int) ≤ 768), within_neg h (by decide : (0 : Int) ≤ 8255), decide_eq_false (show ¬ r = 58 by omega)];simp
theorem charOk_neg' (r : Int) (h : r < 0) : charOk r = false := by
 unfold charOk;simp only [within_neg h (by decide : (0 : Int) ≤ 9), within_neg h (by decide : (0 : Int) ≤ 13), within_neg h (by decide : (0 : Int) ≤ 32), within_neg h (by decide : (0 : Int) ≤ 57344), within_neg h (by decide : (0 : Int) ≤ 65536)];rfl
theorem take_spec (l : L) : take l ≤ l.length ∧ Name (l.take (take l)) ∧ (take l < l.length → nameOk (take l) (Utf.piece (l.drop (take l))).1 = false) := by
 obtain ⟨n, h1, h2, h3, h4, h5⟩ := Utf.stop_split nameOk_neg' l.length l 0 (Nat.le_refl _)
 have e : take l = n := by
  unfold take stop;rw [Nat.zero_add, Nat.zero_add] at h1;exact h1
 rw [e];rw [Nat.zero_add] at h5;exact ⟨h2, ⟨h3, h4⟩, h5⟩
theorem take_of {p q : L} (h : Name p) (hq : q = [] ∨ nameOk p.length (Utf.piece q).1 = false) : take (p ++ q) = p.length := by
 unfold take stop;have e : Utf.pieces (p ++ q) = Utf.from_ 0 p ++ Utf.from_ (0 + p.length) q := Utf.from_app h.1 q 0;have hn : (Utf.from_ 0 p).find? (fun p => !nameOk p.1 p.2) = none := List.find?_eq_none.2 fun x hx => by rw [h.2 x hx]; simp
 rw [e, List.find?_append, hn, Option.none_or, Nat.zero_add]
 rcases hq with rfl | hq
 ·simp [Utf.from_nil]
 cases q with
 | nil => simp [Utf.from_nil]
 | cons c q =>
  rw [Utf.from_cons, List.find?_cons];dsimp only;rw [hq];rfl
theorem pfx_app {p a r : L} (h : p.length ≤ a.length) : p.isPrefixOf (a ++ r) = p.isPrefixOf a := by
 rw [Bool.eq_iff_iff, List.isPrefixOf_iff_prefix, List.isPrefixOf_iff_prefix];exact ⟨fun hp => List.prefix_of_prefix_length_le hp (List.prefix_append _ _) h, fun hp => hp.trans (List.prefix_append _ _)⟩
theorem index_first' {s p : L} {n : Nat} (h : Lib.index s p = n) : Lib.occAt s p n = true ∧ n ≤ s.length ∧ ∀ j, j < n → Lib.occAt s p j = false := by
 induction s generalizing n with
 | nil =>
  unfold Lib.index at h
  split at h
  ·rename_i he
   have : n = 0 := by omega
   subst this;refine ⟨?_, Nat.le_refl _, fun j hj => by omega⟩
   cases p with
   | nil => rfl
   | cons a t => cases he
  omega
 | cons b l ih =>
  unfold Lib.index at h
  split at h
  ·rename_i he
   have : n = 0 := by omega
   subst this;exact ⟨by simpa [Lib.occAt] using he, by simp, fun j hj => by omega⟩
  rename_i he
  split at h
  ·omega
  rename_i he2
  have he2 : Lib.index l p ≠ -1 := by simpa using he2
  have hg := Lib.index_ge l p;obtain ⟨n', rfl⟩ : ∃ n', n = n' + 1 := ⟨n - 1, by omega⟩;obtain ⟨h1, h2, h3⟩ := ih (n := n') (by omega);refine ⟨by simpa [Lib.occAt] using h1, by simpa using h2, fun j hj => ?_⟩
  cases j with
  | zero => exact Bool.eq_false_iff.2 he
  | succ j => simpa [Lib.occAt] using h3 j (by omega)
theorem till_iff {p l : L} {n : Nat} : till p l = some n ↔ Lib.index l p = n := by
 unfold till
 constructor
 ·intro h
  split at h
  ·cases h
  rename_i hn
  have := Option.some.inj h;omega
 intro h;rw [if_neg (by omega), h];simp
theorem occ_app {p a r : L} {i : Nat} (h : i + p.length ≤ a.length) : Lib.occAt (a ++ r) p i = Lib.occAt a p i := by
 unfold Lib.occAt;rw [List.drop_append_of_le_length (by omega), pfx_app (by rw [List.length_drop]; omega)]
theorem till_app {p a r r' : L} {n : Nat} (h : till p (a ++ r) = some n) (hn : n + p.length ≤ a.length) : till p (a ++ r') = some n := by
 rw [till_iff] at h ⊢;obtain ⟨h1, h2, h3⟩ := index_first' h;refine Lib.index_first (by rw [List.length_append]; omega) ?_ fun j hj => ?_
 ·rw [occ_app hn] at h1 ⊢; exact h1
 have := h3 j hj;rw [occ_app (by omega)] at this ⊢;exact this
theorem till_len {p l : L} {n : Nat} (h : till p l = some n) : n + p.length ≤ l.length := by
 rw [till_iff] at h;obtain ⟨h1, h2, h3⟩ := index_first' h
 rcases Lib.occAt_room h1 with h4 | rfl
 ·exact h4
 simpa using h2
end Tk
end
section
open Go.RowKit Tk

end
section
open Go.RowKit Tk Sx

theorem drop_cons0 {D : L} {k : Nat} {c : UInt8} (h : D[k]? = some c) : D.drop k = c :: D.drop (k + 1) := by
 obtain ⟨h1, h2⟩ := List.getElem?_eq_some_iff.1 h;rw [← h2, ← List.drop_eq_getElem_cons]
theorem bytes_of (s : ByteArray) (w : World) : ∃ W g cap, (Go.convert 9 122 (.string s)).run Tryz.prog w = .ok (.slice (some ⟨g, 0, none⟩) s.size cap) W ∧ Below w.heap.size w W ∧ g < W.heap.size ∧
  ∀ (k : Nat) (c : UInt8), s.data.toList[k]? = some c → W.cell? ⟨g, k, none⟩ = some (.int .u8 (c.toNat : Nat)) := by
 refine ⟨_, _, _, run_bytes_of_string (P := Tryz.prog) w 9 122 5 s Tryz.underlying9 Tryz.underlying122 Tryz.underlying5, ?_, ?_, ?_⟩
 ·exact (Below.refl _ w).drew.alloc (by simp) _
 ·simp
 intro k c hc;obtain ⟨h1, h2⟩ := List.getElem?_eq_some_iff.1 hc;have hk : k < s.data.size := by simpa using h1
 have := bytesRow_at s (grownCap w s.size 0 5) k hk;have e : w.heap.size = w.drew.heap.size := rfl;rw [e, World.cell?_alloc_mark, this];have h3 : s.data[k] = c := by simpa using h2
 rw [h3]

theorem land15 (c : UInt8) : bits BinOp.and IntKind.u8 (c.toNat : Int) 15 = ((c.toNat % 16 : Nat) : Int) := by
 have h : ∀ n : Fin 256, bits BinOp.and IntKind.u8 (n.val : Int) 15 = ((n.val % 16 : Nat) : Int) := by decide +kernel
 exact h ⟨c.toNat, c.toNat_lt⟩

set_option maxHeartbeats 4000000 in
theorem worth_any (c : UInt8) (w : World) : Calls Tryz.prog 122 #[.int .u8 (c.toNat : Nat)] w fun e w' => e = .returned (.int .i64 ((worth c : Nat) : Int)) ∧ w' = w := by
 have hb := land15 c;have hlt := c.toNat_lt;have hm : c.toNat % 16 < 16 := Nat.mod_lt _ (by omega);obtain ⟨z, hz⟩ : ∃ z : Nat, c.toNat % 16 = z := ⟨_, rfl⟩;rw [hz] at hb hm;have hw : IntKind.i64.wrap (z : Int) = (z : Int) := IntWalk.i64_in _ (by omega);have hw9 : IntKind.i64.wrap ((z : Int) + 9) = (z : Int) + 9 := IntWalk.i64_in _ (by omega);obtain ⟨q, hq⟩ : ∃ q : Nat, c.toNat = q := ⟨_, rfl⟩;have Hq : worth c = if 48 ≤ q ∧ q ≤ 57 then q - 48 else if 97 ≤ q ∧ q ≤ 102 then q - 87 else if 65 ≤ q ∧ q ≤ 70 then q - 55 else 16 := by rw [← hq]; rfl
 rw [Hq];rw [hq] at hb hlt hz;rw [hq];clear hq Hq;obtain ⟨R, hR⟩ : ∃ R : Nat, (if 48 ≤ q ∧ q ≤ 57 then q - 48 else if 97 ≤ q ∧ q ≤ 102 then q - 87 else if 65 ≤ q ∧ q ≤ 70 then q - 55 else 16) = R := ⟨_, rfl⟩;rw [hR]
 by_cases a1 : 48 ≤ q
 ·by_cases a2 : q ≤ 57
  ·have Hr := hide (show (z : Int) = (R : Int) by rw [← hR, if_pos ⟨a1, a2⟩]; omega);have g1 : (48 : Int) ≤ (q : Int) := by omega
   have g2 : (q : Int) ≤ 57 := by omega
   clear hR hz hlt a1 a2
   go_enter Tryz.func122, Tryz.ntmps122
   go_wp2
   go_ret
   exact ⟨ret_eq1 (int_eq (Hr.out)), rfl⟩
  by_cases b1 : 97 ≤ q
  ·by_cases b2 : q ≤ 102
   ·have Hr := hide (show (z : Int) + 9 = (R : Int) by rw [← hR, if_neg (by omega), if_pos ⟨b1, b2⟩]; omega);have g1 : (48 : Int) ≤ (q : Int) := by omega
    have g2 : ¬ (q : Int) ≤ 57 := by omega
    have g3 : (97 : Int) ≤ (q : Int) := by omega
    have g4 : (q : Int) ≤ 102 := by omega
    clear hR hz hlt a1 a2 b1 b2
    go_enter Tryz.func122, Tryz.ntmps122
    go_wp2
    go_ret
    exact ⟨ret_eq1 (int_eq (Hr.out)), rfl⟩
   have Hr := hide (show (16 : Int) = (R : Int) by rw [← hR, if_neg (by omega), if_neg (by omega), if_neg (by omega)]; rfl);have g1 : (48 : Int) ≤ (q : Int) := by omega
   have g2 : ¬ (q : Int) ≤ 57 := by omega
   have g3 : (97 : Int) ≤ (q : Int) := by omega
   have g4 : ¬ (q : Int) ≤ 102 := by omega
   have g5 : (65 : Int) ≤ (q : Int) := by omega
   have g6 : ¬ (q : Int) ≤ 70 := by omega
   clear hR hz hlt a1 a2 b1 b2
   go_enter Tryz.func122, Tryz.ntmps122
   go_wp2
   go_ret
   exact ⟨ret_eq1 (int_eq (Hr.out)), rfl⟩
  by_cases d1 : 65 ≤ q
  ·by_cases d2 : q ≤ 70
   ·have Hr := hide (show (z : Int) + 9 = (R : Int) by rw [← hR, if_neg (by omega), if_neg (by omega), if_pos ⟨d1, d2⟩]; omega);have g1 : (48 : Int) ≤ (q : Int) := by omega
    have g2 : ¬ (q : Int) ≤ 57 := by omega
    have g3 : ¬ (97 : Int) ≤ (q : Int) := by omega
    have g5 : (65 : Int) ≤ (q : Int) := by omega
    have g6 : (q : Int) ≤ 70 := by omega
    clear hR hz hlt a1 a2 b1 d1 d2
    go_enter Tryz.func122, Tryz.ntmps122
    go_wp2
    go_ret
    exact ⟨ret_eq1 (int_eq (Hr.out)), rfl⟩
   have Hr := hide (show (16 : Int) = (R : Int) by rw [← hR, if_neg (by omega), if_neg (by omega), if_neg (by omega)]; rfl);have g1 : (48 : Int) ≤ (q : Int) := by omega
   have g2 : ¬ (q : Int) ≤ 57 := by omega
   have g3 : ¬ (97 : Int) ≤ (q : Int) := by omega
   have g5 : (65 : Int) ≤ (q : Int) := by omega
   have g6 : ¬ (q : Int) ≤ 70 := by omega
   clear hR hz hlt a1 a2 b1 d1 d2
   go_enter Tryz.func122, Tryz.ntmps122
   go_wp2
   go_ret
   exact ⟨ret_eq1 (int_eq (Hr.out)), rfl⟩
  have Hr := hide (show (16 : Int) = (R : Int) by rw [← hR, if_neg (by omega), if_neg (by omega), if_neg (by omega)]; rfl);have g1 : (48 : Int) ≤ (q : Int) := by omega
  have g2 : ¬ (q : Int) ≤ 57 := by omega
  have g3 : ¬ (97 : Int) ≤ (q : Int) := by omega
  have g5 : ¬ (65 : Int) ≤ (q : Int) := by omega
  clear hR hz hlt a1 a2 b1 d1
  go_enter Tryz.func122, Tryz.ntmps122
  go_wp2
  go_ret
  exact ⟨ret_eq1 (int_eq (Hr.out)), rfl⟩
 have Hr := hide (show (16 : Int) = (R : Int) by rw [← hR, if_neg (by omega), if_neg (by omega), if_neg (by omega)]; rfl);have g1 : ¬ (48 : Int) ≤ (q : Int) := by omega
 have g3 : ¬ (97 : Int) ≤ (q : Int) := by omega
 have g5 : ¬ (65 : Int) ≤ (q : Int) := by omega
 clear hR hz hlt a1
 go_enter Tryz.func122, Tryz.ntmps122
 go_wp2
 go_ret
 exact ⟨ret_eq1 (int_eq (Hr.out)), rfl⟩

def endsI (l : L) (k : Nat) : Int := match Sx.ends (l.drop k) with
 | some n => ((k + n : Nat) : Int)
 | none => -1
theorem endsI_hit {l : L} {k : Nat} {c : UInt8} (hc : l[k]? = some c) (h : c = 59) : endsI l k = k := by
 unfold endsI; rw [drop_cons0 hc]; unfold Sx.ends; rw [if_pos h]; rfl
theorem endsI_stop {l : L} {k : Nat} {c : UInt8} (hc : l[k]? = some c) (h0 : c ≠ 59) (h : c = 38 ∨ c = 60) : endsI l k = -1 := by
 unfold endsI; rw [drop_cons0 hc]; unfold Sx.ends; rw [if_neg h0, if_pos h]
theorem endsI_next {l : L} {k : Nat} {c : UInt8} (hc : l[k]? = some c) (h0 : c ≠ 59) (h1 : c ≠ 38) (h2 : c ≠ 60) : endsI l k = endsI l (k + 1) := by
 unfold endsI; rw [drop_cons0 hc]
 conv => lhs; unfold Sx.ends
 rw [if_neg h0, if_neg (by simp [h1, h2])]
 cases Sx.ends (l.drop (k + 1)) with
 | none => rfl
 | some n => simp only [Option.map_some]; congr 1; omega
theorem endsI_none {l : L} {k : Nat} (h : l.length ≤ k) : endsI l k = -1 := by
 unfold endsI; rw [List.drop_of_length_le h]; rfl

set_option maxHeartbeats 4000000 in
theorem ends_any (s : ByteArray) (w : World) (hs : s.size ≤ 1000000000) :
  Calls Tryz.prog 97 #[.string s] w fun e w' => e = .returned (.int .i64 (endsI s.data.toList 0)) ∧ Below w.heap.size w w' := by
 obtain ⟨W, g, cap, hconv, hb, hg, hat⟩ := bytes_of s w;obtain ⟨D, hD⟩ : ∃ D, s.data.toList = D := ⟨_, rfl⟩;have HDl := hide (show D.length = s.size by rw [← hD, size_list]);rw [hD] at hat ⊢;obtain ⟨z, hz⟩ : ∃ z, endsI D 0 = z := ⟨_, rfl⟩;have Hz := hide hz;rw [hz];have Hat := hide hat;have HB := hide hb;clear hD hz hat hb
 go_enter Tryz.func97, Tryz.ntmps97
 go_wp2;clear hconv
 go_loopg [8] s.size (fun gk v wr => ∃ k : Nat, gk = s.size - k ∧ k ≤ s.size ∧ v = .int .i64 (k : Int) ∧ endsI D k = z ∧ wr = W)
 case atStart => exact ⟨0, rfl, by omega, rfl, Hz.out, rfl⟩
 case round =>
  obtain ⟨k, hgk, hk, rfl, hzk, rfl⟩ := hrel;have Hg := hide hgk;have Hzk := hide hzk;clear hgk hzk Hz
  by_cases hlt : k < s.size
  ·obtain ⟨c, hc⟩ : ∃ c, D[k]? = some c := ⟨_, List.getElem?_eq_getElem (by rw [HDl.out]; exact hlt)⟩;have hcell := Hat.out k c hc;have hk0 : (0 : Int) ≤ (k : Int) := by omega
   have key : ∀ d : UInt8, ((c.toNat : Int) == (d.toNat : Int)) = (c == d) := fun d => by
    rw [Bool.eq_iff_iff, beq_iff_eq, beq_iff_eq];exact ⟨fun h => UInt8.toNat_inj.1 (by omega), fun h => by rw [h]⟩
   have e1 : ((c.toNat : Int) == 59) = (c == 59) := key 59;have e2 : ((c.toNat : Int) == 38) = (c == 38) := key 38;have e3 : ((c.toNat : Int) == 60) = (c == 60) := key 60;clear key
   by_cases h1 : c = 59
   ·have Hr := hide (show (k : Int) = z by rw [← Hzk.out, endsI_hit hc h1]);have q1 : (c == 59) = true := by rw [beq_iff_eq]; exact h1
    clear h1 hc Hzk e2 e3;go_wp2;go_ret;exact ⟨ret_eq1 (int_eq Hr.out), HB.out⟩
   have q1 : (c == 59) = false := by rw [beq_eq_false_iff_ne]; exact h1
   by_cases h2 : c = 38
   ·have Hr := hide (show (-1 : Int) = z by rw [← Hzk.out, endsI_stop hc h1 (.inl h2)]);have q2 : (c == 38) = true := by rw [beq_iff_eq]; exact h2
    clear h1 h2 hc Hzk e3;go_wp2;go_ret;exact ⟨ret_eq1 (int_eq Hr.out), HB.out⟩
   have q2 : (c == 38) = false := by rw [beq_eq_false_iff_ne]; exact h2
   by_cases h3 : c = 60
   ·have Hr := hide (show (-1 : Int) = z by rw [← Hzk.out, endsI_stop hc h1 (.inr h3)]);have q3 : (c == 60) = true := by rw [beq_iff_eq]; exact h3
    clear h1 h2 h3 hc Hzk;go_wp2;go_ret;exact ⟨ret_eq1 (int_eq Hr.out), HB.out⟩
   have q3 : (c == 60) = false := by rw [beq_eq_false_iff_ne]; exact h3
   have Hn := hide (show endsI D (k + 1) = z by rw [← Hzk.out, endsI_next hc h1 h2 h3]);clear h1 h2 h3 hc Hzk;go_wp2
   go_roundg (s.size - (k + 1))
   case measure => have := Hg.out; omega
   case rel => exact ⟨k + 1, rfl, by omega, by go_num, Hn.out, rfl⟩
  have Hr := hide (show (-1 : Int) = z by rw [← Hzk.out, endsI_none (by rw [HDl.out]; omega)]);clear Hzk;go_wp2;go_ret;exact ⟨ret_eq1 (int_eq Hr.out), HB.out⟩
end
section
open Go.RowKit Tk

theorem pfx_one {c : UInt8} {l : L} (h : [c].isPrefixOf l = true) : ∃ r, l = c :: r := by
 cases l with
 | nil => simp at h
 | cons d r =>
  have : c = d := by simpa using h
  exact ⟨r, by rw [this]⟩
theorem pfx_one_no {c : UInt8} {l : L} (h : [c].isPrefixOf l = false) : ∀ r, l ≠ c :: r := by
 intro r e;rw [e] at h;simp at h
theorem drop_add (s : ByteArray) (a b : Nat) : s.data.toList.drop (a + b) = (s.data.toList.drop a).drop b := by rw [List.drop_drop]
theorem pfx_len {p l : L} (h : p.isPrefixOf l = true) : p.length ≤ l.length := List.IsPrefix.length_le (List.isPrefixOf_iff_prefix.1 h)

def ValR (w : World) (X : Nat) (s : ByteArray) (k : Nat) (o : Option (L × Nat)) (e : Ending) (w' : World) : Prop :=
 But X w w' ∧ match o with
  | none => e = .returned (.tuple #[.string ⟨#[]⟩, .bool false]) ∧ ∃ k', k ≤ k' ∧ k' ≤ s.size ∧ Sc w' X s k'
  | some x => e = .returned (.tuple #[.string (bstr x.1), .bool true]) ∧ k + x.2 ≤ s.size ∧ Sc w' X s (k + x.2)
theorem eqv_no {d : L} (h : [61].isPrefixOf (d.drop (nsp d)) = false) : eqv d = none := by
 unfold eqv;split
 ·rfl
 rename_i c r e
 rw [if_neg];intro hc;subst hc;exact pfx_one_no h r e
theorem eqv_yes {d r : L} (h : d.drop (nsp d) = 61 :: r) : eqv d = (Tk.quoted (r.drop (nsp r))).map fun x => (x.1, nsp d + 1 + nsp r + x.2) := by
 unfold eqv;rw [h];simp

theorem quoted_yes {q : UInt8} {r : L} (h : q = 34 ∨ q = 39) : Tk.quoted (q :: r) = (till [q] r).map fun k => (r.take k, k + 2) := by
 show (if q = 34 ∨ q = 39 then _ else none) = _;rw [if_pos h]
theorem quoted_no {t : L} (h1 : [34].isPrefixOf t = false) (h2 : [39].isPrefixOf t = false) : Tk.quoted t = none := by
 cases t with
 | nil => rfl
 | cons q r =>
  show (if q = 34 ∨ q = 39 then _ else none) = _;rw [if_neg];rintro (rfl | rfl)
  ·exact pfx_one_no h1 r rfl
  exact pfx_one_no h2 r rfl
theorem qi0 (w : World) : (Instr.index 118 (.agg #[.string ⟨#[34]⟩, .string ⟨#[39]⟩]) (.int .i64 0)).run Tryz.prog w = .ok (.string ⟨#[34]⟩) w := by kernel_rfl
theorem qi1 (w : World) : (Instr.index 118 (.agg #[.string ⟨#[34]⟩, .string ⟨#[39]⟩]) (.int .i64 1)).run Tryz.prog w = .ok (.string ⟨#[39]⟩) w := by kernel_rfl
theorem size1 (q : UInt8) : (⟨#[q]⟩ : ByteArray).size ≤ 1000 := by
 have : (⟨#[q]⟩ : ByteArray).size = 1 := rfl;omega
theorem quote_any (X : Nat) (s : ByteArray) (m : Nat) (q : UInt8) (r : L) (hX6 : 6 ≤ X) (hs : s.size ≤ 1000000000) (hm : m + 1 ≤ s.size) (hr : s.data.toList.drop (m + 1) = r) (hq : q = 34 ∨ q = 39) (w W : World) (hW : Sc W X s (m + 1)) (hb : But X w W) (hg : Gl w) :
  Calls Tryz.prog 89 #[.pointer (some ⟨X, 0, none⟩), .string ⟨#[q]⟩] W (ValR w X s m (Tk.quoted (q :: r))) := by
 rw [quoted_yes hq]
 cases h : till [q] r with
 | none =>
  refine (till_no W X s ⟨#[q]⟩ (m + 1) (by rw [hr]; exact h) hW hX6 (hg.but hb hX6) hm hs (size1 q)).mono ?_;rintro e w' ⟨rfl, h1, h2⟩;exact ⟨hb.trans h2, rfl, m + 1, by omega, hm, h1⟩
 | some n =>
  have hn := (till_some h).2;have hl : r.length = s.size - (m + 1) := by rw [← hr, List.length_drop, size_list]
  simp at hn;refine (till_yes W X s ⟨#[q]⟩ (m + 1) n (by rw [hr]; exact h) hW hX6 (hg.but hb hX6) hm hs (size1 q)).mono ?_;rintro e w' ⟨rfl, h1, h2⟩;refine ⟨hb.trans h2, ?_, by dsimp only; omega, ?_⟩
  ·rw [extract_bstr, hr, show m + 1 + n - (m + 1) = n by omega]
  have e : (⟨#[q]⟩ : ByteArray).size = 1 := rfl;rw [e, show m + 1 + n + 1 = m + (n + 2) by omega] at h1;exact h1
theorem ValR.more {w : World} {X : Nat} {s : ByteArray} {k m c : Nat} {o : Option (L × Nat)} {e : Ending} {w' : World} (h : ValR w X s m o e w') (hm : k + c = m) : ValR w X s k (o.map fun x => (x.1, c + x.2)) e w' := by
 cases o with
 | none =>
  obtain ⟨h1, h2, k', h3, h4, h5⟩ := h;exact ⟨h1, h2, k', by omega, h4, h5⟩
 | some x =>
  obtain ⟨h1, h2, h3, h4⟩ := h;refine ⟨h1, h2, by dsimp only; omega, ?_⟩;rw [show k + (c + x.2) = m + x.2 by omega];exact h4

set_option maxHeartbeats 8000000 in
set_option maxRecDepth 20000 in
theorem value_any (w : World) (X : Nat) (s : ByteArray) (k : Nat) (hX : Sc w X s k) (hX6 : 6 ≤ X) (hg : Gl w) (ha : k ≤ s.size) (hs : s.size ≤ 1000000000) :
  Calls Tryz.prog 87 #[.pointer (some ⟨X, 0, none⟩)] w (ValR w X s k (eqv (s.data.toList.drop k))) := by
 obtain ⟨d, hd⟩ : ∃ d, s.data.toList.drop k = d := ⟨_, rfl⟩;have hdl : d.length = s.size - k := by rw [← hd, List.length_drop, size_list]
 obtain ⟨a, hak⟩ : ∃ a, nsp d = a := ⟨_, rfl⟩;have hal : a ≤ s.size - k := by have := nsp_le d; omega
 have HB1 := hide (blanks_any w X s k hX ha hs);have hd1 : s.data.toList.drop (k + a) = d.drop a := by rw [drop_add, hd]
 have HI := hide fun W (hW : Sc W X s (k + a)) => isp_any W X s ⟨#[61]⟩ (k + a) hW (by omega) hs (by decide);rw [hd, hak] at HB1;rw [hd1] at HI;rw [hd]
 cases hp : [61].isPrefixOf (d.drop a) with
 | false =>
  rw [eqv_no (by rw [hak]; exact hp)]
  replace HI := hide fun W hW => (show Calls Tryz.prog 86 #[.pointer (some ⟨X, 0, none⟩), .string ⟨#[61]⟩] W fun e w' => e = .returned (.bool false) ∧ Sc w' X s (k + a) ∧ But X W w' from by
   have := HI.out W hW;rw [show ((⟨#[61]⟩ : ByteArray).data.toList.isPrefixOf (d.drop a)) = false from hp] at this
   simpa using this)
  have HL := hide (show k + a ≤ s.size by omega);clear hp hd hdl hd1 hak hal;unfold ValR
  go_enter Tryz.func87, Tryz.ntmps87
  go_wp2_with fail
  refine HB1.out.mono ?_;rintro e w1 ⟨rfl, h1, b1⟩;have B1 := hide b1;have S1 := hide h1;clear b1 h1
  go_wp2_with fail
  refine (HI.out _ S1.out).mono ?_;rintro e w2 ⟨rfl, h2, b2⟩;have B2 := hide (B1.out.trans b2);have S2 := hide h2;clear b2 h2;go_wp2;go_ret2;exact ⟨B2.out, rfl, k + a, by omega, HL.out, S2.out⟩
 | true =>
  obtain ⟨r, hr⟩ := pfx_one hp;rw [eqv_yes (by rw [hak]; exact hr), hak]
  replace HI := hide fun W hW => (show Calls Tryz.prog 86 #[.pointer (some ⟨X, 0, none⟩), .string ⟨#[61]⟩] W fun e w' => e = .returned (.bool true) ∧ Sc w' X s (k + a + 1) ∧ But X W w' from by
   have := HI.out W hW;rw [show ((⟨#[61]⟩ : ByteArray).data.toList.isPrefixOf (d.drop a)) = true from hp] at this
   simpa [ByteArray.size] using this)
  have hlr : a + 1 + r.length = d.length := by
   have := congrArg List.length hr;rw [List.length_drop, List.length_cons] at this;omega
  have hd2 : s.data.toList.drop (k + a + 1) = r := by rw [drop_add, hd1, hr]; rfl
  obtain ⟨b, hbk⟩ : ∃ b, nsp r = b := ⟨_, rfl⟩;have hbl : b ≤ r.length := by have := nsp_le r; omega
  have HB2 := hide fun W (hW : Sc W X s (k + a + 1)) => blanks_any W X s (k + a + 1) hW (by omega) hs;rw [hd2, hbk] at HB2;rw [hbk];obtain ⟨m, hm⟩ : ∃ m, k + a + 1 + b = m := ⟨_, rfl⟩;rw [hm] at HB2;have hdm : s.data.toList.drop m = r.drop b := by rw [← hm, drop_add, hd2]
  obtain ⟨t, ht⟩ : ∃ t, r.drop b = t := ⟨_, rfl⟩;rw [ht] at hdm ⊢;have hmt : m + t.length = s.size := by rw [← ht, List.length_drop]; omega
  have HQ := hide fun (q : UInt8) W (hW : Sc W X s m) => (show Calls Tryz.prog 86 #[.pointer (some ⟨X, 0, none⟩), .string ⟨#[q]⟩] W fun e w' => e = .returned (.bool ([q].isPrefixOf t)) ∧ Sc w' X s (if [q].isPrefixOf t = true then m + 1 else m) ∧ But X W w' from by
   have := isp_any W X s ⟨#[q]⟩ m hW (by omega) hs (size1 q);rw [hdm] at this;exact this)
  have HT := hide fun (q : UInt8) (hq : q = 34 ∨ q = 39) (h : [q].isPrefixOf t = true) W (hW : Sc W X s (m + 1)) (hb : But X w W) => (show Calls Tryz.prog 89 #[.pointer (some ⟨X, 0, none⟩), .string ⟨#[q]⟩] W (ValR w X s m (Tk.quoted t)) from by
   obtain ⟨r2, hr2⟩ := pfx_one h;rw [hr2] at hmt ⊢;rw [List.length_cons] at hmt;exact quote_any X s m q r2 hX6 hs (by omega) (by rw [drop_add, hdm, hr2]; rfl) hq w W hW hb hg)
  have HN := hide fun (h1 : [34].isPrefixOf t = false) (h2 : [39].isPrefixOf t = false) => (show Tk.quoted t = none from quoted_no h1 h2);have HM := hide fun (e : Ending) (w' : World) (h : ValR w X s m (Tk.quoted t) e w') => (show ValR w X s k ((Tk.quoted t).map fun x => (x.1, a + 1 + b + x.2)) e w' from h.more (by omega));have HL := hide (show m ≤ s.size by omega);generalize Tk.quoted t = o at *
  obtain ⟨o', ho'⟩ : ∃ o', (o.map fun x : L × Nat => (x.1, a + 1 + b + x.2)) = o' := ⟨_, rfl⟩;rw [ho'] at HM ⊢;clear hp hd hdl hd1 hak hal hr hlr hd2 hbk hbl hm hdm ht hmt ho'
  go_enter Tryz.func87, Tryz.ntmps87
  go_wp2_with fail
  refine HB1.out.mono ?_;rintro e w1 ⟨rfl, h1, b1⟩;have B1 := hide b1;have S1 := hide h1;clear b1 h1
  go_wp2_with fail
  refine (HI.out _ S1.out).mono ?_;rintro e w2 ⟨rfl, h2, b2⟩;have B2 := hide (B1.out.trans b2);have S2 := hide h2;clear b2 h2 B1 S1
  go_wp2_with fail
  refine (HB2.out _ S2.out).mono ?_;rintro e w3 ⟨rfl, h3, b3⟩;have B3 := hide (B2.out.trans b3);have S3 := hide h3;clear b3 h3 B2 S2;go_wp2
  go_loopg [14] 2 (fun g v wr => ∃ j : Nat, g = 2 - j ∧ j ≤ 2 ∧ v = .int .i64 (j : Int) ∧ (1 ≤ j → [34].isPrefixOf t = false) ∧ (2 ≤ j → [39].isPrefixOf t = false) ∧ Sc wr X s m ∧ But X w wr)
  case atStart => exact ⟨0, rfl, by omega, rfl, fun h => absurd h (by omega), fun h => absurd h (by omega), S3.out, B3.out⟩
  case round =>
   obtain ⟨j, hg, hj, rfl, h1, h2, hS, hB⟩ := hrel;have Hg := hide hg;have H1 := hide h1;have H2 := hide h2;have HS := hide hS;have HB := hide hB;clear hg h1 h2 hS hB;have qx0 := qi0 wr;have qx1 := qi1 wr
   rcases (show j = 0 ∨ j = 1 ∨ j = 2 by omega) with rfl | rfl | rfl
   ·cases hc : [(34 : UInt8)].isPrefixOf t with
    | true =>
     have HQ1 := hide (HQ.out 34 _ HS.out);rw [hc, if_pos rfl] at HQ1;have HT1 := hide (HT.out 34 (.inl rfl) hc);clear hc HQ HT
     go_wp2_with fail
     refine HQ1.out.mono ?_;rintro e w4 ⟨rfl, h4, b4⟩;have B4 := hide (HB.out.trans b4);have S4 := hide h4;clear b4 h4
     go_wp2_with fail
     refine (HT1.out _ S4.out B4.out).mono ?_;rintro e w5 hv
     cases o with
     | none =>
      obtain ⟨g1, rfl, g2⟩ := hv;have G := hide (HM.out _ _ ⟨g1, rfl, g2⟩);clear g1 g2 HM HT1 HQ1;go_wp2;go_ret2;exact G.out
     | some x =>
      obtain ⟨g1, rfl, g2⟩ := hv;have G := hide (HM.out _ _ ⟨g1, rfl, g2⟩);clear g1 g2 HM HT1 HQ1;go_wp2;go_ret2;exact G.out
    | false =>
     have HQ1 := hide (HQ.out 34 _ HS.out);rw [hc, if_neg (by simp)] at HQ1;have Hc := hide hc;clear hc HQ HT
     go_wp2_with fail
     refine HQ1.out.mono ?_;rintro e w4 ⟨rfl, h4, b4⟩;have B4 := hide (HB.out.trans b4);have S4 := hide h4;clear b4 h4 HQ1;go_wp2
     go_roundg 1
     case measure => have := Hg.out; omega
     case rel => exact ⟨1, rfl, by omega, rfl, fun _ => Hc.out, fun h => absurd h (by omega), S4.out, B4.out⟩
   ·cases hc : [(39 : UInt8)].isPrefixOf t with
    | true =>
     have HQ1 := hide (HQ.out 39 _ HS.out);rw [hc, if_pos rfl] at HQ1;have HT1 := hide (HT.out 39 (.inr rfl) hc);clear hc HQ HT
     go_wp2_with fail
     refine HQ1.out.mono ?_;rintro e w4 ⟨rfl, h4, b4⟩;have B4 := hide (HB.out.trans b4);have S4 := hide h4;clear b4 h4
     go_wp2_with fail
     refine (HT1.out _ S4.out B4.out).mono ?_;rintro e w5 hv
     cases o with
     | none =>
      obtain ⟨g1, rfl, g2⟩ := hv;have G := hide (HM.out _ _ ⟨g1, rfl, g2⟩);clear g1 g2 HM HT1 HQ1;go_wp2;go_ret2;exact G.out
     | some x =>
      obtain ⟨g1, rfl, g2⟩ := hv;have G := hide (HM.out _ _ ⟨g1, rfl, g2⟩);clear g1 g2 HM HT1 HQ1;go_wp2;go_ret2;exact G.out
    | false =>
     have HQ1 := hide (HQ.out 39 _ HS.out);rw [hc, if_neg (by simp)] at HQ1;have Hc := hide hc;clear hc HQ HT
     go_wp2_with fail
     refine HQ1.out.mono ?_;rintro e w4 ⟨rfl, h4, b4⟩;have B4 := hide (HB.out.trans b4);have S4 := hide h4;clear b4 h4 HQ1;go_wp2
     go_roundg 0
     case measure => have := Hg.out; omega
     case rel => exact ⟨2, rfl, by omega, rfl, fun _ => H1.out (by omega), fun _ => Hc.out, S4.out, B4.out⟩
   have ho := HN.out (H1.out (by omega)) (H2.out (by omega));subst ho;have G := hide (HM.out (.returned (.tuple #[.string ⟨#[]⟩, .bool false])) wr ⟨HB.out, rfl, m, by omega, HL.out, HS.out⟩);clear HM HQ HT HN;go_wp2;go_ret2;exact G.out
end
end Go.Proofs.YtaickkaoglohgaaGreatDoor
