/- Bozo in plain data: a loose text, piece by piece. · References: Loose: its closure; what a round turns. · References: the program's Loose: of a text without ampersands. -/
import Derived.Test.YtaickkaoglohgaaBv09
import Derived.Test.YtaickkaoglohgaaBv10
import Derived.Test.YtaickkaoglohgaaBv11
import Derived.Test.YtaickkaoglohgaaBv22
import Derived.Test.YtaickkaoglohgaaBv25
import Derived.Laws.AppendOwnNone
set_option linter.unusedSimpArgs false
set_option linter.unusedVariables false
namespace Go.Proofs.Ytaickkaoglohgaa
open Go Tk Sx
namespace Bz
/-- What a piece stands for, and what was mended. -/
def stepL (a : Nat) (x : Pce) : L × List Rsn :=
  if x.ref = false ∧ x.text ≠ [38] then (x.text, [])
  else if x.ref then match scalar x.text with
    | some v => (putL v, [])
    | none => if (number x.text).isSome then (putL 65533, [⟨4, a + x.at_⟩]) else match html x.text with
      | some v => (putL v, [⟨7, a + x.at_⟩])
      | none => (38 :: (x.text ++ [59]), [⟨6, a + x.at_⟩])
  else ([38], [⟨6, a + x.at_⟩])
def outL (a : Nat) (l : List Pce) : L := l.flatMap fun x => (stepL a x).1
def rsL (a : Nat) (l : List Pce) : List Rsn := l.flatMap fun x => (stepL a x).2
theorem outL_snoc (a : Nat) (l : List Pce) (x : Pce) : outL a (l ++ [x]) = outL a l ++ (stepL a x).1 := by simp [outL]
theorem rsL_snoc (a : Nat) (l : List Pce) (x : Pce) : rsL a (l ++ [x]) = rsL a l ++ (stepL a x).2 := by simp [rsL]
theorem outL_cons (a : Nat) (l : List Pce) (x : Pce) : outL a (x :: l) = (stepL a x).1 ++ outL a l := by simp [outL]
theorem rsL_cons (a : Nat) (l : List Pce) (x : Pce) : rsL a (x :: l) = (stepL a x).2 ++ rsL a l := by simp [rsL]
theorem loose_nil (f a : Nat) : loose f a [] = ([], []) := by cases f <;> rfl
theorem loose_chr {f a : Nat} {c : UInt8} {r : L} (hc : c ≠ 38) : loose (f + 1) a (c :: r) = (c :: (loose f (a + 1) r).1, (loose f (a + 1) r).2) := by rw [loose, if_pos hc]
theorem loose_amp {f a : Nat} {r : L} (h : Sx.ends r = none) : loose (f + 1) a (38 :: r) = (38 :: (loose f (a + 1) r).1, ⟨6, a⟩ :: (loose f (a + 1) r).2) := by rw [loose, if_neg (by simp), h]
theorem loose_ref {f a n : Nat} {r : L} (h : Sx.ends r = some n) : loose (f + 1) a (38 :: r) = ((stepL 0 ⟨a, true, r.take n⟩).1 ++ (loose f (a + n + 2) (r.drop (n + 1))).1, (stepL 0 ⟨a, true, r.take n⟩).2 ++ (loose f (a + n + 2) (r.drop (n + 1))).2) := by
  rw [loose, if_neg (by simp), h]
  unfold stepL
  rw [if_neg (by simp), if_pos rfl]
  dsimp only
  rw [Nat.zero_add]
  cases hs : scalar (r.take n) with
  | some v => simp only [List.nil_append]
  | none =>
    dsimp only
    by_cases hn : (number (r.take n)).isSome = true
    · rw [if_pos hn, if_pos hn]; simp only [List.cons_append, List.nil_append]
    · rw [if_neg hn, if_neg hn]
      cases hh : html (r.take n) with
      | some v => simp only [List.cons_append, List.nil_append]
      | none => simp only [List.cons_append, List.nil_append, List.append_assoc]
theorem step_at (a b : Nat) (x : Pce) : stepL a ⟨b, x.ref, x.text⟩ = stepL 0 ⟨a + b, x.ref, x.text⟩ := by unfold stepL; simp
theorem loose_plain : ∀ (t : L) (f a : Nat) (r : L), (38 : UInt8) ∉ t → loose (t.length + f) a (t ++ r) = (t ++ (loose f (a + t.length) r).1, (loose f (a + t.length) r).2)
  | [], f, a, r, _ => by simp
  | c :: t, f, a, r, h => by
    have hc : c ≠ 38 := fun e => h (by rw [e]; simp)
    have ht : (38 : UInt8) ∉ t := fun e => h (List.mem_cons_of_mem _ e)
    rw [List.length_cons, show t.length + 1 + f = (t.length + f) + 1 by omega, List.cons_append, loose_chr hc, loose_plain t f (a + 1) r ht, show a + 1 + t.length = a + (t.length + 1) by omega]
    rfl
/-- The pieces' loose text is the bytes' loose text. -/
theorem loose_is (a : Nat) : ∀ (f k : Nat) (l : L) (g : Nat), l.length ≤ f → l.length ≤ g → loose g (a + k) l = (outL a (rps f k l), rsL a (rps f k l)) := by
  intro f
  induction f with
  | zero =>
    intro k l g hf _
    have : l = [] := List.length_eq_zero_iff.1 (by omega)
    subst this
    rw [rps_nil, loose_nil]
    rfl
  | succ f ih =>
    intro k l g hf hg
    by_cases h0 : l = []
    · subst h0; rw [rps_nil, loose_nil]; rfl
    have hlp := List.length_pos_iff.2 h0
    have hge := Lib.indexByte_ge l 38
    by_cases hn : Lib.indexByte l 38 < 0
    · rw [rps_rest h0 hn]
      have h38 := indexByte_no hn
      have e := loose_plain l (g - l.length) (a + k) [] h38
      rw [List.append_nil, show l.length + (g - l.length) = g by omega, loose_nil, List.append_nil] at e
      rw [e, outL_cons, rsL_cons]
      have hne : l ≠ [38] := fun e => h38 (by rw [e]; simp)
      unfold stepL
      rw [if_pos ⟨rfl, hne⟩]
      simp [outL, rsL]
    obtain ⟨m, hm⟩ : ∃ m : Nat, Lib.indexByte l 38 = m := ⟨(Lib.indexByte l 38).toNat, by omega⟩
    obtain ⟨h38, hat⟩ := indexByte_yes hm
    have hml := (List.getElem?_eq_some_iff.1 hat).1
    by_cases hm0 : m = 0
    · subst hm0
      obtain ⟨c, r, rfl⟩ : ∃ c r, l = c :: r := ⟨_, _, (List.cons_head_tail h0).symm⟩
      have hc : c = 38 := by simpa using hat
      subst hc
      rw [List.length_cons] at hf hg
      obtain ⟨g, rfl⟩ : ∃ g', g = g' + 1 := ⟨g - 1, by omega⟩
      cases he : Sx.ends r with
      | none =>
        rw [rps_amp h0 hm he, loose_amp he, outL_cons, rsL_cons]
        have hi := ih (k + 1) r g (by omega) (by omega)
        rw [show a + k + 1 = a + (k + 1) by omega, hi]
        unfold stepL
        rw [if_neg (by simp), if_neg (by simp)]
        rfl
      | some n =>
        have hel := ends_le he
        rw [rps_ref h0 hm he, loose_ref he, outL_cons, rsL_cons]
        have e : (38 :: r : L).drop (n + 2) = r.drop (n + 1) := rfl
        rw [e]
        have hi := ih (k + n + 2) (r.drop (n + 1)) g (by rw [List.length_drop]; omega) (by rw [List.length_drop]; omega)
        rw [show a + k + n + 2 = a + (k + n + 2) by omega, hi]
        simp only [List.tail_cons]
        have hst := step_at a k ⟨0, true, r.take n⟩
        dsimp only at hst
        rw [hst]
    · rw [rps_text h0 hm (by omega), outL_cons, rsL_cons]
      have hne : l.take m ≠ [38] := fun e => h38 (by rw [e]; simp)
      have hlt : (l.take m).length = m := by rw [List.length_take]; omega
      have e := loose_plain (l.take m) (g - m) (a + k) (l.drop m) h38
      rw [List.take_append_drop, hlt, show m + (g - m) = g by omega] at e
      rw [e]
      have hi := ih (k + m) (l.drop m) (g - m) (by rw [List.length_drop]; omega) (by rw [List.length_drop]; omega)
      rw [show a + k + m = a + (k + m) by omega, hi]
      unfold stepL
      rw [if_pos ⟨rfl, hne⟩]
      rfl
theorem ends_no : ∀ {r : L} {n : Nat}, Sx.ends r = some n → (38 : UInt8) ∉ r.take n
  | [], n, h => by cases h
  | c :: r, n, h => by
    unfold Sx.ends at h
    by_cases h1 : c = 59
    · rw [if_pos h1] at h; cases h; simp
    · rw [if_neg h1] at h
      by_cases h2 : c = 38 ∨ c = 60
      · rw [if_pos h2] at h; cases h
      · rw [if_neg h2] at h
        cases he : Sx.ends r with
        | none => rw [he] at h; cases h
        | some m =>
          rw [he] at h
          have : n = m + 1 := by simpa using h.symm
          subst this
          have ih := ends_no he
          rw [List.take_succ_cons]
          intro hm
          rcases List.mem_cons.1 hm with e | e
          · exact h2 (.inl e.symm)
          · exact ih e
/-- Of a text's pieces: a reference's text has no ampersand; where they lie. -/
theorem rps_in : ∀ (f k : Nat) (l : L), ∀ x ∈ rps f k l, (x.ref = true → (38 : UInt8) ∉ x.text ∧ x.text.length < l.length) ∧ x.text.length ≤ l.length ∧ k ≤ x.at_ ∧ x.at_ < k + l.length := by
  intro f
  induction f with
  | zero => intro k l x hx; simp [rps] at hx
  | succ f ih =>
    intro k l x hx
    by_cases h0 : l = []
    · subst h0; rw [rps_nil] at hx; cases hx
    have hlp := List.length_pos_iff.2 h0
    have hge := Lib.indexByte_ge l 38
    by_cases hn : Lib.indexByte l 38 < 0
    · rw [rps_rest h0 hn] at hx
      simp only [List.mem_singleton] at hx
      subst hx
      exact ⟨(fun h => by cases h), Nat.le_refl _, Nat.le_refl _, by dsimp only; omega⟩
    obtain ⟨m, hm⟩ : ∃ m : Nat, Lib.indexByte l 38 = m := ⟨(Lib.indexByte l 38).toNat, by omega⟩
    obtain ⟨h38, hat⟩ := indexByte_yes hm
    have hml := (List.getElem?_eq_some_iff.1 hat).1
    have step : ∀ (j : Nat), j ≤ l.length → x ∈ rps f (k + j) (l.drop j) → (x.ref = true → (38 : UInt8) ∉ x.text ∧ x.text.length < l.length) ∧ x.text.length ≤ l.length ∧ k ≤ x.at_ ∧ x.at_ < k + l.length := fun j hj hm => by
      have := ih _ _ x hm
      rw [List.length_drop] at this
      obtain ⟨q1, q2, q3, q4⟩ := this
      exact ⟨fun h => ⟨(q1 h).1, by have := (q1 h).2; omega⟩, by omega, by omega, by omega⟩
    by_cases hm0 : m = 0
    · subst hm0
      cases he : Sx.ends l.tail with
      | none =>
        rw [rps_amp h0 hm he] at hx
        rcases List.mem_cons.1 hx with e | e
        · subst e; exact ⟨(fun h => by cases h), (by show 1 ≤ l.length; omega), Nat.le_refl _, by dsimp only; omega⟩
        · exact step 1 (by omega) e
      | some n =>
        have hel := ends_le he
        rw [List.length_tail] at hel
        rw [rps_ref h0 hm he] at hx
        rcases List.mem_cons.1 hx with e | e
        · subst e
          refine ⟨fun _ => ⟨ends_no he, ?_⟩, ?_, Nat.le_refl _, by dsimp only; omega⟩ <;> (dsimp only; rw [List.length_take, List.length_tail]; omega)
        · exact step (n + 2) (by omega) (by rw [← Nat.add_assoc]; exact e)
    · rw [rps_text h0 hm (by omega)] at hx
      rcases List.mem_cons.1 hx with e | e
      · subst e; exact ⟨(fun h => by cases h), by dsimp only; rw [List.length_take]; omega, Nat.le_refl _, by dsimp only; omega⟩
      · exact step m (by omega) e
end Bz
end Go.Proofs.Ytaickkaoglohgaa
namespace Go.Proofs.Ytaickkaoglohgaa
open Go.RowKit Tk Sx

/-- What Loose may have turned: of the blocks that were there, the box of reasons, the builder, and their rows. -/
structure LoM (E T b : Nat) (w w' : World) : Prop where
  os : w'.os = w.os
  tape : w'.tape = w.tape
  output : w'.output = w.output
  size : w.heap.size ≤ w'.heap.size
  block : ∀ k, k < w.heap.size → k ≠ T → k ≠ b → ¬ (E ≤ k ∧ (IsT w k 47 ∨ IsT w k 5)) → w'.heap[k]? = w.heap[k]?
section
variable {E T b : Nat} {w w1 w' : World}
theorem LoM.refl (E T b : Nat) (w : World) : LoM E T b w w := ⟨rfl, rfl, rfl, Nat.le_refl _, fun _ _ _ _ _ => rfl⟩
theorem LoM.trans (h : LoM E T b w w1) (k : LoM E T b w1 w') : LoM E T b w w' := by
  refine ⟨k.os.trans h.os, k.tape.trans h.tape, k.output.trans h.output, Nat.le_trans h.size k.size, fun i hi hT hb hn => ?_⟩
  have e := h.block i hi hT hb hn
  rw [k.block i (Nat.lt_of_lt_of_le hi h.size) hT hb ?_, e]
  rintro ⟨h1, h2⟩
  exact hn ⟨h1, h2.imp (fun h => isT_same h e.symm) (fun h => isT_same h e.symm)⟩
theorem LoM.of_below (h : Below w.heap.size w w') : LoM E T b w w' := ⟨h.os, h.tape, h.output, h.size, fun k hk _ _ _ => h.block k hk⟩
theorem LoM.go (h : LoM E T b w w1) (k : Below w1.heap.size w1 w') : LoM E T b w w' := h.trans (.of_below k)
theorem LoM.of_blt (h : BlT E b w w') : LoM E T b w w' := ⟨h.os, h.tape, h.output, h.size, fun k hk _ hb hn => h.block k hk hb (by
  by_cases hE : k < E
  · exact .inl hE
  · exact .inr fun ht => hn ⟨by omega, .inr ht⟩)⟩
theorem LoM.of_movt (h : MovT E 47 w w') : LoM E T b w w' := ⟨h.os, h.tape, h.output, h.size, fun k hk _ _ hn => h.block k hk fun hh => hn ⟨hh.1, .inl hh.2⟩⟩
theorem LoM.setT (h : LoM E T b w w1) (u : Value) : LoM E T b w (w1.setCell ⟨T, 0, none⟩ u) := by
  refine ⟨h.os, h.tape, h.output, by simpa [World.setCell] using h.size, fun k hk hT hb hn => ?_⟩
  rw [Below.heap_setCell _ _ _ _ (by omega)]
  exact h.block k hk hT hb hn
theorem LoM.drew (h : LoM E T b w w1) : LoM E T b w w1.drew := ⟨h.os, h.tape, h.output, h.size, h.block⟩
theorem LoM.blk {g t : Nat} {cs : Array Value} (h : LoM E T b w w') (hg : Blk w g t cs) (hT : g ≠ T) (hb : g ≠ b) (ht : t ≠ 47) (h8 : t ≠ 5) : Blk w' g t cs :=
  (h.block g hg.lt hT hb (fun hh => by rcases hh.2 with h2 | h2; exact isT_ne hg.isT h2 ht; exact isT_ne hg.isT h2 h8)).trans hg
theorem LoM.below {C : Nat} (h : LoM E T b w w') (hE : C ≤ E) (hT : C ≤ T) (hb : C ≤ b) (hs : C ≤ w.heap.size) : Below C w w' := ⟨h.os, h.tape, h.output, h.size, fun k hk => h.block k (by omega) (by omega) (by omega) (fun hh => by omega)⟩
theorem LoM.others {csT csB : Array Value} {tT tB : Nat} (h : LoM E T b w w') (hT : Blk w T tT csT) (hb : Blk w b tB csB) : KeepsOthers w w' := by
  refine ⟨h.size, fun k o hk ho => ?_⟩
  refine (h.block k (Array.getElem?_eq_some_iff.1 hk).1 ?_ ?_ ?_).trans hk
  · rintro rfl; rw [show w.heap[_]? = _ from hT] at hk; cases hk; cases ho
  · rintro rfl; rw [show w.heap[_]? = _ from hb] at hk; cases hk; cases ho
  · rintro ⟨-, ⟨c, f, hh⟩ | ⟨c, f, hh⟩⟩ <;> (rw [hh] at hk; cases hk; cases ho)
theorem LoM.pk {S : Nat} {csT csB csS : Array Value} (h : LoM E T b w w') (hT : Blk w T 22 csT) (hb : Blk w b 60 csB) (hS : Blk w S 9 csS) (h1 : S ≠ T) (h2 : S ≠ b) : PK S w w' := by
  refine ⟨h.size, fun g hg hk => ?_⟩
  rcases hk with rfl | hk
  · exact (h.blk hS h1 h2 (by decide) (by decide)).trans (show w.heap[_]? = _ from hS).symm
  · have hne : ∀ {t : Nat}, t ≠ 109 → ¬ IsT w g t := fun ht hh => isT_ne hh hk ht
    refine h.block g hg ?_ ?_ ?_
    · rintro rfl; exact hne (by decide) hT.isT
    · rintro rfl; exact hne (by decide) hb.isT
    · rintro ⟨-, hh | hh⟩
      · exact hne (by decide) hh
      · exact hne (by decide) hh
end
/-- What 'bad' may have turned: the box of reasons, and the row. -/
structure LaM (E T : Nat) (w w' : World) : Prop where
  os : w'.os = w.os
  tape : w'.tape = w.tape
  output : w'.output = w.output
  size : w.heap.size ≤ w'.heap.size
  block : ∀ k, k < w.heap.size → k ≠ T → ¬ (E ≤ k ∧ IsT w k 47) → w'.heap[k]? = w.heap[k]?
theorem LaM.lom {E T : Nat} {w w' : World} (b : Nat) (h : LaM E T w w') : LoM E T b w w' := ⟨h.os, h.tape, h.output, h.size, fun k hk hT _ hn => h.block k hk hT fun hh => hn ⟨hh.1, .inl hh.2⟩⟩
theorem LaM.blk {E T g t : Nat} {cs : Array Value} {w w' : World} (h : LaM E T w w') (hg : Blk w g t cs) (hT : g ≠ T) (ht : t ≠ 47) : Blk w' g t cs := (h.block g hg.lt hT (fun hh => isT_ne hg.isT hh.2 ht)).trans hg
theorem LaM.own {E T B e size n tT : Nat} {v : Value} {xs : List Value} {csT : Array Value} {w w' : World} (h : LaM E T w w') (ho : w.ownsRow B e size v n xs) (hT : Blk w T tT csT) (h1 : e ≠ tT) (h2 : e ≠ 47) : w'.ownsRow B e size v n xs := by
  refine ⟨ho.1, ?_⟩
  rcases ho.2 with h0 | ⟨g, cap, cur, q1, q2, hg, q3⟩
  · exact .inl h0
  · exact .inr ⟨g, cap, cur, q1, q2, (h.block g (Array.getElem?_eq_some_iff.1 hg).1 (fun e1 => by subst e1; exact isT_ne ⟨cur, _, hg⟩ hT.isT h1) (fun hh => isT_ne ⟨cur, _, hg⟩ hh.2 h2)).trans hg, q3⟩
theorem LaM.bw {E T b : Nat} {l : L} {csT : Array Value} {w w' : World} (h : LaM E T w w') (hb : Bw E b l w) (hT : Blk w T 22 csT) (hne : b ≠ T) : Bw E b l w' := by
  have key : ∀ p, Lib.BuilderAt 60 5 E b p (Lib.byteCells l) w → Lib.BuilderAt 60 5 E b p (Lib.byteCells l) w' := fun p hp => by
    obtain ⟨hB, v, hbk, hown, hn⟩ := hp
    exact ⟨hB, v, h.blk (show Blk w b 60 _ from hbk) hne (by decide), h.own hown hT (by decide) (by decide), hn⟩
  exact hb.imp (key _) (key _)
theorem BlT.ownR {E b B e size n tb : Nat} {v : Value} {xs : List Value} {cs : Array Value} {w w' : World} (h : BlT E b w w') (ho : w.ownsRow B e size v n xs) (hb : Blk w b tb cs) (h1 : e ≠ tb) (h2 : e ≠ 5) : w'.ownsRow B e size v n xs := by
  refine ⟨ho.1, ?_⟩
  rcases ho.2 with h0 | ⟨g, cap, cur, q1, q2, hg, q3⟩
  · exact .inl h0
  · exact .inr ⟨g, cap, cur, q1, q2, (h.block g (Array.getElem?_eq_some_iff.1 hg).1 (fun e1 => by subst e1; exact isT_ne ⟨cur, _, hg⟩ hb.isT h1) (.inr fun hh => isT_ne ⟨cur, _, hg⟩ hh h2)).trans hg, q3⟩
set_option maxHeartbeats 4000000 in
theorem blad_any (E T X : Nat) (A : Option Addr) (c : Nat) (rs : List Rsn) (k : Int) (a : Nat) (x : Pce) (w : World) (hT : Blk w T 22 #[.slice A rs.length c]) (hX : Blk w X 3 #[.int .i64 (a : Int)])
    (ho : w.ownsRow E 47 2 (.slice A rs.length c) rs.length (rss rs)) (hE : E ≤ w.heap.size) (hn : rs.length ≤ 1000000000) (ha : a + x.at_ ≤ 1000000000) :
    Calls Try.prog 67 #[.int .i8 k, .agg #[.int .i64 (x.at_ : Int), .bool x.ref, .string (bstr x.text)], .pointer (some ⟨T, 0, none⟩), .pointer (some ⟨X, 0, none⟩)] w
      fun e w' => e = .returned (.tuple #[]) ∧ ∃ A' c', Blk w' T 22 #[.slice A' (rs ++ [(⟨k, a + x.at_⟩ : Rsn)]).length c'] ∧ w'.ownsRow E 47 2 (.slice A' (rs ++ [(⟨k, a + x.at_⟩ : Rsn)]).length c') (rs ++ [(⟨k, a + x.at_⟩ : Rsn)]).length (rss (rs ++ [(⟨k, a + x.at_⟩ : Rsn)])) ∧ LaM E T w w' := by
  have c0 := hT.cell 0
  have cX := hX.cell 0
  have hTl := hT.lt
  have hXl := hX.lt
  obtain ⟨n, hnn⟩ : ∃ n, rs.length = n := ⟨_, rfl⟩
  have HL := hide (show (rs ++ [(⟨k, a + x.at_⟩ : Rsn)]).length = n + 1 by rw [List.length_append, hnn]; rfl)
  rw [HL.out]
  rw [hnn] at c0 ho hn hT
  have HT := hide hT
  have OE := hide ho
  have HE := hide hE
  have Hn := hide hn
  have hwa : IntKind.i64.wrap ((a : Int) + (x.at_ : Int)) = (a : Int) + (x.at_ : Int) := IntWalk.i64_in _ (by omega)
  obtain ⟨W0, hW0⟩ : ∃ W0, w.alloc (.cells #[.int .i64 (x.at_ : Int), .bool x.ref, .string (bstr x.text)] 109) = W0 := ⟨_, rfl⟩
  have hb0 : Below w.heap.size w W0 := by rw [← hW0]; exact below_alloc _ _
  have KX := hide (Blk.new W0 47 #[.int .i8 k, .int .i64 ((a : Int) + (x.at_ : Int))])
  have k5 := Blk.new w 109 #[.int .i64 (x.at_ : Int), .bool x.ref, .string (bstr x.text)]
  rw [hW0] at k5
  have z5 := k5.cell 0
  have zT : W0.cell? ⟨T, 0, none⟩ = some (.slice A n c) := (hb0.cell (p := ⟨T, 0, none⟩) hTl).trans c0
  have zX : W0.cell? ⟨X, 0, none⟩ = some (.int .i64 (a : Int)) := (hb0.cell (p := ⟨X, 0, none⟩) hXl).trans cX
  have HB0 := hide hb0
  have HOs := hide (show W0.heap.size = w.heap.size + 1 by rw [← hW0]; simp)
  clear hT hX ho hE hn ha hnn c0 cX k5 hb0
  go_enter Try.func67, Try.ntmps67
  go_wp2_with (at_builtin; go_loud (refine wpList_append_elem_at (W0.alloc (.cells #[.int .i8 k, .int .i64 ((a : Int) + (x.at_ : Int))] 47)) rfl (.tmp 6) (.tmp 13) 22 rfl E 47 _ 2 16 Try.underlying22 info_rsn rfl (by omega) (.slice A n c) n (rss rs) rfl ((own_go OE.out HB0.out).alloc _) [.int .i8 k, .int .i64 ((a : Int) + (x.at_ : Int))] rfl (rs_one _ _) W0.heap.size KX.out rfl (by unfold maxLen; have := Hn.out; omega) (by have := Hn.out; omega) (by have := HE.out; have := HOs.out; simp; omega) ?_); intro g8 cap8 w8 hown8 hgrow8 hlt8; have HO8 := hide hown8; have HM8 := hide (show MovT E 47 w w8 from ((MovT.of_below HB0.out).trans (MovT.of_below (below_alloc W0 _))).trans (.grown hgrow8 fun j hj => own_isT ((own_go OE.out HB0.out).alloc _) j hj)); have f8 := (HM8.out.blk HT.out (by decide)).frozen 0; have c8 := (HM8.out.blk HT.out (by decide)).cell 0; clear hown8 hgrow8 hlt8)
  go_end0
  refine ⟨rfl, some ⟨g8, 0, none⟩, cap8, (HM8.out.blk HT.out (by decide)).set_ 0 _, ?_, ⟨HM8.out.os, HM8.out.tape, HM8.out.output, by simpa [World.setCell] using HM8.out.size, fun j hj hT hn => (Below.heap_setCell _ _ _ _ (by omega)).trans (HM8.out.block j hj hn)⟩⟩
  rw [show rss (rs ++ [(⟨k, a + x.at_⟩ : Rsn)]) = rss rs ++ [.int .i8 k, .int .i64 ((a : Int) + (x.at_ : Int))] by rw [rss_snoc, Int.natCast_add]]
  exact own_far (p := ⟨T, 0, none⟩) HO8.out (HM8.out.blk HT.out (by decide)) (by decide) _
end Go.Proofs.Ytaickkaoglohgaa
namespace Go.Proofs.Ytaickkaoglohgaa
open Go.RowKit Go.Shelf Tk Sx

attribute [local go_sem] Oper.semAt_some

def noRowB (X : World) (row : Option Nat) : Prop := ∀ r, row = some r → ∃ o : Obj, X.heap[r]? = some o ∧ o.isCells = false
theorem blk_rowB {X : World} {g t : Nat} {cs : Array Value} {row : Option Nat} (h : Blk X g t cs) (hr : noRowB X row) : some g ≠ row := by
  intro e
  obtain ⟨o, ho, hc⟩ := hr _ e.symm
  rw [show X.heap[g]? = _ from h] at ho
  cases ho
  cases hc
theorem own_row {X Y : World} {B e size n : Nat} {v : Value} {xs : List Value} {row : Option Nat} (h : X.ownsRow B e size v n xs) (hg : X.grownBy Y row) (hr : noRowB X row) : Y.ownsRow B e size v n xs := by
  refine h.kept (row := row) hg ?_
  cases hv : v.ownBlock with
  | none => exact .inl rfl
  | some k =>
    refine .inr fun e => ?_
    obtain ⟨o, ho, hc⟩ := hr k e.symm
    obtain ⟨cs, fr, hh⟩ := (own_isT h k hv).2
    rw [hh] at ho
    cases ho
    cases hc
theorem bw_row {X Y : World} {B b : Nat} {l : L} {row : Option Nat} (h : Bw B b l X) (hg : X.grownBy Y row) (hr : noRowB X row) : Bw B b l Y := by
  have one : ∀ p, Lib.BuilderAt 60 5 B b p (Lib.byteCells l) X → Lib.BuilderAt 60 5 B b p (Lib.byteCells l) Y := fun p hp => by
    obtain ⟨hB, v, hb, hown, hne⟩ := hp
    exact ⟨hB, v, Blk.grown (show Blk X b _ #[p, v] from hb) hg (blk_rowB (show Blk X b _ #[p, v] from hb) hr), own_row hown hg hr, hne⟩
  exact h.imp (one _) (one _)
theorem bw_blk {B b : Nat} {l : L} {W : World} (h : Bw B b l W) : ∃ cs, Blk W b 60 cs := by
  rcases h with ⟨_, v, hb, _⟩ | ⟨_, v, hb, _⟩ <;> exact ⟨_, hb⟩
/-- What Loose's variables hold when so much has come: X the place, b the builder, T the reasons, G the closure, S the text. -/
structure LoI (w : World) (s : ByteArray) (a : Nat) (all pre : List Pce) (W : World) : Prop where
  bw : Bw w.heap.size (w.heap.size + 1) (Bz.outL a pre) W
  kX : Blk W w.heap.size 3 #[.int .i64 (a : Int)]
  kT : ∃ A c, (Bz.rsL a pre = [] → A = none ∧ c = 0) ∧ Blk W (w.heap.size + 1 + 1) 22 #[.slice A (Bz.rsL a pre).length c] ∧ W.ownsRow w.heap.size 47 2 (.slice A (Bz.rsL a pre).length c) (Bz.rsL a pre).length (rss (Bz.rsL a pre))
  kG : Blk W (w.heap.size + 1 + 1 + 1) 110 #[.func (.func 67) #[] #[.pointer (some ⟨w.heap.size + 1 + 1, 0, none⟩), .pointer (some ⟨w.heap.size, 0, none⟩)]]
  kS : Blk W (w.heap.size + 1 + 1 + 1 + 1) 9 #[.string s]
  bel : Below w.heap.size w W
abbrev PcM (s : ByteArray) := { x : Pce // x ∈ rps s.size 0 s.data.toList }
def LoJ (w : World) (s : ByteArray) (a : Nat) (pre : List (PcM s)) (W : World) : Prop := LoI w s a [] (pre.map (·.1)) W
theorem LoI.own {w X Y : World} {s : ByteArray} {a : Nat} {all pre : List Pce} {row : Option Nat} (h : LoI w s a all pre X) (hg : X.grownBy Y row) (hrow : ∀ r, row = some r → w.heap.size ≤ r ∧ ∃ o : Obj, X.heap[r]? = some o ∧ o.isCells = false) : LoI w s a all pre Y := by
  have hr : noRowB X row := fun r e => (hrow r e).2
  obtain ⟨A, c, h0, h1, h2⟩ := h.kT
  exact ⟨bw_row h.bw hg hr, h.kX.grown hg (blk_rowB h.kX hr), ⟨A, c, h0, h1.grown hg (blk_rowB h1 hr), own_row h2 hg hr⟩, h.kG.grown hg (blk_rowB h.kG hr), h.kS.grown hg (blk_rowB h.kS hr), h.bel.grown hg h.bel.size (fun k e => (hrow k e).1)⟩
theorem LoJ_own (w : World) (s : ByteArray) (a B : Nat) (hB : w.heap.size ≤ B) : OwnFrom B (LoJ w s a) := by
  rintro pre X Y row h hg hrow
  exact h.own hg fun r e => ⟨Nat.le_trans hB (hrow r e).1, (hrow r e).2⟩
/-- A round's end. -/
theorem LoI.next {w W W' : World} {s : ByteArray} {a : Nat} {all pre : List Pce} {x : Pce} (h : LoI w s a all pre W) (hm : LoM w.heap.size (w.heap.size + 1 + 1) (w.heap.size + 1) W W')
    (hb : Bw w.heap.size (w.heap.size + 1) (Bz.outL a pre ++ (Bz.stepL a x).1) W')
    (hT : ∃ A c, (Bz.rsL a pre ++ (Bz.stepL a x).2 = [] → A = none ∧ c = 0) ∧ Blk W' (w.heap.size + 1 + 1) 22 #[.slice A (Bz.rsL a pre ++ (Bz.stepL a x).2).length c] ∧ W'.ownsRow w.heap.size 47 2 (.slice A (Bz.rsL a pre ++ (Bz.stepL a x).2).length c) (Bz.rsL a pre ++ (Bz.stepL a x).2).length (rss (Bz.rsL a pre ++ (Bz.stepL a x).2))) :
    KeepsOthers W W' ∧ PK (w.heap.size + 1 + 1 + 1 + 1) W W' ∧ LoI w s a all (pre ++ [x]) W' := by
  obtain ⟨A, c, h0, h1, h2⟩ := h.kT
  obtain ⟨cs, hbb⟩ := bw_blk h.bw
  refine ⟨hm.others h1 hbb, hm.pk h1 hbb h.kS (by omega) (by omega), ⟨?_, hm.blk h.kX (by omega) (by omega) (by decide) (by decide), ?_, hm.blk h.kG (by omega) (by omega) (by decide) (by decide), hm.blk h.kS (by omega) (by omega) (by decide) (by decide), ?_⟩⟩
  · rw [Bz.outL_snoc]; exact hb
  · rw [Bz.rsL_snoc]; exact hT
  · exact h.bel.trans (hm.below (by omega) (by omega) (by omega) h.bel.size)
theorem LoI.mov {w W W' : World} {s : ByteArray} {a : Nat} {all pre : List Pce} (h : LoI w s a all pre W) (hb : Below W.heap.size W W') : LoI w s a all pre W' :=
  h.own (grown_below hb none) fun r e => (by cases e)
theorem bloose_enter (args : Array Value) (w : World) : (callFunc 67 args).run Try.prog w = .ok (.enter 67 args) w := callFunc_body Try.func67 (by kernel_rfl) (by kernel_rfl) _ _
theorem outL_le (a : Nat) (s : ByteArray) : ∀ (l : List Pce), (∀ x ∈ l, x ∈ rps s.size 0 s.data.toList) → (Bz.outL a l).length ≤ l.length * (s.size + 4) ∧ (Bz.rsL a l).length ≤ l.length
  | [], _ => by simp [Bz.outL, Bz.rsL]
  | x :: l, h => by
    obtain ⟨h1, h2⟩ := outL_le a s l fun y hy => h y (List.mem_cons_of_mem _ hy)
    obtain ⟨-, hx, -, -⟩ := Bz.rps_in _ _ _ x (h x (by simp))
    have hsz : s.data.toList.length = s.size := size_list s
    rw [Bz.outL_cons, Bz.rsL_cons, List.length_append, List.length_append, List.length_cons, Nat.add_mul, Nat.one_mul]
    have : (Bz.stepL a x).1.length ≤ s.size + 4 ∧ (Bz.stepL a x).2.length ≤ 1 := by
      unfold Bz.stepL
      have hp : ∀ v : Int, (putL v).length ≤ 4 := putL_short
      split
      · constructor <;> simp; omega
      · split
        · split
          · rename_i v _; have := hp v; constructor <;> simp; omega
          · split
            · have := hp 65533; constructor <;> simp; omega
            · split
              · rename_i v _; have := hp v; constructor <;> simp; omega
              · constructor
                · simp only [List.length_cons, List.length_append, List.length_nil]; omega
                · simp
        · constructor <;> simp
    omega
theorem numV_form (z : Option (Option Nat)) : ∃ r o, numV z = .tuple #[.int .i64 r, .bool z.isSome, .bool o] := by
  rcases z with _ | _ | v <;> exact ⟨_, _, rfl⟩
theorem htmlV_form (z : Option Nat) : ∃ r, htmlV z = .tuple #[.int .i64 r, .bool z.isSome] ∧ ∀ v, z = some v → r = (v : Int) := by
  rcases z with _ | v
  · exact ⟨_, rfl, fun v h => by cases h⟩
  · exact ⟨_, rfl, fun v h => by cases h; rfl⟩
/-- A round's end without reasons. -/
theorem LoI.step0 {w W W1 W' : World} {s : ByteArray} {a : Nat} {all pre : List Pce} {x : Pce} {t : L} (h : LoI w s a all pre W) (hx : Bz.stepL a x = (t, [])) (hb : Below W.heap.size W W1) (ht : BlT w.heap.size (w.heap.size + 1) W1 W') (hw : Bw w.heap.size (w.heap.size + 1) (Bz.outL a pre ++ t) W') :
    KeepsOthers W W' ∧ PK (w.heap.size + 1 + 1 + 1 + 1) W W' ∧ LoI w s a all (pre ++ [x]) W' := by
  refine h.next ((LoM.of_below hb).trans (.of_blt ht)) (by rw [hx]; exact hw) ?_
  obtain ⟨A, c, h0, h1, h2⟩ := h.kT
  obtain ⟨cs, hbb⟩ := bw_blk (h.bw.go hb)
  rw [hx, List.append_nil]
  exact ⟨A, c, h0, ht.blk (h1.go hb) (by omega) (by decide), ht.ownR (own_go h2 hb) hbb (by decide) (by decide)⟩
/-- A round's end behind one reason. -/
theorem LoI.step1 {w W W1 W2 W3 W' : World} {s : ByteArray} {a : Nat} {all pre : List Pce} {x : Pce} {t : L} {r : Rsn} (h : LoI w s a all pre W) (hx : Bz.stepL a x = (t, [r])) (hb : Below W.heap.size W W1) (hl : LaM w.heap.size (w.heap.size + 1 + 1) W1 W2)
    (hT : ∃ A c, Blk W2 (w.heap.size + 1 + 1) 22 #[.slice A (Bz.rsL a pre ++ [r]).length c] ∧ W2.ownsRow w.heap.size 47 2 (.slice A (Bz.rsL a pre ++ [r]).length c) (Bz.rsL a pre ++ [r]).length (rss (Bz.rsL a pre ++ [r])))
    (hb2 : Below W2.heap.size W2 W3) (ht : BlT w.heap.size (w.heap.size + 1) W3 W') (hw : Bw w.heap.size (w.heap.size + 1) (Bz.outL a pre ++ t) W') :
    KeepsOthers W W' ∧ PK (w.heap.size + 1 + 1 + 1 + 1) W W' ∧ LoI w s a all (pre ++ [x]) W' := by
  refine h.next ((((LoM.of_below hb).trans (hl.lom _)).go hb2).trans (.of_blt ht)) (by rw [hx]; exact hw) ?_
  obtain ⟨A, c, h1, h2⟩ := hT
  obtain ⟨A0, c0, _, k1, _⟩ := h.kT
  obtain ⟨cs, hbb⟩ := bw_blk ((hl.bw (h.bw.go hb) (k1.go hb) (by omega)).go hb2)
  rw [hx]
  exact ⟨A, c, fun e => by simp at e, ht.blk (h1.go hb2) (by omega) (by decide), ht.ownR (own_go h2 hb2) hbb (by decide) (by decide)⟩
theorem LaM.set (E T : Nat) (w : World) (u : Value) : LaM E T w (w.setCell ⟨T, 0, none⟩ u) := ⟨rfl, rfl, rfl, by simp [World.setCell], fun k hk hT _ => Below.heap_setCell _ _ _ _ (by omega)⟩
/-- The same, the box of reasons stored once more. -/
theorem LoI.step2 {w W W1 W2 W3 W' : World} {s : ByteArray} {a : Nat} {all pre : List Pce} {x : Pce} {t : L} {r : Rsn} {A : Option Addr} {c : Nat} (h : LoI w s a all pre W) (hx : Bz.stepL a x = (t, [r])) (hb : Below W.heap.size W W1) (hl : LaM w.heap.size (w.heap.size + 1 + 1) W1 W2)
    (h1 : Blk W2 (w.heap.size + 1 + 1) 22 #[.slice A (Bz.rsL a pre ++ [r]).length c]) (h2 : W2.ownsRow w.heap.size 47 2 (.slice A (Bz.rsL a pre ++ [r]).length c) (Bz.rsL a pre ++ [r]).length (rss (Bz.rsL a pre ++ [r])))
    (hb2 : Below W2.heap.size W2 W3) (ht : BlT w.heap.size (w.heap.size + 1) W3 W') (hw : Bw w.heap.size (w.heap.size + 1) (Bz.outL a pre ++ t) W') (n : Nat) (hn : (Bz.rsL a pre ++ [r]).length = n) :
    KeepsOthers W (W'.setCell ⟨w.heap.size + 1 + 1, 0, none⟩ (.slice A n c)) ∧ PK (w.heap.size + 1 + 1 + 1 + 1) W (W'.setCell ⟨w.heap.size + 1 + 1, 0, none⟩ (.slice A n c)) ∧ LoI w s a all (pre ++ [x]) (W'.setCell ⟨w.heap.size + 1 + 1, 0, none⟩ (.slice A n c)) := by
  subst hn
  obtain ⟨A0, c0, _, k1, _⟩ := h.kT
  obtain ⟨cs, hbb⟩ := bw_blk ((hl.bw (h.bw.go hb) (k1.go hb) (by omega)).go hb2)
  have q1 := ht.blk (h1.go hb2) (by omega) (by decide)
  have q2 := ht.ownR (own_go h2 hb2) hbb (by decide) (by decide)
  refine h.next (((((LoM.of_below hb).trans (hl.lom _)).go hb2).trans (.of_blt ht)).setT _) (by rw [hx]; exact (LaM.set w.heap.size _ W' _).bw hw q1 (by omega)) ?_
  rw [hx]
  exact ⟨A, c, fun e => by simp at e, q1.set_ 0 _, own_far (p := ⟨w.heap.size + 1 + 1, 0, none⟩) q2 q1 (by decide) _⟩
theorem html_scalar {n : L} {v : Nat} (h : Bz.html n = some v) : Utf.isScalar (v : Int) = true := by
  unfold Bz.html at h
  split at h
  · cases h
  · obtain ⟨k, _, hk⟩ := Option.bind_eq_some_iff.1 h
    have hm : v ∈ Bz.htmlVals := List.mem_of_getElem? hk
    have : ∀ v ∈ Bz.htmlVals, Utf.isScalar (v : Int) = true := by decide +kernel
    exact this v hm
theorem wpListIn_append_nil {F : Fence} {nF : Nat} {P : Program} {w : World} {ops : Array Oper} {rest : List Oper} {o : Oper} {a : Act} {Q : Exit → Act → World → Prop} (hgd : o.guard = none) (s x : Operand) (t : TypeId)
    (ho : o.op = .call { callee := .builtin .append, args := #[s, x], argTypes := #[t, t] })
    (base : Nat) (e : TypeId) (i : TypeInfo) (size : Nat) (ht : P.underlying t = some (.slice e)) (hi : P.info? e = some i)
    (v : Value) (n : Nat) (xs : List Value) (hs : a.eval s = v) (hown : w.ownsRow base e size v n xs) (hx : a.eval x = .slice none 0 0)
    (h : wpListIn F nF P ops Q rest (a.put o.dst v) w) : wpListIn F nF P ops Q (o :: rest) a w := by
  refine wpListIn_plain hgd fun K hK => ?_
  have hrun := run_append_owned_none (P := P) (w := w) base t o.type e i size ht hi v n xs hown
  unfold Oper.wpIn
  refine ⟨by simp [Oper.about, ho, resolve, Target.leads, Sem.run_pure], ?_⟩
  rw [Oper.semAt_plain F _ _ (by rw [ho]; intro c hc'; cases hc')]
  simp [execOp, ho, resolve, invoke, builtin, hs, hx, hrun, Result.andThen]
  exact hK _ _ h
end Go.Proofs.Ytaickkaoglohgaa
