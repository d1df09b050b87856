/- append of a string's bytes to a row of the call's own, in and out of a fence; append of one element in a fence. · Bits of int and of bytes as sums and remainders. · Entries and records in memory; whether two are the same. · Whether two subs, two records are the same. -/
import Derived.Test.YtlkkmgimjjnhjaaMA00
import Derived.Test.YtlkkmgimjjnhjaaProg
import Derived.Lib.AppendStr
import Derived.OwnWalkIn
import Derived.WalkKit
import Derived.Deep.QuietTactic
import Derived.BigQuiet
import Derived.Deep.LoopGhost
import Derived.WalkSpells
import Derived.WalkLawsBesides
set_option linter.unusedSimpArgs false
set_option linter.unusedVariables false
namespace Go.Proofs.Ytlkkmgimjjnhjaa
open Go.RowKit

theorem own_form {w : World} {base e size n : Nat} {v : Value} {xs : List Value} (h : w.ownsRow base e size v n xs) : ∃ A c, v = .slice A n c := by
  rcases h.2 with ⟨rfl, rfl⟩ | ⟨g, cap, cur, rfl, _⟩
  · exact ⟨_, _, rfl⟩
  · exact ⟨_, _, rfl⟩

theorem strCells_is {t : ByteArray} {l : List UInt8} (h : StrIs t l) : Lib.strCells t = byteVs l := by
  unfold StrIs at h
  rw [← h]; rfl

theorem run_append_str {P : Program} (w : World) (base : Nat) (t u ty e : TypeId) (ht : P.underlying t = some (.slice e)) (hu : P.underlying u = some .string)
    (hinfo : (P.info? e).map (fun i => (i.zero, i.size, i.bytes)) = some (some (.int .u8 0), 1, 1))
    (v : Value) (n : Nat) (l : List UInt8) (hown : w.ownsRow base e 1 v n (byteVs l)) (s : ByteArray) (m : List UInt8) (hm : StrIs s m)
    (hbytes : n + m.length ≤ 140737488355328) (hbase : base ≤ w.heap.size) :
    ∃ A c w', (Builtin.append_ #[t, u] ty #[v, .string s]).run P w = .ok (.slice A (n + m.length) c) w' ∧ w'.ownsRow base e 1 (.slice A (n + m.length) c) (n + m.length) (byteVs (l ++ m)) ∧ w.grownBy w' v.ownBlock := by
  obtain ⟨i, hi, hz, hsize, hby⟩ := info_parts hinfo
  have hsz := hm.size
  obtain ⟨v', w', hr, h2, h3, _⟩ := Lib.run_append_own_string (P := P) w base t u ty e i ht hu hi hz hsize hby v n (byteVs l) hown s (by unfold maxLen; omega) (by omega) hbase
  rw [strCells_is hm, hsz, ← byteVs_append] at h2
  obtain ⟨A, c, rfl⟩ := own_form h2
  exact ⟨A, c, w', hr, h2, h3⟩

theorem wpList_append_str {P : Program} (w : World) {ops : Array Oper} {rest : List Oper} {o : Oper} {a : Act} {Q : Exit → Act → World → Prop} (hgd : o.guard = none) (sl x : Operand) (t u : TypeId)
    (ho : o.op = .call { callee := .builtin .append, args := #[sl, x], argTypes := #[t, u] })
    (base : Nat) (e : TypeId) (ht : P.underlying t = some (.slice e)) (hu : P.underlying u = some .string) (hinfo : (P.info? e).map (fun i => (i.zero, i.size, i.bytes)) = some (some (.int .u8 0), 1, 1))
    (v : Value) (n : Nat) (l : List UInt8) (hs : a.eval sl = v) (hown : w.ownsRow base e 1 v n (byteVs l)) (s : ByteArray) (m : List UInt8) (hm : StrIs s m) (hx : a.eval x = .string s)
    (hbytes : n + m.length ≤ 140737488355328) (hbase : base ≤ w.heap.size)
    (h : ∀ A c w', w'.ownsRow base e 1 (.slice A (n + m.length) c) (n + m.length) (byteVs (l ++ m)) → w.grownBy w' v.ownBlock → wpList P ops Q rest (a.put o.dst (.slice A (n + m.length) c)) w') : wpList P ops Q (o :: rest) a w := by
  refine wpList_plain hgd fun K hK => ?_
  obtain ⟨A, c, w', hr, h2, h3⟩ := run_append_str (P := P) w base t u o.type e ht hu hinfo v n l hown s m hm hbytes hbase
  unfold Oper.wp execOp
  simp only [ho, resolve, invoke, builtin, Sem.run_bind, Sem.run_pure, Result.andThen_ok, List.map_toArray, List.map_cons, List.map_nil, hs, hx, hr]
  exact hK _ _ (h A c w' h2 h3)

theorem wpListIn_append_str {F : Fence} {N : Nat} {P : Program} (w : World) {ops : Array Oper} {rest : List Oper} {o : Oper} {a : Act} {Q : Exit → Act → World → Prop} (hgd : o.guard = none) (sl x : Operand) (t u : TypeId)
    (ho : o.op = .call { callee := .builtin .append, args := #[sl, x], argTypes := #[t, u] })
    (base : Nat) (e : TypeId) (ht : P.underlying t = some (.slice e)) (hu : P.underlying u = some .string) (hinfo : (P.info? e).map (fun i => (i.zero, i.size, i.bytes)) = some (some (.int .u8 0), 1, 1))
    (v : Value) (n : Nat) (l : List UInt8) (hs : a.eval sl = v) (hown : w.ownsRow base e 1 v n (byteVs l)) (s : ByteArray) (m : List UInt8) (hm : StrIs s m) (hx : a.eval x = .string s)
    (hbytes : n + m.length ≤ 140737488355328) (hbase : base ≤ w.heap.size)
    (h : ∀ A c w', w'.ownsRow base e 1 (.slice A (n + m.length) c) (n + m.length) (byteVs (l ++ m)) → w.grownBy w' v.ownBlock → wpListIn F N P ops Q rest (a.put o.dst (.slice A (n + m.length) c)) w') : wpListIn F N P ops Q (o :: rest) a w := by
  refine wpListIn_plain hgd fun K hK => ?_
  obtain ⟨A, c, w', hr, h2, h3⟩ := run_append_str (P := P) w base t u o.type e ht hu hinfo v n l hown s m hm hbytes hbase
  unfold Oper.wpIn
  refine ⟨?_, ?_⟩
  · simp [Oper.about, ho, resolve, Target.leads, Sem.run_pure]
  · rw [Oper.semAt_plain F _ _ (by rw [ho]; intro c hc'; cases hc')]
    simp [execOp, ho, resolve, invoke, builtin, hs, hx, hr, Result.andThen]
    exact hK _ _ (h A c w' h2 h3)

theorem wpListIn_append_elem {F : Fence} {N : Nat} {P : Program} (W : World) {e : TypeId} {cs : List Value} {ops : Array Oper} {rest : List Oper} {o : Oper} {a : Act} {Q : Exit → Act → World → Prop} (hgd : o.guard = none) (s x : Operand) (t : TypeId)
    (ho : o.op = .call { callee := .builtin .append, args := #[s, x], argTypes := #[t, t] })
    (base : Nat) (z : Value) (size bytes : Nat) (ht : P.underlying t = some (.slice e)) (hinfo : (P.info? e).map (fun i => (i.zero, i.size, i.bytes)) = some (some z, size, bytes))
    (hzs : z.cells.size = size) (hsz : 0 < size)
    (v : Value) (n : Nat) (xs : List Value) (hs : a.eval s = v) (hown : W.ownsRow base e size v n xs)
    (hcs : cs.length = size) (h1 : ∀ u ∈ cs, u.oneCell' = true) (hx : a.eval x = .slice (some ⟨W.heap.size, 0, none⟩) 1 1)
    (h63 : n + 1 ≤ maxLen) (hbytes : (n + 1) * bytes ≤ 140737488355328) (hbase : base ≤ W.heap.size)
    (h : ∀ g cap w', w'.ownsRow base e size (.slice (some ⟨g, 0, none⟩) (n + 1) cap) (n + 1) (xs ++ cs) → (W.alloc (.cells cs.toArray e)).grownBy w' v.ownBlock → g < w'.heap.size → base ≤ g →
      wpListIn F N P ops Q rest (a.put o.dst (.slice (some ⟨g, 0, none⟩) (n + 1) cap)) w') : wpListIn F N P ops Q (o :: rest) a (W.alloc (.cells cs.toArray e)) := by
  obtain ⟨i, hi, hz, hsize, hby⟩ := info_parts hinfo
  refine wpListIn_append_own (W.alloc (.cells cs.toArray e)) hgd s x t ho base e i z size bytes ht hi hz hsize hby hzs hsz v n xs hs (hown.alloc _) ⟨W.heap.size, 0, none⟩ 1 1 cs hx (by omega) ?_ h1 h63 hbytes (by simp; omega) ?_
  · intro j u hu
    exact World.news_of_block (Blk.new W e cs.toArray) j u (by simpa using hu)
  · intro v' w' hown' hgrow _
    obtain ⟨g, cap, hv, hb, hlt⟩ := hown'.form (by omega)
    subst hv
    exact h g cap w' hown' hgrow hlt hb
end Go.Proofs.Ytlkkmgimjjnhjaa
namespace Go.Proofs.Ytlkkmgimjjnhjaa
open Go.RowKit

theorem hide {p : Prop} (h : p) : Hid p := h

theorem ofInt_i64 (a : Nat) (ha : a < 9223372036854775808) : (BitVec.ofInt 64 (a : Int)).toNat = a := by
  rw [BitVec.ofInt_natCast, BitVec.toNat_ofNat]; exact Nat.mod_eq_of_lt (by omega)
theorem i64_and_nat (a b : Nat) (ha : a < 9223372036854775808) (hb : b < 9223372036854775808) : bits .and .i64 (a : Int) (b : Int) = ((a &&& b : Nat) : Int) := by
  have hx : a &&& b < 2 ^ 63 := Nat.and_lt_two_pow _ (by omega)
  show IntKind.i64.wrap ((BitVec.ofInt 64 (a : Int) &&& BitVec.ofInt 64 (b : Int)).toNat : Int) = _
  rw [BitVec.toNat_and, ofInt_i64 a ha, ofInt_i64 b hb, IntKind.wrap_i64]
  omega
theorem i64_or_nat (a b : Nat) (ha : a < 9223372036854775808) (hb : b < 9223372036854775808) : bits .or .i64 (a : Int) (b : Int) = ((a ||| b : Nat) : Int) := by
  have hx : a ||| b < 2 ^ 63 := Nat.or_lt_two_pow (by omega) (by omega)
  show IntKind.i64.wrap ((BitVec.ofInt 64 (a : Int) ||| BitVec.ofInt 64 (b : Int)).toNat : Int) = _
  rw [BitVec.toNat_or, ofInt_i64 a ha, ofInt_i64 b hb, IntKind.wrap_i64]
  omega
theorem ofInt_u8 (a : Nat) (ha : a < 256) : (BitVec.ofInt 8 (a : Int)).toNat = a := by
  rw [BitVec.ofInt_natCast, BitVec.toNat_ofNat]; exact Nat.mod_eq_of_lt (by omega)
theorem u8_and_nat (a b : Nat) (ha : a < 256) (hb : b < 256) : bits .and .u8 (a : Int) (b : Int) = ((a &&& b : Nat) : Int) := by
  have hx : a &&& b < 2 ^ 8 := Nat.and_lt_two_pow _ (by omega)
  show IntKind.u8.wrap ((BitVec.ofInt 8 (a : Int) &&& BitVec.ofInt 8 (b : Int)).toNat : Int) = _
  rw [BitVec.toNat_and, ofInt_u8 a ha, ofInt_u8 b hb, IntKind.wrap_u8]
  omega
theorem u8_or_nat (a b : Nat) (ha : a < 256) (hb : b < 256) : bits .or .u8 (a : Int) (b : Int) = ((a ||| b : Nat) : Int) := by
  have hx : a ||| b < 2 ^ 8 := Nat.or_lt_two_pow (by omega) (by omega)
  show IntKind.u8.wrap ((BitVec.ofInt 8 (a : Int) ||| BitVec.ofInt 8 (b : Int)).toNat : Int) = _
  rw [BitVec.toNat_or, ofInt_u8 a ha, ofInt_u8 b hb, IntKind.wrap_u8]
  omega

/-- 'x & (2^k - 1)' -/
theorem i64_mask (x : Int) (k : Nat) (h0 : 0 ≤ x) (h1 : x < 9223372036854775808) (hk : k < 63) (m : Int) (hm : m = 2 ^ k - 1) : bits .and .i64 x m = x % 2 ^ k := by
  obtain ⟨a, rfl⟩ := Int.eq_ofNat_of_zero_le h0
  have h2 : (2 : Nat) ^ k < 2 ^ 63 := Nat.pow_lt_pow_right (by omega) hk
  have h3 : 0 < (2 : Nat) ^ k := Nat.two_pow_pos k
  obtain rfl : m = ((2 ^ k - 1 : Nat) : Int) := by rw [hm, Int.ofNat_sub h3]; simp
  rw [i64_and_nat a _ (by omega) (by omega), Nat.and_two_pow_sub_one_eq_mod]
  simp
theorem u8_mask (x : Int) (k : Nat) (h0 : 0 ≤ x) (h1 : x < 256) (hk : k < 8) (m : Int) (hm : m = 2 ^ k - 1) : bits .and .u8 x m = x % 2 ^ k := by
  obtain ⟨a, rfl⟩ := Int.eq_ofNat_of_zero_le h0
  have h2 : (2 : Nat) ^ k < 2 ^ 8 := Nat.pow_lt_pow_right (by omega) hk
  have h3 : 0 < (2 : Nat) ^ k := Nat.two_pow_pos k
  obtain rfl : m = ((2 ^ k - 1 : Nat) : Int) := by rw [hm, Int.ofNat_sub h3]; simp
  rw [u8_and_nat a _ (by omega) (by omega), Nat.and_two_pow_sub_one_eq_mod]
  simp

/-- 'x * 2^k | y', y below 2^k: the sum. -/
theorem i64_or_add (x y : Int) (k : Nat) (h0 : 0 ≤ x) (hy : 0 ≤ y) (hk : y < 2 ^ k) (hx : x * 2 ^ k + y < 9223372036854775808) : bits .or .i64 (x * 2 ^ k) y = x * 2 ^ k + y := by
  obtain ⟨a, rfl⟩ := Int.eq_ofNat_of_zero_le h0
  obtain ⟨b, rfl⟩ := Int.eq_ofNat_of_zero_le hy
  have e : ((a : Int) * 2 ^ k) = ((a * 2 ^ k : Nat) : Int) := by simp
  have hb : b < 2 ^ k := by
    have : ((2 ^ k : Nat) : Int) = (2 : Int) ^ k := by simp
    omega
  rw [e] at hx ⊢
  rw [i64_or_nat _ _ (by omega) (by omega)]
  rw [Nat.mul_comm a, ← Nat.two_pow_add_eq_or_of_lt hb]
  simp
theorem u8_or_add (x y : Int) (k : Nat) (h0 : 0 ≤ x) (hy : 0 ≤ y) (hk : y < 2 ^ k) (hx : x * 2 ^ k + y < 256) : bits .or .u8 (x * 2 ^ k) y = x * 2 ^ k + y := by
  obtain ⟨a, rfl⟩ := Int.eq_ofNat_of_zero_le h0
  obtain ⟨b, rfl⟩ := Int.eq_ofNat_of_zero_le hy
  have e : ((a : Int) * 2 ^ k) = ((a * 2 ^ k : Nat) : Int) := by simp
  have hb : b < 2 ^ k := by
    have : ((2 ^ k : Nat) : Int) = (2 : Int) ^ k := by simp
    omega
  rw [e] at hx ⊢
  rw [u8_or_nat _ _ (by omega) (by omega)]
  rw [Nat.mul_comm a, ← Nat.two_pow_add_eq_or_of_lt hb]
  simp

theorem u8_and63 (x : Int) (h0 : 0 ≤ x) (h1 : x < 256) : bits .and .u8 x 63 = x % 64 := u8_mask x 6 h0 h1 (by omega) _ rfl
theorem i64_or64 (x y : Int) (h0 : 0 ≤ x) (h1 : x < 100000000000) (h2 : 0 ≤ y) (h3 : y < 64) : bits .or .i64 (x * 64) y = x * 64 + y := by
  have := i64_or_add x y 6 h0 h2 (by omega) (by omega)
  simpa using this
end Go.Proofs.Ytlkkmgimjjnhjaa
namespace Go.Proofs.Ytlkkmgimjjnhjaa
open Go.RowKit Rec

def entCells (x : Ent) : List Value := [.string x.id, .string x.title, .string x.link, .string x.author, .string x.content, .bool x.has, .int .i64 x.sec]
def kptCells (x : Kpt) : List Value := entCells x.e ++ [.bool x.read]
def ents (l : List Ent) : List Value := l.flatMap entCells
def kpts (l : List Kpt) : List Value := l.flatMap kptCells

theorem ents_length (l : List Ent) : (ents l).length = l.length * 7 := by
  induction l with
  | nil => rfl
  | cons x l ih => unfold ents at ih ⊢; rw [List.flatMap_cons, List.length_append, ih, List.length_cons]; simp [entCells]; omega
theorem kpts_length (l : List Kpt) : (kpts l).length = l.length * 8 := by
  induction l with
  | nil => rfl
  | cons x l ih => unfold kpts at ih ⊢; rw [List.flatMap_cons, List.length_append, ih, List.length_cons]; simp [kptCells, entCells]; omega
theorem ents_at : ∀ (l : List Ent) (k : Nat) (hk : k < l.length) (j : Nat), j < 7 → (ents l)[k * 7 + j]? = (entCells l[k])[j]? := by
  intro l
  induction l with
  | nil => intro k hk; simp at hk
  | cons x l ih =>
    intro k hk j hj
    have hl : (entCells x).length = 7 := rfl
    unfold ents
    rw [List.flatMap_cons]
    cases k with
    | zero => rw [List.getElem?_append_left (by omega)]; simp
    | succ k =>
      rw [List.getElem?_append_right (by omega), hl, show (k + 1) * 7 + j - 7 = k * 7 + j from by omega]
      exact ih k (by simpa using hk) j hj
theorem kpts_at : ∀ (l : List Kpt) (k : Nat) (hk : k < l.length) (j : Nat), j < 8 → (kpts l)[k * 8 + j]? = (kptCells l[k])[j]? := by
  intro l
  induction l with
  | nil => intro k hk; simp at hk
  | cons x l ih =>
    intro k hk j hj
    have hl : (kptCells x).length = 8 := rfl
    unfold kpts
    rw [List.flatMap_cons]
    cases k with
    | zero => rw [List.getElem?_append_left (by omega)]; simp
    | succ k =>
      rw [List.getElem?_append_right (by omega), hl, show (k + 1) * 8 + j - 8 = k * 8 + j from by omega]
      exact ih k (by simpa using hk) j hj

/-- The cells of an entry from an offset on. -/
structure EntAt (w : World) (b o : Nat) (x : Ent) : Prop where
  c0 : w.cell? ⟨b, o, none⟩ = some (.string x.id)
  c1 : w.cell? ⟨b, o + 1, none⟩ = some (.string x.title)
  c2 : w.cell? ⟨b, o + 2, none⟩ = some (.string x.link)
  c3 : w.cell? ⟨b, o + 3, none⟩ = some (.string x.author)
  c4 : w.cell? ⟨b, o + 4, none⟩ = some (.string x.content)
  c5 : w.cell? ⟨b, o + 5, none⟩ = some (.bool x.has)
  c6 : w.cell? ⟨b, o + 6, none⟩ = some (.int .i64 x.sec)
structure KptAt (w : World) (b o : Nat) (x : Kpt) : Prop extends EntAt w b o x.e where
  c7 : w.cell? ⟨b, o + 7, none⟩ = some (.bool x.read)

theorem EntAt.keep {w w' : World} {b o : Nat} {x : Ent} (h : EntAt w b o x) (hk : ∀ i, w'.cell? ⟨b, i, none⟩ = w.cell? ⟨b, i, none⟩) : EntAt w' b o x :=
  ⟨(hk _).trans h.c0, (hk _).trans h.c1, (hk _).trans h.c2, (hk _).trans h.c3, (hk _).trans h.c4, (hk _).trans h.c5, (hk _).trans h.c6⟩
theorem KptAt.keep {w w' : World} {b o : Nat} {x : Kpt} (h : KptAt w b o x) (hk : ∀ i, w'.cell? ⟨b, i, none⟩ = w.cell? ⟨b, i, none⟩) : KptAt w' b o x :=
  ⟨h.toEntAt.keep hk, (hk _).trans h.c7⟩

section
variable {w : World} {B : Nat} {A : Option Addr}
theorem Reads.ent {l : List Ent} (h : Reads w B 7 A l.length (ents l)) {k : Nat} (hk : k < l.length) : ∃ b off, A = some ⟨b, off, none⟩ ∧ b < B ∧ EntAt w b (off + k * 7) l[k] := by
  obtain ⟨b, off, hA, hb, hc⟩ := h.2 (by omega)
  have hx := ents_at l k hk
  refine ⟨b, off, hA, hb, ?_⟩
  constructor
  · have := hc (k * 7 + 0) _ (hx 0 (by omega)); simpa using this
  · have := hc (k * 7 + 1) _ (hx 1 (by omega)); rwa [← Nat.add_assoc] at this
  · have := hc (k * 7 + 2) _ (hx 2 (by omega)); rwa [← Nat.add_assoc] at this
  · have := hc (k * 7 + 3) _ (hx 3 (by omega)); rwa [← Nat.add_assoc] at this
  · have := hc (k * 7 + 4) _ (hx 4 (by omega)); rwa [← Nat.add_assoc] at this
  · have := hc (k * 7 + 5) _ (hx 5 (by omega)); rwa [← Nat.add_assoc] at this
  · have := hc (k * 7 + 6) _ (hx 6 (by omega)); rwa [← Nat.add_assoc] at this
theorem Reads.kpt {l : List Kpt} (h : Reads w B 8 A l.length (kpts l)) {k : Nat} (hk : k < l.length) : ∃ b off, A = some ⟨b, off, none⟩ ∧ b < B ∧ KptAt w b (off + k * 8) l[k] := by
  obtain ⟨b, off, hA, hb, hc⟩ := h.2 (by omega)
  have hx := kpts_at l k hk
  refine ⟨b, off, hA, hb, ⟨⟨?_, ?_, ?_, ?_, ?_, ?_, ?_⟩, ?_⟩⟩
  · have := hc (k * 8 + 0) _ (hx 0 (by omega)); simpa using this
  · have := hc (k * 8 + 1) _ (hx 1 (by omega)); rwa [← Nat.add_assoc] at this
  · have := hc (k * 8 + 2) _ (hx 2 (by omega)); rwa [← Nat.add_assoc] at this
  · have := hc (k * 8 + 3) _ (hx 3 (by omega)); rwa [← Nat.add_assoc] at this
  · have := hc (k * 8 + 4) _ (hx 4 (by omega)); rwa [← Nat.add_assoc] at this
  · have := hc (k * 8 + 5) _ (hx 5 (by omega)); rwa [← Nat.add_assoc] at this
  · have := hc (k * 8 + 6) _ (hx 6 (by omega)); rwa [← Nat.add_assoc] at this
  · have := hc (k * 8 + 7) _ (hx 7 (by omega)); rwa [← Nat.add_assoc] at this
end

theorem str_eq (a b : ByteArray) : (a.toList = b.toList) ↔ a = b := by
  rw [ByteArray.toList_eq, ByteArray.toList_eq]
  obtain ⟨⟨x⟩⟩ := a
  obtain ⟨⟨y⟩⟩ := b
  simp
theorem str_beq (a b : ByteArray) : (a.toList == b.toList) = decide (a = b) := by
  rw [Bool.eq_iff_iff]; simp [str_eq]

theorem neq_ent (w : World) (x y : Ent) : (binOp .neq 47 (.agg #[.string x.id, .string x.title, .string x.link, .string x.author, .string x.content, .bool x.has, .int .i64 x.sec]) (.agg #[.string y.id, .string y.title, .string y.link, .string y.author, .string y.content, .bool y.has, .int .i64 y.sec])).run Try.prog w = .ok (.bool (!decide (x = y))) w := by
  go_simp
  simp only [str_eq]
  cases x; cases y
  simp only [Ent.mk.injEq]
  (repeat' split) <;> simp_all
theorem neq_kpt (w : World) (x y : Kpt) : (binOp .neq 64 (.agg #[.string x.e.id, .string x.e.title, .string x.e.link, .string x.e.author, .string x.e.content, .bool x.e.has, .int .i64 x.e.sec, .bool x.read]) (.agg #[.string y.e.id, .string y.e.title, .string y.e.link, .string y.e.author, .string y.e.content, .bool y.e.has, .int .i64 y.e.sec, .bool y.read])).run Try.prog w = .ok (.bool (!decide (x = y))) w := by
  go_simp
  simp only [str_eq]
  obtain ⟨x, xr⟩ := x
  obtain ⟨y, yr⟩ := y
  cases x; cases y
  simp only [Kpt.mk.injEq, Ent.mk.injEq]
  (repeat' split) <;> simp_all

theorem eq_take {α : Type} {l l' : List α} {k : Nat} (h1 : k < l.length) (h2 : k < l'.length) (ht : l.take k = l'.take k) (he : l[k] = l'[k]) : l.take (k + 1) = l'.take (k + 1) := by
  rw [List.take_succ_eq_append_getElem h1, List.take_succ_eq_append_getElem h2, ht, he]
theorem ne_at {α : Type} {l l' : List α} {k : Nat} (h1 : k < l.length) (h2 : k < l'.length) (he : l[k] ≠ l'[k]) : l ≠ l' := by
  rintro rfl; exact he rfl

set_option maxHeartbeats 2000000 in
theorem equal_ents (A A' : Option Addr) (c c' B : Nat) (l l' : List Ent) (w : World) (hA : Reads w B 7 A l.length (ents l)) (hA' : Reads w B 7 A' l'.length (ents l')) (hl : l.length ≤ 1000000000) (hl' : l'.length ≤ 1000000000) :
    Calls Try.prog 35 #[.slice A l.length c, .slice A' l'.length c'] w fun e w' => e = .returned (.bool (decide (l = l'))) ∧ ∃ m, w' = w.drewN m := by
  obtain ⟨n, hn⟩ : ∃ n, l.length = n := ⟨_, rfl⟩
  obtain ⟨n', hn'⟩ : ∃ n, l'.length = n := ⟨_, rfl⟩
  have HA := hide hA
  have HA' := hide hA'
  rw [hn] at hl ⊢
  rw [hn'] at hl' ⊢
  have Hn := hide hn
  have Hn' := hide hn'
  clear hn hn' hA hA'
  by_cases hne : n = n'
  · subst hne
    have ht : ((n : Int) != (n : Int)) = false := by simp
    go_enter Try.func35, Try.ntmps35
    go_wp2
    go_loopg [13] n (fun g vi wr => ∃ k : Nat, g = n - k ∧ k ≤ n ∧ vi = .int .i64 k ∧ l.take k = l'.take k ∧ ∃ m, wr = w.drewN m)
    case atStart => exact ⟨0, rfl, Nat.zero_le _, rfl, by simp, 0, rfl⟩
    case round =>
      obtain ⟨k, hg, hk, rfl, htk, m, rfl⟩ := hrel
      have Hg := hide hg
      have Htk := hide htk
      clear hg htk
      by_cases hlt : k < n
      · have h1 : k < l.length := by rw [Hn.out]; exact hlt
        have h2 : k < l'.length := by rw [Hn'.out]; exact hlt
        obtain ⟨b, off, rfl, hb, hx⟩ := HA.out.ent h1
        obtain ⟨b', off', rfl, hb', hy⟩ := HA'.out.ent h2
        obtain ⟨x, ex⟩ : ∃ x, l[k] = x := ⟨_, rfl⟩
        obtain ⟨y, ey⟩ : ∃ x, l'[k] = x := ⟨_, rfl⟩
        rw [ex] at hx
        rw [ey] at hy
        have Ex := hide ex
        have Ey := hide ey
        clear ex ey
        have x0 := hx.c0
        have x1 := hx.c1
        have x2 := hx.c2
        have x3 := hx.c3
        have x4 := hx.c4
        have x5 := hx.c5
        have x6 := hx.c6
        have y0 := hy.c0
        have y1 := hy.c1
        have y2 := hy.c2
        have y3 := hy.c3
        have y4 := hy.c4
        have y5 := hy.c5
        have y6 := hy.c6
        have hq := fun W => neq_ent W x y
        clear hx hy
        by_cases hxy : x = y
        · have hd : decide (x = y) = true := by simpa using hxy
          have Hxy := hide hxy
          clear hxy
          go_wp2
          go_quiet (fail)
          go_wp2
          go_roundg (n - (k + 1))
          case measure => have := Hg.out; omega
          case rel => exact ⟨k + 1, rfl, by omega, by go_num, eq_take h1 h2 Htk.out (by rw [Ex.out, Ey.out, Hxy.out]), by first | exact ⟨_, rfl⟩ | exact ⟨_, (World.drewN_drewN _ _ _).symm⟩ | (refine ⟨_, ?_⟩; go_simp; rfl)⟩
        · have hd : decide (x = y) = false := by simpa using hxy
          have Hxy := hide hxy
          clear hxy
          go_wp2
          go_quiet (fail)
          go_wp2
          go_ret
          exact ⟨ret_eq1 (bool_eq (by rw [eq_comm, decide_eq_false_iff_not]; exact ne_at h1 h2 (by rw [Ex.out, Ey.out]; exact Hxy.out))), _, World.drewN_drewN _ _ _⟩
      · go_wp2
        go_ret
        exact ⟨ret_eq1 (bool_eq (by rw [eq_comm, decide_eq_true_eq]; have := Htk.out; rwa [List.take_of_length_le (by rw [Hn.out]; omega), List.take_of_length_le (by rw [Hn'.out]; omega)] at this)), _, rfl⟩
  · have ht : ((n : Int) != (n' : Int)) = true := by simp; omega
    have Hne := hide hne
    clear hne
    go_enter Try.func35, Try.ntmps35
    go_wp2
    go_ret
    exact ⟨ret_eq1 (bool_eq (by rw [eq_comm, decide_eq_false_iff_not]; rintro rfl; exact Hne.out (Hn.out.symm.trans Hn'.out))), 0, rfl⟩

set_option maxHeartbeats 2000000 in
theorem equal_kpts (A A' : Option Addr) (c c' B : Nat) (l l' : List Kpt) (w : World) (hA : Reads w B 8 A l.length (kpts l)) (hA' : Reads w B 8 A' l'.length (kpts l')) (hl : l.length ≤ 1000000000) (hl' : l'.length ≤ 1000000000) :
    Calls Try.prog 37 #[.slice A l.length c, .slice A' l'.length c'] w fun e w' => e = .returned (.bool (decide (l = l'))) ∧ ∃ m, w' = w.drewN m := by
  obtain ⟨n, hn⟩ : ∃ n, l.length = n := ⟨_, rfl⟩
  obtain ⟨n', hn'⟩ : ∃ n, l'.length = n := ⟨_, rfl⟩
  have HA := hide hA
  have HA' := hide hA'
  rw [hn] at hl ⊢
  rw [hn'] at hl' ⊢
  have Hn := hide hn
  have Hn' := hide hn'
  clear hn hn' hA hA'
  by_cases hne : n = n'
  · subst hne
    have ht : ((n : Int) != (n : Int)) = false := by simp
    go_enter Try.func37, Try.ntmps37
    go_wp2
    go_loopg [13] n (fun g vi wr => ∃ k : Nat, g = n - k ∧ k ≤ n ∧ vi = .int .i64 k ∧ l.take k = l'.take k ∧ ∃ m, wr = w.drewN m)
    case atStart => exact ⟨0, rfl, Nat.zero_le _, rfl, by simp, 0, rfl⟩
    case round =>
      obtain ⟨k, hg, hk, rfl, htk, m, rfl⟩ := hrel
      have Hg := hide hg
      have Htk := hide htk
      clear hg htk
      by_cases hlt : k < n
      · have h1 : k < l.length := by rw [Hn.out]; exact hlt
        have h2 : k < l'.length := by rw [Hn'.out]; exact hlt
        obtain ⟨b, off, rfl, hb, hx⟩ := HA.out.kpt h1
        obtain ⟨b', off', rfl, hb', hy⟩ := HA'.out.kpt h2
        obtain ⟨x, ex⟩ : ∃ x, l[k] = x := ⟨_, rfl⟩
        obtain ⟨y, ey⟩ : ∃ x, l'[k] = x := ⟨_, rfl⟩
        rw [ex] at hx
        rw [ey] at hy
        have Ex := hide ex
        have Ey := hide ey
        clear ex ey
        have x0 := hx.c0
        have x1 := hx.c1
        have x2 := hx.c2
        have x3 := hx.c3
        have x4 := hx.c4
        have x5 := hx.c5
        have x6 := hx.c6
        have x7 := hx.c7
        have y0 := hy.c0
        have y1 := hy.c1
        have y2 := hy.c2
        have y3 := hy.c3
        have y4 := hy.c4
        have y5 := hy.c5
        have y6 := hy.c6
        have y7 := hy.c7
        have hq := fun W => neq_kpt W x y
        clear hx hy
        by_cases hxy : x = y
        · have hd : decide (x = y) = true := by simpa using hxy
          have Hxy := hide hxy
          clear hxy
          go_wp2
          go_quiet (fail)
          go_wp2
          go_roundg (n - (k + 1))
          case measure => have := Hg.out; omega
          case rel => exact ⟨k + 1, rfl, by omega, by go_num, eq_take h1 h2 Htk.out (by rw [Ex.out, Ey.out, Hxy.out]), by first | exact ⟨_, rfl⟩ | exact ⟨_, (World.drewN_drewN _ _ _).symm⟩ | (refine ⟨_, ?_⟩; go_simp; rfl)⟩
        · have hd : decide (x = y) = false := by simpa using hxy
          have Hxy := hide hxy
          clear hxy
          go_wp2
          go_quiet (fail)
          go_wp2
          go_ret
          exact ⟨ret_eq1 (bool_eq (by rw [eq_comm, decide_eq_false_iff_not]; exact ne_at h1 h2 (by rw [Ex.out, Ey.out]; exact Hxy.out))), _, World.drewN_drewN _ _ _⟩
      · go_wp2
        go_ret
        exact ⟨ret_eq1 (bool_eq (by rw [eq_comm, decide_eq_true_eq]; have := Htk.out; rwa [List.take_of_length_le (by rw [Hn.out]; omega), List.take_of_length_le (by rw [Hn'.out]; omega)] at this)), _, rfl⟩
  · have ht : ((n : Int) != (n' : Int)) = true := by simp; omega
    have Hne := hide hne
    clear hne
    go_enter Try.func37, Try.ntmps37
    go_wp2
    go_ret
    exact ⟨ret_eq1 (bool_eq (by rw [eq_comm, decide_eq_false_iff_not]; rintro rfl; exact Hne.out (Hn.out.symm.trans Hn'.out))), 0, rfl⟩

set_option maxHeartbeats 2000000 in
theorem same_ents (A A' : Option Addr) (c c' B : Nat) (l l' : List Ent) (w : World) (hA : Reads w B 7 A l.length (ents l)) (hA' : Reads w B 7 A' l'.length (ents l')) (hl : l.length ≤ 1000000000) (hl' : l'.length ≤ 1000000000) :
    Calls Try.prog 36 #[.slice A l.length c, .slice A' l'.length c'] w fun e w' => e = .returned (.bool (decide (l = l'))) ∧ ∃ m, w' = w.drewN m := by
  obtain ⟨n, hn⟩ : ∃ n, l.length = n := ⟨_, rfl⟩
  obtain ⟨n', hn'⟩ : ∃ n, l'.length = n := ⟨_, rfl⟩
  have HA := hide hA
  have HA' := hide hA'
  rw [hn] at hl ⊢
  rw [hn'] at hl' ⊢
  have Hn := hide hn
  have Hn' := hide hn'
  clear hn hn' hA hA'
  by_cases hne : n = n'
  · subst hne
    have ht : ((n : Int) != (n : Int)) = false := by simp
    go_enter Try.func36, Try.ntmps36
    go_wp2
    go_loopg [5] n (fun g vi wr => ∃ k : Nat, g = n - k ∧ k ≤ n ∧ vi = .int .i64 k ∧ l.take k = l'.take k ∧ ∃ m, wr = w.drewN m)
    case atStart => exact ⟨0, rfl, Nat.zero_le _, rfl, by simp, 0, rfl⟩
    case round =>
      obtain ⟨k, hg, hk, rfl, htk, m, rfl⟩ := hrel
      have Hg := hide hg
      have Htk := hide htk
      clear hg htk
      by_cases hlt : k < n
      · have h1 : k < l.length := by rw [Hn.out]; exact hlt
        have h2 : k < l'.length := by rw [Hn'.out]; exact hlt
        obtain ⟨b, off, rfl, hb, hx⟩ := HA.out.ent h1
        obtain ⟨b', off', rfl, hb', hy⟩ := HA'.out.ent h2
        obtain ⟨x, ex⟩ : ∃ x, l[k] = x := ⟨_, rfl⟩
        obtain ⟨y, ey⟩ : ∃ x, l'[k] = x := ⟨_, rfl⟩
        rw [ex] at hx
        rw [ey] at hy
        have Ex := hide ex
        have Ey := hide ey
        clear ex ey
        have x0 := hx.c0
        have x1 := hx.c1
        have x2 := hx.c2
        have x3 := hx.c3
        have x4 := hx.c4
        have x5 := hx.c5
        have x6 := hx.c6
        have y0 := hy.c0
        have y1 := hy.c1
        have y2 := hy.c2
        have y3 := hy.c3
        have y4 := hy.c4
        have y5 := hy.c5
        have y6 := hy.c6
        have hq := fun W => neq_ent W x y
        clear hx hy
        by_cases hxy : x = y
        · have hd : decide (x = y) = true := by simpa using hxy
          have Hxy := hide hxy
          clear hxy
          go_wp2
          go_quiet (fail)
          go_wp2
          go_roundg (n - (k + 1))
          case measure => have := Hg.out; omega
          case rel => exact ⟨k + 1, rfl, by omega, by go_num, eq_take h1 h2 Htk.out (by rw [Ex.out, Ey.out, Hxy.out]), by first | exact ⟨_, rfl⟩ | exact ⟨_, (World.drewN_drewN _ _ _).symm⟩ | (refine ⟨_, ?_⟩; go_simp; rfl)⟩
        · have hd : decide (x = y) = false := by simpa using hxy
          have Hxy := hide hxy
          clear hxy
          go_wp2
          go_quiet (fail)
          go_wp2
          go_ret
          exact ⟨ret_eq1 (bool_eq (by rw [eq_comm, decide_eq_false_iff_not]; exact ne_at h1 h2 (by rw [Ex.out, Ey.out]; exact Hxy.out))), _, World.drewN_drewN _ _ _⟩
      · go_wp2
        go_ret
        exact ⟨ret_eq1 (bool_eq (by rw [eq_comm, decide_eq_true_eq]; have := Htk.out; rwa [List.take_of_length_le (by rw [Hn.out]; omega), List.take_of_length_le (by rw [Hn'.out]; omega)] at this)), _, rfl⟩
  · have ht : ((n : Int) != (n' : Int)) = true := by simp; omega
    have Hne := hide hne
    clear hne
    go_enter Try.func36, Try.ntmps36
    go_wp2
    go_ret
    exact ⟨ret_eq1 (bool_eq (by rw [eq_comm, decide_eq_false_iff_not]; rintro rfl; exact Hne.out (Hn.out.symm.trans Hn'.out))), 0, rfl⟩
end Go.Proofs.Ytlkkmgimjjnhjaa
namespace Go.Proofs.Ytlkkmgimjjnhjaa
open Go.RowKit Rec

theorem Reads.later {w w' : World} {size n : Nat} {A : Option Addr} {xs : List Value} (h : Reads w w.heap.size size A n xs) (hb : Below w.heap.size w w') : Reads w' w'.heap.size size A n xs := (h.below hb).more hb.size

theorem below2 (w : World) (o o' : Obj) : Below w.heap.size w ((w.alloc o).alloc o') := ((Below.refl _ _).alloc (Nat.le_refl _) o).alloc (by simp) o'
theorem below_drewN {B : Nat} {a w : World} (h : Below B a w) (n : Nat) : Below B a (w.drewN n) := ⟨h.os, h.tape, h.output, h.size, h.block⟩

set_option maxHeartbeats 1000000 in
theorem sameSub_any (u u' : ByteArray) (A A' : Option Addr) (c c' : Nat) (l l' : List Kpt) (w : World) (hA : Reads w w.heap.size 8 A l.length (kpts l)) (hA' : Reads w w.heap.size 8 A' l'.length (kpts l')) (hl : l.length ≤ 1000000000) (hl' : l'.length ≤ 1000000000) :
    Calls Try.prog 19 #[.agg #[.string u, .slice A l.length c], .agg #[.string u', .slice A' l'.length c']] w fun e w' => e = .returned (.bool (decide (u = u') && decide (l = l'))) ∧ Below w.heap.size w w' := by
  have hs := str_beq u u'
  rcases Bool.eq_false_or_eq_true (decide (u = u')) with h | h
  · rw [h] at hs ⊢
    have HE := hide (fun (W : World) (hb : Below w.heap.size w W) => equal_kpts A A' c c' W.heap.size l l' W (hA.later hb) (hA'.later hb) hl hl')
    clear hA hA' h
    go_enter Try.func19, Try.ntmps19
    go_wp2_with (go_at_call 37; refine (HE.out _ (below2 _ _ _)).mono ?_; rintro e w' ⟨rfl, m, rfl⟩)
    go_ret
    exact ⟨ret_eq1 (bool_eq (by simp)), below_drewN (below2 _ _ _) _⟩
  · rw [h] at hs ⊢
    clear hA hA' h
    go_enter Try.func19, Try.ntmps19
    go_wp2
    go_ret
    exact ⟨ret_eq1 (bool_eq (by simp)), below2 _ _ _⟩

set_option maxHeartbeats 2000000 in
theorem refSameSub_any (u u' : ByteArray) (A A' : Option Addr) (c c' : Nat) (l l' : List Kpt) (w : World) (hA : Reads w w.heap.size 8 A l.length (kpts l)) (hA' : Reads w w.heap.size 8 A' l'.length (kpts l')) (hl : l.length ≤ 1000000000) (hl' : l'.length ≤ 1000000000) :
    Calls Try.prog 20 #[.agg #[.string u, .slice A l.length c], .agg #[.string u', .slice A' l'.length c']] w fun e w' => e = .returned (.bool (decide (u = u') && decide (l = l'))) ∧ Below w.heap.size w w' := by
  obtain ⟨n, hn⟩ : ∃ n, l.length = n := ⟨_, rfl⟩
  obtain ⟨n', hn'⟩ : ∃ n, l'.length = n := ⟨_, rfl⟩
  have HA := hide hA
  have HA' := hide hA'
  rw [hn] at hl ⊢
  rw [hn'] at hl' ⊢
  have Hn := hide hn
  have Hn' := hide hn'
  clear hn hn' hA hA'
  have hs := str_beq u u'
  rcases Bool.eq_false_or_eq_true (decide (u = u')) with h | h
  · rw [h] at hs ⊢
    clear h
    by_cases hne : n = n'
    · subst hne
      have ht : ((n : Int) != (n : Int)) = false := by simp
      go_enter Try.func20, Try.ntmps20
      go_wp2
      have k0 := Blk.new w 26 #[.string u, .slice A n c]
      have k1 := Blk.new (w.alloc (.cells #[.string u, .slice A n c] 26)) 26 #[.string u', .slice A' n c']
      have k2 := k0.alloc (.cells #[.string u', .slice A' n c'] 26)
      rw [World.size_alloc] at k1
      have kb := below2 w (.cells #[.string u, .slice A n c] 26) (.cells #[.string u', .slice A' n c'] 26)
      obtain ⟨W0, hW0⟩ : ∃ W0, (w.alloc (.cells #[.string u, .slice A n c] 26)).alloc (.cells #[.string u', .slice A' n c'] 26) = W0 := ⟨_, rfl⟩
      rw [hW0] at k1 k2 kb ⊢
      have HK := hide (And.intro k1 k2)
      have q0 := k2.cell 1
      have q1 := k1.cell 1
      have HA0 := hide (HA.out.below kb)
      have HA0' := hide (HA'.out.below kb)
      have Kb := hide kb
      clear k0 k1 k2 kb hW0
      go_loopg [5] n (fun g vi wr => ∃ k : Nat, g = n - k ∧ k ≤ n ∧ vi = .int .i64 k ∧ l.take k = l'.take k ∧ ∃ m, wr = W0.drewN m)
      case atStart => exact ⟨0, rfl, Nat.zero_le _, rfl, by simp, 0, rfl⟩
      case round =>
        obtain ⟨k, hg, hk, rfl, htk, m, rfl⟩ := hrel
        have Hg := hide hg
        have Htk := hide htk
        clear hg htk
        by_cases hlt : k < n
        · have h1 : k < l.length := by rw [Hn.out]; exact hlt
          have h2 : k < l'.length := by rw [Hn'.out]; exact hlt
          have HA1 := HA0.out
          have HA1' := HA0'.out
          obtain ⟨b, off, rfl, hb, hx⟩ := HA1.kpt h1
          obtain ⟨b', off', rfl, hb', hy⟩ := HA1'.kpt h2
          clear HA1 HA1'
          obtain ⟨x, ex⟩ : ∃ x, l[k] = x := ⟨_, rfl⟩
          obtain ⟨y, ey⟩ : ∃ x, l'[k] = x := ⟨_, rfl⟩
          rw [ex] at hx
          rw [ey] at hy
          have Ex := hide ex
          have Ey := hide ey
          clear ex ey
          have x0 := hx.c0
          have x1 := hx.c1
          have x2 := hx.c2
          have x3 := hx.c3
          have x4 := hx.c4
          have x5 := hx.c5
          have x6 := hx.c6
          have x7 := hx.c7
          have y0 := hy.c0
          have y1 := hy.c1
          have y2 := hy.c2
          have y3 := hy.c3
          have y4 := hy.c4
          have y5 := hy.c5
          have y6 := hy.c6
          have y7 := hy.c7
          have hq := fun W => neq_kpt W x y
          clear hx hy
          by_cases hxy : x = y
          · have hd : decide (x = y) = true := by simpa using hxy
            have Hxy := hide hxy
            clear hxy
            go_wp2
            go_quiet (fail)
            go_wp2
            go_roundg (n - (k + 1))
            case measure => have := Hg.out; omega
            case rel => exact ⟨k + 1, rfl, by omega, by go_num, eq_take h1 h2 Htk.out (by rw [Ex.out, Ey.out, Hxy.out]), by first | exact ⟨_, rfl⟩ | exact ⟨_, (World.drewN_drewN _ _ _).symm⟩ | (refine ⟨_, ?_⟩; go_simp; rfl)⟩
          · have hd : decide (x = y) = false := by simpa using hxy
            have Hxy := hide hxy
            clear hxy
            go_wp2
            go_quiet (fail)
            go_wp2
            go_ret
            exact ⟨ret_eq1 (bool_eq (by rw [Bool.true_and, eq_comm, decide_eq_false_iff_not]; exact ne_at h1 h2 (by rw [Ex.out, Ey.out]; exact Hxy.out))), below_drewN (below_drewN Kb.out _) _⟩
        · go_wp2
          go_ret
          exact ⟨ret_eq1 (bool_eq (by rw [Bool.true_and, eq_comm, decide_eq_true_eq]; have := Htk.out; rwa [List.take_of_length_le (by rw [Hn.out]; omega), List.take_of_length_le (by rw [Hn'.out]; omega)] at this)), below_drewN Kb.out _⟩
    · have ht : ((n : Int) != (n' : Int)) = true := by simp; omega
      have Hne := hide hne
      clear hne
      go_enter Try.func20, Try.ntmps20
      go_wp2
      go_ret
      exact ⟨ret_eq1 (bool_eq (by rw [Bool.true_and, eq_comm, decide_eq_false_iff_not]; rintro rfl; exact Hne.out (Hn.out.symm.trans Hn'.out))), below2 _ _ _⟩
  · rw [h] at hs ⊢
    clear h
    go_enter Try.func20, Try.ntmps20
    go_wp2
    go_ret
    exact ⟨ret_eq1 (bool_eq (by simp)), below2 _ _ _⟩
end Go.Proofs.Ytlkkmgimjjnhjaa
