/- How great records are. · The reader's fields. · The reader's numbers, texts, flags. · The reader's numbers, when there are none. · The reader's flags. · The reader's fields by a plain parser. · The reader's 'many'. · The reader's entry. · The reader's entry, walked. -/
import Derived.Test.YtlkkmgimjjnhjaaMA16
set_option linter.unusedSimpArgs false
set_option linter.unusedVariables false
namespace Go.Proofs.Ytlkkmgimjjnhjaa
open Go.RowKit Rec

namespace Rec
def m7 (s : ByteArray) : Nat := min s.size 70000
def esz (x : Ent) : Nat := 1 + m7 x.id + m7 x.title + m7 x.link + m7 x.author + m7 x.content
def esum (l : List Ent) : Nat := (l.map esz).sum
def rsz (l : List Ent) : Nat := if 60 < l.length then 1048576 else esum l
def rSize (r : Rcd) : Nat := if 60 < r.kept.length then 1048576 else rsz r.entries + rsz (r.kept.map (·.e)) + m7 r.id + m7 r.url + m7 r.surl
def great (l : List Rcd) : Bool := decide (100 < l.length) || decide (30000 < (l.map rSize).sum)
end Rec
theorem m7_le (s : ByteArray) : m7 s ≤ 70000 := by unfold m7; omega
theorem esz_le (x : Ent) : esz x ≤ 350001 := by
  unfold esz
  have := m7_le x.id
  have := m7_le x.title
  have := m7_le x.link
  have := m7_le x.author
  have := m7_le x.content
  omega
theorem esum_next (l : List Ent) (k : Nat) (h : k < l.length) : esum (l.take (k + 1)) = esum (l.take k) + esz l[k] := by
  unfold esum
  rw [List.take_succ_eq_append_getElem h, List.map_append, List.sum_append]; simp
theorem esum_le (l : List Ent) (k : Nat) : esum (l.take k) ≤ 350001 * k := by
  unfold esum
  induction k generalizing l with
  | zero => simp
  | succ k ih =>
    cases l with
    | nil => simp
    | cons x l =>
      have := ih l
      have := esz_le x
      simp only [List.take_succ_cons, List.map_cons, List.sum_cons]
      omega

set_option maxHeartbeats 1000000 in
theorem size_any (A : Option Addr) (c : Nat) (l : List Ent) (w : World) (hA : Reads w w.heap.size 7 A l.length (ents l)) (hl : l.length ≤ maxLen) :
    Calls Try.prog 46 #[.slice A l.length c] w fun e w' => e = .returned (.int .i64 (rsz l)) ∧ Below w.heap.size w w' := by
  obtain ⟨n, hn⟩ : ∃ n, l.length = n := ⟨_, rfl⟩
  have HA := hide hA
  have hl' : (n : Int) ≤ 9223372036854775807 := by rw [← hn]; unfold maxLen at hl; omega
  have HR := hide (show rsz l = if 60 < n then 1048576 else esum l from by unfold rsz; rw [hn])
  rw [hn] at ⊢
  have Hn := hide hn
  clear hn hA hl
  go_enter Try.func46, Try.ntmps46
  go_wp2
  go_loopg [3, 4] 61 (fun g vn vi wr => ∃ k : Nat, g = 61 - k ∧ k ≤ 61 ∧ k ≤ n ∧ vi = .int .i64 k ∧ vn = .int .i64 (esum (l.take k)) ∧ Below w.heap.size w wr)
  case atStart => exact ⟨0, rfl, by omega, by omega, rfl, rfl, Below.refl _ _⟩
  case round =>
    obtain ⟨k, hg, hk, hkn, rfl, rfl, kb⟩ := hrel
    have Hg := hide hg
    have Kb := hide kb
    obtain ⟨z, hz⟩ : ∃ z, esum (l.take k) = z := ⟨_, rfl⟩
    have hz1 : z ≤ 21350061 := by have := esum_le l k; omega
    rw [hz]
    have Hz := hide hz
    clear hg hz kb
    by_cases hlt : k < n
    · by_cases h60 : k ≤ 60
      · have h1 : k < l.length := by rw [Hn.out]; exact hlt
        obtain ⟨b, off, rfl, hb, hx⟩ := (HA.out.below Kb.out).ent h1
        obtain ⟨x, ex⟩ : ∃ x, l[k] = x := ⟨_, rfl⟩
        rw [ex] at hx
        have Ex := hide ex
        have x0 := hx.c0
        have x1 := hx.c1
        have x2 := hx.c2
        have x3 := hx.c3
        have x4 := hx.c4
        have x5 := hx.c5
        have x6 := hx.c6
        clear hx ex
        have Kb' := hide (Kb.out.trans ((below_alloc wr (.cells #[.string x.id, .string x.title, .string x.link, .string x.author, .string x.content, .bool x.has, .int .i64 x.sec] 47)).mono Kb.out.size))
        go_wp2
        all_goals
          go_roundg (61 - (k + 1))
          case measure => have := Hg.out; omega
          case rel => exact ⟨k + 1, rfl, by omega, by omega, by go_num, int_eq (by rw [esum_next l k h1, Hz.out, Ex.out]; unfold esz m7; omega), Kb'.out⟩
      · go_wp2
        go_ret
        exact ⟨ret_eq1 (int_eq (by rw [HR.out, if_pos (by omega)]; rfl)), Kb.out⟩
    · have hkn' : k = n := by omega
      have hz2 : z = esum l := by rw [← Hz.out, List.take_of_length_le (by rw [Hn.out]; omega)]
      have Hz2 := hide hz2
      clear hz2
      go_wp2
      · go_ret
        exact ⟨ret_eq1 (int_eq (by rw [HR.out, if_pos (by omega)]; rfl)), Kb.out⟩
      · go_ret
        exact ⟨ret_eq1 (int_eq (by rw [HR.out, if_neg (by omega), Hz2.out])), Kb.out⟩
end Go.Proofs.Ytlkkmgimjjnhjaa
namespace Go.Proofs.Ytlkkmgimjjnhjaa
open Go.RowKit Rec

/-- Nothing that was there has turned, but block R. -/
structure But (R : Nat) (w w' : World) : Prop where
  os : w'.os = w.os
  tape : w'.tape = w.tape
  output : w'.output = w.output
  size : w.heap.size ≤ w'.heap.size
  block : ∀ k, k < w.heap.size → k ≠ R → w'.heap[k]? = w.heap[k]?
section
variable {R : Nat} {w w1 w' : World}
theorem But.refl (R : Nat) (w : World) : But R w w := ⟨rfl, rfl, rfl, Nat.le_refl _, fun _ _ _ => rfl⟩
theorem But.trans (h : But R w w1) (k : But R w1 w') : But R w w' :=
  ⟨k.os.trans h.os, k.tape.trans h.tape, k.output.trans h.output, Nat.le_trans h.size k.size, fun i hi hb => (k.block i (Nat.lt_of_lt_of_le hi h.size) hb).trans (h.block i hi hb)⟩
theorem But.below {B : Nat} (h : But R w w') (hb : B ≤ R) (hs : B ≤ w.heap.size) : Below B w w' := ⟨h.os, h.tape, h.output, h.size, fun k hk => h.block k (by omega) (by omega)⟩
theorem But.of_below (h : Below w.heap.size w w') : But R w w' := ⟨h.os, h.tape, h.output, h.size, fun k hk _ => h.block k hk⟩
theorem But.blk {g t' : Nat} {cs : Array Value} (h : But R w w') (hg : Blk w g t' cs) (hb : g ≠ R) : Blk w' g t' cs := (h.block g hg.lt hb).trans hg
theorem But.alloc (h : But R w w1) (o : Obj) : But R w (w1.alloc o) := h.trans ⟨rfl, rfl, rfl, by simp, fun k hk _ => Below.heap_alloc _ _ _ hk⟩
theorem But.drew (h : But R w w1) : But R w w1.drew := ⟨h.os, h.tape, h.output, h.size, h.block⟩
theorem But.setCell (h : But R w w1) {p : Addr} (hp : p.block = R ∨ w.heap.size ≤ p.block) (u : Value) : But R w (w1.setCell p u) := by
  refine ⟨h.os, h.tape, h.output, by simpa [World.setCell] using h.size, fun k hk hb => ?_⟩
  rw [Below.heap_setCell _ _ _ _ (by omega)]
  exact h.block k hk hb
end

/-- The reader at block R: the bytes that are left, whether they were bad. -/
def Rd (w : World) (R : Nat) (s : ByteArray) (bad : Bool) : Prop := Blk w R 67 #[.string s, .bool bad]

theorem take_bad (n : Nat) (w : World) (R : Nat) (s : ByteArray) (bad : Bool) (hR : Rd w R s bad) (h : bad = true ∨ s.size < n) :
    Calls Try.prog 64 #[.pointer (some ⟨R, 0, none⟩), .int .i64 n] w fun e w' => e = .returned (.string ⟨#[]⟩) ∧ Rd w' R s true ∧ But R w w' := by
  have q0 := hR.cell 0
  have q1 := hR.cell 1
  have f1 := hR.frozen 1
  have HR := hide hR
  clear hR
  cases bad
  · have h' : (s.size : Int) < n := by simp at h; omega
    clear h
    go_enter Try.func64, Try.ntmps64
    go_wp2
    go_ret
    exact ⟨rfl, by have := HR.out.set_ 1 (.bool true); unfold Rd; simpa using this, (But.refl R w).setCell (.inl rfl) _⟩
  · clear h
    go_enter Try.func64, Try.ntmps64
    go_wp2
    go_ret
    exact ⟨rfl, by have := HR.out.set_ 1 (.bool true); unfold Rd; simpa using this, (But.refl R w).setCell (.inl rfl) _⟩

theorem take_ok (n : Nat) (w : World) (R : Nat) (s : ByteArray) (hR : Rd w R s false) (h : n ≤ s.size) :
    Calls Try.prog 64 #[.pointer (some ⟨R, 0, none⟩), .int .i64 n] w fun e w' => e = .returned (.string (s.extract 0 n)) ∧ Rd w' R (s.extract n s.size) false ∧ But R w w' := by
  have q0 := hR.cell 0
  have q1 := hR.cell 1
  have f0 := hR.frozen 0
  have f1 := hR.frozen 1
  have h' : (n : Int) ≤ s.size := by omega
  have HR := hide hR
  clear hR
  go_enter Try.func64, Try.ntmps64
  go_wp2
  go_ret
  exact ⟨rfl, by have := HR.out.set_ 0 (.string (s.extract n s.size)); unfold Rd; simpa using this, (But.refl R w).setCell (.inl rfl) _⟩

theorem bstr_size (l : List UInt8) : (bstr l).size = l.length := by simp [bstr, ByteArray.size]
theorem bstr_toList (s : ByteArray) : bstr s.data.toList = s := by
  obtain ⟨⟨x⟩⟩ := s
  rfl
theorem bstr_take (l : List UInt8) (n : Nat) : (bstr l).extract 0 n = bstr (l.take n) := by
  unfold bstr
  rw [ByteArray.ext_iff]
  simp
theorem bstr_drop (l : List UInt8) (n : Nat) : (bstr l).extract n (bstr l).size = bstr (l.drop n) := by
  unfold bstr
  rw [ByteArray.ext_iff]
  simp [ByteArray.size]
  rw [List.take_of_length_le (by simp)]

/-- The reader holds the bytes l. -/
def Rl (w : World) (R : Nat) (l : List UInt8) (bad : Bool) : Prop := Rd w R (bstr l) bad
theorem take_list (n : Nat) (w : World) (R : Nat) (l : List UInt8) (bad : Bool) (hR : Rl w R l bad) :
    Calls Try.prog 64 #[.pointer (some ⟨R, 0, none⟩), .int .i64 n] w fun e w' =>
      (if bad = true ∨ l.length < n then e = .returned (.string ⟨#[]⟩) ∧ Rl w' R l true else e = .returned (.string (bstr (l.take n))) ∧ Rl w' R (l.drop n) false) ∧ But R w w' := by
  by_cases h : bad = true ∨ l.length < n
  · refine (take_bad n w R (bstr l) bad hR (by rw [bstr_size]; exact h)).mono ?_
    rintro e w' ⟨h1, h2, h3⟩
    rw [if_pos h]
    exact ⟨⟨h1, h2⟩, h3⟩
  · have hb : bad = false := by cases bad <;> simp_all
    subst hb
    refine (take_ok n w R (bstr l) hR (by rw [bstr_size]; simp at h; exact h)).mono ?_
    rintro e w' ⟨h1, h2, h3⟩
    rw [if_neg h]
    rw [bstr_take] at h1
    rw [bstr_drop] at h2
    exact ⟨⟨h1, h2⟩, h3⟩
end Go.Proofs.Ytlkkmgimjjnhjaa
namespace Go.Proofs.Ytlkkmgimjjnhjaa
open Go.RowKit Rec

namespace Rec
/-- A number out of its bytes, the lowest first. -/
def leN : List UInt8 → Nat
  | [] => 0
  | b :: l => b.toNat + 256 * leN l
end Rec
theorem leN_snoc (l : List UInt8) (b : UInt8) : leN (l ++ [b]) = leN l + b.toNat * 256 ^ l.length := by
  induction l with
  | nil => simp [leN]
  | cons x l ih =>
    simp only [List.cons_append, leN, ih, List.length_cons, Nat.pow_succ]
    rw [Nat.mul_add, ← Nat.mul_assoc, Nat.mul_comm 256 b.toNat, Nat.mul_assoc, Nat.mul_comm 256 (256 ^ l.length)]
    omega
theorem leN_lt (l : List UInt8) : leN l < 256 ^ l.length := by
  induction l with
  | nil => simp [leN]
  | cons x l ih =>
    have := x.toNat_lt
    simp only [leN, List.length_cons, Nat.pow_succ]
    omega
theorem leN_next (l : List UInt8) (k : Nat) (h : k < l.length) : leN (l.take (k + 1)) = leN (l.take k) + l[k].toNat * 256 ^ k := by
  rw [List.take_succ_eq_append_getElem h, leN_snoc, List.length_take, Nat.min_eq_left (Nat.le_of_lt h)]
theorem shl_byte {P : Program} (b k : Nat) (hb : b < 256) (hk : k < 4) (w : World) : (Op.shift .shl .i64 (b : Int) .i64 (IntKind.i64.wrap (8 * (k : Int)))).run P w = .ok (.int .i64 ((b * 256 ^ k : Nat) : Int)) w := by
  have hw : IntKind.i64.wrap (8 * (k : Int)) = 8 * (k : Int) := IntWalk.i64_in _ (by omega)
  rw [hw, shift_shl_any _ _ _ _ (by omega)]
  have h1 : min (8 * (k : Int)).toNat IntKind.i64.bits = 8 * k := by
    have : IntKind.i64.bits = 64 := rfl
    omega
  have h2 : (2 : Int) ^ (8 * k) = ((256 ^ k : Nat) : Int) := by
    have : k = 0 ∨ k = 1 ∨ k = 2 ∨ k = 3 := by omega
    rcases this with rfl | rfl | rfl | rfl <;> rfl
  rw [h1, h2, ← Int.natCast_mul]
  have h3 : b * 256 ^ k < 9223372036854775808 := by
    have : k = 0 ∨ k = 1 ∨ k = 2 ∨ k = 3 := by omega
    rcases this with rfl | rfl | rfl | rfl <;> simp <;> omega
  rw [show IntKind.i64.wrap ((b * 256 ^ k : Nat) : Int) = ((b * 256 ^ k : Nat) : Int) from IntWalk.i64_in _ (by omega)]
  rfl
theorem shl_form (z b k : Nat) (hb : b < 256) (hk : k < 4) : bits .or .i64 (z : Int) (wrap64 (wrap64 (b : Int) * 2 ^ (8 * k))) = bits .or .i64 (z : Int) ((b * 256 ^ k : Nat) : Int) := by
  have h1 : wrap64 (b : Int) = b := by unfold wrap64; omega
  have h2 : (2 : Int) ^ (8 * k) = ((256 ^ k : Nat) : Int) := by
    have : k = 0 ∨ k = 1 ∨ k = 2 ∨ k = 3 := by omega
    rcases this with rfl | rfl | rfl | rfl <;> rfl
  have h3 : b * 256 ^ k < 9223372036854775808 := by
    have : k = 0 ∨ k = 1 ∨ k = 2 ∨ k = 3 := by omega
    rcases this with rfl | rfl | rfl | rfl <;> simp <;> omega
  rw [h1, h2, ← Int.natCast_mul]
  have h4 : wrap64 ((b * 256 ^ k : Nat) : Int) = ((b * 256 ^ k : Nat) : Int) := by unfold wrap64; omega
  rw [h4]
theorem or_byte (z b k : Nat) (hz : z < 256 ^ k) (hb : b < 256) (hk : k < 4) : bits .or .i64 (z : Int) ((b * 256 ^ k : Nat) : Int) = ((z + b * 256 ^ k : Nat) : Int) := by
  have hlt : (256 : Nat) ^ k ≤ 16777216 := by
    have : k = 0 ∨ k = 1 ∨ k = 2 ∨ k = 3 := by omega
    rcases this with rfl | rfl | rfl | rfl <;> simp
  have hm : b * 256 ^ k < 9223372036854775808 := Nat.lt_of_le_of_lt (Nat.mul_le_mul (Nat.le_of_lt hb) hlt) (by omega)
  rw [i64_or_nat z (b * 256 ^ k) (by omega) hm]
  congr 1
  have h2 : 256 ^ k = 2 ^ (8 * k) := by rw [Nat.pow_mul]
  rw [h2] at hz ⊢
  rw [Nat.or_comm, Nat.mul_comm, ← Nat.two_pow_add_eq_or_of_lt hz]
  omega

theorem take_yes (n : Nat) (w : World) (R : Nat) (l : List UInt8) (hR : Rl w R l false) (h : n ≤ l.length) :
    Calls Try.prog 64 #[.pointer (some ⟨R, 0, none⟩), .int .i64 n] w fun e w' => e = .returned (.string (bstr (l.take n))) ∧ Rl w' R (l.drop n) false ∧ But R w w' := by
  refine (take_ok n w R (bstr l) hR (by rw [bstr_size]; exact h)).mono ?_
  rintro e w' ⟨h1, h2, h3⟩
  rw [bstr_take] at h1
  rw [bstr_drop] at h2
  exact ⟨h1, h2, h3⟩
theorem take_no (n : Nat) (w : World) (R : Nat) (l : List UInt8) (bad : Bool) (hR : Rl w R l bad) (h : bad = true ∨ l.length < n) :
    Calls Try.prog 64 #[.pointer (some ⟨R, 0, none⟩), .int .i64 n] w fun e w' => e = .returned (.string ⟨#[]⟩) ∧ Rl w' R l true ∧ But R w w' :=
  (take_bad n w R (bstr l) bad hR (by rw [bstr_size]; exact h)).mono fun e w' h => h
/-- What a number is read as. -/
theorem index_byte (l : List UInt8) (k : Nat) (h : k < l.length) (w : World) : (Instr.index 9 (.string (bstr l)) (.int .i64 k)).run Try.prog w = .ok (.int .u8 ((l[k].toNat : Nat) : Int)) w := by
  have h1 : (bstr l).size = l.length := bstr_size l
  have h2 : (0 : Int) ≤ (k : Int) := by omega
  have h3 : (k : Int) < ((bstr l).size : Int) := by omega
  go_simp
  rfl

set_option maxHeartbeats 1000000 in
theorem number_ok (w : World) (R : Nat) (l : List UInt8) (hR : Rl w R l false) (h : 4 ≤ l.length) :
    Calls Try.prog 65 #[.pointer (some ⟨R, 0, none⟩)] w fun e w' => e = .returned (.int .i64 (leN (l.take 4))) ∧ Rl w' R (l.drop 4) false ∧ But R w w' := by
  have HT := hide (show Calls Try.prog 64 #[.pointer (some ⟨R, 0, none⟩), .int .i64 4] w fun e w' => e = .returned (.string (bstr (l.take 4))) ∧ Rl w' R (l.drop 4) false ∧ But R w w' from take_yes 4 w R l hR h)
  obtain ⟨t, ht⟩ : ∃ t, l.take 4 = t := ⟨_, rfl⟩
  have htl : t.length = 4 := by rw [← ht]; simp; omega
  rw [ht] at HT
  rw [ht]
  have hsz : (bstr t).size = 4 := by rw [bstr_size, htl]
  have HI := hide fun k hk w => index_byte t k (by rw [htl]; exact hk) w
  have HN := hide fun k hk => leN_next t k (by rw [htl]; exact hk)
  have Htl := hide htl
  obtain ⟨b, hb⟩ : ∃ b, bstr t = b := ⟨_, rfl⟩
  rw [hb] at HT HI hsz
  clear ht hb h hR
  go_enter Try.func65, Try.ntmps65
  go_wp2_with (go_at_call 64; refine HT.out.mono ?_; rintro e w1 ⟨rfl, hr, hb⟩; have HR1 := hide hr; have HB1 := hide hb; clear hr hb)
  go_loopg [2, 9] 4 (fun g vn vi wr => ∃ k : Nat, g = 4 - k ∧ k ≤ 4 ∧ vi = .int .i64 k ∧ vn = .int .i64 (leN (t.take k)) ∧ wr = w1)
  case atStart => exact ⟨0, rfl, by omega, rfl, rfl, rfl⟩
  case round =>
    obtain ⟨k, hg, hk, rfl, rfl, rfl⟩ := hrel
    have Hg := hide hg
    obtain ⟨z, hz⟩ : ∃ z, leN (t.take k) = z := ⟨_, rfl⟩
    have hz1 : z < 256 ^ k := by
      have h1 := leN_lt (t.take k)
      rw [hz, List.length_take, htl, Nat.min_eq_left hk] at h1
      exact h1
    have Hz1 := hide hz1
    rw [hz]
    have Hz := hide hz
    clear hg hz hz1
    by_cases hlt : k < 4
    · have hix := HI.out k hlt
      have hnx := HN.out k hlt
      obtain ⟨c, hc⟩ : ∃ c, (t[k]'(by rw [htl]; exact hlt)).toNat = c := ⟨_, rfl⟩
      have hc8 : c < 256 := by rw [← hc]; exact UInt8.toNat_lt _
      rw [hc] at hix hnx
      rw [Hz.out] at hnx
      have HX := hide hnx
      have Hor := (shl_form z c k hc8 hlt).trans (or_byte z c k Hz1.out hc8 hlt)
      obtain ⟨m, hm⟩ : ∃ m, c * 256 ^ k = m := ⟨_, rfl⟩
      rw [hm] at Hor hnx
      obtain ⟨y, hy⟩ : ∃ y, z + m = y := ⟨_, rfl⟩
      rw [hy] at Hor hnx
      have HX2 := hide hnx
      have Hor2 := hide Hor
      clear Hor hm hy hnx hc HX hc8
      go_wp2
      go_roundg (4 - (k + 1))
      case measure => have := Hg.out; omega
      case rel => exact ⟨k + 1, rfl, by omega, by go_num, by rw [HX2.out]; exact int_eq Hor2.out, rfl⟩
    · have hk4 : k = 4 := by omega
      have Hz4 : Hid (z = leN t) := hide (by rw [← Hz.out, hk4, List.take_of_length_le (by rw [htl]; omega)])
      clear hk4
      go_wp2
      go_ret
      exact ⟨ret_eq1 (int_eq (by rw [Hz4.out])), HR1.out, HB1.out⟩
end Go.Proofs.Ytlkkmgimjjnhjaa
namespace Go.Proofs.Ytlkkmgimjjnhjaa
open Go.RowKit Rec

set_option maxHeartbeats 1000000 in
theorem number_no (w : World) (R : Nat) (l : List UInt8) (bad : Bool) (hR : Rl w R l bad) (h : bad = true ∨ l.length < 4) :
    Calls Try.prog 65 #[.pointer (some ⟨R, 0, none⟩)] w fun e w' => e = .returned (.int .i64 0) ∧ Rl w' R l true ∧ But R w w' := by
  have HT := hide (show Calls Try.prog 64 #[.pointer (some ⟨R, 0, none⟩), .int .i64 4] w fun e w' => e = .returned (.string ⟨#[]⟩) ∧ Rl w' R l true ∧ But R w w' from take_no 4 w R l bad hR h)
  clear h hR
  go_enter Try.func65, Try.ntmps65
  go_wp2_with (go_at_call 64; refine HT.out.mono ?_; rintro e w1 ⟨rfl, hr, hb⟩; have HR1 := hide hr; have HB1 := hide hb; clear hr hb)
  refine wp_loop_rounds 1 ?_
  rw [rounds_succ]
  go_wp2
  go_ret
  exact ⟨rfl, HR1.out, HB1.out⟩

set_option maxHeartbeats 1000000 in
theorem text_ok (w : World) (R : Nat) (l : List UInt8) (hR : Rl w R l false) (h : 4 ≤ l.length) (h2 : leN (l.take 4) ≤ (l.drop 4).length) :
    Calls Try.prog 66 #[.pointer (some ⟨R, 0, none⟩)] w fun e w' => e = .returned (.string (bstr ((l.drop 4).take (leN (l.take 4))))) ∧ Rl w' R ((l.drop 4).drop (leN (l.take 4))) false ∧ But R w w' := by
  have HN := hide (number_ok w R l hR h)
  have HT := hide fun W hW => take_yes (leN (l.take 4)) W R (l.drop 4) hW h2
  generalize leN (l.take 4) = n at *
  generalize l.drop 4 = d at *
  clear hR h h2
  go_enter Try.func66, Try.ntmps66
  go_wp2_with fail
  refine HN.out.mono ?_
  rintro e w1 ⟨rfl, hr, hb⟩
  have HR1 := hide hr
  have HB1 := hide hb
  clear hr hb
  go_wp2_with fail
  refine (HT.out _ HR1.out).mono ?_
  rintro e w2 ⟨rfl, hr, hb⟩
  have HR2 := hide hr
  have HB2 := hide (HB1.out.trans hb)
  clear hr hb
  go_wp2
  go_ret
  exact ⟨rfl, HR2.out, HB2.out⟩

set_option maxHeartbeats 1000000 in
theorem text_no (w : World) (R : Nat) (l : List UInt8) (bad : Bool) (hR : Rl w R l bad) (h : bad = true ∨ l.length < 4 ∨ (l.drop 4).length < leN (l.take 4)) :
    Calls Try.prog 66 #[.pointer (some ⟨R, 0, none⟩)] w fun e w' => e = .returned (.string ⟨#[]⟩) ∧ (∃ l', Rl w' R l' true) ∧ But R w w' := by
  by_cases hn : bad = true ∨ l.length < 4
  · have HN := hide (number_no w R l bad hR hn)
    have HT := hide fun W (hW : Rl W R l true) => (show Calls Try.prog 64 #[.pointer (some ⟨R, 0, none⟩), .int .i64 0] W fun e w' => e = .returned (.string ⟨#[]⟩) ∧ Rl w' R l true ∧ But R W w' from take_no 0 W R l true hW (.inl rfl))
    clear hR h hn
    go_enter Try.func66, Try.ntmps66
    go_wp2_with fail
    refine HN.out.mono ?_
    rintro e w1 ⟨rfl, hr, hb⟩
    have HR1 := hide hr
    have HB1 := hide hb
    clear hr hb
    go_wp2_with fail
    refine (HT.out _ HR1.out).mono ?_
    rintro e w2 ⟨rfl, hr, hb⟩
    have HR2 := hide hr
    have HB2 := hide (HB1.out.trans hb)
    clear hr hb
    go_wp2
    go_ret
    exact ⟨rfl, ⟨_, HR2.out⟩, HB2.out⟩
  · have hb : bad = false := by cases bad <;> simp_all
    subst hb
    have h4 : 4 ≤ l.length := by simp at hn; exact hn
    have h2 : (l.drop 4).length < leN (l.take 4) := by
      rcases h with h | h | h
      · cases h
      · omega
      · exact h
    have HN := hide (number_ok w R l hR h4)
    have HT := hide fun W hW => take_no (leN (l.take 4)) W R (l.drop 4) false hW (.inr h2)
    generalize leN (l.take 4) = n at *
    generalize l.drop 4 = d at *
    clear hR h h2 h4 hn
    go_enter Try.func66, Try.ntmps66
    go_wp2_with fail
    refine HN.out.mono ?_
    rintro e w1 ⟨rfl, hr, hb⟩
    have HR1 := hide hr
    have HB1 := hide hb
    clear hr hb
    go_wp2_with fail
    refine (HT.out _ HR1.out).mono ?_
    rintro e w2 ⟨rfl, hr, hb⟩
    have HR2 := hide hr
    have HB2 := hide (HB1.out.trans hb)
    clear hr hb
    go_wp2
    go_ret
    exact ⟨rfl, ⟨_, HR2.out⟩, HB2.out⟩
end Go.Proofs.Ytlkkmgimjjnhjaa
namespace Go.Proofs.Ytlkkmgimjjnhjaa
open Go.RowKit Rec

theorem one_beq (c : UInt8) : ((bstr [c]).toList == [1]) = decide (c.toNat = 1) := by
  rw [Bool.eq_iff_iff, beq_iff_eq, decide_eq_true_eq, ByteArray.toList_eq]
  unfold bstr
  simp [← UInt8.toNat_inj]

set_option maxHeartbeats 1000000 in
theorem flag_ok (w : World) (R : Nat) (c : UInt8) (l : List UInt8) (hR : Rl w R (c :: l) false) (h : c.toNat ≤ 1) :
    Calls Try.prog 69 #[.pointer (some ⟨R, 0, none⟩)] w fun e w' => e = .returned (.bool (decide (c.toNat = 1))) ∧ Rl w' R l false ∧ But R w w' := by
  have HT := hide (show Calls Try.prog 64 #[.pointer (some ⟨R, 0, none⟩), .int .i64 1] w fun e w' => e = .returned (.string (bstr [c])) ∧ Rl w' R l false ∧ But R w w' from take_yes 1 w R (c :: l) hR (by simp))
  have hx := fun w => index_byte [c] 0 (by simp) w
  have hq := one_beq c
  have hsz : (bstr [c]).size = 1 := bstr_size _
  obtain ⟨n, hn⟩ : ∃ n, c.toNat = n := ⟨_, rfl⟩
  rw [hn] at h hq ⊢
  have hx' : ∀ w, (Instr.index 9 (.string (bstr [c])) (.int .i64 0)).run Try.prog w = .ok (.int .u8 (n : Int)) w := fun w => by have := hx w; simp only [List.getElem_cons_zero, hn] at this; exact this
  generalize bstr [c] = s at *
  clear hx hn hR
  go_enter Try.func69, Try.ntmps69
  go_wp2_with fail
  refine HT.out.mono ?_
  rintro e w1 ⟨rfl, hr, hb⟩
  have q0 := hr.cell 0
  have q1 := hr.cell 1
  have f1 := hr.frozen 1
  have HR1 := hide hr
  have HB1 := hide hb
  clear hr hb
  go_wp2
  go_ret
  have hd : decide (1 < (n : Int)) = false := by simp; omega
  rw [hd]
  exact ⟨rfl, by have := HR1.out.set_ 1 (.bool false); unfold Rl Rd; simpa using this, (HB1.out).setCell (.inl rfl) _⟩

set_option maxHeartbeats 1000000 in
theorem flag_no1 (w : World) (R : Nat) (c : UInt8) (l : List UInt8) (hR : Rl w R (c :: l) false) (h : 1 < c.toNat) :
    Calls Try.prog 69 #[.pointer (some ⟨R, 0, none⟩)] w fun e w' => (∃ b, e = .returned (.bool b)) ∧ (∃ l', Rl w' R l' true) ∧ But R w w' := by
  have HT := hide (show Calls Try.prog 64 #[.pointer (some ⟨R, 0, none⟩), .int .i64 1] w fun e w' => e = .returned (.string (bstr [c])) ∧ Rl w' R l false ∧ But R w w' from take_yes 1 w R (c :: l) hR (by simp))
  have hx := fun w => index_byte [c] 0 (by simp) w
  have hq := one_beq c
  have hsz : (bstr [c]).size = 1 := bstr_size _
  obtain ⟨n, hn⟩ : ∃ n, c.toNat = n := ⟨_, rfl⟩
  rw [hn] at h hq
  have hx' : ∀ w, (Instr.index 9 (.string (bstr [c])) (.int .i64 0)).run Try.prog w = .ok (.int .u8 (n : Int)) w := fun w => by have := hx w; simp only [List.getElem_cons_zero, hn] at this; exact this
  generalize bstr [c] = s at *
  clear hx hn hR
  go_enter Try.func69, Try.ntmps69
  go_wp2_with fail
  refine HT.out.mono ?_
  rintro e w1 ⟨rfl, hr, hb⟩
  have q0 := hr.cell 0
  have q1 := hr.cell 1
  have f1 := hr.frozen 1
  have HR1 := hide hr
  have HB1 := hide hb
  clear hr hb
  go_wp2
  go_ret
  have hd : decide (1 < (n : Int)) = true := by simp; omega
  rw [hd]
  exact ⟨⟨_, rfl⟩, ⟨l, by have := HR1.out.set_ 1 (.bool true); unfold Rl Rd; simpa using this⟩, (HB1.out).setCell (.inl rfl) _⟩

set_option maxHeartbeats 1000000 in
theorem flag_no2 (w : World) (R : Nat) (l : List UInt8) (bad : Bool) (hR : Rl w R l bad) (h : bad = true ∨ l.length < 1) :
    Calls Try.prog 69 #[.pointer (some ⟨R, 0, none⟩)] w fun e w' => (∃ b, e = .returned (.bool b)) ∧ (∃ l', Rl w' R l' true) ∧ But R w w' := by
  have HT := hide (show Calls Try.prog 64 #[.pointer (some ⟨R, 0, none⟩), .int .i64 1] w fun e w' => e = .returned (.string ⟨#[]⟩) ∧ Rl w' R l true ∧ But R w w' from take_no 1 w R l bad hR h)
  clear hR h
  go_enter Try.func69, Try.ntmps69
  go_wp2_with fail
  refine HT.out.mono ?_
  rintro e w1 ⟨rfl, hr, hb⟩
  have q0 := hr.cell 0
  have q1 := hr.cell 1
  have f1 := hr.frozen 1
  have HR1 := hide hr
  have HB1 := hide hb
  clear hr hb
  go_wp2
  go_ret
  exact ⟨⟨_, rfl⟩, ⟨l, by have := HR1.out.set_ 1 (.bool true); unfold Rl Rd; simpa using this⟩, (HB1.out).setCell (.inl rfl) _⟩
end Go.Proofs.Ytlkkmgimjjnhjaa
namespace Go.Proofs.Ytlkkmgimjjnhjaa
open Go.RowKit Rec

namespace Rec
/-- A parser: a value and what is left, or nothing. -/
abbrev Par (α : Type) := List UInt8 → Option (α × List UInt8)
def pNum : Par Nat := fun l => if 4 ≤ l.length then some (leN (l.take 4), l.drop 4) else none
def pText : Par ByteArray := fun l => (pNum l).bind fun (n, r) => if n ≤ r.length then some (bstr (r.take n), r.drop n) else none
def pFlag : Par Bool
  | [] => none
  | c :: l => if c.toNat ≤ 1 then some (decide (c.toNat = 1), l) else none
end Rec

/-- What a read leaves: the parser's value and rest; or a value of the shape, and the reader is bad. -/
def Got {α : Type} (R : Nat) (w : World) (o : Option (α × List UInt8)) (val : α → Value) (shape : Value → Prop) (e : Ending) (w' : World) : Prop :=
  But R w w' ∧ match o with
    | some (a, r) => e = .returned (val a) ∧ Rl w' R r false
    | none => (∃ v, e = .returned v ∧ shape v) ∧ ∃ l', Rl w' R l' true
/-- What is read of bytes by a reader that may be bad. -/
def goes {α : Type} (p : Par α) (bad : Bool) (l : List UInt8) : Option (α × List UInt8) := if bad then none else p l

theorem num_got (w : World) (R : Nat) (l : List UInt8) (bad : Bool) (hR : Rl w R l bad) :
    Calls Try.prog 65 #[.pointer (some ⟨R, 0, none⟩)] w (Got R w (goes pNum bad l) (fun n => .int .i64 (n : Nat)) fun v => v = .int .i64 0) := by
  by_cases h : bad = true ∨ l.length < 4
  · refine (number_no w R l bad hR h).mono fun e w' ⟨h1, h2, h3⟩ => ?_
    have : goes pNum bad l = none := by
      unfold goes pNum
      rcases h with h | h
      · rw [h]; rfl
      · cases bad
        · simp; omega
        · rfl
    rw [this]
    exact ⟨h3, ⟨_, h1, rfl⟩, _, h2⟩
  · have hb : bad = false := by cases bad <;> simp_all
    subst hb
    have h4 : 4 ≤ l.length := by simp at h; exact h
    refine (number_ok w R l hR h4).mono fun e w' ⟨h1, h2, h3⟩ => ?_
    have : goes pNum false l = some (leN (l.take 4), l.drop 4) := by unfold goes pNum; simp [h4]
    rw [this]
    exact ⟨h3, h1, h2⟩
theorem text_got (w : World) (R : Nat) (l : List UInt8) (bad : Bool) (hR : Rl w R l bad) :
    Calls Try.prog 66 #[.pointer (some ⟨R, 0, none⟩)] w (Got R w (goes pText bad l) (fun s => .string s) fun v => v = .string ⟨#[]⟩) := by
  by_cases h : bad = true ∨ l.length < 4 ∨ (l.drop 4).length < leN (l.take 4)
  · refine (text_no w R l bad hR h).mono fun e w' ⟨h1, h2, h3⟩ => ?_
    have : goes pText bad l = none := by
      unfold goes pText pNum
      cases bad
      · rcases h with h | h | h
        · cases h
        · have h4 : ¬ 4 ≤ l.length := by omega
          rw [if_neg (show ¬ false = true by simp), if_neg h4]; rfl
        · by_cases h4 : 4 ≤ l.length
          · rw [if_pos h4]
            simp only [Option.bind_some, Bool.false_eq_true, if_false]
            rw [if_neg (by omega)]
          · rw [if_neg h4]; rfl
      · rfl
    rw [this]
    exact ⟨h3, ⟨_, h1, rfl⟩, h2⟩
  · have hb : bad = false := by cases bad <;> simp_all
    subst hb
    simp only [Bool.false_eq_true, false_or, not_or, Nat.not_lt] at h
    refine (text_ok w R l hR h.1 h.2).mono fun e w' ⟨h1, h2, h3⟩ => ?_
    have : goes pText false l = some (bstr ((l.drop 4).take (leN (l.take 4))), (l.drop 4).drop (leN (l.take 4))) := by
      unfold goes pText pNum
      rw [if_pos h.1]
      simp only [Option.bind_some, Bool.false_eq_true, if_false]
      rw [if_pos h.2]
    rw [this]
    exact ⟨h3, h1, h2⟩
theorem flag_got (w : World) (R : Nat) (l : List UInt8) (bad : Bool) (hR : Rl w R l bad) :
    Calls Try.prog 69 #[.pointer (some ⟨R, 0, none⟩)] w (Got R w (goes pFlag bad l) (fun b => .bool b) fun v => ∃ b, v = .bool b) := by
  by_cases h : bad = true ∨ l.length < 1
  · refine (flag_no2 w R l bad hR h).mono fun e w' ⟨⟨b, h1⟩, h2, h3⟩ => ?_
    have : goes pFlag bad l = none := by
      unfold goes
      cases bad
      · have hl : l = [] := by
          rcases h with h | h
          · cases h
          · exact List.eq_nil_of_length_eq_zero (by omega)
        rw [hl]; rfl
      · rfl
    rw [this]
    exact ⟨h3, ⟨_, h1, b, rfl⟩, h2⟩
  · have hb : bad = false := by cases bad <;> simp_all
    subst hb
    cases l with
    | nil => simp at h
    | cons c l =>
      by_cases hc : c.toNat ≤ 1
      · refine (flag_ok w R c l hR hc).mono fun e w' ⟨h1, h2, h3⟩ => ?_
        have : goes pFlag false (c :: l) = some (decide (c.toNat = 1), l) := by unfold goes; rw [if_neg (by simp)]; exact if_pos hc
        rw [this]
        exact ⟨h3, h1, h2⟩
      · refine (flag_no1 w R c l hR (by omega)).mono fun e w' ⟨⟨b, h1⟩, h2, h3⟩ => ?_
        have : goes pFlag false (c :: l) = none := by unfold goes; rw [if_neg (by simp)]; exact if_neg hc
        rw [this]
        exact ⟨h3, ⟨_, h1, b, rfl⟩, h2⟩
end Go.Proofs.Ytlkkmgimjjnhjaa
namespace Go.Proofs.Ytlkkmgimjjnhjaa
open Go.RowKit Rec

namespace Rec
def pMany (most : Nat) : Par Nat := fun l => (pNum l).bind fun (n, r) => if n ≤ most then some (n, r) else none
end Rec

theorem Got.no {α : Type} {R : Nat} {w : World} {val : α → Value} {shape : Value → Prop} {e : Ending} {w' : World} (h : Got R w none val shape e w') : But R w w' ∧ (∃ v, e = .returned v ∧ shape v) ∧ ∃ l', Rl w' R l' true := h
theorem Got.yes {α : Type} {R : Nat} {w : World} {a : α} {r : List UInt8} {val : α → Value} {shape : Value → Prop} {e : Ending} {w' : World} (h : Got R w (some (a, r)) val shape e w') : But R w w' ∧ e = .returned (val a) ∧ Rl w' R r false := h

set_option maxHeartbeats 1000000 in
theorem many_got (most : Nat) (w : World) (R : Nat) (l : List UInt8) (bad : Bool) (hR : Rl w R l bad) :
    Calls Try.prog 67 #[.pointer (some ⟨R, 0, none⟩), .int .i64 most] w (Got R w (goes (pMany most) bad l) (fun n => .int .i64 (n : Nat)) fun v => v = .int .i64 0) := by
  have HN := hide (num_got w R l bad hR)
  obtain ⟨o, ho⟩ : ∃ o, goes pNum bad l = o := ⟨_, rfl⟩
  have hm : goes (pMany most) bad l = o.bind fun (n, r) => if n ≤ most then some (n, r) else none := by
    rw [← ho]; unfold goes pMany; cases bad <;> rfl
  rw [ho] at HN
  obtain ⟨o', ho'⟩ : ∃ o, goes (pMany most) bad l = o := ⟨_, rfl⟩
  rw [ho'] at hm ⊢
  have HM := hide hm
  clear hm ho ho' hR
  cases o with
  | none =>
    have e1 : o' = none := HM.out
    subst e1
    go_enter Try.func67, Try.ntmps67
    go_wp2_with fail
    refine HN.out.mono ?_
    intro e w1 hg
    obtain ⟨hb, ⟨v, rfl, rfl⟩, l', hr⟩ := hg.no
    have q1 := hr.cell 1
    have f1 := hr.frozen 1
    have HR1 := hide hr
    have HB1 := hide hb
    clear hr hb hg
    go_wp2
    go_ret
    exact ⟨(HB1.out).setCell (.inl rfl) _, ⟨_, rfl, rfl⟩, l', by have := HR1.out.set_ 1 (.bool true); unfold Rl Rd; simpa using this⟩
  | some p =>
    obtain ⟨n, r⟩ := p
    by_cases hn : n ≤ most
    · have e1 : o' = some (n, r) := HM.out.trans (if_pos hn)
      subst e1
      have hd : (n : Int) ≤ most := by omega
      go_enter Try.func67, Try.ntmps67
      go_wp2_with fail
      refine HN.out.mono ?_
      intro e w1 hg
      obtain ⟨hb, rfl, hr⟩ := hg.yes
      have q1 := hr.cell 1
      have f1 := hr.frozen 1
      have HR1 := hide hr
      have HB1 := hide hb
      clear hr hb hg
      go_wp2
      go_ret
      have hdd : decide (most < n) = false := by simp; omega
      rw [hdd]
      exact ⟨(HB1.out).setCell (.inl rfl) _, rfl, by have := HR1.out.set_ 1 (.bool false); unfold Rl Rd; simpa using this⟩
    · have e1 : o' = none := HM.out.trans (if_neg hn)
      subst e1
      have hd : (most : Int) < n := by omega
      go_enter Try.func67, Try.ntmps67
      go_wp2_with fail
      refine HN.out.mono ?_
      intro e w1 hg
      obtain ⟨hb, rfl, hr⟩ := hg.yes
      have q1 := hr.cell 1
      have f1 := hr.frozen 1
      have HR1 := hide hr
      have HB1 := hide hb
      clear hr hb hg
      go_wp2
      go_ret
      exact ⟨(HB1.out).setCell (.inl rfl) _, ⟨_, rfl, rfl⟩, r, by have := HR1.out.set_ 1 (.bool true); unfold Rl Rd; simpa using this⟩
end Go.Proofs.Ytlkkmgimjjnhjaa
namespace Go.Proofs.Ytlkkmgimjjnhjaa
open Go.RowKit Rec

namespace Rec
def pTexts : Nat → Par (List ByteArray)
  | 0 => fun l => some ([], l)
  | k + 1 => fun l => (pTexts k l).bind fun (ts, r) => (pText r).bind fun (t, r') => some (ts ++ [t], r')
/-- An entry. -/
def pEntry : Par Ent := fun l =>
  (pTexts 5 l).bind fun (ts, r) => (pFlag r).bind fun (h, r) =>
    if h then (pNum r).bind fun (lo, r) => (pNum r).bind fun (hi, r) => if hi < 256 then some (⟨ts.getD 0 ⟨#[]⟩, ts.getD 1 ⟨#[]⟩, ts.getD 2 ⟨#[]⟩, ts.getD 3 ⟨#[]⟩, ts.getD 4 ⟨#[]⟩, true, hi * 4294967296 + lo + -62135596800⟩, r) else none
    else some (⟨ts.getD 0 ⟨#[]⟩, ts.getD 1 ⟨#[]⟩, ts.getD 2 ⟨#[]⟩, ts.getD 3 ⟨#[]⟩, ts.getD 4 ⟨#[]⟩, false, 0⟩, r)
end Rec

/-- An entry's box while it is read. -/
def entBox (f : Nat → ByteArray) (h : Bool) (s : Int) : Array Value := #[.string (f 0), .string (f 1), .string (f 2), .string (f 3), .string (f 4), .bool h, .int .i64 s]
theorem entBox_set (f : Nat → ByteArray) (h : Bool) (s : Int) (k : Nat) (hk : k < 5) (t : ByteArray) : (entBox f h s).setIfInBounds k (.string t) = entBox (fun j => if j = k then t else f j) h s := by
  have : k = 0 ∨ k = 1 ∨ k = 2 ∨ k = 3 ∨ k = 4 := by omega
  rcases this with rfl | rfl | rfl | rfl | rfl <;> rfl
theorem entBox_at (f : Nat → ByteArray) (h : Bool) (s : Int) (k : Nat) (hk : k < 5) : (entBox f h s)[k]? = some (.string (f k)) := by
  have : k = 0 ∨ k = 1 ∨ k = 2 ∨ k = 3 ∨ k = 4 := by omega
  rcases this with rfl | rfl | rfl | rfl | rfl <;> rfl
theorem ptr_index0 (X : Nat) (w : World) : (Instr.index 104 (.agg #[.pointer (some ⟨X, 0, none⟩), .pointer (some ⟨X, 1, none⟩), .pointer (some ⟨X, 2, none⟩), .pointer (some ⟨X, 3, none⟩), .pointer (some ⟨X, 4, none⟩)]) (.int .i64 0)).run Try.prog w = .ok (.pointer (some ⟨X, 0, none⟩)) w := by kernel_rfl
theorem ptr_index1 (X : Nat) (w : World) : (Instr.index 104 (.agg #[.pointer (some ⟨X, 0, none⟩), .pointer (some ⟨X, 1, none⟩), .pointer (some ⟨X, 2, none⟩), .pointer (some ⟨X, 3, none⟩), .pointer (some ⟨X, 4, none⟩)]) (.int .i64 1)).run Try.prog w = .ok (.pointer (some ⟨X, 1, none⟩)) w := by kernel_rfl
theorem ptr_index2 (X : Nat) (w : World) : (Instr.index 104 (.agg #[.pointer (some ⟨X, 0, none⟩), .pointer (some ⟨X, 1, none⟩), .pointer (some ⟨X, 2, none⟩), .pointer (some ⟨X, 3, none⟩), .pointer (some ⟨X, 4, none⟩)]) (.int .i64 2)).run Try.prog w = .ok (.pointer (some ⟨X, 2, none⟩)) w := by kernel_rfl
theorem ptr_index3 (X : Nat) (w : World) : (Instr.index 104 (.agg #[.pointer (some ⟨X, 0, none⟩), .pointer (some ⟨X, 1, none⟩), .pointer (some ⟨X, 2, none⟩), .pointer (some ⟨X, 3, none⟩), .pointer (some ⟨X, 4, none⟩)]) (.int .i64 3)).run Try.prog w = .ok (.pointer (some ⟨X, 3, none⟩)) w := by kernel_rfl
theorem ptr_index4 (X : Nat) (w : World) : (Instr.index 104 (.agg #[.pointer (some ⟨X, 0, none⟩), .pointer (some ⟨X, 1, none⟩), .pointer (some ⟨X, 2, none⟩), .pointer (some ⟨X, 3, none⟩), .pointer (some ⟨X, 4, none⟩)]) (.int .i64 4)).run Try.prog w = .ok (.pointer (some ⟨X, 4, none⟩)) w := by kernel_rfl
theorem ptr_index (X k : Nat) (hk : k < 5) (w : World) : (Instr.index 104 (.agg #[.pointer (some ⟨X, 0, none⟩), .pointer (some ⟨X, 1, none⟩), .pointer (some ⟨X, 2, none⟩), .pointer (some ⟨X, 3, none⟩), .pointer (some ⟨X, 4, none⟩)]) (.int .i64 k)).run Try.prog w = .ok (.pointer (some ⟨X, k, none⟩)) w := by
  have : k = 0 ∨ k = 1 ∨ k = 2 ∨ k = 3 ∨ k = 4 := by omega
  rcases this with h | h | h | h | h
  · subst h; exact ptr_index0 X w
  · subst h; exact ptr_index1 X w
  · subst h; exact ptr_index2 X w
  · subst h; exact ptr_index3 X w
  · subst h; exact ptr_index4 X w
end Go.Proofs.Ytlkkmgimjjnhjaa
namespace Go.Proofs.Ytlkkmgimjjnhjaa
open Go.RowKit Rec

/-- Where the reader stands after k texts. -/
def At5 (w : World) (R : Nat) (o : Option (List ByteArray × List UInt8)) (k : Nat) (f : Nat → ByteArray) : Prop :=
  match o with
  | some (ts, r) => Rl w R r false ∧ ts.length = k ∧ ∀ j, j < k → f j = ts.getD j ⟨#[]⟩
  | none => ∃ l', Rl w R l' true

theorem text_step (w : World) (R k : Nat) (o : Option (List ByteArray × List UInt8)) (f : Nat → ByteArray) (h : At5 w R o k f) :
    Calls Try.prog 66 #[.pointer (some ⟨R, 0, none⟩)] w fun e w' => ∃ t : ByteArray, e = .returned (.string t) ∧ But R w w' ∧ At5 w' R (o.bind fun (ts, r) => (pText r).bind fun (t, r') => some (ts ++ [t], r')) (k + 1) (fun j => if j = k then t else f j) := by
  cases o with
  | none =>
    obtain ⟨l', hl⟩ := h
    refine (text_got w R l' true hl).mono fun e w' hg => ?_
    obtain ⟨hb, ⟨v, h1, h2⟩, h3⟩ := Got.no (show Got R w none _ _ e w' from hg)
    exact ⟨⟨#[]⟩, by rw [h1, h2], hb, h3⟩
  | some p =>
    obtain ⟨ts, r⟩ := p
    obtain ⟨hl, hk, hf⟩ := h
    refine (text_got w R r false hl).mono fun e w' hg => ?_
    have hg' : Got R w (pText r) (fun s => .string s) (fun v => v = .string ⟨#[]⟩) e w' := hg
    simp only [Option.bind_some]
    cases ht : pText r with
    | none =>
      rw [ht] at hg'
      obtain ⟨hb, ⟨v, h1, h2⟩, h3⟩ := hg'.no
      exact ⟨⟨#[]⟩, by rw [h1, h2], hb, h3⟩
    | some q =>
      obtain ⟨t, r'⟩ := q
      rw [ht] at hg'
      obtain ⟨hb, h1, h2⟩ := hg'.yes
      refine ⟨t, h1, hb, h2, by simp [hk], fun j hj => ?_⟩
      show (if j = k then t else f j) = (ts ++ [t]).getD j ⟨#[]⟩
      by_cases hjk : j = k
      · subst hjk
        rw [if_pos rfl, ← hk]
        simp
      · rw [if_neg hjk, hf j (by omega)]
        simp [List.getD_eq_getElem?_getD, List.getElem?_append_left (show j < ts.length by omega)]
end Go.Proofs.Ytlkkmgimjjnhjaa
