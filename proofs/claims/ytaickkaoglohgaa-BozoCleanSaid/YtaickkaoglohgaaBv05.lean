/- References: a digit's worth, where a reference ends, what a name names. · Tokens: the scan's value. · Tokens: what a part of the declaration may hold. · Tokens: an encoding's name. · Tokens: the parts of the declaration. (Printed by wip/genTkK.py.) · Tokens: the declaration. · Tokens: the token at its block; kind; an end. · Tokens: what a piece's reading leaves; an end. · Tokens: a text. (Printed by wip/genTkP.py.) · Tokens: words for a start: append of one element; a round of the attributes. · Tokens: a start. · Tokens: strings.EqualFold with "xml". · Tokens: strings.EqualFold with "xml": the walk. · Tokens: words for what begins with <? or <!. · Tokens: what begins with <? or <!. (Printed by wip/genTkW.py.) -/
import Derived.Test.YtaickkaoglohgaaBv04
import Derived.Laws.IdiomStrings
import Derived.Deep.RegionHeld3
import Derived.Deep.AppendLies
import Derived.ScopeJumps
import Derived.WalkMore
import Derived.Laws.RangeString
import Derived.Laws.RangeAny
import Derived.Deep.DeepCutAuto
set_option linter.unusedSimpArgs false
set_option linter.unusedVariables false
namespace Go.Proofs.Ytaickkaoglohgaa
open Go.RowKit Tk Sx

theorem drop_cons0 {D : L} {k : Nat} {c : UInt8} (h : D[k]? = some c) : D.drop k = c :: D.drop (k + 1) := by
  obtain ⟨h1, h2⟩ := List.getElem?_eq_some_iff.1 h
  rw [← h2, ← List.drop_eq_getElem_cons]
/-- '[]byte(s)': a new row of the string's bytes. -/
theorem bytes_of (s : ByteArray) (w : World) : ∃ W g cap, (Go.convert 9 58 (.string s)).run Try.prog w = .ok (.slice (some ⟨g, 0, none⟩) s.size cap) W ∧ Below w.heap.size w W ∧ g < W.heap.size ∧
    ∀ (k : Nat) (c : UInt8), s.data.toList[k]? = some c → W.cell? ⟨g, k, none⟩ = some (.int .u8 (c.toNat : Nat)) := by
  refine ⟨_, _, _, run_bytes_of_string (P := Try.prog) w 9 58 5 s Try.underlying9 Try.underlying58 Try.underlying5, ?_, ?_, ?_⟩
  · exact (Below.refl _ w).drew.alloc (by simp) _
  · simp
  · intro k c hc
    obtain ⟨h1, h2⟩ := List.getElem?_eq_some_iff.1 hc
    have hk : k < s.data.size := by simpa using h1
    have := bytesRow_at s (grownCap w s.size 0 5) k hk
    have e : w.heap.size = w.drew.heap.size := rfl
    rw [e, World.cell?_alloc_mark, this]
    have h3 : s.data[k] = c := by simpa using h2
    rw [h3]

theorem land15 (c : UInt8) : bits BinOp.and IntKind.u8 (c.toNat : Int) 15 = ((c.toNat % 16 : Nat) : Int) := by
  have h : ∀ n : Fin 256, bits BinOp.and IntKind.u8 (n.val : Int) 15 = ((n.val % 16 : Nat) : Int) := by decide +kernel
  exact h ⟨c.toNat, c.toNat_lt⟩

set_option maxHeartbeats 4000000 in
theorem worth_any (c : UInt8) (w : World) : Calls Try.prog 85 #[.int .u8 (c.toNat : Nat)] w fun e w' => e = .returned (.int .i64 ((worth c : Nat) : Int)) ∧ w' = w := by
  have hb := land15 c
  have hlt := c.toNat_lt
  have hm : c.toNat % 16 < 16 := Nat.mod_lt _ (by omega)
  obtain ⟨z, hz⟩ : ∃ z : Nat, c.toNat % 16 = z := ⟨_, rfl⟩
  rw [hz] at hb hm
  have hw : IntKind.i64.wrap (z : Int) = (z : Int) := IntWalk.i64_in _ (by omega)
  have hw9 : IntKind.i64.wrap ((z : Int) + 9) = (z : Int) + 9 := IntWalk.i64_in _ (by omega)
  obtain ⟨q, hq⟩ : ∃ q : Nat, c.toNat = q := ⟨_, rfl⟩
  have Hq : worth c = if 48 ≤ q ∧ q ≤ 57 then q - 48 else if 97 ≤ q ∧ q ≤ 102 then q - 87 else if 65 ≤ q ∧ q ≤ 70 then q - 55 else 16 := by rw [← hq]; rfl
  rw [Hq]
  rw [hq] at hb hlt hz
  rw [hq]
  clear hq Hq
  obtain ⟨R, hR⟩ : ∃ R : Nat, (if 48 ≤ q ∧ q ≤ 57 then q - 48 else if 97 ≤ q ∧ q ≤ 102 then q - 87 else if 65 ≤ q ∧ q ≤ 70 then q - 55 else 16) = R := ⟨_, rfl⟩
  rw [hR]
  by_cases a1 : 48 ≤ q
  · by_cases a2 : q ≤ 57
    · have Hr := hide (show (z : Int) = (R : Int) by rw [← hR, if_pos ⟨a1, a2⟩]; omega)
      have g1 : (48 : Int) ≤ (q : Int) := by omega
      have g2 : (q : Int) ≤ 57 := by omega
      clear hR hz hlt a1 a2
      go_enter Try.func85, Try.ntmps85
      go_wp2
      go_ret
      exact ⟨ret_eq1 (int_eq (Hr.out)), rfl⟩
    · by_cases b1 : 97 ≤ q
      · by_cases b2 : q ≤ 102
        · have Hr := hide (show (z : Int) + 9 = (R : Int) by rw [← hR, if_neg (by omega), if_pos ⟨b1, b2⟩]; omega)
          have g1 : (48 : Int) ≤ (q : Int) := by omega
          have g2 : ¬ (q : Int) ≤ 57 := by omega
          have g3 : (97 : Int) ≤ (q : Int) := by omega
          have g4 : (q : Int) ≤ 102 := by omega
          clear hR hz hlt a1 a2 b1 b2
          go_enter Try.func85, Try.ntmps85
          go_wp2
          go_ret
          exact ⟨ret_eq1 (int_eq (Hr.out)), rfl⟩
        · have Hr := hide (show (16 : Int) = (R : Int) by rw [← hR, if_neg (by omega), if_neg (by omega), if_neg (by omega)]; rfl)
          have g1 : (48 : Int) ≤ (q : Int) := by omega
          have g2 : ¬ (q : Int) ≤ 57 := by omega
          have g3 : (97 : Int) ≤ (q : Int) := by omega
          have g4 : ¬ (q : Int) ≤ 102 := by omega
          have g5 : (65 : Int) ≤ (q : Int) := by omega
          have g6 : ¬ (q : Int) ≤ 70 := by omega
          clear hR hz hlt a1 a2 b1 b2
          go_enter Try.func85, Try.ntmps85
          go_wp2
          go_ret
          exact ⟨ret_eq1 (int_eq (Hr.out)), rfl⟩
      · by_cases d1 : 65 ≤ q
        · by_cases d2 : q ≤ 70
          · have Hr := hide (show (z : Int) + 9 = (R : Int) by rw [← hR, if_neg (by omega), if_neg (by omega), if_pos ⟨d1, d2⟩]; omega)
            have g1 : (48 : Int) ≤ (q : Int) := by omega
            have g2 : ¬ (q : Int) ≤ 57 := by omega
            have g3 : ¬ (97 : Int) ≤ (q : Int) := by omega
            have g5 : (65 : Int) ≤ (q : Int) := by omega
            have g6 : (q : Int) ≤ 70 := by omega
            clear hR hz hlt a1 a2 b1 d1 d2
            go_enter Try.func85, Try.ntmps85
            go_wp2
            go_ret
            exact ⟨ret_eq1 (int_eq (Hr.out)), rfl⟩
          · have Hr := hide (show (16 : Int) = (R : Int) by rw [← hR, if_neg (by omega), if_neg (by omega), if_neg (by omega)]; rfl)
            have g1 : (48 : Int) ≤ (q : Int) := by omega
            have g2 : ¬ (q : Int) ≤ 57 := by omega
            have g3 : ¬ (97 : Int) ≤ (q : Int) := by omega
            have g5 : (65 : Int) ≤ (q : Int) := by omega
            have g6 : ¬ (q : Int) ≤ 70 := by omega
            clear hR hz hlt a1 a2 b1 d1 d2
            go_enter Try.func85, Try.ntmps85
            go_wp2
            go_ret
            exact ⟨ret_eq1 (int_eq (Hr.out)), rfl⟩
        · have Hr := hide (show (16 : Int) = (R : Int) by rw [← hR, if_neg (by omega), if_neg (by omega), if_neg (by omega)]; rfl)
          have g1 : (48 : Int) ≤ (q : Int) := by omega
          have g2 : ¬ (q : Int) ≤ 57 := by omega
          have g3 : ¬ (97 : Int) ≤ (q : Int) := by omega
          have g5 : ¬ (65 : Int) ≤ (q : Int) := by omega
          clear hR hz hlt a1 a2 b1 d1
          go_enter Try.func85, Try.ntmps85
          go_wp2
          go_ret
          exact ⟨ret_eq1 (int_eq (Hr.out)), rfl⟩
  · have Hr := hide (show (16 : Int) = (R : Int) by rw [← hR, if_neg (by omega), if_neg (by omega), if_neg (by omega)]; rfl)
    have g1 : ¬ (48 : Int) ≤ (q : Int) := by omega
    have g3 : ¬ (97 : Int) ≤ (q : Int) := by omega
    have g5 : ¬ (65 : Int) ≤ (q : Int) := by omega
    clear hR hz hlt a1
    go_enter Try.func85, Try.ntmps85
    go_wp2
    go_ret
    exact ⟨ret_eq1 (int_eq (Hr.out)), rfl⟩

def endsI (l : L) (k : Nat) : Int := match Sx.ends (l.drop k) with
  | some n => ((k + n : Nat) : Int)
  | none => -1
theorem endsI_hit {l : L} {k : Nat} {c : UInt8} (hc : l[k]? = some c) (h : c = 59) : endsI l k = k := by
  unfold endsI; rw [drop_cons0 hc]; unfold Sx.ends; rw [if_pos h]; rfl
theorem endsI_stop {l : L} {k : Nat} {c : UInt8} (hc : l[k]? = some c) (h0 : c ≠ 59) (h : c = 38 ∨ c = 60) : endsI l k = -1 := by
  unfold endsI; rw [drop_cons0 hc]; unfold Sx.ends; rw [if_neg h0, if_pos h]
theorem endsI_next {l : L} {k : Nat} {c : UInt8} (hc : l[k]? = some c) (h0 : c ≠ 59) (h1 : c ≠ 38) (h2 : c ≠ 60) : endsI l k = endsI l (k + 1) := by
  unfold endsI; rw [drop_cons0 hc]
  conv => lhs; unfold Sx.ends
  rw [if_neg h0, if_neg (by simp [h1, h2])]
  cases Sx.ends (l.drop (k + 1)) with
  | none => rfl
  | some n => simp only [Option.map_some]; congr 1; omega
theorem endsI_none {l : L} {k : Nat} (h : l.length ≤ k) : endsI l k = -1 := by
  unfold endsI; rw [List.drop_of_length_le h]; rfl

set_option maxHeartbeats 4000000 in
theorem ends_any (s : ByteArray) (w : World) (hs : s.size ≤ 1000000000) :
    Calls Try.prog 82 #[.string s] w fun e w' => e = .returned (.int .i64 (endsI s.data.toList 0)) ∧ Below w.heap.size w w' := by
  obtain ⟨W, g, cap, hconv, hb, hg, hat⟩ := bytes_of s w
  obtain ⟨D, hD⟩ : ∃ D, s.data.toList = D := ⟨_, rfl⟩
  have HDl := hide (show D.length = s.size by rw [← hD, size_list])
  rw [hD] at hat ⊢
  obtain ⟨z, hz⟩ : ∃ z, endsI D 0 = z := ⟨_, rfl⟩
  have Hz := hide hz
  rw [hz]
  have Hat := hide hat
  have HB := hide hb
  clear hD hz hat hb
  go_enter Try.func82, Try.ntmps82
  go_wp2
  clear hconv
  go_loopg [8] s.size (fun gk v wr => ∃ k : Nat, gk = s.size - k ∧ k ≤ s.size ∧ v = .int .i64 (k : Int) ∧ endsI D k = z ∧ wr = W)
  case atStart => exact ⟨0, rfl, by omega, rfl, Hz.out, rfl⟩
  case round =>
    obtain ⟨k, hgk, hk, rfl, hzk, rfl⟩ := hrel
    have Hg := hide hgk
    have Hzk := hide hzk
    clear hgk hzk Hz
    by_cases hlt : k < s.size
    · obtain ⟨c, hc⟩ : ∃ c, D[k]? = some c := ⟨_, List.getElem?_eq_getElem (by rw [HDl.out]; exact hlt)⟩
      have hcell := Hat.out k c hc
      have hk0 : (0 : Int) ≤ (k : Int) := by omega
      have key : ∀ d : UInt8, ((c.toNat : Int) == (d.toNat : Int)) = (c == d) := fun d => by
        rw [Bool.eq_iff_iff, beq_iff_eq, beq_iff_eq]
        exact ⟨fun h => UInt8.toNat_inj.1 (by omega), fun h => by rw [h]⟩
      have e1 : ((c.toNat : Int) == 59) = (c == 59) := key 59
      have e2 : ((c.toNat : Int) == 38) = (c == 38) := key 38
      have e3 : ((c.toNat : Int) == 60) = (c == 60) := key 60
      clear key
      by_cases h1 : c = 59
      · have Hr := hide (show (k : Int) = z by rw [← Hzk.out, endsI_hit hc h1])
        have q1 : (c == 59) = true := by rw [beq_iff_eq]; exact h1
        clear h1 hc Hzk e2 e3
        go_wp2
        go_ret
        exact ⟨ret_eq1 (int_eq Hr.out), HB.out⟩
      have q1 : (c == 59) = false := by rw [beq_eq_false_iff_ne]; exact h1
      by_cases h2 : c = 38
      · have Hr := hide (show (-1 : Int) = z by rw [← Hzk.out, endsI_stop hc h1 (.inl h2)])
        have q2 : (c == 38) = true := by rw [beq_iff_eq]; exact h2
        clear h1 h2 hc Hzk e3
        go_wp2
        go_ret
        exact ⟨ret_eq1 (int_eq Hr.out), HB.out⟩
      have q2 : (c == 38) = false := by rw [beq_eq_false_iff_ne]; exact h2
      by_cases h3 : c = 60
      · have Hr := hide (show (-1 : Int) = z by rw [← Hzk.out, endsI_stop hc h1 (.inr h3)])
        have q3 : (c == 60) = true := by rw [beq_iff_eq]; exact h3
        clear h1 h2 h3 hc Hzk
        go_wp2
        go_ret
        exact ⟨ret_eq1 (int_eq Hr.out), HB.out⟩
      have q3 : (c == 60) = false := by rw [beq_eq_false_iff_ne]; exact h3
      have Hn := hide (show endsI D (k + 1) = z by rw [← Hzk.out, endsI_next hc h1 h2 h3])
      clear h1 h2 h3 hc Hzk
      go_wp2
      go_roundg (s.size - (k + 1))
      case measure => have := Hg.out; omega
      case rel => exact ⟨k + 1, rfl, by omega, by go_num, Hn.out, rfl⟩
    · have Hr := hide (show (-1 : Int) = z by rw [← Hzk.out, endsI_none (by rw [HDl.out]; omega)])
      clear Hzk
      go_wp2
      go_ret
      exact ⟨ret_eq1 (int_eq Hr.out), HB.out⟩
end Go.Proofs.Ytaickkaoglohgaa
namespace Go.Proofs.Ytaickkaoglohgaa
open Go.RowKit Tk

theorem pfx_one {c : UInt8} {l : L} (h : [c].isPrefixOf l = true) : ∃ r, l = c :: r := by
  cases l with
  | nil => simp at h
  | cons d r =>
    have : c = d := by simpa using h
    exact ⟨r, by rw [this]⟩
theorem pfx_one_no {c : UInt8} {l : L} (h : [c].isPrefixOf l = false) : ∀ r, l ≠ c :: r := by
  intro r e
  rw [e] at h
  simp at h
theorem drop_add (s : ByteArray) (a b : Nat) : s.data.toList.drop (a + b) = (s.data.toList.drop a).drop b := by rw [List.drop_drop]
theorem pfx_len {p l : L} (h : p.isPrefixOf l = true) : p.length ≤ l.length := List.IsPrefix.length_le (List.isPrefixOf_iff_prefix.1 h)

theorem eqv_no {d : L} (h : [61].isPrefixOf (d.drop (nsp d)) = false) : eqv d = none := by
  unfold eqv
  split
  · rfl
  · rename_i c r e
    rw [if_neg]
    intro hc
    subst hc
    exact pfx_one_no h r e
theorem eqv_yes {d r : L} (h : d.drop (nsp d) = 61 :: r) : eqv d = (Tk.quoted (r.drop (nsp r))).map fun x => (x.1, nsp d + 1 + nsp r + x.2) := by
  unfold eqv
  rw [h]
  simp

theorem quoted_yes {q : UInt8} {r : L} (h : q = 34 ∨ q = 39) : Tk.quoted (q :: r) = (till [q] r).map fun k => (r.take k, k + 2) := by
  show (if q = 34 ∨ q = 39 then _ else none) = _
  rw [if_pos h]
theorem quoted_no {t : L} (h1 : [34].isPrefixOf t = false) (h2 : [39].isPrefixOf t = false) : Tk.quoted t = none := by
  cases t with
  | nil => rfl
  | cons q r =>
    show (if q = 34 ∨ q = 39 then _ else none) = _
    rw [if_neg]
    rintro (rfl | rfl)
    · exact pfx_one_no h1 r rfl
    · exact pfx_one_no h2 r rfl
theorem qi0 (w : World) : (Instr.index 97 (.agg #[.string ⟨#[34]⟩, .string ⟨#[39]⟩]) (.int .i64 0)).run Try.prog w = .ok (.string ⟨#[34]⟩) w := by kernel_rfl
theorem qi1 (w : World) : (Instr.index 97 (.agg #[.string ⟨#[34]⟩, .string ⟨#[39]⟩]) (.int .i64 1)).run Try.prog w = .ok (.string ⟨#[39]⟩) w := by kernel_rfl
theorem size1 (q : UInt8) : (⟨#[q]⟩ : ByteArray).size ≤ 1000 := by
  have : (⟨#[q]⟩ : ByteArray).size = 1 := rfl
  omega
end Go.Proofs.Ytaickkaoglohgaa
namespace Go.Proofs.Ytaickkaoglohgaa
open Go.RowKit Tk

theorem dropWhile_nil {α : Type} {f : α → Bool} : ∀ {l : List α}, l.dropWhile f = [] ↔ ∀ x ∈ l, f x = true
  | [] => by simp
  | a :: l => by
    rw [List.dropWhile_cons]
    split
    · rename_i h
      rw [dropWhile_nil]
      constructor
      · intro g x hx
        rcases List.mem_cons.1 hx with rfl | hx
        · exact h
        · exact g x hx
      · exact fun g x hx => g x (List.mem_cons_of_mem _ hx)
    · rename_i h
      constructor
      · intro e; cases e
      · intro g
        exact absurd (g a (List.mem_cons_self ..)) h
theorem dropWhile_head {α : Type} {f : α → Bool} {l : List α} {a : α} {r : List α} (h : l.dropWhile f = a :: r) : f a = false := by
  induction l with
  | nil => simp at h
  | cons b l ih =>
    rw [List.dropWhile_cons] at h
    split at h
    · exact ih h
    · rename_i hb
      cases h
      simpa using hb
theorem digit_set (c : UInt8) : ([48, 49, 50, 51, 52, 53, 54, 55, 56, 57] : L).contains c = digit c := by
  have : ∀ n : Fin 256, ([48, 49, 50, 51, 52, 53, 54, 55, 56, 57] : L).contains (UInt8.ofNat n.val) = digit (UInt8.ofNat n.val) := by decide +kernel
  have h := this ⟨c.toNat, c.toNat_lt⟩
  rwa [show UInt8.ofNat c.toNat = c from UInt8.ofNat_toNat] at h
theorem str_list (s : ByteArray) : s.toList = s.data.toList := ByteArray.toList_eq ..
theorem str_emp (s : ByteArray) : (s.toList == ([] : L)) = s.data.toList.isEmpty := by
  rw [str_list]
  cases s.data.toList <;> rfl

def digits (l : L) : Bool := !l.isEmpty && l.all digit
end Go.Proofs.Ytaickkaoglohgaa
namespace Go.Proofs.Ytaickkaoglohgaa
open Go.RowKit Tk

def encSet : L := [48, 49, 50, 51, 52, 53, 54, 55, 56, 57, 46, 95, 45]
theorem enc_bits (c : UInt8) : (decide (97 ≤ bits BinOp.or IntKind.u8 (c.toNat : Int) 32) && decide (bits BinOp.or IntKind.u8 (c.toNat : Int) 32 ≤ 122)) = letter c := by
  have : ∀ n : Fin 256, (decide (97 ≤ bits BinOp.or IntKind.u8 (n.val : Int) 32) && decide (bits BinOp.or IntKind.u8 (n.val : Int) 32 ≤ 122)) = letter (UInt8.ofNat n.val) := by decide +kernel
  have h := this ⟨c.toNat, c.toNat_lt⟩
  rwa [show UInt8.ofNat c.toNat = c from UInt8.ofNat_toNat] at h
theorem enc_set (c : UInt8) : decide (Lib.indexByte encSet c < 0) = !(digit c || c == 46 || c == 95 || c == 45) := by
  have : ∀ n : Fin 256, decide (Lib.indexByte encSet (UInt8.ofNat n.val) < 0) = !(digit (UInt8.ofNat n.val) || UInt8.ofNat n.val == 46 || UInt8.ofNat n.val == 95 || UInt8.ofNat n.val == 45) := by decide +kernel
  have h := this ⟨c.toNat, c.toNat_lt⟩
  rwa [show UInt8.ofNat c.toNat = c from UInt8.ofNat_toNat] at h
/-- What is still to be looked at. -/
def encRest (l : L) (k : Nat) : Bool := if k = 0 then encoding l else (l.drop k).all encTail
theorem encRest_next {l : L} {k : Nat} {c : UInt8} (h : l[k]? = some c) : encRest l k = ((letter c || (decide (0 < k) && (digit c || c == 46 || c == 95 || c == 45))) && encRest l (k + 1)) := by
  obtain ⟨hk, hc⟩ := List.getElem?_eq_some_iff.1 h
  unfold encRest
  rw [if_neg (by omega : ¬ k + 1 = 0)]
  by_cases h0 : k = 0
  · subst h0
    cases l with
    | nil => simp at hk
    | cons d r =>
      have : d = c := hc
      subst this
      rw [if_pos rfl]
      simp [encoding]
  · rw [if_neg h0, List.drop_eq_getElem_cons hk, hc, List.all_cons, decide_eq_true (show 0 < k by omega), Bool.true_and]
    congr 1
    unfold encTail
    simp only [Bool.or_assoc]

end Go.Proofs.Ytaickkaoglohgaa
namespace Go.Proofs.Ytaickkaoglohgaa
open Go.RowKit Tk

theorem part_no1 {name d : L} (h : nsp d = 0) : Tk.part name d = none := by unfold Tk.part; rw [if_pos h]
theorem part_no2 {name d : L} (h : name.isPrefixOf (d.drop (nsp d)) = false) : Tk.part name d = none := by unfold Tk.part; rw [h]; simp
theorem part_yes {name d : L} (h0 : ¬ nsp d = 0) (h : name.isPrefixOf (d.drop (nsp d)) = true) : Tk.part name d = (eqv (d.drop (nsp d + name.length))).map fun x => (x.1, nsp d + name.length + x.2) := by
  unfold Tk.part
  rw [if_neg h0, if_pos h]
theorem quoted_short {t : L} {x : L × Nat} (h : Tk.quoted t = some x) : x.1.length ≤ t.length := by
  cases t with
  | nil => cases h
  | cons q r =>
    replace h : (if q = 34 ∨ q = 39 then (till [q] r).map fun k => (r.take k, k + 2) else none) = some x := h
    split at h
    · cases ht : till [q] r with
      | none => rw [ht] at h; cases h
      | some n =>
        rw [ht] at h
        cases h
        simp
        omega
    · cases h
theorem eqv_short {d : L} {x : L × Nat} (h : eqv d = some x) : x.1.length ≤ d.length := by
  unfold eqv at h
  split at h
  · cases h
  · rename_i c r e
    split at h
    · cases hq : Tk.quoted (r.drop (nsp r)) with
      | none => rw [hq] at h; cases h
      | some y =>
        rw [hq] at h
        cases h
        have h1 := quoted_short hq
        have h2 := congrArg List.length e
        rw [List.length_drop] at h1 h2
        rw [List.length_cons] at h2
        dsimp only
        omega
    · cases h
end Go.Proofs.Ytaickkaoglohgaa
namespace Go.Proofs.Ytaickkaoglohgaa
open Go.RowKit Tk

end Go.Proofs.Ytaickkaoglohgaa
namespace Go.Proofs.Ytaickkaoglohgaa
open Go.RowKit Tk

/-- Nothing that was there has turned, but blocks X and T. -/
structure But2 (X T : Nat) (w w' : World) : Prop where
  os : w'.os = w.os
  tape : w'.tape = w.tape
  output : w'.output = w.output
  size : w.heap.size ≤ w'.heap.size
  block : ∀ k, k < w.heap.size → k ≠ X → k ≠ T → w'.heap[k]? = w.heap[k]?
section
variable {X T : Nat} {w w1 w' : World}
theorem But2.refl (X T : Nat) (w : World) : But2 X T w w := ⟨rfl, rfl, rfl, Nat.le_refl _, fun _ _ _ _ => rfl⟩
theorem But2.trans (h : But2 X T w w1) (k : But2 X T w1 w') : But2 X T w w' :=
  ⟨k.os.trans h.os, k.tape.trans h.tape, k.output.trans h.output, Nat.le_trans h.size k.size, fun i hi hb hc => (k.block i (Nat.lt_of_lt_of_le hi h.size) hb hc).trans (h.block i hi hb hc)⟩
theorem But2.below {B : Nat} (h : But2 X T w w') (hb : B ≤ X) (hc : B ≤ T) (hs : B ≤ w.heap.size) : Below B w w' := ⟨h.os, h.tape, h.output, h.size, fun k hk => h.block k (by omega) (by omega) (by omega)⟩
theorem But.to2 (h : But X w w') : But2 X T w w' := ⟨h.os, h.tape, h.output, h.size, fun k hk hb _ => h.block k hk hb⟩
theorem But2.go (h : But2 X T w w1) (hb : Below w1.heap.size w1 w') : But2 X T w w' := h.trans (But.of_below hb).to2
theorem But2.one (h : But2 X T w w1) (hb : But X w1 w') : But2 X T w w' := h.trans hb.to2
theorem But2.drew (h : But2 X T w w1) : But2 X T w w1.drew := ⟨h.os, h.tape, h.output, h.size, h.block⟩
theorem But2.alloc (h : But2 X T w w1) (o : Obj) : But2 X T w (w1.alloc o) := h.trans ⟨rfl, rfl, rfl, by simp, fun k hk _ _ => Below.heap_alloc _ _ _ hk⟩
theorem But2.setCell (h : But2 X T w w1) {p : Addr} (hp : p.block = X ∨ p.block = T ∨ w.heap.size ≤ p.block) (u : Value) : But2 X T w (w1.setCell p u) := by
  refine ⟨h.os, h.tape, h.output, by simpa [World.setCell] using h.size, fun k hk hb hc => ?_⟩
  rw [Below.heap_setCell _ _ _ _ (by omega)]
  exact h.block k hk hb hc
end
section
variable {w : World} {T : Nat} {kind : Int} {name : ByteArray} {as_ : Value} {empty : Bool} {text : ByteArray} {at_ end_ : Nat}
end

/-- Which piece begins there. -/
def kindOf (l : L) : Int := if ([60, 47] : L).isPrefixOf l then 1 else if ([60, 33] : L).isPrefixOf l || ([60, 63] : L).isPrefixOf l then 2 else if ([60] : L).isPrefixOf l then 0 else 3
end Go.Proofs.Ytaickkaoglohgaa
namespace Go.Proofs.Ytaickkaoglohgaa
open Go.RowKit Tk

def attrVs (l : List At) : List Value := l.flatMap fun a => [.string (bstr a.name), .string (bstr a.value), .int .i64 (a.at_ : Int)]
theorem str_emp' (l : L) : ((bstr l).toList == ([] : L)) = l.isEmpty := str_emp (bstr l)

end Go.Proofs.Ytaickkaoglohgaa
namespace Go.Proofs.Ytaickkaoglohgaa
open Go.RowKit Tk

theorem index_one (l : L) (c : UInt8) : Lib.index l [c] = Lib.indexByte l c := by
  induction l with
  | nil => rfl
  | cons b l ih =>
    unfold Lib.index Lib.indexByte
    rw [ih]
    have : ([c] : L).isPrefixOf (b :: l) = (b == c) := by
      simp only [List.isPrefixOf, Bool.and_true]
      rw [Bool.eq_iff_iff, beq_iff_eq, beq_iff_eq]
      exact eq_comm
    rw [this]
theorem text_ends (l : L) : (till [60] l).getD l.length = if Lib.indexByte l 60 < 0 then l.length else (Lib.indexByte l 60).toNat := by
  unfold till
  rw [index_one]
  split <;> rfl
theorem index_pos {c : UInt8} {l : L} (h : ([c] : L).isPrefixOf l = false) : Lib.index l [c] ≠ 0 := by
  cases l with
  | nil => simp [Lib.index]
  | cons b l =>
    unfold Lib.index
    rw [h]
    have h1 := Lib.index_ge l [c]
    show (if Lib.index l [c] == -1 then -1 else Lib.index l [c] + 1) ≠ 0
    split
    · decide
    · rename_i h2
      have h3 : Lib.index l [c] ≠ -1 := by simpa using h2
      omega
theorem text_pos {l : L} (h : ([60] : L).isPrefixOf l = false) (h0 : 0 < l.length) : 0 < (till [60] l).getD l.length := by
  cases ht : till [60] l with
  | none => exact h0
  | some n =>
    have h1 := (till_some ht).1
    have h2 := index_pos h
    simp
    omega
theorem text_short (l : L) : (till [60] l).getD l.length ≤ l.length := by
  cases h : till [60] l with
  | none => exact Nat.le_refl _
  | some n =>
    have := (till_some h).2
    simp at this ⊢
    omega

end Go.Proofs.Ytaickkaoglohgaa
namespace Go.Proofs.Ytaickkaoglohgaa
open Go.RowKit Tk

section
variable {P : Program} {ops : Array Oper} {o : Oper} {a : Act} {K : Act → World → Prop} {Q : Exit → Act → World → Prop} {E : Prop}
/-- append of one element, which lies whole in a block of its own, at a step of a region that draws its order. -/
theorem step_append_elem (W : World) (hgd : o.guard = none) (s x : Operand) (t : TypeId) (ho : o.op = .call { callee := .builtin .append, args := #[s, x], argTypes := #[t, t] })
    (base : Nat) (e : TypeId) (z : Value) (size bytes : Nat) (ht : P.underlying t = some (.slice e)) (hinfo : (P.info? e).map (fun i => (i.zero, i.size, i.bytes)) = some (some z, size, bytes))
    (hzs : z.cells.size = size) (hsz : 0 < size) (v : Value) (n : Nat) (xs : List Value) (hs : a.eval s = v) (hown : W.ownsRow base e size v n xs)
    (cs : List Value) (hcs : cs.length = size) (h1 : ∀ u ∈ cs, u.oneCell' = true) (H : Nat) (hH : Blk W H e cs.toArray) (hx : a.eval x = .slice (some ⟨H, 0, none⟩) 1 1)
    (h63 : n + 1 ≤ maxLen) (hbytes : (n + 1) * bytes ≤ 140737488355328) (hbase : base ≤ W.heap.size)
    (h : ∀ g cap w', w'.ownsRow base e size (.slice (some ⟨g, 0, none⟩) (n + 1) cap) (n + 1) (xs ++ cs) → W.grownBy w' v.ownBlock → g < w'.heap.size →
      K (a.put o.dst (.slice (some ⟨g, 0, none⟩) (n + 1) cap)) w') :
    if Region.wanted o (yielded ops a.tmps) = true then Oper.wp P o a W K Q else E := by
  obtain ⟨i, hi, hz, hsize, hby⟩ := info_parts hinfo
  refine step_append_lies _ hgd s x t ho base e i z size bytes ht hi hz hsize hby hzs hsz v n xs hs hown ⟨H, 0, none⟩ 1 1 cs hx (by omega) ?_ h1 (by omega) h63 hbytes hbase _ rfl ?_
  · intro j u hu
    exact World.news_of_block hH j u (by simpa using hu)
  · intro g cap w' hown' hgrow _ hlt
    exact h g cap w' hown' hgrow hlt
/-- The same at a plain region's list. -/
theorem wpList_append_elem_at {rest : List Oper} {Q : Exit → Act → World → Prop} (W : World) (hgd : o.guard = none) (s x : Operand) (t : TypeId) (ho : o.op = .call { callee := .builtin .append, args := #[s, x], argTypes := #[t, t] })
    (base : Nat) (e : TypeId) (z : Value) (size bytes : Nat) (ht : P.underlying t = some (.slice e)) (hinfo : (P.info? e).map (fun i => (i.zero, i.size, i.bytes)) = some (some z, size, bytes))
    (hzs : z.cells.size = size) (hsz : 0 < size) (v : Value) (n : Nat) (xs : List Value) (hs : a.eval s = v) (hown : W.ownsRow base e size v n xs)
    (cs : List Value) (hcs : cs.length = size) (h1 : ∀ u ∈ cs, u.oneCell' = true) (H : Nat) (hH : Blk W H e cs.toArray) (hx : a.eval x = .slice (some ⟨H, 0, none⟩) 1 1)
    (h63 : n + 1 ≤ maxLen) (hbytes : (n + 1) * bytes ≤ 140737488355328) (hbase : base ≤ W.heap.size)
    (h : ∀ g cap w', w'.ownsRow base e size (.slice (some ⟨g, 0, none⟩) (n + 1) cap) (n + 1) (xs ++ cs) → W.grownBy w' v.ownBlock → g < w'.heap.size →
      wpList P ops Q rest (a.put o.dst (.slice (some ⟨g, 0, none⟩) (n + 1) cap)) w') :
    wpList P ops Q (o :: rest) a W := by
  obtain ⟨i, hi, hz, hsize, hby⟩ := info_parts hinfo
  refine wpList_append_lies W hgd s x t ho base e i z size bytes ht hi hz hsize hby hzs hsz v n xs hs hown ⟨H, 0, none⟩ 1 1 cs hx (by omega) ?_ h1 (by omega) h63 hbytes hbase _ rfl ?_
  · intro j u hu
    exact World.news_of_block hH j u (by simpa using hu)
  · intro g cap w' hown' hgrow _ hlt
    exact h g cap w' hown' hgrow hlt
end

theorem attrVs_snoc (l : List At) (a : At) : attrVs (l ++ [a]) = attrVs l ++ [.string (bstr a.name), .string (bstr a.value), .int .i64 (a.at_ : Int)] := by simp [attrVs]
theorem att_one (a : At) : ∀ u ∈ ([.string (bstr a.name), .string (bstr a.value), .int .i64 (a.at_ : Int)] : List Value), u.oneCell' = true := by
  intro u hu
  simp only [List.mem_cons, List.not_mem_nil, or_false] at hu
  rcases hu with rfl | rfl | rfl <;> rfl
section
variable {w W W' : World} {base X T : Nat} {s : ByteArray} {k k' j : Nat} {nm : ByteArray} {L : List At} {A : Option Addr} {c : Nat}
end
/-- A round of the attributes, told. -/
theorem attrs_end2 {f off : Nat} {l : L} (h : ([47, 62] : L).isPrefixOf (l.drop (nsp l)) = true) : attrs (f + 1) off l = some ([], true, off + nsp l + 2) := by
  unfold attrs; rw [if_pos h]
theorem attrs_end1 {f off : Nat} {l : L} (h : ([47, 62] : L).isPrefixOf (l.drop (nsp l)) = false) (h2 : ([62] : L).isPrefixOf (l.drop (nsp l)) = true) : attrs (f + 1) off l = some ([], false, off + nsp l + 1) := by
  unfold attrs; rw [if_neg (by rw [h]; simp), if_pos h2]
theorem attrs_tight {f off : Nat} {l : L} (h : ([47, 62] : L).isPrefixOf (l.drop (nsp l)) = false) (h2 : ([62] : L).isPrefixOf (l.drop (nsp l)) = false) (h3 : nsp l = 0) : attrs (f + 1) off l = none := by
  unfold attrs; rw [if_neg (by rw [h]; simp), if_neg (by rw [h2]; simp), if_pos h3]
theorem attrs_more {f off : Nat} {l : L} (h : ([47, 62] : L).isPrefixOf (l.drop (nsp l)) = false) (h2 : ([62] : L).isPrefixOf (l.drop (nsp l)) = false) (h3 : nsp l ≠ 0) :
    attrs (f + 1) off l = if take (l.drop (nsp l)) = 0 then none else (eqv ((l.drop (nsp l)).drop (take (l.drop (nsp l))))).bind fun x => if (60 : UInt8) ∈ x.1 then none
        else (attrs f (off + nsp l + take (l.drop (nsp l)) + x.2) ((l.drop (nsp l)).drop (take (l.drop (nsp l)) + x.2))).map fun y => (⟨(l.drop (nsp l)).take (take (l.drop (nsp l))), x.1, off + nsp l⟩ :: y.1, y.2) := by
  rw [attrs, if_neg (by rw [h]; simp), if_neg (by rw [h2]; simp), if_neg h3]
theorem lt_in (v : L) : (0 ≤ Lib.indexByte v 60) ↔ (60 : UInt8) ∈ v := by
  induction v with
  | nil => simp [Lib.indexByte]
  | cons b l ih =>
    unfold Lib.indexByte
    by_cases hb : b = 60
    · subst hb; simp
    · rw [if_neg (by simpa using hb)]
      have h1 := Lib.indexByte_ge l 60
      have : (60 : UInt8) ∈ b :: l ↔ (60 : UInt8) ∈ l := by simp [Ne.symm hb]
      rw [this, ← ih]
      (try dsimp only)
      split
      · rename_i h2
        have : Lib.indexByte l 60 = -1 := by simpa using h2
        omega
      · rename_i h2
        have : Lib.indexByte l 60 ≠ -1 := by simpa using h2
        omega
/-- The result glued to what was read ahead. -/
def glue (L : List At) (o : Option (List At × Bool × Nat)) : Option (List At × Bool × Nat) := o.map fun y => (L ++ y.1, y.2)
theorem glue_none (L : List At) : glue L none = none := rfl
theorem glue_end (L : List At) (b : Bool) (e : Nat) : glue L (some ([], b, e)) = some (L, b, e) := by simp [glue]
theorem glue_more (L : List At) (a : At) (o : Option (List At × Bool × Nat)) : glue L (o.map fun y => (a :: y.1, y.2)) = glue (L ++ [a]) o := by
  cases o <;> simp [glue]
/-- A scope whose one label is jumped back to: the way to the label, and a pass from it. -/
theorem wp_scope_one {P : Program} {a : Act} {w : World} {Q : Exit → Act → World → Prop} {c rest : Code} (l : Nat) (J : Act → World → Prop) (μ : Act → World → Nat) (hf : findLabel c l = some (.seq .skip rest))
    (first : (∀ a w, J a w → rest.wp P (Exit.jump l J Q) a w) → c.wp P (Exit.jump l J Q) a w)
    (pass : ∀ a w, J a w → rest.wp P (Exit.jump l (fun a' w' => J a' w' ∧ μ a' w' < μ a w) Q) a w) : (Code.scope c).wp P Q a w :=
  wp_scope_jumps l J μ hf (first fun a w h => Code.wp_mono (fun e a' w' q => by cases e <;> first | exact ⟨q.1, q.2.1⟩ | exact q) (pass a w h)) fun a w h => wp_seq (wp_skip (pass a w h))
theorem jump_goto {l : Nat} {J : Act → World → Prop} {Q : Exit → Act → World → Prop} {a : Act} {w : World} (h : J a w) : Exit.jump l J Q (.goto l) a w := ⟨rfl, h⟩
theorem But2.grown {X T : Nat} {w w1 w' : World} (h : But2 X T w w1) {row : Option Nat} (hg : w1.grownBy w' row) (hr : ∀ k, row = some k → w.heap.size ≤ k) : But2 X T w w' :=
  ⟨hg.os.trans h.os, hg.tape.trans h.tape, hg.output.trans h.output, Nat.le_trans h.size hg.size, fun k hk h1 h2 => (hg.block k (Nat.lt_of_lt_of_le hk h.size) (fun e => by have := hr k e.symm; omega)).trans (h.block k hk h1 h2)⟩
/-- Where a text is read on, by its cell. -/
def atOf (w : World) (X : Nat) : Nat := match w.cell? ⟨X, 1, none⟩ with
  | some (.int _ k) => k.toNat
  | _ => 0
end Go.Proofs.Ytaickkaoglohgaa
namespace Go.Proofs.Ytaickkaoglohgaa
open Go.RowKit Tk

end Go.Proofs.Ytaickkaoglohgaa
namespace Go.Proofs.Ytaickkaoglohgaa
open Go.RowKit Tk

def sXmlName : L := [120, 109, 108]
/-- Are the bytes from k on as those of xml? -/
def foldRest (l : L) (k : Nat) : Bool := decide ((l.drop k).map lower = sXmlName.drop k)
theorem foldRest_next {l : L} {k : Nat} {c t : UInt8} (hc : l[k]? = some c) (ht : sXmlName[k]? = some t) : foldRest l k = (decide (lower c = t) && foldRest l (k + 1)) := by
  obtain ⟨h1, h2⟩ := List.getElem?_eq_some_iff.1 hc
  obtain ⟨h3, h4⟩ := List.getElem?_eq_some_iff.1 ht
  unfold foldRest
  rw [List.drop_eq_getElem_cons h1, List.drop_eq_getElem_cons h3, h2, h4, List.map_cons, Bool.eq_iff_iff, decide_eq_true_eq, Bool.and_eq_true, decide_eq_true_eq, decide_eq_true_eq]
  simp
theorem foldRest_end {l : L} {k : Nat} (hk : k = min l.length 3) : foldRest l k = decide (l.length = 3) := by
  unfold foldRest
  rw [Bool.eq_iff_iff, decide_eq_true_eq, decide_eq_true_eq]
  constructor
  · intro h
    have := congrArg List.length h
    rw [List.length_map, List.length_drop, List.length_drop] at this
    have e : sXmlName.length = 3 := rfl
    omega
  · intro h
    have h3 : k = 3 := by omega
    subst h3
    rw [List.drop_of_length_le (by omega), List.drop_of_length_le (by exact Nat.le_refl _)]
    rfl
theorem or_big (c t : UInt8) (ht : t ∈ sXmlName) : decide ((128 : Int) ≤ bits BinOp.or IntKind.u8 (c.toNat : Int) (t.toNat : Int)) = decide (128 ≤ c.toNat) := by
  have h1 : ∀ n : Fin 256, decide ((128 : Int) ≤ bits BinOp.or IntKind.u8 (n.val : Int) 120) = decide (128 ≤ n.val) := by decide +kernel
  have h2 : ∀ n : Fin 256, decide ((128 : Int) ≤ bits BinOp.or IntKind.u8 (n.val : Int) 109) = decide (128 ≤ n.val) := by decide +kernel
  have h3 : ∀ n : Fin 256, decide ((128 : Int) ≤ bits BinOp.or IntKind.u8 (n.val : Int) 108) = decide (128 ≤ n.val) := by decide +kernel
  simp only [sXmlName, List.mem_cons, List.not_mem_nil, or_false] at ht
  rcases ht with rfl | rfl | rfl
  · exact h1 ⟨c.toNat, c.toNat_lt⟩
  · exact h2 ⟨c.toNat, c.toNat_lt⟩
  · exact h3 ⟨c.toNat, c.toNat_lt⟩
/-- A letter folds to t, itself or its great one. -/
theorem lower_is (c t : UInt8) (ht : t ∈ sXmlName) : decide (lower c = t) = (decide (c.toNat = t.toNat) || decide (c.toNat + 32 = t.toNat)) := by
  have h1 : ∀ n : Fin 256, decide (lower (UInt8.ofNat n.val) = 120) = (decide (n.val = 120) || decide (n.val + 32 = 120)) := by decide +kernel
  have h2 : ∀ n : Fin 256, decide (lower (UInt8.ofNat n.val) = 109) = (decide (n.val = 109) || decide (n.val + 32 = 109)) := by decide +kernel
  have h3 : ∀ n : Fin 256, decide (lower (UInt8.ofNat n.val) = 108) = (decide (n.val = 108) || decide (n.val + 32 = 108)) := by decide +kernel
  have e : UInt8.ofNat c.toNat = c := UInt8.ofNat_toNat
  simp only [sXmlName, List.mem_cons, List.not_mem_nil, or_false] at ht
  rcases ht with rfl | rfl | rfl
  · have := h1 ⟨c.toNat, c.toNat_lt⟩; rw [e] at this; exact this
  · have := h2 ⟨c.toNat, c.toNat_lt⟩; rw [e] at this; exact this
  · have := h3 ⟨c.toNat, c.toNat_lt⟩; rw [e] at this; exact this
theorem name_lt {t : UInt8} (ht : t ∈ sXmlName) : 97 ≤ t.toNat ∧ t.toNat ≤ 122 := by
  simp only [sXmlName, List.mem_cons, List.not_mem_nil, or_false] at ht
  rcases ht with rfl | rfl | rfl <;> decide
theorem decode_big (s : ByteArray) (i : Nat) (h : i < s.size) (hb : 128 ≤ (s[i]'h).toNat) : 128 ≤ (Utf8.decode s i).1 := by
  have e : s.get! (i + 0) = s[i]'h := by
    show s.get! i = _
    simp [ByteArray.get!, getElem!_pos, h]
    rfl
  unfold Utf8.decode
  simp only [e]
  rw [if_neg (by omega)]
  split
  · split
    · assumption
    · decide
  · split
    · split
      · rename_i h2
        simp at h2
        dsimp only
        omega
      · decide
    · split
      · split
        · rename_i h2
          simp at h2
          dsimp only
          omega
        · decide
      · decide

/-- What holds at the label: a byte beyond ASCII stands at k. -/
def FoldJ (w : World) (s : ByteArray) (a' : Act) (wr : World) : Prop :=
  ∃ (g : Nat → Value) (k : Nat) (c : UInt8), a' = { tmps := List.toArray (.string s :: .string ⟨#[120, 109, 108]⟩ :: g 2 :: g 3 :: g 4 :: .int .i64 (k : Int) :: g 6 :: g 7 :: g 8 :: g 9 :: g 10 :: g 11 :: g 12 :: g 13 :: g 14 :: g 15 :: g 16 :: g 17 :: g 18 :: g 19 :: g 20 :: g 21 :: g 22 :: g 23 :: g 24 :: g 25 :: g 26 :: g 27 :: g 28 :: g 29 :: g 30 :: g 31 :: g 32 :: g 33 :: g 34 :: g 35 :: g 36 :: g 37 :: g 38 :: g 39 :: g 40 :: g 41 :: g 42 :: g 43 :: g 44 :: g 45 :: g 46 :: g 47 :: g 48 :: g 49 :: g 50 :: g 51 :: g 52 :: g 53 :: g 54 :: g 55 :: g 56 :: g 57 :: g 58 :: g 59 :: g 60 :: g 61 :: g 62 :: g 63 :: g 64 :: g 65 :: g 66 :: g 67 :: g 68 :: g 69 :: g 70 :: g 71 :: g 72 :: g 73 :: g 74 :: g 75 :: g 76 :: g 77 :: g 78 :: g 79 :: g 80 :: g 81 :: g 82 :: g 83 :: g 84 :: g 85 :: g 86 :: g 87 :: g 88 :: g 89 :: g 90 :: g 91 :: g 92 :: g 93 :: g 94 :: g 95 :: g 96 :: g 97 :: g 98 :: g 99 :: g 100 :: g 101 :: g 102 :: g 103 :: g 104 :: g 105 :: g 106 :: g 107 :: g 108 :: g 109 :: g 110 :: g 111 :: g 112 :: g 113 :: g 114 :: g 115 :: g 116 :: g 117 :: g 118 :: g 119 :: g 120 :: g 121 :: g 122 :: []), defers := [] } ∧ k < 3 ∧ s.data.toList[k]? = some c ∧ 128 ≤ c.toNat ∧ foldRest s.data.toList 0 = false ∧ wr = w
theorem FoldJ.intro {w wr : World} {s : ByteArray} {a' : Act} {k : Nat} {c : UInt8} (ha : a' = { tmps := List.toArray (.string s :: .string ⟨#[120, 109, 108]⟩ :: Array.getD a'.tmps 2 undef :: Array.getD a'.tmps 3 undef :: Array.getD a'.tmps 4 undef :: .int .i64 (k : Int) :: Array.getD a'.tmps 6 undef :: Array.getD a'.tmps 7 undef :: Array.getD a'.tmps 8 undef :: Array.getD a'.tmps 9 undef :: Array.getD a'.tmps 10 undef :: Array.getD a'.tmps 11 undef :: Array.getD a'.tmps 12 undef :: Array.getD a'.tmps 13 undef :: Array.getD a'.tmps 14 undef :: Array.getD a'.tmps 15 undef :: Array.getD a'.tmps 16 undef :: Array.getD a'.tmps 17 undef :: Array.getD a'.tmps 18 undef :: Array.getD a'.tmps 19 undef :: Array.getD a'.tmps 20 undef :: Array.getD a'.tmps 21 undef :: Array.getD a'.tmps 22 undef :: Array.getD a'.tmps 23 undef :: Array.getD a'.tmps 24 undef :: Array.getD a'.tmps 25 undef :: Array.getD a'.tmps 26 undef :: Array.getD a'.tmps 27 undef :: Array.getD a'.tmps 28 undef :: Array.getD a'.tmps 29 undef :: Array.getD a'.tmps 30 undef :: Array.getD a'.tmps 31 undef :: Array.getD a'.tmps 32 undef :: Array.getD a'.tmps 33 undef :: Array.getD a'.tmps 34 undef :: Array.getD a'.tmps 35 undef :: Array.getD a'.tmps 36 undef :: Array.getD a'.tmps 37 undef :: Array.getD a'.tmps 38 undef :: Array.getD a'.tmps 39 undef :: Array.getD a'.tmps 40 undef :: Array.getD a'.tmps 41 undef :: Array.getD a'.tmps 42 undef :: Array.getD a'.tmps 43 undef :: Array.getD a'.tmps 44 undef :: Array.getD a'.tmps 45 undef :: Array.getD a'.tmps 46 undef :: Array.getD a'.tmps 47 undef :: Array.getD a'.tmps 48 undef :: Array.getD a'.tmps 49 undef :: Array.getD a'.tmps 50 undef :: Array.getD a'.tmps 51 undef :: Array.getD a'.tmps 52 undef :: Array.getD a'.tmps 53 undef :: Array.getD a'.tmps 54 undef :: Array.getD a'.tmps 55 undef :: Array.getD a'.tmps 56 undef :: Array.getD a'.tmps 57 undef :: Array.getD a'.tmps 58 undef :: Array.getD a'.tmps 59 undef :: Array.getD a'.tmps 60 undef :: Array.getD a'.tmps 61 undef :: Array.getD a'.tmps 62 undef :: Array.getD a'.tmps 63 undef :: Array.getD a'.tmps 64 undef :: Array.getD a'.tmps 65 undef :: Array.getD a'.tmps 66 undef :: Array.getD a'.tmps 67 undef :: Array.getD a'.tmps 68 undef :: Array.getD a'.tmps 69 undef :: Array.getD a'.tmps 70 undef :: Array.getD a'.tmps 71 undef :: Array.getD a'.tmps 72 undef :: Array.getD a'.tmps 73 undef :: Array.getD a'.tmps 74 undef :: Array.getD a'.tmps 75 undef :: Array.getD a'.tmps 76 undef :: Array.getD a'.tmps 77 undef :: Array.getD a'.tmps 78 undef :: Array.getD a'.tmps 79 undef :: Array.getD a'.tmps 80 undef :: Array.getD a'.tmps 81 undef :: Array.getD a'.tmps 82 undef :: Array.getD a'.tmps 83 undef :: Array.getD a'.tmps 84 undef :: Array.getD a'.tmps 85 undef :: Array.getD a'.tmps 86 undef :: Array.getD a'.tmps 87 undef :: Array.getD a'.tmps 88 undef :: Array.getD a'.tmps 89 undef :: Array.getD a'.tmps 90 undef :: Array.getD a'.tmps 91 undef :: Array.getD a'.tmps 92 undef :: Array.getD a'.tmps 93 undef :: Array.getD a'.tmps 94 undef :: Array.getD a'.tmps 95 undef :: Array.getD a'.tmps 96 undef :: Array.getD a'.tmps 97 undef :: Array.getD a'.tmps 98 undef :: Array.getD a'.tmps 99 undef :: Array.getD a'.tmps 100 undef :: Array.getD a'.tmps 101 undef :: Array.getD a'.tmps 102 undef :: Array.getD a'.tmps 103 undef :: Array.getD a'.tmps 104 undef :: Array.getD a'.tmps 105 undef :: Array.getD a'.tmps 106 undef :: Array.getD a'.tmps 107 undef :: Array.getD a'.tmps 108 undef :: Array.getD a'.tmps 109 undef :: Array.getD a'.tmps 110 undef :: Array.getD a'.tmps 111 undef :: Array.getD a'.tmps 112 undef :: Array.getD a'.tmps 113 undef :: Array.getD a'.tmps 114 undef :: Array.getD a'.tmps 115 undef :: Array.getD a'.tmps 116 undef :: Array.getD a'.tmps 117 undef :: Array.getD a'.tmps 118 undef :: Array.getD a'.tmps 119 undef :: Array.getD a'.tmps 120 undef :: Array.getD a'.tmps 121 undef :: Array.getD a'.tmps 122 undef :: []), defers := [] }) (h1 : k < 3) (h2 : s.data.toList[k]? = some c) (h3 : 128 ≤ c.toNat) (h4 : foldRest s.data.toList 0 = false) (h5 : wr = w) : FoldJ w s a' wr :=
  ⟨fun i => Array.getD a'.tmps i undef, k, c, ha, h1, h2, h3, h4, h5⟩
end Go.Proofs.Ytaickkaoglohgaa
namespace Go.Proofs.Ytaickkaoglohgaa
open Go.RowKit Tk

end Go.Proofs.Ytaickkaoglohgaa
namespace Go.Proofs.Ytaickkaoglohgaa
open Go.RowKit Tk

section
variable {w W W' : World} {base X T : Nat} {s : ByteArray} {k k' j : Nat} {kd : Int} {tx : L} {o : Option Tok} {e : Ending}
end
theorem xml_len {n : L} (h : xml n = true) : n.length = 3 := by
  unfold xml at h
  have := congrArg List.length (of_decide_eq_true h)
  rw [List.length_map] at this
  exact this
end Go.Proofs.Ytaickkaoglohgaa
namespace Go.Proofs.Ytaickkaoglohgaa
open Go.RowKit Tk

theorem five_same {d : L} (h : 5 ≤ d.length) : ((d.take 5) == ([60, 63, 120, 109, 108] : L)) = sXml.isPrefixOf d := by
  rw [Bool.eq_iff_iff, beq_iff_eq, List.isPrefixOf_iff_prefix, List.prefix_iff_eq_take]
  exact eq_comm
end Go.Proofs.Ytaickkaoglohgaa
