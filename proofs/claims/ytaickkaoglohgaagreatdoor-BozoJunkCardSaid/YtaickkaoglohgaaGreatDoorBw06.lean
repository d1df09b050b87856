/- Tokens: what a part of the declaration may hold. · Tokens: an encoding's name. · Tokens: the parts of the declaration. (Printed by wip/genTkK.py.) -/
import Derived.Test.YtaickkaoglohgaaGreatDoorBw05
set_option linter.unusedSimpArgs false
set_option linter.unusedVariables false
namespace Go.Proofs.YtaickkaoglohgaaGreatDoor
section
open Go.RowKit Tk

theorem dropWhile_nil {α : Type} {f : α → Bool} : ∀ {l : List α}, l.dropWhile f = [] ↔ ∀ x ∈ l, f x = true
 | [] => by simp
 | a :: l => by
  rw [List.dropWhile_cons];split
  ·rename_i h
   rw [dropWhile_nil]
   constructor
   ·intro g x hx
    rcases List.mem_cons.1 hx with rfl | hx
    ·exact h
    exact g x hx
   exact fun g x hx => g x (List.mem_cons_of_mem _ hx)
  rename_i h
  constructor
  ·intro e; cases e
  intro g;exact absurd (g a (List.mem_cons_self ..)) h
theorem dropWhile_head {α : Type} {f : α → Bool} {l : List α} {a : α} {r : List α} (h : l.dropWhile f = a :: r) : f a = false := by
 induction l with
 | nil => simp at h
 | cons b l ih =>
  rw [List.dropWhile_cons] at h
  split at h
  ·exact ih h
  rename_i hb
  cases h
  simpa using hb
theorem trimS_nil (l cs : L) : Lib.trimS l cs = [] ↔ l.all (cs.contains ·) = true := by
 unfold Lib.trimS Lib.trimLeftS Lib.trimRightS;rw [dropWhile_nil, List.all_eq_true]
 constructor
 ·intro h
  cases hd : l.reverse.dropWhile (cs.contains ·) with
  | nil =>
   rw [dropWhile_nil] at hd;exact fun x hx => hd x (by simpa using hx)
  | cons a r =>
   have h1 := dropWhile_head hd;have h2 := h a (by rw [hd]; simp);rw [h1] at h2;cases h2
 intro h;have : l.reverse.dropWhile (cs.contains ·) = [] := dropWhile_nil.2 (fun x hx => h x (by simpa using hx));rw [this];intro x hx;cases hx
theorem digit_set (c : UInt8) : ([48, 49, 50, 51, 52, 53, 54, 55, 56, 57] : L).contains c = digit c := by
 have : ∀ n : Fin 256, ([48, 49, 50, 51, 52, 53, 54, 55, 56, 57] : L).contains (UInt8.ofNat n.val) = digit (UInt8.ofNat n.val) := by decide +kernel
 have h := this ⟨c.toNat, c.toNat_lt⟩;rwa [show UInt8.ofNat c.toNat = c from UInt8.ofNat_toNat] at h
theorem str_list (s : ByteArray) : s.toList = s.data.toList := ByteArray.toList_eq ..
theorem str_emp (s : ByteArray) : (s.toList == ([] : L)) = s.data.toList.isEmpty := by
 rw [str_list]
 cases s.data.toList <;> rfl

def digits (l : L) : Bool := !l.isEmpty && l.all digit
set_option maxRecDepth 20000 in
theorem digits_any (s : ByteArray) (w : World) (hs : s.size ≤ 1000000000) : Calls Tryz.prog 129 #[.string s] w fun e w' => e = .returned (.bool (digits s.data.toList)) ∧ Below w.heap.size w w' := by
 have hE := str_emp s;have HT := hide (Any.strings_Trim_laid Tryz.lays160 (by kernel_rfl) s ⟨#[48, 49, 50, 51, 52, 53, 54, 55, 56, 57]⟩ w (by omega) (by decide) (ascii_of_all (by decide)));have hA := trimS_nil s.data.toList [48, 49, 50, 51, 52, 53, 54, 55, 56, 57]
 have hB : s.data.toList.all (([48, 49, 50, 51, 52, 53, 54, 55, 56, 57] : L).contains ·) = s.data.toList.all digit := by
  congr 1
  funext c
  exact digit_set c
 rw [hB] at hA;have hD : digits s.data.toList = (!s.data.toList.isEmpty && s.data.toList.all digit) := rfl;generalize digits s.data.toList = b at *
 generalize s.data.toList.all digit = q at *
 cases he : s.data.toList.isEmpty with
 | true =>
  rw [he] at hE hD;have HD := hide hD;clear hA hB hD he HT
  go_enter Tryz.func129, Tryz.ntmps129
  go_wp2;go_ret;exact ⟨ret_eq1 (bool_eq (by rw [HD.out]; rfl)), Below.refl _ _⟩
 | false =>
  rw [he] at hE hD;obtain ⟨t, ht⟩ : ∃ t : ByteArray, (⟨(Lib.trimS s.data.toList [48, 49, 50, 51, 52, 53, 54, 55, 56, 57]).toArray⟩ : ByteArray) = t := ⟨_, rfl⟩
  have hT : (t.toList == ([] : L)) = q := by
   rw [str_emp, ← ht];show (Lib.trimS s.data.toList [48, 49, 50, 51, 52, 53, 54, 55, 56, 57]).isEmpty = q;rw [Bool.eq_iff_iff, List.isEmpty_iff, hA]
  replace HT := hide (show Calls Tryz.prog 137 #[.string s, .string ⟨#[48, 49, 50, 51, 52, 53, 54, 55, 56, 57]⟩] w fun e w' => e = .returned (.string t) ∧ Below w.heap.size w w' from by rw [← ht]; exact HT.out);have HD := hide hD;clear hA hB hD he ht
  go_enter Tryz.func129, Tryz.ntmps129
  go_wp2_with fail
  refine HT.out.mono ?_;rintro e w1 ⟨rfl, hb⟩;go_wp2;go_ret;exact ⟨ret_eq1 (bool_eq (by rw [HD.out]; rfl)), hb⟩
theorem alone_any (s : ByteArray) (w : World) : Calls Tryz.prog 116 #[.string s] w fun e w' => e = .returned (.bool (alone s.data.toList)) ∧ Below w.heap.size w w' := by
 have h1 : (s.toList == ([121, 101, 115] : L)) = decide (s.data.toList = [121, 101, 115]) := by rw [str_list, Bool.eq_iff_iff]; simp
 have h2 : (s.toList == ([110, 111] : L)) = decide (s.data.toList = [110, 111]) := by rw [str_list, Bool.eq_iff_iff]; simp
 unfold alone;generalize decide (s.data.toList = [121, 101, 115]) = a at *
 generalize decide (s.data.toList = [110, 111]) = b at *
 cases a with
 | true =>
  go_enter Tryz.func116, Tryz.ntmps116
  go_wp2;go_ret;exact ⟨ret_eq1 (bool_eq (by simp)), Below.refl _ _⟩
 | false =>
  go_enter Tryz.func116, Tryz.ntmps116
  go_wp2;go_ret;exact ⟨ret_eq1 (bool_eq (by simp)), Below.refl _ _⟩
theorem version_any (s : ByteArray) (w : World) (hs : s.size ≤ 1000000000) : Calls Tryz.prog 114 #[.string s] w fun e w' => e = .returned (.bool (version s.data.toList)) ∧ Below w.heap.size w w' := by
 have HP := hide (show Calls Tryz.prog 36 #[.string s, .string ⟨#[49, 46]⟩] w fun e w' => e = .returned (.bool ([49, 46].isPrefixOf s.data.toList)) ∧ w' = w from Tryz.strings_HasPrefix s ⟨#[49, 46]⟩ w)
 have hv : version s.data.toList = ([49, 46].isPrefixOf s.data.toList && digits (s.data.toList.drop 2)) := by
  unfold version digits;rw [Bool.and_assoc]
 rw [hv]
 cases hp : ([49, 46] : L).isPrefixOf s.data.toList with
 | false =>
  rw [hp] at HP;clear hv hp
  go_enter Tryz.func114, Tryz.ntmps114
  go_wp2_with (go_at_call 36; refine HP.out.mono ?_; rintro e w' ⟨rfl, rfl⟩)
  go_ret;exact ⟨ret_eq1 (bool_eq (by simp)), Below.refl _ _⟩
 | true =>
  have h2 : 2 ≤ s.size := by have := pfx_len hp; rw [size_list] at this; exact this
  have hns : ¬ ((s.size : Int) < 2) := by omega
  have HD := hide (show Calls Tryz.prog 129 #[.string (s.extract 2 s.size)] w fun e w' => e = .returned (.bool (digits (s.data.toList.drop 2))) ∧ Below w.heap.size w w' from by
   have h := digits_any (s.extract 2 s.size) w (by rw [ByteArray.size_extract]; omega);rw [extract_end, bstr_list] at h;rw [extract_end];exact h)
  rw [hp] at HP;clear hv hp;generalize digits (s.data.toList.drop 2) = b at *
  go_enter Tryz.func114, Tryz.ntmps114
  go_wp2_with fail
  refine HP.out.mono ?_;rintro e w1 ⟨rfl, rfl⟩
  go_wp2_with fail
  refine HD.out.mono ?_;rintro e w2 ⟨rfl, hb⟩;go_wp2;go_ret;exact ⟨ret_eq1 (bool_eq (by simp)), hb⟩
end
section
open Go.RowKit Tk

def encSet : L := [48, 49, 50, 51, 52, 53, 54, 55, 56, 57, 46, 95, 45]
theorem enc_bits (c : UInt8) : (decide (97 ≤ bits BinOp.or IntKind.u8 (c.toNat : Int) 32) && decide (bits BinOp.or IntKind.u8 (c.toNat : Int) 32 ≤ 122)) = letter c := by
 have : ∀ n : Fin 256, (decide (97 ≤ bits BinOp.or IntKind.u8 (n.val : Int) 32) && decide (bits BinOp.or IntKind.u8 (n.val : Int) 32 ≤ 122)) = letter (UInt8.ofNat n.val) := by decide +kernel
 have h := this ⟨c.toNat, c.toNat_lt⟩;rwa [show UInt8.ofNat c.toNat = c from UInt8.ofNat_toNat] at h
theorem enc_set (c : UInt8) : decide (Lib.indexByte encSet c < 0) = !(digit c || c == 46 || c == 95 || c == 45) := by
 have : ∀ n : Fin 256, decide (Lib.indexByte encSet (UInt8.ofNat n.val) < 0) = !(digit (UInt8.ofNat n.val) || UInt8.ofNat n.val == 46 || UInt8.ofNat n.val == 95 || UInt8.ofNat n.val == 45) := by decide +kernel
 have h := this ⟨c.toNat, c.toNat_lt⟩;rwa [show UInt8.ofNat c.toNat = c from UInt8.ofNat_toNat] at h
def encRest (l : L) (k : Nat) : Bool := if k = 0 then encoding l else (l.drop k).all encTail
theorem encRest_next {l : L} {k : Nat} {c : UInt8} (h : l[k]? = some c) : encRest l k = ((letter c || (decide (0 < k) && (digit c || c == 46 || c == 95 || c == 45))) && encRest l (k + 1)) := by
 obtain ⟨hk, hc⟩ := List.getElem?_eq_some_iff.1 h;unfold encRest;rw [if_neg (by omega : ¬ k + 1 = 0)]
 by_cases h0 : k = 0
 ·subst h0
  cases l with
  | nil => simp at hk
  | cons d r =>
   have : d = c := hc;subst this;rw [if_pos rfl];simp [encoding]
 rw [if_neg h0, List.drop_eq_getElem_cons hk, hc, List.all_cons, decide_eq_true (show 0 < k by omega), Bool.true_and];congr 1;unfold encTail;simp only [Bool.or_assoc]

set_option maxRecDepth 20000 in
set_option maxHeartbeats 4000000 in
theorem encoding_any (s : ByteArray) (w : World) (hs : s.size ≤ 1000000000) : Calls Tryz.prog 115 #[.string s] w fun e w' => e = .returned (.bool (encoding s.data.toList)) ∧ Below w.heap.size w w' := by
 have HE := hide (str_emp s)
 have HR0 := hide (show encRest s.data.toList s.size = !s.data.toList.isEmpty from by
  unfold encRest
  by_cases h : s.size = 0
  ·have hl : s.data.toList = [] := List.eq_nil_of_length_eq_zero (by rw [size_list]; exact h);rw [if_pos h, hl];rfl
  rw [if_neg h, List.drop_of_length_le (by rw [size_list]; exact Nat.le_refl _)]
  cases hl : s.data.toList with
  | nil => rw [← size_list, hl] at h; exact absurd rfl h
  | cons c r => rfl)
 obtain ⟨b, hb⟩ : ∃ b, encoding s.data.toList = b := ⟨_, rfl⟩;have H0 := hide (show encRest s.data.toList 0 = b from hb);rw [hb];clear hb
 go_enter Tryz.func115, Tryz.ntmps115
 go_wp2
 go_loopg [8] s.size (fun g v wr => ∃ k : Nat, g = s.size - k ∧ k ≤ s.size ∧ v = .int .i64 (k : Int) ∧ encRest s.data.toList k = b ∧ wr = w)
 case atStart => exact ⟨0, rfl, by omega, rfl, H0.out, rfl⟩
 case round =>
  obtain ⟨k, hg, hk, rfl, hr, rfl⟩ := hrel;have Hg := hide hg;have Hr := hide hr;clear hg hr
  by_cases hlt : k < s.size
  ·obtain ⟨c, hc⟩ : ∃ c, s.data.toList[k]? = some c := ⟨_, List.getElem?_eq_getElem (by rw [size_list]; exact hlt)⟩;have hix := idx_run s k c hc;have HN := hide (encRest_next hc);have hl := enc_bits c;have hu := enc_set c
   have HIX := hide (show Calls Tryz.prog 88 #[.string ⟨#[48, 49, 50, 51, 52, 53, 54, 55, 56, 57, 46, 95, 45]⟩, .int .u8 (c.toNat : Nat)] wr fun e w' => e = .returned (.int .i64 (Lib.indexByte encSet c)) ∧ w' = wr from by
    have h := Tryz.strings_IndexByte ⟨#[48, 49, 50, 51, 52, 53, 54, 55, 56, 57, 46, 95, 45]⟩ (c.toNat : Int) wr;rw [Int.toNat_natCast, show c.toNat.toUInt8 = c from UInt8.ofNat_toNat] at h;exact h)
   obtain ⟨z, hz⟩ : ∃ z, Lib.indexByte encSet c = z := ⟨_, rfl⟩;rw [hz] at hu HIX;obtain ⟨u, hu2⟩ : ∃ u, (digit c || c == 46 || c == 95 || c == 45) = u := ⟨_, rfl⟩;rw [hu2] at hu HN;obtain ⟨lt, hlt2⟩ : ∃ u, letter c = u := ⟨_, rfl⟩;rw [hlt2] at hl HN;obtain ⟨d, hd⟩ : ∃ d, bits BinOp.or IntKind.u8 (c.toNat : Int) 32 = d := ⟨_, rfl⟩;rw [hd] at hl;clear hc hz hu2 hlt2
   have hl1 : (97 ≤ d ∧ d ≤ 122 ∧ lt = true) ∨ (97 ≤ d ∧ ¬ d ≤ 122 ∧ lt = false) ∨ (¬ 97 ≤ d ∧ lt = false) := by
    by_cases h1 : 97 ≤ d
    ·by_cases h2 : d ≤ 122
     ·left; exact ⟨h1, h2, by rw [← hl]; simp [h1, h2]⟩
     right; left; exact ⟨h1, h2, by rw [← hl]; simp [h1, h2]⟩
    right; right; exact ⟨h1, by rw [← hl]; simp [h1]⟩
   clear hl
   have hu1 : (z < 0 ∧ u = false) ∨ (¬ z < 0 ∧ u = true) := by
    by_cases h : z < 0
    ·left; exact ⟨h, by simpa [h] using hu⟩
    right; exact ⟨h, by simpa [h] using hu⟩
   clear hu
   rcases hl1 with ⟨g1, g2, rfl⟩ | hrest
   ·go_wp2
    go_roundg (s.size - (k + 1))
    case measure => have := Hg.out; omega
    case rel => exact ⟨k + 1, rfl, by omega, by go_num, by rw [← Hr.out, HN.out]; simp, rfl⟩
   have hlf : lt = false := by rcases hrest with ⟨-, -, h⟩ | ⟨-, h⟩ <;> exact h
   subst hlf
   by_cases h0 : k = 0
   ·have h0' : ((k : Int) == 0) = true := by simp [h0]
    have HF := hide (show b = false by rw [← Hr.out, HN.out]; simp [h0]);clear HN h0 HIX hu1
    rcases hrest with ⟨g1, g2, -⟩ | ⟨g1, -⟩
    all_goals
     go_wp2;go_ret;exact ⟨ret_eq1 (bool_eq HF.out.symm), Below.refl _ _⟩
   have h0' : ((k : Int) == 0) = false := by rw [beq_eq_false_iff_ne]; omega
   rcases hu1 with ⟨hz, rfl⟩ | ⟨hz, rfl⟩
   ·have HF := hide (show b = false by rw [← Hr.out, HN.out]; simp);clear HN h0
    rcases hrest with ⟨g1, g2, -⟩ | ⟨g1, -⟩
    all_goals
     go_wp2_with (go_at_call 88; refine HIX.out.mono ?_; rintro e w' ⟨rfl, rfl⟩)
     go_ret;exact ⟨ret_eq1 (bool_eq HF.out.symm), Below.refl _ _⟩
   have HT := hide (show encRest s.data.toList (k + 1) = b by rw [← Hr.out, HN.out]; simp; intro h; omega);clear HN h0
   rcases hrest with ⟨g1, g2, -⟩ | ⟨g1, -⟩
   all_goals
    go_wp2_with (go_at_call 88; refine HIX.out.mono ?_; rintro e w' ⟨rfl, rfl⟩)
    go_roundg (s.size - (k + 1))
    case measure => have := Hg.out; omega
    case rel => exact ⟨k + 1, rfl, by omega, by go_num, HT.out, rfl⟩
  have hke : k = s.size := by omega
  have HB := hide (show b = !s.data.toList.isEmpty by rw [← Hr.out, hke, HR0.out]);have hE := HE.out;generalize s.data.toList.isEmpty = em at *
  clear hke HR0
  cases em with
  | true =>
   go_wp2;go_ret;exact ⟨ret_eq1 (bool_eq (by rw [HB.out]; rfl)), Below.refl _ _⟩
  | false =>
   go_wp2;go_ret;exact ⟨ret_eq1 (bool_eq (by rw [HB.out]; rfl)), Below.refl _ _⟩
end
section
open Go.RowKit Tk

def PartR (w : World) (X : Nat) (s : ByteArray) (k : Nat) (may : L → Bool) (o : Option (L × Nat)) (e : Ending) (w' : World) : Prop :=
 But X w w' ∧ match o with
  | none => e = .returned (.tuple #[.bool false, .bool true]) ∧ Sc w' X s k
  | some x => e = .returned (.tuple #[.bool true, .bool (may x.1)]) ∧ k + x.2 ≤ s.size ∧ Sc w' X s (k + x.2)
theorem PartR.no {w : World} {X : Nat} {s : ByteArray} {k : Nat} {may : L → Bool} {e : Ending} {w' : World} (h1 : But X w w') (h2 : e = .returned (.tuple #[.bool false, .bool true])) (h3 : Sc w' X s k) : PartR w X s k may none e w' := ⟨h1, h2, h3⟩
theorem PartR.yes {w : World} {X : Nat} {s : ByteArray} {k n : Nat} {v : L} {may : L → Bool} {o : Option (L × Nat)} {e : Ending} {w' : World} (ho : o = some (v, n)) (h1 : But X w w') (h2 : e = .returned (.tuple #[.bool true, .bool (may v)])) (h4 : k + n ≤ s.size) (h3 : Sc w' X s (k + n)) : PartR w X s k may o e w' := by
 subst ho;exact ⟨h1, h2, h4, h3⟩
theorem part_no1 {name d : L} (h : nsp d = 0) : Tk.part name d = none := by unfold Tk.part; rw [if_pos h]
theorem part_no2 {name d : L} (h : name.isPrefixOf (d.drop (nsp d)) = false) : Tk.part name d = none := by unfold Tk.part; rw [h]; simp
theorem part_yes {name d : L} (h0 : ¬ nsp d = 0) (h : name.isPrefixOf (d.drop (nsp d)) = true) : Tk.part name d = (eqv (d.drop (nsp d + name.length))).map fun x => (x.1, nsp d + name.length + x.2) := by
 unfold Tk.part;rw [if_neg h0, if_pos h]
theorem quoted_short {t : L} {x : L × Nat} (h : Tk.quoted t = some x) : x.1.length ≤ t.length := by
 cases t with
 | nil => cases h
 | cons q r =>
  replace h : (if q = 34 ∨ q = 39 then (till [q] r).map fun k => (r.take k, k + 2) else none) = some x := h
  split at h
  ·cases ht : till [q] r with
   | none => rw [ht] at h; cases h
   | some n =>
    rw [ht] at h;cases h;simp;omega
  cases h
theorem eqv_short {d : L} {x : L × Nat} (h : eqv d = some x) : x.1.length ≤ d.length := by
 unfold eqv at h
 split at h
 ·cases h
 rename_i c r e
 split at h
 ·cases hq : Tk.quoted (r.drop (nsp r)) with
  | none => rw [hq] at h; cases h
  | some y =>
   rw [hq] at h;cases h;have h1 := quoted_short hq;have h2 := congrArg List.length e;rw [List.length_drop] at h1 h2;rw [List.length_cons] at h2;dsimp only;omega
 cases h
theorem version_str (v : L) (w : World) (h : v.length ≤ 1000000000) : Calls Tryz.prog 114 #[.string (bstr v)] w fun e w' => e = .returned (.bool (version v)) ∧ Below w.heap.size w w' := version_any (bstr v) w (by rw [bstr_size]; exact h)
theorem encoding_str (v : L) (w : World) (h : v.length ≤ 1000000000) : Calls Tryz.prog 115 #[.string (bstr v)] w fun e w' => e = .returned (.bool (encoding v)) ∧ Below w.heap.size w w' := encoding_any (bstr v) w (by rw [bstr_size]; exact h)
theorem alone_str (v : L) (w : World) (_ : v.length ≤ 1000000000) : Calls Tryz.prog 116 #[.string (bstr v)] w fun e w' => e = .returned (.bool (alone v)) ∧ Below w.heap.size w w' := alone_any (bstr v) w

set_option maxHeartbeats 8000000 in
set_option maxRecDepth 20000 in
theorem part_version (w : World) (X : Nat) (s : ByteArray) (k : Nat) (hX : Sc w X s k) (hX6 : 6 ≤ X) (hg : Gl w) (ha : k ≤ s.size) (hs : s.size ≤ 1000000000) :
  Calls Tryz.prog 113 #[.pointer (some ⟨X, 0, none⟩), .string ⟨#[118, 101, 114, 115, 105, 111, 110]⟩, .func (.func 114) #[] #[]] w (PartR w X s k version (Tk.part sVersion (s.data.toList.drop k))) := by
 obtain ⟨d, hd⟩ : ∃ d, s.data.toList.drop k = d := ⟨_, rfl⟩;have hdl : d.length = s.size - k := by rw [← hd, List.length_drop, size_list]
 obtain ⟨a, hak⟩ : ∃ a, nsp d = a := ⟨_, rfl⟩;have hal : a ≤ s.size - k := by have := nsp_le d; omega
 have HB1 := hide (blanks_any w X s k hX ha hs);have hd1 : s.data.toList.drop (k + a) = d.drop a := by rw [drop_add, hd]
 have HI := hide fun W (hW : Sc W X s (k + a)) => isp_any W X s ⟨#[118, 101, 114, 115, 105, 111, 110]⟩ (k + a) hW (by omega) hs (by decide);rw [hd, hak] at HB1;rw [hd1] at HI;rw [hd];have q1 := Sc.c1 hX
 by_cases h0 : a = 0
 ·rw [part_no1 (by rw [hak]; exact h0)];have ha' : ¬ 0 < a := by omega
  have HK0 := hide (show k + a = k by omega);clear hd hdl hd1 hak hal h0 HI
  go_enter Tryz.func113, Tryz.ntmps113
  go_wp2_with fail
  clear q1;refine HB1.out.mono ?_;rintro e w1 ⟨rfl, h1, b1⟩;rw [HK0.out] at h1;have B1 := hide b1;have S1 := hide h1;have f1 := Sc.f1 h1;have q1 := Sc.c1 h1;clear b1 h1;go_wp2;go_ret2;exact PartR.no (B1.out.setCell (.inl rfl) _) rfl (Sc.move S1.out k)
 have ha' : 0 < a := by omega
 cases hp : (sVersion : L).isPrefixOf (d.drop a) with
 | false =>
  rw [part_no2 (by rw [hak]; exact hp)]
  replace HI := hide fun W hW => (show Calls Tryz.prog 86 #[.pointer (some ⟨X, 0, none⟩), .string ⟨#[118, 101, 114, 115, 105, 111, 110]⟩] W fun e w' => e = .returned (.bool false) ∧ Sc w' X s (k + a) ∧ But X W w' from by
   have := HI.out W hW;rw [show ((⟨#[118, 101, 114, 115, 105, 111, 110]⟩ : ByteArray).data.toList.isPrefixOf (d.drop a)) = false from hp] at this
   simpa using this)
  clear hp hd hdl hd1 hak hal h0
  go_enter Tryz.func113, Tryz.ntmps113
  go_wp2_with fail
  clear q1;refine HB1.out.mono ?_;rintro e w1 ⟨rfl, h1, b1⟩;have B1 := hide b1;have S1 := hide h1;clear b1 h1
  go_wp2_with fail
  refine (HI.out _ S1.out).mono ?_;rintro e w2 ⟨rfl, h2, b2⟩;have B2 := hide (B1.out.trans b2);have S2 := hide h2;have f1 := Sc.f1 h2;have q1 := Sc.c1 h2;clear b2 h2;go_wp2;go_ret2;exact PartR.no (B2.out.setCell (.inl rfl) _) rfl (Sc.move S2.out k)
 | true =>
  have hpl := pfx_len hp;rw [List.length_drop] at hpl;have hnl : (sVersion : L).length = 7 := rfl;rw [part_yes (by rw [hak]; exact h0) (by rw [hak]; exact hp), hak, hnl]
  replace HI := hide fun W hW => (show Calls Tryz.prog 86 #[.pointer (some ⟨X, 0, none⟩), .string ⟨#[118, 101, 114, 115, 105, 111, 110]⟩] W fun e w' => e = .returned (.bool true) ∧ Sc w' X s (k + (a + 7)) ∧ But X W w' from by
   have := HI.out W hW;rw [show ((⟨#[118, 101, 114, 115, 105, 111, 110]⟩ : ByteArray).data.toList.isPrefixOf (d.drop a)) = true from hp] at this
   simpa [ByteArray.size, Nat.add_assoc] using this)
  have HV := hide fun W (hW : Sc W X s (k + (a + 7))) (hb : But X w W) => (show Calls Tryz.prog 87 #[.pointer (some ⟨X, 0, none⟩)] W (ValR W X s (k + (a + 7)) (eqv (d.drop (a + 7)))) from by
   have := value_any W X s (k + (a + 7)) hW hX6 (hg.but hb hX6) (by omega) hs;rwa [drop_add, hd] at this)
  obtain ⟨o, ho⟩ : ∃ o, eqv (d.drop (a + 7)) = o := ⟨_, rfl⟩;rw [ho] at HV ⊢;have HL := hide (fun (x : L × Nat) (h : o = some x) => eqv_short (by rw [← h, ← ho]));have HD := hide (show (d.drop (a + 7)).length ≤ 1000000000 by rw [List.length_drop]; omega);clear hp hd hd1 hak hal h0 hpl hdl ho
  go_enter Tryz.func113, Tryz.ntmps113
  go_wp2_with fail
  clear q1;refine HB1.out.mono ?_;rintro e w1 ⟨rfl, h1, b1⟩;have B1 := hide b1;have S1 := hide h1;clear b1 h1
  go_wp2_with fail
  refine (HI.out _ S1.out).mono ?_;rintro e w2 ⟨rfl, h2, b2⟩;have B2 := hide (B1.out.trans b2);have S2 := hide h2;clear b2 h2
  go_wp2_with fail
  refine (HV.out _ S2.out B2.out).mono ?_;rintro e w3 hv
  cases o with
  | none =>
   obtain ⟨b3, rfl, k3, -, -, h3⟩ := hv;have B3 := hide (B2.out.trans b3);have S3 := hide h3;have f1 := Sc.f1 h3;have q1 := Sc.c1 h3;clear b3 h3 HV HI HB1;go_wp2;go_ret2;exact PartR.no (B3.out.setCell (.inl rfl) _) rfl (Sc.move S3.out k)
  | some x =>
   obtain ⟨b3, rfl, hle, h3⟩ := hv;have B3 := hide (B2.out.trans b3);have S3 := hide h3;have HM := hide fun W => (show Calls Tryz.prog 114 #[.string (bstr x.1)] W fun e w' => e = .returned (.bool (version x.1)) ∧ Below W.heap.size W w' from version_str x.1 W (by have := HL.out x rfl; have := HD.out; omega));have HLe := hide hle;clear b3 h3 HV HI HB1 hle
   go_wp2_with fail
   refine (HM.out _).mono ?_;rintro e w4 ⟨rfl, b4⟩;have B4 := hide (B3.out.go b4);have S4 := hide (Blk.go S3.out b4);clear b4;go_wp2;go_ret2;exact PartR.yes (o := ((some x).map fun x : L × Nat => (x.1, a + 7 + x.2))) rfl B4.out rfl (by have := HLe.out; omega) (by rw [← Nat.add_assoc]; exact S4.out)

set_option maxHeartbeats 8000000 in
set_option maxRecDepth 20000 in
theorem part_encoding (w : World) (X : Nat) (s : ByteArray) (k : Nat) (hX : Sc w X s k) (hX6 : 6 ≤ X) (hg : Gl w) (ha : k ≤ s.size) (hs : s.size ≤ 1000000000) :
  Calls Tryz.prog 113 #[.pointer (some ⟨X, 0, none⟩), .string ⟨#[101, 110, 99, 111, 100, 105, 110, 103]⟩, .func (.func 115) #[] #[]] w (PartR w X s k encoding (Tk.part sEncoding (s.data.toList.drop k))) := by
 obtain ⟨d, hd⟩ : ∃ d, s.data.toList.drop k = d := ⟨_, rfl⟩;have hdl : d.length = s.size - k := by rw [← hd, List.length_drop, size_list]
 obtain ⟨a, hak⟩ : ∃ a, nsp d = a := ⟨_, rfl⟩;have hal : a ≤ s.size - k := by have := nsp_le d; omega
 have HB1 := hide (blanks_any w X s k hX ha hs);have hd1 : s.data.toList.drop (k + a) = d.drop a := by rw [drop_add, hd]
 have HI := hide fun W (hW : Sc W X s (k + a)) => isp_any W X s ⟨#[101, 110, 99, 111, 100, 105, 110, 103]⟩ (k + a) hW (by omega) hs (by decide);rw [hd, hak] at HB1;rw [hd1] at HI;rw [hd];have q1 := Sc.c1 hX
 by_cases h0 : a = 0
 ·rw [part_no1 (by rw [hak]; exact h0)];have ha' : ¬ 0 < a := by omega
  have HK0 := hide (show k + a = k by omega);clear hd hdl hd1 hak hal h0 HI
  go_enter Tryz.func113, Tryz.ntmps113
  go_wp2_with fail
  clear q1;refine HB1.out.mono ?_;rintro e w1 ⟨rfl, h1, b1⟩;rw [HK0.out] at h1;have B1 := hide b1;have S1 := hide h1;have f1 := Sc.f1 h1;have q1 := Sc.c1 h1;clear b1 h1;go_wp2;go_ret2;exact PartR.no (B1.out.setCell (.inl rfl) _) rfl (Sc.move S1.out k)
 have ha' : 0 < a := by omega
 cases hp : (sEncoding : L).isPrefixOf (d.drop a) with
 | false =>
  rw [part_no2 (by rw [hak]; exact hp)]
  replace HI := hide fun W hW => (show Calls Tryz.prog 86 #[.pointer (some ⟨X, 0, none⟩), .string ⟨#[101, 110, 99, 111, 100, 105, 110, 103]⟩] W fun e w' => e = .returned (.bool false) ∧ Sc w' X s (k + a) ∧ But X W w' from by
   have := HI.out W hW;rw [show ((⟨#[101, 110, 99, 111, 100, 105, 110, 103]⟩ : ByteArray).data.toList.isPrefixOf (d.drop a)) = false from hp] at this
   simpa using this)
  clear hp hd hdl hd1 hak hal h0
  go_enter Tryz.func113, Tryz.ntmps113
  go_wp2_with fail
  clear q1;refine HB1.out.mono ?_;rintro e w1 ⟨rfl, h1, b1⟩;have B1 := hide b1;have S1 := hide h1;clear b1 h1
  go_wp2_with fail
  refine (HI.out _ S1.out).mono ?_;rintro e w2 ⟨rfl, h2, b2⟩;have B2 := hide (B1.out.trans b2);have S2 := hide h2;have f1 := Sc.f1 h2;have q1 := Sc.c1 h2;clear b2 h2;go_wp2;go_ret2;exact PartR.no (B2.out.setCell (.inl rfl) _) rfl (Sc.move S2.out k)
 | true =>
  have hpl := pfx_len hp;rw [List.length_drop] at hpl;have hnl : (sEncoding : L).length = 8 := rfl;rw [part_yes (by rw [hak]; exact h0) (by rw [hak]; exact hp), hak, hnl]
  replace HI := hide fun W hW => (show Calls Tryz.prog 86 #[.pointer (some ⟨X, 0, none⟩), .string ⟨#[101, 110, 99, 111, 100, 105, 110, 103]⟩] W fun e w' => e = .returned (.bool true) ∧ Sc w' X s (k + (a + 8)) ∧ But X W w' from by
   have := HI.out W hW;rw [show ((⟨#[101, 110, 99, 111, 100, 105, 110, 103]⟩ : ByteArray).data.toList.isPrefixOf (d.drop a)) = true from hp] at this
   simpa [ByteArray.size, Nat.add_assoc] using this)
  have HV := hide fun W (hW : Sc W X s (k + (a + 8))) (hb : But X w W) => (show Calls Tryz.prog 87 #[.pointer (some ⟨X, 0, none⟩)] W (ValR W X s (k + (a + 8)) (eqv (d.drop (a + 8)))) from by
   have := value_any W X s (k + (a + 8)) hW hX6 (hg.but hb hX6) (by omega) hs;rwa [drop_add, hd] at this)
  obtain ⟨o, ho⟩ : ∃ o, eqv (d.drop (a + 8)) = o := ⟨_, rfl⟩;rw [ho] at HV ⊢;have HL := hide (fun (x : L × Nat) (h : o = some x) => eqv_short (by rw [← h, ← ho]));have HD := hide (show (d.drop (a + 8)).length ≤ 1000000000 by rw [List.length_drop]; omega);clear hp hd hd1 hak hal h0 hpl hdl ho
  go_enter Tryz.func113, Tryz.ntmps113
  go_wp2_with fail
  clear q1;refine HB1.out.mono ?_;rintro e w1 ⟨rfl, h1, b1⟩;have B1 := hide b1;have S1 := hide h1;clear b1 h1
  go_wp2_with fail
  refine (HI.out _ S1.out).mono ?_;rintro e w2 ⟨rfl, h2, b2⟩;have B2 := hide (B1.out.trans b2);have S2 := hide h2;clear b2 h2
  go_wp2_with fail
  refine (HV.out _ S2.out B2.out).mono ?_;rintro e w3 hv
  cases o with
  | none =>
   obtain ⟨b3, rfl, k3, -, -, h3⟩ := hv;have B3 := hide (B2.out.trans b3);have S3 := hide h3;have f1 := Sc.f1 h3;have q1 := Sc.c1 h3;clear b3 h3 HV HI HB1;go_wp2;go_ret2;exact PartR.no (B3.out.setCell (.inl rfl) _) rfl (Sc.move S3.out k)
  | some x =>
   obtain ⟨b3, rfl, hle, h3⟩ := hv;have B3 := hide (B2.out.trans b3);have S3 := hide h3;have HM := hide fun W => (show Calls Tryz.prog 115 #[.string (bstr x.1)] W fun e w' => e = .returned (.bool (encoding x.1)) ∧ Below W.heap.size W w' from encoding_str x.1 W (by have := HL.out x rfl; have := HD.out; omega));have HLe := hide hle;clear b3 h3 HV HI HB1 hle
   go_wp2_with fail
   refine (HM.out _).mono ?_;rintro e w4 ⟨rfl, b4⟩;have B4 := hide (B3.out.go b4);have S4 := hide (Blk.go S3.out b4);clear b4;go_wp2;go_ret2;exact PartR.yes (o := ((some x).map fun x : L × Nat => (x.1, a + 8 + x.2))) rfl B4.out rfl (by have := HLe.out; omega) (by rw [← Nat.add_assoc]; exact S4.out)

set_option maxHeartbeats 8000000 in
set_option maxRecDepth 20000 in
theorem part_alone (w : World) (X : Nat) (s : ByteArray) (k : Nat) (hX : Sc w X s k) (hX6 : 6 ≤ X) (hg : Gl w) (ha : k ≤ s.size) (hs : s.size ≤ 1000000000) :
  Calls Tryz.prog 113 #[.pointer (some ⟨X, 0, none⟩), .string ⟨#[115, 116, 97, 110, 100, 97, 108, 111, 110, 101]⟩, .func (.func 116) #[] #[]] w (PartR w X s k alone (Tk.part sAlone (s.data.toList.drop k))) := by
 obtain ⟨d, hd⟩ : ∃ d, s.data.toList.drop k = d := ⟨_, rfl⟩;have hdl : d.length = s.size - k := by rw [← hd, List.length_drop, size_list]
 obtain ⟨a, hak⟩ : ∃ a, nsp d = a := ⟨_, rfl⟩;have hal : a ≤ s.size - k := by have := nsp_le d; omega
 have HB1 := hide (blanks_any w X s k hX ha hs);have hd1 : s.data.toList.drop (k + a) = d.drop a := by rw [drop_add, hd]
 have HI := hide fun W (hW : Sc W X s (k + a)) => isp_any W X s ⟨#[115, 116, 97, 110, 100, 97, 108, 111, 110, 101]⟩ (k + a) hW (by omega) hs (by decide);rw [hd, hak] at HB1;rw [hd1] at HI;rw [hd];have q1 := Sc.c1 hX
 by_cases h0 : a = 0
 ·rw [part_no1 (by rw [hak]; exact h0)];have ha' : ¬ 0 < a := by omega
  have HK0 := hide (show k + a = k by omega);clear hd hdl hd1 hak hal h0 HI
  go_enter Tryz.func113, Tryz.ntmps113
  go_wp2_with fail
  clear q1;refine HB1.out.mono ?_;rintro e w1 ⟨rfl, h1, b1⟩;rw [HK0.out] at h1;have B1 := hide b1;have S1 := hide h1;have f1 := Sc.f1 h1;have q1 := Sc.c1 h1;clear b1 h1;go_wp2;go_ret2;exact PartR.no (B1.out.setCell (.inl rfl) _) rfl (Sc.move S1.out k)
 have ha' : 0 < a := by omega
 cases hp : (sAlone : L).isPrefixOf (d.drop a) with
 | false =>
  rw [part_no2 (by rw [hak]; exact hp)]
  replace HI := hide fun W hW => (show Calls Tryz.prog 86 #[.pointer (some ⟨X, 0, none⟩), .string ⟨#[115, 116, 97, 110, 100, 97, 108, 111, 110, 101]⟩] W fun e w' => e = .returned (.bool false) ∧ Sc w' X s (k + a) ∧ But X W w' from by
   have := HI.out W hW;rw [show ((⟨#[115, 116, 97, 110, 100, 97, 108, 111, 110, 101]⟩ : ByteArray).data.toList.isPrefixOf (d.drop a)) = false from hp] at this
   simpa using this)
  clear hp hd hdl hd1 hak hal h0
  go_enter Tryz.func113, Tryz.ntmps113
  go_wp2_with fail
  clear q1;refine HB1.out.mono ?_;rintro e w1 ⟨rfl, h1, b1⟩;have B1 := hide b1;have S1 := hide h1;clear b1 h1
  go_wp2_with fail
  refine (HI.out _ S1.out).mono ?_;rintro e w2 ⟨rfl, h2, b2⟩;have B2 := hide (B1.out.trans b2);have S2 := hide h2;have f1 := Sc.f1 h2;have q1 := Sc.c1 h2;clear b2 h2;go_wp2;go_ret2;exact PartR.no (B2.out.setCell (.inl rfl) _) rfl (Sc.move S2.out k)
 | true =>
  have hpl := pfx_len hp;rw [List.length_drop] at hpl;have hnl : (sAlone : L).length = 10 := rfl;rw [part_yes (by rw [hak]; exact h0) (by rw [hak]; exact hp), hak, hnl]
  replace HI := hide fun W hW => (show Calls Tryz.prog 86 #[.pointer (some ⟨X, 0, none⟩), .string ⟨#[115, 116, 97, 110, 100, 97, 108, 111, 110, 101]⟩] W fun e w' => e = .returned (.bool true) ∧ Sc w' X s (k + (a + 10)) ∧ But X W w' from by
   have := HI.out W hW;rw [show ((⟨#[115, 116, 97, 110, 100, 97, 108, 111, 110, 101]⟩ : ByteArray).data.toList.isPrefixOf (d.drop a)) = true from hp] at this
   simpa [ByteArray.size, Nat.add_assoc] using this)
  have HV := hide fun W (hW : Sc W X s (k + (a + 10))) (hb : But X w W) => (show Calls Tryz.prog 87 #[.pointer (some ⟨X, 0, none⟩)] W (ValR W X s (k + (a + 10)) (eqv (d.drop (a + 10)))) from by
   have := value_any W X s (k + (a + 10)) hW hX6 (hg.but hb hX6) (by omega) hs;rwa [drop_add, hd] at this)
  obtain ⟨o, ho⟩ : ∃ o, eqv (d.drop (a + 10)) = o := ⟨_, rfl⟩;rw [ho] at HV ⊢;have HL := hide (fun (x : L × Nat) (h : o = some x) => eqv_short (by rw [← h, ← ho]));have HD := hide (show (d.drop (a + 10)).length ≤ 1000000000 by rw [List.length_drop]; omega);clear hp hd hd1 hak hal h0 hpl hdl ho
  go_enter Tryz.func113, Tryz.ntmps113
  go_wp2_with fail
  clear q1;refine HB1.out.mono ?_;rintro e w1 ⟨rfl, h1, b1⟩;have B1 := hide b1;have S1 := hide h1;clear b1 h1
  go_wp2_with fail
  refine (HI.out _ S1.out).mono ?_;rintro e w2 ⟨rfl, h2, b2⟩;have B2 := hide (B1.out.trans b2);have S2 := hide h2;clear b2 h2
  go_wp2_with fail
  refine (HV.out _ S2.out B2.out).mono ?_;rintro e w3 hv
  cases o with
  | none =>
   obtain ⟨b3, rfl, k3, -, -, h3⟩ := hv;have B3 := hide (B2.out.trans b3);have S3 := hide h3;have f1 := Sc.f1 h3;have q1 := Sc.c1 h3;clear b3 h3 HV HI HB1;go_wp2;go_ret2;exact PartR.no (B3.out.setCell (.inl rfl) _) rfl (Sc.move S3.out k)
  | some x =>
   obtain ⟨b3, rfl, hle, h3⟩ := hv;have B3 := hide (B2.out.trans b3);have S3 := hide h3;have HM := hide fun W => (show Calls Tryz.prog 116 #[.string (bstr x.1)] W fun e w' => e = .returned (.bool (alone x.1)) ∧ Below W.heap.size W w' from alone_str x.1 W (by have := HL.out x rfl; have := HD.out; omega));have HLe := hide hle;clear b3 h3 HV HI HB1 hle
   go_wp2_with fail
   refine (HM.out _).mono ?_;rintro e w4 ⟨rfl, b4⟩;have B4 := hide (B3.out.go b4);have S4 := hide (Blk.go S3.out b4);clear b4;go_wp2;go_ret2;exact PartR.yes (o := ((some x).map fun x : L × Nat => (x.1, a + 10 + x.2))) rfl B4.out rfl (by have := HLe.out; omega) (by rw [← Nat.add_assoc]; exact S4.out)
end
end Go.Proofs.YtaickkaoglohgaaGreatDoor
