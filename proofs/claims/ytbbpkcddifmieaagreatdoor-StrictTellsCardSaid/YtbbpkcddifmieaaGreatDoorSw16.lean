/- References: the document's names, digits, where a reference ends. (Printed by wip/genSxG.py.) · References: the document's Number. (Printed by wip/genSxH.py.) · The document's Put: a scalar's bytes. -/
import Derived.Test.YtbbpkcddifmieaaGreatDoorSw01
import Derived.Test.YtbbpkcddifmieaaGreatDoorSw15
set_option linter.unusedSimpArgs false
set_option linter.unusedVariables false
namespace Go.Proofs.YtbbpkcddifmieaaGreatDoor
section
open Go.RowKit Tk Sx

set_option maxHeartbeats 4000000 in
theorem named13_any (s : ByteArray) (w : World) : Calls Tryz.prog 42 #[.string s] w fun e w' => e = .returned (optV (named s.data.toList)) ∧ w' = w := by
 have h1 : (s.toList == [108, 116]) = decide (s.data.toList = sLt) := lit_eq s sLt;have h2 : (s.toList == [103, 116]) = decide (s.data.toList = sGt) := lit_eq s sGt;have h3 : (s.toList == [97, 109, 112]) = decide (s.data.toList = sAmp) := lit_eq s sAmp;have h4 : (s.toList == [97, 112, 111, 115]) = decide (s.data.toList = sApos) := lit_eq s sApos;have h5 : (s.toList == [113, 117, 111, 116]) = decide (s.data.toList = sQuot) := lit_eq s sQuot;obtain ⟨z, hz⟩ : ∃ z, named s.data.toList = z := ⟨_, rfl⟩;rw [hz]
 have hz' : (if decide (s.data.toList = sLt) = true then some 60 else if decide (s.data.toList = sGt) = true then some 62 else if decide (s.data.toList = sAmp) = true then some 38 else if decide (s.data.toList = sApos) = true then some 39 else if decide (s.data.toList = sQuot) = true then some 34 else none) = z := by
  rw [← hz]; unfold named; simp only [decide_eq_true_eq]
 clear hz;generalize decide (s.data.toList = sLt) = b1 at *
 generalize decide (s.data.toList = sGt) = b2 at *
 generalize decide (s.data.toList = sAmp) = b3 at *
 generalize decide (s.data.toList = sApos) = b4 at *
 generalize decide (s.data.toList = sQuot) = b5 at *

 cases b1 with
 | true =>
  have Hr := hide (show some 60 = z from hz');clear hz'
  go_enter Tryz.func42, Tryz.ntmps42
  go_wp2
  go_ret2
  rw [← Hr.out]
  exact ⟨rfl, rfl⟩
 | false =>
  cases b2 with
  | true =>
   have Hr := hide (show some 62 = z from hz');clear hz'
   go_enter Tryz.func42, Tryz.ntmps42
   go_wp2
   go_ret2
   rw [← Hr.out]
   exact ⟨rfl, rfl⟩
  | false =>
   cases b3 with
   | true =>
    have Hr := hide (show some 38 = z from hz');clear hz'
    go_enter Tryz.func42, Tryz.ntmps42
    go_wp2
    go_ret2
    rw [← Hr.out]
    exact ⟨rfl, rfl⟩
   | false =>
    cases b4 with
    | true =>
     have Hr := hide (show some 39 = z from hz');clear hz'
     go_enter Tryz.func42, Tryz.ntmps42
     go_wp2
     go_ret2
     rw [← Hr.out]
     exact ⟨rfl, rfl⟩
    | false =>
     cases b5 with
     | true =>
      have Hr := hide (show some 34 = z from hz');clear hz'
      go_enter Tryz.func42, Tryz.ntmps42
      go_wp2
      go_ret2
      rw [← Hr.out]
      exact ⟨rfl, rfl⟩
     | false =>
      have Hr := hide (show none = z from hz');clear hz'
      go_enter Tryz.func42, Tryz.ntmps42
      go_wp2
      go_ret2
      rw [← Hr.out]
      exact ⟨rfl, rfl⟩

theorem u8_small (x : Int) (h : 0 ≤ x ∧ x < 256) : IntKind.u8.wrap x = x := IntWalk.u8_in x (by omega)
def digI (c : UInt8) (base : Nat) : Int := if base ≤ worth c then -1 else (worth c : Int)
set_option maxHeartbeats 4000000 in
theorem digit13_any (c : UInt8) (base : Nat) (w : World) (hb : 1 ≤ base ∧ base ≤ 16) : Calls Tryz.prog 71 #[.int .u8 (c.toNat : Nat), .int .i64 (base : Int)] w fun e w' => e = .returned (.int .i64 (digI c base)) ∧ w' = w := by
 obtain ⟨z, hz⟩ : ∃ z, digI c base = z := ⟨_, rfl⟩;rw [hz];unfold digI worth at hz;have hlt := c.toNat_lt;obtain ⟨q, hq⟩ : ∃ q : Nat, c.toNat = q := ⟨_, rfl⟩;rw [hq] at hz hlt ⊢;obtain ⟨m, hm⟩ : ∃ m : Nat, (if 48 ≤ q ∧ q ≤ 57 then q - 48 else if 97 ≤ q ∧ q ≤ 102 then q - 87 else if 65 ≤ q ∧ q ≤ 70 then q - 55 else 16) = m := ⟨_, rfl⟩;rw [hm] at hz;clear hq
 by_cases a1 : 48 ≤ q
 ·by_cases a2 : q ≤ 57
  ·skip
   have g1 : (48 : Int) ≤ (q : Int) := by omega
   have g2 : (q : Int) ≤ 57 := by omega
   obtain ⟨y, hy⟩ : ∃ y : Nat, q - 48 = y := ⟨_, rfl⟩;have hu : IntKind.u8.wrap ((q : Int) - 48) = (y : Int) := by rw [u8_small _ (by omega)]; omega
   have hw : IntKind.i64.wrap (y : Int) = (y : Int) := IntWalk.i64_in _ (by omega);have em : m = y + 0 := by rw [← hm, if_pos ⟨a1, a2⟩]; omega
   clear hm
   by_cases hbb : base ≤ y + 0
   ·have gb : (base : Int) ≤ (y : Int) := by omega
    have Hr := hide (show (-1 : Int) = z by rw [← hz, if_pos (by omega)]);clear hz hlt hy hbb em
    go_enter Tryz.func71, Tryz.ntmps71
    go_wp2
    go_ret
    exact ⟨ret_eq1 (int_eq (Hr.out)), rfl⟩
   have gb : ¬ (base : Int) ≤ (y : Int) := by omega
   have Hr := hide (show (y : Int) = z by rw [← hz, if_neg (by omega)]; omega);clear hz hlt hy hbb em
   go_enter Tryz.func71, Tryz.ntmps71
   go_wp2
   go_ret
   exact ⟨ret_eq1 (int_eq (Hr.out)), rfl⟩
  by_cases b1 : 97 ≤ q
  ·by_cases b2 : q ≤ 102
   ·skip
    have g1 : (48 : Int) ≤ (q : Int) := by omega
    have g2 : ¬ (q : Int) ≤ 57 := by omega
    have g3 : (97 : Int) ≤ (q : Int) := by omega
    have g4 : (q : Int) ≤ 102 := by omega
    obtain ⟨y, hy⟩ : ∃ y : Nat, q - 97 = y := ⟨_, rfl⟩;have hu : IntKind.u8.wrap ((q : Int) - 97) = (y : Int) := by rw [u8_small _ (by omega)]; omega
    have hw : IntKind.i64.wrap (y : Int) = (y : Int) := IntWalk.i64_in _ (by omega);have hw2 : IntKind.i64.wrap ((y : Int) + 10) = (y : Int) + 10 := IntWalk.i64_in _ (by omega);have em : m = y + 10 := by rw [← hm, if_neg (by omega), if_pos ⟨b1, b2⟩]; omega
    clear hm
    by_cases hbb : base ≤ y + 10
    ·have gb : (base : Int) ≤ (y : Int) + 10 := by omega
     have Hr := hide (show (-1 : Int) = z by rw [← hz, if_pos (by omega)]);clear hz hlt hy hbb em
     go_enter Tryz.func71, Tryz.ntmps71
     go_wp2
     go_ret
     exact ⟨ret_eq1 (int_eq (Hr.out)), rfl⟩
    have gb : ¬ (base : Int) ≤ (y : Int) + 10 := by omega
    have Hr := hide (show (y : Int) + 10 = z by rw [← hz, if_neg (by omega)]; omega);clear hz hlt hy hbb em
    go_enter Tryz.func71, Tryz.ntmps71
    go_wp2
    go_ret
    exact ⟨ret_eq1 (int_eq (Hr.out)), rfl⟩
   skip
   have g1 : (48 : Int) ≤ (q : Int) := by omega
   have g2 : ¬ (q : Int) ≤ 57 := by omega
   have g3 : (97 : Int) ≤ (q : Int) := by omega
   have g4 : ¬ (q : Int) ≤ 102 := by omega
   have g5 : (65 : Int) ≤ (q : Int) := by omega
   have g6 : ¬ (q : Int) ≤ 70 := by omega
   have em : m = 16 := by rw [← hm, if_neg (by omega), if_neg (by omega), if_neg (by omega)]
   have Hr := hide (show (-1 : Int) = z by rw [← hz, if_pos (by omega)]);clear em hm;have gb : ¬ (base : Int) ≤ -1 := by omega
   clear hz hlt
   go_enter Tryz.func71, Tryz.ntmps71
   go_wp2
   go_ret
   exact ⟨ret_eq1 (int_eq (Hr.out)), rfl⟩
  by_cases d1 : 65 ≤ q
  ·by_cases d2 : q ≤ 70
   ·skip
    have g1 : (48 : Int) ≤ (q : Int) := by omega
    have g2 : ¬ (q : Int) ≤ 57 := by omega
    have g3 : ¬ (97 : Int) ≤ (q : Int) := by omega
    have g5 : (65 : Int) ≤ (q : Int) := by omega
    have g6 : (q : Int) ≤ 70 := by omega
    obtain ⟨y, hy⟩ : ∃ y : Nat, q - 65 = y := ⟨_, rfl⟩;have hu : IntKind.u8.wrap ((q : Int) - 65) = (y : Int) := by rw [u8_small _ (by omega)]; omega
    have hw : IntKind.i64.wrap (y : Int) = (y : Int) := IntWalk.i64_in _ (by omega);have hw2 : IntKind.i64.wrap ((y : Int) + 10) = (y : Int) + 10 := IntWalk.i64_in _ (by omega);have em : m = y + 10 := by rw [← hm, if_neg (by omega), if_neg (by omega), if_pos ⟨d1, d2⟩]; omega
    clear hm
    by_cases hbb : base ≤ y + 10
    ·have gb : (base : Int) ≤ (y : Int) + 10 := by omega
     have Hr := hide (show (-1 : Int) = z by rw [← hz, if_pos (by omega)]);clear hz hlt hy hbb em
     go_enter Tryz.func71, Tryz.ntmps71
     go_wp2
     go_ret
     exact ⟨ret_eq1 (int_eq (Hr.out)), rfl⟩
    have gb : ¬ (base : Int) ≤ (y : Int) + 10 := by omega
    have Hr := hide (show (y : Int) + 10 = z by rw [← hz, if_neg (by omega)]; omega);clear hz hlt hy hbb em
    go_enter Tryz.func71, Tryz.ntmps71
    go_wp2
    go_ret
    exact ⟨ret_eq1 (int_eq (Hr.out)), rfl⟩
   skip
   have g1 : (48 : Int) ≤ (q : Int) := by omega
   have g2 : ¬ (q : Int) ≤ 57 := by omega
   have g3 : ¬ (97 : Int) ≤ (q : Int) := by omega
   have g5 : (65 : Int) ≤ (q : Int) := by omega
   have g6 : ¬ (q : Int) ≤ 70 := by omega
   have em : m = 16 := by rw [← hm, if_neg (by omega), if_neg (by omega), if_neg (by omega)]
   have Hr := hide (show (-1 : Int) = z by rw [← hz, if_pos (by omega)]);clear em hm;have gb : ¬ (base : Int) ≤ -1 := by omega
   clear hz hlt
   go_enter Tryz.func71, Tryz.ntmps71
   go_wp2
   go_ret
   exact ⟨ret_eq1 (int_eq (Hr.out)), rfl⟩
  skip
  have g1 : (48 : Int) ≤ (q : Int) := by omega
  have g2 : ¬ (q : Int) ≤ 57 := by omega
  have g3 : ¬ (97 : Int) ≤ (q : Int) := by omega
  have g5 : ¬ (65 : Int) ≤ (q : Int) := by omega
  have em : m = 16 := by rw [← hm, if_neg (by omega), if_neg (by omega), if_neg (by omega)]
  have Hr := hide (show (-1 : Int) = z by rw [← hz, if_pos (by omega)]);clear em hm;have gb : ¬ (base : Int) ≤ -1 := by omega
  clear hz hlt
  go_enter Tryz.func71, Tryz.ntmps71
  go_wp2
  go_ret
  exact ⟨ret_eq1 (int_eq (Hr.out)), rfl⟩
 skip
 have g1 : ¬ (48 : Int) ≤ (q : Int) := by omega
 have g3 : ¬ (97 : Int) ≤ (q : Int) := by omega
 have g5 : ¬ (65 : Int) ≤ (q : Int) := by omega
 have em : m = 16 := by rw [← hm, if_neg (by omega), if_neg (by omega), if_neg (by omega)]
 have Hr := hide (show (-1 : Int) = z by rw [← hz, if_pos (by omega)]);clear em hm;have gb : ¬ (base : Int) ≤ -1 := by omega
 clear hz hlt
 go_enter Tryz.func71, Tryz.ntmps71
 go_wp2
 go_ret
 exact ⟨ret_eq1 (int_eq (Hr.out)), rfl⟩

set_option maxHeartbeats 4000000 in
theorem end13_any (s : ByteArray) (a0 : Nat) (w : World) (ha : a0 < s.size) (hs : s.size ≤ 1000000000) :
  Calls Tryz.prog 40 #[.string s, .int .i64 (a0 : Int)] w fun e w' => e = .returned (.int .i64 (endsI s.data.toList (a0 + 1))) ∧ w' = w := by
 obtain ⟨D, hD⟩ : ∃ D, s.data.toList = D := ⟨_, rfl⟩;have HDl := hide (show D.length = s.size by rw [← hD, size_list]);have hidx : ∀ (k : Nat) (c : UInt8), D[k]? = some c → ∀ w, (Instr.index 9 (.string s) (.int .i64 (k : Int))).run Tryz.prog w = .ok (.int .u8 (c.toNat : Nat)) w := fun k c h => idx_run s k c (by rw [hD]; exact h);have HI := hide hidx;rw [hD];obtain ⟨z, hz⟩ : ∃ z, endsI D (a0 + 1) = z := ⟨_, rfl⟩;have Hz := hide hz;rw [hz];have hw1 : IntKind.i64.wrap ((a0 : Int) + 1) = ((a0 + 1 : Nat) : Int) := by rw [IntWalk.i64_in _ (by omega)]; omega
 clear hD hz hidx
 go_enter Tryz.func40, Tryz.ntmps40
 go_wp2
 go_loopg [5] (s.size - (a0 + 1)) (fun gk v wr => ∃ k : Nat, gk = s.size - k ∧ k ≤ s.size ∧ v = .int .i64 (k : Int) ∧ endsI D k = z ∧ wr = w)
 case atStart => exact ⟨a0 + 1, rfl, by omega, rfl, Hz.out, rfl⟩
 case round =>
  obtain ⟨k, hgk, hk, rfl, hzk, rfl⟩ := hrel;have Hg := hide hgk;have Hzk := hide hzk;clear hgk hzk Hz hw1
  by_cases hlt : k < s.size
  ·obtain ⟨c, hc⟩ : ∃ c, D[k]? = some c := ⟨_, List.getElem?_eq_getElem (by rw [HDl.out]; exact hlt)⟩;have hix := HI.out k c hc
   have key : ∀ d : UInt8, ((c.toNat : Int) == (d.toNat : Int)) = (c == d) := fun d => by
    rw [Bool.eq_iff_iff, beq_iff_eq, beq_iff_eq];exact ⟨fun h => UInt8.toNat_inj.1 (by omega), fun h => by rw [h]⟩
   have e1 : ((c.toNat : Int) == 59) = (c == 59) := key 59;have e2 : ((c.toNat : Int) == 38) = (c == 38) := key 38;have e3 : ((c.toNat : Int) == 60) = (c == 60) := key 60;clear key
   by_cases h1 : c = 59
   ·have Hr := hide (show (k : Int) = z by rw [← Hzk.out, endsI_hit hc h1]);have q1 : (c == 59) = true := by rw [beq_iff_eq]; exact h1
    clear h1 hc Hzk e2 e3
    go_wp2
    go_ret
    exact ⟨ret_eq1 (int_eq (Hr.out)), rfl⟩
   have q1 : (c == 59) = false := by rw [beq_eq_false_iff_ne]; exact h1
   by_cases h2 : c = 38
   ·have Hr := hide (show (-1 : Int) = z by rw [← Hzk.out, endsI_stop hc h1 (.inl h2)]);have q2 : (c == 38) = true := by rw [beq_iff_eq]; exact h2
    clear h1 h2 hc Hzk e3
    go_wp2
    go_ret
    exact ⟨ret_eq1 (int_eq (Hr.out)), rfl⟩
   have q2 : (c == 38) = false := by rw [beq_eq_false_iff_ne]; exact h2
   by_cases h3 : c = 60
   ·have Hr := hide (show (-1 : Int) = z by rw [← Hzk.out, endsI_stop hc h1 (.inr h3)]);have q3 : (c == 60) = true := by rw [beq_iff_eq]; exact h3
    clear h1 h2 h3 hc Hzk
    go_wp2
    go_ret
    exact ⟨ret_eq1 (int_eq (Hr.out)), rfl⟩
   have q3 : (c == 60) = false := by rw [beq_eq_false_iff_ne]; exact h3
   have Hn := hide (show endsI D (k + 1) = z by rw [← Hzk.out, endsI_next hc h1 h2 h3]);clear h1 h2 h3 hc Hzk;go_wp2
   go_roundg (s.size - (k + 1))
   case measure => have := Hg.out; omega
   case rel => exact ⟨k + 1, rfl, by omega, by go_num, Hn.out, rfl⟩
  have Hr := hide (show (-1 : Int) = z by rw [← Hzk.out, endsI_none (by rw [HDl.out]; omega)]);clear Hzk
  go_wp2
  go_ret
  exact ⟨ret_eq1 (int_eq (Hr.out)), rfl⟩
end
section
open Go.RowKit Tk Sx

theorem sat_next24 (v base d : Nat) (hb : 1 ≤ base) : min (min v 16777216 * base + d) 16777216 = min (v * base + d) 16777216 := by
 by_cases h : v ≤ 16777216
 ·rw [Nat.min_eq_left h]
 rw [Nat.min_eq_right (by omega : 16777216 ≤ v)];have h1 : 16777216 ≤ 16777216 * base := Nat.le_mul_of_pos_right _ hb;have h2 : 16777216 * base ≤ v * base := Nat.mul_le_mul_right _ (by omega);rw [Nat.min_eq_right (by omega), Nat.min_eq_right (by omega)]
theorem char_sat24 (v : Nat) : charOk ((min v 16777216 : Nat) : Int) = charOk (v : Int) := by
 by_cases h : v ≤ 16777216
 ·rw [Nat.min_eq_left h]
 rw [Nat.min_eq_right (by omega)];have h1 : charOk ((16777216 : Nat) : Int) = false := by decide
 rw [h1]
 symm
 unfold charOk Tk.within;rw [Bool.eq_false_iff];intro hc;simp only [Bool.or_eq_true, Bool.and_eq_true, decide_eq_true_eq] at hc;omega
theorem number_short {D : L} (h : D.length < 2) : number D = none := by
 match D, h with
 | [], _ => rfl
 | [c], _ => unfold number; by_cases hc : c = 35 <;> simp [hc]
theorem number_no {a : UInt8} {r : L} (h : a ≠ 35) : number (a :: r) = none := by unfold number; simp [h]
theorem number_hex {r : L} : number (35 :: 120 :: r) = if r = [] then none else (numVal 16 0 r).map chk := by
 unfold number
 by_cases hr : r = [] <;> simp [hr]
theorem number_dec {b : UInt8} {r : L} (h : b ≠ 120) : number (35 :: b :: r) = (numVal 10 0 (b :: r)).map chk := by unfold number; simp [h]

set_option maxHeartbeats 16000000 in
set_option maxRecDepth 20000 in
theorem number13_any (D : L) (w : World) (hD : D.length ≤ 1000000000) :
  Calls Tryz.prog 41 #[.string (bstr D)] w fun e w' => e = .returned (numV (number D)) ∧ w' = w := by
 have hs := bstr_size D;obtain ⟨z, hz⟩ : ∃ z, number D = z := ⟨_, rfl⟩;rw [hz];have hidx : ∀ (k : Nat) (c : UInt8), D[k]? = some c → ∀ w, (Instr.index 9 (.string (bstr D)) (.int .i64 (k : Int))).run Tryz.prog w = .ok (.int .u8 (c.toNat : Nat)) w := fun k c h => idx_run (bstr D) k c h
 by_cases h2 : D.length < 2
 ·have g2 : ((bstr D).size : Int) < 2 := by omega
  have Hr := hide (show numV z = .tuple #[.int .i64 0, .bool false, .bool false] by rw [← hz, number_short h2]; rfl);clear hz h2 hs hidx
  go_enter Tryz.func41, Tryz.ntmps41
  go_wp2
  go_ret3
  rw [Hr.out]
  exact ⟨rfl, rfl⟩
 have g2 : ¬ ((bstr D).size : Int) < 2 := by omega
 obtain ⟨a, b, r, hDe⟩ : ∃ a b r, D = a :: b :: r := by
  match D, h2 with
  | a :: b :: r, _ => exact ⟨a, b, r, rfl⟩
  | [], h => exact absurd h (by simp)
  | [c], h => exact absurd h (by simp)
 have i0 : ∀ w, (Instr.index 9 (.string (bstr D)) (.int .i64 0)).run Tryz.prog w = .ok (.int .u8 (a.toNat : Nat)) w := hidx 0 a (by rw [hDe]; rfl);have i1 : ∀ w, (Instr.index 9 (.string (bstr D)) (.int .i64 1)).run Tryz.prog w = .ok (.int .u8 (b.toNat : Nat)) w := hidx 1 b (by rw [hDe]; rfl)
 have e0 : ((a.toNat : Int) != 35) = !(a == 35) := by
  rw [Bool.eq_iff_iff, bne_iff_ne, Bool.not_eq_true', beq_eq_false_iff_ne];exact ⟨fun h h' => h (by rw [h']; rfl), fun h h' => h (UInt8.toNat_inj.1 (by show a.toNat = 35; omega))⟩
 have e1 : ((b.toNat : Int) == 120) = (b == 120) := by
  rw [Bool.eq_iff_iff, beq_iff_eq, beq_iff_eq];exact ⟨fun h => UInt8.toNat_inj.1 (by show b.toNat = 120; omega), fun h => by rw [h]; rfl⟩
 by_cases ha : a = 35
 ·have q0 : (a == 35) = true := by rw [beq_iff_eq]; exact ha
  have HI := hide hidx;have Hs := hide hs;have hDa : D = 35 :: b :: r := by rw [hDe, ha]
  have hl : D.length = r.length + 2 := by rw [hDe]; rfl
  clear hidx hDe ha hs
  by_cases hb : b = 120
  ·have q1 : (b == 120) = true := by rw [beq_iff_eq]; exact hb
   by_cases hr : r = []
   ·have g3 : ((2 : Int) == ((bstr D).size : Int)) = true := by rw [beq_iff_eq, Hs.out, hl, hr]; rfl
    have Hr := hide (show numV z = .tuple #[.int .i64 0, .bool false, .bool false] by rw [← hz, hDa, hb, number_hex, if_pos hr]; rfl);clear hz hDa hl hb hr h2
    go_enter Tryz.func41, Tryz.ntmps41
    go_wp2
    go_ret3
    rw [Hr.out]
    exact ⟨rfl, rfl⟩
   have hrl := List.length_pos_iff.2 hr;have g3 : ((2 : Int) == ((bstr D).size : Int)) = false := by rw [beq_eq_false_iff_ne, Hs.out]; omega
   have Hz := hide (show z = (numVal 16 0 r).map chk by rw [← hz, hDa, hb, number_hex, if_neg hr]);have Hdr := hide (show D.drop 2 = r by rw [hDa]; rfl);have Hl := hide hl;clear hz hDa hl hb hr h2 hrl
   go_enter Tryz.func41, Tryz.ntmps41
   go_wp2
   go_loopg [7, 8] ((bstr D).size - 2) (fun gk vr vi wr => ∃ k v : Nat, gk = (bstr D).size - k ∧ k ≤ (bstr D).size ∧ vi = .int .i64 (k : Int) ∧ vr = .int .i64 ((min v 16777216 : Nat) : Int) ∧ numVal 16 0 r = numVal 16 v (D.drop k) ∧ wr = w)
   case atStart => exact ⟨2, 0, rfl, by rw [Hs.out, Hl.out]; omega, rfl, rfl, by rw [Hdr.out], rfl⟩
   case round =>
    obtain ⟨k, v, hgk, hk, rfl, rfl, hv, rfl⟩ := hrel;have Hg := hide hgk;have Hv := hide hv;clear hgk hv;obtain ⟨rr, hrr⟩ : ∃ rr, min v 16777216 = rr := ⟨_, rfl⟩;have Hrr := hide hrr;have hrl : rr ≤ 16777216 := by rw [← hrr]; exact Nat.min_le_right _ _
    rw [hrr];clear hrr i0 i1 e0 e1 q0 g2 g3
    by_cases hlt : k < (bstr D).size
    ·obtain ⟨c, hc⟩ : ∃ c, D[k]? = some c := ⟨_, List.getElem?_eq_getElem (by rw [← Hs.out]; exact hlt)⟩;have hix := HI.out k c hc;have HW := hide (fun W => digit13_any c 16 W (by omega));have hdr := drop_cons0 hc;have hstep : numVal 16 v (D.drop k) = if 16 ≤ worth c then none else numVal 16 (v * 16 + worth c) (D.drop (k + 1)) := by rw [hdr]; rfl
     have hwl := worth_le c;unfold digI at HW;generalize worth c = d at *
     have Hst := hide hstep;clear hstep hdr hc
     by_cases hd : 16 ≤ d
     ·rw [if_pos hd] at HW;have Hr := hide (show numV z = .tuple #[.int .i64 0, .bool false, .bool false] by rw [Hz.out, Hv.out, Hst.out, if_pos hd]; rfl);clear hd Hst
      go_wp2_with fail
      refine cq (HW.out _) ?_
      go_wp2
      go_ret3
      rw [Hr.out]
      exact ⟨rfl, rfl⟩
     rw [if_neg hd] at HW;have gd : ¬ (d : Int) < 0 := by omega
     have Hv2 := hide (show numVal 16 0 r = numVal 16 (v * 16 + d) (D.drop (k + 1)) by rw [Hv.out, Hst.out, if_neg hd]);have hw1 : IntKind.i64.wrap ((rr : Int) * 16) = (rr : Int) * 16 := IntWalk.i64_in _ (by omega);have hw2 : IntKind.i64.wrap ((rr : Int) * 16 + (d : Int)) = (rr : Int) * 16 + (d : Int) := IntWalk.i64_in _ (by omega)
     have hmin : min ((rr : Int) * 16 + (d : Int)) 16777216 = ((min (v * 16 + d) 16777216 : Nat) : Int) := by
      rw [← sat_next24 v 16 d (by omega), Hrr.out];omega
     have hwk : IntKind.i64.wrap ((k : Int) + 1) = (k : Int) + 1 := IntWalk.i64_in _ (by have := Hs.out; omega);clear hd Hst
     go_wp2_with fail
     refine cq (HW.out _) ?_
     go_wp2
     go_roundg ((bstr D).size - (k + 1))
     case measure => have := Hg.out; omega
     case rel => exact ⟨k + 1, v * 16 + d, rfl, by omega, by first | rfl | go_num, by first | rfl | go_num, Hv2.out, rfl⟩
    have Hfin := hide (show numVal 16 v (D.drop k) = some v by rw [List.drop_of_length_le (by rw [← Hs.out]; omega)]; rfl);have HCh := hide (fun W => refChar_any (rr : Int) W);have hcs : charOk (rr : Int) = charOk (v : Int) := by rw [← char_sat24 v, Hrr.out]
    rw [hcs] at HCh;clear hcs
    cases hco : charOk (v : Int) with
    | false =>
     rw [hco] at HCh;have Hr := hide (show numV z = .tuple #[.int .i64 0, .bool true, .bool false] by rw [Hz.out, Hv.out, Hfin.out, Option.map_some]; unfold chk; rw [hco]; rfl);clear hco
     go_wp2_with fail
     refine cq (HCh.out _) ?_
     go_wp2
     go_ret3
     rw [Hr.out]
     exact ⟨rfl, rfl⟩
    | true =>
     rw [hco] at HCh
     have hvs : rr = v := by
      rw [← Hrr.out];refine Nat.min_eq_left ?_;rw [← Nat.not_lt];intro h;have := char_sat24 v;rw [hco, Nat.min_eq_right (by omega)] at this
      revert this
      decide
     have Hr := hide (show numV z = .tuple #[.int .i64 (rr : Int), .bool true, .bool true] by rw [Hz.out, Hv.out, Hfin.out, Option.map_some]; unfold chk; rw [hco, hvs]; rfl);clear hco hvs
     go_wp2_with fail
     refine cq (HCh.out _) ?_
     go_wp2
     go_ret3
     rw [Hr.out]
     exact ⟨rfl, rfl⟩
  have q1 : (b == 120) = false := by rw [beq_eq_false_iff_ne]; exact hb
  have g3 : ((1 : Int) == ((bstr D).size : Int)) = false := by rw [beq_eq_false_iff_ne, Hs.out]; omega
  have Hz := hide (show z = (numVal 10 0 (b :: r)).map chk by rw [← hz, hDa, number_dec hb]);have Hdr := hide (show D.drop 1 = b :: r by rw [hDa]; rfl);have Hl := hide hl;clear hz hDa hl hb h2
  go_enter Tryz.func41, Tryz.ntmps41
  go_wp2
  go_loopg [7, 8] ((bstr D).size - 1) (fun gk vr vi wr => ∃ k v : Nat, gk = (bstr D).size - k ∧ k ≤ (bstr D).size ∧ vi = .int .i64 (k : Int) ∧ vr = .int .i64 ((min v 16777216 : Nat) : Int) ∧ numVal 10 0 (b :: r) = numVal 10 v (D.drop k) ∧ wr = w)
  case atStart => exact ⟨1, 0, rfl, by rw [Hs.out, Hl.out]; omega, rfl, rfl, by rw [Hdr.out], rfl⟩
  case round =>
   obtain ⟨k, v, hgk, hk, rfl, rfl, hv, rfl⟩ := hrel;have Hg := hide hgk;have Hv := hide hv;clear hgk hv;obtain ⟨rr, hrr⟩ : ∃ rr, min v 16777216 = rr := ⟨_, rfl⟩;have Hrr := hide hrr;have hrl : rr ≤ 16777216 := by rw [← hrr]; exact Nat.min_le_right _ _
   rw [hrr];clear hrr i0 i1 e0 e1 q0 g2 g3
   by_cases hlt : k < (bstr D).size
   ·obtain ⟨c, hc⟩ : ∃ c, D[k]? = some c := ⟨_, List.getElem?_eq_getElem (by rw [← Hs.out]; exact hlt)⟩;have hix := HI.out k c hc;have HW := hide (fun W => digit13_any c 10 W (by omega));have hdr := drop_cons0 hc;have hstep : numVal 10 v (D.drop k) = if 10 ≤ worth c then none else numVal 10 (v * 10 + worth c) (D.drop (k + 1)) := by rw [hdr]; rfl
    have hwl := worth_le c;unfold digI at HW;generalize worth c = d at *
    have Hst := hide hstep;clear hstep hdr hc
    by_cases hd : 10 ≤ d
    ·rw [if_pos hd] at HW;have Hr := hide (show numV z = .tuple #[.int .i64 0, .bool false, .bool false] by rw [Hz.out, Hv.out, Hst.out, if_pos hd]; rfl);clear hd Hst
     go_wp2_with fail
     refine cq (HW.out _) ?_
     go_wp2
     go_ret3
     rw [Hr.out]
     exact ⟨rfl, rfl⟩
    rw [if_neg hd] at HW;have gd : ¬ (d : Int) < 0 := by omega
    have Hv2 := hide (show numVal 10 0 (b :: r) = numVal 10 (v * 10 + d) (D.drop (k + 1)) by rw [Hv.out, Hst.out, if_neg hd]);have hw1 : IntKind.i64.wrap ((rr : Int) * 10) = (rr : Int) * 10 := IntWalk.i64_in _ (by omega);have hw2 : IntKind.i64.wrap ((rr : Int) * 10 + (d : Int)) = (rr : Int) * 10 + (d : Int) := IntWalk.i64_in _ (by omega)
    have hmin : min ((rr : Int) * 10 + (d : Int)) 16777216 = ((min (v * 10 + d) 16777216 : Nat) : Int) := by
     rw [← sat_next24 v 10 d (by omega), Hrr.out];omega
    have hwk : IntKind.i64.wrap ((k : Int) + 1) = (k : Int) + 1 := IntWalk.i64_in _ (by have := Hs.out; omega);clear hd Hst
    go_wp2_with fail
    refine cq (HW.out _) ?_
    go_wp2
    go_roundg ((bstr D).size - (k + 1))
    case measure => have := Hg.out; omega
    case rel => exact ⟨k + 1, v * 10 + d, rfl, by omega, by first | rfl | go_num, by first | rfl | go_num, Hv2.out, rfl⟩
   have Hfin := hide (show numVal 10 v (D.drop k) = some v by rw [List.drop_of_length_le (by rw [← Hs.out]; omega)]; rfl);have HCh := hide (fun W => refChar_any (rr : Int) W);have hcs : charOk (rr : Int) = charOk (v : Int) := by rw [← char_sat24 v, Hrr.out]
   rw [hcs] at HCh;clear hcs
   cases hco : charOk (v : Int) with
   | false =>
    rw [hco] at HCh;have Hr := hide (show numV z = .tuple #[.int .i64 0, .bool true, .bool false] by rw [Hz.out, Hv.out, Hfin.out, Option.map_some]; unfold chk; rw [hco]; rfl);clear hco
    go_wp2_with fail
    refine cq (HCh.out _) ?_
    go_wp2
    go_ret3
    rw [Hr.out]
    exact ⟨rfl, rfl⟩
   | true =>
    rw [hco] at HCh
    have hvs : rr = v := by
     rw [← Hrr.out];refine Nat.min_eq_left ?_;rw [← Nat.not_lt];intro h;have := char_sat24 v;rw [hco, Nat.min_eq_right (by omega)] at this
     revert this
     decide
    have Hr := hide (show numV z = .tuple #[.int .i64 (rr : Int), .bool true, .bool true] by rw [Hz.out, Hv.out, Hfin.out, Option.map_some]; unfold chk; rw [hco, hvs]; rfl);clear hco hvs
    go_wp2_with fail
    refine cq (HCh.out _) ?_
    go_wp2
    go_ret3
    rw [Hr.out]
    exact ⟨rfl, rfl⟩
 have q0 : (a == 35) = false := by rw [beq_eq_false_iff_ne]; exact ha
 have Hr := hide (show numV z = .tuple #[.int .i64 0, .bool false, .bool false] by rw [← hz, hDe, number_no ha]; rfl);clear hz h2 hs hidx hDe ha
 go_enter Tryz.func41, Tryz.ntmps41
 go_wp2
 go_ret3
 rw [Hr.out]
 exact ⟨rfl, rfl⟩
end
section
open Go.RowKit Tk Sx

set_option maxHeartbeats 2000000 in
theorem refIs_yes (r : Int) (w : World) (h : Utf.isScalar r = true) : Calls Tryz.prog 99 #[.int .i64 r] w fun e w' => e = .returned (.bool true) ∧ w' = w := by
 simp [Utf.isScalar] at h;have g1 : (0 : Int) ≤ r := h.1;have g2 : r ≤ 1114111 := h.2.1
 by_cases h3 : r < 55296
 ·clear h
  go_enter Tryz.func99, Tryz.ntmps99
  go_wp2;go_ret;exact ⟨rfl, rfl⟩
 have g4 : 57343 < r := by omega
 clear h
 go_enter Tryz.func99, Tryz.ntmps99
 go_wp2;go_ret;exact ⟨rfl, rfl⟩
set_option maxHeartbeats 2000000 in
theorem refLen_yes (r : Int) (w : World) (h : Utf.isScalar r = true) : Calls Tryz.prog 72 #[.int .i64 r] w fun e w' => e = .returned (.int .i64 (lenOf r)) ∧ w' = w := by
 have HI := hide (fun W => refIs_yes r W h);obtain ⟨z, hz⟩ : ∃ z, lenOf r = z := ⟨_, rfl⟩;rw [hz];unfold lenOf at hz;clear h
 by_cases h1 : r < 128
 ·have Hr := hide (show (1 : Int) = z by rw [← hz, if_pos h1]);clear hz
  go_enter Tryz.func72, Tryz.ntmps72
  go_wp2_with fail
  refine cq (HI.out _) ?_
  go_wp2
  go_ret
  exact ⟨ret_eq1 (int_eq (Hr.out)), rfl⟩
 by_cases h2 : r < 2048
 ·have Hr := hide (show (2 : Int) = z by rw [← hz, if_neg h1, if_pos h2]);clear hz
  go_enter Tryz.func72, Tryz.ntmps72
  go_wp2_with fail
  refine cq (HI.out _) ?_
  go_wp2
  go_ret
  exact ⟨ret_eq1 (int_eq (Hr.out)), rfl⟩
 by_cases h3 : r < 65536
 ·have Hr := hide (show (3 : Int) = z by rw [← hz, if_neg h1, if_neg h2, if_pos h3]);clear hz
  go_enter Tryz.func72, Tryz.ntmps72
  go_wp2_with fail
  refine cq (HI.out _) ?_
  go_wp2
  go_ret
  exact ⟨ret_eq1 (int_eq (Hr.out)), rfl⟩
 have Hr := hide (show (4 : Int) = z by rw [← hz, if_neg h1, if_neg h2, if_neg h3]);clear hz
 go_enter Tryz.func72, Tryz.ntmps72
 go_wp2_with fail
 refine cq (HI.out _) ?_
 go_wp2
 go_ret
 exact ⟨ret_eq1 (int_eq (Hr.out)), rfl⟩

theorem i64_or_of (x y : Int) (k : Nat) (h0 : 0 ≤ x) (hy : 0 ≤ y) (hk : y < 2 ^ k) (hx : x * 2 ^ k + y < 9223372036854775808) (z : Int) (hz : z = x * 2 ^ k) : bits .or .i64 z y = z + y := by
 subst hz; exact i64_or_add x y k h0 hy hk hx
theorem low6 (x : Int) (h0 : 0 ≤ x) (h1 : x < 9223372036854775808) : bits .and .i64 x 63 = x % 64 := i64_mask x 6 h0 h1 (by omega) _ rfl
theorem or128 (x : Int) : bits .or .i64 128 (x % 64) = 128 + x % 64 := i64_or_of 2 _ 6 (by omega) (by omega) (by omega) (by omega) _ rfl
def putL (r : Int) : L := (Utf.put r).map bv
def PutR (r : Int) (w : World) (e : Ending) (w' : World) : Prop := e = .returned (.tuple #[.string (bstr (putL r)), .bool true]) ∧ Below w.heap.size w w'
theorem PutR.of {r : Int} {w w' : World} {t : ByteArray} {e : Ending} (he : e = .returned (.tuple #[.string t, .bool true])) (ht : StrIs t (putL r)) (hb : Below w.heap.size w w') : PutR r w e w' := by
 unfold StrIs at ht;have : t = bstr (putL r) := by rw [← ht, bstr_of]
 subst this;exact ⟨he, hb⟩
set_option maxHeartbeats 4000000 in
theorem refPut1 (r : Int) (w : World) (h : Utf.isScalar r = true) (h1 : r < 128) : Calls Tryz.prog 43 #[.int .i64 r] w (PutR r w) := by
 have HL := hide (show ∀ W, Calls Tryz.prog 72 #[.int .i64 r] W fun e w' => e = .returned (.int .i64 1) ∧ w' = W from fun W => by have := refLen_yes r W h; unfold lenOf at this; rwa [if_pos h1] at this);have h0 : 0 ≤ r ∧ r ≤ 1114111 := by simp [Utf.isScalar] at h; omega
 have HP := hide (show [bv (r)] = putL r by
  unfold putL Utf.put;rw [if_pos h1];simp only [List.map_cons, List.map_nil]
  all_goals rw [show (r) = (r : Int) by omega])
 clear h
 go_enter Tryz.func43, Tryz.ntmps43
 go_wp2_with fail
 refine cq (HL.out _) ?_
 go_wp2_with (with_reducible show wpList _ _ _ (⟨_, .convert 51 9 _, _, _, _, _⟩ :: _) _ _; refine wpList_to_string rfl 51 9 5 _ rfl Tryz.underlying51 Tryz.underlying5 Tryz.underlying9 w.heap.size _ 1 rfl _ (own_bytes1 w _ _ _ rfl (Nat.le_refl _) (r) ⟨by omega, by omega⟩) ?_; intro t ht)
 go_ret2;exact PutR.of rfl (by rw [← HP.out]; exact ht) (below_alloc w _)
set_option maxHeartbeats 4000000 in
theorem refPut2 (r : Int) (w : World) (h : Utf.isScalar r = true) (h1 : ¬ r < 128) (h2 : r < 2048) : Calls Tryz.prog 43 #[.int .i64 r] w (PutR r w) := by
 have HL := hide (show ∀ W, Calls Tryz.prog 72 #[.int .i64 r] W fun e w' => e = .returned (.int .i64 2) ∧ w' = W from fun W => by have := refLen_yes r W h; unfold lenOf at this; rwa [if_neg h1, if_pos h2] at this);have h0 : 0 ≤ r ∧ r ≤ 1114111 := by simp [Utf.isScalar] at h; omega
 have a0 : bits .and .i64 r 63 = r % 64 := low6 r (by omega) (by omega);have b0 := or128 r;have o1 : bits .or .i64 192 (r / 64) = 192 + r / 64 := i64_or_of 6 _ 5 (by omega) (by omega) (by omega) (by omega) _ rfl
 have HP := hide (show [bv ((192 + r / 64)), bv ((128 + r % 64))] = putL r by
  unfold putL Utf.put;rw [if_neg h1, if_pos h2];simp only [List.map_cons, List.map_nil]
  all_goals rw [show ((192 + r / 64)) = (192 + r / 64 : Int) by omega, show ((128 + r % 64)) = (128 + r % 64 : Int) by omega])
 clear h
 go_enter Tryz.func43, Tryz.ntmps43
 go_wp2_with fail
 refine cq (HL.out _) ?_
 go_wp2_with (with_reducible show wpList _ _ _ (⟨_, .convert 51 9 _, _, _, _, _⟩ :: _) _ _; refine wpList_to_string rfl 51 9 5 _ rfl Tryz.underlying51 Tryz.underlying5 Tryz.underlying9 w.heap.size _ 2 rfl _ (own_bytes2 w _ _ _ rfl (Nat.le_refl _) ((192 + r / 64)) ((128 + r % 64)) ⟨by omega, by omega⟩ ⟨by omega, by omega⟩) ?_; intro t ht)
 go_ret2;exact PutR.of rfl (by rw [← HP.out]; exact ht) (below_alloc w _)
set_option maxHeartbeats 4000000 in
theorem refPut3 (r : Int) (w : World) (h : Utf.isScalar r = true) (h1 : ¬ r < 128) (h2 : ¬ r < 2048) (h3 : r < 65536) : Calls Tryz.prog 43 #[.int .i64 r] w (PutR r w) := by
 have HL := hide (show ∀ W, Calls Tryz.prog 72 #[.int .i64 r] W fun e w' => e = .returned (.int .i64 3) ∧ w' = W from fun W => by have := refLen_yes r W h; unfold lenOf at this; rwa [if_neg h1, if_neg h2, if_pos h3] at this);have h0 : 0 ≤ r ∧ r ≤ 1114111 := by simp [Utf.isScalar] at h; omega
 have a0 : bits .and .i64 r 63 = r % 64 := low6 r (by omega) (by omega);have b0 := or128 r;have a1 : bits .and .i64 (r / 64) 63 = r / 64 % 64 := low6 _ (by omega) (by omega);have b1 := or128 (r / 64);have o1 : bits .or .i64 224 (r / 4096) = 224 + r / 4096 := i64_or_of 14 _ 4 (by omega) (by omega) (by omega) (by omega) _ rfl
 have HP := hide (show [bv ((224 + r / 4096)), bv ((128 + r / 64 % 64)), bv ((128 + r % 64))] = putL r by
  unfold putL Utf.put;rw [if_neg h1, if_neg h2, if_pos h3];simp only [List.map_cons, List.map_nil]
  all_goals rw [show ((224 + r / 4096)) = (224 + r / 64 / 64 : Int) by omega, show ((128 + r / 64 % 64)) = (128 + r / 64 % 64 : Int) by omega, show ((128 + r % 64)) = (128 + r % 64 : Int) by omega])
 clear h
 go_enter Tryz.func43, Tryz.ntmps43
 go_wp2_with fail
 refine cq (HL.out _) ?_
 go_wp2_with (with_reducible show wpList _ _ _ (⟨_, .convert 51 9 _, _, _, _, _⟩ :: _) _ _; refine wpList_to_string rfl 51 9 5 _ rfl Tryz.underlying51 Tryz.underlying5 Tryz.underlying9 w.heap.size _ 3 rfl _ (own_bytes3 w _ _ _ rfl (Nat.le_refl _) ((224 + r / 4096)) ((128 + r / 64 % 64)) ((128 + r % 64)) ⟨by omega, by omega⟩ ⟨by omega, by omega⟩ ⟨by omega, by omega⟩) ?_; intro t ht)
 go_ret2;exact PutR.of rfl (by rw [← HP.out]; exact ht) (below_alloc w _)
set_option maxHeartbeats 4000000 in
theorem refPut4 (r : Int) (w : World) (h : Utf.isScalar r = true) (h1 : ¬ r < 128) (h2 : ¬ r < 2048) (h3 : ¬ r < 65536) : Calls Tryz.prog 43 #[.int .i64 r] w (PutR r w) := by
 have HL := hide (show ∀ W, Calls Tryz.prog 72 #[.int .i64 r] W fun e w' => e = .returned (.int .i64 4) ∧ w' = W from fun W => by have := refLen_yes r W h; unfold lenOf at this; rwa [if_neg h1, if_neg h2, if_neg h3] at this);have h0 : 0 ≤ r ∧ r ≤ 1114111 := by simp [Utf.isScalar] at h; omega
 have a0 : bits .and .i64 r 63 = r % 64 := low6 r (by omega) (by omega);have b0 := or128 r;have a1 : bits .and .i64 (r / 64) 63 = r / 64 % 64 := low6 _ (by omega) (by omega);have b1 := or128 (r / 64);have a2 : bits .and .i64 (r / 4096) 63 = r / 4096 % 64 := low6 _ (by omega) (by omega);have b2 := or128 (r / 4096);have o1 : bits .or .i64 240 (r / 262144) = 240 + r / 262144 := i64_or_of 30 _ 3 (by omega) (by omega) (by omega) (by omega) _ rfl
 have HP := hide (show [bv ((240 + r / 262144)), bv ((128 + r / 4096 % 64)), bv ((128 + r / 64 % 64)), bv ((128 + r % 64))] = putL r by
  unfold putL Utf.put;rw [if_neg h1, if_neg h2, if_neg h3];simp only [List.map_cons, List.map_nil]
  all_goals rw [show ((240 + r / 262144)) = (240 + r / 64 / 64 / 64 : Int) by omega, show ((128 + r / 4096 % 64)) = (128 + r / 64 / 64 % 64 : Int) by omega, show ((128 + r / 64 % 64)) = (128 + r / 64 % 64 : Int) by omega, show ((128 + r % 64)) = (128 + r % 64 : Int) by omega])
 clear h
 go_enter Tryz.func43, Tryz.ntmps43
 go_wp2_with fail
 refine cq (HL.out _) ?_
 go_wp2_with (with_reducible show wpList _ _ _ (⟨_, .convert 51 9 _, _, _, _, _⟩ :: _) _ _; refine wpList_to_string rfl 51 9 5 _ rfl Tryz.underlying51 Tryz.underlying5 Tryz.underlying9 w.heap.size _ 4 rfl _ (own_bytes4 w _ _ _ rfl (Nat.le_refl _) ((240 + r / 262144)) ((128 + r / 4096 % 64)) ((128 + r / 64 % 64)) ((128 + r % 64)) ⟨by omega, by omega⟩ ⟨by omega, by omega⟩ ⟨by omega, by omega⟩ ⟨by omega, by omega⟩) ?_; intro t ht)
 go_ret2;exact PutR.of rfl (by rw [← HP.out]; exact ht) (below_alloc w _)
theorem refPut_any (r : Int) (w : World) (h : Utf.isScalar r = true) : Calls Tryz.prog 43 #[.int .i64 r] w (PutR r w) := by
 by_cases h1 : r < 128
 ·exact refPut1 r w h h1
 by_cases h2 : r < 2048
 ·exact refPut2 r w h h1 h2
 by_cases h3 : r < 65536
 ·exact refPut3 r w h h1 h2 h3
 exact refPut4 r w h h1 h2 h3
theorem pPut_any (r : Int) (w : World) (h : Utf.isScalar r = true) : Calls Tryz.prog 38 #[.int .i64 r] w (PutR r w) :=
 (put_yes r w h).mono fun _ _ ⟨⟨_, he, ht⟩, hb⟩ => PutR.of he ht hb
theorem putL_short (r : Int) : (putL r).length ≤ 4 := by unfold putL; rw [List.length_map]; exact put_short r
end
end Go.Proofs.YtbbpkcddifmieaaGreatDoor
