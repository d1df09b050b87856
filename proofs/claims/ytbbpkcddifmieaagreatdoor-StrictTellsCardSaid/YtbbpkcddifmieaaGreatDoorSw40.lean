/- The document's xml: is a name xml, in any case? (Printed by wip/genTkDj.py.) · The document's reading of tokens: instructions. (Printed by wip/genTkDk.py.) -/
import Derived.Test.YtbbpkcddifmieaaGreatDoorSw22
import Derived.Test.YtbbpkcddifmieaaGreatDoorSw39
set_option linter.unusedSimpArgs false
set_option linter.unusedVariables false
namespace Go.Proofs.YtbbpkcddifmieaaGreatDoor
section
open Go.RowKit Tk

theorem lower_x (a : UInt8) : decide (lower a = 120) = (a == 120 || a == 88) := by
 have h : ∀ n : Fin 256, decide (lower (UInt8.ofNat n.val) = 120) = (UInt8.ofNat n.val == 120 || UInt8.ofNat n.val == 88) := by decide +kernel
 have := h ⟨a.toNat, a.toNat_lt⟩
 simpa using this
theorem lower_m (a : UInt8) : decide (lower a = 109) = (a == 109 || a == 77) := by
 have h : ∀ n : Fin 256, decide (lower (UInt8.ofNat n.val) = 109) = (UInt8.ofNat n.val == 109 || UInt8.ofNat n.val == 77) := by decide +kernel
 have := h ⟨a.toNat, a.toNat_lt⟩
 simpa using this
theorem lower_l (a : UInt8) : decide (lower a = 108) = (a == 108 || a == 76) := by
 have h : ∀ n : Fin 256, decide (lower (UInt8.ofNat n.val) = 108) = (UInt8.ofNat n.val == 108 || UInt8.ofNat n.val == 76) := by decide +kernel
 have := h ⟨a.toNat, a.toNat_lt⟩
 simpa using this
theorem xml_three (a b c : UInt8) : Tk.xml [a, b, c] = ((a == 120 || a == 88) && ((b == 109 || b == 77) && (c == 108 || c == 76))) := by
 rw [← lower_x, ← lower_m, ← lower_l];unfold Tk.xml;rw [Bool.eq_iff_iff];simp
theorem xml_not {D : L} (h : D.length ≠ 3) : Tk.xml D = false := by
 unfold Tk.xml;rw [decide_eq_false_iff_not];intro e;have := congrArg List.length e;simp at this;omega

set_option maxHeartbeats 8000000 in
theorem refXml_any (s : ByteArray) (w : World) (hs : s.size ≤ 1000000000) :
  Calls Tryz.prog 141 #[.string s] w fun e w' => e = .returned (.bool (Tk.xml s.data.toList)) ∧ w' = w := by
 obtain ⟨D, hD⟩ : ∃ D, s.data.toList = D := ⟨_, rfl⟩;have hDl : D.length = s.size := by rw [← hD, size_list]
 rw [hD]
 by_cases h3 : s.size = 3
 ·have g3 : ((s.size : Int) == 3) = true := by rw [beq_iff_eq]; omega
  rw [h3] at hDl
  obtain ⟨a, b, c, rfl⟩ : ∃ a b c, D = [a, b, c] := by
   match D, hDl with
   | [a, b, c], _ => exact ⟨a, b, c, rfl⟩
  have i0 : ∀ w, (Instr.index 9 (.string s) (.int .i64 0)).run Tryz.prog w = .ok (.int .u8 (a.toNat : Nat)) w := idx_run s 0 a (by rw [hD]; rfl);have i1 : ∀ w, (Instr.index 9 (.string s) (.int .i64 1)).run Tryz.prog w = .ok (.int .u8 (b.toNat : Nat)) w := idx_run s 1 b (by rw [hD]; rfl);have i2 : ∀ w, (Instr.index 9 (.string s) (.int .i64 2)).run Tryz.prog w = .ok (.int .u8 (c.toNat : Nat)) w := idx_run s 2 c (by rw [hD]; rfl)
  have key : ∀ x d : UInt8, ((x.toNat : Int) == (d.toNat : Int)) = (x == d) := fun x d => by
   rw [Bool.eq_iff_iff, beq_iff_eq, beq_iff_eq];exact ⟨fun h => UInt8.toNat_inj.1 (by omega), fun h => by rw [h]⟩
  have e1 : ((a.toNat : Int) == 120) = (a == 120) := key a 120;have e2 : ((a.toNat : Int) == 88) = (a == 88) := key a 88;have e3 : ((b.toNat : Int) == 109) = (b == 109) := key b 109;have e4 : ((b.toNat : Int) == 77) = (b == 77) := key b 77;have e5 : ((c.toNat : Int) == 108) = (c == 108) := key c 108;have e6 : ((c.toNat : Int) == 76) = (c == 76) := key c 76;rw [xml_three];clear key hD hDl h3;generalize (a == 120) = p1 at *
  generalize (a == 88) = q1 at *
  generalize (b == 109) = p2 at *
  generalize (b == 77) = q2 at *
  generalize (c == 108) = p3 at *
  generalize (c == 76) = q3 at *
  cases p1
  ·cases q1
   ·skip
    go_enter Tryz.func141, Tryz.ntmps141
    go_wp2;go_ret;exact ⟨ret_eq1 (bool_eq (by simp)), rfl⟩
   skip
   cases p2
   ·cases q2
    ·skip
     go_enter Tryz.func141, Tryz.ntmps141
     go_wp2;go_ret;exact ⟨ret_eq1 (bool_eq (by simp)), rfl⟩
    skip
    cases p3
    ·cases q3
     ·skip
      go_enter Tryz.func141, Tryz.ntmps141
      go_wp2;go_ret;exact ⟨ret_eq1 (bool_eq (by simp)), rfl⟩
     skip
     go_enter Tryz.func141, Tryz.ntmps141
     go_wp2;go_ret;exact ⟨ret_eq1 (bool_eq (by simp)), rfl⟩
    skip
    go_enter Tryz.func141, Tryz.ntmps141
    go_wp2;go_ret;exact ⟨ret_eq1 (bool_eq (by simp)), rfl⟩
   skip
   cases p3
   ·cases q3
    ·skip
     go_enter Tryz.func141, Tryz.ntmps141
     go_wp2;go_ret;exact ⟨ret_eq1 (bool_eq (by simp)), rfl⟩
    skip
    go_enter Tryz.func141, Tryz.ntmps141
    go_wp2;go_ret;exact ⟨ret_eq1 (bool_eq (by simp)), rfl⟩
   skip
   go_enter Tryz.func141, Tryz.ntmps141
   go_wp2;go_ret;exact ⟨ret_eq1 (bool_eq (by simp)), rfl⟩
  skip
  cases p2
  ·cases q2
   ·skip
    go_enter Tryz.func141, Tryz.ntmps141
    go_wp2;go_ret;exact ⟨ret_eq1 (bool_eq (by simp)), rfl⟩
   skip
   cases p3
   ·cases q3
    ·skip
     go_enter Tryz.func141, Tryz.ntmps141
     go_wp2;go_ret;exact ⟨ret_eq1 (bool_eq (by simp)), rfl⟩
    skip
    go_enter Tryz.func141, Tryz.ntmps141
    go_wp2;go_ret;exact ⟨ret_eq1 (bool_eq (by simp)), rfl⟩
   skip
   go_enter Tryz.func141, Tryz.ntmps141
   go_wp2;go_ret;exact ⟨ret_eq1 (bool_eq (by simp)), rfl⟩
  skip
  cases p3
  ·cases q3
   ·skip
    go_enter Tryz.func141, Tryz.ntmps141
    go_wp2;go_ret;exact ⟨ret_eq1 (bool_eq (by simp)), rfl⟩
   skip
   go_enter Tryz.func141, Tryz.ntmps141
   go_wp2;go_ret;exact ⟨ret_eq1 (bool_eq (by simp)), rfl⟩
  skip
  go_enter Tryz.func141, Tryz.ntmps141
  go_wp2;go_ret;exact ⟨ret_eq1 (bool_eq (by simp)), rfl⟩
 have g3 : ((s.size : Int) == 3) = false := by rw [beq_eq_false_iff_ne]; omega
 have Hr := hide (show false = Tk.xml D from (xml_not (by omega)).symm);clear hD hDl h3
 go_enter Tryz.func141, Tryz.ntmps141
 go_wp2
 go_ret
 exact ⟨ret_eq1 (bool_eq (Hr.out)), rfl⟩
end
section
open Go.RowKit Tk

def atOr (a : Nat) (o : Option Nat) : Int := match o with
 | some n => ((a + n : Nat) : Int)
 | none => -1
abbrev isDecl (at_ : Nat) (D : L) : Prop := at_ = 0 ∧ sXml.isPrefixOf D = true ∧ ((D.drop 5).head?.map sp).getD false = true
def instr2 (D : L) (e : Nat) : Int := if [63, 62].isPrefixOf (D.drop e) then ((e + 2 : Nat) : Int) else if ((D.drop e).head?.map sp).getD false = true then (match Tk.till [63, 62] (D.drop e) with | some k => ((e + k + 2 : Nat) : Int) | none => -1) else -1
def instr1 (D : L) (b : Nat) : Int := if Tk.take (D.drop b) = 0 ∨ Tk.xml ((D.drop b).take (Tk.take (D.drop b))) = true then -1 else instr2 D (b + Tk.take (D.drop b))
theorem instr1_is (D : L) (b : Nat) : instr1 D b = atOr b (Tk.instr (D.drop b)) := by
 unfold instr1 Tk.instr
 by_cases h0 : Tk.take (D.drop b) = 0 ∨ Tk.xml ((D.drop b).take (Tk.take (D.drop b))) = true
 ·rw [if_pos h0, if_pos h0]; rfl
 rw [if_neg h0, if_neg h0];generalize Tk.take (D.drop b) = n;unfold instr2;rw [List.drop_drop]
 by_cases h1 : ([63, 62] : L).isPrefixOf (D.drop (b + n)) = true
 ·rw [if_pos h1, if_pos h1]; rfl
 rw [if_neg h1, if_neg h1]
 by_cases h2 : ((D.drop (b + n)).head?.map sp).getD false = true
 ·rw [if_pos h2]
  cases ht : Tk.till [63, 62] (D.drop (b + n)) with
  | none => rfl
  | some k =>
   simp only [Option.bind_some];rw [if_pos h2];show ((b + n + k + 2 : Nat) : Int) = ((b + (n + k + 2) : Nat) : Int);congr 1;omega
 rw [if_neg h2]
 cases ht : Tk.till [63, 62] (D.drop (b + n)) with
 | none => rfl
 | some k => simp only [Option.bind_some]; rw [if_neg h2]; rfl
def instrAt (at_ : Nat) (D : L) : Int := if isDecl at_ D then declAt D else instr1 D (at_ + 2)
theorem head_some {D : L} {k : Nat} {c : UInt8} (h : D[k]? = some c) : ((D.drop k).head?.map sp).getD false = sp c := by rw [drop_cons1 h]; rfl
theorem head_none {D : L} {k : Nat} (h : D.length ≤ k) : ((D.drop k).head?.map sp).getD false = false := by rw [List.drop_of_length_le h]; rfl
theorem takeD_le (l : L) : Tk.take l ≤ l.length := (take_spec l).1

set_option maxHeartbeats 16000000 in
theorem refInstr_any (s : ByteArray) (at_ : Nat) (w : World) (ha : at_ + 2 ≤ s.size) (hs : s.size ≤ 1000000000) :
  Calls Tryz.prog 116 #[.string s, .int .i64 (at_ : Int)] w fun e w' => e = .returned (.int .i64 (instrAt at_ s.data.toList)) ∧ w' = w := by
 have HD0 := fun W (h : 5 ≤ s.size) => refDecl_any s W h hs;have HT0 := fun W => refTake_any (s.extract (at_ + 2) s.size) W (by rw [extract_end, bstr_size, List.length_drop, size_list]; omega);have HX0 := fun (n : Nat) W => refXml_any (s.extract (at_ + 2) n) W (by rw [extract_bstr, bstr_size, List.length_take, List.length_drop, size_list]; omega);have HS0 := fun (k : Nat) W (h : k ≤ s.size) => starts_at s (bstr [63, 62]) k W (by omega) (by omega) (by decide) (by decide);have HL0 := fun (k : Nat) W (h : k ≤ s.size) => refTill_any s (bstr [63, 62]) k W h (by omega) (by decide) (by decide);obtain ⟨D, hD⟩ : ∃ D, s.data.toList = D := ⟨_, rfl⟩;have hDl : D.length = s.size := by rw [← hD, size_list]
 have hidx : ∀ (k : Nat) (c : UInt8), D[k]? = some c → ∀ w, (Instr.index 9 (.string s) (.int .i64 (k : Int))).run Tryz.prog w = .ok (.int .u8 (c.toNat : Nat)) w := fun k c h => idx_run s k c (by rw [hD]; exact h)
 have h5x : 5 < s.size → ((s.extract 0 5).toList == [60, 63, 120, 109, 108]) = sXml.isPrefixOf D := fun _ => by
  rw [ByteArray.toList_eq, extract_bstr, bstr_list, hD, Bool.eq_iff_iff, beq_iff_eq, List.isPrefixOf_iff_prefix, List.prefix_iff_eq_take];exact eq_comm
 rw [extract_end, bstr_list, hD] at HT0;rw [hD] at HD0 ⊢
 have HX1 : ∀ n : Nat, ∀ W, Calls Tryz.prog 141 #[.string (s.extract (at_ + 2) n)] W fun e w' => e = .returned (.bool (Tk.xml ((D.drop (at_ + 2)).take (n - (at_ + 2))))) ∧ w' = W := fun n W => by
  have h := HX0 n W;rw [extract_bstr, bstr_list, hD, ← hD, ← extract_bstr] at h;rwa [hD] at h
 have hex : s.extract (at_ + 2) s.size = bstr (D.drop (at_ + 2)) := by rw [extract_end, hD]
 have HS1 : ∀ (k : Nat) W, k ≤ s.size → Calls Tryz.prog 114 #[.string s, .int .i64 (k : Int), .string (bstr [63, 62])] W fun e w' => e = .returned (.bool ([63, 62].isPrefixOf (D.drop k))) ∧ w' = W := fun k W h => by have := HS0 k W h; rwa [hD] at this
 have HL1 : ∀ (k : Nat) W, k ≤ s.size → Calls Tryz.prog 120 #[.string s, .int .i64 (k : Int), .string (bstr [63, 62])] W fun e w' => e = .returned (.int .i64 (tillAt D [63, 62] k)) ∧ w' = W := fun k W h => by have := HL0 k W h; rwa [hD] at this
 obtain ⟨z, hz⟩ : ∃ z, instrAt at_ D = z := ⟨_, rfl⟩;rw [hz];unfold instrAt at hz;have hw2 : IntKind.i64.wrap ((at_ : Int) + 2) = (at_ : Int) + 2 := IntWalk.i64_in _ (by omega);have hb2 : 0 ≤ (at_ : Int) + 2 ∧ (at_ : Int) + 2 ≤ (s.size : Int) ∧ (s.size : Int) ≤ (s.size : Int) := by omega
 have tn2 : ((at_ : Int) + 2).toNat = at_ + 2 := by omega
 clear HS0 HL0 HX0
 by_cases h0 : at_ = 0
 ·have g0 : ((at_ : Int) == 0) = true := by rw [beq_iff_eq]; omega
  have H0 := hide h0;clear h0
  by_cases h5 : 5 < s.size
  ·have g5 : (5 : Int) < (s.size : Int) := by omega
   have g5' : (5 : Int) ≤ (s.size : Int) := by omega
   have g5n : 5 ≤ s.size := by omega
   have hx5 := h5x h5;obtain ⟨c5, hc5⟩ : ∃ c, D[5]? = some c := ⟨_, List.getElem?_eq_getElem (by rw [hDl]; exact h5)⟩;have hix5 : ∀ w, (Instr.index 9 (.string s) (.int .i64 5)).run Tryz.prog w = .ok (.int .u8 (c5.toNat : Nat)) w := hidx 5 c5 hc5;have HSP5 := hide (refSpace_any c5);have hsp5 := head_some hc5
   cases hpx : sXml.isPrefixOf D with
   | false =>
    rw [hpx] at hx5;rw [if_neg (fun h => by have := h.2.1; rw [hpx] at this; cases this)] at hz;clear hpx hc5 hix5 HSP5 hsp5 HD0;unfold instr1 at hz;have hnl := takeD_le (D.drop (at_ + 2));rw [List.length_drop, hDl] at hnl;obtain ⟨n, hn⟩ : ∃ n, Tk.take (D.drop (at_ + 2)) = n := ⟨_, rfl⟩;rw [hn] at HT0 hz hnl;have hwn : IntKind.i64.wrap ((at_ : Int) + 2 + (n : Int)) = ((at_ + 2 + n : Nat) : Int) := by rw [IntWalk.i64_in _ (by omega)]; omega
    by_cases hn0 : n = 0
    ·have gn : ((n : Int) == 0) = true := by rw [beq_iff_eq]; omega
     have Hr := hide (show (-1 : Int) = z by rw [← hz, if_pos (.inl hn0)]);clear hz hn hn0 hnl hD hDl hidx h5x HX1 HS1 HL1
     go_enter Tryz.func116, Tryz.ntmps116
     go_wp2_with fail
     refine cq (HT0 _) ?_
     go_wp2
     go_ret
     exact ⟨ret_eq1 (int_eq (Hr.out)), rfl⟩
    have gn : ((n : Int) == 0) = false := by rw [beq_eq_false_iff_ne]; omega
    obtain ⟨e0, he0⟩ : ∃ e0, at_ + 2 + n = e0 := ⟨_, rfl⟩;have hX := hide (HX1 e0);rw [show e0 - (at_ + 2) = n by omega] at hX;rw [he0] at hwn hz;have hbe : 0 ≤ (at_ : Int) + 2 ∧ (at_ : Int) + 2 ≤ (e0 : Int) ∧ (e0 : Int) ≤ (s.size : Int) := by omega
    have hes : e0 ≤ s.size := by omega
    obtain ⟨x, hx⟩ : ∃ x, Tk.xml ((D.drop (at_ + 2)).take n) = x := ⟨_, rfl⟩;rw [hx] at hX hz;have he0' := hide he0;clear he0 hx
    cases x with
    | true =>
     have Hr := hide (show (-1 : Int) = z by rw [← hz, if_pos (.inr rfl)]);clear hz hn hn0 hnl hD hDl hidx h5x HX1 HS1 HL1
     go_enter Tryz.func116, Tryz.ntmps116
     go_wp2_with fail
     refine cq (HT0 _) ?_
     go_wp2_with fail
     refine cq (hX.out _) ?_
     go_wp2
     go_ret
     exact ⟨ret_eq1 (int_eq (Hr.out)), rfl⟩
    | false =>
     rw [if_neg (by simp [hn0])] at hz;unfold instr2 at hz;have hS := hide (fun W => HS1 e0 W hes);have hT := hide (fun W => HL1 e0 W hes)
     cases hp : ([63, 62] : L).isPrefixOf (D.drop e0) with
     | true =>
      rw [hp] at hS hz;rw [tillAt_here hp] at hT;have Hr := hide (show (e0 : Int) + 2 = z by rw [← hz]; simp);have hw3 : IntKind.i64.wrap ((e0 : Int) + 2) = (e0 : Int) + 2 := IntWalk.i64_in _ (by omega);have gk : ¬ (e0 : Int) < 0 := by omega
      clear hz hn hn0 hnl hp hD hDl hidx h5x HX1 HS1 HL1
      go_enter Tryz.func116, Tryz.ntmps116
      go_wp2_with fail
      refine cq (HT0 _) ?_
      go_wp2_with fail
      refine cq (hX.out _) ?_
      go_wp2_with fail
      refine cq (hS.out _) ?_
      go_wp2_with fail
      refine cq (hT.out _) ?_
      go_wp2
      go_ret
      exact ⟨ret_eq1 (int_eq (Hr.out)), rfl⟩
     | false =>
      rw [hp] at hS hz
      by_cases hlt : e0 < s.size
      ·obtain ⟨c, hc⟩ : ∃ c, D[e0]? = some c := ⟨_, List.getElem?_eq_getElem (by rw [hDl]; exact hlt)⟩;have hix := hidx e0 c hc;have HSP := hide (refSpace_any c);rw [head_some hc] at hz;have gl : ¬ (s.size : Int) ≤ (e0 : Int) := by omega
       cases hsp : sp c with
       | false =>
        rw [hsp] at HSP hz;have Hr := hide (show (-1 : Int) = z by rw [← hz]; simp);clear hz hn hn0 hnl hp hc hsp hT hD hDl hidx h5x HX1 HS1 HL1
        go_enter Tryz.func116, Tryz.ntmps116
        go_wp2_with fail
        refine cq (HT0 _) ?_
        go_wp2_with fail
        refine cq (hX.out _) ?_
        go_wp2_with fail
        refine cq (hS.out _) ?_
        go_wp2_with fail
        refine cq (HSP.out _) ?_
        go_wp2
        go_ret
        exact ⟨ret_eq1 (int_eq (Hr.out)), rfl⟩
       | true =>
        rw [hsp] at HSP hz;simp only [Bool.false_eq_true, if_false, if_true] at hz;unfold tillAt at hT
        cases ht : Tk.till [63, 62] (D.drop e0) with
        | none =>
         rw [ht] at hT hz;dsimp only at hT;have Hr := hide (show (-1 : Int) = z from hz);clear hz hn hn0 hnl hp hc hsp ht hD hDl hidx h5x HX1 HS1 HL1
         go_enter Tryz.func116, Tryz.ntmps116
         go_wp2_with fail
         refine cq (HT0 _) ?_
         go_wp2_with fail
         refine cq (hX.out _) ?_
         go_wp2_with fail
         refine cq (hS.out _) ?_
         go_wp2_with fail
         refine cq (HSP.out _) ?_
         go_wp2_with fail
         refine cq (hT.out _) ?_
         go_wp2
         go_ret
         exact ⟨ret_eq1 (int_eq (Hr.out)), rfl⟩
        | some t =>
         have htl := till_len ht;rw [List.length_drop, hDl] at htl;rw [ht] at hT hz;dsimp only at hT hz;obtain ⟨q, hq⟩ : ∃ q, e0 + t = q := ⟨_, rfl⟩;rw [hq] at hT hz;have Hr := hide (show (q : Int) + 2 = z from hz);have hql : q ≤ s.size := by omega
         have hw3 : IntKind.i64.wrap ((q : Int) + 2) = (q : Int) + 2 := IntWalk.i64_in _ (by omega);have gk : ¬ (q : Int) < 0 := by omega
         clear hz hn hn0 hnl hp hc hsp ht htl hq hD hDl hidx h5x HX1 HS1 HL1
         go_enter Tryz.func116, Tryz.ntmps116
         go_wp2_with fail
         refine cq (HT0 _) ?_
         go_wp2_with fail
         refine cq (hX.out _) ?_
         go_wp2_with fail
         refine cq (hS.out _) ?_
         go_wp2_with fail
         refine cq (HSP.out _) ?_
         go_wp2_with fail
         refine cq (hT.out _) ?_
         go_wp2
         go_ret
         exact ⟨ret_eq1 (int_eq (Hr.out)), rfl⟩
      have gl : (s.size : Int) ≤ (e0 : Int) := by omega
      rw [head_none (by omega)] at hz;have Hr := hide (show (-1 : Int) = z by rw [← hz]; simp);clear hz hn hn0 hnl hp hlt hD hDl hidx h5x HX1 HS1 HL1
      go_enter Tryz.func116, Tryz.ntmps116
      go_wp2_with fail
      refine cq (HT0 _) ?_
      go_wp2_with fail
      refine cq (hX.out _) ?_
      go_wp2_with fail
      refine cq (hS.out _) ?_
      go_wp2
      go_ret
      exact ⟨ret_eq1 (int_eq (Hr.out)), rfl⟩
   | true =>
    rw [hpx] at hx5
    cases hs5 : sp c5 with
    | false =>
     rw [hs5] at HSP5 hsp5;rw [if_neg (fun h => by have := h.2.2; rw [hsp5] at this; cases this)] at hz;clear hpx hc5 hsp5 hs5 HD0;unfold instr1 at hz;have hnl := takeD_le (D.drop (at_ + 2));rw [List.length_drop, hDl] at hnl;obtain ⟨n, hn⟩ : ∃ n, Tk.take (D.drop (at_ + 2)) = n := ⟨_, rfl⟩;rw [hn] at HT0 hz hnl;have hwn : IntKind.i64.wrap ((at_ : Int) + 2 + (n : Int)) = ((at_ + 2 + n : Nat) : Int) := by rw [IntWalk.i64_in _ (by omega)]; omega
     by_cases hn0 : n = 0
     ·have gn : ((n : Int) == 0) = true := by rw [beq_iff_eq]; omega
      have Hr := hide (show (-1 : Int) = z by rw [← hz, if_pos (.inl hn0)]);clear hz hn hn0 hnl hD hDl hidx h5x HX1 HS1 HL1
      go_enter Tryz.func116, Tryz.ntmps116
      go_wp2_with fail
      refine cq (HSP5.out _) ?_
      go_wp2_with fail
      refine cq (HT0 _) ?_
      go_wp2
      go_ret
      exact ⟨ret_eq1 (int_eq (Hr.out)), rfl⟩
     have gn : ((n : Int) == 0) = false := by rw [beq_eq_false_iff_ne]; omega
     obtain ⟨e0, he0⟩ : ∃ e0, at_ + 2 + n = e0 := ⟨_, rfl⟩;have hX := hide (HX1 e0);rw [show e0 - (at_ + 2) = n by omega] at hX;rw [he0] at hwn hz;have hbe : 0 ≤ (at_ : Int) + 2 ∧ (at_ : Int) + 2 ≤ (e0 : Int) ∧ (e0 : Int) ≤ (s.size : Int) := by omega
     have hes : e0 ≤ s.size := by omega
     obtain ⟨x, hx⟩ : ∃ x, Tk.xml ((D.drop (at_ + 2)).take n) = x := ⟨_, rfl⟩;rw [hx] at hX hz;have he0' := hide he0;clear he0 hx
     cases x with
     | true =>
      have Hr := hide (show (-1 : Int) = z by rw [← hz, if_pos (.inr rfl)]);clear hz hn hn0 hnl hD hDl hidx h5x HX1 HS1 HL1
      go_enter Tryz.func116, Tryz.ntmps116
      go_wp2_with fail
      refine cq (HSP5.out _) ?_
      go_wp2_with fail
      refine cq (HT0 _) ?_
      go_wp2_with fail
      refine cq (hX.out _) ?_
      go_wp2
      go_ret
      exact ⟨ret_eq1 (int_eq (Hr.out)), rfl⟩
     | false =>
      rw [if_neg (by simp [hn0])] at hz;unfold instr2 at hz;have hS := hide (fun W => HS1 e0 W hes);have hT := hide (fun W => HL1 e0 W hes)
      cases hp : ([63, 62] : L).isPrefixOf (D.drop e0) with
      | true =>
       rw [hp] at hS hz;rw [tillAt_here hp] at hT;have Hr := hide (show (e0 : Int) + 2 = z by rw [← hz]; simp);have hw3 : IntKind.i64.wrap ((e0 : Int) + 2) = (e0 : Int) + 2 := IntWalk.i64_in _ (by omega);have gk : ¬ (e0 : Int) < 0 := by omega
       clear hz hn hn0 hnl hp hD hDl hidx h5x HX1 HS1 HL1
       go_enter Tryz.func116, Tryz.ntmps116
       go_wp2_with fail
       refine cq (HSP5.out _) ?_
       go_wp2_with fail
       refine cq (HT0 _) ?_
       go_wp2_with fail
       refine cq (hX.out _) ?_
       go_wp2_with fail
       refine cq (hS.out _) ?_
       go_wp2_with fail
       refine cq (hT.out _) ?_
       go_wp2
       go_ret
       exact ⟨ret_eq1 (int_eq (Hr.out)), rfl⟩
      | false =>
       rw [hp] at hS hz
       by_cases hlt : e0 < s.size
       ·obtain ⟨c, hc⟩ : ∃ c, D[e0]? = some c := ⟨_, List.getElem?_eq_getElem (by rw [hDl]; exact hlt)⟩;have hix := hidx e0 c hc;have HSP := hide (refSpace_any c);rw [head_some hc] at hz;have gl : ¬ (s.size : Int) ≤ (e0 : Int) := by omega
        cases hsp : sp c with
        | false =>
         rw [hsp] at HSP hz;have Hr := hide (show (-1 : Int) = z by rw [← hz]; simp);clear hz hn hn0 hnl hp hc hsp hT hD hDl hidx h5x HX1 HS1 HL1
         go_enter Tryz.func116, Tryz.ntmps116
         go_wp2_with fail
         refine cq (HSP5.out _) ?_
         go_wp2_with fail
         refine cq (HT0 _) ?_
         go_wp2_with fail
         refine cq (hX.out _) ?_
         go_wp2_with fail
         refine cq (hS.out _) ?_
         go_wp2_with fail
         refine cq (HSP.out _) ?_
         go_wp2
         go_ret
         exact ⟨ret_eq1 (int_eq (Hr.out)), rfl⟩
        | true =>
         rw [hsp] at HSP hz;simp only [Bool.false_eq_true, if_false, if_true] at hz;unfold tillAt at hT
         cases ht : Tk.till [63, 62] (D.drop e0) with
         | none =>
          rw [ht] at hT hz;dsimp only at hT;have Hr := hide (show (-1 : Int) = z from hz);clear hz hn hn0 hnl hp hc hsp ht hD hDl hidx h5x HX1 HS1 HL1
          go_enter Tryz.func116, Tryz.ntmps116
          go_wp2_with fail
          refine cq (HSP5.out _) ?_
          go_wp2_with fail
          refine cq (HT0 _) ?_
          go_wp2_with fail
          refine cq (hX.out _) ?_
          go_wp2_with fail
          refine cq (hS.out _) ?_
          go_wp2_with fail
          refine cq (HSP.out _) ?_
          go_wp2_with fail
          refine cq (hT.out _) ?_
          go_wp2
          go_ret
          exact ⟨ret_eq1 (int_eq (Hr.out)), rfl⟩
         | some t =>
          have htl := till_len ht;rw [List.length_drop, hDl] at htl;rw [ht] at hT hz;dsimp only at hT hz;obtain ⟨q, hq⟩ : ∃ q, e0 + t = q := ⟨_, rfl⟩;rw [hq] at hT hz;have Hr := hide (show (q : Int) + 2 = z from hz);have hql : q ≤ s.size := by omega
          have hw3 : IntKind.i64.wrap ((q : Int) + 2) = (q : Int) + 2 := IntWalk.i64_in _ (by omega);have gk : ¬ (q : Int) < 0 := by omega
          clear hz hn hn0 hnl hp hc hsp ht htl hq hD hDl hidx h5x HX1 HS1 HL1
          go_enter Tryz.func116, Tryz.ntmps116
          go_wp2_with fail
          refine cq (HSP5.out _) ?_
          go_wp2_with fail
          refine cq (HT0 _) ?_
          go_wp2_with fail
          refine cq (hX.out _) ?_
          go_wp2_with fail
          refine cq (hS.out _) ?_
          go_wp2_with fail
          refine cq (HSP.out _) ?_
          go_wp2_with fail
          refine cq (hT.out _) ?_
          go_wp2
          go_ret
          exact ⟨ret_eq1 (int_eq (Hr.out)), rfl⟩
       have gl : (s.size : Int) ≤ (e0 : Int) := by omega
       rw [head_none (by omega)] at hz;have Hr := hide (show (-1 : Int) = z by rw [← hz]; simp);clear hz hn hn0 hnl hp hlt hD hDl hidx h5x HX1 HS1 HL1
       go_enter Tryz.func116, Tryz.ntmps116
       go_wp2_with fail
       refine cq (HSP5.out _) ?_
       go_wp2_with fail
       refine cq (HT0 _) ?_
       go_wp2_with fail
       refine cq (hX.out _) ?_
       go_wp2_with fail
       refine cq (hS.out _) ?_
       go_wp2
       go_ret
       exact ⟨ret_eq1 (int_eq (Hr.out)), rfl⟩
    | true =>
     rw [hs5] at HSP5 hsp5;rw [if_pos ⟨H0.out, hpx, hsp5⟩] at hz;have HDc := hide (fun W => HD0 W g5n);have Hr := hide hz;clear hz hpx hc5 hsp5 hs5 HD0 HT0 hD hDl hidx h5x HX1 HS1 HL1
     go_enter Tryz.func116, Tryz.ntmps116
     go_wp2_with fail
     refine cq (HSP5.out _) ?_
     go_wp2_with fail
     refine cq (HDc.out _) ?_
     go_wp2
     go_ret
     exact ⟨ret_eq1 (int_eq (Hr.out)), rfl⟩
  have g5 : ¬ (5 : Int) < (s.size : Int) := by omega
  rw [if_neg (fun h => by have := (List.isPrefixOf_iff_prefix.1 h.2.1).length_le; have e : sXml.length = 5 := rfl; have h2 := h.2.2; rw [head_none (by omega)] at h2; cases h2)] at hz;clear HD0;unfold instr1 at hz;have hnl := takeD_le (D.drop (at_ + 2));rw [List.length_drop, hDl] at hnl;obtain ⟨n, hn⟩ : ∃ n, Tk.take (D.drop (at_ + 2)) = n := ⟨_, rfl⟩;rw [hn] at HT0 hz hnl;have hwn : IntKind.i64.wrap ((at_ : Int) + 2 + (n : Int)) = ((at_ + 2 + n : Nat) : Int) := by rw [IntWalk.i64_in _ (by omega)]; omega
  by_cases hn0 : n = 0
  ·have gn : ((n : Int) == 0) = true := by rw [beq_iff_eq]; omega
   have Hr := hide (show (-1 : Int) = z by rw [← hz, if_pos (.inl hn0)]);clear hz hn hn0 hnl hD hDl hidx h5x HX1 HS1 HL1
   go_enter Tryz.func116, Tryz.ntmps116
   go_wp2_with fail
   refine cq (HT0 _) ?_
   go_wp2
   go_ret
   exact ⟨ret_eq1 (int_eq (Hr.out)), rfl⟩
  have gn : ((n : Int) == 0) = false := by rw [beq_eq_false_iff_ne]; omega
  obtain ⟨e0, he0⟩ : ∃ e0, at_ + 2 + n = e0 := ⟨_, rfl⟩;have hX := hide (HX1 e0);rw [show e0 - (at_ + 2) = n by omega] at hX;rw [he0] at hwn hz;have hbe : 0 ≤ (at_ : Int) + 2 ∧ (at_ : Int) + 2 ≤ (e0 : Int) ∧ (e0 : Int) ≤ (s.size : Int) := by omega
  have hes : e0 ≤ s.size := by omega
  obtain ⟨x, hx⟩ : ∃ x, Tk.xml ((D.drop (at_ + 2)).take n) = x := ⟨_, rfl⟩;rw [hx] at hX hz;have he0' := hide he0;clear he0 hx
  cases x with
  | true =>
   have Hr := hide (show (-1 : Int) = z by rw [← hz, if_pos (.inr rfl)]);clear hz hn hn0 hnl hD hDl hidx h5x HX1 HS1 HL1
   go_enter Tryz.func116, Tryz.ntmps116
   go_wp2_with fail
   refine cq (HT0 _) ?_
   go_wp2_with fail
   refine cq (hX.out _) ?_
   go_wp2
   go_ret
   exact ⟨ret_eq1 (int_eq (Hr.out)), rfl⟩
  | false =>
   rw [if_neg (by simp [hn0])] at hz;unfold instr2 at hz;have hS := hide (fun W => HS1 e0 W hes);have hT := hide (fun W => HL1 e0 W hes)
   cases hp : ([63, 62] : L).isPrefixOf (D.drop e0) with
   | true =>
    rw [hp] at hS hz;rw [tillAt_here hp] at hT;have Hr := hide (show (e0 : Int) + 2 = z by rw [← hz]; simp);have hw3 : IntKind.i64.wrap ((e0 : Int) + 2) = (e0 : Int) + 2 := IntWalk.i64_in _ (by omega);have gk : ¬ (e0 : Int) < 0 := by omega
    clear hz hn hn0 hnl hp hD hDl hidx h5x HX1 HS1 HL1
    go_enter Tryz.func116, Tryz.ntmps116
    go_wp2_with fail
    refine cq (HT0 _) ?_
    go_wp2_with fail
    refine cq (hX.out _) ?_
    go_wp2_with fail
    refine cq (hS.out _) ?_
    go_wp2_with fail
    refine cq (hT.out _) ?_
    go_wp2
    go_ret
    exact ⟨ret_eq1 (int_eq (Hr.out)), rfl⟩
   | false =>
    rw [hp] at hS hz
    by_cases hlt : e0 < s.size
    ·obtain ⟨c, hc⟩ : ∃ c, D[e0]? = some c := ⟨_, List.getElem?_eq_getElem (by rw [hDl]; exact hlt)⟩;have hix := hidx e0 c hc;have HSP := hide (refSpace_any c);rw [head_some hc] at hz;have gl : ¬ (s.size : Int) ≤ (e0 : Int) := by omega
     cases hsp : sp c with
     | false =>
      rw [hsp] at HSP hz;have Hr := hide (show (-1 : Int) = z by rw [← hz]; simp);clear hz hn hn0 hnl hp hc hsp hT hD hDl hidx h5x HX1 HS1 HL1
      go_enter Tryz.func116, Tryz.ntmps116
      go_wp2_with fail
      refine cq (HT0 _) ?_
      go_wp2_with fail
      refine cq (hX.out _) ?_
      go_wp2_with fail
      refine cq (hS.out _) ?_
      go_wp2_with fail
      refine cq (HSP.out _) ?_
      go_wp2
      go_ret
      exact ⟨ret_eq1 (int_eq (Hr.out)), rfl⟩
     | true =>
      rw [hsp] at HSP hz;simp only [Bool.false_eq_true, if_false, if_true] at hz;unfold tillAt at hT
      cases ht : Tk.till [63, 62] (D.drop e0) with
      | none =>
       rw [ht] at hT hz;dsimp only at hT;have Hr := hide (show (-1 : Int) = z from hz);clear hz hn hn0 hnl hp hc hsp ht hD hDl hidx h5x HX1 HS1 HL1
       go_enter Tryz.func116, Tryz.ntmps116
       go_wp2_with fail
       refine cq (HT0 _) ?_
       go_wp2_with fail
       refine cq (hX.out _) ?_
       go_wp2_with fail
       refine cq (hS.out _) ?_
       go_wp2_with fail
       refine cq (HSP.out _) ?_
       go_wp2_with fail
       refine cq (hT.out _) ?_
       go_wp2
       go_ret
       exact ⟨ret_eq1 (int_eq (Hr.out)), rfl⟩
      | some t =>
       have htl := till_len ht;rw [List.length_drop, hDl] at htl;rw [ht] at hT hz;dsimp only at hT hz;obtain ⟨q, hq⟩ : ∃ q, e0 + t = q := ⟨_, rfl⟩;rw [hq] at hT hz;have Hr := hide (show (q : Int) + 2 = z from hz);have hql : q ≤ s.size := by omega
       have hw3 : IntKind.i64.wrap ((q : Int) + 2) = (q : Int) + 2 := IntWalk.i64_in _ (by omega);have gk : ¬ (q : Int) < 0 := by omega
       clear hz hn hn0 hnl hp hc hsp ht htl hq hD hDl hidx h5x HX1 HS1 HL1
       go_enter Tryz.func116, Tryz.ntmps116
       go_wp2_with fail
       refine cq (HT0 _) ?_
       go_wp2_with fail
       refine cq (hX.out _) ?_
       go_wp2_with fail
       refine cq (hS.out _) ?_
       go_wp2_with fail
       refine cq (HSP.out _) ?_
       go_wp2_with fail
       refine cq (hT.out _) ?_
       go_wp2
       go_ret
       exact ⟨ret_eq1 (int_eq (Hr.out)), rfl⟩
    have gl : (s.size : Int) ≤ (e0 : Int) := by omega
    rw [head_none (by omega)] at hz;have Hr := hide (show (-1 : Int) = z by rw [← hz]; simp);clear hz hn hn0 hnl hp hlt hD hDl hidx h5x HX1 HS1 HL1
    go_enter Tryz.func116, Tryz.ntmps116
    go_wp2_with fail
    refine cq (HT0 _) ?_
    go_wp2_with fail
    refine cq (hX.out _) ?_
    go_wp2_with fail
    refine cq (hS.out _) ?_
    go_wp2
    go_ret
    exact ⟨ret_eq1 (int_eq (Hr.out)), rfl⟩
 have g0 : ((at_ : Int) == 0) = false := by rw [beq_eq_false_iff_ne]; omega
 rw [if_neg (fun h => h0 h.1)] at hz;clear HD0 h0;unfold instr1 at hz;have hnl := takeD_le (D.drop (at_ + 2));rw [List.length_drop, hDl] at hnl;obtain ⟨n, hn⟩ : ∃ n, Tk.take (D.drop (at_ + 2)) = n := ⟨_, rfl⟩;rw [hn] at HT0 hz hnl;have hwn : IntKind.i64.wrap ((at_ : Int) + 2 + (n : Int)) = ((at_ + 2 + n : Nat) : Int) := by rw [IntWalk.i64_in _ (by omega)]; omega
 by_cases hn0 : n = 0
 ·have gn : ((n : Int) == 0) = true := by rw [beq_iff_eq]; omega
  have Hr := hide (show (-1 : Int) = z by rw [← hz, if_pos (.inl hn0)]);clear hz hn hn0 hnl hD hDl hidx h5x HX1 HS1 HL1
  go_enter Tryz.func116, Tryz.ntmps116
  go_wp2_with fail
  refine cq (HT0 _) ?_
  go_wp2
  go_ret
  exact ⟨ret_eq1 (int_eq (Hr.out)), rfl⟩
 have gn : ((n : Int) == 0) = false := by rw [beq_eq_false_iff_ne]; omega
 obtain ⟨e0, he0⟩ : ∃ e0, at_ + 2 + n = e0 := ⟨_, rfl⟩;have hX := hide (HX1 e0);rw [show e0 - (at_ + 2) = n by omega] at hX;rw [he0] at hwn hz;have hbe : 0 ≤ (at_ : Int) + 2 ∧ (at_ : Int) + 2 ≤ (e0 : Int) ∧ (e0 : Int) ≤ (s.size : Int) := by omega
 have hes : e0 ≤ s.size := by omega
 obtain ⟨x, hx⟩ : ∃ x, Tk.xml ((D.drop (at_ + 2)).take n) = x := ⟨_, rfl⟩;rw [hx] at hX hz;have he0' := hide he0;clear he0 hx
 cases x with
 | true =>
  have Hr := hide (show (-1 : Int) = z by rw [← hz, if_pos (.inr rfl)]);clear hz hn hn0 hnl hD hDl hidx h5x HX1 HS1 HL1
  go_enter Tryz.func116, Tryz.ntmps116
  go_wp2_with fail
  refine cq (HT0 _) ?_
  go_wp2_with fail
  refine cq (hX.out _) ?_
  go_wp2
  go_ret
  exact ⟨ret_eq1 (int_eq (Hr.out)), rfl⟩
 | false =>
  rw [if_neg (by simp [hn0])] at hz;unfold instr2 at hz;have hS := hide (fun W => HS1 e0 W hes);have hT := hide (fun W => HL1 e0 W hes)
  cases hp : ([63, 62] : L).isPrefixOf (D.drop e0) with
  | true =>
   rw [hp] at hS hz;rw [tillAt_here hp] at hT;have Hr := hide (show (e0 : Int) + 2 = z by rw [← hz]; simp);have hw3 : IntKind.i64.wrap ((e0 : Int) + 2) = (e0 : Int) + 2 := IntWalk.i64_in _ (by omega);have gk : ¬ (e0 : Int) < 0 := by omega
   clear hz hn hn0 hnl hp hD hDl hidx h5x HX1 HS1 HL1
   go_enter Tryz.func116, Tryz.ntmps116
   go_wp2_with fail
   refine cq (HT0 _) ?_
   go_wp2_with fail
   refine cq (hX.out _) ?_
   go_wp2_with fail
   refine cq (hS.out _) ?_
   go_wp2_with fail
   refine cq (hT.out _) ?_
   go_wp2
   go_ret
   exact ⟨ret_eq1 (int_eq (Hr.out)), rfl⟩
  | false =>
   rw [hp] at hS hz
   by_cases hlt : e0 < s.size
   ·obtain ⟨c, hc⟩ : ∃ c, D[e0]? = some c := ⟨_, List.getElem?_eq_getElem (by rw [hDl]; exact hlt)⟩;have hix := hidx e0 c hc;have HSP := hide (refSpace_any c);rw [head_some hc] at hz;have gl : ¬ (s.size : Int) ≤ (e0 : Int) := by omega
    cases hsp : sp c with
    | false =>
     rw [hsp] at HSP hz;have Hr := hide (show (-1 : Int) = z by rw [← hz]; simp);clear hz hn hn0 hnl hp hc hsp hT hD hDl hidx h5x HX1 HS1 HL1
     go_enter Tryz.func116, Tryz.ntmps116
     go_wp2_with fail
     refine cq (HT0 _) ?_
     go_wp2_with fail
     refine cq (hX.out _) ?_
     go_wp2_with fail
     refine cq (hS.out _) ?_
     go_wp2_with fail
     refine cq (HSP.out _) ?_
     go_wp2
     go_ret
     exact ⟨ret_eq1 (int_eq (Hr.out)), rfl⟩
    | true =>
     rw [hsp] at HSP hz;simp only [Bool.false_eq_true, if_false, if_true] at hz;unfold tillAt at hT
     cases ht : Tk.till [63, 62] (D.drop e0) with
     | none =>
      rw [ht] at hT hz;dsimp only at hT;have Hr := hide (show (-1 : Int) = z from hz);clear hz hn hn0 hnl hp hc hsp ht hD hDl hidx h5x HX1 HS1 HL1
      go_enter Tryz.func116, Tryz.ntmps116
      go_wp2_with fail
      refine cq (HT0 _) ?_
      go_wp2_with fail
      refine cq (hX.out _) ?_
      go_wp2_with fail
      refine cq (hS.out _) ?_
      go_wp2_with fail
      refine cq (HSP.out _) ?_
      go_wp2_with fail
      refine cq (hT.out _) ?_
      go_wp2
      go_ret
      exact ⟨ret_eq1 (int_eq (Hr.out)), rfl⟩
     | some t =>
      have htl := till_len ht;rw [List.length_drop, hDl] at htl;rw [ht] at hT hz;dsimp only at hT hz;obtain ⟨q, hq⟩ : ∃ q, e0 + t = q := ⟨_, rfl⟩;rw [hq] at hT hz;have Hr := hide (show (q : Int) + 2 = z from hz);have hql : q ≤ s.size := by omega
      have hw3 : IntKind.i64.wrap ((q : Int) + 2) = (q : Int) + 2 := IntWalk.i64_in _ (by omega);have gk : ¬ (q : Int) < 0 := by omega
      clear hz hn hn0 hnl hp hc hsp ht htl hq hD hDl hidx h5x HX1 HS1 HL1
      go_enter Tryz.func116, Tryz.ntmps116
      go_wp2_with fail
      refine cq (HT0 _) ?_
      go_wp2_with fail
      refine cq (hX.out _) ?_
      go_wp2_with fail
      refine cq (hS.out _) ?_
      go_wp2_with fail
      refine cq (HSP.out _) ?_
      go_wp2_with fail
      refine cq (hT.out _) ?_
      go_wp2
      go_ret
      exact ⟨ret_eq1 (int_eq (Hr.out)), rfl⟩
   have gl : (s.size : Int) ≤ (e0 : Int) := by omega
   rw [head_none (by omega)] at hz;have Hr := hide (show (-1 : Int) = z by rw [← hz]; simp);clear hz hn hn0 hnl hp hlt hD hDl hidx h5x HX1 HS1 HL1
   go_enter Tryz.func116, Tryz.ntmps116
   go_wp2_with fail
   refine cq (HT0 _) ?_
   go_wp2_with fail
   refine cq (hX.out _) ?_
   go_wp2_with fail
   refine cq (hS.out _) ?_
   go_wp2
   go_ret
   exact ⟨ret_eq1 (int_eq (Hr.out)), rfl⟩
end
end Go.Proofs.YtbbpkcddifmieaaGreatDoor
