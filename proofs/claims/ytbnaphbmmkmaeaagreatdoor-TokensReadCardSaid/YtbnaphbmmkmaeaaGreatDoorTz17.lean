/- The document's reading of tokens: instructions. (Printed by wip/genTkDk.py.) · The document's reading of tokens: comments and sections. -/
import Derived.Test.YtbnaphbmmkmaeaaGreatDoorTz06
import Derived.Test.YtbnaphbmmkmaeaaGreatDoorTz16
set_option linter.unusedSimpArgs false
set_option linter.unusedVariables false
namespace Go.Proofs.YtbnaphbmmkmaeaaGreatDoor
open Go.RowKit Tk

def atOr (a : Nat) (o : Option Nat) : Int := match o with
  | some n => ((a + n : Nat) : Int)
  | none => -1
abbrev isDecl (at_ : Nat) (D : L) : Prop := at_ = 0 ∧ sXml.isPrefixOf D = true ∧ ((D.drop 5).head?.map sp).getD false = true
/-- Where an instruction ends, what stands behind its <? at 'at_ + 2'. -/
def instr2 (D : L) (e : Nat) : Int := if [63, 62].isPrefixOf (D.drop e) then ((e + 2 : Nat) : Int) else if ((D.drop e).head?.map sp).getD false = true then (match Tk.till [63, 62] (D.drop e) with | some k => ((e + k + 2 : Nat) : Int) | none => -1) else -1
def instr1 (D : L) (b : Nat) : Int := if Tk.take (D.drop b) = 0 ∨ Tk.xml ((D.drop b).take (Tk.take (D.drop b))) = true then -1 else instr2 D (b + Tk.take (D.drop b))
theorem instr1_is (D : L) (b : Nat) : instr1 D b = atOr b (Tk.instr (D.drop b)) := by
  unfold instr1 Tk.instr
  by_cases h0 : Tk.take (D.drop b) = 0 ∨ Tk.xml ((D.drop b).take (Tk.take (D.drop b))) = true
  · rw [if_pos h0, if_pos h0]; rfl
  rw [if_neg h0, if_neg h0]
  generalize Tk.take (D.drop b) = n
  unfold instr2
  rw [List.drop_drop]
  by_cases h1 : ([63, 62] : L).isPrefixOf (D.drop (b + n)) = true
  · rw [if_pos h1, if_pos h1]; rfl
  rw [if_neg h1, if_neg h1]
  by_cases h2 : ((D.drop (b + n)).head?.map sp).getD false = true
  · rw [if_pos h2]
    cases ht : Tk.till [63, 62] (D.drop (b + n)) with
    | none => rfl
    | some k =>
      simp only [Option.bind_some]
      rw [if_pos h2]
      show ((b + n + k + 2 : Nat) : Int) = ((b + (n + k + 2) : Nat) : Int)
      congr 1
      omega
  · rw [if_neg h2]
    cases ht : Tk.till [63, 62] (D.drop (b + n)) with
    | none => rfl
    | some k => simp only [Option.bind_some]; rw [if_neg h2]; rfl
def instrAt (at_ : Nat) (D : L) : Int := if isDecl at_ D then declAt D else instr1 D (at_ + 2)
theorem head_some {D : L} {k : Nat} {c : UInt8} (h : D[k]? = some c) : ((D.drop k).head?.map sp).getD false = sp c := by rw [drop_cons1 h]; rfl
theorem head_none {D : L} {k : Nat} (h : D.length ≤ k) : ((D.drop k).head?.map sp).getD false = false := by rw [List.drop_of_length_le h]; rfl
theorem takeD_le (l : L) : Tk.take l ≤ l.length := (take_spec l).1

set_option maxHeartbeats 16000000 in
theorem refInstr_any (s : ByteArray) (at_ : Nat) (w : World) (ha : at_ + 2 ≤ s.size) (hs : s.size ≤ 1000000000) :
    Calls Tryz.prog 55 #[.string s, .int .i64 (at_ : Int)] w fun e w' => e = .returned (.int .i64 (instrAt at_ s.data.toList)) ∧ w' = w := by
  have HD0 := fun W (h : 5 ≤ s.size) => refDecl_any s W h hs
  have HT0 := fun W => refTake_any (s.extract (at_ + 2) s.size) W (by rw [extract_end, bstr_size, List.length_drop, size_list]; omega)
  have HX0 := fun (n : Nat) W => refXml_any (s.extract (at_ + 2) n) W (by rw [extract_bstr, bstr_size, List.length_take, List.length_drop, size_list]; omega)
  have HS0 := fun (k : Nat) W (h : k ≤ s.size) => starts_at s (bstr [63, 62]) k W (by omega) (by omega) (by decide) (by decide)
  have HL0 := fun (k : Nat) W (h : k ≤ s.size) => refTill_any s (bstr [63, 62]) k W h (by omega) (by decide) (by decide)
  obtain ⟨D, hD⟩ : ∃ D, s.data.toList = D := ⟨_, rfl⟩
  have hDl : D.length = s.size := by rw [← hD, size_list]
  have hidx : ∀ (k : Nat) (c : UInt8), D[k]? = some c → ∀ w, (Instr.index 9 (.string s) (.int .i64 (k : Int))).run Tryz.prog w = .ok (.int .u8 (c.toNat : Nat)) w := fun k c h => idx_run s k c (by rw [hD]; exact h)
  have h5x : 5 < s.size → ((s.extract 0 5).toList == [60, 63, 120, 109, 108]) = sXml.isPrefixOf D := fun _ => by
    rw [ByteArray.toList_eq, extract_bstr, bstr_list, hD, Bool.eq_iff_iff, beq_iff_eq, List.isPrefixOf_iff_prefix, List.prefix_iff_eq_take]
    exact eq_comm
  rw [extract_end, bstr_list, hD] at HT0
  rw [hD] at HD0 ⊢
  have HX1 : ∀ n : Nat, ∀ W, Calls Tryz.prog 100 #[.string (s.extract (at_ + 2) n)] W fun e w' => e = .returned (.bool (Tk.xml ((D.drop (at_ + 2)).take (n - (at_ + 2))))) ∧ w' = W := fun n W => by
    have h := HX0 n W
    rw [extract_bstr, bstr_list, hD, ← hD, ← extract_bstr] at h
    rwa [hD] at h
  have hex : s.extract (at_ + 2) s.size = bstr (D.drop (at_ + 2)) := by rw [extract_end, hD]
  have HS1 : ∀ (k : Nat) W, k ≤ s.size → Calls Tryz.prog 53 #[.string s, .int .i64 (k : Int), .string (bstr [63, 62])] W fun e w' => e = .returned (.bool ([63, 62].isPrefixOf (D.drop k))) ∧ w' = W := fun k W h => by have := HS0 k W h; rwa [hD] at this
  have HL1 : ∀ (k : Nat) W, k ≤ s.size → Calls Tryz.prog 59 #[.string s, .int .i64 (k : Int), .string (bstr [63, 62])] W fun e w' => e = .returned (.int .i64 (tillAt D [63, 62] k)) ∧ w' = W := fun k W h => by have := HL0 k W h; rwa [hD] at this
  obtain ⟨z, hz⟩ : ∃ z, instrAt at_ D = z := ⟨_, rfl⟩
  rw [hz]
  unfold instrAt at hz
  have hw2 : IntKind.i64.wrap ((at_ : Int) + 2) = (at_ : Int) + 2 := IntWalk.i64_in _ (by omega)
  have hb2 : 0 ≤ (at_ : Int) + 2 ∧ (at_ : Int) + 2 ≤ (s.size : Int) ∧ (s.size : Int) ≤ (s.size : Int) := by omega
  have tn2 : ((at_ : Int) + 2).toNat = at_ + 2 := by omega
  clear HS0 HL0 HX0
  by_cases h0 : at_ = 0
  · have g0 : ((at_ : Int) == 0) = true := by rw [beq_iff_eq]; omega
    have H0 := hide h0
    clear h0
    by_cases h5 : 5 < s.size
    · have g5 : (5 : Int) < (s.size : Int) := by omega
      have g5' : (5 : Int) ≤ (s.size : Int) := by omega
      have g5n : 5 ≤ s.size := by omega
      have hx5 := h5x h5
      obtain ⟨c5, hc5⟩ : ∃ c, D[5]? = some c := ⟨_, List.getElem?_eq_getElem (by rw [hDl]; exact h5)⟩
      have hix5 : ∀ w, (Instr.index 9 (.string s) (.int .i64 5)).run Tryz.prog w = .ok (.int .u8 (c5.toNat : Nat)) w := hidx 5 c5 hc5
      have HSP5 := hide (refSpace_any c5)
      have hsp5 := head_some hc5
      cases hpx : sXml.isPrefixOf D with
      | false =>
        rw [hpx] at hx5
        rw [if_neg (fun h => by have := h.2.1; rw [hpx] at this; cases this)] at hz
        clear hpx hc5 hix5 HSP5 hsp5 HD0
        unfold instr1 at hz
        have hnl := takeD_le (D.drop (at_ + 2))
        rw [List.length_drop, hDl] at hnl
        obtain ⟨n, hn⟩ : ∃ n, Tk.take (D.drop (at_ + 2)) = n := ⟨_, rfl⟩
        rw [hn] at HT0 hz hnl
        have hwn : IntKind.i64.wrap ((at_ : Int) + 2 + (n : Int)) = ((at_ + 2 + n : Nat) : Int) := by rw [IntWalk.i64_in _ (by omega)]; omega
        by_cases hn0 : n = 0
        · have gn : ((n : Int) == 0) = true := by rw [beq_iff_eq]; omega
          have Hr := hide (show (-1 : Int) = z by rw [← hz, if_pos (.inl hn0)])
          clear hz hn hn0 hnl hD hDl hidx h5x HX1 HS1 HL1
          go_enter Tryz.func55, Tryz.ntmps55
          go_wp2_with fail
          refine (HT0 _).mono ?_
          rintro e w1 ⟨rfl, hw1⟩
          subst w1
          go_wp2
          go_ret
          exact ⟨ret_eq1 (int_eq (Hr.out)), rfl⟩
        have gn : ((n : Int) == 0) = false := by rw [beq_eq_false_iff_ne]; omega
        obtain ⟨e0, he0⟩ : ∃ e0, at_ + 2 + n = e0 := ⟨_, rfl⟩
        have hX := hide (HX1 e0)
        rw [show e0 - (at_ + 2) = n by omega] at hX
        rw [he0] at hwn hz
        have hbe : 0 ≤ (at_ : Int) + 2 ∧ (at_ : Int) + 2 ≤ (e0 : Int) ∧ (e0 : Int) ≤ (s.size : Int) := by omega
        have hes : e0 ≤ s.size := by omega
        obtain ⟨x, hx⟩ : ∃ x, Tk.xml ((D.drop (at_ + 2)).take n) = x := ⟨_, rfl⟩
        rw [hx] at hX hz
        have he0' := hide he0
        clear he0 hx
        cases x with
        | true =>
          have Hr := hide (show (-1 : Int) = z by rw [← hz, if_pos (.inr rfl)])
          clear hz hn hn0 hnl hD hDl hidx h5x HX1 HS1 HL1
          go_enter Tryz.func55, Tryz.ntmps55
          go_wp2_with fail
          refine (HT0 _).mono ?_
          rintro e w1 ⟨rfl, hw1⟩
          subst w1
          go_wp2_with fail
          refine (hX.out _).mono ?_
          rintro e w1 ⟨rfl, hw1⟩
          subst w1
          go_wp2
          go_ret
          exact ⟨ret_eq1 (int_eq (Hr.out)), rfl⟩
        | false =>
          rw [if_neg (by simp [hn0])] at hz
          unfold instr2 at hz
          have hS := hide (fun W => HS1 e0 W hes)
          have hT := hide (fun W => HL1 e0 W hes)
          cases hp : ([63, 62] : L).isPrefixOf (D.drop e0) with
          | true =>
            rw [hp] at hS hz
            rw [tillAt_here hp] at hT
            have Hr := hide (show (e0 : Int) + 2 = z by rw [← hz]; simp)
            have hw3 : IntKind.i64.wrap ((e0 : Int) + 2) = (e0 : Int) + 2 := IntWalk.i64_in _ (by omega)
            have gk : ¬ (e0 : Int) < 0 := by omega
            clear hz hn hn0 hnl hp hD hDl hidx h5x HX1 HS1 HL1
            go_enter Tryz.func55, Tryz.ntmps55
            go_wp2_with fail
            refine (HT0 _).mono ?_
            rintro e w1 ⟨rfl, hw1⟩
            subst w1
            go_wp2_with fail
            refine (hX.out _).mono ?_
            rintro e w1 ⟨rfl, hw1⟩
            subst w1
            go_wp2_with fail
            refine (hS.out _).mono ?_
            rintro e w1 ⟨rfl, hw1⟩
            subst w1
            go_wp2_with fail
            refine (hT.out _).mono ?_
            rintro e w1 ⟨rfl, hw1⟩
            subst w1
            go_wp2
            go_ret
            exact ⟨ret_eq1 (int_eq (Hr.out)), rfl⟩
          | false =>
            rw [hp] at hS hz
            by_cases hlt : e0 < s.size
            · obtain ⟨c, hc⟩ : ∃ c, D[e0]? = some c := ⟨_, List.getElem?_eq_getElem (by rw [hDl]; exact hlt)⟩
              have hix := hidx e0 c hc
              have HSP := hide (refSpace_any c)
              rw [head_some hc] at hz
              have gl : ¬ (s.size : Int) ≤ (e0 : Int) := by omega
              cases hsp : sp c with
              | false =>
                rw [hsp] at HSP hz
                have Hr := hide (show (-1 : Int) = z by rw [← hz]; simp)
                clear hz hn hn0 hnl hp hc hsp hT hD hDl hidx h5x HX1 HS1 HL1
                go_enter Tryz.func55, Tryz.ntmps55
                go_wp2_with fail
                refine (HT0 _).mono ?_
                rintro e w1 ⟨rfl, hw1⟩
                subst w1
                go_wp2_with fail
                refine (hX.out _).mono ?_
                rintro e w1 ⟨rfl, hw1⟩
                subst w1
                go_wp2_with fail
                refine (hS.out _).mono ?_
                rintro e w1 ⟨rfl, hw1⟩
                subst w1
                go_wp2_with fail
                refine (HSP.out _).mono ?_
                rintro e w1 ⟨rfl, hw1⟩
                subst w1
                go_wp2
                go_ret
                exact ⟨ret_eq1 (int_eq (Hr.out)), rfl⟩
              | true =>
                rw [hsp] at HSP hz
                simp only [Bool.false_eq_true, if_false, if_true] at hz
                unfold tillAt at hT
                cases ht : Tk.till [63, 62] (D.drop e0) with
                | none =>
                  rw [ht] at hT hz
                  dsimp only at hT
                  have Hr := hide (show (-1 : Int) = z from hz)
                  clear hz hn hn0 hnl hp hc hsp ht hD hDl hidx h5x HX1 HS1 HL1
                  go_enter Tryz.func55, Tryz.ntmps55
                  go_wp2_with fail
                  refine (HT0 _).mono ?_
                  rintro e w1 ⟨rfl, hw1⟩
                  subst w1
                  go_wp2_with fail
                  refine (hX.out _).mono ?_
                  rintro e w1 ⟨rfl, hw1⟩
                  subst w1
                  go_wp2_with fail
                  refine (hS.out _).mono ?_
                  rintro e w1 ⟨rfl, hw1⟩
                  subst w1
                  go_wp2_with fail
                  refine (HSP.out _).mono ?_
                  rintro e w1 ⟨rfl, hw1⟩
                  subst w1
                  go_wp2_with fail
                  refine (hT.out _).mono ?_
                  rintro e w1 ⟨rfl, hw1⟩
                  subst w1
                  go_wp2
                  go_ret
                  exact ⟨ret_eq1 (int_eq (Hr.out)), rfl⟩
                | some t =>
                  have htl := till_len ht
                  rw [List.length_drop, hDl] at htl
                  rw [ht] at hT hz
                  dsimp only at hT hz
                  obtain ⟨q, hq⟩ : ∃ q, e0 + t = q := ⟨_, rfl⟩
                  rw [hq] at hT hz
                  have Hr := hide (show (q : Int) + 2 = z from hz)
                  have hql : q ≤ s.size := by omega
                  have hw3 : IntKind.i64.wrap ((q : Int) + 2) = (q : Int) + 2 := IntWalk.i64_in _ (by omega)
                  have gk : ¬ (q : Int) < 0 := by omega
                  clear hz hn hn0 hnl hp hc hsp ht htl hq hD hDl hidx h5x HX1 HS1 HL1
                  go_enter Tryz.func55, Tryz.ntmps55
                  go_wp2_with fail
                  refine (HT0 _).mono ?_
                  rintro e w1 ⟨rfl, hw1⟩
                  subst w1
                  go_wp2_with fail
                  refine (hX.out _).mono ?_
                  rintro e w1 ⟨rfl, hw1⟩
                  subst w1
                  go_wp2_with fail
                  refine (hS.out _).mono ?_
                  rintro e w1 ⟨rfl, hw1⟩
                  subst w1
                  go_wp2_with fail
                  refine (HSP.out _).mono ?_
                  rintro e w1 ⟨rfl, hw1⟩
                  subst w1
                  go_wp2_with fail
                  refine (hT.out _).mono ?_
                  rintro e w1 ⟨rfl, hw1⟩
                  subst w1
                  go_wp2
                  go_ret
                  exact ⟨ret_eq1 (int_eq (Hr.out)), rfl⟩
            · have gl : (s.size : Int) ≤ (e0 : Int) := by omega
              rw [head_none (by omega)] at hz
              have Hr := hide (show (-1 : Int) = z by rw [← hz]; simp)
              clear hz hn hn0 hnl hp hlt hD hDl hidx h5x HX1 HS1 HL1
              go_enter Tryz.func55, Tryz.ntmps55
              go_wp2_with fail
              refine (HT0 _).mono ?_
              rintro e w1 ⟨rfl, hw1⟩
              subst w1
              go_wp2_with fail
              refine (hX.out _).mono ?_
              rintro e w1 ⟨rfl, hw1⟩
              subst w1
              go_wp2_with fail
              refine (hS.out _).mono ?_
              rintro e w1 ⟨rfl, hw1⟩
              subst w1
              go_wp2
              go_ret
              exact ⟨ret_eq1 (int_eq (Hr.out)), rfl⟩
      | true =>
        rw [hpx] at hx5
        cases hs5 : sp c5 with
        | false =>
          rw [hs5] at HSP5 hsp5
          rw [if_neg (fun h => by have := h.2.2; rw [hsp5] at this; cases this)] at hz
          clear hpx hc5 hsp5 hs5 HD0
          unfold instr1 at hz
          have hnl := takeD_le (D.drop (at_ + 2))
          rw [List.length_drop, hDl] at hnl
          obtain ⟨n, hn⟩ : ∃ n, Tk.take (D.drop (at_ + 2)) = n := ⟨_, rfl⟩
          rw [hn] at HT0 hz hnl
          have hwn : IntKind.i64.wrap ((at_ : Int) + 2 + (n : Int)) = ((at_ + 2 + n : Nat) : Int) := by rw [IntWalk.i64_in _ (by omega)]; omega
          by_cases hn0 : n = 0
          · have gn : ((n : Int) == 0) = true := by rw [beq_iff_eq]; omega
            have Hr := hide (show (-1 : Int) = z by rw [← hz, if_pos (.inl hn0)])
            clear hz hn hn0 hnl hD hDl hidx h5x HX1 HS1 HL1
            go_enter Tryz.func55, Tryz.ntmps55
            go_wp2_with fail
            refine (HSP5.out _).mono ?_
            rintro e w1 ⟨rfl, hw1⟩
            subst w1
            go_wp2_with fail
            refine (HT0 _).mono ?_
            rintro e w1 ⟨rfl, hw1⟩
            subst w1
            go_wp2
            go_ret
            exact ⟨ret_eq1 (int_eq (Hr.out)), rfl⟩
          have gn : ((n : Int) == 0) = false := by rw [beq_eq_false_iff_ne]; omega
          obtain ⟨e0, he0⟩ : ∃ e0, at_ + 2 + n = e0 := ⟨_, rfl⟩
          have hX := hide (HX1 e0)
          rw [show e0 - (at_ + 2) = n by omega] at hX
          rw [he0] at hwn hz
          have hbe : 0 ≤ (at_ : Int) + 2 ∧ (at_ : Int) + 2 ≤ (e0 : Int) ∧ (e0 : Int) ≤ (s.size : Int) := by omega
          have hes : e0 ≤ s.size := by omega
          obtain ⟨x, hx⟩ : ∃ x, Tk.xml ((D.drop (at_ + 2)).take n) = x := ⟨_, rfl⟩
          rw [hx] at hX hz
          have he0' := hide he0
          clear he0 hx
          cases x with
          | true =>
            have Hr := hide (show (-1 : Int) = z by rw [← hz, if_pos (.inr rfl)])
            clear hz hn hn0 hnl hD hDl hidx h5x HX1 HS1 HL1
            go_enter Tryz.func55, Tryz.ntmps55
            go_wp2_with fail
            refine (HSP5.out _).mono ?_
            rintro e w1 ⟨rfl, hw1⟩
            subst w1
            go_wp2_with fail
            refine (HT0 _).mono ?_
            rintro e w1 ⟨rfl, hw1⟩
            subst w1
            go_wp2_with fail
            refine (hX.out _).mono ?_
            rintro e w1 ⟨rfl, hw1⟩
            subst w1
            go_wp2
            go_ret
            exact ⟨ret_eq1 (int_eq (Hr.out)), rfl⟩
          | false =>
            rw [if_neg (by simp [hn0])] at hz
            unfold instr2 at hz
            have hS := hide (fun W => HS1 e0 W hes)
            have hT := hide (fun W => HL1 e0 W hes)
            cases hp : ([63, 62] : L).isPrefixOf (D.drop e0) with
            | true =>
              rw [hp] at hS hz
              rw [tillAt_here hp] at hT
              have Hr := hide (show (e0 : Int) + 2 = z by rw [← hz]; simp)
              have hw3 : IntKind.i64.wrap ((e0 : Int) + 2) = (e0 : Int) + 2 := IntWalk.i64_in _ (by omega)
              have gk : ¬ (e0 : Int) < 0 := by omega
              clear hz hn hn0 hnl hp hD hDl hidx h5x HX1 HS1 HL1
              go_enter Tryz.func55, Tryz.ntmps55
              go_wp2_with fail
              refine (HSP5.out _).mono ?_
              rintro e w1 ⟨rfl, hw1⟩
              subst w1
              go_wp2_with fail
              refine (HT0 _).mono ?_
              rintro e w1 ⟨rfl, hw1⟩
              subst w1
              go_wp2_with fail
              refine (hX.out _).mono ?_
              rintro e w1 ⟨rfl, hw1⟩
              subst w1
              go_wp2_with fail
              refine (hS.out _).mono ?_
              rintro e w1 ⟨rfl, hw1⟩
              subst w1
              go_wp2_with fail
              refine (hT.out _).mono ?_
              rintro e w1 ⟨rfl, hw1⟩
              subst w1
              go_wp2
              go_ret
              exact ⟨ret_eq1 (int_eq (Hr.out)), rfl⟩
            | false =>
              rw [hp] at hS hz
              by_cases hlt : e0 < s.size
              · obtain ⟨c, hc⟩ : ∃ c, D[e0]? = some c := ⟨_, List.getElem?_eq_getElem (by rw [hDl]; exact hlt)⟩
                have hix := hidx e0 c hc
                have HSP := hide (refSpace_any c)
                rw [head_some hc] at hz
                have gl : ¬ (s.size : Int) ≤ (e0 : Int) := by omega
                cases hsp : sp c with
                | false =>
                  rw [hsp] at HSP hz
                  have Hr := hide (show (-1 : Int) = z by rw [← hz]; simp)
                  clear hz hn hn0 hnl hp hc hsp hT hD hDl hidx h5x HX1 HS1 HL1
                  go_enter Tryz.func55, Tryz.ntmps55
                  go_wp2_with fail
                  refine (HSP5.out _).mono ?_
                  rintro e w1 ⟨rfl, hw1⟩
                  subst w1
                  go_wp2_with fail
                  refine (HT0 _).mono ?_
                  rintro e w1 ⟨rfl, hw1⟩
                  subst w1
                  go_wp2_with fail
                  refine (hX.out _).mono ?_
                  rintro e w1 ⟨rfl, hw1⟩
                  subst w1
                  go_wp2_with fail
                  refine (hS.out _).mono ?_
                  rintro e w1 ⟨rfl, hw1⟩
                  subst w1
                  go_wp2_with fail
                  refine (HSP.out _).mono ?_
                  rintro e w1 ⟨rfl, hw1⟩
                  subst w1
                  go_wp2
                  go_ret
                  exact ⟨ret_eq1 (int_eq (Hr.out)), rfl⟩
                | true =>
                  rw [hsp] at HSP hz
                  simp only [Bool.false_eq_true, if_false, if_true] at hz
                  unfold tillAt at hT
                  cases ht : Tk.till [63, 62] (D.drop e0) with
                  | none =>
                    rw [ht] at hT hz
                    dsimp only at hT
                    have Hr := hide (show (-1 : Int) = z from hz)
                    clear hz hn hn0 hnl hp hc hsp ht hD hDl hidx h5x HX1 HS1 HL1
                    go_enter Tryz.func55, Tryz.ntmps55
                    go_wp2_with fail
                    refine (HSP5.out _).mono ?_
                    rintro e w1 ⟨rfl, hw1⟩
                    subst w1
                    go_wp2_with fail
                    refine (HT0 _).mono ?_
                    rintro e w1 ⟨rfl, hw1⟩
                    subst w1
                    go_wp2_with fail
                    refine (hX.out _).mono ?_
                    rintro e w1 ⟨rfl, hw1⟩
                    subst w1
                    go_wp2_with fail
                    refine (hS.out _).mono ?_
                    rintro e w1 ⟨rfl, hw1⟩
                    subst w1
                    go_wp2_with fail
                    refine (HSP.out _).mono ?_
                    rintro e w1 ⟨rfl, hw1⟩
                    subst w1
                    go_wp2_with fail
                    refine (hT.out _).mono ?_
                    rintro e w1 ⟨rfl, hw1⟩
                    subst w1
                    go_wp2
                    go_ret
                    exact ⟨ret_eq1 (int_eq (Hr.out)), rfl⟩
                  | some t =>
                    have htl := till_len ht
                    rw [List.length_drop, hDl] at htl
                    rw [ht] at hT hz
                    dsimp only at hT hz
                    obtain ⟨q, hq⟩ : ∃ q, e0 + t = q := ⟨_, rfl⟩
                    rw [hq] at hT hz
                    have Hr := hide (show (q : Int) + 2 = z from hz)
                    have hql : q ≤ s.size := by omega
                    have hw3 : IntKind.i64.wrap ((q : Int) + 2) = (q : Int) + 2 := IntWalk.i64_in _ (by omega)
                    have gk : ¬ (q : Int) < 0 := by omega
                    clear hz hn hn0 hnl hp hc hsp ht htl hq hD hDl hidx h5x HX1 HS1 HL1
                    go_enter Tryz.func55, Tryz.ntmps55
                    go_wp2_with fail
                    refine (HSP5.out _).mono ?_
                    rintro e w1 ⟨rfl, hw1⟩
                    subst w1
                    go_wp2_with fail
                    refine (HT0 _).mono ?_
                    rintro e w1 ⟨rfl, hw1⟩
                    subst w1
                    go_wp2_with fail
                    refine (hX.out _).mono ?_
                    rintro e w1 ⟨rfl, hw1⟩
                    subst w1
                    go_wp2_with fail
                    refine (hS.out _).mono ?_
                    rintro e w1 ⟨rfl, hw1⟩
                    subst w1
                    go_wp2_with fail
                    refine (HSP.out _).mono ?_
                    rintro e w1 ⟨rfl, hw1⟩
                    subst w1
                    go_wp2_with fail
                    refine (hT.out _).mono ?_
                    rintro e w1 ⟨rfl, hw1⟩
                    subst w1
                    go_wp2
                    go_ret
                    exact ⟨ret_eq1 (int_eq (Hr.out)), rfl⟩
              · have gl : (s.size : Int) ≤ (e0 : Int) := by omega
                rw [head_none (by omega)] at hz
                have Hr := hide (show (-1 : Int) = z by rw [← hz]; simp)
                clear hz hn hn0 hnl hp hlt hD hDl hidx h5x HX1 HS1 HL1
                go_enter Tryz.func55, Tryz.ntmps55
                go_wp2_with fail
                refine (HSP5.out _).mono ?_
                rintro e w1 ⟨rfl, hw1⟩
                subst w1
                go_wp2_with fail
                refine (HT0 _).mono ?_
                rintro e w1 ⟨rfl, hw1⟩
                subst w1
                go_wp2_with fail
                refine (hX.out _).mono ?_
                rintro e w1 ⟨rfl, hw1⟩
                subst w1
                go_wp2_with fail
                refine (hS.out _).mono ?_
                rintro e w1 ⟨rfl, hw1⟩
                subst w1
                go_wp2
                go_ret
                exact ⟨ret_eq1 (int_eq (Hr.out)), rfl⟩
        | true =>
          rw [hs5] at HSP5 hsp5
          rw [if_pos ⟨H0.out, hpx, hsp5⟩] at hz
          have HDc := hide (fun W => HD0 W g5n)
          have Hr := hide hz
          clear hz hpx hc5 hsp5 hs5 HD0 HT0 hD hDl hidx h5x HX1 HS1 HL1
          go_enter Tryz.func55, Tryz.ntmps55
          go_wp2_with fail
          refine (HSP5.out _).mono ?_
          rintro e w1 ⟨rfl, hw1⟩
          subst w1
          go_wp2_with fail
          refine (HDc.out _).mono ?_
          rintro e w1 ⟨rfl, hw1⟩
          subst w1
          go_wp2
          go_ret
          exact ⟨ret_eq1 (int_eq (Hr.out)), rfl⟩
    · have g5 : ¬ (5 : Int) < (s.size : Int) := by omega
      rw [if_neg (fun h => by have := (List.isPrefixOf_iff_prefix.1 h.2.1).length_le; have e : sXml.length = 5 := rfl; have h2 := h.2.2; rw [head_none (by omega)] at h2; cases h2)] at hz
      clear HD0
      unfold instr1 at hz
      have hnl := takeD_le (D.drop (at_ + 2))
      rw [List.length_drop, hDl] at hnl
      obtain ⟨n, hn⟩ : ∃ n, Tk.take (D.drop (at_ + 2)) = n := ⟨_, rfl⟩
      rw [hn] at HT0 hz hnl
      have hwn : IntKind.i64.wrap ((at_ : Int) + 2 + (n : Int)) = ((at_ + 2 + n : Nat) : Int) := by rw [IntWalk.i64_in _ (by omega)]; omega
      by_cases hn0 : n = 0
      · have gn : ((n : Int) == 0) = true := by rw [beq_iff_eq]; omega
        have Hr := hide (show (-1 : Int) = z by rw [← hz, if_pos (.inl hn0)])
        clear hz hn hn0 hnl hD hDl hidx h5x HX1 HS1 HL1
        go_enter Tryz.func55, Tryz.ntmps55
        go_wp2_with fail
        refine (HT0 _).mono ?_
        rintro e w1 ⟨rfl, hw1⟩
        subst w1
        go_wp2
        go_ret
        exact ⟨ret_eq1 (int_eq (Hr.out)), rfl⟩
      have gn : ((n : Int) == 0) = false := by rw [beq_eq_false_iff_ne]; omega
      obtain ⟨e0, he0⟩ : ∃ e0, at_ + 2 + n = e0 := ⟨_, rfl⟩
      have hX := hide (HX1 e0)
      rw [show e0 - (at_ + 2) = n by omega] at hX
      rw [he0] at hwn hz
      have hbe : 0 ≤ (at_ : Int) + 2 ∧ (at_ : Int) + 2 ≤ (e0 : Int) ∧ (e0 : Int) ≤ (s.size : Int) := by omega
      have hes : e0 ≤ s.size := by omega
      obtain ⟨x, hx⟩ : ∃ x, Tk.xml ((D.drop (at_ + 2)).take n) = x := ⟨_, rfl⟩
      rw [hx] at hX hz
      have he0' := hide he0
      clear he0 hx
      cases x with
      | true =>
        have Hr := hide (show (-1 : Int) = z by rw [← hz, if_pos (.inr rfl)])
        clear hz hn hn0 hnl hD hDl hidx h5x HX1 HS1 HL1
        go_enter Tryz.func55, Tryz.ntmps55
        go_wp2_with fail
        refine (HT0 _).mono ?_
        rintro e w1 ⟨rfl, hw1⟩
        subst w1
        go_wp2_with fail
        refine (hX.out _).mono ?_
        rintro e w1 ⟨rfl, hw1⟩
        subst w1
        go_wp2
        go_ret
        exact ⟨ret_eq1 (int_eq (Hr.out)), rfl⟩
      | false =>
        rw [if_neg (by simp [hn0])] at hz
        unfold instr2 at hz
        have hS := hide (fun W => HS1 e0 W hes)
        have hT := hide (fun W => HL1 e0 W hes)
        cases hp : ([63, 62] : L).isPrefixOf (D.drop e0) with
        | true =>
          rw [hp] at hS hz
          rw [tillAt_here hp] at hT
          have Hr := hide (show (e0 : Int) + 2 = z by rw [← hz]; simp)
          have hw3 : IntKind.i64.wrap ((e0 : Int) + 2) = (e0 : Int) + 2 := IntWalk.i64_in _ (by omega)
          have gk : ¬ (e0 : Int) < 0 := by omega
          clear hz hn hn0 hnl hp hD hDl hidx h5x HX1 HS1 HL1
          go_enter Tryz.func55, Tryz.ntmps55
          go_wp2_with fail
          refine (HT0 _).mono ?_
          rintro e w1 ⟨rfl, hw1⟩
          subst w1
          go_wp2_with fail
          refine (hX.out _).mono ?_
          rintro e w1 ⟨rfl, hw1⟩
          subst w1
          go_wp2_with fail
          refine (hS.out _).mono ?_
          rintro e w1 ⟨rfl, hw1⟩
          subst w1
          go_wp2_with fail
          refine (hT.out _).mono ?_
          rintro e w1 ⟨rfl, hw1⟩
          subst w1
          go_wp2
          go_ret
          exact ⟨ret_eq1 (int_eq (Hr.out)), rfl⟩
        | false =>
          rw [hp] at hS hz
          by_cases hlt : e0 < s.size
          · obtain ⟨c, hc⟩ : ∃ c, D[e0]? = some c := ⟨_, List.getElem?_eq_getElem (by rw [hDl]; exact hlt)⟩
            have hix := hidx e0 c hc
            have HSP := hide (refSpace_any c)
            rw [head_some hc] at hz
            have gl : ¬ (s.size : Int) ≤ (e0 : Int) := by omega
            cases hsp : sp c with
            | false =>
              rw [hsp] at HSP hz
              have Hr := hide (show (-1 : Int) = z by rw [← hz]; simp)
              clear hz hn hn0 hnl hp hc hsp hT hD hDl hidx h5x HX1 HS1 HL1
              go_enter Tryz.func55, Tryz.ntmps55
              go_wp2_with fail
              refine (HT0 _).mono ?_
              rintro e w1 ⟨rfl, hw1⟩
              subst w1
              go_wp2_with fail
              refine (hX.out _).mono ?_
              rintro e w1 ⟨rfl, hw1⟩
              subst w1
              go_wp2_with fail
              refine (hS.out _).mono ?_
              rintro e w1 ⟨rfl, hw1⟩
              subst w1
              go_wp2_with fail
              refine (HSP.out _).mono ?_
              rintro e w1 ⟨rfl, hw1⟩
              subst w1
              go_wp2
              go_ret
              exact ⟨ret_eq1 (int_eq (Hr.out)), rfl⟩
            | true =>
              rw [hsp] at HSP hz
              simp only [Bool.false_eq_true, if_false, if_true] at hz
              unfold tillAt at hT
              cases ht : Tk.till [63, 62] (D.drop e0) with
              | none =>
                rw [ht] at hT hz
                dsimp only at hT
                have Hr := hide (show (-1 : Int) = z from hz)
                clear hz hn hn0 hnl hp hc hsp ht hD hDl hidx h5x HX1 HS1 HL1
                go_enter Tryz.func55, Tryz.ntmps55
                go_wp2_with fail
                refine (HT0 _).mono ?_
                rintro e w1 ⟨rfl, hw1⟩
                subst w1
                go_wp2_with fail
                refine (hX.out _).mono ?_
                rintro e w1 ⟨rfl, hw1⟩
                subst w1
                go_wp2_with fail
                refine (hS.out _).mono ?_
                rintro e w1 ⟨rfl, hw1⟩
                subst w1
                go_wp2_with fail
                refine (HSP.out _).mono ?_
                rintro e w1 ⟨rfl, hw1⟩
                subst w1
                go_wp2_with fail
                refine (hT.out _).mono ?_
                rintro e w1 ⟨rfl, hw1⟩
                subst w1
                go_wp2
                go_ret
                exact ⟨ret_eq1 (int_eq (Hr.out)), rfl⟩
              | some t =>
                have htl := till_len ht
                rw [List.length_drop, hDl] at htl
                rw [ht] at hT hz
                dsimp only at hT hz
                obtain ⟨q, hq⟩ : ∃ q, e0 + t = q := ⟨_, rfl⟩
                rw [hq] at hT hz
                have Hr := hide (show (q : Int) + 2 = z from hz)
                have hql : q ≤ s.size := by omega
                have hw3 : IntKind.i64.wrap ((q : Int) + 2) = (q : Int) + 2 := IntWalk.i64_in _ (by omega)
                have gk : ¬ (q : Int) < 0 := by omega
                clear hz hn hn0 hnl hp hc hsp ht htl hq hD hDl hidx h5x HX1 HS1 HL1
                go_enter Tryz.func55, Tryz.ntmps55
                go_wp2_with fail
                refine (HT0 _).mono ?_
                rintro e w1 ⟨rfl, hw1⟩
                subst w1
                go_wp2_with fail
                refine (hX.out _).mono ?_
                rintro e w1 ⟨rfl, hw1⟩
                subst w1
                go_wp2_with fail
                refine (hS.out _).mono ?_
                rintro e w1 ⟨rfl, hw1⟩
                subst w1
                go_wp2_with fail
                refine (HSP.out _).mono ?_
                rintro e w1 ⟨rfl, hw1⟩
                subst w1
                go_wp2_with fail
                refine (hT.out _).mono ?_
                rintro e w1 ⟨rfl, hw1⟩
                subst w1
                go_wp2
                go_ret
                exact ⟨ret_eq1 (int_eq (Hr.out)), rfl⟩
          · have gl : (s.size : Int) ≤ (e0 : Int) := by omega
            rw [head_none (by omega)] at hz
            have Hr := hide (show (-1 : Int) = z by rw [← hz]; simp)
            clear hz hn hn0 hnl hp hlt hD hDl hidx h5x HX1 HS1 HL1
            go_enter Tryz.func55, Tryz.ntmps55
            go_wp2_with fail
            refine (HT0 _).mono ?_
            rintro e w1 ⟨rfl, hw1⟩
            subst w1
            go_wp2_with fail
            refine (hX.out _).mono ?_
            rintro e w1 ⟨rfl, hw1⟩
            subst w1
            go_wp2_with fail
            refine (hS.out _).mono ?_
            rintro e w1 ⟨rfl, hw1⟩
            subst w1
            go_wp2
            go_ret
            exact ⟨ret_eq1 (int_eq (Hr.out)), rfl⟩
  · have g0 : ((at_ : Int) == 0) = false := by rw [beq_eq_false_iff_ne]; omega
    rw [if_neg (fun h => h0 h.1)] at hz
    clear HD0 h0
    unfold instr1 at hz
    have hnl := takeD_le (D.drop (at_ + 2))
    rw [List.length_drop, hDl] at hnl
    obtain ⟨n, hn⟩ : ∃ n, Tk.take (D.drop (at_ + 2)) = n := ⟨_, rfl⟩
    rw [hn] at HT0 hz hnl
    have hwn : IntKind.i64.wrap ((at_ : Int) + 2 + (n : Int)) = ((at_ + 2 + n : Nat) : Int) := by rw [IntWalk.i64_in _ (by omega)]; omega
    by_cases hn0 : n = 0
    · have gn : ((n : Int) == 0) = true := by rw [beq_iff_eq]; omega
      have Hr := hide (show (-1 : Int) = z by rw [← hz, if_pos (.inl hn0)])
      clear hz hn hn0 hnl hD hDl hidx h5x HX1 HS1 HL1
      go_enter Tryz.func55, Tryz.ntmps55
      go_wp2_with fail
      refine (HT0 _).mono ?_
      rintro e w1 ⟨rfl, hw1⟩
      subst w1
      go_wp2
      go_ret
      exact ⟨ret_eq1 (int_eq (Hr.out)), rfl⟩
    have gn : ((n : Int) == 0) = false := by rw [beq_eq_false_iff_ne]; omega
    obtain ⟨e0, he0⟩ : ∃ e0, at_ + 2 + n = e0 := ⟨_, rfl⟩
    have hX := hide (HX1 e0)
    rw [show e0 - (at_ + 2) = n by omega] at hX
    rw [he0] at hwn hz
    have hbe : 0 ≤ (at_ : Int) + 2 ∧ (at_ : Int) + 2 ≤ (e0 : Int) ∧ (e0 : Int) ≤ (s.size : Int) := by omega
    have hes : e0 ≤ s.size := by omega
    obtain ⟨x, hx⟩ : ∃ x, Tk.xml ((D.drop (at_ + 2)).take n) = x := ⟨_, rfl⟩
    rw [hx] at hX hz
    have he0' := hide he0
    clear he0 hx
    cases x with
    | true =>
      have Hr := hide (show (-1 : Int) = z by rw [← hz, if_pos (.inr rfl)])
      clear hz hn hn0 hnl hD hDl hidx h5x HX1 HS1 HL1
      go_enter Tryz.func55, Tryz.ntmps55
      go_wp2_with fail
      refine (HT0 _).mono ?_
      rintro e w1 ⟨rfl, hw1⟩
      subst w1
      go_wp2_with fail
      refine (hX.out _).mono ?_
      rintro e w1 ⟨rfl, hw1⟩
      subst w1
      go_wp2
      go_ret
      exact ⟨ret_eq1 (int_eq (Hr.out)), rfl⟩
    | false =>
      rw [if_neg (by simp [hn0])] at hz
      unfold instr2 at hz
      have hS := hide (fun W => HS1 e0 W hes)
      have hT := hide (fun W => HL1 e0 W hes)
      cases hp : ([63, 62] : L).isPrefixOf (D.drop e0) with
      | true =>
        rw [hp] at hS hz
        rw [tillAt_here hp] at hT
        have Hr := hide (show (e0 : Int) + 2 = z by rw [← hz]; simp)
        have hw3 : IntKind.i64.wrap ((e0 : Int) + 2) = (e0 : Int) + 2 := IntWalk.i64_in _ (by omega)
        have gk : ¬ (e0 : Int) < 0 := by omega
        clear hz hn hn0 hnl hp hD hDl hidx h5x HX1 HS1 HL1
        go_enter Tryz.func55, Tryz.ntmps55
        go_wp2_with fail
        refine (HT0 _).mono ?_
        rintro e w1 ⟨rfl, hw1⟩
        subst w1
        go_wp2_with fail
        refine (hX.out _).mono ?_
        rintro e w1 ⟨rfl, hw1⟩
        subst w1
        go_wp2_with fail
        refine (hS.out _).mono ?_
        rintro e w1 ⟨rfl, hw1⟩
        subst w1
        go_wp2_with fail
        refine (hT.out _).mono ?_
        rintro e w1 ⟨rfl, hw1⟩
        subst w1
        go_wp2
        go_ret
        exact ⟨ret_eq1 (int_eq (Hr.out)), rfl⟩
      | false =>
        rw [hp] at hS hz
        by_cases hlt : e0 < s.size
        · obtain ⟨c, hc⟩ : ∃ c, D[e0]? = some c := ⟨_, List.getElem?_eq_getElem (by rw [hDl]; exact hlt)⟩
          have hix := hidx e0 c hc
          have HSP := hide (refSpace_any c)
          rw [head_some hc] at hz
          have gl : ¬ (s.size : Int) ≤ (e0 : Int) := by omega
          cases hsp : sp c with
          | false =>
            rw [hsp] at HSP hz
            have Hr := hide (show (-1 : Int) = z by rw [← hz]; simp)
            clear hz hn hn0 hnl hp hc hsp hT hD hDl hidx h5x HX1 HS1 HL1
            go_enter Tryz.func55, Tryz.ntmps55
            go_wp2_with fail
            refine (HT0 _).mono ?_
            rintro e w1 ⟨rfl, hw1⟩
            subst w1
            go_wp2_with fail
            refine (hX.out _).mono ?_
            rintro e w1 ⟨rfl, hw1⟩
            subst w1
            go_wp2_with fail
            refine (hS.out _).mono ?_
            rintro e w1 ⟨rfl, hw1⟩
            subst w1
            go_wp2_with fail
            refine (HSP.out _).mono ?_
            rintro e w1 ⟨rfl, hw1⟩
            subst w1
            go_wp2
            go_ret
            exact ⟨ret_eq1 (int_eq (Hr.out)), rfl⟩
          | true =>
            rw [hsp] at HSP hz
            simp only [Bool.false_eq_true, if_false, if_true] at hz
            unfold tillAt at hT
            cases ht : Tk.till [63, 62] (D.drop e0) with
            | none =>
              rw [ht] at hT hz
              dsimp only at hT
              have Hr := hide (show (-1 : Int) = z from hz)
              clear hz hn hn0 hnl hp hc hsp ht hD hDl hidx h5x HX1 HS1 HL1
              go_enter Tryz.func55, Tryz.ntmps55
              go_wp2_with fail
              refine (HT0 _).mono ?_
              rintro e w1 ⟨rfl, hw1⟩
              subst w1
              go_wp2_with fail
              refine (hX.out _).mono ?_
              rintro e w1 ⟨rfl, hw1⟩
              subst w1
              go_wp2_with fail
              refine (hS.out _).mono ?_
              rintro e w1 ⟨rfl, hw1⟩
              subst w1
              go_wp2_with fail
              refine (HSP.out _).mono ?_
              rintro e w1 ⟨rfl, hw1⟩
              subst w1
              go_wp2_with fail
              refine (hT.out _).mono ?_
              rintro e w1 ⟨rfl, hw1⟩
              subst w1
              go_wp2
              go_ret
              exact ⟨ret_eq1 (int_eq (Hr.out)), rfl⟩
            | some t =>
              have htl := till_len ht
              rw [List.length_drop, hDl] at htl
              rw [ht] at hT hz
              dsimp only at hT hz
              obtain ⟨q, hq⟩ : ∃ q, e0 + t = q := ⟨_, rfl⟩
              rw [hq] at hT hz
              have Hr := hide (show (q : Int) + 2 = z from hz)
              have hql : q ≤ s.size := by omega
              have hw3 : IntKind.i64.wrap ((q : Int) + 2) = (q : Int) + 2 := IntWalk.i64_in _ (by omega)
              have gk : ¬ (q : Int) < 0 := by omega
              clear hz hn hn0 hnl hp hc hsp ht htl hq hD hDl hidx h5x HX1 HS1 HL1
              go_enter Tryz.func55, Tryz.ntmps55
              go_wp2_with fail
              refine (HT0 _).mono ?_
              rintro e w1 ⟨rfl, hw1⟩
              subst w1
              go_wp2_with fail
              refine (hX.out _).mono ?_
              rintro e w1 ⟨rfl, hw1⟩
              subst w1
              go_wp2_with fail
              refine (hS.out _).mono ?_
              rintro e w1 ⟨rfl, hw1⟩
              subst w1
              go_wp2_with fail
              refine (HSP.out _).mono ?_
              rintro e w1 ⟨rfl, hw1⟩
              subst w1
              go_wp2_with fail
              refine (hT.out _).mono ?_
              rintro e w1 ⟨rfl, hw1⟩
              subst w1
              go_wp2
              go_ret
              exact ⟨ret_eq1 (int_eq (Hr.out)), rfl⟩
        · have gl : (s.size : Int) ≤ (e0 : Int) := by omega
          rw [head_none (by omega)] at hz
          have Hr := hide (show (-1 : Int) = z by rw [← hz]; simp)
          clear hz hn hn0 hnl hp hlt hD hDl hidx h5x HX1 HS1 HL1
          go_enter Tryz.func55, Tryz.ntmps55
          go_wp2_with fail
          refine (HT0 _).mono ?_
          rintro e w1 ⟨rfl, hw1⟩
          subst w1
          go_wp2_with fail
          refine (hX.out _).mono ?_
          rintro e w1 ⟨rfl, hw1⟩
          subst w1
          go_wp2_with fail
          refine (hS.out _).mono ?_
          rintro e w1 ⟨rfl, hw1⟩
          subst w1
          go_wp2
          go_ret
          exact ⟨ret_eq1 (int_eq (Hr.out)), rfl⟩
end Go.Proofs.YtbnaphbmmkmaeaaGreatDoor
namespace Go.Proofs.YtbnaphbmmkmaeaaGreatDoor
open Go.RowKit Tk

def sCut : L := [93, 93, 62]
/-- What begins with <! : what is in it, where it ends, its kind. -/
def markedO (at_ : Nat) (D : L) : Option (L × Nat × Int) :=
  if sComment.isPrefixOf (D.drop at_) then (Tk.till [45, 45] (D.drop (at_ + 4))).bind fun k => if [45, 45, 62].isPrefixOf (D.drop (at_ + 4 + k)) then some ([], at_ + 4 + k + 3, 4) else none
  else if sData.isPrefixOf (D.drop at_) then (Tk.till sCut (D.drop (at_ + 9))).map fun k => ((D.drop (at_ + 9)).take k, at_ + 9 + k + 3, 3)
  else none
def mv (o : Option (L × Nat × Int)) : Value := match o with
  | some x => .tuple #[.string (bstr x.1), .int .i64 (x.2.1 : Int), .int .i8 x.2.2]
  | none => .tuple #[.string ⟨#[]⟩, .int .i64 (-1), .int .i8 0]
theorem pfx_three {l : L} {k : Nat} (h : Tk.till [45, 45] l = some k) : ([45, 45, 62] : L).isPrefixOf (l.drop k) = [62].isPrefixOf (l.drop (k + 2)) := by
  have h1 := (index_first' (till_iff.1 h)).1
  unfold Lib.occAt at h1
  obtain ⟨r, hr⟩ := List.isPrefixOf_iff_prefix.1 h1
  have e2 : l.drop (k + 2) = r := by rw [← List.drop_drop, ← hr]; rfl
  rw [e2, ← hr]
  simp [List.isPrefixOf]
theorem not_pfx {q q' l : L} (hl : q.length = q'.length) (hne : q ≠ q') (h : q.isPrefixOf l = true) : q'.isPrefixOf l = false := by
  rw [Bool.eq_false_iff]
  intro h'
  rw [List.isPrefixOf_iff_prefix, List.prefix_iff_eq_take] at h h'
  rw [hl] at h
  exact hne (h.trans h'.symm)
theorem pfx_short {q r l : L} (h : (q ++ r).isPrefixOf l = true) : q.isPrefixOf l = true := by
  rw [List.isPrefixOf_iff_prefix] at h ⊢
  exact (List.prefix_append q r).trans h
theorem not_long {q r l : L} (h : q.isPrefixOf l = false) : (q ++ r).isPrefixOf l = false := by
  rw [Bool.eq_false_iff] at h ⊢
  exact fun h' => h (pfx_short h')
/-- What begins with <! , as the tokens' plain reading has it. -/
theorem skip_marked {at_ : Nat} {D : L} (h : ([60, 33] : L).isPrefixOf (D.drop at_) = true) : Tk.skip at_ (D.drop at_) = (markedO at_ D).map fun x => ⟨x.2.2, [], [], false, x.1, at_, x.2.1⟩ := by
  have h2 : ([60, 63] : L).isPrefixOf (D.drop at_) = false := not_pfx (q := [60, 33]) rfl (by decide) h
  have h3 : sXml.isPrefixOf (D.drop at_) = false := not_long (q := [60, 63]) (r := [120, 109, 108]) h2
  unfold Tk.skip markedO
  by_cases hc : sComment.isPrefixOf (D.drop at_) = true
  · rw [if_pos hc, if_pos hc]
    unfold Tk.comment
    rw [List.drop_drop]
    cases ht : Tk.till [45, 45] (D.drop (at_ + 4)) with
    | none => rfl
    | some k =>
      have e := pfx_three ht
      rw [List.drop_drop, List.drop_drop] at e
      simp only [Option.bind_some]
      rw [List.drop_drop, e]
      by_cases hk : ([62] : L).isPrefixOf (D.drop (at_ + 4 + (k + 2))) = true
      · rw [if_pos hk, if_pos hk]; simp only [Option.map_some]; rw [Nat.add_assoc (at_ + 4)]
      · rw [if_neg hk, if_neg hk]; rfl
  · rw [if_neg hc, if_neg hc]
    by_cases hd : sData.isPrefixOf (D.drop at_) = true
    · rw [if_pos hd, if_pos hd]
      unfold sCut
      rw [List.drop_drop]
      cases ht : Tk.till [93, 93, 62] (D.drop (at_ + 9)) with
      | none => rfl
      | some k => rfl
    · rw [if_neg hd, if_neg hd, if_neg (fun h => by have := h.2.1; rw [h3] at this; cases this), if_neg (by rw [h2]; simp)]
      rfl

set_option maxHeartbeats 16000000 in
theorem refMarked_any (s : ByteArray) (at_ : Nat) (w : World) (ha : at_ ≤ s.size) (hs : s.size ≤ 1000000000) :
    Calls Tryz.prog 54 #[.string s, .int .i64 (at_ : Int)] w fun e w' => e = .returned (mv (markedO at_ s.data.toList)) ∧ w' = w := by
  have HS1 := hide (fun W => starts_at s (bstr sComment) at_ W (by omega) (by omega) (by decide) (by decide))
  have HS2 := hide (fun W => starts_at s (bstr sData) at_ W (by omega) (by omega) (by decide) (by decide))
  have HS3 := fun (k : Nat) W (h : k ≤ s.size) => starts_at s (bstr [45, 45, 62]) k W (by omega) (by omega) (by decide) (by decide)
  have HL1 := fun W (h : at_ + 4 ≤ s.size) => refTill_any s (bstr [45, 45]) (at_ + 4) W h (by omega) (by decide) (by decide)
  have HL2 := fun W (h : at_ + 9 ≤ s.size) => refTill_any s (bstr sCut) (at_ + 9) W h (by omega) (by decide) (by decide)
  obtain ⟨D, hD⟩ : ∃ D, s.data.toList = D := ⟨_, rfl⟩
  have hDl : D.length = s.size := by rw [← hD, size_list]
  rw [bstr_list] at HS1 HS2
  rw [bstr_list, hD] at HL1 HL2
  rw [hD] at HS1 HS2 ⊢
  have hex : ∀ n : Nat, s.extract (at_ + 9) (at_ + 9 + n) = bstr ((D.drop (at_ + 9)).take n) := fun n => by rw [extract_bstr, hD, Nat.add_sub_cancel_left]
  have HS3' : ∀ (k : Nat) W, k ≤ s.size → Calls Tryz.prog 53 #[.string s, .int .i64 (k : Int), .string (bstr [45, 45, 62])] W fun e w' => e = .returned (.bool (([45, 45, 62] : L).isPrefixOf (D.drop k))) ∧ w' = W := fun k W h => by have := HS3 k W h; rwa [bstr_list, hD] at this
  obtain ⟨z, hz⟩ : ∃ z, markedO at_ D = z := ⟨_, rfl⟩
  rw [hz]
  unfold markedO at hz
  clear HS3
  cases hc : sComment.isPrefixOf (D.drop at_) with
  | true =>
    rw [hc] at HS1 hz
    rw [if_pos rfl] at hz
    have hl := (List.isPrefixOf_iff_prefix.1 hc).length_le
    rw [List.length_drop, hDl, show sComment.length = 4 from rfl] at hl
    have hw4 : IntKind.i64.wrap ((at_ : Int) + 4) = ((at_ + 4 : Nat) : Int) := by rw [IntWalk.i64_in _ (by omega)]; omega
    have HL := hide (fun W => HL1 W (by omega))
    unfold tillAt at HL
    cases ht : Tk.till [45, 45] (D.drop (at_ + 4)) with
    | none =>
      rw [ht] at hz HL
      have Hr := hide (show none = z from hz)
      clear hz ht hl hc hD hDl hex HS3' HL1 HL2 HS2
      go_enter Tryz.func54, Tryz.ntmps54
      go_wp2_with fail
      refine (HS1.out _).mono ?_
      rintro e w1 ⟨rfl, hw1⟩
      subst w1
      go_wp2_with fail
      refine (HL.out _).mono ?_
      rintro e w1 ⟨rfl, hw1⟩
      subst w1
      go_wp2
      go_ret3
      rw [← Hr.out]
      exact ⟨rfl, rfl⟩
    | some n =>
      have htl := till_len ht
      rw [List.length_drop, hDl] at htl
      simp only [List.length_cons, List.length_nil] at htl
      rw [ht] at hz HL
      dsimp only [Option.bind_some] at hz HL
      obtain ⟨k, hk⟩ : ∃ k, at_ + 4 + n = k := ⟨_, rfl⟩
      rw [hk] at hz HL
      have hks : k + 2 ≤ s.size := by omega
      have gk : ¬ (k : Int) < 0 := by omega
      have hw3 : IntKind.i64.wrap ((k : Int) + 3) = ((k + 3 : Nat) : Int) := by rw [IntWalk.i64_in _ (by omega)]; omega
      have HS := hide (fun W => HS3' k W (by omega))
      cases hp : ([45, 45, 62] : L).isPrefixOf (D.drop k) with
      | true =>
        rw [hp] at hz HS
        have Hr := hide (show some ([], k + 3, 4) = z from hz)
        clear hz ht hl hc hD hDl hex HS3' HL1 HL2 HS2 hk htl hp
        go_enter Tryz.func54, Tryz.ntmps54
        go_wp2_with fail
        refine (HS1.out _).mono ?_
        rintro e w1 ⟨rfl, hw1⟩
        subst w1
        go_wp2_with fail
        refine (HL.out _).mono ?_
        rintro e w1 ⟨rfl, hw1⟩
        subst w1
        go_wp2_with fail
        refine (HS.out _).mono ?_
        rintro e w1 ⟨rfl, hw1⟩
        subst w1
        go_wp2
        go_ret3
        rw [← Hr.out]
        exact ⟨rfl, rfl⟩
      | false =>
        rw [hp] at hz HS
        have Hr := hide (show none = z from hz)
        clear hz ht hl hc hD hDl hex HS3' HL1 HL2 HS2 hk htl hp
        go_enter Tryz.func54, Tryz.ntmps54
        go_wp2_with fail
        refine (HS1.out _).mono ?_
        rintro e w1 ⟨rfl, hw1⟩
        subst w1
        go_wp2_with fail
        refine (HL.out _).mono ?_
        rintro e w1 ⟨rfl, hw1⟩
        subst w1
        go_wp2_with fail
        refine (HS.out _).mono ?_
        rintro e w1 ⟨rfl, hw1⟩
        subst w1
        go_wp2
        go_ret3
        rw [← Hr.out]
        exact ⟨rfl, rfl⟩
  | false =>
    rw [hc] at HS1 hz
    rw [if_neg (by simp)] at hz
    cases hd : sData.isPrefixOf (D.drop at_) with
    | true =>
      rw [hd] at HS2 hz
      rw [if_pos rfl] at hz
      have hl := (List.isPrefixOf_iff_prefix.1 hd).length_le
      rw [List.length_drop, hDl, show sData.length = 9 from rfl] at hl
      have hw4 : IntKind.i64.wrap ((at_ : Int) + 9) = ((at_ + 9 : Nat) : Int) := by rw [IntWalk.i64_in _ (by omega)]; omega
      have HL := hide (fun W => HL2 W (by omega))
      unfold tillAt at HL
      cases ht : Tk.till sCut (D.drop (at_ + 9)) with
      | none =>
        rw [ht] at hz HL
        have Hr := hide (show none = z from hz)
        clear hz ht hl hc hd hD hDl hex HS3' HL1 HL2
        go_enter Tryz.func54, Tryz.ntmps54
        go_wp2_with fail
        refine (HS1.out _).mono ?_
        rintro e w1 ⟨rfl, hw1⟩
        subst w1
        go_wp2_with fail
        refine (HS2.out _).mono ?_
        rintro e w1 ⟨rfl, hw1⟩
        subst w1
        go_wp2_with fail
        refine (HL.out _).mono ?_
        rintro e w1 ⟨rfl, hw1⟩
        subst w1
        go_wp2
        go_ret3
        rw [← Hr.out]
        exact ⟨rfl, rfl⟩
      | some n =>
        have htl := till_len ht
        rw [List.length_drop, hDl, show sCut.length = 3 from rfl] at htl
        rw [ht] at hz HL
        dsimp only [Option.map_some] at hz HL
        have hx := hex n
        obtain ⟨V, hV⟩ : ∃ V, (D.drop (at_ + 9)).take n = V := ⟨_, rfl⟩
        obtain ⟨k, hk⟩ : ∃ k, at_ + 9 + n = k := ⟨_, rfl⟩
        rw [hk, hV] at hz
        rw [hk] at HL hx
        rw [hV] at hx
        have hks : k + 3 ≤ s.size := by omega
        have gk : ¬ (k : Int) < 0 := by omega
        have hb : 0 ≤ ((at_ + 9 : Nat) : Int) ∧ ((at_ + 9 : Nat) : Int) ≤ (k : Int) ∧ (k : Int) ≤ (s.size : Int) := by omega
        have hw3 : IntKind.i64.wrap ((k : Int) + 3) = ((k + 3 : Nat) : Int) := by rw [IntWalk.i64_in _ (by omega)]; omega
        have Hr := hide (show some (V, k + 3, 3) = z from hz)
        have Hv := hide (show mv (some (V, k + 3, 3)) = .tuple #[.string (s.extract (at_ + 9) k), .int .i64 ((k : Int) + 3), .int .i8 3] from by rw [hx]; rfl)
        clear hz ht hl hc hd hD hDl hex HS3' HL1 HL2 hk htl hV hx
        go_enter Tryz.func54, Tryz.ntmps54
        go_wp2_with fail
        refine (HS1.out _).mono ?_
        rintro e w1 ⟨rfl, hw1⟩
        subst w1
        go_wp2_with fail
        refine (HS2.out _).mono ?_
        rintro e w1 ⟨rfl, hw1⟩
        subst w1
        go_wp2_with fail
        refine (HL.out _).mono ?_
        rintro e w1 ⟨rfl, hw1⟩
        subst w1
        go_wp2
        go_ret3
        rw [← Hr.out, Hv.out]
        exact ⟨rfl, rfl⟩
    | false =>
      rw [hd] at HS2 hz
      rw [if_neg (by simp)] at hz
      have Hr := hide hz
      clear hz hc hd hD hDl hex HS3' HL1 HL2
      go_enter Tryz.func54, Tryz.ntmps54
      go_wp2_with fail
      refine (HS1.out _).mono ?_
      rintro e w1 ⟨rfl, hw1⟩
      subst w1
      go_wp2_with fail
      refine (HS2.out _).mono ?_
      rintro e w1 ⟨rfl, hw1⟩
      subst w1
      go_wp2
      go_ret3
      rw [← Hr.out]
      exact ⟨rfl, rfl⟩
end Go.Proofs.YtbnaphbmmkmaeaaGreatDoor
