/- The document's reading of tokens: the declaration. (Printed by wip/genTkDg.py.) · The program's 'Is', 'Len', 'Put'. · The program's iterator over a text's pieces; 'Loose', 'Valid'. -/
import Derived.Test.YtbnaphbmmkmaeaaGreatDoorTz00
import Derived.Test.YtbnaphbmmkmaeaaGreatDoorTz01
import Derived.Test.YtbnaphbmmkmaeaaGreatDoorTz05
import Derived.LoopN
import Derived.RangeFuncNested
import Derived.RangeFuncBound
import Derived.RangeFuncCalls
import Derived.RangeFuncLeaves
import Derived.RangeFuncBox
import Derived.Lib.AppendStr
import Derived.Shelf.Abstract
import Derived.Shelf.RegionOpen
import Derived.OwnWalkIn
import Derived.TacticsInMore
import Derived.LoopNIn
import Derived.LoopIn
set_option linter.unusedSimpArgs false
set_option linter.unusedVariables false
namespace Go.Proofs.YtbnaphbmmkmaeaaGreatDoor
open Go.RowKit Tk

def decl4 (D : L) (a : Nat) : Int := if [63, 62].isPrefixOf (D.drop (a + nsp (D.drop a))) then ((a + nsp (D.drop a) + 2 : Nat) : Int) else -1
def decl3 (D : L) (a : Nat) : Int := match Tk.part sAlone (D.drop a) with
  | none => decl4 D a
  | some x => if alone x.1 then decl4 D (a + x.2) else -1
def decl2 (D : L) (a : Nat) : Int := match Tk.part sEncoding (D.drop a) with
  | none => decl3 D a
  | some x => if encoding x.1 then decl3 D (a + x.2) else -1
/-- Where the declaration ends. -/
def declAt (D : L) : Int := match Tk.part sVersion (D.drop 5) with
  | none => -1
  | some x => if version x.1 then decl2 D (5 + x.2) else -1
def natOr (o : Option Nat) : Int := match o with
  | some n => ((5 + n : Nat) : Int)
  | none => -1
theorem declAt_is (D : L) : declAt D = natOr (Tk.decl (D.drop 5)) := by
  unfold declAt Tk.decl
  cases h1 : Tk.part sVersion (D.drop 5) with
  | none => rfl
  | some x =>
    obtain ⟨v, n⟩ := x
    simp only [Option.bind_some]
    cases hv : version v with
    | false => rfl
    | true =>
      simp only [if_true]
      have last : ∀ a : Nat, decl4 D (5 + a) = natOr (if [63, 62].isPrefixOf (((D.drop 5).drop a).drop (nsp ((D.drop 5).drop a))) = true then some (a + nsp ((D.drop 5).drop a) + 2) else none) := fun a => by
        unfold decl4
        rw [show (D.drop 5).drop a = D.drop (5 + a) from List.drop_drop .., List.drop_drop]
        by_cases h : [63, 62].isPrefixOf (D.drop (5 + a + nsp (D.drop (5 + a)))) = true
        · rw [if_pos h, if_pos h]; unfold natOr; dsimp only; congr 1; omega
        · rw [if_neg h, if_neg h]; rfl
      have third : ∀ a : Nat, decl3 D (5 + a) = natOr ((opt sAlone alone ((D.drop 5).drop a)).bind fun b => if [63, 62].isPrefixOf (((D.drop 5).drop (a + b)).drop (nsp ((D.drop 5).drop (a + b)))) = true then some (a + b + nsp ((D.drop 5).drop (a + b)) + 2) else none) := fun a => by
        unfold decl3 opt
        rw [List.drop_drop]
        cases h3 : Tk.part sAlone (D.drop (5 + a)) with
        | none => dsimp only [Option.bind_some]; rw [Nat.add_zero]; exact last a
        | some y =>
          dsimp only
          cases ha : alone y.1 with
          | false => rfl
          | true => simp only [if_true, Option.bind_some]; rw [show 5 + a + y.2 = 5 + (a + y.2) by omega]; exact last (a + y.2)
      unfold decl2 opt
      rw [List.drop_drop]
      cases h2 : Tk.part sEncoding (D.drop (5 + n)) with
      | none => dsimp only [Option.bind_some]; rw [Nat.add_zero]; exact third n
      | some y =>
        dsimp only
        cases he : encoding y.1 with
        | false => rfl
        | true => simp only [if_true, Option.bind_some]; rw [show 5 + n + y.2 = 5 + (n + y.2) by omega]; exact third (n + y.2)
theorem quoted_fit : ∀ {l v : L} {n : Nat}, Tk.quoted l = some (v, n) → v.length ≤ l.length ∧ n ≤ l.length
  | [], _, _, h => by cases h
  | q :: r, v, n, h => by
    unfold Tk.quoted at h
    dsimp only at h
    by_cases hq : q = 34 ∨ q = 39
    · rw [if_pos hq] at h
      cases ht : Tk.till [q] r with
      | none => rw [ht] at h; cases h
      | some k =>
        rw [ht] at h
        simp only [Option.map_some, Option.some.injEq, Prod.mk.injEq] at h
        have := till_len ht
        simp only [List.length_cons, List.length_nil] at this ⊢
        rw [← h.1, ← h.2, List.length_take]
        omega
    · rw [if_neg hq] at h; cases h
theorem eqv_fit {l v : L} {n : Nat} (h : eqv l = some (v, n)) : v.length ≤ l.length ∧ n ≤ l.length := by
  unfold eqv at h
  have hl := nsp_le l
  have hdl : (l.drop (nsp l)).length = l.length - nsp l := List.length_drop ..
  cases hd : l.drop (nsp l) with
  | nil => rw [hd] at h; cases h
  | cons c r =>
    rw [hd] at h hdl
    rw [List.length_cons] at hdl
    dsimp only at h
    by_cases hc : c = 61
    · rw [if_pos hc] at h
      cases hq : Tk.quoted (r.drop (nsp r)) with
      | none => rw [hq] at h; cases h
      | some x =>
        rw [hq] at h
        obtain ⟨a, b⟩ := x
        simp only [Option.map_some, Option.some.injEq, Prod.mk.injEq] at h
        have := quoted_fit hq
        rw [List.length_drop] at this
        have := nsp_le r
        rw [← h.1, ← h.2]
        omega
    · rw [if_neg hc] at h; cases h
theorem part_fit {q l v : L} {n : Nat} (h : Tk.part q l = some (v, n)) : v.length ≤ l.length ∧ n ≤ l.length := by
  unfold Tk.part at h
  by_cases h0 : nsp l = 0
  · rw [if_pos h0] at h; cases h
  rw [if_neg h0] at h
  by_cases hp : q.isPrefixOf (l.drop (nsp l)) = true
  · rw [if_pos hp] at h
    cases he : eqv (l.drop (nsp l + q.length)) with
    | none => rw [he] at h; cases h
    | some x =>
      rw [he] at h
      obtain ⟨a, b⟩ := x
      simp only [Option.map_some, Option.some.injEq, Prod.mk.injEq] at h
      have h2 := eqv_fit he
      rw [List.length_drop] at h2
      have := (List.isPrefixOf_iff_prefix.1 hp).length_le
      rw [List.length_drop] at this
      have := nsp_le l
      rw [← h.1, ← h.2]
      omega
  · rw [if_neg hp] at h; cases h
theorem part_len {q l v : L} {n : Nat} (h : Tk.part q l = some (v, n)) : n ≤ l.length := (part_fit h).2
theorem part_val {q l v : L} {n : Nat} (h : Tk.part q l = some (v, n)) : v.length ≤ l.length := (part_fit h).1
theorem starts_at (s q : ByteArray) (at_ : Nat) (w : World) (ha : at_ ≤ 2000000000) (hs : s.size ≤ 2000000000) (hq : q.size ≤ 1000) (h0 : q.size ≠ 0) :
    Calls Tryz.prog 53 #[.string s, .int .i64 (at_ : Int), .string q] w fun e w' => e = .returned (.bool (q.data.toList.isPrefixOf (s.data.toList.drop at_))) ∧ w' = w :=
  (starts_any s q at_ w ha hs hq).mono fun _ _ h => ⟨h.1.resolve_left h0, h.2⟩

set_option maxHeartbeats 16000000 in
theorem refDecl_any (s : ByteArray) (w : World) (h5 : 5 ≤ s.size) (hs : s.size ≤ 1000000000) :
    Calls Tryz.prog 99 #[.string s] w fun e w' => e = .returned (.int .i64 (declAt s.data.toList)) ∧ w' = w := by
  have HP := fun (q : ByteArray) (k : Nat) W (h : k ≤ s.size) (h1 : q.size ≤ 1000) (h2 : 0 < q.size) => refPart_any s q k W h hs h1 h2
  have HB0 := fun (k : Nat) W (h : k ≤ s.size) => refBlanks_any s k W h hs
  have HS0 := fun (k : Nat) W (h : k ≤ s.size) => starts_at s (bstr [63, 62]) k W (by omega) (by omega) (by decide) (by decide)
  obtain ⟨D, hD⟩ : ∃ D, s.data.toList = D := ⟨_, rfl⟩
  have hDl : D.length = s.size := by rw [← hD, size_list]
  rw [hD] at HP HB0 HS0 ⊢
  obtain ⟨z, hz⟩ : ∃ z, declAt D = z := ⟨_, rfl⟩
  have Hz := hide hz
  rw [hz]
  unfold declAt at hz
  have H1 := hide (fun W => HP (bstr sVersion) 5 W h5 (by decide) (by decide))
  have H2 := hide (fun (k : Nat) W (h : k ≤ s.size) => HP (bstr sEncoding) k W h (by decide) (by decide))
  have H3 := hide (fun (k : Nat) W (h : k ≤ s.size) => HP (bstr sAlone) k W h (by decide) (by decide))
  have HB := hide HB0
  have HS := hide HS0
  rw [bstr_list] at H1
  have H2' : Hid (∀ (k : Nat) W, k ≤ s.size → Calls Tryz.prog 136 #[.string s, .int .i64 (k : Int), .string (bstr sEncoding)] W fun e w' => e = .returned (qv (Tk.part sEncoding (D.drop k)) k) ∧ w' = W) := H2
  have H3' : Hid (∀ (k : Nat) W, k ≤ s.size → Calls Tryz.prog 136 #[.string s, .int .i64 (k : Int), .string (bstr sAlone)] W fun e w' => e = .returned (qv (Tk.part sAlone (D.drop k)) k) ∧ w' = W) := H3
  have HS' : Hid (∀ (k : Nat) W, k ≤ s.size → Calls Tryz.prog 53 #[.string s, .int .i64 (k : Int), .string (bstr [63, 62])] W fun e w' => e = .returned (.bool ([63, 62].isPrefixOf (D.drop k))) ∧ w' = W) := HS
  clear HP HB0 HS0 H2 H3 HS hD Hz
  cases h1 : Tk.part sVersion (D.drop 5) with
  | none =>
    rw [h1] at hz H1
    have Hr := hide (show (-1 : Int) = z from hz)
    clear hz h1 H2' H3' HS' HB hDl
    go_enter Tryz.func99, Tryz.ntmps99
    go_wp2_with fail
    refine (H1.out _).mono ?_
    rintro e w1 ⟨rfl, hw1⟩
    subst w1
    unfold qv
    go_wp2
    go_ret
    exact ⟨ret_eq1 (int_eq (Hr.out)), rfl⟩
  | some x1 =>
    obtain ⟨v1, n1⟩ := x1
    have hn1 := part_len h1
    rw [List.length_drop] at hn1
    have Hv := hide (fun W => refVersion_any (bstr v1) W (by have := part_val h1; rw [bstr_size]; rw [List.length_drop] at this; omega))
    rw [bstr_list] at Hv
    rw [h1] at hz H1
    dsimp only at hz
    clear h1
    obtain ⟨b1, hb1⟩ : ∃ b1, 5 + n1 = b1 := ⟨_, rfl⟩
    have H1b := hide (show ∀ W, Calls Tryz.prog 136 #[.string s, .int .i64 5, .string (bstr sVersion)] W fun e w' => e = .returned (.tuple #[.string (bstr v1), .int .i64 (b1 : Int), .bool true]) ∧ w' = W from fun W => by have h := H1.out W; unfold qv at h; dsimp only at h; rw [hb1] at h; exact h)
    rw [hb1] at hz
    have hab1 : b1 ≤ s.size := by omega
    clear hb1 hn1 H1
    generalize version v1 = ve at *
    cases ve
    · have Hr := hide (show (-1 : Int) = z from hz.symm ▸ rfl)
      clear hz H2' H3' HS' HB hDl
      go_enter Tryz.func99, Tryz.ntmps99
      go_wp2_with fail
      refine (H1b.out _).mono ?_
      rintro e w1 ⟨rfl, hw1⟩
      subst w1
      go_wp2_with fail
      refine (Hv.out _).mono ?_
      rintro e w1 ⟨rfl, hw1⟩
      subst w1
      go_wp2
      go_ret
      exact ⟨ret_eq1 (int_eq (Hr.out)), rfl⟩
    · have hz : decl2 D b1 = z := hz
      unfold decl2 at hz
      have H2a := hide (fun W => H2'.out b1 W hab1)
      cases h2 : Tk.part sEncoding (D.drop b1) with
      | none =>
        rw [h2] at hz H2a
        dsimp only at hz
        clear h2
        unfold decl3 at hz
        have H3a := hide (fun W => H3'.out b1 W hab1)
        cases h3 : Tk.part sAlone (D.drop b1) with
        | none =>
          rw [h3] at hz H3a
          dsimp only at hz
          clear h3
          have hk0 : b1 + nsp (D.drop b1) ≤ s.size := by have := nsp_le (D.drop b1); rw [List.length_drop] at this; omega
          have HBa := hide (fun W => HB.out b1 W hab1)
          obtain ⟨k, hk⟩ : ∃ k, b1 + nsp (D.drop b1) = k := ⟨_, rfl⟩
          unfold decl4 at hz
          rw [hk] at hz hk0 HBa
          have HSk := hide (fun W => HS'.out k W hk0)
          have hwr : IntKind.i64.wrap ((k : Int) + 2) = (k : Int) + 2 := IntWalk.i64_in _ (by omega)
          cases hp : ([63, 62] : L).isPrefixOf (D.drop k) with
          | false =>
            rw [hp] at hz HSk
            have Hr := hide (show (-1 : Int) = z from by rw [← hz]; simp)
            clear hz hk hp H2' H3' HS' HB hDl hk0
            go_enter Tryz.func99, Tryz.ntmps99
            go_wp2_with fail
            refine (H1b.out _).mono ?_
            rintro e w1 ⟨rfl, hw1⟩
            subst w1
            go_wp2_with fail
            refine (Hv.out _).mono ?_
            rintro e w1 ⟨rfl, hw1⟩
            subst w1
            go_wp2_with fail
            refine (H2a.out _).mono ?_
            rintro e w1 ⟨rfl, hw1⟩
            subst w1
            unfold qv
            go_wp2_with fail
            refine (H3a.out _).mono ?_
            rintro e w1 ⟨rfl, hw1⟩
            subst w1
            unfold qv
            go_wp2_with fail
            refine (HBa.out _).mono ?_
            rintro e w1 ⟨rfl, hw1⟩
            subst w1
            go_wp2_with fail
            refine (HSk.out _).mono ?_
            rintro e w1 ⟨rfl, hw1⟩
            subst w1
            go_wp2
            go_ret
            exact ⟨ret_eq1 (int_eq (Hr.out)), rfl⟩
          | true =>
            rw [hp] at hz HSk
            have Hr := hide (show (k : Int) + 2 = z from by rw [← hz]; simp)
            clear hz hk hp H2' H3' HS' HB hDl hk0
            go_enter Tryz.func99, Tryz.ntmps99
            go_wp2_with fail
            refine (H1b.out _).mono ?_
            rintro e w1 ⟨rfl, hw1⟩
            subst w1
            go_wp2_with fail
            refine (Hv.out _).mono ?_
            rintro e w1 ⟨rfl, hw1⟩
            subst w1
            go_wp2_with fail
            refine (H2a.out _).mono ?_
            rintro e w1 ⟨rfl, hw1⟩
            subst w1
            unfold qv
            go_wp2_with fail
            refine (H3a.out _).mono ?_
            rintro e w1 ⟨rfl, hw1⟩
            subst w1
            unfold qv
            go_wp2_with fail
            refine (HBa.out _).mono ?_
            rintro e w1 ⟨rfl, hw1⟩
            subst w1
            go_wp2_with fail
            refine (HSk.out _).mono ?_
            rintro e w1 ⟨rfl, hw1⟩
            subst w1
            go_wp2
            go_ret
            exact ⟨ret_eq1 (int_eq (Hr.out)), rfl⟩
        | some x3 =>
          obtain ⟨v3, n3⟩ := x3
          have hn3 := part_len h3
          rw [List.length_drop] at hn3
          rw [h3] at hz H3a
          dsimp only at hz
          clear h3
          obtain ⟨b3, hb3⟩ : ∃ b3, b1 + n3 = b3 := ⟨_, rfl⟩
          have H3b := hide (show ∀ W, Calls Tryz.prog 136 #[.string s, .int .i64 (b1 : Int), .string (bstr sAlone)] W fun e w' => e = .returned (.tuple #[.string (bstr v3), .int .i64 (b3 : Int), .bool true]) ∧ w' = W from fun W => by have h := H3a.out W; unfold qv at h; dsimp only at h; rw [hb3] at h; exact h)
          rw [hb3] at hz
          have hab3 : b3 ≤ s.size := by omega
          clear hb3 hn3 H3a
          have hy : ((bstr v3).toList == [121, 101, 115]) = decide (v3 = [121, 101, 115]) := by rw [ByteArray.toList_eq, bstr_list, Bool.eq_iff_iff, beq_iff_eq, decide_eq_true_iff]
          have hn : ((bstr v3).toList == [110, 111]) = decide (v3 = [110, 111]) := by rw [ByteArray.toList_eq, bstr_list, Bool.eq_iff_iff, beq_iff_eq, decide_eq_true_iff]
          have hal : alone v3 = (decide (v3 = [121, 101, 115]) || decide (v3 = [110, 111])) := rfl
          rw [hal] at hz
          clear hal
          generalize decide (v3 = [121, 101, 115]) = by_ at *
          generalize decide (v3 = [110, 111]) = bn_ at *
          cases by_
          · cases bn_
            · have Hr := hide (show (-1 : Int) = z from hz.symm ▸ rfl)
              clear hz H2' H3' HS' HB hDl
              go_enter Tryz.func99, Tryz.ntmps99
              go_wp2_with fail
              refine (H1b.out _).mono ?_
              rintro e w1 ⟨rfl, hw1⟩
              subst w1
              go_wp2_with fail
              refine (Hv.out _).mono ?_
              rintro e w1 ⟨rfl, hw1⟩
              subst w1
              go_wp2_with fail
              refine (H2a.out _).mono ?_
              rintro e w1 ⟨rfl, hw1⟩
              subst w1
              unfold qv
              go_wp2_with fail
              refine (H3b.out _).mono ?_
              rintro e w1 ⟨rfl, hw1⟩
              subst w1
              go_wp2
              go_ret
              exact ⟨ret_eq1 (int_eq (Hr.out)), rfl⟩
            · have hz : decl4 D b3 = z := hz
              have hk0 : b3 + nsp (D.drop b3) ≤ s.size := by have := nsp_le (D.drop b3); rw [List.length_drop] at this; omega
              have HBa := hide (fun W => HB.out b3 W hab3)
              obtain ⟨k, hk⟩ : ∃ k, b3 + nsp (D.drop b3) = k := ⟨_, rfl⟩
              unfold decl4 at hz
              rw [hk] at hz hk0 HBa
              have HSk := hide (fun W => HS'.out k W hk0)
              have hwr : IntKind.i64.wrap ((k : Int) + 2) = (k : Int) + 2 := IntWalk.i64_in _ (by omega)
              cases hp : ([63, 62] : L).isPrefixOf (D.drop k) with
              | false =>
                rw [hp] at hz HSk
                have Hr := hide (show (-1 : Int) = z from by rw [← hz]; simp)
                clear hz hk hp H2' H3' HS' HB hDl hk0
                go_enter Tryz.func99, Tryz.ntmps99
                go_wp2_with fail
                refine (H1b.out _).mono ?_
                rintro e w1 ⟨rfl, hw1⟩
                subst w1
                go_wp2_with fail
                refine (Hv.out _).mono ?_
                rintro e w1 ⟨rfl, hw1⟩
                subst w1
                go_wp2_with fail
                refine (H2a.out _).mono ?_
                rintro e w1 ⟨rfl, hw1⟩
                subst w1
                unfold qv
                go_wp2_with fail
                refine (H3b.out _).mono ?_
                rintro e w1 ⟨rfl, hw1⟩
                subst w1
                go_wp2_with fail
                refine (HBa.out _).mono ?_
                rintro e w1 ⟨rfl, hw1⟩
                subst w1
                go_wp2_with fail
                refine (HSk.out _).mono ?_
                rintro e w1 ⟨rfl, hw1⟩
                subst w1
                go_wp2
                go_ret
                exact ⟨ret_eq1 (int_eq (Hr.out)), rfl⟩
              | true =>
                rw [hp] at hz HSk
                have Hr := hide (show (k : Int) + 2 = z from by rw [← hz]; simp)
                clear hz hk hp H2' H3' HS' HB hDl hk0
                go_enter Tryz.func99, Tryz.ntmps99
                go_wp2_with fail
                refine (H1b.out _).mono ?_
                rintro e w1 ⟨rfl, hw1⟩
                subst w1
                go_wp2_with fail
                refine (Hv.out _).mono ?_
                rintro e w1 ⟨rfl, hw1⟩
                subst w1
                go_wp2_with fail
                refine (H2a.out _).mono ?_
                rintro e w1 ⟨rfl, hw1⟩
                subst w1
                unfold qv
                go_wp2_with fail
                refine (H3b.out _).mono ?_
                rintro e w1 ⟨rfl, hw1⟩
                subst w1
                go_wp2_with fail
                refine (HBa.out _).mono ?_
                rintro e w1 ⟨rfl, hw1⟩
                subst w1
                go_wp2_with fail
                refine (HSk.out _).mono ?_
                rintro e w1 ⟨rfl, hw1⟩
                subst w1
                go_wp2
                go_ret
                exact ⟨ret_eq1 (int_eq (Hr.out)), rfl⟩
          · have hz : decl4 D b3 = z := hz
            have hk0 : b3 + nsp (D.drop b3) ≤ s.size := by have := nsp_le (D.drop b3); rw [List.length_drop] at this; omega
            have HBa := hide (fun W => HB.out b3 W hab3)
            obtain ⟨k, hk⟩ : ∃ k, b3 + nsp (D.drop b3) = k := ⟨_, rfl⟩
            unfold decl4 at hz
            rw [hk] at hz hk0 HBa
            have HSk := hide (fun W => HS'.out k W hk0)
            have hwr : IntKind.i64.wrap ((k : Int) + 2) = (k : Int) + 2 := IntWalk.i64_in _ (by omega)
            cases hp : ([63, 62] : L).isPrefixOf (D.drop k) with
            | false =>
              rw [hp] at hz HSk
              have Hr := hide (show (-1 : Int) = z from by rw [← hz]; simp)
              clear hz hk hp H2' H3' HS' HB hDl hk0
              go_enter Tryz.func99, Tryz.ntmps99
              go_wp2_with fail
              refine (H1b.out _).mono ?_
              rintro e w1 ⟨rfl, hw1⟩
              subst w1
              go_wp2_with fail
              refine (Hv.out _).mono ?_
              rintro e w1 ⟨rfl, hw1⟩
              subst w1
              go_wp2_with fail
              refine (H2a.out _).mono ?_
              rintro e w1 ⟨rfl, hw1⟩
              subst w1
              unfold qv
              go_wp2_with fail
              refine (H3b.out _).mono ?_
              rintro e w1 ⟨rfl, hw1⟩
              subst w1
              go_wp2_with fail
              refine (HBa.out _).mono ?_
              rintro e w1 ⟨rfl, hw1⟩
              subst w1
              go_wp2_with fail
              refine (HSk.out _).mono ?_
              rintro e w1 ⟨rfl, hw1⟩
              subst w1
              go_wp2
              go_ret
              exact ⟨ret_eq1 (int_eq (Hr.out)), rfl⟩
            | true =>
              rw [hp] at hz HSk
              have Hr := hide (show (k : Int) + 2 = z from by rw [← hz]; simp)
              clear hz hk hp H2' H3' HS' HB hDl hk0
              go_enter Tryz.func99, Tryz.ntmps99
              go_wp2_with fail
              refine (H1b.out _).mono ?_
              rintro e w1 ⟨rfl, hw1⟩
              subst w1
              go_wp2_with fail
              refine (Hv.out _).mono ?_
              rintro e w1 ⟨rfl, hw1⟩
              subst w1
              go_wp2_with fail
              refine (H2a.out _).mono ?_
              rintro e w1 ⟨rfl, hw1⟩
              subst w1
              unfold qv
              go_wp2_with fail
              refine (H3b.out _).mono ?_
              rintro e w1 ⟨rfl, hw1⟩
              subst w1
              go_wp2_with fail
              refine (HBa.out _).mono ?_
              rintro e w1 ⟨rfl, hw1⟩
              subst w1
              go_wp2_with fail
              refine (HSk.out _).mono ?_
              rintro e w1 ⟨rfl, hw1⟩
              subst w1
              go_wp2
              go_ret
              exact ⟨ret_eq1 (int_eq (Hr.out)), rfl⟩
      | some x2 =>
        obtain ⟨v2, n2⟩ := x2
        have hn2 := part_len h2
        rw [List.length_drop] at hn2
        have He := hide (fun W => refEncoding_any (bstr v2) W (by have := part_val h2; rw [bstr_size]; rw [List.length_drop] at this; omega))
        rw [bstr_list] at He
        rw [h2] at hz H2a
        dsimp only at hz
        clear h2
        obtain ⟨b2, hb2⟩ : ∃ b2, b1 + n2 = b2 := ⟨_, rfl⟩
        have H2b := hide (show ∀ W, Calls Tryz.prog 136 #[.string s, .int .i64 (b1 : Int), .string (bstr sEncoding)] W fun e w' => e = .returned (.tuple #[.string (bstr v2), .int .i64 (b2 : Int), .bool true]) ∧ w' = W from fun W => by have h := H2a.out W; unfold qv at h; dsimp only at h; rw [hb2] at h; exact h)
        rw [hb2] at hz
        have hab2 : b2 ≤ s.size := by omega
        clear hb2 hn2 H2a
        generalize encoding v2 = en at *
        cases en
        · have Hr := hide (show (-1 : Int) = z from hz.symm ▸ rfl)
          clear hz H2' H3' HS' HB hDl
          go_enter Tryz.func99, Tryz.ntmps99
          go_wp2_with fail
          refine (H1b.out _).mono ?_
          rintro e w1 ⟨rfl, hw1⟩
          subst w1
          go_wp2_with fail
          refine (Hv.out _).mono ?_
          rintro e w1 ⟨rfl, hw1⟩
          subst w1
          go_wp2_with fail
          refine (H2b.out _).mono ?_
          rintro e w1 ⟨rfl, hw1⟩
          subst w1
          go_wp2_with fail
          refine (He.out _).mono ?_
          rintro e w1 ⟨rfl, hw1⟩
          subst w1
          go_wp2
          go_ret
          exact ⟨ret_eq1 (int_eq (Hr.out)), rfl⟩
        · have hz : decl3 D b2 = z := hz
          unfold decl3 at hz
          have H3a := hide (fun W => H3'.out b2 W hab2)
          cases h3 : Tk.part sAlone (D.drop b2) with
          | none =>
            rw [h3] at hz H3a
            dsimp only at hz
            clear h3
            have hk0 : b2 + nsp (D.drop b2) ≤ s.size := by have := nsp_le (D.drop b2); rw [List.length_drop] at this; omega
            have HBa := hide (fun W => HB.out b2 W hab2)
            obtain ⟨k, hk⟩ : ∃ k, b2 + nsp (D.drop b2) = k := ⟨_, rfl⟩
            unfold decl4 at hz
            rw [hk] at hz hk0 HBa
            have HSk := hide (fun W => HS'.out k W hk0)
            have hwr : IntKind.i64.wrap ((k : Int) + 2) = (k : Int) + 2 := IntWalk.i64_in _ (by omega)
            cases hp : ([63, 62] : L).isPrefixOf (D.drop k) with
            | false =>
              rw [hp] at hz HSk
              have Hr := hide (show (-1 : Int) = z from by rw [← hz]; simp)
              clear hz hk hp H2' H3' HS' HB hDl hk0
              go_enter Tryz.func99, Tryz.ntmps99
              go_wp2_with fail
              refine (H1b.out _).mono ?_
              rintro e w1 ⟨rfl, hw1⟩
              subst w1
              go_wp2_with fail
              refine (Hv.out _).mono ?_
              rintro e w1 ⟨rfl, hw1⟩
              subst w1
              go_wp2_with fail
              refine (H2b.out _).mono ?_
              rintro e w1 ⟨rfl, hw1⟩
              subst w1
              go_wp2_with fail
              refine (He.out _).mono ?_
              rintro e w1 ⟨rfl, hw1⟩
              subst w1
              go_wp2_with fail
              refine (H3a.out _).mono ?_
              rintro e w1 ⟨rfl, hw1⟩
              subst w1
              unfold qv
              go_wp2_with fail
              refine (HBa.out _).mono ?_
              rintro e w1 ⟨rfl, hw1⟩
              subst w1
              go_wp2_with fail
              refine (HSk.out _).mono ?_
              rintro e w1 ⟨rfl, hw1⟩
              subst w1
              go_wp2
              go_ret
              exact ⟨ret_eq1 (int_eq (Hr.out)), rfl⟩
            | true =>
              rw [hp] at hz HSk
              have Hr := hide (show (k : Int) + 2 = z from by rw [← hz]; simp)
              clear hz hk hp H2' H3' HS' HB hDl hk0
              go_enter Tryz.func99, Tryz.ntmps99
              go_wp2_with fail
              refine (H1b.out _).mono ?_
              rintro e w1 ⟨rfl, hw1⟩
              subst w1
              go_wp2_with fail
              refine (Hv.out _).mono ?_
              rintro e w1 ⟨rfl, hw1⟩
              subst w1
              go_wp2_with fail
              refine (H2b.out _).mono ?_
              rintro e w1 ⟨rfl, hw1⟩
              subst w1
              go_wp2_with fail
              refine (He.out _).mono ?_
              rintro e w1 ⟨rfl, hw1⟩
              subst w1
              go_wp2_with fail
              refine (H3a.out _).mono ?_
              rintro e w1 ⟨rfl, hw1⟩
              subst w1
              unfold qv
              go_wp2_with fail
              refine (HBa.out _).mono ?_
              rintro e w1 ⟨rfl, hw1⟩
              subst w1
              go_wp2_with fail
              refine (HSk.out _).mono ?_
              rintro e w1 ⟨rfl, hw1⟩
              subst w1
              go_wp2
              go_ret
              exact ⟨ret_eq1 (int_eq (Hr.out)), rfl⟩
          | some x3 =>
            obtain ⟨v3, n3⟩ := x3
            have hn3 := part_len h3
            rw [List.length_drop] at hn3
            rw [h3] at hz H3a
            dsimp only at hz
            clear h3
            obtain ⟨b3, hb3⟩ : ∃ b3, b2 + n3 = b3 := ⟨_, rfl⟩
            have H3b := hide (show ∀ W, Calls Tryz.prog 136 #[.string s, .int .i64 (b2 : Int), .string (bstr sAlone)] W fun e w' => e = .returned (.tuple #[.string (bstr v3), .int .i64 (b3 : Int), .bool true]) ∧ w' = W from fun W => by have h := H3a.out W; unfold qv at h; dsimp only at h; rw [hb3] at h; exact h)
            rw [hb3] at hz
            have hab3 : b3 ≤ s.size := by omega
            clear hb3 hn3 H3a
            have hy : ((bstr v3).toList == [121, 101, 115]) = decide (v3 = [121, 101, 115]) := by rw [ByteArray.toList_eq, bstr_list, Bool.eq_iff_iff, beq_iff_eq, decide_eq_true_iff]
            have hn : ((bstr v3).toList == [110, 111]) = decide (v3 = [110, 111]) := by rw [ByteArray.toList_eq, bstr_list, Bool.eq_iff_iff, beq_iff_eq, decide_eq_true_iff]
            have hal : alone v3 = (decide (v3 = [121, 101, 115]) || decide (v3 = [110, 111])) := rfl
            rw [hal] at hz
            clear hal
            generalize decide (v3 = [121, 101, 115]) = by_ at *
            generalize decide (v3 = [110, 111]) = bn_ at *
            cases by_
            · cases bn_
              · have Hr := hide (show (-1 : Int) = z from hz.symm ▸ rfl)
                clear hz H2' H3' HS' HB hDl
                go_enter Tryz.func99, Tryz.ntmps99
                go_wp2_with fail
                refine (H1b.out _).mono ?_
                rintro e w1 ⟨rfl, hw1⟩
                subst w1
                go_wp2_with fail
                refine (Hv.out _).mono ?_
                rintro e w1 ⟨rfl, hw1⟩
                subst w1
                go_wp2_with fail
                refine (H2b.out _).mono ?_
                rintro e w1 ⟨rfl, hw1⟩
                subst w1
                go_wp2_with fail
                refine (He.out _).mono ?_
                rintro e w1 ⟨rfl, hw1⟩
                subst w1
                go_wp2_with fail
                refine (H3b.out _).mono ?_
                rintro e w1 ⟨rfl, hw1⟩
                subst w1
                go_wp2
                go_ret
                exact ⟨ret_eq1 (int_eq (Hr.out)), rfl⟩
              · have hz : decl4 D b3 = z := hz
                have hk0 : b3 + nsp (D.drop b3) ≤ s.size := by have := nsp_le (D.drop b3); rw [List.length_drop] at this; omega
                have HBa := hide (fun W => HB.out b3 W hab3)
                obtain ⟨k, hk⟩ : ∃ k, b3 + nsp (D.drop b3) = k := ⟨_, rfl⟩
                unfold decl4 at hz
                rw [hk] at hz hk0 HBa
                have HSk := hide (fun W => HS'.out k W hk0)
                have hwr : IntKind.i64.wrap ((k : Int) + 2) = (k : Int) + 2 := IntWalk.i64_in _ (by omega)
                cases hp : ([63, 62] : L).isPrefixOf (D.drop k) with
                | false =>
                  rw [hp] at hz HSk
                  have Hr := hide (show (-1 : Int) = z from by rw [← hz]; simp)
                  clear hz hk hp H2' H3' HS' HB hDl hk0
                  go_enter Tryz.func99, Tryz.ntmps99
                  go_wp2_with fail
                  refine (H1b.out _).mono ?_
                  rintro e w1 ⟨rfl, hw1⟩
                  subst w1
                  go_wp2_with fail
                  refine (Hv.out _).mono ?_
                  rintro e w1 ⟨rfl, hw1⟩
                  subst w1
                  go_wp2_with fail
                  refine (H2b.out _).mono ?_
                  rintro e w1 ⟨rfl, hw1⟩
                  subst w1
                  go_wp2_with fail
                  refine (He.out _).mono ?_
                  rintro e w1 ⟨rfl, hw1⟩
                  subst w1
                  go_wp2_with fail
                  refine (H3b.out _).mono ?_
                  rintro e w1 ⟨rfl, hw1⟩
                  subst w1
                  go_wp2_with fail
                  refine (HBa.out _).mono ?_
                  rintro e w1 ⟨rfl, hw1⟩
                  subst w1
                  go_wp2_with fail
                  refine (HSk.out _).mono ?_
                  rintro e w1 ⟨rfl, hw1⟩
                  subst w1
                  go_wp2
                  go_ret
                  exact ⟨ret_eq1 (int_eq (Hr.out)), rfl⟩
                | true =>
                  rw [hp] at hz HSk
                  have Hr := hide (show (k : Int) + 2 = z from by rw [← hz]; simp)
                  clear hz hk hp H2' H3' HS' HB hDl hk0
                  go_enter Tryz.func99, Tryz.ntmps99
                  go_wp2_with fail
                  refine (H1b.out _).mono ?_
                  rintro e w1 ⟨rfl, hw1⟩
                  subst w1
                  go_wp2_with fail
                  refine (Hv.out _).mono ?_
                  rintro e w1 ⟨rfl, hw1⟩
                  subst w1
                  go_wp2_with fail
                  refine (H2b.out _).mono ?_
                  rintro e w1 ⟨rfl, hw1⟩
                  subst w1
                  go_wp2_with fail
                  refine (He.out _).mono ?_
                  rintro e w1 ⟨rfl, hw1⟩
                  subst w1
                  go_wp2_with fail
                  refine (H3b.out _).mono ?_
                  rintro e w1 ⟨rfl, hw1⟩
                  subst w1
                  go_wp2_with fail
                  refine (HBa.out _).mono ?_
                  rintro e w1 ⟨rfl, hw1⟩
                  subst w1
                  go_wp2_with fail
                  refine (HSk.out _).mono ?_
                  rintro e w1 ⟨rfl, hw1⟩
                  subst w1
                  go_wp2
                  go_ret
                  exact ⟨ret_eq1 (int_eq (Hr.out)), rfl⟩
            · have hz : decl4 D b3 = z := hz
              have hk0 : b3 + nsp (D.drop b3) ≤ s.size := by have := nsp_le (D.drop b3); rw [List.length_drop] at this; omega
              have HBa := hide (fun W => HB.out b3 W hab3)
              obtain ⟨k, hk⟩ : ∃ k, b3 + nsp (D.drop b3) = k := ⟨_, rfl⟩
              unfold decl4 at hz
              rw [hk] at hz hk0 HBa
              have HSk := hide (fun W => HS'.out k W hk0)
              have hwr : IntKind.i64.wrap ((k : Int) + 2) = (k : Int) + 2 := IntWalk.i64_in _ (by omega)
              cases hp : ([63, 62] : L).isPrefixOf (D.drop k) with
              | false =>
                rw [hp] at hz HSk
                have Hr := hide (show (-1 : Int) = z from by rw [← hz]; simp)
                clear hz hk hp H2' H3' HS' HB hDl hk0
                go_enter Tryz.func99, Tryz.ntmps99
                go_wp2_with fail
                refine (H1b.out _).mono ?_
                rintro e w1 ⟨rfl, hw1⟩
                subst w1
                go_wp2_with fail
                refine (Hv.out _).mono ?_
                rintro e w1 ⟨rfl, hw1⟩
                subst w1
                go_wp2_with fail
                refine (H2b.out _).mono ?_
                rintro e w1 ⟨rfl, hw1⟩
                subst w1
                go_wp2_with fail
                refine (He.out _).mono ?_
                rintro e w1 ⟨rfl, hw1⟩
                subst w1
                go_wp2_with fail
                refine (H3b.out _).mono ?_
                rintro e w1 ⟨rfl, hw1⟩
                subst w1
                go_wp2_with fail
                refine (HBa.out _).mono ?_
                rintro e w1 ⟨rfl, hw1⟩
                subst w1
                go_wp2_with fail
                refine (HSk.out _).mono ?_
                rintro e w1 ⟨rfl, hw1⟩
                subst w1
                go_wp2
                go_ret
                exact ⟨ret_eq1 (int_eq (Hr.out)), rfl⟩
              | true =>
                rw [hp] at hz HSk
                have Hr := hide (show (k : Int) + 2 = z from by rw [← hz]; simp)
                clear hz hk hp H2' H3' HS' HB hDl hk0
                go_enter Tryz.func99, Tryz.ntmps99
                go_wp2_with fail
                refine (H1b.out _).mono ?_
                rintro e w1 ⟨rfl, hw1⟩
                subst w1
                go_wp2_with fail
                refine (Hv.out _).mono ?_
                rintro e w1 ⟨rfl, hw1⟩
                subst w1
                go_wp2_with fail
                refine (H2b.out _).mono ?_
                rintro e w1 ⟨rfl, hw1⟩
                subst w1
                go_wp2_with fail
                refine (He.out _).mono ?_
                rintro e w1 ⟨rfl, hw1⟩
                subst w1
                go_wp2_with fail
                refine (H3b.out _).mono ?_
                rintro e w1 ⟨rfl, hw1⟩
                subst w1
                go_wp2_with fail
                refine (HBa.out _).mono ?_
                rintro e w1 ⟨rfl, hw1⟩
                subst w1
                go_wp2_with fail
                refine (HSk.out _).mono ?_
                rintro e w1 ⟨rfl, hw1⟩
                subst w1
                go_wp2
                go_ret
                exact ⟨ret_eq1 (int_eq (Hr.out)), rfl⟩
end Go.Proofs.YtbnaphbmmkmaeaaGreatDoor
namespace Go.Proofs.YtbnaphbmmkmaeaaGreatDoor
open Go.RowKit

set_option maxHeartbeats 400000 in
theorem is_any (r : Int) (w : World) : Calls Tryz.prog 143 #[.int .i64 r] w fun e w' => e = .returned (.bool (Utf.isScalar r)) ∧ w = w' := by
  by_cases h0 : 0 ≤ r
  · by_cases h1 : r ≤ 1114111
    · by_cases h2 : r < 55296
      all_goals
        go_enter Tryz.func143, Tryz.ntmps143
        go_wp2
        go_ret
        exact ⟨ret_eq1 (bool_eq (by rw [Bool.eq_iff_iff]; simp [Utf.isScalar]; omega)), rfl⟩
    · go_enter Tryz.func143, Tryz.ntmps143
      go_wp2
      go_ret
      exact ⟨ret_eq1 (bool_eq (by rw [Bool.eq_iff_iff]; simp [Utf.isScalar]; omega)), rfl⟩
  · go_enter Tryz.func143, Tryz.ntmps143
    go_wp2
    go_ret
    exact ⟨ret_eq1 (bool_eq (by rw [Bool.eq_iff_iff]; simp [Utf.isScalar]; omega)), rfl⟩

def lenOf (r : Int) : Int := if r < 128 then 1 else if r < 2048 then 2 else if r < 65536 then 3 else 4

set_option maxHeartbeats 400000 in
theorem len_no (r : Int) (w : World) (h : Utf.isScalar r = false) : Calls Tryz.prog 110 #[.int .i64 r] w fun e w' => e = .returned (.int .i64 0) ∧ w = w' := by
  have H := hide h
  clear h
  go_enter Tryz.func110, Tryz.ntmps110
  go_wp2_with (go_at_call 143; refine (is_any _ _).mono ?_; rintro e w' ⟨rfl, rfl⟩; rw [H.out])
  go_ret
  exact ⟨rfl, rfl⟩

set_option maxHeartbeats 1000000 in
theorem len_yes (r : Int) (w : World) (h : Utf.isScalar r = true) : Calls Tryz.prog 110 #[.int .i64 r] w fun e w' => e = .returned (.int .i64 (lenOf r)) ∧ Below w.heap.size w w' := by
  have h1 : 0 ≤ r ∧ r ≤ 1114111 := by simp [Utf.isScalar] at h; omega
  obtain ⟨h1, h2⟩ := h1
  have H := hide h
  clear h
  have i0 : ∀ w, (Instr.index 177 (.agg #[.int .i64 128, .int .i64 2048, .int .i64 65536, .int .i64 1114112]) (.int .i64 0)).run Tryz.prog w = .ok (.int .i64 128) w := fun _ => by kernel_rfl
  have i1 : ∀ w, (Instr.index 177 (.agg #[.int .i64 128, .int .i64 2048, .int .i64 65536, .int .i64 1114112]) (.int .i64 1)).run Tryz.prog w = .ok (.int .i64 2048) w := fun _ => by kernel_rfl
  have i2 : ∀ w, (Instr.index 177 (.agg #[.int .i64 128, .int .i64 2048, .int .i64 65536, .int .i64 1114112]) (.int .i64 2)).run Tryz.prog w = .ok (.int .i64 65536) w := fun _ => by kernel_rfl
  have i3 : ∀ w, (Instr.index 177 (.agg #[.int .i64 128, .int .i64 2048, .int .i64 65536, .int .i64 1114112]) (.int .i64 3)).run Tryz.prog w = .ok (.int .i64 1114112) w := fun _ => by kernel_rfl
  go_enter Tryz.func110, Tryz.ntmps110
  go_wp2_with (go_at_call 143; refine (is_any _ _).mono ?_; rintro e w' ⟨rfl, rfl⟩; rw [H.out])
  refine wp_loop_rounds 4 ?_
  rw [rounds_succ]
  go_wp2
  · go_ret
    exact ⟨ret_eq1 (int_eq (by unfold lenOf; rw [if_pos (by omega)])), (Below.refl _ _).alloc (Nat.le_refl _) _⟩
  rw [rounds_succ]
  go_wp2
  · go_ret
    exact ⟨ret_eq1 (int_eq (by unfold lenOf; rw [if_neg (by omega), if_pos (by omega)])), (Below.refl _ _).alloc (Nat.le_refl _) _⟩
  rw [rounds_succ]
  go_wp2
  · go_ret
    exact ⟨ret_eq1 (int_eq (by unfold lenOf; rw [if_neg (by omega), if_neg (by omega), if_pos (by omega)])), (Below.refl _ _).alloc (Nat.le_refl _) _⟩
  rw [rounds_succ]
  go_wp2
  go_ret
  exact ⟨ret_eq1 (int_eq (by unfold lenOf; rw [if_neg (by omega), if_neg (by omega), if_neg (by omega)])), (Below.refl _ _).alloc (Nat.le_refl _) _⟩

set_option maxHeartbeats 400000 in
theorem put_no (r : Int) (w : World) (h : Utf.isScalar r = false) : Calls Tryz.prog 64 #[.int .i64 r] w fun e w' => e = .returned (.tuple #[.string ⟨#[]⟩, .bool false]) ∧ w = w' := by
  go_enter Tryz.func64, Tryz.ntmps64
  have H := hide h
  clear h
  go_wp2_with (go_at_call 110; refine (len_no _ _ H.out).mono ?_; rintro e w' ⟨rfl, rfl⟩)
  go_ret2
  exact ⟨rfl, rfl⟩

set_option maxHeartbeats 1000000 in
theorem put_one (r : Int) (w : World) (h0 : 0 ≤ r) (h1 : r < 128) : Calls Tryz.prog 64 #[.int .i64 r] w fun e w' => (∃ t : ByteArray, e = .returned (.tuple #[.string t, .bool true]) ∧ StrIs t ((Utf.put r).map bv)) ∧ Below w.heap.size w w' := by
  have H : Hid (Utf.isScalar r = true) := by show Utf.isScalar r = true; simp [Utf.isScalar]; omega
  have L : Hid (lenOf r = 1) := by show lenOf r = 1; unfold lenOf; rw [if_pos h1]
  go_enter Tryz.func64, Tryz.ntmps64
  go_wp2_with (first
    | (go_at_call 110; refine (len_yes _ _ H.out).mono ?_; rintro e w1 ⟨rfl, hb⟩; rw [L.out])
    | (with_reducible show wpList _ _ _ (⟨_, .convert 64 9 _, _, _, _, _⟩ :: _) _ _; refine wpList_to_string rfl 64 9 5 _ rfl Tryz.underlying64 Tryz.underlying5 Tryz.underlying9 w1.heap.size _ 1 rfl [bv r] (own_byte_lit w1 _ r h0 (by omega)) ?_; intro t ht))
  go_ret2
  exact ⟨⟨t, rfl, by unfold Utf.put; rw [if_pos h1]; exact ht⟩, hb.alloc hb.size _⟩

theorem u8_or_of (x y : Int) (k : Nat) (h0 : 0 ≤ x) (hy : 0 ≤ y) (hk : y < 2 ^ k) (hx : x * 2 ^ k + y < 256) (z : Int) (hz : z = x * 2 ^ k) : bits .or .u8 z y = z + y := by
  subst hz; exact u8_or_add x y k h0 hy hk hx

set_option maxHeartbeats 2000000 in
theorem put_many (r : Int) (w : World) (h0 : 128 ≤ r) (h1 : Utf.isScalar r = true) : Calls Tryz.prog 64 #[.int .i64 r] w fun e w' => (∃ t : ByteArray, e = .returned (.tuple #[.string t, .bool true]) ∧ StrIs t ((Utf.put r).map bv)) ∧ Below w.heap.size w w' := by
  have h2 : r ≤ 1114111 := by simp [Utf.isScalar] at h1; omega
  have H := hide h1
  clear h1
  go_enter Tryz.func64, Tryz.ntmps64
  by_cases ha : r < 2048
  · have L : Hid (lenOf r = 2) := by show lenOf r = 2; unfold lenOf; rw [if_neg (by omega), if_pos ha]
    have hmk : ∀ w, (Instr.makeSlice 64 (.int .i64 2) (.int .i64 2)).run Tryz.prog w = .ok (.slice (some ⟨w.heap.size, 0, none⟩) 2 2) (w.alloc (.cells #[.int .u8 0, .int .u8 0] 5)) := fun _ => by kernel_rfl
    have hor : bits .or .u8 192 (r / 64 % 256) = 192 + r / 64 := by rw [show r / 64 % 256 = r / 64 from by omega]; exact u8_or_of 6 _ 5 (by omega) (by omega) (by omega) (by omega) _ rfl
    go_wp2_with (first
      | (go_at_call 110; refine (len_yes _ _ H.out).mono ?_; rintro e w1 ⟨rfl, hb⟩; rw [L.out]))
    refine wp_loop_rounds 2 ?_
    rw [rounds_succ]
    go_wp2
    rw [rounds_succ]
    go_wp2_with (with_reducible show wpList _ _ _ (⟨_, .convert 64 9 _, _, _, _, _⟩ :: _) _ _; refine wpList_to_string rfl 64 9 5 _ rfl Tryz.underlying64 Tryz.underlying5 Tryz.underlying9 (w1.heap.size + 1) _ 2 rfl _ (own_bytes2 (w1.alloc _) _ _ _ (by simp) (Nat.le_refl _) (192 + r / 64) (128 + r % 64) (by omega) (by omega)) ?_; intro t ht)
    go_ret2
    exact ⟨⟨t, rfl, by unfold Utf.put; rw [if_neg (show ¬ r < 128 by omega), if_pos (show r < 2048 by omega)]; exact ht⟩, (hb.alloc hb.size _).alloc (by have := hb.size; simp; omega) _⟩
  by_cases h65 : r < 65536
  · have L : Hid (lenOf r = 3) := by show lenOf r = 3; unfold lenOf; rw [if_neg (by omega), if_neg ha, if_pos h65]
    have hmk : ∀ w, (Instr.makeSlice 64 (.int .i64 3) (.int .i64 3)).run Tryz.prog w = .ok (.slice (some ⟨w.heap.size, 0, none⟩) 3 3) (w.alloc (.cells #[.int .u8 0, .int .u8 0, .int .u8 0] 5)) := fun _ => by kernel_rfl
    go_wp2_with (first
      | (go_at_call 110; refine (len_yes _ _ H.out).mono ?_; rintro e w1 ⟨rfl, hb⟩; rw [L.out]))
    refine wp_loop_rounds 3 ?_
    rw [rounds_succ]
    go_wp2
    rw [rounds_succ]
    go_wp2
    rw [rounds_succ]
    go_wp2_with (with_reducible show wpList _ _ _ (⟨_, .convert 64 9 _, _, _, _, _⟩ :: _) _ _; refine wpList_to_string rfl 64 9 5 _ rfl Tryz.underlying64 Tryz.underlying5 Tryz.underlying9 (w1.heap.size + 1) _ 3 rfl _ (own_bytes3 (w1.alloc _) _ _ _ (by simp) (Nat.le_refl _) (224 + r / 64 / 64) (128 + r / 64 % 64) (128 + r % 64) (by omega) (by omega) (by omega)) ?_; intro t ht)
    go_ret2
    exact ⟨⟨t, rfl, by unfold Utf.put; rw [if_neg (show ¬ r < 128 by omega), if_neg (show ¬ r < 2048 by omega), if_pos (show r < 65536 by omega)]; exact ht⟩, (hb.alloc hb.size _).alloc (by have := hb.size; simp; omega) _⟩
  · have L : Hid (lenOf r = 4) := by show lenOf r = 4; unfold lenOf; rw [if_neg (by omega), if_neg ha, if_neg h65]
    have hmk : ∀ w, (Instr.makeSlice 64 (.int .i64 4) (.int .i64 4)).run Tryz.prog w = .ok (.slice (some ⟨w.heap.size, 0, none⟩) 4 4) (w.alloc (.cells #[.int .u8 0, .int .u8 0, .int .u8 0, .int .u8 0] 5)) := fun _ => by kernel_rfl
    go_wp2_with (first
      | (go_at_call 110; refine (len_yes _ _ H.out).mono ?_; rintro e w1 ⟨rfl, hb⟩; rw [L.out]))
    refine wp_loop_rounds 4 ?_
    rw [rounds_succ]
    go_wp2
    rw [rounds_succ]
    go_wp2
    rw [rounds_succ]
    go_wp2
    rw [rounds_succ]
    go_wp2_with (with_reducible show wpList _ _ _ (⟨_, .convert 64 9 _, _, _, _, _⟩ :: _) _ _; refine wpList_to_string rfl 64 9 5 _ rfl Tryz.underlying64 Tryz.underlying5 Tryz.underlying9 (w1.heap.size + 1) _ 4 rfl _ (own_bytes4 (w1.alloc _) _ _ _ (by simp) (Nat.le_refl _) (240 + r / 64 / 64 / 64) (128 + r / 64 / 64 % 64) (128 + r / 64 % 64) (128 + r % 64) (by omega) (by omega) (by omega) (by omega)) ?_; intro t ht)
    go_ret2
    exact ⟨⟨t, rfl, by unfold Utf.put; rw [if_neg (show ¬ r < 128 by omega), if_neg (show ¬ r < 2048 by omega), if_neg (show ¬ r < 65536 by omega)]; exact ht⟩, (hb.alloc hb.size _).alloc (by have := hb.size; simp; omega) _⟩

theorem put_yes (r : Int) (w : World) (h : Utf.isScalar r = true) : Calls Tryz.prog 64 #[.int .i64 r] w fun e w' => (∃ t : ByteArray, e = .returned (.tuple #[.string t, .bool true]) ∧ StrIs t ((Utf.put r).map bv)) ∧ Below w.heap.size w w' := by
  have h2 : 0 ≤ r := by simp [Utf.isScalar] at h; omega
  by_cases h1 : r < 128
  · exact put_one r w h2 h1
  · exact put_many r w (by omega) h

theorem put_short (r : Int) : (Utf.put r).length ≤ 4 := by
  unfold Utf.put
  split
  · simp
  split
  · simp
  split <;> simp
end Go.Proofs.YtbnaphbmmkmaeaaGreatDoor
namespace Go.Proofs.YtbnaphbmmkmaeaaGreatDoor
open Go.RowKit Go.Shelf

attribute [local go_sem] Oper.semAt_some

/-- A piece: where it begins, and a scalar or a number below 0. -/
abbrev Pc := { x : Nat × Int // x.2 < 0 ∨ Utf.isScalar x.2 = true }
theorem piece_pc (s : ByteArray) (k : Nat) : (Utf.piece (s.data.toList.drop k)).1 < 0 ∨ Utf.isScalar (Utf.piece (s.data.toList.drop k)).1 = true := by
  rcases Int.lt_or_le (Utf.piece (s.data.toList.drop k)).1 0 with h | h
  · exact .inl h
  · exact .inr (Utf.piece_scalar _ h)

/-- Block B lies as it lay. -/
def SameBlk (B : Nat) (W W' : World) : Prop := W'.heap[B]? = W.heap[B]?
theorem SameBlk.trans {B : Nat} {X Y Z : World} (h : SameBlk B X Y) (k : SameBlk B Y Z) : SameBlk B X Z := Eq.trans k h
theorem SameBlk.cell {B : Nat} {W W' : World} (h : SameBlk B W W') {i : Nat} {v : Value} (hc : W.cell? ⟨B, i, none⟩ = some v) : W'.cell? ⟨B, i, none⟩ = some v :=
  (World.cell?_of_block (w := W) (w' := W') (a := ⟨B, i, none⟩) h).trans hc
theorem sameBlk_b {w : World} {B : Nat} (hB : B < w.heap.size) (W : World) (l : Nat) (o o' : Obj) (hl : w.heap.size ≤ l) (_ : W.heap[l]? = some o) (_ : o.isCells = false) (_ : o.isWalk = false) : SameBlk B W (W.putObj l o') :=
  World.putObj_heap_other (by omega)

theorem piece_at' (s : ByteArray) (k : Nat) (h : k < s.size) : 1 ≤ (Utf.piece (s.data.toList.drop k)).2 ∧ (Utf.piece (s.data.toList.drop k)).2 ≤ 4 ∧ (Utf.piece (s.data.toList.drop k)).2 ≤ ((s.size - k : Nat) : Int) := by
  have := Utf.piece_len s[k] (s.data.toList.drop (k + 1))
  rw [← drop_at s k h] at this
  simpa using this

theorem from_at (s : ByteArray) (k : Nat) (h : k < s.size) :
    Utf.from_ k (s.data.toList.drop k) = (k, (Utf.piece (s.data.toList.drop k)).1) :: Utf.from_ (k + (Utf.piece (s.data.toList.drop k)).2.toNat) (s.data.toList.drop (k + (Utf.piece (s.data.toList.drop k)).2.toNat)) := by
  rw [drop_at s k h, Utf.from_cons, ← drop_at s k h, List.drop_drop]

set_option maxRecDepth 100000 in
set_option maxHeartbeats 2000000 in
theorem pieces1_in (n : Nat) (hn : 1 ≤ n) (l Bs : Nat) (s : ByteArray) (hs : s.size ≤ 1000000000)
    (J Jx : List Pc → World → Prop)
    (hY : ∀ pre x W, J pre W → pre.length < s.size → YieldAt Fence.wide (n - 1) Tryz.prog l #[.int .i64 (x.1.1 : Int), .int .i64 x.1.2] W fun e W' =>
      (e = .returned (.bool true) ∧ J (pre ++ [x]) W' ∧ SameBlk Bs W W') ∨ (e = .returned (.bool false) ∧ Jx (pre ++ [x]) W'))
    (W : World) (hBs : W.cell? ⟨Bs, 0, none⟩ = some (.string s)) (h0 : J [] W) :
    CallsIn Fence.wide n Tryz.prog 126 #[.func (.yield l) #[] #[], .pointer (some ⟨Bs, 0, none⟩)] W fun e W' => (∃ v, e = .returned v) ∧
      ((∃ ys : List Pc, ys.map (·.1) = Utf.pieces s.data.toList ∧ J ys W') ∨ (∃ pre : List Pc, (∃ rest, pre.map (·.1) ++ rest = Utf.pieces s.data.toList) ∧ Jx pre W')) := by
  refine callsIn_of_wp Tryz.func126 rfl trivial ?_ rfl
  simp only [Tryz.ntmps126, List.size_toArray, List.length_cons, List.length_nil, Nat.reduceAdd, Nat.reduceSub, Array.replicate_succ, Array.replicate_zero, List.push_toArray, List.append_toArray, List.nil_append, List.cons_append]
  obtain ⟨all, hall⟩ : ∃ all, Utf.pieces s.data.toList = all := ⟨_, rfl⟩
  rw [hall]
  have Hall := hide hall
  clear hall
  gi_wp2
  gi_loopw [3] (fun i wr => ∃ (k : Nat) (pre : List Pc), k ≤ s.size ∧ i = .int .i64 k ∧ pre.length ≤ k ∧ pre.map (·.1) ++ Utf.from_ k (s.data.toList.drop k) = all ∧ J pre wr ∧ SameBlk Bs W wr)
    (fun i _ => s.size - (intOf i).toNat)
  case atStart => exact ⟨0, [], Nat.zero_le _, rfl, Nat.le_refl _, by rw [← Hall.out]; rfl, h0, rfl⟩
  case round =>
    obtain ⟨k, pre, hk, rfl, hpl, hpre, hJs, hnx⟩ := hrel
    have Hpre := hide hpre
    clear hpre
    have hcx : wr.cell? ⟨Bs, 0, none⟩ = some (.string s) := hnx.cell hBs
    by_cases hlt : k < s.size
    · have hfr := from_at s k hlt
      have hp := piece_at' s k hlt
      have hpc := piece_pc s k
      have HP := hide (piece_any s k wr (by omega) (by omega) hs)
      rw [Int.toNat_natCast] at HP
      obtain ⟨f, hf⟩ : ∃ f, Utf.piece (s.data.toList.drop k) = f := ⟨_, rfl⟩
      rw [hf] at hp hfr HP hpc
      have Hfr := hide hfr
      clear hf hfr
      obtain ⟨fn, tmps, assign, body, hy, hR⟩ := hY pre ⟨(k, f.1), hpc⟩ wr hJs (by omega)
      dsimp only at hy
      gi_wp2_with (refine ⟨trivial, ?_⟩; gi_at_call 52; refine (callsIn_wide.2 HP.out).mono ?_; rintro e w' ⟨rfl, rfl⟩; unfold pieceV)
      refine hR.mono ?_
      rintro e W3 (⟨rfl, hJ3, hk3⟩ | ⟨rfl, hJx3⟩)
      · gi_wp2
        go_roundw
        case rel => exact ⟨k + f.2.toNat, pre ++ [⟨(k, f.1), hpc⟩], by omega, int_eq (by omega), by simp; omega, by rw [← Hpre.out, Hfr.out]; simp, hJ3, hnx.trans hk3⟩
        case measure => simp [intOf]; omega
      · gi_wp2
        refine bodyPost_ret (results_none rfl _ _ _) rfl ?_
        exact ⟨⟨_, rfl⟩, .inr ⟨_, ⟨_, by rw [← Hpre.out, Hfr.out, List.map_append, List.append_assoc]; rfl⟩, hJx3⟩⟩
    · gi_wp2
      go_end0
      exact ⟨⟨_, rfl⟩, .inl ⟨pre, by rw [← Hpre.out, List.drop_of_length_le (by simp; omega)]; simp [Utf.from_nil], hJs⟩⟩

theorem pieces_any (s : ByteArray) (w : World) :
    Calls Tryz.prog 86 #[.string s] w fun e w' => e = .returned (.func (.func 126) #[] #[.pointer (some ⟨w.heap.size, 0, none⟩)]) ∧ w' = w.alloc (.cells #[.string s] 9) := by
  go_enter Tryz.func86, Tryz.ntmps86
  go_wp2
  go_ret
  exact ⟨rfl, rfl⟩

/-- 'pieces(s)' hands back a value that goes over all pieces of s, or the first ones. -/
theorem pieces_stops (n : Nat) (hn : 1 ≤ n) (Bs : Nat) (s : ByteArray) (hs : s.size ≤ 1000000000) (w : World) (hBs : Bs < w.heap.size) (hc : w.cell? ⟨Bs, 0, none⟩ = some (.string s)) :
    SeqStopsK Fence.wide n Tryz.prog 126 #[.pointer (some ⟨Bs, 0, none⟩)] (fun x : Pc => #[Value.int .i64 (x.1.1 : Int), Value.int .i64 x.1.2]) (SameBlk Bs) (fun ys => ys.map (·.1) = Utf.pieces s.data.toList)
      (fun pre => ∃ rest, pre.map (·.1) ++ rest = Utf.pieces s.data.toList) s.size w := fun l J Jx W hW _ _ hY h0 =>
  pieces1_in n hn l Bs s hs J Jx hY W ((hW.cell (p := ⟨Bs, 0, none⟩) hBs).trans hc) h0
end Go.Proofs.YtbnaphbmmkmaeaaGreatDoor
