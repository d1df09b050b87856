/- The document's reading of tokens: quoted values, parts of the declaration. · The document's reading of tokens: a part of the declaration. · The document's reading of tokens: digits and letters. · The document's reading of tokens: a version. · The document's reading of tokens: an encoding's name. -/
import Derived.Test.YtbnaphbmmkmaeaaGreatDoorTz04
set_option linter.unusedSimpArgs false
set_option linter.unusedVariables false
namespace Go.Proofs.YtbnaphbmmkmaeaaGreatDoor
open Go.RowKit Tk

/-- What a reader of values returns. -/
def qv (r : Option (L × Nat)) (at_ : Nat) : Value := match r with
  | some (v, n) => .tuple #[.string (bstr v), .int .i64 ((at_ + n : Nat) : Int), .bool true]
  | none => .tuple #[.string ⟨#[]⟩, .int .i64 0, .bool false]
theorem drop_cons {D : L} {k : Nat} {c : UInt8} (h : D[k]? = some c) : D.drop k = c :: D.drop (k + 1) := by
  obtain ⟨h1, h2⟩ := List.getElem?_eq_some_iff.1 h
  rw [← h2, ← List.drop_eq_getElem_cons]

set_option maxHeartbeats 4000000 in
theorem refQuoted_any (s : ByteArray) (at_ : Nat) (w : World) (ha : at_ ≤ s.size) (hs : s.size ≤ 1000000000) :
    Calls Tryz.prog 139 #[.string s, .int .i64 (at_ : Int)] w fun e w' => e = .returned (qv (Tk.quoted (s.data.toList.drop at_)) at_) ∧ w' = w := by
  by_cases hlt : at_ < s.size
  · obtain ⟨c, hc⟩ : ∃ c, s.data.toList[at_]? = some c := ⟨_, List.getElem?_eq_getElem (by rw [size_list]; exact hlt)⟩
    have hix := idx_run s at_ c hc
    have hnl : ¬ (s.size : Int) ≤ (at_ : Int) := by omega
    have key : ∀ d : UInt8, ((c.toNat : Int) != (d.toNat : Int)) = (c != d) := fun d => by
      rw [Bool.eq_iff_iff, bne_iff_ne, bne_iff_ne]
      exact ⟨fun h h' => h (by rw [h']), fun h h' => h (UInt8.toNat_inj.1 (by omega))⟩
    have e1 : ((c.toNat : Int) != 34) = (c != 34) := key 34
    have e2 : ((c.toNat : Int) != 39) = (c != 39) := key 39
    clear key
    by_cases hq : c = 34 ∨ c = 39
    · have Hq := hide (show Tk.quoted (s.data.toList.drop at_) = (Tk.till [c] (s.data.toList.drop (at_ + 1))).map fun k => ((s.data.toList.drop (at_ + 1)).take k, k + 2) from by
        rw [drop_cons hc]; unfold Tk.quoted; dsimp only; rw [if_pos hq])
      have hone : s.extract at_ (at_ + 1) = bstr [c] := by rw [extract_bstr, drop_cons hc]; simp
      have hw1 : IntKind.i64.wrap ((at_ : Int) + 1) = (at_ : Int) + 1 := IntWalk.i64_in _ (by omega)
      have tn : ((at_ : Int) + 1).toNat = at_ + 1 := by omega
      have hb1 : 0 ≤ (at_ : Int) ∧ (at_ : Int) ≤ (at_ : Int) + 1 ∧ (at_ : Int) + 1 ≤ (s.size : Int) := by omega
      have HT := hide (fun W => refTill_any s (bstr [c]) (at_ + 1) W (by omega) (by omega) (by rw [bstr_size]; simp) (by rw [bstr_size]; simp))
      have HT' := hide (show ∀ W, Calls Tryz.prog 59 #[.string s, .int .i64 ((at_ : Int) + 1), .string (bstr [c])] W fun e w' => e = .returned (.int .i64 (tillAt s.data.toList [c] (at_ + 1))) ∧ w' = W from HT.out)
      clear HT hc
      rcases hq with hq | hq
      · have e1' : ((c.toNat : Int) != 34) = false := by rw [e1, hq]; rfl
        clear e1 e2 hq
        cases ht : Tk.till [c] (s.data.toList.drop (at_ + 1)) with
        | none =>
          have hz : tillAt s.data.toList [c] (at_ + 1) = -1 := by unfold tillAt; rw [ht]
          have Hr := hide (show Tk.quoted (s.data.toList.drop at_) = none by rw [Hq.out, ht]; rfl)
          rw [hz] at HT'
          clear hz ht Hq
          go_enter Tryz.func139, Tryz.ntmps139
          go_wp2_with fail
          refine (HT'.out _).mono ?_
          rintro e w1 ⟨rfl, hw1⟩
          subst w1
          go_wp2
          go_ret3
          rw [Hr.out]
          exact ⟨rfl, rfl⟩
        | some n =>
          have hz : tillAt s.data.toList [c] (at_ + 1) = ((at_ + 1 + n : Nat) : Int) := by unfold tillAt; rw [ht]
          have hn := till_len ht
          rw [List.length_drop, size_list] at hn
          have hn : at_ + 1 + n + 1 ≤ s.size := by simp at hn; omega
          have Hr := hide (show Tk.quoted (s.data.toList.drop at_) = some ((s.data.toList.drop (at_ + 1)).take n, n + 2) by rw [Hq.out, ht]; rfl)
          have hcut : s.extract (at_ + 1) (at_ + 1 + n) = bstr ((s.data.toList.drop (at_ + 1)).take n) := by rw [extract_bstr, Nat.add_sub_cancel_left]
          have hb2 : 0 ≤ (at_ : Int) + 1 ∧ (at_ : Int) + 1 ≤ ((at_ + 1 + n : Nat) : Int) ∧ ((at_ + 1 + n : Nat) : Int) ≤ (s.size : Int) := by omega
          rw [hz] at HT'
          clear hz ht Hq
          obtain ⟨z, hz⟩ : ∃ z, at_ + 1 + n = z := ⟨_, rfl⟩
          rw [hz] at HT' hb2 hcut
          have Hz := hide hz
          have hzs : z + 1 ≤ s.size := by omega
          have hw2 : IntKind.i64.wrap ((z : Int) + 1) = (z : Int) + 1 := IntWalk.i64_in _ (by omega)
          have hnz : ¬ (z : Int) < 0 := by omega
          have Hv := hide (show qv (some ((s.data.toList.drop (at_ + 1)).take n, n + 2)) at_ = .tuple #[.string (bstr ((s.data.toList.drop (at_ + 1)).take n)), .int .i64 ((z : Int) + 1), .bool true] from by
            unfold qv
            dsimp only
            rw [show ((at_ + (n + 2) : Nat) : Int) = (z : Int) + 1 by omega])
          clear hz hn
          go_enter Tryz.func139, Tryz.ntmps139
          go_wp2_with fail
          refine (HT'.out _).mono ?_
          rintro e w1 ⟨rfl, hw1⟩
          subst w1
          go_wp2
          go_ret3
          rw [Hr.out, Hv.out]
          exact ⟨rfl, rfl⟩
      · have e1' : ((c.toNat : Int) != 34) = true := by rw [e1, hq]; rfl
        have e2' : ((c.toNat : Int) != 39) = false := by rw [e2, hq]; rfl
        clear e1 e2 hq
        cases ht : Tk.till [c] (s.data.toList.drop (at_ + 1)) with
        | none =>
          have hz : tillAt s.data.toList [c] (at_ + 1) = -1 := by unfold tillAt; rw [ht]
          have Hr := hide (show Tk.quoted (s.data.toList.drop at_) = none by rw [Hq.out, ht]; rfl)
          rw [hz] at HT'
          clear hz ht Hq
          go_enter Tryz.func139, Tryz.ntmps139
          go_wp2_with fail
          refine (HT'.out _).mono ?_
          rintro e w1 ⟨rfl, hw1⟩
          subst w1
          go_wp2
          go_ret3
          rw [Hr.out]
          exact ⟨rfl, rfl⟩
        | some n =>
          have hz : tillAt s.data.toList [c] (at_ + 1) = ((at_ + 1 + n : Nat) : Int) := by unfold tillAt; rw [ht]
          have hn := till_len ht
          rw [List.length_drop, size_list] at hn
          have hn : at_ + 1 + n + 1 ≤ s.size := by simp at hn; omega
          have Hr := hide (show Tk.quoted (s.data.toList.drop at_) = some ((s.data.toList.drop (at_ + 1)).take n, n + 2) by rw [Hq.out, ht]; rfl)
          have hcut : s.extract (at_ + 1) (at_ + 1 + n) = bstr ((s.data.toList.drop (at_ + 1)).take n) := by rw [extract_bstr, Nat.add_sub_cancel_left]
          have hb2 : 0 ≤ (at_ : Int) + 1 ∧ (at_ : Int) + 1 ≤ ((at_ + 1 + n : Nat) : Int) ∧ ((at_ + 1 + n : Nat) : Int) ≤ (s.size : Int) := by omega
          rw [hz] at HT'
          clear hz ht Hq
          obtain ⟨z, hz⟩ : ∃ z, at_ + 1 + n = z := ⟨_, rfl⟩
          rw [hz] at HT' hb2 hcut
          have Hz := hide hz
          have hzs : z + 1 ≤ s.size := by omega
          have hw2 : IntKind.i64.wrap ((z : Int) + 1) = (z : Int) + 1 := IntWalk.i64_in _ (by omega)
          have hnz : ¬ (z : Int) < 0 := by omega
          have Hv := hide (show qv (some ((s.data.toList.drop (at_ + 1)).take n, n + 2)) at_ = .tuple #[.string (bstr ((s.data.toList.drop (at_ + 1)).take n)), .int .i64 ((z : Int) + 1), .bool true] from by
            unfold qv
            dsimp only
            rw [show ((at_ + (n + 2) : Nat) : Int) = (z : Int) + 1 by omega])
          clear hz hn
          go_enter Tryz.func139, Tryz.ntmps139
          go_wp2_with fail
          refine (HT'.out _).mono ?_
          rintro e w1 ⟨rfl, hw1⟩
          subst w1
          go_wp2
          go_ret3
          rw [Hr.out, Hv.out]
          exact ⟨rfl, rfl⟩
    · have Hr := hide (show Tk.quoted (s.data.toList.drop at_) = none from by
        rw [drop_cons hc]; unfold Tk.quoted; dsimp only; rw [if_neg hq])
      have e1' : ((c.toNat : Int) != 34) = true := by rw [e1, bne_iff_ne]; exact fun h => hq (.inl h)
      have e2' : ((c.toNat : Int) != 39) = true := by rw [e2, bne_iff_ne]; exact fun h => hq (.inr h)
      clear e1 e2 hq hc
      go_enter Tryz.func139, Tryz.ntmps139
      go_wp2
      go_ret3
      rw [Hr.out]
      exact ⟨rfl, rfl⟩
  · have hnl : (s.size : Int) ≤ (at_ : Int) := by omega
    have Hq := hide (show Tk.quoted (s.data.toList.drop at_) = none by rw [List.drop_of_length_le (by rw [size_list]; omega)]; rfl)
    go_enter Tryz.func139, Tryz.ntmps139
    go_wp2
    go_ret3
    rw [Hq.out]
    exact ⟨rfl, rfl⟩

theorem eqvD_none {D : L} {at_ : Nat} (h : D.length ≤ at_ + nsp (D.drop at_)) : eqv (D.drop at_) = none := by
  unfold eqv
  rw [List.drop_drop, List.drop_of_length_le (by omega)]
theorem eqvD_no {D : L} {at_ : Nat} {c : UInt8} (h : D[at_ + nsp (D.drop at_)]? = some c) (hc : c ≠ 61) : eqv (D.drop at_) = none := by
  unfold eqv
  rw [List.drop_drop, drop_cons h]
  dsimp only
  rw [if_neg hc]
theorem eqvD_yes {D : L} {at_ k M : Nat} (hk : at_ + nsp (D.drop at_) = k) (h : D[k]? = some 61) (hM : nsp (D.drop (k + 1)) = M) : qv (eqv (D.drop at_)) at_ = qv (Tk.quoted (D.drop (k + 1 + M))) (k + 1 + M) := by
  unfold eqv
  rw [List.drop_drop, hk, drop_cons h]
  dsimp only
  rw [if_pos rfl, hM, List.drop_drop]
  cases Tk.quoted (D.drop (k + 1 + M)) with
  | none => rfl
  | some x =>
    obtain ⟨v, n⟩ := x
    unfold qv
    dsimp only [Option.map_some]
    rw [show at_ + (nsp (D.drop at_) + 1 + M + n) = k + 1 + M + n by omega]

set_option maxHeartbeats 4000000 in
theorem refEquals_any (s : ByteArray) (at_ : Nat) (w : World) (ha : at_ ≤ s.size) (hs : s.size ≤ 1000000000) :
    Calls Tryz.prog 103 #[.string s, .int .i64 (at_ : Int)] w fun e w' => e = .returned (qv (eqv (s.data.toList.drop at_)) at_) ∧ w' = w := by
  have HB := hide (fun W => refBlanks_any s at_ W ha hs)
  obtain ⟨D, hD⟩ : ∃ D, s.data.toList = D := ⟨_, rfl⟩
  have hDl : D.length = s.size := by rw [← hD, size_list]
  have hkl : at_ + nsp (D.drop at_) ≤ s.size := by have := nsp_le (D.drop at_); rw [List.length_drop] at this; omega
  rw [hD] at HB ⊢
  obtain ⟨k, hk⟩ : ∃ k, at_ + nsp (D.drop at_) = k := ⟨_, rfl⟩
  rw [hk] at HB hkl
  have Hk := hide hk
  by_cases hlt : k < s.size
  · have hnl : ¬ (s.size : Int) ≤ (k : Int) := by omega
    obtain ⟨c, hc⟩ : ∃ c, D[k]? = some c := ⟨_, List.getElem?_eq_getElem (by omega)⟩
    have hix := idx_run s k c (by rw [hD]; exact hc)
    have e1 : ((c.toNat : Int) != 61) = (c != 61) := by
      rw [Bool.eq_iff_iff, bne_iff_ne, bne_iff_ne]
      exact ⟨fun h h' => h (by rw [h']; rfl), fun h h' => h (UInt8.toNat_inj.1 (by have : (61 : UInt8).toNat = 61 := rfl; omega))⟩
    by_cases hc1 : c = 61
    · have e2 : ((c.toNat : Int) != 61) = false := by rw [e1, hc1]; rfl
      obtain ⟨M, hM⟩ : ∃ M, nsp (D.drop (k + 1)) = M := ⟨_, rfl⟩
      have hml : k + 1 + M ≤ s.size := by have := nsp_le (D.drop (k + 1)); rw [List.length_drop] at this; omega
      have Hr := hide (eqvD_yes hk (hc1 ▸ hc) hM)
      have hw1 : IntKind.i64.wrap ((k : Int) + 1) = (k : Int) + 1 := IntWalk.i64_in _ (by omega)
      have HB2 := hide (show ∀ W, Calls Tryz.prog 57 #[.string s, .int .i64 ((k : Int) + 1)] W fun e w' => e = .returned (.int .i64 ((k + 1 + M : Nat) : Int)) ∧ w' = W from fun W => by
        have h := refBlanks_any s (k + 1) W (by omega) hs
        rw [hD, hM] at h
        exact h)
      have HQ := hide (fun W => refQuoted_any s (k + 1 + M) W hml hs)
      rw [hD] at HQ
      obtain ⟨r, hr⟩ : ∃ r, Tk.quoted (D.drop (k + 1 + M)) = r := ⟨_, rfl⟩
      rw [hr] at HQ Hr
      obtain ⟨p, hp⟩ : ∃ p, k + 1 + M = p := ⟨_, rfl⟩
      rw [hp] at HQ Hr HB2
      clear hr hp e1 hc1 hc hD hDl hk hM hml
      cases r with
      | none =>
        go_enter Tryz.func103, Tryz.ntmps103
        go_wp2_with fail
        refine (HB.out _).mono ?_
        rintro e w1 ⟨rfl, hw1⟩
        subst w1
        go_wp2_with fail
        refine (HB2.out _).mono ?_
        rintro e w1 ⟨rfl, hw1⟩
        subst w1
        go_wp2_with fail
        refine (HQ.out _).mono ?_
        rintro e w1 ⟨rfl, hw1⟩
        subst w1
        unfold qv
        go_wp2
        go_ret3
        rw [Hr.out]
        exact ⟨rfl, rfl⟩
      | some x =>
        obtain ⟨v, n⟩ := x
        go_enter Tryz.func103, Tryz.ntmps103
        go_wp2_with fail
        refine (HB.out _).mono ?_
        rintro e w1 ⟨rfl, hw1⟩
        subst w1
        go_wp2_with fail
        refine (HB2.out _).mono ?_
        rintro e w1 ⟨rfl, hw1⟩
        subst w1
        go_wp2_with fail
        refine (HQ.out _).mono ?_
        rintro e w1 ⟨rfl, hw1⟩
        subst w1
        unfold qv
        go_wp2
        go_ret3
        rw [Hr.out]
        exact ⟨rfl, rfl⟩
    · have e2 : ((c.toNat : Int) != 61) = true := by rw [e1, bne_iff_ne]; exact hc1
      have Hr := hide (eqvD_no (D := D) (at_ := at_) (by rw [hk]; exact hc) hc1)
      clear e1 hc1 hc hD hDl hk
      go_enter Tryz.func103, Tryz.ntmps103
      go_wp2_with fail
      refine (HB.out _).mono ?_
      rintro e w1 ⟨rfl, hw1⟩
      subst w1
      go_wp2
      go_ret3
      rw [Hr.out]
      exact ⟨rfl, rfl⟩
  · have hnl : (s.size : Int) ≤ (k : Int) := by omega
    have Hr := hide (eqvD_none (D := D) (at_ := at_) (by rw [hk]; omega))
    clear hD hDl hk
    go_enter Tryz.func103, Tryz.ntmps103
    go_wp2_with fail
    refine (HB.out _).mono ?_
    rintro e w1 ⟨rfl, hw1⟩
    subst w1
    go_wp2
    go_ret3
    rw [Hr.out]
    exact ⟨rfl, rfl⟩
end Go.Proofs.YtbnaphbmmkmaeaaGreatDoor
namespace Go.Proofs.YtbnaphbmmkmaeaaGreatDoor
open Go.RowKit Tk

theorem partD_yes {D q : L} {at_ k : Nat} (hk : at_ + nsp (D.drop at_) = k) (h0 : k ≠ at_) (h : q.isPrefixOf (D.drop k) = true) : qv (Tk.part q (D.drop at_)) at_ = qv (eqv (D.drop (k + q.length))) (k + q.length) := by
  unfold Tk.part
  rw [if_neg (by omega), List.drop_drop, hk, if_pos h, List.drop_drop, show at_ + (nsp (D.drop at_) + q.length) = k + q.length by omega]
  cases eqv (D.drop (k + q.length)) with
  | none => rfl
  | some x =>
    obtain ⟨v, n⟩ := x
    unfold qv
    dsimp only [Option.map_some]
    rw [show at_ + (nsp (D.drop at_) + q.length + n) = k + q.length + n by omega]
theorem partD_no {D q : L} {at_ k : Nat} (hk : at_ + nsp (D.drop at_) = k) (h : k = at_ ∨ q.isPrefixOf (D.drop k) = false) : Tk.part q (D.drop at_) = none := by
  unfold Tk.part
  by_cases h0 : nsp (D.drop at_) = 0
  · rw [if_pos h0]
  · rw [if_neg h0, List.drop_drop, hk, if_neg]
    rcases h with h | h
    · omega
    · rw [h]; simp

set_option maxHeartbeats 4000000 in
theorem refPart_any (s q : ByteArray) (at_ : Nat) (w : World) (ha : at_ ≤ s.size) (hs : s.size ≤ 1000000000) (hq : q.size ≤ 1000) (hq0 : 0 < q.size) :
    Calls Tryz.prog 136 #[.string s, .int .i64 (at_ : Int), .string q] w fun e w' => e = .returned (qv (Tk.part q.data.toList (s.data.toList.drop at_)) at_) ∧ w' = w := by
  have HB := hide (fun W => refBlanks_any s at_ W ha hs)
  have HE0 := fun (k : Nat) W (h : k ≤ s.size) => refEquals_any s k W h hs
  have HS0 := fun (k : Nat) W (h : k ≤ s.size) => starts_any s q k W (by omega) (by omega) hq
  obtain ⟨D, hD⟩ : ∃ D, s.data.toList = D := ⟨_, rfl⟩
  obtain ⟨Q, hQ⟩ : ∃ Q, q.data.toList = Q := ⟨_, rfl⟩
  have hQl : Q.length = q.size := by rw [← hQ, size_list]
  have hDl : D.length = s.size := by rw [← hD, size_list]
  have hkl : at_ + nsp (D.drop at_) ≤ s.size := by have := nsp_le (D.drop at_); rw [List.length_drop] at this; omega
  rw [hD] at HB HE0 HS0 ⊢
  rw [hQ] at HS0 ⊢
  obtain ⟨k, hk⟩ : ∃ k, at_ + nsp (D.drop at_) = k := ⟨_, rfl⟩
  rw [hk] at HB hkl
  by_cases hka : k = at_
  · have hd : ((k : Int) == (at_ : Int)) = true := by rw [beq_iff_eq]; omega
    have Hr := hide (partD_no (q := Q) hk (.inl hka))
    clear HE0 HS0 hD hQ hDl hQl hk hka
    go_enter Tryz.func136, Tryz.ntmps136
    go_wp2_with fail
    refine (HB.out _).mono ?_
    rintro e w1 ⟨rfl, hw1⟩
    subst w1
    go_wp2
    go_ret3
    rw [Hr.out]
    exact ⟨rfl, rfl⟩
  have hd : ((k : Int) == (at_ : Int)) = false := by rw [beq_eq_false_iff_ne]; omega
  have HS := hide (fun W => HS0 k W hkl)
  cases hp : Q.isPrefixOf (D.drop k) with
  | false =>
    rw [hp] at HS
    have Hr := hide (partD_no (q := Q) hk (.inr hp))
    have Hq0 := hide (show ¬ q.size = 0 by omega)
    clear HE0 HS0 hD hQ hDl hQl hk hka hp hq0
    go_enter Tryz.func136, Tryz.ntmps136
    go_wp2_with fail
    refine (HB.out _).mono ?_
    rintro e w1 ⟨rfl, hw1⟩
    subst w1
    go_wp2_with fail
    refine (HS.out _).mono ?_
    rintro e w1 ⟨he, hw1⟩
    subst w1
    obtain rfl := he.resolve_left Hq0.out
    go_wp2
    go_ret3
    rw [Hr.out]
    exact ⟨rfl, rfl⟩
  | true =>
    rw [hp] at HS
    have Hr := hide (partD_yes hk hka hp)
    have Hq0 := hide (show ¬ q.size = 0 by omega)
    have hpl : k + q.size ≤ s.size := by
      have := (List.isPrefixOf_iff_prefix.1 hp).length_le
      rw [List.length_drop] at this
      omega
    have HE := hide (fun W => HE0 (k + q.size) W hpl)
    have hw1 : IntKind.i64.wrap ((k : Int) + (q.size : Int)) = ((k + q.size : Nat) : Int) := by rw [IntWalk.i64_in _ (by omega)]; omega
    rw [hQl] at Hr
    obtain ⟨r, hr⟩ : ∃ r, eqv (D.drop (k + q.size)) = r := ⟨_, rfl⟩
    rw [hr] at HE Hr
    obtain ⟨p, hpp⟩ : ∃ p, k + q.size = p := ⟨_, rfl⟩
    rw [hpp] at HE Hr hw1
    clear HE0 HS0 hD hQ hDl hQl hk hka hp hq0 hr hpp hpl
    cases r with
    | none =>
      go_enter Tryz.func136, Tryz.ntmps136
      go_wp2_with fail
      refine (HB.out _).mono ?_
      rintro e w1 ⟨rfl, hw1⟩
      subst w1
      go_wp2_with fail
      refine (HS.out _).mono ?_
      rintro e w1 ⟨he, hw1⟩
      subst w1
      obtain rfl := he.resolve_left Hq0.out
      go_wp2_with fail
      refine (HE.out _).mono ?_
      rintro e w1 ⟨rfl, hw1⟩
      subst w1
      unfold qv
      go_wp2
      go_ret3
      rw [Hr.out]
      exact ⟨rfl, rfl⟩
    | some x =>
      obtain ⟨v, n⟩ := x
      go_enter Tryz.func136, Tryz.ntmps136
      go_wp2_with fail
      refine (HB.out _).mono ?_
      rintro e w1 ⟨rfl, hw1⟩
      subst w1
      go_wp2_with fail
      refine (HS.out _).mono ?_
      rintro e w1 ⟨he, hw1⟩
      subst w1
      obtain rfl := he.resolve_left Hq0.out
      go_wp2_with fail
      refine (HE.out _).mono ?_
      rintro e w1 ⟨rfl, hw1⟩
      subst w1
      unfold qv
      go_wp2
      go_ret3
      rw [Hr.out]
      exact ⟨rfl, rfl⟩
end Go.Proofs.YtbnaphbmmkmaeaaGreatDoor
namespace Go.Proofs.YtbnaphbmmkmaeaaGreatDoor
open Go.RowKit Tk

theorem u8_le {a c : UInt8} : decide (a ≤ c) = decide (a.toNat ≤ c.toNat) := by
  rw [decide_eq_decide]; exact UInt8.le_iff_toNat_le
theorem refDigit_any (c : UInt8) (w : World) : Calls Tryz.prog 158 #[.int .u8 (c.toNat : Nat)] w fun e w' => e = .returned (.bool (Tk.digit c)) ∧ w' = w := by
  have e : Tk.digit c = (decide (48 ≤ c.toNat) && decide (c.toNat ≤ 57)) := by unfold Tk.digit; rw [u8_le, u8_le]; rfl
  rw [e]
  clear e
  by_cases h1 : 48 ≤ c.toNat
  · have g1 : (48 : Int) ≤ (c.toNat : Int) := by omega
    by_cases h2 : c.toNat ≤ 57
    · have g2 : (c.toNat : Int) ≤ 57 := by omega
      have Hr := hide (show (decide (48 ≤ c.toNat) && decide (c.toNat ≤ 57)) = true by simp [h1, h2])
      clear h1 h2
      go_enter Tryz.func158, Tryz.ntmps158
      go_wp2
      go_ret
      exact ⟨ret_eq1 (bool_eq Hr.out.symm), rfl⟩
    · have g2 : ¬ (c.toNat : Int) ≤ 57 := by omega
      have Hr := hide (show (decide (48 ≤ c.toNat) && decide (c.toNat ≤ 57)) = false by simp [h1, h2])
      clear h1 h2
      go_enter Tryz.func158, Tryz.ntmps158
      go_wp2
      go_ret
      exact ⟨ret_eq1 (bool_eq Hr.out.symm), rfl⟩
  · have g1 : ¬ (48 : Int) ≤ (c.toNat : Int) := by omega
    have Hr := hide (show (decide (48 ≤ c.toNat) && decide (c.toNat ≤ 57)) = false by simp [h1])
    clear h1
    go_enter Tryz.func158, Tryz.ntmps158
    go_wp2
    go_ret
    exact ⟨ret_eq1 (bool_eq Hr.out.symm), rfl⟩
theorem refLetter_any (c : UInt8) (w : World) : Calls Tryz.prog 159 #[.int .u8 (c.toNat : Nat)] w fun e w' => e = .returned (.bool (Tk.letter c)) ∧ w' = w := by
  have e : Tk.letter c = ((decide (65 ≤ c.toNat) && decide (c.toNat ≤ 90)) || (decide (97 ≤ c.toNat) && decide (c.toNat ≤ 122))) := by unfold Tk.letter; rw [u8_le, u8_le, u8_le, u8_le]; rfl
  by_cases h1 : (65 : Int) ≤ (c.toNat : Int)
  · by_cases h2 : (c.toNat : Int) ≤ 90
    · have Hr := hide (show Tk.letter c = true by rw [e]; simp; omega)
      clear e
      go_enter Tryz.func159, Tryz.ntmps159
      go_wp2
      go_ret
      exact ⟨ret_eq1 (bool_eq Hr.out.symm), rfl⟩
    · by_cases h3 : (97 : Int) ≤ (c.toNat : Int)
      · by_cases h4 : (c.toNat : Int) ≤ 122
        · have Hr := hide (show Tk.letter c = true by rw [e]; simp; omega)
          clear e
          go_enter Tryz.func159, Tryz.ntmps159
          go_wp2
          go_ret
          exact ⟨ret_eq1 (bool_eq Hr.out.symm), rfl⟩
        · have Hr := hide (show Tk.letter c = false by rw [e]; simp; omega)
          clear e
          go_enter Tryz.func159, Tryz.ntmps159
          go_wp2
          go_ret
          exact ⟨ret_eq1 (bool_eq Hr.out.symm), rfl⟩
      · have Hr := hide (show Tk.letter c = false by rw [e]; simp; omega)
        clear e
        go_enter Tryz.func159, Tryz.ntmps159
        go_wp2
        go_ret
        exact ⟨ret_eq1 (bool_eq Hr.out.symm), rfl⟩
  · have h3 : ¬ (97 : Int) ≤ (c.toNat : Int) := by omega
    have Hr := hide (show Tk.letter c = false by rw [e]; simp; omega)
    clear e
    go_enter Tryz.func159, Tryz.ntmps159
    go_wp2
    go_ret
    exact ⟨ret_eq1 (bool_eq Hr.out.symm), rfl⟩
end Go.Proofs.YtbnaphbmmkmaeaaGreatDoor
namespace Go.Proofs.YtbnaphbmmkmaeaaGreatDoor
open Go.RowKit Tk

theorem drop_cons1 {D : L} {k : Nat} {c : UInt8} (h : D[k]? = some c) : D.drop k = c :: D.drop (k + 1) := by
  obtain ⟨h1, h2⟩ := List.getElem?_eq_some_iff.1 h
  rw [← h2, ← List.drop_eq_getElem_cons]
set_option maxHeartbeats 4000000 in
theorem refVersion_any (s : ByteArray) (w : World) (hs : s.size ≤ 1000000000) :
    Calls Tryz.prog 137 #[.string s] w fun e w' => e = .returned (.bool (Tk.version s.data.toList)) ∧ w' = w := by
  obtain ⟨D, hD⟩ : ∃ D, s.data.toList = D := ⟨_, rfl⟩
  have hDl : D.length = s.size := by rw [← hD, size_list]
  rw [hD]
  by_cases h3 : s.size < 3
  · have g3 : (s.size : Int) < 3 := by omega
    have Hr := hide (show Tk.version D = false by
      unfold Tk.version
      by_cases hp : ([49, 46] : L).isPrefixOf D = true
      · have : D.length ≤ 2 := by omega
        rw [List.drop_of_length_le this]; simp
      · rw [Bool.not_eq_true] at hp; rw [hp]; rfl)
    clear hD hDl h3
    go_enter Tryz.func137, Tryz.ntmps137
    go_wp2
    go_ret
    exact ⟨ret_eq1 (bool_eq Hr.out.symm), rfl⟩
  have g3 : ¬ (s.size : Int) < 3 := by omega
  have g2 : (2 : Int) ≤ (s.size : Int) := by omega
  have g2' : 2 ≤ s.size := by omega
  have hx : ((s.extract 0 2).toList == [49, 46]) = ([49, 46] : L).isPrefixOf D := by
    rw [ByteArray.toList_eq, extract_bstr, bstr_list, hD, Bool.eq_iff_iff, beq_iff_eq, List.isPrefixOf_iff_prefix, List.prefix_iff_eq_take]
    exact eq_comm
  have hne : (D.drop 2).isEmpty = false := by
    rw [List.isEmpty_eq_false_iff]
    intro h
    have := congrArg List.length h
    rw [List.length_drop, List.length_nil] at this
    omega
  have Hv : Tk.version D = (([49, 46] : L).isPrefixOf D && (D.drop 2).all digit) := by unfold Tk.version; rw [hne]; simp
  clear hne
  cases hp : ([49, 46] : L).isPrefixOf D with
  | false =>
    rw [hp] at hx
    have Hr := hide (show Tk.version D = false by rw [Hv, hp]; rfl)
    clear Hv hp hD hDl h3
    go_enter Tryz.func137, Tryz.ntmps137
    go_wp2
    go_ret
    exact ⟨ret_eq1 (bool_eq Hr.out.symm), rfl⟩
  | true =>
    rw [hp] at hx
    have Hr := hide (show Tk.version D = (D.drop 2).all digit by rw [Hv, hp, Bool.true_and])
    have HD := hide hD
    have HDl := hide hDl
    clear Hv hp hD hDl h3
    go_enter Tryz.func137, Tryz.ntmps137
    go_wp2
    go_loopg [3] (s.size - 2) (fun g v wr => ∃ k : Nat, g = s.size - k ∧ k ≤ s.size ∧ v = .int .i64 (k : Int) ∧ (D.drop 2).all digit = (D.drop k).all digit ∧ wr = w)
    case atStart => exact ⟨2, by omega, by omega, rfl, rfl, rfl⟩
    case round =>
      obtain ⟨k, hg, hk, rfl, hall, rfl⟩ := hrel
      have Hg := hide hg
      have Ha := hide hall
      clear hg hall
      by_cases hlt : k < s.size
      · obtain ⟨c, hc⟩ : ∃ c, D[k]? = some c := ⟨_, List.getElem?_eq_getElem (by rw [HDl.out]; exact hlt)⟩
        have hix := idx_run s k c (by rw [HD.out]; exact hc)
        have HG := hide (refDigit_any c)
        cases hdg : Tk.digit c with
        | true =>
          rw [hdg] at HG
          have Hn := hide (show (D.drop 2).all digit = (D.drop (k + 1)).all digit by rw [Ha.out, drop_cons1 hc, List.all_cons, hdg, Bool.true_and])
          clear hc hdg
          go_wp2_with fail
          refine (HG.out _).mono ?_
          rintro e w1 ⟨rfl, hw1⟩
          subst w1
          go_wp2
          go_roundg (s.size - (k + 1))
          case measure => have := Hg.out; omega
          case rel => exact ⟨k + 1, by omega, by omega, by go_num, Hn.out, rfl⟩
        | false =>
          rw [hdg] at HG
          have Hn := hide (show Tk.version D = false by rw [Hr.out, Ha.out, drop_cons1 hc, List.all_cons, hdg, Bool.false_and])
          clear hc hdg
          go_wp2_with fail
          refine (HG.out _).mono ?_
          rintro e w1 ⟨rfl, hw1⟩
          subst w1
          go_wp2
          go_ret
          exact ⟨ret_eq1 (bool_eq Hn.out.symm), rfl⟩
      · have Hn := hide (show Tk.version D = true by rw [Hr.out, Ha.out, List.drop_of_length_le (by rw [HDl.out]; omega)]; rfl)
        go_wp2
        go_ret
        exact ⟨ret_eq1 (bool_eq Hn.out.symm), rfl⟩
end Go.Proofs.YtbnaphbmmkmaeaaGreatDoor
namespace Go.Proofs.YtbnaphbmmkmaeaaGreatDoor
open Go.RowKit Tk

/-- What is still asked of a name from byte k on. -/
def encFrom (k : Nat) (l : L) : Bool := if k = 0 then Tk.encoding l else l.all encTail
theorem encFrom_yes {k : Nat} {c : UInt8} {r : L} (h : (if k = 0 then letter c else encTail c) = true) : encFrom k (c :: r) = encFrom (k + 1) r := by
  unfold encFrom
  rw [if_neg (by omega : ¬ k + 1 = 0)]
  by_cases h0 : k = 0
  · rw [if_pos h0] at h ⊢; show (letter c && r.all encTail) = _; rw [h, Bool.true_and]
  · rw [if_neg h0] at h ⊢; rw [List.all_cons, h, Bool.true_and]
theorem encFrom_no {k : Nat} {c : UInt8} {r : L} (h : (if k = 0 then letter c else encTail c) = false) : encFrom k (c :: r) = false := by
  unfold encFrom
  by_cases h0 : k = 0
  · rw [if_pos h0] at h ⊢; show (letter c && r.all encTail) = _; rw [h, Bool.false_and]
  · rw [if_neg h0] at h ⊢; rw [List.all_cons, h, Bool.false_and]
theorem enc_let {k : Nat} {c : UInt8} (h : letter c = true) : (if k = 0 then letter c else encTail c) = true := by
  unfold encTail; rw [h]; simp
theorem enc_zero {k : Nat} {c : UInt8} (h : letter c = false) (hk : k = 0) : (if k = 0 then letter c else encTail c) = false := by rw [if_pos hk, h]
theorem enc_pos {k : Nat} {c : UInt8} (h : letter c = false) (hk : k ≠ 0) : (if k = 0 then letter c else encTail c) = (digit c || (c == 46 || (c == 95 || c == 45))) := by
  rw [if_neg hk]; unfold encTail; rw [h, Bool.false_or]; simp only [Bool.or_assoc]

set_option maxHeartbeats 4000000 in
theorem refEncoding_any (s : ByteArray) (w : World) (hs : s.size ≤ 1000000000) :
    Calls Tryz.prog 138 #[.string s] w fun e w' => e = .returned (.bool (Tk.encoding s.data.toList)) ∧ w' = w := by
  obtain ⟨D, hD⟩ : ∃ D, s.data.toList = D := ⟨_, rfl⟩
  have hDl : D.length = s.size := by rw [← hD, size_list]
  have HD := hide hD
  have HDl := hide hDl
  obtain ⟨z, hz⟩ : ∃ z, Tk.encoding D = z := ⟨_, rfl⟩
  have Hz := hide (show encFrom 0 (D.drop 0) = z from by rw [← hz]; rfl)
  have He := hide (show encFrom s.size [] = (!s.toList.isEmpty) from by
    have e1 : (!s.toList.isEmpty) = !decide (s.size = 0) := by
      rw [ByteArray.toList_eq, hD, ← hDl]
      cases D <;> simp
    rw [e1]
    unfold encFrom
    by_cases h0 : s.size = 0
    · rw [if_pos h0]; simp [h0, Tk.encoding]
    · rw [if_neg h0]; simp [h0])
  rw [hD, hz]
  clear hD hDl hz
  go_enter Tryz.func138, Tryz.ntmps138
  go_wp2
  go_loopg [3] s.size (fun g v wr => ∃ k : Nat, g = s.size - k ∧ k ≤ s.size ∧ v = .int .i64 (k : Int) ∧ encFrom k (D.drop k) = z ∧ wr = w)
  case atStart => exact ⟨0, rfl, by omega, rfl, Hz.out, rfl⟩
  case round =>
    obtain ⟨k, hg, hk, rfl, hzk, rfl⟩ := hrel
    have Hg := hide hg
    have Hzk := hide hzk
    clear hg hzk Hz
    by_cases hlt : k < s.size
    · obtain ⟨c, hc⟩ : ∃ c, D[k]? = some c := ⟨_, List.getElem?_eq_getElem (by rw [HDl.out]; exact hlt)⟩
      have hix := idx_run s k c (by rw [HD.out]; exact hc)
      have Hl := hide (refLetter_any c)
      have Hd := hide (refDigit_any c)
      have Hy := hide (fun (h : (if k = 0 then letter c else encTail c) = true) => (show encFrom (k + 1) (D.drop (k + 1)) = z by rw [← Hzk.out, drop_cons1 hc, encFrom_yes h]))
      have Hn := hide (fun (h : (if k = 0 then letter c else encTail c) = false) => (show false = z by rw [← Hzk.out, drop_cons1 hc, encFrom_no h]))
      clear hc Hzk
      have key : ∀ d : UInt8, ((c.toNat : Int) != (d.toNat : Int)) = !(c == d) := fun d => by
        rw [Bool.eq_iff_iff, bne_iff_ne, Bool.not_eq_true', beq_eq_false_iff_ne]
        exact ⟨fun h h' => h (by rw [h']), fun h h' => h (UInt8.toNat_inj.1 (by omega))⟩
      have e1 : ((c.toNat : Int) != 46) = !(c == 46) := key 46
      have e2 : ((c.toNat : Int) != 95) = !(c == 95) := key 95
      have e3 : ((c.toNat : Int) != 45) = !(c == 45) := key 45
      clear key
      cases hlt' : letter c with
      | true =>
        rw [hlt'] at Hl
        have Hnx := hide (Hy.out (enc_let hlt'))
        clear hlt' Hy Hn e1 e2 e3
        go_wp2_with fail
        refine (Hl.out _).mono ?_
        rintro e w1 ⟨rfl, hw1⟩
        subst w1
        go_wp2
        go_roundg (s.size - (k + 1))
        case measure => have := Hg.out; omega
        case rel => exact ⟨k + 1, rfl, by omega, by go_num, Hnx.out, rfl⟩
      | false =>
        rw [hlt'] at Hl
        by_cases h0 : k = 0
        · have Hr := hide (Hn.out (enc_zero hlt' h0))
          have g0 : ((k : Int) == 0) = true := by rw [beq_iff_eq]; omega
          clear hlt' Hy Hn e1 e2 e3 h0
          go_wp2_with fail
          refine (Hl.out _).mono ?_
          rintro e w1 ⟨rfl, hw1⟩
          subst w1
          go_wp2
          go_ret
          exact ⟨ret_eq1 (bool_eq (Hr.out)), rfl⟩
        have g0 : ((k : Int) == 0) = false := by rw [beq_eq_false_iff_ne]; omega
        have hp := enc_pos hlt' h0
        clear h0 hlt'
        cases hdg : digit c with
        | true =>
          rw [hdg] at hp Hd
          have Hnx := hide (Hy.out hp)
          clear hdg hp Hy Hn e1 e2 e3
          go_wp2_with fail
          refine (Hl.out _).mono ?_
          rintro e w1 ⟨rfl, hw1⟩
          subst w1
          go_wp2_with fail
          refine (Hd.out _).mono ?_
          rintro e w1 ⟨rfl, hw1⟩
          subst w1
          go_wp2
          go_roundg (s.size - (k + 1))
          case measure => have := Hg.out; omega
          case rel => exact ⟨k + 1, rfl, by omega, by go_num, Hnx.out, rfl⟩
        | false =>
          rw [hdg] at hp Hd
          clear hdg
          generalize (c == 46) = b1 at *
          generalize (c == 95) = b2 at *
          generalize (c == 45) = b3 at *
          have HP := hide hp
          clear hp
          cases b1
          · cases b2
            · cases b3
              · have Hr := hide (Hn.out HP.out)
                clear HP Hy Hn
                go_wp2_with fail
                refine (Hl.out _).mono ?_
                rintro e w1 ⟨rfl, hw1⟩
                subst w1
                go_wp2_with fail
                refine (Hd.out _).mono ?_
                rintro e w1 ⟨rfl, hw1⟩
                subst w1
                go_wp2
                go_ret
                exact ⟨ret_eq1 (bool_eq (Hr.out)), rfl⟩
              · have Hnx := hide (Hy.out HP.out)
                clear HP Hy Hn
                go_wp2_with fail
                refine (Hl.out _).mono ?_
                rintro e w1 ⟨rfl, hw1⟩
                subst w1
                go_wp2_with fail
                refine (Hd.out _).mono ?_
                rintro e w1 ⟨rfl, hw1⟩
                subst w1
                go_wp2
                go_roundg (s.size - (k + 1))
                case measure => have := Hg.out; omega
                case rel => exact ⟨k + 1, rfl, by omega, by go_num, Hnx.out, rfl⟩
            · have Hnx := hide (Hy.out HP.out)
              clear HP Hy Hn
              go_wp2_with fail
              refine (Hl.out _).mono ?_
              rintro e w1 ⟨rfl, hw1⟩
              subst w1
              go_wp2_with fail
              refine (Hd.out _).mono ?_
              rintro e w1 ⟨rfl, hw1⟩
              subst w1
              go_wp2
              go_roundg (s.size - (k + 1))
              case measure => have := Hg.out; omega
              case rel => exact ⟨k + 1, rfl, by omega, by go_num, Hnx.out, rfl⟩
          · have Hnx := hide (Hy.out HP.out)
            clear HP Hy Hn
            go_wp2_with fail
            refine (Hl.out _).mono ?_
            rintro e w1 ⟨rfl, hw1⟩
            subst w1
            go_wp2_with fail
            refine (Hd.out _).mono ?_
            rintro e w1 ⟨rfl, hw1⟩
            subst w1
            go_wp2
            go_roundg (s.size - (k + 1))
            case measure => have := Hg.out; omega
            case rel => exact ⟨k + 1, rfl, by omega, by go_num, Hnx.out, rfl⟩
    · have hks : k = s.size := by omega
      have Hr := hide (show (!s.toList.isEmpty) = z by rw [← He.out, ← Hzk.out, List.drop_of_length_le (by rw [HDl.out]; omega), hks])
      clear Hzk He hks
      go_wp2
      go_ret
      exact ⟨ret_eq1 (bool_eq (Hr.out)), rfl⟩
end Go.Proofs.YtbnaphbmmkmaeaaGreatDoor
