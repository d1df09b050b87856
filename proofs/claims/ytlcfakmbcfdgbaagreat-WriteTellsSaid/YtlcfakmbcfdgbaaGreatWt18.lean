/- Texts: the document's space and Trim. · Texts, plain: the document's one line (blank by blank) is the program's (word by word); no program in sight. · Texts: the document's One. · NFC: the document's Class, Hangul. · NFC, plain: the document's sort (neighbours turned about, so many times) is the sort by runs; no program in sight. -/
import Derived.Test.YtlcfakmbcfdgbaaGreatWt06
import Derived.Test.YtlcfakmbcfdgbaaGreatWt12
import Derived.Test.YtlcfakmbcfdgbaaGreatWt13
set_option linter.unusedSimpArgs false
set_option linter.unusedVariables false
namespace Go.Proofs.YtlcfakmbcfdgbaaGreat
open Go.RowKit Go.WideShapes

theorem refSpace22_any (c : UInt8) (w : World) : Calls Tryz.prog 75 #[.int .u8 (c.toNat : Int)] w fun e w' => e = .returned (.bool (Tx.sp c)) ∧ w' = w := by
  obtain ⟨n, hn⟩ : ∃ n, c.toNat = n := ⟨_, rfl⟩
  obtain ⟨q, hq⟩ : ∃ q, Tx.sp c = q := ⟨_, rfl⟩
  have hs : decide (n = 32 ∨ n = 9 ∨ n = 10 ∨ n = 13) = q := by rw [← hq, ← hn]; rfl
  rw [hq, hn]
  clear hq hn
  by_cases h1 : n = 32
  · obtain rfl : q = true := by rw [← hs]; exact decide_eq_true (.inl h1)
    subst h1
    clear hs
    go_enter Tryz.func75, Tryz.ntmps75
    go_wp2
    go_ret
    exact ⟨rfl, rfl⟩
  by_cases h2 : n = 9
  · obtain rfl : q = true := by rw [← hs]; exact decide_eq_true (.inr (.inl h2))
    subst h2
    clear hs h1
    go_enter Tryz.func75, Tryz.ntmps75
    go_wp2
    go_ret
    exact ⟨rfl, rfl⟩
  by_cases h3 : n = 10
  · obtain rfl : q = true := by rw [← hs]; exact decide_eq_true (.inr (.inr (.inl h3)))
    subst h3
    clear hs h1 h2
    go_enter Tryz.func75, Tryz.ntmps75
    go_wp2
    go_ret
    exact ⟨rfl, rfl⟩
  by_cases h4 : n = 13
  · obtain rfl : q = true := by rw [← hs]; exact decide_eq_true (.inr (.inr (.inr h4)))
    subst h4
    clear hs h1 h2 h3
    go_enter Tryz.func75, Tryz.ntmps75
    go_wp2
    go_ret
    exact ⟨rfl, rfl⟩
  obtain rfl : q = false := by rw [← hs]; exact decide_eq_false (by omega)
  have e1 : ((n : Int) == 32) = false := by simp; omega
  have e2 : ((n : Int) == 9) = false := by simp; omega
  have e3 : ((n : Int) == 10) = false := by simp; omega
  have e4 : ((n : Int) == 13) = false := by simp; omega
  clear hs h1 h2 h3 h4
  go_enter Tryz.func75, Tryz.ntmps75
  go_wp2
  go_ret
  exact ⟨rfl, rfl⟩
set_option maxHeartbeats 4000000 in
theorem refTrim22_any (s : ByteArray) (w : World) (hs : s.size ≤ 1000000000) : Calls Tryz.prog 58 #[.string s] w fun e w' => e = .returned (.string (bstr (Tx.trim s.data.toList))) ∧ w' = w := by
  obtain ⟨l, hl⟩ : ∃ l, s.data.toList = l := ⟨_, rfl⟩
  obtain rfl : s = bstr l := by rw [← hl, bstr_of]
  clear hl
  rw [bstr_list]
  rw [bstr_size] at hs
  have HSp := hide (fun c W => refSpace22_any c W)
  have HX := hide (fun (l : List UInt8) a b => bstr_ext l a b)
  have HZ := hide (fun (l : List UInt8) => bstr_size l)
  go_enter Tryz.func58, Tryz.ntmps58
  go_wp2
  go_loopg [0] l.length (fun gk v0 wr => ∃ m, gk = m.length ∧ v0 = .string (bstr m) ∧ Tx.trimL m = Tx.trimL l ∧ m.length ≤ l.length ∧ wr = w)
  case atStart => exact ⟨l, rfl, rfl, rfl, Nat.le_refl _, rfl⟩
  case round =>
    obtain ⟨m, hg, rfl, ht, hml, hwr⟩ := hrel
    subst hwr
    have Hg := hide hg
    have HT := hide ht
    have Hml := hide hml
    clear hg ht hml
    cases m with
    | nil =>
      have hemp : (bstr ([] : List UInt8)).size = 0 := bstr_size _
      have HT2 := hide (show Tx.trimR [] = Tx.trim l by unfold Tx.trim; rw [← HT.out]; rfl)
      go_wp2
      go_loopg [0] l.length (fun gk v0 wj => ∃ m2, gk + ([] : List UInt8).length = m2.length + l.length ∧ v0 = .string (bstr m2) ∧ Tx.trimR m2 = Tx.trim l ∧ m2.length ≤ l.length ∧ wj = wr)
      case atStart => exact ⟨[], by omega, rfl, HT2.out, Hml.out, rfl⟩
      case round =>
        obtain ⟨m2, hg2, rfl, ht2, hml2, hwj⟩ := hrel
        subst hwj
        have Hg2 := hide hg2
        have HT3 := hide ht2
        have Hml2 := hide hml2
        clear hg2 ht2 hml2
        rcases Nat.eq_zero_or_pos m2.length with hz | hz
        · have hnil : m2 = [] := List.eq_nil_of_length_eq_zero hz
          subst hnil
          have hemp2 : (bstr ([] : List UInt8)).size = 0 := bstr_size _
          clear hz
          go_wp2
          go_ret
          exact ⟨by rw [← HT3.out]; rfl, rfl⟩
        · obtain ⟨m3, d, e3⟩ : ∃ m3 d, m2 = m3 ++ [d] := ⟨m2.dropLast, m2.getLast (by intro e; subst e; simp at hz), (List.dropLast_concat_getLast _).symm⟩
          subst e3
          have hpos : (0 : Int) < ((m3.length : Nat) : Int) + 1 := by omega
          obtain ⟨k, hk⟩ : ∃ k, m3.length = k := ⟨_, rfl⟩
          have hkl : k + 1 ≤ l.length := by have := Hml2.out; rw [List.length_append, hk] at this; simpa using this
          have hsz : (bstr (m3 ++ [d])).size = k + 1 := by rw [bstr_size, List.length_append, hk]; rfl
          have hix : ∀ w, (Instr.index 9 (.string (bstr (m3 ++ [d]))) (.int .i64 (k : Int))).run Tryz.prog w = .ok (.int .u8 (d.toNat : Nat)) w := fun w => idx_run (bstr (m3 ++ [d])) k d (by rw [bstr_list, ← hk, List.getElem?_append_right (Nat.le_refl _), Nat.sub_self]; rfl) w
          have hex : (bstr (m3 ++ [d])).extract 0 k = bstr m3 := by rw [bstr_ext, List.drop_zero, Nat.sub_zero, List.take_left' hk]
          have zk : IntKind.i64.wrap (((k + 1 : Nat) : Int) - 1) = (k : Int) := by rw [IntWalk.i64_in _ (by omega)]; omega
          have hkk : k < k + 1 := Nat.lt_succ_self k
          have Hk := hide hk
          clear hk hz
          generalize hu : bstr (m3 ++ [d]) = u at *
          cases hsd : Tx.sp d with
          | true =>
            have Hsd := hide hsd
            have HC := hide (HSp.out d wr)
            rw [hsd] at HC
            clear hsd
            go_wp2_with fail
            go_wp2_with fail
            refine cq (HC.out) ?_
            dsimp only
            go_wp2
            go_roundg (m3.length + l.length - ([] : List UInt8).length)
            case measure => have := Hg2.out; rw [List.length_append, List.length_singleton] at this; have := Hml.out; omega
            case rel =>
              refine ⟨m3, by have := Hml.out; omega, rfl, ?_, by rw [Hk.out]; omega, rfl⟩
              rw [← HT3.out, Tx.trimR_snoc, if_pos Hsd.out]
          | false =>
            have Hsd := hide hsd
            have HC := hide (HSp.out d wr)
            rw [hsd] at HC
            clear hsd
            have Hu := hide hu
            clear hu
            go_wp2_with fail
            go_wp2_with fail
            refine cq (HC.out) ?_
            dsimp only
            go_wp2
            go_ret
            refine ⟨?_, rfl⟩
            rw [← HT3.out, Tx.trimR_snoc, if_neg (by rw [Hsd.out]; simp), Hu.out]
            rfl
    | cons c m =>
      have hix : ∀ w, (Instr.index 9 (.string (bstr (c :: m))) (.int .i64 0)).run Tryz.prog w = .ok (.int .u8 (c.toNat : Nat)) w := fun w => by have h := idx_run (bstr (c :: m)) 0 c (by rw [bstr_list]; rfl) w; exact h
      have hsz : (bstr (c :: m)).size = m.length + 1 := bstr_size _
      have hex : (bstr (c :: m)).extract 1 (m.length + 1) = bstr m := by rw [bstr_ext, Nat.add_sub_cancel]; show bstr (m.take m.length) = _; rw [List.take_length]
      have hmz : 0 ≤ (1 : Int) ∧ (1 : Int) ≤ ((m.length + 1 : Nat) : Int) := by omega
      cases hsc : Tx.sp c with
      | true =>
        have Hsc := hide hsc
        have HC := hide (HSp.out c wr)
        rw [hsc] at HC
        clear hsc
        go_wp2_with fail
        go_wp2_with fail
        refine cq (HC.out) ?_
        dsimp only
        go_wp2
        go_roundg m.length
        case measure => have := Hg.out; rw [List.length_cons] at this; omega
        case rel =>
          refine ⟨m, rfl, rfl, ?_, by have := Hml.out; rw [List.length_cons] at this; omega, rfl⟩
          rw [← HT.out]
          unfold Tx.trimL
          rw [List.dropWhile_cons, if_pos Hsc.out]
      | false =>
        have HT2 := hide (show Tx.trimR (c :: m) = Tx.trim l by
          unfold Tx.trim
          rw [← HT.out]
          unfold Tx.trimL
          rw [List.dropWhile_cons, if_neg (by rw [hsc]; simp)])
        have HC := hide (HSp.out c wr)
        rw [hsc] at HC
        clear hsc
        go_wp2_with fail
        go_wp2_with fail
        refine cq (HC.out) ?_
        dsimp only
        go_wp2
        go_loopg [0] l.length (fun gk v0 wj => ∃ m2, gk + ((c :: m) : List UInt8).length = m2.length + l.length ∧ v0 = .string (bstr m2) ∧ Tx.trimR m2 = Tx.trim l ∧ m2.length ≤ l.length ∧ wj = wr)
        case atStart => exact ⟨(c :: m), by omega, rfl, HT2.out, Hml.out, rfl⟩
        case round =>
          obtain ⟨m2, hg2, rfl, ht2, hml2, hwj⟩ := hrel
          subst hwj
          have Hg2 := hide hg2
          have HT3 := hide ht2
          have Hml2 := hide hml2
          clear hg2 ht2 hml2
          rcases Nat.eq_zero_or_pos m2.length with hz | hz
          · have hnil : m2 = [] := List.eq_nil_of_length_eq_zero hz
            subst hnil
            have hemp2 : (bstr ([] : List UInt8)).size = 0 := bstr_size _
            clear hz
            go_wp2
            go_ret
            exact ⟨by rw [← HT3.out]; rfl, rfl⟩
          · obtain ⟨m3, d, e3⟩ : ∃ m3 d, m2 = m3 ++ [d] := ⟨m2.dropLast, m2.getLast (by intro e; subst e; simp at hz), (List.dropLast_concat_getLast _).symm⟩
            subst e3
            have hpos : (0 : Int) < ((m3.length : Nat) : Int) + 1 := by omega
            obtain ⟨k, hk⟩ : ∃ k, m3.length = k := ⟨_, rfl⟩
            have hkl : k + 1 ≤ l.length := by have := Hml2.out; rw [List.length_append, hk] at this; simpa using this
            have hsz : (bstr (m3 ++ [d])).size = k + 1 := by rw [bstr_size, List.length_append, hk]; rfl
            have hix : ∀ w, (Instr.index 9 (.string (bstr (m3 ++ [d]))) (.int .i64 (k : Int))).run Tryz.prog w = .ok (.int .u8 (d.toNat : Nat)) w := fun w => idx_run (bstr (m3 ++ [d])) k d (by rw [bstr_list, ← hk, List.getElem?_append_right (Nat.le_refl _), Nat.sub_self]; rfl) w
            have hex : (bstr (m3 ++ [d])).extract 0 k = bstr m3 := by rw [bstr_ext, List.drop_zero, Nat.sub_zero, List.take_left' hk]
            have zk : IntKind.i64.wrap (((k + 1 : Nat) : Int) - 1) = (k : Int) := by rw [IntWalk.i64_in _ (by omega)]; omega
            have hkk : k < k + 1 := Nat.lt_succ_self k
            have Hk := hide hk
            clear hk hz
            generalize hu : bstr (m3 ++ [d]) = u at *
            cases hsd : Tx.sp d with
            | true =>
              have Hsd := hide hsd
              have HC := hide (HSp.out d wr)
              rw [hsd] at HC
              clear hsd
              go_wp2_with fail
              go_wp2_with fail
              refine cq (HC.out) ?_
              dsimp only
              go_wp2
              go_roundg (m3.length + l.length - ((c :: m) : List UInt8).length)
              case measure => have := Hg2.out; rw [List.length_append, List.length_singleton] at this; have := Hml.out; omega
              case rel =>
                refine ⟨m3, by have := Hml.out; omega, rfl, ?_, by rw [Hk.out]; omega, rfl⟩
                rw [← HT3.out, Tx.trimR_snoc, if_pos Hsd.out]
            | false =>
              have Hsd := hide hsd
              have HC := hide (HSp.out d wr)
              rw [hsd] at HC
              clear hsd
              have Hu := hide hu
              clear hu
              go_wp2_with fail
              go_wp2_with fail
              refine cq (HC.out) ?_
              dsimp only
              go_wp2
              go_ret
              refine ⟨?_, rfl⟩
              rw [← HT3.out, Tx.trimR_snoc, if_neg (by rw [Hsd.out]; simp), Hu.out]
              rfl
end Go.Proofs.YtlcfakmbcfdgbaaGreat
namespace Go.Proofs.YtlcfakmbcfdgbaaGreat
namespace Tx
/-- Byte by byte: a blank stands for some (prev: was the byte ahead one?). -/
def oneD : Bool → List UInt8 → List UInt8
  | _, [] => []
  | prev, c :: l => if sp c then (if prev then oneD true l else 32 :: oneD true l) else c :: oneD false l
def join (ws : List (List UInt8)) : List UInt8 := ws.foldl oneStep []
theorem join_go : ∀ (ws : List (List UInt8)) (a : List UInt8), a ≠ [] → ws.foldl oneStep a = a ++ ws.flatMap fun x => 32 :: x
  | [], a, _ => by simp
  | x :: ws, a, h => by
    have e : oneStep a x = a ++ 32 :: x := by unfold oneStep; rw [if_neg h]
    rw [List.foldl_cons, e, join_go ws _ (by simp), List.flatMap_cons]
    simp
theorem join_cons {x : List UInt8} (hx : x ≠ []) (ws : List (List UInt8)) : join (x :: ws) = x ++ ws.flatMap fun x => 32 :: x := by
  unfold join
  rw [List.foldl_cons]
  have e : oneStep [] x = x := by unfold oneStep; rw [if_pos rfl]
  rw [e, join_go ws x hx]
theorem join_cons2 {x y : List UInt8} (hx : x ≠ []) (hy : y ≠ []) (ws : List (List UInt8)) : join (x :: y :: ws) = x ++ 32 :: join (y :: ws) := by
  rw [join_cons hx, join_cons hy, List.flatMap_cons]
  simp
theorem wordsG_ne : ∀ (l cur : List UInt8), ∀ x ∈ wordsG cur l, x ≠ []
  | [], cur, x, hx => by
    unfold wordsG at hx
    split at hx
    · cases hx
    · rename_i h
      rw [List.mem_singleton.1 hx]
      exact h
  | c :: l, cur, x, hx => by
    unfold wordsG at hx
    split at hx
    · split at hx
      · exact wordsG_ne l [] x hx
      · rename_i h
        rcases List.mem_cons.1 hx with rfl | hx
        · exact h
        · exact wordsG_ne l [] x hx
    · exact wordsG_ne l _ x hx
/-- Does a text end with no blank? -/
def endsFull : List UInt8 → Bool
  | [] => false
  | [c] => !sp c
  | _ :: l => endsFull l
theorem endsFull_cons {c : UInt8} {l : List UInt8} (h : l ≠ []) : endsFull (c :: l) = endsFull l := by
  cases l with
  | nil => exact absurd rfl h
  | cons d l => rfl
theorem wordsG_some : ∀ (l cur : List UInt8), (endsFull l = true ∨ cur ≠ []) → wordsG cur l ≠ []
  | [], cur, h => by
    unfold wordsG
    rcases h with h | h
    · cases h
    · rw [if_neg h]; simp
  | c :: l, cur, h => by
    unfold wordsG
    split
    · rename_i hc
      split
      · rename_i h0
        have h1 : endsFull (c :: l) = true := by
          rcases h with h | h
          · exact h
          · exact absurd h0 h
        cases l with
        | nil => unfold endsFull at h1; rw [hc] at h1; cases h1
        | cons d l => exact wordsG_some (d :: l) [] (.inl h1)
      · simp
    · exact wordsG_some l _ (.inr (by simp))
theorem one_go : ∀ (l cur : List UInt8), (cur ≠ [] → l = [] ∨ endsFull l = true → join (wordsG cur l) = cur ++ oneD false l) ∧ (cur = [] → endsFull l = true → join (wordsG [] l) = oneD true l)
  | [], cur => ⟨fun h _ => by
      unfold wordsG oneD
      rw [if_neg h, join_cons h]
      simp, fun _ h => by cases h⟩
  | c :: l, cur => by
    obtain ⟨i1, _⟩ := one_go l (cur ++ [c])
    obtain ⟨_, i2⟩ := one_go l []
    obtain ⟨i3, _⟩ := one_go l [c]
    refine ⟨fun h he => ?_, fun _ he => ?_⟩
    · have hf : endsFull (c :: l) = true := by
        rcases he with he | he
        · cases he
        · exact he
      unfold wordsG oneD
      by_cases hc : sp c = true
      · rw [if_pos hc, if_pos hc, if_neg h, if_neg (by decide)]
        have hl : l ≠ [] := by
          rintro rfl
          unfold endsFull at hf
          rw [hc] at hf
          cases hf
        have hfl : endsFull l = true := by rwa [endsFull_cons hl] at hf
        have hs := wordsG_some l [] (.inl hfl)
        have hi := i2 rfl hfl
        cases hw : wordsG [] l with
        | nil => exact absurd hw hs
        | cons y ws =>
          rw [hw] at hi
          rw [join_cons2 h (wordsG_ne l [] y (by rw [hw]; simp)), hi]
      · rw [if_neg hc, if_neg hc]
        have := i1 (by simp) (by
          cases l with
          | nil => exact .inl rfl
          | cons d l => exact .inr hf)
        rw [this, List.append_assoc]
        rfl
    · unfold wordsG oneD
      by_cases hc : sp c = true
      · have hl : l ≠ [] := by
          rintro rfl
          unfold endsFull at he
          rw [hc] at he
          cases he
        rw [if_pos hc, if_pos hc, if_pos rfl, if_pos rfl]
        exact i2 rfl (by rwa [endsFull_cons hl] at he)
      · rw [if_neg hc, if_neg hc, List.nil_append]
        exact i3 (by simp) (by
          cases l with
          | nil => exact .inl rfl
          | cons d l => exact .inr he)
theorem endsFull_snoc : ∀ (l : List UInt8) (c : UInt8), endsFull (l ++ [c]) = !sp c
  | [], c => rfl
  | d :: l, c => by rw [List.cons_append, endsFull_cons (by simp), endsFull_snoc l c]
theorem dropWhile_head : ∀ l : List UInt8, l.dropWhile sp = [] ∨ ∃ c t, l.dropWhile sp = c :: t ∧ sp c = false
  | [] => .inl rfl
  | c :: l => by
    rw [List.dropWhile_cons]
    split
    · exact dropWhile_head l
    · rename_i h
      exact .inr ⟨c, l, rfl, by simpa using h⟩
theorem trimR_full (l : List UInt8) : trimR l = [] ∨ endsFull (trimR l) = true := by
  unfold trimR
  rcases dropWhile_head l.reverse with e | ⟨c, t, e, hc⟩
  · rw [e]; exact .inl rfl
  · rw [e, List.reverse_cons, endsFull_snoc, hc]
    exact .inr rfl
theorem words_left (l : List UInt8) : wordsG [] (trimL l) = wordsG [] l := by
  unfold trimL
  induction l with
  | nil => rfl
  | cons c l ih =>
    rw [List.dropWhile_cons]
    split
    · rename_i h
      rw [ih]
      conv => rhs; unfold wordsG
      rw [if_pos h, if_pos rfl]
    · rfl
theorem wordsG_blank : ∀ (l cur : List UInt8) (c : UInt8), sp c = true → wordsG cur (l ++ [c]) = wordsG cur l
  | [], cur, c, h => by
    rw [List.nil_append]
    unfold wordsG
    rw [if_pos h]
    unfold wordsG
    rw [if_pos rfl]
  | d :: l, cur, c, h => by
    rw [List.cons_append]
    unfold wordsG
    rw [wordsG_blank l [] c h, wordsG_blank l _ c h]
theorem words_right (l cur : List UInt8) : wordsG cur (trimR l) = wordsG cur l := by
  unfold trimR
  have key : ∀ m : List UInt8, wordsG cur (m.dropWhile sp).reverse = wordsG cur m.reverse := fun m => by
    induction m with
    | nil => rfl
    | cons c m ih =>
      rw [List.dropWhile_cons]
      split
      · rename_i h
        rw [ih, List.reverse_cons, wordsG_blank _ _ _ h]
      · rfl
  have := key l.reverse
  rwa [List.reverse_reverse] at this
theorem trim_head (l : List UInt8) : trim l = [] ∨ ∃ c t, trim l = c :: t ∧ sp c = false := by
  unfold trim
  rcases dropWhile_head l with e | ⟨c, t, e, hc⟩
  · unfold trimL; rw [e]; exact .inl rfl
  · unfold trimL
    rw [e]
    refine .inr ⟨c, ?_⟩
    unfold trimR
    have key : ∀ m : List UInt8, ∃ t', ((m ++ [c]).dropWhile sp).reverse = c :: t' := fun m => by
      induction m with
      | nil => exact ⟨[], by rw [List.nil_append, List.dropWhile_cons, if_neg (by rw [hc]; decide)]; rfl⟩
      | cons d m ih =>
        rw [List.cons_append, List.dropWhile_cons]
        split
        · exact ih
        · exact ⟨m.reverse ++ [d], by simp⟩
    obtain ⟨t', ht⟩ := key t.reverse
    rw [List.reverse_cons]
    exact ⟨t', ht, hc⟩
/-- The document's way. -/
theorem one_is (l : List UInt8) : one l = oneD false (trim l) := by
  unfold one words
  rw [← words_left l, ← words_right (trimL l) []]
  show join (wordsG [] (trim l)) = _
  rcases trim_head l with e | ⟨c, t, e, hc⟩
  · rw [e]; rfl
  · have hf : endsFull (trim l) = true := by
      rcases trimR_full (trimL l) with h | h
      · unfold trim at e; rw [e] at h; cases h
      · exact h
    rw [e] at hf ⊢
    unfold wordsG oneD
    rw [if_neg (by rw [hc]; decide), if_neg (by rw [hc]; decide), List.nil_append]
    have := (one_go t [c]).1 (by simp) (by
      cases t with
      | nil => exact .inl rfl
      | cons d t => exact .inr hf)
    exact this
end Tx
end Go.Proofs.YtlcfakmbcfdgbaaGreat
namespace Go.Proofs.YtlcfakmbcfdgbaaGreat
open Go.RowKit Go.WideShapes

theorem oneD_next {l : List UInt8} {i : Nat} {c : UInt8} (h : l[i]? = some c) (prev : Bool) : Tx.oneD prev (l.drop i) = if Tx.sp c then (if prev then Tx.oneD true (l.drop (i + 1)) else 32 :: Tx.oneD true (l.drop (i + 1))) else c :: Tx.oneD false (l.drop (i + 1)) := by
  rw [idx_drop h]
  rfl
set_option maxRecDepth 100000 in
set_option maxHeartbeats 8000000 in
theorem refOne22_any (s : ByteArray) (w : World) (hs : s.size ≤ 1000000) :
    Calls Tryz.prog 57 #[.string s] w fun e w' => e = .returned (.string (bstr (Tx.one s.data.toList))) ∧ Below w.heap.size w w' := by
  have HTr := hide (refTrim22_any s w (by omega))
  obtain ⟨l, hl⟩ : ∃ l, Tx.trim s.data.toList = l := ⟨_, rfl⟩
  have HOn := hide (show Tx.one s.data.toList = Tx.oneD false l by rw [Tx.one_is, hl])
  have hln : l.length ≤ 1000000 := by rw [← hl]; have := Tx.trim_len s.data.toList; rw [size_list] at this; omega
  have HHd := hide (show ∀ c, l[0]? = some c → Tx.sp c = false from fun c hc => by
    rcases Tx.trim_head s.data.toList with e | ⟨d, t, e, hd⟩
    · rw [hl] at e; rw [e] at hc; cases hc
    · rw [hl] at e; rw [e] at hc; cases hc; exact hd)
  rw [hl] at HTr
  clear hl
  obtain ⟨N, hN⟩ : ∃ N, l.length = N := ⟨_, rfl⟩
  have HN := hide hN
  have HSz := hide (show (bstr l).size = N by rw [bstr_size, hN])
  rw [hN] at hln
  have HIx := hide (fun i c (h : l[i]? = some c) W => idx_run (bstr l) i c (by rw [bstr_list]; exact h) W)
  have HSp := hide (fun c W => refSpace22_any c W)
  obtain ⟨S, hS⟩ : ∃ S, bstr l = S := ⟨_, rfl⟩
  rw [hS] at HTr HSz HIx
  clear hS hN hs
  go_enter Tryz.func57, Tryz.ntmps57
  go_wp2_with fail
  go_wp2_with fail
  refine cq (HTr.out) ?_
  have hsz := HSz.out
  go_wp2
  go_loopg [3, 4] N (fun gk v3 v4 wr => ∃ (i m : Nat) (A : Option Addr) (c : Nat) (pre : List UInt8) (prev : Bool), gk = N - i ∧ i ≤ N ∧ v4 = .int .i64 (i : Int) ∧ v3 = .slice A m c ∧ pre.length = m ∧ m ≤ i ∧ wr.ownsRow w.heap.size 5 1 (.slice A m c) m (byteVs pre) ∧ pre ++ Tx.oneD prev (l.drop i) = Tx.oneD false l ∧ (∀ j d, j + 1 = i → l[j]? = some d → Tx.sp d = prev) ∧ Below w.heap.size w wr)
  case atStart => exact ⟨0, 0, none, 0, [], false, rfl, by omega, rfl, rfl, rfl, by omega, World.ownsRow_nil _ _ _ _, rfl, fun j d h => (by omega), Below.refl _ _⟩
  case round =>
    obtain ⟨i, m, A, c, pre, prev, hgk, hi, rfl, rfl, hpm, hm, ho, heq, hpv, hb⟩ := hrel
    have Hg := hide hgk
    have HO := hide ho
    have HPm := hide hpm
    have HEq := hide heq
    have HPv := hide hpv
    have HB := hide hb
    clear hgk ho hpm heq hpv hb
    by_cases hlt : i < N
    · obtain ⟨x, hx⟩ : ∃ x, l[i]? = some x := ⟨_, List.getElem?_eq_getElem (by rw [HN.out]; exact hlt)⟩
      have hix := HIx.out i x hx
      have hnx := oneD_next hx prev
      have HX := hide hx
      have HC := hide (HSp.out x)
      have hbs : w.heap.size ≤ wr.heap.size := HB.out.size
      clear hx
      cases hsx : Tx.sp x with
      | false =>
        simp only [hsx, Bool.false_eq_true, if_false] at hnx
        rw [hsx] at HC
        have Hnx := hide hnx
        have Hsx := hide hsx
        clear hnx hsx
        go_wp2_with fail
        go_wp2_with fail
        refine cq (HC.out _) ?_
        go_wp2_with (at_builtin; go_loud (refine wpList_append_elem wr rfl (.tmp 18) (.tmp 22) 40 rfl w.heap.size (.int .u8 0) 1 1 Tryz.underlying40 info_u8 rfl (by omega) (.slice A m c) m (byteVs pre) rfl HO.out (cs := [.int .u8 (x.toNat : Int)]) rfl (by simp [Value.oneCell']) rfl (by unfold maxLen; omega) (by omega) hbs ?_); intro g' cap' w1 hown1 hgrow1 hat1 hlt1 hb1; have HO1 := hide hown1; have HB1 := hide (HB.out.grown hgrow1 hbs (fun k e => (own_isT HO.out k e).1)); clear hown1 hgrow1 hat1 hlt1 hb1)
        go_roundg (N - (i + 1))
        case measure => have := Hg.out; omega
        case rel =>
          refine ⟨i + 1, m + 1, some ⟨g', 0, none⟩, cap', pre ++ [x], false, rfl, by omega, by first | rfl | go_num, rfl, by rw [List.length_append, HPm.out]; rfl, by omega, ?_, ?_, fun j d hj hd => ?_, HB1.out⟩
          · rw [byteVs_append]; exact HO1.out
          · rw [List.append_assoc]
            have := HEq.out
            rw [Hnx.out] at this
            exact this
          · obtain rfl : j = i := by omega
            rw [HX.out] at hd
            cases hd
            exact Hsx.out
      | true =>
        have hi0 : i ≠ 0 := by
          rintro rfl
          rw [HHd.out x HX.out] at hsx
          cases hsx
        obtain ⟨j, hj⟩ : ∃ j, j + 1 = i := ⟨i - 1, by omega⟩
        have hjz : 0 ≤ (j : Int) ∧ (j : Int) < N := by omega
        obtain ⟨d, hd⟩ : ∃ d, l[j]? = some d := ⟨_, List.getElem?_eq_getElem (by rw [HN.out]; omega)⟩
        have hsd := HPv.out j d hj hd
        have hixd := HIx.out j d hd
        have HD := hide (HSp.out d)
        rw [hsd] at HD
        simp only [hsx, if_true] at hnx
        rw [hsx] at HC
        have z1 : IntKind.i64.wrap ((i : Int) - 1) = (j : Int) := by rw [IntWalk.i64_in _ (by omega)]; omega
        have Hsx := hide hsx
        clear hd hsd hi0 hsx hj
        cases prev with
        | true =>
          simp only [if_true] at hnx
          have Hnx := hide hnx
          clear hnx
          go_wp2_with fail
          go_wp2_with fail
          refine cq (HC.out _) ?_
          go_wp2_with fail
          go_wp2_with fail
          refine cq (HD.out _) ?_
          go_wp2
          go_roundg (N - (i + 1))
          case measure => have := Hg.out; omega
          case rel =>
            refine ⟨i + 1, m, A, c, pre, true, rfl, by omega, by first | rfl | go_num, rfl, HPm.out, by omega, HO.out, ?_, fun k d2 hk hd2 => ?_, HB.out⟩
            · have := HEq.out
              rw [Hnx.out] at this
              exact this
            · obtain rfl : k = i := by omega
              rw [HX.out] at hd2
              cases hd2
              exact Hsx.out
        | false =>
          simp only [Bool.false_eq_true, if_false] at hnx
          have Hnx := hide hnx
          clear hnx
          go_wp2_with fail
          go_wp2_with fail
          refine cq (HC.out _) ?_
          go_wp2_with fail
          go_wp2_with fail
          refine cq (HD.out _) ?_
          go_wp2_with (at_builtin; go_loud (refine wpList_append_elem wr rfl (.tmp 30) (.tmp 31) 40 rfl w.heap.size (.int .u8 0) 1 1 Tryz.underlying40 info_u8 rfl (by omega) (.slice A m c) m (byteVs pre) rfl HO.out (cs := [.int .u8 32]) rfl (by simp [Value.oneCell']) rfl (by unfold maxLen; omega) (by omega) hbs ?_); intro g' cap' w1 hown1 hgrow1 hat1 hlt1 hb1; have HO1 := hide hown1; have HB1 := hide (HB.out.grown hgrow1 hbs (fun k e => (own_isT HO.out k e).1)); clear hown1 hgrow1 hat1 hlt1 hb1)
          go_roundg (N - (i + 1))
          case measure => have := Hg.out; omega
          case rel =>
            refine ⟨i + 1, m + 1, some ⟨g', 0, none⟩, cap', pre ++ [32], true, rfl, by omega, by first | rfl | go_num, rfl, by rw [List.length_append, HPm.out]; rfl, by omega, ?_, ?_, fun k d2 hk hd2 => ?_, HB1.out⟩
            · rw [byteVs_append]; exact HO1.out
            · rw [List.append_assoc]
              have := HEq.out
              rw [Hnx.out] at this
              exact this
            · obtain rfl : k = i := by omega
              rw [HX.out] at hd2
              cases hd2
              exact Hsx.out
    · have heq2 := HEq.out
      rw [List.drop_eq_nil_of_le (by rw [HN.out]; omega)] at heq2
      have he : Tx.oneD false l = pre := by rw [← heq2]; unfold Tx.oneD; simp
      have HO2 := HO
      have HE := hide he
      clear heq2 he
      go_wp2_with (refine wpList_to_string rfl 40 9 5 _ rfl Tryz.underlying40 Tryz.underlying5 Tryz.underlying9 w.heap.size _ m (by rfl) pre HO2.out ?_; intro t ht; have Ht := hide (str_is ht); clear ht)
      go_ret
      exact ⟨by rw [HOn.out, HE.out, ← Ht.out]; rfl, HB.out⟩
end Go.Proofs.YtlcfakmbcfdgbaaGreat
namespace Go.Proofs.YtlcfakmbcfdgbaaGreat
open Go.RowKit Go.WideShapes

set_option maxHeartbeats 4000000 in
theorem refClass_any (r : Int) (w : World) : Calls Tryz.prog 115 #[.int .i64 r] w fun e w' => e = .returned (.int .i64 (Nf.cls r)) ∧ w' = w := by
  obtain ⟨q, hq⟩ : ∃ q, Nf.cls r = q := ⟨_, rfl⟩
  rw [hq]
  by_cases hc : r = 832
  · subst hc
    have hv : q = 230 := by rw [← hq]; decide
    subst hv
    clear hq
    go_enter Tryz.func115, Tryz.ntmps115
    go_wp2
    go_ret
    exact ⟨rfl, rfl⟩
  have n832 : (r == 832) = false := by simp; omega
  have m832 := hc
  clear hc
  by_cases hc : r = 833
  · subst hc
    have hv : q = 230 := by rw [← hq]; decide
    subst hv
    clear hq
    go_enter Tryz.func115, Tryz.ntmps115
    go_wp2
    go_ret
    exact ⟨rfl, rfl⟩
  have n833 : (r == 833) = false := by simp; omega
  have m833 := hc
  clear hc
  by_cases hc : r = 789
  · subst hc
    have hv : q = 232 := by rw [← hq]; decide
    subst hv
    clear hq
    go_enter Tryz.func115, Tryz.ntmps115
    go_wp2
    go_ret
    exact ⟨rfl, rfl⟩
  have n789 : (r == 789) = false := by simp; omega
  have m789 := hc
  clear hc
  by_cases hc : r = 795
  · subst hc
    have hv : q = 216 := by rw [← hq]; decide
    subst hv
    clear hq
    go_enter Tryz.func115, Tryz.ntmps115
    go_wp2
    go_ret
    exact ⟨rfl, rfl⟩
  have n795 : (r == 795) = false := by simp; omega
  have m795 := hc
  clear hc
  by_cases hc : r = 807
  · subst hc
    have hv : q = 202 := by rw [← hq]; decide
    subst hv
    clear hq
    go_enter Tryz.func115, Tryz.ntmps115
    go_wp2
    go_ret
    exact ⟨rfl, rfl⟩
  have n807 : (r == 807) = false := by simp; omega
  have m807 := hc
  clear hc
  by_cases hc : r = 808
  · subst hc
    have hv : q = 202 := by rw [← hq]; decide
    subst hv
    clear hq
    go_enter Tryz.func115, Tryz.ntmps115
    go_wp2
    go_ret
    exact ⟨rfl, rfl⟩
  have n808 : (r == 808) = false := by simp; omega
  have m808 := hc
  clear hc
  by_cases hc : r = 824
  · subst hc
    have hv : q = 1 := by rw [← hq]; decide
    subst hv
    clear hq
    go_enter Tryz.func115, Tryz.ntmps115
    go_wp2
    go_ret
    exact ⟨rfl, rfl⟩
  have n824 : (r == 824) = false := by simp; omega
  have m824 := hc
  clear hc
  by_cases hc : r = 837
  · subst hc
    have hv : q = 240 := by rw [← hq]; decide
    subst hv
    clear hq
    go_enter Tryz.func115, Tryz.ntmps115
    go_wp2
    go_ret
    exact ⟨rfl, rfl⟩
  have n837 : (r == 837) = false := by simp; omega
  have m837 := hc
  clear hc
  by_cases g1 : r < 768
  · have hv : q = 0 := by rw [← hq]; unfold Nf.cls; (repeat' split) <;> omega
    subst hv
    have f0 : decide (768 ≤ r) = false := decide_eq_false (by omega); have f1 : decide (790 ≤ r) = false := decide_eq_false (by omega); have f2 : decide (803 ≤ r) = false := decide_eq_false (by omega)
    clear hq g1 m832 m833 m789 m795 m807 m808 m824 m837
    go_enter Tryz.func115, Tryz.ntmps115
    go_wp2
    go_ret
    exact ⟨rfl, rfl⟩
  by_cases g2 : r ≤ 788
  · have hv : q = 230 := by rw [← hq]; unfold Nf.cls; (repeat' split) <;> omega
    subst hv
    have f0 : decide (768 ≤ r) = true := decide_eq_true (by omega); have f1 : decide (r ≤ 788) = true := decide_eq_true (by omega)
    clear hq g1 g2 m832 m833 m789 m795 m807 m808 m824 m837
    go_enter Tryz.func115, Tryz.ntmps115
    go_wp2
    go_ret
    exact ⟨rfl, rfl⟩
  by_cases g3 : r ≤ 793
  · have hv : q = 220 := by rw [← hq]; unfold Nf.cls; (repeat' split) <;> omega
    subst hv
    have f0 : decide (768 ≤ r) = true := decide_eq_true (by omega); have f1 : decide (r ≤ 788) = false := decide_eq_false (by omega); have f2 : decide (790 ≤ r) = true := decide_eq_true (by omega); have f3 : decide (r ≤ 793) = true := decide_eq_true (by omega)
    clear hq g1 g2 g3 m832 m833 m789 m795 m807 m808 m824 m837
    go_enter Tryz.func115, Tryz.ntmps115
    go_wp2
    go_ret
    exact ⟨rfl, rfl⟩
  by_cases g4 : r < 803
  · have hv : q = 0 := by rw [← hq]; unfold Nf.cls; (repeat' split) <;> omega
    subst hv
    have f0 : decide (768 ≤ r) = true := decide_eq_true (by omega); have f1 : decide (r ≤ 788) = false := decide_eq_false (by omega); have f2 : decide (790 ≤ r) = true := decide_eq_true (by omega); have f3 : decide (r ≤ 793) = false := decide_eq_false (by omega); have f4 : decide (803 ≤ r) = false := decide_eq_false (by omega)
    clear hq g1 g2 g3 g4 m832 m833 m789 m795 m807 m808 m824 m837
    go_enter Tryz.func115, Tryz.ntmps115
    go_wp2
    go_ret
    exact ⟨rfl, rfl⟩
  by_cases g5 : r ≤ 806
  · have hv : q = 220 := by rw [← hq]; unfold Nf.cls; (repeat' split) <;> omega
    subst hv
    have f0 : decide (768 ≤ r) = true := decide_eq_true (by omega); have f1 : decide (r ≤ 788) = false := decide_eq_false (by omega); have f2 : decide (790 ≤ r) = true := decide_eq_true (by omega); have f3 : decide (r ≤ 793) = false := decide_eq_false (by omega); have f4 : decide (803 ≤ r) = true := decide_eq_true (by omega); have f5 : decide (r ≤ 806) = true := decide_eq_true (by omega)
    clear hq g1 g2 g3 g4 g5 m832 m833 m789 m795 m807 m808 m824 m837
    go_enter Tryz.func115, Tryz.ntmps115
    go_wp2
    go_ret
    exact ⟨rfl, rfl⟩
  have hv : q = 0 := by rw [← hq]; unfold Nf.cls; (repeat' split) <;> omega
  subst hv
  have f0 : decide (768 ≤ r) = true := decide_eq_true (by omega)
  have f1 : decide (r ≤ 788) = false := decide_eq_false (by omega)
  have f2 : decide (790 ≤ r) = true := decide_eq_true (by omega)
  have f3 : decide (r ≤ 793) = false := decide_eq_false (by omega)
  have f4 : decide (803 ≤ r) = true := decide_eq_true (by omega)
  have f5 : decide (r ≤ 806) = false := decide_eq_false (by omega)
  clear hq g1 g2 g3 g4 g5 m832 m833 m789 m795 m807 m808 m824 m837
  go_enter Tryz.func115, Tryz.ntmps115
  go_wp2
  go_ret
  exact ⟨rfl, rfl⟩
theorem refHangul_any (r : Int) (w : World) : Calls Tryz.prog 127 #[.int .i64 r] w fun e w' => e = .returned (.bool (Nf.hangul r)) ∧ w' = w := by
  obtain ⟨q, hq⟩ : ∃ q, Nf.hangul r = q := ⟨_, rfl⟩
  rw [hq]
  unfold Nf.hangul at hq
  by_cases h1 : 44032 ≤ r
  · by_cases h2 : r < 55204
    · have hv : q = true := by rw [← hq]; exact decide_eq_true (by omega)
      subst hv
      clear hq
      go_enter Tryz.func127, Tryz.ntmps127
      go_wp2
      go_ret
      exact ⟨rfl, rfl⟩
    · have hv : q = false := by rw [← hq]; exact decide_eq_false (by omega)
      subst hv
      clear hq
      go_enter Tryz.func127, Tryz.ntmps127
      go_wp2
      go_ret
      exact ⟨rfl, rfl⟩
  · have hv : q = false := by rw [← hq]; exact decide_eq_false (by omega)
    subst hv
    clear hq
    go_enter Tryz.func127, Tryz.ntmps127
    go_wp2
    go_ret
    exact ⟨rfl, rfl⟩
end Go.Proofs.YtlcfakmbcfdgbaaGreat
namespace Go.Proofs.YtlcfakmbcfdgbaaGreat
namespace Nf
/-- One carried along: past each mark that is lower. -/
def carry (c : Int) : List Int → List Int
  | [] => [c]
  | b :: l => if 0 < cls b ∧ cls b < cls c then b :: carry c l else c :: carry b l
def pass : List Int → List Int
  | [] => []
  | c :: l => carry c l
def passN : Nat → List Int → List Int
  | 0, l => l
  | n + 1, l => passN n (pass l)
theorem carry_len : ∀ (l : List Int) (c : Int), (carry c l).length = l.length + 1
  | [], c => rfl
  | b :: l, c => by
    unfold carry
    split <;> rw [List.length_cons, carry_len l, List.length_cons]
theorem pass_len : ∀ l : List Int, (pass l).length = l.length
  | [] => rfl
  | c :: l => carry_len l c
theorem ins_comm {a b : Int} (h : cls b < cls a) : ∀ acc : List Int, ins b (ins a acc) = ins a (ins b acc)
  | [] => by
    have e1 : ins b [a] = [b, a] := by rw [ins, if_pos h]
    have e2 : ins a [b] = [b, a] := by rw [ins, if_neg (by omega)]; rfl
    show ins b [a] = ins a [b]
    rw [e1, e2]
  | y :: l => by
    by_cases h1 : cls b < cls y
    · by_cases h2 : cls a < cls y
      · have e1 : ins a (y :: l) = a :: y :: l := by rw [ins, if_pos h2]
        have e2 : ins b (y :: l) = b :: y :: l := by rw [ins, if_pos h1]
        rw [e1, e2, ins, if_pos h, ins, if_neg (by omega), e1]
      · have e1 : ins a (y :: l) = y :: ins a l := by rw [ins, if_neg h2]
        have e2 : ins b (y :: l) = b :: y :: l := by rw [ins, if_pos h1]
        rw [e1, e2, ins, if_pos h1, ins, if_neg (by omega), e1]
    · have e1 : ins a (y :: l) = y :: ins a l := by rw [ins, if_neg (by omega)]
      have e2 : ins b (y :: l) = y :: ins b l := by rw [ins, if_neg h1]
      rw [e1, e2, ins, if_neg h1, ins, if_neg (by omega), ins_comm h l]
theorem sortR_swap {a b : Int} (h : cls b < cls a) (P M : List Int) : sortR (P ++ a :: b :: M) = sortR (P ++ b :: a :: M) := by
  unfold sortR
  rw [List.foldl_append, List.foldl_append, List.foldl_cons, List.foldl_cons, List.foldl_cons, List.foldl_cons, ins_comm h]
theorem runs_cons (n : Nat) (r : Int) (l : List Int) : runs (n + 1) (r :: l) = (r :: marks l) :: runs n (l.drop (marks l).length) := by rw [runs]
theorem marks_cons {b : Int} (h : 0 < cls b) (l : List Int) : marks (b :: l) = b :: marks l := by
  unfold marks
  rw [List.takeWhile_cons, if_pos (by simpa using h)]
theorem swapF {a b : Int} (h0 : 0 < cls b) (h : cls b < cls a) (Y : List Int) : ∀ (n : Nat) (P : List Int), (runs n (P ++ a :: b :: Y)).flatMap sortR = (runs n (P ++ b :: a :: Y)).flatMap sortR
  | 0, _ => by simp [runs]
  | n + 1, [] => by
    rw [List.nil_append, List.nil_append, runs_cons, runs_cons, marks_cons h0, marks_cons (show 0 < cls a by omega), List.flatMap_cons, List.flatMap_cons]
    rw [List.length_cons, List.length_cons, List.drop_succ_cons, List.drop_succ_cons]
    have := sortR_swap h [] (marks Y)
    rw [List.nil_append, List.nil_append] at this
    rw [this]
  | n + 1, p :: P => by
    rw [List.cons_append, List.cons_append, runs_cons, runs_cons, List.flatMap_cons, List.flatMap_cons]
    have e : ∀ X : List Int, marks (P ++ X) = if (marks P).length = P.length then P ++ marks X else marks P := fun X => by
      unfold marks
      exact List.takeWhile_append
    rw [e, e]
    by_cases hp : (marks P).length = P.length
    · rw [if_pos hp, if_pos hp, marks_cons (show 0 < cls a by omega), marks_cons h0, marks_cons h0, marks_cons (show 0 < cls a by omega)]
      have h1 := sortR_swap h (p :: P) (marks Y)
      rw [List.cons_append, List.cons_append] at h1
      rw [h1]
      congr 2
      have e2 : ∀ u v : Int, (P ++ u :: v :: Y).drop (P ++ u :: v :: marks Y).length = Y.drop (marks Y).length := fun u v => by
        rw [List.length_append, List.drop_append]
        simp
      rw [e2, e2]
    · rw [if_neg hp, if_neg hp]
      have hl : (marks P).length ≤ P.length := by unfold marks; exact (List.takeWhile_sublist _).length_le
      rw [List.drop_append_of_le_length hl, List.drop_append_of_le_length hl, swapF h0 h Y n]
theorem sort_swap {a b : Int} (h0 : 0 < cls b) (h : cls b < cls a) (P Y : List Int) : sort (P ++ a :: b :: Y) = sort (P ++ b :: a :: Y) := by
  unfold sort
  rw [swapF h0 h Y]
  simp
theorem sort_carry : ∀ (l : List Int) (c : Int) (P : List Int), sort (P ++ carry c l) = sort (P ++ c :: l)
  | [], c, P => rfl
  | b :: l, c, P => by
    unfold carry
    split
    · rename_i hc
      have := sort_carry l c (P ++ [b])
      rw [List.append_assoc, List.append_assoc] at this
      exact this.trans (sort_swap hc.1 hc.2 P l).symm
    · have := sort_carry l b (P ++ [c])
      rw [List.append_assoc, List.append_assoc] at this
      exact this
theorem sort_pass (l : List Int) : sort (pass l) = sort l := by
  cases l with
  | nil => rfl
  | cons c l => exact sort_carry l c []
theorem sort_passN : ∀ (n : Nat) (l : List Int), sort (passN n l) = sort l
  | 0, _ => rfl
  | n + 1, l => (sort_passN n _).trans (sort_pass l)
/-- How many are higher. -/
def gt (c : Int) (ctx : List Int) : Nat := (ctx.filter fun y => decide (c < cls y)).length
/-- Each mark has at most k higher ones ahead of it in its run. -/
def Bd (k : Nat) : List Int → List Int → Prop
  | _, [] => True
  | ctx, b :: l => (cls b = 0 ∨ gt (cls b) ctx ≤ k) ∧ Bd k (if cls b = 0 then [] else b :: ctx) l
theorem gt_cons (c y : Int) (ctx : List Int) : gt c (y :: ctx) = (if c < cls y then 1 else 0) + gt c ctx := by
  unfold gt
  rw [List.filter_cons]
  by_cases h : c < cls y
  · rw [if_pos (by simpa using h), if_pos h, List.length_cons]; omega
  · rw [if_neg (by simpa using h), if_neg h]; omega
theorem gt_le (c : Int) (ctx : List Int) : gt c ctx ≤ ctx.length := by unfold gt; exact List.length_filter_le _ _
theorem gt_zero {c : Int} : ∀ {ctx : List Int}, (∀ y ∈ ctx, cls y ≤ c) → gt c ctx = 0
  | [], _ => rfl
  | y :: ctx, h => by
    rw [gt_cons, if_neg (by have := h y (by simp); omega), gt_zero (fun z hz => h z (by simp [hz]))]
theorem Bd.ctx {k : Nat} : ∀ {l c1 c2 : List Int}, (∀ c, gt c c1 = gt c c2) → Bd k c1 l → Bd k c2 l
  | [], _, _, _, _ => trivial
  | b :: l, c1, c2, h, hb => by
    unfold Bd at hb ⊢
    refine ⟨by rw [← h]; exact hb.1, ?_⟩
    by_cases h0 : cls b = 0
    · have h2 := hb.2
      rw [if_pos h0] at h2 ⊢
      exact h2
    · have h2 := hb.2
      rw [if_neg h0] at h2 ⊢
      exact Bd.ctx (fun c => by rw [gt_cons, gt_cons, h]) h2
theorem bd_carry {k : Nat} : ∀ (l : List Int) (c : Int) (ctx : List Int), (cls c = 0 ∨ ∀ y ∈ ctx, cls y ≤ cls c) → Bd (k + 1) (if cls c = 0 then [] else c :: ctx) l → Bd k ctx (carry c l)
  | [], c, ctx, h, _ => by
    unfold carry Bd
    refine ⟨?_, trivial⟩
    rcases h with h | h
    · exact .inl h
    · exact .inr (by rw [gt_zero h]; omega)
  | b :: l, c, ctx, h, hb => by
    have hbn := (cls_le b).1
    unfold carry
    by_cases hs : 0 < cls b ∧ cls b < cls c
    · rw [if_pos hs]
      have hc : ∀ y ∈ ctx, cls y ≤ cls c := by
        rcases h with h | h
        · omega
        · exact h
      rw [if_neg (by omega)] at hb
      unfold Bd at hb ⊢
      rw [if_neg (by omega)] at hb ⊢
      obtain ⟨h1, h2⟩ := hb
      refine ⟨.inr ?_, bd_carry l c (b :: ctx) (.inr fun y hy => ?_) ?_⟩
      · rcases h1 with h1 | h1
        · omega
        · rw [gt_cons, if_pos hs.2] at h1; omega
      · rcases List.mem_cons.1 hy with rfl | hy
        · omega
        · exact hc y hy
      · rw [if_neg (by omega)]
        exact Bd.ctx (fun z => by simp only [gt_cons]; omega) h2
    · rw [if_neg hs]
      unfold Bd
      refine ⟨?_, ?_⟩
      · rcases h with h | h
        · exact .inl h
        · exact .inr (by rw [gt_zero h]; omega)
      · unfold Bd at hb
        obtain ⟨_, h2⟩ := hb
        by_cases hc0 : cls c = 0
        · rw [if_pos hc0] at h2 ⊢
          exact bd_carry l b [] (.inr fun y hy => by cases hy) h2
        · rw [if_neg hc0] at h2 ⊢
          refine bd_carry l b (c :: ctx) ?_ h2
          by_cases hb0 : cls b = 0
          · exact .inl hb0
          · refine .inr fun y hy => ?_
            have hcn := (cls_le c).1
            rcases List.mem_cons.1 hy with rfl | hy
            · omega
            · rcases h with h | h
              · omega
              · have := h y hy; omega
theorem bd_pass {k : Nat} (l : List Int) (h : Bd (k + 1) [] l) : Bd k [] (pass l) := by
  cases l with
  | nil => exact trivial
  | cons c l => exact bd_carry l c [] (.inr fun y hy => by cases hy) h.2
theorem bd_all : ∀ (l ctx : List Int) (k : Nat), ctx.length + l.length ≤ k → Bd k ctx l
  | [], _, _, _ => trivial
  | b :: l, ctx, k, h => by
    rw [List.length_cons] at h
    unfold Bd
    refine ⟨.inr (by have := gt_le (cls b) ctx; omega), bd_all l _ k ?_⟩
    split
    · simp; omega
    · rw [List.length_cons]; omega
theorem bd_passN : ∀ (n : Nat) (l : List Int), Bd n [] l → Bd 0 [] (passN n l)
  | 0, _, h => h
  | n + 1, l, h => bd_passN n _ (bd_pass l h)
/-- What bears no higher one ahead is sorted. -/
theorem bd_run : ∀ (l ctx : List Int), Bd 0 ctx l → (∀ b ∈ marks l, ∀ y ∈ ctx, cls y ≤ cls b) ∧ Up (marks l) ∧ Bd 0 [] (l.drop (marks l).length)
  | [], ctx, _ => by
    unfold marks Up
    simp [Bd]
  | b :: l, ctx, h => by
    have hbn := (cls_le b).1
    unfold Bd at h
    by_cases h0 : cls b = 0
    · have e : marks (b :: l) = [] := by
        unfold marks
        rw [List.takeWhile_cons, if_neg (by simp; omega)]
      rw [e]
      refine ⟨fun x hx => (by cases hx), List.Pairwise.nil, ?_⟩
      rw [List.length_nil, List.drop_zero]
      have h2 := h.2
      rw [if_pos h0] at h2
      unfold Bd
      rw [if_pos h0]
      exact ⟨.inl h0, h2⟩
    · rw [if_neg h0] at h
      obtain ⟨h1, h2⟩ := h
      obtain ⟨i1, i2, i3⟩ := bd_run l (b :: ctx) h2
      rw [marks_cons (by omega)]
      have hz : ∀ y ∈ ctx, cls y ≤ cls b := fun y hy => by
        rcases h1 with h1 | h1
        · omega
        · unfold gt at h1
          have := List.length_eq_zero_iff.1 (Nat.le_zero.1 h1)
          rw [List.filter_eq_nil_iff] at this
          have := this y hy
          simp at this
          exact this
      refine ⟨fun x hx y hy => ?_, ?_, ?_⟩
      · rcases List.mem_cons.1 hx with rfl | hx
        · exact hz y hy
        · exact i1 x hx y (by simp [hy])
      · unfold Up at i2 ⊢
        rw [List.pairwise_cons]
        exact ⟨fun x hx => i1 x hx b (by simp), i2⟩
      · rw [List.length_cons, List.drop_succ_cons]
        exact i3
theorem sortF_of_bd : ∀ (n : Nat) (l : List Int), l.length < n → Bd 0 [] l → (runs n l).flatMap sortR = l
  | 0, _, h, _ => by omega
  | n + 1, [], _, _ => by simp [runs]
  | n + 1, r :: t, h, hb => by
    unfold Bd at hb
    obtain ⟨i1, i2, i3⟩ := bd_run t _ hb.2
    have hup : Up (r :: marks t) := by
      unfold Up at i2 ⊢
      rw [List.pairwise_cons]
      refine ⟨fun x hx => ?_, i2⟩
      by_cases h0 : cls r = 0
      · have := (cls_le x).1; omega
      · exact i1 x hx r (by rw [if_neg h0]; simp)
    have hl : (t.drop (marks t).length).length < n := by
      rw [List.length_cons] at h
      rw [List.length_drop]; omega
    rw [runs_cons, List.flatMap_cons, ← sortR_is hup (Same.refl _), sortF_of_bd n _ hl i3]
    have e : marks t = t.take (marks t).length := by
      have h2 : marks t <+: t := by unfold marks; exact List.takeWhile_prefix _
      exact List.prefix_iff_eq_take.1 h2
    rw [List.cons_append]
    conv => lhs; rw [e]
    have h3 : (t.take (marks t).length).length = (marks t).length := by rw [← e]
    rw [h3, List.take_append_drop]
theorem bubble (l : List Int) : passN l.length l = sort l := by
  have h := bd_passN l.length l (bd_all l [] l.length (by simp))
  rw [← sort_passN l.length l]
  unfold sort
  exact (sortF_of_bd _ _ (by omega) h).symm
end Nf
end Go.Proofs.YtlcfakmbcfdgbaaGreat
