/- NFC: the doubles; what a scalar is made of. · NFC: the whole of two: tables.Whole. Printed by genNfG.py. · Tokens in plain data: the piece that stands at a byte of a text, a text's tokens; no program in sight. · Tokens: white space. · One operation of a region that draws its order, taken by itself; the operation and its slot written out. · Tokens: the scan's small methods, walked. (Printed by wip/genTkA.py.) -/
import Derived.Test.YtheaknghgpafpaaShelf
import Derived.Test.YtheaknghgpafpaaWv00
import Derived.Test.YtheaknghgpafpaaWv01
import Derived.Test.YtheaknghgpafpaaWv02
import Derived.Lib.Index
import Derived.Deep.RegionHeld3
set_option linter.unusedSimpArgs false
set_option linter.unusedVariables false
namespace Go.Proofs.Ytheaknghgpafpaa
open Go.RowKit Go.WideShapes

/-- The store of a map's literal. -/
theorem wpList_insert_own {H : Type} {P : Program} (w : World) {ops : Array Oper} {rest : List Oper} {o : Oper} {a : Act} {Q : Exit → Act → World → Prop}
    (hg : o.guard = none) (m x v : Operand) (t : TypeId) (hop : o.op = Op.insert t m x v)
    (k e : TypeId) (K : Maps.Keyed P k) (ht : P.underlying t = some (.map k e)) (R : Value → Option (DataW H × List MemPlace)) (b n : Nat) (D : DataW H)
    (hm : a.eval m = .map (some b)) (hown : w.ownsMap P k R b n D) (hn : n < maxLen) (key val : Value) (kl : Lit) (hx : a.eval x = key) (hv : a.eval v = val) (hkey : keyOf P k key = some kl)
    (d : DataW H) (ps : List MemPlace) (hval : R val = some (d, ps))
    (hK : ∀ w', w'.ownsMap P k R b (n + 1) (D.put kl d) → w.grownBy w' (some b) → wpList P ops Q rest (a.put o.dst undef) w') :
    wpList P ops Q (o :: rest) a w := by
  refine wpList_plain hg fun K' hK' => ?_
  obtain ⟨w', hrun, r1, r2⟩ := hown.update K ht hn hkey hval
  unfold Oper.wp
  simp [execOp, hop, hm, hx, hv, hrun, Result.andThen]
  exact hK' _ _ (hK w' r1 r2)
/-- A map of numbers. -/
structure DM (w : World) (b n : Nat) (l : List (Int × Int)) (D : DataW Unit) : Prop where
  own : w.ownsMap Try.prog 3 (plainElem Try.prog 3) b n D
  at_ : ∀ r, D.atKey (.int .i64 r) (.lit (.int .i64 0)) = .lit (.int .i64 ((Nf.lookD r l).getD 0))
  has : ∀ r, Maps.has D (.int .i64 r) = (Nf.lookD r l).isSome
def dblD : DataW Unit := (((((DataW.map []).put (.int .i64 832) (.lit (.int .i64 768))).put (.int .i64 833) (.lit (.int .i64 769))).put (.int .i64 8486) (.lit (.int .i64 937))).put (.int .i64 8490) (.lit (.int .i64 75))).put (.int .i64 8491) (.lit (.int .i64 197))
theorem dbl_at (r : Int) : dblD.atKey (.int .i64 r) (.lit (.int .i64 0)) = .lit (.int .i64 ((Nf.lookD r Nf.doubles).getD 0)) := by
  have hi : Maps.IsMap (H := Unit) (.map []) := Maps.isMap_empty
  unfold dblD Nf.doubles
  simp only [Nf.lookD]
  by_cases h5 : r = 8491
  · subst h5; rw [Maps.atKey_put_same ((((hi.put _ _).put _ _).put _ _).put _ _) (by simp [WideAt.IsKeyLit])]; rfl
  rw [Maps.atKey_put_other (by simpa using h5)]
  by_cases h4 : r = 8490
  · subst h4; rw [Maps.atKey_put_same (((hi.put _ _).put _ _).put _ _) (by simp [WideAt.IsKeyLit])]; rfl
  rw [Maps.atKey_put_other (by simpa using h4)]
  by_cases h3 : r = 8486
  · subst h3; rw [Maps.atKey_put_same ((hi.put _ _).put _ _) (by simp [WideAt.IsKeyLit])]; rfl
  rw [Maps.atKey_put_other (by simpa using h3)]
  by_cases h2 : r = 833
  · subst h2; rw [Maps.atKey_put_same (hi.put _ _) (by simp [WideAt.IsKeyLit])]; rfl
  rw [Maps.atKey_put_other (by simpa using h2)]
  by_cases h1 : r = 832
  · subst h1; rw [Maps.atKey_put_same hi (by simp [WideAt.IsKeyLit])]; rfl
  rw [Maps.atKey_put_other (by simpa using h1)]
  rw [if_neg (fun e => h1 e.symm), if_neg (fun e => h2 e.symm), if_neg (fun e => h3 e.symm), if_neg (fun e => h4 e.symm), if_neg (fun e => h5 e.symm)]
  rfl
theorem dbl_has (r : Int) : Maps.has dblD (.int .i64 r) = (Nf.lookD r Nf.doubles).isSome := by
  have hi : Maps.IsMap (H := Unit) (.map []) := Maps.isMap_empty
  unfold dblD Nf.doubles
  simp only [Nf.lookD]
  by_cases h5 : r = 8491
  · subst h5; rw [Maps.has_put_same ((((hi.put _ _).put _ _).put _ _).put _ _) (by simp [WideAt.IsKeyLit])]; rfl
  rw [Maps.has_put_other (by simpa using h5)]
  by_cases h4 : r = 8490
  · subst h4; rw [Maps.has_put_same (((hi.put _ _).put _ _).put _ _) (by simp [WideAt.IsKeyLit])]; rfl
  rw [Maps.has_put_other (by simpa using h4)]
  by_cases h3 : r = 8486
  · subst h3; rw [Maps.has_put_same ((hi.put _ _).put _ _) (by simp [WideAt.IsKeyLit])]; rfl
  rw [Maps.has_put_other (by simpa using h3)]
  by_cases h2 : r = 833
  · subst h2; rw [Maps.has_put_same (hi.put _ _) (by simp [WideAt.IsKeyLit])]; rfl
  rw [Maps.has_put_other (by simpa using h2)]
  by_cases h1 : r = 832
  · subst h1; rw [Maps.has_put_same hi (by simp [WideAt.IsKeyLit])]; rfl
  rw [Maps.has_put_other (by simpa using h1)]
  rw [if_neg (fun e => h1 e.symm), if_neg (fun e => h2 e.symm), if_neg (fun e => h3 e.symm), if_neg (fun e => h4 e.symm), if_neg (fun e => h5 e.symm)]
  rfl
set_option maxHeartbeats 4000000 in
theorem doubles_any (w : World) :
    Calls Try.prog 91 #[] w fun e w' => ∃ b n D, e = .returned (.map (some b)) ∧ DM w' b n Nf.doubles D ∧ Below w.heap.size w w' := by
  have hmm := @run_makeMap Try.prog
  have HO := hide (World.ownsMap_made (H := Unit) w Try.prog 3 (plainElem Try.prog 3))
  have HB := hide (below_alloc w (.map #[] 0))
  go_enter Try.func91, Try.ntmps91
  go_wp2_with (refine (wpList_insert_own _ rfl _ _ _ 146 rfl 3 3 law_int Try.underlying146 _ w.heap.size _ _ rfl HO.out (by decide) _ _ _ (by rfl) (by rfl) (Maps.keyOf_int_mk Try.underlying3 (by decide)) _ [] (plainElem_int Try.underlying3 (by decide)) ?_); clear HO; intro w1 hown hg; have HO := hide hown; have HB1 := hide (HB.out.grown hg HB.out.size (fun j hj => by cases hj; exact Nat.le_refl _)); clear HB hg hown; have HB := HB1; clear HB1)
  go_ret
  exact ⟨w.heap.size, _, dblD, rfl, ⟨HO.out, dbl_at, dbl_has⟩, HB.out⟩
def madeV (r : Int) : Value := match Nf.made r with
  | some (a, b) => .tuple #[.int .i64 a, .int .i64 b, .bool true]
  | none => .tuple #[.int .i64 0, .int .i64 0, .bool false]
theorem field_made (x y : Value) (w : World) : (Instr.field 131 (.agg #[x, y]) 1).run Try.prog w = .ok y w := by kernel_rfl
theorem prD_inj {x y : Int × Int} (h : prD x = prD y) : x = y := by
  unfold prD at h
  simp only [DataW.agg.injEq, List.cons.injEq, DataW.lit.injEq, Lit.int.injEq, true_and, and_true] at h
  exact Prod.ext h.1 h.2
theorem pair_of {v : Value} {ps : List MemPlace} {o : Option (Int × Int)} (hv : pairElem v = some ((o.map prD).getD (prD (0, 0)), ps)) : v = .agg #[.int .i64 (o.getD (0, 0)).1, .int .i64 (o.getD (0, 0)).2] := by
  obtain ⟨y, rfl, he⟩ := pairElem_inv hv
  have h1 := congrArg Prod.fst he
  have h2 : o.getD (0, 0) = y := by
    cases o with
    | none => exact prD_inj h1
    | some p => exact prD_inj h1
  rw [h2]
  rfl
theorem zero_pr (w : World) : (zeroValue 133).run Try.prog w = .ok (.agg #[.int .i64 0, .int .i64 0]) w := by kernel_rfl
theorem zero_int (w : World) : (zeroValue 3).run Try.prog w = .ok (.int .i64 0) w := by kernel_rfl
set_option maxRecDepth 100000 in
set_option maxHeartbeats 4000000 in
theorem made_any (r : Int) (w : World) (h0 : 0 ≤ r) (h1 : r ≤ 1114111) :
    Calls Try.prog 89 #[.int .i64 r] w fun e w' => e = .returned (madeV r) ∧ Below w.heap.size w w' := by
  have HH := hide (fun W => hangul_any r W)
  unfold madeV Nf.made
  cases hg : Nf.hangul r with
  | true =>
    rw [hg] at HH
    rw [if_pos rfl]
    have hr := of_decide_eq_true hg
    obtain ⟨n, hn⟩ : ∃ n : Nat, r = 44032 + n := ⟨(r - 44032).toNat, by omega⟩
    subst hn
    have hw : IntKind.i64.wrap (44032 + (n : Int) - 44032) = (n : Int) := by rw [IntWalk.i64_in _ (by omega)]; omega
    have hm : Int.tmod (n : Int) 28 = ((n % 28 : Nat) : Int) := by rw [Int.tmod_eq_emod_of_nonneg (by omega)]; omega
    have e1 : (44032 + (n : Int) - 0xAC00) % 28 = ((n % 28 : Nat) : Int) := by omega
    have e2 : (44032 + (n : Int) - 0xAC00) / 28 = ((n / 28 : Nat) : Int) := by omega
    rw [e1, e2]
    obtain ⟨t, ht⟩ : ∃ t, n % 28 = t := ⟨_, rfl⟩
    rw [ht] at hm ⊢
    have htl : t < 28 := by omega
    by_cases hp : 0 < t
    · rw [if_pos (by omega)]
      have hp2 : (0 : Int) < (t : Int) := by omega
      have hq := hr
      clear hg hr e1 e2 ht
      go_enter Try.func89, Try.ntmps89
      go_wp2_with fail
      refine cq (HH.out _) ?_
      go_wp2
      go_ret3
      exact ⟨rfl, Below.refl _ _⟩
    · have ht0 : t = 0 := by omega
      subst ht0
      rw [if_neg (by omega)]
      have hd : Int.tdiv (n : Int) 28 = ((n / 28 : Nat) : Int) := by rw [Int.tdiv_eq_ediv_of_nonneg (by omega)]; omega
      obtain ⟨k, hk⟩ : ∃ k, n / 28 = k := ⟨_, rfl⟩
      rw [hk] at hd ⊢
      have hkl : k < 400 := by omega
      have hd2 : Int.tdiv (k : Int) 21 = ((k / 21 : Nat) : Int) := by rw [Int.tdiv_eq_ediv_of_nonneg (by omega)]; omega
      have hm2 : Int.tmod (k : Int) 21 = ((k % 21 : Nat) : Int) := by rw [Int.tmod_eq_emod_of_nonneg (by omega)]; omega
      have e3 : (k : Int) / 21 = ((k / 21 : Nat) : Int) := by omega
      have e4 : (k : Int) % 21 = ((k % 21 : Nat) : Int) := by omega
      rw [e3, e4]
      obtain ⟨a, ha⟩ : ∃ a, k / 21 = a := ⟨_, rfl⟩
      obtain ⟨b, hb⟩ : ∃ b, k % 21 = b := ⟨_, rfl⟩
      rw [ha] at hd2 ⊢
      rw [hb] at hm2 ⊢
      have hal : a < 20 := by omega
      have hbl : b < 21 := by omega
      clear hg hr e1 e2 e3 e4 ht hk ha hb
      go_enter Try.func89, Try.ntmps89
      go_wp2_with fail
      refine cq (HH.out _) ?_
      go_wp2
      go_ret3
      exact ⟨rfl, Below.refl _ _⟩
  | false =>
    rw [hg] at HH
    rw [if_neg (by simp)]
    have HT := hide (fun W => table_any W)
    have HD := hide (fun W => doubles_any W)
    have hwr : (Lit.int .i64 r).wf = true := WalkArith.wf_i64 (by omega)
    cases hm : Nf.lookM r Nf.table with
    | some p =>
      obtain ⟨pa, pb⟩ := p
      clear hg
      go_enter Try.func89, Try.ntmps89
      go_wp2_with fail
      refine cq (HH.out _) ?_
      go_wp2_with fail
      refine (HT.out _).mono ?_
      rintro e w1 ⟨m, q, n, n', D, D', rfl, hp, hq, b1⟩
      have HQ := hide hq
      have B1 := hide b1
      have hfl := field_made (.map (some m)) (.map (some q)) w1
      clear hp hq b1
      go_wp2_with (at_lookup; go_loud (refine wpList_lookup_own_ok _ rfl _ _ 129 rfl 3 133 law_int Try.underlying129 pairElem (zero_pr _) (prD (0, 0)) [] (pairElem_mk (0, 0)) q n' D' rfl HQ.out.own _ _ (by rfl) (Maps.keyOf_int_mk Try.underlying3 hwr) ?_); intro v ps hv; rw [HQ.out.at_, hm] at hv; have hv2 := pair_of (o := some (pa, pb)) hv; clear hv; subst hv2; rw [HQ.out.has, hm]; dsimp only [Option.getD_some, Option.isSome_some])
      go_wp2_with fail
      have B2 := hide (B1.out.trans ((below_alloc w1 (.cells #[.int .i64 pa, .int .i64 pb] 133)).mono B1.out.size))
      have hk := Blk.new w1 133 #[.int .i64 pa, .int .i64 pb]
      have c0 := hk.cell 0
      have c1 := hk.cell 1
      simp only [List.getElem?_toArray, List.getElem?_cons_zero, List.getElem?_cons_succ] at c0 c1
      clear hk
      generalize w1.alloc (.cells #[.int .i64 pa, .int .i64 pb] 133) = W at B2 c0 c1 ⊢
      go_region
      go_wp2
      go_ret3
      exact ⟨rfl, B2.out.drew⟩
    | none =>
      clear hg
      go_enter Try.func89, Try.ntmps89
      go_wp2_with fail
      refine cq (HH.out _) ?_
      go_wp2_with fail
      refine (HT.out _).mono ?_
      rintro e w1 ⟨m, q, n, n', D, D', rfl, hp, hq, b1⟩
      have HQ := hide hq
      have B1 := hide b1
      have hfl := field_made (.map (some m)) (.map (some q)) w1
      clear hp hq b1
      go_wp2_with (at_lookup; go_loud (refine wpList_lookup_own_ok _ rfl _ _ 129 rfl 3 133 law_int Try.underlying129 pairElem (zero_pr _) (prD (0, 0)) [] (pairElem_mk (0, 0)) q n' D' rfl HQ.out.own _ _ (by rfl) (Maps.keyOf_int_mk Try.underlying3 hwr) ?_); intro v ps hv; rw [HQ.out.at_, hm] at hv; have hv2 := pair_of (o := none) hv; clear hv; subst hv2; rw [HQ.out.has, hm]; dsimp only [Option.getD_none, Option.isSome_none])
      go_wp2_with fail
      refine (HD.out _).mono ?_
      rintro e w2 ⟨b, nb, Db, rfl, hd, b2⟩
      have HDm := hide hd
      have B2 := hide ((B1.out.trans ((below_alloc w1 (.cells #[.int .i64 0, .int .i64 0] 133)).mono B1.out.size)).trans (b2.mono (by rw [World.size_alloc]; exact Nat.le_succ_of_le B1.out.size)))
      clear hd b2
      cases hdl : Nf.lookD r Nf.doubles with
      | some a0 =>
        go_wp2_with (at_lookup; refine wpList_lookup_own_ok_int _ rfl _ _ 146 rfl 3 3 .i64 law_int Try.underlying146 Try.underlying3 (zero_int _) b nb Db rfl HDm.out.own _ _ (by rfl) (Maps.keyOf_int_mk Try.underlying3 hwr) ?_; intro cv hv _; rw [HDm.out.at_, hdl] at hv; injection hv with hv; injection hv with _ hv; subst hv; rw [HDm.out.has, hdl]; dsimp only [Option.getD_some, Option.isSome_some])
        go_ret3
        exact ⟨rfl, B2.out⟩
      | none =>
        go_wp2_with (at_lookup; refine wpList_lookup_own_ok_int _ rfl _ _ 146 rfl 3 3 .i64 law_int Try.underlying146 Try.underlying3 (zero_int _) b nb Db rfl HDm.out.own _ _ (by rfl) (Maps.keyOf_int_mk Try.underlying3 hwr) ?_; intro cv hv _; rw [HDm.out.at_, hdl] at hv; injection hv with hv; injection hv with _ hv; subst hv; rw [HDm.out.has, hdl]; dsimp only [Option.getD_none, Option.isSome_none])
        go_ret3
        exact ⟨rfl, B2.out⟩
end Go.Proofs.Ytheaknghgpafpaa
namespace Go.Proofs.Ytheaknghgpafpaa
open Go.RowKit Go.WideShapes

def wholeV (a b : Int) : Value := match Nf.whole a b with
  | some v => .tuple #[.int .i64 v, .bool true]
  | none => .tuple #[.int .i64 0, .bool false]
theorem field_whole (x y : Value) (w : World) : (Instr.field 131 (.agg #[x, y]) 0).run Try.prog w = .ok x w := by kernel_rfl
set_option maxRecDepth 100000 in
set_option maxHeartbeats 4000000 in
theorem whole_any (a b : Int) (w : World) (a0 : 0 ≤ a) (a1 : a ≤ 1114111) (b0 : 0 ≤ b) (b1 : b ≤ 1114111) :
    Calls Try.prog 69 #[.int .i64 a, .int .i64 b] w fun e w' => e = .returned (wholeV a b) ∧ Below w.heap.size w w' := by
  have HH := hide (fun W => hangul_any a W)
  have H1 := hide (fun W => in_any a 4352 19 W (by decide))
  have H2 := hide (fun W => in_any b 4449 21 W (by decide))
  have H3 := hide (fun W => in_any b 4520 27 W (by decide))
  have HT := hide (fun W => table_any W)
  have hwa : (Lit.int .i64 a).wf = true := WalkArith.wf_i64 (by omega)
  have hwb : (Lit.int .i64 b).wf = true := WalkArith.wf_i64 (by omega)
  have hw1 : IntKind.i64.wrap (a - 44032) = a - 44032 := IntWalk.i64_in _ (by omega)
  unfold wholeV Nf.whole
  cases p1 : decide ((4352 : Int) ≤ a ∧ a < 4352 + 19) with
  | true =>
    rw [p1] at H1
    have q1 := of_decide_eq_true p1
    have hgf : Nf.hangul a = false := decide_eq_false (by omega)
    rw [hgf] at HH
    cases p2 : decide ((4449 : Int) ≤ b ∧ b < 4449 + 21) with
    | true =>
      rw [p2] at H2
      have q2 := of_decide_eq_true p2
      rw [if_pos ⟨q1, q2⟩]
      have e1 : IntKind.i64.wrap (a - 4352) = a - 4352 := IntWalk.i64_in _ (by omega)
      have e2 : IntKind.i64.wrap ((a - 4352) * 21) = (a - 4352) * 21 := IntWalk.i64_in _ (by omega)
      have e3 : IntKind.i64.wrap ((a - 4352) * 21 + b) = (a - 4352) * 21 + b := IntWalk.i64_in _ (by omega)
      have e4 : IntKind.i64.wrap ((a - 4352) * 21 + b - 4449) = (a - 4352) * 21 + b - 4449 := IntWalk.i64_in _ (by omega)
      have e5 : IntKind.i64.wrap (((a - 4352) * 21 + b - 4449) * 28) = ((a - 4352) * 21 + b - 4449) * 28 := IntWalk.i64_in _ (by omega)
      have e6 : IntKind.i64.wrap (44032 + ((a - 4352) * 21 + b - 4449) * 28) = 44032 + ((a - 4352) * 21 + b - 4449) * 28 := IntWalk.i64_in _ (by omega)
      clear q1 q2 p1 p2
      go_enter Try.func69, Try.ntmps69
      go_wp2_with fail
      refine cq (H1.out _) ?_
      go_wp2_with fail
      refine cq (H2.out _) ?_
      go_wp2
      go_ret2
      exact ⟨rfl, Below.refl _ _⟩
    | false =>
      rw [p2] at H2
      have q2 := of_decide_eq_false p2
      rw [if_neg (fun h => q2 h.2), if_neg (by rw [hgf]; simp)]
      clear q1 q2 p1 p2 hgf
      go_enter Try.func69, Try.ntmps69
      go_wp2_with fail
      refine cq (H1.out _) ?_
      go_wp2_with fail
      refine cq (H2.out _) ?_
      go_wp2_with fail
      refine cq (HH.out _) ?_
      go_wp2_with fail
      refine (HT.out _).mono ?_
      rintro e w1 ⟨m, q, n, n', D, D', rfl, hp, hq, b1⟩
      have HP := hide hp
      have B1 := hide b1
      have hfl := field_whole (.map (some m)) (.map (some q)) w1
      clear hp hq b1
      cases hl : Nf.lookW (a, b) Nf.table with
      | some v =>
        go_wp2_with (at_lookup; refine wpList_lookup_own_ok_int _ rfl _ _ 128 rfl 133 3 .i64 law_pr Try.underlying128 Try.underlying3 (zero_int _) m n D rfl HP.out.own _ _ (by rfl) (keyOf_pr (x := (a, b)) ⟨hwa, hwb⟩) ?_; intro cv hv _; rw [HP.out.at_ _ ⟨hwa, hwb⟩, hl] at hv; injection hv with hv; injection hv with _ hv; subst hv; rw [HP.out.has _ ⟨hwa, hwb⟩, hl]; dsimp only [Option.getD_some, Option.isSome_some])
        go_ret2
        exact ⟨rfl, B1.out⟩
      | none =>
        go_wp2_with (at_lookup; refine wpList_lookup_own_ok_int _ rfl _ _ 128 rfl 133 3 .i64 law_pr Try.underlying128 Try.underlying3 (zero_int _) m n D rfl HP.out.own _ _ (by rfl) (keyOf_pr (x := (a, b)) ⟨hwa, hwb⟩) ?_; intro cv hv _; rw [HP.out.at_ _ ⟨hwa, hwb⟩, hl] at hv; injection hv with hv; injection hv with _ hv; subst hv; rw [HP.out.has _ ⟨hwa, hwb⟩, hl]; dsimp only [Option.getD_none, Option.isSome_none])
        go_ret2
        exact ⟨rfl, B1.out⟩
  | false =>
    rw [p1] at H1
    have q1 := of_decide_eq_false p1
    rw [if_neg (fun h => q1 h.1)]
    cases hg : Nf.hangul a with
    | false =>
      rw [hg] at HH
      rw [if_neg (by simp)]
      clear q1 p1 hg
      go_enter Try.func69, Try.ntmps69
      go_wp2_with fail
      refine cq (H1.out _) ?_
      go_wp2_with fail
      refine cq (HH.out _) ?_
      go_wp2_with fail
      refine (HT.out _).mono ?_
      rintro e w1 ⟨m, q, n, n', D, D', rfl, hp, hq, b1⟩
      have HP := hide hp
      have B1 := hide b1
      have hfl := field_whole (.map (some m)) (.map (some q)) w1
      clear hp hq b1
      cases hl : Nf.lookW (a, b) Nf.table with
      | some v =>
        go_wp2_with (at_lookup; refine wpList_lookup_own_ok_int _ rfl _ _ 128 rfl 133 3 .i64 law_pr Try.underlying128 Try.underlying3 (zero_int _) m n D rfl HP.out.own _ _ (by rfl) (keyOf_pr (x := (a, b)) ⟨hwa, hwb⟩) ?_; intro cv hv _; rw [HP.out.at_ _ ⟨hwa, hwb⟩, hl] at hv; injection hv with hv; injection hv with _ hv; subst hv; rw [HP.out.has _ ⟨hwa, hwb⟩, hl]; dsimp only [Option.getD_some, Option.isSome_some])
        go_ret2
        exact ⟨rfl, B1.out⟩
      | none =>
        go_wp2_with (at_lookup; refine wpList_lookup_own_ok_int _ rfl _ _ 128 rfl 133 3 .i64 law_pr Try.underlying128 Try.underlying3 (zero_int _) m n D rfl HP.out.own _ _ (by rfl) (keyOf_pr (x := (a, b)) ⟨hwa, hwb⟩) ?_; intro cv hv _; rw [HP.out.at_ _ ⟨hwa, hwb⟩, hl] at hv; injection hv with hv; injection hv with _ hv; subst hv; rw [HP.out.has _ ⟨hwa, hwb⟩, hl]; dsimp only [Option.getD_none, Option.isSome_none])
        go_ret2
        exact ⟨rfl, B1.out⟩
    | true =>
      rw [hg] at HH
      have hr := of_decide_eq_true hg
      have hm : Int.tmod (a - 44032) 28 = (a - 44032) % 28 := Int.tmod_eq_emod_of_nonneg (by omega)
      cases p2 : decide ((a - 44032) % 28 = 0) with
      | false =>
        have q2 := of_decide_eq_false p2
        rw [if_neg (fun h => q2 h.2.1)]
        obtain ⟨t, ht⟩ : ∃ t, (a - 44032) % 28 = t := ⟨_, rfl⟩
        rw [ht] at hm q2
        have ht2 : 0 ≤ t ∧ t < 28 := by omega
        clear q1 p1 hg hr p2 ht
        go_enter Try.func69, Try.ntmps69
        go_wp2_with fail
        refine cq (H1.out _) ?_
        go_wp2_with fail
        refine cq (HH.out _) ?_
        go_wp2_with fail
        refine (HT.out _).mono ?_
        rintro e w1 ⟨m, q, n, n', D, D', rfl, hp, hq, b1⟩
        have HP := hide hp
        have B1 := hide b1
        have hfl := field_whole (.map (some m)) (.map (some q)) w1
        clear hp hq b1
        cases hl : Nf.lookW (a, b) Nf.table with
        | some v =>
          go_wp2_with (at_lookup; refine wpList_lookup_own_ok_int _ rfl _ _ 128 rfl 133 3 .i64 law_pr Try.underlying128 Try.underlying3 (zero_int _) m n D rfl HP.out.own _ _ (by rfl) (keyOf_pr (x := (a, b)) ⟨hwa, hwb⟩) ?_; intro cv hv _; rw [HP.out.at_ _ ⟨hwa, hwb⟩, hl] at hv; injection hv with hv; injection hv with _ hv; subst hv; rw [HP.out.has _ ⟨hwa, hwb⟩, hl]; dsimp only [Option.getD_some, Option.isSome_some])
          go_ret2
          exact ⟨rfl, B1.out⟩
        | none =>
          go_wp2_with (at_lookup; refine wpList_lookup_own_ok_int _ rfl _ _ 128 rfl 133 3 .i64 law_pr Try.underlying128 Try.underlying3 (zero_int _) m n D rfl HP.out.own _ _ (by rfl) (keyOf_pr (x := (a, b)) ⟨hwa, hwb⟩) ?_; intro cv hv _; rw [HP.out.at_ _ ⟨hwa, hwb⟩, hl] at hv; injection hv with hv; injection hv with _ hv; subst hv; rw [HP.out.has _ ⟨hwa, hwb⟩, hl]; dsimp only [Option.getD_none, Option.isSome_none])
          go_ret2
          exact ⟨rfl, B1.out⟩
      | true =>
        have q2 := of_decide_eq_true p2
        rw [q2] at hm
        cases p3 : decide ((4520 : Int) ≤ b ∧ b < 4520 + 27) with
        | true =>
          rw [p3] at H3
          have q3 := of_decide_eq_true p3
          rw [if_pos ⟨rfl, q2, q3⟩]
          have e1 : IntKind.i64.wrap (a + b) = a + b := IntWalk.i64_in _ (by omega)
          have e2 : IntKind.i64.wrap (a + b - 4519) = a + b - 4519 := IntWalk.i64_in _ (by omega)
          clear q1 p1 hg hr p2 q2 q3 p3
          go_enter Try.func69, Try.ntmps69
          go_wp2_with fail
          refine cq (H1.out _) ?_
          go_wp2_with fail
          refine cq (HH.out _) ?_
          go_wp2_with fail
          refine cq (H3.out _) ?_
          go_wp2
          go_ret2
          exact ⟨rfl, Below.refl _ _⟩
        | false =>
          rw [p3] at H3
          have q3 := of_decide_eq_false p3
          rw [if_neg (fun h => q3 h.2.2)]
          clear q1 p1 hg hr p2 q2 q3 p3
          go_enter Try.func69, Try.ntmps69
          go_wp2_with fail
          refine cq (H1.out _) ?_
          go_wp2_with fail
          refine cq (HH.out _) ?_
          go_wp2_with fail
          refine cq (H3.out _) ?_
          go_wp2_with fail
          refine (HT.out _).mono ?_
          rintro e w1 ⟨m, q, n, n', D, D', rfl, hp, hq, b1⟩
          have HP := hide hp
          have B1 := hide b1
          have hfl := field_whole (.map (some m)) (.map (some q)) w1
          clear hp hq b1
          cases hl : Nf.lookW (a, b) Nf.table with
          | some v =>
            go_wp2_with (at_lookup; refine wpList_lookup_own_ok_int _ rfl _ _ 128 rfl 133 3 .i64 law_pr Try.underlying128 Try.underlying3 (zero_int _) m n D rfl HP.out.own _ _ (by rfl) (keyOf_pr (x := (a, b)) ⟨hwa, hwb⟩) ?_; intro cv hv _; rw [HP.out.at_ _ ⟨hwa, hwb⟩, hl] at hv; injection hv with hv; injection hv with _ hv; subst hv; rw [HP.out.has _ ⟨hwa, hwb⟩, hl]; dsimp only [Option.getD_some, Option.isSome_some])
            go_ret2
            exact ⟨rfl, B1.out⟩
          | none =>
            go_wp2_with (at_lookup; refine wpList_lookup_own_ok_int _ rfl _ _ 128 rfl 133 3 .i64 law_pr Try.underlying128 Try.underlying3 (zero_int _) m n D rfl HP.out.own _ _ (by rfl) (keyOf_pr (x := (a, b)) ⟨hwa, hwb⟩) ?_; intro cv hv _; rw [HP.out.at_ _ ⟨hwa, hwb⟩, hl] at hv; injection hv with hv; injection hv with _ hv; subst hv; rw [HP.out.has _ ⟨hwa, hwb⟩, hl]; dsimp only [Option.getD_none, Option.isSome_none])
            go_ret2
            exact ⟨rfl, B1.out⟩
end Go.Proofs.Ytheaknghgpafpaa
namespace Go.Proofs.Ytheaknghgpafpaa
open Go
namespace Tk
abbrev L := List UInt8
/-- White space. -/
def sp (c : UInt8) : Bool := c == 32 || c == 9 || c == 10 || c == 13
def nsp (l : L) : Nat := (l.takeWhile sp).length
def within (r a b : Int) : Bool := decide (a ≤ r) && decide (r ≤ b)
def charOk (r : Int) : Bool := within r 9 10 || within r 13 13 || within r 32 55295 || within r 57344 65533 || within r 65536 1114111
def firstOk (r : Int) : Bool :=
  within r 97 122 || within r 65 90 || within r 95 95 || within r 192 214 || within r 216 246 || within r 248 767 || within r 880 893 || within r 895 8191 || within r 8204 8205 || within r 8304 8591 ||
    within r 11264 12271 || within r 12289 55295 || within r 63744 64975 || within r 65008 65533 || within r 65536 983039
def furtherOk (r : Int) : Bool := firstOk r || (within r 45 46 || within r 48 57 || within r 183 183 || within r 768 879 || within r 8255 8256)
/-- May a scalar stand there in a name? -/
def nameOk (at_ : Nat) (r : Int) : Bool := if at_ = 0 then firstOk r else furtherOk r || decide (r = 58)
/-- Where the first piece stands that is not as asked. -/
def stop (ok : Nat → Int → Bool) (l : L) : Option Nat := ((Utf.pieces l).find? fun p => !ok p.1 p.2).map (·.1)
/-- How many bytes a name at the front has. -/
def take (l : L) : Nat := (stop nameOk l).getD l.length
/-- Of Chars alone. -/
def fine (l : L) : Bool := (Utf.pieces l).all fun p => charOk p.2
def bad (l : L) : Int := match stop (fun _ r => charOk r) l with
  | some k => k
  | none => -1
def till (p l : L) : Option Nat := if Lib.index l p < 0 then none else some (Lib.index l p).toNat
/-- A quoted value, and how many bytes were read. -/
def quoted : L → Option (L × Nat)
  | [] => none
  | q :: r => if q = 34 ∨ q = 39 then (till [q] r).map fun k => (r.take k, k + 2) else none
/-- =, and a quoted value. -/
def eqv (l : L) : Option (L × Nat) :=
  match l.drop (nsp l) with
  | [] => none
  | c :: r => if c = 61 then (quoted (r.drop (nsp r))).map fun x => (x.1, nsp l + 1 + nsp r + x.2) else none
/-- A part of the declaration. -/
def part (name l : L) : Option (L × Nat) :=
  if nsp l = 0 then none else if name.isPrefixOf (l.drop (nsp l)) then (eqv (l.drop (nsp l + name.length))).map fun x => (x.1, nsp l + name.length + x.2) else none
def digit (c : UInt8) : Bool := decide (48 ≤ c) && decide (c ≤ 57)
def letter (c : UInt8) : Bool := (decide (65 ≤ c) && decide (c ≤ 90)) || (decide (97 ≤ c) && decide (c ≤ 122))
def sVersion : L := [118, 101, 114, 115, 105, 111, 110]
def sEncoding : L := [101, 110, 99, 111, 100, 105, 110, 103]
def sAlone : L := [115, 116, 97, 110, 100, 97, 108, 111, 110, 101]
def version (v : L) : Bool := [49, 46].isPrefixOf v && !(v.drop 2).isEmpty && (v.drop 2).all digit
def encTail (c : UInt8) : Bool := letter c || digit c || c == 46 || c == 95 || c == 45
def encoding : L → Bool
  | [] => false
  | c :: r => letter c && r.all encTail
def alone (v : L) : Bool := decide (v = [121, 101, 115]) || decide (v = [110, 111])
/-- A part that may be left out: how many bytes were read. -/
def opt (name : L) (may : L → Bool) (l : L) : Option Nat :=
  match part name l with
  | none => some 0
  | some x => if may x.1 then some x.2 else none
/-- The declaration behind its five bytes. -/
def decl (l : L) : Option Nat :=
  (part sVersion l).bind fun x => if version x.1 then
    (opt sEncoding encoding (l.drop x.2)).bind fun a => (opt sAlone alone (l.drop (x.2 + a))).bind fun b =>
      if [63, 62].isPrefixOf ((l.drop (x.2 + a + b)).drop (nsp (l.drop (x.2 + a + b)))) then some (x.2 + a + b + nsp (l.drop (x.2 + a + b)) + 2) else none
  else none
def lower (c : UInt8) : UInt8 := if 65 ≤ c ∧ c ≤ 90 then c + 32 else c
def xml (n : L) : Bool := decide (n.map lower = [120, 109, 108])
/-- An instruction behind its <?. -/
def instr (l : L) : Option Nat :=
  if take l = 0 ∨ xml (l.take (take l)) = true then none
  else if [63, 62].isPrefixOf (l.drop (take l)) then some (take l + 2)
  else (till [63, 62] (l.drop (take l))).bind fun k => if ((l.drop (take l)).head?.map sp).getD false then some (take l + k + 2) else none
/-- A comment behind its <!--. -/
def comment (l : L) : Option Nat := (till [45, 45] l).bind fun k => if [62].isPrefixOf (l.drop (k + 2)) then some (k + 3) else none

structure At where
  name : L
  value : L
  at_ : Nat
  deriving DecidableEq
structure Tok where
  kind : Int
  name : L
  attrs : List At
  empty : Bool
  text : L
  at_ : Nat
  end_ : Nat
  deriving DecidableEq
/-- The attributes and the end of a start, so many rounds at most; 'off': where the bytes stand. -/
def attrs : Nat → Nat → L → Option (List At × Bool × Nat)
  | 0, _, _ => none
  | k + 1, off, l =>
    if [47, 62].isPrefixOf (l.drop (nsp l)) then some ([], true, off + nsp l + 2)
    else if [62].isPrefixOf (l.drop (nsp l)) then some ([], false, off + nsp l + 1)
    else if nsp l = 0 then none
    else
      let r := l.drop (nsp l)
      let m := take r
      if m = 0 then none
      else (eqv (r.drop m)).bind fun x => if (60 : UInt8) ∈ x.1 then none
        else (attrs k (off + nsp l + m + x.2) (r.drop (m + x.2))).map fun y => (⟨r.take m, x.1, off + nsp l⟩ :: y.1, y.2)
def sComment : L := [60, 33, 45, 45]
def sData : L := [60, 33, 91, 67, 68, 65, 84, 65, 91]
def sXml : L := [60, 63, 120, 109, 108]
/-- The piece that stands at byte 'at_' of a text (the bytes from there on), its Chars not looked at. -/
def start (at_ : Nat) (l : L) : Option Tok :=
  if take l.tail = 0 then none
  else (attrs l.length (at_ + 1 + take l.tail) (l.drop (1 + take l.tail))).map fun x => ⟨0, l.tail.take (take l.tail), x.1, x.2.1, [], at_, x.2.2⟩
def end_ (at_ : Nat) (l : L) : Option Tok :=
  let r := l.drop 2
  if take r = 0 then none
  else if [62].isPrefixOf ((r.drop (take r)).drop (nsp (r.drop (take r)))) then some ⟨1, r.take (take r), [], false, [], at_, at_ + 2 + take r + nsp (r.drop (take r)) + 1⟩ else none
def text (at_ : Nat) (l : L) : Option Tok :=
  let n := (till [60] l).getD l.length
  if Lib.index (l.take n) [93, 93, 62] < 0 then some ⟨2, [], [], false, l.take n, at_, at_ + n⟩ else none
def skip (at_ : Nat) (l : L) : Option Tok :=
  if sComment.isPrefixOf l then (comment (l.drop 4)).map fun n => ⟨4, [], [], false, [], at_, at_ + 4 + n⟩
  else if sData.isPrefixOf l then (till [93, 93, 62] (l.drop 9)).map fun k => ⟨3, [], [], false, (l.drop 9).take k, at_, at_ + 9 + k + 3⟩
  else if at_ = 0 ∧ sXml.isPrefixOf l = true ∧ ((l.drop 5).head?.map sp).getD false = true then (decl (l.drop 5)).map fun n => ⟨4, [], [], false, [], at_, at_ + 5 + n⟩
  else if [60, 63].isPrefixOf l then (instr (l.drop 2)).map fun n => ⟨4, [], [], false, [], at_, at_ + 2 + n⟩
  else none
def piece (at_ : Nat) (l : L) : Option Tok :=
  if [60, 47].isPrefixOf l then end_ at_ l
  else if [60, 33].isPrefixOf l || [60, 63].isPrefixOf l then skip at_ l
  else if [60].isPrefixOf l then start at_ l
  else text at_ l
/-- The token that stands at byte 'at_'. -/
def one (at_ : Nat) (l : L) : Option Tok := (piece at_ l).bind fun t => if fine (l.take (t.end_ - at_)) then some t else none
end Tk
end Go.Proofs.Ytheaknghgpafpaa
namespace Go.Proofs.Ytheaknghgpafpaa
open Go.RowKit Tk

end Go.Proofs.Ytheaknghgpafpaa
namespace Go.Proofs.Ytheaknghgpafpaa
open Go

section
variable {P : Program} {l : List Oper} {Q : Exit → Act → World → Prop} {md : Region.Mode} {S : World → Prop}
theorem put_some {a : Act} {d : Option Tmp} {k : Tmp} {v : Value} (hd : d = some k) : a.put d v = { tmps := a.tmps.setIfInBounds k v, defers := a.defers } := by subst hd; rfl
theorem held_take {i d : Nat} {oi : Oper} {v : Value} {fuel : Nat} {listed : Array Bool} {a : Act} {w : World} (hi : l[i]? = some oi) (hd : oi.dst = some d)
    (hs : Region.noSelect l.toArray = true) (hf : Region.free md l.toArray listed i = true) (hr : (Region.ready md l.toArray listed).contains i = true)
    (hQ : ∀ c a w, Q (.panic c) (a.put oi.dst v) w → Q (.panic c) a w) (hw : Region.wanted oi (yielded l.toArray a.tmps) = true) (hS : S w) (hy : ∀ w, S w → (execOp a.eval oi).run P w = .ok (.value v) w)
    (h : wpAnyH P md l.toArray Q S fuel (listed.setIfInBounds i true) { tmps := a.tmps.setIfInBounds d v, defers := a.defers } w) : wpAnyH P md l.toArray Q S (fuel + 1) listed a w :=
  wpAnyH_take (by simpa using hi) hs hf hr hQ (Or.inl ⟨hw, hy⟩) hS (by rw [put_some hd]; exact h)
theorem held_call {i : Nat} {oi : Oper} {fuel : Nat} {listed : Array Bool} {a : Act} {w : World} (hi : l[i]? = some oi) (hr : Region.ready md l.toArray listed = [i]) (hw : Region.wanted oi (yielded l.toArray a.tmps) = true)
    (h : ∀ K' : Act → World → Prop, Shut (∀ a w, S w → (S w → wpAnyH P md l.toArray Q S fuel (listed.setIfInBounds i true) a w) → K' a w) → Oper.wp P oi a w K' Q) : wpAnyH P md l.toArray Q S (fuel + 1) listed a w :=
  wpAnyH_ready hr (by simp) (AllReadyH.cons (o := oi) (by simpa using hi) (fun K hK => by rw [if_pos hw]; exact h K hK) AllReadyH.nil)
end
end Go.Proofs.Ytheaknghgpafpaa
namespace Go.Proofs.Ytheaknghgpafpaa
open Go.RowKit Tk

theorem idx_run (s : ByteArray) (k : Nat) (c : UInt8) (h : s.data.toList[k]? = some c) (w : World) : (Instr.index 9 (.string s) (.int .i64 (k : Int))).run Try.prog w = .ok (.int .u8 (c.toNat : Nat)) w := by
  obtain ⟨hk, hc⟩ := List.getElem?_eq_some_iff.1 h
  rw [size_list] at hk
  have hc' : s[k] = c := hc
  go_simp
theorem lt_of_cell {w : World} {a : Addr} {v : Value} (h : w.cell? a = some v) : a.block < w.heap.size := by
  by_cases hb : a.block < w.heap.size
  · exact hb
  · exfalso
    have hn : w.heap[a.block]? = none := Array.getElem?_eq_none (by omega)
    unfold World.cell? at h
    simp [hn] at h
end Go.Proofs.Ytheaknghgpafpaa
