/- NFC: the tables' small functions. Printed by genNfA.py. · NFC: keys that are pairs of numbers; the elements that are pairs. · NFC: the table of wholes: a row put into it. · NFC: the table turned about. -/
import Derived.Test.YtlcfakmbcfdgbaaGreatWt00
import Derived.Test.YtlcfakmbcfdgbaaGreatWt01
import Derived.Maps.Own
import Derived.Maps.OwnOps
import Derived.Maps.OwnSet
import Derived.Maps.RangeWalk
import Derived.Maps.Ext
import Derived.Maps.Views
import Derived.DeepKeys4
import Derived.Deep.LoopGhost
import Derived.Laws.RangeAny
import Derived.Lib.OthersKept
import Derived.WalkSmall
import Derived.DataShut
set_option linter.unusedSimpArgs false
set_option linter.unusedVariables false
namespace Go.Proofs.YtlcfakmbcfdgbaaGreat
open Go.RowKit

set_option maxHeartbeats 4000000 in
theorem class_any (r : Int) (w : World) : Calls Tryz.prog 107 #[.int .i64 r] w fun e w' => e = .returned (.int .i64 (Nf.cls r)) ∧ w' = w := by
  obtain ⟨c, hc⟩ : ∃ c, Nf.cls r = c := ⟨_, rfl⟩
  rw [hc]
  unfold Nf.cls at hc
  by_cases h1 : r < 0x300 ∨ r > 0x345
  · rw [if_pos h1] at hc
    subst hc
    rcases h1 with h1 | h1
    · skip
      have g0 : r < 768 := by omega
      clear h1
      go_enter Tryz.func107, Tryz.ntmps107
      go_wp2
      go_ret
      exact ⟨rfl, rfl⟩
    · skip
      have g0 : ¬ r < 768 := by omega
      have g1 : 837 < r := by omega
      clear h1
      go_enter Tryz.func107, Tryz.ntmps107
      go_wp2
      go_ret
      exact ⟨rfl, rfl⟩
  rw [if_neg h1] at hc
  by_cases h2 : r ≤ 0x314 ∨ r = 0x340 ∨ r = 0x341
  · rw [if_pos h2] at hc
    subst hc
    rcases h2 with h2 | h2 | h2
    · skip
      have g0 : ¬ r < 768 := by omega
      have g1 : ¬ 837 < r := by omega
      have g2 : r ≤ 788 := by omega
      clear h1 h2
      go_enter Tryz.func107, Tryz.ntmps107
      go_wp2
      go_ret
      exact ⟨rfl, rfl⟩
    · subst h2
      clear h1
      go_enter Tryz.func107, Tryz.ntmps107
      go_wp2
      go_ret
      exact ⟨rfl, rfl⟩
    · subst h2
      clear h1
      go_enter Tryz.func107, Tryz.ntmps107
      go_wp2
      go_ret
      exact ⟨rfl, rfl⟩
  rw [if_neg h2] at hc
  by_cases h3 : r = 0x315
  · rw [if_pos h3] at hc
    subst hc
    subst h3
    clear h1 h2
    go_enter Tryz.func107, Tryz.ntmps107
    go_wp2
    go_ret
    exact ⟨rfl, rfl⟩
  rw [if_neg h3] at hc
  by_cases h4 : r ≤ 0x319 ∨ (r ≥ 0x323 ∧ r ≤ 0x326)
  · rw [if_pos h4] at hc
    subst hc
    rcases h4 with h4 | h4
    · skip
      have g0 : ¬ r < 768 := by omega
      have g1 : ¬ 837 < r := by omega
      have g2 : ¬ r ≤ 788 := by omega
      have g3 : ¬ r = 832 := by omega
      have g4 : ¬ r = 833 := by omega
      have g5 : ¬ r = 789 := by omega
      have g6 : r ≤ 793 := by omega
      clear h1 h2 h3 h4
      go_enter Tryz.func107, Tryz.ntmps107
      go_wp2
      go_ret
      exact ⟨rfl, rfl⟩
    · skip
      have g0 : ¬ r < 768 := by omega
      have g1 : ¬ 837 < r := by omega
      have g2 : ¬ r ≤ 788 := by omega
      have g3 : ¬ r = 832 := by omega
      have g4 : ¬ r = 833 := by omega
      have g5 : ¬ r = 789 := by omega
      have g6 : ¬ r ≤ 793 := by omega
      have g7 : 803 ≤ r := by omega
      have g8 : r ≤ 806 := by omega
      clear h1 h2 h3 h4
      go_enter Tryz.func107, Tryz.ntmps107
      go_wp2
      go_ret
      exact ⟨rfl, rfl⟩
  rw [if_neg h4] at hc
  by_cases h5 : r = 0x31B
  · rw [if_pos h5] at hc
    subst hc
    subst h5
    clear h1 h2 h3 h4
    go_enter Tryz.func107, Tryz.ntmps107
    go_wp2
    go_ret
    exact ⟨rfl, rfl⟩
  rw [if_neg h5] at hc
  by_cases h6 : r = 0x327 ∨ r = 0x328
  · rw [if_pos h6] at hc
    subst hc
    rcases h6 with h6 | h6
    · subst h6
      clear h1 h2 h3 h4 h5
      go_enter Tryz.func107, Tryz.ntmps107
      go_wp2
      go_ret
      exact ⟨rfl, rfl⟩
    · subst h6
      clear h1 h2 h3 h4 h5
      go_enter Tryz.func107, Tryz.ntmps107
      go_wp2
      go_ret
      exact ⟨rfl, rfl⟩
  rw [if_neg h6] at hc
  by_cases h7 : r = 0x338
  · rw [if_pos h7] at hc
    subst hc
    subst h7
    clear h1 h2 h3 h4 h5 h6
    go_enter Tryz.func107, Tryz.ntmps107
    go_wp2
    go_ret
    exact ⟨rfl, rfl⟩
  rw [if_neg h7] at hc
  by_cases h8 : r = 0x345
  · rw [if_pos h8] at hc
    subst hc
    subst h8
    clear h1 h2 h3 h4 h5 h6 h7
    go_enter Tryz.func107, Tryz.ntmps107
    go_wp2
    go_ret
    exact ⟨rfl, rfl⟩
  rw [if_neg h8] at hc
  subst hc
  have g0 : ¬ r < 768 := by omega
  have g1 : ¬ 837 < r := by omega
  have g2 : ¬ r ≤ 788 := by omega
  have g3 : ¬ r = 832 := by omega
  have g4 : ¬ r = 833 := by omega
  have g5 : ¬ r = 789 := by omega
  have g6 : ¬ r ≤ 793 := by omega
  have g7 : ¬ r = 795 := by omega
  have g8 : ¬ r = 807 := by omega
  have g9 : ¬ r = 808 := by omega
  have g10 : ¬ r = 824 := by omega
  have g11 : ¬ r = 837 := by omega
  by_cases hx : 803 ≤ r
  · have g20 : ¬ r ≤ 806 := by omega
    clear h1 h2 h3 h4 h5 h6 h7 h8
    go_enter Tryz.func107, Tryz.ntmps107
    go_wp2
    go_ret
    exact ⟨rfl, rfl⟩
  · clear h1 h2 h3 h4 h5 h6 h7 h8
    go_enter Tryz.func107, Tryz.ntmps107
    go_wp2
    go_ret
    exact ⟨rfl, rfl⟩
theorem in_any (r a n : Int) (w : World) (h : IntKind.i64.wrap (a + n) = a + n) : Calls Tryz.prog 120 #[.int .i64 r, .int .i64 a, .int .i64 n] w fun e w' => e = .returned (.bool (decide (a ≤ r ∧ r < a + n))) ∧ w' = w := by
  by_cases h1 : a ≤ r
  · rw [show decide (a ≤ r ∧ r < a + n) = decide (r < a + n) by simp [h1]]
    go_enter Tryz.func120, Tryz.ntmps120
    go_wp2
    go_ret
    exact ⟨rfl, rfl⟩
  · rw [show decide (a ≤ r ∧ r < a + n) = false by simp [h1]]
    go_enter Tryz.func120, Tryz.ntmps120
    go_wp2
    go_ret
    exact ⟨rfl, rfl⟩
theorem hangul_any (r : Int) (w : World) : Calls Tryz.prog 121 #[.int .i64 r] w fun e w' => e = .returned (.bool (Nf.hangul r)) ∧ w' = w := by
  unfold Nf.hangul
  by_cases h1 : 44032 ≤ r
  · rw [show decide (0xAC00 ≤ r ∧ r < 0xAC00 + 11172) = decide (r < 55204) by simp [h1]]
    go_enter Tryz.func121, Tryz.ntmps121
    go_wp2
    go_ret
    exact ⟨rfl, rfl⟩
  · rw [show decide (0xAC00 ≤ r ∧ r < 0xAC00 + 11172) = false by simp [h1]]
    go_enter Tryz.func121, Tryz.ntmps121
    go_wp2
    go_ret
    exact ⟨rfl, rfl⟩
theorem byClass_any (a b : Int) (w : World) : Calls Tryz.prog 112 #[.int .i64 a, .int .i64 b] w fun e w' => e = .returned (.int .i64 (Nf.cls a - Nf.cls b)) ∧ w' = w := by
  have HA := hide (fun W => class_any a W)
  have HB := hide (fun W => class_any b W)
  have hw : IntKind.i64.wrap (Nf.cls a - Nf.cls b) = Nf.cls a - Nf.cls b := IntWalk.i64_in _ (by have := Nf.cls_le a; have := Nf.cls_le b; omega)
  generalize Nf.cls a = ca at *
  generalize Nf.cls b = cb at *
  go_enter Tryz.func112, Tryz.ntmps112
  go_wp2_with fail
  refine cq (HA.out _) ?_
  go_wp2_with fail
  refine cq (HB.out _) ?_
  go_wp2
  go_ret
  exact ⟨rfl, rfl⟩
end Go.Proofs.YtlcfakmbcfdgbaaGreat
namespace Go.Proofs.YtlcfakmbcfdgbaaGreat
open Go.RowKit Go.WideShapes

theorem laidOut_n : laidOutB Tryz.prog = true := by kernel_rfl
theorem row_pr : (138 : TypeId) < Tryz.prog.types.size := of_decide_eq_true (by kernel_rfl)
theorem at_pr : Tryz.prog.keyTypeAt 2 138 = true := by kernel_rfl
theorem key_pr : WideMaps.KeyLaw Tryz.prog 138 := deep_law_laid laidOut_n (m := 2) (by decide) row_pr at_pr (by rw [Tryz.underlying138])
theorem law_pr : Maps.Keyed Tryz.prog 138 := Maps.Keyed.of_law key_pr
theorem law_int : Maps.Keyed Tryz.prog 3 := Maps.int_keyed Tryz.underlying3
theorem cells_pr : Tryz.prog.cellsOf 138 = 2 := by kernel_rfl
theorem cells_i : Tryz.prog.cellsOf 3 = 1 := by kernel_rfl
theorem keyT_pr : Tryz.prog.keyType 138 = true := by kernel_rfl
theorem types_pr : ∃ m, Tryz.prog.types.size = m + 1 := by
  have h := row_pr
  generalize Tryz.prog.types.size = s at h
  cases s with
  | zero => cases h
  | succ m => exact ⟨m, rfl⟩
def prV (x : Int × Int) : Value := .agg #[.int .i64 x.1, .int .i64 x.2]
def klP (x : Int × Int) : Lit := .string (keyBytes [.int .i64 x.1, .int .i64 x.2])
def Wf2 (x : Int × Int) : Prop := (Lit.int .i64 x.1).wf = true ∧ (Lit.int .i64 x.2).wf = true
theorem keyOf_pr {x : Int × Int} (h : Wf2 x) : keyOf Tryz.prog 138 (prV x) = some (klP x) := by
  obtain ⟨m, hm⟩ := types_pr
  obtain ⟨h1, h2⟩ := h
  unfold keyOf prV
  simp only [Tryz.underlying138]
  rw [if_pos (by simp [keyT_pr, Value.formed, Tryz.underlying138, cells_pr]), hm]
  unfold Program.keyLits
  simp only [Tryz.underlying138, Value.cells]
  simp [cells_pr, cells_i, Program.keyLits, Tryz.underlying3, h1, h2, List.range_succ, List.mapM_cons, klP]
theorem prV_inj {x y : Int × Int} (h : prV x = prV y) : x = y := by
  unfold prV at h
  simp only [Value.agg.injEq, Array.mk.injEq, List.cons.injEq, Value.int.injEq, true_and, and_true] at h
  exact Prod.ext h.1 h.2
theorem klP_inj {x y : Int × Int} (hx : Wf2 x) (hy : Wf2 y) (h : klP x = klP y) : x = y :=
  prV_inj (key_pr.inj (keyOf_pr hx) (by rw [h]; exact keyOf_pr hy))
/-- The reader of elements that are pairs. -/
def pairE : List Value → Option (DataW Unit × List MemPlace)
  | [.int .i64 a, .int .i64 b] => some (.agg [.lit (.int .i64 a), .lit (.int .i64 b)], [])
  | _ => none
def pairElem (v : Value) : Option (DataW Unit × List MemPlace) := match v with
  | .agg cs => pairE cs.toList
  | _ => none
def prD (x : Int × Int) : DataW Unit := .agg [.lit (.int .i64 x.1), .lit (.int .i64 x.2)]
theorem pairElem_mk (x : Int × Int) : pairElem (prV x) = some (prD x, []) := rfl
theorem pairElem_inv {v : Value} {y : DataW Unit × List MemPlace} (h : pairElem v = some y) : ∃ x, v = prV x ∧ y = (prD x, []) := by
  unfold pairElem at h
  split at h
  · rename_i cs
    unfold pairE at h
    split at h
    · rename_i a b he
      cases h
      refine ⟨(a, b), ?_, rfl⟩
      unfold prV
      congr 1
      exact Array.ext' he
    · cases h
  · cases h
theorem two_cells {c : List Value} (h : c.length = 2) : ∃ c0 c1, c = [c0, c1] := by
  match c, h with
  | [c0, c1], _ => exact ⟨c0, c1, rfl⟩
theorem keyLit_int {m : Nat} {c : Value} {x : List Lit} (h : Tryz.prog.keyLits (m + 1) 3 [c] = some x) : ∃ z, c = .int .i64 z ∧ (Lit.int .i64 z).wf = true ∧ x = [.int .i64 z] := by
  cases c <;> simp [Program.keyLits, Tryz.underlying3] at h
  obtain ⟨⟨rfl, hw⟩, rfl⟩ := h
  exact ⟨_, rfl, hw, rfl⟩
theorem keyOf_pr_inv {key : Value} {kl : Lit} (h : keyOf Tryz.prog 138 key = some kl) : ∃ x, Wf2 x ∧ key = prV x ∧ kl = klP x := by
  obtain ⟨m, hm⟩ := types_pr
  unfold keyOf at h
  simp only [Tryz.underlying138] at h
  split at h
  · rename_i hf
    rw [hm] at h
    simp only [Bool.and_eq_true] at hf
    obtain ⟨ls, hl, rfl⟩ := Option.map_eq_some_iff.1 h
    have hsz : 2 ≤ Tryz.prog.types.size := Nat.succ_le_of_lt (Nat.lt_of_le_of_lt (Nat.succ_le_of_lt (Nat.pos_of_ne_zero (by decide : (138 : Nat) ≠ 0))) row_pr)
    obtain ⟨m', rfl⟩ : ∃ m', m = m' + 1 := ⟨m - 1, by omega⟩
    unfold Program.keyLits at hl
    simp only [Tryz.underlying138] at hl
    split at hl
    · rename_i hc
      rw [cells_pr] at hc
      have hfo := hf.2
      simp only [Value.formed, Tryz.underlying138, cells_pr] at hfo
      split at hfo
      · rename_i cs
        obtain ⟨c⟩ := cs
        simp only [Value.cells] at hc hl
        obtain ⟨c0, c1, rfl⟩ := two_cells hc
        simp only [cells_i, List.range_succ, List.range_zero, List.nil_append, List.cons_append, List.mapM_cons, List.mapM_nil] at hl
        simp only [Nat.zero_mul, Nat.one_mul, List.drop_zero, List.take_succ_cons, List.take_zero, List.drop_succ_cons] at hl
        obtain ⟨k0, h0⟩ := Option.map_eq_some_iff.1 hl
        obtain ⟨h0, hk⟩ := h0
        cases e0 : Tryz.prog.keyLits (m' + 2) 3 [c0] with
        | none => rw [e0] at h0; cases h0
        | some x0 =>
          cases e1 : Tryz.prog.keyLits (m' + 2) 3 [c1] with
          | none => rw [e0, e1] at h0; cases h0
          | some x1 =>
            rw [e0, e1] at h0
            cases h0
            obtain ⟨z0, rfl, w0, rfl⟩ := keyLit_int e0
            obtain ⟨z1, rfl, w1, rfl⟩ := keyLit_int e1
            refine ⟨(z0, z1), ⟨w0, w1⟩, rfl, ?_⟩
            rw [← hk]; rfl
      · cases hfo
      · cases hfo
    · cases hl
  · cases h
end Go.Proofs.YtlcfakmbcfdgbaaGreat
namespace Go.Proofs.YtlcfakmbcfdgbaaGreat
open Go.RowKit Go.WideShapes

/-- A text's runes from a byte on. -/
inductive Runes (s : ByteArray) : Nat → List Int → Prop
  | nil (pos : Nat) (h : ¬ pos < s.size) : Runes s pos []
  | cons (pos : Nat) (r : Int) (l : List Int) (h : pos < s.size) (hr : (Utf8.decode s pos).1 = r) (hl : Runes s (pos + (Utf8.decode s pos).2) l) : Runes s pos (r :: l)
/-- A map of pairs that holds these. -/
structure PM (w : World) (b n : Nat) (l : List ((Int × Int) × Int)) (D : DataW Unit) : Prop where
  own : w.ownsMap Tryz.prog 138 (plainElem Tryz.prog 3) b n D
  is : Maps.IsMap D
  at_ : ∀ x, Wf2 x → D.atKey (klP x) (.lit (.int .i64 0)) = .lit (.int .i64 ((Nf.lookW x l).getD 0))
  has : ∀ x, Wf2 x → Maps.has D (klP x) = (Nf.lookW x l).isSome
theorem lookW_snoc (x y : Int × Int) (w : Int) : ∀ l, Nf.lookW x (l ++ [(y, w)]) = if (Nf.lookW x l).isSome then Nf.lookW x l else if y = x then some w else none
  | [] => by simp [Nf.lookW]
  | z :: l => by
    rw [List.cons_append, Nf.lookW, Nf.lookW]
    split
    · simp
    · exact lookW_snoc x y w l
theorem PM.next {w w' : World} {b n : Nat} {l : List ((Int × Int) × Int)} {D : DataW Unit} {x : Int × Int} {v : Int} (h : PM w b n l D) (hx : Wf2 x) (hn : Nf.lookW x l = none) (ho : w'.ownsMap Tryz.prog 138 (plainElem Tryz.prog 3) b (n + 1) (D.put (klP x) (.lit (.int .i64 v)))) : PM w' b (n + 1) (l ++ [(x, v)]) (D.put (klP x) (.lit (.int .i64 v))) := by
  refine ⟨ho, h.is.put _ _, fun y hy => ?_, fun y hy => ?_⟩
  · by_cases hm : y = x
    · subst hm
      rw [Maps.atKey_put_same h.is (by simp [WideAt.IsKeyLit, klP]), lookW_snoc, hn]
      simp
    · rw [Maps.atKey_put_other (fun e => hm (klP_inj hy hx e)), h.at_ y hy, lookW_snoc, if_neg (fun e : x = y => hm e.symm)]
      cases Nf.lookW y l <;> rfl
  · by_cases hm : y = x
    · subst hm
      rw [Maps.has_put_same h.is (by simp [WideAt.IsKeyLit, klP]), lookW_snoc, hn]
      simp
    · rw [Maps.has_put_other (fun e => hm (klP_inj hy hx e)), h.has y hy, lookW_snoc, if_neg (fun e : x = y => hm e.symm)]
      cases Nf.lookW y l <;> rfl
theorem map_sameN {w w' : World} {P : Program} {k : TypeId} {R : Value → Option (DataW Unit × List MemPlace)} {b n : Nat} {D : DataW Unit} (h : w.ownsMap P k R b n D) (e : w'.heap[b]? = w.heap[b]?) : w'.ownsMap P k R b n D := by
  obtain ⟨es, clock, hb, rest⟩ := h
  exact ⟨es, clock, e.trans hb, rest⟩
theorem PM.go {w w' : World} {b n : Nat} {l : List ((Int × Int) × Int)} {D : DataW Unit} (h : PM w b n l D) (hb : w'.heap[b]? = w.heap[b]?) : PM w' b n l D := ⟨map_sameN h.own hb, h.is, h.at_, h.has⟩
theorem PM.nil (w : World) : PM (w.alloc (.map #[] 0)) w.heap.size 0 [] (.map []) := ⟨World.ownsMap_made _ _ _ _, Maps.isMap_empty, fun _ _ => rfl, fun _ _ => rfl⟩
def intVs (l : List Int) : List Value := l.map fun z => .int .i64 z
theorem lookW_app (x : Int × Int) : ∀ l m, Nf.lookW x l = none → Nf.lookW x (l ++ m) = Nf.lookW x m
  | [], _, _ => rfl
  | z :: l, m, h => by
    rw [Nf.lookW] at h
    rw [List.cons_append, Nf.lookW]
    split at h
    · cases h
    · rename_i hz
      rw [if_neg hz]
      exact lookW_app x l m h
theorem lookW_row (a mark : Int) : ∀ ls ws, a ∉ ls → Nf.lookW (a, mark) (Nf.rowOf mark ls ws) = none
  | [], _, _ => by rw [Nf.rowOf]; rfl; intro _ _ _ _ h; cases h
  | x :: ls, [], _ => by rw [Nf.rowOf]; rfl; intro _ _ _ _ _ h; cases h
  | x :: ls, v :: ws, h => by
    rw [Nf.rowOf, Nf.lookW, if_neg (fun e => h (by cases e; exact List.mem_cons_self ..))]
    exact lookW_row a mark ls ws fun hm => h (List.mem_cons_of_mem _ hm)
theorem rowOf_next (mark : Int) : ∀ (ls ws : List Int) (j : Nat) (a v : Int), ls[j]? = some a → ws[j]? = some v → Nf.rowOf mark (ls.take (j + 1)) (ws.take (j + 1)) = Nf.rowOf mark (ls.take j) (ws.take j) ++ [((a, mark), v)]
  | [], _, _, _, _, h, _ => by cases h
  | _ :: _, [], _, _, _, _, h => by cases h
  | x :: ls, y :: ws, 0, a, v, h1, h2 => by cases h1; cases h2; rfl
  | x :: ls, y :: ws, j + 1, a, v, h1, h2 => by
    show _ :: Nf.rowOf mark (ls.take (j + 1)) (ws.take (j + 1)) = _
    rw [rowOf_next mark ls ws j a v h1 h2]
    rfl
theorem wf_i64r {a : Int} (h : (Lit.int .i64 a).wf = true) : -9223372036854775808 ≤ a ∧ a ≤ 9223372036854775807 := by
  have := (Go.Lit.wf_int_iff .i64 a).1 h
  exact this
theorem But.iterAtN {R k : Nat} {w w1 : World} (h : But R w w1) (hk : w.heap.size ≤ k) : ∀ (s : ByteArray) (q : Nat), But R w (w1.iterAt k s q) := fun s q =>
  ⟨h.os, h.tape, h.output, by rw [Lib.iterAt_size]; exact h.size, fun j hj hne => (Lib.iterAt_other _ _ _ _ _ (by omega)).trans (h.block j hj hne)⟩
theorem But.cellN {R g : Nat} {w w1 : World} (h : But R w w1) (hg : g < w.heap.size) (hne : g ≠ R) (i : Nat) : w1.cell? ⟨g, i, none⟩ = w.cell? ⟨g, i, none⟩ := by
  unfold World.cell?
  dsimp only
  rw [h.block g hg hne]
theorem But.grownN {R : Nat} {w w1 w2 : World} (h : But R w w1) (hg : w1.grownBy w2 (some R)) : But R w w2 :=
  ⟨hg.os.trans h.os, hg.tape.trans h.tape, hg.output.trans h.output, Nat.le_trans h.size hg.size, fun k hk hne => (hg.block k (Nat.lt_of_lt_of_le hk h.size) (fun e => hne (Option.some.inj e))).trans (h.block k hk hne)⟩
theorem rowOf_more (mark : Int) : ∀ (ls ws : List Int), Nf.rowOf mark ls (ws.take ls.length) = Nf.rowOf mark ls ws
  | [], ws => by rw [Nf.rowOf, Nf.rowOf] <;> (intro _ _ _ _ h; cases h)
  | x :: ls, [] => rfl
  | x :: ls, v :: ws => by
    show _ :: Nf.rowOf mark ls (ws.take ls.length) = _
    rw [rowOf_more mark ls ws]
    rfl
theorem notMem_take {l : List Int} {j : Nat} {a : Int} (h : l.Nodup) (ha : l[j]? = some a) : a ∉ l.take j := by
  intro hm
  obtain ⟨i, hi, e⟩ := List.mem_take_iff_getElem.1 hm
  obtain ⟨h1, h2⟩ := List.getElem?_eq_some_iff.1 ha
  have := (List.getElem_inj h).1 (e.trans h2.symm)
  omega
set_option maxHeartbeats 8000000 in
theorem row_any (b n : Nat) (mark : Int) (s : ByteArray) (ls ws : List Int) (A : Option Addr) (c : Nat) (l : List ((Int × Int) × Int)) (D : DataW Unit) (w : World) (h : PM w b n l D) (hs : Runes s 0 ls) (hr : Reads w w.heap.size 1 A ws.length (intVs ws)) (hlw : ls.length ≤ ws.length)
    (hnd : ls.Nodup) (hfr : ∀ a ∈ ls, Nf.lookW (a, mark) l = none) (hwf : ∀ a ∈ ls, Wf2 (a, mark)) (hwv : ∀ v ∈ ws, (Lit.int .i64 v).wf = true) (hn : n + ls.length ≤ 1000000) :
    Calls Tryz.prog 130 #[.map (some b), .int .i64 mark, .string s, .slice A ws.length c] w fun e w' => ∃ D', e = .returned (.tuple #[]) ∧ PM w' b (n + ls.length) (l ++ Nf.rowOf mark ls ws) D' ∧ But b w w' := by
  have H := hide h
  have HS := hide hs
  have HR := hide hr
  have HNd := hide hnd
  have HFr := hide hfr
  have HWf := hide hwf
  have HWv := hide hwv
  have HBl := hide h.own.lt
  clear h hs hr hnd hfr hwf hwv
  obtain ⟨N, hN⟩ : ∃ N, ls.length = N := ⟨_, rfl⟩
  obtain ⟨M, hM⟩ : ∃ M, ws.length = M := ⟨_, rfl⟩
  rw [hN] at hlw hn ⊢
  rw [hM] at hlw HR ⊢
  have HN := hide hN
  have HM := hide hM
  clear hN hM
  go_enter Tryz.func130, Tryz.ntmps130
  go_wp2
  go_loopg [8] N (fun gk vk wr => ∃ (j pos : Nat) (D' : DataW Unit), gk = N - j ∧ j ≤ N ∧ vk = .int .i64 (j : Int) ∧ Runes s pos (ls.drop j) ∧ PM wr b (n + j) (l ++ Nf.rowOf mark (ls.take j) (ws.take j)) D' ∧ wr.heap[w.heap.size]? = some (.stringIter s pos) ∧ But b w wr)
  case atStart => exact ⟨0, 0, D, rfl, by omega, rfl, HS.out, by rw [Nat.add_zero, List.take_zero, List.take_zero, show Nf.rowOf mark [] [] = [] from rfl, List.append_nil]; exact H.out.go (Below.heap_alloc w _ b HBl.out), World.iter_heap _ _ _, (But.refl b w).alloc _⟩
  case round =>
    obtain ⟨j, pos, D', hgk, hj, rfl, hru, hp, hit, hb⟩ := hrel
    have Hg := hide hgk
    have HP := hide hp
    have HI := hide hit
    have HB := hide hb
    clear hgk hp hb
    by_cases hlt : j < N
    · obtain ⟨a, ha⟩ : ∃ a, ls[j]? = some a := ⟨_, List.getElem?_eq_getElem (by rw [HN.out]; exact hlt)⟩
      obtain ⟨v, hv⟩ : ∃ v, ws[j]? = some v := ⟨_, List.getElem?_eq_getElem (by rw [HM.out]; omega)⟩
      obtain ⟨q1, q2⟩ := List.getElem?_eq_some_iff.1 ha
      rw [List.drop_eq_getElem_cons q1, q2] at hru
      rcases hru with _ | ⟨_, _, _, hps, hde, hl⟩
      have hnx : ∀ ty, (Instr.next (.pointer (some ⟨w.heap.size, 0, none⟩)) true ty).run Tryz.prog wr = _ := fun ty => Lib.run_next_any_at wr w.heap.size s pos ty hit hps
      rw [hde] at hnx
      have Hl := hide hl
      have Hps := hide hps
      have Ha := hide ha
      have Hv := hide hv
      have hwa := HWf.out a (List.mem_of_getElem? ha)
      have hcv : IntKind.i64.wrap a = a := IntWalk.i64_in _ (wf_i64r hwa.1)
      obtain ⟨gb, off, rfl, hgl, hcell⟩ := HR.out.2 (by omega)
      have y00 : w.cell? ⟨gb, off + j, none⟩ = some (.int .i64 v) := hcell j _ (by unfold intVs; rw [List.getElem?_map, Hv.out]; rfl)
      have hgne : gb ≠ b := fun e => by
        obtain ⟨es, cl, hmb, _⟩ := H.out.own
        subst e
        simp [World.cell?, hmb] at y00
      have hgi : gb ≠ w.heap.size := Nat.ne_of_lt hgl
      have y0 : wr.cell? ⟨gb, off + j, none⟩ = some (.int .i64 v) := (HB.out.cellN hgl hgne _).trans y00
      have y1 : ∀ q, (wr.iterAt w.heap.size s q).cell? ⟨gb, off + j, none⟩ = some (.int .i64 v) := fun q => ((HB.out.iterAtN (Nat.le_refl _) s q).cellN hgl hgne _).trans y00
      clear y00
      have hjM : j < M := by omega
      have Hhit := hide hit
      have hwv := HWv.out v (List.mem_of_getElem? Hv.out)
      have HP2 : ∀ q, PM (wr.iterAt w.heap.size s q) b (n + j) (l ++ Nf.rowOf mark (ls.take j) (ws.take j)) D' := fun q => HP.out.go (Lib.iterAt_other _ _ _ _ _ (Nat.ne_of_lt HBl.out))
      have HP2 := hide HP2
      have hnj : n + j < maxLen := by unfold maxLen; omega
      clear hl hps ha hv q1 q2 hde hcell hit
      go_wp2_with (at_mapUpdate; refine wpList_mapUpdate_own _ rfl _ _ _ 133 rfl 138 3 law_pr Tryz.underlying133 _ b (n + j) D' rfl (HP2.out _).own hnj _ _ _ (by rfl) (by rfl) (keyOf_pr hwa) _ [] (plainElem_int Tryz.underlying3 hwv) ?_; intro w8 hown8 hgrow8)
      go_roundg (N - (j + 1))
      case measure => have := Hg.out; omega
      case rel =>
        have hrx := rowOf_next mark ls ws j a v Ha.out Hv.out
        refine ⟨j + 1, _, D'.put (klP (a, mark)) (.lit (.int .i64 v)), rfl, by omega, by first | rfl | go_num, Hl.out, ?_, ?_, ?_⟩
        · rw [hrx, ← List.append_assoc]
          refine PM.next (HP2.out 0) hwa ?_ hown8
          rw [lookW_app _ _ _ (HFr.out a (List.mem_of_getElem? Ha.out))]
          exact lookW_row a mark _ _ (notMem_take HNd.out Ha.out)
        · exact (hgrow8.block _ (by rw [Lib.iterAt_size]; exact (Array.getElem?_eq_some_iff.1 Hhit.out).1) (fun e => by have := HBl.out; cases e; omega)).trans (Lib.iterAt_heap _ _ _ _ _ Hhit.out)
        · exact (HB.out.iterAtN (Nat.le_refl _) _ _).grownN hgrow8
    · have hjN : j = N := by omega
      subst hjN
      rw [List.drop_of_length_le (by rw [HN.out]; exact Nat.le_refl _)] at hru
      rcases hru with ⟨_, hps⟩ | _
      have hnx : ∀ ty, (Instr.next (.pointer (some ⟨w.heap.size, 0, none⟩)) true ty).run Tryz.prog wr = _ := fun ty => Lib.run_next_end_at wr w.heap.size s pos ty hit hps
      have Hps := hide hps
      clear hit hps
      go_wp2
      go_end0
      refine ⟨D', rfl, ?_, HB.out⟩
      have hp := HP.out
      rw [List.take_of_length_le (by rw [HN.out]; exact Nat.le_refl _), ← HN.out, rowOf_more] at hp
      rwa [HN.out] at hp
end Go.Proofs.YtlcfakmbcfdgbaaGreat
namespace Go.Proofs.YtlcfakmbcfdgbaaGreat
open Go.RowKit Go.WideShapes

/-- A map of what wholes are made of. -/
structure QM (w : World) (b n : Nat) (l : List ((Int × Int) × Int)) (D : DataW Unit) : Prop where
  own : w.ownsMap Tryz.prog 3 pairElem b n D
  at_ : ∀ r z, D.atKey (.int .i64 r) z = ((Nf.lookM r l).map prD).getD z
  has : ∀ r, Maps.has D (.int .i64 r) = (Nf.lookM r l).isSome
theorem lookW_mem {p : Int × Int} {v : Int} : ∀ {l : List ((Int × Int) × Int)}, Nf.lookW p l = some v → (p, v) ∈ l
  | [], h => by cases h
  | x :: l, h => by
    rw [Nf.lookW] at h
    split at h
    · rename_i hx; cases h; subst hx; exact List.mem_cons_self ..
    · exact List.mem_cons_of_mem _ (lookW_mem h)
theorem lookM_of {p : Int × Int} {v : Int} : ∀ {l : List ((Int × Int) × Int)}, (l.map (·.2)).Nodup → (p, v) ∈ l → Nf.lookM v l = some p
  | x :: l, hn, h => by
    rw [List.map_cons, List.nodup_cons] at hn
    rw [Nf.lookM]
    rcases List.mem_cons.1 h with rfl | h
    · rw [if_pos rfl]
    · rw [if_neg (fun e => hn.1 (by rw [e]; exact List.mem_map_of_mem (f := (·.2)) h))]
      exact lookM_of hn.2 h
theorem lookW_of {p : Int × Int} {v : Int} : ∀ {l : List ((Int × Int) × Int)}, (l.map (·.1)).Nodup → (p, v) ∈ l → Nf.lookW p l = some v
  | x :: l, hn, h => by
    rw [List.map_cons, List.nodup_cons] at hn
    rw [Nf.lookW]
    rcases List.mem_cons.1 h with rfl | h
    · rw [if_pos rfl]
    · rw [if_neg (fun e => hn.1 (by rw [e]; exact List.mem_map_of_mem (f := (·.1)) h))]
      exact lookW_of hn.2 h
/-- What is turned about already. -/
def Done (Dout : DataW Unit) (l : List ((Int × Int) × Int)) (left : Lit → Bool) : Prop :=
  (∀ r z, Dout.atKey (.int .i64 r) z = match Nf.lookM r l with | some x => if left (klP x) then z else prD x | none => z) ∧
  ∀ r, Maps.has Dout (.int .i64 r) = match Nf.lookM r l with | some x => !left (klP x) | none => false
theorem klP_self (x : Int × Int) : (klP x).sameKey (klP x) = true := by
  unfold klP
  exact WideAt.sameKey_self (by simp [WideAt.IsKeyLit])
theorem Done.next {Dout : DataW Unit} {l : List ((Int × Int) × Int)} {left : Lit → Bool} {x : Int × Int} {v : Int} (h : Done Dout l left) (hi : Maps.IsMap Dout) (hk : (l.map (·.1)).Nodup) (hv : (l.map (·.2)).Nodup) (hwf : ∀ p ∈ l, Wf2 p.1) (hx : Wf2 x) (hm : (x, v) ∈ l) : Done (Dout.put (.int .i64 v) (prD x)) l (fun z => left z && !z.sameKey (klP x)) := by
  have hl := lookM_of hv hm
  have hne : ∀ r y, r ≠ v → Nf.lookM r l = some y → klP y ≠ klP x := fun r y e hr h => by
    have hy := Nf.lookM_mem hr
    have := klP_inj (hwf _ hy) hx h
    subst this
    have := (lookW_of hk hy).symm.trans (lookW_of hk hm)
    exact e (Option.some.inj this)
  refine ⟨fun r z => ?_, fun r => ?_⟩
  · by_cases e : r = v
    · subst e
      rw [Maps.atKey_put_same hi (by simp [WideAt.IsKeyLit]), hl]
      simp [klP_self]
    · rw [Maps.atKey_put_other (fun h => e (by injection h)), h.1 r z]
      cases hr : Nf.lookM r l with
      | none => rfl
      | some y => simp [Maps.sameKey_ne (hne r y e hr)]
  · by_cases e : r = v
    · subst e
      rw [Maps.has_put_same hi (by simp [WideAt.IsKeyLit]), hl]
      simp [klP_self]
    · rw [Maps.has_put_other (fun h => e (by injection h)), h.2 r]
      cases hr : Nf.lookM r l with
      | none => rfl
      | some y => simp [Maps.sameKey_ne (hne r y e hr)]
theorem Done.start {D : DataW Unit} {l : List ((Int × Int) × Int)} (hk : (l.map (·.1)).Nodup) (hwf : ∀ p ∈ l, Wf2 p.1) (hh : ∀ x, Wf2 x → Maps.has D (klP x) = (Nf.lookW x l).isSome) : Done (.map []) l (Maps.has D) := by
  have key : ∀ r y, Nf.lookM r l = some y → Maps.has D (klP y) = true := fun r y hr => by
    have hy := Nf.lookM_mem hr
    rw [hh y (hwf _ hy), lookW_of hk hy]
    rfl
  refine ⟨fun r z => ?_, fun r => ?_⟩
  · cases hr : Nf.lookM r l with
    | none => rfl
    | some y => simp [key r y hr]; rfl
  · cases hr : Nf.lookM r l with
    | none => rfl
    | some y => simp [key r y hr]; rfl
theorem Done.stop {w : World} {b n : Nat} {Dout : DataW Unit} {l : List ((Int × Int) × Int)} {left : Lit → Bool} (h : Done Dout l left) (h0 : ∀ k, left k = false) (ho : w.ownsMap Tryz.prog 3 pairElem b n Dout) : QM w b n l Dout := by
  refine ⟨ho, fun r z => ?_, fun r => ?_⟩
  · rw [h.1 r z]
    cases hr : Nf.lookM r l with
    | none => rfl
    | some y => simp [h0]
  · rw [h.2 r]
    cases hr : Nf.lookM r l with
    | none => rfl
    | some y => simp [h0]
set_option maxHeartbeats 8000000 in
theorem flip_any (b n : Nat) (l : List ((Int × Int) × Int)) (D : DataW Unit) (w : World) (h : PM w b n l D) (hk : (l.map (·.1)).Nodup) (hv : (l.map (·.2)).Nodup) (hwf : ∀ p ∈ l, Wf2 p.1) (hn : n ≤ 1000000) :
    Calls Tryz.prog 131 #[.map (some b)] w fun e w' => ∃ n' D', e = .returned (.map (some w.heap.size)) ∧ QM w' w.heap.size n' l D' ∧ n' ≤ 1000000 ∧ Below w.heap.size w w' := by
  have hmm := @run_makeMap Tryz.prog
  have hmax : Maps.size D ≤ 1000000 := Nat.le_trans h.own.size_le hn
  have hbl := h.own.lt
  have hown := h.own
  have e1 : (w.alloc (.map #[] 0)).heap.size = w.heap.size + 1 := by simp
  have HS := hide (Done.start hk hwf h.has)
  have HH := hide h
  have Hk := hide hk
  have Hv := hide hv
  have Hwf := hide hwf
  clear h hk hv hwf
  go_enter Tryz.func131, Tryz.ntmps131
  go_wp2_with (first
    | (at_range; refine wpList_range_own _ rfl _ 133 rfl 138 3 law_pr Tryz.underlying133 _ b n _ rfl (hown.alloc _) ?_; intro w0 hrg0 hg0 hs0)
    | go_in)
  go_frame
  rw [e1] at hrg0 hs0 ⊢
  go_loopg [5] (Maps.size D) (fun gk _ wr => ∃ (left : Lit → Bool) (cnt : Nat) (Dout : DataW Unit), gk = cnt ∧ wr.ranges Tryz.prog 138 (plainElem Tryz.prog 3) b (w.heap.size + 1) n D left cnt ∧ cnt ≤ Maps.size D ∧
      wr.ownsMap Tryz.prog 3 pairElem w.heap.size (Maps.size D - cnt) Dout ∧ Maps.IsMap Dout ∧ Done Dout l left ∧ (∀ z, left z = true → Maps.has D z = true) ∧ Below w.heap.size w wr ∧ w.heap.size + 2 ≤ wr.heap.size)
  case atStart =>
    exact ⟨_, _, .map [], rfl, hrg0, Nat.le_refl _, ((World.ownsMap_made _ _ _ _).kept hg0 (by simp)).mono (Nat.zero_le _), Maps.isMap_empty, HS.out, fun _ h => h, ((Below.refl _ _).alloc (Nat.le_refl _) _).grown hg0 (by simp) (fun j hj => by cases hj), by omega⟩
  case round =>
    obtain ⟨left, cnt, Dout, hgk, hrg, hcs, hout, him, hA, hlh, hnx, hsz⟩ := hrel
    have Hg := hide hgk
    have HA := hide hA
    have Hlh := hide hlh
    have Hnx := hide hnx
    clear hgk hA hlh hnx
    go_wp2_with (first
      | (at_next; go_loud (refine wpList_next_ranges _ rfl _ rfl 138 law_pr (plainElem Tryz.prog 3) (fun x : Int × Int => .agg #[.int .i64 x.1, .int .i64 x.2]) (fun z => .int .i64 z) (fun key kl h => by obtain ⟨x, _, e, _⟩ := keyOf_pr_inv h; exact ⟨x, e⟩) (fun v y h => by obtain ⟨c, e, _⟩ := plainElem_int_inv Tryz.underlying3 h; exact ⟨c, e⟩) b (w.heap.size + 1) n _ _ _ rfl hrg ?_ ?_))
      | go_in)
    · intro hc0 hl0
      go_wp2
      go_ret
      exact ⟨_, Dout, rfl, HA.out.stop hl0 hout, by omega, Hnx.out⟩
    · intro x1 x2 c kl y1 y2 w1 cnt1 hkey hlx hy hat hrg1 hlt hg1 hs1 hen
      obtain ⟨x', hwx, ex, ekl⟩ := keyOf_pr_inv hkey
      have ex' : (x1, x2) = x' := prV_inj ex
      subst ex'
      subst ekl
      obtain ⟨c', ec, ey, hwc⟩ := plainElem_int_inv Tryz.underlying3 hy
      cases ec
      cases ey
      have hmem : ((x1, x2), c) ∈ l := by
        have h1 := HH.out.at_ (x1, x2) hwx
        rw [hat] at h1
        have hh := HH.out.has (x1, x2) hwx
        cases hl : Nf.lookW (x1, x2) l with
        | none =>
          rw [hl] at hh
          have := Hlh.out _ hlx
          rw [hh] at this
          cases this
        | some v =>
          rw [hl] at h1
          injection h1 with h1
          injection h1 with _ h1
          rw [h1]
          exact lookW_mem hl
      have Hhat := hide hmem
      have Hhw := hide hwx
      have hout1 := hout.kept hg1 (by simp)
      have Hout := hide hout1
      have Hrg := hide hrg1
      have Hgr := hide hg1
      have e5 : w1.heap.size = wr.heap.size := hs1
      have Him := hide him
      have hnj : Maps.size D - cnt < maxLen := by unfold maxLen; omega
      clear ex hkey hlx hy hat hrg hrg1 hout hout1 hg1 hmem hwx him hown hrg0 hg0 hs0 hmm
      go_wp2_with (first
        | (at_mapUpdate; go_loud (refine wpList_mapUpdate_own _ rfl _ _ _ 134 rfl 3 138 law_int Tryz.underlying134 _ w.heap.size (Maps.size D - cnt) Dout rfl (Hout.out.alloc _) hnj _ _ _ (by rfl) (by rfl) (Maps.keyOf_int_mk Tryz.underlying3 hwc) _ [] (pairElem_mk (x1, x2)) ?_); intro w2 hout2 hg2; go_frame)
        | go_in)
      have e6 : (w1.alloc (.cells #[.int .i64 x1, .int .i64 x2] 138)).heap.size = wr.heap.size + 1 := by rw [World.size_alloc, e5]
      go_roundg cnt1
      case measure => have := Hg.out; omega
      case rel =>
        exact ⟨_, cnt1, _, rfl, (Hrg.out.alloc _).kept hg2 (fun e => by have := Option.some.inj e; omega) (fun e => by have := Option.some.inj e; omega), by omega, hout2.mono (by omega), Him.out.put _ _, HA.out.next Him.out Hk.out Hv.out Hwf.out Hhw.out Hhat.out,
          fun z hz => Hlh.out z (by simp only [Bool.and_eq_true] at hz; exact hz.1),
          ((Hnx.out.grown Hgr.out Hnx.out.size (fun j hj => by cases hj; exact Nat.le_succ _)).alloc (by have := Hnx.out.size; omega) _).grown hg2 (by have := Hnx.out.size; omega) (fun j hj => by cases hj; exact Nat.le_refl _), by have := hg2.size; omega⟩
end Go.Proofs.YtlcfakmbcfdgbaaGreat
