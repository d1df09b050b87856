/- Days and seconds (civil): count, Leap, Last. · Days and seconds (civil): Last, Date. Printed by genCvB.py. · Days and seconds (civil): Date. · Seconds (civil.Civil). · Stamps: stamp.Text's digits. -/
import Derived.Test.YtlcfakmbcfdgbaaGreatWt00
import Derived.Test.YtlcfakmbcfdgbaaGreatWt14
import Derived.Laws.ResultCell
set_option linter.unusedSimpArgs false
set_option linter.unusedVariables false
namespace Go.Proofs.YtlcfakmbcfdgbaaGreat
open Go.RowKit Go.WideShapes

namespace Cv
/-- Days of years from March on. -/
def days (y m d : Int) : Int := y / 400 * 146097 + (y - y / 400 * 400) * 365 + (y - y / 400 * 400) / 4 - (y - y / 400 * 400) / 100 + ((153 * (m - 3) + 2) / 5 + d - 1) - 719468
def count (y m d : Int) : Int := if m ≤ 2 then days (y - 1) (m + 12) d else days y m d
def leap (y : Int) : Bool := decide (y % 4 = 0) && (!decide (y % 100 = 0) || decide (y % 400 = 0))
def last (y m : Int) : Int := if m = 2 then (if leap y then 29 else 28) else if m = 4 ∨ m = 6 ∨ m = 9 ∨ m = 11 then 30 else 31
end Cv
set_option maxHeartbeats 4000000 in
theorem count_any (y m d : Int) (w : World) (hy : 1 ≤ y ∧ y ≤ 10000) (hm : 1 ≤ m ∧ m ≤ 12) (hd : 1 ≤ d ∧ d ≤ 31) :
    Calls Tryz.prog 60 #[.int .i64 y, .int .i64 m, .int .i64 d] w fun e w' => e = .returned (.int .i64 (Cv.count y m d)) ∧ w' = w := by
  unfold Cv.count
  by_cases h2 : m ≤ 2
  · rw [if_pos h2]
    unfold Cv.days
    obtain ⟨y1, hy1⟩ : ∃ y1, y - 1 = y1 := ⟨_, rfl⟩
    obtain ⟨m1, hm1⟩ : ∃ m1, m + 12 = m1 := ⟨_, rfl⟩
    have z1 : IntKind.i64.wrap (y - 1) = y1 := by rw [IntWalk.i64_in _ (by omega)]; omega
    have z2 : IntKind.i64.wrap (m + 12) = m1 := by rw [IntWalk.i64_in _ (by omega)]; omega
    have b1 : 0 ≤ y1 ∧ y1 ≤ 10000 := by omega
    have b2 : 3 ≤ m1 ∧ m1 ≤ 14 := by omega
    rw [hy1, hm1]
    clear hy1 hm1
    have t1 : Int.tdiv y1 400 = y1 / 400 := Int.tdiv_eq_ediv_of_nonneg b1.1
    obtain ⟨e, he⟩ : ∃ e, y1 / 400 = e := ⟨_, rfl⟩
    have b3 : 0 ≤ e ∧ e ≤ 25 := by omega
    obtain ⟨o, ho⟩ : ∃ o, y1 - e * 400 = o := ⟨_, rfl⟩
    have b4 : 0 ≤ o ∧ o < 400 := by omega
    rw [he] at t1 ⊢
    rw [ho]
    have t2 : Int.tdiv o 100 = o / 100 := Int.tdiv_eq_ediv_of_nonneg b4.1
    have t3 : Int.tdiv (153 * (m1 - 3) + 2) 5 = (153 * (m1 - 3) + 2) / 5 := Int.tdiv_eq_ediv_of_nonneg (by omega)
    have z3 : IntKind.i64.wrap (e * 400) = e * 400 := IntWalk.i64_in _ (by omega)
    have z4 : IntKind.i64.wrap (y1 - e * 400) = o := by rw [IntWalk.i64_in _ (by omega)]; exact ho
    clear he ho
    go_enter Tryz.func60, Tryz.ntmps60
    go_wp2
    go_ret
    exact ⟨rfl, rfl⟩
  · rw [if_neg h2]
    unfold Cv.days
    have b1 : 0 ≤ y ∧ y ≤ 10000 := by omega
    have b2 : 3 ≤ m ∧ m ≤ 14 := by omega
    have t1 : Int.tdiv y 400 = y / 400 := Int.tdiv_eq_ediv_of_nonneg b1.1
    obtain ⟨e, he⟩ : ∃ e, y / 400 = e := ⟨_, rfl⟩
    have b3 : 0 ≤ e ∧ e ≤ 25 := by omega
    obtain ⟨o, ho⟩ : ∃ o, y - e * 400 = o := ⟨_, rfl⟩
    have b4 : 0 ≤ o ∧ o < 400 := by omega
    rw [he] at t1 ⊢
    rw [ho]
    have t2 : Int.tdiv o 100 = o / 100 := Int.tdiv_eq_ediv_of_nonneg b4.1
    have t3 : Int.tdiv (153 * (m - 3) + 2) 5 = (153 * (m - 3) + 2) / 5 := Int.tdiv_eq_ediv_of_nonneg (by omega)
    have z3 : IntKind.i64.wrap (e * 400) = e * 400 := IntWalk.i64_in _ (by omega)
    have z4 : IntKind.i64.wrap (y - e * 400) = o := by rw [IntWalk.i64_in _ (by omega)]; exact ho
    clear he ho
    go_enter Tryz.func60, Tryz.ntmps60
    go_wp2
    go_ret
    exact ⟨rfl, rfl⟩
set_option maxHeartbeats 4000000 in
theorem leap_any (y : Int) (w : World) (hy : 1 ≤ y ∧ y ≤ 9999) : Calls Tryz.prog 97 #[.int .i64 y] w fun e w' => e = .returned (.bool (Cv.leap y)) ∧ w' = w := by
  unfold Cv.leap
  have t1 : bits BinOp.and IntKind.i64 y 3 = y % 4 := i64_mask y 2 (by omega) (by omega) (by omega) 3 rfl
  have t2 : Int.tmod y 100 = y % 100 := Int.tmod_eq_emod_of_nonneg (by omega)
  have t3 : Int.tmod y 400 = y % 400 := Int.tmod_eq_emod_of_nonneg (by omega)
  obtain ⟨a, ha⟩ : ∃ a, y % 4 = a := ⟨_, rfl⟩
  obtain ⟨b, hb⟩ : ∃ b, y % 100 = b := ⟨_, rfl⟩
  obtain ⟨c, hc⟩ : ∃ c, y % 400 = c := ⟨_, rfl⟩
  rw [ha] at t1
  rw [hb] at t2
  rw [hc] at t3
  rw [ha, hb, hc]
  clear ha hb hc
  by_cases h1 : a = 0
  · have d1 : (a == 0) = true := by simp [h1]
    by_cases h2 : b = 0
    · have d2 : (b == 0) = true := by simp [h2]
      have d2n : (b != 0) = false := by simp [h2]
      have HV := hide (show (decide (a = 0) && (!decide (b = 0) || decide (c = 0))) = (c == 0) by rw [decide_eq_true h1, decide_eq_true h2]; simp; rfl)
      rw [HV.out]
      clear h1 h2
      go_enter Tryz.func97, Tryz.ntmps97
      go_wp2
      go_ret
      exact ⟨rfl, rfl⟩
    · have d2 : (b == 0) = false := by simp [h2]
      have d2n : (b != 0) = true := by simp [h2]
      have HV := hide (show (decide (a = 0) && (!decide (b = 0) || decide (c = 0))) = true by rw [decide_eq_true h1, decide_eq_false h2]; rfl)
      rw [HV.out]
      clear h1 h2
      go_enter Tryz.func97, Tryz.ntmps97
      go_wp2
      go_ret
      exact ⟨rfl, rfl⟩
  · have d1 : (a == 0) = false := by simp [h1]
    have HV := hide (show (decide (a = 0) && (!decide (b = 0) || decide (c = 0))) = false by rw [decide_eq_false h1]; rfl)
    rw [HV.out]
    clear h1
    go_enter Tryz.func97, Tryz.ntmps97
    go_wp2
    go_ret
    exact ⟨rfl, rfl⟩
end Go.Proofs.YtlcfakmbcfdgbaaGreat
namespace Go.Proofs.YtlcfakmbcfdgbaaGreat
open Go.RowKit Go.WideShapes

abbrev daysO : Obj := .cells #[.int .i64 0, .int .i64 31, .int .i64 28, .int .i64 31, .int .i64 30, .int .i64 31, .int .i64 30, .int .i64 31, .int .i64 31, .int .i64 30, .int .i64 31, .int .i64 30, .int .i64 31] 115
set_option maxHeartbeats 16000000 in
set_option maxRecDepth 100000 in
theorem last_any (y m : Int) (w : World) (hy : 1 ≤ y ∧ y ≤ 9999) (hm : 1 ≤ m ∧ m ≤ 12) : Calls Tryz.prog 76 #[.int .i64 y, .int .i64 m] w fun e w' => e = .returned (.int .i64 (Cv.last y m)) ∧ Below w.heap.size w w' := by
  have HB := hide (below_alloc w daysO)
  have HL := hide (fun W => leap_any y W hy)
  have h1 : ¬ y < 1 := by omega
  have h2 : ¬ 9999 < y := by omega
  have hk := Blk.new w 115 #[.int .i64 0, .int .i64 31, .int .i64 28, .int .i64 31, .int .i64 30, .int .i64 31, .int .i64 30, .int .i64 31, .int .i64 31, .int .i64 30, .int .i64 31, .int .i64 30, .int .i64 31]
  have c0 := hk.cell 0
  have c1 := hk.cell 1
  have c2 := hk.cell 2
  have c3 := hk.cell 3
  have c4 := hk.cell 4
  have c5 := hk.cell 5
  have c6 := hk.cell 6
  have c7 := hk.cell 7
  have c8 := hk.cell 8
  have c9 := hk.cell 9
  have c10 := hk.cell 10
  have c11 := hk.cell 11
  have c12 := hk.cell 12
  have HK := hide hk
  clear hk
  rcases (by omega : m = 1 ∨ m = 2 ∨ m = 3 ∨ m = 4 ∨ m = 5 ∨ m = 6 ∨ m = 7 ∨ m = 8 ∨ m = 9 ∨ m = 10 ∨ m = 11 ∨ m = 12) with rfl | rfl | rfl | rfl | rfl | rfl | rfl | rfl | rfl | rfl | rfl | rfl
  · rw [show Cv.last y 1 = 31 by unfold Cv.last; simp]
    go_enter Tryz.func76, Tryz.ntmps76
    go_wp2
    go_ret
    exact ⟨rfl, HB.out⟩
  · unfold Cv.last
    rw [if_pos rfl]
    cases hl : Cv.leap y with
    | true =>
      rw [hl] at HL
      rw [if_pos rfl]
      clear hl
      go_enter Tryz.func76, Tryz.ntmps76
      go_wp2_with fail
      go_wp2_with fail
      refine cq (HL.out _) ?_
      dsimp only
      go_wp2
      go_ret
      exact ⟨rfl, HB.out⟩
    | false =>
      rw [hl] at HL
      rw [if_neg (by simp)]
      clear hl
      go_enter Tryz.func76, Tryz.ntmps76
      go_wp2_with fail
      go_wp2_with fail
      refine cq (HL.out _) ?_
      dsimp only
      go_wp2
      go_ret
      exact ⟨rfl, HB.out⟩
  · rw [show Cv.last y 3 = 31 by unfold Cv.last; simp]
    go_enter Tryz.func76, Tryz.ntmps76
    go_wp2
    go_ret
    exact ⟨rfl, HB.out⟩
  · rw [show Cv.last y 4 = 30 by unfold Cv.last; simp]
    go_enter Tryz.func76, Tryz.ntmps76
    go_wp2
    go_ret
    exact ⟨rfl, HB.out⟩
  · rw [show Cv.last y 5 = 31 by unfold Cv.last; simp]
    go_enter Tryz.func76, Tryz.ntmps76
    go_wp2
    go_ret
    exact ⟨rfl, HB.out⟩
  · rw [show Cv.last y 6 = 30 by unfold Cv.last; simp]
    go_enter Tryz.func76, Tryz.ntmps76
    go_wp2
    go_ret
    exact ⟨rfl, HB.out⟩
  · rw [show Cv.last y 7 = 31 by unfold Cv.last; simp]
    go_enter Tryz.func76, Tryz.ntmps76
    go_wp2
    go_ret
    exact ⟨rfl, HB.out⟩
  · rw [show Cv.last y 8 = 31 by unfold Cv.last; simp]
    go_enter Tryz.func76, Tryz.ntmps76
    go_wp2
    go_ret
    exact ⟨rfl, HB.out⟩
  · rw [show Cv.last y 9 = 30 by unfold Cv.last; simp]
    go_enter Tryz.func76, Tryz.ntmps76
    go_wp2
    go_ret
    exact ⟨rfl, HB.out⟩
  · rw [show Cv.last y 10 = 31 by unfold Cv.last; simp]
    go_enter Tryz.func76, Tryz.ntmps76
    go_wp2
    go_ret
    exact ⟨rfl, HB.out⟩
  · rw [show Cv.last y 11 = 30 by unfold Cv.last; simp]
    go_enter Tryz.func76, Tryz.ntmps76
    go_wp2
    go_ret
    exact ⟨rfl, HB.out⟩
  · rw [show Cv.last y 12 = 31 by unfold Cv.last; simp]
    go_enter Tryz.func76, Tryz.ntmps76
    go_wp2
    go_ret
    exact ⟨rfl, HB.out⟩
end Go.Proofs.YtlcfakmbcfdgbaaGreat
namespace Go.Proofs.YtlcfakmbcfdgbaaGreat
open Go.RowKit Go.WideShapes

namespace Cv
theorem count1 : count 1 1 1 = -719162 := by decide
theorem count2 : count 9999 12 31 = 2932896 := by decide
def yearL (d : Int) : Nat → Int → Int
  | 0, y => y
  | k + 1, y => if y < 9999 ∧ count (y + 1) 1 1 ≤ d then yearL d k (y + 1) else y
def year (d : Int) : Int := yearL d 10000 (1 + (d + 719162) / 366)
def monthL (y : Int) : Nat → Int → Int → Option (Int × Int)
  | 0, _, _ => none
  | k + 1, m, r => if r < last y m then some (m, r + 1) else monthL y k (m + 1) (r - last y m)
theorem yearL_succ (d : Int) (k : Nat) (y : Int) : yearL d (k + 1) y = if y < 9999 ∧ count (y + 1) 1 1 ≤ d then yearL d k (y + 1) else y := rfl
theorem monthL_succ (y : Int) (k : Nat) (m r : Int) : monthL y (k + 1) m r = if r < last y m then some (m, r + 1) else monthL y k (m + 1) (r - last y m) := rfl
/-- Days' date. -/
def date (d : Int) : Option (Int × Int × Int) :=
  if d < -719162 ∨ 2932896 < d then none else (monthL (year d) 12 1 (d - count (year d) 1 1)).map fun x => (year d, x.1, x.2)
theorem count_bd {y : Int} (hy : 1 ≤ y ∧ y ≤ 10000) : -719162 ≤ count y 1 1 ∧ count y 1 1 ≤ 2933000 := by
  unfold count days
  rw [if_pos (by omega)]
  omega
end Cv
def dateV (o : Option (Int × Int × Int)) : Value := match o with
  | some (y, m, d) => .tuple #[.int .i64 y, .int .i64 m, .int .i64 d, .int .i64 0]
  | none => .tuple #[.int .i64 0, .int .i64 0, .int .i64 0, .int .i64 2]
/-- What Date leaves. -/
def DateR (w : World) (d : Int) (e : Ending) (w' : World) : Prop := e = .returned (dateV (Cv.date d)) ∧ Below w.heap.size w w'
set_option maxHeartbeats 8000000 in
set_option maxRecDepth 100000 in
theorem date_any (d : Int) (w : World) (hd : -1000000000 ≤ d ∧ d ≤ 1000000000) : Calls Tryz.prog 61 #[.int .i64 d] w (DateR w d) := by
  have H1 := hide (fun W => count_any 1 1 1 W (by decide) (by decide) (by decide))
  have H2 := hide (fun W => count_any 9999 12 31 W (by decide) (by decide) (by decide))
  rw [Cv.count1] at H1
  rw [Cv.count2] at H2
  have HC := hide (fun y W (h : 1 ≤ y ∧ y ≤ 10000) => count_any y 1 1 W h (by decide) (by decide))
  have HL := hide (fun y m W hy hm => last_any y m W hy hm)
  by_cases hlo : d < -719162
  · have HV := hide (show Cv.date d = none by unfold Cv.date; rw [if_pos (.inl hlo)])
    go_enter Tryz.func61, Tryz.ntmps61
    go_wp2_with fail
    go_wp2_with fail
    refine cq (H1.out _) ?_
    dsimp only
    go_wp2
    (try simp only [Exit.inBlock, Exit.then])
    refine bodyPost_ret (results_tmp4 rfl _ _ _) rfl ?_
    exact ⟨by rw [HV.out]; rfl, Below.refl _ _⟩
  by_cases hhi : 2932896 < d
  · have HV := hide (show Cv.date d = none by unfold Cv.date; rw [if_pos (.inr hhi)])
    go_enter Tryz.func61, Tryz.ntmps61
    go_wp2_with fail
    go_wp2_with fail
    refine cq (H1.out _) ?_
    dsimp only
    go_wp2_with fail
    go_wp2_with fail
    refine cq (H2.out _) ?_
    dsimp only
    go_wp2
    (try simp only [Exit.inBlock, Exit.then])
    refine bodyPost_ret (results_tmp4 rfl _ _ _) rfl ?_
    exact ⟨by rw [HV.out]; rfl, Below.refl _ _⟩
  have z1 : IntKind.i64.wrap (d - -719162) = d + 719162 := by rw [IntWalk.i64_in _ (by omega)]; omega
  have t1 : Int.tdiv (d + 719162) 366 = (d + 719162) / 366 := Int.tdiv_eq_ediv_of_nonneg (by omega)
  obtain ⟨q, hq⟩ : ∃ q, (d + 719162) / 366 = q := ⟨_, rfl⟩
  have hqb : 0 ≤ q ∧ q ≤ 9978 := by omega
  rw [hq] at t1
  obtain ⟨Y, hY⟩ : ∃ Y, Cv.yearL d 10000 (1 + q) = Y := ⟨_, rfl⟩
  have HDt := hide (show Cv.date d = (Cv.monthL Y 12 1 (d - Cv.count Y 1 1)).map fun x => (Y, x.1, x.2) by
    unfold Cv.date Cv.year
    rw [if_neg (by omega), hq, hY])
  have HY := hide hY
  clear hq hY
  go_enter Tryz.func61, Tryz.ntmps61
  go_wp2_with fail
  go_wp2_with fail
  refine cq (H1.out _) ?_
  dsimp only
  go_wp2_with fail
  go_wp2_with fail
  refine cq (H2.out _) ?_
  dsimp only
  go_wp2_with fail
  go_wp2_with fail
  refine cq (H1.out _) ?_
  dsimp only
  go_wp2
  go_loopg [2] 10000 (fun gk v2 wr => ∃ (y : Int), v2 = .int .i64 y ∧ Cv.yearL d gk y = Y ∧ 1 ≤ y ∧ y ≤ 9999 ∧ 10000 ≤ (gk : Int) + y ∧ wr = w)
  case atStart => exact ⟨1 + q, rfl, HY.out, by omega, by omega, by omega, rfl⟩
  case round =>
    obtain ⟨y, rfl, hy, hy1, hy2, hgy, hwr⟩ := hrel
    subst hwr
    have HYy := hide hy
    clear hy
    obtain ⟨c, hc⟩ : ∃ c, Cv.count (y + 1) 1 1 = c := ⟨_, rfl⟩
    have HCy := hide (HC.out (y + 1) wr (by omega))
    rw [hc] at HCy
    have Hc := hide hc
    have zy : IntKind.i64.wrap (y + 1) = y + 1 := IntWalk.i64_in _ (by omega)
    clear hc
    by_cases hy9 : y < 9999
    · by_cases hcd : c ≤ d
      · obtain ⟨k, hk⟩ : ∃ k, gk = k + 1 := ⟨gk - 1, by omega⟩
        subst hk
        have HYn := hide (show Cv.yearL d k (y + 1) = Y by
          rw [← HYy.out, Cv.yearL_succ, if_pos ⟨hy9, by rw [Hc.out]; exact hcd⟩])
        go_wp2_with fail
        go_wp2_with fail
        refine cq (HCy.out) ?_
        dsimp only
        go_wp2
        go_roundg k
        case measure => omega
        case rel => exact ⟨y + 1, rfl, HYn.out, by omega, by omega, by omega, rfl⟩
      · have hyY : y = Y := by
          rw [← HYy.out]
          cases gk with
          | zero => rfl
          | succ k => rw [Cv.yearL_succ, if_neg (fun h => hcd (by rw [← Hc.out]; exact h.2))]
        subst hyY
        clear HYy hgy HY
        go_wp2_with fail
        go_wp2_with fail
        refine cq (HCy.out) ?_
        dsimp only
        obtain ⟨c1, hc1⟩ : ∃ c1, Cv.count y 1 1 = c1 := ⟨_, rfl⟩
        have HCy1 := hide (HC.out y wr ⟨by omega, by omega⟩)
        have hcb := Cv.count_bd (y := y) ⟨by omega, by omega⟩
        rw [hc1] at HCy1 HDt hcb
        obtain ⟨M, hM⟩ : ∃ M, Cv.monthL y 12 1 (d - c1) = M := ⟨_, rfl⟩
        rw [hM] at HDt
        have HM := hide hM
        obtain ⟨r0, hr0⟩ : ∃ r0, d - c1 = r0 := ⟨_, rfl⟩
        have hr0b : -4000000 ≤ r0 ∧ r0 ≤ 4000000 := by omega
        have zr : IntKind.i64.wrap (d - c1) = r0 := by rw [IntWalk.i64_in _ (by omega)]; exact hr0
        have Hr0 := hide hr0
        clear hc1 hM hr0 hcb
        go_wp2_with fail
        go_wp2_with fail
        refine cq (HCy1.out) ?_
        dsimp only
        go_wp2
        go_loopg [2, 37, 6] 12 (fun gj vy vm vr wj => ∃ (m r : Int), vy = .int .i64 y ∧ vm = .int .i64 m ∧ vr = .int .i64 r ∧ (gj : Int) + m = 12 ∧ 0 ≤ m ∧ Cv.monthL y gj (m + 1) r = M ∧ -10000000 ≤ r + 40 * m ∧ r ≤ 10000000 ∧ Below wr.heap.size wr wj)
        case atStart => exact ⟨0, r0, rfl, rfl, by first | rfl | exact int_eq zr, by omega, by omega, by rw [← Hr0.out]; exact HM.out, by omega, by omega, Below.refl _ _⟩
        case round =>
          obtain ⟨m, r, rfl, rfl, rfl, hgm, hm0, hmn, hr1, hr2, hb⟩ := hrel
          have HB := hide hb
          have HMn := hide hmn
          have Hgm := hide hgm
          clear hb hmn
          by_cases hm12 : m < 12
          · obtain ⟨k, hk⟩ : ∃ k, gk = k + 1 := ⟨gk - 1, by omega⟩
            subst hk
            obtain ⟨ls, hls⟩ : ∃ ls, Cv.last y (m + 1) = ls := ⟨_, rfl⟩
            have hlb : 28 ≤ ls ∧ ls ≤ 31 := by
              rw [← hls]
              unfold Cv.last
              repeat' split
              all_goals omega
            have HLy := hide (HL.out y (m + 1) wr ⟨by omega, by omega⟩ ⟨by omega, by omega⟩)
            rw [hls] at HLy
            have Hls := hide hls
            have zm : IntKind.i64.wrap (m + 1) = m + 1 := IntWalk.i64_in _ (by omega)
            clear hls hgm
            by_cases hrl : r < ls
            · have HMv := hide (show M = some (m + 1, r + 1) by rw [← HMn.out, Cv.monthL_succ, Hls.out, if_pos hrl])
              have zr1 : IntKind.i64.wrap (r + 1) = r + 1 := IntWalk.i64_in _ (by omega)
              go_wp2_with fail
              refine HLy.out.mono ?_
              rintro e w2 ⟨rfl, hb2⟩
              have HB2 := hide (HB.out.trans (hb2.mono HB.out.size))
              clear hb2
              dsimp only
              go_wp2
              (try simp only [Exit.inBlock, Exit.then])
              refine bodyPost_ret (results_tmp4 rfl _ _ _) rfl ?_
              exact ⟨by rw [HDt.out, HMv.out]; rfl, HB2.out⟩
            · have HMv := hide (show Cv.monthL y k (m + 1 + 1) (r - ls) = M by
                rw [← HMn.out, Cv.monthL_succ, Hls.out, if_neg hrl])
              have zr1 : IntKind.i64.wrap (r - ls) = r - ls := IntWalk.i64_in _ (by omega)
              have hrl2 : ¬ r < ls := hrl
              go_wp2_with fail
              refine HLy.out.mono ?_
              rintro e w2 ⟨rfl, hb2⟩
              have HB2 := hide (HB.out.trans (hb2.mono HB.out.size))
              clear hb2
              dsimp only
              go_wp2
              go_roundg k
              case measure => omega
              case rel => exact ⟨m + 1, r - ls, rfl, rfl, rfl, by have := Hgm.out; omega, by omega, HMv.out, by omega, by omega, HB2.out⟩
          · have hgj : gk = 0 := by omega
            subst hgj
            have HMv := hide (show M = none by rw [← HMn.out]; rfl)
            clear hgm
            go_wp2
            (try simp only [Exit.inBlock, Exit.then])
            refine bodyPost_ret (results_tmp4 rfl _ _ _) rfl ?_
            exact ⟨by rw [HDt.out, HMv.out]; rfl, HB.out⟩
    · have hyY : y = Y := by
        rw [← HYy.out]
        cases gk with
        | zero => rfl
        | succ k => rw [Cv.yearL_succ, if_neg (fun h => hy9 h.1)]
      subst hyY
      clear HYy hgy HY
      obtain ⟨c1, hc1⟩ : ∃ c1, Cv.count y 1 1 = c1 := ⟨_, rfl⟩
      have HCy1 := hide (HC.out y wr ⟨by omega, by omega⟩)
      have hcb := Cv.count_bd (y := y) ⟨by omega, by omega⟩
      rw [hc1] at HCy1 HDt hcb
      obtain ⟨M, hM⟩ : ∃ M, Cv.monthL y 12 1 (d - c1) = M := ⟨_, rfl⟩
      rw [hM] at HDt
      have HM := hide hM
      obtain ⟨r0, hr0⟩ : ∃ r0, d - c1 = r0 := ⟨_, rfl⟩
      have hr0b : -4000000 ≤ r0 ∧ r0 ≤ 4000000 := by omega
      have zr : IntKind.i64.wrap (d - c1) = r0 := by rw [IntWalk.i64_in _ (by omega)]; exact hr0
      have Hr0 := hide hr0
      clear hc1 hM hr0 hcb
      go_wp2_with fail
      go_wp2_with fail
      refine cq (HCy1.out) ?_
      dsimp only
      go_wp2
      go_loopg [2, 37, 6] 12 (fun gj vy vm vr wj => ∃ (m r : Int), vy = .int .i64 y ∧ vm = .int .i64 m ∧ vr = .int .i64 r ∧ (gj : Int) + m = 12 ∧ 0 ≤ m ∧ Cv.monthL y gj (m + 1) r = M ∧ -10000000 ≤ r + 40 * m ∧ r ≤ 10000000 ∧ Below wr.heap.size wr wj)
      case atStart => exact ⟨0, r0, rfl, rfl, by first | rfl | exact int_eq zr, by omega, by omega, by rw [← Hr0.out]; exact HM.out, by omega, by omega, Below.refl _ _⟩
      case round =>
        obtain ⟨m, r, rfl, rfl, rfl, hgm, hm0, hmn, hr1, hr2, hb⟩ := hrel
        have HB := hide hb
        have HMn := hide hmn
        have Hgm := hide hgm
        clear hb hmn
        by_cases hm12 : m < 12
        · obtain ⟨k, hk⟩ : ∃ k, gk = k + 1 := ⟨gk - 1, by omega⟩
          subst hk
          obtain ⟨ls, hls⟩ : ∃ ls, Cv.last y (m + 1) = ls := ⟨_, rfl⟩
          have hlb : 28 ≤ ls ∧ ls ≤ 31 := by
            rw [← hls]
            unfold Cv.last
            repeat' split
            all_goals omega
          have HLy := hide (HL.out y (m + 1) wr ⟨by omega, by omega⟩ ⟨by omega, by omega⟩)
          rw [hls] at HLy
          have Hls := hide hls
          have zm : IntKind.i64.wrap (m + 1) = m + 1 := IntWalk.i64_in _ (by omega)
          clear hls hgm
          by_cases hrl : r < ls
          · have HMv := hide (show M = some (m + 1, r + 1) by rw [← HMn.out, Cv.monthL_succ, Hls.out, if_pos hrl])
            have zr1 : IntKind.i64.wrap (r + 1) = r + 1 := IntWalk.i64_in _ (by omega)
            go_wp2_with fail
            refine HLy.out.mono ?_
            rintro e w2 ⟨rfl, hb2⟩
            have HB2 := hide (HB.out.trans (hb2.mono HB.out.size))
            clear hb2
            dsimp only
            go_wp2
            (try simp only [Exit.inBlock, Exit.then])
            refine bodyPost_ret (results_tmp4 rfl _ _ _) rfl ?_
            exact ⟨by rw [HDt.out, HMv.out]; rfl, HB2.out⟩
          · have HMv := hide (show Cv.monthL y k (m + 1 + 1) (r - ls) = M by
              rw [← HMn.out, Cv.monthL_succ, Hls.out, if_neg hrl])
            have zr1 : IntKind.i64.wrap (r - ls) = r - ls := IntWalk.i64_in _ (by omega)
            have hrl2 : ¬ r < ls := hrl
            go_wp2_with fail
            refine HLy.out.mono ?_
            rintro e w2 ⟨rfl, hb2⟩
            have HB2 := hide (HB.out.trans (hb2.mono HB.out.size))
            clear hb2
            dsimp only
            go_wp2
            go_roundg k
            case measure => omega
            case rel => exact ⟨m + 1, r - ls, rfl, rfl, rfl, by have := Hgm.out; omega, by omega, HMv.out, by omega, by omega, HB2.out⟩
        · have hgj : gk = 0 := by omega
          subst hgj
          have HMv := hide (show M = none by rw [← HMn.out]; rfl)
          clear hgm
          go_wp2
          (try simp only [Exit.inBlock, Exit.then])
          refine bodyPost_ret (results_tmp4 rfl _ _ _) rfl ?_
          exact ⟨by rw [HDt.out, HMv.out]; rfl, HB.out⟩
end Go.Proofs.YtlcfakmbcfdgbaaGreat
namespace Go.Proofs.YtlcfakmbcfdgbaaGreat
open Go.RowKit Go.WideShapes

namespace Cv
/-- A second's time: its date, its hour, minute, second. -/
def civil (s : Int) : Option (Int × Int × Int) := if s < -62135596800 ∨ 253402300799 < s then none else date ((s + 62135596800) / 86400 - 719162)
def rest (s : Int) : Int := (s + 62135596800) % 86400
end Cv
def CivilR (w : World) (s : Int) (e : Ending) (w' : World) : Prop := Below w.heap.size w w' ∧ match Cv.civil s with
  | some (y, m, d) => e = .returned (.tuple #[.agg #[.int .i64 y, .int .i64 m, .int .i64 d, .int .i64 (Cv.rest s / 3600), .int .i64 (Cv.rest s / 60 % 60), .int .i64 (Cv.rest s % 60)], .int .i64 0])
  | none => ∃ v1 v2 v3 v4 v5 v6 : Int, e = .returned (.tuple #[.agg #[.int .i64 v1, .int .i64 v2, .int .i64 v3, .int .i64 v4, .int .i64 v5, .int .i64 v6], .int .i64 2])
theorem civil_ret {a : Act} {W : World} {N : Nat} {e : Value} {cs : Array Value} {Q : Ending → World → Prop} (ha : a.tmps.getD 2 undef = .pointer (some ⟨N, 0, none⟩)) (he : a.tmps.getD 3 undef = e) (hd : a.defers = []) (hK : Blk W N 74 cs) (hc : cs.size = 6) (hQ : Q (.returned (.tuple #[.agg cs, e])) W) : bodyPost Tryz.prog Tryz.f45 Q Exit.ret a W := by
  refine bodyPost_ret (v := .tuple #[.agg cs, e]) ?_ hd hQ
  rw [results_cell_tmp (p := 2) (u := 3) (ty := 74) rfl, ha, he]
  have hi : (Tryz.prog.info? 74).map (·.size) = some cs.size := by rw [hc]; kernel_rfl
  simp [asAddr, run_loadVar_row W N 74 74 cs (0, 0) _ hK Tryz.underlying74 rfl hi, Result.andThen]
set_option maxHeartbeats 8000000 in
set_option maxRecDepth 100000 in
theorem civil_any (s : Int) (w : World) (hs : (Lit.int .i64 s).wf = true) : Calls Tryz.prog 45 #[.int .i64 s] w (CivilR w s) := by
  have hsb := wf_i64r hs
  have HO := hide (below_alloc w (.cells #[.int .i64 0, .int .i64 0, .int .i64 0, .int .i64 0, .int .i64 0, .int .i64 0] 74))
  have HK := hide (Blk.new w 74 #[.int .i64 0, .int .i64 0, .int .i64 0, .int .i64 0, .int .i64 0, .int .i64 0])
  have hz : (w.alloc (.cells #[.int .i64 0, .int .i64 0, .int .i64 0, .int .i64 0, .int .i64 0, .int .i64 0] 74)).heap.size = w.heap.size + 1 := by simp
  have Hz := hide hz
  clear hz
  by_cases h1 : s < -62135596800
  · have HV := hide (show Cv.civil s = none by unfold Cv.civil; rw [if_pos (.inl h1)])
    go_enter Tryz.func45, Tryz.ntmps45
    go_wp2
    refine civil_ret rfl rfl rfl HK.out rfl ?_
    refine ⟨HO.out, ?_⟩
    rw [HV.out]
    exact ⟨_, _, _, _, _, _, rfl⟩
  by_cases h2 : 253402300799 < s
  · have HV := hide (show Cv.civil s = none by unfold Cv.civil; rw [if_pos (.inr h2)])
    go_enter Tryz.func45, Tryz.ntmps45
    go_wp2
    refine civil_ret rfl rfl rfl HK.out rfl ?_
    refine ⟨HO.out, ?_⟩
    rw [HV.out]
    exact ⟨_, _, _, _, _, _, rfl⟩
  obtain ⟨D, hD⟩ : ∃ D, (s + 62135596800) / 86400 + -719162 = D := ⟨_, rfl⟩
  have HV := hide (show Cv.civil s = Cv.date D by unfold Cv.civil; rw [if_neg (by omega), ← hD]; rfl)
  have H1 := hide (fun W => count_any 1 1 1 W (by decide) (by decide) (by decide))
  rw [Cv.count1] at H1
  have HD := hide (fun W => date_any D W (by omega))
  rw [← hD] at HD
  have HDd := hide hD
  have HR1 := hide (show (s + 62135596800) % 86400 / 3600 = Cv.rest s / 3600 ∧ (s + 62135596800) % 86400 / 60 % 60 = Cv.rest s / 60 % 60 ∧ (s + 62135596800) % 60 = Cv.rest s % 60 by unfold Cv.rest; omega)
  have HN := hide (Blk.new w 74 #[.int .i64 0, .int .i64 0, .int .i64 0, .int .i64 ((s + 62135596800) % 86400 / 3600), .int .i64 ((s + 62135596800) % 86400 / 60 % 60), .int .i64 ((s + 62135596800) % 60)])
  have HNb := hide (below_alloc w (.cells #[.int .i64 0, .int .i64 0, .int .i64 0, .int .i64 ((s + 62135596800) % 86400 / 3600), .int .i64 ((s + 62135596800) % 86400 / 60 % 60), .int .i64 ((s + 62135596800) % 60)] 74))
  clear hD
  go_enter Tryz.func45, Tryz.ntmps45
  go_wp2_with fail
  go_wp2_with fail
  refine cq (H1.out _) ?_
  dsimp only
  go_wp2_with fail
  refine (HD.out _).mono ?_
  rintro e w2 ⟨rfl, hb2⟩
  have hk2 := HN.out.go hb2
  have HB2 := hide (HNb.out.trans (hb2.mono HNb.out.size))
  rw [HDd.out]
  have f0 := hk2.frozen 0
  have f1 := hk2.frozen 1
  have f2 := hk2.frozen 2
  have c0 := hk2.cell 0
  have c1 := hk2.cell 1
  have c2 := hk2.cell 2
  have f3 := hk2.frozen 3
  have f4 := hk2.frozen 4
  have f5 := hk2.frozen 5
  have c3 := hk2.cell 3
  have c4 := hk2.cell 4
  have c5 := hk2.cell 5
  have HK2 := hide hk2
  clear hb2 hk2
  cases hdt : Cv.date D with
  | some x =>
    obtain ⟨y, m, d⟩ := x
    have HV2 := hide (HV.out.trans hdt)
    unfold dateV
    clear hdt
    dsimp only
    go_wp2
    refine civil_ret (N := w.heap.size) (cs := #[.int .i64 y, .int .i64 m, .int .i64 d, .int .i64 ((s + 62135596800) % 86400 / 3600), .int .i64 ((s + 62135596800) % 86400 / 60 % 60), .int .i64 ((s + 62135596800) % 60)]) rfl rfl rfl ?_ rfl ?_
    · have := (((((((((HK2.out.set_ 0 (.int .i64 y)).set_ 1 (.int .i64 m)).set_ 2 (.int .i64 d)).set_ 0 (.int .i64 y)).set_ 1 (.int .i64 m)).set_ 2 (.int .i64 d)).set_ 3 (.int .i64 ((s + 62135596800) % 86400 / 3600))).set_ 4 (.int .i64 ((s + 62135596800) % 86400 / 60 % 60))).set_ 5 (.int .i64 ((s + 62135596800) % 60)))
      simpa using this
    · refine ⟨?_, ?_⟩
      · exact ((((((((HB2.out.setCell (p := ⟨w.heap.size, 0, none⟩) (Nat.le_refl _) (.int .i64 y)).setCell (p := ⟨w.heap.size, 1, none⟩) (Nat.le_refl _) (.int .i64 m)).setCell (p := ⟨w.heap.size, 2, none⟩) (Nat.le_refl _) (.int .i64 d)).setCell (p := ⟨w.heap.size, 0, none⟩) (Nat.le_refl _) (.int .i64 y)).setCell (p := ⟨w.heap.size, 1, none⟩) (Nat.le_refl _) (.int .i64 m)).setCell (p := ⟨w.heap.size, 2, none⟩) (Nat.le_refl _) (.int .i64 d)).setCell (p := ⟨w.heap.size, 3, none⟩) (Nat.le_refl _) _).setCell (p := ⟨w.heap.size, 4, none⟩) (Nat.le_refl _) _).setCell (p := ⟨w.heap.size, 5, none⟩) (Nat.le_refl _) _
      · rw [HV2.out, HR1.out.1, HR1.out.2.1, HR1.out.2.2]
        rfl
  | none =>
    have HV2 := hide (HV.out.trans hdt)
    unfold dateV
    clear hdt
    dsimp only
    go_wp2
    refine civil_ret (N := w.heap.size) (cs := #[.int .i64 0, .int .i64 0, .int .i64 0, .int .i64 ((s + 62135596800) % 86400 / 3600), .int .i64 ((s + 62135596800) % 86400 / 60 % 60), .int .i64 ((s + 62135596800) % 60)]) rfl rfl rfl ?_ rfl ?_
    · have := (((((((((HK2.out.set_ 0 (.int .i64 0)).set_ 1 (.int .i64 0)).set_ 2 (.int .i64 0)).set_ 0 (.int .i64 0)).set_ 1 (.int .i64 0)).set_ 2 (.int .i64 0)).set_ 3 (.int .i64 ((s + 62135596800) % 86400 / 3600))).set_ 4 (.int .i64 ((s + 62135596800) % 86400 / 60 % 60))).set_ 5 (.int .i64 ((s + 62135596800) % 60)))
      simpa using this
    · refine ⟨?_, ?_⟩
      · exact ((((((((HB2.out.setCell (p := ⟨w.heap.size, 0, none⟩) (Nat.le_refl _) (.int .i64 0)).setCell (p := ⟨w.heap.size, 1, none⟩) (Nat.le_refl _) (.int .i64 0)).setCell (p := ⟨w.heap.size, 2, none⟩) (Nat.le_refl _) (.int .i64 0)).setCell (p := ⟨w.heap.size, 0, none⟩) (Nat.le_refl _) (.int .i64 0)).setCell (p := ⟨w.heap.size, 1, none⟩) (Nat.le_refl _) (.int .i64 0)).setCell (p := ⟨w.heap.size, 2, none⟩) (Nat.le_refl _) (.int .i64 0)).setCell (p := ⟨w.heap.size, 3, none⟩) (Nat.le_refl _) _).setCell (p := ⟨w.heap.size, 4, none⟩) (Nat.le_refl _) _).setCell (p := ⟨w.heap.size, 5, none⟩) (Nat.le_refl _) _
      · rw [HV2.out, HR1.out.1, HR1.out.2.1, HR1.out.2.2]
        exact ⟨_, _, _, _, _, _, rfl⟩
end Go.Proofs.YtlcfakmbcfdgbaaGreat
namespace Go.Proofs.YtlcfakmbcfdgbaaGreat
open Go.RowKit Go.WideShapes

namespace Cv
/-- Digits put from a place on, so many, the last one first. -/
def digL (from_ : Nat) : Nat → Int → List UInt8 → List UInt8
  | 0, _, l => l
  | k + 1, n, l => digL from_ k (n / 10) (l.set (from_ + k) (bv (48 + n % 10)))
theorem digL_len (f : Nat) : ∀ (k : Nat) (n : Int) (l : List UInt8), (digL f k n l).length = l.length
  | 0, _, _ => rfl
  | k + 1, n, l => by unfold digL; rw [digL_len f k]; exact List.length_set
end Cv
theorem byteVs_set (l : List UInt8) (j : Nat) (c : UInt8) : byteVs (l.set j c) = (byteVs l).set j (.int .u8 (c.toNat : Int)) := by
  unfold byteVs; rw [List.map_set]
/-- A row of bytes laid from a constant string: its block, with the mark behind its last cell. -/
def BRow (w : World) (g : Nat) (l : List UInt8) : Prop := w.heap[g]? = some (.cells (byteVs l).toArray 5 (l.length, l.length + 1))
theorem BRow.set {w : World} {g : Nat} {l : List UInt8} (h : BRow w g l) (j : Nat) (c : UInt8) : BRow (w.setCell ⟨g, j, none⟩ (.int .u8 (c.toNat : Int))) g (l.set j c) := by
  unfold BRow at *
  have e : (byteVs l).toArray.setIfInBounds j (Value.int .u8 (c.toNat : Int)) = (byteVs (l.set j c)).toArray := by
    rw [byteVs_set]
    apply Array.ext'
    rw [Array.toList_setIfInBounds]
  rw [← e, List.length_set]
  simp [World.setCell, Array.getElem?_modify, h]
theorem BRow.cell {w : World} {g : Nat} {l : List UInt8} (h : BRow w g l) (i : Nat) : w.cell? ⟨g, i, none⟩ = (byteVs l).toArray[i]? := cell_of_row w g i _ _ _ h
theorem BRow.frozen {w : World} {g : Nat} {l : List UInt8} (h : BRow w g l) (i : Nat) (hi : i < l.length) : w.frozen? ⟨g, i, none⟩ = false := by
  unfold BRow at h
  simp [World.frozen?, h]
  omega
set_option maxHeartbeats 8000000 in
set_option maxRecDepth 100000 in
theorem digits_any (l : List UInt8) (g Pb f k N : Nat) (n : Int) (w : World) (h : BRow w g l) (hl : l.length = N) (hP : Blk w Pb 40 #[.slice (some ⟨g, 0, none⟩) N N]) (hgP : g ≠ Pb) (hk : f + k ≤ N) (hN : N ≤ 1000) (hn : 0 ≤ n ∧ n ≤ 1000000000) :
    Calls Tryz.prog 46 #[.int .i64 n, .int .i64 (f : Int), .int .i64 ((f + k : Nat) : Int), .pointer (some ⟨Pb, 0, none⟩)] w fun e w' => e = .returned (.tuple #[]) ∧ BRow w' g (Cv.digL f k n l) ∧ But g w w' := by
  obtain ⟨tt, hto⟩ : ∃ tt, f + k = tt := ⟨_, rfl⟩
  rw [hto] at hk ⊢
  have HTo := hide hto
  obtain ⟨R, hR⟩ : ∃ R, Cv.digL f k n l = R := ⟨_, rfl⟩
  rw [hR]
  have HR := hide hR
  have H := hide h
  have Hl := hide hl
  have HP := hide hP
  clear hto hR h hl hP
  go_enter Tryz.func46, Tryz.ntmps46
  go_wp2
  go_loopg [0, 2] k (fun gk v0 v2 wr => ∃ (n' : Int) (t : Nat) (l' : List UInt8), v0 = .int .i64 n' ∧ v2 = .int .i64 (t : Int) ∧ t = f + gk ∧ t ≤ tt ∧ Cv.digL f gk n' l' = R ∧ l'.length = N ∧ 0 ≤ n' ∧ n' ≤ 1000000000 ∧ BRow wr g l' ∧ But g w wr)
  case atStart => exact ⟨n, tt, l, rfl, rfl, HTo.out.symm, Nat.le_refl _, HR.out, Hl.out, hn.1, hn.2, H.out, But.refl _ _⟩
  case round =>
    obtain ⟨n', t, l', rfl, rfl, ht, htto, hdg, hl', hn0, hn1, hb, hbt⟩ := hrel
    have Ht := hide ht
    have HDg := hide hdg
    have Hl' := hide hl'
    have HB := hide hb
    have HBt := hide hbt
    clear ht hdg hl' hb hbt
    by_cases hlt : f < t
    · obtain ⟨j, hj⟩ : ∃ j, gk = j + 1 := ⟨gk - 1, by have := Ht.out; omega⟩
      subst hj
      obtain ⟨p, hp⟩ : ∃ p, f + j = p := ⟨_, rfl⟩
      have htp : (t : Int) - 1 = (p : Int) := by have := Ht.out; omega
      have zt : IntKind.i64.wrap ((t : Int) - 1) = (p : Int) := by rw [IntWalk.i64_in _ (by omega)]; exact htp
      have hpN : p < N := by have := Ht.out; omega
      have m1 : Int.tmod n' 10 = n' % 10 := Int.tmod_eq_emod_of_nonneg hn0
      have m2 : Int.tdiv n' 10 = n' / 10 := Int.tdiv_eq_ediv_of_nonneg hn0
      obtain ⟨q, hq⟩ : ∃ q, n' % 10 = q := ⟨_, rfl⟩
      have hqb : 0 ≤ q ∧ q < 10 := by omega
      have hbv : ((bv (48 + q)).toNat : Int) = 48 + q := bv_toNat _ (by omega) (by omega)
      rw [hq] at m1
      have HN := hide (HB.out.set p (bv (48 + q)))
      rw [hbv] at HN
      have HD2 := hide (show Cv.digL f j (n' / 10) (l'.set p (bv (48 + q))) = R by
        rw [← HDg.out, ← hp, ← hq]
        rfl)
      have cP := (HBt.out.blk HP.out (Ne.symm hgP)).cell 0
      have f1 := HB.out.frozen p (by rw [Hl'.out]; exact hpN)
      have c1 : ∃ u, wr.cell? ⟨g, p, none⟩ = some u := ⟨_, by rw [HB.out.cell p, List.getElem?_toArray, byteVs, List.getElem?_map, List.getElem?_eq_getElem (by rw [Hl'.out]; exact hpN)]; rfl⟩
      obtain ⟨u1, c1⟩ := c1
      have zw : IntKind.u8.wrap (48 + q) = 48 + q := by rw [IntKind.wrap_u8]; omega
      have Hbt2 := hide (HBt.out.setCell (p := ⟨g, p, none⟩) (.inl rfl) (.int .u8 (48 + q)))
      have Hp := hide hp
      clear hp hq hbv htp
      go_wp2
      go_roundg j
      case measure => omega
      case rel => exact ⟨n' / 10, p, l'.set p (bv (48 + q)), rfl, by first | rfl | go_num, Hp.out.symm, by have := Ht.out; have := Hp.out; omega, HD2.out, by rw [List.length_set]; exact Hl'.out, by omega, by omega, HN.out, Hbt2.out⟩
    · have hg0 : gk = 0 := by have := Ht.out; omega
      subst hg0
      go_wp2
      go_end0
      exact ⟨rfl, by rw [← HDg.out]; exact HB.out, HBt.out⟩
end Go.Proofs.YtlcfakmbcfdgbaaGreat
