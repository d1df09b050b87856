/- Days and seconds (civil): Date. · Seconds (civil.Civil). · Stamps: stamp.Text's digits. · Stamps: stamp.Text. -/
import Derived.Test.YtheaknghgpafpaaWv00
import Derived.Test.YtheaknghgpafpaaWv16
import Derived.Laws.ResultCell
import Derived.Lib.SlBytesConst
set_option linter.unusedSimpArgs false
set_option linter.unusedVariables false
namespace Go.Proofs.Ytheaknghgpafpaa
open Go.RowKit Go.WideShapes

namespace Cv
theorem count1 : count 1 1 1 = -719162 := by decide
theorem count2 : count 9999 12 31 = 2932896 := by decide
def yearL (d : Int) : Nat → Int → Int
  | 0, y => y
  | k + 1, y => if y < 9999 ∧ count (y + 1) 1 1 ≤ d then yearL d k (y + 1) else y
def year (d : Int) : Int := yearL d 10000 (1 + (d + 719162) / 366)
def monthL (y : Int) : Nat → Int → Int → Option (Int × Int)
  | 0, _, _ => none
  | k + 1, m, r => if r < last y m then some (m, r + 1) else monthL y k (m + 1) (r - last y m)
theorem yearL_succ (d : Int) (k : Nat) (y : Int) : yearL d (k + 1) y = if y < 9999 ∧ count (y + 1) 1 1 ≤ d then yearL d k (y + 1) else y := rfl
theorem monthL_succ (y : Int) (k : Nat) (m r : Int) : monthL y (k + 1) m r = if r < last y m then some (m, r + 1) else monthL y k (m + 1) (r - last y m) := rfl
/-- Days' date. -/
def date (d : Int) : Option (Int × Int × Int) :=
  if d < -719162 ∨ 2932896 < d then none else (monthL (year d) 12 1 (d - count (year d) 1 1)).map fun x => (year d, x.1, x.2)
theorem count_bd {y : Int} (hy : 1 ≤ y ∧ y ≤ 10000) : -719162 ≤ count y 1 1 ∧ count y 1 1 ≤ 2933000 := by
  unfold count days
  rw [if_pos (by omega)]
  omega
end Cv
def dateV (o : Option (Int × Int × Int)) : Value := match o with
  | some (y, m, d) => .tuple #[.int .i64 y, .int .i64 m, .int .i64 d, .int .i64 0]
  | none => .tuple #[.int .i64 0, .int .i64 0, .int .i64 0, .int .i64 2]
/-- What Date leaves. -/
def DateR (w : World) (d : Int) (e : Ending) (w' : World) : Prop := e = .returned (dateV (Cv.date d)) ∧ Below w.heap.size w w'
set_option maxHeartbeats 8000000 in
set_option maxRecDepth 100000 in
theorem date_any (d : Int) (w : World) (hd : -1000000000 ≤ d ∧ d ≤ 1000000000) : Calls Try.prog 40 #[.int .i64 d] w (DateR w d) := by
  have H1 := hide (fun W => count_any 1 1 1 W (by decide) (by decide) (by decide))
  have H2 := hide (fun W => count_any 9999 12 31 W (by decide) (by decide) (by decide))
  rw [Cv.count1] at H1
  rw [Cv.count2] at H2
  have HC := hide (fun y W (h : 1 ≤ y ∧ y ≤ 10000) => count_any y 1 1 W h (by decide) (by decide))
  have HL := hide (fun y m W hy hm => last_any y m W hy hm)
  by_cases hlo : d < -719162
  · have HV := hide (show Cv.date d = none by unfold Cv.date; rw [if_pos (.inl hlo)])
    go_enter Try.func40, Try.ntmps40
    go_wp2_with fail
    go_wp2_with fail
    refine cq (H1.out _) ?_
    dsimp only
    go_wp2
    (try simp only [Exit.inBlock, Exit.then])
    refine bodyPost_ret (results_tmp4 rfl _ _ _) rfl ?_
    exact ⟨by rw [HV.out]; rfl, Below.refl _ _⟩
  by_cases hhi : 2932896 < d
  · have HV := hide (show Cv.date d = none by unfold Cv.date; rw [if_pos (.inr hhi)])
    go_enter Try.func40, Try.ntmps40
    go_wp2_with fail
    go_wp2_with fail
    refine cq (H1.out _) ?_
    dsimp only
    go_wp2_with fail
    go_wp2_with fail
    refine cq (H2.out _) ?_
    dsimp only
    go_wp2
    (try simp only [Exit.inBlock, Exit.then])
    refine bodyPost_ret (results_tmp4 rfl _ _ _) rfl ?_
    exact ⟨by rw [HV.out]; rfl, Below.refl _ _⟩
  have z1 : IntKind.i64.wrap (d - -719162) = d + 719162 := by rw [IntWalk.i64_in _ (by omega)]; omega
  have t1 : Int.tdiv (d + 719162) 366 = (d + 719162) / 366 := Int.tdiv_eq_ediv_of_nonneg (by omega)
  obtain ⟨q, hq⟩ : ∃ q, (d + 719162) / 366 = q := ⟨_, rfl⟩
  have hqb : 0 ≤ q ∧ q ≤ 9978 := by omega
  rw [hq] at t1
  obtain ⟨Y, hY⟩ : ∃ Y, Cv.yearL d 10000 (1 + q) = Y := ⟨_, rfl⟩
  have HDt := hide (show Cv.date d = (Cv.monthL Y 12 1 (d - Cv.count Y 1 1)).map fun x => (Y, x.1, x.2) by
    unfold Cv.date Cv.year
    rw [if_neg (by omega), hq, hY])
  have HY := hide hY
  clear hq hY
  go_enter Try.func40, Try.ntmps40
  go_wp2_with fail
  go_wp2_with fail
  refine cq (H1.out _) ?_
  dsimp only
  go_wp2_with fail
  go_wp2_with fail
  refine cq (H2.out _) ?_
  dsimp only
  go_wp2_with fail
  go_wp2_with fail
  refine cq (H1.out _) ?_
  dsimp only
  go_wp2
  go_loopg [2] 10000 (fun gk v2 wr => ∃ (y : Int), v2 = .int .i64 y ∧ Cv.yearL d gk y = Y ∧ 1 ≤ y ∧ y ≤ 9999 ∧ 10000 ≤ (gk : Int) + y ∧ wr = w)
  case atStart => exact ⟨1 + q, rfl, HY.out, by omega, by omega, by omega, rfl⟩
  case round =>
    obtain ⟨y, rfl, hy, hy1, hy2, hgy, hwr⟩ := hrel
    subst hwr
    have HYy := hide hy
    clear hy
    obtain ⟨c, hc⟩ : ∃ c, Cv.count (y + 1) 1 1 = c := ⟨_, rfl⟩
    have HCy := hide (HC.out (y + 1) wr (by omega))
    rw [hc] at HCy
    have Hc := hide hc
    have zy : IntKind.i64.wrap (y + 1) = y + 1 := IntWalk.i64_in _ (by omega)
    clear hc
    by_cases hy9 : y < 9999
    · by_cases hcd : c ≤ d
      · obtain ⟨k, hk⟩ : ∃ k, gk = k + 1 := ⟨gk - 1, by omega⟩
        subst hk
        have HYn := hide (show Cv.yearL d k (y + 1) = Y by
          rw [← HYy.out, Cv.yearL_succ, if_pos ⟨hy9, by rw [Hc.out]; exact hcd⟩])
        go_wp2_with fail
        go_wp2_with fail
        refine cq (HCy.out) ?_
        dsimp only
        go_wp2
        go_roundg k
        case measure => omega
        case rel => exact ⟨y + 1, rfl, HYn.out, by omega, by omega, by omega, rfl⟩
      · have hyY : y = Y := by
          rw [← HYy.out]
          cases gk with
          | zero => rfl
          | succ k => rw [Cv.yearL_succ, if_neg (fun h => hcd (by rw [← Hc.out]; exact h.2))]
        subst hyY
        clear HYy hgy HY
        go_wp2_with fail
        go_wp2_with fail
        refine cq (HCy.out) ?_
        dsimp only
        obtain ⟨c1, hc1⟩ : ∃ c1, Cv.count y 1 1 = c1 := ⟨_, rfl⟩
        have HCy1 := hide (HC.out y wr ⟨by omega, by omega⟩)
        have hcb := Cv.count_bd (y := y) ⟨by omega, by omega⟩
        rw [hc1] at HCy1 HDt hcb
        obtain ⟨M, hM⟩ : ∃ M, Cv.monthL y 12 1 (d - c1) = M := ⟨_, rfl⟩
        rw [hM] at HDt
        have HM := hide hM
        obtain ⟨r0, hr0⟩ : ∃ r0, d - c1 = r0 := ⟨_, rfl⟩
        have hr0b : -4000000 ≤ r0 ∧ r0 ≤ 4000000 := by omega
        have zr : IntKind.i64.wrap (d - c1) = r0 := by rw [IntWalk.i64_in _ (by omega)]; exact hr0
        have Hr0 := hide hr0
        clear hc1 hM hr0 hcb
        go_wp2_with fail
        go_wp2_with fail
        refine cq (HCy1.out) ?_
        dsimp only
        go_wp2
        go_loopg [2, 37, 6] 12 (fun gj vy vm vr wj => ∃ (m r : Int), vy = .int .i64 y ∧ vm = .int .i64 m ∧ vr = .int .i64 r ∧ (gj : Int) + m = 12 ∧ 0 ≤ m ∧ Cv.monthL y gj (m + 1) r = M ∧ -10000000 ≤ r + 40 * m ∧ r ≤ 10000000 ∧ Below wr.heap.size wr wj)
        case atStart => exact ⟨0, r0, rfl, rfl, by first | rfl | exact int_eq zr, by omega, by omega, by rw [← Hr0.out]; exact HM.out, by omega, by omega, Below.refl _ _⟩
        case round =>
          obtain ⟨m, r, rfl, rfl, rfl, hgm, hm0, hmn, hr1, hr2, hb⟩ := hrel
          have HB := hide hb
          have HMn := hide hmn
          have Hgm := hide hgm
          clear hb hmn
          by_cases hm12 : m < 12
          · obtain ⟨k, hk⟩ : ∃ k, gk = k + 1 := ⟨gk - 1, by omega⟩
            subst hk
            obtain ⟨ls, hls⟩ : ∃ ls, Cv.last y (m + 1) = ls := ⟨_, rfl⟩
            have hlb : 28 ≤ ls ∧ ls ≤ 31 := by
              rw [← hls]
              unfold Cv.last
              repeat' split
              all_goals omega
            have HLy := hide (HL.out y (m + 1) wr ⟨by omega, by omega⟩ ⟨by omega, by omega⟩)
            rw [hls] at HLy
            have Hls := hide hls
            have zm : IntKind.i64.wrap (m + 1) = m + 1 := IntWalk.i64_in _ (by omega)
            clear hls hgm
            by_cases hrl : r < ls
            · have HMv := hide (show M = some (m + 1, r + 1) by rw [← HMn.out, Cv.monthL_succ, Hls.out, if_pos hrl])
              have zr1 : IntKind.i64.wrap (r + 1) = r + 1 := IntWalk.i64_in _ (by omega)
              go_wp2_with fail
              refine HLy.out.mono ?_
              rintro e w2 ⟨rfl, hb2⟩
              have HB2 := hide (HB.out.trans (hb2.mono HB.out.size))
              clear hb2
              dsimp only
              go_wp2
              (try simp only [Exit.inBlock, Exit.then])
              refine bodyPost_ret (results_tmp4 rfl _ _ _) rfl ?_
              exact ⟨by rw [HDt.out, HMv.out]; rfl, HB2.out⟩
            · have HMv := hide (show Cv.monthL y k (m + 1 + 1) (r - ls) = M by
                rw [← HMn.out, Cv.monthL_succ, Hls.out, if_neg hrl])
              have zr1 : IntKind.i64.wrap (r - ls) = r - ls := IntWalk.i64_in _ (by omega)
              have hrl2 : ¬ r < ls := hrl
              go_wp2_with fail
              refine HLy.out.mono ?_
              rintro e w2 ⟨rfl, hb2⟩
              have HB2 := hide (HB.out.trans (hb2.mono HB.out.size))
              clear hb2
              dsimp only
              go_wp2
              go_roundg k
              case measure => omega
              case rel => exact ⟨m + 1, r - ls, rfl, rfl, rfl, by have := Hgm.out; omega, by omega, HMv.out, by omega, by omega, HB2.out⟩
          · have hgj : gk = 0 := by omega
            subst hgj
            have HMv := hide (show M = none by rw [← HMn.out]; rfl)
            clear hgm
            go_wp2
            (try simp only [Exit.inBlock, Exit.then])
            refine bodyPost_ret (results_tmp4 rfl _ _ _) rfl ?_
            exact ⟨by rw [HDt.out, HMv.out]; rfl, HB.out⟩
    · have hyY : y = Y := by
        rw [← HYy.out]
        cases gk with
        | zero => rfl
        | succ k => rw [Cv.yearL_succ, if_neg (fun h => hy9 h.1)]
      subst hyY
      clear HYy hgy HY
      obtain ⟨c1, hc1⟩ : ∃ c1, Cv.count y 1 1 = c1 := ⟨_, rfl⟩
      have HCy1 := hide (HC.out y wr ⟨by omega, by omega⟩)
      have hcb := Cv.count_bd (y := y) ⟨by omega, by omega⟩
      rw [hc1] at HCy1 HDt hcb
      obtain ⟨M, hM⟩ : ∃ M, Cv.monthL y 12 1 (d - c1) = M := ⟨_, rfl⟩
      rw [hM] at HDt
      have HM := hide hM
      obtain ⟨r0, hr0⟩ : ∃ r0, d - c1 = r0 := ⟨_, rfl⟩
      have hr0b : -4000000 ≤ r0 ∧ r0 ≤ 4000000 := by omega
      have zr : IntKind.i64.wrap (d - c1) = r0 := by rw [IntWalk.i64_in _ (by omega)]; exact hr0
      have Hr0 := hide hr0
      clear hc1 hM hr0 hcb
      go_wp2_with fail
      go_wp2_with fail
      refine cq (HCy1.out) ?_
      dsimp only
      go_wp2
      go_loopg [2, 37, 6] 12 (fun gj vy vm vr wj => ∃ (m r : Int), vy = .int .i64 y ∧ vm = .int .i64 m ∧ vr = .int .i64 r ∧ (gj : Int) + m = 12 ∧ 0 ≤ m ∧ Cv.monthL y gj (m + 1) r = M ∧ -10000000 ≤ r + 40 * m ∧ r ≤ 10000000 ∧ Below wr.heap.size wr wj)
      case atStart => exact ⟨0, r0, rfl, rfl, by first | rfl | exact int_eq zr, by omega, by omega, by rw [← Hr0.out]; exact HM.out, by omega, by omega, Below.refl _ _⟩
      case round =>
        obtain ⟨m, r, rfl, rfl, rfl, hgm, hm0, hmn, hr1, hr2, hb⟩ := hrel
        have HB := hide hb
        have HMn := hide hmn
        have Hgm := hide hgm
        clear hb hmn
        by_cases hm12 : m < 12
        · obtain ⟨k, hk⟩ : ∃ k, gk = k + 1 := ⟨gk - 1, by omega⟩
          subst hk
          obtain ⟨ls, hls⟩ : ∃ ls, Cv.last y (m + 1) = ls := ⟨_, rfl⟩
          have hlb : 28 ≤ ls ∧ ls ≤ 31 := by
            rw [← hls]
            unfold Cv.last
            repeat' split
            all_goals omega
          have HLy := hide (HL.out y (m + 1) wr ⟨by omega, by omega⟩ ⟨by omega, by omega⟩)
          rw [hls] at HLy
          have Hls := hide hls
          have zm : IntKind.i64.wrap (m + 1) = m + 1 := IntWalk.i64_in _ (by omega)
          clear hls hgm
          by_cases hrl : r < ls
          · have HMv := hide (show M = some (m + 1, r + 1) by rw [← HMn.out, Cv.monthL_succ, Hls.out, if_pos hrl])
            have zr1 : IntKind.i64.wrap (r + 1) = r + 1 := IntWalk.i64_in _ (by omega)
            go_wp2_with fail
            refine HLy.out.mono ?_
            rintro e w2 ⟨rfl, hb2⟩
            have HB2 := hide (HB.out.trans (hb2.mono HB.out.size))
            clear hb2
            dsimp only
            go_wp2
            (try simp only [Exit.inBlock, Exit.then])
            refine bodyPost_ret (results_tmp4 rfl _ _ _) rfl ?_
            exact ⟨by rw [HDt.out, HMv.out]; rfl, HB2.out⟩
          · have HMv := hide (show Cv.monthL y k (m + 1 + 1) (r - ls) = M by
              rw [← HMn.out, Cv.monthL_succ, Hls.out, if_neg hrl])
            have zr1 : IntKind.i64.wrap (r - ls) = r - ls := IntWalk.i64_in _ (by omega)
            have hrl2 : ¬ r < ls := hrl
            go_wp2_with fail
            refine HLy.out.mono ?_
            rintro e w2 ⟨rfl, hb2⟩
            have HB2 := hide (HB.out.trans (hb2.mono HB.out.size))
            clear hb2
            dsimp only
            go_wp2
            go_roundg k
            case measure => omega
            case rel => exact ⟨m + 1, r - ls, rfl, rfl, rfl, by have := Hgm.out; omega, by omega, HMv.out, by omega, by omega, HB2.out⟩
        · have hgj : gk = 0 := by omega
          subst hgj
          have HMv := hide (show M = none by rw [← HMn.out]; rfl)
          clear hgm
          go_wp2
          (try simp only [Exit.inBlock, Exit.then])
          refine bodyPost_ret (results_tmp4 rfl _ _ _) rfl ?_
          exact ⟨by rw [HDt.out, HMv.out]; rfl, HB.out⟩
end Go.Proofs.Ytheaknghgpafpaa
namespace Go.Proofs.Ytheaknghgpafpaa
open Go.RowKit Go.WideShapes

namespace Cv
/-- A second's time: its date, its hour, minute, second. -/
def civil (s : Int) : Option (Int × Int × Int) := if s < -62135596800 ∨ 253402300799 < s then none else date ((s + 62135596800) / 86400 - 719162)
def rest (s : Int) : Int := (s + 62135596800) % 86400
end Cv
def CivilR (w : World) (s : Int) (e : Ending) (w' : World) : Prop := Below w.heap.size w w' ∧ match Cv.civil s with
  | some (y, m, d) => e = .returned (.tuple #[.agg #[.int .i64 y, .int .i64 m, .int .i64 d, .int .i64 (Cv.rest s / 3600), .int .i64 (Cv.rest s / 60 % 60), .int .i64 (Cv.rest s % 60)], .int .i64 0])
  | none => ∃ v1 v2 v3 v4 v5 v6 : Int, e = .returned (.tuple #[.agg #[.int .i64 v1, .int .i64 v2, .int .i64 v3, .int .i64 v4, .int .i64 v5, .int .i64 v6], .int .i64 2])
theorem civil_ret {a : Act} {W : World} {N : Nat} {e : Value} {cs : Array Value} {Q : Ending → World → Prop} (ha : a.tmps.getD 2 undef = .pointer (some ⟨N, 0, none⟩)) (he : a.tmps.getD 3 undef = e) (hd : a.defers = []) (hK : Blk W N 72 cs) (hc : cs.size = 6) (hQ : Q (.returned (.tuple #[.agg cs, e])) W) : bodyPost Try.prog Try.f31 Q Exit.ret a W := by
  refine bodyPost_ret (v := .tuple #[.agg cs, e]) ?_ hd hQ
  rw [results_cell_tmp (p := 2) (u := 3) (ty := 72) rfl, ha, he]
  have hi : (Try.prog.info? 72).map (·.size) = some cs.size := by rw [hc]; kernel_rfl
  simp [asAddr, run_loadVar_row W N 72 72 cs (0, 0) _ hK Try.underlying72 rfl hi, Result.andThen]
set_option maxHeartbeats 8000000 in
set_option maxRecDepth 100000 in
theorem civil_any (s : Int) (w : World) (hs : (Lit.int .i64 s).wf = true) : Calls Try.prog 31 #[.int .i64 s] w (CivilR w s) := by
  have hsb := wf_i64r hs
  have HO := hide (below_alloc w (.cells #[.int .i64 0, .int .i64 0, .int .i64 0, .int .i64 0, .int .i64 0, .int .i64 0] 72))
  have HK := hide (Blk.new w 72 #[.int .i64 0, .int .i64 0, .int .i64 0, .int .i64 0, .int .i64 0, .int .i64 0])
  have hz : (w.alloc (.cells #[.int .i64 0, .int .i64 0, .int .i64 0, .int .i64 0, .int .i64 0, .int .i64 0] 72)).heap.size = w.heap.size + 1 := by simp
  have Hz := hide hz
  clear hz
  by_cases h1 : s < -62135596800
  · have HV := hide (show Cv.civil s = none by unfold Cv.civil; rw [if_pos (.inl h1)])
    go_enter Try.func31, Try.ntmps31
    go_wp2
    refine civil_ret rfl rfl rfl HK.out rfl ?_
    refine ⟨HO.out, ?_⟩
    rw [HV.out]
    exact ⟨_, _, _, _, _, _, rfl⟩
  by_cases h2 : 253402300799 < s
  · have HV := hide (show Cv.civil s = none by unfold Cv.civil; rw [if_pos (.inr h2)])
    go_enter Try.func31, Try.ntmps31
    go_wp2
    refine civil_ret rfl rfl rfl HK.out rfl ?_
    refine ⟨HO.out, ?_⟩
    rw [HV.out]
    exact ⟨_, _, _, _, _, _, rfl⟩
  obtain ⟨D, hD⟩ : ∃ D, (s + 62135596800) / 86400 + -719162 = D := ⟨_, rfl⟩
  have HV := hide (show Cv.civil s = Cv.date D by unfold Cv.civil; rw [if_neg (by omega), ← hD]; rfl)
  have H1 := hide (fun W => count_any 1 1 1 W (by decide) (by decide) (by decide))
  rw [Cv.count1] at H1
  have HD := hide (fun W => date_any D W (by omega))
  rw [← hD] at HD
  have HDd := hide hD
  have HR1 := hide (show (s + 62135596800) % 86400 / 3600 = Cv.rest s / 3600 ∧ (s + 62135596800) % 86400 / 60 % 60 = Cv.rest s / 60 % 60 ∧ (s + 62135596800) % 60 = Cv.rest s % 60 by unfold Cv.rest; omega)
  have HN := hide (Blk.new w 72 #[.int .i64 0, .int .i64 0, .int .i64 0, .int .i64 ((s + 62135596800) % 86400 / 3600), .int .i64 ((s + 62135596800) % 86400 / 60 % 60), .int .i64 ((s + 62135596800) % 60)])
  have HNb := hide (below_alloc w (.cells #[.int .i64 0, .int .i64 0, .int .i64 0, .int .i64 ((s + 62135596800) % 86400 / 3600), .int .i64 ((s + 62135596800) % 86400 / 60 % 60), .int .i64 ((s + 62135596800) % 60)] 72))
  clear hD
  go_enter Try.func31, Try.ntmps31
  go_wp2_with fail
  go_wp2_with fail
  refine cq (H1.out _) ?_
  dsimp only
  go_wp2_with fail
  refine (HD.out _).mono ?_
  rintro e w2 ⟨rfl, hb2⟩
  have hk2 := HN.out.go hb2
  have HB2 := hide (HNb.out.trans (hb2.mono HNb.out.size))
  rw [HDd.out]
  have f0 := hk2.frozen 0
  have f1 := hk2.frozen 1
  have f2 := hk2.frozen 2
  have c0 := hk2.cell 0
  have c1 := hk2.cell 1
  have c2 := hk2.cell 2
  have f3 := hk2.frozen 3
  have f4 := hk2.frozen 4
  have f5 := hk2.frozen 5
  have c3 := hk2.cell 3
  have c4 := hk2.cell 4
  have c5 := hk2.cell 5
  have HK2 := hide hk2
  clear hb2 hk2
  cases hdt : Cv.date D with
  | some x =>
    obtain ⟨y, m, d⟩ := x
    have HV2 := hide (HV.out.trans hdt)
    unfold dateV
    clear hdt
    dsimp only
    go_wp2
    refine civil_ret (N := w.heap.size) (cs := #[.int .i64 y, .int .i64 m, .int .i64 d, .int .i64 ((s + 62135596800) % 86400 / 3600), .int .i64 ((s + 62135596800) % 86400 / 60 % 60), .int .i64 ((s + 62135596800) % 60)]) rfl rfl rfl ?_ rfl ?_
    · have := (((((((((HK2.out.set_ 0 (.int .i64 y)).set_ 1 (.int .i64 m)).set_ 2 (.int .i64 d)).set_ 0 (.int .i64 y)).set_ 1 (.int .i64 m)).set_ 2 (.int .i64 d)).set_ 3 (.int .i64 ((s + 62135596800) % 86400 / 3600))).set_ 4 (.int .i64 ((s + 62135596800) % 86400 / 60 % 60))).set_ 5 (.int .i64 ((s + 62135596800) % 60)))
      simpa using this
    · refine ⟨?_, ?_⟩
      · exact ((((((((HB2.out.setCell (p := ⟨w.heap.size, 0, none⟩) (Nat.le_refl _) (.int .i64 y)).setCell (p := ⟨w.heap.size, 1, none⟩) (Nat.le_refl _) (.int .i64 m)).setCell (p := ⟨w.heap.size, 2, none⟩) (Nat.le_refl _) (.int .i64 d)).setCell (p := ⟨w.heap.size, 0, none⟩) (Nat.le_refl _) (.int .i64 y)).setCell (p := ⟨w.heap.size, 1, none⟩) (Nat.le_refl _) (.int .i64 m)).setCell (p := ⟨w.heap.size, 2, none⟩) (Nat.le_refl _) (.int .i64 d)).setCell (p := ⟨w.heap.size, 3, none⟩) (Nat.le_refl _) _).setCell (p := ⟨w.heap.size, 4, none⟩) (Nat.le_refl _) _).setCell (p := ⟨w.heap.size, 5, none⟩) (Nat.le_refl _) _
      · rw [HV2.out, HR1.out.1, HR1.out.2.1, HR1.out.2.2]
        rfl
  | none =>
    have HV2 := hide (HV.out.trans hdt)
    unfold dateV
    clear hdt
    dsimp only
    go_wp2
    refine civil_ret (N := w.heap.size) (cs := #[.int .i64 0, .int .i64 0, .int .i64 0, .int .i64 ((s + 62135596800) % 86400 / 3600), .int .i64 ((s + 62135596800) % 86400 / 60 % 60), .int .i64 ((s + 62135596800) % 60)]) rfl rfl rfl ?_ rfl ?_
    · have := (((((((((HK2.out.set_ 0 (.int .i64 0)).set_ 1 (.int .i64 0)).set_ 2 (.int .i64 0)).set_ 0 (.int .i64 0)).set_ 1 (.int .i64 0)).set_ 2 (.int .i64 0)).set_ 3 (.int .i64 ((s + 62135596800) % 86400 / 3600))).set_ 4 (.int .i64 ((s + 62135596800) % 86400 / 60 % 60))).set_ 5 (.int .i64 ((s + 62135596800) % 60)))
      simpa using this
    · refine ⟨?_, ?_⟩
      · exact ((((((((HB2.out.setCell (p := ⟨w.heap.size, 0, none⟩) (Nat.le_refl _) (.int .i64 0)).setCell (p := ⟨w.heap.size, 1, none⟩) (Nat.le_refl _) (.int .i64 0)).setCell (p := ⟨w.heap.size, 2, none⟩) (Nat.le_refl _) (.int .i64 0)).setCell (p := ⟨w.heap.size, 0, none⟩) (Nat.le_refl _) (.int .i64 0)).setCell (p := ⟨w.heap.size, 1, none⟩) (Nat.le_refl _) (.int .i64 0)).setCell (p := ⟨w.heap.size, 2, none⟩) (Nat.le_refl _) (.int .i64 0)).setCell (p := ⟨w.heap.size, 3, none⟩) (Nat.le_refl _) _).setCell (p := ⟨w.heap.size, 4, none⟩) (Nat.le_refl _) _).setCell (p := ⟨w.heap.size, 5, none⟩) (Nat.le_refl _) _
      · rw [HV2.out, HR1.out.1, HR1.out.2.1, HR1.out.2.2]
        exact ⟨_, _, _, _, _, _, rfl⟩
end Go.Proofs.Ytheaknghgpafpaa
namespace Go.Proofs.Ytheaknghgpafpaa
open Go.RowKit Go.WideShapes

namespace Cv
/-- Digits put from a place on, so many, the last one first. -/
def digL (from_ : Nat) : Nat → Int → List UInt8 → List UInt8
  | 0, _, l => l
  | k + 1, n, l => digL from_ k (n / 10) (l.set (from_ + k) (bv (48 + n % 10)))
theorem digL_len (f : Nat) : ∀ (k : Nat) (n : Int) (l : List UInt8), (digL f k n l).length = l.length
  | 0, _, _ => rfl
  | k + 1, n, l => by unfold digL; rw [digL_len f k]; exact List.length_set
end Cv
theorem byteVs_set (l : List UInt8) (j : Nat) (c : UInt8) : byteVs (l.set j c) = (byteVs l).set j (.int .u8 (c.toNat : Int)) := by
  unfold byteVs; rw [List.map_set]
/-- A row of bytes laid from a constant string: its block, with the mark behind its last cell. -/
def BRow (w : World) (g : Nat) (l : List UInt8) : Prop := w.heap[g]? = some (.cells (byteVs l).toArray 5 (l.length, l.length + 1))
theorem BRow.set {w : World} {g : Nat} {l : List UInt8} (h : BRow w g l) (j : Nat) (c : UInt8) : BRow (w.setCell ⟨g, j, none⟩ (.int .u8 (c.toNat : Int))) g (l.set j c) := by
  unfold BRow at *
  have e : (byteVs l).toArray.setIfInBounds j (Value.int .u8 (c.toNat : Int)) = (byteVs (l.set j c)).toArray := by
    rw [byteVs_set]
    apply Array.ext'
    rw [Array.toList_setIfInBounds]
  rw [← e, List.length_set]
  simp [World.setCell, Array.getElem?_modify, h]
theorem BRow.cell {w : World} {g : Nat} {l : List UInt8} (h : BRow w g l) (i : Nat) : w.cell? ⟨g, i, none⟩ = (byteVs l).toArray[i]? := cell_of_row w g i _ _ _ h
theorem BRow.frozen {w : World} {g : Nat} {l : List UInt8} (h : BRow w g l) (i : Nat) (hi : i < l.length) : w.frozen? ⟨g, i, none⟩ = false := by
  unfold BRow at h
  simp [World.frozen?, h]
  omega
set_option maxHeartbeats 8000000 in
set_option maxRecDepth 100000 in
theorem digits_any (l : List UInt8) (g Pb f k N : Nat) (n : Int) (w : World) (h : BRow w g l) (hl : l.length = N) (hP : Blk w Pb 39 #[.slice (some ⟨g, 0, none⟩) N N]) (hgP : g ≠ Pb) (hk : f + k ≤ N) (hN : N ≤ 1000) (hn : 0 ≤ n ∧ n ≤ 1000000000) :
    Calls Try.prog 32 #[.int .i64 n, .int .i64 (f : Int), .int .i64 ((f + k : Nat) : Int), .pointer (some ⟨Pb, 0, none⟩)] w fun e w' => e = .returned (.tuple #[]) ∧ BRow w' g (Cv.digL f k n l) ∧ But g w w' := by
  obtain ⟨tt, hto⟩ : ∃ tt, f + k = tt := ⟨_, rfl⟩
  rw [hto] at hk ⊢
  have HTo := hide hto
  obtain ⟨R, hR⟩ : ∃ R, Cv.digL f k n l = R := ⟨_, rfl⟩
  rw [hR]
  have HR := hide hR
  have H := hide h
  have Hl := hide hl
  have HP := hide hP
  clear hto hR h hl hP
  go_enter Try.func32, Try.ntmps32
  go_wp2
  go_loopg [0, 2] k (fun gk v0 v2 wr => ∃ (n' : Int) (t : Nat) (l' : List UInt8), v0 = .int .i64 n' ∧ v2 = .int .i64 (t : Int) ∧ t = f + gk ∧ t ≤ tt ∧ Cv.digL f gk n' l' = R ∧ l'.length = N ∧ 0 ≤ n' ∧ n' ≤ 1000000000 ∧ BRow wr g l' ∧ But g w wr)
  case atStart => exact ⟨n, tt, l, rfl, rfl, HTo.out.symm, Nat.le_refl _, HR.out, Hl.out, hn.1, hn.2, H.out, But.refl _ _⟩
  case round =>
    obtain ⟨n', t, l', rfl, rfl, ht, htto, hdg, hl', hn0, hn1, hb, hbt⟩ := hrel
    have Ht := hide ht
    have HDg := hide hdg
    have Hl' := hide hl'
    have HB := hide hb
    have HBt := hide hbt
    clear ht hdg hl' hb hbt
    by_cases hlt : f < t
    · obtain ⟨j, hj⟩ : ∃ j, gk = j + 1 := ⟨gk - 1, by have := Ht.out; omega⟩
      subst hj
      obtain ⟨p, hp⟩ : ∃ p, f + j = p := ⟨_, rfl⟩
      have htp : (t : Int) - 1 = (p : Int) := by have := Ht.out; omega
      have zt : IntKind.i64.wrap ((t : Int) - 1) = (p : Int) := by rw [IntWalk.i64_in _ (by omega)]; exact htp
      have hpN : p < N := by have := Ht.out; omega
      have m1 : Int.tmod n' 10 = n' % 10 := Int.tmod_eq_emod_of_nonneg hn0
      have m2 : Int.tdiv n' 10 = n' / 10 := Int.tdiv_eq_ediv_of_nonneg hn0
      obtain ⟨q, hq⟩ : ∃ q, n' % 10 = q := ⟨_, rfl⟩
      have hqb : 0 ≤ q ∧ q < 10 := by omega
      have hbv : ((bv (48 + q)).toNat : Int) = 48 + q := bv_toNat _ (by omega) (by omega)
      rw [hq] at m1
      have HN := hide (HB.out.set p (bv (48 + q)))
      rw [hbv] at HN
      have HD2 := hide (show Cv.digL f j (n' / 10) (l'.set p (bv (48 + q))) = R by
        rw [← HDg.out, ← hp, ← hq]
        rfl)
      have cP := (HBt.out.blk HP.out (Ne.symm hgP)).cell 0
      have f1 := HB.out.frozen p (by rw [Hl'.out]; exact hpN)
      have c1 : ∃ u, wr.cell? ⟨g, p, none⟩ = some u := ⟨_, by rw [HB.out.cell p, List.getElem?_toArray, byteVs, List.getElem?_map, List.getElem?_eq_getElem (by rw [Hl'.out]; exact hpN)]; rfl⟩
      obtain ⟨u1, c1⟩ := c1
      have zw : IntKind.u8.wrap (48 + q) = 48 + q := by rw [IntKind.wrap_u8]; omega
      have Hbt2 := hide (HBt.out.setCell (p := ⟨g, p, none⟩) (.inl rfl) (.int .u8 (48 + q)))
      have Hp := hide hp
      clear hp hq hbv htp
      go_wp2
      go_roundg j
      case measure => omega
      case rel => exact ⟨n' / 10, p, l'.set p (bv (48 + q)), rfl, by first | rfl | go_num, Hp.out.symm, by have := Ht.out; have := Hp.out; omega, HD2.out, by rw [List.length_set]; exact Hl'.out, by omega, by omega, HN.out, Hbt2.out⟩
    · have hg0 : gk = 0 := by have := Ht.out; omega
      subst hg0
      go_wp2
      go_end0
      exact ⟨rfl, by rw [← HDg.out]; exact HB.out, HBt.out⟩
end Go.Proofs.Ytheaknghgpafpaa
namespace Go.Proofs.Ytheaknghgpafpaa
open Go.RowKit Go.WideShapes

namespace Cv
theorem count_le (q : Int) (h : 0 ≤ q) : count (1 + q) 1 1 ≤ 366 * q - 719162 := by
  unfold count days
  rw [if_pos (by omega)]
  omega
theorem yearL_ok (d : Int) : ∀ (k : Nat) (y : Int), 1 ≤ y → y ≤ 9999 → count y 1 1 ≤ d → (1 ≤ yearL d k y ∧ yearL d k y ≤ 9999) ∧ count (yearL d k y) 1 1 ≤ d
  | 0, y, h1, h2, h3 => ⟨⟨h1, h2⟩, h3⟩
  | k + 1, y, h1, h2, h3 => by
    rw [yearL_succ]
    split
    · rename_i h
      exact yearL_ok d k (y + 1) (by omega) (by omega) h.2
    · exact ⟨⟨h1, h2⟩, h3⟩
theorem last_le (y m : Int) : 28 ≤ last y m ∧ last y m ≤ 31 := by
  unfold last
  repeat' split
  all_goals omega
theorem monthL_ok (y : Int) : ∀ (k : Nat) (m r : Int) (x : Int × Int), 0 ≤ r → monthL y k m r = some x → (m ≤ x.1 ∧ x.1 < m + k) ∧ 1 ≤ x.2 ∧ x.2 ≤ 31
  | 0, m, r, x, _, h => by cases h
  | k + 1, m, r, x, h0, h => by
    rw [monthL_succ] at h
    have hl := last_le y m
    split at h
    · cases h
      dsimp only
      omega
    · have := monthL_ok y k (m + 1) (r - last y m) x (by omega) h
      omega
theorem date_ok {d y m dd : Int} (h : date d = some (y, m, dd)) : (1 ≤ y ∧ y ≤ 9999) ∧ (1 ≤ m ∧ m ≤ 12) ∧ 1 ≤ dd ∧ dd ≤ 31 := by
  unfold date at h
  split at h
  · cases h
  · rename_i hn
    obtain ⟨x, hx, e⟩ := Option.map_eq_some_iff.1 h
    cases e
    have hq : 0 ≤ (d + 719162) / 366 ∧ (d + 719162) / 366 ≤ 9978 := by omega
    have hc := count_le ((d + 719162) / 366) hq.1
    have hy := yearL_ok d 10000 (1 + (d + 719162) / 366) (by omega) (by omega) (by omega)
    have hm := monthL_ok _ 12 1 _ x (by have := hy.2; unfold year; omega) hx
    unfold year
    exact ⟨hy.1, by omega, hm.2⟩
def base0 : List UInt8 := [48, 48, 48, 48, 45, 48, 48, 45, 48, 48, 84, 48, 48, 58, 48, 48, 58, 48, 48, 90]
/-- A second as it is written. -/
def stamp (s : Int) : Option (List UInt8) := (civil s).map fun x =>
  digL 17 2 (rest s % 60) (digL 14 2 (rest s / 60 % 60) (digL 11 2 (rest s / 3600) (digL 8 2 x.2.2 (digL 5 2 x.2.1 (digL 0 4 x.1 base0)))))
end Cv
def stampV (o : Option (List UInt8)) : Value := match o with
  | some l => .tuple #[.string (bstr l), .bool true]
  | none => .tuple #[.string ⟨#[]⟩, .bool false]
set_option maxHeartbeats 8000000 in
set_option maxRecDepth 100000 in
theorem stamp_any (s : Int) (w : World) (hs : (Lit.int .i64 s).wf = true) : Calls Try.prog 25 #[.int .i64 s] w fun e w' => e = .returned (stampV (Cv.stamp s)) ∧ Below w.heap.size w w' := by
  have HC := hide (civil_any s w hs)
  cases hc : Cv.civil s with
  | none =>
    have HV := hide (show Cv.stamp s = none by unfold Cv.stamp; rw [hc]; rfl)
    unfold CivilR at HC
    rw [hc] at HC
    dsimp only at HC
    clear hc
    go_enter Try.func25, Try.ntmps25
    go_wp2_with fail
    refine HC.out.mono ?_
    rintro e w1 ⟨hb1, v1, v2, v3, v4, v5, v6, rfl⟩
    have HB1 := hide hb1
    clear hb1
    dsimp only
    go_wp2
    go_ret2
    rw [HV.out]
    exact ⟨rfl, HB1.out.alloc HB1.out.size _⟩
  | some x =>
    obtain ⟨y, m, dd⟩ := x
    have hbs : (1 ≤ y ∧ y ≤ 9999) ∧ (1 ≤ m ∧ m ≤ 12) ∧ 1 ≤ dd ∧ dd ≤ 31 := by
      unfold Cv.civil at hc
      split at hc
      · cases hc
      · exact Cv.date_ok hc
    obtain ⟨⟨hy1, hy2⟩, ⟨hm1, hm2⟩, hd1, hd2⟩ := hbs
    have hr : 0 ≤ Cv.rest s ∧ Cv.rest s < 86400 := by unfold Cv.rest; omega
    obtain ⟨e1, he1⟩ : ∃ a, Cv.rest s / 3600 = a := ⟨_, rfl⟩
    obtain ⟨e2, he2⟩ : ∃ a, Cv.rest s / 60 % 60 = a := ⟨_, rfl⟩
    obtain ⟨e3, he3⟩ : ∃ a, Cv.rest s % 60 = a := ⟨_, rfl⟩
    have b1 : 0 ≤ e1 ∧ e1 < 24 := by omega
    have b2 : 0 ≤ e2 ∧ e2 < 60 := by omega
    have b3 : 0 ≤ e3 ∧ e3 < 60 := by omega
    have HV := hide (show Cv.stamp s = some (Cv.digL 17 2 e3 (Cv.digL 14 2 e2 (Cv.digL 11 2 e1 (Cv.digL 8 2 dd (Cv.digL 5 2 m (Cv.digL 0 4 y Cv.base0)))))) by
      unfold Cv.stamp
      rw [hc, Option.map_some]
      dsimp only
      rw [he1, he2, he3])
    unfold CivilR at HC
    rw [hc] at HC
    dsimp only at HC
    rw [he1, he2, he3] at HC
    have hlen : Cv.base0.length = 20 := rfl
    clear hc he1 he2 he3
    have HDIG := hide (fun (l : List UInt8) (g Pb f k : Nat) (n : Int) (w : World) (h : BRow w g l) (hl : l.length = 20) (hP : Blk w Pb 39 #[.slice (some ⟨g, 0, none⟩) 20 20]) (hgP : g ≠ Pb) (hk : f + k ≤ 20) (hn : 0 ≤ n ∧ n ≤ 1000000000) => digits_any l g Pb f k 20 n w h hl hP hgP hk (by omega) hn)
    go_enter Try.func25, Try.ntmps25
    go_wp2_with fail
    refine HC.out.mono ?_
    rintro e w1 ⟨hb1, rfl⟩
    have HB1 := hide hb1
    clear hb1
    dsimp only
    obtain ⟨wa, hwa⟩ : ∃ wa, w1.alloc (.cells #[.int .i64 y, .int .i64 m, .int .i64 dd, .int .i64 e1, .int .i64 e2, .int .i64 e3] 72) = wa := ⟨_, rfl⟩
    obtain ⟨wb, hwb⟩ : ∃ wb, wa.alloc (.cells #[.int .u8 48, .int .u8 48, .int .u8 48, .int .u8 48, .int .u8 45, .int .u8 48, .int .u8 48, .int .u8 45, .int .u8 48, .int .u8 48, .int .u8 84, .int .u8 48, .int .u8 48, .int .u8 58, .int .u8 48, .int .u8 48, .int .u8 58, .int .u8 48, .int .u8 48, .int .u8 90] 5 (20, 21)) = wb := ⟨_, rfl⟩
    obtain ⟨wc, hwc⟩ : ∃ wc, wb.alloc (.cells #[.slice (some ⟨wa.heap.size, 0, none⟩) 20 20] 39) = wc := ⟨_, rfl⟩
    have sa : wa.heap.size = w1.heap.size + 1 := by rw [← hwa]; simp
    have sb : wb.heap.size = w1.heap.size + 2 := by rw [← hwb]; simp [sa]
    have sc : wc.heap.size = w1.heap.size + 3 := by rw [← hwc]; simp [sb]
    have ka : Blk wc w1.heap.size 72 #[.int .i64 y, .int .i64 m, .int .i64 dd, .int .i64 e1, .int .i64 e2, .int .i64 e3] := by
      rw [← hwc, ← hwb, ← hwa]
      exact ((Blk.new w1 _ _).go (below_alloc _ _)).go (below_alloc _ _)
    have kb : BRow wc (w1.heap.size + 1) Cv.base0 := by
      rw [← sa, ← hwc, ← hwb]
      exact (Below.heap_alloc _ _ _ (by simp)).trans (heap_alloc_new wa _)
    have kc : Blk wc (w1.heap.size + 2) 39 #[.slice (some ⟨w1.heap.size + 1, 0, none⟩) 20 20] := by
      rw [← sb, ← hwc, ← sa]
      exact Blk.new wb _ _
    have kn : But (w1.heap.size + 1) w wc := by
      rw [← hwc, ← hwb, ← hwa]
      exact ((((But.of_below HB1.out).alloc _).alloc _).alloc _)
    have HWa := hide hwa
    have HWb := hide hwb
    have KA := hide ka
    have KB := hide kb
    have KC := hide kc
    have KN := hide kn
    have kcv : (convert 39 39 (.slice (some ⟨w1.heap.size + 1, 0, none⟩) 20 20)).run Try.prog (wa.alloc (.cells #[.int .u8 48, .int .u8 48, .int .u8 48, .int .u8 48, .int .u8 45, .int .u8 48, .int .u8 48, .int .u8 45, .int .u8 48, .int .u8 48, .int .u8 84, .int .u8 48, .int .u8 48, .int .u8 58, .int .u8 48, .int .u8 48, .int .u8 58, .int .u8 48, .int .u8 48, .int .u8 90] 5)) = .ok (.slice (some ⟨w1.heap.size + 1, 0, none⟩) 20 20) wb := by
      rw [← sa, ← hwb]
      exact Lib.run_convert_bytes_const (P := Try.prog) wa 39 5 _ 20 20 Try.underlying39 Try.underlying5
    rw [← HWa.out] at kcv
    have hwc2 : wb.alloc (.cells #[.slice (some ⟨w1.heap.size + 1, 0, none⟩) 20 20] 39) = wc := by rw [← hwc, sa]
    clear hwb hwc ka kb kc kn hwa
    have gne : w1.heap.size + 1 ≠ w1.heap.size + 2 := by omega
    have gna : w1.heap.size ≠ w1.heap.size + 1 := by omega
    have k0 := KA.out.cell 0
    have D0 := hide (show Calls Try.prog 32 #[.int .i64 y, .int .i64 0, .int .i64 4, .pointer (some ⟨w1.heap.size + 2, 0, none⟩)] wc fun e w' => e = .returned (.tuple #[]) ∧ BRow w' (w1.heap.size + 1) (Cv.digL 0 4 y Cv.base0) ∧ But (w1.heap.size + 1) wc w' from HDIG.out Cv.base0 (w1.heap.size + 1) (w1.heap.size + 2) 0 4 y wc KB.out hlen KC.out gne (by omega) (by omega))
    go_wp2_with fail
    refine D0.out.mono ?_
    rintro e x0 ⟨rfl, hr0, hn0⟩
    have KA0 := hide (hn0.blk KA.out gna)
    have KC0 := hide (hn0.blk KC.out (Ne.symm gne))
    have KB0 := hide hr0
    have KN0 := hide (KN.out.trans hn0)
    have l0 : ((Cv.digL 0 4 y Cv.base0)).length = 20 := by rw [Cv.digL_len]; exact hlen
    have k1 := KA0.out.cell 1
    clear hr0 hn0 k0 D0
    dsimp only
    have D1 := hide (show Calls Try.prog 32 #[.int .i64 m, .int .i64 5, .int .i64 7, .pointer (some ⟨w1.heap.size + 2, 0, none⟩)] x0 fun e w' => e = .returned (.tuple #[]) ∧ BRow w' (w1.heap.size + 1) (Cv.digL 5 2 m (Cv.digL 0 4 y Cv.base0)) ∧ But (w1.heap.size + 1) x0 w' from HDIG.out (Cv.digL 0 4 y Cv.base0) (w1.heap.size + 1) (w1.heap.size + 2) 5 2 m x0 KB0.out l0 KC0.out gne (by omega) (by omega))
    go_wp2_with fail
    refine D1.out.mono ?_
    rintro e x1 ⟨rfl, hr1, hn1⟩
    have KA1 := hide (hn1.blk KA0.out gna)
    have KC1 := hide (hn1.blk KC0.out (Ne.symm gne))
    have KB1 := hide hr1
    have KN1 := hide (KN0.out.trans hn1)
    have l1 : ((Cv.digL 5 2 m (Cv.digL 0 4 y Cv.base0))).length = 20 := by rw [Cv.digL_len]; exact l0
    have k2 := KA1.out.cell 2
    clear hr1 hn1 k1 D1
    dsimp only
    have D2 := hide (show Calls Try.prog 32 #[.int .i64 dd, .int .i64 8, .int .i64 10, .pointer (some ⟨w1.heap.size + 2, 0, none⟩)] x1 fun e w' => e = .returned (.tuple #[]) ∧ BRow w' (w1.heap.size + 1) (Cv.digL 8 2 dd (Cv.digL 5 2 m (Cv.digL 0 4 y Cv.base0))) ∧ But (w1.heap.size + 1) x1 w' from HDIG.out (Cv.digL 5 2 m (Cv.digL 0 4 y Cv.base0)) (w1.heap.size + 1) (w1.heap.size + 2) 8 2 dd x1 KB1.out l1 KC1.out gne (by omega) (by omega))
    go_wp2_with fail
    refine D2.out.mono ?_
    rintro e x2 ⟨rfl, hr2, hn2⟩
    have KA2 := hide (hn2.blk KA1.out gna)
    have KC2 := hide (hn2.blk KC1.out (Ne.symm gne))
    have KB2 := hide hr2
    have KN2 := hide (KN1.out.trans hn2)
    have l2 : ((Cv.digL 8 2 dd (Cv.digL 5 2 m (Cv.digL 0 4 y Cv.base0)))).length = 20 := by rw [Cv.digL_len]; exact l1
    have k3 := KA2.out.cell 3
    clear hr2 hn2 k2 D2
    dsimp only
    have D3 := hide (show Calls Try.prog 32 #[.int .i64 e1, .int .i64 11, .int .i64 13, .pointer (some ⟨w1.heap.size + 2, 0, none⟩)] x2 fun e w' => e = .returned (.tuple #[]) ∧ BRow w' (w1.heap.size + 1) (Cv.digL 11 2 e1 (Cv.digL 8 2 dd (Cv.digL 5 2 m (Cv.digL 0 4 y Cv.base0)))) ∧ But (w1.heap.size + 1) x2 w' from HDIG.out (Cv.digL 8 2 dd (Cv.digL 5 2 m (Cv.digL 0 4 y Cv.base0))) (w1.heap.size + 1) (w1.heap.size + 2) 11 2 e1 x2 KB2.out l2 KC2.out gne (by omega) (by omega))
    go_wp2_with fail
    refine D3.out.mono ?_
    rintro e x3 ⟨rfl, hr3, hn3⟩
    have KA3 := hide (hn3.blk KA2.out gna)
    have KC3 := hide (hn3.blk KC2.out (Ne.symm gne))
    have KB3 := hide hr3
    have KN3 := hide (KN2.out.trans hn3)
    have l3 : ((Cv.digL 11 2 e1 (Cv.digL 8 2 dd (Cv.digL 5 2 m (Cv.digL 0 4 y Cv.base0))))).length = 20 := by rw [Cv.digL_len]; exact l2
    have k4 := KA3.out.cell 4
    clear hr3 hn3 k3 D3
    dsimp only
    have D4 := hide (show Calls Try.prog 32 #[.int .i64 e2, .int .i64 14, .int .i64 16, .pointer (some ⟨w1.heap.size + 2, 0, none⟩)] x3 fun e w' => e = .returned (.tuple #[]) ∧ BRow w' (w1.heap.size + 1) (Cv.digL 14 2 e2 (Cv.digL 11 2 e1 (Cv.digL 8 2 dd (Cv.digL 5 2 m (Cv.digL 0 4 y Cv.base0))))) ∧ But (w1.heap.size + 1) x3 w' from HDIG.out (Cv.digL 11 2 e1 (Cv.digL 8 2 dd (Cv.digL 5 2 m (Cv.digL 0 4 y Cv.base0)))) (w1.heap.size + 1) (w1.heap.size + 2) 14 2 e2 x3 KB3.out l3 KC3.out gne (by omega) (by omega))
    go_wp2_with fail
    refine D4.out.mono ?_
    rintro e x4 ⟨rfl, hr4, hn4⟩
    have KA4 := hide (hn4.blk KA3.out gna)
    have KC4 := hide (hn4.blk KC3.out (Ne.symm gne))
    have KB4 := hide hr4
    have KN4 := hide (KN3.out.trans hn4)
    have l4 : ((Cv.digL 14 2 e2 (Cv.digL 11 2 e1 (Cv.digL 8 2 dd (Cv.digL 5 2 m (Cv.digL 0 4 y Cv.base0)))))).length = 20 := by rw [Cv.digL_len]; exact l3
    have k5 := KA4.out.cell 5
    clear hr4 hn4 k4 D4
    dsimp only
    have D5 := hide (show Calls Try.prog 32 #[.int .i64 e3, .int .i64 17, .int .i64 19, .pointer (some ⟨w1.heap.size + 2, 0, none⟩)] x4 fun e w' => e = .returned (.tuple #[]) ∧ BRow w' (w1.heap.size + 1) (Cv.digL 17 2 e3 (Cv.digL 14 2 e2 (Cv.digL 11 2 e1 (Cv.digL 8 2 dd (Cv.digL 5 2 m (Cv.digL 0 4 y Cv.base0)))))) ∧ But (w1.heap.size + 1) x4 w' from HDIG.out (Cv.digL 14 2 e2 (Cv.digL 11 2 e1 (Cv.digL 8 2 dd (Cv.digL 5 2 m (Cv.digL 0 4 y Cv.base0))))) (w1.heap.size + 1) (w1.heap.size + 2) 17 2 e3 x4 KB4.out l4 KC4.out gne (by omega) (by omega))
    go_wp2_with fail
    refine D5.out.mono ?_
    rintro e x5 ⟨rfl, hr5, hn5⟩
    have KA5 := hide (hn5.blk KA4.out gna)
    have KC5 := hide (hn5.blk KC4.out (Ne.symm gne))
    have KB5 := hide hr5
    have KN5 := hide (KN4.out.trans hn5)
    have l5 : ((Cv.digL 17 2 e3 (Cv.digL 14 2 e2 (Cv.digL 11 2 e1 (Cv.digL 8 2 dd (Cv.digL 5 2 m (Cv.digL 0 4 y Cv.base0))))))).length = 20 := by rw [Cv.digL_len]; exact l4
    clear hr5 hn5 k5 D5
    dsimp only
    have kP := KC5.out.cell 0
    have kback : (convert 39 9 (.slice (some ⟨w1.heap.size + 1, 0, none⟩) 20 20)).run Try.prog x5 = .ok (.string (bstr (Cv.digL 17 2 e3 (Cv.digL 14 2 e2 (Cv.digL 11 2 e1 (Cv.digL 8 2 dd (Cv.digL 5 2 m (Cv.digL 0 4 y Cv.base0)))))))) x5 := by
      have := run_convert_bytes_back (P := Try.prog) x5 39 9 5 ⟨w1.heap.size + 1, 0, none⟩ 20 (Cv.digL 17 2 e3 (Cv.digL 14 2 e2 (Cv.digL 11 2 e1 (Cv.digL 8 2 dd (Cv.digL 5 2 m (Cv.digL 0 4 y Cv.base0)))))) Try.underlying39 Try.underlying5 Try.underlying9 (fun j hj => by
        have hc := KB5.out.cell j
        rw [List.getElem?_toArray, byteVs, List.getElem?_map, List.getElem?_eq_getElem hj] at hc
        rw [show (Addr.mk (w1.heap.size + 1) 0 none).add j = ⟨w1.heap.size + 1, j, none⟩ by unfold Addr.add; split <;> simp_all]
        exact hc)
      rw [l5] at this
      exact this
    go_wp2
    go_ret2
    rw [HV.out]
    exact ⟨rfl, KN5.out.below (by have := HB1.out.size; omega) (Nat.le_refl _)⟩
end Go.Proofs.Ytheaknghgpafpaa
