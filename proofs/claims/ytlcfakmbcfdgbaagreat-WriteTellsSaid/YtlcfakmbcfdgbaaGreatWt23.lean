/- Plain: stamps tell their second (no program). · Days: the document's Date. · Seconds: the document's Civil. · Stamps: the document's digits (ref19.put); a store into a row of one's own. · NFC: the document's Sort (ref11): a bubble sort in a row of its own. -/
import Derived.Test.YtlcfakmbcfdgbaaGreatWt18
import Derived.Test.YtlcfakmbcfdgbaaGreatWt22
set_option linter.unusedSimpArgs false
set_option linter.unusedVariables false
namespace Go.Proofs.YtlcfakmbcfdgbaaGreat
open Go.RowKit

namespace Cv
/-- The days of a year, month by month. -/
theorem year_len (y : Int) (hy : 1 ≤ y ∧ y ≤ 9999) : count (y + 1) 1 1 - count y 1 1 = last y 1 + last y 2 + last y 3 + last y 4 + last y 5 + last y 6 + last y 7 + last y 8 + last y 9 + last y 10 + last y 11 + last y 12 := by
  have h : ∀ m : Int, last y m = if m = 2 then (if leap y then 29 else 28) else if m = 4 ∨ m = 6 ∨ m = 9 ∨ m = 11 then 30 else 31 := fun m => rfl
  simp only [h]
  simp only [show ¬ (1 : Int) = 2 by decide, show ¬ (3 : Int) = 2 by decide, show ¬ (4 : Int) = 2 by decide, show ¬ (5 : Int) = 2 by decide, show ¬ (6 : Int) = 2 by decide, show ¬ (7 : Int) = 2 by decide, show ¬ (8 : Int) = 2 by decide, show ¬ (9 : Int) = 2 by decide, show ¬ (10 : Int) = 2 by decide, show ¬ (11 : Int) = 2 by decide, show ¬ (12 : Int) = 2 by decide, if_false, if_true]
  simp
  unfold count days leap
  rw [if_pos (by omega), if_pos (by omega)]
  by_cases h4 : y % 4 = 0 <;> by_cases h100 : y % 100 = 0 <;> by_cases h400 : y % 400 = 0 <;> simp [h4, h100, h400] <;> omega
theorem yearL_stop (d : Int) : ∀ (k : Nat) (y : Int), 9999 - y < k → 1 ≤ y → y ≤ 9999 → (yearL d k y = 9999 ∨ d < count (yearL d k y + 1) 1 1)
  | 0, y, h, h1, h2 => by omega
  | k + 1, y, h, h1, h2 => by
    rw [yearL_succ]
    split
    · rename_i hc
      exact yearL_stop d k (y + 1) (by omega) (by omega) (by omega)
    · rename_i hc
      by_cases h9 : y < 9999
      · exact .inr (by omega)
      · exact .inl (by omega)
def sumL (y : Int) : Nat → Int → Int
  | 0, _ => 0
  | k + 1, m => last y m + sumL y k (m + 1)
theorem sumL_is (y : Int) : sumL y 12 1 = last y 1 + last y 2 + last y 3 + last y 4 + last y 5 + last y 6 + last y 7 + last y 8 + last y 9 + last y 10 + last y 11 + last y 12 := by
  show last y 1 + (last y 2 + (last y 3 + (last y 4 + (last y 5 + (last y 6 + (last y 7 + (last y 8 + (last y 9 + (last y 10 + (last y 11 + (last y 12 + 0))))))))))) = _
  omega
theorem monthL_some (y : Int) : ∀ (k : Nat) (m r : Int), 0 ≤ r → r < sumL y k m → ∃ x, monthL y k m r = some x
  | 0, m, r, h0, h => by unfold sumL at h; omega
  | k + 1, m, r, h0, h => by
    rw [monthL_succ]
    split
    · exact ⟨_, rfl⟩
    · rename_i hn
      have e : sumL y (k + 1) m = last y m + sumL y k (m + 1) := rfl
      rw [e] at h
      exact monthL_some y k (m + 1) _ (by omega) (by omega)
theorem count_next (d : Int) (hd : -719162 ≤ d ∧ d ≤ 2932896) : ∃ x, date d = some x := by
  unfold date
  rw [if_neg (by omega)]
  have hq : 0 ≤ (d + 719162) / 366 ∧ (d + 719162) / 366 ≤ 9978 := by omega
  have hc := count_le ((d + 719162) / 366) hq.1
  have hy := yearL_ok d 10000 (1 + (d + 719162) / 366) (by omega) (by omega) (by omega)
  have hs := yearL_stop d 10000 (1 + (d + 719162) / 366) (by omega) (by omega) (by omega)
  have hyl := year_len (year d) hy.1
  have he : count (9999 + 1) 1 1 = 2932897 := by decide
  obtain ⟨x, hx⟩ := monthL_some (year d) 12 1 (d - count (year d) 1 1) (by have := hy.2; unfold year; omega) (by
    rw [sumL_is, ← hyl]
    rcases hs with h9 | h9
    · have e9 : year d = 9999 := h9
      rw [e9, he]
      omega
    · have h9' : d < count (year d + 1) 1 1 := h9
      omega)
  rw [hx]
  exact ⟨_, rfl⟩
theorem stamp_some (s : Int) (h : -62135596800 ≤ s ∧ s ≤ 253402300799) : ∃ x, stamp s = some x := by
  unfold stamp civil
  rw [if_neg (by omega)]
  obtain ⟨x, hx⟩ := count_next ((s + 62135596800) / 86400 - 719162) (by omega)
  rw [hx]
  exact ⟨_, rfl⟩
end Cv
end Go.Proofs.YtlcfakmbcfdgbaaGreat
namespace Go.Proofs.YtlcfakmbcfdgbaaGreat
open Go.RowKit Go.WideShapes

set_option maxHeartbeats 8000000 in
set_option maxRecDepth 100000 in
theorem refDate18_any (d y m dd : Int) (w : World) (hd : -719162 ≤ d ∧ d ≤ 2932896) (h : Cv.date d = some (y, m, dd)) : Calls Tryz.prog 62 #[.int .i64 d] w fun e w' => e = .returned (.tuple #[.int .i64 y, .int .i64 m, .int .i64 dd, .int .i64 0]) ∧ w' = w := by
  unfold Cv.date at h
  rw [if_neg (by omega)] at h
  obtain ⟨x, hx, hxe⟩ := Option.map_eq_some_iff.1 h
  have hc0 := Cv.count_le ((d + 719162) / 366) (by omega)
  have hyk := Cv.yearL_ok d 10000 (1 + (d + 719162) / 366) (by omega) (by omega) (by omega)
  obtain ⟨Y, hY⟩ : ∃ Y, Cv.year d = Y := ⟨_, rfl⟩
  have hYl : Cv.yearL d 10000 (1 + (d + 719162) / 366) = Y := hY
  rw [hYl] at hyk
  rw [hY] at hx hxe
  have HXe := hide hxe
  have HX := hide hx
  have HYk := hide hyk
  have HYl := hide hYl
  clear h hx hxe hY hc0 hyk hYl
  have HA := hide (fun y W h => refAhead_any y W h)
  have HCi := hide (fun y h => Cv.count_is y h)
  have HLs := hide (fun m W h => refLast18_any Y m W HYk.out.1 h)
  have hA0 := HA.out 10000 w (by omega)
  have e0 : Cv.ahead 10000 = 3652059 := by decide
  rw [e0] at hA0
  have HA0 := hide hA0
  have n0 : 0 ≤ d + 719162 ∧ d + 719162 ≤ 3652058 := by omega
  have hl1 : ¬ d < -719162 := by omega
  have hl2 : ¬ 2932897 ≤ d := by omega
  have z0 : IntKind.i64.wrap (d + 719162) = d + 719162 := IntWalk.i64_in _ (by omega)
  have q0 : Int.tdiv (d + 719162) 366 = (d + 719162) / 366 := Int.tdiv_eq_ediv_of_nonneg n0.1
  obtain ⟨p, hp⟩ : ∃ p, (d + 719162) / 366 = p := ⟨_, rfl⟩
  have p0 : 0 ≤ p ∧ p ≤ 9978 := by omega
  rw [hp] at q0
  have HYl2 := hide (show Cv.yearL d 10000 (p + 1) = Y by have := HYl.out; rw [hp] at this; rwa [Int.add_comm])
  have zp : IntKind.i64.wrap p = p := IntWalk.i64_in _ (by omega)
  have zp1 : IntKind.i64.wrap (p + 1) = p + 1 := IntWalk.i64_in _ (by omega)
  have z2 : IntKind.i64.wrap (-719162 + 3652059) = 2932897 := by decide
  have Hp0 := hide p0
  have Hn0 := hide n0
  have Hp := hide hp
  clear hA0 e0 hp p0 n0 hd
  go_enter Tryz.func62, Tryz.ntmps62
  go_wp2_with fail
  go_wp2_with fail
  refine cq (HA0.out) ?_
  go_wp2
  go_loopg [7] 10000 (fun gk v7 wr => ∃ (k : Nat) (z : Int), gk = k ∧ v7 = .int .i64 z ∧ Cv.yearL d k z = Y ∧ 1 ≤ z ∧ z ≤ 9999 ∧ 9999 - z < k ∧ wr = w)
  case atStart => exact ⟨10000, p + 1, rfl, by first | rfl | rw [← Hp.out], HYl2.out, by have := Hp0.out; omega, by have := Hp0.out; omega, by have := Hp0.out; omega, rfl⟩
  case round =>
    obtain ⟨k, z, hgk, rfl, hyl, h1, h2, h3, hwr⟩ := hrel
    subst hwr
    have Hg := hide hgk
    obtain ⟨k, rfl⟩ : ∃ k', k = k' + 1 := ⟨k - 1, by omega⟩
    rw [Cv.yearL_succ] at hyl
    clear hgk
    by_cases h9 : z < 9999
    · have HAn := hide (HA.out (z + 1) wr (by omega))
      have hcn := HCi.out (z + 1) (by omega)
      have z3 : IntKind.i64.wrap (z + 1) = z + 1 := IntWalk.i64_in _ (by omega)
      obtain ⟨An, hAn⟩ : ∃ A, Cv.ahead (z + 1) = A := ⟨_, rfl⟩
      rw [hAn] at HAn hcn
      by_cases hle : An ≤ d + 719162
      · rw [if_pos ⟨h9, by omega⟩] at hyl
        have HY2 := hide hyl
        clear hyl hcn hAn
        go_wp2_with fail
        go_wp2_with fail
        refine cq (HAn.out) ?_
        go_wp2
        go_roundg k
        case measure => have := Hg.out; omega
        case rel => exact ⟨k, z + 1, rfl, rfl, HY2.out, by omega, by omega, by omega, rfl⟩
      · rw [if_neg (fun hh => by have := hh.2; omega)] at hyl
        have hzY : z = Y := hyl
        subst hzY
        have HAz := hide (HA.out z wr (by omega))
        have hah : Cv.ahead z ≤ d + 719162 := by
          have a := HYk.out.2
          have b := HCi.out z h1
          omega
        have hah0 : 0 ≤ Cv.ahead z := by unfold Cv.ahead; omega
        have hr : Cv.monthL z 12 1 (d + 719162 - Cv.ahead z) = some x := by
          have := HX.out
          rw [HCi.out z h1] at this
          rwa [show d - (-719162 + Cv.ahead z) = d + 719162 - Cv.ahead z by omega] at this
        obtain ⟨A, hA⟩ : ∃ A, Cv.ahead z = A := ⟨_, rfl⟩
        rw [hA] at HAz hah hah0 hr
        have z5 : IntKind.i64.wrap (d + 719162 - A) = d + 719162 - A := by rw [IntWalk.i64_in _ (by have := Hn0.out; omega)]
        have HR := hide hr
        have Hah := hide (And.intro hah hah0)
        clear hr hA hah hah0 hyl
        clear hcn hAn
        go_wp2_with fail
        go_wp2_with fail
        refine cq (HAn.out) ?_
        go_wp2_with fail
        go_wp2_with fail
        refine cq (HAz.out) ?_
        go_wp2
        go_loopg [6, 8] 12 (fun gk v6 v8 wj => ∃ (q : Nat) (mm r : Int), gk = q ∧ v6 = .int .i64 r ∧ v8 = .int .i64 mm ∧ Cv.monthL z q mm r = some x ∧ 1 ≤ mm ∧ mm + q = 13 ∧ 0 ≤ r ∧ r ≤ 4000000 ∧ wj = wr)
        case atStart => exact ⟨12, 1, d + 719162 - A, rfl, rfl, rfl, HR.out, by decide, by decide, by have := Hah.out; omega, by have := Hah.out; have := Hn0.out; omega, rfl⟩
        case round =>
          obtain ⟨q, mm, r, hgq, rfl, rfl, hml, hm1, hm2, hr0, hr1, hwj⟩ := hrel
          subst hwj
          have Hgq := hide hgq
          cases q with
          | zero => cases hml
          | succ q =>
            rw [Cv.monthL_succ] at hml
            have HLm := hide (fun W => HLs.out mm W (by omega))
            have hlb := Cv.last_le z mm
            obtain ⟨L, hL⟩ : ∃ L, Cv.last z mm = L := ⟨_, rfl⟩
            rw [hL] at hml HLm hlb
            clear hL hgq
            by_cases hrL : r < L
            · rw [if_pos hrL] at hml
              have hxx := Option.some.inj hml
              have hnl : ¬ L ≤ r := by omega
              have z6 : IntKind.i64.wrap (r + 1) = r + 1 := IntWalk.i64_in _ (by omega)
              have HXX := hide hxx
              clear hml hxx hrL hlb
              go_wp2_with fail
              go_wp2_with fail
              refine cq (HLm.out _) ?_
              go_wp2
              refine bodyPost_ret (results_tmp4 rfl _ _ _) rfl ?_
              have e := HXe.out
              rw [← HXX.out] at e
              injection e with e1 e2
              injection e2 with e2 e3
              rw [← e1, ← e2, ← e3]
              exact ⟨rfl, rfl⟩
            · rw [if_neg hrL] at hml
              have hnl : L ≤ r := by omega
              have z6 : IntKind.i64.wrap (r - L) = r - L := IntWalk.i64_in _ (by omega)
              have z7 : IntKind.i64.wrap (mm + 1) = mm + 1 := IntWalk.i64_in _ (by omega)
              have HML := hide hml
              have HLb := hide hlb
              clear hml hrL hlb
              go_wp2_with fail
              go_wp2_with fail
              refine cq (HLm.out _) ?_
              go_wp2_with fail
              go_wp2_with fail
              refine cq (HLm.out _) ?_
              go_wp2
              go_roundg q
              case measure => have := Hgq.out; omega
              case rel => exact ⟨q, mm + 1, r - L, rfl, rfl, rfl, HML.out, by omega, by omega, by omega, by have := HLb.out; omega, rfl⟩
    · rw [if_neg (fun hh => h9 hh.1)] at hyl
      have hzY : z = Y := hyl
      subst hzY
      have HAz := hide (HA.out z wr (by omega))
      have hah : Cv.ahead z ≤ d + 719162 := by
        have a := HYk.out.2
        have b := HCi.out z h1
        omega
      have hah0 : 0 ≤ Cv.ahead z := by unfold Cv.ahead; omega
      have hr : Cv.monthL z 12 1 (d + 719162 - Cv.ahead z) = some x := by
        have := HX.out
        rw [HCi.out z h1] at this
        rwa [show d - (-719162 + Cv.ahead z) = d + 719162 - Cv.ahead z by omega] at this
      obtain ⟨A, hA⟩ : ∃ A, Cv.ahead z = A := ⟨_, rfl⟩
      rw [hA] at HAz hah hah0 hr
      have z5 : IntKind.i64.wrap (d + 719162 - A) = d + 719162 - A := by rw [IntWalk.i64_in _ (by have := Hn0.out; omega)]
      have HR := hide hr
      have Hah := hide (And.intro hah hah0)
      clear hr hA hah hah0 hyl
      go_wp2_with fail
      go_wp2_with fail
      refine cq (HAz.out) ?_
      go_wp2
      go_loopg [6, 8] 12 (fun gk v6 v8 wj => ∃ (q : Nat) (mm r : Int), gk = q ∧ v6 = .int .i64 r ∧ v8 = .int .i64 mm ∧ Cv.monthL z q mm r = some x ∧ 1 ≤ mm ∧ mm + q = 13 ∧ 0 ≤ r ∧ r ≤ 4000000 ∧ wj = wr)
      case atStart => exact ⟨12, 1, d + 719162 - A, rfl, rfl, rfl, HR.out, by decide, by decide, by have := Hah.out; omega, by have := Hah.out; have := Hn0.out; omega, rfl⟩
      case round =>
        obtain ⟨q, mm, r, hgq, rfl, rfl, hml, hm1, hm2, hr0, hr1, hwj⟩ := hrel
        subst hwj
        have Hgq := hide hgq
        cases q with
        | zero => cases hml
        | succ q =>
          rw [Cv.monthL_succ] at hml
          have HLm := hide (fun W => HLs.out mm W (by omega))
          have hlb := Cv.last_le z mm
          obtain ⟨L, hL⟩ : ∃ L, Cv.last z mm = L := ⟨_, rfl⟩
          rw [hL] at hml HLm hlb
          clear hL hgq
          by_cases hrL : r < L
          · rw [if_pos hrL] at hml
            have hxx := Option.some.inj hml
            have hnl : ¬ L ≤ r := by omega
            have z6 : IntKind.i64.wrap (r + 1) = r + 1 := IntWalk.i64_in _ (by omega)
            have HXX := hide hxx
            clear hml hxx hrL hlb
            go_wp2_with fail
            go_wp2_with fail
            refine cq (HLm.out _) ?_
            go_wp2
            refine bodyPost_ret (results_tmp4 rfl _ _ _) rfl ?_
            have e := HXe.out
            rw [← HXX.out] at e
            injection e with e1 e2
            injection e2 with e2 e3
            rw [← e1, ← e2, ← e3]
            exact ⟨rfl, rfl⟩
          · rw [if_neg hrL] at hml
            have hnl : L ≤ r := by omega
            have z6 : IntKind.i64.wrap (r - L) = r - L := IntWalk.i64_in _ (by omega)
            have z7 : IntKind.i64.wrap (mm + 1) = mm + 1 := IntWalk.i64_in _ (by omega)
            have HML := hide hml
            have HLb := hide hlb
            clear hml hrL hlb
            go_wp2_with fail
            go_wp2_with fail
            refine cq (HLm.out _) ?_
            go_wp2_with fail
            go_wp2_with fail
            refine cq (HLm.out _) ?_
            go_wp2
            go_roundg q
            case measure => have := Hgq.out; omega
            case rel => exact ⟨q, mm + 1, r - L, rfl, rfl, rfl, HML.out, by omega, by omega, by omega, by have := HLb.out; omega, rfl⟩
end Go.Proofs.YtlcfakmbcfdgbaaGreat
namespace Go.Proofs.YtlcfakmbcfdgbaaGreat
open Go.RowKit Go.WideShapes

theorem refCivil_ret {a : Act} {W : World} {N : Nat} {e : Value} {cs : Array Value} {Q : Ending → World → Prop} (ha : a.tmps.getD 2 undef = .pointer (some ⟨N, 0, none⟩)) (he : a.tmps.getD 3 undef = e) (hd : a.defers = []) (hK : Blk W N 74 cs) (hc : cs.size = 6) (hQ : Q (.returned (.tuple #[.agg cs, e])) W) : bodyPost Tryz.prog Tryz.f47 Q Exit.ret a W := by
  refine bodyPost_ret (v := .tuple #[.agg cs, e]) ?_ hd hQ
  rw [results_cell_tmp (p := 2) (u := 3) (ty := 74) rfl, ha, he]
  have hi : (Tryz.prog.info? 74).map (·.size) = some cs.size := by rw [hc]; kernel_rfl
  simp [asAddr, run_loadVar_row W N 74 74 cs (0, 0) _ hK Tryz.underlying74 rfl hi, Result.andThen]
theorem civil_none (s : Int) (h : s < -62135596800 ∨ 253402300799 < s) : Cv.civil s = none := by unfold Cv.civil; rw [if_pos h]
theorem civil_some (s : Int) (h : ¬ (s < -62135596800 ∨ 253402300799 < s)) : ∃ x, Cv.date ((s + 62135596800) / 86400 - 719162) = some x ∧ Cv.civil s = some x := by
  obtain ⟨x, hx⟩ := Cv.count_next ((s + 62135596800) / 86400 - 719162) (by omega)
  exact ⟨x, hx, by unfold Cv.civil; rw [if_neg h, hx]⟩
set_option maxHeartbeats 8000000 in
set_option maxRecDepth 100000 in
theorem refCivil18_any (s : Int) (w : World) (hs : (Lit.int .i64 s).wf = true) : Calls Tryz.prog 47 #[.int .i64 s] w (CivilR w s) := by
  have hsb := wf_i64r hs
  have HO := hide (below_alloc w (.cells #[.int .i64 0, .int .i64 0, .int .i64 0, .int .i64 0, .int .i64 0, .int .i64 0] 74))
  have HK := hide (Blk.new w 74 #[.int .i64 0, .int .i64 0, .int .i64 0, .int .i64 0, .int .i64 0, .int .i64 0])
  have hz : (w.alloc (.cells #[.int .i64 0, .int .i64 0, .int .i64 0, .int .i64 0, .int .i64 0, .int .i64 0] 74)).heap.size = w.heap.size + 1 := by simp
  have Hz := hide hz
  clear hz
  by_cases h1 : s < -62135596800
  · have HV := hide (civil_none s (.inl h1))
    go_enter Tryz.func47, Tryz.ntmps47
    go_wp2
    refine refCivil_ret rfl rfl rfl HK.out rfl ?_
    refine ⟨HO.out, ?_⟩
    rw [HV.out]
    exact ⟨_, _, _, _, _, _, rfl⟩
  by_cases h2 : 253402300799 < s
  · have HV := hide (civil_none s (.inr h2))
    go_enter Tryz.func47, Tryz.ntmps47
    go_wp2
    refine refCivil_ret rfl rfl rfl HK.out rfl ?_
    refine ⟨HO.out, ?_⟩
    rw [HV.out]
    exact ⟨_, _, _, _, _, _, rfl⟩
  obtain ⟨⟨y, m, d⟩, hdt, hci⟩ := civil_some s (by omega)
  have HV := hide hci
  have hdt2 : Cv.date ((s + 62135596800) / 86400 + -719162) = some (y, m, d) := hdt
  have HD := hide (fun W => refDate18_any ((s + 62135596800) / 86400 + -719162) y m d W (by omega) hdt2)
  have n0 : 0 ≤ s + 62135596800 ∧ s + 62135596800 ≤ 315537897599 := by omega
  have HR1 := hide (show (s + 62135596800) / 3600 % 24 = Cv.rest s / 3600 ∧ (s + 62135596800) / 60 % 60 = Cv.rest s / 60 % 60 ∧ (s + 62135596800) % 60 = Cv.rest s % 60 by unfold Cv.rest; omega)
  clear hdt hdt2 hci
  go_enter Tryz.func47, Tryz.ntmps47
  go_wp2_with fail
  refine (HD.out _).mono ?_
  rintro e w2 ⟨rfl, hw2⟩
  have hA := (HK.out).alloc (.cells #[.int .i64 0, .int .i64 0, .int .i64 0, .int .i64 ((s + 62135596800) / 3600 % 24), .int .i64 ((s + 62135596800) / 60 % 60), .int .i64 ((s + 62135596800) % 60)] 74)
  have hB := Blk.new (w.alloc (.cells #[.int .i64 0, .int .i64 0, .int .i64 0, .int .i64 0, .int .i64 0, .int .i64 0] 74)) 74 #[.int .i64 0, .int .i64 0, .int .i64 0, .int .i64 ((s + 62135596800) / 3600 % 24), .int .i64 ((s + 62135596800) / 60 % 60), .int .i64 ((s + 62135596800) % 60)]
  have hb := HO.out.alloc (by simp) (.cells #[.int .i64 0, .int .i64 0, .int .i64 0, .int .i64 ((s + 62135596800) / 3600 % 24), .int .i64 ((s + 62135596800) / 60 % 60), .int .i64 ((s + 62135596800) % 60)] 74)
  rw [Hz.out] at hB
  rw [← hw2] at hA hB hb
  have HA := hide hA
  have HB := hide hB
  have HBl := hide hb
  clear hw2 hA hb n0
  have f0 := hB.frozen 0
  have f1 := hB.frozen 1
  have f2 := hB.frozen 2
  have c0 := hB.cell 0
  have c1 := hB.cell 1
  have c2 := hB.cell 2
  have c3 := hB.cell 3
  have c4 := hB.cell 4
  have c5 := hB.cell 5
  have g0 := HA.out.frozen 0
  have g1 := HA.out.frozen 1
  have g2 := HA.out.frozen 2
  have g3 := HA.out.frozen 3
  have g4 := HA.out.frozen 4
  have g5 := HA.out.frozen 5
  have a0 := HA.out.cell 0
  have a1 := HA.out.cell 1
  have a2 := HA.out.cell 2
  have a3 := HA.out.cell 3
  have a4 := HA.out.cell 4
  have a5 := HA.out.cell 5
  clear hB
  dsimp only
  go_wp2
  refine refCivil_ret (N := w.heap.size) (cs := #[.int .i64 y, .int .i64 m, .int .i64 d, .int .i64 ((s + 62135596800) / 3600 % 24), .int .i64 ((s + 62135596800) / 60 % 60), .int .i64 ((s + 62135596800) % 60)]) rfl rfl rfl ?_ rfl ?_
  · have := (((((((((HA.out.far (p := ⟨w.heap.size + 1, 0, none⟩) (by show w.heap.size ≠ w.heap.size + 1; omega) (.int .i64 y)).far (p := ⟨w.heap.size + 1, 1, none⟩) (by show w.heap.size ≠ w.heap.size + 1; omega) (.int .i64 m)).far (p := ⟨w.heap.size + 1, 2, none⟩) (by show w.heap.size ≠ w.heap.size + 1; omega) (.int .i64 d)).set_ 0 (.int .i64 y)).set_ 1 (.int .i64 m)).set_ 2 (.int .i64 d)).set_ 3 (.int .i64 ((s + 62135596800) / 3600 % 24))).set_ 4 (.int .i64 ((s + 62135596800) / 60 % 60))).set_ 5 (.int .i64 ((s + 62135596800) % 60)))
    simpa using this
  · refine ⟨(((((((((HBl.out.setCell (p := ⟨w.heap.size + 1, 0, none⟩) (Nat.le_succ _) (.int .i64 y)).setCell (p := ⟨w.heap.size + 1, 1, none⟩) (Nat.le_succ _) (.int .i64 m)).setCell (p := ⟨w.heap.size + 1, 2, none⟩) (Nat.le_succ _) (.int .i64 d)).setCell (p := ⟨w.heap.size, 0, none⟩) (Nat.le_refl _) (.int .i64 y)).setCell (p := ⟨w.heap.size, 1, none⟩) (Nat.le_refl _) (.int .i64 m)).setCell (p := ⟨w.heap.size, 2, none⟩) (Nat.le_refl _) (.int .i64 d)).setCell (p := ⟨w.heap.size, 3, none⟩) (Nat.le_refl _) (.int .i64 ((s + 62135596800) / 3600 % 24))).setCell (p := ⟨w.heap.size, 4, none⟩) (Nat.le_refl _) (.int .i64 ((s + 62135596800) / 60 % 60))).setCell (p := ⟨w.heap.size, 5, none⟩) (Nat.le_refl _) (.int .i64 ((s + 62135596800) % 60))), ?_⟩
    rw [HV.out, HR1.out.1, HR1.out.2.1, HR1.out.2.2]
    rfl
end Go.Proofs.YtlcfakmbcfdgbaaGreat
namespace Go.Proofs.YtlcfakmbcfdgbaaGreat
open Go.RowKit Go.WideShapes

/-- A store into a row of one's own. -/
theorem own_store {w : World} {base e g n cap : Nat} {xs : List Value} (h : w.ownsRow base e 1 (.slice (some ⟨g, 0, none⟩) n cap) n xs) {i : Nat} (u : Value) :
    (w.setCell ⟨g, i, none⟩ u).ownsRow base e 1 (.slice (some ⟨g, 0, none⟩) n cap) n (xs.set i u) := by
  refine ⟨by rw [List.length_set]; exact h.1, ?_⟩
  rcases h.2 with ⟨h0, _⟩ | ⟨g', cap', cur, e', hb, hh, h1, h2, h3, h4⟩
  · cases h0
  · cases e'
    refine .inr ⟨g, cap, cur.setIfInBounds i u, rfl, hb, ?_, h1, h2, by rw [Array.size_setIfInBounds]; exact h3, ?_⟩
    · simp [World.setCell, Array.getElem?_modify, hh]
    · rw [Array.toList_setIfInBounds, List.take_set, h4]
/-- What stands in a row of one's own. -/
theorem own_at {w : World} {base e g n cap : Nat} {xs : List Value} (h : w.ownsRow base e 1 (.slice (some ⟨g, 0, none⟩) n cap) n xs) {i : Nat} {u : Value} (hu : xs[i]? = some u) : w.cell? ⟨g, i, none⟩ = some u ∧ w.frozen? ⟨g, i, none⟩ = false := by
  rcases h.2 with ⟨h0, _⟩ | ⟨g', cap', cur, e', hb, hh, h1, h2, h3, h4⟩
  · cases h0
  · cases e'
    have hc : cur[i]? = some u := by
      rw [← h4, List.getElem?_take] at hu
      split at hu
      · rw [Array.getElem?_toList] at hu; exact hu
      · cases hu
    refine ⟨?_, ?_⟩
    · rw [cell_of_row w g i _ _ _ hh]; exact hc
    · simp [World.frozen?, hh]
end Go.Proofs.YtlcfakmbcfdgbaaGreat
namespace Go.Proofs.YtlcfakmbcfdgbaaGreat
open Go.RowKit Go.WideShapes

namespace Nf
theorem carry_hop {b c : Int} {l : List Int} (h : 0 < cls b ∧ cls b < cls c) : carry c (b :: l) = b :: carry c l := by rw [carry, if_pos h]
theorem carry_stay {b c : Int} {l : List Int} (h : ¬ (0 < cls b ∧ cls b < cls c)) : carry c (b :: l) = c :: carry b l := by rw [carry, if_neg h]
theorem swap_set : ∀ (pre : List Int) (b c : Int) (rest : List Int) (i j : Nat), j = pre.length → i = j + 1 → ((intVs (pre ++ c :: b :: rest)).set i (.int .i64 c)).set j (.int .i64 b) = intVs (pre ++ b :: c :: rest)
  | [], b, c, rest, i, j, hj, hi => by
    subst hi
    subst hj
    rfl
  | x :: pre, b, c, rest, i, j, hj, hi => by
    obtain ⟨j, rfl⟩ : ∃ k, j = k + 1 := ⟨pre.length, by rw [hj]; rfl⟩
    obtain ⟨i, rfl⟩ : ∃ k, i = k + 1 := ⟨j + 1, by omega⟩
    have := swap_set pre b c rest i j (by simpa using hj) (by omega)
    exact congrArg (Value.int .i64 x :: ·) this
theorem intVs_at {l : List Int} {k : Nat} {x : Int} (h : l[k]? = some x) : (intVs l)[k]? = some (.int .i64 x) := by unfold intVs; rw [List.getElem?_map, h]; rfl
end Nf
/-- A row of one's own that holds something lies in a block. -/
theorem own_some {w : World} {base e n cap : Nat} {A : Option Addr} {xs : List Value} (h : w.ownsRow base e 1 (.slice A n cap) n xs) (hn : 0 < n) : ∃ g, A = some ⟨g, 0, none⟩ ∧ base ≤ g ∧ g < w.heap.size := by
  obtain ⟨g, cap', hv, hb, hlt⟩ := h.form hn
  cases hv
  exact ⟨g, rfl, hb, hlt⟩
set_option maxRecDepth 100000 in
set_option maxHeartbeats 8000000 in
theorem refSort_any (l : List Int) (A : Option Addr) (c : Nat) (w : World) (hr : Reads w w.heap.size 1 A l.length (intVs l)) (hn : l.length ≤ 100000000) :
    Calls Tryz.prog 95 #[.slice A l.length c] w (IntsR w (Nf.sort l)) := by
  have HR := hide hr
  have HS := hide (Nf.bubble l)
  have hsl : (Nf.sort l).length = l.length := by
    rw [← Nf.bubble]
    have : ∀ (k : Nat) (m : List Int), (Nf.passN k m).length = m.length := by
      intro k
      induction k with
      | zero => intro m; rfl
      | succ k ih => intro m; rw [Nf.passN, ih, Nf.pass_len]
    exact this _ _
  obtain ⟨N, hN⟩ : ∃ N, l.length = N := ⟨_, rfl⟩
  rw [hN] at hn HR HS hsl ⊢
  have HN := hide hN
  have HC := hide (fun r W => refClass_any r W)
  clear hN hr
  obtain ⟨L, hL⟩ : ∃ L, Nf.sort l = L := ⟨_, rfl⟩
  rw [hL] at hsl HS ⊢
  clear hL
  unfold IntsR
  rw [hsl]
  clear hsl
  go_enter Tryz.func95, Tryz.ntmps95
  go_wp2_with (at_builtin; go_loud (refine wpList_append_row w rfl (.tmp 8) (.tmp 9) 93 rfl w.heap.size (.int .i64 0) 1 8 Tryz.underlying93 info_int rfl (by omega) (.slice none 0 0) 0 [] rfl (World.ownsRow_nil _ _ _ _) w.heap.size A N c (intVs l) HR.out (intVs_one _) rfl (by unfold maxLen; omega) (by omega) (Nat.le_refl _) ?_); intro A1 c1 w1 ho1 hg1; rw [Nat.zero_add, List.nil_append] at ho1; have HO1 := hide ho1; have HB1 := hide ((Below.refl w.heap.size w).grown hg1 (Nat.le_refl _) (fun j e => by simp [Value.ownBlock] at e)); clear ho1 hg1)
  (try rw [Nat.zero_add])
  go_loopg [4, 5, 6, 7] N (fun gk v4 v5 v6 v7 wr => ∃ (n : Nat) (cur : List Int), gk = N - n ∧ n ≤ N ∧ v4 = .int .i64 (n : Int) ∧ cur.length = N ∧ Nf.passN (N - n) cur = L ∧ wr.ownsRow w.heap.size 3 1 (.slice A1 N c1) N (intVs cur) ∧ Below w.heap.size w wr)
  case atStart => exact ⟨0, l, rfl, by omega, rfl, HN.out, by simpa using HS.out, HO1.out, HB1.out⟩
  case round =>
    obtain ⟨n, cur, hgk, hnN, rfl, hlen, hps, ho, hb⟩ := hrel
    have Hg := hide hgk
    have HO := hide ho
    have HB := hide hb
    have Hlen := hide hlen
    have HPs := hide hps
    clear hgk ho hb hlen hps
    by_cases hlt : n < N
    · obtain ⟨g, rfl, hgb, hgl⟩ := own_some HO.out (by omega)
      obtain ⟨c0, rest0, hcr⟩ : ∃ c0 rest0, cur = c0 :: rest0 := by
        cases cur with
        | nil => have := Hlen.out; simp at this; omega
        | cons x t => exact ⟨x, t, rfl⟩
      subst hcr
      have hp1 : Nf.passN (N - n - 1) (Nf.carry c0 rest0) = L := by
        have := HPs.out
        rw [show N - n = N - n - 1 + 1 by omega] at this
        exact this
      have HP1 := hide hp1
      have HI0 := hide (show ([] : List Int).length + 1 + rest0.length = N by have := Hlen.out; simp at this ⊢; omega)
      clear hp1
      go_wp2
      rename World => wo
      go_loopg [5, 6, 7] (N - 1) (fun gq v5 v6 v7 wr => ∃ (i j : Nat) (pre : List Int) (cc : Int) (rest : List Int), gq = N - i ∧ i ≤ N ∧ i = j + 1 ∧ j = pre.length ∧ v5 = .int .i64 (i : Int) ∧ pre.length + 1 + rest.length = N ∧ Nf.passN (N - n - 1) (pre ++ Nf.carry cc rest) = L ∧ wr.ownsRow w.heap.size 3 1 (.slice (some ⟨g, 0, none⟩) N c1) N (intVs (pre ++ cc :: rest)) ∧ Below w.heap.size w wr)
      case atStart => exact ⟨1, 0, [], c0, rest0, rfl, by omega, rfl, rfl, rfl, HI0.out, HP1.out, HO.out, HB.out⟩
      case round =>
        obtain ⟨i, j, pre, cc, rest, hgq, hiN, hij, hjp, rfl, hl3, hps, ho, hb⟩ := hrel
        have Hg2 := hide hgq
        have HO2 := hide ho
        have HB2 := hide hb
        have HL3 := hide hl3
        have HPs2 := hide hps
        have HJp := hide hjp
        have HIj := hide hij
        clear hgq ho hb hps hjp hl3 hij
        by_cases hit : i < N
        · obtain ⟨b, rest, hbr⟩ : ∃ b r, rest = b :: r := by
            cases rest with
            | nil => have h3 := HL3.out; have := HJp.out; have := HIj.out; simp only [List.length_nil] at h3; omega
            | cons x t => exact ⟨x, t, rfl⟩
          subst hbr
          obtain ⟨y0, f0⟩ := own_at HO2.out (i := j) (u := .int .i64 cc) (Nf.intVs_at (by rw [HJp.out]; simp))
          obtain ⟨y1, f1⟩ := own_at HO2.out (i := i) (u := .int .i64 b) (Nf.intVs_at (by rw [HIj.out, HJp.out, List.getElem?_append_right (by omega)]; simp))
          have hij2 : (0 : Int) ≤ i ∧ (i : Int) < N := by omega
          have hjj2 : (0 : Int) ≤ j ∧ (j : Int) < N := by have := HIj.out; omega
          have z1 : IntKind.i64.wrap ((i : Int) - 1) = (j : Int) := by rw [IntWalk.i64_in _ (by omega)]; have := HIj.out; omega
          have HCb := hide (HC.out b)
          have HCc := hide (HC.out cc)
          have Hhop := hide (@Nf.carry_hop b cc rest)
          have Hsty := hide (@Nf.carry_stay b cc rest)
          obtain ⟨kb, hkb⟩ : ∃ k, Nf.cls b = k := ⟨_, rfl⟩
          obtain ⟨kc, hkc⟩ : ∃ k, Nf.cls cc = k := ⟨_, rfl⟩
          rw [hkb] at HCb Hhop Hsty
          rw [hkc] at HCc Hhop Hsty
          clear hkb hkc
          go_wp2_with fail
          go_wp2_with fail
          refine cq (HCb.out _) ?_
          by_cases h1 : 0 < kb
          · have d1 : decide (0 < kb) = true := decide_eq_true h1
            go_wp2_with fail
            go_wp2_with fail
            refine cq (HCc.out _) ?_
            by_cases h2 : kb < kc
            · have d2 : decide (kb < kc) = true := decide_eq_true h2
              have hhop := hide (Hhop.out ⟨h1, h2⟩)
              obtain ⟨y2, f2⟩ := own_at (own_store HO2.out (i := i) (.int .i64 cc)) (i := j) (u := .int .i64 cc) (by rw [List.getElem?_set_ne (by have := HIj.out; omega)]; exact Nf.intVs_at (by rw [HJp.out]; simp))
              have HS1 := hide (own_store (own_store HO2.out (i := i) (.int .i64 cc)) (i := j) (.int .i64 b))
              rw [Nf.swap_set pre b cc rest i j HJp.out HIj.out] at HS1
              clear h1 h2
              go_wp2
              go_roundg (N - (i + 1))
              case measure => have := Hg2.out; omega
              case rel =>
                refine ⟨i + 1, i, pre ++ [b], cc, rest, rfl, by omega, rfl, by rw [List.length_append, ← HJp.out]; exact HIj.out, by first | rfl | go_num, ?_, ?_, ?_, ?_⟩
                · have := HL3.out
                  simp only [List.length_append, List.length_cons, List.length_nil] at this ⊢
                  omega
                · rw [List.append_assoc]
                  have := HPs2.out
                  rw [hhop.out] at this
                  exact this
                · rw [List.append_assoc]
                  exact HS1.out
                · exact (HB2.out.setCell (p := ⟨g, i, none⟩) hgb _).setCell (p := ⟨g, j, none⟩) hgb _
            · have d2 : decide (kb < kc) = false := decide_eq_false h2
              have hsty := hide (Hsty.out (fun h => h2 h.2))
              clear h1 h2
              go_wp2
              go_roundg (N - (i + 1))
              case measure => have := Hg2.out; omega
              case rel =>
                refine ⟨i + 1, i, pre ++ [cc], b, rest, rfl, by omega, rfl, by rw [List.length_append, ← HJp.out]; exact HIj.out, by first | rfl | go_num, ?_, ?_, ?_, HB2.out⟩
                · have := HL3.out
                  simp only [List.length_append, List.length_cons, List.length_nil] at this ⊢
                  omega
                · rw [List.append_assoc]
                  have := HPs2.out
                  rw [hsty.out] at this
                  exact this
                · rw [List.append_assoc]
                  exact HO2.out
          · have d1 : decide (0 < kb) = false := decide_eq_false h1
            have hsty := hide (Hsty.out (fun h => h1 h.1))
            clear h1
            go_wp2
            go_roundg (N - (i + 1))
            case measure => have := Hg2.out; omega
            case rel =>
              refine ⟨i + 1, i, pre ++ [cc], b, rest, rfl, by omega, rfl, by rw [List.length_append, ← HJp.out]; exact HIj.out, by first | rfl | go_num, ?_, ?_, ?_, HB2.out⟩
              · have := HL3.out
                simp only [List.length_append, List.length_cons, List.length_nil] at this ⊢
                omega
              · rw [List.append_assoc]
                have := HPs2.out
                rw [hsty.out] at this
                exact this
              · rw [List.append_assoc]
                exact HO2.out
        · have hiN2 : i = N := by omega
          have hr0 : rest = [] := by
            cases rest with
            | nil => rfl
            | cons x t => have h3 := HL3.out; have := HJp.out; have := HIj.out; simp only [List.length_cons] at h3; omega
          subst hr0
          subst hiN2
          have hq : (i : Int) < (i : Int) ↔ False := by simp
          go_wp2
          go_roundg (i - (n + 1))
          case measure => have := Hg.out; omega
          case rel => exact ⟨n + 1, pre ++ [cc], rfl, by omega, by first | rfl | go_num, by have := HL3.out; simpa using this, by have := HPs2.out; rwa [show i - n - 1 = i - (n + 1) by omega] at this, HO2.out, HB2.out⟩
    · have hnN2 : n = N := by omega
      subst hnN2
      have hc : cur = L := by have := HPs.out; rwa [Nat.sub_self] at this
      subst hc
      go_wp2
      go_ret
      exact ⟨⟨A1, c1, rfl, HO.out⟩, HB.out⟩
end Go.Proofs.YtlcfakmbcfdgbaaGreat
