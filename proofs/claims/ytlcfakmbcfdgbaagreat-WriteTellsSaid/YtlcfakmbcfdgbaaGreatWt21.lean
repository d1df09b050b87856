/- NFC: what the document makes of a scalar, of two (ref10.Made, Whole). (Printed by genTdO.py.) -/
import Derived.Test.YtlcfakmbcfdgbaaGreatWt03
import Derived.Test.YtlcfakmbcfdgbaaGreatWt20
set_option linter.unusedSimpArgs false
set_option linter.unusedVariables false
namespace Go.Proofs.YtlcfakmbcfdgbaaGreat
open Go.RowKit Go.WideShapes

namespace Nf
def lookPrV : Option (Int × Int) → Value
  | some (a, b) => .tuple #[.int .i64 a, .int .i64 b, .bool true]
  | none => .tuple #[.int .i64 0, .int .i64 0, .bool false]
def lookPwV : Option Int → Value
  | some v => .tuple #[.int .i64 v, .bool true]
  | none => .tuple #[.int .i64 0, .bool false]
theorem gdrop {α : Type} {l : List α} {k : Nat} {x : α} (h : l[k]? = some x) : l.drop k = x :: l.drop (k + 1) := by
  obtain ⟨hk, e⟩ := List.getElem?_eq_some_iff.1 h
  rw [List.drop_eq_getElem_cons hk, e]
theorem lookPr_at {l : List Pr} {k : Nat} {x : Pr} (h : l[k]? = some x) (r : Int) : lookPr r (l.drop k) = if x.w = r then some (x.f, x.s) else lookPr r (l.drop (k + 1)) := by
  rw [gdrop h]
  rfl
theorem lookPw_at {l : List Pr} {k : Nat} {x : Pr} (h : l[k]? = some x) (a b : Int) : lookPw a b (l.drop k) = if x.f = a ∧ x.s = b ∧ b ≠ 0 then some x.w else lookPw a b (l.drop (k + 1)) := by
  rw [gdrop h]
  rfl
theorem pairs_num : pairsD.length ≤ 1000 := by decide +kernel
end Nf
theorem madeV_is (r : Int) : madeV r = Nf.lookPrV (Nf.dmade r) := by
  rw [Nf.dmade_is]
  unfold madeV
  cases Nf.made r <;> rfl
theorem wholeV_is (a b : Int) : wholeV a b = Nf.lookPwV (Nf.dwhole a b) := by
  rw [Nf.dwhole_is]
  unfold wholeV
  cases Nf.whole a b <;> rfl
set_option maxHeartbeats 8000000 in
set_option maxRecDepth 100000 in
theorem refMade_any (r : Int) (w : World) (h0 : 0 ≤ r) (h1 : r ≤ 1114111) : Calls Tryz.prog 129 #[.int .i64 r] w fun e w' => e = .returned (madeV r) ∧ Below w.heap.size w w' := by
  have HH := hide (fun W => refHangul_any r W)
  rw [madeV_is]
  unfold Nf.dmade
  cases hg : Nf.hangul r with
  | true =>
    rw [hg] at HH
    rw [if_pos rfl]
    have hr := of_decide_eq_true hg
    obtain ⟨n, hn⟩ : ∃ n : Nat, r = 44032 + n := ⟨(r - 44032).toNat, by omega⟩
    subst hn
    have hw : IntKind.i64.wrap (44032 + (n : Int) - 44032) = (n : Int) := by rw [IntWalk.i64_in _ (by omega)]; omega
    have hm : Int.tmod (n : Int) 28 = ((n % 28 : Nat) : Int) := by rw [Int.tmod_eq_emod_of_nonneg (by omega)]; omega
    have e1 : (44032 + (n : Int) - 0xAC00) % 28 = ((n % 28 : Nat) : Int) := by omega
    have e2 : (44032 + (n : Int) - 0xAC00) / 28 = ((n / 28 : Nat) : Int) := by omega
    rw [e1, e2]
    obtain ⟨t, ht⟩ : ∃ t, n % 28 = t := ⟨_, rfl⟩
    rw [ht] at hm ⊢
    have htl : t < 28 := by omega
    by_cases hp : 0 < t
    · rw [if_pos (by omega)]
      have hp2 : (0 : Int) < (t : Int) := by omega
      have hq := hr
      have hww : IntKind.i64.wrap (44032 + (n : Int) - (t : Int)) = 44032 + (n : Int) - (t : Int) := by rw [IntWalk.i64_in _ (by omega)]
      clear hg hr e1 e2 ht
      go_enter Tryz.func129, Tryz.ntmps129
      go_wp2_with fail
      refine cq (HH.out _) ?_
      go_wp2
      go_ret3
      exact ⟨rfl, Below.refl _ _⟩
    · have ht0 : t = 0 := by omega
      subst ht0
      rw [if_neg (by omega)]
      have hd : Int.tdiv (n : Int) 28 = ((n / 28 : Nat) : Int) := by rw [Int.tdiv_eq_ediv_of_nonneg (by omega)]; omega
      obtain ⟨k, hk⟩ : ∃ k, n / 28 = k := ⟨_, rfl⟩
      rw [hk] at hd ⊢
      have hkl : k < 400 := by omega
      have hd2 : Int.tdiv (k : Int) 21 = ((k / 21 : Nat) : Int) := by rw [Int.tdiv_eq_ediv_of_nonneg (by omega)]; omega
      have hm2 : Int.tmod (k : Int) 21 = ((k % 21 : Nat) : Int) := by rw [Int.tmod_eq_emod_of_nonneg (by omega)]; omega
      have e3 : (k : Int) / 21 = ((k / 21 : Nat) : Int) := by omega
      have e4 : (k : Int) % 21 = ((k % 21 : Nat) : Int) := by omega
      rw [e3, e4]
      obtain ⟨a, ha⟩ : ∃ a, k / 21 = a := ⟨_, rfl⟩
      obtain ⟨b, hb⟩ : ∃ b, k % 21 = b := ⟨_, rfl⟩
      rw [ha] at hd2 ⊢
      rw [hb] at hm2 ⊢
      have hal : a < 20 := by omega
      have hbl : b < 21 := by omega
      clear hg hr e1 e2 e3 e4 ht hk ha hb
      go_enter Tryz.func129, Tryz.ntmps129
      go_wp2_with fail
      refine cq (HH.out _) ?_
      go_wp2
      go_ret3
      exact ⟨rfl, Below.refl _ _⟩
  | false =>
    rw [hg] at HH
    simp only [Bool.false_eq_true, if_false]
    have HP := hide (fun W => refPairs_any W)
    obtain ⟨L, hL⟩ : ∃ L, Nf.pairsD = L := ⟨_, rfl⟩
    have hN := Nf.pairs_num
    rw [hL] at HP hN ⊢
    clear hg hL
    obtain ⟨N, hLN⟩ : ∃ N, L.length = N := ⟨_, rfl⟩
    have HN := hide hLN
    rw [hLN] at HP hN
    obtain ⟨z, hz⟩ : ∃ z, Nf.lookPr r L = z := ⟨_, rfl⟩
    rw [hz]
    have HZ := hide hz
    clear hLN hz
    go_enter Tryz.func129, Tryz.ntmps129
    go_wp2_with fail
    go_wp2_with fail
    refine cq (HH.out _) ?_
    go_wp2_with fail
    refine (HP.out _).mono ?_
    rintro e w1 ⟨⟨A, c, rfl, ho⟩, hb⟩
    have HR := hide (Reads.of_own ho)
    have HB := hide hb
    have hc := own_capN ho
    clear ho hb
    go_wp2
    go_loopg [8] N (fun gk v8 wr => ∃ (k : Nat), gk = N - k ∧ k ≤ N ∧ v8 = .int .i64 (k : Int) ∧ Nf.lookPr r (L.drop k) = z ∧ wr = w1)
    case atStart => exact ⟨0, rfl, by omega, rfl, HZ.out, rfl⟩
    case round =>
      obtain ⟨k, hgk, hk, rfl, hz, rfl⟩ := hrel
      have Hg := hide hgk
      have Hz := hide hz
      clear hgk hz
      by_cases hlt : k < N
      · obtain ⟨x, hx⟩ : ∃ x, L[k]? = some x := ⟨_, List.getElem?_eq_getElem (by rw [HN.out]; exact hlt)⟩
        obtain ⟨p0, p1, p2⟩ := prVs_at L k x hx
        obtain ⟨gb, off, rfl, hgb, hcell⟩ := HR.out.2 (by omega)
        have y0 := hcell _ _ p0
        have y1 := hcell _ _ p1
        have y2 := hcell _ _ p2
        have hat := Nf.lookPr_at hx r
        rw [← Nat.add_assoc] at y1 y2
        have Hz2 := hide (hat.symm.trans Hz.out)
        have hkk : (0 : Int) ≤ k ∧ (k : Int) < N := by omega
        clear hat hx p0 p1 p2 hcell
        obtain ⟨xw, xf, xs⟩ := x
        dsimp only at y0 y1 y2
        by_cases hxw : xw = r
        · have hv : some (xf, xs) = z := by have := Hz2.out; rwa [if_pos hxw] at this
          subst hv
          have e1 : (xw == r) = true := by simpa using hxw
          clear hxw
          go_wp2_with fail
          go_quiet (fail)
          go_wp2
          go_ret3
          exact ⟨rfl, HB.out.os, HB.out.tape, HB.out.output, HB.out.size, HB.out.block⟩
        · have hv := hide (show Nf.lookPr r (L.drop (k + 1)) = z by have := Hz2.out; rwa [if_neg hxw] at this)
          have e1 : (xw == r) = false := by simpa using hxw
          clear hxw
          go_wp2
          go_roundg (N - (k + 1))
          case measure => have := Hg.out; omega
          case rel => exact ⟨k + 1, rfl, by omega, by first | rfl | go_num, hv.out, rfl⟩
      · have hv : z = none := by
          have := Hz.out
          rw [List.drop_of_length_le (by rw [HN.out]; omega)] at this
          exact this.symm
        subst hv
        go_wp2
        go_ret3
        exact ⟨rfl, HB.out⟩
set_option maxHeartbeats 16000000 in
set_option maxRecDepth 100000 in
theorem refWhole_any (a b : Int) (w : World) (a0 : 0 ≤ a) (a1 : a ≤ 1114111) (b0 : 0 ≤ b) (b1 : b ≤ 1114111) : Calls Tryz.prog 116 #[.int .i64 a, .int .i64 b] w fun e w' => e = .returned (wholeV a b) ∧ Below w.heap.size w w' := by
  have HH := hide (fun W => refHangul_any a W)
  rw [wholeV_is]
  unfold Nf.dwhole
  have HP := hide (fun W => refPairs_any W)
  obtain ⟨L, hL⟩ : ∃ L, Nf.pairsD = L := ⟨_, rfl⟩
  have hN := Nf.pairs_num
  rw [hL] at HP hN ⊢
  clear hL
  obtain ⟨N, hLN⟩ : ∃ N, L.length = N := ⟨_, rfl⟩
  have HN := hide hLN
  rw [hLN] at HP hN
  obtain ⟨z, hz⟩ : ∃ z, Nf.lookPw a b L = z := ⟨_, rfl⟩
  rw [hz]
  have HZ := hide hz
  clear hLN hz
  have hwa : (Lit.int .i64 a).wf = true := WalkArith.wf_i64 (by omega)
  have hwb : (Lit.int .i64 b).wf = true := WalkArith.wf_i64 (by omega)
  have hw1 : IntKind.i64.wrap (a - 44032) = a - 44032 := IntWalk.i64_in _ (by omega)
  by_cases h1 : a < 4352
  · have d1 : decide (4352 ≤ a) = false := decide_eq_false (by omega)
    have hgf : Nf.hangul a = false := decide_eq_false (by omega)
    rw [hgf] at HH
    rw [if_neg (by omega), if_neg (by rw [hgf]; simp)]
    clear hgf h1
    go_enter Tryz.func116, Tryz.ntmps116
    go_wp2_with fail
    refine cq (HH.out _) ?_
    go_wp2_with fail
    refine (HP.out _).mono ?_
    rintro e w1 ⟨⟨A, c, rfl, ho⟩, hb⟩
    have HR := hide (Reads.of_own ho)
    have HB := hide hb
    have hc := own_capN ho
    clear ho hb
    go_wp2
    go_loopg [7] N (fun gk v7 wr => ∃ (k : Nat), gk = N - k ∧ k ≤ N ∧ v7 = .int .i64 (k : Int) ∧ Nf.lookPw a b (L.drop k) = z ∧ Below w1.heap.size w1 wr)
    case atStart => exact ⟨0, rfl, by omega, rfl, HZ.out, Below.refl _ _⟩
    case round =>
      obtain ⟨k, hgk, hk, rfl, hz, hbl⟩ := hrel
      have Hg := hide hgk
      have Hz := hide hz
      have HBl := hide hbl
      clear hgk hz hbl
      by_cases hlt : k < N
      · obtain ⟨x, hx⟩ : ∃ x, L[k]? = some x := ⟨_, List.getElem?_eq_getElem (by rw [HN.out]; exact hlt)⟩
        obtain ⟨p0, p1, p2⟩ := prVs_at L k x hx
        obtain ⟨gb, off, rfl, hgb, hcell⟩ := HR.out.2 (by omega)
        have y0 := (HBl.out.cell hgb).trans (hcell _ _ p0)
        have y1 := (HBl.out.cell hgb).trans (hcell _ _ p1)
        have y2 := (HBl.out.cell hgb).trans (hcell _ _ p2)
        have hat := Nf.lookPw_at hx a b
        rw [← Nat.add_assoc] at y1 y2
        have Hz2 := hide (hat.symm.trans Hz.out)
        have hkk : (0 : Int) ≤ k ∧ (k : Int) < N := by omega
        clear hat hx p0 p1 p2 hcell hgb
        obtain ⟨xw, xf, xs⟩ := x
        dsimp only at y0 y1 y2
        by_cases hxf : xf = a
        · have t1 : (xf == a) = true := by simpa using hxf
          by_cases hxs : xs = b
          · have t2 : (xs == b) = true := by simpa using hxs
            by_cases hb0 : b = 0
            · have t3 : (b != 0) = false := by simpa using hb0
              have hv := hide (show Nf.lookPw a b (L.drop (k + 1)) = z by have := Hz2.out; rwa [if_neg (fun h => h.2.2 hb0)] at this)
              clear hxf hxs hb0
              go_wp2
              go_roundg (N - (k + 1))
              case measure => have := Hg.out; omega
              case rel => exact ⟨k + 1, rfl, by omega, by first | rfl | go_num, hv.out, ⟨HBl.out.os, HBl.out.tape, HBl.out.output, HBl.out.size, HBl.out.block⟩⟩
            · have t3 : (b != 0) = true := by simpa using hb0
              have hv : some xw = z := by have := Hz2.out; rwa [if_pos ⟨hxf, hxs, hb0⟩] at this
              subst hv
              clear hxf hxs hb0
              go_wp2
              go_ret2
              exact ⟨rfl, (HB.out.trans (HBl.out.mono HB.out.size)).os, (HB.out.trans (HBl.out.mono HB.out.size)).tape, (HB.out.trans (HBl.out.mono HB.out.size)).output, (HB.out.trans (HBl.out.mono HB.out.size)).size, (HB.out.trans (HBl.out.mono HB.out.size)).block⟩
          · have t2 : (xs == b) = false := by simpa using hxs
            have hv := hide (show Nf.lookPw a b (L.drop (k + 1)) = z by have := Hz2.out; rwa [if_neg (fun h => hxs h.2.1)] at this)
            clear hxf hxs
            go_wp2
            go_roundg (N - (k + 1))
            case measure => have := Hg.out; omega
            case rel => exact ⟨k + 1, rfl, by omega, by first | rfl | go_num, hv.out, ⟨HBl.out.os, HBl.out.tape, HBl.out.output, HBl.out.size, HBl.out.block⟩⟩
        · have t1 : (xf == a) = false := by simpa using hxf
          have hv := hide (show Nf.lookPw a b (L.drop (k + 1)) = z by have := Hz2.out; rwa [if_neg (fun h => hxf h.1)] at this)
          clear hxf
          go_wp2
          go_roundg (N - (k + 1))
          case measure => have := Hg.out; omega
          case rel => exact ⟨k + 1, rfl, by omega, by first | rfl | go_num, hv.out, ⟨HBl.out.os, HBl.out.tape, HBl.out.output, HBl.out.size, HBl.out.block⟩⟩
      · have hv : z = none := by
          have := Hz.out
          rw [List.drop_of_length_le (by rw [HN.out]; omega)] at this
          exact this.symm
        subst hv
        go_wp2
        go_ret2
        exact ⟨rfl, HB.out.trans (HBl.out.mono HB.out.size)⟩
  have d1 : decide (4352 ≤ a) = true := decide_eq_true (by omega)
  by_cases h2 : a < 4371
  · have d2 : decide (a < 4371) = true := decide_eq_true (by omega)
    have hgf : Nf.hangul a = false := decide_eq_false (by omega)
    rw [hgf] at HH
    by_cases h3 : b < 4449
    · have d3 : decide (4449 ≤ b) = false := decide_eq_false (by omega)
      rw [if_neg (by omega), if_neg (by rw [hgf]; simp)]
      clear hgf h1 h2 h3
      go_enter Tryz.func116, Tryz.ntmps116
      go_wp2_with fail
      refine cq (HH.out _) ?_
      go_wp2_with fail
      refine (HP.out _).mono ?_
      rintro e w1 ⟨⟨A, c, rfl, ho⟩, hb⟩
      have HR := hide (Reads.of_own ho)
      have HB := hide hb
      have hc := own_capN ho
      clear ho hb
      go_wp2
      go_loopg [7] N (fun gk v7 wr => ∃ (k : Nat), gk = N - k ∧ k ≤ N ∧ v7 = .int .i64 (k : Int) ∧ Nf.lookPw a b (L.drop k) = z ∧ Below w1.heap.size w1 wr)
      case atStart => exact ⟨0, rfl, by omega, rfl, HZ.out, Below.refl _ _⟩
      case round =>
        obtain ⟨k, hgk, hk, rfl, hz, hbl⟩ := hrel
        have Hg := hide hgk
        have Hz := hide hz
        have HBl := hide hbl
        clear hgk hz hbl
        by_cases hlt : k < N
        · obtain ⟨x, hx⟩ : ∃ x, L[k]? = some x := ⟨_, List.getElem?_eq_getElem (by rw [HN.out]; exact hlt)⟩
          obtain ⟨p0, p1, p2⟩ := prVs_at L k x hx
          obtain ⟨gb, off, rfl, hgb, hcell⟩ := HR.out.2 (by omega)
          have y0 := (HBl.out.cell hgb).trans (hcell _ _ p0)
          have y1 := (HBl.out.cell hgb).trans (hcell _ _ p1)
          have y2 := (HBl.out.cell hgb).trans (hcell _ _ p2)
          have hat := Nf.lookPw_at hx a b
          rw [← Nat.add_assoc] at y1 y2
          have Hz2 := hide (hat.symm.trans Hz.out)
          have hkk : (0 : Int) ≤ k ∧ (k : Int) < N := by omega
          clear hat hx p0 p1 p2 hcell hgb
          obtain ⟨xw, xf, xs⟩ := x
          dsimp only at y0 y1 y2
          by_cases hxf : xf = a
          · have t1 : (xf == a) = true := by simpa using hxf
            by_cases hxs : xs = b
            · have t2 : (xs == b) = true := by simpa using hxs
              by_cases hb0 : b = 0
              · have t3 : (b != 0) = false := by simpa using hb0
                have hv := hide (show Nf.lookPw a b (L.drop (k + 1)) = z by have := Hz2.out; rwa [if_neg (fun h => h.2.2 hb0)] at this)
                clear hxf hxs hb0
                go_wp2
                go_roundg (N - (k + 1))
                case measure => have := Hg.out; omega
                case rel => exact ⟨k + 1, rfl, by omega, by first | rfl | go_num, hv.out, ⟨HBl.out.os, HBl.out.tape, HBl.out.output, HBl.out.size, HBl.out.block⟩⟩
              · have t3 : (b != 0) = true := by simpa using hb0
                have hv : some xw = z := by have := Hz2.out; rwa [if_pos ⟨hxf, hxs, hb0⟩] at this
                subst hv
                clear hxf hxs hb0
                go_wp2
                go_ret2
                exact ⟨rfl, (HB.out.trans (HBl.out.mono HB.out.size)).os, (HB.out.trans (HBl.out.mono HB.out.size)).tape, (HB.out.trans (HBl.out.mono HB.out.size)).output, (HB.out.trans (HBl.out.mono HB.out.size)).size, (HB.out.trans (HBl.out.mono HB.out.size)).block⟩
            · have t2 : (xs == b) = false := by simpa using hxs
              have hv := hide (show Nf.lookPw a b (L.drop (k + 1)) = z by have := Hz2.out; rwa [if_neg (fun h => hxs h.2.1)] at this)
              clear hxf hxs
              go_wp2
              go_roundg (N - (k + 1))
              case measure => have := Hg.out; omega
              case rel => exact ⟨k + 1, rfl, by omega, by first | rfl | go_num, hv.out, ⟨HBl.out.os, HBl.out.tape, HBl.out.output, HBl.out.size, HBl.out.block⟩⟩
          · have t1 : (xf == a) = false := by simpa using hxf
            have hv := hide (show Nf.lookPw a b (L.drop (k + 1)) = z by have := Hz2.out; rwa [if_neg (fun h => hxf h.1)] at this)
            clear hxf
            go_wp2
            go_roundg (N - (k + 1))
            case measure => have := Hg.out; omega
            case rel => exact ⟨k + 1, rfl, by omega, by first | rfl | go_num, hv.out, ⟨HBl.out.os, HBl.out.tape, HBl.out.output, HBl.out.size, HBl.out.block⟩⟩
        · have hv : z = none := by
            have := Hz.out
            rw [List.drop_of_length_le (by rw [HN.out]; omega)] at this
            exact this.symm
          subst hv
          go_wp2
          go_ret2
          exact ⟨rfl, HB.out.trans (HBl.out.mono HB.out.size)⟩
    have d3 : decide (4449 ≤ b) = true := decide_eq_true (by omega)
    by_cases h4 : b < 4470
    · have d4 : decide (b < 4470) = true := decide_eq_true (by omega)
      rw [if_pos (by omega)]
      have e1 : IntKind.i64.wrap (a - 4352) = a - 4352 := IntWalk.i64_in _ (by omega)
      have e2 : IntKind.i64.wrap ((a - 4352) * 21) = (a - 4352) * 21 := IntWalk.i64_in _ (by omega)
      have e3 : IntKind.i64.wrap ((a - 4352) * 21 + b) = (a - 4352) * 21 + b := IntWalk.i64_in _ (by omega)
      have e4 : IntKind.i64.wrap ((a - 4352) * 21 + b - 4449) = (a - 4352) * 21 + b - 4449 := IntWalk.i64_in _ (by omega)
      have e5 : IntKind.i64.wrap (((a - 4352) * 21 + b - 4449) * 28) = ((a - 4352) * 21 + b - 4449) * 28 := IntWalk.i64_in _ (by omega)
      have e6 : IntKind.i64.wrap (44032 + ((a - 4352) * 21 + b - 4449) * 28) = 44032 + ((a - 4352) * 21 + b - 4449) * 28 := IntWalk.i64_in _ (by omega)
      clear hgf h1 h2 h3 h4
      go_enter Tryz.func116, Tryz.ntmps116
      go_wp2
      go_ret2
      exact ⟨rfl, Below.refl _ _⟩
    · have d4 : decide (b < 4470) = false := decide_eq_false (by omega)
      rw [if_neg (by omega), if_neg (by rw [hgf]; simp)]
      clear hgf h1 h2 h3 h4
      go_enter Tryz.func116, Tryz.ntmps116
      go_wp2_with fail
      refine cq (HH.out _) ?_
      go_wp2_with fail
      refine (HP.out _).mono ?_
      rintro e w1 ⟨⟨A, c, rfl, ho⟩, hb⟩
      have HR := hide (Reads.of_own ho)
      have HB := hide hb
      have hc := own_capN ho
      clear ho hb
      go_wp2
      go_loopg [7] N (fun gk v7 wr => ∃ (k : Nat), gk = N - k ∧ k ≤ N ∧ v7 = .int .i64 (k : Int) ∧ Nf.lookPw a b (L.drop k) = z ∧ Below w1.heap.size w1 wr)
      case atStart => exact ⟨0, rfl, by omega, rfl, HZ.out, Below.refl _ _⟩
      case round =>
        obtain ⟨k, hgk, hk, rfl, hz, hbl⟩ := hrel
        have Hg := hide hgk
        have Hz := hide hz
        have HBl := hide hbl
        clear hgk hz hbl
        by_cases hlt : k < N
        · obtain ⟨x, hx⟩ : ∃ x, L[k]? = some x := ⟨_, List.getElem?_eq_getElem (by rw [HN.out]; exact hlt)⟩
          obtain ⟨p0, p1, p2⟩ := prVs_at L k x hx
          obtain ⟨gb, off, rfl, hgb, hcell⟩ := HR.out.2 (by omega)
          have y0 := (HBl.out.cell hgb).trans (hcell _ _ p0)
          have y1 := (HBl.out.cell hgb).trans (hcell _ _ p1)
          have y2 := (HBl.out.cell hgb).trans (hcell _ _ p2)
          have hat := Nf.lookPw_at hx a b
          rw [← Nat.add_assoc] at y1 y2
          have Hz2 := hide (hat.symm.trans Hz.out)
          have hkk : (0 : Int) ≤ k ∧ (k : Int) < N := by omega
          clear hat hx p0 p1 p2 hcell hgb
          obtain ⟨xw, xf, xs⟩ := x
          dsimp only at y0 y1 y2
          by_cases hxf : xf = a
          · have t1 : (xf == a) = true := by simpa using hxf
            by_cases hxs : xs = b
            · have t2 : (xs == b) = true := by simpa using hxs
              by_cases hb0 : b = 0
              · have t3 : (b != 0) = false := by simpa using hb0
                have hv := hide (show Nf.lookPw a b (L.drop (k + 1)) = z by have := Hz2.out; rwa [if_neg (fun h => h.2.2 hb0)] at this)
                clear hxf hxs hb0
                go_wp2
                go_roundg (N - (k + 1))
                case measure => have := Hg.out; omega
                case rel => exact ⟨k + 1, rfl, by omega, by first | rfl | go_num, hv.out, ⟨HBl.out.os, HBl.out.tape, HBl.out.output, HBl.out.size, HBl.out.block⟩⟩
              · have t3 : (b != 0) = true := by simpa using hb0
                have hv : some xw = z := by have := Hz2.out; rwa [if_pos ⟨hxf, hxs, hb0⟩] at this
                subst hv
                clear hxf hxs hb0
                go_wp2
                go_ret2
                exact ⟨rfl, (HB.out.trans (HBl.out.mono HB.out.size)).os, (HB.out.trans (HBl.out.mono HB.out.size)).tape, (HB.out.trans (HBl.out.mono HB.out.size)).output, (HB.out.trans (HBl.out.mono HB.out.size)).size, (HB.out.trans (HBl.out.mono HB.out.size)).block⟩
            · have t2 : (xs == b) = false := by simpa using hxs
              have hv := hide (show Nf.lookPw a b (L.drop (k + 1)) = z by have := Hz2.out; rwa [if_neg (fun h => hxs h.2.1)] at this)
              clear hxf hxs
              go_wp2
              go_roundg (N - (k + 1))
              case measure => have := Hg.out; omega
              case rel => exact ⟨k + 1, rfl, by omega, by first | rfl | go_num, hv.out, ⟨HBl.out.os, HBl.out.tape, HBl.out.output, HBl.out.size, HBl.out.block⟩⟩
          · have t1 : (xf == a) = false := by simpa using hxf
            have hv := hide (show Nf.lookPw a b (L.drop (k + 1)) = z by have := Hz2.out; rwa [if_neg (fun h => hxf h.1)] at this)
            clear hxf
            go_wp2
            go_roundg (N - (k + 1))
            case measure => have := Hg.out; omega
            case rel => exact ⟨k + 1, rfl, by omega, by first | rfl | go_num, hv.out, ⟨HBl.out.os, HBl.out.tape, HBl.out.output, HBl.out.size, HBl.out.block⟩⟩
        · have hv : z = none := by
            have := Hz.out
            rw [List.drop_of_length_le (by rw [HN.out]; omega)] at this
            exact this.symm
          subst hv
          go_wp2
          go_ret2
          exact ⟨rfl, HB.out.trans (HBl.out.mono HB.out.size)⟩
  have d2 : decide (a < 4371) = false := decide_eq_false (by omega)
  rw [if_neg (by omega)]
  cases hg : Nf.hangul a with
  | false =>
    rw [hg] at HH
    rw [if_neg (by simp)]
    clear hg h1 h2
    go_enter Tryz.func116, Tryz.ntmps116
    go_wp2_with fail
    refine cq (HH.out _) ?_
    go_wp2_with fail
    refine (HP.out _).mono ?_
    rintro e w1 ⟨⟨A, c, rfl, ho⟩, hb⟩
    have HR := hide (Reads.of_own ho)
    have HB := hide hb
    have hc := own_capN ho
    clear ho hb
    go_wp2
    go_loopg [7] N (fun gk v7 wr => ∃ (k : Nat), gk = N - k ∧ k ≤ N ∧ v7 = .int .i64 (k : Int) ∧ Nf.lookPw a b (L.drop k) = z ∧ Below w1.heap.size w1 wr)
    case atStart => exact ⟨0, rfl, by omega, rfl, HZ.out, Below.refl _ _⟩
    case round =>
      obtain ⟨k, hgk, hk, rfl, hz, hbl⟩ := hrel
      have Hg := hide hgk
      have Hz := hide hz
      have HBl := hide hbl
      clear hgk hz hbl
      by_cases hlt : k < N
      · obtain ⟨x, hx⟩ : ∃ x, L[k]? = some x := ⟨_, List.getElem?_eq_getElem (by rw [HN.out]; exact hlt)⟩
        obtain ⟨p0, p1, p2⟩ := prVs_at L k x hx
        obtain ⟨gb, off, rfl, hgb, hcell⟩ := HR.out.2 (by omega)
        have y0 := (HBl.out.cell hgb).trans (hcell _ _ p0)
        have y1 := (HBl.out.cell hgb).trans (hcell _ _ p1)
        have y2 := (HBl.out.cell hgb).trans (hcell _ _ p2)
        have hat := Nf.lookPw_at hx a b
        rw [← Nat.add_assoc] at y1 y2
        have Hz2 := hide (hat.symm.trans Hz.out)
        have hkk : (0 : Int) ≤ k ∧ (k : Int) < N := by omega
        clear hat hx p0 p1 p2 hcell hgb
        obtain ⟨xw, xf, xs⟩ := x
        dsimp only at y0 y1 y2
        by_cases hxf : xf = a
        · have t1 : (xf == a) = true := by simpa using hxf
          by_cases hxs : xs = b
          · have t2 : (xs == b) = true := by simpa using hxs
            by_cases hb0 : b = 0
            · have t3 : (b != 0) = false := by simpa using hb0
              have hv := hide (show Nf.lookPw a b (L.drop (k + 1)) = z by have := Hz2.out; rwa [if_neg (fun h => h.2.2 hb0)] at this)
              clear hxf hxs hb0
              go_wp2
              go_roundg (N - (k + 1))
              case measure => have := Hg.out; omega
              case rel => exact ⟨k + 1, rfl, by omega, by first | rfl | go_num, hv.out, ⟨HBl.out.os, HBl.out.tape, HBl.out.output, HBl.out.size, HBl.out.block⟩⟩
            · have t3 : (b != 0) = true := by simpa using hb0
              have hv : some xw = z := by have := Hz2.out; rwa [if_pos ⟨hxf, hxs, hb0⟩] at this
              subst hv
              clear hxf hxs hb0
              go_wp2
              go_ret2
              exact ⟨rfl, (HB.out.trans (HBl.out.mono HB.out.size)).os, (HB.out.trans (HBl.out.mono HB.out.size)).tape, (HB.out.trans (HBl.out.mono HB.out.size)).output, (HB.out.trans (HBl.out.mono HB.out.size)).size, (HB.out.trans (HBl.out.mono HB.out.size)).block⟩
          · have t2 : (xs == b) = false := by simpa using hxs
            have hv := hide (show Nf.lookPw a b (L.drop (k + 1)) = z by have := Hz2.out; rwa [if_neg (fun h => hxs h.2.1)] at this)
            clear hxf hxs
            go_wp2
            go_roundg (N - (k + 1))
            case measure => have := Hg.out; omega
            case rel => exact ⟨k + 1, rfl, by omega, by first | rfl | go_num, hv.out, ⟨HBl.out.os, HBl.out.tape, HBl.out.output, HBl.out.size, HBl.out.block⟩⟩
        · have t1 : (xf == a) = false := by simpa using hxf
          have hv := hide (show Nf.lookPw a b (L.drop (k + 1)) = z by have := Hz2.out; rwa [if_neg (fun h => hxf h.1)] at this)
          clear hxf
          go_wp2
          go_roundg (N - (k + 1))
          case measure => have := Hg.out; omega
          case rel => exact ⟨k + 1, rfl, by omega, by first | rfl | go_num, hv.out, ⟨HBl.out.os, HBl.out.tape, HBl.out.output, HBl.out.size, HBl.out.block⟩⟩
      · have hv : z = none := by
          have := Hz.out
          rw [List.drop_of_length_le (by rw [HN.out]; omega)] at this
          exact this.symm
        subst hv
        go_wp2
        go_ret2
        exact ⟨rfl, HB.out.trans (HBl.out.mono HB.out.size)⟩
  | true =>
    rw [hg] at HH
    have hr := of_decide_eq_true hg
    have hm : Int.tmod (a - 44032) 28 = (a - 44032) % 28 := Int.tmod_eq_emod_of_nonneg (by omega)
    obtain ⟨t, ht⟩ : ∃ t, (a - 44032) % 28 = t := ⟨_, rfl⟩
    rw [ht] at hm ⊢
    by_cases h3 : t = 0
    · have d3 : (t == 0) = true := by simpa using h3
      by_cases h4 : 4519 < b
      · have d4 : decide (4519 < b) = true := decide_eq_true h4
        by_cases h5 : b < 4547
        · have d5 : decide (b < 4547) = true := decide_eq_true h5
          rw [if_pos ⟨rfl, h3, by omega⟩]
          have e1 : IntKind.i64.wrap (a + b) = a + b := IntWalk.i64_in _ (by omega)
          have e2 : IntKind.i64.wrap (a + b - 4519) = a + b - 4519 := IntWalk.i64_in _ (by omega)
          clear hg hr ht h1 h2 h3 h4 h5
          go_enter Tryz.func116, Tryz.ntmps116
          go_wp2_with fail
          refine cq (HH.out _) ?_
          go_wp2
          go_ret2
          exact ⟨rfl, Below.refl _ _⟩
        · have d5 : decide (b < 4547) = false := decide_eq_false h5
          rw [if_neg (by omega)]
          clear hg hr ht h1 h2 h3 h4 h5
          go_enter Tryz.func116, Tryz.ntmps116
          go_wp2_with fail
          refine cq (HH.out _) ?_
          go_wp2_with fail
          refine (HP.out _).mono ?_
          rintro e w1 ⟨⟨A, c, rfl, ho⟩, hb⟩
          have HR := hide (Reads.of_own ho)
          have HB := hide hb
          have hc := own_capN ho
          clear ho hb
          go_wp2
          go_loopg [7] N (fun gk v7 wr => ∃ (k : Nat), gk = N - k ∧ k ≤ N ∧ v7 = .int .i64 (k : Int) ∧ Nf.lookPw a b (L.drop k) = z ∧ Below w1.heap.size w1 wr)
          case atStart => exact ⟨0, rfl, by omega, rfl, HZ.out, Below.refl _ _⟩
          case round =>
            obtain ⟨k, hgk, hk, rfl, hz, hbl⟩ := hrel
            have Hg := hide hgk
            have Hz := hide hz
            have HBl := hide hbl
            clear hgk hz hbl
            by_cases hlt : k < N
            · obtain ⟨x, hx⟩ : ∃ x, L[k]? = some x := ⟨_, List.getElem?_eq_getElem (by rw [HN.out]; exact hlt)⟩
              obtain ⟨p0, p1, p2⟩ := prVs_at L k x hx
              obtain ⟨gb, off, rfl, hgb, hcell⟩ := HR.out.2 (by omega)
              have y0 := (HBl.out.cell hgb).trans (hcell _ _ p0)
              have y1 := (HBl.out.cell hgb).trans (hcell _ _ p1)
              have y2 := (HBl.out.cell hgb).trans (hcell _ _ p2)
              have hat := Nf.lookPw_at hx a b
              rw [← Nat.add_assoc] at y1 y2
              have Hz2 := hide (hat.symm.trans Hz.out)
              have hkk : (0 : Int) ≤ k ∧ (k : Int) < N := by omega
              clear hat hx p0 p1 p2 hcell hgb
              obtain ⟨xw, xf, xs⟩ := x
              dsimp only at y0 y1 y2
              by_cases hxf : xf = a
              · have t1 : (xf == a) = true := by simpa using hxf
                by_cases hxs : xs = b
                · have t2 : (xs == b) = true := by simpa using hxs
                  by_cases hb0 : b = 0
                  · have t3 : (b != 0) = false := by simpa using hb0
                    have hv := hide (show Nf.lookPw a b (L.drop (k + 1)) = z by have := Hz2.out; rwa [if_neg (fun h => h.2.2 hb0)] at this)
                    clear hxf hxs hb0
                    go_wp2
                    go_roundg (N - (k + 1))
                    case measure => have := Hg.out; omega
                    case rel => exact ⟨k + 1, rfl, by omega, by first | rfl | go_num, hv.out, ⟨HBl.out.os, HBl.out.tape, HBl.out.output, HBl.out.size, HBl.out.block⟩⟩
                  · have t3 : (b != 0) = true := by simpa using hb0
                    have hv : some xw = z := by have := Hz2.out; rwa [if_pos ⟨hxf, hxs, hb0⟩] at this
                    subst hv
                    clear hxf hxs hb0
                    go_wp2
                    go_ret2
                    exact ⟨rfl, (HB.out.trans (HBl.out.mono HB.out.size)).os, (HB.out.trans (HBl.out.mono HB.out.size)).tape, (HB.out.trans (HBl.out.mono HB.out.size)).output, (HB.out.trans (HBl.out.mono HB.out.size)).size, (HB.out.trans (HBl.out.mono HB.out.size)).block⟩
                · have t2 : (xs == b) = false := by simpa using hxs
                  have hv := hide (show Nf.lookPw a b (L.drop (k + 1)) = z by have := Hz2.out; rwa [if_neg (fun h => hxs h.2.1)] at this)
                  clear hxf hxs
                  go_wp2
                  go_roundg (N - (k + 1))
                  case measure => have := Hg.out; omega
                  case rel => exact ⟨k + 1, rfl, by omega, by first | rfl | go_num, hv.out, ⟨HBl.out.os, HBl.out.tape, HBl.out.output, HBl.out.size, HBl.out.block⟩⟩
              · have t1 : (xf == a) = false := by simpa using hxf
                have hv := hide (show Nf.lookPw a b (L.drop (k + 1)) = z by have := Hz2.out; rwa [if_neg (fun h => hxf h.1)] at this)
                clear hxf
                go_wp2
                go_roundg (N - (k + 1))
                case measure => have := Hg.out; omega
                case rel => exact ⟨k + 1, rfl, by omega, by first | rfl | go_num, hv.out, ⟨HBl.out.os, HBl.out.tape, HBl.out.output, HBl.out.size, HBl.out.block⟩⟩
            · have hv : z = none := by
                have := Hz.out
                rw [List.drop_of_length_le (by rw [HN.out]; omega)] at this
                exact this.symm
              subst hv
              go_wp2
              go_ret2
              exact ⟨rfl, HB.out.trans (HBl.out.mono HB.out.size)⟩
      · have d4 : decide (4519 < b) = false := decide_eq_false h4
        rw [if_neg (by omega)]
        clear hg hr ht h1 h2 h3 h4
        go_enter Tryz.func116, Tryz.ntmps116
        go_wp2_with fail
        refine cq (HH.out _) ?_
        go_wp2_with fail
        refine (HP.out _).mono ?_
        rintro e w1 ⟨⟨A, c, rfl, ho⟩, hb⟩
        have HR := hide (Reads.of_own ho)
        have HB := hide hb
        have hc := own_capN ho
        clear ho hb
        go_wp2
        go_loopg [7] N (fun gk v7 wr => ∃ (k : Nat), gk = N - k ∧ k ≤ N ∧ v7 = .int .i64 (k : Int) ∧ Nf.lookPw a b (L.drop k) = z ∧ Below w1.heap.size w1 wr)
        case atStart => exact ⟨0, rfl, by omega, rfl, HZ.out, Below.refl _ _⟩
        case round =>
          obtain ⟨k, hgk, hk, rfl, hz, hbl⟩ := hrel
          have Hg := hide hgk
          have Hz := hide hz
          have HBl := hide hbl
          clear hgk hz hbl
          by_cases hlt : k < N
          · obtain ⟨x, hx⟩ : ∃ x, L[k]? = some x := ⟨_, List.getElem?_eq_getElem (by rw [HN.out]; exact hlt)⟩
            obtain ⟨p0, p1, p2⟩ := prVs_at L k x hx
            obtain ⟨gb, off, rfl, hgb, hcell⟩ := HR.out.2 (by omega)
            have y0 := (HBl.out.cell hgb).trans (hcell _ _ p0)
            have y1 := (HBl.out.cell hgb).trans (hcell _ _ p1)
            have y2 := (HBl.out.cell hgb).trans (hcell _ _ p2)
            have hat := Nf.lookPw_at hx a b
            rw [← Nat.add_assoc] at y1 y2
            have Hz2 := hide (hat.symm.trans Hz.out)
            have hkk : (0 : Int) ≤ k ∧ (k : Int) < N := by omega
            clear hat hx p0 p1 p2 hcell hgb
            obtain ⟨xw, xf, xs⟩ := x
            dsimp only at y0 y1 y2
            by_cases hxf : xf = a
            · have t1 : (xf == a) = true := by simpa using hxf
              by_cases hxs : xs = b
              · have t2 : (xs == b) = true := by simpa using hxs
                by_cases hb0 : b = 0
                · have t3 : (b != 0) = false := by simpa using hb0
                  have hv := hide (show Nf.lookPw a b (L.drop (k + 1)) = z by have := Hz2.out; rwa [if_neg (fun h => h.2.2 hb0)] at this)
                  clear hxf hxs hb0
                  go_wp2
                  go_roundg (N - (k + 1))
                  case measure => have := Hg.out; omega
                  case rel => exact ⟨k + 1, rfl, by omega, by first | rfl | go_num, hv.out, ⟨HBl.out.os, HBl.out.tape, HBl.out.output, HBl.out.size, HBl.out.block⟩⟩
                · have t3 : (b != 0) = true := by simpa using hb0
                  have hv : some xw = z := by have := Hz2.out; rwa [if_pos ⟨hxf, hxs, hb0⟩] at this
                  subst hv
                  clear hxf hxs hb0
                  go_wp2
                  go_ret2
                  exact ⟨rfl, (HB.out.trans (HBl.out.mono HB.out.size)).os, (HB.out.trans (HBl.out.mono HB.out.size)).tape, (HB.out.trans (HBl.out.mono HB.out.size)).output, (HB.out.trans (HBl.out.mono HB.out.size)).size, (HB.out.trans (HBl.out.mono HB.out.size)).block⟩
              · have t2 : (xs == b) = false := by simpa using hxs
                have hv := hide (show Nf.lookPw a b (L.drop (k + 1)) = z by have := Hz2.out; rwa [if_neg (fun h => hxs h.2.1)] at this)
                clear hxf hxs
                go_wp2
                go_roundg (N - (k + 1))
                case measure => have := Hg.out; omega
                case rel => exact ⟨k + 1, rfl, by omega, by first | rfl | go_num, hv.out, ⟨HBl.out.os, HBl.out.tape, HBl.out.output, HBl.out.size, HBl.out.block⟩⟩
            · have t1 : (xf == a) = false := by simpa using hxf
              have hv := hide (show Nf.lookPw a b (L.drop (k + 1)) = z by have := Hz2.out; rwa [if_neg (fun h => hxf h.1)] at this)
              clear hxf
              go_wp2
              go_roundg (N - (k + 1))
              case measure => have := Hg.out; omega
              case rel => exact ⟨k + 1, rfl, by omega, by first | rfl | go_num, hv.out, ⟨HBl.out.os, HBl.out.tape, HBl.out.output, HBl.out.size, HBl.out.block⟩⟩
          · have hv : z = none := by
              have := Hz.out
              rw [List.drop_of_length_le (by rw [HN.out]; omega)] at this
              exact this.symm
            subst hv
            go_wp2
            go_ret2
            exact ⟨rfl, HB.out.trans (HBl.out.mono HB.out.size)⟩
    · have d3 : (t == 0) = false := by simpa using h3
      rw [if_neg (fun h => h3 h.2.1)]
      clear hg hr ht h1 h2 h3
      go_enter Tryz.func116, Tryz.ntmps116
      go_wp2_with fail
      refine cq (HH.out _) ?_
      go_wp2_with fail
      refine (HP.out _).mono ?_
      rintro e w1 ⟨⟨A, c, rfl, ho⟩, hb⟩
      have HR := hide (Reads.of_own ho)
      have HB := hide hb
      have hc := own_capN ho
      clear ho hb
      go_wp2
      go_loopg [7] N (fun gk v7 wr => ∃ (k : Nat), gk = N - k ∧ k ≤ N ∧ v7 = .int .i64 (k : Int) ∧ Nf.lookPw a b (L.drop k) = z ∧ Below w1.heap.size w1 wr)
      case atStart => exact ⟨0, rfl, by omega, rfl, HZ.out, Below.refl _ _⟩
      case round =>
        obtain ⟨k, hgk, hk, rfl, hz, hbl⟩ := hrel
        have Hg := hide hgk
        have Hz := hide hz
        have HBl := hide hbl
        clear hgk hz hbl
        by_cases hlt : k < N
        · obtain ⟨x, hx⟩ : ∃ x, L[k]? = some x := ⟨_, List.getElem?_eq_getElem (by rw [HN.out]; exact hlt)⟩
          obtain ⟨p0, p1, p2⟩ := prVs_at L k x hx
          obtain ⟨gb, off, rfl, hgb, hcell⟩ := HR.out.2 (by omega)
          have y0 := (HBl.out.cell hgb).trans (hcell _ _ p0)
          have y1 := (HBl.out.cell hgb).trans (hcell _ _ p1)
          have y2 := (HBl.out.cell hgb).trans (hcell _ _ p2)
          have hat := Nf.lookPw_at hx a b
          rw [← Nat.add_assoc] at y1 y2
          have Hz2 := hide (hat.symm.trans Hz.out)
          have hkk : (0 : Int) ≤ k ∧ (k : Int) < N := by omega
          clear hat hx p0 p1 p2 hcell hgb
          obtain ⟨xw, xf, xs⟩ := x
          dsimp only at y0 y1 y2
          by_cases hxf : xf = a
          · have t1 : (xf == a) = true := by simpa using hxf
            by_cases hxs : xs = b
            · have t2 : (xs == b) = true := by simpa using hxs
              by_cases hb0 : b = 0
              · have t3 : (b != 0) = false := by simpa using hb0
                have hv := hide (show Nf.lookPw a b (L.drop (k + 1)) = z by have := Hz2.out; rwa [if_neg (fun h => h.2.2 hb0)] at this)
                clear hxf hxs hb0
                go_wp2
                go_roundg (N - (k + 1))
                case measure => have := Hg.out; omega
                case rel => exact ⟨k + 1, rfl, by omega, by first | rfl | go_num, hv.out, ⟨HBl.out.os, HBl.out.tape, HBl.out.output, HBl.out.size, HBl.out.block⟩⟩
              · have t3 : (b != 0) = true := by simpa using hb0
                have hv : some xw = z := by have := Hz2.out; rwa [if_pos ⟨hxf, hxs, hb0⟩] at this
                subst hv
                clear hxf hxs hb0
                go_wp2
                go_ret2
                exact ⟨rfl, (HB.out.trans (HBl.out.mono HB.out.size)).os, (HB.out.trans (HBl.out.mono HB.out.size)).tape, (HB.out.trans (HBl.out.mono HB.out.size)).output, (HB.out.trans (HBl.out.mono HB.out.size)).size, (HB.out.trans (HBl.out.mono HB.out.size)).block⟩
            · have t2 : (xs == b) = false := by simpa using hxs
              have hv := hide (show Nf.lookPw a b (L.drop (k + 1)) = z by have := Hz2.out; rwa [if_neg (fun h => hxs h.2.1)] at this)
              clear hxf hxs
              go_wp2
              go_roundg (N - (k + 1))
              case measure => have := Hg.out; omega
              case rel => exact ⟨k + 1, rfl, by omega, by first | rfl | go_num, hv.out, ⟨HBl.out.os, HBl.out.tape, HBl.out.output, HBl.out.size, HBl.out.block⟩⟩
          · have t1 : (xf == a) = false := by simpa using hxf
            have hv := hide (show Nf.lookPw a b (L.drop (k + 1)) = z by have := Hz2.out; rwa [if_neg (fun h => hxf h.1)] at this)
            clear hxf
            go_wp2
            go_roundg (N - (k + 1))
            case measure => have := Hg.out; omega
            case rel => exact ⟨k + 1, rfl, by omega, by first | rfl | go_num, hv.out, ⟨HBl.out.os, HBl.out.tape, HBl.out.output, HBl.out.size, HBl.out.block⟩⟩
        · have hv : z = none := by
            have := Hz.out
            rw [List.drop_of_length_le (by rw [HN.out]; omega)] at this
            exact this.symm
          subst hv
          go_wp2
          go_ret2
          exact ⟨rfl, HB.out.trans (HBl.out.mono HB.out.size)⟩
end Go.Proofs.YtlcfakmbcfdgbaaGreat
