/- Stamps: stamp.Text. · write.*: field, head. · write.*: entry. (Printed by genWrD.py.) · Rows of entries; how great a feed is. -/
import Derived.Test.YtlcfakmbcfdgbaaGreatWt14
import Derived.Test.YtlcfakmbcfdgbaaGreatWt15
import Derived.Lib.SlBytesConst
set_option linter.unusedSimpArgs false
set_option linter.unusedVariables false
namespace Go.Proofs.YtlcfakmbcfdgbaaGreat
open Go.RowKit Go.WideShapes

namespace Cv
theorem count_le (q : Int) (h : 0 ≤ q) : count (1 + q) 1 1 ≤ 366 * q - 719162 := by
  unfold count days
  rw [if_pos (by omega)]
  omega
theorem yearL_ok (d : Int) : ∀ (k : Nat) (y : Int), 1 ≤ y → y ≤ 9999 → count y 1 1 ≤ d → (1 ≤ yearL d k y ∧ yearL d k y ≤ 9999) ∧ count (yearL d k y) 1 1 ≤ d
  | 0, y, h1, h2, h3 => ⟨⟨h1, h2⟩, h3⟩
  | k + 1, y, h1, h2, h3 => by
    rw [yearL_succ]
    split
    · rename_i h
      exact yearL_ok d k (y + 1) (by omega) (by omega) h.2
    · exact ⟨⟨h1, h2⟩, h3⟩
theorem last_le (y m : Int) : 28 ≤ last y m ∧ last y m ≤ 31 := by
  unfold last
  repeat' split
  all_goals omega
theorem monthL_ok (y : Int) : ∀ (k : Nat) (m r : Int) (x : Int × Int), 0 ≤ r → monthL y k m r = some x → (m ≤ x.1 ∧ x.1 < m + k) ∧ 1 ≤ x.2 ∧ x.2 ≤ 31
  | 0, m, r, x, _, h => by cases h
  | k + 1, m, r, x, h0, h => by
    rw [monthL_succ] at h
    have hl := last_le y m
    split at h
    · cases h
      dsimp only
      omega
    · have := monthL_ok y k (m + 1) (r - last y m) x (by omega) h
      omega
theorem date_ok {d y m dd : Int} (h : date d = some (y, m, dd)) : (1 ≤ y ∧ y ≤ 9999) ∧ (1 ≤ m ∧ m ≤ 12) ∧ 1 ≤ dd ∧ dd ≤ 31 := by
  unfold date at h
  split at h
  · cases h
  · rename_i hn
    obtain ⟨x, hx, e⟩ := Option.map_eq_some_iff.1 h
    cases e
    have hq : 0 ≤ (d + 719162) / 366 ∧ (d + 719162) / 366 ≤ 9978 := by omega
    have hc := count_le ((d + 719162) / 366) hq.1
    have hy := yearL_ok d 10000 (1 + (d + 719162) / 366) (by omega) (by omega) (by omega)
    have hm := monthL_ok _ 12 1 _ x (by have := hy.2; unfold year; omega) hx
    unfold year
    exact ⟨hy.1, by omega, hm.2⟩
def base0 : List UInt8 := [48, 48, 48, 48, 45, 48, 48, 45, 48, 48, 84, 48, 48, 58, 48, 48, 58, 48, 48, 90]
/-- A second as it is written. -/
def stamp (s : Int) : Option (List UInt8) := (civil s).map fun x =>
  digL 17 2 (rest s % 60) (digL 14 2 (rest s / 60 % 60) (digL 11 2 (rest s / 3600) (digL 8 2 x.2.2 (digL 5 2 x.2.1 (digL 0 4 x.1 base0)))))
end Cv
def stampV (o : Option (List UInt8)) : Value := match o with
  | some l => .tuple #[.string (bstr l), .bool true]
  | none => .tuple #[.string ⟨#[]⟩, .bool false]
set_option maxHeartbeats 8000000 in
set_option maxRecDepth 100000 in
theorem stamp_any (s : Int) (w : World) (hs : (Lit.int .i64 s).wf = true) : Calls Tryz.prog 35 #[.int .i64 s] w fun e w' => e = .returned (stampV (Cv.stamp s)) ∧ Below w.heap.size w w' := by
  have HC := hide (civil_any s w hs)
  cases hc : Cv.civil s with
  | none =>
    have HV := hide (show Cv.stamp s = none by unfold Cv.stamp; rw [hc]; rfl)
    unfold CivilR at HC
    rw [hc] at HC
    dsimp only at HC
    clear hc
    go_enter Tryz.func35, Tryz.ntmps35
    go_wp2_with fail
    refine HC.out.mono ?_
    rintro e w1 ⟨hb1, v1, v2, v3, v4, v5, v6, rfl⟩
    have HB1 := hide hb1
    clear hb1
    dsimp only
    go_wp2
    go_ret2
    rw [HV.out]
    exact ⟨rfl, HB1.out.alloc HB1.out.size _⟩
  | some x =>
    obtain ⟨y, m, dd⟩ := x
    have hbs : (1 ≤ y ∧ y ≤ 9999) ∧ (1 ≤ m ∧ m ≤ 12) ∧ 1 ≤ dd ∧ dd ≤ 31 := by
      unfold Cv.civil at hc
      split at hc
      · cases hc
      · exact Cv.date_ok hc
    obtain ⟨⟨hy1, hy2⟩, ⟨hm1, hm2⟩, hd1, hd2⟩ := hbs
    have hr : 0 ≤ Cv.rest s ∧ Cv.rest s < 86400 := by unfold Cv.rest; omega
    obtain ⟨e1, he1⟩ : ∃ a, Cv.rest s / 3600 = a := ⟨_, rfl⟩
    obtain ⟨e2, he2⟩ : ∃ a, Cv.rest s / 60 % 60 = a := ⟨_, rfl⟩
    obtain ⟨e3, he3⟩ : ∃ a, Cv.rest s % 60 = a := ⟨_, rfl⟩
    have b1 : 0 ≤ e1 ∧ e1 < 24 := by omega
    have b2 : 0 ≤ e2 ∧ e2 < 60 := by omega
    have b3 : 0 ≤ e3 ∧ e3 < 60 := by omega
    have HV := hide (show Cv.stamp s = some (Cv.digL 17 2 e3 (Cv.digL 14 2 e2 (Cv.digL 11 2 e1 (Cv.digL 8 2 dd (Cv.digL 5 2 m (Cv.digL 0 4 y Cv.base0)))))) by
      unfold Cv.stamp
      rw [hc, Option.map_some]
      dsimp only
      rw [he1, he2, he3])
    unfold CivilR at HC
    rw [hc] at HC
    dsimp only at HC
    rw [he1, he2, he3] at HC
    have hlen : Cv.base0.length = 20 := rfl
    clear hc he1 he2 he3
    have HDIG := hide (fun (l : List UInt8) (g Pb f k : Nat) (n : Int) (w : World) (h : BRow w g l) (hl : l.length = 20) (hP : Blk w Pb 40 #[.slice (some ⟨g, 0, none⟩) 20 20]) (hgP : g ≠ Pb) (hk : f + k ≤ 20) (hn : 0 ≤ n ∧ n ≤ 1000000000) => digits_any l g Pb f k 20 n w h hl hP hgP hk (by omega) hn)
    go_enter Tryz.func35, Tryz.ntmps35
    go_wp2_with fail
    refine HC.out.mono ?_
    rintro e w1 ⟨hb1, rfl⟩
    have HB1 := hide hb1
    clear hb1
    dsimp only
    obtain ⟨wa, hwa⟩ : ∃ wa, w1.alloc (.cells #[.int .i64 y, .int .i64 m, .int .i64 dd, .int .i64 e1, .int .i64 e2, .int .i64 e3] 74) = wa := ⟨_, rfl⟩
    obtain ⟨wb, hwb⟩ : ∃ wb, wa.alloc (.cells #[.int .u8 48, .int .u8 48, .int .u8 48, .int .u8 48, .int .u8 45, .int .u8 48, .int .u8 48, .int .u8 45, .int .u8 48, .int .u8 48, .int .u8 84, .int .u8 48, .int .u8 48, .int .u8 58, .int .u8 48, .int .u8 48, .int .u8 58, .int .u8 48, .int .u8 48, .int .u8 90] 5 (20, 21)) = wb := ⟨_, rfl⟩
    obtain ⟨wc, hwc⟩ : ∃ wc, wb.alloc (.cells #[.slice (some ⟨wa.heap.size, 0, none⟩) 20 20] 40) = wc := ⟨_, rfl⟩
    have sa : wa.heap.size = w1.heap.size + 1 := by rw [← hwa]; simp
    have sb : wb.heap.size = w1.heap.size + 2 := by rw [← hwb]; simp [sa]
    have sc : wc.heap.size = w1.heap.size + 3 := by rw [← hwc]; simp [sb]
    have ka : Blk wc w1.heap.size 74 #[.int .i64 y, .int .i64 m, .int .i64 dd, .int .i64 e1, .int .i64 e2, .int .i64 e3] := by
      rw [← hwc, ← hwb, ← hwa]
      exact ((Blk.new w1 _ _).go (below_alloc _ _)).go (below_alloc _ _)
    have kb : BRow wc (w1.heap.size + 1) Cv.base0 := by
      rw [← sa, ← hwc, ← hwb]
      exact (Below.heap_alloc _ _ _ (by simp)).trans (heap_alloc_new wa _)
    have kc : Blk wc (w1.heap.size + 2) 40 #[.slice (some ⟨w1.heap.size + 1, 0, none⟩) 20 20] := by
      rw [← sb, ← hwc, ← sa]
      exact Blk.new wb _ _
    have kn : But (w1.heap.size + 1) w wc := by
      rw [← hwc, ← hwb, ← hwa]
      exact ((((But.of_below HB1.out).alloc _).alloc _).alloc _)
    have HWa := hide hwa
    have HWb := hide hwb
    have KA := hide ka
    have KB := hide kb
    have KC := hide kc
    have KN := hide kn
    have kcv : (convert 40 40 (.slice (some ⟨w1.heap.size + 1, 0, none⟩) 20 20)).run Tryz.prog (wa.alloc (.cells #[.int .u8 48, .int .u8 48, .int .u8 48, .int .u8 48, .int .u8 45, .int .u8 48, .int .u8 48, .int .u8 45, .int .u8 48, .int .u8 48, .int .u8 84, .int .u8 48, .int .u8 48, .int .u8 58, .int .u8 48, .int .u8 48, .int .u8 58, .int .u8 48, .int .u8 48, .int .u8 90] 5)) = .ok (.slice (some ⟨w1.heap.size + 1, 0, none⟩) 20 20) wb := by
      rw [← sa, ← hwb]
      exact Lib.run_convert_bytes_const (P := Tryz.prog) wa 40 5 _ 20 20 Tryz.underlying40 Tryz.underlying5
    rw [← HWa.out] at kcv
    have hwc2 : wb.alloc (.cells #[.slice (some ⟨w1.heap.size + 1, 0, none⟩) 20 20] 40) = wc := by rw [← hwc, sa]
    clear hwb hwc ka kb kc kn hwa
    have gne : w1.heap.size + 1 ≠ w1.heap.size + 2 := by omega
    have gna : w1.heap.size ≠ w1.heap.size + 1 := by omega
    have k0 := KA.out.cell 0
    have D0 := hide (show Calls Tryz.prog 46 #[.int .i64 y, .int .i64 0, .int .i64 4, .pointer (some ⟨w1.heap.size + 2, 0, none⟩)] wc fun e w' => e = .returned (.tuple #[]) ∧ BRow w' (w1.heap.size + 1) (Cv.digL 0 4 y Cv.base0) ∧ But (w1.heap.size + 1) wc w' from HDIG.out Cv.base0 (w1.heap.size + 1) (w1.heap.size + 2) 0 4 y wc KB.out hlen KC.out gne (by omega) (by omega))
    go_wp2_with fail
    refine D0.out.mono ?_
    rintro e x0 ⟨rfl, hr0, hn0⟩
    have KA0 := hide (hn0.blk KA.out gna)
    have KC0 := hide (hn0.blk KC.out (Ne.symm gne))
    have KB0 := hide hr0
    have KN0 := hide (KN.out.trans hn0)
    have l0 : ((Cv.digL 0 4 y Cv.base0)).length = 20 := by rw [Cv.digL_len]; exact hlen
    have k1 := KA0.out.cell 1
    clear hr0 hn0 k0 D0
    dsimp only
    have D1 := hide (show Calls Tryz.prog 46 #[.int .i64 m, .int .i64 5, .int .i64 7, .pointer (some ⟨w1.heap.size + 2, 0, none⟩)] x0 fun e w' => e = .returned (.tuple #[]) ∧ BRow w' (w1.heap.size + 1) (Cv.digL 5 2 m (Cv.digL 0 4 y Cv.base0)) ∧ But (w1.heap.size + 1) x0 w' from HDIG.out (Cv.digL 0 4 y Cv.base0) (w1.heap.size + 1) (w1.heap.size + 2) 5 2 m x0 KB0.out l0 KC0.out gne (by omega) (by omega))
    go_wp2_with fail
    refine D1.out.mono ?_
    rintro e x1 ⟨rfl, hr1, hn1⟩
    have KA1 := hide (hn1.blk KA0.out gna)
    have KC1 := hide (hn1.blk KC0.out (Ne.symm gne))
    have KB1 := hide hr1
    have KN1 := hide (KN0.out.trans hn1)
    have l1 : ((Cv.digL 5 2 m (Cv.digL 0 4 y Cv.base0))).length = 20 := by rw [Cv.digL_len]; exact l0
    have k2 := KA1.out.cell 2
    clear hr1 hn1 k1 D1
    dsimp only
    have D2 := hide (show Calls Tryz.prog 46 #[.int .i64 dd, .int .i64 8, .int .i64 10, .pointer (some ⟨w1.heap.size + 2, 0, none⟩)] x1 fun e w' => e = .returned (.tuple #[]) ∧ BRow w' (w1.heap.size + 1) (Cv.digL 8 2 dd (Cv.digL 5 2 m (Cv.digL 0 4 y Cv.base0))) ∧ But (w1.heap.size + 1) x1 w' from HDIG.out (Cv.digL 5 2 m (Cv.digL 0 4 y Cv.base0)) (w1.heap.size + 1) (w1.heap.size + 2) 8 2 dd x1 KB1.out l1 KC1.out gne (by omega) (by omega))
    go_wp2_with fail
    refine D2.out.mono ?_
    rintro e x2 ⟨rfl, hr2, hn2⟩
    have KA2 := hide (hn2.blk KA1.out gna)
    have KC2 := hide (hn2.blk KC1.out (Ne.symm gne))
    have KB2 := hide hr2
    have KN2 := hide (KN1.out.trans hn2)
    have l2 : ((Cv.digL 8 2 dd (Cv.digL 5 2 m (Cv.digL 0 4 y Cv.base0)))).length = 20 := by rw [Cv.digL_len]; exact l1
    have k3 := KA2.out.cell 3
    clear hr2 hn2 k2 D2
    dsimp only
    have D3 := hide (show Calls Tryz.prog 46 #[.int .i64 e1, .int .i64 11, .int .i64 13, .pointer (some ⟨w1.heap.size + 2, 0, none⟩)] x2 fun e w' => e = .returned (.tuple #[]) ∧ BRow w' (w1.heap.size + 1) (Cv.digL 11 2 e1 (Cv.digL 8 2 dd (Cv.digL 5 2 m (Cv.digL 0 4 y Cv.base0)))) ∧ But (w1.heap.size + 1) x2 w' from HDIG.out (Cv.digL 8 2 dd (Cv.digL 5 2 m (Cv.digL 0 4 y Cv.base0))) (w1.heap.size + 1) (w1.heap.size + 2) 11 2 e1 x2 KB2.out l2 KC2.out gne (by omega) (by omega))
    go_wp2_with fail
    refine D3.out.mono ?_
    rintro e x3 ⟨rfl, hr3, hn3⟩
    have KA3 := hide (hn3.blk KA2.out gna)
    have KC3 := hide (hn3.blk KC2.out (Ne.symm gne))
    have KB3 := hide hr3
    have KN3 := hide (KN2.out.trans hn3)
    have l3 : ((Cv.digL 11 2 e1 (Cv.digL 8 2 dd (Cv.digL 5 2 m (Cv.digL 0 4 y Cv.base0))))).length = 20 := by rw [Cv.digL_len]; exact l2
    have k4 := KA3.out.cell 4
    clear hr3 hn3 k3 D3
    dsimp only
    have D4 := hide (show Calls Tryz.prog 46 #[.int .i64 e2, .int .i64 14, .int .i64 16, .pointer (some ⟨w1.heap.size + 2, 0, none⟩)] x3 fun e w' => e = .returned (.tuple #[]) ∧ BRow w' (w1.heap.size + 1) (Cv.digL 14 2 e2 (Cv.digL 11 2 e1 (Cv.digL 8 2 dd (Cv.digL 5 2 m (Cv.digL 0 4 y Cv.base0))))) ∧ But (w1.heap.size + 1) x3 w' from HDIG.out (Cv.digL 11 2 e1 (Cv.digL 8 2 dd (Cv.digL 5 2 m (Cv.digL 0 4 y Cv.base0)))) (w1.heap.size + 1) (w1.heap.size + 2) 14 2 e2 x3 KB3.out l3 KC3.out gne (by omega) (by omega))
    go_wp2_with fail
    refine D4.out.mono ?_
    rintro e x4 ⟨rfl, hr4, hn4⟩
    have KA4 := hide (hn4.blk KA3.out gna)
    have KC4 := hide (hn4.blk KC3.out (Ne.symm gne))
    have KB4 := hide hr4
    have KN4 := hide (KN3.out.trans hn4)
    have l4 : ((Cv.digL 14 2 e2 (Cv.digL 11 2 e1 (Cv.digL 8 2 dd (Cv.digL 5 2 m (Cv.digL 0 4 y Cv.base0)))))).length = 20 := by rw [Cv.digL_len]; exact l3
    have k5 := KA4.out.cell 5
    clear hr4 hn4 k4 D4
    dsimp only
    have D5 := hide (show Calls Tryz.prog 46 #[.int .i64 e3, .int .i64 17, .int .i64 19, .pointer (some ⟨w1.heap.size + 2, 0, none⟩)] x4 fun e w' => e = .returned (.tuple #[]) ∧ BRow w' (w1.heap.size + 1) (Cv.digL 17 2 e3 (Cv.digL 14 2 e2 (Cv.digL 11 2 e1 (Cv.digL 8 2 dd (Cv.digL 5 2 m (Cv.digL 0 4 y Cv.base0)))))) ∧ But (w1.heap.size + 1) x4 w' from HDIG.out (Cv.digL 14 2 e2 (Cv.digL 11 2 e1 (Cv.digL 8 2 dd (Cv.digL 5 2 m (Cv.digL 0 4 y Cv.base0))))) (w1.heap.size + 1) (w1.heap.size + 2) 17 2 e3 x4 KB4.out l4 KC4.out gne (by omega) (by omega))
    go_wp2_with fail
    refine D5.out.mono ?_
    rintro e x5 ⟨rfl, hr5, hn5⟩
    have KA5 := hide (hn5.blk KA4.out gna)
    have KC5 := hide (hn5.blk KC4.out (Ne.symm gne))
    have KB5 := hide hr5
    have KN5 := hide (KN4.out.trans hn5)
    have l5 : ((Cv.digL 17 2 e3 (Cv.digL 14 2 e2 (Cv.digL 11 2 e1 (Cv.digL 8 2 dd (Cv.digL 5 2 m (Cv.digL 0 4 y Cv.base0))))))).length = 20 := by rw [Cv.digL_len]; exact l4
    clear hr5 hn5 k5 D5
    dsimp only
    have kP := KC5.out.cell 0
    have kback : (convert 40 9 (.slice (some ⟨w1.heap.size + 1, 0, none⟩) 20 20)).run Tryz.prog x5 = .ok (.string (bstr (Cv.digL 17 2 e3 (Cv.digL 14 2 e2 (Cv.digL 11 2 e1 (Cv.digL 8 2 dd (Cv.digL 5 2 m (Cv.digL 0 4 y Cv.base0)))))))) x5 := by
      have := run_convert_bytes_back (P := Tryz.prog) x5 40 9 5 ⟨w1.heap.size + 1, 0, none⟩ 20 (Cv.digL 17 2 e3 (Cv.digL 14 2 e2 (Cv.digL 11 2 e1 (Cv.digL 8 2 dd (Cv.digL 5 2 m (Cv.digL 0 4 y Cv.base0)))))) Tryz.underlying40 Tryz.underlying5 Tryz.underlying9 (fun j hj => by
        have hc := KB5.out.cell j
        rw [List.getElem?_toArray, byteVs, List.getElem?_map, List.getElem?_eq_getElem hj] at hc
        rw [show (Addr.mk (w1.heap.size + 1) 0 none).add j = ⟨w1.heap.size + 1, j, none⟩ by unfold Addr.add; split <;> simp_all]
        exact hc)
      rw [l5] at this
      exact this
    go_wp2
    go_ret2
    rw [HV.out]
    exact ⟨rfl, KN5.out.below (by have := HB1.out.size; omega) (Nat.le_refl _)⟩
end Go.Proofs.YtlcfakmbcfdgbaaGreat
namespace Go.Proofs.YtlcfakmbcfdgbaaGreat
open Go.RowKit Go.WideShapes

namespace Wr
def line (ls : List (List UInt8)) : List UInt8 := ls.flatten ++ [10]
def field (nm t : List UInt8) : List UInt8 := line [[60], nm, [62], Tx.escape false t, [60, 47], nm, [62]]
def linkOpen : List UInt8 := [60, 108, 105, 110, 107, 32, 104, 114, 101, 102, 61, 34]
def link (t : List UInt8) : List UInt8 := if t = [] then [] else line [linkOpen, Tx.escape true t, [34, 47, 62]]
def date (k : Bool) (s : Int) : List UInt8 := match Cv.stamp s with
  | some x => if k = true then field [117, 112, 100, 97, 116, 101, 100] x else []
  | none => []
def head (id title lk : List UInt8) (k : Bool) (s : Int) : List UInt8 := field [105, 100] id ++ (field [116, 105, 116, 108, 101] title ++ (link lk ++ date k s))
def authorOpen : List UInt8 := [60, 97, 117, 116, 104, 111, 114, 62, 60, 110, 97, 109, 101, 62]
def authorEnd : List UInt8 := [60, 47, 110, 97, 109, 101, 62, 60, 47, 97, 117, 116, 104, 111, 114, 62]
def author (t : List UInt8) : List UInt8 := if t = [] then [] else line [authorOpen, Tx.escape false t, authorEnd]
def content (t : List UInt8) : List UInt8 := if t = [] then [] else field [99, 111, 110, 116, 101, 110, 116] t
theorem line_len (ls : List (List UInt8)) : (line ls).length = ls.flatten.length + 1 := by unfold line; rw [List.length_append]; rfl
theorem field_len (nm t : List UInt8) : (field nm t).length ≤ 2 * nm.length + 6 * t.length + 10 := by
  have := Tx.escape_len false t
  unfold field
  rw [line_len]
  simp only [List.flatten_cons, List.flatten_nil, List.length_append, List.length_cons, List.length_nil]
  omega
theorem link_len (t : List UInt8) : (link t).length ≤ 6 * t.length + 20 := by
  have := Tx.escape_len true t
  unfold link linkOpen
  split
  · exact Nat.zero_le _
  rw [line_len]
  simp only [List.flatten_cons, List.flatten_nil, List.length_append, List.length_cons, List.length_nil]
  omega
theorem stamp_len {s : Int} {x : List UInt8} (h : Cv.stamp s = some x) : x.length = 20 := by
  unfold Cv.stamp at h
  obtain ⟨y, _, rfl⟩ := Option.map_eq_some_iff.1 h
  simp only [Cv.digL_len]
  rfl
theorem date_len (k : Bool) (s : Int) : (date k s).length ≤ 200 := by
  unfold date
  split
  · rename_i x hx
    have := stamp_len hx
    split
    · have h := field_len [117, 112, 100, 97, 116, 101, 100] x
      simp only [List.length_cons, List.length_nil] at h
      omega
    · exact Nat.zero_le _
  · exact Nat.zero_le _
theorem head_len (id title lk : List UInt8) (k : Bool) (s : Int) : (head id title lk k s).length ≤ 6 * (id.length + title.length + lk.length) + 300 := by
  have h1 := field_len [105, 100] id
  have h2 := field_len [116, 105, 116, 108, 101] title
  have h3 := link_len lk
  have h4 := date_len k s
  unfold head
  simp only [List.length_append, List.length_cons, List.length_nil] at *
  omega
end Wr
theorem wg_size {W0 W : World} {B b : Nat} {r : Option Nat} {l : List UInt8} (h : Wg W0 B b r l W) : B ≤ W.heap.size := by
  obtain ⟨r', hf, _, _⟩ := h
  have := wf_lt hf
  have := hf.1
  omega
/-- All but block b and rows of bytes is as it was. -/
structure Kp (b : Nat) (w w' : World) : Prop where
  size : w.heap.size ≤ w'.heap.size
  block : ∀ k, k < w.heap.size → k ≠ b → ¬ IsT w k 5 → w'.heap[k]? = w.heap[k]?
theorem Kp.of_below {b : Nat} {w w' : World} (hb : Below w.heap.size w w') : Kp b w w' := ⟨hb.size, fun k hk _ _ => hb.block k hk⟩
theorem Kp.trans {b : Nat} {w w1 w2 : World} (h : Kp b w w1) (h2 : Kp b w1 w2) : Kp b w w2 := ⟨Nat.le_trans h.size h2.size, fun k hk h1 h3 => by
  have e := h.block k hk h1 h3
  refine (h2.block k (Nat.lt_of_lt_of_le hk h.size) h1 (fun ⟨cs, fr, hh⟩ => h3 ⟨cs, fr, by rw [← e]; exact hh⟩)).trans e⟩
theorem Kp.blk {b g t : Nat} {w w1 : World} {cs : Array Value} (h : Kp b w w1) (hg : Blk w g t cs) (hgb : g ≠ b) (ht : t ≠ 5) : Blk w1 g t cs :=
  (h.block g hg.lt hgb (fun ⟨cs', fr, hh⟩ => by
    unfold Blk at hg
    rw [hg] at hh
    injection hh with hh
    injection hh with _ e _
    exact ht e)).trans hg
theorem kp_of {B b : Nat} {l : List UInt8} {r : Option Nat} {w w' : World} (hf : Wf B b l r w) (hz : Fz b r w w') : Kp b w w' := by
  obtain ⟨hB, p, v, hp, hk, ho, rfl⟩ := hf
  refine ⟨hz.size, fun k hk h1 h3 => hz.block k hk h1 (fun e => ?_)⟩
  exact h3 (own_isT ho k e.symm).2
theorem put_g {W0 : World} {B b : Nat} {l : List UInt8} {r : Option Nat} (ls : List (List UInt8)) (g n c : Nat) (w : World) (h : Wg W0 B b r l w) (hg : Blk w g 9 (strVs ls)) (hn : ls.length = n) (hn2 : n ≤ 100) (hl : l.length + (Wr.line ls).length ≤ 140737488355328) :
    Calls Tryz.prog 16 #[.pointer (some ⟨b, 0, none⟩), .slice (some ⟨g, 0, none⟩) n c] w fun e w' => e = .returned (.tuple #[]) ∧ Wg W0 B b r (l ++ Wr.line ls) w' ∧ Kp b w w' := by
  have hs := wg_size h
  obtain ⟨r', hf, hr, hz⟩ := h
  rw [Wr.line_len] at hl
  refine (put_any ls g n c w hf hg hn hn2 (by omega) hs).mono ?_
  rintro e w' ⟨rfl, hg2⟩
  refine ⟨rfl, Wg.step hr hz hg2, ?_⟩
  obtain ⟨r2, _, _, hz2⟩ := hg2
  exact kp_of hf hz2
/-- put, of a row just built. -/
theorem put_n {W0 : World} {B b : Nat} {l : List UInt8} {r : Option Nat} (ls : List (List UInt8)) (n : Nat) (w : World) (h : Wg W0 B b r l w) (hn : ls.length = n) (hn2 : n ≤ 100) (hl : l.length + (Wr.line ls).length ≤ 140737488355328) :
    Calls Tryz.prog 16 #[.pointer (some ⟨b, 0, none⟩), .slice (some ⟨w.heap.size, 0, none⟩) n n] (w.alloc (.cells (strVs ls) 9)) fun e w' => e = .returned (.tuple #[]) ∧ Wg W0 B b r (l ++ Wr.line ls) w' ∧ Kp b w w' := by
  refine (put_g ls _ n n _ (h.go (below_alloc _ _)) (Blk.new w _ _) hn hn2 hl).mono ?_
  rintro e w' ⟨h1, h2, h3⟩
  exact ⟨h1, h2, (Kp.of_below (below_alloc _ _)).trans h3⟩
set_option maxHeartbeats 4000000 in
set_option maxRecDepth 100000 in
theorem field_g {W0 : World} {B b : Nat} {l : List UInt8} {r : Option Nat} (nm t : List UInt8) (w : World) (h : Wg W0 B b r l w) (hl : l.length ≤ 1000000000) (hnm : nm.length ≤ 100) (ht : t.length ≤ 20000) :
    Calls Tryz.prog 33 #[.pointer (some ⟨b, 0, none⟩), .string (bstr nm), .string (bstr t)] w fun e w' => e = .returned (.tuple #[]) ∧ Wg W0 B b r (l ++ Wr.field nm t) w' ∧ Kp b w w' := by
  have HH := hide h
  have HE := hide (escape_any false t w (by omega))
  have hlen := Wr.field_len nm t
  have HP := hide (fun W (hW : Wg W0 B b r l W) => put_n [[60], nm, [62], Tx.escape false t, [60, 47], nm, [62]] 7 W hW rfl (by omega) (by unfold Wr.field at hlen; omega))
  clear h
  go_enter Tryz.func33, Tryz.ntmps33
  go_wp2_with fail
  refine HE.out.mono ?_
  rintro e w1 ⟨rfl, hb1⟩
  have HP1 := hide (HP.out w1 (HH.out.go hb1))
  have HB1 := hide hb1
  clear hb1
  dsimp only
  go_wp2_with fail
  refine HP1.out.mono ?_
  rintro e w2 ⟨rfl, hg2, hk2⟩
  have HG2 := hide hg2
  have HK2 := hide ((Kp.of_below HB1.out).trans hk2)
  clear hg2 hk2
  dsimp only
  go_wp2
  go_end0
  exact ⟨rfl, HG2.out, HK2.out⟩
set_option maxHeartbeats 8000000 in
set_option maxRecDepth 100000 in
theorem head_g {W0 : World} {B b : Nat} {l : List UInt8} {r : Option Nat} (id title lk : List UInt8) (k : Bool) (s : Int) (w : World) (h : Wg W0 B b r l w) (hl : l.length ≤ 900000000) (h1 : id.length ≤ 20000) (h2 : title.length ≤ 20000) (h3 : lk.length ≤ 20000) (hs : (Lit.int .i64 s).wf = true) :
    Calls Tryz.prog 17 #[.pointer (some ⟨b, 0, none⟩), .string (bstr id), .string (bstr title), .string (bstr lk), .agg #[.bool k, .int .i64 s]] w fun e w' => e = .returned (.tuple #[]) ∧ Wg W0 B b r (l ++ Wr.head id title lk k s) w' ∧ Kp b w w' := by
  have l1 := Wr.field_len [105, 100] id
  have l2 := Wr.field_len [116, 105, 116, 108, 101] title
  have l3 := Wr.link_len lk
  simp only [List.length_cons, List.length_nil] at l1 l2
  have HF1 := hide (fun W (hW : Wg W0 B b r l W) => field_g [105, 100] id W hW (by omega) (by decide) h1)
  have HF2 := hide (fun W (hW : Wg W0 B b r (l ++ Wr.field [105, 100] id) W) => field_g [116, 105, 116, 108, 101] title W hW (by rw [List.length_append]; omega) (by decide) h2)
  have HS := hide (fun W => stamp_any s W hs)
  have HES := hide (fun W => escape_any true lk W (by omega))
  have HL := hide (fun (hne : lk ≠ []) W (hW : Wg W0 B b r (l ++ Wr.field [105, 100] id ++ Wr.field [116, 105, 116, 108, 101] title) W) => put_n [Wr.linkOpen, Tx.escape true lk, [34, 47, 62]] 3 W hW rfl (by omega) (by unfold Wr.link at l3; rw [if_neg hne] at l3; simp only [List.length_append]; omega))
  have HLe := hide (fun (hne : lk ≠ []) => show Wr.link lk = Wr.line [Wr.linkOpen, Tx.escape true lk, [34, 47, 62]] by unfold Wr.link; rw [if_neg hne])
  have HLn := hide (fun (hne : lk = []) => show Wr.link lk = [] by unfold Wr.link; rw [if_pos hne])
  have HD := hide (fun x (hx : x.length = 20) W (hW : Wg W0 B b r (l ++ Wr.field [105, 100] id ++ Wr.field [116, 105, 116, 108, 101] title ++ Wr.link lk) W) => field_g [117, 112, 100, 97, 116, 101, 100] x W hW (by simp only [List.length_append]; omega) (by simp only [List.length_cons, List.length_nil]; omega) (by omega))
  have HW := hide (h.go (below_alloc w (.cells #[.bool k, .int .i64 s] 23)))
  have HT := hide (Blk.new w 23 #[.bool k, .int .i64 s])
  have HTb := hide (show w.heap.size ≠ b by
    obtain ⟨r', hf, _, _⟩ := h
    have := wf_lt hf
    omega)
  have HK0 := hide (Kp.of_below (b := b) (below_alloc w (.cells #[.bool k, .int .i64 s] 23)))
  clear h l1 l2 l3
  -- the end, from the stamp on
  have HEnd : ∀ (W : World), Wg W0 B b r (l ++ Wr.field [105, 100] id ++ Wr.field [116, 105, 116, 108, 101] title ++ Wr.link lk) W → True := fun _ _ => trivial
  clear HEnd
  go_enter Tryz.func17, Tryz.ntmps17
  go_wp2_with fail
  refine (HF1.out _ HW.out).mono ?_
  rintro e w1 ⟨rfl, hg1, hk1⟩
  have HG1 := hide hg1
  have HK1 := hide (HK0.out.trans hk1)
  have HT1 := hide (hk1.blk HT.out HTb.out (by decide))
  clear hg1 hk1
  dsimp only
  go_wp2_with fail
  refine (HF2.out _ HG1.out).mono ?_
  rintro e w2 ⟨rfl, hg2, hk2⟩
  have HG2 := hide hg2
  have HK2 := hide (HK1.out.trans hk2)
  have HT2 := hide (hk2.blk HT1.out HTb.out (by decide))
  clear hg2 hk2
  dsimp only
  cases lk with
  | nil =>
    have hemp : (bstr ([] : List UInt8)).toList.isEmpty = true := by rw [ByteArray.toList_eq]; rfl
    have HG3 := hide (show Wg W0 B b r (l ++ Wr.field [105, 100] id ++ Wr.field [116, 105, 116, 108, 101] title ++ Wr.link []) w2 by
      rw [HLn.out rfl, List.append_nil]; exact HG2.out)
    have d1 := HT2.out.cell 1
    have HSx := hide (HS.out w2)
    go_wp2_with fail
    refine HSx.out.mono ?_
    rintro e w4 ⟨rfl, hb4⟩
    have HG4 := hide (HG3.out.go hb4)
    have HK4 := hide (HK2.out.trans (Kp.of_below hb4))
    have HT4 := hide (HT2.out.go hb4)
    have e0 := HT4.out.cell 0
    clear hb4 d1
    cases hst : Cv.stamp s with
    | none =>
      have HF := hide (show Wr.date k s = [] by unfold Wr.date; rw [hst])
      unfold stampV
      clear hst
      dsimp only
      go_wp2
      go_end0
      refine ⟨rfl, ?_, HK4.out⟩
      unfold Wr.head
      rw [HF.out, List.append_nil]
      have h := HG4.out
      rwa [List.append_assoc, List.append_assoc] at h
    | some x =>
      have HX := hide (HD.out x (Wr.stamp_len hst))
      unfold stampV
      cases k with
      | false =>
        have HF := hide (show Wr.date false s = [] by unfold Wr.date; rw [hst]; rfl)
        clear hst
        dsimp only
        go_wp2
        go_end0
        refine ⟨rfl, ?_, HK4.out⟩
        unfold Wr.head
        rw [HF.out, List.append_nil]
        have h := HG4.out
        rwa [List.append_assoc, List.append_assoc] at h
      | true =>
        have HF := hide (show Wr.date true s = Wr.field [117, 112, 100, 97, 116, 101, 100] x by unfold Wr.date; rw [hst]; rfl)
        clear hst
        dsimp only
        go_wp2_with fail
        refine (HX.out _ HG4.out).mono ?_
        rintro e w5 ⟨rfl, hg5, hk5⟩
        have HG5 := hide hg5
        have HK5 := hide (HK4.out.trans hk5)
        clear hg5 hk5
        dsimp only
        go_wp2
        go_end0
        refine ⟨rfl, ?_, HK5.out⟩
        unfold Wr.head
        rw [HF.out]
        have h := HG5.out
        rwa [List.append_assoc, List.append_assoc, List.append_assoc] at h
  | cons a lk =>
    have hemp : (bstr (a :: lk)).toList.isEmpty = false := by rw [ByteArray.toList_eq]; simp [bstr]
    have HES2 := hide (HES.out w2)
    go_wp2_with fail
    refine HES2.out.mono ?_
    rintro e w3 ⟨rfl, hb3⟩
    have HL3 := hide (HL.out (by simp) w3 (HG2.out.go hb3))
    rw [← HLe.out (by simp)] at HL3
    have HK3 := hide (HK2.out.trans (Kp.of_below hb3))
    have HT3 := hide (HT2.out.go hb3)
    clear hb3
    dsimp only
    go_wp2_with fail
    refine HL3.out.mono ?_
    rintro e w3b ⟨rfl, hg3, hk3⟩
    have HG3 := hide hg3
    have HK3b := hide (HK3.out.trans hk3)
    have HT3b := hide (hk3.blk HT3.out HTb.out (by decide))
    clear hg3 hk3
    dsimp only
    have d1 := HT3b.out.cell 1
    have HSx := hide (HS.out w3b)
    go_wp2_with fail
    refine HSx.out.mono ?_
    rintro e w4 ⟨rfl, hb4⟩
    have HG4 := hide (HG3.out.go hb4)
    have HK4 := hide (HK3b.out.trans (Kp.of_below hb4))
    have HT4 := hide (HT3b.out.go hb4)
    have e0 := HT4.out.cell 0
    clear hb4 d1
    cases hst : Cv.stamp s with
    | none =>
      have HF := hide (show Wr.date k s = [] by unfold Wr.date; rw [hst])
      unfold stampV
      clear hst
      dsimp only
      go_wp2
      go_end0
      refine ⟨rfl, ?_, HK4.out⟩
      unfold Wr.head
      rw [HF.out, List.append_nil]
      have h := HG4.out
      rwa [List.append_assoc, List.append_assoc] at h
    | some x =>
      have HX := hide (HD.out x (Wr.stamp_len hst))
      unfold stampV
      cases k with
      | false =>
        have HF := hide (show Wr.date false s = [] by unfold Wr.date; rw [hst]; rfl)
        clear hst
        dsimp only
        go_wp2
        go_end0
        refine ⟨rfl, ?_, HK4.out⟩
        unfold Wr.head
        rw [HF.out, List.append_nil]
        have h := HG4.out
        rwa [List.append_assoc, List.append_assoc] at h
      | true =>
        have HF := hide (show Wr.date true s = Wr.field [117, 112, 100, 97, 116, 101, 100] x by unfold Wr.date; rw [hst]; rfl)
        clear hst
        dsimp only
        go_wp2_with fail
        refine (HX.out _ HG4.out).mono ?_
        rintro e w5 ⟨rfl, hg5, hk5⟩
        have HG5 := hide hg5
        have HK5 := hide (HK4.out.trans hk5)
        clear hg5 hk5
        dsimp only
        go_wp2
        go_end0
        refine ⟨rfl, ?_, HK5.out⟩
        unfold Wr.head
        rw [HF.out]
        have h := HG5.out
        rwa [List.append_assoc, List.append_assoc, List.append_assoc] at h
end Go.Proofs.YtlcfakmbcfdgbaaGreat
namespace Go.Proofs.YtlcfakmbcfdgbaaGreat
open Go.RowKit Go.WideShapes

/-- An entry. -/
structure Ent where
  id : List UInt8
  title : List UInt8
  link : List UInt8
  author : List UInt8
  content : List UInt8
  k : Bool
  s : Int
def Ent.cells (x : Ent) : Array Value := #[.string (bstr x.id), .string (bstr x.title), .string (bstr x.link), .string (bstr x.author), .string (bstr x.content), .bool x.k, .int .i64 x.s]
/-- No text is too long. -/
structure Ent.Ok (x : Ent) : Prop where
  id : x.id.length ≤ 20000
  title : x.title.length ≤ 20000
  link : x.link.length ≤ 20000
  author : x.author.length ≤ 20000
  content : x.content.length ≤ 20000
  s : (Lit.int .i64 x.s).wf = true
namespace Wr
def entryOpen : List UInt8 := [60, 101, 110, 116, 114, 121, 62]
def entryEnd : List UInt8 := [60, 47, 101, 110, 116, 114, 121, 62]
def entry (x : Ent) : List UInt8 := line [entryOpen] ++ (head x.id x.title x.link x.k x.s ++ (author x.author ++ (content x.content ++ line [entryEnd])))
theorem author_len (t : List UInt8) : (author t).length ≤ 6 * t.length + 40 := by
  have := Tx.escape_len false t
  unfold author authorOpen authorEnd
  split
  · exact Nat.zero_le _
  rw [line_len]
  simp only [List.flatten_cons, List.flatten_nil, List.length_append, List.length_cons, List.length_nil]
  omega
theorem content_len (t : List UInt8) : (content t).length ≤ 6 * t.length + 40 := by
  unfold content
  split
  · exact Nat.zero_le _
  · have h := field_len [99, 111, 110, 116, 101, 110, 116] t
    simp only [List.length_cons, List.length_nil] at h
    omega
theorem entry_len (x : Ent) (h : x.Ok) : (entry x).length ≤ 1000000 := by
  obtain ⟨h1, h2, h3, h4, h5, _⟩ := h
  have a := head_len x.id x.title x.link x.k x.s
  have b := author_len x.author
  have c := content_len x.content
  unfold entry entryOpen entryEnd line
  simp only [List.flatten_cons, List.flatten_nil, List.length_append, List.length_cons, List.length_nil]
  omega
theorem emp (t : List UInt8) : (bstr t).toList.isEmpty = t.isEmpty := by rw [ByteArray.toList_eq]; rfl
end Wr
set_option maxHeartbeats 8000000 in
set_option maxRecDepth 100000 in
theorem entry_g {W0 : World} {B b : Nat} {l : List UInt8} {r : Option Nat} (x : Ent) (w : World) (h : Wg W0 B b r l w) (hl : l.length ≤ 800000000) (hx : x.Ok) :
    Calls Tryz.prog 19 #[.pointer (some ⟨b, 0, none⟩), .agg x.cells] w fun e w' => e = .returned (.tuple #[]) ∧ Wg W0 B b r (l ++ Wr.entry x) w' ∧ Kp b w w' := by
  obtain ⟨id, ti, lk, au, co, k, s⟩ := x
  obtain ⟨h1, h2, h3, h4, h5, hs⟩ := hx
  dsimp only at h1 h2 h3 h4 h5 hs
  obtain ⟨L1, hL1⟩ : ∃ L, Wr.line [Wr.entryOpen] = L := ⟨_, rfl⟩
  obtain ⟨L2, hL2⟩ : ∃ L, Wr.head id ti lk k s = L := ⟨_, rfl⟩
  obtain ⟨L3, hL3⟩ : ∃ L, Wr.author au = L := ⟨_, rfl⟩
  obtain ⟨L4, hL4⟩ : ∃ L, Wr.content co = L := ⟨_, rfl⟩
  obtain ⟨L5, hL5⟩ : ∃ L, Wr.line [Wr.entryEnd] = L := ⟨_, rfl⟩
  have n1 : L1.length = 8 := by rw [← hL1]; rfl
  have n2 : L2.length ≤ 400000 := by rw [← hL2]; have := Wr.head_len id ti lk k s; omega
  have n3 : L3.length ≤ 200000 := by rw [← hL3]; have := Wr.author_len au; omega
  have n4 : L4.length ≤ 200000 := by rw [← hL4]; have := Wr.content_len co; omega
  have n5 : L5.length = 9 := by rw [← hL5]; rfl
  have HR := hide (show Wr.entry ⟨id, ti, lk, au, co, k, s⟩ = L1 ++ (L2 ++ (L3 ++ (L4 ++ L5))) by unfold Wr.entry; dsimp only; rw [hL1, hL2, hL3, hL4, hL5])
  have H1 := hide (fun W (hW : Wg W0 B b r l W) => put_n [Wr.entryOpen] 1 W hW rfl (by omega) (by rw [hL1]; omega))
  have H2 := hide (fun W (hW : Wg W0 B b r (l ++ L1) W) => head_g id ti lk k s W hW (by rw [List.length_append]; omega) h1 h2 h3 hs)
  have HE := hide (fun W => escape_any false au W (by omega))
  have H3 := hide (fun (hne : au ≠ []) W (hW : Wg W0 B b r (l ++ L1 ++ L2) W) => put_n [Wr.authorOpen, Tx.escape false au, Wr.authorEnd] 3 W hW rfl (by omega) (by unfold Wr.author at hL3; rw [if_neg hne] at hL3; rw [hL3, List.length_append, List.length_append]; omega))
  have HA1 := hide (fun (hne : au ≠ []) => show Wr.line [Wr.authorOpen, Tx.escape false au, Wr.authorEnd] = L3 by rw [← hL3]; unfold Wr.author; rw [if_neg hne])
  have HA0 := hide (fun (he : au = []) => show L3 = [] by rw [← hL3]; unfold Wr.author; rw [if_pos he])
  have H4 := hide (fun W (hW : Wg W0 B b r (l ++ L1 ++ L2 ++ L3) W) => field_g [99, 111, 110, 116, 101, 110, 116] co W hW (by simp only [List.length_append]; omega) (by decide) h5)
  have HC1 := hide (fun (hne : co ≠ []) => show Wr.field [99, 111, 110, 116, 101, 110, 116] co = L4 by rw [← hL4]; unfold Wr.content; rw [if_neg hne])
  have HC0 := hide (fun (he : co = []) => show L4 = [] by rw [← hL4]; unfold Wr.content; rw [if_pos he])
  have H5 := hide (fun W (hW : Wg W0 B b r (l ++ L1 ++ L2 ++ L3 ++ L4) W) => put_n [Wr.entryEnd] 1 W hW rfl (by omega) (by rw [hL5]; simp only [List.length_append]; omega))
  rw [hL1] at H1
  rw [hL2] at H2
  rw [hL5] at H5
  have HT := hide (Blk.new w 36 #[.string (bstr id), .string (bstr ti), .string (bstr lk), .string (bstr au), .string (bstr co), .bool k, .int .i64 s])
  have HW := hide (h.go (below_alloc w (.cells #[.string (bstr id), .string (bstr ti), .string (bstr lk), .string (bstr au), .string (bstr co), .bool k, .int .i64 s] 36)))
  have HTb := hide (show w.heap.size ≠ b by
    obtain ⟨r', hf, _, _⟩ := h
    have := wf_lt hf
    omega)
  have HK0 := hide (Kp.of_below (b := b) (below_alloc w (.cells #[.string (bstr id), .string (bstr ti), .string (bstr lk), .string (bstr au), .string (bstr co), .bool k, .int .i64 s] 36)))
  have h1w := H1.out _ HW.out
  rw [World.size_alloc] at h1w
  have H1w := hide h1w
  clear h h1w hL1 hL2 hL3 hL4 hL5
  unfold Ent.cells
  dsimp only
  go_enter Tryz.func19, Tryz.ntmps19
  go_wp2_with fail
  refine H1w.out.mono ?_
  rintro e w1 ⟨rfl, hg1, hk1⟩
  have HG1 := hide hg1
  have HK1 := hide (HK0.out.trans hk1)
  have HT1 := hide (hk1.blk HT.out HTb.out (by decide))
  clear hg1 hk1
  have t0 := HT1.out.cell 0
  have t1 := HT1.out.cell 1
  have t2 := HT1.out.cell 2
  have t5 := HT1.out.cell 5
  have t6 := HT1.out.cell 6
  dsimp only
  go_wp2_with fail
  refine (H2.out _ HG1.out).mono ?_
  rintro e w2 ⟨rfl, hg2, hk2⟩
  have HG2 := hide hg2
  have HK2 := hide (HK1.out.trans hk2)
  have HT2 := hide (hk2.blk HT1.out HTb.out (by decide))
  clear hg2 hk2 t0 t1 t2 t5 t6
  have t3 := HT2.out.cell 3
  have t4 := HT2.out.cell 4
  dsimp only
  cases au with
  | nil =>
    have em1 : (bstr ([] : List UInt8)).toList.isEmpty = true := Wr.emp _
    have HG3 := hide (show Wg W0 B b r (l ++ L1 ++ L2 ++ L3) w2 by rw [HA0.out rfl, List.append_nil]; exact HG2.out)
    cases co with
    | nil =>
      have HGc := hide (show Wg W0 B b r (l ++ L1 ++ L2 ++ L3 ++ L4) w2 by rw [HC0.out rfl, List.append_nil]; exact HG3.out)
      have em2 : (bstr ([] : List UInt8)).toList.isEmpty = true := Wr.emp _
      go_wp2_with fail
      refine (H5.out _ HGc.out).mono ?_
      rintro e w9 ⟨rfl, hg9, hk9⟩
      have HG9 := hide hg9
      have HK9 := hide (HK2.out.trans hk9)
      clear hg9 hk9
      dsimp only
      go_wp2
      go_end0
      refine ⟨rfl, ?_, HK9.out⟩
      rw [HR.out]
      have h := HG9.out
      rwa [List.append_assoc, List.append_assoc, List.append_assoc, List.append_assoc] at h
    | cons c2 co =>
      have em2 : (bstr (c2 :: co)).toList.isEmpty = false := Wr.emp _
      have HX4 := hide (H4.out w2 HG3.out)
      rw [HC1.out (by simp)] at HX4
      go_wp2_with fail
      refine HX4.out.mono ?_
      rintro e w4 ⟨rfl, hg4, hk4⟩
      have HG4 := hide hg4
      have HK4 := hide (HK2.out.trans hk4)
      clear hg4 hk4
      dsimp only
      go_wp2_with fail
      refine (H5.out _ HG4.out).mono ?_
      rintro e w9 ⟨rfl, hg9, hk9⟩
      have HG9 := hide hg9
      have HK9 := hide (HK4.out.trans hk9)
      clear hg9 hk9
      dsimp only
      go_wp2
      go_end0
      refine ⟨rfl, ?_, HK9.out⟩
      rw [HR.out]
      have h := HG9.out
      rwa [List.append_assoc, List.append_assoc, List.append_assoc, List.append_assoc] at h
  | cons c1 au =>
    have em1 : (bstr (c1 :: au)).toList.isEmpty = false := Wr.emp _
    have HE2 := hide (HE.out w2)
    go_wp2_with fail
    refine HE2.out.mono ?_
    rintro e w3 ⟨rfl, hb3⟩
    have HX3 := hide (H3.out (by simp) w3 (HG2.out.go hb3))
    rw [HA1.out (by simp)] at HX3
    have HK3 := hide (HK2.out.trans (Kp.of_below hb3))
    have HT3 := hide (HT2.out.go hb3)
    clear hb3 t3 t4
    dsimp only
    go_wp2_with fail
    refine HX3.out.mono ?_
    rintro e w3b ⟨rfl, hg3, hk3⟩
    have HG3 := hide hg3
    have HK3b := hide (HK3.out.trans hk3)
    have HT3b := hide (hk3.blk HT3.out HTb.out (by decide))
    clear hg3 hk3
    have t4 := HT3b.out.cell 4
    dsimp only
    cases co with
    | nil =>
      have HGc := hide (show Wg W0 B b r (l ++ L1 ++ L2 ++ L3 ++ L4) w3b by rw [HC0.out rfl, List.append_nil]; exact HG3.out)
      have em2 : (bstr ([] : List UInt8)).toList.isEmpty = true := Wr.emp _
      go_wp2_with fail
      refine (H5.out _ HGc.out).mono ?_
      rintro e w9 ⟨rfl, hg9, hk9⟩
      have HG9 := hide hg9
      have HK9 := hide (HK3b.out.trans hk9)
      clear hg9 hk9
      dsimp only
      go_wp2
      go_end0
      refine ⟨rfl, ?_, HK9.out⟩
      rw [HR.out]
      have h := HG9.out
      rwa [List.append_assoc, List.append_assoc, List.append_assoc, List.append_assoc] at h
    | cons c2 co =>
      have em2 : (bstr (c2 :: co)).toList.isEmpty = false := Wr.emp _
      have HX4 := hide (H4.out w3b HG3.out)
      rw [HC1.out (by simp)] at HX4
      go_wp2_with fail
      refine HX4.out.mono ?_
      rintro e w4 ⟨rfl, hg4, hk4⟩
      have HG4 := hide hg4
      have HK4 := hide (HK3b.out.trans hk4)
      clear hg4 hk4
      dsimp only
      go_wp2_with fail
      refine (H5.out _ HG4.out).mono ?_
      rintro e w9 ⟨rfl, hg9, hk9⟩
      have HG9 := hide hg9
      have HK9 := hide (HK4.out.trans hk9)
      clear hg9 hk9
      dsimp only
      go_wp2
      go_end0
      refine ⟨rfl, ?_, HK9.out⟩
      rw [HR.out]
      have h := HG9.out
      rwa [List.append_assoc, List.append_assoc, List.append_assoc, List.append_assoc] at h
end Go.Proofs.YtlcfakmbcfdgbaaGreat
namespace Go.Proofs.YtlcfakmbcfdgbaaGreat
open Go.RowKit Go.WideShapes

def entVs (es : List Ent) : List Value := es.flatMap fun x => x.cells.toList
theorem entVs_at : ∀ (l : List Ent) (k : Nat) (hk : k < l.length) (j : Nat), j < 7 → (entVs l)[k * 7 + j]? = (l[k].cells.toList)[j]? := by
  intro l
  induction l with
  | nil => intro k hk; simp at hk
  | cons x l ih =>
    intro k hk j hj
    have hl : (x.cells.toList).length = 7 := rfl
    unfold entVs
    rw [List.flatMap_cons]
    cases k with
    | zero => rw [List.getElem?_append_left (by omega)]; simp
    | succ k =>
      rw [List.getElem?_append_right (by omega), hl, show (k + 1) * 7 + j - 7 = k * 7 + j from by omega]
      exact ih k (by simpa using hk) j hj
/-- An entry lies here. -/
structure EntAt (w : World) (b o : Nat) (x : Ent) : Prop where
  c0 : w.cell? ⟨b, o, none⟩ = some (.string (bstr x.id))
  c1 : w.cell? ⟨b, o + 1, none⟩ = some (.string (bstr x.title))
  c2 : w.cell? ⟨b, o + 2, none⟩ = some (.string (bstr x.link))
  c3 : w.cell? ⟨b, o + 3, none⟩ = some (.string (bstr x.author))
  c4 : w.cell? ⟨b, o + 4, none⟩ = some (.string (bstr x.content))
  c5 : w.cell? ⟨b, o + 5, none⟩ = some (.bool x.k)
  c6 : w.cell? ⟨b, o + 6, none⟩ = some (.int .i64 x.s)
theorem Reads.ent {w : World} {B : Nat} {A : Option Addr} {l : List Ent} (h : Reads w B 7 A l.length (entVs l)) {k : Nat} (hk : k < l.length) : ∃ b off, A = some ⟨b, off, none⟩ ∧ b < B ∧ EntAt w b (off + k * 7) l[k] := by
  obtain ⟨b, off, hA, hb, hc⟩ := h.2 (by omega)
  have hx := entVs_at l k hk
  refine ⟨b, off, hA, hb, ?_⟩
  constructor
  · have := hc (k * 7 + 0) _ (hx 0 (by omega)); simpa using this
  · have := hc (k * 7 + 1) _ (hx 1 (by omega)); rwa [← Nat.add_assoc] at this
  · have := hc (k * 7 + 2) _ (hx 2 (by omega)); rwa [← Nat.add_assoc] at this
  · have := hc (k * 7 + 3) _ (hx 3 (by omega)); rwa [← Nat.add_assoc] at this
  · have := hc (k * 7 + 4) _ (hx 4 (by omega)); rwa [← Nat.add_assoc] at this
  · have := hc (k * 7 + 5) _ (hx 5 (by omega)); rwa [← Nat.add_assoc] at this
  · have := hc (k * 7 + 6) _ (hx 6 (by omega)); rwa [← Nat.add_assoc] at this
/-- How much a text counts; an entry. -/
def m20 (l : List UInt8) : Nat := min l.length 20000
def wEnt (x : Ent) : Nat := m20 x.id + m20 x.title + m20 x.link + m20 x.author + m20 x.content
theorem m20_is (l : List UInt8) : min (((bstr l).size : Nat) : Int) 20000 = ((m20 l : Nat) : Int) := by
  rw [bstr_size]; unfold m20; omega
theorem m20_le (l : List UInt8) : m20 l ≤ 20000 := by unfold m20; omega
set_option maxRecDepth 100000 in
set_option maxHeartbeats 8000000 in
theorem great_any (x : Ent) (w : World) : Calls Tryz.prog 15 #[.agg x.cells] w fun e w' => e = .returned (.int .i64 (wEnt x : Nat)) ∧ Below w.heap.size w w' := by
  obtain ⟨id, ti, lk, au, co, k, s⟩ := x
  have HO := hide (below_alloc w (.cells (Ent.cells ⟨id, ti, lk, au, co, k, s⟩) 36))
  obtain ⟨q1, hq1⟩ : ∃ q, m20 id = q := ⟨_, rfl⟩
  obtain ⟨q2, hq2⟩ : ∃ q, m20 ti = q := ⟨_, rfl⟩
  obtain ⟨q3, hq3⟩ : ∃ q, m20 lk = q := ⟨_, rfl⟩
  obtain ⟨q4, hq4⟩ : ∃ q, m20 au = q := ⟨_, rfl⟩
  obtain ⟨q5, hq5⟩ : ∃ q, m20 co = q := ⟨_, rfl⟩
  have hm1 := m20_is id
  have hm2 := m20_is ti
  have hm3 := m20_is lk
  have hm4 := m20_is au
  have hm5 := m20_is co
  rw [hq1] at hm1
  rw [hq2] at hm2
  rw [hq3] at hm3
  rw [hq4] at hm4
  rw [hq5] at hm5
  have l1 : q1 ≤ 20000 := by rw [← hq1]; exact m20_le _
  have l2 : q2 ≤ 20000 := by rw [← hq2]; exact m20_le _
  have l3 : q3 ≤ 20000 := by rw [← hq3]; exact m20_le _
  have l4 : q4 ≤ 20000 := by rw [← hq4]; exact m20_le _
  have l5 : q5 ≤ 20000 := by rw [← hq5]; exact m20_le _
  have HR := hide (show wEnt ⟨id, ti, lk, au, co, k, s⟩ = q1 + q2 + q3 + q4 + q5 by unfold wEnt; dsimp only; rw [hq1, hq2, hq3, hq4, hq5])
  clear hq1 hq2 hq3 hq4 hq5
  unfold Ent.cells at HO ⊢
  dsimp only at HO ⊢
  go_enter Tryz.func15, Tryz.ntmps15
  go_wp2
  go_ret
  rw [HR.out]
  exact ⟨ret_eq1 (int_eq (by omega)), HO.out⟩
end Go.Proofs.YtlcfakmbcfdgbaaGreat
