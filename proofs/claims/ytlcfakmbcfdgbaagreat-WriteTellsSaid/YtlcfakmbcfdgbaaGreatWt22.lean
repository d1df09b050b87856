/- NFC: a scalar's parts by the document (ref11.Parts, Decompose). · References: the document's Escape. (Printed by genTdE.py.) · Days and stamps, plain: the document's way of counting and writing; no program in sight. · Days: the document's Leap, Last, ahead, Date. · write.May's map of what was seen: key struct of one string. · write.May. · Plain: a feed's document tells the feed (no program). -/
import Derived.Test.YtlcfakmbcfdgbaaGreatWt05
import Derived.Test.YtlcfakmbcfdgbaaGreatWt10
import Derived.Test.YtlcfakmbcfdgbaaGreatWt14
import Derived.Test.YtlcfakmbcfdgbaaGreatWt16
import Derived.Test.YtlcfakmbcfdgbaaGreatWt17
import Derived.Test.YtlcfakmbcfdgbaaGreatWt18
import Derived.Test.YtlcfakmbcfdgbaaGreatWt21
set_option linter.unusedSimpArgs false
set_option linter.unusedVariables false
namespace Go.Proofs.YtlcfakmbcfdgbaaGreat
open Go.RowKit Go.WideShapes

theorem own_intlit (w : World) (r : Int) : (w.alloc (.cells #[.int .i64 r] 3)).ownsRow w.heap.size 3 1 (.slice (some ⟨w.heap.size, 0, none⟩) 1 1) 1 (intVs [r]) :=
  World.ownsRow_lit w #[.int .i64 r] 1 (Nat.le_refl _) (by unfold maxLen; omega) rfl
/-- What a call that makes a row of numbers gives. -/
def IntsR (w : World) (l : List Int) (e : Ending) (w' : World) : Prop := (∃ A c, e = .returned (.slice A l.length c) ∧ w'.ownsRow w.heap.size 3 1 (.slice A l.length c) l.length (intVs l)) ∧ Below w.heap.size w w'
set_option maxRecDepth 100000 in
set_option maxHeartbeats 4000000 in
theorem refParts_n : ∀ (n : Nat) (r : Int) (l : List Int) (w : World), n ≤ 4 → Nf.apart n r = some l → Nf.Ok r → Calls Tryz.prog 117 #[.int .i64 r] w (IntsR w l)
  | 0, _, _, _, _, h, _ => by cases h
  | n + 1, r, l, w, hn, h, hr => by
    have HM := hide (fun W => refMade_any r W hr.1 hr.2)
    rw [Nf.apart] at h
    unfold madeV at HM
    cases hm : Nf.made r with
    | none =>
      rw [hm] at h HM
      cases h
      dsimp only at HM
      clear hm
      go_enter Tryz.func117, Tryz.ntmps117
      go_wp2_with fail
      refine (HM.out _).mono ?_
      rintro e w1 ⟨rfl, hb1⟩
      have HB := hide hb1
      clear hb1
      go_wp2
      go_ret
      refine ⟨⟨_, _, rfl, (own_intlit w1 r).mono HB.out.size⟩, HB.out.trans ((below_alloc _ _).mono HB.out.size)⟩
    | some p =>
      obtain ⟨a, b⟩ := p
      rw [hm] at h HM
      dsimp only at h HM
      obtain ⟨⟨a0, a1⟩, ⟨b0, b1⟩⟩ := Nf.made_ok hm
      cases hla : Nf.apart n a with
      | none => rw [hla] at h; cases h
      | some la =>
        rw [hla] at h
        dsimp only at h
        have IH := hide (fun (W : World) => refParts_n n a la W (by omega) hla ⟨a0, a1⟩)
        have hll := Nf.apart_len hla
        by_cases hb : b = 0
        · subst hb
          rw [if_pos rfl] at h
          cases h
          clear hm hla hll
          go_enter Tryz.func117, Tryz.ntmps117
          go_wp2_with fail
          refine (HM.out _).mono ?_
          rintro e w1 ⟨rfl, hb1⟩
          have HB := hide hb1
          clear hb1
          go_wp2_with fail
          refine (IH.out _).mono ?_
          rintro e w2 ⟨⟨A, c, rfl, ho⟩, hb2⟩
          have HO := hide (ho.mono HB.out.size)
          have HB2 := hide (HB.out.trans (hb2.mono HB.out.size))
          clear ho hb2
          go_wp2
          go_ret
          exact ⟨⟨_, _, rfl, HO.out⟩, HB2.out⟩
        · rw [if_neg hb] at h
          obtain ⟨lb, hlb, e⟩ := Option.map_eq_some_iff.1 h
          subst e
          have IH2 := hide (fun (W : World) => refParts_n n b lb W (by omega) hlb ⟨b0, b1⟩)
          have hlb2 := Nf.apart_len hlb
          have hn3 : n ≤ 3 := by omega
          have hp8 : 2 ^ n ≤ 8 := Nat.pow_le_pow_right (n := 2) (by omega) hn3
          have eb : (b != 0) = true := by simpa using hb
          have hlab : la.length + lb.length ≤ 16 := by omega
          clear hm hla hll hlb hlb2 h hb hp8
          go_enter Tryz.func117, Tryz.ntmps117
          go_wp2_with fail
          refine (HM.out _).mono ?_
          rintro e w1 ⟨rfl, hb1⟩
          have HB := hide hb1
          clear hb1
          go_wp2_with fail
          refine (IH.out _).mono ?_
          rintro e w2 ⟨⟨A, c, rfl, ho⟩, hb2⟩
          have HO := hide (ho.mono HB.out.size)
          have HB2 := hide (HB.out.trans (hb2.mono HB.out.size))
          clear ho hb2
          go_wp2_with fail
          refine (IH2.out _).mono ?_
          rintro e w3 ⟨⟨A3, c3, rfl, ho⟩, hb3⟩
          have HO3 := hide (own_gD HO.out hb3)
          have HR3 := hide (Reads.of_own ho)
          have HB3 := hide (HB2.out.trans (hb3.mono HB2.out.size))
          have hbs := HB3.out.size
          clear ho hb3
          dsimp only
          go_wp2_with (at_builtin; go_loud (refine wpList_append_row w3 rfl (.tmp 21) (.tmp 23) 93 rfl w.heap.size (.int .i64 0) 1 8 Tryz.underlying93 info_int rfl (by omega) (.slice A la.length c) la.length (intVs la) rfl HO3.out w3.heap.size A3 lb.length c3 (intVs lb) HR3.out (intVs_one _) rfl (by unfold maxLen; omega) (by omega) hbs ?_); intro A4 c4 w4 ho4 hg4; have HO4 := hide ho4; have HB4 := hide (HB3.out.grown hg4 HB3.out.size (fun j e => (own_isT HO3.out j e).1)); clear ho4 hg4)
          go_ret
          refine ⟨⟨A4, c4, by rw [List.length_append]; rfl, ?_⟩, HB4.out⟩
          rw [List.length_append, intVs_app]
          exact HO4.out
theorem refParts_any (r : Int) (w : World) (hr : Nf.Ok r) : Calls Tryz.prog 117 #[.int .i64 r] w (IntsR w (Nf.parts r)) := refParts_n 4 r _ w (by omega) (Nf.parts_is r) hr
set_option maxRecDepth 100000 in
set_option maxHeartbeats 4000000 in
theorem refDecompose_any (l : List Int) (A : Option Addr) (c : Nat) (w : World) (hr : Reads w w.heap.size 1 A l.length (intVs l)) (hok : ∀ x ∈ l, Nf.Ok x) (hn : l.length ≤ 1000000) :
    Calls Tryz.prog 96 #[.slice A l.length c] w (IntsR w (Nf.decomp l)) := by
  have HR := hide hr
  have HOk := hide hok
  clear hr hok
  obtain ⟨N, hN⟩ : ∃ N, l.length = N := ⟨_, rfl⟩
  rw [hN] at hn HR ⊢
  have HN := hide hN
  clear hN
  go_enter Tryz.func96, Tryz.ntmps96
  go_wp2
  go_loopg [3, 4] N (fun gk v3 v4 wr => ∃ (j m : Nat) (A' : Option Addr) (c' : Nat), gk = N - j ∧ j ≤ N ∧ v4 = .int .i64 (j : Int) ∧ v3 = .slice A' m c' ∧ (Nf.decomp (l.take j)).length = m ∧ wr.ownsRow w.heap.size 3 1 (.slice A' m c') m (intVs (Nf.decomp (l.take j))) ∧ Below w.heap.size w wr)
  case atStart => exact ⟨0, 0, none, 0, rfl, by omega, rfl, rfl, rfl, World.ownsRow_nil _ _ _ _, Below.refl _ _⟩
  case round =>
    obtain ⟨j, m, A', c', hgk, hj, rfl, rfl, hm, ho, hb⟩ := hrel
    have Hg := hide hgk
    have HO := hide ho
    have HB := hide hb
    have Hm := hide hm
    clear hgk ho hb hm
    by_cases hlt : j < N
    · obtain ⟨a, ha⟩ : ∃ a, l[j]? = some a := ⟨_, List.getElem?_eq_getElem (by rw [HN.out]; exact hlt)⟩
      obtain ⟨gb, off, rfl, hgl, hcell⟩ := HR.out.2 (by omega)
      have y0 : wr.cell? ⟨gb, off + j, none⟩ = some (.int .i64 a) := (HB.out.cell hgl).trans (hcell j _ (by unfold intVs; rw [List.getElem?_map, ha]; rfl))
      have HD := hide (Nf.decomp_next ha)
      have hlen := Nf.decomp_len (l.take (j + 1))
      have hl2 : m + (Nf.parts a).length ≤ 100000000 := by
        rw [← Hm.out, ← List.length_append, ← HD.out]
        have := List.length_take_le (j + 1) l
        have := HN.out
        omega
      have HP := hide (fun W => refParts_any a W (HOk.out a (List.mem_of_getElem? ha)))
      obtain ⟨pl, hpl⟩ : ∃ pl, Nf.parts a = pl := ⟨_, rfl⟩
      rw [hpl] at HD hl2 HP
      obtain ⟨q, hq⟩ : ∃ q, pl.length = q := ⟨_, rfl⟩
      have Hq := hide hq
      unfold IntsR at HP
      rw [hq] at hl2 HP
      clear hcell ha hlen hpl hq
      go_wp2_with fail
      refine (HP.out _).mono ?_
      rintro e w3 ⟨⟨A3, c3, rfl, ho⟩, hb3⟩
      have HO3 := hide (own_gD HO.out hb3)
      have HR3 := hide (Reads.of_own ho)
      have HB3 := hide (HB.out.trans (hb3.mono HB.out.size))
      have hbs := HB3.out.size
      clear ho hb3
      dsimp only
      go_wp2_with (at_builtin; go_loud (refine wpList_append_row w3 rfl (.tmp 11) (.tmp 16) 93 rfl w.heap.size (.int .i64 0) 1 8 Tryz.underlying93 info_int rfl (by omega) (.slice A' m c') m _ rfl HO3.out w3.heap.size A3 q c3 (intVs pl) HR3.out (intVs_one _) rfl (by unfold maxLen; omega) (by omega) hbs ?_); intro A4 c4 w4 ho4 hg4; have HO4 := hide ho4; have HB4 := hide (HB3.out.grown hg4 HB3.out.size (fun j e => (own_isT HO3.out j e).1)); clear ho4 hg4)
      go_roundg (N - (j + 1))
      case measure => have := Hg.out; omega
      case rel => exact ⟨j + 1, m + q, A4, c4, rfl, by omega, by first | rfl | go_num, rfl, by rw [HD.out, List.length_append, Hm.out, Hq.out], by rw [HD.out, intVs_app]; exact HO4.out, HB4.out⟩
    · have hjN : j = N := by omega
      subst hjN
      go_wp2
      go_ret
      have hx := HO.out
      have hm2 := Hm.out
      rw [List.take_of_length_le (by rw [HN.out]; exact Nat.le_refl _)] at hx hm2
      exact ⟨⟨A', c', by rw [hm2]; rfl, by rw [hm2]; exact hx⟩, HB.out⟩
end Go.Proofs.YtlcfakmbcfdgbaaGreat
namespace Go.Proofs.YtlcfakmbcfdgbaaGreat
open Go.RowKit Go.WideShapes

theorem app_list (a b : ByteArray) : (a ++ b).data.toList = a.data.toList ++ b.data.toList := by simp
set_option maxRecDepth 100000 in
set_option maxHeartbeats 16000000 in
theorem refEscape13_any (q : Bool) (l : List UInt8) (w : World) (hs : l.length ≤ 1000000000) :
    Calls Tryz.prog 22 #[.string (bstr l), .bool q] w fun e w' => e = .returned (.string (bstr (Tx.escape q l))) ∧ w' = w := by
  obtain ⟨N, hN⟩ : ∃ N, l.length = N := ⟨_, rfl⟩
  have HN := hide hN
  have HSz := hide (show (bstr l).size = N by rw [bstr_size, hN])
  rw [hN] at hs
  have HIx := hide (fun i c (h : l[i]? = some c) W => idx_run (bstr l) i c (by rw [bstr_list]; exact h) W)
  have HEx := hide (fun i c (h : l[i]? = some c) => show (bstr l).extract i (i + 1) = bstr [c] by rw [bstr_ext, Nat.add_sub_cancel_left, idx_drop h]; rfl)
  have HLen := hide (fun j (T : ByteArray) (hj : j ≤ N) (h : T.data.toList = Tx.escape q (l.take j)) => show T.size ≤ 6000000000 by
    rw [← size_list, h]
    have := Tx.escape_len q (l.take j)
    rw [List.length_take] at this
    omega)
  obtain ⟨S, hS⟩ : ∃ S, bstr l = S := ⟨_, rfl⟩
  rw [hS] at HSz HIx HEx ⊢
  clear hS hN
  have hsz := HSz.out
  go_enter Tryz.func22, Tryz.ntmps22
  go_wp2
  go_loopg [5, 6, 20, 27, 34, 41, 48, 58, 68] N (fun gk v5 v6 v20 v27 v34 v41 v48 v58 v68 wr => ∃ (j : Nat) (T : ByteArray), gk = N - j ∧ j ≤ N ∧ v6 = .int .i64 (j : Int) ∧ v5 = .string T ∧ T.data.toList = Tx.escape q (l.take j) ∧ wr = w)
  case atStart => exact ⟨0, _, rfl, by omega, rfl, rfl, rfl, rfl⟩
  case round =>
    obtain ⟨j, T, hgk, hj, rfl, rfl, hT, hwr⟩ := hrel
    subst hwr
    have Hg := hide hgk
    have HT := hide hT
    have htl := HLen.out j T hj hT
    clear hgk hT
    by_cases hlt : j < N
    · obtain ⟨x, hx⟩ : ∃ x, l[j]? = some x := ⟨_, List.getElem?_eq_getElem (by rw [HN.out]; exact hlt)⟩
      have hix := HIx.out j x hx
      have hex := HEx.out j x hx
      have Hnx := hide (Tx.escape_next (q := q) hx)
      have hj1 : 0 ≤ (j : Int) ∧ (j : Int) + 1 ≤ (N : Int) := by omega
      have z1 : IntKind.i64.wrap ((j : Int) + 1) = ((j + 1 : Nat) : Int) := by rw [IntWalk.i64_in _ (by omega)]; omega
      have kk : ∀ n : Nat, n ≤ 10 → ¬ 9223372036854775807 < T.size + n := fun n hn => by omega
      have k1 := kk 1 (by omega)
      have k4 := kk 4 (by omega)
      have k5 := kk 5 (by omega)
      have k6 := kk 6 (by omega)
      have hs1 : (bstr [x]).size = 1 := bstr_size _
      clear hx kk htl
      by_cases hx38 : x = 38
      · subst hx38
        have hix2 : ∀ W, (Instr.index 9 (.string S) (.int .i64 (j : Int))).run Tryz.prog W = .ok (.int .u8 38) W := hix
        clear hix hex hs1
        go_wp2
        go_roundg (N - (j + 1))
        case measure => have := Hg.out; omega
        case rel => exact ⟨j + 1, _, rfl, by omega, by first | rfl | go_num, rfl, by rw [app_list, Hnx.out, ← HT.out]; rfl, rfl⟩
      by_cases hx60 : x = 60
      · subst hx60
        have hix2 : ∀ W, (Instr.index 9 (.string S) (.int .i64 (j : Int))).run Tryz.prog W = .ok (.int .u8 60) W := hix
        clear hix hex hs1
        go_wp2
        go_roundg (N - (j + 1))
        case measure => have := Hg.out; omega
        case rel => exact ⟨j + 1, _, rfl, by omega, by first | rfl | go_num, rfl, by rw [app_list, Hnx.out, ← HT.out]; rfl, rfl⟩
      by_cases hx62 : x = 62
      · subst hx62
        have hix2 : ∀ W, (Instr.index 9 (.string S) (.int .i64 (j : Int))).run Tryz.prog W = .ok (.int .u8 62) W := hix
        clear hix hex hs1
        go_wp2
        go_roundg (N - (j + 1))
        case measure => have := Hg.out; omega
        case rel => exact ⟨j + 1, _, rfl, by omega, by first | rfl | go_num, rfl, by rw [app_list, Hnx.out, ← HT.out]; rfl, rfl⟩
      by_cases hx13 : x = 13
      · subst hx13
        have hix2 : ∀ W, (Instr.index 9 (.string S) (.int .i64 (j : Int))).run Tryz.prog W = .ok (.int .u8 13) W := hix
        clear hix hex hs1
        go_wp2
        go_roundg (N - (j + 1))
        case measure => have := Hg.out; omega
        case rel => exact ⟨j + 1, _, rfl, by omega, by first | rfl | go_num, rfl, by rw [app_list, Hnx.out, ← HT.out]; rfl, rfl⟩
      by_cases hx34 : x = 34
      · subst hx34
        have hix2 : ∀ W, (Instr.index 9 (.string S) (.int .i64 (j : Int))).run Tryz.prog W = .ok (.int .u8 34) W := hix
        clear hix
        cases q with
        | true =>
          clear hex hs1
          go_wp2
          go_roundg (N - (j + 1))
          case measure => have := Hg.out; omega
          case rel => exact ⟨j + 1, _, rfl, by omega, by first | rfl | go_num, rfl, by rw [app_list, Hnx.out, ← HT.out]; rfl, rfl⟩
        | false =>
          skip
          go_wp2
          go_roundg (N - (j + 1))
          case measure => have := Hg.out; omega
          case rel => exact ⟨j + 1, _, rfl, by omega, by first | rfl | go_num, rfl, by rw [app_list, Hnx.out, ← HT.out]; rfl, rfl⟩
      by_cases hx9 : x = 9
      · subst hx9
        have hix2 : ∀ W, (Instr.index 9 (.string S) (.int .i64 (j : Int))).run Tryz.prog W = .ok (.int .u8 9) W := hix
        clear hix
        cases q with
        | true =>
          clear hex hs1
          go_wp2
          go_roundg (N - (j + 1))
          case measure => have := Hg.out; omega
          case rel => exact ⟨j + 1, _, rfl, by omega, by first | rfl | go_num, rfl, by rw [app_list, Hnx.out, ← HT.out]; rfl, rfl⟩
        | false =>
          skip
          go_wp2
          go_roundg (N - (j + 1))
          case measure => have := Hg.out; omega
          case rel => exact ⟨j + 1, _, rfl, by omega, by first | rfl | go_num, rfl, by rw [app_list, Hnx.out, ← HT.out]; rfl, rfl⟩
      by_cases hx10 : x = 10
      · subst hx10
        have hix2 : ∀ W, (Instr.index 9 (.string S) (.int .i64 (j : Int))).run Tryz.prog W = .ok (.int .u8 10) W := hix
        clear hix
        cases q with
        | true =>
          clear hex hs1
          go_wp2
          go_roundg (N - (j + 1))
          case measure => have := Hg.out; omega
          case rel => exact ⟨j + 1, _, rfl, by omega, by first | rfl | go_num, rfl, by rw [app_list, Hnx.out, ← HT.out]; rfl, rfl⟩
        | false =>
          skip
          go_wp2
          go_roundg (N - (j + 1))
          case measure => have := Hg.out; omega
          case rel => exact ⟨j + 1, _, rfl, by omega, by first | rfl | go_num, rfl, by rw [app_list, Hnx.out, ← HT.out]; rfl, rfl⟩
      have he : Tx.esc q x = [x] := by
        unfold Tx.esc
        rw [if_neg hx38, if_neg hx60, if_neg hx62, if_neg hx13, if_neg (fun h => hx34 h.2), if_neg (fun h => hx9 h.2), if_neg (fun h => hx10 h.2)]
      rw [he] at Hnx
      have hne : ∀ c : UInt8, x ≠ c → ((x.toNat : Int) == (c.toNat : Int)) = false := fun c h => by
        have : x.toNat ≠ c.toNat := fun e => h (UInt8.toNat_inj.1 e)
        simp; omega
      have n38 : ((x.toNat : Int) == 38) = false := hne 38 hx38
      have n60 : ((x.toNat : Int) == 60) = false := hne 60 hx60
      have n62 : ((x.toNat : Int) == 62) = false := hne 62 hx62
      have n13 : ((x.toNat : Int) == 13) = false := hne 13 hx13
      have n34 : ((x.toNat : Int) == 34) = false := hne 34 hx34
      have n9 : ((x.toNat : Int) == 9) = false := hne 9 hx9
      have n10 : ((x.toNat : Int) == 10) = false := hne 10 hx10
      clear hne he hx38 hx60 hx62 hx13 hx34 hx9 hx10
      cases q with
      | true =>
        skip
        go_wp2
        go_roundg (N - (j + 1))
        case measure => have := Hg.out; omega
        case rel => exact ⟨j + 1, _, rfl, by omega, by first | rfl | go_num, rfl, by rw [app_list, Hnx.out, ← HT.out]; rfl, rfl⟩
      | false =>
        skip
        go_wp2
        go_roundg (N - (j + 1))
        case measure => have := Hg.out; omega
        case rel => exact ⟨j + 1, _, rfl, by omega, by first | rfl | go_num, rfl, by rw [app_list, Hnx.out, ← HT.out]; rfl, rfl⟩
    · have hjN : l.take j = l := List.take_of_length_le (by rw [HN.out]; omega)
      have he := HT.out
      rw [hjN] at he
      have hT : T = bstr (Tx.escape q l) := by rw [← he, bstr_of]
      have HTe := hide hT
      clear hjN he hT htl
      go_wp2
      go_ret
      exact ⟨by rw [← HTe.out]; rfl, rfl⟩
end Go.Proofs.YtlcfakmbcfdgbaaGreat
namespace Go.Proofs.YtlcfakmbcfdgbaaGreat
namespace Cv
def ahead (y : Int) : Int := 365 * (y - 1) + (y - 1) / 4 - (y - 1) / 100 + (y - 1) / 400
theorem count_is (y : Int) (h : 1 ≤ y) : count y 1 1 = -719162 + ahead y := by
  unfold count days ahead
  rw [if_pos (by omega)]
  omega
/-- So many digits. -/
def dig (size : Nat) (n : Int) : List UInt8 := digL 0 size n (List.replicate size 48)
theorem stamp_dig (s y m d : Int) (hc : civil s = some (y, m, d)) : stamp s = some (dig 4 y ++ ([45] ++ (dig 2 m ++ ([45] ++ (dig 2 d ++ ([84] ++ (dig 2 (rest s / 3600) ++ ([58] ++ (dig 2 (rest s / 60 % 60) ++ ([58] ++ (dig 2 (rest s % 60) ++ [90]))))))))))) := by
  unfold stamp
  rw [hc]
  simp only [Option.map_some, dig, digL, base0, List.set, Nat.reduceAdd, List.replicate, List.cons_append, List.nil_append]
end Cv
end Go.Proofs.YtlcfakmbcfdgbaaGreat
namespace Go.Proofs.YtlcfakmbcfdgbaaGreat
open Go.RowKit Go.WideShapes

theorem refLeap18_any (y : Int) (w : World) (hy : 1 ≤ y ∧ y ≤ 9999) : Calls Tryz.prog 98 #[.int .i64 y] w fun e w' => e = .returned (.bool (Cv.leap y)) ∧ w' = w := by
  unfold Cv.leap
  have t1 : Int.tmod y 4 = y % 4 := Int.tmod_eq_emod_of_nonneg (by omega)
  have l1 : 1 ≤ y := hy.1
  have l2 : y ≤ 9999 := hy.2
  have t2 : Int.tmod y 100 = y % 100 := Int.tmod_eq_emod_of_nonneg (by omega)
  have t3 : Int.tmod y 400 = y % 400 := Int.tmod_eq_emod_of_nonneg (by omega)
  obtain ⟨a, ha⟩ : ∃ a, y % 4 = a := ⟨_, rfl⟩
  obtain ⟨b, hb⟩ : ∃ b, y % 100 = b := ⟨_, rfl⟩
  obtain ⟨c, hc⟩ : ∃ c, y % 400 = c := ⟨_, rfl⟩
  rw [ha] at t1
  rw [hb] at t2
  rw [hc] at t3
  rw [ha, hb, hc]
  have HCa := hide (show c = 0 → a = 0 by omega)
  clear ha hb hc
  by_cases h1 : a = 0
  · have d1 : (a == 0) = true := by simp [h1]
    by_cases h2 : b = 0
    · have d2 : (b == 0) = true := by simp [h2]
      have d2n : (b != 0) = false := by simp [h2]
      have HV := hide (show (decide (a = 0) && (!decide (b = 0) || decide (c = 0))) = (c == 0) by rw [decide_eq_true h1, decide_eq_true h2]; simp; rfl)
      rw [HV.out]
      clear h1 h2
      go_enter Tryz.func98, Tryz.ntmps98
      go_wp2
      go_ret
      exact ⟨rfl, rfl⟩
    · have d2 : (b == 0) = false := by simp [h2]
      have d2n : (b != 0) = true := by simp [h2]
      have HV := hide (show (decide (a = 0) && (!decide (b = 0) || decide (c = 0))) = true by rw [decide_eq_true h1, decide_eq_false h2]; rfl)
      rw [HV.out]
      clear h1 h2
      go_enter Tryz.func98, Tryz.ntmps98
      go_wp2
      go_ret
      exact ⟨rfl, rfl⟩
  · have d1 : (a == 0) = false := by simp [h1]
    have HV := hide (show (decide (a = 0) && (!decide (b = 0) || decide (c = 0))) = false by rw [decide_eq_false h1]; rfl)
    rw [HV.out]
    have d3 : (c == 0) = false := by
      have : c ≠ 0 := fun h => h1 (HCa.out h)
      simp [this]
    clear h1
    go_enter Tryz.func98, Tryz.ntmps98
    go_wp2
    go_ret
    exact ⟨rfl, rfl⟩
set_option maxHeartbeats 4000000 in
theorem refLast18_any (y m : Int) (w : World) (hy : 1 ≤ y ∧ y ≤ 9999) (hm : 1 ≤ m ∧ m ≤ 12) : Calls Tryz.prog 78 #[.int .i64 y, .int .i64 m] w fun e w' => e = .returned (.int .i64 (Cv.last y m)) ∧ w' = w := by
  have HL := hide (fun W => refLeap18_any y W hy)
  have h1 : ¬ y < 1 := by omega
  have h2 : ¬ 9999 < y := by omega
  rcases (by omega : m = 1 ∨ m = 2 ∨ m = 3 ∨ m = 4 ∨ m = 5 ∨ m = 6 ∨ m = 7 ∨ m = 8 ∨ m = 9 ∨ m = 10 ∨ m = 11 ∨ m = 12) with rfl | rfl | rfl | rfl | rfl | rfl | rfl | rfl | rfl | rfl | rfl | rfl
  · rw [show Cv.last y 1 = 31 by unfold Cv.last; simp]
    go_enter Tryz.func78, Tryz.ntmps78
    go_wp2
    go_ret
    exact ⟨rfl, rfl⟩
  · unfold Cv.last
    rw [if_pos rfl]
    cases hl : Cv.leap y with
    | true =>
      rw [hl] at HL
      rw [if_pos rfl]
      clear hl
      go_enter Tryz.func78, Tryz.ntmps78
      go_wp2_with fail
      go_wp2_with fail
      refine cq (HL.out _) ?_
      dsimp only
      go_wp2
      go_ret
      exact ⟨rfl, rfl⟩
    | false =>
      rw [hl] at HL
      rw [if_neg (by simp)]
      clear hl
      go_enter Tryz.func78, Tryz.ntmps78
      go_wp2_with fail
      go_wp2_with fail
      refine cq (HL.out _) ?_
      dsimp only
      go_wp2
      go_ret
      exact ⟨rfl, rfl⟩
  · rw [show Cv.last y 3 = 31 by unfold Cv.last; simp]
    go_enter Tryz.func78, Tryz.ntmps78
    go_wp2
    go_ret
    exact ⟨rfl, rfl⟩
  · rw [show Cv.last y 4 = 30 by unfold Cv.last; simp]
    go_enter Tryz.func78, Tryz.ntmps78
    go_wp2
    go_ret
    exact ⟨rfl, rfl⟩
  · rw [show Cv.last y 5 = 31 by unfold Cv.last; simp]
    go_enter Tryz.func78, Tryz.ntmps78
    go_wp2
    go_ret
    exact ⟨rfl, rfl⟩
  · rw [show Cv.last y 6 = 30 by unfold Cv.last; simp]
    go_enter Tryz.func78, Tryz.ntmps78
    go_wp2
    go_ret
    exact ⟨rfl, rfl⟩
  · rw [show Cv.last y 7 = 31 by unfold Cv.last; simp]
    go_enter Tryz.func78, Tryz.ntmps78
    go_wp2
    go_ret
    exact ⟨rfl, rfl⟩
  · rw [show Cv.last y 8 = 31 by unfold Cv.last; simp]
    go_enter Tryz.func78, Tryz.ntmps78
    go_wp2
    go_ret
    exact ⟨rfl, rfl⟩
  · rw [show Cv.last y 9 = 30 by unfold Cv.last; simp]
    go_enter Tryz.func78, Tryz.ntmps78
    go_wp2
    go_ret
    exact ⟨rfl, rfl⟩
  · rw [show Cv.last y 10 = 31 by unfold Cv.last; simp]
    go_enter Tryz.func78, Tryz.ntmps78
    go_wp2
    go_ret
    exact ⟨rfl, rfl⟩
  · rw [show Cv.last y 11 = 30 by unfold Cv.last; simp]
    go_enter Tryz.func78, Tryz.ntmps78
    go_wp2
    go_ret
    exact ⟨rfl, rfl⟩
  · rw [show Cv.last y 12 = 31 by unfold Cv.last; simp]
    go_enter Tryz.func78, Tryz.ntmps78
    go_wp2
    go_ret
    exact ⟨rfl, rfl⟩
theorem refAhead_any (y : Int) (w : World) (hy : 1 ≤ y ∧ y ≤ 10000) : Calls Tryz.prog 77 #[.int .i64 y] w fun e w' => e = .returned (.int .i64 (Cv.ahead y)) ∧ w' = w := by
  unfold Cv.ahead
  obtain ⟨z, hz⟩ : ∃ z, y - 1 = z := ⟨_, rfl⟩
  have z0 : 0 ≤ z ∧ z ≤ 9999 := by omega
  have zw : IntKind.i64.wrap (y - 1) = z := by rw [IntWalk.i64_in _ (by omega)]; omega
  rw [hz]
  have q1 : Int.tdiv z 4 = z / 4 := Int.tdiv_eq_ediv_of_nonneg z0.1
  have q2 : Int.tdiv z 100 = z / 100 := Int.tdiv_eq_ediv_of_nonneg z0.1
  have q3 : Int.tdiv z 400 = z / 400 := Int.tdiv_eq_ediv_of_nonneg z0.1
  obtain ⟨a, ha⟩ : ∃ a, z / 4 = a := ⟨_, rfl⟩
  obtain ⟨b, hb⟩ : ∃ b, z / 100 = b := ⟨_, rfl⟩
  obtain ⟨c, hc⟩ : ∃ c, z / 400 = c := ⟨_, rfl⟩
  have b1 : 0 ≤ a ∧ a ≤ 3000 := by omega
  have b2 : 0 ≤ b ∧ b ≤ 100 := by omega
  have b3 : 0 ≤ c ∧ c ≤ 30 := by omega
  rw [ha, hb, hc]
  rw [ha] at q1
  rw [hb] at q2
  rw [hc] at q3
  have wa : IntKind.i64.wrap a = a := IntWalk.i64_in _ (by omega)
  have wb : IntKind.i64.wrap b = b := IntWalk.i64_in _ (by omega)
  have wc : IntKind.i64.wrap c = c := IntWalk.i64_in _ (by omega)
  have w1 : IntKind.i64.wrap (365 * z) = 365 * z := IntWalk.i64_in _ (by omega)
  have w2 : IntKind.i64.wrap (365 * z + a) = 365 * z + a := IntWalk.i64_in _ (by omega)
  have w3 : IntKind.i64.wrap (365 * z + a - b) = 365 * z + a - b := IntWalk.i64_in _ (by omega)
  have w4 : IntKind.i64.wrap (365 * z + a - b + c) = 365 * z + a - b + c := IntWalk.i64_in _ (by omega)
  clear ha hb hc hz b1 b2 b3 z0
  go_enter Tryz.func77, Tryz.ntmps77
  go_wp2
  go_ret
  exact ⟨rfl, rfl⟩
end Go.Proofs.YtlcfakmbcfdgbaaGreat
namespace Go.Proofs.YtlcfakmbcfdgbaaGreat
open Go.RowKit Go.WideShapes

theorem row_wk : (59 : TypeId) < Tryz.prog.types.size := of_decide_eq_true (by kernel_rfl)
theorem at_wk : Tryz.prog.keyTypeAt 2 59 = true := by kernel_rfl
theorem key_wk : WideMaps.KeyLaw Tryz.prog 59 := deep_law_laid laidOut_n (m := 2) (by decide) row_wk at_wk (by rw [Tryz.underlying59])
theorem law_wk : Maps.Keyed Tryz.prog 59 := Maps.Keyed.of_law key_wk
theorem cells_wk : Tryz.prog.cellsOf 59 = 1 := by kernel_rfl
theorem keyT_wk : Tryz.prog.keyType 59 = true := by kernel_rfl
def wkV (l : List UInt8) : Value := .agg #[.string (bstr l)]
def klW (l : List UInt8) : Lit := .string (keyBytes [.string l])
theorem cells_ws : Tryz.prog.cellsOf 9 = 1 := by kernel_rfl
theorem keyOf_wk (l : List UInt8) (hl : l.length ≤ 1000000) : keyOf Tryz.prog 59 (wkV l) = some (klW l) := by
  obtain ⟨m, hm⟩ := types_pr
  have hsz : (bstr l).size ≤ maxLen := by rw [bstr_size]; unfold maxLen; omega
  unfold keyOf wkV
  simp only [Tryz.underlying59]
  rw [if_pos (by simp [keyT_wk, Value.formed, Tryz.underlying59, cells_wk]), hm]
  unfold Program.keyLits
  simp only [Tryz.underlying59, Value.cells]
  simp [cells_wk, cells_ws, Program.keyLits, Tryz.underlying9, List.range_succ, List.mapM_cons, klW, hsz, bstr_list]
theorem wkV_inj {x y : List UInt8} (h : wkV x = wkV y) : x = y := by
  unfold wkV bstr at h
  simpa using h
theorem klW_inj {x y : List UInt8} (hx : x.length ≤ 1000000) (hy : y.length ≤ 1000000) (h : klW x = klW y) : x = y :=
  wkV_inj (key_wk.inj (keyOf_wk x hx) (by rw [h]; exact keyOf_wk y hy))
theorem plain_bool_inv {H : Type} {e : TypeId} (he : Tryz.prog.underlying e = some .bool) {v : Value} {z : DataW H × List MemPlace} (h : plainElem Tryz.prog e v = some z) : ∃ x, v = .bool x ∧ z = (.lit (.bool x), []) := by
  unfold plainElem at h
  rw [he] at h
  cases v <;> simp at h
  subst h
  exact ⟨_, rfl, rfl⟩
theorem zero_bool (w : World) : (zeroValue 4).run Tryz.prog w = .ok (.bool false) w := by kernel_rfl
/-- 'm[k]' at elements that are bools. -/
theorem lookup_bool {w : World} {b n : Nat} {D : DataW Unit} (h : w.ownsMap Tryz.prog 59 (plainElem Tryz.prog 4) b n D) {key : Value} {kl : Lit} (hkey : keyOf Tryz.prog 59 key = some kl) :
    ∃ c, (Instr.lookup 57 (.map (some b)) key false).run Tryz.prog w = .ok (.bool c) w ∧ D.atKey kl (.lit (.bool false)) = .lit (.bool c) := by
  obtain ⟨v, ps, hrun, hv⟩ := h.lookup law_wk Tryz.underlying57 (zero_bool w) (plainElem_bool Tryz.underlying4 false) hkey
  obtain ⟨c, rfl, hc⟩ := plain_bool_inv Tryz.underlying4 hv
  simp only [Prod.mk.injEq] at hc
  exact ⟨c, hrun, hc.1⟩
/-- The map of what was seen: its datum. -/
structure Seen (W : World) (mb n : Nat) (seen : List (List UInt8)) (D : DataW Unit) : Prop where
  own : W.ownsMap Tryz.prog 59 (plainElem Tryz.prog 4) mb n D
  is : Maps.IsMap D
  ok : ∀ x : List UInt8, x.length ≤ 1000000 → D.atKey (klW x) (.lit (.bool false)) = .lit (.bool (seen.contains x))
theorem Seen.new (w : World) : Seen (w.alloc (.map #[] 0)) w.heap.size 0 [] (.map []) := ⟨World.ownsMap_made _ _ _ _, Maps.isMap_empty, fun _ _ => rfl⟩
theorem Seen.same {W W' : World} {mb n : Nat} {seen : List (List UInt8)} {D : DataW Unit} (h : Seen W mb n seen D) (e : W'.heap[mb]? = W.heap[mb]?) : Seen W' mb n seen D := ⟨map_sameN h.own e, h.is, h.ok⟩
theorem Seen.lt {W : World} {mb n : Nat} {seen : List (List UInt8)} {D : DataW Unit} (h : Seen W mb n seen D) : mb < W.heap.size := h.own.lt
theorem Seen.next {W W' : World} {mb n : Nat} {seen : List (List UInt8)} {D : DataW Unit} {x : List UInt8} (h : Seen W mb n seen D) (hx : x.length ≤ 1000000) (ho : W'.ownsMap Tryz.prog 59 (plainElem Tryz.prog 4) mb (n + 1) (D.put (klW x) (.lit (.bool true)))) : Seen W' mb (n + 1) (x :: seen) (D.put (klW x) (.lit (.bool true))) := by
  refine ⟨ho, h.is.put _ _, fun y hy => ?_⟩
  by_cases hm : y = x
  · subst hm
    rw [Maps.atKey_put_same h.is (k := klW y) (by simp [WideAt.IsKeyLit, klW])]
    simp
  · rw [Maps.atKey_put_other (fun e => hm (klW_inj hy hx e)), h.ok y hy, List.contains_cons]
    have : (y == x) = false := by simpa using hm
    rw [this, Bool.false_or]
theorem Seen.find {W : World} {mb n : Nat} {seen : List (List UInt8)} {D : DataW Unit} (h : Seen W mb n seen D) {x : List UInt8} (hx : x.length ≤ 1000000) :
    (Instr.lookup 57 (.map (some mb)) (wkV x) false).run Tryz.prog W = .ok (.bool (seen.contains x)) W := by
  obtain ⟨c, hr, hc⟩ := lookup_bool h.own (keyOf_wk x hx)
  rw [h.ok x hx] at hc
  simp only [DataW.lit.injEq, Lit.bool.injEq] at hc
  subst hc
  exact hr
end Go.Proofs.YtlcfakmbcfdgbaaGreat
namespace Go.Proofs.YtlcfakmbcfdgbaaGreat
open Go.RowKit Go.WideShapes

namespace Wr
def mayE (seen : List (List UInt8)) (x : Ent) : Bool := !x.id.isEmpty && !seen.contains x.id && [x.id, x.title, x.link, x.author].all Tx.isLine && Tx.isBlock x.content && whenP x.k x.s
def mayEs : List (List UInt8) → List Ent → Bool
  | _, [] => true
  | seen, x :: es => mayE seen x && mayEs (x.id :: seen) es
def may (f : Fd) : Bool := [f.id, f.title, f.link].all Tx.isLine && whenP f.k f.s && decide (f.es.length ≤ 16) && mayEs [] f.es
end Wr
/-- No text of a feed is too long. -/
structure Fd.Ok (f : Fd) : Prop where
  id : f.id.length ≤ 20000
  title : f.title.length ≤ 20000
  link : f.link.length ≤ 20000
  s : (Lit.int .i64 f.s).wf = true
  es : ∀ x ∈ f.es, x.Ok
/-- lines, of a row just built. -/
theorem lines_n (ls : List (List UInt8)) (n : Nat) (w : World) (hn : ls.length = n) (hn2 : n ≤ 100) (hl : ∀ l ∈ ls, l.length ≤ 200000) :
    Calls Tryz.prog 24 #[.slice (some ⟨w.heap.size, 0, none⟩) n n] (w.alloc (.cells (strVs ls) 9)) fun e w' => e = .returned (.bool (ls.all Tx.isLine)) ∧ Below w.heap.size w w' := by
  refine (lines_any ls _ n n _ (Blk.new w _ _) hn hn2 hl).mono ?_
  rintro e w' ⟨h1, h2⟩
  exact ⟨h1, (below_alloc w _).trans (h2.mono (by simp))⟩
set_option maxRecDepth 100000 in
set_option maxHeartbeats 8000000 in
theorem May_any (f : Fd) (A : Option Addr) (n c B : Nat) (w : World) (hR : Reads w B 7 A n (entVs f.es)) (hn : f.es.length = n) (hB : B ≤ w.heap.size) (hm : n ≤ maxLen) (hok : f.Ok) :
    Calls Tryz.prog 8 #[.agg (f.cells A n c)] w fun e w' => e = .returned (.bool (Wr.may f)) ∧ Below w.heap.size w w' := by
  obtain ⟨id, ti, lk, k, s, es⟩ := f
  obtain ⟨h1, h2, h3, hs, hes⟩ := hok
  dsimp only at hR hn h1 h2 h3 hs hes
  have HO := hide (below_alloc w (.cells (Fd.cells ⟨id, ti, lk, k, s, es⟩ A n c) 26))
  have HT := hide (Blk.new w 26 (Fd.cells ⟨id, ti, lk, k, s, es⟩ A n c))
  have HRd := hide hR
  have Hn := hide hn
  have Hes := hide hes
  have hm' : (n : Int) ≤ 9223372036854775807 := by unfold maxLen at hm; omega
  have HL := hide (fun W => lines_n [id, ti, lk] 3 W rfl (by omega) (by intro l hl; simp at hl; rcases hl with rfl | rfl | rfl <;> omega))
  have HW := hide (fun W => when_any k s W hs)
  clear hR hn hes
  unfold Fd.cells at HO HT ⊢
  dsimp only at HO HT ⊢
  have t0 := HT.out.cell 0
  have hl0 := HL.out (w.alloc (.cells #[.string (bstr id), .string (bstr ti), .string (bstr lk), .bool k, .int .i64 s, .slice A n c] 26))
  rw [World.size_alloc] at hl0
  have HL0 := hide hl0
  clear hl0 t0
  go_enter Tryz.func8, Tryz.ntmps8
  go_wp2_with fail
  refine HL0.out.mono ?_
  rintro e w1 ⟨rfl, hb1⟩
  have hz1 : w.heap.size + 1 ≤ w1.heap.size := by have := hb1.size; simp at this; omega
  have HT1 := hide (HT.out.go (by simpa using hb1))
  have HB1 := hide (HO.out.trans (hb1.mono (by first | exact Nat.le_succ _ | exact HO.out.size)))
  clear hb1
  have t3 := HT1.out.cell 3
  have t4 := HT1.out.cell 4
  have t5 := HT1.out.cell 5
  have HV := hide (show Wr.may ⟨id, ti, lk, k, s, es⟩ = ([id, ti, lk].all Tx.isLine && whenP k s && decide (n ≤ 16) && Wr.mayEs [] es) by unfold Wr.may; dsimp only; rw [Hn.out])
  cases hq : [id, ti, lk].all Tx.isLine with
  | false =>
    rw [hq] at HV
    clear hq
    dsimp only
    go_wp2
    go_ret
    rw [HV.out]
    exact ⟨rfl, HB1.out⟩
  | true =>
    rw [hq] at HV
    clear hq
    dsimp only
    go_wp2_with fail
    refine (HW.out _).mono ?_
    rintro e w2 ⟨rfl, hb2⟩
    have HB2 := hide (HB1.out.trans (hb2.mono HB1.out.size))
    have HT2 := hide (HT1.out.go hb2)
    clear hb2 t3 t4 t5
    have t5 := HT2.out.cell 5
    cases hq : whenP k s with
    | false =>
      rw [hq] at HV
      clear hq
      dsimp only
      go_wp2
      go_ret
      rw [HV.out]
      exact ⟨rfl, HB2.out⟩
    | true =>
      rw [hq] at HV
      clear hq
      by_cases h16 : 16 < n
      · rw [decide_eq_false (show ¬ n ≤ 16 by omega)] at HV
        dsimp only
        go_wp2
        go_ret
        rw [HV.out]
        exact ⟨rfl, HB2.out⟩
      · rw [decide_eq_true (show n ≤ 16 by omega)] at HV
        dsimp only
        have hmm := @run_makeMap Tryz.prog
        have HM0 := hide (Seen.new w2)
        have HT3 := hide (HT2.out.alloc (.map #[] 0))
        have HB3 := hide (HB2.out.alloc HB2.out.size (.map #[] 0))
        have t5b := HT3.out.cell 5
        go_wp2
        clear t5 t5b hmm
        go_loopg [5, 6, 32] n (fun gk v5 v6 v32 wr => ∃ (i m : Nat) (D : DataW Unit), v32 = .int .i64 (i : Int) ∧ gk = n - i ∧ i ≤ n ∧ Seen wr w2.heap.size i ((es.take i).map (·.id)).reverse D ∧ Wr.mayEs [] es = Wr.mayEs ((es.take i).map (·.id)).reverse (es.drop i) ∧ Below w.heap.size w wr)
        case atStart => exact ⟨0, 0, _, rfl, rfl, by omega, HM0.out, rfl, HB3.out⟩
        case round =>
          obtain ⟨i, m, D, rfl, hgk, hin, hsn, heq, hb⟩ := hrel
          have HSn := hide hsn
          have HEq := hide heq
          have HB := hide hb
          have Hgk := hide hgk
          have hszr := hb.size
          clear hsn heq hb hgk
          by_cases hlt : i < n
          · have hil : i < es.length := by rw [Hn.out]; exact hlt
            have hRw : Reads wr B 7 A es.length (entVs es) := by
              rw [Hn.out]
              exact HRd.out.keep fun p hp => World.cell?_of_block (HB.out.block _ (by omega))
            obtain ⟨b, off, rfl, hbB, hx⟩ := hRw.ent hil
            have Hox := hide (Hes.out _ (List.getElem_mem hil))
            have Hdr := hide (show es.drop i = es[i] :: es.drop (i + 1) from List.drop_eq_getElem_cons hil)
            have Htk := hide (show ((es.take (i + 1)).map (·.id)).reverse = es[i].id :: ((es.take i).map (·.id)).reverse by rw [List.take_succ_eq_append_getElem hil, List.map_append, List.reverse_append]; rfl)
            obtain ⟨x, hxe⟩ : ∃ x, es[i] = x := ⟨_, rfl⟩
            rw [hxe] at hx Hox Hdr Htk
            obtain ⟨seen, hseen⟩ : ∃ seen, ((es.take i).map (·.id)).reverse = seen := ⟨_, rfl⟩
            rw [hseen] at HSn HEq Htk
            have HNext := hide (show Wr.mayEs [] es = (Wr.mayE seen x && Wr.mayEs (x.id :: seen) (es.drop (i + 1))) by rw [HEq.out, Hdr.out]; rfl)
            clear hxe hseen Hdr HEq hRw
            obtain ⟨xi, xt, xl, xa, xc, xk, xs⟩ := x
            have x0 := hx.c0
            have x1 := hx.c1
            have x2 := hx.c2
            have x3 := hx.c3
            have x4 := hx.c4
            have x5 := hx.c5
            have x6 := hx.c6
            clear hx
            dsimp only at x0 x1 x2 x3 x4 x5 x6
            have hxi : xi.length ≤ 1000000 := by have := Hox.out.id; dsimp only at this; omega
            have HSk := hide (HSn.out.same (W' := (wr.alloc (.cells #[.string (bstr xi), .string (bstr xt), .string (bstr xl), .string (bstr xa), .string (bstr xc), .bool xk, .int .i64 xs] 36)).alloc (.cells #[.string (bstr xi)] 59)) (((below_alloc _ _).block _ (by have := HSn.out.lt; simp; omega)).trans ((below_alloc wr _).block _ HSn.out.lt)))
            have hfind := HSk.out.find hxi
            unfold wkV at hfind
            have HEnd0 := hide (show Wr.mayE seen ⟨xi, xt, xl, xa, xc, xk, xs⟩ = false → Wr.may ⟨id, ti, lk, k, s, es⟩ = false from fun h => by rw [HV.out, HNext.out, h]; rfl)
            have HBk := hide (HB.out.trans ((below_alloc wr (.cells #[.string (bstr xi), .string (bstr xt), .string (bstr xl), .string (bstr xa), .string (bstr xc), .bool xk, .int .i64 xs] 36)).mono HB.out.size))
            have HBk2 := hide (HBk.out.trans ((below_alloc _ (.cells #[.string (bstr xi)] 59)).mono HBk.out.size))
            clear HBk
            obtain ⟨W0, hW0⟩ : ∃ W0, (wr.alloc (.cells #[.string (bstr xi), .string (bstr xt), .string (bstr xl), .string (bstr xa), .string (bstr xc), .bool xk, .int .i64 xs] 36)).alloc (.cells #[.string (bstr xi)] 59) = W0 := ⟨_, rfl⟩
            have HKE := hide (show Blk W0 wr.heap.size 36 #[.string (bstr xi), .string (bstr xt), .string (bstr xl), .string (bstr xa), .string (bstr xc), .bool xk, .int .i64 xs] by rw [← hW0]; exact (Blk.new wr _ _).go (below_alloc _ _))
            have HKK := hide (show Blk W0 (wr.heap.size + 1) 59 #[.string (bstr xi)] by
              rw [← hW0]
              have h := Blk.new (wr.alloc (.cells #[.string (bstr xi), .string (bstr xt), .string (bstr xl), .string (bstr xa), .string (bstr xc), .bool xk, .int .i64 xs] 36)) 59 #[.string (bstr xi)]
              rwa [World.size_alloc] at h)
            have HSz := hide (show W0.heap.size = wr.heap.size + 2 by rw [← hW0]; simp)
            have HSk2 := hide (show Seen W0 w2.heap.size i seen D by rw [← hW0]; exact HSk.out)
            have HBk3 := hide (show Below w.heap.size w W0 by rw [← hW0]; exact HBk2.out)
            have HW0 := hide hW0
            clear hW0
            cases xi with
            | nil =>
              have HF := hide (HEnd0.out rfl)
              have emp : (bstr ([] : List UInt8)).toList.isEmpty = true := Wr.emp _
              go_wp2
              go_ret
              rw [HF.out]
              exact ⟨rfl, HBk2.out⟩
            | cons c1 xi =>
              have emp : (bstr (c1 :: xi)).toList.isEmpty = false := Wr.emp _
              cases hc : seen.contains (c1 :: xi) with
              | true =>
                have HF := hide (HEnd0.out (by unfold Wr.mayE; dsimp only; rw [hc]; rfl))
                rw [hc] at hfind
                clear hc
                go_wp2
                go_ret
                rw [HF.out]
                exact ⟨rfl, HBk2.out⟩
              | false =>
                rw [hc] at hfind
                have Hc := hide hc
                clear hc
                have hl4 := lines_n [c1 :: xi, xt, xl, xa] 4 ((wr.alloc (.cells #[.string (bstr (c1 :: xi)), .string (bstr xt), .string (bstr xl), .string (bstr xa), .string (bstr xc), .bool xk, .int .i64 xs] 36)).alloc (.cells #[.string (bstr (c1 :: xi))] 59)) rfl (by omega) (by
                  obtain ⟨g1, g2, g3, g4, g5, g6⟩ := Hox.out
                  dsimp only at g1 g2 g3 g4
                  intro l hl
                  simp only [List.mem_cons, List.not_mem_nil, or_false] at hl
                  rcases hl with rfl | rfl | rfl | rfl <;> omega)
                have HLf := hide hl4
                simp only [World.size_alloc] at hl4
                have HL4 := hide hl4
                clear hl4 HLf
                go_wp2_with fail
                refine HL4.out.mono ?_
                rintro e w4 ⟨rfl, hb4⟩
                rw [HW0.out] at hb4
                have HB4 := hide (show Below W0.heap.size W0 w4 by rw [HSz.out]; exact hb4)
                clear hb4
                have e4 := (HKE.out.go HB4.out).cell 4
                cases hq : [c1 :: xi, xt, xl, xa].all Tx.isLine with
                | false =>
                  have HF := hide (HEnd0.out (by unfold Wr.mayE; dsimp only; rw [hq]; simp))
                  clear hq
                  dsimp only
                  go_wp2
                  go_ret
                  rw [HF.out]
                  exact ⟨rfl, HBk3.out.trans (HB4.out.mono HBk3.out.size)⟩
                | true =>
                  have Hq4 := hide hq
                  clear hq
                  have HIB := hide (isBlock_any xc w4 (by have := Hox.out.content; dsimp only at this; omega))
                  dsimp only
                  go_wp2_with fail
                  refine HIB.out.mono ?_
                  rintro e w5 ⟨rfl, hb5⟩
                  have HB5 := hide (HB4.out.trans (hb5.mono HB4.out.size))
                  clear hb5 e4
                  have e5 := (HKE.out.go HB5.out).cell 5
                  have e6 := (HKE.out.go HB5.out).cell 6
                  cases hq : Tx.isBlock xc with
                  | false =>
                    have HF := hide (HEnd0.out (by unfold Wr.mayE; dsimp only; rw [hq]; simp))
                    clear hq
                    dsimp only
                    go_wp2
                    go_ret
                    rw [HF.out]
                    exact ⟨rfl, HBk3.out.trans (HB5.out.mono HBk3.out.size)⟩
                  | true =>
                    have Hq5 := hide hq
                    clear hq
                    have HWn := hide (when_any xk xs w5 (by have := Hox.out.s; exact this))
                    dsimp only
                    go_wp2_with fail
                    refine HWn.out.mono ?_
                    rintro e w6 ⟨rfl, hb6⟩
                    have HB6 := hide (HB5.out.trans (hb6.mono HB5.out.size))
                    clear hb6 e5 e6
                    cases hq : whenP xk xs with
                    | false =>
                      have HF := hide (HEnd0.out (by unfold Wr.mayE; dsimp only; rw [hq]; simp))
                      clear hq
                      dsimp only
                      go_wp2
                      go_ret
                      rw [HF.out]
                      exact ⟨rfl, HBk3.out.trans (HB6.out.mono HBk3.out.size)⟩
                    | true =>
                      have HE1 := hide (show Wr.mayE seen ⟨c1 :: xi, xt, xl, xa, xc, xk, xs⟩ = true by unfold Wr.mayE; dsimp only; rw [Hc.out, Hq4.out, Hq5.out, hq]; rfl)
                      clear hq
                      have HS6 := hide (HSk2.out.same (HB6.out.block _ HSk2.out.lt))
                      have k0 := (HKK.out.go HB6.out).cell 0
                      have hnb : i < maxLen := by unfold maxLen; omega
                      dsimp only
                      go_wp2_with (at_mapUpdate; refine wpList_mapUpdate_own _ rfl _ _ _ 57 rfl 59 4 law_wk Tryz.underlying57 _ w2.heap.size i D rfl HS6.out.own hnb _ _ _ (by rfl) (by rfl) (keyOf_wk (c1 :: xi) hxi) _ [] (plainElem_bool Tryz.underlying4 true) ?_; intro w8 hown8 hgrow8)
                      have HS8 := hide (HS6.out.next hxi hown8)
                      have HB8 := hide ((HBk3.out.trans (HB6.out.mono HBk3.out.size)).grown hgrow8 (Nat.le_trans HBk3.out.size HB6.out.size) (fun k hk => by injection hk with hk; rw [← hk]; exact HB2.out.size))
                      clear hown8 hgrow8
                      go_wp2
                      go_roundg (n - (i + 1))
                      case measure => have := Hgk.out; omega
                      case rel => exact ⟨i + 1, 0, _, by first | rfl | go_num, rfl, by omega, by rw [Htk.out]; exact HS8.out, by rw [Htk.out, HNext.out, HE1.out]; rfl, HB8.out⟩
          · have hi' : i = n := by omega
            have hd : es.drop i = [] := List.drop_eq_nil_of_le (by rw [Hn.out]; omega)
            have HF := hide (show Wr.may ⟨id, ti, lk, k, s, es⟩ = true by rw [HV.out, HEq.out, hd]; rfl)
            clear hd
            subst hi'
            go_wp2
            go_ret
            rw [HF.out]
            exact ⟨rfl, HB.out⟩
end Go.Proofs.YtlcfakmbcfdgbaaGreat
namespace Go.Proofs.YtlcfakmbcfdgbaaGreat
open Go.RowKit

namespace Wr
end Wr
end Go.Proofs.YtlcfakmbcfdgbaaGreat
