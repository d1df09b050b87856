/- References: text escaped (refs.Escape). Printed by genTxF.py. · write.*: lines, when, put, field. · Days and seconds (civil): count, Leap, Last. · Days and seconds (civil): Last, Date. Printed by genCvB.py. -/
import Derived.Test.YtheaknghgpafpaaWv15
set_option linter.unusedSimpArgs false
set_option linter.unusedVariables false
namespace Go.Proofs.Ytheaknghgpafpaa
open Go.RowKit Go.WideShapes

namespace Tx
/-- A byte as it is written. -/
def esc (q : Bool) (c : UInt8) : List UInt8 :=
  if c = 38 then [38, 97, 109, 112, 59] else if c = 60 then [38, 108, 116, 59] else if c = 62 then [38, 103, 116, 59] else if c = 13 then [38, 35, 49, 51, 59]
  else if q = true ∧ c = 34 then [38, 113, 117, 111, 116, 59] else if q = true ∧ c = 9 then [38, 35, 57, 59] else if q = true ∧ c = 10 then [38, 35, 49, 48, 59] else [c]
def escape (q : Bool) (l : List UInt8) : List UInt8 := l.flatMap (esc q)
theorem esc_len (q : Bool) (c : UInt8) : (esc q c).length ≤ 6 := by
  unfold esc
  repeat' split
  all_goals simp
theorem escape_len (q : Bool) (l : List UInt8) : (escape q l).length ≤ 6 * l.length := by
  unfold escape
  induction l with
  | nil => simp
  | cons c l ih => rw [List.flatMap_cons, List.length_append, List.length_cons]; have := esc_len q c; omega
theorem escape_next {q : Bool} {l : List UInt8} {j : Nat} {c : UInt8} (h : l[j]? = some c) : escape q (l.take (j + 1)) = escape q (l.take j) ++ esc q c := by
  unfold escape
  rw [List.take_add_one, h, List.flatMap_append]
  simp
end Tx
theorem Bf.go {B b : Nat} {l : List UInt8} {r : Option Nat} {w w' : World} (h : Bf B b l r w) (hb : Below w.heap.size w w') : Bf B b l r w' := by
  obtain ⟨hB, p, v, hp, hk, ho, hr⟩ := h
  exact ⟨hB, p, v, hp, hk.go hb, uown_go ho hb, hr⟩
theorem bf_cell {B b g j : Nat} {l : List UInt8} {r : Option Nat} {w : World} {k : IntKind} {z : Int} (h : Bf B b l r w) (hc : w.cell? ⟨g, j, none⟩ = some (.int k z)) : g ≠ b := by
  rintro rfl
  obtain ⟨_, p, v, hp, hk, ho, _⟩ := h
  rw [hk.cell] at hc
  obtain ⟨A, c, rfl⟩ := own_form ho
  match j, hc with
  | 0, hc => rcases hp with rfl | rfl <;> simp at hc
  | 1, hc => simp at hc
  | j + 2, hc => simp at hc
theorem Bg.below {W0 W : World} {B b : Nat} {l : List UInt8} {w : World} (h : Bg W0 B b none l W) (hb : Below B w W0) (hB : B ≤ b) (hs : B ≤ W0.heap.size) : Below B w W := by
  obtain ⟨r, _, _, hz⟩ := h
  exact ⟨hz.os.trans hb.os, hz.tape.trans hb.tape, hz.output.trans hb.output, Nat.le_trans hb.size hz.size, fun k hk => (hz.block k (by omega) (by omega) (by simp)).trans (hb.block k hk)⟩
set_option maxRecDepth 100000 in
set_option maxHeartbeats 16000000 in
theorem escape_any (q : Bool) (l : List UInt8) (w : World) (hs : l.length ≤ 1000000000) :
    Calls Try.prog 24 #[.string (bstr l), .bool q] w fun e w' => e = .returned (.string (bstr (Tx.escape q l))) ∧ Below w.heap.size w w' := by
  obtain ⟨W0, g, cap, hconv, hb, hg, hat⟩ := bytes_of (bstr l) (w.alloc (.cells #[.pointer none, .slice none 0 0] 41))
  have HF0 := hide ((Bf.fresh w).go hb)
  have HB0 := hide ((below_alloc w (.cells #[.pointer none, .slice none 0 0] 41)).trans (hb.mono (by simp)))
  have hw0 : w.heap.size < W0.heap.size := Nat.lt_of_lt_of_le (by simp) hb.size
  have HAt := hide hat
  obtain ⟨N, hN⟩ : ∃ N, l.length = N := ⟨_, rfl⟩
  have hsz : (bstr l).size = N := by rw [bstr_size, hN]
  rw [hsz] at hconv
  rw [hN] at hs
  have HN := hide hN
  have HSz := hide hsz
  clear hb hat hN hsz
  go_enter Try.func24, Try.ntmps24
  go_wp2
  go_loopg [11] N (fun gk v11 wr => ∃ j : Nat, gk = N - j ∧ j ≤ N ∧ v11 = .int .i64 (j : Int) ∧ Bg W0 w.heap.size w.heap.size none (Tx.escape q (l.take j)) wr)
  case atStart => exact ⟨0, rfl, by omega, rfl, ⟨none, HF0.out, .inl rfl, Fz.refl _ _ _⟩⟩
  case round =>
    obtain ⟨j, hgk, hj, rfl, hbg⟩ := hrel
    have Hg := hide hgk
    have HBg := hide hbg
    clear hgk hbg
    by_cases hlt : j < N
    · obtain ⟨c, hc⟩ : ∃ c, l[j]? = some c := ⟨_, List.getElem?_eq_getElem (by rw [HN.out]; exact hlt)⟩
      have hc0 := HAt.out j c (by rw [bstr_list]; exact hc)
      have hgb := bf_cell HF0.out hc0
      obtain ⟨r, hbf, hr, hz⟩ := HBg.out
      have y0 : wr.cell? ⟨g, j, none⟩ = some (.int .u8 (c.toNat : Nat)) := by
        have e := hz.block g hg hgb (by simp)
        unfold World.cell? at hc0 ⊢
        dsimp only at hc0 ⊢
        rwa [e]
      have HBf := hide hbf
      have Hr := hide hr
      have HZ := hide hz
      have HE := hide (Tx.escape_next (q := q) hc)
      have hol := Tx.escape_len q (l.take j)
      have hol2 : (Tx.escape q (l.take j)).length ≤ 6000000000 := Nat.le_trans hol (by rw [List.length_take]; omega)
      have hbw : w.heap.size ≤ wr.heap.size := Nat.le_trans (Nat.le_of_lt hw0) hz.size
      have HWs := hide (fun m (h : m.length ≤ 10) => ws_f m HBf.out (by omega) hbw)
      have HWb := hide (wb_f c HBf.out (by omega) hbw)
      clear hc hc0 hbf hr hz hol hol2
      have key : ∀ w2, Bg wr w.heap.size w.heap.size r (Tx.escape q (l.take j) ++ Tx.esc q c) w2 → Bg W0 w.heap.size w.heap.size none (Tx.escape q (l.take (j + 1))) w2 := fun w2 h => by
        rw [HE.out]
        exact Bg.step Hr.out HZ.out h
      have Key := hide key
      clear key

      cases q with
      | true =>
        by_cases hcc : c = 38
        · subst hcc
          have HE2 := hide (show Tx.esc true 38 = [38, 97, 109, 112, 59] by unfold Tx.esc; simp)
          rw [HE2.out] at Key
          clear HWb
          have HW := hide (HWs.out [38, 97, 109, 112, 59] (by decide))
          go_wp2_with fail
          refine HW.out.mono ?_
          rintro e w2 ⟨⟨v, rfl⟩, hb2⟩
          have HB2 := hide hb2
          clear hb2
          dsimp only
          go_wp2
          go_roundg (N - (j + 1))
          case measure => have := Hg.out; omega
          case rel => exact ⟨j + 1, rfl, by omega, by first | rfl | go_num, Key.out _ HB2.out⟩
        have h38 : ((c.toNat : Int) == 38) = false := by
          have : c.toNat ≠ 38 := fun e => hcc (UInt8.toNat_inj.1 e)
          simpa using (show ¬ (c.toNat : Int) = 38 by omega)
        have H38 := hide hcc
        clear hcc
        by_cases hcc : c = 60
        · subst hcc
          have HE2 := hide (show Tx.esc true 60 = [38, 108, 116, 59] by unfold Tx.esc; simp)
          rw [HE2.out] at Key
          clear HWb
          have HW := hide (HWs.out [38, 108, 116, 59] (by decide))
          go_wp2_with fail
          refine HW.out.mono ?_
          rintro e w2 ⟨⟨v, rfl⟩, hb2⟩
          have HB2 := hide hb2
          clear hb2
          dsimp only
          go_wp2
          go_roundg (N - (j + 1))
          case measure => have := Hg.out; omega
          case rel => exact ⟨j + 1, rfl, by omega, by first | rfl | go_num, Key.out _ HB2.out⟩
        have h60 : ((c.toNat : Int) == 60) = false := by
          have : c.toNat ≠ 60 := fun e => hcc (UInt8.toNat_inj.1 e)
          simpa using (show ¬ (c.toNat : Int) = 60 by omega)
        have H60 := hide hcc
        clear hcc
        by_cases hcc : c = 62
        · subst hcc
          have HE2 := hide (show Tx.esc true 62 = [38, 103, 116, 59] by unfold Tx.esc; simp)
          rw [HE2.out] at Key
          clear HWb
          have HW := hide (HWs.out [38, 103, 116, 59] (by decide))
          go_wp2_with fail
          refine HW.out.mono ?_
          rintro e w2 ⟨⟨v, rfl⟩, hb2⟩
          have HB2 := hide hb2
          clear hb2
          dsimp only
          go_wp2
          go_roundg (N - (j + 1))
          case measure => have := Hg.out; omega
          case rel => exact ⟨j + 1, rfl, by omega, by first | rfl | go_num, Key.out _ HB2.out⟩
        have h62 : ((c.toNat : Int) == 62) = false := by
          have : c.toNat ≠ 62 := fun e => hcc (UInt8.toNat_inj.1 e)
          simpa using (show ¬ (c.toNat : Int) = 62 by omega)
        have H62 := hide hcc
        clear hcc
        by_cases hcc : c = 13
        · subst hcc
          have HE2 := hide (show Tx.esc true 13 = [38, 35, 49, 51, 59] by unfold Tx.esc; simp)
          rw [HE2.out] at Key
          clear HWb
          have HW := hide (HWs.out [38, 35, 49, 51, 59] (by decide))
          go_wp2_with fail
          refine HW.out.mono ?_
          rintro e w2 ⟨⟨v, rfl⟩, hb2⟩
          have HB2 := hide hb2
          clear hb2
          dsimp only
          go_wp2
          go_roundg (N - (j + 1))
          case measure => have := Hg.out; omega
          case rel => exact ⟨j + 1, rfl, by omega, by first | rfl | go_num, Key.out _ HB2.out⟩
        have h13 : ((c.toNat : Int) == 13) = false := by
          have : c.toNat ≠ 13 := fun e => hcc (UInt8.toNat_inj.1 e)
          simpa using (show ¬ (c.toNat : Int) = 13 by omega)
        have H13 := hide hcc
        clear hcc
        by_cases hcc : c = 34
        · subst hcc
          have HE2 := hide (show Tx.esc true 34 = [38, 113, 117, 111, 116, 59] by decide)
          rw [HE2.out] at Key
          clear HWb
          have HW := hide (HWs.out [38, 113, 117, 111, 116, 59] (by decide))
          go_wp2_with fail
          refine HW.out.mono ?_
          rintro e w2 ⟨⟨v, rfl⟩, hb2⟩
          have HB2 := hide hb2
          clear hb2
          dsimp only
          go_wp2
          go_roundg (N - (j + 1))
          case measure => have := Hg.out; omega
          case rel => exact ⟨j + 1, rfl, by omega, by first | rfl | go_num, Key.out _ HB2.out⟩
        have h34 : ((c.toNat : Int) == 34) = false := by
          have : c.toNat ≠ 34 := fun e => hcc (UInt8.toNat_inj.1 e)
          simpa using (show ¬ (c.toNat : Int) = 34 by omega)
        have H34 := hide hcc
        clear hcc
        by_cases hcc : c = 9
        · subst hcc
          have HE2 := hide (show Tx.esc true 9 = [38, 35, 57, 59] by decide)
          rw [HE2.out] at Key
          clear HWb
          have HW := hide (HWs.out [38, 35, 57, 59] (by decide))
          go_wp2_with fail
          refine HW.out.mono ?_
          rintro e w2 ⟨⟨v, rfl⟩, hb2⟩
          have HB2 := hide hb2
          clear hb2
          dsimp only
          go_wp2
          go_roundg (N - (j + 1))
          case measure => have := Hg.out; omega
          case rel => exact ⟨j + 1, rfl, by omega, by first | rfl | go_num, Key.out _ HB2.out⟩
        have h9 : ((c.toNat : Int) == 9) = false := by
          have : c.toNat ≠ 9 := fun e => hcc (UInt8.toNat_inj.1 e)
          simpa using (show ¬ (c.toNat : Int) = 9 by omega)
        have H9 := hide hcc
        clear hcc
        by_cases hcc : c = 10
        · subst hcc
          have HE2 := hide (show Tx.esc true 10 = [38, 35, 49, 48, 59] by decide)
          rw [HE2.out] at Key
          clear HWb
          have HW := hide (HWs.out [38, 35, 49, 48, 59] (by decide))
          go_wp2_with fail
          refine HW.out.mono ?_
          rintro e w2 ⟨⟨v, rfl⟩, hb2⟩
          have HB2 := hide hb2
          clear hb2
          dsimp only
          go_wp2
          go_roundg (N - (j + 1))
          case measure => have := Hg.out; omega
          case rel => exact ⟨j + 1, rfl, by omega, by first | rfl | go_num, Key.out _ HB2.out⟩
        have h10 : ((c.toNat : Int) == 10) = false := by
          have : c.toNat ≠ 10 := fun e => hcc (UInt8.toNat_inj.1 e)
          simpa using (show ¬ (c.toNat : Int) = 10 by omega)
        have H10 := hide hcc
        clear hcc
        have HE2 := hide (show Tx.esc true c = [c] by
          unfold Tx.esc
          rw [if_neg H38.out, if_neg H60.out, if_neg H62.out, if_neg H13.out, if_neg (fun h => H34.out h.2), if_neg (fun h => H9.out h.2), if_neg (fun h => H10.out h.2)])
        rw [HE2.out] at Key
        clear HWs
        have HW := hide HWb.out
        go_wp2_with fail
        refine HW.out.mono ?_
        rintro e w2 ⟨rfl, hb2⟩
        have HB2 := hide hb2
        clear hb2
        dsimp only
        go_wp2
        go_roundg (N - (j + 1))
        case measure => have := Hg.out; omega
        case rel => exact ⟨j + 1, rfl, by omega, by first | rfl | go_num, Key.out _ HB2.out⟩
      | false =>
        by_cases hcc : c = 38
        · subst hcc
          have HE2 := hide (show Tx.esc false 38 = [38, 97, 109, 112, 59] by unfold Tx.esc; simp)
          rw [HE2.out] at Key
          clear HWb
          have HW := hide (HWs.out [38, 97, 109, 112, 59] (by decide))
          go_wp2_with fail
          refine HW.out.mono ?_
          rintro e w2 ⟨⟨v, rfl⟩, hb2⟩
          have HB2 := hide hb2
          clear hb2
          dsimp only
          go_wp2
          go_roundg (N - (j + 1))
          case measure => have := Hg.out; omega
          case rel => exact ⟨j + 1, rfl, by omega, by first | rfl | go_num, Key.out _ HB2.out⟩
        have h38 : ((c.toNat : Int) == 38) = false := by
          have : c.toNat ≠ 38 := fun e => hcc (UInt8.toNat_inj.1 e)
          simpa using (show ¬ (c.toNat : Int) = 38 by omega)
        have H38 := hide hcc
        clear hcc
        by_cases hcc : c = 60
        · subst hcc
          have HE2 := hide (show Tx.esc false 60 = [38, 108, 116, 59] by unfold Tx.esc; simp)
          rw [HE2.out] at Key
          clear HWb
          have HW := hide (HWs.out [38, 108, 116, 59] (by decide))
          go_wp2_with fail
          refine HW.out.mono ?_
          rintro e w2 ⟨⟨v, rfl⟩, hb2⟩
          have HB2 := hide hb2
          clear hb2
          dsimp only
          go_wp2
          go_roundg (N - (j + 1))
          case measure => have := Hg.out; omega
          case rel => exact ⟨j + 1, rfl, by omega, by first | rfl | go_num, Key.out _ HB2.out⟩
        have h60 : ((c.toNat : Int) == 60) = false := by
          have : c.toNat ≠ 60 := fun e => hcc (UInt8.toNat_inj.1 e)
          simpa using (show ¬ (c.toNat : Int) = 60 by omega)
        have H60 := hide hcc
        clear hcc
        by_cases hcc : c = 62
        · subst hcc
          have HE2 := hide (show Tx.esc false 62 = [38, 103, 116, 59] by unfold Tx.esc; simp)
          rw [HE2.out] at Key
          clear HWb
          have HW := hide (HWs.out [38, 103, 116, 59] (by decide))
          go_wp2_with fail
          refine HW.out.mono ?_
          rintro e w2 ⟨⟨v, rfl⟩, hb2⟩
          have HB2 := hide hb2
          clear hb2
          dsimp only
          go_wp2
          go_roundg (N - (j + 1))
          case measure => have := Hg.out; omega
          case rel => exact ⟨j + 1, rfl, by omega, by first | rfl | go_num, Key.out _ HB2.out⟩
        have h62 : ((c.toNat : Int) == 62) = false := by
          have : c.toNat ≠ 62 := fun e => hcc (UInt8.toNat_inj.1 e)
          simpa using (show ¬ (c.toNat : Int) = 62 by omega)
        have H62 := hide hcc
        clear hcc
        by_cases hcc : c = 13
        · subst hcc
          have HE2 := hide (show Tx.esc false 13 = [38, 35, 49, 51, 59] by unfold Tx.esc; simp)
          rw [HE2.out] at Key
          clear HWb
          have HW := hide (HWs.out [38, 35, 49, 51, 59] (by decide))
          go_wp2_with fail
          refine HW.out.mono ?_
          rintro e w2 ⟨⟨v, rfl⟩, hb2⟩
          have HB2 := hide hb2
          clear hb2
          dsimp only
          go_wp2
          go_roundg (N - (j + 1))
          case measure => have := Hg.out; omega
          case rel => exact ⟨j + 1, rfl, by omega, by first | rfl | go_num, Key.out _ HB2.out⟩
        have h13 : ((c.toNat : Int) == 13) = false := by
          have : c.toNat ≠ 13 := fun e => hcc (UInt8.toNat_inj.1 e)
          simpa using (show ¬ (c.toNat : Int) = 13 by omega)
        have H13 := hide hcc
        clear hcc
        have HE2 := hide (show Tx.esc false c = [c] by
          unfold Tx.esc
          rw [if_neg H38.out, if_neg H60.out, if_neg H62.out, if_neg H13.out, if_neg (fun h => by cases h.1), if_neg (fun h => by cases h.1), if_neg (fun h => by cases h.1)])
        rw [HE2.out] at Key
        clear HWs
        have HW := hide HWb.out
        go_wp2_with fail
        refine HW.out.mono ?_
        rintro e w2 ⟨rfl, hb2⟩
        have HB2 := hide hb2
        clear hb2
        dsimp only
        go_wp2
        go_roundg (N - (j + 1))
        case measure => have := Hg.out; omega
        case rel => exact ⟨j + 1, rfl, by omega, by first | rfl | go_num, Key.out _ HB2.out⟩
    · have hjN : j = N := by omega
      subst hjN
      obtain ⟨r, hbf, hr, hz⟩ := HBg.out
      have hbw : w.heap.size ≤ wr.heap.size := Nat.le_trans (Nat.le_of_lt hw0) hz.size
      have HS := hide (hbf.bx.str hbw)
      have HBl := hide (HBg.out.below HB0.out (Nat.le_refl _) (Nat.le_of_lt hw0))
      clear hbf hr hz
      rw [List.take_of_length_le (by rw [HN.out]; exact Nat.le_refl _)] at HS
      go_wp2_with fail
      refine HS.out.mono ?_
      rintro e w2 ⟨rfl, hb2⟩
      have HB2 := hide (HBl.out.trans hb2)
      clear hb2
      dsimp only
      go_wp2
      go_ret
      exact ⟨rfl, HB2.out⟩
end Go.Proofs.Ytheaknghgpafpaa
namespace Go.Proofs.Ytheaknghgpafpaa
open Go.RowKit Go.WideShapes

theorem own_go2 {w w' : World} {base size n : Nat} {e : TypeId} {v : Value} {xs : List Value} (h : w.ownsRow base e size v n xs) (hb : Below w.heap.size w w') : w'.ownsRow base e size v n xs := by
  refine ⟨h.1, ?_⟩
  rcases h.2 with hn | ⟨g, cap, cur, rfl, hbg, hg, rest⟩
  · exact .inl hn
  · exact .inr ⟨g, cap, cur, rfl, hbg, (hb.block g (Blk.lt (t := e) hg)).trans hg, rest⟩
theorem Wf.go {B b : Nat} {l : List UInt8} {r : Option Nat} {w w' : World} (h : Wf B b l r w) (hb : Below w.heap.size w w') : Wf B b l r w' := by
  obtain ⟨hB, p, v, hp, hk, ho, hr⟩ := h
  exact ⟨hB, p, v, hp, hk.go hb, own_go2 ho hb, hr⟩
theorem Fz.of_below {b : Nat} {r : Option Nat} {w w' : World} (hb : Below w.heap.size w w') : Fz b r w w' := ⟨hb.os, hb.tape, hb.output, hb.size, fun k hk _ _ => hb.block k hk⟩
/-- From a world on, after calls that left all alone. -/
theorem Wg.after {B b : Nat} {r : Option Nat} {l : List UInt8} {w w' w2 : World} (hb : Below w.heap.size w w') (h : Wg w' B b r l w2) : Wg w B b r l w2 := Wg.step (.inl rfl) (Fz.of_below hb) h
theorem Wg.go {B b : Nat} {r : Option Nat} {l : List UInt8} {w w1 w2 : World} (h : Wg w B b r l w1) (hb : Below w1.heap.size w1 w2) : Wg w B b r l w2 := by
  obtain ⟨r', hf, hr, hz⟩ := h
  exact ⟨r', hf.go hb, hr, ⟨hb.os.trans hz.os, hb.tape.trans hz.tape, hb.output.trans hz.output, Nat.le_trans hz.size hb.size, fun k hk h1 h2 => (hb.block k (Nat.lt_of_lt_of_le hk hz.size)).trans (hz.block k hk h1 h2)⟩⟩
theorem Wf.ne {B b g t : Nat} {l : List UInt8} {r : Option Nat} {w : World} {cs : Array Value} (h : Wf B b l r w) (hg : Blk w g t cs) (h1 : t ≠ 43) (h2 : t ≠ 5) : g ≠ b ∧ some g ≠ r := by
  obtain ⟨hB, p, v, hp, hk, ho, rfl⟩ := h
  exact ⟨hg.ne_ hk h1, (own_blk_ne ho hg (Ne.symm h2)).symm⟩
/-- A row of strings. -/
def strVs (ls : List (List UInt8)) : Array Value := (ls.map fun l => Value.string (bstr l)).toArray
theorem strVs_at {ls : List (List UInt8)} {i : Nat} (h : i < ls.length) : (strVs ls)[i]? = some (.string (bstr ls[i])) := by
  unfold strVs
  rw [List.getElem?_toArray, List.getElem?_map, List.getElem?_eq_getElem h]
  rfl
set_option maxHeartbeats 4000000 in
set_option maxRecDepth 100000 in
theorem lines_any (ls : List (List UInt8)) (g n c : Nat) (w : World) (hg : Blk w g 9 (strVs ls)) (hn : ls.length = n) (hn2 : n ≤ 100) (hl : ∀ l ∈ ls, l.length ≤ 200000) :
    Calls Try.prog 18 #[.slice (some ⟨g, 0, none⟩) n c] w fun e w' => e = .returned (.bool (ls.all Tx.isLine)) ∧ Below w.heap.size w w' := by
  have HG := hide hg
  have HL := hide hl
  have Hn := hide hn
  clear hg hl hn
  go_enter Try.func18, Try.ntmps18
  go_wp2
  go_loopg [4, 7] n (fun gk v4 v7 wr => ∃ i : Nat, v7 = .int .i64 (i : Int) ∧ gk = n - i ∧ i ≤ n ∧ (ls.take i).all Tx.isLine = true ∧ Below w.heap.size w wr)
  case atStart => exact ⟨0, rfl, rfl, by omega, rfl, Below.refl _ _⟩
  case round =>
    obtain ⟨i, rfl, hgk, hin, hall, hb⟩ := hrel
    have HB := hide hb
    have HAll := hide hall
    have Hgk := hide hgk
    clear hb hall hgk
    by_cases hlt : i < n
    · have hil : i < ls.length := by rw [Hn.out]; exact hlt
      obtain ⟨x, hx⟩ : ∃ x, ls[i] = x := ⟨_, rfl⟩
      have cx := (HG.out.below HB.out HG.out.lt).cell i
      rw [strVs_at hil, hx] at cx
      have HX := hide (isLine_any x wr (HL.out x (by rw [← hx]; exact List.getElem_mem _)))
      have HT := hide (show (ls.take (i + 1)).all Tx.isLine = Tx.isLine x by rw [List.take_succ_eq_append_getElem hil, List.all_append, HAll.out, hx]; simp)
      have HF := hide (show Tx.isLine x = false → ls.all Tx.isLine = false by
        intro h
        rw [Bool.eq_false_iff]
        intro h2
        rw [List.all_eq_true] at h2
        have := h2 x (by rw [← hx]; exact List.getElem_mem _)
        rw [h] at this
        cases this)
      clear hx
      go_wp2_with fail
      refine HX.out.mono ?_
      rintro e w2 ⟨rfl, hb2⟩
      have HB2 := hide (HB.out.trans (hb2.mono HB.out.size))
      clear hb2
      cases hq : Tx.isLine x with
      | true =>
        rw [hq] at HT
        clear hq
        dsimp only
        go_wp2
        go_roundg (n - (i + 1))
        case measure => have := Hgk.out; omega
        case rel => exact ⟨i + 1, by first | rfl | go_num, rfl, by omega, HT.out, HB2.out⟩
      | false =>
        have HR := hide (HF.out hq)
        clear hq
        dsimp only
        go_wp2
        go_ret
        rw [HR.out]
        exact ⟨rfl, HB2.out⟩
    · have hi : i = n := by omega
      subst hi
      go_wp2
      go_ret
      have h := HAll.out
      rw [List.take_of_length_le (by rw [Hn.out]; exact Nat.le_refl _)] at h
      rw [h]
      exact ⟨rfl, HB.out⟩
def whenP (k : Bool) (n : Int) : Bool := if k then decide (-62135596800 ≤ n) && decide (n ≤ 253402300799) else n == 0
set_option maxHeartbeats 4000000 in
set_option maxRecDepth 100000 in
theorem when_any (k : Bool) (n : Int) (w : World) (hn : (Lit.int .i64 n).wf = true) :
    Calls Try.prog 19 #[.agg #[.bool k, .int .i64 n]] w fun e w' => e = .returned (.bool (whenP k n)) ∧ Below w.heap.size w w' := by
  have hnb := wf_i64r hn
  have HO := hide (below_alloc w (.cells #[.bool k, .int .i64 n] 23))
  cases k with
  | true =>
    by_cases h1 : -62135596800 ≤ n
    · by_cases h2 : n ≤ 253402300799
      · have HV := hide (show whenP true n = true by unfold whenP; rw [if_pos rfl, decide_eq_true h1, decide_eq_true h2]; rfl)
        go_enter Try.func19, Try.ntmps19
        go_wp2
        go_ret
        rw [HV.out]
        exact ⟨rfl, HO.out⟩
      · have HV := hide (show whenP true n = false by unfold whenP; rw [if_pos rfl, decide_eq_false h2]; simp)
        go_enter Try.func19, Try.ntmps19
        go_wp2
        go_ret
        rw [HV.out]
        exact ⟨rfl, HO.out⟩
    · have HV := hide (show whenP true n = false by unfold whenP; rw [if_pos rfl, decide_eq_false h1]; rfl)
      go_enter Try.func19, Try.ntmps19
      go_wp2
      go_ret
      rw [HV.out]
      exact ⟨rfl, HO.out⟩
  | false =>
    have HV := hide (show whenP false n = (n == 0) by unfold whenP; rfl)
    go_enter Try.func19, Try.ntmps19
    go_wp2
    go_ret
    rw [HV.out]
    exact ⟨rfl, HO.out⟩
set_option maxHeartbeats 4000000 in
set_option maxRecDepth 100000 in
theorem put_any {B b : Nat} {l : List UInt8} {r : Option Nat} (ls : List (List UInt8)) (g n c : Nat) (w : World) (h : Wf B b l r w) (hg : Blk w g 9 (strVs ls)) (hn : ls.length = n) (hn2 : n ≤ 100) (hl : l.length + ls.flatten.length + 1 ≤ 140737488355328) (hBw : B ≤ w.heap.size) :
    Calls Try.prog 12 #[.pointer (some ⟨b, 0, none⟩), .slice (some ⟨g, 0, none⟩) n c] w fun e w' => e = .returned (.tuple #[]) ∧ Wg w B b r (l ++ (ls.flatten ++ [10])) w' := by
  obtain ⟨N, hN⟩ : ∃ N, ls.flatten.length = N := ⟨_, rfl⟩
  have HGn := hide (h.ne hg (by decide) (by decide))
  have HH := hide h
  have HG := hide hg
  have HN := hide hN
  have Hn := hide hn
  rw [hN] at hl
  clear h hg hn hN
  go_enter Try.func12, Try.ntmps12
  go_wp2
  go_loopg [5, 8] n (fun gk v5 v8 wr => ∃ i : Nat, v8 = .int .i64 (i : Int) ∧ gk = n - i ∧ i ≤ n ∧ Wg w B b r (l ++ (ls.take i).flatten) wr)
  case atStart => exact ⟨0, rfl, rfl, by omega, r, by simpa using HH.out, .inl rfl, Fz.refl _ _ _⟩
  case round =>
    obtain ⟨i, rfl, hgk, hin, r', hf, hr, hz⟩ := hrel
    have HF := hide hf
    have HR := hide hr
    have HZ := hide hz
    have Hgk := hide hgk
    have hlen : (ls.take i).flatten.length ≤ N := by
      rw [← HN.out]
      conv => rhs; rw [← List.take_append_drop i ls, List.flatten_append, List.length_append]
      omega
    have hBr : B ≤ wr.heap.size := Nat.le_trans hBw hz.size
    clear hf hr hz hgk
    by_cases hlt : i < n
    · have hil : i < ls.length := by rw [Hn.out]; exact hlt
      obtain ⟨x, hx⟩ : ∃ x, ls[i] = x := ⟨_, rfl⟩
      have kx : Blk wr g 9 (strVs ls) := (HZ.out.block g HG.out.lt HGn.out.1 HGn.out.2).trans HG.out
      have cx := kx.cell i
      rw [strVs_at hil, hx] at cx
      have HT := hide (show (ls.take (i + 1)).flatten = (ls.take i).flatten ++ x by rw [List.take_succ_eq_append_getElem hil, List.flatten_append, hx]; simp)
      have hlen2 : (ls.take i).flatten.length + x.length ≤ N := by
        rw [← List.length_append, ← HT.out, ← HN.out]
        conv => rhs; rw [← List.take_append_drop (i + 1) ls, List.flatten_append, List.length_append]
        omega
      have HX := hide (ws_w x HF.out (by rw [List.length_append]; omega) hBr)
      clear hx kx
      go_wp2_with fail
      refine HX.out.mono ?_
      rintro e w2 ⟨⟨v, rfl⟩, hg2⟩
      have HG2 := hide (Wg.step HR.out HZ.out hg2)
      clear hg2
      dsimp only
      go_wp2
      go_roundg (n - (i + 1))
      case measure => have := Hgk.out; omega
      case rel => exact ⟨i + 1, by first | rfl | go_num, rfl, by omega, by rw [HT.out, ← List.append_assoc]; exact HG2.out⟩
    · have hi : i = n := by omega
      subst hi
      have HX := hide (wb_w 10 HF.out (by rw [List.length_append]; omega) hBr)
      go_wp2_with fail
      refine HX.out.mono ?_
      rintro e w2 ⟨rfl, hg2⟩
      have HG2 := hide (Wg.step HR.out HZ.out hg2)
      clear hg2
      dsimp only
      go_wp2
      go_end0
      refine ⟨rfl, ?_⟩
      have h := HG2.out
      rwa [List.take_of_length_le (by rw [Hn.out]; exact Nat.le_refl _), List.append_assoc] at h
end Go.Proofs.Ytheaknghgpafpaa
namespace Go.Proofs.Ytheaknghgpafpaa
open Go.RowKit Go.WideShapes

namespace Cv
/-- Days of years from March on. -/
def days (y m d : Int) : Int := y / 400 * 146097 + (y - y / 400 * 400) * 365 + (y - y / 400 * 400) / 4 - (y - y / 400 * 400) / 100 + ((153 * (m - 3) + 2) / 5 + d - 1) - 719468
def count (y m d : Int) : Int := if m ≤ 2 then days (y - 1) (m + 12) d else days y m d
def leap (y : Int) : Bool := decide (y % 4 = 0) && (!decide (y % 100 = 0) || decide (y % 400 = 0))
def last (y m : Int) : Int := if m = 2 then (if leap y then 29 else 28) else if m = 4 ∨ m = 6 ∨ m = 9 ∨ m = 11 then 30 else 31
end Cv
set_option maxHeartbeats 4000000 in
theorem count_any (y m d : Int) (w : World) (hy : 1 ≤ y ∧ y ≤ 10000) (hm : 1 ≤ m ∧ m ≤ 12) (hd : 1 ≤ d ∧ d ≤ 31) :
    Calls Try.prog 39 #[.int .i64 y, .int .i64 m, .int .i64 d] w fun e w' => e = .returned (.int .i64 (Cv.count y m d)) ∧ w' = w := by
  unfold Cv.count
  by_cases h2 : m ≤ 2
  · rw [if_pos h2]
    unfold Cv.days
    obtain ⟨y1, hy1⟩ : ∃ y1, y - 1 = y1 := ⟨_, rfl⟩
    obtain ⟨m1, hm1⟩ : ∃ m1, m + 12 = m1 := ⟨_, rfl⟩
    have z1 : IntKind.i64.wrap (y - 1) = y1 := by rw [IntWalk.i64_in _ (by omega)]; omega
    have z2 : IntKind.i64.wrap (m + 12) = m1 := by rw [IntWalk.i64_in _ (by omega)]; omega
    have b1 : 0 ≤ y1 ∧ y1 ≤ 10000 := by omega
    have b2 : 3 ≤ m1 ∧ m1 ≤ 14 := by omega
    rw [hy1, hm1]
    clear hy1 hm1
    have t1 : Int.tdiv y1 400 = y1 / 400 := Int.tdiv_eq_ediv_of_nonneg b1.1
    obtain ⟨e, he⟩ : ∃ e, y1 / 400 = e := ⟨_, rfl⟩
    have b3 : 0 ≤ e ∧ e ≤ 25 := by omega
    obtain ⟨o, ho⟩ : ∃ o, y1 - e * 400 = o := ⟨_, rfl⟩
    have b4 : 0 ≤ o ∧ o < 400 := by omega
    rw [he] at t1 ⊢
    rw [ho]
    have t2 : Int.tdiv o 100 = o / 100 := Int.tdiv_eq_ediv_of_nonneg b4.1
    have t3 : Int.tdiv (153 * (m1 - 3) + 2) 5 = (153 * (m1 - 3) + 2) / 5 := Int.tdiv_eq_ediv_of_nonneg (by omega)
    have z3 : IntKind.i64.wrap (e * 400) = e * 400 := IntWalk.i64_in _ (by omega)
    have z4 : IntKind.i64.wrap (y1 - e * 400) = o := by rw [IntWalk.i64_in _ (by omega)]; exact ho
    clear he ho
    go_enter Try.func39, Try.ntmps39
    go_wp2
    go_ret
    exact ⟨rfl, rfl⟩
  · rw [if_neg h2]
    unfold Cv.days
    have b1 : 0 ≤ y ∧ y ≤ 10000 := by omega
    have b2 : 3 ≤ m ∧ m ≤ 14 := by omega
    have t1 : Int.tdiv y 400 = y / 400 := Int.tdiv_eq_ediv_of_nonneg b1.1
    obtain ⟨e, he⟩ : ∃ e, y / 400 = e := ⟨_, rfl⟩
    have b3 : 0 ≤ e ∧ e ≤ 25 := by omega
    obtain ⟨o, ho⟩ : ∃ o, y - e * 400 = o := ⟨_, rfl⟩
    have b4 : 0 ≤ o ∧ o < 400 := by omega
    rw [he] at t1 ⊢
    rw [ho]
    have t2 : Int.tdiv o 100 = o / 100 := Int.tdiv_eq_ediv_of_nonneg b4.1
    have t3 : Int.tdiv (153 * (m - 3) + 2) 5 = (153 * (m - 3) + 2) / 5 := Int.tdiv_eq_ediv_of_nonneg (by omega)
    have z3 : IntKind.i64.wrap (e * 400) = e * 400 := IntWalk.i64_in _ (by omega)
    have z4 : IntKind.i64.wrap (y - e * 400) = o := by rw [IntWalk.i64_in _ (by omega)]; exact ho
    clear he ho
    go_enter Try.func39, Try.ntmps39
    go_wp2
    go_ret
    exact ⟨rfl, rfl⟩
set_option maxHeartbeats 4000000 in
theorem leap_any (y : Int) (w : World) (hy : 1 ≤ y ∧ y ≤ 9999) : Calls Try.prog 61 #[.int .i64 y] w fun e w' => e = .returned (.bool (Cv.leap y)) ∧ w' = w := by
  unfold Cv.leap
  have t1 : bits BinOp.and IntKind.i64 y 3 = y % 4 := i64_mask y 2 (by omega) (by omega) (by omega) 3 rfl
  have t2 : Int.tmod y 100 = y % 100 := Int.tmod_eq_emod_of_nonneg (by omega)
  have t3 : Int.tmod y 400 = y % 400 := Int.tmod_eq_emod_of_nonneg (by omega)
  obtain ⟨a, ha⟩ : ∃ a, y % 4 = a := ⟨_, rfl⟩
  obtain ⟨b, hb⟩ : ∃ b, y % 100 = b := ⟨_, rfl⟩
  obtain ⟨c, hc⟩ : ∃ c, y % 400 = c := ⟨_, rfl⟩
  rw [ha] at t1
  rw [hb] at t2
  rw [hc] at t3
  rw [ha, hb, hc]
  clear ha hb hc
  by_cases h1 : a = 0
  · have d1 : (a == 0) = true := by simp [h1]
    by_cases h2 : b = 0
    · have d2 : (b == 0) = true := by simp [h2]
      have d2n : (b != 0) = false := by simp [h2]
      have HV := hide (show (decide (a = 0) && (!decide (b = 0) || decide (c = 0))) = (c == 0) by rw [decide_eq_true h1, decide_eq_true h2]; simp; rfl)
      rw [HV.out]
      clear h1 h2
      go_enter Try.func61, Try.ntmps61
      go_wp2
      go_ret
      exact ⟨rfl, rfl⟩
    · have d2 : (b == 0) = false := by simp [h2]
      have d2n : (b != 0) = true := by simp [h2]
      have HV := hide (show (decide (a = 0) && (!decide (b = 0) || decide (c = 0))) = true by rw [decide_eq_true h1, decide_eq_false h2]; rfl)
      rw [HV.out]
      clear h1 h2
      go_enter Try.func61, Try.ntmps61
      go_wp2
      go_ret
      exact ⟨rfl, rfl⟩
  · have d1 : (a == 0) = false := by simp [h1]
    have HV := hide (show (decide (a = 0) && (!decide (b = 0) || decide (c = 0))) = false by rw [decide_eq_false h1]; rfl)
    rw [HV.out]
    clear h1
    go_enter Try.func61, Try.ntmps61
    go_wp2
    go_ret
    exact ⟨rfl, rfl⟩
end Go.Proofs.Ytheaknghgpafpaa
namespace Go.Proofs.Ytheaknghgpafpaa
open Go.RowKit Go.WideShapes

abbrev daysO : Obj := .cells #[.int .i64 0, .int .i64 31, .int .i64 28, .int .i64 31, .int .i64 30, .int .i64 31, .int .i64 30, .int .i64 31, .int .i64 31, .int .i64 30, .int .i64 31, .int .i64 30, .int .i64 31] 107
set_option maxHeartbeats 16000000 in
set_option maxRecDepth 100000 in
theorem last_any (y m : Int) (w : World) (hy : 1 ≤ y ∧ y ≤ 9999) (hm : 1 ≤ m ∧ m ≤ 12) : Calls Try.prog 48 #[.int .i64 y, .int .i64 m] w fun e w' => e = .returned (.int .i64 (Cv.last y m)) ∧ Below w.heap.size w w' := by
  have HB := hide (below_alloc w daysO)
  have HL := hide (fun W => leap_any y W hy)
  have h1 : ¬ y < 1 := by omega
  have h2 : ¬ 9999 < y := by omega
  have hk := Blk.new w 107 #[.int .i64 0, .int .i64 31, .int .i64 28, .int .i64 31, .int .i64 30, .int .i64 31, .int .i64 30, .int .i64 31, .int .i64 31, .int .i64 30, .int .i64 31, .int .i64 30, .int .i64 31]
  have c0 := hk.cell 0
  have c1 := hk.cell 1
  have c2 := hk.cell 2
  have c3 := hk.cell 3
  have c4 := hk.cell 4
  have c5 := hk.cell 5
  have c6 := hk.cell 6
  have c7 := hk.cell 7
  have c8 := hk.cell 8
  have c9 := hk.cell 9
  have c10 := hk.cell 10
  have c11 := hk.cell 11
  have c12 := hk.cell 12
  have HK := hide hk
  clear hk
  rcases (by omega : m = 1 ∨ m = 2 ∨ m = 3 ∨ m = 4 ∨ m = 5 ∨ m = 6 ∨ m = 7 ∨ m = 8 ∨ m = 9 ∨ m = 10 ∨ m = 11 ∨ m = 12) with rfl | rfl | rfl | rfl | rfl | rfl | rfl | rfl | rfl | rfl | rfl | rfl
  · rw [show Cv.last y 1 = 31 by unfold Cv.last; simp]
    go_enter Try.func48, Try.ntmps48
    go_wp2
    go_ret
    exact ⟨rfl, HB.out⟩
  · unfold Cv.last
    rw [if_pos rfl]
    cases hl : Cv.leap y with
    | true =>
      rw [hl] at HL
      rw [if_pos rfl]
      clear hl
      go_enter Try.func48, Try.ntmps48
      go_wp2_with fail
      go_wp2_with fail
      refine cq (HL.out _) ?_
      dsimp only
      go_wp2
      go_ret
      exact ⟨rfl, HB.out⟩
    | false =>
      rw [hl] at HL
      rw [if_neg (by simp)]
      clear hl
      go_enter Try.func48, Try.ntmps48
      go_wp2_with fail
      go_wp2_with fail
      refine cq (HL.out _) ?_
      dsimp only
      go_wp2
      go_ret
      exact ⟨rfl, HB.out⟩
  · rw [show Cv.last y 3 = 31 by unfold Cv.last; simp]
    go_enter Try.func48, Try.ntmps48
    go_wp2
    go_ret
    exact ⟨rfl, HB.out⟩
  · rw [show Cv.last y 4 = 30 by unfold Cv.last; simp]
    go_enter Try.func48, Try.ntmps48
    go_wp2
    go_ret
    exact ⟨rfl, HB.out⟩
  · rw [show Cv.last y 5 = 31 by unfold Cv.last; simp]
    go_enter Try.func48, Try.ntmps48
    go_wp2
    go_ret
    exact ⟨rfl, HB.out⟩
  · rw [show Cv.last y 6 = 30 by unfold Cv.last; simp]
    go_enter Try.func48, Try.ntmps48
    go_wp2
    go_ret
    exact ⟨rfl, HB.out⟩
  · rw [show Cv.last y 7 = 31 by unfold Cv.last; simp]
    go_enter Try.func48, Try.ntmps48
    go_wp2
    go_ret
    exact ⟨rfl, HB.out⟩
  · rw [show Cv.last y 8 = 31 by unfold Cv.last; simp]
    go_enter Try.func48, Try.ntmps48
    go_wp2
    go_ret
    exact ⟨rfl, HB.out⟩
  · rw [show Cv.last y 9 = 30 by unfold Cv.last; simp]
    go_enter Try.func48, Try.ntmps48
    go_wp2
    go_ret
    exact ⟨rfl, HB.out⟩
  · rw [show Cv.last y 10 = 31 by unfold Cv.last; simp]
    go_enter Try.func48, Try.ntmps48
    go_wp2
    go_ret
    exact ⟨rfl, HB.out⟩
  · rw [show Cv.last y 11 = 30 by unfold Cv.last; simp]
    go_enter Try.func48, Try.ntmps48
    go_wp2
    go_ret
    exact ⟨rfl, HB.out⟩
  · rw [show Cv.last y 12 = 31 by unfold Cv.last; simp]
    go_enter Try.func48, Try.ntmps48
    go_wp2
    go_ret
    exact ⟨rfl, HB.out⟩
end Go.Proofs.Ytheaknghgpafpaa
