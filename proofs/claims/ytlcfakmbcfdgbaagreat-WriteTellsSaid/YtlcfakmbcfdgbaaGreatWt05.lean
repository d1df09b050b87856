/- The program's 'Loose' and 'Valid'. · Characters: the program's 'Bad', 'front', 'Take'. · Characters: the program's 'Take': how many bytes a name at the front has. · Tokens: the scan's name, value. (Printed by wip/genTkG.py.) · Tokens: the scan's value. · Tokens: what a part of the declaration may hold. · Tokens: an encoding's name. · Tokens: the parts of the declaration. (Printed by wip/genTkK.py.) · Tokens: the declaration. · Tokens: the token at its block; kind; an end. · Tokens: what a piece's reading leaves; an end. · Tokens: a text. (Printed by wip/genTkP.py.) · Tokens: words for a start: append of one element; a round of the attributes. · NFC: scalars taken apart: order.taker.apart, Decompose, Parts. -/
import Derived.Test.YtlcfakmbcfdgbaaGreatWt03
import Derived.Test.YtlcfakmbcfdgbaaGreatWt04
import Derived.Deep.RegionHeld3
import Derived.Deep.AppendLies
import Derived.ScopeJumps
import Derived.WalkMore
import Derived.OneCell
import Derived.Deep.Onto
set_option linter.unusedSimpArgs false
set_option linter.unusedVariables false
namespace Go.Proofs.YtlcfakmbcfdgbaaGreat
open Go.RowKit Go.Shelf

attribute [local go_sem] Oper.semAt_some

theorem info_u8 : (Tryz.prog.info? 5).map (fun i => (i.zero, i.size, i.bytes)) = some (some (.int .u8 0), 1, 1) := by kernel_rfl

def pcs (l : List Pc) : List (Nat × Int) := l.map (·.1)
theorem pcs_snoc (l : List Pc) (x : Pc) : pcs (l ++ [x]) = pcs l ++ [x.1] := by simp [pcs]
theorem pcs_length (l : List Pc) : (pcs l).length = l.length := by simp [pcs]
theorem mended_snoc (l : List (Nat × Int)) (x : Nat × Int) : Utf.mended (l ++ [x]) = Utf.mended l ++ (if x.2 < 0 then [0xEF, 0xBF, 0xBD] else (Utf.put x.2).map bv) := by
  unfold Utf.mended
  rw [List.flatMap_append, List.flatMap_cons, List.flatMap_nil, List.append_nil]
  rfl
theorem mended_length (l : List (Nat × Int)) : (Utf.mended l).length ≤ 4 * l.length := by
  induction l with
  | nil => simp [Utf.mended]
  | cons x l ih =>
    have h := put_short x.2
    unfold Utf.mended at ih ⊢
    rw [List.flatMap_cons, List.length_append, List.length_cons]
    split <;> simp only [List.length_map, List.length_cons, List.length_nil] <;> omega

/-- What the loop's variables hold when so much has come. -/
def LooseI (w : World) (pre : List Pc) (W : World) : Prop :=
  (∃ v n, Boxed W w.heap.size 40 v ∧ W.ownsRow w.heap.size 5 1 v n (byteVs (Utf.mended (pcs pre)))) ∧ Boxed W (w.heap.size + 1) 3 (.int .i64 (Utf.firstBad (pcs pre))) ∧ (∃ u, Boxed W (w.heap.size + 1 + 1) 9 u) ∧ Below w.heap.size w W

theorem LooseI_own (w : World) : OwnFrom (w.heap.size + 3) (LooseI w) := by
  rintro s X Y row ⟨⟨v, n, hv, hr⟩, h2, ⟨u, hu⟩, h3⟩ hg hrow
  have hne : ∀ {B : Nat} {t : TypeId} {u : Value}, Boxed X B t u → some B ≠ row := fun h e => by
    obtain ⟨_, o, ho, hc⟩ := hrow _ e.symm
    rw [show X.heap[_]? = _ from h] at ho; cases ho; cases hc
  refine ⟨⟨v, n, hv.kept hg (hne hv), hr.kept hg ?_⟩, h2.kept hg (hne h2), ⟨u, hu.kept hg (hne hu)⟩, h3.grown hg h3.size (fun k e => by have := (hrow k e).1; omega)⟩
  rcases hr.2 with ⟨rfl, _⟩ | ⟨g, cap, cur, rfl, _, hgb, _⟩
  · exact .inl rfl
  · refine .inr fun e' => ?_
    obtain ⟨_, o, ho, hc⟩ := hrow g (by simpa [Value.ownBlock] using e'.symm)
    rw [hgb] at ho; cases ho; cases hc

theorem grown_below {W w1 : World} (h : Below W.heap.size W w1) (row : Option Nat) : W.grownBy w1 row := ⟨h.os, h.tape, h.output, h.size, fun k hk _ => h.block k hk⟩
theorem others_below {W w1 : World} (h : Below W.heap.size W w1) : KeepsOthers W w1 := ⟨h.size, fun k o hk _ => (h.block k (Array.getElem?_eq_some_iff.1 hk).1).trans hk⟩

/-- A round's end: behind the append and the store. -/
theorem loose_step {w W W2 w1 : World} {pre pre' : List Pc} {v v' : Value} {n n' : Nat} {m : List UInt8} {f1 : Int} (hB : Below w.heap.size w W) (h3 : w.heap.size + 3 ≤ W.heap.size)
    (hko : KeepsOthers W W2) (hsb : SameBlk (w.heap.size + 1 + 1) W W2) (hB2 : Below w.heap.size w W2) (hcell : ∃ u, Boxed W2 (w.heap.size + 1 + 1) 9 u)
    (hv : Boxed W2 w.heap.size 40 v) (hf : Boxed W2 (w.heap.size + 1) 3 (.int .i64 f1)) (hrow : W2.ownsRow w.heap.size 5 1 v n (byteVs (Utf.mended (pcs pre))))
    (hown : w1.ownsRow w.heap.size 5 1 v' n' (byteVs (Utf.mended (pcs pre) ++ m))) (hgrow : W2.grownBy w1 v.ownBlock)
    (hm : Utf.mended (pcs pre') = Utf.mended (pcs pre) ++ m) (hf1 : Utf.firstBad (pcs pre') = f1) :
    Boxed w1 w.heap.size 40 v ∧ KeepsOthers W (w1.setCell ⟨w.heap.size, 0, none⟩ v') ∧ SameBlk (w.heap.size + 1 + 1) W (w1.setCell ⟨w.heap.size, 0, none⟩ v') ∧ LooseI w pre' (w1.setCell ⟨w.heap.size, 0, none⟩ v') := by
  have hv1 : Boxed w1 w.heap.size 40 v := hv.kept hgrow (hv.not_row (by decide) hrow)
  have hf1' : Boxed w1 (w.heap.size + 1) 3 (.int .i64 f1) := hf.kept hgrow (hf.not_row (by decide) hrow)
  obtain ⟨u, hu⟩ := hcell
  have hu1 : w1.heap[w.heap.size + 1 + 1]? = W2.heap[w.heap.size + 1 + 1]? := hgrow.block _ hu.lt (hu.not_row (by decide) hrow)
  have hsz : w.heap.size ≤ W2.heap.size := hB2.size
  refine ⟨hv1, ?_, ?_, ⟨v', n', hv1.set v', ?_⟩, ?_, ⟨u, ?_⟩, ?_⟩
  · refine (hko.trans (KeepsOthers.of_grownBy hgrow fun j o ej hj => ?_)).trans (KeepsOthers.setCell _ _ _)
    obtain ⟨_, cs, fr, h⟩ := own_isT hrow j ej
    rw [h] at hj; cases hj; rfl
  · refine hsb.trans ?_
    exact (Below.heap_setCell _ _ _ _ (by simp; omega)).trans hu1
  · rw [hm]
    exact hown.kept (grownBy_setCell' w1 _ v') (.inr (hv1.not_row (by decide) hown).symm)
  · rw [hf1]
    exact hf1'.kept (grownBy_setCell' w1 _ v') (by simp)
  · exact (Below.heap_setCell _ _ _ _ (by simp; omega)).trans (hu1.trans hu)
  · refine (hB2.grown hgrow hsz fun j ej => (own_isT hrow j ej).1).setCell (p := ⟨w.heap.size, 0, none⟩) (Nat.le_refl _) v'

set_option maxRecDepth 100000 in
set_option maxHeartbeats 4000000 in
theorem loose_any (b : ByteArray) (w : World) (hs : b.size ≤ 1000000000) :
    Calls Tryz.prog 64 #[.string b] w fun e w' => (∃ t : ByteArray, e = .returned (.tuple #[.string t, .int .i64 (Utf.firstBad (Utf.pieces b.data.toList))]) ∧ StrIs t (Utf.mended (Utf.pieces b.data.toList))) ∧ Below w.heap.size w w' := by
  refine (callsIn_wide (n := 5)).1 ?_
  refine callsIn_of_wp_marks Tryz.func64 rfl trivial ?_ rfl
  simp only [Tryz.ntmps64, List.size_toArray, List.length_cons, List.length_nil, Nat.reduceAdd, Nat.reduceSub, Array.replicate_succ, Array.replicate_zero, List.push_toArray, List.append_toArray, List.nil_append, List.cons_append]
  gi_wp2_with (refine ⟨trivial, ?_⟩; gi_at_call 81; refine (callsIn_wide.2 (pieces_any _ _)).mono ?_; rintro e w' ⟨rfl, rfl⟩)
  have b0 := Boxed.new w 40 (.slice none 0 0)
  have b1 := Boxed.new (w.alloc (.cells #[.slice none 0 0] 40)) 3 (.int .i64 (-1))
  rw [World.size_alloc] at b1
  have b2 := Boxed.new ((w.alloc (.cells #[.slice none 0 0] 40)).alloc (.cells #[.int .i64 (-1)] 3)) 9 (.string b)
  rw [World.size_alloc, World.size_alloc] at b2
  have hB0 : Below w.heap.size w (((w.alloc (.cells #[.slice none 0 0] 40)).alloc (.cells #[.int .i64 (-1)] 3)).alloc (.cells #[.string b] 9)) :=
    (((Below.refl _ w).alloc (Nat.le_refl _) _).alloc (by simp) _).alloc (by simp; omega) _
  refine wpIn_rangeFunc_ownG rfl (by omega) (gf := 100) (lb := #[.pointer (some ⟨w.heap.size + 1 + 1, 0, none⟩)]) rfl trivial (enters_of Tryz.func100 (by kernel_rfl) rfl)
    (pieces_stops (5 - 1) (by omega) (w.heap.size + 1 + 1) b hs _ (by simp) b2.cell) SameBlk.trans (sameBlk_b (by simp)) (Below.refl _ _) (fun _ => rfl)
    (LooseI w) (fun _ _ _ => False) (by simpa using LooseI_own w) (fun _ _ _ _ _ hs _ _ => hs)
    ⟨⟨_, 0, (b0.alloc _).alloc _, World.ownsRow_nil _ _ _ _⟩, b1.alloc _, ⟨_, b2⟩, hB0⟩
    (fun x => { tmps := #[.string b, undef, .string ⟨#[]⟩, .int .i64 0, .pointer (some ⟨w.heap.size, 0, none⟩), .pointer (some ⟨w.heap.size + 1, 0, none⟩), .int .i64 (x.1.1 : Int), .int .i64 x.1.2, undef, undef, .string b,
      .func (.func 100) #[] #[.pointer (some ⟨w.heap.size + 1 + 1, 0, none⟩)], .int .i64 (x.1.1 : Int), .int .i64 x.1.2, undef, undef, undef, undef, undef, undef, undef, undef, undef, undef, undef, undef, undef, undef, undef, undef], defers := [] }) ?assign ?body ?done ?stop
  case assign =>
    intro l x W K hK
    gi_wp2
    exact hK
  case body =>
    rintro l pre ⟨⟨at_, r⟩, hx⟩ W ⟨⟨v, n, hv, hrow⟩, hf, hu, hB⟩ hlen
    obtain ⟨A, c, rfl⟩ := own_form hrow
    dsimp only at hx ⊢
    have hn : n ≤ 4 * pre.length := by
      have h1 := hrow.1
      have h2 := mended_length (pcs pre)
      rw [byteVs_length] at h1
      rw [pcs_length] at h2
      omega
    have hc := hv.cell
    have hcf := hf.cell
    have hff := hf.frozen
    obtain ⟨f0, hf0⟩ : ∃ f0, Utf.firstBad (pcs pre) = f0 := ⟨_, rfl⟩
    have hge := Utf.firstBad_ge (pcs pre)
    rw [hf0] at hf hcf hge
    have Hf0 := hide hf0
    clear hf0
    have h3 : w.heap.size + 3 ≤ W.heap.size := by obtain ⟨u, hu⟩ := hu; have := hu.lt; omega
    by_cases hr : r < 0
    · have HP := hide (fun W => put_no r W (show Utf.isScalar r = false by simp [Utf.isScalar]; omega))
      have hm : Utf.mended (pcs (pre ++ [⟨(at_, r), hx⟩])) = Utf.mended (pcs pre) ++ [0xEF, 0xBF, 0xBD] := by rw [pcs_snoc, mended_snoc, if_pos hr]
      have hfb : Utf.firstBad (pcs (pre ++ [⟨(at_, r), hx⟩])) = if f0 < 0 then (at_ : Int) else f0 := by rw [pcs_snoc, Utf.firstBad_snoc, Hf0.out, if_pos hr]
      have Hm := hide hm
      have Hfb := hide hfb
      clear hm hfb
      generalize pre ++ [⟨(at_, r), hx⟩] = pre' at *
      by_cases hneg : f0 < 0
      · have hko : KeepsOthers W (W.setCell ⟨w.heap.size + 1, 0, none⟩ (.int .i64 (at_ : Int))) := KeepsOthers.setCell _ _ _
        have hsb : SameBlk (w.heap.size + 1 + 1) W (W.setCell ⟨w.heap.size + 1, 0, none⟩ (.int .i64 (at_ : Int))) := Below.heap_setCell _ _ _ _ (by simp)
        have hB2 := hB.setCell (p := ⟨w.heap.size + 1, 0, none⟩) (by simp) (.int .i64 (at_ : Int))
        have hcell : ∃ u, Boxed (W.setCell ⟨w.heap.size + 1, 0, none⟩ (.int .i64 (at_ : Int))) (w.heap.size + 1 + 1) 9 u := by
          obtain ⟨u, hu⟩ := hu
          exact ⟨u, hu.kept (grownBy_setCell' _ _ _) (by simp)⟩
        have hv2 : Boxed (W.setCell ⟨w.heap.size + 1, 0, none⟩ (.int .i64 (at_ : Int))) w.heap.size 40 (.slice A n c) := hv.kept (grownBy_setCell' _ _ _) (by simp)
        have hf2 := hf.set (.int .i64 (at_ : Int))
        have hrow2 := hrow.kept (grownBy_setCell' W (w.heap.size + 1) (.int .i64 (at_ : Int))) (.inr (hf.not_row (by decide) hrow).symm)
        have Hpost := hide (show Utf.firstBad (pcs pre') = (at_ : Int) by rw [Hfb.out, if_pos hneg])
        clear Hfb hu
        gi_wp2_with (first
          | (refine ⟨trivial, ?_⟩; gi_at_call 82; refine (CallsIn.inRound l (callsIn_wide.2 (HP.out _))).mono ?_; rintro e w' ⟨rfl, rfl⟩)
          | (gi_at_builtin; go_must (refine wpListIn_append_str _ rfl (.tmp 24) (.tmp 25) 40 9 rfl w.heap.size 5 Tryz.underlying40 Tryz.underlying9 info_u8 (.slice A n c) n (Utf.mended (pcs pre)) rfl hrow2 _ [0xEF, 0xBF, 0xBD] (show StrIs ⟨#[239, 191, 189]⟩ [0xEF, 0xBF, 0xBD] from rfl) rfl (by simp only [List.length_cons, List.length_nil]; omega) hB2.size ?_); intro A1 c1 w1 hown1 hgrow1; obtain ⟨hv1, hk1, hs1, hI1⟩ := loose_step hB h3 hko hsb hB2 hcell hv2 hf2 hrow2 hown1 hgrow1 Hm.out Hpost.out; have hc1 := hv1.cell; have hfz1 := hv1.frozen))
        exact ⟨hk1.from _, hs1, hI1⟩
      · have Hpost := hide (show Utf.firstBad (pcs pre') = f0 by rw [Hfb.out, if_neg hneg])
        clear Hfb
        have Hfb := Hpost
        have hko := KeepsOthers.refl W
        have hsb : SameBlk (w.heap.size + 1 + 1) W W := rfl
        have hB2 := hB
        have hcell := hu
        have hv2 := hv
        have hf2 := hf
        have hrow2 := hrow
        clear hu
        gi_wp2_with (first
          | (refine ⟨trivial, ?_⟩; gi_at_call 82; refine (CallsIn.inRound l (callsIn_wide.2 (HP.out _))).mono ?_; rintro e w' ⟨rfl, rfl⟩)
          | (gi_at_builtin; go_must (refine wpListIn_append_str _ rfl (.tmp 24) (.tmp 25) 40 9 rfl w.heap.size 5 Tryz.underlying40 Tryz.underlying9 info_u8 (.slice A n c) n (Utf.mended (pcs pre)) rfl hrow2 _ [0xEF, 0xBF, 0xBD] (show StrIs ⟨#[239, 191, 189]⟩ [0xEF, 0xBF, 0xBD] from rfl) rfl (by simp only [List.length_cons, List.length_nil]; omega) hB2.size ?_); intro A1 c1 w2 hown1 hgrow1; obtain ⟨hv1, hk1, hs1, hI1⟩ := loose_step hB h3 hko hsb hB2 hcell hv2 hf2 hrow2 hown1 hgrow1 Hm.out Hfb.out; have hc1 := hv1.cell; have hfz1 := hv1.frozen))
        exact ⟨hk1.from _, hs1, hI1⟩
    · have hsc : Utf.isScalar r = true := by rcases hx with h | h; exact absurd h hr; exact h
      have HP := hide (fun W => put_yes r W hsc)
      have hm : Utf.mended (pcs (pre ++ [⟨(at_, r), hx⟩])) = Utf.mended (pcs pre) ++ (Utf.put r).map bv := by rw [pcs_snoc, mended_snoc, if_neg hr]
      have hfb : Utf.firstBad (pcs (pre ++ [⟨(at_, r), hx⟩])) = f0 := by
        rw [pcs_snoc, Utf.firstBad_snoc, Hf0.out]
        simp only [hr, if_false]
        split <;> omega
      have Hm := hide hm
      have Hfb := hide hfb
      have hpl := put_short r
      clear hm hfb hsc
      generalize pre ++ [⟨(at_, r), hx⟩] = pre' at *
      clear hx
      obtain ⟨u, hu⟩ := hu
      obtain ⟨pl, hpl2⟩ : ∃ pl, (Utf.put r).map bv = pl := ⟨_, rfl⟩
      have hpl3 : pl.length ≤ 4 := by rw [← hpl2]; simpa using hpl
      rw [hpl2] at Hm
      have Hpl := hide hpl2
      clear hpl2 hpl
      gi_wp2_with (first
        | (refine ⟨trivial, ?_⟩; gi_at_call 82; refine (CallsIn.inRound l (callsIn_wide.2 (HP.out _))).mono ?_; rintro e w1 ⟨⟨t, rfl, ht⟩, hb1⟩; rw [Hpl.out] at ht; have hko := others_below hb1; have hsb : SameBlk (w.heap.size + 1 + 1) W w1 := hb1.block _ (by omega); have hB2 : Below w.heap.size w w1 := hB.trans (hb1.mono hB.size); have hcell : ∃ u, Boxed w1 (w.heap.size + 1 + 1) 9 u := ⟨u, hu.kept (grown_below hb1 none) (by simp)⟩; have hv2 := hv.kept (grown_below hb1 none) (by simp); have hf2 := hf.kept (grown_below hb1 none) (by simp); have hrow2 := hrow.kept (grown_below hb1 none) (by simp [Value.ownBlock]; cases A <;> simp); have hc2 := hv2.cell)
        | (gi_at_builtin; go_must (refine wpListIn_append_str _ rfl (.tmp 24) (.tmp 25) 40 9 rfl w.heap.size 5 Tryz.underlying40 Tryz.underlying9 info_u8 (.slice A n c) n (Utf.mended (pcs pre)) rfl hrow2 _ pl ht rfl (by omega) hB2.size ?_); intro A1 c1 w2 hown1 hgrow1; obtain ⟨hv1, hk1, hs1, hI1⟩ := loose_step hB h3 hko hsb hB2 hcell hv2 hf2 hrow2 hown1 hgrow1 Hm.out Hfb.out; have hc1 := hv1.cell; have hfz1 := hv1.frozen))
      exact ⟨hk1.from _, hs1, hI1⟩
  case done =>
    rintro D ys W hD hys ⟨⟨v, n, hv, hrow⟩, hf, hu, hB⟩ hK
    obtain ⟨A, c, rfl⟩ := own_form hrow
    have hc := hv.cell
    have hcf := hf.cell
    have hys' : pcs ys = Utf.pieces b.data.toList := hys
    rw [hys'] at hrow hcf
    obtain ⟨t, hcv, ht⟩ := run_to_string (P := Tryz.prog) W.drew 40 9 5 Tryz.underlying40 Tryz.underlying5 Tryz.underlying9 (Utf.mended (Utf.pieces b.data.toList)) hrow.drew
    have Ht := hide ht
    clear ht hys hys'
    obtain ⟨md, hmd⟩ : ∃ md, Utf.mended (Utf.pieces b.data.toList) = md := ⟨_, rfl⟩
    obtain ⟨fb, hfb⟩ : ∃ fb, Utf.firstBad (Utf.pieces b.data.toList) = fb := ⟨_, rfl⟩
    rw [hmd] at hrow
    rw [hfb] at hcf
    have Hmd := hide hmd
    have Hfb := hide hfb
    clear hmd hfb
    gi_wp2
    gi_region
    all_goals gi_wp2
    all_goals
      refine ⟨by simp, .inl ⟨_, _, rfl, run_takeDeferred (w := W.drew) hK, ?_⟩⟩
      refine ⟨_, results_tmp2 rfl _ _ _, ?_⟩
      exact ⟨⟨t, ret_eq2 rfl (int_eq Hfb.out.symm), Ht.out⟩, hB.drew.trans (belowK_b (w := w) (Nat.le_refl _) W.drew D _ _ (by simp at hD; omega) hK rfl rfl)⟩
  case stop =>
    rintro D c pre W _ _ h _
    exact h.elim

set_option maxHeartbeats 400000 in
theorem valid_any (s : ByteArray) (w : World) (hs : s.size ≤ 1000000000) :
    Calls Tryz.prog 50 #[.string s] w fun e w' => e = .returned (.bool (Utf.valid s.data.toList)) ∧ Below w.heap.size w w' := by
  obtain ⟨fb, hfb⟩ : ∃ fb, Utf.firstBad (Utf.pieces s.data.toList) = fb := ⟨_, rfl⟩
  have HV := hide (Utf.valid_pieces s.data.toList)
  have Hfb := hide hfb
  have HL := hide (loose_any s w hs)
  clear hfb
  go_enter Tryz.func50, Tryz.ntmps50
  go_wp2_with (go_at_call 64; refine HL.out.mono ?_; rintro e w' ⟨⟨t, rfl, _⟩, hb⟩; rw [Hfb.out])
  go_ret
  exact ⟨ret_eq1 (bool_eq (by rw [HV.out, Hfb.out])), hb⟩
end Go.Proofs.YtlcfakmbcfdgbaaGreat
namespace Go.Proofs.YtlcfakmbcfdgbaaGreat
open Go.RowKit Go.Shelf Tk

attribute [local go_sem] Oper.semAt_some

theorem upTo_find (f : Nat × Int → Bool) (hf : ∀ p, p.2 < 0 → f p = true) : ∀ l : List (Nat × Int), (upTo l).find? f = l.find? f
  | [] => rfl
  | p :: l => by
    unfold upTo
    split
    · rename_i h
      rw [List.find?_cons, List.find?_cons, hf p h]
    · rw [List.find?_cons, List.find?_cons, upTo_find f hf l]
theorem find_app {α : Type} {f : α → Bool} {pre rest : List α} {x : α} (h : ∀ p ∈ pre, f p = false) (hx : f x = true) : (pre ++ [x] ++ rest).find? f = some x := by
  rw [List.append_assoc, List.find?_append, List.find?_eq_none.2 (fun p hp => by rw [h p hp]; simp)]
  simp [hx]
theorem stop_at {ok : Nat → Int → Bool} (hok : ∀ k r, r < 0 → ok k r = false) {l : L} {pre rest : List (Nat × Int)} {x : Nat × Int} (e : pre ++ [x] ++ rest = upTo (Utf.pieces l)) (h : ∀ p ∈ pre, ok p.1 p.2 = true) (hx : ok x.1 x.2 = false) : stop ok l = some x.1 := by
  unfold stop
  rw [← upTo_find _ (fun p hp => by rw [hok _ _ hp]; rfl), ← e, find_app (fun p hp => by rw [h p hp]; rfl) (by rw [hx]; rfl)]
  rfl
theorem stop_none {ok : Nat → Int → Bool} (hok : ∀ k r, r < 0 → ok k r = false) {l : L} (h : ∀ p ∈ upTo (Utf.pieces l), ok p.1 p.2 = true) : stop ok l = none := by
  unfold stop
  rw [← upTo_find _ (fun p hp => by rw [hok _ _ hp]; rfl), List.find?_eq_none.2 (fun p hp => by rw [h p hp]; simp)]
  rfl
theorem charOk_neg (r : Int) (h : r < 0) : charOk r = false := by
  unfold charOk within
  simp
  omega
/-- What Bad's variables hold when so much has come. -/
def BadI (w : World) (pre : List (Nat × Int)) (W : World) : Prop := (∀ p ∈ pre, charOk p.2 = true) ∧ (∃ v, Boxed W w.heap.size 3 v) ∧ (∃ u, Boxed W (w.heap.size + 1) 9 u) ∧ Below w.heap.size w W
def BadX (w : World) (c : Code) (pre : List (Nat × Int)) (W : World) : Prop :=
  c = .ret ∧ ∃ pre0 x, pre = pre0 ++ [x] ∧ (∀ p ∈ pre0, charOk p.2 = true) ∧ charOk x.2 = false ∧ Boxed W w.heap.size 3 (.int .i64 (x.1 : Int)) ∧ Below w.heap.size w W
theorem box_row {X : World} {B : Nat} {t : TypeId} {u : Value} {row : Option Nat} {n : Nat} (hrow : ∀ r, row = some r → n ≤ r ∧ ∃ o : Obj, X.heap[r]? = some o ∧ o.isCells = false) (h : Boxed X B t u) : some B ≠ row := fun e => by
  obtain ⟨_, o, ho, hc⟩ := hrow _ e.symm
  rw [show X.heap[_]? = _ from h] at ho; cases ho; cases hc
theorem BadI_own (w : World) : OwnFrom (w.heap.size + 1 + 1) (BadI w) := by
  rintro s X Y row ⟨h1, ⟨v, hv⟩, ⟨u, hu⟩, h3⟩ hg hrow
  exact ⟨h1, ⟨v, hv.kept hg (box_row hrow hv)⟩, ⟨u, hu.kept hg (box_row hrow hu)⟩, h3.grown hg h3.size (fun k e => by have := (hrow k e).1; omega)⟩
theorem BadX_own (w : World) (c : Code) : OwnFrom (w.heap.size + 1 + 1) (BadX w c) := by
  rintro s X Y row ⟨h1, p, x, h2, h4, h5, hv, h3⟩ hg hrow
  exact ⟨h1, p, x, h2, h4, h5, hv.kept hg (box_row hrow hv), h3.grown hg h3.size (fun k e => by have := (hrow k e).1; omega)⟩

set_option maxRecDepth 100000 in
set_option maxHeartbeats 4000000 in
theorem bad_any (s : ByteArray) (w : World) (hs : s.size ≤ 1000000000) :
    Calls Tryz.prog 51 #[.string s] w fun e w' => e = .returned (.int .i64 (bad s.data.toList)) ∧ Below w.heap.size w w' := by
  refine (callsIn_wide (n := 5)).1 ?_
  refine callsIn_of_wp_marks Tryz.func51 rfl trivial ?_ rfl
  simp only [Tryz.ntmps51, List.size_toArray, List.length_cons, List.length_nil, Nat.reduceAdd, Nat.reduceSub, Array.replicate_succ, Array.replicate_zero, List.push_toArray, List.append_toArray, List.nil_append, List.cons_append]
  gi_wp2_with (refine ⟨trivial, ?_⟩; gi_at_call 65; refine (callsIn_wide.2 (scalars_mk _ _)).mono ?_; rintro e w' ⟨rfl, rfl⟩)
  have b0 := Boxed.new w 3 (.int .i64 0)
  have b1 := Boxed.new (w.alloc (.cells #[.int .i64 0] 3)) 9 (.string s)
  rw [World.size_alloc] at b1
  have hB0 : Below w.heap.size w ((w.alloc (.cells #[.int .i64 0] 3)).alloc (.cells #[.string s] 9)) := ((Below.refl _ w).alloc (Nat.le_refl _) _).alloc (by simp) _
  refine wpIn_rangeFunc_ownG rfl (by omega) (gf := 83) (lb := #[.pointer (some ⟨w.heap.size + 1, 0, none⟩)]) rfl trivial (enters_of Tryz.func83 (by kernel_rfl) rfl)
    (scalars_stops (5 - 1) (by omega) (w.heap.size + 1) s hs _ (by simp) b1.cell) SameBlk.trans (sameBlk_b (by simp)) (Below.refl _ _) (fun _ => rfl)
    (BadI w) (BadX w) (by simpa using BadI_own w) (fun c => by simpa using BadX_own w c)
    ⟨(fun p hp => by cases hp), ⟨_, b0.alloc _⟩, ⟨_, b1⟩, hB0⟩
    (fun x => { tmps := #[.string s, undef, .pointer (some ⟨w.heap.size, 0, none⟩), .int .i64 (x.1 : Int), .int .i64 x.2, .string s,
      .func (.func 83) #[] #[.pointer (some ⟨w.heap.size + 1, 0, none⟩)], .int .i64 (x.1 : Int), .int .i64 x.2, undef, undef, undef, undef], defers := [] }) ?assign ?body ?done ?stop
  case assign =>
    intro l x W K hK
    gi_wp2
    exact hK
  case body =>
    rintro l pre x W ⟨hp, ⟨v, hv⟩, ⟨u, hu⟩, hB⟩ hlen
    have HP := hide hp
    have h2 : w.heap.size + 1 < W.heap.size := hu.lt
    have HC := hide (char_any x.2)
    cases hx : charOk x.2 with
    | true =>
      rw [hx] at HC
      have HX := hide hx
      clear hp hx
      gi_wp2_with (refine ⟨trivial, ?_⟩; gi_at_call 66; refine (CallsIn.inRound l (callsIn_wide.2 (HC.out _))).mono ?_; rintro e w1 ⟨rfl, hb⟩)
      refine ⟨(others_below hb).from _, hb.block _ (by omega), fun p hp => ?_, ⟨v, hv.kept (grown_below hb none) (by simp)⟩, ⟨u, hu.kept (grown_below hb none) (by simp)⟩, hB.trans (hb.mono hB.size)⟩
      rcases List.mem_append.1 hp with hp | hp
      · exact HP.out p hp
      · have : p = x := by simpa using hp
        rw [this]
        exact HX.out
    | false =>
      rw [hx] at HC
      have HX := hide hx
      clear hp hx
      gi_wp2_with (refine ⟨trivial, ?_⟩; gi_at_call 66; refine (CallsIn.inRound l (callsIn_wide.2 (HC.out _))).mono ?_; rintro e w1 ⟨rfl, hb⟩; have hv1 := hv.kept (grown_below hb none) (by simp); have hc1 := hv1.cell; have hf1 := hv1.frozen)
      exact ⟨((others_below hb).trans (KeepsOthers.setCell _ _ _)).from _, rfl, pre, x, rfl, HP.out, HX.out, hv1.set _, (hB.trans (hb.mono hB.size)).setCell (p := ⟨w.heap.size, 0, none⟩) (Nat.le_refl _) _⟩
  case done =>
    rintro D ys W hD hys ⟨hp, ⟨v, hv⟩, ⟨u, hu⟩, hB⟩ hK
    have hc := hv.cell
    have hf := hv.frozen
    have Hbad := hide (show bad s.data.toList = -1 from by
      unfold bad
      rw [stop_none (ok := fun _ r => charOk r) (fun _ r h => charOk_neg r h) (by rw [← hys]; exact fun p h => hp p h)])
    clear hys hp
    gi_wp2
    have hv2 := hv.set (.int .i64 (-1))
    have hK2 := (KeepsOthers.setCell W ⟨w.heap.size, 0, none⟩ (.int .i64 (-1))).same D _ hK rfl
    refine ⟨by simp, .inl ⟨_, _, rfl, run_takeDeferred hK2, ?_⟩⟩
    have hc2 := cell_kept hv2.cell (grownBy_putObj' _ D (.deferred none)) (fun r e => by cases e; exact ⟨_, hK2, rfl⟩)
    refine ⟨.int .i64 (-1), ?_, ?_⟩
    · simp [results, Tryz.results51, go_sem, hc2]
    · exact ⟨ret_eq1 (int_eq Hbad.out.symm), (hB.setCell (p := ⟨w.heap.size, 0, none⟩) (Nat.le_refl _) _).trans (belowK_b (w := w) (Nat.le_refl _) _ D _ _ (by simp at hD; omega) hK2 rfl rfl)⟩
  case stop =>
    rintro D c pre W hD ⟨rest, hsp⟩ ⟨rfl, pre0, x, rfl, hp, hx, hv, hB⟩ hK
    have hc := hv.cell
    have hf := hv.frozen
    have Hbad := hide (show bad s.data.toList = (x.1 : Int) from by
      unfold bad
      rw [stop_at (ok := fun _ r => charOk r) (fun _ r h => charOk_neg r h) hsp (fun p h => hp p h) hx])
    clear hsp hp hx
    gi_wp2
    refine ⟨by simp, .inl ⟨_, _, rfl, run_takeDeferred hK, ?_⟩⟩
    have hc2 := cell_kept hc (grownBy_putObj' _ D (.deferred none)) (fun r e => by cases e; exact ⟨_, hK, rfl⟩)
    refine ⟨.int .i64 (x.1 : Int), ?_, ?_⟩
    · simp [results, Tryz.results51, go_sem, hc2]
    · exact ⟨ret_eq1 (int_eq Hbad.out.symm), hB.trans (belowK_b (w := w) (Nat.le_refl _) _ D _ _ (by simp at hD; omega) hK rfl rfl)⟩
end Go.Proofs.YtlcfakmbcfdgbaaGreat
namespace Go.Proofs.YtlcfakmbcfdgbaaGreat
open Go.RowKit Go.Shelf Tk

attribute [local go_sem] Oper.semAt_some

end Go.Proofs.YtlcfakmbcfdgbaaGreat
namespace Go.Proofs.YtlcfakmbcfdgbaaGreat
open Go.RowKit Tk

end Go.Proofs.YtlcfakmbcfdgbaaGreat
namespace Go.Proofs.YtlcfakmbcfdgbaaGreat
open Go.RowKit Tk

end Go.Proofs.YtlcfakmbcfdgbaaGreat
namespace Go.Proofs.YtlcfakmbcfdgbaaGreat
open Go.RowKit Tk

theorem dropWhile_head {α : Type} {f : α → Bool} {l : List α} {a : α} {r : List α} (h : l.dropWhile f = a :: r) : f a = false := by
  induction l with
  | nil => simp at h
  | cons b l ih =>
    rw [List.dropWhile_cons] at h
    split at h
    · exact ih h
    · rename_i hb
      cases h
      simpa using hb
end Go.Proofs.YtlcfakmbcfdgbaaGreat
namespace Go.Proofs.YtlcfakmbcfdgbaaGreat
open Go.RowKit Tk

end Go.Proofs.YtlcfakmbcfdgbaaGreat
namespace Go.Proofs.YtlcfakmbcfdgbaaGreat
open Go.RowKit Tk

end Go.Proofs.YtlcfakmbcfdgbaaGreat
namespace Go.Proofs.YtlcfakmbcfdgbaaGreat
open Go.RowKit Tk

end Go.Proofs.YtlcfakmbcfdgbaaGreat
namespace Go.Proofs.YtlcfakmbcfdgbaaGreat
open Go.RowKit Tk

/-- Nothing that was there has turned, but blocks X and T. -/
structure But2 (X T : Nat) (w w' : World) : Prop where
  os : w'.os = w.os
  tape : w'.tape = w.tape
  output : w'.output = w.output
  size : w.heap.size ≤ w'.heap.size
  block : ∀ k, k < w.heap.size → k ≠ X → k ≠ T → w'.heap[k]? = w.heap[k]?
section
variable {X T : Nat} {w w1 w' : World}
end
section
variable {w : World} {T : Nat} {kind : Int} {name : ByteArray} {as_ : Value} {empty : Bool} {text : ByteArray} {at_ end_ : Nat}
end

end Go.Proofs.YtlcfakmbcfdgbaaGreat
namespace Go.Proofs.YtlcfakmbcfdgbaaGreat
open Go.RowKit Tk

end Go.Proofs.YtlcfakmbcfdgbaaGreat
namespace Go.Proofs.YtlcfakmbcfdgbaaGreat
open Go.RowKit Tk

end Go.Proofs.YtlcfakmbcfdgbaaGreat
namespace Go.Proofs.YtlcfakmbcfdgbaaGreat
open Go.RowKit Tk

section
variable {P : Program} {ops : Array Oper} {o : Oper} {a : Act} {K : Act → World → Prop} {Q : Exit → Act → World → Prop} {E : Prop}
/-- append of one element, which lies whole in a block of its own, at a step of a region that draws its order. -/
theorem step_append_elem (W : World) (hgd : o.guard = none) (s x : Operand) (t : TypeId) (ho : o.op = .call { callee := .builtin .append, args := #[s, x], argTypes := #[t, t] })
    (base : Nat) (e : TypeId) (z : Value) (size bytes : Nat) (ht : P.underlying t = some (.slice e)) (hinfo : (P.info? e).map (fun i => (i.zero, i.size, i.bytes)) = some (some z, size, bytes))
    (hzs : z.cells.size = size) (hsz : 0 < size) (v : Value) (n : Nat) (xs : List Value) (hs : a.eval s = v) (hown : W.ownsRow base e size v n xs)
    (cs : List Value) (hcs : cs.length = size) (h1 : ∀ u ∈ cs, u.oneCell' = true) (H : Nat) (hH : Blk W H e cs.toArray) (hx : a.eval x = .slice (some ⟨H, 0, none⟩) 1 1)
    (h63 : n + 1 ≤ maxLen) (hbytes : (n + 1) * bytes ≤ 140737488355328) (hbase : base ≤ W.heap.size)
    (h : ∀ g cap w', w'.ownsRow base e size (.slice (some ⟨g, 0, none⟩) (n + 1) cap) (n + 1) (xs ++ cs) → W.grownBy w' v.ownBlock → g < w'.heap.size →
      K (a.put o.dst (.slice (some ⟨g, 0, none⟩) (n + 1) cap)) w') :
    if Region.wanted o (yielded ops a.tmps) = true then Oper.wp P o a W K Q else E := by
  obtain ⟨i, hi, hz, hsize, hby⟩ := info_parts hinfo
  refine step_append_lies _ hgd s x t ho base e i z size bytes ht hi hz hsize hby hzs hsz v n xs hs hown ⟨H, 0, none⟩ 1 1 cs hx (by omega) ?_ h1 (by omega) h63 hbytes hbase _ rfl ?_
  · intro j u hu
    exact World.news_of_block hH j u (by simpa using hu)
  · intro g cap w' hown' hgrow _ hlt
    exact h g cap w' hown' hgrow hlt
end

section
variable {w W W' : World} {base X T : Nat} {s : ByteArray} {k k' j : Nat} {nm : ByteArray} {L : List At} {A : Option Addr} {c : Nat}
end
end Go.Proofs.YtlcfakmbcfdgbaaGreat
namespace Go.Proofs.YtlcfakmbcfdgbaaGreat
open Go.RowKit Go.WideShapes

namespace Nf
def Ok (r : Int) : Prop := 0 ≤ r ∧ r ≤ 1114111
theorem table_ok : ∀ x ∈ table, (0 ≤ x.1.1 ∧ x.1.1 ≤ 1114111) ∧ (0 ≤ x.1.2 ∧ x.1.2 ≤ 1114111) := by decide +kernel
theorem doubles_ok : ∀ x ∈ doubles, 0 ≤ x.2 ∧ x.2 ≤ 1114111 := by decide +kernel
theorem made_ok {r a b : Int} (h : made r = some (a, b)) : Ok a ∧ Ok b := by
  unfold made at h
  unfold Ok
  split at h
  · rename_i hh
    have hr := of_decide_eq_true hh
    split at h
    · cases h; omega
    · cases h; omega
  · split at h
    · rename_i p hp
      cases h
      exact table_ok _ (lookM_mem hp)
    · rename_i hn
      obtain ⟨x, hx, e⟩ := Option.map_eq_some_iff.1 h
      cases e
      exact ⟨doubles_ok _ (lookD_mem hx), by omega⟩
theorem apart_ok : ∀ {n : Nat} {r : Int} {l : List Int}, apart n r = some l → Ok r → ∀ x ∈ l, Ok x
  | 0, _, _, h, _ => by cases h
  | n + 1, r, l, h, hr => by
    rw [apart] at h
    split at h
    · cases h; intro x hx; rw [List.mem_singleton] at hx; subst hx; exact hr
    · rename_i a b hm
      obtain ⟨ha, hb⟩ := made_ok hm
      split at h
      · cases h
      · rename_i la hla
        split at h
        · cases h; exact apart_ok hla ha
        · obtain ⟨m, hm2, e⟩ := Option.map_eq_some_iff.1 h
          subst e
          intro x hx
          rcases List.mem_append.1 hx with hx | hx
          · exact apart_ok hla ha x hx
          · exact apart_ok hm2 hb x hx
theorem parts_ok {r : Int} (h : Ok r) : ∀ x ∈ parts r, Ok x := apart_ok (parts_is r) h
theorem apart_len : ∀ {n : Nat} {r : Int} {l : List Int}, apart n r = some l → l.length ≤ 2 ^ n
  | 0, _, _, h => by cases h
  | n + 1, r, l, h => by
    have hp : 0 < 2 ^ n := Nat.two_pow_pos n
    rw [apart] at h
    rw [Nat.pow_succ]
    split at h
    · cases h; simp; omega
    · split at h
      · cases h
      · rename_i la hla
        have := apart_len hla
        split at h
        · cases h; omega
        · obtain ⟨m, hm2, e⟩ := Option.map_eq_some_iff.1 h
          have := apart_len hm2
          subst e
          rw [List.length_append]; omega
theorem parts_len (r : Int) : (parts r).length ≤ 16 := apart_len (parts_is r)
end Nf
theorem intVs_app (a b : List Int) : intVs (a ++ b) = intVs a ++ intVs b := List.map_append ..
theorem intVs_len (a : List Int) : (intVs a).length = a.length := List.length_map ..
theorem intVs_one (l : List Int) : ∀ u ∈ intVs l, u.oneCell' = true := by
  intro u hu
  obtain ⟨b, _, rfl⟩ := List.mem_map.1 hu
  rfl
/-- What a call may have turned: of the blocks that were there, those from 'base' on that are rows of element type t, and the block b; nothing else. -/
structure Tn (base t b : Nat) (w w' : World) : Prop where
  os : w'.os = w.os
  tape : w'.tape = w.tape
  output : w'.output = w.output
  size : w.heap.size ≤ w'.heap.size
  block : ∀ k, k < w.heap.size → k ≠ b → ¬ (base ≤ k ∧ IsT w k t) → w'.heap[k]? = w.heap[k]?
section
variable {base t b : Nat} {w w1 w' : World}
theorem Tn.refl (base t b : Nat) (w : World) : Tn base t b w w := ⟨rfl, rfl, rfl, Nat.le_refl _, fun _ _ _ _ => rfl⟩
theorem Tn.trans (h : Tn base t b w w1) (k : Tn base t b w1 w') : Tn base t b w w' := by
  refine ⟨k.os.trans h.os, k.tape.trans h.tape, k.output.trans h.output, Nat.le_trans h.size k.size, fun i hi hb hn => ?_⟩
  have e := h.block i hi hb hn
  rw [k.block i (Nat.lt_of_lt_of_le hi h.size) hb ?_, e]
  rintro ⟨h1, cs, fr, h2⟩
  exact hn ⟨h1, cs, fr, by rw [← e]; exact h2⟩
theorem Tn.below {B : Nat} (h : Tn base t b w w') (hB : B ≤ base) (hb : B ≤ b) (hs : B ≤ w.heap.size) : Below B w w' :=
  ⟨h.os, h.tape, h.output, h.size, fun k hk => h.block k (by omega) (by omega) (fun hh => by omega)⟩
theorem Tn.of_below (h : Below w.heap.size w w') : Tn base t b w w' := ⟨h.os, h.tape, h.output, h.size, fun k hk _ _ => h.block k hk⟩
theorem Tn.setCell (h : Tn base t b w w1) {p : Addr} (hp : p.block = b ∨ w.heap.size ≤ p.block) (u : Value) : Tn base t b w (w1.setCell p u) := by
  refine ⟨h.os, h.tape, h.output, by simpa [World.setCell] using h.size, fun k hk hb hn => ?_⟩
  rw [Below.heap_setCell _ _ _ _ (by omega)]
  exact h.block k hk hb hn
theorem Tn.grown (h : Tn base t b w w1) {row : Option Nat} (hg : w1.grownBy w' row) (hr : ∀ k, row = some k → base ≤ k ∧ IsT w1 k t) : Tn base t b w w' :=
  h.trans ⟨hg.os, hg.tape, hg.output, hg.size, fun k h1 _ hn => hg.block k h1 (fun e => hn (hr k e.symm))⟩
end
/-- A taker: its block, its row. -/
structure TA (w : World) (base tb : Nat) (l : List Int) (A : Option Addr) (c : Nat) : Prop where
  blk : Blk w tb 150 #[.slice A l.length c]
  own : w.ownsRow base 3 1 (.slice A l.length c) l.length (intVs l)
  base : base ≤ w.heap.size
theorem TA.ne {w : World} {base tb : Nat} {l : List Int} {A : Option Addr} {c : Nat} (h : TA w base tb l A c) : (Value.slice A l.length c).ownBlock ≠ some tb := own_blk_ne h.own h.blk (by decide)
theorem TA.go {w w' : World} {base tb : Nat} {l : List Int} {A : Option Addr} {c : Nat} (h : TA w base tb l A c) (hb : Below w.heap.size w w') : TA w' base tb l A c :=
  ⟨h.blk.go hb, h.own.kept (grown_below hb none) (by cases hv : (Value.slice A l.length c).ownBlock with | none => exact .inl rfl | some k => exact .inr (by simp)), Nat.le_trans h.base hb.size⟩
theorem TA.next {w w' : World} {base tb g cap : Nat} {l : List Int} {A : Option Addr} {c : Nat} {r : Int} (h : TA w base tb l A c) (ho : w'.ownsRow base 3 1 (.slice (some ⟨g, 0, none⟩) (l.length + 1) cap) (l.length + 1) (intVs (l ++ [r]))) (hg : w.grownBy w' (Value.slice A l.length c).ownBlock) :
    TA (w'.setCell ⟨tb, 0, none⟩ (.slice (some ⟨g, 0, none⟩) (l.length + 1) cap)) base tb (l ++ [r]) (some ⟨g, 0, none⟩) cap ∧ Tn base 3 tb w (w'.setCell ⟨tb, 0, none⟩ (.slice (some ⟨g, 0, none⟩) (l.length + 1) cap)) := by
  have hk : Blk w' tb 150 #[.slice A l.length c] := h.blk.grown hg (fun e => h.ne e.symm)
  have hl : (l ++ [r]).length = l.length + 1 := by simp
  have hne : tb ≠ g := fun e => by
    have := own_isT ho g rfl
    obtain ⟨cs, fr, h2⟩ := this.2
    subst e
    unfold Blk at hk
    rw [hk] at h2
    injection h2 with h2
    injection h2 with _ h3
    exact absurd h3 (by decide)
  refine ⟨⟨?_, ?_, ?_⟩, ?_⟩
  · have := hk.set_ 0 (.slice (some ⟨g, 0, none⟩) (l.length + 1) cap)
    rw [hl]
    simpa using this
  · rw [hl]
    exact ownsRow_setCell_other ho (by simp [Value.ownBlock]; exact fun e => hne e.symm) _
  · simp only [World.setCell, Array.size_modify]; exact Nat.le_trans h.base hg.size
  · exact ((Tn.refl base 3 tb w).grown hg (own_isT h.own)).setCell (.inl rfl) _
set_option maxRecDepth 100000 in
set_option maxHeartbeats 4000000 in
theorem apart_any (base tb : Nat) : ∀ (n : Nat) (r : Int) (l out : List Int) (A : Option Addr) (c : Nat) (w : World), Nf.apart n r = some l → Nf.Ok r → TA w base tb out A c → out.length + l.length ≤ 100000000 →
    Calls Tryz.prog 132 #[.pointer (some ⟨tb, 0, none⟩), .int .i64 r] w fun e w' => ∃ A' c', e = .returned (.tuple #[]) ∧ TA w' base tb (out ++ l) A' c' ∧ Tn base 3 tb w w'
  | 0, _, _, _, _, _, _, h, _, _, _ => by cases h
  | n + 1, r, l, out, A, c, w, h, hr, ht, hn => by
    have HM := hide (fun W => made_any r W hr.1 hr.2)
    have HT := hide ht
    clear ht
    rw [Nf.apart] at h
    unfold madeV at HM
    cases hm : Nf.made r with
    | none =>
      rw [hm] at h HM
      cases h
      dsimp only at HM
      simp only [List.length_singleton] at hn
      clear hm
      go_enter Tryz.func132, Tryz.ntmps132
      go_wp2_with fail
      refine (HM.out _).mono ?_
      rintro e w1 ⟨rfl, hb1⟩
      have HT1 := hide (HT.out.go hb1)
      have HB1 := hide (Tn.of_below (base := base) (t := 3) (b := tb) hb1)
      clear hb1
      have q0 := HT1.out.blk.cell 0
      have qf := HT1.out.blk.frozen 0
      go_wp2_with (at_builtin; go_loud (refine wpList_append_elem w1 rfl (.tmp 19) (.tmp 21) 93 rfl base (.int .i64 0) 1 8 Tryz.underlying93 info_int rfl (by omega) _ out.length (intVs out) rfl HT1.out.own rfl (by simp [Value.oneCell']) rfl (by unfold maxLen; omega) (by omega) HT1.out.base ?_); intro g cap w2 ho hg _ _ _; clear q0 qf; have hk2 := HT1.out.blk.grown hg (fun e => HT1.out.ne e.symm); have q0 := hk2.cell 0; have qf := hk2.frozen 0; have HN := hide (HT1.out.next (r := r) (by rw [intVs_app]; exact ho) hg); clear hk2 ho hg)
      (try simp only [Exit.inBlock, Exit.then])
      refine bodyPost_ret (results_none rfl _ _ _) rfl ?_
      exact ⟨_, _, rfl, HN.out.1, HB1.out.trans HN.out.2⟩
    | some p =>
      obtain ⟨a, b⟩ := p
      rw [hm] at h HM
      dsimp only at h HM
      obtain ⟨⟨a0, a1⟩, ⟨b0, b1⟩⟩ := Nf.made_ok hm
      cases hla : Nf.apart n a with
      | none => rw [hla] at h; cases h
      | some la =>
        rw [hla] at h
        dsimp only at h
        by_cases hb : b = 0
        · subst hb
          rw [if_pos rfl] at h
          cases h
          have IH := hide (fun (W : World) (h : TA W base tb out A c) => apart_any base tb n a l out A c W hla ⟨a0, a1⟩ h hn)
          clear hm hla
          go_enter Tryz.func132, Tryz.ntmps132
          go_wp2_with fail
          refine (HM.out _).mono ?_
          rintro e w1 ⟨rfl, hb1⟩
          have HT1 := hide (HT.out.go hb1)
          have HB1 := hide (Tn.of_below (base := base) (t := 3) (b := tb) hb1)
          clear hb1
          go_wp2_with fail
          refine (IH.out _ HT1.out).mono ?_
          rintro e w2 ⟨A', c', rfl, ht2, hb2⟩
          have HT2 := hide ht2
          have HB2 := hide hb2
          clear ht2 hb2
          go_wp2
          go_end0
          exact ⟨_, _, rfl, HT2.out, HB1.out.trans HB2.out⟩
        · rw [if_neg hb] at h
          obtain ⟨lb, hlb, e⟩ := Option.map_eq_some_iff.1 h
          subst e
          rw [List.length_append] at hn
          have IH := hide (fun (W : World) (h : TA W base tb out A c) => apart_any base tb n a la out A c W hla ⟨a0, a1⟩ h (by omega))
          have IH2 := hide (fun (A : Option Addr) (c : Nat) (W : World) (h : TA W base tb (out ++ la) A c) => apart_any base tb n b lb (out ++ la) A c W hlb ⟨b0, b1⟩ h (by rw [List.length_append]; omega))
          clear hm hla hlb h
          go_enter Tryz.func132, Tryz.ntmps132
          go_wp2_with fail
          refine (HM.out _).mono ?_
          rintro e w1 ⟨rfl, hb1⟩
          have HT1 := hide (HT.out.go hb1)
          have HB1 := hide (Tn.of_below (base := base) (t := 3) (b := tb) hb1)
          clear hb1
          go_wp2_with fail
          refine (IH.out _ HT1.out).mono ?_
          rintro e w2 ⟨A', c', rfl, ht2, hb2⟩
          have HT2 := hide ht2
          have HB2 := hide hb2
          clear ht2 hb2
          go_wp2_with fail
          refine (IH2.out _ _ _ HT2.out).mono ?_
          rintro e w3 ⟨A3, c3, rfl, ht3, hb3⟩
          have HT3 := hide ht3
          have HB3 := hide hb3
          clear ht3 hb3
          go_wp2
          go_end0
          exact ⟨_, _, rfl, by rw [← List.append_assoc]; exact HT3.out, (HB1.out.trans HB2.out).trans HB3.out⟩
namespace Nf
/-- All scalars' parts. -/
def decomp (l : List Int) : List Int := l.flatMap parts
theorem decomp_len (l : List Int) : (decomp l).length ≤ 16 * l.length := by
  unfold decomp
  induction l with
  | nil => simp
  | cons x l ih => rw [List.flatMap_cons, List.length_append, List.length_cons]; have := parts_len x; omega
theorem decomp_next {l : List Int} {j : Nat} {a : Int} (h : l[j]? = some a) : decomp (l.take (j + 1)) = decomp (l.take j) ++ parts a := by
  unfold decomp
  rw [List.take_add_one, h, List.flatMap_append]
  simp
end Nf
set_option maxRecDepth 100000 in
set_option maxHeartbeats 4000000 in
theorem decompose_any (l : List Int) (A : Option Addr) (c : Nat) (w : World) (hr : Reads w w.heap.size 1 A l.length (intVs l)) (hok : ∀ x ∈ l, Nf.Ok x) (hn : l.length ≤ 1000000) :
    Calls Tryz.prog 123 #[.slice A l.length c] w fun e w' => ∃ A' c', e = .returned (.slice A' (Nf.decomp l).length c') ∧ w'.ownsRow w.heap.size 3 1 (.slice A' (Nf.decomp l).length c') (Nf.decomp l).length (intVs (Nf.decomp l)) ∧ Below w.heap.size w w' := by
  have HR := hide hr
  have HOk := hide hok
  clear hr hok
  obtain ⟨N, hN⟩ : ∃ N, l.length = N := ⟨_, rfl⟩
  rw [hN] at hn HR ⊢
  have HN := hide hN
  clear hN
  have HW0 := hide (show TA (w.alloc (.cells #[.slice none 0 0] 150)) w.heap.size w.heap.size [] none 0 from ⟨Blk.new _ _ _, World.ownsRow_nil _ _ _ _, by simp⟩)
  have HB0 := hide (below_alloc w (.cells #[.slice none 0 0] 150))
  go_enter Tryz.func123, Tryz.ntmps123
  go_wp2
  go_loopg [10] N (fun gk vk wr => ∃ (j : Nat) (A' : Option Addr) (c' : Nat), gk = N - j ∧ j ≤ N ∧ vk = .int .i64 (j : Int) ∧ TA wr w.heap.size w.heap.size (Nf.decomp (l.take j)) A' c' ∧ Below w.heap.size w wr)
  case atStart => exact ⟨0, none, 0, rfl, by omega, rfl, HW0.out, HB0.out⟩
  case round =>
    obtain ⟨j, A', c', hgk, hj, rfl, ht, hb⟩ := hrel
    have Hg := hide hgk
    have HT := hide ht
    have HB := hide hb
    clear hgk ht hb
    by_cases hlt : j < N
    · obtain ⟨a, ha⟩ : ∃ a, l[j]? = some a := ⟨_, List.getElem?_eq_getElem (by rw [HN.out]; exact hlt)⟩
      obtain ⟨gb, off, rfl, hgl, hcell⟩ := HR.out.2 (by omega)
      have y0 : wr.cell? ⟨gb, off + j, none⟩ = some (.int .i64 a) := (HB.out.cell hgl).trans (hcell j _ (by unfold intVs; rw [List.getElem?_map, ha]; rfl))
      have HD := hide (Nf.decomp_next ha)
      have hlen := Nf.decomp_len (l.take (j + 1))
      have hl2 : (Nf.decomp (l.take j)).length + (Nf.parts a).length ≤ 100000000 := by
        rw [← List.length_append, ← HD.out]
        have := List.length_take_le (j + 1) l
        have := HN.out
        omega
      have HA := hide (fun (W : World) (h : TA W w.heap.size w.heap.size (Nf.decomp (l.take j)) A' c') => apart_any w.heap.size w.heap.size 4 a _ _ A' c' W (Nf.parts_is a) (HOk.out a (List.mem_of_getElem? ha)) h hl2)
      clear hcell ha hlen hl2
      go_wp2_with fail
      refine (HA.out _ HT.out).mono ?_
      rintro e w2 ⟨A2, c2, rfl, ht2, hb2⟩
      have HT2 := hide ht2
      have HB2 := hide hb2
      clear ht2 hb2
      go_wp2
      go_roundg (N - (j + 1))
      case measure => have := Hg.out; omega
      case rel => exact ⟨j + 1, A2, c2, rfl, by omega, by first | rfl | go_num, by rw [HD.out]; exact HT2.out, HB.out.trans (HB2.out.below (Nat.le_refl _) (Nat.le_refl _) HT.out.base)⟩
    · have hjN : j = N := by omega
      subst hjN
      have q0 := HT.out.blk.cell 0
      go_wp2
      go_ret
      have hx := HT.out
      rw [List.take_of_length_le (by rw [HN.out]; exact Nat.le_refl _)] at hx ⊢
      exact ⟨_, _, rfl, hx.own, HB.out⟩
theorem decomp_one (r : Int) : Nf.decomp [r] = Nf.parts r := by simp [Nf.decomp]
set_option maxRecDepth 100000 in
set_option maxHeartbeats 4000000 in
theorem parts_any (r : Int) (w : World) (hr : Nf.Ok r) :
    Calls Tryz.prog 109 #[.int .i64 r] w fun e w' => ∃ A' c', e = .returned (.slice A' (Nf.parts r).length c') ∧ w'.ownsRow w.heap.size 3 1 (.slice A' (Nf.parts r).length c') (Nf.parts r).length (intVs (Nf.parts r)) ∧ Below w.heap.size w w' := by
  have HD := hide (decompose_any [r] (some ⟨w.heap.size, 0, none⟩) 1 (w.alloc (.cells #[.int .i64 r] 3)) (reads_newI w [r]) (by intro x hx; rw [List.mem_singleton] at hx; subst hx; exact hr) (by simp))
  rw [decomp_one] at HD
  have HB := hide (below_alloc w (.cells #[.int .i64 r] 3))
  go_enter Tryz.func109, Tryz.ntmps109
  go_wp2_with fail
  refine HD.out.mono ?_
  rintro e w2 ⟨A', c', rfl, ho, hb⟩
  have HO := hide ho
  have HB2 := hide hb
  clear ho hb
  go_wp2
  go_ret
  exact ⟨_, _, rfl, HO.out.mono (by simp), HB.out.trans (HB2.out.mono (by simp))⟩
end Go.Proofs.YtlcfakmbcfdgbaaGreat
