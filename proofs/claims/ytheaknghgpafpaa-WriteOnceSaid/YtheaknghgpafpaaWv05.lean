/- The program's 'Loose' and 'Valid'. · Characters: the program's 'Bad', 'front', 'Take'. · Characters: the program's 'Take': how many bytes a name at the front has. · Tokens: the scan's name, value. (Printed by wip/genTkG.py.) · Tokens: the scan's value. · Tokens: what a part of the declaration may hold. · Tokens: an encoding's name. · Tokens: the parts of the declaration. (Printed by wip/genTkK.py.) · Tokens: the declaration. · Tokens: the token at its block; kind; an end. · Tokens: what a piece's reading leaves; an end. · Tokens: a text. (Printed by wip/genTkP.py.) · Tokens: words for a start: append of one element; a round of the attributes. -/
import Derived.Test.YtheaknghgpafpaaWv03
import Derived.Test.YtheaknghgpafpaaWv04
import Derived.Deep.RegionHeld3
import Derived.Deep.AppendLies
import Derived.ScopeJumps
import Derived.WalkMore
set_option linter.unusedSimpArgs false
set_option linter.unusedVariables false
namespace Go.Proofs.Ytheaknghgpafpaa
open Go.RowKit Go.Shelf

attribute [local go_sem] Oper.semAt_some

theorem info_u8 : (Try.prog.info? 5).map (fun i => (i.zero, i.size, i.bytes)) = some (some (.int .u8 0), 1, 1) := by kernel_rfl

def pcs (l : List Pc) : List (Nat × Int) := l.map (·.1)
theorem pcs_snoc (l : List Pc) (x : Pc) : pcs (l ++ [x]) = pcs l ++ [x.1] := by simp [pcs]
theorem pcs_length (l : List Pc) : (pcs l).length = l.length := by simp [pcs]
theorem mended_snoc (l : List (Nat × Int)) (x : Nat × Int) : Utf.mended (l ++ [x]) = Utf.mended l ++ (if x.2 < 0 then [0xEF, 0xBF, 0xBD] else (Utf.put x.2).map bv) := by
  unfold Utf.mended
  rw [List.flatMap_append, List.flatMap_cons, List.flatMap_nil, List.append_nil]
  rfl
theorem mended_length (l : List (Nat × Int)) : (Utf.mended l).length ≤ 4 * l.length := by
  induction l with
  | nil => simp [Utf.mended]
  | cons x l ih =>
    have h := put_short x.2
    unfold Utf.mended at ih ⊢
    rw [List.flatMap_cons, List.length_append, List.length_cons]
    split <;> simp only [List.length_map, List.length_cons, List.length_nil] <;> omega

/-- What the loop's variables hold when so much has come. -/
def LooseI (w : World) (pre : List Pc) (W : World) : Prop :=
  (∃ v n, Boxed W w.heap.size 39 v ∧ W.ownsRow w.heap.size 5 1 v n (byteVs (Utf.mended (pcs pre)))) ∧ Boxed W (w.heap.size + 1) 3 (.int .i64 (Utf.firstBad (pcs pre))) ∧ (∃ u, Boxed W (w.heap.size + 1 + 1) 9 u) ∧ Below w.heap.size w W

theorem LooseI_own (w : World) : OwnFrom (w.heap.size + 3) (LooseI w) := by
  rintro s X Y row ⟨⟨v, n, hv, hr⟩, h2, ⟨u, hu⟩, h3⟩ hg hrow
  have hne : ∀ {B : Nat} {t : TypeId} {u : Value}, Boxed X B t u → some B ≠ row := fun h e => by
    obtain ⟨_, o, ho, hc⟩ := hrow _ e.symm
    rw [show X.heap[_]? = _ from h] at ho; cases ho; cases hc
  refine ⟨⟨v, n, hv.kept hg (hne hv), hr.kept hg ?_⟩, h2.kept hg (hne h2), ⟨u, hu.kept hg (hne hu)⟩, h3.grown hg h3.size (fun k e => by have := (hrow k e).1; omega)⟩
  rcases hr.2 with ⟨rfl, _⟩ | ⟨g, cap, cur, rfl, _, hgb, _⟩
  · exact .inl rfl
  · refine .inr fun e' => ?_
    obtain ⟨_, o, ho, hc⟩ := hrow g (by simpa [Value.ownBlock] using e'.symm)
    rw [hgb] at ho; cases ho; cases hc

theorem grown_below {W w1 : World} (h : Below W.heap.size W w1) (row : Option Nat) : W.grownBy w1 row := ⟨h.os, h.tape, h.output, h.size, fun k hk _ => h.block k hk⟩
theorem others_below {W w1 : World} (h : Below W.heap.size W w1) : KeepsOthers W w1 := ⟨h.size, fun k o hk _ => (h.block k (Array.getElem?_eq_some_iff.1 hk).1).trans hk⟩

/-- A round's end: behind the append and the store. -/
theorem loose_step {w W W2 w1 : World} {pre pre' : List Pc} {v v' : Value} {n n' : Nat} {m : List UInt8} {f1 : Int} (hB : Below w.heap.size w W) (h3 : w.heap.size + 3 ≤ W.heap.size)
    (hko : KeepsOthers W W2) (hsb : SameBlk (w.heap.size + 1 + 1) W W2) (hB2 : Below w.heap.size w W2) (hcell : ∃ u, Boxed W2 (w.heap.size + 1 + 1) 9 u)
    (hv : Boxed W2 w.heap.size 39 v) (hf : Boxed W2 (w.heap.size + 1) 3 (.int .i64 f1)) (hrow : W2.ownsRow w.heap.size 5 1 v n (byteVs (Utf.mended (pcs pre))))
    (hown : w1.ownsRow w.heap.size 5 1 v' n' (byteVs (Utf.mended (pcs pre) ++ m))) (hgrow : W2.grownBy w1 v.ownBlock)
    (hm : Utf.mended (pcs pre') = Utf.mended (pcs pre) ++ m) (hf1 : Utf.firstBad (pcs pre') = f1) :
    Boxed w1 w.heap.size 39 v ∧ KeepsOthers W (w1.setCell ⟨w.heap.size, 0, none⟩ v') ∧ SameBlk (w.heap.size + 1 + 1) W (w1.setCell ⟨w.heap.size, 0, none⟩ v') ∧ LooseI w pre' (w1.setCell ⟨w.heap.size, 0, none⟩ v') := by
  have hv1 : Boxed w1 w.heap.size 39 v := hv.kept hgrow (hv.not_row (by decide) hrow)
  have hf1' : Boxed w1 (w.heap.size + 1) 3 (.int .i64 f1) := hf.kept hgrow (hf.not_row (by decide) hrow)
  obtain ⟨u, hu⟩ := hcell
  have hu1 : w1.heap[w.heap.size + 1 + 1]? = W2.heap[w.heap.size + 1 + 1]? := hgrow.block _ hu.lt (hu.not_row (by decide) hrow)
  have hsz : w.heap.size ≤ W2.heap.size := hB2.size
  refine ⟨hv1, ?_, ?_, ⟨v', n', hv1.set v', ?_⟩, ?_, ⟨u, ?_⟩, ?_⟩
  · refine (hko.trans (KeepsOthers.of_grownBy hgrow fun j o ej hj => ?_)).trans (KeepsOthers.setCell _ _ _)
    obtain ⟨_, cs, fr, h⟩ := own_isT hrow j ej
    rw [h] at hj; cases hj; rfl
  · refine hsb.trans ?_
    exact (Below.heap_setCell _ _ _ _ (by simp; omega)).trans hu1
  · rw [hm]
    exact hown.kept (grownBy_setCell' w1 _ v') (.inr (hv1.not_row (by decide) hown).symm)
  · rw [hf1]
    exact hf1'.kept (grownBy_setCell' w1 _ v') (by simp)
  · exact (Below.heap_setCell _ _ _ _ (by simp; omega)).trans (hu1.trans hu)
  · refine (hB2.grown hgrow hsz fun j ej => (own_isT hrow j ej).1).setCell (p := ⟨w.heap.size, 0, none⟩) (Nat.le_refl _) v'

set_option maxRecDepth 100000 in
set_option maxHeartbeats 4000000 in
theorem loose_any (b : ByteArray) (w : World) (hs : b.size ≤ 1000000000) :
    Calls Try.prog 42 #[.string b] w fun e w' => (∃ t : ByteArray, e = .returned (.tuple #[.string t, .int .i64 (Utf.firstBad (Utf.pieces b.data.toList))]) ∧ StrIs t (Utf.mended (Utf.pieces b.data.toList))) ∧ Below w.heap.size w w' := by
  refine (callsIn_wide (n := 5)).1 ?_
  refine callsIn_of_wp_marks Try.func42 rfl trivial ?_ rfl
  simp only [Try.ntmps42, List.size_toArray, List.length_cons, List.length_nil, Nat.reduceAdd, Nat.reduceSub, Array.replicate_succ, Array.replicate_zero, List.push_toArray, List.append_toArray, List.nil_append, List.cons_append]
  gi_wp2_with (refine ⟨trivial, ?_⟩; gi_at_call 51; refine (callsIn_wide.2 (pieces_any _ _)).mono ?_; rintro e w' ⟨rfl, rfl⟩)
  have b0 := Boxed.new w 39 (.slice none 0 0)
  have b1 := Boxed.new (w.alloc (.cells #[.slice none 0 0] 39)) 3 (.int .i64 (-1))
  rw [World.size_alloc] at b1
  have b2 := Boxed.new ((w.alloc (.cells #[.slice none 0 0] 39)).alloc (.cells #[.int .i64 (-1)] 3)) 9 (.string b)
  rw [World.size_alloc, World.size_alloc] at b2
  have hB0 : Below w.heap.size w (((w.alloc (.cells #[.slice none 0 0] 39)).alloc (.cells #[.int .i64 (-1)] 3)).alloc (.cells #[.string b] 9)) :=
    (((Below.refl _ w).alloc (Nat.le_refl _) _).alloc (by simp) _).alloc (by simp; omega) _
  refine wpIn_rangeFunc_ownG rfl (by omega) (gf := 63) (lb := #[.pointer (some ⟨w.heap.size + 1 + 1, 0, none⟩)]) rfl trivial (enters_of Try.func63 (by kernel_rfl) rfl)
    (pieces_stops (5 - 1) (by omega) (w.heap.size + 1 + 1) b hs _ (by simp) b2.cell) SameBlk.trans (sameBlk_b (by simp)) (Below.refl _ _) (fun _ => rfl)
    (LooseI w) (fun _ _ _ => False) (by simpa using LooseI_own w) (fun _ _ _ _ _ hs _ _ => hs)
    ⟨⟨_, 0, (b0.alloc _).alloc _, World.ownsRow_nil _ _ _ _⟩, b1.alloc _, ⟨_, b2⟩, hB0⟩
    (fun x => { tmps := #[.string b, undef, .string ⟨#[]⟩, .int .i64 0, .pointer (some ⟨w.heap.size, 0, none⟩), .pointer (some ⟨w.heap.size + 1, 0, none⟩), .int .i64 (x.1.1 : Int), .int .i64 x.1.2, undef, undef, .string b,
      .func (.func 63) #[] #[.pointer (some ⟨w.heap.size + 1 + 1, 0, none⟩)], .int .i64 (x.1.1 : Int), .int .i64 x.1.2, undef, undef, undef, undef, undef, undef, undef, undef, undef, undef, undef, undef, undef, undef, undef, undef], defers := [] }) ?assign ?body ?done ?stop
  case assign =>
    intro l x W K hK
    gi_wp2
    exact hK
  case body =>
    rintro l pre ⟨⟨at_, r⟩, hx⟩ W ⟨⟨v, n, hv, hrow⟩, hf, hu, hB⟩ hlen
    obtain ⟨A, c, rfl⟩ := own_form hrow
    dsimp only at hx ⊢
    have hn : n ≤ 4 * pre.length := by
      have h1 := hrow.1
      have h2 := mended_length (pcs pre)
      rw [byteVs_length] at h1
      rw [pcs_length] at h2
      omega
    have hc := hv.cell
    have hcf := hf.cell
    have hff := hf.frozen
    obtain ⟨f0, hf0⟩ : ∃ f0, Utf.firstBad (pcs pre) = f0 := ⟨_, rfl⟩
    have hge := Utf.firstBad_ge (pcs pre)
    rw [hf0] at hf hcf hge
    have Hf0 := hide hf0
    clear hf0
    have h3 : w.heap.size + 3 ≤ W.heap.size := by obtain ⟨u, hu⟩ := hu; have := hu.lt; omega
    by_cases hr : r < 0
    · have HP := hide (fun W => put_no r W (show Utf.isScalar r = false by simp [Utf.isScalar]; omega))
      have hm : Utf.mended (pcs (pre ++ [⟨(at_, r), hx⟩])) = Utf.mended (pcs pre) ++ [0xEF, 0xBF, 0xBD] := by rw [pcs_snoc, mended_snoc, if_pos hr]
      have hfb : Utf.firstBad (pcs (pre ++ [⟨(at_, r), hx⟩])) = if f0 < 0 then (at_ : Int) else f0 := by rw [pcs_snoc, Utf.firstBad_snoc, Hf0.out, if_pos hr]
      have Hm := hide hm
      have Hfb := hide hfb
      clear hm hfb
      generalize pre ++ [⟨(at_, r), hx⟩] = pre' at *
      by_cases hneg : f0 < 0
      · have hko : KeepsOthers W (W.setCell ⟨w.heap.size + 1, 0, none⟩ (.int .i64 (at_ : Int))) := KeepsOthers.setCell _ _ _
        have hsb : SameBlk (w.heap.size + 1 + 1) W (W.setCell ⟨w.heap.size + 1, 0, none⟩ (.int .i64 (at_ : Int))) := Below.heap_setCell _ _ _ _ (by simp)
        have hB2 := hB.setCell (p := ⟨w.heap.size + 1, 0, none⟩) (by simp) (.int .i64 (at_ : Int))
        have hcell : ∃ u, Boxed (W.setCell ⟨w.heap.size + 1, 0, none⟩ (.int .i64 (at_ : Int))) (w.heap.size + 1 + 1) 9 u := by
          obtain ⟨u, hu⟩ := hu
          exact ⟨u, hu.kept (grownBy_setCell' _ _ _) (by simp)⟩
        have hv2 : Boxed (W.setCell ⟨w.heap.size + 1, 0, none⟩ (.int .i64 (at_ : Int))) w.heap.size 39 (.slice A n c) := hv.kept (grownBy_setCell' _ _ _) (by simp)
        have hf2 := hf.set (.int .i64 (at_ : Int))
        have hrow2 := hrow.kept (grownBy_setCell' W (w.heap.size + 1) (.int .i64 (at_ : Int))) (.inr (hf.not_row (by decide) hrow).symm)
        have Hpost := hide (show Utf.firstBad (pcs pre') = (at_ : Int) by rw [Hfb.out, if_pos hneg])
        clear Hfb hu
        gi_wp2_with (first
          | (refine ⟨trivial, ?_⟩; gi_at_call 52; refine (CallsIn.inRound l (callsIn_wide.2 (HP.out _))).mono ?_; rintro e w' ⟨rfl, rfl⟩)
          | (gi_at_builtin; go_must (refine wpListIn_append_str _ rfl (.tmp 24) (.tmp 25) 39 9 rfl w.heap.size 5 Try.underlying39 Try.underlying9 info_u8 (.slice A n c) n (Utf.mended (pcs pre)) rfl hrow2 _ [0xEF, 0xBF, 0xBD] (show StrIs ⟨#[239, 191, 189]⟩ [0xEF, 0xBF, 0xBD] from rfl) rfl (by simp only [List.length_cons, List.length_nil]; omega) hB2.size ?_); intro A1 c1 w1 hown1 hgrow1; obtain ⟨hv1, hk1, hs1, hI1⟩ := loose_step hB h3 hko hsb hB2 hcell hv2 hf2 hrow2 hown1 hgrow1 Hm.out Hpost.out; have hc1 := hv1.cell; have hfz1 := hv1.frozen))
        exact ⟨hk1.from _, hs1, hI1⟩
      · have Hpost := hide (show Utf.firstBad (pcs pre') = f0 by rw [Hfb.out, if_neg hneg])
        clear Hfb
        have Hfb := Hpost
        have hko := KeepsOthers.refl W
        have hsb : SameBlk (w.heap.size + 1 + 1) W W := rfl
        have hB2 := hB
        have hcell := hu
        have hv2 := hv
        have hf2 := hf
        have hrow2 := hrow
        clear hu
        gi_wp2_with (first
          | (refine ⟨trivial, ?_⟩; gi_at_call 52; refine (CallsIn.inRound l (callsIn_wide.2 (HP.out _))).mono ?_; rintro e w' ⟨rfl, rfl⟩)
          | (gi_at_builtin; go_must (refine wpListIn_append_str _ rfl (.tmp 24) (.tmp 25) 39 9 rfl w.heap.size 5 Try.underlying39 Try.underlying9 info_u8 (.slice A n c) n (Utf.mended (pcs pre)) rfl hrow2 _ [0xEF, 0xBF, 0xBD] (show StrIs ⟨#[239, 191, 189]⟩ [0xEF, 0xBF, 0xBD] from rfl) rfl (by simp only [List.length_cons, List.length_nil]; omega) hB2.size ?_); intro A1 c1 w2 hown1 hgrow1; obtain ⟨hv1, hk1, hs1, hI1⟩ := loose_step hB h3 hko hsb hB2 hcell hv2 hf2 hrow2 hown1 hgrow1 Hm.out Hfb.out; have hc1 := hv1.cell; have hfz1 := hv1.frozen))
        exact ⟨hk1.from _, hs1, hI1⟩
    · have hsc : Utf.isScalar r = true := by rcases hx with h | h; exact absurd h hr; exact h
      have HP := hide (fun W => put_yes r W hsc)
      have hm : Utf.mended (pcs (pre ++ [⟨(at_, r), hx⟩])) = Utf.mended (pcs pre) ++ (Utf.put r).map bv := by rw [pcs_snoc, mended_snoc, if_neg hr]
      have hfb : Utf.firstBad (pcs (pre ++ [⟨(at_, r), hx⟩])) = f0 := by
        rw [pcs_snoc, Utf.firstBad_snoc, Hf0.out]
        simp only [hr, if_false]
        split <;> omega
      have Hm := hide hm
      have Hfb := hide hfb
      have hpl := put_short r
      clear hm hfb hsc
      generalize pre ++ [⟨(at_, r), hx⟩] = pre' at *
      clear hx
      obtain ⟨u, hu⟩ := hu
      obtain ⟨pl, hpl2⟩ : ∃ pl, (Utf.put r).map bv = pl := ⟨_, rfl⟩
      have hpl3 : pl.length ≤ 4 := by rw [← hpl2]; simpa using hpl
      rw [hpl2] at Hm
      have Hpl := hide hpl2
      clear hpl2 hpl
      gi_wp2_with (first
        | (refine ⟨trivial, ?_⟩; gi_at_call 52; refine (CallsIn.inRound l (callsIn_wide.2 (HP.out _))).mono ?_; rintro e w1 ⟨⟨t, rfl, ht⟩, hb1⟩; rw [Hpl.out] at ht; have hko := others_below hb1; have hsb : SameBlk (w.heap.size + 1 + 1) W w1 := hb1.block _ (by omega); have hB2 : Below w.heap.size w w1 := hB.trans (hb1.mono hB.size); have hcell : ∃ u, Boxed w1 (w.heap.size + 1 + 1) 9 u := ⟨u, hu.kept (grown_below hb1 none) (by simp)⟩; have hv2 := hv.kept (grown_below hb1 none) (by simp); have hf2 := hf.kept (grown_below hb1 none) (by simp); have hrow2 := hrow.kept (grown_below hb1 none) (by simp [Value.ownBlock]; cases A <;> simp); have hc2 := hv2.cell)
        | (gi_at_builtin; go_must (refine wpListIn_append_str _ rfl (.tmp 24) (.tmp 25) 39 9 rfl w.heap.size 5 Try.underlying39 Try.underlying9 info_u8 (.slice A n c) n (Utf.mended (pcs pre)) rfl hrow2 _ pl ht rfl (by omega) hB2.size ?_); intro A1 c1 w2 hown1 hgrow1; obtain ⟨hv1, hk1, hs1, hI1⟩ := loose_step hB h3 hko hsb hB2 hcell hv2 hf2 hrow2 hown1 hgrow1 Hm.out Hfb.out; have hc1 := hv1.cell; have hfz1 := hv1.frozen))
      exact ⟨hk1.from _, hs1, hI1⟩
  case done =>
    rintro D ys W hD hys ⟨⟨v, n, hv, hrow⟩, hf, hu, hB⟩ hK
    obtain ⟨A, c, rfl⟩ := own_form hrow
    have hc := hv.cell
    have hcf := hf.cell
    have hys' : pcs ys = Utf.pieces b.data.toList := hys
    rw [hys'] at hrow hcf
    obtain ⟨t, hcv, ht⟩ := run_to_string (P := Try.prog) W.drew 39 9 5 Try.underlying39 Try.underlying5 Try.underlying9 (Utf.mended (Utf.pieces b.data.toList)) hrow.drew
    have Ht := hide ht
    clear ht hys hys'
    obtain ⟨md, hmd⟩ : ∃ md, Utf.mended (Utf.pieces b.data.toList) = md := ⟨_, rfl⟩
    obtain ⟨fb, hfb⟩ : ∃ fb, Utf.firstBad (Utf.pieces b.data.toList) = fb := ⟨_, rfl⟩
    rw [hmd] at hrow
    rw [hfb] at hcf
    have Hmd := hide hmd
    have Hfb := hide hfb
    clear hmd hfb
    gi_wp2
    gi_region
    all_goals gi_wp2
    all_goals
      refine ⟨by simp, .inl ⟨_, _, rfl, run_takeDeferred (w := W.drew) hK, ?_⟩⟩
      refine ⟨_, results_tmp2 rfl _ _ _, ?_⟩
      exact ⟨⟨t, ret_eq2 rfl (int_eq Hfb.out.symm), Ht.out⟩, hB.drew.trans (belowK_b (w := w) (Nat.le_refl _) W.drew D _ _ (by simp at hD; omega) hK rfl rfl)⟩
  case stop =>
    rintro D c pre W _ _ h _
    exact h.elim

set_option maxHeartbeats 400000 in
theorem valid_any (s : ByteArray) (w : World) (hs : s.size ≤ 1000000000) :
    Calls Try.prog 34 #[.string s] w fun e w' => e = .returned (.bool (Utf.valid s.data.toList)) ∧ Below w.heap.size w w' := by
  obtain ⟨fb, hfb⟩ : ∃ fb, Utf.firstBad (Utf.pieces s.data.toList) = fb := ⟨_, rfl⟩
  have HV := hide (Utf.valid_pieces s.data.toList)
  have Hfb := hide hfb
  have HL := hide (loose_any s w hs)
  clear hfb
  go_enter Try.func34, Try.ntmps34
  go_wp2_with (go_at_call 42; refine HL.out.mono ?_; rintro e w' ⟨⟨t, rfl, _⟩, hb⟩; rw [Hfb.out])
  go_ret
  exact ⟨ret_eq1 (bool_eq (by rw [HV.out, Hfb.out])), hb⟩
end Go.Proofs.Ytheaknghgpafpaa
namespace Go.Proofs.Ytheaknghgpafpaa
open Go.RowKit Go.Shelf Tk

attribute [local go_sem] Oper.semAt_some

theorem upTo_find (f : Nat × Int → Bool) (hf : ∀ p, p.2 < 0 → f p = true) : ∀ l : List (Nat × Int), (upTo l).find? f = l.find? f
  | [] => rfl
  | p :: l => by
    unfold upTo
    split
    · rename_i h
      rw [List.find?_cons, List.find?_cons, hf p h]
    · rw [List.find?_cons, List.find?_cons, upTo_find f hf l]
theorem find_app {α : Type} {f : α → Bool} {pre rest : List α} {x : α} (h : ∀ p ∈ pre, f p = false) (hx : f x = true) : (pre ++ [x] ++ rest).find? f = some x := by
  rw [List.append_assoc, List.find?_append, List.find?_eq_none.2 (fun p hp => by rw [h p hp]; simp)]
  simp [hx]
theorem stop_at {ok : Nat → Int → Bool} (hok : ∀ k r, r < 0 → ok k r = false) {l : L} {pre rest : List (Nat × Int)} {x : Nat × Int} (e : pre ++ [x] ++ rest = upTo (Utf.pieces l)) (h : ∀ p ∈ pre, ok p.1 p.2 = true) (hx : ok x.1 x.2 = false) : stop ok l = some x.1 := by
  unfold stop
  rw [← upTo_find _ (fun p hp => by rw [hok _ _ hp]; rfl), ← e, find_app (fun p hp => by rw [h p hp]; rfl) (by rw [hx]; rfl)]
  rfl
theorem stop_none {ok : Nat → Int → Bool} (hok : ∀ k r, r < 0 → ok k r = false) {l : L} (h : ∀ p ∈ upTo (Utf.pieces l), ok p.1 p.2 = true) : stop ok l = none := by
  unfold stop
  rw [← upTo_find _ (fun p hp => by rw [hok _ _ hp]; rfl), List.find?_eq_none.2 (fun p hp => by rw [h p hp]; simp)]
  rfl
theorem charOk_neg (r : Int) (h : r < 0) : charOk r = false := by
  unfold charOk within
  simp
  omega
/-- What Bad's variables hold when so much has come. -/
def BadI (w : World) (pre : List (Nat × Int)) (W : World) : Prop := (∀ p ∈ pre, charOk p.2 = true) ∧ (∃ v, Boxed W w.heap.size 3 v) ∧ (∃ u, Boxed W (w.heap.size + 1) 9 u) ∧ Below w.heap.size w W
def BadX (w : World) (c : Code) (pre : List (Nat × Int)) (W : World) : Prop :=
  c = .ret ∧ ∃ pre0 x, pre = pre0 ++ [x] ∧ (∀ p ∈ pre0, charOk p.2 = true) ∧ charOk x.2 = false ∧ Boxed W w.heap.size 3 (.int .i64 (x.1 : Int)) ∧ Below w.heap.size w W
theorem box_row {X : World} {B : Nat} {t : TypeId} {u : Value} {row : Option Nat} {n : Nat} (hrow : ∀ r, row = some r → n ≤ r ∧ ∃ o : Obj, X.heap[r]? = some o ∧ o.isCells = false) (h : Boxed X B t u) : some B ≠ row := fun e => by
  obtain ⟨_, o, ho, hc⟩ := hrow _ e.symm
  rw [show X.heap[_]? = _ from h] at ho; cases ho; cases hc
theorem BadI_own (w : World) : OwnFrom (w.heap.size + 1 + 1) (BadI w) := by
  rintro s X Y row ⟨h1, ⟨v, hv⟩, ⟨u, hu⟩, h3⟩ hg hrow
  exact ⟨h1, ⟨v, hv.kept hg (box_row hrow hv)⟩, ⟨u, hu.kept hg (box_row hrow hu)⟩, h3.grown hg h3.size (fun k e => by have := (hrow k e).1; omega)⟩
theorem BadX_own (w : World) (c : Code) : OwnFrom (w.heap.size + 1 + 1) (BadX w c) := by
  rintro s X Y row ⟨h1, p, x, h2, h4, h5, hv, h3⟩ hg hrow
  exact ⟨h1, p, x, h2, h4, h5, hv.kept hg (box_row hrow hv), h3.grown hg h3.size (fun k e => by have := (hrow k e).1; omega)⟩

set_option maxRecDepth 100000 in
set_option maxHeartbeats 4000000 in
theorem bad_any (s : ByteArray) (w : World) (hs : s.size ≤ 1000000000) :
    Calls Try.prog 35 #[.string s] w fun e w' => e = .returned (.int .i64 (bad s.data.toList)) ∧ Below w.heap.size w w' := by
  refine (callsIn_wide (n := 5)).1 ?_
  refine callsIn_of_wp_marks Try.func35 rfl trivial ?_ rfl
  simp only [Try.ntmps35, List.size_toArray, List.length_cons, List.length_nil, Nat.reduceAdd, Nat.reduceSub, Array.replicate_succ, Array.replicate_zero, List.push_toArray, List.append_toArray, List.nil_append, List.cons_append]
  gi_wp2_with (refine ⟨trivial, ?_⟩; gi_at_call 43; refine (callsIn_wide.2 (scalars_mk _ _)).mono ?_; rintro e w' ⟨rfl, rfl⟩)
  have b0 := Boxed.new w 3 (.int .i64 0)
  have b1 := Boxed.new (w.alloc (.cells #[.int .i64 0] 3)) 9 (.string s)
  rw [World.size_alloc] at b1
  have hB0 : Below w.heap.size w ((w.alloc (.cells #[.int .i64 0] 3)).alloc (.cells #[.string s] 9)) := ((Below.refl _ w).alloc (Nat.le_refl _) _).alloc (by simp) _
  refine wpIn_rangeFunc_ownG rfl (by omega) (gf := 53) (lb := #[.pointer (some ⟨w.heap.size + 1, 0, none⟩)]) rfl trivial (enters_of Try.func53 (by kernel_rfl) rfl)
    (scalars_stops (5 - 1) (by omega) (w.heap.size + 1) s hs _ (by simp) b1.cell) SameBlk.trans (sameBlk_b (by simp)) (Below.refl _ _) (fun _ => rfl)
    (BadI w) (BadX w) (by simpa using BadI_own w) (fun c => by simpa using BadX_own w c)
    ⟨(fun p hp => by cases hp), ⟨_, b0.alloc _⟩, ⟨_, b1⟩, hB0⟩
    (fun x => { tmps := #[.string s, undef, .pointer (some ⟨w.heap.size, 0, none⟩), .int .i64 (x.1 : Int), .int .i64 x.2, .string s,
      .func (.func 53) #[] #[.pointer (some ⟨w.heap.size + 1, 0, none⟩)], .int .i64 (x.1 : Int), .int .i64 x.2, undef, undef, undef, undef], defers := [] }) ?assign ?body ?done ?stop
  case assign =>
    intro l x W K hK
    gi_wp2
    exact hK
  case body =>
    rintro l pre x W ⟨hp, ⟨v, hv⟩, ⟨u, hu⟩, hB⟩ hlen
    have HP := hide hp
    have h2 : w.heap.size + 1 < W.heap.size := hu.lt
    have HC := hide (char_any x.2)
    cases hx : charOk x.2 with
    | true =>
      rw [hx] at HC
      have HX := hide hx
      clear hp hx
      gi_wp2_with (refine ⟨trivial, ?_⟩; gi_at_call 44; refine (CallsIn.inRound l (callsIn_wide.2 (HC.out _))).mono ?_; rintro e w1 ⟨rfl, hb⟩)
      refine ⟨(others_below hb).from _, hb.block _ (by omega), fun p hp => ?_, ⟨v, hv.kept (grown_below hb none) (by simp)⟩, ⟨u, hu.kept (grown_below hb none) (by simp)⟩, hB.trans (hb.mono hB.size)⟩
      rcases List.mem_append.1 hp with hp | hp
      · exact HP.out p hp
      · have : p = x := by simpa using hp
        rw [this]
        exact HX.out
    | false =>
      rw [hx] at HC
      have HX := hide hx
      clear hp hx
      gi_wp2_with (refine ⟨trivial, ?_⟩; gi_at_call 44; refine (CallsIn.inRound l (callsIn_wide.2 (HC.out _))).mono ?_; rintro e w1 ⟨rfl, hb⟩; have hv1 := hv.kept (grown_below hb none) (by simp); have hc1 := hv1.cell; have hf1 := hv1.frozen)
      exact ⟨((others_below hb).trans (KeepsOthers.setCell _ _ _)).from _, rfl, pre, x, rfl, HP.out, HX.out, hv1.set _, (hB.trans (hb.mono hB.size)).setCell (p := ⟨w.heap.size, 0, none⟩) (Nat.le_refl _) _⟩
  case done =>
    rintro D ys W hD hys ⟨hp, ⟨v, hv⟩, ⟨u, hu⟩, hB⟩ hK
    have hc := hv.cell
    have hf := hv.frozen
    have Hbad := hide (show bad s.data.toList = -1 from by
      unfold bad
      rw [stop_none (ok := fun _ r => charOk r) (fun _ r h => charOk_neg r h) (by rw [← hys]; exact fun p h => hp p h)])
    clear hys hp
    gi_wp2
    have hv2 := hv.set (.int .i64 (-1))
    have hK2 := (KeepsOthers.setCell W ⟨w.heap.size, 0, none⟩ (.int .i64 (-1))).same D _ hK rfl
    refine ⟨by simp, .inl ⟨_, _, rfl, run_takeDeferred hK2, ?_⟩⟩
    have hc2 := cell_kept hv2.cell (grownBy_putObj' _ D (.deferred none)) (fun r e => by cases e; exact ⟨_, hK2, rfl⟩)
    refine ⟨.int .i64 (-1), ?_, ?_⟩
    · simp [results, Try.results35, go_sem, hc2]
    · exact ⟨ret_eq1 (int_eq Hbad.out.symm), (hB.setCell (p := ⟨w.heap.size, 0, none⟩) (Nat.le_refl _) _).trans (belowK_b (w := w) (Nat.le_refl _) _ D _ _ (by simp at hD; omega) hK2 rfl rfl)⟩
  case stop =>
    rintro D c pre W hD ⟨rest, hsp⟩ ⟨rfl, pre0, x, rfl, hp, hx, hv, hB⟩ hK
    have hc := hv.cell
    have hf := hv.frozen
    have Hbad := hide (show bad s.data.toList = (x.1 : Int) from by
      unfold bad
      rw [stop_at (ok := fun _ r => charOk r) (fun _ r h => charOk_neg r h) hsp (fun p h => hp p h) hx])
    clear hsp hp hx
    gi_wp2
    refine ⟨by simp, .inl ⟨_, _, rfl, run_takeDeferred hK, ?_⟩⟩
    have hc2 := cell_kept hc (grownBy_putObj' _ D (.deferred none)) (fun r e => by cases e; exact ⟨_, hK, rfl⟩)
    refine ⟨.int .i64 (x.1 : Int), ?_, ?_⟩
    · simp [results, Try.results35, go_sem, hc2]
    · exact ⟨ret_eq1 (int_eq Hbad.out.symm), hB.trans (belowK_b (w := w) (Nat.le_refl _) _ D _ _ (by simp at hD; omega) hK rfl rfl)⟩
end Go.Proofs.Ytheaknghgpafpaa
namespace Go.Proofs.Ytheaknghgpafpaa
open Go.RowKit Go.Shelf Tk

attribute [local go_sem] Oper.semAt_some

end Go.Proofs.Ytheaknghgpafpaa
namespace Go.Proofs.Ytheaknghgpafpaa
open Go.RowKit Tk

end Go.Proofs.Ytheaknghgpafpaa
namespace Go.Proofs.Ytheaknghgpafpaa
open Go.RowKit Tk

end Go.Proofs.Ytheaknghgpafpaa
namespace Go.Proofs.Ytheaknghgpafpaa
open Go.RowKit Tk

end Go.Proofs.Ytheaknghgpafpaa
namespace Go.Proofs.Ytheaknghgpafpaa
open Go.RowKit Tk

end Go.Proofs.Ytheaknghgpafpaa
namespace Go.Proofs.Ytheaknghgpafpaa
open Go.RowKit Tk

end Go.Proofs.Ytheaknghgpafpaa
namespace Go.Proofs.Ytheaknghgpafpaa
open Go.RowKit Tk

end Go.Proofs.Ytheaknghgpafpaa
namespace Go.Proofs.Ytheaknghgpafpaa
open Go.RowKit Tk

/-- Nothing that was there has turned, but blocks X and T. -/
structure But2 (X T : Nat) (w w' : World) : Prop where
  os : w'.os = w.os
  tape : w'.tape = w.tape
  output : w'.output = w.output
  size : w.heap.size ≤ w'.heap.size
  block : ∀ k, k < w.heap.size → k ≠ X → k ≠ T → w'.heap[k]? = w.heap[k]?
section
variable {X T : Nat} {w w1 w' : World}
end
section
variable {w : World} {T : Nat} {kind : Int} {name : ByteArray} {as_ : Value} {empty : Bool} {text : ByteArray} {at_ end_ : Nat}
end

end Go.Proofs.Ytheaknghgpafpaa
namespace Go.Proofs.Ytheaknghgpafpaa
open Go.RowKit Tk

end Go.Proofs.Ytheaknghgpafpaa
namespace Go.Proofs.Ytheaknghgpafpaa
open Go.RowKit Tk

end Go.Proofs.Ytheaknghgpafpaa
namespace Go.Proofs.Ytheaknghgpafpaa
open Go.RowKit Tk

section
variable {P : Program} {ops : Array Oper} {o : Oper} {a : Act} {K : Act → World → Prop} {Q : Exit → Act → World → Prop} {E : Prop}
end

section
variable {w W W' : World} {base X T : Nat} {s : ByteArray} {k k' j : Nat} {nm : ByteArray} {L : List At} {A : Option Addr} {c : Nat}
end
end Go.Proofs.Ytheaknghgpafpaa
