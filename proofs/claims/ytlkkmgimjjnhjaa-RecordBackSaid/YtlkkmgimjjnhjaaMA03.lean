/- The program's 'Loose' and 'Valid'. · The walks over the UTF-8 layer: what stands at a byte, by the document. · The walks over the UTF-8 layer: what stands at a byte, by the document, joined. · The document's 'Scalars', 'Valid': whether a text is right. -/
import Derived.Test.YtlkkmgimjjnhjaaMA00
import Derived.Test.YtlkkmgimjjnhjaaMA01
import Derived.Test.YtlkkmgimjjnhjaaMA02
set_option linter.unusedSimpArgs false
set_option linter.unusedVariables false
namespace Go.Proofs.Ytlkkmgimjjnhjaa
open Go.RowKit Go.Shelf

attribute [local go_sem] Oper.semAt_some

theorem info_u8 : (Try.prog.info? 5).map (fun i => (i.zero, i.size, i.bytes)) = some (some (.int .u8 0), 1, 1) := by kernel_rfl

def pcs (l : List Pc) : List (Nat × Int) := l.map (·.1)
theorem pcs_snoc (l : List Pc) (x : Pc) : pcs (l ++ [x]) = pcs l ++ [x.1] := by simp [pcs]
theorem pcs_length (l : List Pc) : (pcs l).length = l.length := by simp [pcs]
theorem mended_snoc (l : List (Nat × Int)) (x : Nat × Int) : Utf.mended (l ++ [x]) = Utf.mended l ++ (if x.2 < 0 then [0xEF, 0xBF, 0xBD] else (Utf.put x.2).map bv) := by
  unfold Utf.mended
  rw [List.flatMap_append, List.flatMap_cons, List.flatMap_nil, List.append_nil]
  rfl
theorem mended_length (l : List (Nat × Int)) : (Utf.mended l).length ≤ 4 * l.length := by
  induction l with
  | nil => simp [Utf.mended]
  | cons x l ih =>
    have h := put_short x.2
    unfold Utf.mended at ih ⊢
    rw [List.flatMap_cons, List.length_append, List.length_cons]
    split <;> simp only [List.length_map, List.length_cons, List.length_nil] <;> omega

/-- What the loop's variables hold when so much has come. -/
def LooseI (w : World) (pre : List Pc) (W : World) : Prop :=
  (∃ v n, Boxed W w.heap.size 54 v ∧ W.ownsRow w.heap.size 5 1 v n (byteVs (Utf.mended (pcs pre)))) ∧ Boxed W (w.heap.size + 1) 3 (.int .i64 (Utf.firstBad (pcs pre))) ∧ (∃ u, Boxed W (w.heap.size + 1 + 1) 9 u) ∧ Below w.heap.size w W

theorem LooseI_own (w : World) : OwnFrom (w.heap.size + 3) (LooseI w) := by
  rintro s X Y row ⟨⟨v, n, hv, hr⟩, h2, ⟨u, hu⟩, h3⟩ hg hrow
  have hne : ∀ {B : Nat} {t : TypeId} {u : Value}, Boxed X B t u → some B ≠ row := fun h e => by
    obtain ⟨_, o, ho, hc⟩ := hrow _ e.symm
    rw [show X.heap[_]? = _ from h] at ho; cases ho; cases hc
  refine ⟨⟨v, n, hv.kept hg (hne hv), hr.kept hg ?_⟩, h2.kept hg (hne h2), ⟨u, hu.kept hg (hne hu)⟩, h3.grown hg h3.size (fun k e => by have := (hrow k e).1; omega)⟩
  rcases hr.2 with ⟨rfl, _⟩ | ⟨g, cap, cur, rfl, _, hgb, _⟩
  · exact .inl rfl
  · refine .inr fun e' => ?_
    obtain ⟨_, o, ho, hc⟩ := hrow g (by simpa [Value.ownBlock] using e'.symm)
    rw [hgb] at ho; cases ho; cases hc

theorem grown_below {W w1 : World} (h : Below W.heap.size W w1) (row : Option Nat) : W.grownBy w1 row := ⟨h.os, h.tape, h.output, h.size, fun k hk _ => h.block k hk⟩
theorem others_below {W w1 : World} (h : Below W.heap.size W w1) : KeepsOthers W w1 := ⟨h.size, fun k o hk _ => (h.block k (Array.getElem?_eq_some_iff.1 hk).1).trans hk⟩

/-- A round's end: behind the append and the store. -/
theorem loose_step {w W W2 w1 : World} {pre pre' : List Pc} {v v' : Value} {n n' : Nat} {m : List UInt8} {f1 : Int} (hB : Below w.heap.size w W) (h3 : w.heap.size + 3 ≤ W.heap.size)
    (hko : KeepsOthers W W2) (hsb : SameBlk (w.heap.size + 1 + 1) W W2) (hB2 : Below w.heap.size w W2) (hcell : ∃ u, Boxed W2 (w.heap.size + 1 + 1) 9 u)
    (hv : Boxed W2 w.heap.size 54 v) (hf : Boxed W2 (w.heap.size + 1) 3 (.int .i64 f1)) (hrow : W2.ownsRow w.heap.size 5 1 v n (byteVs (Utf.mended (pcs pre))))
    (hown : w1.ownsRow w.heap.size 5 1 v' n' (byteVs (Utf.mended (pcs pre) ++ m))) (hgrow : W2.grownBy w1 v.ownBlock)
    (hm : Utf.mended (pcs pre') = Utf.mended (pcs pre) ++ m) (hf1 : Utf.firstBad (pcs pre') = f1) :
    Boxed w1 w.heap.size 54 v ∧ KeepsOthers W (w1.setCell ⟨w.heap.size, 0, none⟩ v') ∧ SameBlk (w.heap.size + 1 + 1) W (w1.setCell ⟨w.heap.size, 0, none⟩ v') ∧ LooseI w pre' (w1.setCell ⟨w.heap.size, 0, none⟩ v') := by
  have hv1 : Boxed w1 w.heap.size 54 v := hv.kept hgrow (hv.not_row (by decide) hrow)
  have hf1' : Boxed w1 (w.heap.size + 1) 3 (.int .i64 f1) := hf.kept hgrow (hf.not_row (by decide) hrow)
  obtain ⟨u, hu⟩ := hcell
  have hu1 : w1.heap[w.heap.size + 1 + 1]? = W2.heap[w.heap.size + 1 + 1]? := hgrow.block _ hu.lt (hu.not_row (by decide) hrow)
  have hsz : w.heap.size ≤ W2.heap.size := hB2.size
  refine ⟨hv1, ?_, ?_, ⟨v', n', hv1.set v', ?_⟩, ?_, ⟨u, ?_⟩, ?_⟩
  · refine (hko.trans (KeepsOthers.of_grownBy hgrow fun j o ej hj => ?_)).trans (KeepsOthers.setCell _ _ _)
    obtain ⟨_, cs, fr, h⟩ := own_isT hrow j ej
    rw [h] at hj; cases hj; rfl
  · refine hsb.trans ?_
    exact (Below.heap_setCell _ _ _ _ (by simp; omega)).trans hu1
  · rw [hm]
    exact hown.kept (grownBy_setCell' w1 _ v') (.inr (hv1.not_row (by decide) hown).symm)
  · rw [hf1]
    exact hf1'.kept (grownBy_setCell' w1 _ v') (by simp)
  · exact (Below.heap_setCell _ _ _ _ (by simp; omega)).trans (hu1.trans hu)
  · refine (hB2.grown hgrow hsz fun j ej => (own_isT hrow j ej).1).setCell (p := ⟨w.heap.size, 0, none⟩) (Nat.le_refl _) v'

set_option maxRecDepth 100000 in
set_option maxHeartbeats 4000000 in
theorem loose_any (b : ByteArray) (w : World) (hs : b.size ≤ 1000000000) :
    Calls Try.prog 71 #[.string b] w fun e w' => (∃ t : ByteArray, e = .returned (.tuple #[.string t, .int .i64 (Utf.firstBad (Utf.pieces b.data.toList))]) ∧ StrIs t (Utf.mended (Utf.pieces b.data.toList))) ∧ Below w.heap.size w w' := by
  refine (callsIn_wide (n := 5)).1 ?_
  refine callsIn_of_wp_marks Try.func71 rfl trivial ?_ rfl
  simp only [Try.ntmps71, List.size_toArray, List.length_cons, List.length_nil, Nat.reduceAdd, Nat.reduceSub, Array.replicate_succ, Array.replicate_zero, List.push_toArray, List.append_toArray, List.nil_append, List.cons_append]
  gi_wp2_with (refine ⟨trivial, ?_⟩; gi_at_call 74; refine (callsIn_wide.2 (pieces_any _ _)).mono ?_; rintro e w' ⟨rfl, rfl⟩)
  have b0 := Boxed.new w 54 (.slice none 0 0)
  have b1 := Boxed.new (w.alloc (.cells #[.slice none 0 0] 54)) 3 (.int .i64 (-1))
  rw [World.size_alloc] at b1
  have b2 := Boxed.new ((w.alloc (.cells #[.slice none 0 0] 54)).alloc (.cells #[.int .i64 (-1)] 3)) 9 (.string b)
  rw [World.size_alloc, World.size_alloc] at b2
  have hB0 : Below w.heap.size w (((w.alloc (.cells #[.slice none 0 0] 54)).alloc (.cells #[.int .i64 (-1)] 3)).alloc (.cells #[.string b] 9)) :=
    (((Below.refl _ w).alloc (Nat.le_refl _) _).alloc (by simp) _).alloc (by simp; omega) _
  refine wpIn_rangeFunc_ownG rfl (by omega) (gf := 77) (lb := #[.pointer (some ⟨w.heap.size + 1 + 1, 0, none⟩)]) rfl trivial (enters_of Try.func77 (by kernel_rfl) rfl)
    (pieces_stops (5 - 1) (by omega) (w.heap.size + 1 + 1) b hs _ (by simp) b2.cell) SameBlk.trans (sameBlk_b (by simp)) (Below.refl _ _) (fun _ => rfl)
    (LooseI w) (fun _ _ _ => False) (by simpa using LooseI_own w) (fun _ _ _ _ _ hs _ _ => hs)
    ⟨⟨_, 0, (b0.alloc _).alloc _, World.ownsRow_nil _ _ _ _⟩, b1.alloc _, ⟨_, b2⟩, hB0⟩
    (fun x => { tmps := #[.string b, undef, .string ⟨#[]⟩, .int .i64 0, .pointer (some ⟨w.heap.size, 0, none⟩), .pointer (some ⟨w.heap.size + 1, 0, none⟩), .int .i64 (x.1.1 : Int), .int .i64 x.1.2, undef, undef, .string b,
      .func (.func 77) #[] #[.pointer (some ⟨w.heap.size + 1 + 1, 0, none⟩)], .int .i64 (x.1.1 : Int), .int .i64 x.1.2, undef, undef, undef, undef, undef, undef, undef, undef, undef, undef, undef, undef, undef, undef, undef, undef], defers := [] }) ?assign ?body ?done ?stop
  case assign =>
    intro l x W K hK
    gi_wp2
    exact hK
  case body =>
    rintro l pre ⟨⟨at_, r⟩, hx⟩ W ⟨⟨v, n, hv, hrow⟩, hf, hu, hB⟩ hlen
    obtain ⟨A, c, rfl⟩ := own_form hrow
    dsimp only at hx ⊢
    have hn : n ≤ 4 * pre.length := by
      have h1 := hrow.1
      have h2 := mended_length (pcs pre)
      rw [byteVs_length] at h1
      rw [pcs_length] at h2
      omega
    have hc := hv.cell
    have hcf := hf.cell
    have hff := hf.frozen
    obtain ⟨f0, hf0⟩ : ∃ f0, Utf.firstBad (pcs pre) = f0 := ⟨_, rfl⟩
    have hge := Utf.firstBad_ge (pcs pre)
    rw [hf0] at hf hcf hge
    have Hf0 := hide hf0
    clear hf0
    have h3 : w.heap.size + 3 ≤ W.heap.size := by obtain ⟨u, hu⟩ := hu; have := hu.lt; omega
    by_cases hr : r < 0
    · have HP := hide (fun W => put_no r W (show Utf.isScalar r = false by simp [Utf.isScalar]; omega))
      have hm : Utf.mended (pcs (pre ++ [⟨(at_, r), hx⟩])) = Utf.mended (pcs pre) ++ [0xEF, 0xBF, 0xBD] := by rw [pcs_snoc, mended_snoc, if_pos hr]
      have hfb : Utf.firstBad (pcs (pre ++ [⟨(at_, r), hx⟩])) = if f0 < 0 then (at_ : Int) else f0 := by rw [pcs_snoc, Utf.firstBad_snoc, Hf0.out, if_pos hr]
      have Hm := hide hm
      have Hfb := hide hfb
      clear hm hfb
      generalize pre ++ [⟨(at_, r), hx⟩] = pre' at *
      by_cases hneg : f0 < 0
      · have hko : KeepsOthers W (W.setCell ⟨w.heap.size + 1, 0, none⟩ (.int .i64 (at_ : Int))) := KeepsOthers.setCell _ _ _
        have hsb : SameBlk (w.heap.size + 1 + 1) W (W.setCell ⟨w.heap.size + 1, 0, none⟩ (.int .i64 (at_ : Int))) := Below.heap_setCell _ _ _ _ (by simp)
        have hB2 := hB.setCell (p := ⟨w.heap.size + 1, 0, none⟩) (by simp) (.int .i64 (at_ : Int))
        have hcell : ∃ u, Boxed (W.setCell ⟨w.heap.size + 1, 0, none⟩ (.int .i64 (at_ : Int))) (w.heap.size + 1 + 1) 9 u := by
          obtain ⟨u, hu⟩ := hu
          exact ⟨u, hu.kept (grownBy_setCell' _ _ _) (by simp)⟩
        have hv2 : Boxed (W.setCell ⟨w.heap.size + 1, 0, none⟩ (.int .i64 (at_ : Int))) w.heap.size 54 (.slice A n c) := hv.kept (grownBy_setCell' _ _ _) (by simp)
        have hf2 := hf.set (.int .i64 (at_ : Int))
        have hrow2 := hrow.kept (grownBy_setCell' W (w.heap.size + 1) (.int .i64 (at_ : Int))) (.inr (hf.not_row (by decide) hrow).symm)
        have Hpost := hide (show Utf.firstBad (pcs pre') = (at_ : Int) by rw [Hfb.out, if_pos hneg])
        clear Hfb hu
        gi_wp2_with (first
          | (refine ⟨trivial, ?_⟩; gi_at_call 75; refine (CallsIn.inRound l (callsIn_wide.2 (HP.out _))).mono ?_; rintro e w' ⟨rfl, rfl⟩)
          | (gi_at_builtin; go_must (refine wpListIn_append_str _ rfl (.tmp 24) (.tmp 25) 54 9 rfl w.heap.size 5 Try.underlying54 Try.underlying9 info_u8 (.slice A n c) n (Utf.mended (pcs pre)) rfl hrow2 _ [0xEF, 0xBF, 0xBD] (show StrIs ⟨#[239, 191, 189]⟩ [0xEF, 0xBF, 0xBD] from rfl) rfl (by simp only [List.length_cons, List.length_nil]; omega) hB2.size ?_); intro A1 c1 w1 hown1 hgrow1; obtain ⟨hv1, hk1, hs1, hI1⟩ := loose_step hB h3 hko hsb hB2 hcell hv2 hf2 hrow2 hown1 hgrow1 Hm.out Hpost.out; have hc1 := hv1.cell; have hfz1 := hv1.frozen))
        exact ⟨hk1.from _, hs1, hI1⟩
      · have Hpost := hide (show Utf.firstBad (pcs pre') = f0 by rw [Hfb.out, if_neg hneg])
        clear Hfb
        have Hfb := Hpost
        have hko := KeepsOthers.refl W
        have hsb : SameBlk (w.heap.size + 1 + 1) W W := rfl
        have hB2 := hB
        have hcell := hu
        have hv2 := hv
        have hf2 := hf
        have hrow2 := hrow
        clear hu
        gi_wp2_with (first
          | (refine ⟨trivial, ?_⟩; gi_at_call 75; refine (CallsIn.inRound l (callsIn_wide.2 (HP.out _))).mono ?_; rintro e w' ⟨rfl, rfl⟩)
          | (gi_at_builtin; go_must (refine wpListIn_append_str _ rfl (.tmp 24) (.tmp 25) 54 9 rfl w.heap.size 5 Try.underlying54 Try.underlying9 info_u8 (.slice A n c) n (Utf.mended (pcs pre)) rfl hrow2 _ [0xEF, 0xBF, 0xBD] (show StrIs ⟨#[239, 191, 189]⟩ [0xEF, 0xBF, 0xBD] from rfl) rfl (by simp only [List.length_cons, List.length_nil]; omega) hB2.size ?_); intro A1 c1 w2 hown1 hgrow1; obtain ⟨hv1, hk1, hs1, hI1⟩ := loose_step hB h3 hko hsb hB2 hcell hv2 hf2 hrow2 hown1 hgrow1 Hm.out Hfb.out; have hc1 := hv1.cell; have hfz1 := hv1.frozen))
        exact ⟨hk1.from _, hs1, hI1⟩
    · have hsc : Utf.isScalar r = true := by rcases hx with h | h; exact absurd h hr; exact h
      have HP := hide (fun W => put_yes r W hsc)
      have hm : Utf.mended (pcs (pre ++ [⟨(at_, r), hx⟩])) = Utf.mended (pcs pre) ++ (Utf.put r).map bv := by rw [pcs_snoc, mended_snoc, if_neg hr]
      have hfb : Utf.firstBad (pcs (pre ++ [⟨(at_, r), hx⟩])) = f0 := by
        rw [pcs_snoc, Utf.firstBad_snoc, Hf0.out]
        simp only [hr, if_false]
        split <;> omega
      have Hm := hide hm
      have Hfb := hide hfb
      have hpl := put_short r
      clear hm hfb hsc
      generalize pre ++ [⟨(at_, r), hx⟩] = pre' at *
      clear hx
      obtain ⟨u, hu⟩ := hu
      obtain ⟨pl, hpl2⟩ : ∃ pl, (Utf.put r).map bv = pl := ⟨_, rfl⟩
      have hpl3 : pl.length ≤ 4 := by rw [← hpl2]; simpa using hpl
      rw [hpl2] at Hm
      have Hpl := hide hpl2
      clear hpl2 hpl
      gi_wp2_with (first
        | (refine ⟨trivial, ?_⟩; gi_at_call 75; refine (CallsIn.inRound l (callsIn_wide.2 (HP.out _))).mono ?_; rintro e w1 ⟨⟨t, rfl, ht⟩, hb1⟩; rw [Hpl.out] at ht; have hko := others_below hb1; have hsb : SameBlk (w.heap.size + 1 + 1) W w1 := hb1.block _ (by omega); have hB2 : Below w.heap.size w w1 := hB.trans (hb1.mono hB.size); have hcell : ∃ u, Boxed w1 (w.heap.size + 1 + 1) 9 u := ⟨u, hu.kept (grown_below hb1 none) (by simp)⟩; have hv2 := hv.kept (grown_below hb1 none) (by simp); have hf2 := hf.kept (grown_below hb1 none) (by simp); have hrow2 := hrow.kept (grown_below hb1 none) (by simp [Value.ownBlock]; cases A <;> simp); have hc2 := hv2.cell)
        | (gi_at_builtin; go_must (refine wpListIn_append_str _ rfl (.tmp 24) (.tmp 25) 54 9 rfl w.heap.size 5 Try.underlying54 Try.underlying9 info_u8 (.slice A n c) n (Utf.mended (pcs pre)) rfl hrow2 _ pl ht rfl (by omega) hB2.size ?_); intro A1 c1 w2 hown1 hgrow1; obtain ⟨hv1, hk1, hs1, hI1⟩ := loose_step hB h3 hko hsb hB2 hcell hv2 hf2 hrow2 hown1 hgrow1 Hm.out Hfb.out; have hc1 := hv1.cell; have hfz1 := hv1.frozen))
      exact ⟨hk1.from _, hs1, hI1⟩
  case done =>
    rintro D ys W hD hys ⟨⟨v, n, hv, hrow⟩, hf, hu, hB⟩ hK
    obtain ⟨A, c, rfl⟩ := own_form hrow
    have hc := hv.cell
    have hcf := hf.cell
    have hys' : pcs ys = Utf.pieces b.data.toList := hys
    rw [hys'] at hrow hcf
    obtain ⟨t, hcv, ht⟩ := run_to_string (P := Try.prog) W.drew 54 9 5 Try.underlying54 Try.underlying5 Try.underlying9 (Utf.mended (Utf.pieces b.data.toList)) hrow.drew
    have Ht := hide ht
    clear ht hys hys'
    obtain ⟨md, hmd⟩ : ∃ md, Utf.mended (Utf.pieces b.data.toList) = md := ⟨_, rfl⟩
    obtain ⟨fb, hfb⟩ : ∃ fb, Utf.firstBad (Utf.pieces b.data.toList) = fb := ⟨_, rfl⟩
    rw [hmd] at hrow
    rw [hfb] at hcf
    have Hmd := hide hmd
    have Hfb := hide hfb
    clear hmd hfb
    gi_wp2
    gi_region
    all_goals gi_wp2
    all_goals
      refine ⟨by simp, .inl ⟨_, _, rfl, run_takeDeferred (w := W.drew) hK, ?_⟩⟩
      refine ⟨_, results_tmp2 rfl _ _ _, ?_⟩
      exact ⟨⟨t, ret_eq2 rfl (int_eq Hfb.out.symm), Ht.out⟩, hB.drew.trans (belowK_b (w := w) (Nat.le_refl _) W.drew D _ _ (by simp at hD; omega) hK rfl rfl)⟩
  case stop =>
    rintro D c pre W _ _ h _
    exact h.elim

set_option maxHeartbeats 400000 in
theorem valid_any (s : ByteArray) (w : World) (hs : s.size ≤ 1000000000) :
    Calls Try.prog 47 #[.string s] w fun e w' => e = .returned (.bool (Utf.valid s.data.toList)) ∧ Below w.heap.size w w' := by
  obtain ⟨fb, hfb⟩ : ∃ fb, Utf.firstBad (Utf.pieces s.data.toList) = fb := ⟨_, rfl⟩
  have HV := hide (Utf.valid_pieces s.data.toList)
  have Hfb := hide hfb
  have HL := hide (loose_any s w hs)
  clear hfb
  go_enter Try.func47, Try.ntmps47
  go_wp2_with (go_at_call 71; refine HL.out.mono ?_; rintro e w' ⟨⟨t, rfl, _⟩, hb⟩; rw [Hfb.out])
  go_ret
  exact ⟨ret_eq1 (bool_eq (by rw [HV.out, Hfb.out])), hb⟩
end Go.Proofs.Ytlkkmgimjjnhjaa
namespace Go.Proofs.Ytlkkmgimjjnhjaa
open Go.RowKit

def partT (f : Int × Int × Bool) : Value := .tuple #[.int .i64 f.1, .int .i64 f.2.1, .bool f.2.2]
theorem partT_eq {a b : Int} {c : Bool} {f : Int × Int × Bool} (h : (a, b, c) = f) : Ending.returned (.tuple #[.int .i64 a, .int .i64 b, .bool c]) = .returned (partT f) := by
  rw [← h]; rfl

theorem i64_and127 (x : Int) (h0 : 0 ≤ x) (h1 : x < 256) : bits .and .i64 x 127 = x % 128 := i64_mask x 7 h0 (by omega) (by omega) _ rfl
theorem i64_and31 (x : Int) (h0 : 0 ≤ x) (h1 : x < 256) : bits .and .i64 x 31 = x % 32 := i64_mask x 5 h0 (by omega) (by omega) _ rfl
theorem i64_and15 (x : Int) (h0 : 0 ≤ x) (h1 : x < 256) : bits .and .i64 x 15 = x % 16 := i64_mask x 4 h0 (by omega) (by omega) _ rfl
theorem i64_and7 (x : Int) (h0 : 0 ≤ x) (h1 : x < 256) : bits .and .i64 x 7 = x % 8 := i64_mask x 3 h0 (by omega) (by omega) _ rfl

set_option maxHeartbeats 1000000 in
theorem part_wrong (s : ByteArray) (a : Nat) (w : World) (ha : a < s.size) (hs : s.size ≤ 1000000000) (hm : (Utf.follow s[a].toNat).1 < 0) :
    Calls Try.prog 80 #[.string s, .int .i64 a] w fun e w' => e = .returned (partT (0, 1, false)) ∧ w = w' := by
  obtain ⟨c, hc⟩ : ∃ c : Int, ((s[a].toNat : Nat) : Int) = c := ⟨_, rfl⟩
  have hc0 : 0 ≤ c := by omega
  have hc1 : c ≤ 255 := by have := Utf.byte_lt s[a]; omega
  rw [hc] at hm
  have Hc := hide hc
  have Hm : Hid (leadV (Utf.follow c) = (-1, 0, 0)) := by
    show leadV (Utf.follow c) = (-1, 0, 0)
    unfold leadV; rw [if_pos hm]
  clear hc hm
  go_enter Try.func80, Try.ntmps80
  go_wp2_with (go_at_call 83; rw [Hc.out]; refine (lead_any _ _ hc0 hc1).mono ?_; rintro e w' ⟨rfl, rfl⟩; rw [Hm.out]; unfold leadT; dsimp only)
  go_ret3
  exact ⟨rfl, rfl⟩

set_option maxHeartbeats 4000000 in
theorem part_right (s : ByteArray) (a k : Nat) (r lo hi least most : Int) (w : World) (ha : a < s.size) (hs : s.size ≤ 1000000000) (hf : Utf.follow s[a].toNat = ((k : Int), r, lo, hi))
    (hl : leadV (Utf.follow s[a].toNat) = ((k : Int), least, most)) (hll : 0 < k → least = lo ∧ most = hi) :
    Calls Try.prog 80 #[.string s, .int .i64 a] w fun e w' => e = .returned (partT (Utf.part (Utf.cont (s.data.toList.drop (a + 1)) k r 1 lo hi))) ∧ w = w' := by
  obtain ⟨c, hc⟩ : ∃ c : Int, ((s[a].toNat : Nat) : Int) = c := ⟨_, rfl⟩
  have hc0 : 0 ≤ c := by omega
  have hc1 : c ≤ 255 := by have := Utf.byte_lt s[a]; omega
  rw [hc] at hf hl
  have hcs := Utf.follow_cases c hc0 hc1
  have hbs := Utf.follow_bits c
  rw [hf] at hcs hbs
  dsimp only at hcs hbs
  have Hc := hide hc
  have Hl := hide hl
  have hr0 : 0 ≤ r := by omega
  have hr1 : r ≤ 127 := by omega
  have hk3 : k ≤ 3 := by omega
  have Hr : Hid ((k = 0 → c % 128 = r) ∧ (k = 1 → c % 32 = r) ∧ (k = 2 → c % 16 = r) ∧ (k = 3 → c % 8 = r)) := by
    show (k = 0 → c % 128 = r) ∧ (k = 1 → c % 32 = r) ∧ (k = 2 → c % 16 = r) ∧ (k = 3 → c % 8 = r)
    refine ⟨?_, ?_, ?_, ?_⟩ <;> omega
  have Hll := hide hll
  obtain ⟨res, hres⟩ : ∃ res, Utf.part (Utf.cont (s.data.toList.drop (a + 1)) k r 1 lo hi) = res := ⟨_, rfl⟩
  rw [hres]
  have Hres := hide hres
  clear hres hc hl hf hcs hbs hll
  have b0 : bits .and .i64 c 127 = c % 128 := i64_and127 c hc0 (by omega)
  have b1 : bits .and .i64 c 31 = c % 32 := i64_and31 c hc0 (by omega)
  have b2 : bits .and .i64 c 15 = c % 16 := i64_and15 c hc0 (by omega)
  have b3 : bits .and .i64 c 7 = c % 8 := i64_and7 c hc0 (by omega)
  have hk : k = 0 ∨ k = 1 ∨ k = 2 ∨ k = 3 := by omega
  go_enter Try.func80, Try.ntmps80
  rcases hk with rfl | rfl | rfl | rfl
  · go_wp2_with (go_at_call 83; rw [Hc.out]; refine (lead_any _ _ hc0 hc1).mono ?_; rintro e w' ⟨rfl, rfl⟩; rw [Hl.out]; unfold leadT; dsimp only)
    have hrr : bits .and .i64 (wrap64 (s[a].toNat : Int)) (127) = r := by
      rw [Hc.out, IntWalk.wrap64_in c (by omega), b0]
      exact Hr.out.1 (by trivial)
    rw [hrr]
    clear hrr b0 b1 b2 b3
    go_loopg [8, 9, 11, 12] (0 + 1) (fun g vlo vhi vr vn wr => ∃ (j : Nat) (r' lo' hi' : Int), g = 0 + 1 - j ∧ j ≤ 0 ∧ vr = .int .i64 r' ∧ vn = .int .i64 ((j : Int) + 1) ∧ vlo = .int .u8 lo' ∧ vhi = .int .u8 hi' ∧
      Utf.part (Utf.cont (s.data.toList.drop (a + (j + 1))) (0 - j) r' ((j : Int) + 1) (if 0 = 0 then lo else lo') (if 0 = 0 then hi else hi')) = res ∧ 0 ≤ r' ∧ (r' ≤ 127 ∧ j = 0 ∨ r' ≤ 8191 ∧ j = 1 ∨ r' ≤ 524287 ∧ j = 2 ∨ r' ≤ 33554431 ∧ j = 3) ∧ wr = w)
    case atStart =>
      refine ⟨0, r, least, most, rfl, by omega, rfl, rfl, rfl, rfl, ?_, hr0, .inl ⟨hr1, rfl⟩, rfl⟩
      rw [← Hres.out]
      rfl
    case round =>
      obtain ⟨j, r', lo', hi', hg, hj, rfl, rfl, rfl, rfl, hcont, hr0', hr1', rfl⟩ := hrel
      have Hcont := hide hcont
      have Hr1 := hide hr1'
      have Hg := hide hg
      have hr2 : r' ≤ 33554431 := by omega
      clear hcont hr1' hg hr1
      go_wp2
      go_ret3
      exact ⟨partT_eq (by rw [← Hcont.out, show j = 0 from by omega]; unfold Utf.cont; simp [Utf.part, hr0', show ¬ r' < 0 from by omega]), rfl⟩
  · go_wp2_with (go_at_call 83; rw [Hc.out]; refine (lead_any _ _ hc0 hc1).mono ?_; rintro e w' ⟨rfl, rfl⟩; rw [Hl.out]; unfold leadT; dsimp only)
    have hrr : bits .and .i64 (wrap64 (s[a].toNat : Int)) (31) = r := by
      rw [Hc.out, IntWalk.wrap64_in c (by omega), b1]
      exact Hr.out.2.1 (by trivial)
    rw [hrr]
    clear hrr b0 b1 b2 b3
    go_loopg [8, 9, 11, 12] (1 + 1) (fun g vlo vhi vr vn wr => ∃ (j : Nat) (r' lo' hi' : Int), g = 1 + 1 - j ∧ j ≤ 1 ∧ vr = .int .i64 r' ∧ vn = .int .i64 ((j : Int) + 1) ∧ vlo = .int .u8 lo' ∧ vhi = .int .u8 hi' ∧
      Utf.part (Utf.cont (s.data.toList.drop (a + (j + 1))) (1 - j) r' ((j : Int) + 1) (if 1 = 0 then lo else lo') (if 1 = 0 then hi else hi')) = res ∧ 0 ≤ r' ∧ (r' ≤ 127 ∧ j = 0 ∨ r' ≤ 8191 ∧ j = 1 ∨ r' ≤ 524287 ∧ j = 2 ∨ r' ≤ 33554431 ∧ j = 3) ∧ wr = w)
    case atStart =>
      refine ⟨0, r, least, most, rfl, by omega, rfl, rfl, rfl, rfl, ?_, hr0, .inl ⟨hr1, rfl⟩, rfl⟩
      rw [← Hres.out]
      have := Hll.out (by omega)
      rw [this.1, this.2]
      rfl
    case round =>
      obtain ⟨j, r', lo', hi', hg, hj, rfl, rfl, rfl, rfl, hcont, hr0', hr1', rfl⟩ := hrel
      have Hcont := hide hcont
      have Hr1 := hide hr1'
      have Hg := hide hg
      have hr2 : r' ≤ 33554431 := by omega
      clear hcont hr1' hg hr1
      by_cases hlt : j < 1
      · have hr3 : r' ≤ 524287 := by have := Hr1.out; omega
        by_cases hend : s.size ≤ a + (j + 1)
        · go_wp2
          go_ret3
          exact ⟨partT_eq (by rw [← Hcont.out, show 1 - j = (1 - j - 1) + 1 from by omega, cont_end hend]; rfl), rfl⟩
        · have hlt2 : a + (j + 1) < s.size := by omega
          go_wp2
          · go_ret3
            have hx : (↑s.size ≤ (a : Int) + ((j : Int) + 1) ∨ (s[a + (j + 1)].toNat : Int) < lo') ∨ hi' < (s[a + (j + 1)].toNat : Int) := by assumption
            exact ⟨partT_eq (by rw [← Hcont.out, show 1 - j = (1 - j - 1) + 1 from by omega, cont_wrong hlt2 (by simp only [show (1 = 0) = False from by simp, if_false]; omega)]; rfl), rfl⟩
          · have hin : ((a : Int) + ((j : Int) + 1) < s.size ∧ lo' ≤ (s[a + (j + 1)].toNat : Int)) ∧ (s[a + (j + 1)].toNat : Int) ≤ hi' := by assumption
            have hb := Utf.byte_lt s[a + (j + 1)]
            go_roundg (1 + 1 - (j + 1))
            case measure => have := Hg.out; omega
            case rel =>
              refine ⟨j + 1, r' * 64 + (s[a + (j + 1)].toNat : Int) % 64, 128, 191, rfl, by omega, ?_, by go_num, rfl, rfl, ?_, by omega, by have := Hr1.out; omega, rfl⟩
              · rw [u8_and63 _ (by omega) hb, IntWalk.wrap64_in _ (by omega), i64_or64 r' _ hr0' (by omega) (by omega) (by omega)]
              · rw [← Hcont.out, show 1 - j = (1 - (j + 1)) + 1 from by omega, cont_step hlt2 (by simpa using hin.1.2) (by simpa using hin.2)]
                simp
                rfl
          · go_ret3
            have hx : (s[a + (j + 1)].toNat : Int) < lo' := by assumption
            exact ⟨partT_eq (by rw [← Hcont.out, show 1 - j = (1 - j - 1) + 1 from by omega, cont_wrong hlt2 (.inl (by simpa using hx))]; rfl), rfl⟩
      · go_wp2
        go_ret3
        exact ⟨partT_eq (by rw [← Hcont.out, show j = 1 from by omega]; unfold Utf.cont; simp [Utf.part, hr0', show ¬ r' < 0 from by omega]), rfl⟩
  · go_wp2_with (go_at_call 83; rw [Hc.out]; refine (lead_any _ _ hc0 hc1).mono ?_; rintro e w' ⟨rfl, rfl⟩; rw [Hl.out]; unfold leadT; dsimp only)
    have hrr : bits .and .i64 (wrap64 (s[a].toNat : Int)) (15) = r := by
      rw [Hc.out, IntWalk.wrap64_in c (by omega), b2]
      exact Hr.out.2.2.1 (by trivial)
    rw [hrr]
    clear hrr b0 b1 b2 b3
    go_loopg [8, 9, 11, 12] (2 + 1) (fun g vlo vhi vr vn wr => ∃ (j : Nat) (r' lo' hi' : Int), g = 2 + 1 - j ∧ j ≤ 2 ∧ vr = .int .i64 r' ∧ vn = .int .i64 ((j : Int) + 1) ∧ vlo = .int .u8 lo' ∧ vhi = .int .u8 hi' ∧
      Utf.part (Utf.cont (s.data.toList.drop (a + (j + 1))) (2 - j) r' ((j : Int) + 1) (if 2 = 0 then lo else lo') (if 2 = 0 then hi else hi')) = res ∧ 0 ≤ r' ∧ (r' ≤ 127 ∧ j = 0 ∨ r' ≤ 8191 ∧ j = 1 ∨ r' ≤ 524287 ∧ j = 2 ∨ r' ≤ 33554431 ∧ j = 3) ∧ wr = w)
    case atStart =>
      refine ⟨0, r, least, most, rfl, by omega, rfl, rfl, rfl, rfl, ?_, hr0, .inl ⟨hr1, rfl⟩, rfl⟩
      rw [← Hres.out]
      have := Hll.out (by omega)
      rw [this.1, this.2]
      rfl
    case round =>
      obtain ⟨j, r', lo', hi', hg, hj, rfl, rfl, rfl, rfl, hcont, hr0', hr1', rfl⟩ := hrel
      have Hcont := hide hcont
      have Hr1 := hide hr1'
      have Hg := hide hg
      have hr2 : r' ≤ 33554431 := by omega
      clear hcont hr1' hg hr1
      by_cases hlt : j < 2
      · have hr3 : r' ≤ 524287 := by have := Hr1.out; omega
        by_cases hend : s.size ≤ a + (j + 1)
        · go_wp2
          go_ret3
          exact ⟨partT_eq (by rw [← Hcont.out, show 2 - j = (2 - j - 1) + 1 from by omega, cont_end hend]; rfl), rfl⟩
        · have hlt2 : a + (j + 1) < s.size := by omega
          go_wp2
          · go_ret3
            have hx : (↑s.size ≤ (a : Int) + ((j : Int) + 1) ∨ (s[a + (j + 1)].toNat : Int) < lo') ∨ hi' < (s[a + (j + 1)].toNat : Int) := by assumption
            exact ⟨partT_eq (by rw [← Hcont.out, show 2 - j = (2 - j - 1) + 1 from by omega, cont_wrong hlt2 (by simp only [show (2 = 0) = False from by simp, if_false]; omega)]; rfl), rfl⟩
          · have hin : ((a : Int) + ((j : Int) + 1) < s.size ∧ lo' ≤ (s[a + (j + 1)].toNat : Int)) ∧ (s[a + (j + 1)].toNat : Int) ≤ hi' := by assumption
            have hb := Utf.byte_lt s[a + (j + 1)]
            go_roundg (2 + 1 - (j + 1))
            case measure => have := Hg.out; omega
            case rel =>
              refine ⟨j + 1, r' * 64 + (s[a + (j + 1)].toNat : Int) % 64, 128, 191, rfl, by omega, ?_, by go_num, rfl, rfl, ?_, by omega, by have := Hr1.out; omega, rfl⟩
              · rw [u8_and63 _ (by omega) hb, IntWalk.wrap64_in _ (by omega), i64_or64 r' _ hr0' (by omega) (by omega) (by omega)]
              · rw [← Hcont.out, show 2 - j = (2 - (j + 1)) + 1 from by omega, cont_step hlt2 (by simpa using hin.1.2) (by simpa using hin.2)]
                simp
                rfl
          · go_ret3
            have hx : (s[a + (j + 1)].toNat : Int) < lo' := by assumption
            exact ⟨partT_eq (by rw [← Hcont.out, show 2 - j = (2 - j - 1) + 1 from by omega, cont_wrong hlt2 (.inl (by simpa using hx))]; rfl), rfl⟩
      · go_wp2
        go_ret3
        exact ⟨partT_eq (by rw [← Hcont.out, show j = 2 from by omega]; unfold Utf.cont; simp [Utf.part, hr0', show ¬ r' < 0 from by omega]), rfl⟩
  · go_wp2_with (go_at_call 83; rw [Hc.out]; refine (lead_any _ _ hc0 hc1).mono ?_; rintro e w' ⟨rfl, rfl⟩; rw [Hl.out]; unfold leadT; dsimp only)
    have hrr : bits .and .i64 (wrap64 (s[a].toNat : Int)) (7) = r := by
      rw [Hc.out, IntWalk.wrap64_in c (by omega), b3]
      exact Hr.out.2.2.2 (by trivial)
    rw [hrr]
    clear hrr b0 b1 b2 b3
    go_loopg [8, 9, 11, 12] (3 + 1) (fun g vlo vhi vr vn wr => ∃ (j : Nat) (r' lo' hi' : Int), g = 3 + 1 - j ∧ j ≤ 3 ∧ vr = .int .i64 r' ∧ vn = .int .i64 ((j : Int) + 1) ∧ vlo = .int .u8 lo' ∧ vhi = .int .u8 hi' ∧
      Utf.part (Utf.cont (s.data.toList.drop (a + (j + 1))) (3 - j) r' ((j : Int) + 1) (if 3 = 0 then lo else lo') (if 3 = 0 then hi else hi')) = res ∧ 0 ≤ r' ∧ (r' ≤ 127 ∧ j = 0 ∨ r' ≤ 8191 ∧ j = 1 ∨ r' ≤ 524287 ∧ j = 2 ∨ r' ≤ 33554431 ∧ j = 3) ∧ wr = w)
    case atStart =>
      refine ⟨0, r, least, most, rfl, by omega, rfl, rfl, rfl, rfl, ?_, hr0, .inl ⟨hr1, rfl⟩, rfl⟩
      rw [← Hres.out]
      have := Hll.out (by omega)
      rw [this.1, this.2]
      rfl
    case round =>
      obtain ⟨j, r', lo', hi', hg, hj, rfl, rfl, rfl, rfl, hcont, hr0', hr1', rfl⟩ := hrel
      have Hcont := hide hcont
      have Hr1 := hide hr1'
      have Hg := hide hg
      have hr2 : r' ≤ 33554431 := by omega
      clear hcont hr1' hg hr1
      by_cases hlt : j < 3
      · have hr3 : r' ≤ 524287 := by have := Hr1.out; omega
        by_cases hend : s.size ≤ a + (j + 1)
        · go_wp2
          go_ret3
          exact ⟨partT_eq (by rw [← Hcont.out, show 3 - j = (3 - j - 1) + 1 from by omega, cont_end hend]; rfl), rfl⟩
        · have hlt2 : a + (j + 1) < s.size := by omega
          go_wp2
          · go_ret3
            have hx : (↑s.size ≤ (a : Int) + ((j : Int) + 1) ∨ (s[a + (j + 1)].toNat : Int) < lo') ∨ hi' < (s[a + (j + 1)].toNat : Int) := by assumption
            exact ⟨partT_eq (by rw [← Hcont.out, show 3 - j = (3 - j - 1) + 1 from by omega, cont_wrong hlt2 (by simp only [show (3 = 0) = False from by simp, if_false]; omega)]; rfl), rfl⟩
          · have hin : ((a : Int) + ((j : Int) + 1) < s.size ∧ lo' ≤ (s[a + (j + 1)].toNat : Int)) ∧ (s[a + (j + 1)].toNat : Int) ≤ hi' := by assumption
            have hb := Utf.byte_lt s[a + (j + 1)]
            go_roundg (3 + 1 - (j + 1))
            case measure => have := Hg.out; omega
            case rel =>
              refine ⟨j + 1, r' * 64 + (s[a + (j + 1)].toNat : Int) % 64, 128, 191, rfl, by omega, ?_, by go_num, rfl, rfl, ?_, by omega, by have := Hr1.out; omega, rfl⟩
              · rw [u8_and63 _ (by omega) hb, IntWalk.wrap64_in _ (by omega), i64_or64 r' _ hr0' (by omega) (by omega) (by omega)]
              · rw [← Hcont.out, show 3 - j = (3 - (j + 1)) + 1 from by omega, cont_step hlt2 (by simpa using hin.1.2) (by simpa using hin.2)]
                simp
                rfl
          · go_ret3
            have hx : (s[a + (j + 1)].toNat : Int) < lo' := by assumption
            exact ⟨partT_eq (by rw [← Hcont.out, show 3 - j = (3 - j - 1) + 1 from by omega, cont_wrong hlt2 (.inl (by simpa using hx))]; rfl), rfl⟩
      · go_wp2
        go_ret3
        exact ⟨partT_eq (by rw [← Hcont.out, show j = 3 from by omega]; unfold Utf.cont; simp [Utf.part, hr0', show ¬ r' < 0 from by omega]), rfl⟩

end Go.Proofs.Ytlkkmgimjjnhjaa
namespace Go.Proofs.Ytlkkmgimjjnhjaa
open Go.RowKit

theorem part_any (s : ByteArray) (at_ : Int) (w : World) (h0 : 0 ≤ at_) (h1 : at_ < s.size) (hs : s.size ≤ 1000000000) :
    Calls Try.prog 80 #[.string s, .int .i64 at_] w fun e w' => e = .returned (partT (Utf.part (Utf.piece (s.data.toList.drop at_.toNat)))) ∧ w = w' := by
  obtain ⟨a, rfl⟩ := Int.eq_ofNat_of_zero_le h0
  rw [Int.toNat_natCast]
  have ha : a < s.size := by omega
  rw [drop_at s a ha, Utf.piece_cons]
  have hw := part_wrong s a w ha hs
  have hr := fun k r lo hi least most => part_right s a k r lo hi least most w ha hs
  obtain ⟨c, hc⟩ : ∃ c : Int, (s[a].toNat : Int) = c := ⟨_, rfl⟩
  rw [hc] at hw ⊢
  simp only [hc] at hr
  by_cases hm : (Utf.follow c).1 < 0
  · rw [if_pos hm]
    exact hw hm
  · rw [if_neg hm]
    obtain ⟨m, r, lo, hi, hq⟩ : ∃ m r lo hi, Utf.follow c = (m, r, lo, hi) := ⟨_, _, _, _, rfl⟩
    rw [hq] at hm hr ⊢
    dsimp only at hm ⊢
    obtain ⟨k, rfl⟩ := Int.eq_ofNat_of_zero_le (show 0 ≤ m by omega)
    rw [Int.toNat_natCast]
    by_cases hk0 : k = 0
    · subst hk0
      exact hr 0 r lo hi 0 0 rfl rfl (by omega)
    · exact hr k r lo hi lo hi rfl (by unfold leadV; rw [if_neg (by simp), if_neg (by simpa using hk0)]) (fun _ => ⟨rfl, rfl⟩)

/-- What the document's 'Next' says of a piece. -/
def nextT (f : Int × Int) : Value := if f.1 < 0 then .tuple #[.int .i64 0, .int .i64 0, .bool false] else .tuple #[.int .i64 f.1, .int .i64 f.2, .bool true]

set_option maxHeartbeats 400000 in
theorem next_any (s : ByteArray) (at_ : Int) (w : World) (h0 : 0 ≤ at_) (h1 : at_ < s.size) (hs : s.size ≤ 1000000000) :
    Calls Try.prog 76 #[.string s, .int .i64 at_] w fun e w' => e = .returned (nextT (Utf.piece (s.data.toList.drop at_.toNat))) ∧ w = w' := by
  have H := part_any s at_ w h0 h1 hs
  generalize Utf.piece (s.data.toList.drop at_.toNat) = f at *
  have HH := hide H
  clear H
  have g : ¬ at_ < 0 := by omega
  go_enter Try.func76, Try.ntmps76
  by_cases hf : f.1 < 0
  · have e1 : Hid (Utf.part f = (0, f.2, false)) := by show Utf.part f = _; unfold Utf.part; rw [if_pos hf]
    go_wp2_with (go_at_call 80; refine HH.out.mono ?_; rintro e w' ⟨rfl, rfl⟩; rw [e1.out]; unfold partT; dsimp only)
    go_ret3
    exact ⟨by unfold nextT; rw [if_pos hf]; rfl, rfl⟩
  · have e1 : Hid (Utf.part f = (f.1, f.2, true)) := by show Utf.part f = _; unfold Utf.part; rw [if_neg hf]
    go_wp2_with (go_at_call 80; refine HH.out.mono ?_; rintro e w' ⟨rfl, rfl⟩; rw [e1.out]; unfold partT; dsimp only)
    go_ret3
    exact ⟨by unfold nextT; rw [if_neg (by omega)]; rfl, rfl⟩
end Go.Proofs.Ytlkkmgimjjnhjaa
namespace Go.Proofs.Ytlkkmgimjjnhjaa
open Go.RowKit

theorem info_int : (Try.prog.info? 3).map (fun i => (i.zero, i.size, i.bytes)) = some (some (.int .i64 0), 1, 8) := by kernel_rfl

theorem valid_at (s : ByteArray) (k : Nat) (h : k < s.size) :
    Utf.valid (s.data.toList.drop k) = if (Utf.piece (s.data.toList.drop k)).1 < 0 then false else Utf.valid (s.data.toList.drop (k + (Utf.piece (s.data.toList.drop k)).2.toNat)) := by
  rw [drop_at s k h, Utf.valid_cons, ← drop_at s k h, List.drop_drop]
theorem piece_at (s : ByteArray) (k : Nat) (h : k < s.size) : 1 ≤ (Utf.piece (s.data.toList.drop k)).2 ∧ (Utf.piece (s.data.toList.drop k)).2 ≤ 4 ∧ (Utf.piece (s.data.toList.drop k)).2 ≤ ((s.size - k : Nat) : Int) := by
  have := Utf.piece_len s[k] (s.data.toList.drop (k + 1))
  rw [← drop_at s k h] at this
  simpa using this

set_option maxHeartbeats 1000000 in
theorem scalars_any (s : ByteArray) (w : World) (hs : s.size ≤ 1000000000) :
    Calls Try.prog 72 #[.string s] w fun e w' => ∃ v, e = .returned (.tuple #[v, .bool (Utf.valid s.data.toList)]) ∧ Below w.heap.size w w' := by
  obtain ⟨res, hres⟩ : ∃ res, Utf.valid s.data.toList = res := ⟨_, rfl⟩
  rw [hres]
  have Hres := hide hres
  clear hres
  go_enter Try.func72, Try.ntmps72
  go_wp2
  go_loopg [4, 5] s.size (fun g vo va wr => ∃ (k n : Nat) (xs : List Value), g = s.size - k ∧ k ≤ s.size ∧ n ≤ k ∧ va = .int .i64 k ∧ Utf.valid (s.data.toList.drop k) = res ∧ wr.ownsRow w.heap.size 3 1 vo n xs ∧ Below w.heap.size w wr)
  case atStart => exact ⟨0, 0, [], rfl, by omega, by omega, rfl, by rw [← Hres.out]; rfl, World.ownsRow_nil _ _ _ _, Below.refl _ _⟩
  case round =>
    obtain ⟨k, n, xs, hg, hk, hn, rfl, hv, hown, hb⟩ := hrel
    have Hv := hide hv
    have Hg := hide hg
    clear hv hg
    by_cases hlt : k < s.size
    · have hp := piece_at s k hlt
      have hval := valid_at s k hlt
      have HN := hide (next_any s k wr (by omega) (by omega) hs)
      rw [Int.toNat_natCast] at HN
      obtain ⟨f, hf⟩ : ∃ f, Utf.piece (s.data.toList.drop k) = f := ⟨_, rfl⟩
      rw [hf] at hp hval HN
      have Hval := hide hval
      clear hf hval
      by_cases hneg : f.1 < 0
      · have e1 : Hid (nextT f = .tuple #[.int .i64 0, .int .i64 0, .bool false]) := by show nextT f = _; unfold nextT; rw [if_pos hneg]
        go_wp2_with (go_at_call 76; refine HN.out.mono ?_; rintro e w' ⟨rfl, rfl⟩; rw [e1.out])
        go_ret2
        exact ⟨_, ret_eq2 rfl (bool_eq (by rw [← Hv.out, Hval.out, if_pos hneg])), hb⟩
      · have e1 : Hid (nextT f = .tuple #[.int .i64 f.1, .int .i64 f.2, .bool true]) := by show nextT f = _; unfold nextT; rw [if_neg hneg]
        go_wp2_with fail
        refine HN.out.mono ?_; rintro e w' ⟨rfl, rfl⟩; rw [e1.out]
        go_wp2_with (first
          | (at_builtin; go_loud (refine wpList_append_elem wr rfl (.tmp 22) (.tmp 24) 51 rfl w.heap.size (.int .i64 0) 1 8 Try.underlying51 info_int rfl (by omega) u4 n xs rfl hown rfl (by simp [Value.oneCell']) rfl (by unfold maxLen; omega) (by omega) hb.size ?_); intro g' cap' w1 hown1 hgrow1 hat1 hlt1 hb1))
        go_roundg (s.size - (k + f.2.toNat))
        case measure => have := Hg.out; omega
        case rel =>
          exact ⟨k + f.2.toNat, n + 1, _, rfl, by omega, by omega, int_eq (by omega), by rw [← Hv.out, Hval.out, if_neg (by omega)], hown1, hb.grown hgrow1 hb.size (fun j hj => (own_isT hown j hj).1)⟩
    · go_wp2
      go_ret2
      exact ⟨_, ret_eq2 rfl (bool_eq (by rw [← Hv.out, List.drop_of_length_le (by simp; omega)]; rfl)), hb⟩

set_option maxHeartbeats 400000 in
theorem refValid_any (s : ByteArray) (w : World) (hs : s.size ≤ 1000000000) :
    Calls Try.prog 48 #[.string s] w fun e w' => e = .returned (.bool (Utf.valid s.data.toList)) ∧ Below w.heap.size w w' := by
  go_enter Try.func48, Try.ntmps48
  go_wp2_with (go_at_call 72; refine (scalars_any s w hs).mono ?_; rintro e w' ⟨v, rfl, hb⟩)
  go_ret
  exact ⟨rfl, hb⟩
end Go.Proofs.Ytlkkmgimjjnhjaa
