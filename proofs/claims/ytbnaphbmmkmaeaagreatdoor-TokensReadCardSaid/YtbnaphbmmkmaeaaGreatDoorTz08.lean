/- Characters: the program's 'Bad', 'front', 'Take'. · Characters: the program's 'Take': how many bytes a name at the front has. · Tokens: the scan's name, value. (Printed by wip/genTkG.py.) -/
import Derived.Test.YtbnaphbmmkmaeaaGreatDoorTz03
import Derived.Test.YtbnaphbmmkmaeaaGreatDoorTz07
set_option linter.unusedSimpArgs false
set_option linter.unusedVariables false
namespace Go.Proofs.YtbnaphbmmkmaeaaGreatDoor
open Go.RowKit Go.Shelf Tk

attribute [local go_sem] Oper.semAt_some

theorem upTo_find (f : Nat × Int → Bool) (hf : ∀ p, p.2 < 0 → f p = true) : ∀ l : List (Nat × Int), (upTo l).find? f = l.find? f
  | [] => rfl
  | p :: l => by
    unfold upTo
    split
    · rename_i h
      rw [List.find?_cons, List.find?_cons, hf p h]
    · rw [List.find?_cons, List.find?_cons, upTo_find f hf l]
theorem find_app {α : Type} {f : α → Bool} {pre rest : List α} {x : α} (h : ∀ p ∈ pre, f p = false) (hx : f x = true) : (pre ++ [x] ++ rest).find? f = some x := by
  rw [List.append_assoc, List.find?_append, List.find?_eq_none.2 (fun p hp => by rw [h p hp]; simp)]
  simp [hx]
theorem stop_at {ok : Nat → Int → Bool} (hok : ∀ k r, r < 0 → ok k r = false) {l : L} {pre rest : List (Nat × Int)} {x : Nat × Int} (e : pre ++ [x] ++ rest = upTo (Utf.pieces l)) (h : ∀ p ∈ pre, ok p.1 p.2 = true) (hx : ok x.1 x.2 = false) : stop ok l = some x.1 := by
  unfold stop
  rw [← upTo_find _ (fun p hp => by rw [hok _ _ hp]; rfl), ← e, find_app (fun p hp => by rw [h p hp]; rfl) (by rw [hx]; rfl)]
  rfl
theorem stop_none {ok : Nat → Int → Bool} (hok : ∀ k r, r < 0 → ok k r = false) {l : L} (h : ∀ p ∈ upTo (Utf.pieces l), ok p.1 p.2 = true) : stop ok l = none := by
  unfold stop
  rw [← upTo_find _ (fun p hp => by rw [hok _ _ hp]; rfl), List.find?_eq_none.2 (fun p hp => by rw [h p hp]; simp)]
  rfl
theorem charOk_neg (r : Int) (h : r < 0) : charOk r = false := by
  unfold charOk within
  simp
  omega
theorem firstOk_neg (r : Int) (h : r < 0) : firstOk r = false := by
  unfold firstOk within
  simp
  omega
theorem furtherOk_neg (r : Int) (h : r < 0) : furtherOk r = false := by
  unfold furtherOk
  rw [firstOk_neg r h]
  unfold within
  simp
  omega
theorem nameOk_neg (k : Nat) (r : Int) (h : r < 0) : nameOk k r = false := by
  unfold nameOk
  rw [firstOk_neg r h, furtherOk_neg r h]
  simp
  omega

/-- What Bad's variables hold when so much has come. -/
def BadI (w : World) (pre : List (Nat × Int)) (W : World) : Prop := (∀ p ∈ pre, charOk p.2 = true) ∧ (∃ v, Boxed W w.heap.size 3 v) ∧ (∃ u, Boxed W (w.heap.size + 1) 9 u) ∧ Below w.heap.size w W
def BadX (w : World) (c : Code) (pre : List (Nat × Int)) (W : World) : Prop :=
  c = .ret ∧ ∃ pre0 x, pre = pre0 ++ [x] ∧ (∀ p ∈ pre0, charOk p.2 = true) ∧ charOk x.2 = false ∧ Boxed W w.heap.size 3 (.int .i64 (x.1 : Int)) ∧ Below w.heap.size w W
theorem box_row {X : World} {B : Nat} {t : TypeId} {u : Value} {row : Option Nat} {n : Nat} (hrow : ∀ r, row = some r → n ≤ r ∧ ∃ o : Obj, X.heap[r]? = some o ∧ o.isCells = false) (h : Boxed X B t u) : some B ≠ row := fun e => by
  obtain ⟨_, o, ho, hc⟩ := hrow _ e.symm
  rw [show X.heap[_]? = _ from h] at ho; cases ho; cases hc
theorem BadI_own (w : World) : OwnFrom (w.heap.size + 1 + 1) (BadI w) := by
  rintro s X Y row ⟨h1, ⟨v, hv⟩, ⟨u, hu⟩, h3⟩ hg hrow
  exact ⟨h1, ⟨v, hv.kept hg (box_row hrow hv)⟩, ⟨u, hu.kept hg (box_row hrow hu)⟩, h3.grown hg h3.size (fun k e => by have := (hrow k e).1; omega)⟩
theorem BadX_own (w : World) (c : Code) : OwnFrom (w.heap.size + 1 + 1) (BadX w c) := by
  rintro s X Y row ⟨h1, p, x, h2, h4, h5, hv, h3⟩ hg hrow
  exact ⟨h1, p, x, h2, h4, h5, hv.kept hg (box_row hrow hv), h3.grown hg h3.size (fun k e => by have := (hrow k e).1; omega)⟩

set_option maxRecDepth 100000 in
set_option maxHeartbeats 4000000 in
theorem bad_any (s : ByteArray) (w : World) (hs : s.size ≤ 1000000000) :
    Calls Tryz.prog 36 #[.string s] w fun e w' => e = .returned (.int .i64 (bad s.data.toList)) ∧ Below w.heap.size w w' := by
  refine (callsIn_wide (n := 5)).1 ?_
  refine callsIn_of_wp_marks Tryz.func36 rfl trivial ?_ rfl
  simp only [Tryz.ntmps36, List.size_toArray, List.length_cons, List.length_nil, Nat.reduceAdd, Nat.reduceSub, Array.replicate_succ, Array.replicate_zero, List.push_toArray, List.append_toArray, List.nil_append, List.cons_append]
  gi_wp2_with (refine ⟨trivial, ?_⟩; gi_at_call 70; refine (callsIn_wide.2 (scalars_mk _ _)).mono ?_; rintro e w' ⟨rfl, rfl⟩)
  have b0 := Boxed.new w 3 (.int .i64 0)
  have b1 := Boxed.new (w.alloc (.cells #[.int .i64 0] 3)) 9 (.string s)
  rw [World.size_alloc] at b1
  have hB0 : Below w.heap.size w ((w.alloc (.cells #[.int .i64 0] 3)).alloc (.cells #[.string s] 9)) := ((Below.refl _ w).alloc (Nat.le_refl _) _).alloc (by simp) _
  refine wpIn_rangeFunc_ownG rfl (by omega) (gf := 113) (lb := #[.pointer (some ⟨w.heap.size + 1, 0, none⟩)]) rfl trivial (enters_of Tryz.func113 (by kernel_rfl) rfl)
    (scalars_stops (5 - 1) (by omega) (w.heap.size + 1) s hs _ (by simp) b1.cell) SameBlk.trans (sameBlk_b (by simp)) (Below.refl _ _) (fun _ => rfl)
    (BadI w) (BadX w) (by simpa using BadI_own w) (fun c => by simpa using BadX_own w c)
    ⟨(fun p hp => by cases hp), ⟨_, b0.alloc _⟩, ⟨_, b1⟩, hB0⟩
    (fun x => { tmps := #[.string s, undef, .pointer (some ⟨w.heap.size, 0, none⟩), .int .i64 (x.1 : Int), .int .i64 x.2, .string s,
      .func (.func 113) #[] #[.pointer (some ⟨w.heap.size + 1, 0, none⟩)], .int .i64 (x.1 : Int), .int .i64 x.2, undef, undef, undef, undef], defers := [] }) ?assign ?body ?done ?stop
  case assign =>
    intro l x W K hK
    gi_wp2
    exact hK
  case body =>
    rintro l pre x W ⟨hp, ⟨v, hv⟩, ⟨u, hu⟩, hB⟩ hlen
    have HP := hide hp
    have h2 : w.heap.size + 1 < W.heap.size := hu.lt
    have HC := hide (char_any x.2)
    cases hx : charOk x.2 with
    | true =>
      rw [hx] at HC
      have HX := hide hx
      clear hp hx
      gi_wp2_with (refine ⟨trivial, ?_⟩; gi_at_call 71; refine (CallsIn.inRound l (callsIn_wide.2 (HC.out _))).mono ?_; rintro e w1 ⟨rfl, hb⟩)
      refine ⟨(others_below hb).from _, hb.block _ (by omega), fun p hp => ?_, ⟨v, hv.kept (grown_below hb none) (by simp)⟩, ⟨u, hu.kept (grown_below hb none) (by simp)⟩, hB.trans (hb.mono hB.size)⟩
      rcases List.mem_append.1 hp with hp | hp
      · exact HP.out p hp
      · have : p = x := by simpa using hp
        rw [this]
        exact HX.out
    | false =>
      rw [hx] at HC
      have HX := hide hx
      clear hp hx
      gi_wp2_with (refine ⟨trivial, ?_⟩; gi_at_call 71; refine (CallsIn.inRound l (callsIn_wide.2 (HC.out _))).mono ?_; rintro e w1 ⟨rfl, hb⟩; have hv1 := hv.kept (grown_below hb none) (by simp); have hc1 := hv1.cell; have hf1 := hv1.frozen)
      exact ⟨((others_below hb).trans (KeepsOthers.setCell _ _ _)).from _, rfl, pre, x, rfl, HP.out, HX.out, hv1.set _, (hB.trans (hb.mono hB.size)).setCell (p := ⟨w.heap.size, 0, none⟩) (Nat.le_refl _) _⟩
  case done =>
    rintro D ys W hD hys ⟨hp, ⟨v, hv⟩, ⟨u, hu⟩, hB⟩ hK
    have hc := hv.cell
    have hf := hv.frozen
    have Hbad := hide (show bad s.data.toList = -1 from by
      unfold bad
      rw [stop_none (ok := fun _ r => charOk r) (fun _ r h => charOk_neg r h) (by rw [← hys]; exact fun p h => hp p h)])
    clear hys hp
    gi_wp2
    have hv2 := hv.set (.int .i64 (-1))
    have hK2 := (KeepsOthers.setCell W ⟨w.heap.size, 0, none⟩ (.int .i64 (-1))).same D _ hK rfl
    refine ⟨by simp, .inl ⟨_, _, rfl, run_takeDeferred hK2, ?_⟩⟩
    have hc2 := cell_kept hv2.cell (grownBy_putObj' _ D (.deferred none)) (fun r e => by cases e; exact ⟨_, hK2, rfl⟩)
    refine ⟨.int .i64 (-1), ?_, ?_⟩
    · simp [results, Tryz.results36, go_sem, hc2]
    · exact ⟨ret_eq1 (int_eq Hbad.out.symm), (hB.setCell (p := ⟨w.heap.size, 0, none⟩) (Nat.le_refl _) _).trans (belowK_b (w := w) (Nat.le_refl _) _ D _ _ (by simp at hD; omega) hK2 rfl rfl)⟩
  case stop =>
    rintro D c pre W hD ⟨rest, hsp⟩ ⟨rfl, pre0, x, rfl, hp, hx, hv, hB⟩ hK
    have hc := hv.cell
    have hf := hv.frozen
    have Hbad := hide (show bad s.data.toList = (x.1 : Int) from by
      unfold bad
      rw [stop_at (ok := fun _ r => charOk r) (fun _ r h => charOk_neg r h) hsp (fun p h => hp p h) hx])
    clear hsp hp hx
    gi_wp2
    refine ⟨by simp, .inl ⟨_, _, rfl, run_takeDeferred hK, ?_⟩⟩
    have hc2 := cell_kept hc (grownBy_putObj' _ D (.deferred none)) (fun r e => by cases e; exact ⟨_, hK, rfl⟩)
    refine ⟨.int .i64 (x.1 : Int), ?_, ?_⟩
    · simp [results, Tryz.results36, go_sem, hc2]
    · exact ⟨ret_eq1 (int_eq Hbad.out.symm), hB.trans (belowK_b (w := w) (Nat.le_refl _) _ D _ _ (by simp at hD; omega) hK rfl rfl)⟩
end Go.Proofs.YtbnaphbmmkmaeaaGreatDoor
namespace Go.Proofs.YtbnaphbmmkmaeaaGreatDoor
open Go.RowKit Go.Shelf Tk

attribute [local go_sem] Oper.semAt_some

/-- What front's variables hold when so much has come. -/
def FrontI (w : World) (pre : List (Nat × Int)) (W : World) : Prop :=
  (∀ p ∈ pre, nameOk p.1 p.2 = true) ∧ Boxed W w.heap.size 80 (.func (.func 151) #[] #[]) ∧ (∃ v, Boxed W (w.heap.size + 1) 3 v) ∧ (∃ u, Boxed W (w.heap.size + 1 + 1) 9 u) ∧ Below w.heap.size w W
def FrontX (w : World) (c : Code) (pre : List (Nat × Int)) (W : World) : Prop :=
  c = .ret ∧ ∃ pre0 x, pre = pre0 ++ [x] ∧ (∀ p ∈ pre0, nameOk p.1 p.2 = true) ∧ nameOk x.1 x.2 = false ∧ Boxed W (w.heap.size + 1) 3 (.int .i64 (x.1 : Int)) ∧ Below w.heap.size w W
theorem FrontI_own (w : World) : OwnFrom (w.heap.size + 1 + 1 + 1) (FrontI w) := by
  rintro s X Y row ⟨h1, hb, ⟨v, hv⟩, ⟨u, hu⟩, h3⟩ hg hrow
  exact ⟨h1, hb.kept hg (box_row hrow hb), ⟨v, hv.kept hg (box_row hrow hv)⟩, ⟨u, hu.kept hg (box_row hrow hu)⟩, h3.grown hg h3.size (fun k e => by have := (hrow k e).1; omega)⟩
theorem FrontX_own (w : World) (c : Code) : OwnFrom (w.heap.size + 1 + 1 + 1) (FrontX w c) := by
  rintro s X Y row ⟨h1, p, x, h2, h4, h5, hv, h3⟩ hg hrow
  exact ⟨h1, p, x, h2, h4, h5, hv.kept hg (box_row hrow hv), h3.grown hg h3.size (fun k e => by have := (hrow k e).1; omega)⟩
theorem first_further {r : Int} (h : firstOk r = true) : furtherOk r = true := by unfold furtherOk; rw [h]; rfl

set_option maxRecDepth 100000 in
set_option maxHeartbeats 4000000 in
theorem front_any (s : ByteArray) (w : World) (hs : s.size ≤ 1000000000) :
    Calls Tryz.prog 150 #[.string s, .func (.func 151) #[] #[]] w fun e w' => e = .returned (.int .i64 (take s.data.toList : Nat)) ∧ Below w.heap.size w w' := by
  refine (callsIn_wide (n := 5)).1 ?_
  refine callsIn_of_wp_marks Tryz.func150 rfl trivial ?_ rfl
  simp only [Tryz.ntmps150, List.size_toArray, List.length_cons, List.length_nil, Nat.reduceAdd, Nat.reduceSub, Array.replicate_succ, Array.replicate_zero, List.push_toArray, List.append_toArray, List.nil_append, List.cons_append]
  gi_wp2_with (refine ⟨trivial, ?_⟩; gi_at_call 70; refine (callsIn_wide.2 (scalars_mk _ _)).mono ?_; rintro e w' ⟨rfl, rfl⟩)
  have b0 := Boxed.new w 80 (.func (.func 151) #[] #[])
  have b1 := Boxed.new (w.alloc (.cells #[.func (.func 151) #[] #[]] 80)) 3 (.int .i64 0)
  rw [World.size_alloc] at b1
  have b2 := Boxed.new ((w.alloc (.cells #[.func (.func 151) #[] #[]] 80)).alloc (.cells #[.int .i64 0] 3)) 9 (.string s)
  rw [World.size_alloc, World.size_alloc] at b2
  have hB0 : Below w.heap.size w (((w.alloc (.cells #[.func (.func 151) #[] #[]] 80)).alloc (.cells #[.int .i64 0] 3)).alloc (.cells #[.string s] 9)) :=
    (((Below.refl _ w).alloc (Nat.le_refl _) _).alloc (by simp) _).alloc (by simp; omega) _
  refine wpIn_rangeFunc_ownG rfl (by omega) (gf := 113) (lb := #[.pointer (some ⟨w.heap.size + 1 + 1, 0, none⟩)]) rfl trivial (enters_of Tryz.func113 (by kernel_rfl) rfl)
    (scalars_stops (5 - 1) (by omega) (w.heap.size + 1 + 1) s hs _ (by simp) b2.cell) SameBlk.trans (sameBlk_b (by simp)) (Below.refl _ _) (fun _ => rfl)
    (FrontI w) (FrontX w) (by simpa using FrontI_own w) (fun c => by simpa using FrontX_own w c)
    ⟨(fun p hp => by cases hp), (b0.alloc _).alloc _, ⟨_, b1.alloc _⟩, ⟨_, b2⟩, hB0⟩
    (fun x => { tmps := #[.string s, .func (.func 151) #[] #[], undef, .pointer (some ⟨w.heap.size, 0, none⟩), .pointer (some ⟨w.heap.size + 1, 0, none⟩), .int .i64 (x.1 : Int), .int .i64 x.2, .string s,
      .func (.func 113) #[] #[.pointer (some ⟨w.heap.size + 1 + 1, 0, none⟩)], .int .i64 (x.1 : Int), .int .i64 x.2, undef, undef, undef, undef, undef, undef, undef, undef, undef, undef, undef, undef, undef, undef, undef, undef], defers := [] }) ?assign ?body ?done ?stop
  case assign =>
    intro l x W K hK
    gi_wp2
    exact hK
  case body =>
    rintro l pre x W ⟨hp, hb0, ⟨v, hv⟩, ⟨u, hu⟩, hB⟩ hlen
    have HP := hide hp
    have h2 : w.heap.size + 1 + 1 < W.heap.size := hu.lt
    have HF := hide (first_any x.2)
    have HT := hide (take1_any x.2)
    have Hff := hide (first_further (r := x.2))
    clear hp
    by_cases h0 : x.1 = 0
    · have h0' : ((x.1 : Int) == 0) = true := by simp [h0]
      cases hx : firstOk x.2 with
      | false =>
        rw [hx] at HF
        have HX := hide (show nameOk x.1 x.2 = false by unfold nameOk; rw [if_pos h0, hx])
        clear hx h0 HT Hff
        gi_wp2_with (refine ⟨trivial, ?_⟩; gi_at_call 162; refine (CallsIn.inRound l (callsIn_wide.2 (HF.out _))).mono ?_; rintro e w1 ⟨rfl, hb⟩; have hv1 := hv.kept (grown_below hb none) (by simp); have hc1 := hv1.cell; have hf1 := hv1.frozen)
        refine ⟨fun _ h => (by cases h), ?_⟩
        gi_wp2
        exact ⟨((others_below hb).trans (KeepsOthers.setCell _ _ _)).from _, rfl, pre, x, rfl, HP.out, HX.out, hv1.set _, (hB.trans (hb.mono hB.size)).setCell (p := ⟨w.heap.size + 1, 0, none⟩) (by simp) _⟩
      | true =>
        rw [hx] at HF
        rw [Hff.out hx, Bool.true_or] at HT
        have HX := hide (show nameOk x.1 x.2 = true by unfold nameOk; rw [if_pos h0, hx])
        clear hx h0 Hff
        gi_wp2_with first
          | (refine ⟨trivial, ?_⟩; gi_at_call 162; refine (CallsIn.inRound l (callsIn_wide.2 (HF.out _))).mono ?_; rintro e w1 ⟨rfl, hb⟩; have hc0 := (hb0.kept (grown_below hb none) (by simp)).cell)
          | (refine ⟨trivial, ?_⟩; gi_at_call 151; refine (CallsIn.inRound l (callsIn_wide.2 (HT.out _))).mono ?_; rintro e w2 ⟨rfl, hb2⟩)
        have hb := hb.trans (hb2.mono hb.size)
        refine ⟨(others_below hb).from _, hb.block _ (by omega), fun p hp => ?_, hb0.kept (grown_below hb none) (by simp), ⟨v, hv.kept (grown_below hb none) (by simp)⟩, ⟨u, hu.kept (grown_below hb none) (by simp)⟩, hB.trans (hb.mono hB.size)⟩
        rcases List.mem_append.1 hp with hp | hp
        · exact HP.out p hp
        · have : p = x := by simpa using hp
          rw [this]
          exact HX.out
    · have h0' : ((x.1 : Int) == 0) = false := by rw [beq_eq_false_iff_ne]; omega
      have hc0 := hb0.cell
      obtain ⟨b, hbx⟩ : ∃ b, (furtherOk x.2 || decide (x.2 = 58)) = b := ⟨_, rfl⟩
      rw [hbx] at HT
      have HX := hide (show nameOk x.1 x.2 = b by unfold nameOk; rw [if_neg h0, hbx])
      clear hbx h0 Hff HF
      gi_wp2_with fail
      refine ⟨trivial, ?_⟩
      cases b with
      | false =>
        gi_wp2_with (refine ⟨trivial, ?_⟩; gi_at_call 151; refine (CallsIn.inRound l (callsIn_wide.2 (HT.out _))).mono ?_; rintro e w1 ⟨rfl, hb⟩; have hv1 := hv.kept (grown_below hb none) (by simp); have hc1 := hv1.cell; have hf1 := hv1.frozen)
        exact ⟨((others_below hb).trans (KeepsOthers.setCell _ _ _)).from _, rfl, pre, x, rfl, HP.out, HX.out, hv1.set _, (hB.trans (hb.mono hB.size)).setCell (p := ⟨w.heap.size + 1, 0, none⟩) (by simp) _⟩
      | true =>
        gi_wp2_with (refine ⟨trivial, ?_⟩; gi_at_call 151; refine (CallsIn.inRound l (callsIn_wide.2 (HT.out _))).mono ?_; rintro e w1 ⟨rfl, hb⟩)
        refine ⟨(others_below hb).from _, hb.block _ (by omega), fun p hp => ?_, hb0.kept (grown_below hb none) (by simp), ⟨v, hv.kept (grown_below hb none) (by simp)⟩, ⟨u, hu.kept (grown_below hb none) (by simp)⟩, hB.trans (hb.mono hB.size)⟩
        rcases List.mem_append.1 hp with hp | hp
        · exact HP.out p hp
        · have : p = x := by simpa using hp
          rw [this]
          exact HX.out
  case done =>
    rintro D ys W hD hys ⟨hp, hb0, ⟨v, hv⟩, ⟨u, hu⟩, hB⟩ hK
    have hc := hv.cell
    have hf := hv.frozen
    have Hbad := hide (show take s.data.toList = s.size from by
      unfold take
      rw [stop_none (ok := nameOk) nameOk_neg (by rw [← hys]; exact fun p h => hp p h)]
      exact size_list s)
    clear hys hp
    gi_wp2
    have hv2 := hv.set (.int .i64 (s.size : Int))
    have hK2 := (KeepsOthers.setCell W ⟨w.heap.size + 1, 0, none⟩ (.int .i64 (s.size : Int))).same D _ hK rfl
    refine ⟨by simp, .inl ⟨_, _, rfl, run_takeDeferred hK2, ?_⟩⟩
    have hc2 := cell_kept hv2.cell (grownBy_putObj' _ D (.deferred none)) (fun r e => by cases e; exact ⟨_, hK2, rfl⟩)
    refine ⟨.int .i64 (s.size : Int), ?_, ?_⟩
    · simp [results, Tryz.results150, go_sem, hc2]
    · exact ⟨ret_eq1 (int_eq (by rw [Hbad.out])), (hB.setCell (p := ⟨w.heap.size + 1, 0, none⟩) (by simp) _).trans (belowK_b (w := w) (Nat.le_refl _) _ D _ _ (by simp at hD; omega) hK2 rfl rfl)⟩
  case stop =>
    rintro D c pre W hD ⟨rest, hsp⟩ ⟨rfl, pre0, x, rfl, hp, hx, hv, hB⟩ hK
    have hc := hv.cell
    have hf := hv.frozen
    have Hbad := hide (show take s.data.toList = x.1 from by
      unfold take
      rw [stop_at (ok := nameOk) nameOk_neg hsp (fun p h => hp p h) hx]
      rfl)
    clear hsp hp hx
    gi_wp2
    refine ⟨by simp, .inl ⟨_, _, rfl, run_takeDeferred hK, ?_⟩⟩
    have hc2 := cell_kept hc (grownBy_putObj' _ D (.deferred none)) (fun r e => by cases e; exact ⟨_, hK, rfl⟩)
    refine ⟨.int .i64 (x.1 : Int), ?_, ?_⟩
    · simp [results, Tryz.results150, go_sem, hc2]
    · exact ⟨ret_eq1 (int_eq (by rw [Hbad.out])), hB.trans (belowK_b (w := w) (Nat.le_refl _) _ D _ _ (by simp at hD; omega) hK rfl rfl)⟩
theorem take_any (s : ByteArray) (w : World) (hs : s.size ≤ 1000000000) :
    Calls Tryz.prog 127 #[.string s] w fun e w' => e = .returned (.int .i64 (take s.data.toList : Nat)) ∧ Below w.heap.size w w' := by
  have HF := hide (front_any s w hs)
  generalize take s.data.toList = n at *
  go_enter Tryz.func127, Tryz.ntmps127
  go_wp2_with (go_at_call 150; refine HF.out.mono ?_; rintro e w' ⟨rfl, hb⟩)
  go_ret
  exact ⟨rfl, by assumption⟩
end Go.Proofs.YtbnaphbmmkmaeaaGreatDoor
namespace Go.Proofs.YtbnaphbmmkmaeaaGreatDoor
open Go.RowKit Tk

theorem piecesN_lt : ∀ (n k : Nat) (l : L), l.length ≤ n → ∀ p ∈ Utf.piecesN n k l, p.1 < k + l.length
  | _, _, [], _, p, hp => by unfold Utf.piecesN at hp; cases hp
  | 0, _, c :: l, h, _, _ => absurd h (by simp)
  | n + 1, k, c :: l, h, p, hp => by
    unfold Utf.piecesN at hp
    have hl := Utf.piece_len c l
    rcases List.mem_cons.1 hp with rfl | hp
    · simp
    · have := piecesN_lt n _ _ (by rw [List.length_drop]; simp at h ⊢; omega) p hp
      rw [List.length_drop] at this
      simp at this hl ⊢
      omega
theorem pieces_lt (l : L) (p : Nat × Int) (hp : p ∈ Utf.pieces l) : p.1 < l.length := by
  have := piecesN_lt l.length 0 l (Nat.le_refl _) p hp
  omega
theorem take_le (l : L) : take l ≤ l.length := by
  unfold take stop
  cases h : (Utf.pieces l).find? fun p => !nameOk p.1 p.2 with
  | none => simp
  | some x =>
    have hm := List.mem_of_find?_eq_some h
    simp only [Option.map_some, Option.getD_some]
    exact Nat.le_of_lt (pieces_lt l x hm)

set_option maxHeartbeats 8000000 in
theorem name_any (w : World) (X : Nat) (s : ByteArray) (k : Nat) (hX : Sc w X s k) (ha : k ≤ s.size) (hs : s.size ≤ 1000000000) :
    Calls Tryz.prog 87 #[.pointer (some ⟨X, 0, none⟩)] w fun e w' => e = .returned (.string (s.extract k (k + take (s.data.toList.drop k)))) ∧ Sc w' X s (k + take (s.data.toList.drop k)) ∧ But X w w' := by
  have HP := hide (show ∀ W, Calls Tryz.prog 127 #[.string (s.extract k s.size)] W fun e w' => e = .returned (.int .i64 (take (s.data.toList.drop k) : Nat)) ∧ Below W.heap.size W w' from fun W => by
    have h := take_any (s.extract k s.size) W (by rw [ByteArray.size_extract]; omega)
    rw [extract_end, bstr_list] at h
    rw [extract_end]
    exact h)
  have hn : take (s.data.toList.drop k) ≤ s.size - k := by
    have := take_le (s.data.toList.drop k)
    rwa [List.length_drop, size_list] at this
  generalize take (s.data.toList.drop k) = n at *
  have HK := hide hX
  have HB := hide (But.refl X w)
  have hns : ¬ s.size < k := by omega
  clear hX
  go_enter Tryz.func87, Tryz.ntmps87
  go_wp2
  refine wp_region_held_drew (S := fun W => Sc W X s (k) ∧ But X w W) (by kernel_rfl) ?_ (fun hHeld => ?_)
  · (try dsimp only)
    first | exact ⟨Blk.drew HK.out, But.drew HB.out⟩ | exact ⟨Blk.go hHeld.1 hb, But.go hHeld.2 hb⟩ | exact hHeld
  change wpAnyH _ _ _ _ _ 11 #[false, false, false, false, false, false, false, false, false, false, false] _ _
  refine held_take (i := 0) (d := 4) (v := ?_) rfl rfl (by kernel_rfl) (by kernel_rfl) (by kernel_rfl) (fun _ _ _ h => h) (by kernel_rfl) hHeld ?_ ?_
  rotate_left
  · intro w hSw
    (try dsimp only at hSw)
    go_simp
    first | done | with_reducible rfl
  (try simp only [Act.put, List.setIfInBounds_toArray, List.set_cons_zero, List.set_cons_succ])
  refine held_take (i := 1) (d := 5) (v := ?_) rfl rfl (by kernel_rfl) (by kernel_rfl) (by kernel_rfl) (fun _ _ _ h => h) (by kernel_rfl) hHeld ?_ ?_
  rotate_left
  · intro w hSw
    (try dsimp only at hSw)
    go_simp
    first | done | with_reducible rfl
  (try simp only [Act.put, List.setIfInBounds_toArray, List.set_cons_zero, List.set_cons_succ])
  refine held_take (i := 2) (d := 6) (v := ?_) rfl rfl (by kernel_rfl) (by kernel_rfl) (by kernel_rfl) (fun _ _ _ h => h) (by kernel_rfl) hHeld ?_ ?_
  rotate_left
  · intro w hSw
    (try dsimp only at hSw)
    go_simp
    first | done | with_reducible rfl
  (try simp only [Act.put, List.setIfInBounds_toArray, List.set_cons_zero, List.set_cons_succ])
  refine held_take (i := 3) (d := 7) (v := ?_) rfl rfl (by kernel_rfl) (by kernel_rfl) (by kernel_rfl) (fun _ _ _ h => h) (by kernel_rfl) hHeld ?_ ?_
  rotate_left
  · intro w hSw
    (try dsimp only at hSw)
    have q0 := Sc.c0 hSw.1
    have q1 := Sc.c1 hSw.1
    go_simp
    first | done | with_reducible rfl
  (try simp only [Act.put, List.setIfInBounds_toArray, List.set_cons_zero, List.set_cons_succ])
  refine held_take (i := 4) (d := 8) (v := ?_) rfl rfl (by kernel_rfl) (by kernel_rfl) (by kernel_rfl) (fun _ _ _ h => h) (by kernel_rfl) hHeld ?_ ?_
  rotate_left
  · intro w hSw
    (try dsimp only at hSw)
    go_simp
    first | done | with_reducible rfl
  (try simp only [Act.put, List.setIfInBounds_toArray, List.set_cons_zero, List.set_cons_succ])
  refine held_take (i := 5) (d := 9) (v := ?_) rfl rfl (by kernel_rfl) (by kernel_rfl) (by kernel_rfl) (fun _ _ _ h => h) (by kernel_rfl) hHeld ?_ ?_
  rotate_left
  · intro w hSw
    (try dsimp only at hSw)
    go_simp
    first | done | with_reducible rfl
  (try simp only [Act.put, List.setIfInBounds_toArray, List.set_cons_zero, List.set_cons_succ])
  refine held_take (i := 6) (d := 10) (v := ?_) rfl rfl (by kernel_rfl) (by kernel_rfl) (by kernel_rfl) (fun _ _ _ h => h) (by kernel_rfl) hHeld ?_ ?_
  rotate_left
  · intro w hSw
    (try dsimp only at hSw)
    go_simp
    first | done | with_reducible rfl
  (try simp only [Act.put, List.setIfInBounds_toArray, List.set_cons_zero, List.set_cons_succ])
  refine held_take (i := 7) (d := 11) (v := ?_) rfl rfl (by kernel_rfl) (by kernel_rfl) (by kernel_rfl) (fun _ _ _ h => h) (by kernel_rfl) hHeld ?_ ?_
  rotate_left
  · intro w hSw
    (try dsimp only at hSw)
    have q0 := Sc.c0 hSw.1
    have q1 := Sc.c1 hSw.1
    go_simp
    first | done | with_reducible rfl
  (try simp only [Act.put, List.setIfInBounds_toArray, List.set_cons_zero, List.set_cons_succ])
  refine held_take (i := 8) (d := 12) (v := ?_) rfl rfl (by kernel_rfl) (by kernel_rfl) (by kernel_rfl) (fun _ _ _ h => h) (by kernel_rfl) hHeld ?_ ?_
  rotate_left
  · intro w hSw
    (try dsimp only at hSw)
    go_simp
    first | done | with_reducible rfl
  (try simp only [Act.put, List.setIfInBounds_toArray, List.set_cons_zero, List.set_cons_succ])
  refine held_call (i := 9) rfl (by kernel_rfl) (by kernel_rfl) (fun K hK => ?_)
  go_simp
  go_at_call 127
  refine (HP.out _).mono ?_
  rintro e w' ⟨rfl, hb⟩
  (try dsimp only)
  refine hK.out _ _ ?_ (fun hHeld' => ?_)
  · (try dsimp only)
    first | exact ⟨Blk.drew HK.out, But.drew HB.out⟩ | exact ⟨Blk.go hHeld.1 hb, But.go hHeld.2 hb⟩ | exact hHeld
  clear hK K hHeld
  have hHeld := hHeld'
  clear hHeld'
  (try simp only [Act.put, List.setIfInBounds_toArray, List.set_cons_zero, List.set_cons_succ])
  refine held_take (i := 10) (d := 3) (v := ?_) rfl rfl (by kernel_rfl) (by kernel_rfl) (by kernel_rfl) (fun _ _ _ h => h) (by kernel_rfl) hHeld ?_ ?_
  rotate_left
  · intro w hSw
    (try dsimp only at hSw)
    go_simp
    first | done | with_reducible rfl
  (try simp only [Act.put, List.setIfInBounds_toArray, List.set_cons_zero, List.set_cons_succ])
  refine wpAnyH_done (by kernel_rfl) ?_ _
  have K1 := hide hHeld.1
  have B1 := hide hHeld.2
  have q1 := Sc.c1 hHeld.1
  have f1 := Sc.f1 hHeld.1
  clear hHeld HP HK HB
  have hw0 : IntKind.i64.wrap ((k : Int) + n) = (k : Int) + n := IntWalk.i64_in _ (by omega)
  have hw1 : IntKind.i64.wrap ((k : Int) + n - n) = (k : Int) := by rw [show (k : Int) + n - n = k by omega]; exact IntWalk.i64_in _ (by omega)
  have hw2 : IntKind.i64.wrap (k : Int) = (k : Int) := IntWalk.i64_in _ (by omega)
  have h4 : (0 : Int) ≤ (k : Int) + n ∧ (k : Int) + n ≤ (s.size : Int) := by omega
  have h5 : (k : Int) ≤ (k : Int) + n := by omega
  have h6 : ((k : Int) + n).toNat = k + n := by omega
  have h7 : (0 : Int) ≤ (k : Int) := by omega
  go_wp2
  have K2 := hide (Sc.move K1.out (k + n))
  have B2 := hide (B1.out.setCell (p := ⟨X, 1, none⟩) (.inl rfl) (.int .i64 ((k + n : Nat) : Int)))
  clear q1 f1 K1 B1
  refine wp_region_held_drew (S := fun W => Sc W X s (k + n) ∧ But X w W) (by kernel_rfl) ?_ (fun hHeld => ?_)
  · (try dsimp only)
    first | exact ⟨Blk.drew K2.out, But.drew B2.out⟩ | exact ⟨Blk.go hHeld.1 hb, But.go hHeld.2 hb⟩ | exact hHeld
  change wpAnyH _ _ _ _ _ 16 #[false, false, false, false, false, false, false, false, false, false, false, false, false, false, false, false] _ _
  refine held_take (i := 0) (d := 22) (v := ?_) rfl rfl (by kernel_rfl) (by kernel_rfl) (by kernel_rfl) (fun _ _ _ h => h) (by kernel_rfl) hHeld ?_ ?_
  rotate_left
  · intro w hSw
    (try dsimp only at hSw)
    go_simp
    first | done | with_reducible rfl
  (try simp only [Act.put, List.setIfInBounds_toArray, List.set_cons_zero, List.set_cons_succ])
  refine held_take (i := 1) (d := 23) (v := ?_) rfl rfl (by kernel_rfl) (by kernel_rfl) (by kernel_rfl) (fun _ _ _ h => h) (by kernel_rfl) hHeld ?_ ?_
  rotate_left
  · intro w hSw
    (try dsimp only at hSw)
    go_simp
    first | done | with_reducible rfl
  (try simp only [Act.put, List.setIfInBounds_toArray, List.set_cons_zero, List.set_cons_succ])
  refine held_take (i := 2) (d := 24) (v := ?_) rfl rfl (by kernel_rfl) (by kernel_rfl) (by kernel_rfl) (fun _ _ _ h => h) (by kernel_rfl) hHeld ?_ ?_
  rotate_left
  · intro w hSw
    (try dsimp only at hSw)
    go_simp
    first | done | with_reducible rfl
  (try simp only [Act.put, List.setIfInBounds_toArray, List.set_cons_zero, List.set_cons_succ])
  refine held_take (i := 3) (d := 25) (v := ?_) rfl rfl (by kernel_rfl) (by kernel_rfl) (by kernel_rfl) (fun _ _ _ h => h) (by kernel_rfl) hHeld ?_ ?_
  rotate_left
  · intro w hSw
    (try dsimp only at hSw)
    have q0 := Sc.c0 hSw.1
    have q1 := Sc.c1 hSw.1
    go_simp
    first | done | with_reducible rfl
  (try simp only [Act.put, List.setIfInBounds_toArray, List.set_cons_zero, List.set_cons_succ])
  refine held_take (i := 4) (d := 26) (v := ?_) rfl rfl (by kernel_rfl) (by kernel_rfl) (by kernel_rfl) (fun _ _ _ h => h) (by kernel_rfl) hHeld ?_ ?_
  rotate_left
  · intro w hSw
    (try dsimp only at hSw)
    go_simp
    first | done | with_reducible rfl
  (try simp only [Act.put, List.setIfInBounds_toArray, List.set_cons_zero, List.set_cons_succ])
  refine held_take (i := 5) (d := 27) (v := ?_) rfl rfl (by kernel_rfl) (by kernel_rfl) (by kernel_rfl) (fun _ _ _ h => h) (by kernel_rfl) hHeld ?_ ?_
  rotate_left
  · intro w hSw
    (try dsimp only at hSw)
    go_simp
    first | done | with_reducible rfl
  (try simp only [Act.put, List.setIfInBounds_toArray, List.set_cons_zero, List.set_cons_succ])
  refine held_take (i := 6) (d := 28) (v := ?_) rfl rfl (by kernel_rfl) (by kernel_rfl) (by kernel_rfl) (fun _ _ _ h => h) (by kernel_rfl) hHeld ?_ ?_
  rotate_left
  · intro w hSw
    (try dsimp only at hSw)
    go_simp
    first | done | with_reducible rfl
  (try simp only [Act.put, List.setIfInBounds_toArray, List.set_cons_zero, List.set_cons_succ])
  refine held_take (i := 7) (d := 29) (v := ?_) rfl rfl (by kernel_rfl) (by kernel_rfl) (by kernel_rfl) (fun _ _ _ h => h) (by kernel_rfl) hHeld ?_ ?_
  rotate_left
  · intro w hSw
    (try dsimp only at hSw)
    have q0 := Sc.c0 hSw.1
    have q1 := Sc.c1 hSw.1
    go_simp
    first | done | with_reducible rfl
  (try simp only [Act.put, List.setIfInBounds_toArray, List.set_cons_zero, List.set_cons_succ])
  refine held_take (i := 8) (d := 30) (v := ?_) rfl rfl (by kernel_rfl) (by kernel_rfl) (by kernel_rfl) (fun _ _ _ h => h) (by kernel_rfl) hHeld ?_ ?_
  rotate_left
  · intro w hSw
    (try dsimp only at hSw)
    go_simp
    first | done | with_reducible rfl
  (try simp only [Act.put, List.setIfInBounds_toArray, List.set_cons_zero, List.set_cons_succ])
  refine held_take (i := 9) (d := 31) (v := ?_) rfl rfl (by kernel_rfl) (by kernel_rfl) (by kernel_rfl) (fun _ _ _ h => h) (by kernel_rfl) hHeld ?_ ?_
  rotate_left
  · intro w hSw
    (try dsimp only at hSw)
    go_simp
    first | done | with_reducible rfl
  (try simp only [Act.put, List.setIfInBounds_toArray, List.set_cons_zero, List.set_cons_succ])
  refine held_take (i := 10) (d := 32) (v := ?_) rfl rfl (by kernel_rfl) (by kernel_rfl) (by kernel_rfl) (fun _ _ _ h => h) (by kernel_rfl) hHeld ?_ ?_
  rotate_left
  · intro w hSw
    (try dsimp only at hSw)
    go_simp
    first | done | with_reducible rfl
  (try simp only [Act.put, List.setIfInBounds_toArray, List.set_cons_zero, List.set_cons_succ])
  refine held_take (i := 11) (d := 33) (v := ?_) rfl rfl (by kernel_rfl) (by kernel_rfl) (by kernel_rfl) (fun _ _ _ h => h) (by kernel_rfl) hHeld ?_ ?_
  rotate_left
  · intro w hSw
    (try dsimp only at hSw)
    go_simp
    first | done | with_reducible rfl
  (try simp only [Act.put, List.setIfInBounds_toArray, List.set_cons_zero, List.set_cons_succ])
  refine held_take (i := 12) (d := 34) (v := ?_) rfl rfl (by kernel_rfl) (by kernel_rfl) (by kernel_rfl) (fun _ _ _ h => h) (by kernel_rfl) hHeld ?_ ?_
  rotate_left
  · intro w hSw
    (try dsimp only at hSw)
    go_simp
    first | done | with_reducible rfl
  (try simp only [Act.put, List.setIfInBounds_toArray, List.set_cons_zero, List.set_cons_succ])
  refine held_take (i := 13) (d := 35) (v := ?_) rfl rfl (by kernel_rfl) (by kernel_rfl) (by kernel_rfl) (fun _ _ _ h => h) (by kernel_rfl) hHeld ?_ ?_
  rotate_left
  · intro w hSw
    (try dsimp only at hSw)
    have q0 := Sc.c0 hSw.1
    have q1 := Sc.c1 hSw.1
    go_simp
    first | done | with_reducible rfl
  (try simp only [Act.put, List.setIfInBounds_toArray, List.set_cons_zero, List.set_cons_succ])
  refine held_take (i := 14) (d := 36) (v := ?_) rfl rfl (by kernel_rfl) (by kernel_rfl) (by kernel_rfl) (fun _ _ _ h => h) (by kernel_rfl) hHeld ?_ ?_
  rotate_left
  · intro w hSw
    (try dsimp only at hSw)
    go_simp
    first | done | with_reducible rfl
  (try simp only [Act.put, List.setIfInBounds_toArray, List.set_cons_zero, List.set_cons_succ])
  refine held_take (i := 15) (d := 2) (v := ?_) rfl rfl (by kernel_rfl) (by kernel_rfl) (by kernel_rfl) (fun _ _ _ h => h) (by kernel_rfl) hHeld ?_ ?_
  rotate_left
  · intro w hSw
    (try dsimp only at hSw)
    go_simp
    first | done | with_reducible rfl
  (try simp only [Act.put, List.setIfInBounds_toArray, List.set_cons_zero, List.set_cons_succ])
  refine wpAnyH_done (by kernel_rfl) ?_ _
  go_wp2
  go_ret
  exact ⟨rfl, hHeld.1, hHeld.2⟩
end Go.Proofs.YtbnaphbmmkmaeaaGreatDoor
