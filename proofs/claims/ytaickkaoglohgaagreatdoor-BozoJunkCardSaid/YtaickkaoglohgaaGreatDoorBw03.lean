/- Characters: the program's 'Take': how many bytes a name at the front has. · Tokens: white space. · One operation of a region that draws its order, taken by itself; the operation and its slot written out. -/
import Derived.Test.YtaickkaoglohgaaGreatDoorBw00
import Derived.Test.YtaickkaoglohgaaGreatDoorBw01
import Derived.Test.YtaickkaoglohgaaGreatDoorBw02
import Derived.Deep.RegionHeld3
set_option linter.unusedSimpArgs false
set_option linter.unusedVariables false
namespace Go.Proofs.YtaickkaoglohgaaGreatDoor
section
open Go.RowKit Go.Shelf Tk

attribute [local go_sem] Oper.semAt_some

def FrontI (w : World) (pre : List (Nat × Int)) (W : World) : Prop :=
 (∀ p ∈ pre, nameOk p.1 p.2 = true) ∧ Boxed W w.heap.size 70 (.func (.func 71) #[] #[]) ∧ (∃ v, Boxed W (w.heap.size + 1) 3 v) ∧ (∃ u, Boxed W (w.heap.size + 1 + 1) 9 u) ∧ Below w.heap.size w W
def FrontX (w : World) (c : Code) (pre : List (Nat × Int)) (W : World) : Prop :=
 c = .ret ∧ ∃ pre0 x, pre = pre0 ++ [x] ∧ (∀ p ∈ pre0, nameOk p.1 p.2 = true) ∧ nameOk x.1 x.2 = false ∧ Boxed W (w.heap.size + 1) 3 (.int .i64 (x.1 : Int)) ∧ Below w.heap.size w W
theorem FrontI_own (w : World) : OwnFrom (w.heap.size + 1 + 1 + 1) (FrontI w) := by
 rintro s X Y row ⟨h1, hb, ⟨v, hv⟩, ⟨u, hu⟩, h3⟩ hg hrow;exact ⟨h1, hb.kept hg (box_row hrow hb), ⟨v, hv.kept hg (box_row hrow hv)⟩, ⟨u, hu.kept hg (box_row hrow hu)⟩, h3.grown hg h3.size (fun k e => by have := (hrow k e).1; omega)⟩
theorem FrontX_own (w : World) (c : Code) : OwnFrom (w.heap.size + 1 + 1 + 1) (FrontX w c) := by
 rintro s X Y row ⟨h1, p, x, h2, h4, h5, hv, h3⟩ hg hrow;exact ⟨h1, p, x, h2, h4, h5, hv.kept hg (box_row hrow hv), h3.grown hg h3.size (fun k e => by have := (hrow k e).1; omega)⟩
theorem first_further {r : Int} (h : firstOk r = true) : furtherOk r = true := by unfold furtherOk; rw [h]; rfl

set_option maxRecDepth 100000 in
set_option maxHeartbeats 4000000 in
theorem front_any (s : ByteArray) (w : World) (hs : s.size ≤ 1000000000) :
  Calls Tryz.prog 70 #[.string s, .func (.func 71) #[] #[]] w fun e w' => e = .returned (.int .i64 (take s.data.toList : Nat)) ∧ Below w.heap.size w w' := by
 refine (callsIn_wide (n := 5)).1 ?_;refine callsIn_of_wp_marks Tryz.func70 rfl trivial ?_ rfl;simp only [Tryz.ntmps70, List.size_toArray, List.length_cons, List.length_nil, Nat.reduceAdd, Nat.reduceSub, Array.replicate_succ, Array.replicate_zero, List.push_toArray, List.append_toArray, List.nil_append, List.cons_append]
 gi_wp2_with (refine ⟨trivial, ?_⟩; gi_at_call 21; refine (callsIn_wide.2 (scalars_mk _ _)).mono ?_; rintro e w' ⟨rfl, rfl⟩)
 have b0 := Boxed.new w 70 (.func (.func 71) #[] #[]);have b1 := Boxed.new (w.alloc (.cells #[.func (.func 71) #[] #[]] 70)) 3 (.int .i64 0);rw [World.size_alloc] at b1;have b2 := Boxed.new ((w.alloc (.cells #[.func (.func 71) #[] #[]] 70)).alloc (.cells #[.int .i64 0] 3)) 9 (.string s);rw [World.size_alloc, World.size_alloc] at b2
 have hB0 : Below w.heap.size w (((w.alloc (.cells #[.func (.func 71) #[] #[]] 70)).alloc (.cells #[.int .i64 0] 3)).alloc (.cells #[.string s] 9)) :=
  (((Below.refl _ w).alloc (Nat.le_refl _) _).alloc (by simp) _).alloc (by simp; omega) _
 refine wpIn_rangeFunc_ownG rfl (by omega) (gf := 51) (lb := #[.pointer (some ⟨w.heap.size + 1 + 1, 0, none⟩)]) rfl trivial (enters_of Tryz.func51 (by kernel_rfl) rfl)
  (scalars_stops (5 - 1) (by omega) (w.heap.size + 1 + 1) s hs _ (by simp) b2.cell) SameBlk.trans (sameBlk_b (by simp)) (Below.refl _ _) (fun _ => rfl)
  (FrontI w) (FrontX w) (by simpa using FrontI_own w) (fun c => by simpa using FrontX_own w c)
  ⟨(fun p hp => by cases hp), (b0.alloc _).alloc _, ⟨_, b1.alloc _⟩, ⟨_, b2⟩, hB0⟩
  (fun x => { tmps := #[.string s, .func (.func 71) #[] #[], undef, .pointer (some ⟨w.heap.size, 0, none⟩), .pointer (some ⟨w.heap.size + 1, 0, none⟩), .int .i64 (x.1 : Int), .int .i64 x.2, .string s,
   .func (.func 51) #[] #[.pointer (some ⟨w.heap.size + 1 + 1, 0, none⟩)], .int .i64 (x.1 : Int), .int .i64 x.2, undef, undef, undef, undef, undef, undef, undef, undef, undef, undef, undef, undef, undef, undef, undef, undef], defers := [] }) ?assign ?body ?done ?stop
 case assign =>
  intro l x W K hK;gi_wp2;exact hK
 case body =>
  rintro l pre x W ⟨hp, hb0, ⟨v, hv⟩, ⟨u, hu⟩, hB⟩ hlen;have HP := hide hp;have h2 : w.heap.size + 1 + 1 < W.heap.size := hu.lt;have HF := hide (first_any x.2);have HT := hide (take1_any x.2);have Hff := hide (first_further (r := x.2));clear hp
  by_cases h0 : x.1 = 0
  ·have h0' : ((x.1 : Int) == 0) = true := by simp [h0]
   cases hx : firstOk x.2 with
   | false =>
    rw [hx] at HF;have HX := hide (show nameOk x.1 x.2 = false by unfold nameOk; rw [if_pos h0, hx]);clear hx h0 HT Hff
    gi_wp2_with (refine ⟨trivial, ?_⟩; gi_at_call 102; refine (CallsIn.inRound l (callsIn_wide.2 (HF.out _))).mono ?_; rintro e w1 ⟨rfl, hb⟩; have hv1 := hv.kept (grown_below hb none) (by simp); have hc1 := hv1.cell; have hf1 := hv1.frozen)
    refine ⟨fun _ h => (by cases h), ?_⟩;gi_wp2;exact ⟨((others_below hb).trans (KeepsOthers.setCell _ _ _)).from _, rfl, pre, x, rfl, HP.out, HX.out, hv1.set _, (hB.trans (hb.mono hB.size)).setCell (p := ⟨w.heap.size + 1, 0, none⟩) (by simp) _⟩
   | true =>
    rw [hx] at HF;rw [Hff.out hx, Bool.true_or] at HT;have HX := hide (show nameOk x.1 x.2 = true by unfold nameOk; rw [if_pos h0, hx]);clear hx h0 Hff
    gi_wp2_with first
     | (refine ⟨trivial, ?_⟩; gi_at_call 102; refine (CallsIn.inRound l (callsIn_wide.2 (HF.out _))).mono ?_; rintro e w1 ⟨rfl, hb⟩; have hc0 := (hb0.kept (grown_below hb none) (by simp)).cell)
     | (refine ⟨trivial, ?_⟩; gi_at_call 71; refine (CallsIn.inRound l (callsIn_wide.2 (HT.out _))).mono ?_; rintro e w2 ⟨rfl, hb2⟩)
    have hb := hb.trans (hb2.mono hb.size);refine ⟨(others_below hb).from _, hb.block _ (by omega), fun p hp => ?_, hb0.kept (grown_below hb none) (by simp), ⟨v, hv.kept (grown_below hb none) (by simp)⟩, ⟨u, hu.kept (grown_below hb none) (by simp)⟩, hB.trans (hb.mono hB.size)⟩
    rcases List.mem_append.1 hp with hp | hp
    ·exact HP.out p hp
    have : p = x := by simpa using hp
    rw [this];exact HX.out
  have h0' : ((x.1 : Int) == 0) = false := by rw [beq_eq_false_iff_ne]; omega
  have hc0 := hb0.cell;obtain ⟨b, hbx⟩ : ∃ b, (furtherOk x.2 || decide (x.2 = 58)) = b := ⟨_, rfl⟩;rw [hbx] at HT;have HX := hide (show nameOk x.1 x.2 = b by unfold nameOk; rw [if_neg h0, hbx]);clear hbx h0 Hff HF
  gi_wp2_with fail
  refine ⟨trivial, ?_⟩
  cases b with
  | false =>
   gi_wp2_with (refine ⟨trivial, ?_⟩; gi_at_call 71; refine (CallsIn.inRound l (callsIn_wide.2 (HT.out _))).mono ?_; rintro e w1 ⟨rfl, hb⟩; have hv1 := hv.kept (grown_below hb none) (by simp); have hc1 := hv1.cell; have hf1 := hv1.frozen)
   exact ⟨((others_below hb).trans (KeepsOthers.setCell _ _ _)).from _, rfl, pre, x, rfl, HP.out, HX.out, hv1.set _, (hB.trans (hb.mono hB.size)).setCell (p := ⟨w.heap.size + 1, 0, none⟩) (by simp) _⟩
  | true =>
   gi_wp2_with (refine ⟨trivial, ?_⟩; gi_at_call 71; refine (CallsIn.inRound l (callsIn_wide.2 (HT.out _))).mono ?_; rintro e w1 ⟨rfl, hb⟩)
   refine ⟨(others_below hb).from _, hb.block _ (by omega), fun p hp => ?_, hb0.kept (grown_below hb none) (by simp), ⟨v, hv.kept (grown_below hb none) (by simp)⟩, ⟨u, hu.kept (grown_below hb none) (by simp)⟩, hB.trans (hb.mono hB.size)⟩
   rcases List.mem_append.1 hp with hp | hp
   ·exact HP.out p hp
   have : p = x := by simpa using hp
   rw [this];exact HX.out
 case done =>
  rintro D ys W hD hys ⟨hp, hb0, ⟨v, hv⟩, ⟨u, hu⟩, hB⟩ hK;have hc := hv.cell;have hf := hv.frozen
  have Hbad := hide (show take s.data.toList = s.size from by
   unfold take;rw [stop_none (ok := nameOk) nameOk_neg (by rw [← hys]; exact fun p h => hp p h)];exact size_list s)
  clear hys hp;gi_wp2;have hv2 := hv.set (.int .i64 (s.size : Int));have hK2 := (KeepsOthers.setCell W ⟨w.heap.size + 1, 0, none⟩ (.int .i64 (s.size : Int))).same D _ hK rfl;refine ⟨by simp, .inl ⟨_, _, rfl, run_takeDeferred hK2, ?_⟩⟩;have hc2 := cell_kept hv2.cell (grownBy_putObj' _ D (.deferred none)) (fun r e => by cases e; exact ⟨_, hK2, rfl⟩);refine ⟨.int .i64 (s.size : Int), ?_, ?_⟩
  ·simp [results, Tryz.results70, go_sem, hc2]
  exact ⟨ret_eq1 (int_eq (by rw [Hbad.out])), (hB.setCell (p := ⟨w.heap.size + 1, 0, none⟩) (by simp) _).trans (belowK_b (w := w) (Nat.le_refl _) _ D _ _ (by simp at hD; omega) hK2 rfl rfl)⟩
 case stop =>
  rintro D c pre W hD ⟨rest, hsp⟩ ⟨rfl, pre0, x, rfl, hp, hx, hv, hB⟩ hK;have hc := hv.cell;have hf := hv.frozen
  have Hbad := hide (show take s.data.toList = x.1 from by
   unfold take;rw [stop_at (ok := nameOk) nameOk_neg hsp (fun p h => hp p h) hx]
   rfl)
  clear hsp hp hx;gi_wp2;refine ⟨by simp, .inl ⟨_, _, rfl, run_takeDeferred hK, ?_⟩⟩;have hc2 := cell_kept hc (grownBy_putObj' _ D (.deferred none)) (fun r e => by cases e; exact ⟨_, hK, rfl⟩);refine ⟨.int .i64 (x.1 : Int), ?_, ?_⟩
  ·simp [results, Tryz.results70, go_sem, hc2]
  exact ⟨ret_eq1 (int_eq (by rw [Hbad.out])), hB.trans (belowK_b (w := w) (Nat.le_refl _) _ D _ _ (by simp at hD; omega) hK rfl rfl)⟩
theorem take_any (s : ByteArray) (w : World) (hs : s.size ≤ 1000000000) :
  Calls Tryz.prog 37 #[.string s] w fun e w' => e = .returned (.int .i64 (take s.data.toList : Nat)) ∧ Below w.heap.size w w' := by
 have HF := hide (front_any s w hs);generalize take s.data.toList = n at *
 go_enter Tryz.func37, Tryz.ntmps37
 go_wp2_with (go_at_call 70; refine HF.out.mono ?_; rintro e w' ⟨rfl, hb⟩)
 go_ret;exact ⟨rfl, by assumption⟩
end
section
open Go.RowKit Tk

theorem sp_bits : ∀ n : Fin 64, (bits BinOp.and IntKind.u64 (4294977024 / 2 ^ n.val) 1 == 1) = sp (UInt8.ofNat n.val) := by decide +kernel
theorem sp_far {c : UInt8} (h : ¬ c.toNat < 64) : sp c = false := by
 unfold sp
 have e : ∀ k : UInt8, k.toNat < 64 → (c == k) = false := fun k hk => by
  rw [beq_eq_false_iff_ne];intro e;rw [e] at h;exact h hk
 rw [e 32 (by decide), e 9 (by decide), e 10 (by decide), e 13 (by decide)];rfl
theorem space_any (c : UInt8) (w : World) : Calls Tryz.prog 90 #[.int .u8 (c.toNat : Nat)] w fun e w' => e = .returned (.bool (sp c)) ∧ w' = w := by
 by_cases h : c.toNat < 64
 ·have hb := sp_bits ⟨c.toNat, h⟩;rw [show UInt8.ofNat c.toNat = c from UInt8.ofNat_toNat] at hb;dsimp only at hb;have HB := hide hb;clear hb
  go_enter Tryz.func90, Tryz.ntmps90
  go_wp2;go_ret;exact ⟨ret_eq1 (bool_eq HB.out), rfl⟩
 have hs := hide (sp_far h)
 go_enter Tryz.func90, Tryz.ntmps90
 go_wp2;go_ret;exact ⟨ret_eq1 (bool_eq hs.out.symm), rfl⟩
end
section
open Go

section
variable {P : Program} {l : List Oper} {Q : Exit → Act → World → Prop} {md : Region.Mode} {S : World → Prop}
theorem put_some {a : Act} {d : Option Tmp} {k : Tmp} {v : Value} (hd : d = some k) : a.put d v = { tmps := a.tmps.setIfInBounds k v, defers := a.defers } := by subst hd; rfl
theorem held_take {i d : Nat} {oi : Oper} {v : Value} {fuel : Nat} {listed : Array Bool} {a : Act} {w : World} (hi : l[i]? = some oi) (hd : oi.dst = some d)
  (hs : Region.noSelect l.toArray = true) (hf : Region.free md l.toArray listed i = true) (hr : (Region.ready md l.toArray listed).contains i = true)
  (hQ : ∀ c a w, Q (.panic c) (a.put oi.dst v) w → Q (.panic c) a w) (hw : Region.wanted oi (yielded l.toArray a.tmps) = true) (hS : S w) (hy : ∀ w, S w → (execOp a.eval oi).run P w = .ok (.value v) w)
  (h : wpAnyH P md l.toArray Q S fuel (listed.setIfInBounds i true) { tmps := a.tmps.setIfInBounds d v, defers := a.defers } w) : wpAnyH P md l.toArray Q S (fuel + 1) listed a w :=
 wpAnyH_take (by simpa using hi) hs hf hr hQ (Or.inl ⟨hw, hy⟩) hS (by rw [put_some hd]; exact h)
theorem held_skip {i d : Nat} {oi : Oper} {fuel : Nat} {listed : Array Bool} {a : Act} {w : World} (hi : l[i]? = some oi) (hd : oi.dst = some d)
  (hs : Region.noSelect l.toArray = true) (hf : Region.free md l.toArray listed i = true) (hr : (Region.ready md l.toArray listed).contains i = true)
  (hQ : ∀ c a w, Q (.panic c) (a.put oi.dst undef) w → Q (.panic c) a w) (hw : Region.wanted oi (yielded l.toArray a.tmps) = false) (hS : S w)
  (h : wpAnyH P md l.toArray Q S fuel (listed.setIfInBounds i true) { tmps := a.tmps.setIfInBounds d undef, defers := a.defers } w) : wpAnyH P md l.toArray Q S (fuel + 1) listed a w :=
 wpAnyH_take (by simpa using hi) hs hf hr hQ (Or.inr ⟨hw, rfl⟩) hS (by rw [put_some hd]; exact h)
theorem held_call {i : Nat} {oi : Oper} {fuel : Nat} {listed : Array Bool} {a : Act} {w : World} (hi : l[i]? = some oi) (hr : Region.ready md l.toArray listed = [i]) (hw : Region.wanted oi (yielded l.toArray a.tmps) = true)
  (h : ∀ K' : Act → World → Prop, Shut (∀ a w, S w → (S w → wpAnyH P md l.toArray Q S fuel (listed.setIfInBounds i true) a w) → K' a w) → Oper.wp P oi a w K' Q) : wpAnyH P md l.toArray Q S (fuel + 1) listed a w :=
 wpAnyH_ready hr (by simp) (AllReadyH.cons (o := oi) (by simpa using hi) (fun K hK => by rw [if_pos hw]; exact h K hK) AllReadyH.nil)
def nx : List Bool → Nat
 | true :: r => nx r + 1
 | _ => 0
theorem nxT {d : Nat} {oi : Oper} {v : Value} {fuel : Nat} {ls : List Bool} {tm : List Value} {df : List Deferred} {w : World} (hi : l[nx ls]? = some oi) (hd : oi.dst = some d) (hS : S w)
  (hy : ∀ w, S w → (execOp (Act.eval ⟨tm.toArray, df⟩) oi).run P w = .ok (.value v) w) (h : wpAnyH P md l.toArray Q S fuel (ls.set (nx ls) true).toArray { tmps := (tm.set d v).toArray, defers := df } w)
  (hs : Region.noSelect l.toArray = true := by kernel_rfl) (hf : Region.free md l.toArray ls.toArray (nx ls) = true := by kernel_rfl) (hr : (Region.ready md l.toArray ls.toArray).contains (nx ls) = true := by kernel_rfl)
  (hw : Region.wanted oi (yielded l.toArray tm.toArray) = true := by kernel_rfl) (hQ : ∀ c a w, Q (.panic c) (a.put oi.dst v) w → Q (.panic c) a w := by exact fun _ _ _ h => h) : wpAnyH P md l.toArray Q S (fuel + 1) ls.toArray ⟨tm.toArray, df⟩ w :=
 held_take hi hd hs hf hr hQ hw hS hy (by simpa using h)
theorem nxK {d : Nat} {oi : Oper} {fuel : Nat} {ls : List Bool} {tm : List Value} {df : List Deferred} {w : World} (hi : l[nx ls]? = some oi) (hd : oi.dst = some d) (hS : S w)
  (h : wpAnyH P md l.toArray Q S fuel (ls.set (nx ls) true).toArray { tmps := (tm.set d undef).toArray, defers := df } w)
  (hs : Region.noSelect l.toArray = true := by kernel_rfl) (hf : Region.free md l.toArray ls.toArray (nx ls) = true := by kernel_rfl) (hr : (Region.ready md l.toArray ls.toArray).contains (nx ls) = true := by kernel_rfl)
  (hw : Region.wanted oi (yielded l.toArray tm.toArray) = false := by kernel_rfl) (hQ : ∀ c a w, Q (.panic c) (a.put oi.dst undef) w → Q (.panic c) a w := by exact fun _ _ _ h => h) : wpAnyH P md l.toArray Q S (fuel + 1) ls.toArray ⟨tm.toArray, df⟩ w :=
 held_skip hi hd hs hf hr hQ hw hS (by simpa using h)
end
end
end Go.Proofs.YtaickkaoglohgaaGreatDoor
