/- The stable sort by classes, plain: what a swap, a rotation, a merge leave; no program in sight. · NFC: a row of numbers within a block; slices.swapRangeCmpFunc, rotateCmpFunc. · NFC: slices.insertionSortCmpFunc by classes. -/
import Derived.Test.YtlcfakmbcfdgbaaGreatWt00
import Derived.Test.YtlcfakmbcfdgbaaGreatWt05
import Derived.BigRegion
import Derived.BigQuiet
set_option linter.unusedSimpArgs false
set_option linter.unusedVariables false
namespace Go.Proofs.YtlcfakmbcfdgbaaGreat
namespace Nf
/-- The same of each class, in the same order. -/
def Same (a b : List Int) : Prop := ∀ c, b.filter (fun x => decide (cls x = c)) = a.filter (fun x => decide (cls x = c))
def Up (l : List Int) : Prop := l.Pairwise fun x y => cls x ≤ cls y
theorem Same.refl (a : List Int) : Same a a := fun _ => rfl
theorem Same.trans {a b c : List Int} (h : Same a b) (k : Same b c) : Same a c := fun n => (k n).trans (h n)
theorem Same.symm {a b : List Int} (h : Same a b) : Same b a := fun n => (h n).symm
theorem Same.app {a b c d : List Int} (h : Same a b) (k : Same c d) : Same (a ++ c) (b ++ d) := fun n => by
  rw [List.filter_append, List.filter_append, h n, k n]
theorem Same.mem {a b : List Int} (h : Same a b) (x : Int) : x ∈ b ↔ x ∈ a := by
  have e := h (cls x)
  have f : ∀ l : List Int, x ∈ l.filter (fun y => decide (cls y = cls x)) ↔ x ∈ l := fun l => by simp
  rw [← f b, e, f a]
theorem same_rot {u v : List Int} (h : ∀ x ∈ u, ∀ y ∈ v, cls x ≠ cls y) : Same (u ++ v) (v ++ u) := fun n => by
  rw [List.filter_append, List.filter_append]
  by_cases hu : u.filter (fun x => decide (cls x = n)) = []
  · rw [hu, List.nil_append, List.append_nil]
  · have hv : v.filter (fun x => decide (cls x = n)) = [] := by
      obtain ⟨x, hx⟩ := List.exists_mem_of_ne_nil _ hu
      rw [List.mem_filter] at hx
      rw [List.filter_eq_nil_iff]
      intro y hy hc
      exact h x hx.1 y hy ((of_decide_eq_true hx.2).trans (of_decide_eq_true hc).symm)
    rw [hv, List.nil_append, List.append_nil]
/-- There is one. -/
theorem up_uniq : ∀ {a b : List Int}, Up a → Up b → Same a b → b = a
  | [], b, _, _, h => by
    cases b with
    | nil => rfl
    | cons y b => exact absurd ((h.mem y).1 (List.mem_cons_self ..)) (by simp)
  | x :: a, b, ha, hb, h => by
    cases b with
    | nil => exact absurd ((h.mem x).2 (List.mem_cons_self ..)) (by simp)
    | cons y b =>
      unfold Up at ha hb
      rw [List.pairwise_cons] at ha hb
      have h1 : cls x ≤ cls y := by
        rcases List.mem_cons.1 ((h.mem y).1 (List.mem_cons_self ..)) with e | hm
        · rw [e]; exact Int.le_refl _
        · exact ha.1 _ hm
      have h2 : cls y ≤ cls x := by
        rcases List.mem_cons.1 ((h.mem x).2 (List.mem_cons_self ..)) with e | hm
        · rw [e]; exact Int.le_refl _
        · exact hb.1 _ hm
      have he : cls x = cls y := Int.le_antisymm h1 h2
      have e := h (cls x)
      rw [List.filter_cons, List.filter_cons, if_pos (by simp [he]), if_pos (by simp)] at e
      injection e with exy _
      subst exy
      have : Same a b := fun n => by
        have e := h n
        rw [List.filter_cons, List.filter_cons] at e
        split at e
        · injection e
        · exact e
      rw [up_uniq ha.2 hb.2 this]
theorem ins_same (x : Int) : ∀ l : List Int, Up l → Same (l ++ [x]) (ins x l)
  | [], _ => Same.refl _
  | y :: l, h => by
    rw [ins]
    unfold Up at h
    rw [List.pairwise_cons] at h
    split
    · rename_i hc
      have : Same ((y :: l) ++ [x]) ([x] ++ (y :: l)) := same_rot (by
        intro a ha b hb
        rw [List.mem_singleton] at hb
        subst hb
        rcases List.mem_cons.1 ha with rfl | ha
        · omega
        · have := h.1 _ ha; omega)
      exact this
    · exact (Same.refl [y]).app (ins_same x l h.2)
theorem ins_up (x : Int) : ∀ l : List Int, Up l → Up (ins x l)
  | [], _ => by unfold ins Up; simp
  | y :: l, h => by
    rw [ins]
    have h0 := h
    unfold Up at h
    rw [List.pairwise_cons] at h
    split
    · rename_i hc
      unfold Up
      rw [List.pairwise_cons]
      refine ⟨fun a ha => ?_, h0⟩
      rcases List.mem_cons.1 ha with rfl | ha
      · omega
      · have := h.1 _ ha; omega
    · rename_i hc
      unfold Up
      rw [List.pairwise_cons]
      refine ⟨fun a ha => ?_, ins_up x l h.2⟩
      have := ((ins_same x l h.2).mem a).1 ha
      rcases List.mem_append.1 this with hm | hm
      · exact h.1 _ hm
      · rw [List.mem_singleton] at hm; subst hm; omega
theorem sortR_go : ∀ (l acc : List Int), Up acc → Up (l.foldl (fun acc x => ins x acc) acc) ∧ Same (acc ++ l) (l.foldl (fun acc x => ins x acc) acc)
  | [], acc, h => ⟨h, by rw [List.append_nil]; exact Same.refl _⟩
  | x :: l, acc, h => by
    obtain ⟨h1, h2⟩ := sortR_go l (ins x acc) (ins_up x acc h)
    refine ⟨h1, ?_⟩
    have : Same ((acc ++ [x]) ++ l) (ins x acc ++ l) := (ins_same x acc h).app (Same.refl l)
    rw [List.append_assoc] at this
    exact this.trans h2
theorem sortR_up (l : List Int) : Up (sortR l) := (sortR_go l [] (by unfold Up; exact .nil)).1
theorem sortR_same (l : List Int) : Same l (sortR l) := (sortR_go l [] (by unfold Up; exact .nil)).2
/-- What is rising and the same is the sort. -/
theorem sortR_is {l m : List Int} (h : Up m) (k : Same l m) : m = sortR l := up_uniq (sortR_up l) h ((sortR_same l).symm.trans k)
theorem Same.length {a b : List Int} (h : Same a b) : b.length = a.length := by
  have e : sortR b = sortR a := up_uniq (sortR_up a) (sortR_up b) ((sortR_same a).symm.trans (h.trans (sortR_same b)))
  have ins_len : ∀ (x : Int) (l : List Int), (ins x l).length = l.length + 1 := fun x l => by
    induction l with
    | nil => rfl
    | cons y l ih => rw [ins]; split <;> simp [ih]
  have go : ∀ (l acc : List Int), (l.foldl (fun acc x => ins x acc) acc).length = acc.length + l.length := fun l => by
    induction l with
    | nil => intro acc; rfl
    | cons x l ih => intro acc; rw [List.foldl_cons, ih, ins_len, List.length_cons]; omega
  have := congrArg List.length e
  unfold sortR at this
  rw [go, go] at this
  simpa using this
theorem Up.app {a b : List Int} (ha : Up a) (hb : Up b) (h : ∀ x ∈ a, ∀ y ∈ b, cls x ≤ cls y) : Up (a ++ b) := List.pairwise_append.2 ⟨ha, hb, h⟩
theorem Up.left {a b : List Int} (h : Up (a ++ b)) : Up a := (List.pairwise_append.1 h).1
theorem Up.right {a b : List Int} (h : Up (a ++ b)) : Up b := (List.pairwise_append.1 h).2.1
theorem Up.cross {a b : List Int} (h : Up (a ++ b)) {x y : Int} (hx : x ∈ a) (hy : y ∈ b) : cls x ≤ cls y := (List.pairwise_append.1 h).2.2 x hx y hy
/-- Rising, told by places. -/
theorem Up.at_ {l : List Int} (h : Up l) {i j : Nat} {x y : Int} (hi : l[i]? = some x) (hj : l[j]? = some y) (hij : i ≤ j) : cls x ≤ cls y := by
  obtain ⟨i1, e1⟩ := List.getElem?_eq_some_iff.1 hi
  obtain ⟨j1, e2⟩ := List.getElem?_eq_some_iff.1 hj
  rcases Nat.lt_or_eq_of_le hij with hlt | rfl
  · have := List.pairwise_iff_getElem.1 h i j i1 j1 hlt
    rwa [e1, e2] at this
  · rw [← e1, ← e2]; exact Int.le_refl _
/-- A swap of two places. -/
theorem swap_at (P Q R : List Int) (x y : Int) {i j : Nat} (hi : i = P.length) (hj : j = P.length + 1 + Q.length) : ((P ++ x :: (Q ++ y :: R)).set i y).set j x = P ++ y :: (Q ++ x :: R) := by
  subst hi; subst hj
  rw [List.set_append_right _ _ (Nat.le_refl _), Nat.sub_self, List.set_cons_zero, List.set_append_right _ _ (by omega), show P.length + 1 + Q.length - P.length = Q.length + 1 by omega, List.set_cons_succ, List.set_append_right _ _ (Nat.le_refl _), Nat.sub_self, List.set_cons_zero]
end Nf
end Go.Proofs.YtlcfakmbcfdgbaaGreat
namespace Go.Proofs.YtlcfakmbcfdgbaaGreat
open Go.RowKit Go.WideShapes

/-- Numbers within a block, from a cell on. -/
structure SRow (w : World) (g off : Nat) (pre post : List Value) (l : List Int) : Prop where
  blk : Blk w g 3 (pre ++ intVs l ++ post).toArray
  off_ : pre.length = off
section
variable {w w' : World} {g off : Nat} {pre post : List Value} {l : List Int}
theorem SRow.at_ (h : SRow w g off pre post l) {j : Nat} {x : Int} (hj : l[j]? = some x) : w.cell? ⟨g, off + j, none⟩ = some (.int .i64 x) := by
  obtain ⟨h1, _⟩ := List.getElem?_eq_some_iff.1 hj
  rw [h.blk.cell, List.getElem?_toArray, ← h.off_, List.getElem?_append_left (by rw [List.length_append, intVs_len]; omega), List.getElem?_append_right (by omega), Nat.add_sub_cancel_left]
  unfold intVs
  rw [List.getElem?_map, hj]; rfl
theorem SRow.frozen (h : SRow w g off pre post l) (j : Nat) : w.frozen? ⟨g, j, none⟩ = false := h.blk.frozen j
theorem SRow.drew (h : SRow w g off pre post l) : SRow w.drew g off pre post l := ⟨h.blk.drew, h.off_⟩
theorem SRow.set_ (h : SRow w g off pre post l) {j : Nat} (hj : j < l.length) (x : Int) : SRow (w.setCell ⟨g, off + j, none⟩ (.int .i64 x)) g off pre post (l.set j x) := by
  refine ⟨?_, h.off_⟩
  have := h.blk.set_ (off + j) (.int .i64 x)
  have e : (pre ++ intVs l ++ post).toArray.setIfInBounds (off + j) (Value.int .i64 x) = (pre ++ intVs (l.set j x) ++ post).toArray := by
    apply Array.ext'
    rw [Array.toList_setIfInBounds]
    show (pre ++ intVs l ++ post).set (off + j) _ = pre ++ intVs (l.set j x) ++ post
    rw [← h.off_, List.append_assoc, List.append_assoc, List.set_append_right _ _ (by omega), Nat.add_sub_cancel_left, List.set_append_left _ _ (by rw [intVs_len]; exact hj)]
    unfold intVs
    rw [List.map_set]
  rwa [e] at this
end
theorem swapped {w : World} {g off : Nat} {pre post : List Value} {P Q R : List Int} {x y : Int} {i j : Nat} (h : SRow w g off pre post (P ++ x :: (Q ++ y :: R))) (hi : i = P.length) (hj : j = P.length + 1 + Q.length) :
    SRow ((w.setCell ⟨g, off + i, none⟩ (.int .i64 y)).setCell ⟨g, off + j, none⟩ (.int .i64 x)) g off pre post (P ++ y :: (Q ++ x :: R)) := by
  have h1 := h.set_ (j := i) (by simp; omega) y
  have h2 := h1.set_ (j := j) (by rw [List.length_set]; simp; omega) x
  rwa [Nf.swap_at P Q R x y hi hj] at h2
/-- The same, the later place first. -/
theorem swapped2 {w : World} {g off : Nat} {pre post : List Value} {P Q R : List Int} {x y : Int} {i j : Nat} (h : SRow w g off pre post (P ++ x :: (Q ++ y :: R))) (hi : i = P.length) (hj : j = P.length + 1 + Q.length) :
    SRow ((w.setCell ⟨g, off + j, none⟩ (.int .i64 x)).setCell ⟨g, off + i, none⟩ (.int .i64 y)) g off pre post (P ++ y :: (Q ++ x :: R)) := by
  have h1 := h.set_ (j := j) (by simp; omega) x
  have h2 := h1.set_ (j := i) (by rw [List.length_set]; simp; omega) y
  rw [List.set_comm _ _ (by omega), Nf.swap_at P Q R x y hi hj] at h2
  exact h2
theorem take_drop_next {l : List Int} {i : Nat} {x : Int} (h : l[i]? = some x) : l.drop i = x :: l.drop (i + 1) := by
  obtain ⟨h1, h2⟩ := List.getElem?_eq_some_iff.1 h
  rw [List.drop_eq_getElem_cons h1, h2]
theorem take_next {l : List Int} {i : Nat} {x : Int} (h : l[i]? = some x) : l.take (i + 1) = l.take i ++ [x] := by
  rw [List.take_add_one, h]; rfl
/-- A part of the way through a swap of ranges. -/
def swapAt (A U M V B : List Int) (i : Nat) : List Int := A ++ (V.take i ++ (U.drop i ++ (M ++ (U.take i ++ (V.drop i ++ B)))))
theorem swapAt_cut (A U M V B : List Int) {i : Nat} {x y : Int} (hx : U[i]? = some x) (hy : V[i]? = some y) :
    swapAt A U M V B i = (A ++ V.take i) ++ x :: ((U.drop (i + 1) ++ (M ++ U.take i)) ++ y :: (V.drop (i + 1) ++ B)) ∧
    swapAt A U M V B (i + 1) = (A ++ V.take i) ++ y :: ((U.drop (i + 1) ++ (M ++ U.take i)) ++ x :: (V.drop (i + 1) ++ B)) := by
  unfold swapAt
  rw [take_drop_next hx, take_drop_next hy, take_next hx, take_next hy]
  constructor <;> simp [List.append_assoc]
set_option maxRecDepth 100000 in
set_option maxHeartbeats 8000000 in
theorem swapRange_any (A U M V B : List Int) (pre post : List Value) (g off cap n a b k : Nat) (fv : Value) (w : World) (h : SRow w g off pre post (A ++ (U ++ (M ++ (V ++ B))))) (hn : n = A.length + U.length + M.length + V.length + B.length)
    (ha : a = A.length) (hb : b = A.length + U.length + M.length) (hk : k = U.length) (hk2 : k = V.length) (hs : n ≤ 1000000000) :
    Calls Tryz.prog 142 #[.slice (some ⟨g, off, none⟩) n cap, .int .i64 a, .int .i64 b, .int .i64 k, fv] w fun e w' => e = .returned (.tuple #[]) ∧ SRow w' g off pre post (A ++ (V ++ (M ++ (U ++ B)))) ∧ But g w w' := by
  have HR := hide h
  have Hn := hide hn
  have Ha := hide ha
  have Hb := hide hb
  have Hk := hide hk
  have Hk2 := hide hk2
  have hbk : b + k ≤ n := by omega
  have hak : a + k ≤ b := by omega
  clear h hn ha hb hk hk2
  go_enter Tryz.func142, Tryz.ntmps142
  go_wp2
  go_loopg [10] k (fun gk vk wr => ∃ i : Nat, gk = k - i ∧ i ≤ k ∧ vk = .int .i64 (i : Int) ∧ SRow wr g off pre post (swapAt A U M V B i) ∧ But g w wr)
  case atStart => exact ⟨0, rfl, by omega, rfl, by unfold swapAt; simpa using HR.out, But.refl _ _⟩
  case round =>
    obtain ⟨i, hgk, hi, rfl, hr, hbt⟩ := hrel
    have Hg := hide hgk
    have HI := hide hr
    have HB := hide hbt
    clear hgk hr hbt
    by_cases hlt : i < k
    · obtain ⟨x, hx⟩ : ∃ x, U[i]? = some x := ⟨_, List.getElem?_eq_getElem (by have := Hk.out; omega)⟩
      obtain ⟨y, hy⟩ : ∃ y, V[i]? = some y := ⟨_, List.getElem?_eq_getElem (by have := Hk2.out; omega)⟩
      obtain ⟨e1, e2⟩ := swapAt_cut A U M V B hx hy
      have hvl : (V.take i).length = i := by rw [List.length_take]; have := Hk2.out; omega
      have hul : (U.take i).length = i := by rw [List.length_take]; have := Hk.out; omega
      have hud : (U.drop (i + 1)).length = k - (i + 1) := by rw [List.length_drop]; have := Hk.out; omega
      obtain ⟨p, hp⟩ : ∃ p, p = a + i := ⟨_, rfl⟩
      obtain ⟨q, hq⟩ : ∃ q, q = b + i := ⟨_, rfl⟩
      have P1 : p = (A ++ V.take i).length := by rw [List.length_append, hvl, hp, Ha.out]
      have P2 : q = (A ++ V.take i).length + 1 + (U.drop (i + 1) ++ (M ++ U.take i)).length := by
        rw [List.length_append, List.length_append, List.length_append, hvl, hul, hud, hq, Hb.out, ← Hk.out]; omega
      have hz1 : IntKind.i64.wrap ((a : Int) + (i : Int)) = (p : Int) := by rw [IntWalk.i64_in _ (by omega)]; omega
      have hz2 : IntKind.i64.wrap ((b : Int) + (i : Int)) = (q : Int) := by rw [IntWalk.i64_in _ (by omega)]; omega
      have hpn : p < n := by omega
      have hqn : q < n := by omega
      have hrow := HI.out
      rw [e1] at hrow
      have c1 : wr.cell? ⟨g, off + p, none⟩ = some (.int .i64 x) := hrow.at_ (by rw [P1, List.getElem?_append_right (Nat.le_refl _), Nat.sub_self]; rfl)
      have c2 : wr.cell? ⟨g, off + q, none⟩ = some (.int .i64 y) := hrow.at_ (by rw [P2, List.getElem?_append_right (by omega), show (A ++ V.take i).length + 1 + (U.drop (i + 1) ++ (M ++ U.take i)).length - (A ++ V.take i).length = (U.drop (i + 1) ++ (M ++ U.take i)).length + 1 by omega, List.getElem?_cons_succ, List.getElem?_append_right (Nat.le_refl _), Nat.sub_self]; rfl)
      have f1 := hrow.frozen (off + p)
      have f2 := hrow.frozen (off + q)
      have N1 := hide (swapped hrow P1 P2)
      rw [← e2] at N1
      have c3 : ∃ u, (wr.setCell ⟨g, off + p, none⟩ (.int .i64 y)).cell? ⟨g, off + q, none⟩ = some u := by
        have := (hrow.set_ (j := p) (by rw [P1]; simp) y).at_ (j := q) (x := y) (by rw [List.getElem?_set_ne (by omega), P2, List.getElem?_append_right (by omega), show (A ++ V.take i).length + 1 + (U.drop (i + 1) ++ (M ++ U.take i)).length - (A ++ V.take i).length = (U.drop (i + 1) ++ (M ++ U.take i)).length + 1 by omega, List.getElem?_cons_succ, List.getElem?_append_right (Nat.le_refl _), Nat.sub_self]; rfl)
        exact ⟨_, this⟩
      obtain ⟨u3, c3⟩ := c3
      have HBn := hide (show But g w ((wr.setCell ⟨g, off + p, none⟩ (.int .i64 y)).setCell ⟨g, off + q, none⟩ (.int .i64 x)) from (HB.out.setCell (.inl rfl) _).setCell (.inl rfl) _)
      clear hx hy e1 e2 hvl hul hud hp hq P1 P2 hrow
      go_wp2
      go_region
      go_wp2
      go_roundg (k - (i + 1))
      case measure => have := Hg.out; omega
      case rel => exact ⟨i + 1, rfl, by omega, by first | rfl | go_num, N1.out.drew, HBn.out.drew⟩
    · have hik : i = k := by omega
      subst hik
      go_wp2
      go_end0
      have hr := HI.out
      unfold swapAt at hr
      rw [List.take_of_length_le (by have := Hk2.out; omega), List.take_of_length_le (by have := Hk.out; omega), List.drop_of_length_le (by have := Hk.out; omega), List.drop_of_length_le (by have := Hk2.out; omega)] at hr
      exact ⟨rfl, by simpa using hr, HB.out⟩
theorem rot_take (A U V B : List Int) (j : Nat) : A ++ V ++ (U.take j ++ (U.drop j ++ B)) = A ++ (V ++ (U ++ B)) := by
  rw [← List.append_assoc (U.take j), List.take_append_drop, List.append_assoc]
set_option maxRecDepth 100000 in
set_option maxHeartbeats 8000000 in
theorem rotate_any (A U V B : List Int) (pre post : List Value) (g off cap n a m b : Nat) (fv : Value) (w : World) (h : SRow w g off pre post (A ++ (U ++ (V ++ B)))) (hn : n = A.length + U.length + V.length + B.length)
    (ha : a = A.length) (hm : m = A.length + U.length) (hb : b = A.length + U.length + V.length) (hU : 0 < U.length) (hV : 0 < V.length) (hs : n ≤ 1000000000) :
    Calls Tryz.prog 140 #[.slice (some ⟨g, off, none⟩) n cap, .int .i64 a, .int .i64 m, .int .i64 b, fv] w fun e w' => e = .returned (.tuple #[]) ∧ SRow w' g off pre post (A ++ (V ++ (U ++ B))) ∧ But g w w' := by
  have HR := hide h
  have Hn := hide hn
  obtain ⟨Lu, hLu⟩ : ∃ k, U.length = k := ⟨_, rfl⟩
  obtain ⟨Lv, hLv⟩ : ∃ k, V.length = k := ⟨_, rfl⟩
  have Hu := hide hLu
  have Hv := hide hLv
  have Ha := hide ha
  have Hm := hide hm
  have hma : IntKind.i64.wrap ((m : Int) - (a : Int)) = (Lu : Int) := by rw [IntWalk.i64_in _ (by omega)]; omega
  have hbm : IntKind.i64.wrap ((b : Int) - (m : Int)) = (Lv : Int) := by rw [IntWalk.i64_in _ (by omega)]; omega
  have hmn : m + Lv ≤ n := by omega
  have hmu : Lu ≤ m := by omega
  have hU' : 0 < Lu := by omega
  have hV' : 0 < Lv := by omega
  have hbn : b ≤ n := by omega
  clear h hn ha hm hb hU hV hLu hLv
  go_enter Tryz.func140, Tryz.ntmps140
  go_wp2
  go_loopg [10, 11] (Lu + Lv) (fun gk vi vj wr => ∃ (i j : Nat) (A1 U1 V1 B1 : List Int), gk = i + j ∧ vi = .int .i64 (i : Int) ∧ vj = .int .i64 (j : Int) ∧ 0 < i ∧ 0 < j ∧ i ≤ Lu ∧ j ≤ Lv ∧ SRow wr g off pre post (A1 ++ (U1 ++ (V1 ++ B1))) ∧ U1.length = i ∧ V1.length = j ∧ A1.length + i = m ∧ (A1 ++ U1 ++ V1 ++ B1).length = n ∧ A1 ++ (V1 ++ (U1 ++ B1)) = A ++ (V ++ (U ++ B)) ∧ But g w wr)
  case atStart => exact ⟨Lu, Lv, A, U, V, B, rfl, rfl, rfl, hU', hV', Nat.le_refl _, Nat.le_refl _, HR.out, Hu.out, Hv.out, by have := Hm.out; have := Hu.out; omega, by have := Hn.out; simp only [List.length_append]; omega, rfl, But.refl _ _⟩
  case round =>
    obtain ⟨i, j, A1, U1, V1, B1, hgk, rfl, rfl, i0, j0, iu, jv, hr, hu1, hv1, ha1, hn1, he, hbt⟩ := hrel
    have Hg := hide hgk
    have HI := hide hr
    have HB := hide hbt
    have HE := hide he
    have Hu1 := hide hu1
    have Hv1 := hide hv1
    have Hn1 := hide (show n = A1.length + U1.length + V1.length + B1.length by rw [← hn1]; simp only [List.length_append])
    obtain ⟨al, hal⟩ : ∃ k, A1.length = k := ⟨_, rfl⟩
    rw [hal] at ha1
    have Hal := hide hal
    have Ham := hide ha1
    have z1 : IntKind.i64.wrap ((m : Int) - (i : Int)) = (al : Int) := by rw [IntWalk.i64_in _ (by omega)]; omega
    have alm : al ≤ m := by omega
    clear hgk hr hbt he hu1 hv1 hn1 hal ha1
    by_cases hij : i = j
    · subst hij
      have HS := hide (swapRange_any A1 U1 [] V1 B1 pre post g off cap n al m i fv wr (by simpa using HI.out) (by have := Hn1.out; simpa using this) Hal.out.symm (by have := Hal.out; have := Hu1.out; have := Ham.out; simp; omega) Hu1.out.symm Hv1.out.symm hs)
      go_wp2_with fail
      refine HS.out.mono ?_
      rintro e w2 ⟨rfl, hr2, hb2⟩
      have HR2 := hide hr2
      have HB2 := hide hb2
      clear hr2 hb2
      go_wp2
      go_end0
      refine ⟨rfl, ?_, HB.out.trans HB2.out⟩
      rw [← HE.out]
      simpa using HR2.out
    · have hijz : ¬ (i : Int) = (j : Int) := by omega
      by_cases hgt : j < i
      · have hgtz : (j : Int) < (i : Int) := by omega
        have z2 : IntKind.i64.wrap ((i : Int) - (j : Int)) = ((i - j : Nat) : Int) := by rw [IntWalk.i64_in _ (by omega)]; omega
        have hu2 : U1 = U1.take j ++ U1.drop j := (List.take_append_drop j U1).symm
        have hlt : (U1.take j).length = j := by rw [List.length_take]; have := Hu1.out; omega
        have hld : (U1.drop j).length = i - j := by rw [List.length_drop]; have := Hu1.out; omega
        have HS := hide (swapRange_any A1 (U1.take j) (U1.drop j) V1 B1 pre post g off cap n al m j fv wr (by rw [← List.append_assoc (U1.take j), ← hu2]; exact HI.out) (by have := Hn1.out; have := Hu1.out; omega) Hal.out.symm (by have := Hal.out; have := Hu1.out; have := Ham.out; omega) hlt.symm Hv1.out.symm hs)
        have HE2 := hide (show A1 ++ V1 ++ (U1.take j ++ (U1.drop j ++ B1)) = A ++ (V ++ (U ++ B)) from (rot_take A1 U1 V1 B1 j).trans HE.out)
        have Hlt := hide hlt
        have Hld := hide hld
        obtain ⟨d, hd⟩ : ∃ d, i - j = d := ⟨_, rfl⟩
        rw [hd] at z2 Hld
        have Hd := hide hd
        clear hu2 hlt hld hd
        go_wp2_with fail
        refine HS.out.mono ?_
        rintro e w2 ⟨rfl, hr2, hb2⟩
        have HR2 := hide hr2
        have HB2 := hide hb2
        clear hr2 hb2
        go_wp2
        go_roundg (d + j)
        case measure => have := Hg.out; have := Hd.out; omega
        case rel =>
          refine ⟨d, j, A1 ++ V1, U1.drop j, U1.take j, B1, rfl, by first | rfl | go_num, by first | rfl | go_num, by have := Hd.out; omega, j0, by have := Hd.out; omega, jv, by simpa only [List.append_assoc] using HR2.out, Hld.out, Hlt.out, ?_, ?_, HE2.out, HB.out.trans HB2.out⟩
          · rw [List.length_append]; have := Hal.out; have := Hv1.out; have := Ham.out; have := Hd.out; omega
          · have := Hn1.out; have := Hu1.out; have := Hlt.out; have := Hld.out; have := Hd.out; simp only [List.length_append]; omega
      · have hgtz : ¬ (j : Int) < (i : Int) := by omega
        have z2 : IntKind.i64.wrap ((m : Int) + (j : Int)) = ((m + j : Nat) : Int) := by rw [IntWalk.i64_in _ (by omega)]; omega
        have z3 : IntKind.i64.wrap (((m + j : Nat) : Int) - (i : Int)) = ((m + j - i : Nat) : Int) := by rw [IntWalk.i64_in _ (by omega)]; omega
        have z4 : IntKind.i64.wrap ((j : Int) - (i : Int)) = ((j - i : Nat) : Int) := by rw [IntWalk.i64_in _ (by omega)]; omega
        have hv2 : V1 = V1.take (j - i) ++ V1.drop (j - i) := (List.take_append_drop (j - i) V1).symm
        have hlt : (V1.take (j - i)).length = j - i := by rw [List.length_take]; have := Hv1.out; omega
        have hld : (V1.drop (j - i)).length = i := by rw [List.length_drop]; have := Hv1.out; omega
        have HS := hide (swapRange_any A1 U1 (V1.take (j - i)) (V1.drop (j - i)) B1 pre post g off cap n al (m + j - i) i fv wr (by rw [← List.append_assoc (V1.take (j - i)), ← hv2]; exact HI.out) (by have := Hn1.out; have := Hv1.out; omega) Hal.out.symm (by have := Hal.out; have := Hu1.out; have := Ham.out; omega) Hu1.out.symm hld.symm hs)
        have HE2 := hide (show A1 ++ (V1.take (j - i) ++ (V1.drop (j - i) ++ (U1 ++ B1))) = A ++ (V ++ (U ++ B)) by rw [← HE.out, ← List.append_assoc (V1.take (j - i)), ← hv2])
        have Hlt := hide hlt
        have Hld := hide hld
        obtain ⟨d, hd⟩ : ∃ d, j - i = d := ⟨_, rfl⟩
        rw [hd] at z4 Hlt HS Hld HE2
        have Hd := hide hd
        obtain ⟨s1, hs1⟩ : ∃ d, m + j = d := ⟨_, rfl⟩
        rw [hs1] at z2 z3 HS
        obtain ⟨s2, hs2⟩ : ∃ d, s1 - i = d := ⟨_, rfl⟩
        rw [hs2] at z3 HS
        clear hv2 hlt hld hd hs1 hs2
        go_wp2_with fail
        refine HS.out.mono ?_
        rintro e w2 ⟨rfl, hr2, hb2⟩
        have HR2 := hide hr2
        have HB2 := hide hb2
        clear hr2 hb2
        go_wp2
        go_roundg (d + i)
        case measure => have := Hg.out; have := Hd.out; omega
        case rel =>
          refine ⟨i, d, A1, V1.drop d, V1.take d, U1 ++ B1, by omega, by first | rfl | go_num, by first | rfl | go_num, i0, by have := Hd.out; omega, iu, by have := Hd.out; omega, HR2.out, Hld.out, Hlt.out, Ham.out ▸ (by have := Hal.out; omega), ?_, HE2.out, HB.out.trans HB2.out⟩
          have := Hn1.out; have := Hv1.out; have := Hlt.out; have := Hld.out; have := Hd.out; simp only [List.length_append]; omega
end Go.Proofs.YtlcfakmbcfdgbaaGreat
namespace Go.Proofs.YtlcfakmbcfdgbaaGreat
open Go.RowKit Go.WideShapes

namespace Nf
theorem sortR_snoc (l : List Int) (x : Int) : sortR (l ++ [x]) = ins x (sortR l) := by
  unfold sortR
  rw [List.foldl_append]; rfl
theorem ins_done (x : Int) : ∀ (S1 S2 : List Int), (∀ y ∈ S1, cls y ≤ cls x) → (∀ y ∈ S2, cls x < cls y) → ins x (S1 ++ S2) = S1 ++ x :: S2
  | [], [], _, _ => rfl
  | [], y :: S2, _, h => by
    rw [List.nil_append, ins, if_pos (h y (List.mem_cons_self ..))]; rfl
  | y :: S1, S2, h, k => by
    rw [List.cons_append, ins, if_neg (by have := h y (List.mem_cons_self ..); omega), ins_done x S1 S2 (fun z hz => h z (List.mem_cons_of_mem _ hz)) k]; rfl
theorem sortR_len (l : List Int) : (sortR l).length = l.length := (sortR_same l).length
theorem sortR_one (l : List Int) (h : l.length ≤ 1) : sortR l = l := by
  match l, h with
  | [], _ => rfl
  | [x], _ => rfl
end Nf
theorem snoc_of {l : List Int} (h : 0 < l.length) : ∃ m y, l = m ++ [y] := by
  refine ⟨l.dropLast, l.getLast (by intro e; subst e; simp at h), ?_⟩
  exact (List.dropLast_concat_getLast _).symm
/-- What an exchange wants. -/
theorem exch {w : World} {g off : Nat} {pre post : List Value} {P Q R : List Int} {x y : Int} {i j : Nat} (h : SRow w g off pre post (P ++ x :: (Q ++ y :: R))) (hi : i = P.length) (hj : j = P.length + 1 + Q.length) :
    w.cell? ⟨g, off + i, none⟩ = some (.int .i64 x) ∧ w.cell? ⟨g, off + j, none⟩ = some (.int .i64 y) ∧ (∃ u, (w.setCell ⟨g, off + i, none⟩ (.int .i64 y)).cell? ⟨g, off + j, none⟩ = some u) ∧ ∃ u, (w.setCell ⟨g, off + j, none⟩ (.int .i64 x)).cell? ⟨g, off + i, none⟩ = some u := by
  have e1 : (P ++ x :: (Q ++ y :: R))[i]? = some x := by rw [hi, List.getElem?_append_right (Nat.le_refl _), Nat.sub_self]; rfl
  have e2 : (P ++ x :: (Q ++ y :: R))[j]? = some y := by
    rw [hj, List.getElem?_append_right (by omega), show P.length + 1 + Q.length - P.length = Q.length + 1 by omega, List.getElem?_cons_succ, List.getElem?_append_right (Nat.le_refl _), Nat.sub_self]; rfl
  have hl : j < (P ++ x :: (Q ++ y :: R)).length := (List.getElem?_eq_some_iff.1 e2).1
  have hl1 : i < (P ++ x :: (Q ++ y :: R)).length := (List.getElem?_eq_some_iff.1 e1).1
  exact ⟨h.at_ e1, h.at_ e2, ⟨_, (h.set_ hl1 y).at_ (by rw [List.getElem?_set_ne (by omega)]; exact e2)⟩, ⟨_, (h.set_ hl x).at_ (by rw [List.getElem?_set_ne (by omega)]; exact e1)⟩⟩
theorem SRow.drewN {w : World} {g off : Nat} {pre post : List Value} {l : List Int} (h : SRow w g off pre post l) (n : Nat) : SRow (w.drewN n) g off pre post l := ⟨h.blk, h.off_⟩
theorem SRow.as {w : World} {g off : Nat} {pre post : List Value} {l m : List Int} (h : SRow w g off pre post l) (e : l = m) : SRow w g off pre post m := e ▸ h
set_option maxRecDepth 100000 in
set_option maxHeartbeats 8000000 in
theorem insertion_any (A l B : List Int) (pre post : List Value) (g off cap n a b : Nat) (w : World) (h : SRow w g off pre post (A ++ (l ++ B))) (hn : n = A.length + l.length + B.length)
    (ha : a = A.length) (hb : b = A.length + l.length) (hs : n ≤ 1000000000) :
    Calls Tryz.prog 133 #[.slice (some ⟨g, off, none⟩) n cap, .int .i64 a, .int .i64 b, .func (.func 112) #[] #[]] w fun e w' => e = .returned (.tuple #[]) ∧ SRow w' g off pre post (A ++ (Nf.sortR l ++ B)) ∧ But g w w' := by
  have HR := hide h
  have Hn := hide hn
  have Ha := hide ha
  have Hb := hide hb
  have hbn : b ≤ n := by omega
  have hab : a ≤ b := by omega
  have HC := hide (fun x y W => byClass_any x y W)
  have z0 : IntKind.i64.wrap ((a : Int) + 1) = ((a + 1 : Nat) : Int) := by rw [IntWalk.i64_in _ (by omega)]; omega
  clear h hn ha hb
  go_enter Tryz.func133, Tryz.ntmps133
  go_wp2
  go_loopg [8] (b - a) (fun gk vk wr => ∃ (t i : Nat), gk = b - a - t ∧ i = a + 1 + t ∧ (t + 1 ≤ b - a ∨ t = 0) ∧ vk = .int .i64 (i : Int) ∧ SRow wr g off pre post (A ++ (Nf.sortR (l.take (t + 1)) ++ (l.drop (t + 1) ++ B))) ∧ But g w wr)
  case atStart => exact ⟨0, a + 1, rfl, rfl, .inr rfl, by first | rfl | go_num, by rw [Nf.sortR_one _ (by rw [List.length_take]; omega), ← List.append_assoc (l.take _), List.take_append_drop]; exact HR.out, But.refl _ _⟩
  case round =>
    obtain ⟨t, i, hgk, hi, ht, rfl, hr, hbt⟩ := hrel
    have Hg := hide hgk
    have HI := hide hr
    have HB := hide hbt
    have Hi := hide hi
    clear hgk hr hbt hi
    by_cases hlt : i < b
    · obtain ⟨x, hx⟩ : ∃ x, l[t + 1]? = some x := ⟨_, List.getElem?_eq_getElem (by have := Hb.out; have := Ha.out; have := Hi.out; omega)⟩
      have HS := hide (show Nf.sortR (l.take (t + 2)) = Nf.ins x (Nf.sortR (l.take (t + 1))) by rw [take_next hx, Nf.sortR_snoc])
      have hup := Nf.sortR_up (l.take (t + 1))
      have hsl : (Nf.sortR (l.take (t + 1))).length = t + 1 := by rw [Nf.sortR_len, List.length_take]; have := Hb.out; have := Ha.out; have := Hi.out; omega
      have hr := HI.out
      rw [take_drop_next hx] at hr
      generalize Nf.sortR (l.take (t + 1)) = S at HS hup hsl hr
      have HU := hide hup
      have HL := hide hsl
      have HI2 := hide hr
      clear HI hx hup hsl hr
      go_wp2
      go_loopg [9] (t + 1) (fun gj vj wj => ∃ (S1 S2 : List Int) (j : Nat), gj = S1.length ∧ S = S1 ++ S2 ∧ j = a + S1.length ∧ vj = .int .i64 (j : Int) ∧ (∀ y ∈ S2, Nf.cls x < Nf.cls y) ∧ SRow wj g off pre post (A ++ (S1 ++ x :: (S2 ++ (l.drop (t + 1 + 1) ++ B)))) ∧ But g w wj)
      case atStart => exact ⟨S, [], i, HL.out.symm, by simp, by have := HL.out; have := Hi.out; omega, rfl, by simp, by simpa using HI2.out, HB.out⟩
      case round =>
        obtain ⟨S1, S2, j, hgj, hS, hj, rfl, h2, hr, hbt⟩ := hrel
        have Hgj := hide hgj
        have HJ := hide hj
        have H2 := hide h2
        have HI3 := hide hr
        have HB3 := hide hbt
        have HS12 := hide hS
        have hjl : j < n := by have := Hb.out; have := Ha.out; have := Hi.out; have := HL.out; have := congrArg List.length hS; rw [List.length_append] at this; omega
        clear hgj hj h2 hr hbt hS HB HI2
        by_cases hja : a < j
        · obtain ⟨S1', y, e1⟩ := snoc_of (l := S1) (by have := HJ.out; omega)
          subst e1
          obtain ⟨jp, hjp⟩ : ∃ jp, jp = a + S1'.length := ⟨_, rfl⟩
          have hj1 : j = jp + 1 := by rw [HJ.out, hjp, List.length_append, List.length_singleton]; omega
          have HJ1 := hide hj1
          have HJp := hide hjp
          have z1 : IntKind.i64.wrap ((j : Int) - 1) = (jp : Int) := by rw [IntWalk.i64_in _ (by omega)]; omega
          have hrow := HI3.out
          have e3 : A ++ (S1' ++ [y] ++ x :: (S2 ++ (l.drop (t + 1 + 1) ++ B))) = (A ++ S1') ++ y :: ([] ++ x :: (S2 ++ (l.drop (t + 1 + 1) ++ B))) := by simp
          rw [e3] at hrow
          have p1 : jp = (A ++ S1').length := by rw [List.length_append, hjp, Ha.out]
          have p2 : j = (A ++ S1').length + 1 + ([] : List Int).length := by rw [← p1, hj1]; simp
          have c1 : wr.cell? ⟨g, off + jp, none⟩ = some (.int .i64 y) := hrow.at_ (by rw [p1, List.getElem?_append_right (Nat.le_refl _), Nat.sub_self]; rfl)
          have c2 : wr.cell? ⟨g, off + j, none⟩ = some (.int .i64 x) := hrow.at_ (by rw [p2, List.getElem?_append_right (by omega), show (A ++ S1').length + 1 + ([] : List Int).length - (A ++ S1').length = 1 by simp]; rfl)
          have f1 := hrow.frozen (off + jp)
          have f2 := hrow.frozen (off + j)
          have HE3 := hide e3
          have HP1 := hide p1
          have HP2 := hide p2
          have hjpl : jp < n := by omega
          have hd1 : decide ((j : Int) > (a : Int)) = true := decide_eq_true (by omega)
          have hd2 : (a : Int) < (j : Int) := by omega
          clear hjp hj1 p1 p2 e3 hrow
          by_cases hc : Nf.cls x - Nf.cls y < 0
          · obtain ⟨q, hq⟩ : ∃ q, Nf.cls x - Nf.cls y = q := ⟨_, rfl⟩
            have HC1 := hide (fun W => HC.out x y W)
            rw [hq] at hc HC1
            have hd3 : decide (q < 0) = true := decide_eq_true hc
            have Hq := hide hq
            clear hq
            go_wp2_with fail
            go_quiet ((go_at_call 112; refine Calls.quiet_of_same (HC1.out _)))
            clear c1 c2 f1 f2
            have HBW := hide (show But g w (wr.drewN nq) from ⟨HB3.out.os, HB3.out.tape, HB3.out.output, HB3.out.size, HB3.out.block⟩)
            have hrow := (HI3.out.drewN nq).as HE3.out
            generalize wr.drewN nq = W at hrow HBW ⊢
            obtain ⟨c1, c2, _, u3, c3⟩ := exch hrow HP1.out HP2.out
            have f1 := hrow.frozen (off + jp)
            have f2 := hrow.frozen (off + j)
            have N1 := hide (swapped2 hrow HP1.out HP2.out)
            clear hrow
            go_wp2
            go_region
            go_wp2
            go_roundg S1'.length
            case measure => have := Hgj.out; rw [this, List.length_append, List.length_singleton]; omega
            case rel =>
              refine ⟨S1', y :: S2, jp, rfl, by rw [HS12.out]; simp, HJp.out, by first | rfl | go_num, ?_, (N1.out.drew).as (by simp), ((HBW.out.setCell (.inl rfl) _).setCell (.inl rfl) _).drew⟩
              intro z hz
              rcases List.mem_cons.1 hz with rfl | hz
              · have := Hq.out; omega
              · exact H2.out z hz
          · obtain ⟨q, hq⟩ : ∃ q, Nf.cls x - Nf.cls y = q := ⟨_, rfl⟩
            have HC1 := hide (fun W => HC.out x y W)
            rw [hq] at hc HC1
            have hd3 : decide (q < 0) = false := decide_eq_false hc
            have Hq := hide hq
            have zi : IntKind.i64.wrap ((i : Int) + 1) = ((i + 1 : Nat) : Int) := by rw [IntWalk.i64_in _ (by omega)]; omega
            clear hq
            go_wp2_with fail
            go_quiet ((go_at_call 112; refine Calls.quiet_of_same (HC1.out _)))
            have HBW := hide (show But g w (wr.drewN nq) from ⟨HB3.out.os, HB3.out.tape, HB3.out.output, HB3.out.size, HB3.out.block⟩)
            have HRW := hide (HI3.out.drewN nq)
            generalize wr.drewN nq = W at HRW HBW ⊢
            clear c1 c2 f1 f2
            go_wp2
            go_roundg (b - a - (t + 1))
            case measure => have := Hg.out; have := Hi.out; omega
            case rel =>
              refine ⟨t + 1, i + 1, rfl, by have := Hi.out; omega, .inl (by have := Hi.out; omega), by first | rfl | go_num, HRW.out.as ?_, HBW.out⟩
              rw [HS.out, HS12.out, Nf.ins_done x (S1' ++ [y]) S2 ?_ H2.out]
              · simp
              · intro z hz
                have hu := HU.out
                rw [HS12.out] at hu
                have h3 := hu.left
                rcases List.mem_append.1 hz with hz | hz
                · have := h3.cross hz (List.mem_singleton.2 rfl); have := Hq.out; omega
                · rw [List.mem_singleton] at hz; subst hz; have := Hq.out; omega
        · have hja2 : j = a := by have := HJ.out; omega
          have hd1 : decide ((j : Int) > (a : Int)) = false := decide_eq_false (by omega)
          have hd2 : ¬ (a : Int) < (j : Int) := by omega
          have zi : IntKind.i64.wrap ((i : Int) + 1) = ((i + 1 : Nat) : Int) := by rw [IntWalk.i64_in _ (by omega)]; omega
          have HJA := hide hja2
          clear hja2
          go_wp2_with fail
          go_quiet (fail)
          have HBW := hide (show But g w (wr.drewN nq) from ⟨HB3.out.os, HB3.out.tape, HB3.out.output, HB3.out.size, HB3.out.block⟩)
          have HRW := hide (HI3.out.drewN nq)
          generalize wr.drewN nq = W at HRW HBW ⊢
          go_wp2
          go_roundg (b - a - (t + 1))
          case measure => have := Hg.out; have := Hi.out; omega
          case rel =>
            refine ⟨t + 1, i + 1, rfl, by have := Hi.out; omega, .inl (by have := Hi.out; omega), by first | rfl | go_num, HRW.out.as ?_, HBW.out⟩
            have h0 : S1 = [] := List.eq_nil_of_length_eq_zero (by have := HJ.out; have := HJA.out; omega)
            subst h0
            rw [HS.out, HS12.out, Nf.ins_done x [] S2 (by simp) H2.out]
            simp
    · go_wp2
      go_end0
      have hr := HI.out
      have hl : l.length ≤ t + 1 := by have := Hb.out; have := Ha.out; have := Hi.out; omega
      rw [List.take_of_length_le hl, List.drop_of_length_le hl] at hr
      exact ⟨rfl, by simpa using hr, HB.out⟩
end Go.Proofs.YtlcfakmbcfdgbaaGreat
