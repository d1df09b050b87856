/- NFC: scalars taken apart: order.taker.apart, Decompose, Parts. · The stable sort by classes, plain: what a swap, a rotation, a merge leave; no program in sight. · NFC: a row of numbers within a block; slices.swapRangeCmpFunc, rotateCmpFunc. -/
import Derived.Test.YtheaknghgpafpaaWv00
import Derived.Test.YtheaknghgpafpaaWv03
import Derived.Test.YtheaknghgpafpaaWv05
import Derived.OneCell
import Derived.Deep.Onto
import Derived.BigRegion
import Derived.BigQuiet
set_option linter.unusedSimpArgs false
set_option linter.unusedVariables false
namespace Go.Proofs.Ytheaknghgpafpaa
open Go.RowKit Go.WideShapes

namespace Nf
def Ok (r : Int) : Prop := 0 ≤ r ∧ r ≤ 1114111
theorem table_ok : ∀ x ∈ table, (0 ≤ x.1.1 ∧ x.1.1 ≤ 1114111) ∧ (0 ≤ x.1.2 ∧ x.1.2 ≤ 1114111) := by decide +kernel
theorem doubles_ok : ∀ x ∈ doubles, 0 ≤ x.2 ∧ x.2 ≤ 1114111 := by decide +kernel
theorem made_ok {r a b : Int} (h : made r = some (a, b)) : Ok a ∧ Ok b := by
  unfold made at h
  unfold Ok
  split at h
  · rename_i hh
    have hr := of_decide_eq_true hh
    split at h
    · cases h; omega
    · cases h; omega
  · split at h
    · rename_i p hp
      cases h
      exact table_ok _ (lookM_mem hp)
    · rename_i hn
      obtain ⟨x, hx, e⟩ := Option.map_eq_some_iff.1 h
      cases e
      exact ⟨doubles_ok _ (lookD_mem hx), by omega⟩
theorem apart_ok : ∀ {n : Nat} {r : Int} {l : List Int}, apart n r = some l → Ok r → ∀ x ∈ l, Ok x
  | 0, _, _, h, _ => by cases h
  | n + 1, r, l, h, hr => by
    rw [apart] at h
    split at h
    · cases h; intro x hx; rw [List.mem_singleton] at hx; subst hx; exact hr
    · rename_i a b hm
      obtain ⟨ha, hb⟩ := made_ok hm
      split at h
      · cases h
      · rename_i la hla
        split at h
        · cases h; exact apart_ok hla ha
        · obtain ⟨m, hm2, e⟩ := Option.map_eq_some_iff.1 h
          subst e
          intro x hx
          rcases List.mem_append.1 hx with hx | hx
          · exact apart_ok hla ha x hx
          · exact apart_ok hm2 hb x hx
theorem parts_ok {r : Int} (h : Ok r) : ∀ x ∈ parts r, Ok x := apart_ok (parts_is r) h
theorem apart_len : ∀ {n : Nat} {r : Int} {l : List Int}, apart n r = some l → l.length ≤ 2 ^ n
  | 0, _, _, h => by cases h
  | n + 1, r, l, h => by
    have hp : 0 < 2 ^ n := Nat.two_pow_pos n
    rw [apart] at h
    rw [Nat.pow_succ]
    split at h
    · cases h; simp; omega
    · split at h
      · cases h
      · rename_i la hla
        have := apart_len hla
        split at h
        · cases h; omega
        · obtain ⟨m, hm2, e⟩ := Option.map_eq_some_iff.1 h
          have := apart_len hm2
          subst e
          rw [List.length_append]; omega
theorem parts_len (r : Int) : (parts r).length ≤ 16 := apart_len (parts_is r)
end Nf
theorem intVs_app (a b : List Int) : intVs (a ++ b) = intVs a ++ intVs b := List.map_append ..
theorem intVs_len (a : List Int) : (intVs a).length = a.length := List.length_map ..
theorem intVs_one (l : List Int) : ∀ u ∈ intVs l, u.oneCell' = true := by
  intro u hu
  obtain ⟨b, _, rfl⟩ := List.mem_map.1 hu
  rfl
/-- What a call may have turned: of the blocks that were there, those from 'base' on that are rows of element type t, and the block b; nothing else. -/
structure Tn (base t b : Nat) (w w' : World) : Prop where
  os : w'.os = w.os
  tape : w'.tape = w.tape
  output : w'.output = w.output
  size : w.heap.size ≤ w'.heap.size
  block : ∀ k, k < w.heap.size → k ≠ b → ¬ (base ≤ k ∧ IsT w k t) → w'.heap[k]? = w.heap[k]?
section
variable {base t b : Nat} {w w1 w' : World}
theorem Tn.refl (base t b : Nat) (w : World) : Tn base t b w w := ⟨rfl, rfl, rfl, Nat.le_refl _, fun _ _ _ _ => rfl⟩
theorem Tn.trans (h : Tn base t b w w1) (k : Tn base t b w1 w') : Tn base t b w w' := by
  refine ⟨k.os.trans h.os, k.tape.trans h.tape, k.output.trans h.output, Nat.le_trans h.size k.size, fun i hi hb hn => ?_⟩
  have e := h.block i hi hb hn
  rw [k.block i (Nat.lt_of_lt_of_le hi h.size) hb ?_, e]
  rintro ⟨h1, cs, fr, h2⟩
  exact hn ⟨h1, cs, fr, by rw [← e]; exact h2⟩
theorem Tn.below {B : Nat} (h : Tn base t b w w') (hB : B ≤ base) (hb : B ≤ b) (hs : B ≤ w.heap.size) : Below B w w' :=
  ⟨h.os, h.tape, h.output, h.size, fun k hk => h.block k (by omega) (by omega) (fun hh => by omega)⟩
theorem Tn.of_below (h : Below w.heap.size w w') : Tn base t b w w' := ⟨h.os, h.tape, h.output, h.size, fun k hk _ _ => h.block k hk⟩
theorem Tn.setCell (h : Tn base t b w w1) {p : Addr} (hp : p.block = b ∨ w.heap.size ≤ p.block) (u : Value) : Tn base t b w (w1.setCell p u) := by
  refine ⟨h.os, h.tape, h.output, by simpa [World.setCell] using h.size, fun k hk hb hn => ?_⟩
  rw [Below.heap_setCell _ _ _ _ (by omega)]
  exact h.block k hk hb hn
theorem Tn.grown (h : Tn base t b w w1) {row : Option Nat} (hg : w1.grownBy w' row) (hr : ∀ k, row = some k → base ≤ k ∧ IsT w1 k t) : Tn base t b w w' :=
  h.trans ⟨hg.os, hg.tape, hg.output, hg.size, fun k h1 _ hn => hg.block k h1 (fun e => hn (hr k e.symm))⟩
end
/-- A taker: its block, its row. -/
structure TA (w : World) (base tb : Nat) (l : List Int) (A : Option Addr) (c : Nat) : Prop where
  blk : Blk w tb 140 #[.slice A l.length c]
  own : w.ownsRow base 3 1 (.slice A l.length c) l.length (intVs l)
  base : base ≤ w.heap.size
theorem TA.ne {w : World} {base tb : Nat} {l : List Int} {A : Option Addr} {c : Nat} (h : TA w base tb l A c) : (Value.slice A l.length c).ownBlock ≠ some tb := own_blk_ne h.own h.blk (by decide)
theorem TA.go {w w' : World} {base tb : Nat} {l : List Int} {A : Option Addr} {c : Nat} (h : TA w base tb l A c) (hb : Below w.heap.size w w') : TA w' base tb l A c :=
  ⟨h.blk.go hb, h.own.kept (grown_below hb none) (by cases hv : (Value.slice A l.length c).ownBlock with | none => exact .inl rfl | some k => exact .inr (by simp)), Nat.le_trans h.base hb.size⟩
theorem TA.next {w w' : World} {base tb g cap : Nat} {l : List Int} {A : Option Addr} {c : Nat} {r : Int} (h : TA w base tb l A c) (ho : w'.ownsRow base 3 1 (.slice (some ⟨g, 0, none⟩) (l.length + 1) cap) (l.length + 1) (intVs (l ++ [r]))) (hg : w.grownBy w' (Value.slice A l.length c).ownBlock) :
    TA (w'.setCell ⟨tb, 0, none⟩ (.slice (some ⟨g, 0, none⟩) (l.length + 1) cap)) base tb (l ++ [r]) (some ⟨g, 0, none⟩) cap ∧ Tn base 3 tb w (w'.setCell ⟨tb, 0, none⟩ (.slice (some ⟨g, 0, none⟩) (l.length + 1) cap)) := by
  have hk : Blk w' tb 140 #[.slice A l.length c] := h.blk.grown hg (fun e => h.ne e.symm)
  have hl : (l ++ [r]).length = l.length + 1 := by simp
  have hne : tb ≠ g := fun e => by
    have := own_isT ho g rfl
    obtain ⟨cs, fr, h2⟩ := this.2
    subst e
    unfold Blk at hk
    rw [hk] at h2
    injection h2 with h2
    injection h2 with _ h3
    exact absurd h3 (by decide)
  refine ⟨⟨?_, ?_, ?_⟩, ?_⟩
  · have := hk.set_ 0 (.slice (some ⟨g, 0, none⟩) (l.length + 1) cap)
    rw [hl]
    simpa using this
  · rw [hl]
    exact ownsRow_setCell_other ho (by simp [Value.ownBlock]; exact fun e => hne e.symm) _
  · simp only [World.setCell, Array.size_modify]; exact Nat.le_trans h.base hg.size
  · exact ((Tn.refl base 3 tb w).grown hg (own_isT h.own)).setCell (.inl rfl) _
set_option maxRecDepth 100000 in
set_option maxHeartbeats 4000000 in
theorem apart_any (base tb : Nat) : ∀ (n : Nat) (r : Int) (l out : List Int) (A : Option Addr) (c : Nat) (w : World), Nf.apart n r = some l → Nf.Ok r → TA w base tb out A c → out.length + l.length ≤ 100000000 →
    Calls Try.prog 86 #[.pointer (some ⟨tb, 0, none⟩), .int .i64 r] w fun e w' => ∃ A' c', e = .returned (.tuple #[]) ∧ TA w' base tb (out ++ l) A' c' ∧ Tn base 3 tb w w'
  | 0, _, _, _, _, _, _, h, _, _, _ => by cases h
  | n + 1, r, l, out, A, c, w, h, hr, ht, hn => by
    have HM := hide (fun W => made_any r W hr.1 hr.2)
    have HT := hide ht
    clear ht
    rw [Nf.apart] at h
    unfold madeV at HM
    cases hm : Nf.made r with
    | none =>
      rw [hm] at h HM
      cases h
      dsimp only at HM
      simp only [List.length_singleton] at hn
      clear hm
      go_enter Try.func86, Try.ntmps86
      go_wp2_with fail
      refine (HM.out _).mono ?_
      rintro e w1 ⟨rfl, hb1⟩
      have HT1 := hide (HT.out.go hb1)
      have HB1 := hide (Tn.of_below (base := base) (t := 3) (b := tb) hb1)
      clear hb1
      have q0 := HT1.out.blk.cell 0
      have qf := HT1.out.blk.frozen 0
      go_wp2_with (at_builtin; go_loud (refine wpList_append_elem w1 rfl (.tmp 19) (.tmp 21) 103 rfl base (.int .i64 0) 1 8 Try.underlying103 info_int rfl (by omega) _ out.length (intVs out) rfl HT1.out.own rfl (by simp [Value.oneCell']) rfl (by unfold maxLen; omega) (by omega) HT1.out.base ?_); intro g cap w2 ho hg _ _ _; clear q0 qf; have hk2 := HT1.out.blk.grown hg (fun e => HT1.out.ne e.symm); have q0 := hk2.cell 0; have qf := hk2.frozen 0; have HN := hide (HT1.out.next (r := r) (by rw [intVs_app]; exact ho) hg); clear hk2 ho hg)
      (try simp only [Exit.inBlock, Exit.then])
      refine bodyPost_ret (results_none rfl _ _ _) rfl ?_
      exact ⟨_, _, rfl, HN.out.1, HB1.out.trans HN.out.2⟩
    | some p =>
      obtain ⟨a, b⟩ := p
      rw [hm] at h HM
      dsimp only at h HM
      obtain ⟨⟨a0, a1⟩, ⟨b0, b1⟩⟩ := Nf.made_ok hm
      cases hla : Nf.apart n a with
      | none => rw [hla] at h; cases h
      | some la =>
        rw [hla] at h
        dsimp only at h
        by_cases hb : b = 0
        · subst hb
          rw [if_pos rfl] at h
          cases h
          have IH := hide (fun (W : World) (h : TA W base tb out A c) => apart_any base tb n a l out A c W hla ⟨a0, a1⟩ h hn)
          clear hm hla
          go_enter Try.func86, Try.ntmps86
          go_wp2_with fail
          refine (HM.out _).mono ?_
          rintro e w1 ⟨rfl, hb1⟩
          have HT1 := hide (HT.out.go hb1)
          have HB1 := hide (Tn.of_below (base := base) (t := 3) (b := tb) hb1)
          clear hb1
          go_wp2_with fail
          refine (IH.out _ HT1.out).mono ?_
          rintro e w2 ⟨A', c', rfl, ht2, hb2⟩
          have HT2 := hide ht2
          have HB2 := hide hb2
          clear ht2 hb2
          go_wp2
          go_end0
          exact ⟨_, _, rfl, HT2.out, HB1.out.trans HB2.out⟩
        · rw [if_neg hb] at h
          obtain ⟨lb, hlb, e⟩ := Option.map_eq_some_iff.1 h
          subst e
          rw [List.length_append] at hn
          have IH := hide (fun (W : World) (h : TA W base tb out A c) => apart_any base tb n a la out A c W hla ⟨a0, a1⟩ h (by omega))
          have IH2 := hide (fun (A : Option Addr) (c : Nat) (W : World) (h : TA W base tb (out ++ la) A c) => apart_any base tb n b lb (out ++ la) A c W hlb ⟨b0, b1⟩ h (by rw [List.length_append]; omega))
          clear hm hla hlb h
          go_enter Try.func86, Try.ntmps86
          go_wp2_with fail
          refine (HM.out _).mono ?_
          rintro e w1 ⟨rfl, hb1⟩
          have HT1 := hide (HT.out.go hb1)
          have HB1 := hide (Tn.of_below (base := base) (t := 3) (b := tb) hb1)
          clear hb1
          go_wp2_with fail
          refine (IH.out _ HT1.out).mono ?_
          rintro e w2 ⟨A', c', rfl, ht2, hb2⟩
          have HT2 := hide ht2
          have HB2 := hide hb2
          clear ht2 hb2
          go_wp2_with fail
          refine (IH2.out _ _ _ HT2.out).mono ?_
          rintro e w3 ⟨A3, c3, rfl, ht3, hb3⟩
          have HT3 := hide ht3
          have HB3 := hide hb3
          clear ht3 hb3
          go_wp2
          go_end0
          exact ⟨_, _, rfl, by rw [← List.append_assoc]; exact HT3.out, (HB1.out.trans HB2.out).trans HB3.out⟩
namespace Nf
/-- All scalars' parts. -/
def decomp (l : List Int) : List Int := l.flatMap parts
theorem decomp_len (l : List Int) : (decomp l).length ≤ 16 * l.length := by
  unfold decomp
  induction l with
  | nil => simp
  | cons x l ih => rw [List.flatMap_cons, List.length_append, List.length_cons]; have := parts_len x; omega
theorem decomp_next {l : List Int} {j : Nat} {a : Int} (h : l[j]? = some a) : decomp (l.take (j + 1)) = decomp (l.take j) ++ parts a := by
  unfold decomp
  rw [List.take_add_one, h, List.flatMap_append]
  simp
end Nf
set_option maxRecDepth 100000 in
set_option maxHeartbeats 4000000 in
theorem decompose_any (l : List Int) (A : Option Addr) (c : Nat) (w : World) (hr : Reads w w.heap.size 1 A l.length (intVs l)) (hok : ∀ x ∈ l, Nf.Ok x) (hn : l.length ≤ 1000000) :
    Calls Try.prog 81 #[.slice A l.length c] w fun e w' => ∃ A' c', e = .returned (.slice A' (Nf.decomp l).length c') ∧ w'.ownsRow w.heap.size 3 1 (.slice A' (Nf.decomp l).length c') (Nf.decomp l).length (intVs (Nf.decomp l)) ∧ Below w.heap.size w w' := by
  have HR := hide hr
  have HOk := hide hok
  clear hr hok
  obtain ⟨N, hN⟩ : ∃ N, l.length = N := ⟨_, rfl⟩
  rw [hN] at hn HR ⊢
  have HN := hide hN
  clear hN
  have HW0 := hide (show TA (w.alloc (.cells #[.slice none 0 0] 140)) w.heap.size w.heap.size [] none 0 from ⟨Blk.new _ _ _, World.ownsRow_nil _ _ _ _, by simp⟩)
  have HB0 := hide (below_alloc w (.cells #[.slice none 0 0] 140))
  go_enter Try.func81, Try.ntmps81
  go_wp2
  go_loopg [10] N (fun gk vk wr => ∃ (j : Nat) (A' : Option Addr) (c' : Nat), gk = N - j ∧ j ≤ N ∧ vk = .int .i64 (j : Int) ∧ TA wr w.heap.size w.heap.size (Nf.decomp (l.take j)) A' c' ∧ Below w.heap.size w wr)
  case atStart => exact ⟨0, none, 0, rfl, by omega, rfl, HW0.out, HB0.out⟩
  case round =>
    obtain ⟨j, A', c', hgk, hj, rfl, ht, hb⟩ := hrel
    have Hg := hide hgk
    have HT := hide ht
    have HB := hide hb
    clear hgk ht hb
    by_cases hlt : j < N
    · obtain ⟨a, ha⟩ : ∃ a, l[j]? = some a := ⟨_, List.getElem?_eq_getElem (by rw [HN.out]; exact hlt)⟩
      obtain ⟨gb, off, rfl, hgl, hcell⟩ := HR.out.2 (by omega)
      have y0 : wr.cell? ⟨gb, off + j, none⟩ = some (.int .i64 a) := (HB.out.cell hgl).trans (hcell j _ (by unfold intVs; rw [List.getElem?_map, ha]; rfl))
      have HD := hide (Nf.decomp_next ha)
      have hlen := Nf.decomp_len (l.take (j + 1))
      have hl2 : (Nf.decomp (l.take j)).length + (Nf.parts a).length ≤ 100000000 := by
        rw [← List.length_append, ← HD.out]
        have := List.length_take_le (j + 1) l
        have := HN.out
        omega
      have HA := hide (fun (W : World) (h : TA W w.heap.size w.heap.size (Nf.decomp (l.take j)) A' c') => apart_any w.heap.size w.heap.size 4 a _ _ A' c' W (Nf.parts_is a) (HOk.out a (List.mem_of_getElem? ha)) h hl2)
      clear hcell ha hlen hl2
      go_wp2_with fail
      refine (HA.out _ HT.out).mono ?_
      rintro e w2 ⟨A2, c2, rfl, ht2, hb2⟩
      have HT2 := hide ht2
      have HB2 := hide hb2
      clear ht2 hb2
      go_wp2
      go_roundg (N - (j + 1))
      case measure => have := Hg.out; omega
      case rel => exact ⟨j + 1, A2, c2, rfl, by omega, by first | rfl | go_num, by rw [HD.out]; exact HT2.out, HB.out.trans (HB2.out.below (Nat.le_refl _) (Nat.le_refl _) HT.out.base)⟩
    · have hjN : j = N := by omega
      subst hjN
      have q0 := HT.out.blk.cell 0
      go_wp2
      go_ret
      have hx := HT.out
      rw [List.take_of_length_le (by rw [HN.out]; exact Nat.le_refl _)] at hx ⊢
      exact ⟨_, _, rfl, hx.own, HB.out⟩
theorem decomp_one (r : Int) : Nf.decomp [r] = Nf.parts r := by simp [Nf.decomp]
set_option maxRecDepth 100000 in
set_option maxHeartbeats 4000000 in
theorem parts_any (r : Int) (w : World) (hr : Nf.Ok r) :
    Calls Try.prog 72 #[.int .i64 r] w fun e w' => ∃ A' c', e = .returned (.slice A' (Nf.parts r).length c') ∧ w'.ownsRow w.heap.size 3 1 (.slice A' (Nf.parts r).length c') (Nf.parts r).length (intVs (Nf.parts r)) ∧ Below w.heap.size w w' := by
  have HD := hide (decompose_any [r] (some ⟨w.heap.size, 0, none⟩) 1 (w.alloc (.cells #[.int .i64 r] 3)) (reads_newI w [r]) (by intro x hx; rw [List.mem_singleton] at hx; subst hx; exact hr) (by simp))
  rw [decomp_one] at HD
  have HB := hide (below_alloc w (.cells #[.int .i64 r] 3))
  go_enter Try.func72, Try.ntmps72
  go_wp2_with fail
  refine HD.out.mono ?_
  rintro e w2 ⟨A', c', rfl, ho, hb⟩
  have HO := hide ho
  have HB2 := hide hb
  clear ho hb
  go_wp2
  go_ret
  exact ⟨_, _, rfl, HO.out.mono (by simp), HB.out.trans (HB2.out.mono (by simp))⟩
end Go.Proofs.Ytheaknghgpafpaa
namespace Go.Proofs.Ytheaknghgpafpaa
namespace Nf
/-- The same of each class, in the same order. -/
def Same (a b : List Int) : Prop := ∀ c, b.filter (fun x => decide (cls x = c)) = a.filter (fun x => decide (cls x = c))
def Up (l : List Int) : Prop := l.Pairwise fun x y => cls x ≤ cls y
theorem Same.refl (a : List Int) : Same a a := fun _ => rfl
theorem Same.trans {a b c : List Int} (h : Same a b) (k : Same b c) : Same a c := fun n => (k n).trans (h n)
theorem Same.symm {a b : List Int} (h : Same a b) : Same b a := fun n => (h n).symm
theorem Same.app {a b c d : List Int} (h : Same a b) (k : Same c d) : Same (a ++ c) (b ++ d) := fun n => by
  rw [List.filter_append, List.filter_append, h n, k n]
theorem Same.mem {a b : List Int} (h : Same a b) (x : Int) : x ∈ b ↔ x ∈ a := by
  have e := h (cls x)
  have f : ∀ l : List Int, x ∈ l.filter (fun y => decide (cls y = cls x)) ↔ x ∈ l := fun l => by simp
  rw [← f b, e, f a]
theorem same_rot {u v : List Int} (h : ∀ x ∈ u, ∀ y ∈ v, cls x ≠ cls y) : Same (u ++ v) (v ++ u) := fun n => by
  rw [List.filter_append, List.filter_append]
  by_cases hu : u.filter (fun x => decide (cls x = n)) = []
  · rw [hu, List.nil_append, List.append_nil]
  · have hv : v.filter (fun x => decide (cls x = n)) = [] := by
      obtain ⟨x, hx⟩ := List.exists_mem_of_ne_nil _ hu
      rw [List.mem_filter] at hx
      rw [List.filter_eq_nil_iff]
      intro y hy hc
      exact h x hx.1 y hy ((of_decide_eq_true hx.2).trans (of_decide_eq_true hc).symm)
    rw [hv, List.nil_append, List.append_nil]
/-- There is one. -/
theorem up_uniq : ∀ {a b : List Int}, Up a → Up b → Same a b → b = a
  | [], b, _, _, h => by
    cases b with
    | nil => rfl
    | cons y b => exact absurd ((h.mem y).1 (List.mem_cons_self ..)) (by simp)
  | x :: a, b, ha, hb, h => by
    cases b with
    | nil => exact absurd ((h.mem x).2 (List.mem_cons_self ..)) (by simp)
    | cons y b =>
      unfold Up at ha hb
      rw [List.pairwise_cons] at ha hb
      have h1 : cls x ≤ cls y := by
        rcases List.mem_cons.1 ((h.mem y).1 (List.mem_cons_self ..)) with e | hm
        · rw [e]; exact Int.le_refl _
        · exact ha.1 _ hm
      have h2 : cls y ≤ cls x := by
        rcases List.mem_cons.1 ((h.mem x).2 (List.mem_cons_self ..)) with e | hm
        · rw [e]; exact Int.le_refl _
        · exact hb.1 _ hm
      have he : cls x = cls y := Int.le_antisymm h1 h2
      have e := h (cls x)
      rw [List.filter_cons, List.filter_cons, if_pos (by simp [he]), if_pos (by simp)] at e
      injection e with exy _
      subst exy
      have : Same a b := fun n => by
        have e := h n
        rw [List.filter_cons, List.filter_cons] at e
        split at e
        · injection e
        · exact e
      rw [up_uniq ha.2 hb.2 this]
theorem ins_same (x : Int) : ∀ l : List Int, Up l → Same (l ++ [x]) (ins x l)
  | [], _ => Same.refl _
  | y :: l, h => by
    rw [ins]
    unfold Up at h
    rw [List.pairwise_cons] at h
    split
    · rename_i hc
      have : Same ((y :: l) ++ [x]) ([x] ++ (y :: l)) := same_rot (by
        intro a ha b hb
        rw [List.mem_singleton] at hb
        subst hb
        rcases List.mem_cons.1 ha with rfl | ha
        · omega
        · have := h.1 _ ha; omega)
      exact this
    · exact (Same.refl [y]).app (ins_same x l h.2)
theorem ins_up (x : Int) : ∀ l : List Int, Up l → Up (ins x l)
  | [], _ => by unfold ins Up; simp
  | y :: l, h => by
    rw [ins]
    have h0 := h
    unfold Up at h
    rw [List.pairwise_cons] at h
    split
    · rename_i hc
      unfold Up
      rw [List.pairwise_cons]
      refine ⟨fun a ha => ?_, h0⟩
      rcases List.mem_cons.1 ha with rfl | ha
      · omega
      · have := h.1 _ ha; omega
    · rename_i hc
      unfold Up
      rw [List.pairwise_cons]
      refine ⟨fun a ha => ?_, ins_up x l h.2⟩
      have := ((ins_same x l h.2).mem a).1 ha
      rcases List.mem_append.1 this with hm | hm
      · exact h.1 _ hm
      · rw [List.mem_singleton] at hm; subst hm; omega
theorem sortR_go : ∀ (l acc : List Int), Up acc → Up (l.foldl (fun acc x => ins x acc) acc) ∧ Same (acc ++ l) (l.foldl (fun acc x => ins x acc) acc)
  | [], acc, h => ⟨h, by rw [List.append_nil]; exact Same.refl _⟩
  | x :: l, acc, h => by
    obtain ⟨h1, h2⟩ := sortR_go l (ins x acc) (ins_up x acc h)
    refine ⟨h1, ?_⟩
    have : Same ((acc ++ [x]) ++ l) (ins x acc ++ l) := (ins_same x acc h).app (Same.refl l)
    rw [List.append_assoc] at this
    exact this.trans h2
theorem sortR_up (l : List Int) : Up (sortR l) := (sortR_go l [] (by unfold Up; exact .nil)).1
theorem sortR_same (l : List Int) : Same l (sortR l) := (sortR_go l [] (by unfold Up; exact .nil)).2
/-- What is rising and the same is the sort. -/
theorem sortR_is {l m : List Int} (h : Up m) (k : Same l m) : m = sortR l := up_uniq (sortR_up l) h ((sortR_same l).symm.trans k)
theorem Same.length {a b : List Int} (h : Same a b) : b.length = a.length := by
  have e : sortR b = sortR a := up_uniq (sortR_up a) (sortR_up b) ((sortR_same a).symm.trans (h.trans (sortR_same b)))
  have ins_len : ∀ (x : Int) (l : List Int), (ins x l).length = l.length + 1 := fun x l => by
    induction l with
    | nil => rfl
    | cons y l ih => rw [ins]; split <;> simp [ih]
  have go : ∀ (l acc : List Int), (l.foldl (fun acc x => ins x acc) acc).length = acc.length + l.length := fun l => by
    induction l with
    | nil => intro acc; rfl
    | cons x l ih => intro acc; rw [List.foldl_cons, ih, ins_len, List.length_cons]; omega
  have := congrArg List.length e
  unfold sortR at this
  rw [go, go] at this
  simpa using this
theorem Up.app {a b : List Int} (ha : Up a) (hb : Up b) (h : ∀ x ∈ a, ∀ y ∈ b, cls x ≤ cls y) : Up (a ++ b) := List.pairwise_append.2 ⟨ha, hb, h⟩
theorem Up.left {a b : List Int} (h : Up (a ++ b)) : Up a := (List.pairwise_append.1 h).1
theorem Up.right {a b : List Int} (h : Up (a ++ b)) : Up b := (List.pairwise_append.1 h).2.1
theorem Up.cross {a b : List Int} (h : Up (a ++ b)) {x y : Int} (hx : x ∈ a) (hy : y ∈ b) : cls x ≤ cls y := (List.pairwise_append.1 h).2.2 x hx y hy
/-- Rising, told by places. -/
theorem Up.at_ {l : List Int} (h : Up l) {i j : Nat} {x y : Int} (hi : l[i]? = some x) (hj : l[j]? = some y) (hij : i ≤ j) : cls x ≤ cls y := by
  obtain ⟨i1, e1⟩ := List.getElem?_eq_some_iff.1 hi
  obtain ⟨j1, e2⟩ := List.getElem?_eq_some_iff.1 hj
  rcases Nat.lt_or_eq_of_le hij with hlt | rfl
  · have := List.pairwise_iff_getElem.1 h i j i1 j1 hlt
    rwa [e1, e2] at this
  · rw [← e1, ← e2]; exact Int.le_refl _
/-- A swap of two places. -/
theorem swap_at (P Q R : List Int) (x y : Int) {i j : Nat} (hi : i = P.length) (hj : j = P.length + 1 + Q.length) : ((P ++ x :: (Q ++ y :: R)).set i y).set j x = P ++ y :: (Q ++ x :: R) := by
  subst hi; subst hj
  rw [List.set_append_right _ _ (Nat.le_refl _), Nat.sub_self, List.set_cons_zero, List.set_append_right _ _ (by omega), show P.length + 1 + Q.length - P.length = Q.length + 1 by omega, List.set_cons_succ, List.set_append_right _ _ (Nat.le_refl _), Nat.sub_self, List.set_cons_zero]
end Nf
end Go.Proofs.Ytheaknghgpafpaa
namespace Go.Proofs.Ytheaknghgpafpaa
open Go.RowKit Go.WideShapes

/-- Numbers within a block, from a cell on. -/
structure SRow (w : World) (g off : Nat) (pre post : List Value) (l : List Int) : Prop where
  blk : Blk w g 3 (pre ++ intVs l ++ post).toArray
  off_ : pre.length = off
section
variable {w w' : World} {g off : Nat} {pre post : List Value} {l : List Int}
theorem SRow.at_ (h : SRow w g off pre post l) {j : Nat} {x : Int} (hj : l[j]? = some x) : w.cell? ⟨g, off + j, none⟩ = some (.int .i64 x) := by
  obtain ⟨h1, _⟩ := List.getElem?_eq_some_iff.1 hj
  rw [h.blk.cell, List.getElem?_toArray, ← h.off_, List.getElem?_append_left (by rw [List.length_append, intVs_len]; omega), List.getElem?_append_right (by omega), Nat.add_sub_cancel_left]
  unfold intVs
  rw [List.getElem?_map, hj]; rfl
theorem SRow.frozen (h : SRow w g off pre post l) (j : Nat) : w.frozen? ⟨g, j, none⟩ = false := h.blk.frozen j
theorem SRow.drew (h : SRow w g off pre post l) : SRow w.drew g off pre post l := ⟨h.blk.drew, h.off_⟩
theorem SRow.set_ (h : SRow w g off pre post l) {j : Nat} (hj : j < l.length) (x : Int) : SRow (w.setCell ⟨g, off + j, none⟩ (.int .i64 x)) g off pre post (l.set j x) := by
  refine ⟨?_, h.off_⟩
  have := h.blk.set_ (off + j) (.int .i64 x)
  have e : (pre ++ intVs l ++ post).toArray.setIfInBounds (off + j) (Value.int .i64 x) = (pre ++ intVs (l.set j x) ++ post).toArray := by
    apply Array.ext'
    rw [Array.toList_setIfInBounds]
    show (pre ++ intVs l ++ post).set (off + j) _ = pre ++ intVs (l.set j x) ++ post
    rw [← h.off_, List.append_assoc, List.append_assoc, List.set_append_right _ _ (by omega), Nat.add_sub_cancel_left, List.set_append_left _ _ (by rw [intVs_len]; exact hj)]
    unfold intVs
    rw [List.map_set]
  rwa [e] at this
end
theorem swapped {w : World} {g off : Nat} {pre post : List Value} {P Q R : List Int} {x y : Int} {i j : Nat} (h : SRow w g off pre post (P ++ x :: (Q ++ y :: R))) (hi : i = P.length) (hj : j = P.length + 1 + Q.length) :
    SRow ((w.setCell ⟨g, off + i, none⟩ (.int .i64 y)).setCell ⟨g, off + j, none⟩ (.int .i64 x)) g off pre post (P ++ y :: (Q ++ x :: R)) := by
  have h1 := h.set_ (j := i) (by simp; omega) y
  have h2 := h1.set_ (j := j) (by rw [List.length_set]; simp; omega) x
  rwa [Nf.swap_at P Q R x y hi hj] at h2
/-- The same, the later place first. -/
theorem swapped2 {w : World} {g off : Nat} {pre post : List Value} {P Q R : List Int} {x y : Int} {i j : Nat} (h : SRow w g off pre post (P ++ x :: (Q ++ y :: R))) (hi : i = P.length) (hj : j = P.length + 1 + Q.length) :
    SRow ((w.setCell ⟨g, off + j, none⟩ (.int .i64 x)).setCell ⟨g, off + i, none⟩ (.int .i64 y)) g off pre post (P ++ y :: (Q ++ x :: R)) := by
  have h1 := h.set_ (j := j) (by simp; omega) x
  have h2 := h1.set_ (j := i) (by rw [List.length_set]; simp; omega) y
  rw [List.set_comm _ _ (by omega), Nf.swap_at P Q R x y hi hj] at h2
  exact h2
theorem take_drop_next {l : List Int} {i : Nat} {x : Int} (h : l[i]? = some x) : l.drop i = x :: l.drop (i + 1) := by
  obtain ⟨h1, h2⟩ := List.getElem?_eq_some_iff.1 h
  rw [List.drop_eq_getElem_cons h1, h2]
theorem take_next {l : List Int} {i : Nat} {x : Int} (h : l[i]? = some x) : l.take (i + 1) = l.take i ++ [x] := by
  rw [List.take_add_one, h]; rfl
/-- A part of the way through a swap of ranges. -/
def swapAt (A U M V B : List Int) (i : Nat) : List Int := A ++ (V.take i ++ (U.drop i ++ (M ++ (U.take i ++ (V.drop i ++ B)))))
theorem swapAt_cut (A U M V B : List Int) {i : Nat} {x y : Int} (hx : U[i]? = some x) (hy : V[i]? = some y) :
    swapAt A U M V B i = (A ++ V.take i) ++ x :: ((U.drop (i + 1) ++ (M ++ U.take i)) ++ y :: (V.drop (i + 1) ++ B)) ∧
    swapAt A U M V B (i + 1) = (A ++ V.take i) ++ y :: ((U.drop (i + 1) ++ (M ++ U.take i)) ++ x :: (V.drop (i + 1) ++ B)) := by
  unfold swapAt
  rw [take_drop_next hx, take_drop_next hy, take_next hx, take_next hy]
  constructor <;> simp [List.append_assoc]
set_option maxRecDepth 100000 in
set_option maxHeartbeats 8000000 in
theorem swapRange_any (A U M V B : List Int) (pre post : List Value) (g off cap n a b k : Nat) (fv : Value) (w : World) (h : SRow w g off pre post (A ++ (U ++ (M ++ (V ++ B))))) (hn : n = A.length + U.length + M.length + V.length + B.length)
    (ha : a = A.length) (hb : b = A.length + U.length + M.length) (hk : k = U.length) (hk2 : k = V.length) (hs : n ≤ 1000000000) :
    Calls Try.prog 92 #[.slice (some ⟨g, off, none⟩) n cap, .int .i64 a, .int .i64 b, .int .i64 k, fv] w fun e w' => e = .returned (.tuple #[]) ∧ SRow w' g off pre post (A ++ (V ++ (M ++ (U ++ B)))) ∧ But g w w' := by
  have HR := hide h
  have Hn := hide hn
  have Ha := hide ha
  have Hb := hide hb
  have Hk := hide hk
  have Hk2 := hide hk2
  have hbk : b + k ≤ n := by omega
  have hak : a + k ≤ b := by omega
  clear h hn ha hb hk hk2
  go_enter Try.func92, Try.ntmps92
  go_wp2
  go_loopg [10] k (fun gk vk wr => ∃ i : Nat, gk = k - i ∧ i ≤ k ∧ vk = .int .i64 (i : Int) ∧ SRow wr g off pre post (swapAt A U M V B i) ∧ But g w wr)
  case atStart => exact ⟨0, rfl, by omega, rfl, by unfold swapAt; simpa using HR.out, But.refl _ _⟩
  case round =>
    obtain ⟨i, hgk, hi, rfl, hr, hbt⟩ := hrel
    have Hg := hide hgk
    have HI := hide hr
    have HB := hide hbt
    clear hgk hr hbt
    by_cases hlt : i < k
    · obtain ⟨x, hx⟩ : ∃ x, U[i]? = some x := ⟨_, List.getElem?_eq_getElem (by have := Hk.out; omega)⟩
      obtain ⟨y, hy⟩ : ∃ y, V[i]? = some y := ⟨_, List.getElem?_eq_getElem (by have := Hk2.out; omega)⟩
      obtain ⟨e1, e2⟩ := swapAt_cut A U M V B hx hy
      have hvl : (V.take i).length = i := by rw [List.length_take]; have := Hk2.out; omega
      have hul : (U.take i).length = i := by rw [List.length_take]; have := Hk.out; omega
      have hud : (U.drop (i + 1)).length = k - (i + 1) := by rw [List.length_drop]; have := Hk.out; omega
      obtain ⟨p, hp⟩ : ∃ p, p = a + i := ⟨_, rfl⟩
      obtain ⟨q, hq⟩ : ∃ q, q = b + i := ⟨_, rfl⟩
      have P1 : p = (A ++ V.take i).length := by rw [List.length_append, hvl, hp, Ha.out]
      have P2 : q = (A ++ V.take i).length + 1 + (U.drop (i + 1) ++ (M ++ U.take i)).length := by
        rw [List.length_append, List.length_append, List.length_append, hvl, hul, hud, hq, Hb.out, ← Hk.out]; omega
      have hz1 : IntKind.i64.wrap ((a : Int) + (i : Int)) = (p : Int) := by rw [IntWalk.i64_in _ (by omega)]; omega
      have hz2 : IntKind.i64.wrap ((b : Int) + (i : Int)) = (q : Int) := by rw [IntWalk.i64_in _ (by omega)]; omega
      have hpn : p < n := by omega
      have hqn : q < n := by omega
      have hrow := HI.out
      rw [e1] at hrow
      have c1 : wr.cell? ⟨g, off + p, none⟩ = some (.int .i64 x) := hrow.at_ (by rw [P1, List.getElem?_append_right (Nat.le_refl _), Nat.sub_self]; rfl)
      have c2 : wr.cell? ⟨g, off + q, none⟩ = some (.int .i64 y) := hrow.at_ (by rw [P2, List.getElem?_append_right (by omega), show (A ++ V.take i).length + 1 + (U.drop (i + 1) ++ (M ++ U.take i)).length - (A ++ V.take i).length = (U.drop (i + 1) ++ (M ++ U.take i)).length + 1 by omega, List.getElem?_cons_succ, List.getElem?_append_right (Nat.le_refl _), Nat.sub_self]; rfl)
      have f1 := hrow.frozen (off + p)
      have f2 := hrow.frozen (off + q)
      have N1 := hide (swapped hrow P1 P2)
      rw [← e2] at N1
      have c3 : ∃ u, (wr.setCell ⟨g, off + p, none⟩ (.int .i64 y)).cell? ⟨g, off + q, none⟩ = some u := by
        have := (hrow.set_ (j := p) (by rw [P1]; simp) y).at_ (j := q) (x := y) (by rw [List.getElem?_set_ne (by omega), P2, List.getElem?_append_right (by omega), show (A ++ V.take i).length + 1 + (U.drop (i + 1) ++ (M ++ U.take i)).length - (A ++ V.take i).length = (U.drop (i + 1) ++ (M ++ U.take i)).length + 1 by omega, List.getElem?_cons_succ, List.getElem?_append_right (Nat.le_refl _), Nat.sub_self]; rfl)
        exact ⟨_, this⟩
      obtain ⟨u3, c3⟩ := c3
      have HBn := hide (show But g w ((wr.setCell ⟨g, off + p, none⟩ (.int .i64 y)).setCell ⟨g, off + q, none⟩ (.int .i64 x)) from (HB.out.setCell (.inl rfl) _).setCell (.inl rfl) _)
      clear hx hy e1 e2 hvl hul hud hp hq P1 P2 hrow
      go_wp2
      go_region
      go_wp2
      go_roundg (k - (i + 1))
      case measure => have := Hg.out; omega
      case rel => exact ⟨i + 1, rfl, by omega, by first | rfl | go_num, N1.out.drew, HBn.out.drew⟩
    · have hik : i = k := by omega
      subst hik
      go_wp2
      go_end0
      have hr := HI.out
      unfold swapAt at hr
      rw [List.take_of_length_le (by have := Hk2.out; omega), List.take_of_length_le (by have := Hk.out; omega), List.drop_of_length_le (by have := Hk.out; omega), List.drop_of_length_le (by have := Hk2.out; omega)] at hr
      exact ⟨rfl, by simpa using hr, HB.out⟩
theorem rot_take (A U V B : List Int) (j : Nat) : A ++ V ++ (U.take j ++ (U.drop j ++ B)) = A ++ (V ++ (U ++ B)) := by
  rw [← List.append_assoc (U.take j), List.take_append_drop, List.append_assoc]
set_option maxRecDepth 100000 in
set_option maxHeartbeats 8000000 in
theorem rotate_any (A U V B : List Int) (pre post : List Value) (g off cap n a m b : Nat) (fv : Value) (w : World) (h : SRow w g off pre post (A ++ (U ++ (V ++ B)))) (hn : n = A.length + U.length + V.length + B.length)
    (ha : a = A.length) (hm : m = A.length + U.length) (hb : b = A.length + U.length + V.length) (hU : 0 < U.length) (hV : 0 < V.length) (hs : n ≤ 1000000000) :
    Calls Try.prog 90 #[.slice (some ⟨g, off, none⟩) n cap, .int .i64 a, .int .i64 m, .int .i64 b, fv] w fun e w' => e = .returned (.tuple #[]) ∧ SRow w' g off pre post (A ++ (V ++ (U ++ B))) ∧ But g w w' := by
  have HR := hide h
  have Hn := hide hn
  obtain ⟨Lu, hLu⟩ : ∃ k, U.length = k := ⟨_, rfl⟩
  obtain ⟨Lv, hLv⟩ : ∃ k, V.length = k := ⟨_, rfl⟩
  have Hu := hide hLu
  have Hv := hide hLv
  have Ha := hide ha
  have Hm := hide hm
  have hma : IntKind.i64.wrap ((m : Int) - (a : Int)) = (Lu : Int) := by rw [IntWalk.i64_in _ (by omega)]; omega
  have hbm : IntKind.i64.wrap ((b : Int) - (m : Int)) = (Lv : Int) := by rw [IntWalk.i64_in _ (by omega)]; omega
  have hmn : m + Lv ≤ n := by omega
  have hmu : Lu ≤ m := by omega
  have hU' : 0 < Lu := by omega
  have hV' : 0 < Lv := by omega
  have hbn : b ≤ n := by omega
  clear h hn ha hm hb hU hV hLu hLv
  go_enter Try.func90, Try.ntmps90
  go_wp2
  go_loopg [10, 11] (Lu + Lv) (fun gk vi vj wr => ∃ (i j : Nat) (A1 U1 V1 B1 : List Int), gk = i + j ∧ vi = .int .i64 (i : Int) ∧ vj = .int .i64 (j : Int) ∧ 0 < i ∧ 0 < j ∧ i ≤ Lu ∧ j ≤ Lv ∧ SRow wr g off pre post (A1 ++ (U1 ++ (V1 ++ B1))) ∧ U1.length = i ∧ V1.length = j ∧ A1.length + i = m ∧ (A1 ++ U1 ++ V1 ++ B1).length = n ∧ A1 ++ (V1 ++ (U1 ++ B1)) = A ++ (V ++ (U ++ B)) ∧ But g w wr)
  case atStart => exact ⟨Lu, Lv, A, U, V, B, rfl, rfl, rfl, hU', hV', Nat.le_refl _, Nat.le_refl _, HR.out, Hu.out, Hv.out, by have := Hm.out; have := Hu.out; omega, by have := Hn.out; simp only [List.length_append]; omega, rfl, But.refl _ _⟩
  case round =>
    obtain ⟨i, j, A1, U1, V1, B1, hgk, rfl, rfl, i0, j0, iu, jv, hr, hu1, hv1, ha1, hn1, he, hbt⟩ := hrel
    have Hg := hide hgk
    have HI := hide hr
    have HB := hide hbt
    have HE := hide he
    have Hu1 := hide hu1
    have Hv1 := hide hv1
    have Hn1 := hide (show n = A1.length + U1.length + V1.length + B1.length by rw [← hn1]; simp only [List.length_append])
    obtain ⟨al, hal⟩ : ∃ k, A1.length = k := ⟨_, rfl⟩
    rw [hal] at ha1
    have Hal := hide hal
    have Ham := hide ha1
    have z1 : IntKind.i64.wrap ((m : Int) - (i : Int)) = (al : Int) := by rw [IntWalk.i64_in _ (by omega)]; omega
    have alm : al ≤ m := by omega
    clear hgk hr hbt he hu1 hv1 hn1 hal ha1
    by_cases hij : i = j
    · subst hij
      have HS := hide (swapRange_any A1 U1 [] V1 B1 pre post g off cap n al m i fv wr (by simpa using HI.out) (by have := Hn1.out; simpa using this) Hal.out.symm (by have := Hal.out; have := Hu1.out; have := Ham.out; simp; omega) Hu1.out.symm Hv1.out.symm hs)
      go_wp2_with fail
      refine HS.out.mono ?_
      rintro e w2 ⟨rfl, hr2, hb2⟩
      have HR2 := hide hr2
      have HB2 := hide hb2
      clear hr2 hb2
      go_wp2
      go_end0
      refine ⟨rfl, ?_, HB.out.trans HB2.out⟩
      rw [← HE.out]
      simpa using HR2.out
    · have hijz : ¬ (i : Int) = (j : Int) := by omega
      by_cases hgt : j < i
      · have hgtz : (j : Int) < (i : Int) := by omega
        have z2 : IntKind.i64.wrap ((i : Int) - (j : Int)) = ((i - j : Nat) : Int) := by rw [IntWalk.i64_in _ (by omega)]; omega
        have hu2 : U1 = U1.take j ++ U1.drop j := (List.take_append_drop j U1).symm
        have hlt : (U1.take j).length = j := by rw [List.length_take]; have := Hu1.out; omega
        have hld : (U1.drop j).length = i - j := by rw [List.length_drop]; have := Hu1.out; omega
        have HS := hide (swapRange_any A1 (U1.take j) (U1.drop j) V1 B1 pre post g off cap n al m j fv wr (by rw [← List.append_assoc (U1.take j), ← hu2]; exact HI.out) (by have := Hn1.out; have := Hu1.out; omega) Hal.out.symm (by have := Hal.out; have := Hu1.out; have := Ham.out; omega) hlt.symm Hv1.out.symm hs)
        have HE2 := hide (show A1 ++ V1 ++ (U1.take j ++ (U1.drop j ++ B1)) = A ++ (V ++ (U ++ B)) from (rot_take A1 U1 V1 B1 j).trans HE.out)
        have Hlt := hide hlt
        have Hld := hide hld
        obtain ⟨d, hd⟩ : ∃ d, i - j = d := ⟨_, rfl⟩
        rw [hd] at z2 Hld
        have Hd := hide hd
        clear hu2 hlt hld hd
        go_wp2_with fail
        refine HS.out.mono ?_
        rintro e w2 ⟨rfl, hr2, hb2⟩
        have HR2 := hide hr2
        have HB2 := hide hb2
        clear hr2 hb2
        go_wp2
        go_roundg (d + j)
        case measure => have := Hg.out; have := Hd.out; omega
        case rel =>
          refine ⟨d, j, A1 ++ V1, U1.drop j, U1.take j, B1, rfl, by first | rfl | go_num, by first | rfl | go_num, by have := Hd.out; omega, j0, by have := Hd.out; omega, jv, by simpa only [List.append_assoc] using HR2.out, Hld.out, Hlt.out, ?_, ?_, HE2.out, HB.out.trans HB2.out⟩
          · rw [List.length_append]; have := Hal.out; have := Hv1.out; have := Ham.out; have := Hd.out; omega
          · have := Hn1.out; have := Hu1.out; have := Hlt.out; have := Hld.out; have := Hd.out; simp only [List.length_append]; omega
      · have hgtz : ¬ (j : Int) < (i : Int) := by omega
        have z2 : IntKind.i64.wrap ((m : Int) + (j : Int)) = ((m + j : Nat) : Int) := by rw [IntWalk.i64_in _ (by omega)]; omega
        have z3 : IntKind.i64.wrap (((m + j : Nat) : Int) - (i : Int)) = ((m + j - i : Nat) : Int) := by rw [IntWalk.i64_in _ (by omega)]; omega
        have z4 : IntKind.i64.wrap ((j : Int) - (i : Int)) = ((j - i : Nat) : Int) := by rw [IntWalk.i64_in _ (by omega)]; omega
        have hv2 : V1 = V1.take (j - i) ++ V1.drop (j - i) := (List.take_append_drop (j - i) V1).symm
        have hlt : (V1.take (j - i)).length = j - i := by rw [List.length_take]; have := Hv1.out; omega
        have hld : (V1.drop (j - i)).length = i := by rw [List.length_drop]; have := Hv1.out; omega
        have HS := hide (swapRange_any A1 U1 (V1.take (j - i)) (V1.drop (j - i)) B1 pre post g off cap n al (m + j - i) i fv wr (by rw [← List.append_assoc (V1.take (j - i)), ← hv2]; exact HI.out) (by have := Hn1.out; have := Hv1.out; omega) Hal.out.symm (by have := Hal.out; have := Hu1.out; have := Ham.out; omega) Hu1.out.symm hld.symm hs)
        have HE2 := hide (show A1 ++ (V1.take (j - i) ++ (V1.drop (j - i) ++ (U1 ++ B1))) = A ++ (V ++ (U ++ B)) by rw [← HE.out, ← List.append_assoc (V1.take (j - i)), ← hv2])
        have Hlt := hide hlt
        have Hld := hide hld
        obtain ⟨d, hd⟩ : ∃ d, j - i = d := ⟨_, rfl⟩
        rw [hd] at z4 Hlt HS Hld HE2
        have Hd := hide hd
        obtain ⟨s1, hs1⟩ : ∃ d, m + j = d := ⟨_, rfl⟩
        rw [hs1] at z2 z3 HS
        obtain ⟨s2, hs2⟩ : ∃ d, s1 - i = d := ⟨_, rfl⟩
        rw [hs2] at z3 HS
        clear hv2 hlt hld hd hs1 hs2
        go_wp2_with fail
        refine HS.out.mono ?_
        rintro e w2 ⟨rfl, hr2, hb2⟩
        have HR2 := hide hr2
        have HB2 := hide hb2
        clear hr2 hb2
        go_wp2
        go_roundg (d + i)
        case measure => have := Hg.out; have := Hd.out; omega
        case rel =>
          refine ⟨i, d, A1, V1.drop d, V1.take d, U1 ++ B1, by omega, by first | rfl | go_num, by first | rfl | go_num, i0, by have := Hd.out; omega, iu, by have := Hd.out; omega, HR2.out, Hld.out, Hlt.out, Ham.out ▸ (by have := Hal.out; omega), ?_, HE2.out, HB.out.trans HB2.out⟩
          have := Hn1.out; have := Hv1.out; have := Hlt.out; have := Hld.out; have := Hd.out; simp only [List.length_append]; omega
end Go.Proofs.Ytheaknghgpafpaa
