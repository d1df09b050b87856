/- The document's Same (of feeds). · Plain: a feed's document tells the feed (no program). · Plain: stamps tell their second (no program). · Plain: a feed's document tells the feed; without its last entry it is shorter (no program). -/
import Derived.Test.YtheaknghgpafpaaWv19
import Derived.Test.YtheaknghgpafpaaWv20
set_option linter.unusedSimpArgs false
set_option linter.unusedVariables false
namespace Go.Proofs.Ytheaknghgpafpaa
open Go.RowKit Go.WideShapes

theorem eq_takeW {α : Type} {l l' : List α} {k : Nat} (h1 : k < l.length) (h2 : k < l'.length) (ht : l.take k = l'.take k) (he : l[k] = l'[k]) : l.take (k + 1) = l'.take (k + 1) := by
  rw [List.take_succ_eq_append_getElem h1, List.take_succ_eq_append_getElem h2, ht, he]
theorem ne_atW {α : Type} {l l' : List α} {k : Nat} (h1 : k < l.length) (h2 : k < l'.length) (he : l[k] ≠ l'[k]) : l ≠ l' := by
  rintro rfl; exact he rfl
noncomputable def sameP (f g : Fd) : Bool := @decide (f = g) (Classical.propDecidable _)
theorem sameP_yes {f g : Fd} (h : f = g) : sameP f g = true := by unfold sameP; exact @decide_eq_true _ (Classical.propDecidable _) h
theorem sameP_no {f g : Fd} (h : f ≠ g) : sameP f g = false := by unfold sameP; exact @decide_eq_false _ (Classical.propDecidable _) h
set_option maxHeartbeats 8000000 in
set_option maxRecDepth 100000 in
theorem refSame26_any (f g : Fd) (A A' : Option Addr) (n c n' c' B : Nat) (w : World) (hR : Reads w B 7 A n (entVs f.es)) (hn : f.es.length = n) (hR' : Reads w B 7 A' n' (entVs g.es)) (hn' : g.es.length = n') (hB : B ≤ w.heap.size) (hm : n ≤ 1000000) :
    Calls Try.prog 8 #[.agg (f.cells A n c), .agg (g.cells A' n' c')] w fun e w' => e = .returned (.bool (sameP f g)) ∧ Below w.heap.size w w' := by
  have HO := hide ((below_alloc w (.cells (f.cells A n c) 26)).trans ((below_alloc _ (.cells (g.cells A' n' c') 26)).mono (by simp)))
  have HT := hide ((Blk.new w 26 (f.cells A n c)).alloc (.cells (g.cells A' n' c') 26))
  have hU := Blk.new (w.alloc (.cells (f.cells A n c) 26)) 26 (g.cells A' n' c')
  rw [World.size_alloc] at hU
  have HU := hide hU
  clear hU
  have HRd := hide hR
  have HRd' := hide hR'
  have Hn := hide hn
  have Hn' := hide hn'
  clear hR hR' hn hn'
  obtain ⟨v, hv⟩ : ∃ v, sameP f g = v := ⟨_, rfl⟩
  have HV := hide hv
  rw [hv]
  clear hv
  obtain ⟨id, ti, lk, k, s, es⟩ := f
  obtain ⟨id', ti', lk', k', s', es'⟩ := g
  unfold Fd.cells at HO HT HU ⊢
  dsimp only at HO HT HU HRd HRd' Hn Hn' ⊢
  have t0 := HT.out.cell 0
  have t1 := HT.out.cell 1
  have t2 := HT.out.cell 2
  have t3 := HT.out.cell 3
  have t4 := HT.out.cell 4
  have t5 := HT.out.cell 5
  have u0 := HU.out.cell 0
  have u1 := HU.out.cell 1
  have u2 := HU.out.cell 2
  have u3 := HU.out.cell 3
  have u4 := HU.out.cell 4
  have u5 := HU.out.cell 5
  by_cases h1 : id = id'
  rotate_left
  · have hb := bstr_beq h1
    have hvf : v = false := HV.out.symm.trans (sameP_no (fun e => h1 (by injection e)))
    subst hvf
    clear h1
    go_enter Try.func8, Try.ntmps8
    go_wp2
    go_ret
    exact ⟨rfl, HO.out⟩
  subst h1
  by_cases h2 : ti = ti'
  rotate_left
  · have hb := bstr_beq h2
    have hvf : v = false := HV.out.symm.trans (sameP_no (fun e => h2 (by injection e)))
    subst hvf
    clear h2
    go_enter Try.func8, Try.ntmps8
    go_wp2
    go_ret
    exact ⟨rfl, HO.out⟩
  subst h2
  by_cases h3 : lk = lk'
  rotate_left
  · have hb := bstr_beq h3
    have hvf : v = false := HV.out.symm.trans (sameP_no (fun e => h3 (by injection e)))
    subst hvf
    clear h3
    go_enter Try.func8, Try.ntmps8
    go_wp2
    go_ret
    exact ⟨rfl, HO.out⟩
  subst h3
  by_cases h4 : k = k'
  rotate_left
  · have hvf : v = false := HV.out.symm.trans (sameP_no (fun e => h4 (by injection e)))
    subst hvf
    go_enter Try.func8, Try.ntmps8
    go_wp2
    go_ret
    exact ⟨rfl, HO.out⟩
  subst h4
  by_cases h5 : s = s'
  rotate_left
  · have hvf : v = false := HV.out.symm.trans (sameP_no (fun e => h5 (by injection e)))
    subst hvf
    go_enter Try.func8, Try.ntmps8
    go_wp2
    go_ret
    exact ⟨rfl, HO.out⟩
  subst h5
  by_cases h6 : n = n'
  rotate_left
  · have hvf : v = false := HV.out.symm.trans (sameP_no (fun e => h6 (by injection e with _ _ _ _ _ e; rw [← Hn.out, ← Hn'.out, e])))
    subst hvf
    have hne : ((n : Int) == (n' : Int)) = false := by simp; omega
    go_enter Try.func8, Try.ntmps8
    go_wp2
    go_ret
    exact ⟨rfl, HO.out⟩
  subst h6
  have hz2 : ((w.alloc (.cells #[.string (bstr id), .string (bstr ti), .string (bstr lk), .bool k, .int .i64 s, .slice A n c] 26)).alloc (.cells #[.string (bstr id), .string (bstr ti), .string (bstr lk), .bool k, .int .i64 s, .slice A' n c'] 26)).heap.size = w.heap.size + 2 := by simp
  have HZ2 := hide hz2
  clear hz2
  go_enter Try.func8, Try.ntmps8
  go_wp2
  clear t0 t1 t2 t3 t4 t5 u0 u1 u2 u3 u4 u5
  generalize (w.alloc (.cells #[.string (bstr id), .string (bstr ti), .string (bstr lk), .bool k, .int .i64 s, .slice A n c] 26)).alloc (.cells #[.string (bstr id), .string (bstr ti), .string (bstr lk), .bool k, .int .i64 s, .slice A' n c'] 26) = W2 at HT HU HO HZ2 ⊢
  go_loopg [5] n (fun gk vi wr => ∃ i : Nat, gk = n - i ∧ i ≤ n ∧ vi = .int .i64 (i : Int) ∧ es.take i = es'.take i ∧ Below W2.heap.size W2 wr)
  case atStart => exact ⟨0, rfl, Nat.zero_le _, rfl, by simp, Below.refl _ _⟩
  case round =>
    obtain ⟨i, hg, hi, rfl, hq, kb⟩ := hrel
    have Hg := hide hg
    have Kb := hide kb
    have Hq := hide hq
    have t5 := (HT.out.go kb).cell 5
    have u5 := (HU.out.go kb).cell 5
    clear hg kb hq
    have hzr : W2.heap.size ≤ wr.heap.size := Kb.out.size
    have hkeep : ∀ p : Addr, p.block < B → wr.cell? p = w.cell? p := fun p hp => World.cell?_of_block ((Kb.out.block _ (by have := HZ2.out; omega)).trans (HO.out.block _ (by omega)))
    by_cases hlt : i < n
    · have h1 : i < es.length := by rw [Hn.out]; exact hlt
      have h2 : i < es'.length := by rw [Hn'.out]; exact hlt
      have hRw : Reads wr B 7 A es.length (entVs es) := by rw [Hn.out]; exact HRd.out.keep fun p hp => hkeep p hp
      have hRw' : Reads wr B 7 A' es'.length (entVs es') := by rw [Hn'.out]; exact HRd'.out.keep fun p hp => hkeep p hp
      obtain ⟨b, off, rfl, hbB, hx⟩ := hRw.ent h1
      obtain ⟨b', off', rfl, hbB', hy⟩ := hRw'.ent h2
      obtain ⟨x, ex⟩ : ∃ x, es[i] = x := ⟨_, rfl⟩
      obtain ⟨y, ey⟩ : ∃ x, es'[i] = x := ⟨_, rfl⟩
      rw [ex] at hx
      rw [ey] at hy
      have HS := hide (fun W => refSameEntry_any x y W)
      have HTk := hide (fun he : x = y => eq_takeW h1 h2 Hq.out (by rw [ex, ey, he]))
      have HNe := hide (fun he : x ≠ y => (fun h => ne_atW h1 h2 (by rw [ex, ey]; exact he) h : es ≠ es'))
      clear ex ey hRw hRw' hkeep
      obtain ⟨xi, xt, xl, xa, xc, xk, xs⟩ := x
      obtain ⟨yi, yt, yl, ya, yc, yk, ys⟩ := y
      unfold Ent.cells at HS
      dsimp only at HS
      have x0 := hx.c0
      have x1 := hx.c1
      have x2 := hx.c2
      have x3 := hx.c3
      have x4 := hx.c4
      have x5 := hx.c5
      have x6 := hx.c6
      have y0 := hy.c0
      have y1 := hy.c1
      have y2 := hy.c2
      have y3 := hy.c3
      have y4 := hy.c4
      have y5 := hy.c5
      have y6 := hy.c6
      dsimp only at x0 x1 x2 x3 x4 x5 x6 y0 y1 y2 y3 y4 y5 y6
      have i0 : (0 : Int) ≤ i := by omega
      have i1 : (i : Int) < n := by omega
      have Hw0 := hide (Kb.out.drew)
      clear hx hy
      obtain ⟨ev, hev⟩ : ∃ ev, eqE ⟨xi, xt, xl, xa, xc, xk, xs⟩ ⟨yi, yt, yl, ya, yc, yk, ys⟩ = ev := ⟨_, rfl⟩
      rw [hev] at HS
      have HEv := hide hev
      clear hev
      cases ev with
      | true =>
        have He := hide (HTk.out ((eqE_iff _ _).1 HEv.out))
        clear HTk HNe HEv
        go_wp2
        go_region_with ((go_at_call 17; refine (HS.out _).mono ?_; rintro e w1 ⟨rfl, hb1⟩; have Kb1 := hide (Hw0.out.trans (hb1.mono Hw0.out.size)); clear hb1))
        all_goals go_wp2
        all_goals
          go_roundg (n - (i + 1))
          case measure => have := Hg.out; omega
          case rel => exact ⟨i + 1, rfl, by omega, by go_num, He.out, Kb1.out⟩
      | false =>
        have hne : (⟨id, ti, lk, k, s, es⟩ : Fd) ≠ ⟨id, ti, lk, k, s, es'⟩ := fun h => HNe.out (fun he => by have := (eqE_iff _ _).2 he; rw [HEv.out] at this; cases this) (by injection h)
        have hvf : v = false := HV.out.symm.trans (sameP_no hne)
        subst hvf
        clear HTk HNe HEv hne
        go_wp2
        go_region_with ((go_at_call 17; refine (HS.out _).mono ?_; rintro e w1 ⟨rfl, hb1⟩; have Kb1 := hide (Hw0.out.trans (hb1.mono Hw0.out.size)); clear hb1))
        all_goals go_wp2
        all_goals
          go_ret
          exact ⟨rfl, HO.out.trans (Kb1.out.mono HO.out.size)⟩
    · have heq : es = es' := by
        have h := Hq.out
        rwa [List.take_of_length_le (by rw [Hn.out]; omega), List.take_of_length_le (by rw [Hn'.out]; omega)] at h
      have hvt : v = true := HV.out.symm.trans (sameP_yes (by rw [heq]))
      subst hvt
      clear heq
      go_wp2
      go_ret
      exact ⟨rfl, HO.out.trans (Kb.out.mono HO.out.size)⟩
end Go.Proofs.Ytheaknghgpafpaa
namespace Go.Proofs.Ytheaknghgpafpaa
open Go.RowKit

namespace Wr
theorem cut_at (c : UInt8) : ∀ (X Y r r' : List UInt8), c ∉ X → c ∉ Y → X ++ c :: r = Y ++ c :: r' → X = Y ∧ r = r'
  | [], [], r, r', _, _, h => by simpa using h
  | [], y :: Y, r, r', _, hY, h => by
    rw [List.nil_append, List.cons_append] at h
    injection h with h1 _
    exact absurd (by rw [h1]; simp) hY
  | x :: X, [], r, r', hX, _, h => by
    rw [List.nil_append, List.cons_append] at h
    injection h with h1 _
    exact absurd (by rw [h1]; simp) hX
  | x :: X, y :: Y, r, r', hX, hY, h => by
    rw [List.cons_append, List.cons_append] at h
    injection h with h1 h2
    have := cut_at c X Y r r' (fun e => hX (by simp [e])) (fun e => hY (by simp [e])) h2
    exact ⟨by rw [h1, this.1], this.2⟩
theorem esc_no60 (q : Bool) (c : UInt8) : (60 : UInt8) ∉ Tx.esc q c := by
  unfold Tx.esc
  repeat' split
  all_goals first | decide | (rw [List.mem_singleton]; intro e; simp_all)
theorem esc_no34 (c : UInt8) : (34 : UInt8) ∉ Tx.esc true c := by
  unfold Tx.esc
  repeat' split
  all_goals first | decide | (rw [List.mem_singleton]; intro e; simp_all)
theorem escape_no60 (q : Bool) (l : List UInt8) : (60 : UInt8) ∉ Tx.escape q l := by
  unfold Tx.escape
  rw [List.mem_flatMap]
  rintro ⟨c, _, h⟩
  exact esc_no60 q c h
theorem escape_no34 (l : List UInt8) : (34 : UInt8) ∉ Tx.escape true l := by
  unfold Tx.escape
  rw [List.mem_flatMap]
  rintro ⟨c, _, h⟩
  exact esc_no34 c h
theorem esc_cut (q : Bool) (c d : UInt8) (r r' : List UInt8) (h : Tx.esc q c ++ r = Tx.esc q d ++ r') : c = d ∧ r = r' := by
  unfold Tx.esc at h
  repeat' split at h
  all_goals simp_all
theorem esc_ne (q : Bool) (c : UInt8) : Tx.esc q c ≠ [] := by
  unfold Tx.esc
  repeat' split
  all_goals simp
theorem escape_inj (q : Bool) : ∀ (a b : List UInt8), Tx.escape q a = Tx.escape q b → a = b
  | [], [], _ => rfl
  | [], b :: l, h => by
    exfalso
    unfold Tx.escape at h
    rw [List.flatMap_cons, List.flatMap_nil] at h
    exact esc_ne q b (List.append_eq_nil_iff.1 h.symm).1
  | a :: l, [], h => by
    exfalso
    unfold Tx.escape at h
    rw [List.flatMap_cons, List.flatMap_nil] at h
    exact esc_ne q a (List.append_eq_nil_iff.1 h).1
  | a :: l, b :: l', h => by
    have h2 : Tx.esc q a ++ Tx.escape q l = Tx.esc q b ++ Tx.escape q l' := h
    obtain ⟨rfl, h3⟩ := esc_cut q a b _ _ h2
    rw [escape_inj q l l' h3]
theorem field_cut (nm t t' r r' : List UInt8) (h : field nm t ++ r = field nm t' ++ r') : t = t' ∧ r = r' := by
  have e : ∀ t r : List UInt8, field nm t ++ r = ([60] ++ nm ++ [62]) ++ (Tx.escape false t ++ 60 :: ([47] ++ nm ++ [62] ++ [10] ++ r)) := fun t r => by
    unfold field line
    simp
  rw [e, e] at h
  have h2 := List.append_cancel_left h
  obtain ⟨h3, h4⟩ := cut_at 60 _ _ _ _ (escape_no60 _ _) (escape_no60 _ _) h2
  exact ⟨escape_inj _ _ _ h3, List.append_cancel_left h4⟩
/-- How a tail starts. -/
def Starts (S : List UInt8) (r : List UInt8) : Prop := ∃ x r0, r = 60 :: x :: r0 ∧ x ∈ S
theorem Starts.more {S S' : List UInt8} {r : List UInt8} (h : Starts S r) (hs : ∀ x ∈ S, x ∈ S') : Starts S' r := by
  obtain ⟨x, r0, e, hx⟩ := h
  exact ⟨x, r0, e, hs x hx⟩
theorem field_starts (c : UInt8) (nm t r : List UInt8) : Starts [c] (field (c :: nm) t ++ r) := ⟨c, _, rfl, by simp⟩
theorem field_not {c : UInt8} {nm t r r' : List UInt8} {S : List UInt8} (hs : Starts S r') (hc : c ∉ S) (h : field (c :: nm) t ++ r = r') : False := by
  obtain ⟨x, r0, e, hx⟩ := hs
  rw [e] at h
  have h2 : (60 : UInt8) :: c :: (nm ++ [62] ++ Tx.escape false t ++ [60, 47] ++ (c :: nm) ++ [62] ++ [10] ++ r) = 60 :: x :: r0 := by
    rw [← h]
    unfold field line
    simp
  injection h2 with _ h2
  injection h2 with h2 _
  exact hc (h2 ▸ hx)
theorem link_cut {S S' : List UInt8} (t t' r r' : List UInt8) (hr : Starts S r) (hr' : Starts S' r') (hS : 108 ∉ S) (hS' : 108 ∉ S') (h : link t ++ r = link t' ++ r') : t = t' ∧ r = r' := by
  have e : ∀ (t r : List UInt8), t ≠ [] → link t ++ r = linkOpen ++ (Tx.escape true t ++ 34 :: ([47, 62] ++ [10] ++ r)) := fun t r ht => by
    unfold link line
    rw [if_neg ht]
    simp
  have e0 : ∀ r : List UInt8, link [] ++ r = r := fun r => by unfold link; rw [if_pos rfl]; rfl
  by_cases h1 : t = []
  · by_cases h2 : t' = []
    · subst h1 h2
      rw [e0, e0] at h
      exact ⟨rfl, h⟩
    · subst h1
      rw [e0, e _ _ h2] at h
      obtain ⟨x, r0, rfl, hx⟩ := hr
      unfold linkOpen at h
      simp only [List.cons_append] at h
      injection h with _ h
      injection h with h _
      exact absurd (h ▸ hx) hS
  · by_cases h2 : t' = []
    · subst h2
      rw [e0, e _ _ h1] at h
      obtain ⟨x, r0, rfl, hx⟩ := hr'
      unfold linkOpen at h
      simp only [List.cons_append] at h
      injection h with _ h
      injection h with h _
      exact absurd (h ▸ hx) hS'
    · rw [e _ _ h1, e _ _ h2] at h
      have h3 := List.append_cancel_left h
      obtain ⟨h4, h5⟩ := cut_at 34 _ _ _ _ (escape_no34 _) (escape_no34 _) h3
      exact ⟨escape_inj _ _ _ h4, List.append_cancel_left h5⟩
end Wr
end Go.Proofs.Ytheaknghgpafpaa
namespace Go.Proofs.Ytheaknghgpafpaa
open Go.RowKit

namespace Cv
/-- The days of a year, month by month. -/
theorem year_len (y : Int) (hy : 1 ≤ y ∧ y ≤ 9999) : count (y + 1) 1 1 - count y 1 1 = last y 1 + last y 2 + last y 3 + last y 4 + last y 5 + last y 6 + last y 7 + last y 8 + last y 9 + last y 10 + last y 11 + last y 12 := by
  have h : ∀ m : Int, last y m = if m = 2 then (if leap y then 29 else 28) else if m = 4 ∨ m = 6 ∨ m = 9 ∨ m = 11 then 30 else 31 := fun m => rfl
  simp only [h]
  simp only [show ¬ (1 : Int) = 2 by decide, show ¬ (3 : Int) = 2 by decide, show ¬ (4 : Int) = 2 by decide, show ¬ (5 : Int) = 2 by decide, show ¬ (6 : Int) = 2 by decide, show ¬ (7 : Int) = 2 by decide, show ¬ (8 : Int) = 2 by decide, show ¬ (9 : Int) = 2 by decide, show ¬ (10 : Int) = 2 by decide, show ¬ (11 : Int) = 2 by decide, show ¬ (12 : Int) = 2 by decide, if_false, if_true]
  simp
  unfold count days leap
  rw [if_pos (by omega), if_pos (by omega)]
  by_cases h4 : y % 4 = 0 <;> by_cases h100 : y % 100 = 0 <;> by_cases h400 : y % 400 = 0 <;> simp [h4, h100, h400] <;> omega
theorem yearL_stop (d : Int) : ∀ (k : Nat) (y : Int), 9999 - y < k → 1 ≤ y → y ≤ 9999 → (yearL d k y = 9999 ∨ d < count (yearL d k y + 1) 1 1)
  | 0, y, h, h1, h2 => by omega
  | k + 1, y, h, h1, h2 => by
    rw [yearL_succ]
    split
    · rename_i hc
      exact yearL_stop d k (y + 1) (by omega) (by omega) (by omega)
    · rename_i hc
      by_cases h9 : y < 9999
      · exact .inr (by omega)
      · exact .inl (by omega)
def sumL (y : Int) : Nat → Int → Int
  | 0, _ => 0
  | k + 1, m => last y m + sumL y k (m + 1)
theorem sumL_is (y : Int) : sumL y 12 1 = last y 1 + last y 2 + last y 3 + last y 4 + last y 5 + last y 6 + last y 7 + last y 8 + last y 9 + last y 10 + last y 11 + last y 12 := by
  show last y 1 + (last y 2 + (last y 3 + (last y 4 + (last y 5 + (last y 6 + (last y 7 + (last y 8 + (last y 9 + (last y 10 + (last y 11 + (last y 12 + 0))))))))))) = _
  omega
theorem monthL_some (y : Int) : ∀ (k : Nat) (m r : Int), 0 ≤ r → r < sumL y k m → ∃ x, monthL y k m r = some x
  | 0, m, r, h0, h => by unfold sumL at h; omega
  | k + 1, m, r, h0, h => by
    rw [monthL_succ]
    split
    · exact ⟨_, rfl⟩
    · rename_i hn
      have e : sumL y (k + 1) m = last y m + sumL y k (m + 1) := rfl
      rw [e] at h
      exact monthL_some y k (m + 1) _ (by omega) (by omega)
theorem count_next (d : Int) (hd : -719162 ≤ d ∧ d ≤ 2932896) : ∃ x, date d = some x := by
  unfold date
  rw [if_neg (by omega)]
  have hq : 0 ≤ (d + 719162) / 366 ∧ (d + 719162) / 366 ≤ 9978 := by omega
  have hc := count_le ((d + 719162) / 366) hq.1
  have hy := yearL_ok d 10000 (1 + (d + 719162) / 366) (by omega) (by omega) (by omega)
  have hs := yearL_stop d 10000 (1 + (d + 719162) / 366) (by omega) (by omega) (by omega)
  have hyl := year_len (year d) hy.1
  have he : count (9999 + 1) 1 1 = 2932897 := by decide
  obtain ⟨x, hx⟩ := monthL_some (year d) 12 1 (d - count (year d) 1 1) (by have := hy.2; unfold year; omega) (by
    rw [sumL_is, ← hyl]
    rcases hs with h9 | h9
    · have e9 : year d = 9999 := h9
      rw [e9, he]
      omega
    · have h9' : d < count (year d + 1) 1 1 := h9
      omega)
  rw [hx]
  exact ⟨_, rfl⟩
theorem monthL_inj (y : Int) : ∀ (k : Nat) (m r r' : Int) (x : Int × Int), 0 ≤ r → 0 ≤ r' → monthL y k m r = some x → monthL y k m r' = some x → r = r'
  | 0, _, _, _, _, _, _, h, _ => by cases h
  | k + 1, m, r, r', x, h0, h0', h, h' => by
    rw [monthL_succ] at h h'
    split at h
    · split at h'
      · have h1 := Option.some.inj h
        have h2 := Option.some.inj h'
        rw [← h1] at h2
        have h3 := (Prod.mk.inj h2).2
        omega
      · cases h
        have := monthL_ok y k (m + 1) _ _ (by omega) h'
        dsimp only at this
        omega
    · split at h'
      · cases h'
        have := monthL_ok y k (m + 1) _ _ (by omega) h
        dsimp only at this
        omega
      · have := monthL_inj y k (m + 1) _ _ x (by omega) (by omega) h h'
        omega
theorem date_inj {d d' : Int} {x : Int × Int × Int} (h : date d = some x) (h' : date d' = some x) : d = d' := by
  unfold date at h h'
  split at h
  · cases h
  split at h'
  · cases h'
  rename_i hn hn'
  obtain ⟨z, hz, rfl⟩ := Option.map_eq_some_iff.1 h
  obtain ⟨z', hz', e⟩ := Option.map_eq_some_iff.1 h'
  injection e with e1 e2
  injection e2 with e2 e3
  have hzz : z' = z := Prod.ext e2 e3
  rw [hzz, e1] at hz'
  have a1 := yearL_ok d 10000 (1 + (d + 719162) / 366) (by omega) (by omega) (by have := count_le ((d + 719162) / 366) (by omega); omega)
  have a2 := yearL_ok d' 10000 (1 + (d' + 719162) / 366) (by omega) (by omega) (by have := count_le ((d' + 719162) / 366) (by omega); omega)
  have b1 : count (year d) 1 1 ≤ d := a1.2
  have b2 : count (year d') 1 1 ≤ d' := a2.2
  rw [e1] at b2
  have := monthL_inj (year d) 12 1 _ _ z (by omega) (by omega) hz hz'
  omega
theorem bv48 {a b : Int} (h : bv (48 + a % 10) = bv (48 + b % 10)) : a % 10 = b % 10 := by
  have h1 := bv_toNat (48 + a % 10) (by omega) (by omega)
  have h2 := bv_toNat (48 + b % 10) (by omega) (by omega)
  rw [h] at h1
  omega
theorem stamp_some (s : Int) (h : -62135596800 ≤ s ∧ s ≤ 253402300799) : ∃ x, stamp s = some x := by
  unfold stamp civil
  rw [if_neg (by omega)]
  obtain ⟨x, hx⟩ := count_next ((s + 62135596800) / 86400 - 719162) (by omega)
  rw [hx]
  exact ⟨_, rfl⟩
theorem stamp_inj {s s' : Int} {x : List UInt8} (h : stamp s = some x) (h' : stamp s' = some x) : s = s' := by
  unfold stamp at h h'
  obtain ⟨⟨y, m, dd⟩, hc, hx⟩ := Option.map_eq_some_iff.1 h
  obtain ⟨⟨y', m', dd'⟩, hc', hx'⟩ := Option.map_eq_some_iff.1 h'
  unfold civil at hc hc'
  split at hc
  · cases hc
  split at hc'
  · cases hc'
  rename_i hn hn'
  have o1 := date_ok hc
  have o2 := date_ok hc'
  have r1 : 0 ≤ rest s ∧ rest s < 86400 := by unfold rest; omega
  have r2 : 0 ≤ rest s' ∧ rest s' < 86400 := by unfold rest; omega
  rw [← hx'] at hx
  dsimp only at hx
  simp only [digL, base0, List.set, Nat.reduceAdd] at hx
  injection hx with q1 hx; injection hx with q2 hx; injection hx with q3 hx; injection hx with q4 hx; injection hx with _ hx
  injection hx with q5 hx; injection hx with q6 hx; injection hx with _ hx
  injection hx with q7 hx; injection hx with q8 hx; injection hx with _ hx
  injection hx with q9 hx; injection hx with q10 hx; injection hx with _ hx
  injection hx with q11 hx; injection hx with q12 hx; injection hx with _ hx
  injection hx with q13 hx; injection hx with q14 hx
  have p1 := bv48 q1
  have p2 := bv48 q2
  have p3 := bv48 q3
  have p4 := bv48 q4
  have p5 := bv48 q5
  have p6 := bv48 q6
  have p7 := bv48 q7
  have p8 := bv48 q8
  have p9 := bv48 q9
  have p10 := bv48 q10
  have p11 := bv48 q11
  have p12 := bv48 q12
  have p13 := bv48 q13
  have p14 := bv48 q14
  have ey : y = y' := by omega
  have em : m = m' := by omega
  have ed : dd = dd' := by omega
  subst ey em ed
  have h1 := date_inj hc hc'
  have h2 : rest s = rest s' := by omega
  unfold rest at h2
  omega
end Cv
end Go.Proofs.Ytheaknghgpafpaa
namespace Go.Proofs.Ytheaknghgpafpaa
open Go.RowKit

namespace Wr
theorem date_true {s : Int} (h : whenP true s = true) : ∃ x, Cv.stamp s = some x ∧ date true s = field [117, 112, 100, 97, 116, 101, 100] x := by
  unfold whenP at h
  rw [if_pos rfl, Bool.and_eq_true, decide_eq_true_eq, decide_eq_true_eq] at h
  obtain ⟨x, hx⟩ := Cv.stamp_some s h
  refine ⟨x, hx, ?_⟩
  unfold date
  rw [hx]
  exact if_pos rfl
theorem date_false (s : Int) : date false s = [] := by
  unfold date
  split <;> rfl
theorem date_cut {S S' : List UInt8} (k k' : Bool) (s s' : Int) (r r' : List UInt8) (hk : whenP k s = true) (hk' : whenP k' s' = true) (hr : Starts S r) (hr' : Starts S' r') (hS : 117 ∉ S) (hS' : 117 ∉ S') (h : date k s ++ r = date k' s' ++ r') : (k = k' ∧ s = s') ∧ r = r' := by
  cases k with
  | true =>
    obtain ⟨x, hx, e⟩ := date_true hk
    cases k' with
    | true =>
      obtain ⟨x', hx', e'⟩ := date_true hk'
      rw [e, e'] at h
      obtain ⟨rfl, h2⟩ := field_cut _ _ _ _ _ h
      exact ⟨⟨rfl, Cv.stamp_inj hx hx'⟩, h2⟩
    | false =>
      rw [e, date_false, List.nil_append] at h
      exact (field_not hr' hS' h).elim
  | false =>
    cases k' with
    | true =>
      obtain ⟨x', hx', e'⟩ := date_true hk'
      rw [e', date_false, List.nil_append] at h
      exact (field_not hr hS h.symm).elim
    | false =>
      rw [date_false, date_false, List.nil_append, List.nil_append] at h
      have h0 : s = 0 := by unfold whenP at hk; simpa using hk
      have h0' : s' = 0 := by unfold whenP at hk'; simpa using hk'
      exact ⟨⟨rfl, by rw [h0, h0']⟩, h⟩
theorem date_starts {S : List UInt8} (k : Bool) (s : Int) (r : List UInt8) (hr : Starts S r) : Starts (117 :: S) (date k s ++ r) := by
  unfold date
  split
  · split
    · exact (field_starts 117 _ _ _).more (by simp)
    · exact hr.more (by intro x hx; simp [hx])
  · exact hr.more (by intro x hx; simp [hx])
theorem head_cut {S S' : List UInt8} (id ti lk id' ti' lk' : List UInt8) (k k' : Bool) (s s' : Int) (r r' : List UInt8) (hk : whenP k s = true) (hk' : whenP k' s' = true) (hr : Starts S r) (hr' : Starts S' r') (hS : 117 ∉ S) (hS' : 117 ∉ S') (hL : 108 ∉ S) (hL' : 108 ∉ S')
    (h : head id ti lk k s ++ r = head id' ti' lk' k' s' ++ r') : (id = id' ∧ ti = ti' ∧ lk = lk' ∧ k = k' ∧ s = s') ∧ r = r' := by
  unfold head at h
  simp only [List.append_assoc] at h
  obtain ⟨h1, h⟩ := field_cut _ _ _ _ _ h
  obtain ⟨h2, h⟩ := field_cut _ _ _ _ _ h
  obtain ⟨h3, h⟩ := link_cut lk lk' _ _ (date_starts k s r hr) (date_starts k' s' r' hr') (by simpa using hL) (by simpa using hL') h
  obtain ⟨⟨h4, h5⟩, h⟩ := date_cut k k' s s' r r' hk hk' hr hr' hS hS' h
  exact ⟨⟨h1, h2, h3, h4, h5⟩, h⟩
theorem author_cut {S S' : List UInt8} (t t' r r' : List UInt8) (hr : Starts S r) (hr' : Starts S' r') (hS : 97 ∉ S) (hS' : 97 ∉ S') (h : author t ++ r = author t' ++ r') : t = t' ∧ r = r' := by
  have e : ∀ (t r : List UInt8), t ≠ [] → author t ++ r = authorOpen ++ (Tx.escape false t ++ 60 :: ([47, 110, 97, 109, 101, 62, 60, 47, 97, 117, 116, 104, 111, 114, 62] ++ [10] ++ r)) := fun t r ht => by
    unfold author line authorEnd
    rw [if_neg ht]
    simp
  have e0 : ∀ r : List UInt8, author [] ++ r = r := fun r => by unfold author; rw [if_pos rfl]; rfl
  by_cases h1 : t = []
  · by_cases h2 : t' = []
    · subst h1 h2
      rw [e0, e0] at h
      exact ⟨rfl, h⟩
    · subst h1
      rw [e0, e _ _ h2] at h
      obtain ⟨x, r0, rfl, hx⟩ := hr
      unfold authorOpen at h
      simp only [List.cons_append] at h
      injection h with _ h
      injection h with h _
      exact absurd (h ▸ hx) hS
  · by_cases h2 : t' = []
    · subst h2
      rw [e0, e _ _ h1] at h
      obtain ⟨x, r0, rfl, hx⟩ := hr'
      unfold authorOpen at h
      simp only [List.cons_append] at h
      injection h with _ h
      injection h with h _
      exact absurd (h ▸ hx) hS'
    · rw [e _ _ h1, e _ _ h2] at h
      have h3 := List.append_cancel_left h
      obtain ⟨h4, h5⟩ := cut_at 60 _ _ _ _ (escape_no60 _ _) (escape_no60 _ _) h3
      exact ⟨escape_inj _ _ _ h4, List.append_cancel_left h5⟩
theorem content_cut {S S' : List UInt8} (t t' r r' : List UInt8) (hr : Starts S r) (hr' : Starts S' r') (hS : 99 ∉ S) (hS' : 99 ∉ S') (h : content t ++ r = content t' ++ r') : t = t' ∧ r = r' := by
  have e : ∀ (t : List UInt8), t ≠ [] → content t = field [99, 111, 110, 116, 101, 110, 116] t := fun t ht => by unfold content; rw [if_neg ht]
  have e0 : content [] = [] := by unfold content; rw [if_pos rfl]
  by_cases h1 : t = []
  · by_cases h2 : t' = []
    · subst h1 h2
      exact ⟨rfl, List.append_cancel_left h⟩
    · subst h1
      rw [e0, e _ h2, List.nil_append] at h
      exact (field_not hr hS h.symm).elim
  · by_cases h2 : t' = []
    · subst h2
      rw [e0, e _ h1, List.nil_append] at h
      exact (field_not hr' hS' h).elim
    · rw [e _ h1, e _ h2] at h
      exact field_cut _ _ _ _ _ h
theorem author_starts {S : List UInt8} (t r : List UInt8) (hr : Starts S r) : Starts (97 :: S) (author t ++ r) := by
  unfold author
  split
  · exact hr.more (by intro x hx; simp [hx])
  · exact ⟨97, _, rfl, by simp⟩
theorem content_starts {S : List UInt8} (t r : List UInt8) (hr : Starts S r) : Starts (99 :: S) (content t ++ r) := by
  unfold content
  split
  · exact hr.more (by intro x hx; simp [hx])
  · exact (field_starts 99 _ _ _).more (by simp)
theorem end_starts (r : List UInt8) : Starts [47] (line [entryEnd] ++ r) := ⟨47, _, rfl, by simp⟩
theorem entry_cut (x y : Ent) (r r' : List UInt8) (hx : whenP x.k x.s = true) (hy : whenP y.k y.s = true) (h : entry x ++ r = entry y ++ r') : x = y ∧ r = r' := by
  obtain ⟨id, ti, lk, au, co, k, s⟩ := x
  obtain ⟨id', ti', lk', au', co', k', s'⟩ := y
  dsimp only at hx hy
  unfold entry at h
  dsimp only at h
  simp only [List.append_assoc] at h
  have g1 := List.append_cancel_left h
  obtain ⟨⟨h1, h2, h3, h4, h5⟩, g2⟩ := head_cut id ti lk id' ti' lk' k k' s s' _ _ hx hy (author_starts au _ (content_starts co _ (end_starts r))) (author_starts au' _ (content_starts co' _ (end_starts r'))) (by decide) (by decide) (by decide) (by decide) g1
  obtain ⟨h6, g3⟩ := author_cut au au' _ _ (content_starts co _ (end_starts r)) (content_starts co' _ (end_starts r')) (by decide) (by decide) g2
  obtain ⟨h7, g4⟩ := content_cut co co' _ _ (end_starts r) (end_starts r') (by decide) (by decide) g3
  have g5 := List.append_cancel_left g4
  subst h1 h2 h3 h4 h5 h6 h7
  exact ⟨rfl, g5⟩
theorem ent_ne (x : Ent) (r : List UInt8) : entry x ++ r ≠ line [feedEnd] := by
  intro h
  unfold entry at h
  have h2 : (60 : UInt8) :: 101 :: ([110, 116, 114, 121, 62] ++ [10] ++ (head x.id x.title x.link x.k x.s ++ (author x.author ++ (content x.content ++ line [entryEnd]))) ++ r) = 60 :: 47 :: [102, 101, 101, 100, 62, 10] := by
    rw [show (60 : UInt8) :: 47 :: [102, 101, 101, 100, 62, 10] = line [feedEnd] from rfl, ← h]
    simp [line, entryOpen]
  injection h2 with _ h2
  injection h2 with h2 _
  exact absurd h2 (by decide)
theorem ents_cut : ∀ (es es' : List Ent), (∀ x ∈ es, whenP x.k x.s = true) → (∀ x ∈ es', whenP x.k x.s = true) → es.flatMap entry ++ line [feedEnd] = es'.flatMap entry ++ line [feedEnd] → es = es'
  | [], [], _, _, _ => rfl
  | [], y :: l, _, _, h => by
    rw [List.flatMap_nil, List.nil_append, List.flatMap_cons, List.append_assoc] at h
    exact (ent_ne y _ h.symm).elim
  | x :: l, [], _, _, h => by
    rw [List.flatMap_nil, List.nil_append, List.flatMap_cons, List.append_assoc] at h
    exact (ent_ne x _ h).elim
  | x :: l, y :: l', hx, hy, h => by
    rw [List.flatMap_cons, List.flatMap_cons, List.append_assoc, List.append_assoc] at h
    obtain ⟨rfl, h2⟩ := entry_cut x y _ _ (hx x (by simp)) (hy y (by simp)) h
    rw [ents_cut l l' (fun z hz => hx z (by simp [hz])) (fun z hz => hy z (by simp [hz])) h2]
theorem tail_starts (es : List Ent) : Starts [101, 47] (es.flatMap entry ++ line [feedEnd]) := by
  cases es with
  | nil => exact ⟨47, _, rfl, by simp⟩
  | cons x l => exact ⟨101, _, rfl, by simp⟩
theorem mayEs_mem : ∀ (es : List Ent) (seen : List (List UInt8)), mayEs seen es = true → ∀ x ∈ es, ∃ seen', mayE seen' x = true
  | [], _, _, x, hx => by cases hx
  | y :: l, seen, h, x, hx => by
    unfold mayEs at h
    rw [Bool.and_eq_true] at h
    rcases List.mem_cons.1 hx with rfl | hx
    · exact ⟨_, h.1⟩
    · exact mayEs_mem l _ h.2 x hx
theorem may_ents {f : Fd} (h : may f = true) : ∀ x ∈ f.es, whenP x.k x.s = true := by
  intro x hx
  unfold may at h
  rw [Bool.and_eq_true] at h
  obtain ⟨seen, hs⟩ := mayEs_mem _ _ h.2 x hx
  unfold mayE at hs
  rw [Bool.and_eq_true] at hs
  exact hs.2
theorem may_when {f : Fd} (h : may f = true) : whenP f.k f.s = true := by
  unfold may at h
  simp only [Bool.and_eq_true] at h
  exact h.1.1.2
theorem doc_inj {f g : Fd} (hf : may f = true) (hg : may g = true) (h : doc f = doc g) : f = g := by
  have w1 := may_when hf
  have w2 := may_when hg
  have e1 := may_ents hf
  have e2 := may_ents hg
  clear hf hg
  obtain ⟨id, ti, lk, k, s, es⟩ := f
  obtain ⟨id', ti', lk', k', s', es'⟩ := g
  dsimp only at w1 w2 e1 e2
  unfold doc start at h
  dsimp only at h
  simp only [List.append_assoc] at h
  have h := List.append_cancel_left h
  have h := List.append_cancel_left h
  obtain ⟨⟨h1, h2, h3, h4, h5⟩, h⟩ := head_cut id ti lk id' ti' lk' k k' s s' _ _ w1 w2 (tail_starts es) (tail_starts es') (by decide) (by decide) (by decide) (by decide) h
  have h6 := ents_cut es es' e1 e2 h
  subst h1 h2 h3 h4 h5 h6
  rfl
theorem mayEs_front : ∀ (a b : List Ent) (seen : List (List UInt8)), mayEs seen (a ++ b) = true → mayEs seen a = true
  | [], _, _, _ => by unfold mayEs; rfl
  | x :: a, b, seen, h => by
    rw [List.cons_append] at h
    unfold mayEs at h ⊢
    rw [Bool.and_eq_true] at h ⊢
    exact ⟨h.1, mayEs_front a b _ h.2⟩
/-- A feed without its last entries. -/
def front (f : Fd) (n : Nat) : Fd := ⟨f.id, f.title, f.link, f.k, f.s, f.es.take n⟩
theorem may_front {f : Fd} (n : Nat) (h : may f = true) : may (front f n) = true := by
  unfold may at *
  simp only [Bool.and_eq_true, decide_eq_true_eq] at *
  unfold front
  dsimp only
  refine ⟨⟨h.1.1, ?_⟩, mayEs_front (f.es.take n) (f.es.drop n) _ (by rw [List.take_append_drop]; exact h.2)⟩
  have := h.1.2
  rw [List.length_take]
  omega
theorem doc_front (f : Fd) (n : Nat) (hn : f.es.length = n + 1) : ∃ P E, doc (front f n) = P ++ line [feedEnd] ∧ doc f = P ++ E ++ line [feedEnd] ∧ E ≠ [] := by
  refine ⟨start f ++ (f.es.take n).flatMap entry, (f.es.drop n).flatMap entry, ?_, ?_, ?_⟩
  · unfold doc front start
    simp
  · unfold doc
    conv => lhs; rw [← List.take_append_drop n f.es, List.flatMap_append]
    simp
  · intro h
    obtain ⟨x, hx⟩ := List.length_eq_one_iff.1 (show (f.es.drop n).length = 1 by rw [List.length_drop]; omega)
    rw [hx] at h
    have : entry x = [] := by simpa using h
    unfold entry line at this
    simp at this
end Wr
end Go.Proofs.Ytheaknghgpafpaa
