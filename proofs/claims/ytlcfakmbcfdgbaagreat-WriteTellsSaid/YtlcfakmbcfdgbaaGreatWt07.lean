/- NFC: slices.symMergeCmpFunc by classes: one element ahead. · NFC: slices.symMergeCmpFunc by classes: one element behind. -/
import Derived.Test.YtlcfakmbcfdgbaaGreatWt06
set_option linter.unusedSimpArgs false
set_option linter.unusedVariables false
namespace Go.Proofs.YtlcfakmbcfdgbaaGreat
open Go.RowKit Go.WideShapes

namespace Nf
theorem up_take {v : List Int} {d : Nat} {y : Int} (h : Up v) (hy : v[d]? = some y) : ∀ z ∈ v.take (d + 1), cls z ≤ cls y := fun z hz => by
  obtain ⟨i, hi, e⟩ := List.mem_take_iff_getElem.1 hz
  exact h.at_ (List.getElem?_eq_some_iff.2 ⟨_, e⟩) hy (by omega)
theorem up_drop {v : List Int} {d : Nat} {y : Int} (h : Up v) (hy : v[d]? = some y) : ∀ z ∈ v.drop d, cls y ≤ cls z := fun z hz => by
  obtain ⟨i, hi, e⟩ := List.mem_drop_iff_getElem.1 hz
  exact h.at_ hy (List.getElem?_eq_some_iff.2 ⟨_, e⟩) (by omega)
/-- One that is put behind those that are less. -/
theorem sortR_first {x : Int} {v : List Int} {k : Nat} (h : Up v) (h1 : ∀ y ∈ v.take k, cls y < cls x) (h2 : ∀ y ∈ v.drop k, cls x ≤ cls y) : v.take k ++ x :: v.drop k = sortR (x :: v) := by
  refine sortR_is ?_ ?_
  · have hv := h
    rw [← List.take_append_drop k v] at hv
    refine Up.app hv.left ?_ ?_
    · unfold Up
      rw [List.pairwise_cons]
      exact ⟨h2, hv.right⟩
    · intro a ha b hb
      rcases List.mem_cons.1 hb with rfl | hb
      · exact Int.le_of_lt (h1 a ha)
      · exact hv.cross ha hb
  · have e : x :: v = ([x] ++ v.take k) ++ v.drop k := by rw [List.append_assoc, List.take_append_drop]; rfl
    have e2 : v.take k ++ x :: v.drop k = (v.take k ++ [x]) ++ v.drop k := by simp
    rw [e, e2]
    refine Same.app (same_rot ?_) (Same.refl _)
    intro a ha b hb
    rw [List.mem_singleton] at ha
    subst ha
    have := h1 b hb
    omega
end Nf
set_option maxRecDepth 100000 in
set_option maxHeartbeats 8000000 in
theorem symMerge1_any (A v B : List Int) (x : Int) (pre post : List Value) (g off cap n a m b : Nat) (w : World) (h : SRow w g off pre post (A ++ x :: (v ++ B))) (hn : n = A.length + 1 + v.length + B.length)
    (ha : a = A.length) (hm : m = A.length + 1) (hb : b = A.length + 1 + v.length) (hv : 0 < v.length) (hup : Nf.Up v) (hs : n ≤ 1000000000) :
    Calls Tryz.prog 134 #[.slice (some ⟨g, off, none⟩) n cap, .int .i64 a, .int .i64 m, .int .i64 b, .func (.func 112) #[] #[]] w fun e w' => e = .returned (.tuple #[]) ∧ SRow w' g off pre post (A ++ (Nf.sortR (x :: v) ++ B)) ∧ But g w w' := by
  have HR := hide h
  have Hn := hide hn
  have Ha := hide ha
  have Hm := hide hm
  have Hb := hide hb
  have HU := hide hup
  have hbn : b ≤ n := by omega
  have hmb : m < b := by omega
  have han : a < n := by omega
  have HC := hide (fun x y W => byClass_any x y W)
  have z0 : IntKind.i64.wrap ((m : Int) - (a : Int)) = 1 := by rw [IntWalk.i64_in _ (by omega)]; omega
  have c0 : w.cell? ⟨g, off + a, none⟩ = some (.int .i64 x) := h.at_ (by rw [ha, List.getElem?_append_right (Nat.le_refl _), Nat.sub_self]; rfl)
  clear h hn ha hm hb hv hup
  go_enter Tryz.func134, Tryz.ntmps134
  go_wp2
  go_loopg [10, 11] (b - m) (fun gk vi vj wr => ∃ (i j : Nat), gk = j - i ∧ m ≤ i ∧ i ≤ j ∧ j ≤ b ∧ vi = .int .i64 (i : Int) ∧ vj = .int .i64 (j : Int) ∧ (∀ y ∈ v.take (i - m), Nf.cls y < Nf.cls x) ∧ (∀ y ∈ v.drop (j - m), Nf.cls x ≤ Nf.cls y) ∧ SRow wr g off pre post (A ++ x :: (v ++ B)) ∧ But g w wr)
  case atStart => exact ⟨m, b, rfl, Nat.le_refl _, by omega, Nat.le_refl _, rfl, rfl, by simp, by rw [List.drop_of_length_le (by have := Hb.out; have := Hm.out; omega)]; simp, HR.out, But.refl _ _⟩
  case round =>
    obtain ⟨i, j, hgk, hmi, hij, hjb, rfl, rfl, h1, h2, hr, hbt⟩ := hrel
    have Hg := hide hgk
    have HI := hide hr
    have HB := hide hbt
    have H1 := hide h1
    have H2 := hide h2
    clear hgk hr hbt h1 h2
    by_cases hlt : i < j
    · have hsum : IntKind.i64.wrap ((i : Int) + (j : Int)) = ((i + j : Nat) : Int) := by rw [IntWalk.i64_in _ (by omega)]; omega
      obtain ⟨d, hd⟩ : ∃ d, (i + j) / 2 = d := ⟨_, rfl⟩
      have hdz : ((i : Int) + (j : Int)) / 2 = (d : Int) := by omega
      have hid : i ≤ d := by omega
      have hdj : d < j := by omega
      have hdn : d < n := by omega
      clear hd hsum
      obtain ⟨y, hy⟩ : ∃ y, v[d - m]? = some y := ⟨_, List.getElem?_eq_getElem (by have := Hm.out; have := Hb.out; omega)⟩
      have c1 : wr.cell? ⟨g, off + d, none⟩ = some (.int .i64 y) := HI.out.at_ (by rw [List.getElem?_append_right (by have := Hm.out; omega), show d - A.length = (d - m) + 1 by have := Hm.out; omega, List.getElem?_cons_succ, List.getElem?_append_left (List.getElem?_eq_some_iff.1 hy).1]; exact hy)
      have c2 : wr.cell? ⟨g, off + a, none⟩ = some (.int .i64 x) := HI.out.at_ (by rw [Ha.out, List.getElem?_append_right (Nat.le_refl _), Nat.sub_self]; rfl)
      obtain ⟨q, hq⟩ : ∃ q, Nf.cls y - Nf.cls x = q := ⟨_, rfl⟩
      have HC1 := hide (fun W => HC.out y x W)
      rw [hq] at HC1
      have Hq := hide hq
      have Hy := hide hy
      clear hq hy
      by_cases hc : q < 0
      · have hd3 : decide (q < 0) = true := decide_eq_true hc
        have zd : IntKind.i64.wrap ((d : Int) + 1) = ((d + 1 : Nat) : Int) := by rw [IntWalk.i64_in _ (by omega)]; omega
        go_wp2_with fail
        go_quiet ((go_at_call 112; refine Calls.quiet_of_same (HC1.out _)))
        have HBW := hide (show But g w (wr.drewN nq) from ⟨HB.out.os, HB.out.tape, HB.out.output, HB.out.size, HB.out.block⟩)
        have HRW := hide (HI.out.drewN nq)
        generalize wr.drewN nq = W at HRW HBW ⊢
        clear c1 c2
        go_wp2
        go_roundg (j - (d + 1))
        case measure => have := Hg.out; omega
        case rel =>
          refine ⟨d + 1, j, rfl, by omega, by omega, hjb, by first | rfl | go_num, rfl, ?_, H2.out, HRW.out, HBW.out⟩
          intro z hz
          rw [show d + 1 - m = (d - m) + 1 by omega] at hz
          have := Nf.up_take HU.out Hy.out z hz
          have := Hq.out
          omega
      · have hd3 : decide (q < 0) = false := decide_eq_false hc
        go_wp2_with fail
        go_quiet ((go_at_call 112; refine Calls.quiet_of_same (HC1.out _)))
        have HBW := hide (show But g w (wr.drewN nq) from ⟨HB.out.os, HB.out.tape, HB.out.output, HB.out.size, HB.out.block⟩)
        have HRW := hide (HI.out.drewN nq)
        generalize wr.drewN nq = W at HRW HBW ⊢
        clear c1 c2
        go_wp2
        go_roundg (d - i)
        case measure => have := Hg.out; omega
        case rel =>
          refine ⟨i, d, rfl, by omega, by omega, by omega, rfl, rfl, H1.out, ?_, HRW.out, HBW.out⟩
          intro z hz
          have := Nf.up_drop HU.out Hy.out z hz
          have := Hq.out
          omega
    · have hjj : j = i := by omega
      subst hjj
      have HF := hide (Nf.sortR_first HU.out H1.out H2.out)
      obtain ⟨k, hk⟩ : ∃ k, j - m = k := ⟨_, rfl⟩
      rw [hk] at HF
      have Hk := hide hk
      have Hvl := hide (show (v.take k).length = k by rw [List.length_take]; have := Hm.out; have := Hb.out; omega)
      have HR2 := hide (HI.out.as (show A ++ x :: (v ++ B) = A ++ (x :: (v.take k ++ (v.drop k ++ B))) by rw [← List.append_assoc (v.take k), List.take_append_drop]))
      obtain ⟨e, he⟩ : ∃ e, a + k = e := ⟨_, rfl⟩
      have z1 : IntKind.i64.wrap ((j : Int) - 1) = (e : Int) := by rw [IntWalk.i64_in _ (by omega)]; have := Hm.out; have := Ha.out; omega
      have He := hide he
      have hen : e < n := by have := Hm.out; have := Ha.out; omega
      clear hk he HI H1 H2
      generalize v.take k = v1 at HF Hvl HR2
      generalize v.drop k = v2 at HF HR2
      go_wp2
      go_loopg [13] k (fun gk vk wj => ∃ (t i : Nat), gk = k - t ∧ t ≤ k ∧ i = a + t ∧ vk = .int .i64 (i : Int) ∧ SRow wj g off pre post (A ++ (v1.take t ++ x :: (v1.drop t ++ (v2 ++ B)))) ∧ But g w wj)
      case atStart => exact ⟨0, a, rfl, by omega, rfl, rfl, by simpa using HR2.out, HB.out⟩
      case round =>
        obtain ⟨t, i, hgt, htk, hi, rfl, hr, hbt⟩ := hrel
        have Hgt := hide hgt
        have HI3 := hide hr
        have HB3 := hide hbt
        have Hi := hide hi
        clear hgt hr hbt hi
        by_cases hlt2 : i < e
        · obtain ⟨y, hy⟩ : ∃ y, v1[t]? = some y := ⟨_, List.getElem?_eq_getElem (by have := Hvl.out; have := He.out; have := Hi.out; omega)⟩
          have e3 : A ++ (v1.take t ++ x :: (v1.drop t ++ (v2 ++ B))) = (A ++ v1.take t) ++ x :: ([] ++ y :: (v1.drop (t + 1) ++ (v2 ++ B))) := by rw [take_drop_next hy]; simp
          have e4 : (A ++ v1.take t) ++ y :: ([] ++ x :: (v1.drop (t + 1) ++ (v2 ++ B))) = A ++ (v1.take (t + 1) ++ x :: (v1.drop (t + 1) ++ (v2 ++ B))) := by rw [take_next hy]; simp
          have hrow := HI3.out.as e3
          have p1 : i = (A ++ v1.take t).length := by rw [List.length_append, List.length_take]; have := Hvl.out; have := Ha.out; have := Hi.out; omega
          have p2 : i + 1 = (A ++ v1.take t).length + 1 + ([] : List Int).length := by rw [← p1]; rfl
          obtain ⟨c1, c2, ⟨u3, c3⟩, _⟩ := exch hrow p1 p2
          have f1 := hrow.frozen (off + i)
          have f2 := hrow.frozen (off + (i + 1))
          have N1 := hide ((swapped hrow p1 p2).as e4)
          have HBn := hide ((HB3.out.setCell (p := ⟨g, off + i, none⟩) (.inl rfl) (.int .i64 y)).setCell (p := ⟨g, off + (i + 1), none⟩) (.inl rfl) (.int .i64 x))
          have zi : IntKind.i64.wrap ((i : Int) + 1) = ((i + 1 : Nat) : Int) := by rw [IntWalk.i64_in _ (by omega)]; omega
          obtain ⟨i1, hi1⟩ : ∃ i1, i + 1 = i1 := ⟨_, rfl⟩
          have hi1n : i1 < n := by omega
          rw [hi1] at c2 c3 f2 N1 HBn zi
          have Hi1 := hide hi1
          clear hy e3 e4 p1 p2 hrow hi1
          go_wp2
          go_region
          go_wp2
          go_roundg (k - (t + 1))
          case measure => have := Hgt.out; have := Hi.out; have := He.out; omega
          case rel => exact ⟨t + 1, i1, rfl, by have := Hi.out; have := He.out; omega, by have := Hi1.out; have := Hi.out; omega, by first | rfl | go_num, N1.out.drew, HBn.out.drew⟩
        · go_wp2
          (try simp only [Exit.inBlock, Exit.then])
          refine bodyPost_ret (results_none rfl _ _ _) rfl ?_
          have htk2 : t = k := by have := Hi.out; have := He.out; omega
          subst htk2
          have hr := HI3.out
          rw [List.take_of_length_le (by rw [Hvl.out]; exact Nat.le_refl _), List.drop_of_length_le (by rw [Hvl.out]; exact Nat.le_refl _)] at hr
          exact ⟨rfl, hr.as (by rw [← HF.out]; simp), HB3.out⟩
end Go.Proofs.YtlcfakmbcfdgbaaGreat
namespace Go.Proofs.YtlcfakmbcfdgbaaGreat
open Go.RowKit Go.WideShapes

namespace Nf
theorem sortR_self {u : List Int} (h : Up u) : sortR u = u := (sortR_is h (Same.refl u)).symm
theorem sortR_last {x : Int} {u : List Int} {k : Nat} (h : Up u) (h1 : ∀ y ∈ u.take k, cls y ≤ cls x) (h2 : ∀ y ∈ u.drop k, cls x < cls y) : u.take k ++ x :: u.drop k = sortR (u ++ [x]) := by
  rw [sortR_snoc, sortR_self h]
  conv => rhs; rw [← List.take_append_drop k u]
  rw [ins_done x _ _ h1 h2]
end Nf
set_option maxRecDepth 100000 in
set_option maxHeartbeats 8000000 in
theorem symMerge2_any (A u B : List Int) (x : Int) (pre post : List Value) (g off cap n a m b : Nat) (w : World) (h : SRow w g off pre post (A ++ (u ++ x :: B))) (hn : n = A.length + u.length + 1 + B.length)
    (ha : a = A.length) (hm : m = A.length + u.length) (hb : b = A.length + u.length + 1) (hu : 1 < u.length) (hup : Nf.Up u) (hs : n ≤ 1000000000) :
    Calls Tryz.prog 134 #[.slice (some ⟨g, off, none⟩) n cap, .int .i64 a, .int .i64 m, .int .i64 b, .func (.func 112) #[] #[]] w fun e w' => e = .returned (.tuple #[]) ∧ SRow w' g off pre post (A ++ (Nf.sortR (u ++ [x]) ++ B)) ∧ But g w w' := by
  have HR := hide h
  have Hn := hide hn
  have Ha := hide ha
  have Hm := hide hm
  have Hb := hide hb
  have HU := hide hup
  have hmn : m < n := by omega
  have ham : a + 1 < m := by omega
  have HC := hide (fun x y W => byClass_any x y W)
  obtain ⟨lu, hlu⟩ : ∃ lu, u.length = lu := ⟨_, rfl⟩
  have Hlu := hide hlu
  have z0 : IntKind.i64.wrap ((m : Int) - (a : Int)) = (lu : Int) := by rw [IntWalk.i64_in _ (by omega)]; omega
  have hlu1 : ((lu : Int) == 1) = false := by have : ¬ (lu : Int) = 1 := by omega
                                              simpa using this
  have z00 : IntKind.i64.wrap ((b : Int) - (m : Int)) = 1 := by rw [IntWalk.i64_in _ (by omega)]; omega
  clear h hn ha hm hb hu hup hlu
  go_enter Tryz.func134, Tryz.ntmps134
  go_wp2
  go_loopg [14, 15] (m - a) (fun gk vi vj wr => ∃ (i j : Nat), gk = j - i ∧ a ≤ i ∧ i ≤ j ∧ j ≤ m ∧ vi = .int .i64 (i : Int) ∧ vj = .int .i64 (j : Int) ∧ (∀ y ∈ u.take (i - a), Nf.cls y ≤ Nf.cls x) ∧ (∀ y ∈ u.drop (j - a), Nf.cls x < Nf.cls y) ∧ SRow wr g off pre post (A ++ (u ++ x :: B)) ∧ But g w wr)
  case atStart => exact ⟨a, m, rfl, Nat.le_refl _, by omega, Nat.le_refl _, rfl, rfl, by simp, by rw [List.drop_of_length_le (by have := Hm.out; have := Ha.out; omega)]; simp, HR.out, But.refl _ _⟩
  case round =>
    obtain ⟨i, j, hgk, hmi, hij, hjb, rfl, rfl, h1, h2, hr, hbt⟩ := hrel
    have Hg := hide hgk
    have HI := hide hr
    have HB := hide hbt
    have H1 := hide h1
    have H2 := hide h2
    clear hgk hr hbt h1 h2
    by_cases hlt : i < j
    · have hsum : IntKind.i64.wrap ((i : Int) + (j : Int)) = ((i + j : Nat) : Int) := by rw [IntWalk.i64_in _ (by omega)]; omega
      obtain ⟨d, hd⟩ : ∃ d, (i + j) / 2 = d := ⟨_, rfl⟩
      have hdz : ((i : Int) + (j : Int)) / 2 = (d : Int) := by omega
      have hid : i ≤ d := by omega
      have hdj : d < j := by omega
      have hdn : d < n := by omega
      clear hd hsum
      obtain ⟨y, hy⟩ : ∃ y, u[d - a]? = some y := ⟨_, List.getElem?_eq_getElem (by have := Hm.out; have := Ha.out; omega)⟩
      have c1 : wr.cell? ⟨g, off + d, none⟩ = some (.int .i64 y) := HI.out.at_ (by rw [List.getElem?_append_right (by have := Ha.out; omega), ← Ha.out, List.getElem?_append_left (List.getElem?_eq_some_iff.1 hy).1]; exact hy)
      have c2 : wr.cell? ⟨g, off + m, none⟩ = some (.int .i64 x) := HI.out.at_ (by rw [Hm.out, List.getElem?_append_right (by omega), List.getElem?_append_right (by omega), show A.length + u.length - A.length - u.length = 0 by omega]; rfl)
      obtain ⟨q, hq⟩ : ∃ q, Nf.cls x - Nf.cls y = q := ⟨_, rfl⟩
      have HC1 := hide (fun W => HC.out x y W)
      rw [hq] at HC1
      have Hq := hide hq
      have Hy := hide hy
      clear hq hy
      by_cases hc : q < 0
      · have hd3 : decide (q < 0) = true := decide_eq_true hc
        go_wp2_with fail
        go_quiet ((go_at_call 112; refine Calls.quiet_of_same (HC1.out _)))
        have HBW := hide (show But g w (wr.drewN nq) from ⟨HB.out.os, HB.out.tape, HB.out.output, HB.out.size, HB.out.block⟩)
        have HRW := hide (HI.out.drewN nq)
        generalize wr.drewN nq = W at HRW HBW ⊢
        clear c1 c2
        go_wp2
        go_roundg (d - i)
        case measure => have := Hg.out; omega
        case rel =>
          refine ⟨i, d, rfl, by omega, by omega, by omega, rfl, rfl, H1.out, ?_, HRW.out, HBW.out⟩
          intro z hz
          have := Nf.up_drop HU.out Hy.out z hz
          have := Hq.out
          omega
      · have hd3 : decide (q < 0) = false := decide_eq_false hc
        have zd : IntKind.i64.wrap ((d : Int) + 1) = ((d + 1 : Nat) : Int) := by rw [IntWalk.i64_in _ (by omega)]; omega
        go_wp2_with fail
        go_quiet ((go_at_call 112; refine Calls.quiet_of_same (HC1.out _)))
        have HBW := hide (show But g w (wr.drewN nq) from ⟨HB.out.os, HB.out.tape, HB.out.output, HB.out.size, HB.out.block⟩)
        have HRW := hide (HI.out.drewN nq)
        generalize wr.drewN nq = W at HRW HBW ⊢
        clear c1 c2
        go_wp2
        go_roundg (j - (d + 1))
        case measure => have := Hg.out; omega
        case rel =>
          refine ⟨d + 1, j, rfl, by omega, by omega, hjb, by first | rfl | go_num, rfl, ?_, H2.out, HRW.out, HBW.out⟩
          intro z hz
          rw [show d + 1 - a = (d - a) + 1 by omega] at hz
          have := Nf.up_take HU.out Hy.out z hz
          have := Hq.out
          omega
    · have hjj : j = i := by omega
      subst hjj
      have HF := hide (Nf.sortR_last HU.out H1.out H2.out)
      obtain ⟨k, hk⟩ : ∃ k, j - a = k := ⟨_, rfl⟩
      rw [hk] at HF
      have Hk := hide hk
      have Hvl := hide (show (u.take k).length = k by rw [List.length_take]; have := Hm.out; have := Ha.out; omega)
      have Hdl := hide (show (u.drop k).length = m - j by rw [List.length_drop]; have := Hm.out; have := Ha.out; omega)
      have HR2 := hide (HI.out.as (show A ++ (u ++ x :: B) = A ++ (u.take k ++ (u.drop k ++ x :: B)) by rw [← List.append_assoc (u.take k), List.take_append_drop]))
      clear hk HI H1 H2
      generalize u.take k = u1 at HF Hvl HR2
      generalize u.drop k = u2 at HF HR2 Hdl
      go_wp2
      go_loopg [17] (m - j) (fun gk vk wj => ∃ (t i : Nat), gk = t ∧ t ≤ m - j ∧ i = j + t ∧ vk = .int .i64 (i : Int) ∧ SRow wj g off pre post (A ++ (u1 ++ (u2.take t ++ x :: (u2.drop t ++ B)))) ∧ But g w wj)
      case atStart => exact ⟨m - j, m, rfl, Nat.le_refl _, by omega, rfl, by rw [List.take_of_length_le (by rw [Hdl.out]; exact Nat.le_refl _), List.drop_of_length_le (by rw [Hdl.out]; exact Nat.le_refl _)]; exact HR2.out, HB.out⟩
      case round =>
        obtain ⟨t, i, hgt, htk, hi, rfl, hr, hbt⟩ := hrel
        have Hgt := hide hgt
        have HI3 := hide hr
        have HB3 := hide hbt
        have Hi := hide hi
        clear hgt hr hbt hi
        by_cases hlt2 : j < i
        · obtain ⟨t1, ht1⟩ : ∃ t1, t = t1 + 1 := ⟨t - 1, by have := Hi.out; omega⟩
          subst ht1
          obtain ⟨y, hy⟩ : ∃ y, u2[t1]? = some y := ⟨_, List.getElem?_eq_getElem (by have := Hdl.out; omega)⟩
          have e3 : A ++ (u1 ++ (u2.take (t1 + 1) ++ x :: (u2.drop (t1 + 1) ++ B))) = (A ++ (u1 ++ u2.take t1)) ++ y :: ([] ++ x :: (u2.drop (t1 + 1) ++ B)) := by rw [take_next hy]; simp
          have e4 : (A ++ (u1 ++ u2.take t1)) ++ x :: ([] ++ y :: (u2.drop (t1 + 1) ++ B)) = A ++ (u1 ++ (u2.take t1 ++ x :: (u2.drop t1 ++ B))) := by rw [take_drop_next hy]; simp
          obtain ⟨i1, hi1⟩ : ∃ i1, i = i1 + 1 := ⟨i - 1, by omega⟩
          have hrow := HI3.out.as e3
          have p1 : i1 = (A ++ (u1 ++ u2.take t1)).length := by rw [List.length_append, List.length_append, List.length_take, Hvl.out]; have := Hdl.out; have := Ha.out; have := Hi.out; have := Hk.out; omega
          have p2 : i = (A ++ (u1 ++ u2.take t1)).length + 1 + ([] : List Int).length := by rw [← p1, hi1]; rfl
          obtain ⟨c1, c2, _, u3, c3⟩ := exch hrow p1 p2
          have f1 := hrow.frozen (off + i1)
          have f2 := hrow.frozen (off + i)
          have N1 := hide ((swapped2 hrow p1 p2).as e4)
          have HBn := hide ((HB3.out.setCell (p := ⟨g, off + i, none⟩) (.inl rfl) (.int .i64 y)).setCell (p := ⟨g, off + i1, none⟩) (.inl rfl) (.int .i64 x))
          have hin : i < n := by have := Hi.out; omega
          have zi : IntKind.i64.wrap ((i : Int) - 1) = (i1 : Int) := by rw [IntWalk.i64_in _ (by omega)]; omega
          have hi1n : i1 < n := by have := Hi.out; omega
          have Hi1 := hide hi1
          clear hy e3 e4 p1 p2 hrow hi1
          go_wp2
          go_region
          go_wp2
          go_roundg t1
          case measure => have := Hgt.out; omega
          case rel => exact ⟨t1, i1, rfl, by omega, by have := Hi1.out; have := Hi.out; omega, by first | rfl | go_num, N1.out.drew, HBn.out.drew⟩
        · go_wp2
          (try simp only [Exit.inBlock, Exit.then])
          refine bodyPost_ret (results_none rfl _ _ _) rfl ?_
          have htk2 : t = 0 := by have := Hi.out; omega
          subst htk2
          exact ⟨rfl, HI3.out.as (by rw [← HF.out]; simp), HB3.out⟩
end Go.Proofs.YtlcfakmbcfdgbaaGreat
