/- Bozo: the law BozoJunk, the walk. -/
import Derived.Test.YtaickkaoglohgaaGreatDoorBw46
set_option linter.unusedSimpArgs false
set_option linter.unusedVariables false
namespace Go.Proofs.YtaickkaoglohgaaGreatDoor
section
open Go.RowKit Tk Sx

set_option maxRecDepth 100000 in
set_option maxHeartbeats 32000000 in
theorem lawJunk_any (s x : L) (w : World) (hg : Gl w) (hw6 : 6 ≤ w.heap.size) :
  Calls Tryz.prog 4 #[.string (bstr s), .string (bstr x)] w fun e w' => e = .returned (.bool true) ∧ Below w.heap.size w w' := by
 have HWk := hide (fun W (h : Below w.heap.size w W) => wakes17_any W (hg.m.below h) (Nat.le_trans hw6 h.size));obtain ⟨n, hn⟩ : ∃ n, (bstr s).size = n := ⟨_, rfl⟩;obtain ⟨m, hm⟩ : ∃ m, (bstr x).size = m := ⟨_, rfl⟩;have hnl : n = s.length := by rw [← hn, bstr_size]
 have hml : m = x.length := by rw [← hm, bstr_size]
 by_cases hbig : 2000 < n
 ·clear hnl hml
  go_enter Tryz.func4, Tryz.ntmps4
  go_wp2_with fail
  refine (HWk.out _ (Below.refl _ _)).mono ?_;rintro e w1 ⟨rfl, b1⟩;go_wp2;go_ret;exact ⟨rfl, b1⟩
 by_cases hbig2 : 2000 < m
 ·clear hnl hml
  go_enter Tryz.func4, Tryz.ntmps4
  go_wp2_with fail
  refine (HWk.out _ (Below.refl _ _)).mono ?_;rintro e w1 ⟨rfl, b1⟩;go_wp2;go_ret;exact ⟨rfl, b1⟩
 have HPa := hide (parse_any (bstr s) w hg hw6 (by rw [bstr_size]; omega));have HBz := hide (fun W (h : Below w.heap.size w W) => bparse_any (s ++ x) W (hg.m.below h) (Nat.le_trans hw6 h.size) (by rw [List.length_append]; omega));rw [bstr_list] at HPa;obtain ⟨r, hr⟩ : ∃ r, Sx.parse s = r := ⟨_, rfl⟩;rw [hr] at HPa
 cases r with
 | error y =>
  obtain ⟨y1, y2⟩ := y;have ht := (parse_told hr).2;dsimp only at ht;clear hr hg hw6 hnl hml
  rcases ht with rfl | rfl | rfl
  all_goals
   go_enter Tryz.func4, Tryz.ntmps4
   go_wp2_with fail
   refine HPa.out.mono ?_;rintro e w1 ⟨b1, rfl⟩;have B1 := hide b1;clear b1
   go_wp2_with fail
   refine (HWk.out _ B1.out).mono ?_;rintro e w3 ⟨rfl, b3⟩;go_wp2;go_ret;exact ⟨rfl, B1.out.trans (b3.mono B1.out.size)⟩
 | ok evs =>
  obtain ⟨rs, hz, -, hrs⟩ := Bz.strict_ok (x := x) hr;rw [hz] at HBz;have Hsm := hide (parse_small (N := 3000) hr (by omega)).1;have Hfew := hide (parse_few hr);have hap : bstr s ++ bstr x = bstr (s ++ x) := bstr_app s x;have Hnm := hide (show s.length + x.length = n + m by omega);clear hr hg hw6 hnl hml hz
  rcases hrs with rfl | ⟨at0, ha, rfl⟩
  ·go_enter Tryz.func4, Tryz.ntmps4
   go_wp2_with fail
   refine HPa.out.mono ?_;rintro e w1 ⟨b1, xs, A, c, hx, rfl, -, hr, -, -, hi⟩;have B1 := hide b1;have E1 := hide (EvL.of hr hi);have Hx := hide hx;clear b1 hr hi hx
   go_wp2_with fail
   refine (HBz.out _ B1.out).mono ?_;rintro e w2 ⟨b2, ys, A2, c2, Ar, cr, hy, rfl, -, -, hr2, -, -, hi2, -⟩;have E2 := hide (EvL.of hr2 hi2);have E1' := hide ((E1.out.below b2).more b2.size);have B2 := hide (B1.out.trans (b2.mono B1.out.size));have hN : xs.length = evs.length := by rw [← Hx.out, List.length_map]
   have hSE := sameEvents_any w2 w2.heap.size A A2 c c2 xs ys E1'.out E2.out (by rw [Hx.out, hy]) (by rw [hN]; have := Hsm.out; omega) (fun x hx => by
    have hm : x.e ∈ xs.map (·.e) := List.mem_map_of_mem hx;rw [Hx.out] at hm;exact Nat.le_trans (Hfew.out _ hm) (by decide)) (Nat.le_refl _)
   have HSE := hide hSE;clear b2 hr2 hi2 hy hSE hN hap
   go_wp2_with fail
   refine HSE.out.mono ?_;rintro e w3 ⟨rfl, b3⟩;have B3 := hide (B2.out.trans (b3.mono B2.out.size));clear b3
   go_wp2_with fail
   refine (HWk.out _ B3.out).mono ?_;rintro e w4 ⟨rfl, b4⟩;go_wp2;go_ret;exact ⟨rfl, B3.out.trans (b4.mono B3.out.size)⟩
  have Ha := hide (show (at0 : Int) ≤ ((n + m : Nat) : Int) by have := Hnm.out; omega);clear ha
  go_enter Tryz.func4, Tryz.ntmps4
  go_wp2_with fail
  refine HPa.out.mono ?_;rintro e w1 ⟨b1, xs, A, c, hx, rfl, -, hr, -, -, hi⟩;have B1 := hide b1;have E1 := hide (EvL.of hr hi);have Hx := hide hx;clear b1 hr hi hx
  go_wp2_with fail
  refine (HBz.out _ B1.out).mono ?_;rintro e w2 ⟨b2, ys, A2, c2, Ar, cr, hy, rfl, -, -, hr2, -, -, hi2, hrr⟩;have E2 := hide (EvL.of hr2 hi2);have E1' := hide ((E1.out.below b2).more b2.size);have B2 := hide (B1.out.trans (b2.mono B1.out.size));have hN : xs.length = evs.length := by rw [← Hx.out, List.length_map]
  have hSE := sameEvents_any w2 w2.heap.size A A2 c c2 xs ys E1'.out E2.out (by rw [Hx.out, hy]) (by rw [hN]; have := Hsm.out; omega) (fun x hx => by
   have hm : x.e ∈ xs.map (·.e) := List.mem_map_of_mem hx;rw [Hx.out] at hm;exact Nat.le_trans (Hfew.out _ hm) (by decide)) (Nat.le_refl _)
  have HSE := hide hSE;obtain ⟨b, off, rfl, hb, q1, q2⟩ := rss_cells (k := 0) (r := ⟨13, at0⟩) hrr rfl;dsimp only at q1 q2;rw [Nat.zero_mul, Nat.add_zero] at q1 q2;clear b2 hr2 hi2 hy hSE hN hap hrr
  go_wp2_with fail
  refine HSE.out.mono ?_;rintro e w3 ⟨rfl, b3⟩;have B3 := hide (B2.out.trans (b3.mono B2.out.size));replace q1 := cell_go b3 q1;replace q2 := cell_go b3 q2;clear b3 hb;have hwm : IntKind.i64.wrap ((n : Int) + (m : Int)) = ((n + m : Nat) : Int) := by rw [IntWalk.i64_in _ (by omega)]; omega
  have hle := decide_eq_true Ha.out
  go_wp2_with fail
  refine (HWk.out _ B3.out).mono ?_;rintro e w4 ⟨rfl, b4⟩;go_wp2;go_ret;exact ⟨rfl, B3.out.trans (b4.mono B3.out.size)⟩
end
end Go.Proofs.YtaickkaoglohgaaGreatDoor
