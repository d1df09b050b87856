/- Strict: the law of any text: the walk. -/
import Derived.Test.YtbbpkcddifmieaaGreatDoorSw44
set_option linter.unusedSimpArgs false
set_option linter.unusedVariables false
namespace Go.Proofs.YtbbpkcddifmieaaGreatDoor
section
open Go.RowKit Tk Sx

theorem told_ne9 {s : L} {x : Nat × Nat} (h : Sx.parse s = .error x) : x.2 ≠ 0 := by
 rcases (parse_told h).2 with e | e | e <;> rw [e] <;> decide
theorem EvL.nil (w : World) (B : Nat) : EvL w B none [] := ⟨⟨rfl, fun h => absurd h (by simp)⟩, fun x hx => by cases hx⟩
theorem sameNone_any (w : World) : Calls Tryz.prog 15 #[.slice none 0 0, .slice none 0 0] w fun e w' => e = .returned (.bool true) ∧ Below w.heap.size w w' :=
 sameEvents_any w w.heap.size none none 0 0 [] [] (EvL.nil _ _) (EvL.nil _ _) rfl (by simp) (fun x hx => by cases hx) (Nat.le_refl _)

set_option maxRecDepth 100000 in
set_option maxHeartbeats 64000000 in
theorem lawTells_any (s : L) (w : World) (hg : Gl w) (hw6 : 6 ≤ w.heap.size) :
  Calls Tryz.prog 7 #[.string (bstr s)] w fun e w' => e = .returned (.bool true) ∧ Below w.heap.size w w' := by
 have HWk := hide (fun W (h : Below w.heap.size w W) => wakes15_any W (hg.below h) (Nat.le_trans hw6 h.size));obtain ⟨n, hn⟩ : ∃ n, (bstr s).size = n := ⟨_, rfl⟩;have hnl : n = s.length := by rw [← hn, bstr_size]
 by_cases hbig : 3000 < n
 ·clear hnl
  go_enter Tryz.func7, Tryz.ntmps7
  go_wp2_with fail
  refine (HWk.out _ (Below.refl _ _)).mono ?_;rintro e w1 ⟨rfl, b1⟩;go_wp2;go_ret;exact ⟨rfl, b1⟩
 have HPa := hide (parse_any (bstr s) w hg hw6 (by rw [bstr_size]; omega));have HPb := hide (fun W => dparse_any (bstr s) W (by rw [bstr_size]; omega));have HWl := hide (fun W (h : Below w.heap.size w W) => well_any (bstr s) W (hg.below h) (Nat.le_trans hw6 h.size) (by rw [bstr_size]; omega) (by rw [bstr_list]; exact fun x hx => told_ne9 hx));have HWd := hide (fun W => dwell_any (bstr s) W (by rw [bstr_size]; omega) (by rw [bstr_list]; exact fun x hx => told_ne9 hx));rw [bstr_list] at HPa HPb HWl HWd;obtain ⟨r, hr⟩ : ∃ r, Sx.parse s = r := ⟨_, rfl⟩;rw [hr] at HPa HPb HWl HWd
 cases r with
 | error x =>
  obtain ⟨x1, x2⟩ := x;have ht := parse_told hr;obtain ⟨t1, t2⟩ := ht;dsimp only at t1 t2;dsimp only [isOk] at HWl HWd;have HSn := hide sameNone_any;clear hr hg hw6 hnl t1
  rcases t2 with rfl | rfl | rfl
  all_goals
   go_enter Tryz.func7, Tryz.ntmps7
   go_wp2_with fail
   refine HPa.out.mono ?_;rintro e w1 ⟨b1, rfl⟩;have B1 := hide b1;clear b1
   go_wp2_with fail
   refine (HPb.out _).mono ?_;rintro e w2 ⟨b2, rfl⟩;have B2 := hide (B1.out.trans (b2.mono B1.out.size));clear b2
   go_wp2_with fail
   refine (HSn.out _).mono ?_;rintro e w3 ⟨rfl, b3⟩;have B3 := hide (B2.out.trans (b3.mono B2.out.size));clear b3
   go_wp2_with fail
   refine (HWl.out _ B3.out).mono ?_;rintro e w4 ⟨rfl, b4⟩;have B4 := hide (B3.out.trans (b4.mono B3.out.size));clear b4
   go_wp2_with fail
   refine (HWd.out _).mono ?_;rintro e w5 ⟨rfl, b5⟩;have B5 := hide (B4.out.trans (b5.mono B4.out.size));clear b5
   go_wp2_with fail
   refine (HWk.out _ B5.out).mono ?_;rintro e w6 ⟨rfl, b6⟩;go_wp2;go_ret;exact ⟨rfl, B5.out.trans (b6.mono B5.out.size)⟩
 | ok evs =>
  have hle := (parse_small (N := 3000) hr (by omega)).1;have Hfew := hide (parse_few hr);dsimp only [isOk] at HWl HWd;have Hle := hide hle;clear hr hg hw6 hnl hle
  go_enter Tryz.func7, Tryz.ntmps7
  go_wp2_with fail
  refine HPa.out.mono ?_;rintro e w1 ⟨b1, xs, A, c, hx, rfl, hxc, hr, -, -, hi⟩;have B1 := hide b1;have E1 := hide (EvL.of hr hi);have Hx := hide hx;obtain ⟨N, hN⟩ : ∃ N, xs.length = N := ⟨_, rfl⟩;have HN := hide hN;rw [hN] at hxc ⊢;clear b1 hx hr hi hN
  go_wp2_with fail
  refine (HPb.out _).mono ?_;rintro e w2 ⟨b2, ys, A2, c2, hy, rfl, hyc, hr, -, -, hi⟩;have B2 := hide (B1.out.trans (b2.mono B1.out.size));have E2 := hide (EvL.of hr hi);have E1' := hide ((E1.out.below b2).more b2.size);have Hy := hide hy;obtain ⟨M, hM⟩ : ∃ M, ys.length = M := ⟨_, rfl⟩;have HM := hide hM;rw [hM] at hyc ⊢
  have hSE := sameEvents_any w2 w2.heap.size A A2 c c2 xs ys E1'.out E2.out (by rw [Hx.out, Hy.out]) (by rw [← List.length_map (f := (·.e)), Hx.out]; exact Nat.le_trans Hle.out (by decide)) (fun x hx => by
   have hm : x.e ∈ xs.map (·.e) := List.mem_map_of_mem hx;rw [Hx.out] at hm;exact Nat.le_trans (Hfew.out _ hm) (by decide)) (Nat.le_refl _)
  rw [HN.out, HM.out] at hSE;have HSE := hide hSE;clear b2 hr hi hy hSE hM
  go_wp2_with fail
  refine HSE.out.mono ?_;rintro e w3 ⟨rfl, b3⟩;have B3 := hide (B2.out.trans (b3.mono B2.out.size));clear b3
  go_wp2_with fail
  refine (HWl.out _ B3.out).mono ?_;rintro e w4 ⟨rfl, b4⟩;have B4 := hide (B3.out.trans (b4.mono B3.out.size));clear b4
  go_wp2_with fail
  refine (HWd.out _).mono ?_;rintro e w5 ⟨rfl, b5⟩;have B5 := hide (B4.out.trans (b5.mono B4.out.size));clear b5
  go_wp2_with fail
  refine (HWk.out _ B5.out).mono ?_;rintro e w6 ⟨rfl, b6⟩;go_wp2;go_ret;exact ⟨rfl, B5.out.trans (b6.mono B5.out.size)⟩
end
end Go.Proofs.YtbbpkcddifmieaaGreatDoor
