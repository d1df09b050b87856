/- Tokens: the law on comments: the walk. (Printed by wip/genTkYi.py.) -/
import Derived.Test.YtbnaphbmmkmaeaaDoorTb01
import Derived.Test.YtbnaphbmmkmaeaaDoorTb18
set_option linter.unusedSimpArgs false
set_option linter.unusedVariables false
namespace Go.Proofs.YtbnaphbmmkmaeaaDoor
open Go.RowKit Tk

set_option maxHeartbeats 32000000 in
set_option maxRecDepth 20000 in
theorem lawSkip_any (s : ByteArray) (k : Int) (c : ByteArray) (w : World) (hg : Gl w) (hw6 : 6 ≤ w.heap.size) (hk : (Lit.int .i64 k).wf = true) :
    Calls Tryd.prog 4 #[.string s, .int .i64 k, .string c] w fun e w' => e = .returned (.bool true) ∧ Below w.heap.size w w' := by
  have HWk := hide (fun W (h : Below w.heap.size w W) => wakes_any W (hg.below h) (Nat.le_trans hw6 h.size))
  by_cases hbig : 2000 < s.size
  · have hd : decide ((2000 : Int) < (s.size : Int)) = true := decide_eq_true (by omega)
    go_enter Tryd.func4, Tryd.ntmps4
    go_wp2_with fail
    refine (HWk.out _ (Below.refl w.heap.size w)).mono ?_
    rintro e wz ⟨rfl, bz⟩
    go_wp2
    go_ret
    exact ⟨rfl, (Below.refl w.heap.size w).trans (bz.mono (Below.refl w.heap.size w).size)⟩
  have hd : decide ((2000 : Int) < (s.size : Int)) = false := decide_eq_false (by omega)
  by_cases hbig2 : 200 < c.size
  · have hd2 : decide ((200 : Int) < (c.size : Int)) = true := decide_eq_true (by omega)
    go_enter Tryd.func4, Tryd.ntmps4
    go_wp2_with fail
    refine (HWk.out _ (Below.refl w.heap.size w)).mono ?_
    rintro e wz ⟨rfl, bz⟩
    go_wp2
    go_ret
    exact ⟨rfl, (Below.refl w.heap.size w).trans (bz.mono (Below.refl w.heap.size w).size)⟩
  have hd2 : decide ((200 : Int) < (c.size : Int)) = false := decide_eq_false (by omega)
  have hs3 : s.size ≤ 2000 := by omega
  have hc3 : c.size ≤ 200 := by omega
  obtain ⟨D, hD⟩ : ∃ D, s.data.toList = D := ⟨_, rfl⟩
  obtain ⟨C, hC⟩ : ∃ C, c.data.toList = C := ⟨_, rfl⟩
  have HDl := hide (show D.length = s.size by rw [← hD, size_list])
  have HCl := hide (show C.length = c.size by rw [← hC, size_list])
  have HVc := hide (fun W => refValid_any c W (by omega))
  have HBc := hide (fun W => refBad_any c W (by omega))
  rw [hC] at HVc HBc
  cases hv : Utf.valid C with
  | false =>
    rw [hv] at HVc
    go_enter Tryd.func4, Tryd.ntmps4
    go_wp2_with fail
    refine (HVc.out _).mono ?_
    rintro e w1 ⟨rfl, b1⟩
    have B1 := hide b1
    clear b1
    go_wp2_with fail
    refine (HWk.out _ (B1.out)).mono ?_
    rintro e wz ⟨rfl, bz⟩
    go_wp2
    go_ret
    exact ⟨rfl, (B1.out).trans (bz.mono (B1.out).size)⟩
  | true =>
    rw [hv] at HVc
    have hbf := bad_fine C
    obtain ⟨z, hz⟩ : ∃ z, bad C = z := ⟨_, rfl⟩
    rw [hz] at HBc hbf
    cases hf : fine C with
    | false =>
      rw [hf] at hbf
      have hb2 : decide (0 ≤ z) = true := by rw [hbf]; rfl
      go_enter Tryd.func4, Tryd.ntmps4
      go_wp2_with fail
      refine (HVc.out _).mono ?_
      rintro e w1 ⟨rfl, b1⟩
      have B1 := hide b1
      clear b1
      go_wp2_with fail
      refine (HBc.out _).mono ?_
      rintro e w1' ⟨rfl, rfl⟩
      go_wp2_with fail
      refine (HWk.out _ (B1.out)).mono ?_
      rintro e wz ⟨rfl, bz⟩
      go_wp2
      go_ret
      exact ⟨rfl, (B1.out).trans (bz.mono (B1.out).size)⟩
    | true =>
      rw [hf] at hbf
      have hb2 : decide (0 ≤ z) = false := by rw [hbf]; rfl
      have Hf := hide hf
      have HA := hide (fun W (h : Below w.heap.size w W) => tks_any W s (hg.below h) (Nat.le_trans hw6 h.size) (by omega))
      rw [hD] at HA
      have HA2 : Hid (∀ W q (t : ByteArray), t = s.extract 0 q ++ ⟨#[60, 33, 45, 45]⟩ ++ c ++ ⟨#[45, 45, 62]⟩ ++ s.extract q s.size → Below w.heap.size w W → Calls Tryd.prog 8 #[.string t] W (TksR W (D.take q ++ (sComment ++ (C ++ ([45, 45, 62] ++ D.drop q)))))) := hide fun W q t ht h => by
        have hl := with_comment s c q
        rw [hD, hC] at hl
        have hsz : t.size ≤ 1000000 := by
          have := congrArg List.length hl
          rw [← ht, size_list] at this
          have h1 := HDl.out
          have h2 := HCl.out
          simp only [List.length_append, List.length_take, List.length_drop, List.length_cons, List.length_nil, sComment] at this
          omega
        have := tks_any W t (hg.below h) (Nat.le_trans hw6 h.size) hsz
        rw [ht, hl] at this
        rw [ht]
        exact this
      clear hv hf hz hbf hg hbig hbig2
      go_enter Tryd.func4, Tryd.ntmps4
      go_wp2_with fail
      refine (HVc.out _).mono ?_
      rintro e w1 ⟨rfl, b1⟩
      have B1 := hide b1
      clear b1
      go_wp2_with fail
      refine (HBc.out _).mono ?_
      rintro e w1' ⟨rfl, rfl⟩
      go_wp2_with fail
      refine (HA.out _ B1.out).mono ?_
      rintro e w2 ⟨xs, A, cc, n, ok, hP, hxl, hxc, rfl, b2, hr, -, -, hi⟩
      have HP := hide hP
      have HT := hide (TkL.of hr hi)
      have B2 := hide (B1.out.trans (b2.mono B1.out.size))
      obtain ⟨N, hN⟩ : ∃ N, xs.length = N := ⟨_, rfl⟩
      have HN := hide hN
      have hE : ∀ j, j < N → ∃ x, xs[j]? = some x ∧ x.t.at_ = ends (xs.map (·.t)) j ∧ ends (xs.map (·.t)) j < ends (xs.map (·.t)) (j + 1) ∧ ends (xs.map (·.t)) (j + 1) ≤ n ∧ x.t.end_ = ends (xs.map (·.t)) (j + 1) := fun j hj => tv_ends hP.len.2.1 (by rw [hN]; exact hj)
      have HE := hide (show ∀ j, j < N → ∃ x, xs[j]? = some x ∧ x.t.end_ ≤ s.size from fun j hj => by
        obtain ⟨x, h1, _, _, h4, h5⟩ := hE j hj
        have := hP.len.1
        have := HDl.out
        exact ⟨x, h1, by omega⟩)
      rw [hN] at hxl hxc ⊢
      have hN2 : N ≤ 2000 := by have := HDl.out; omega
      have Hsm := hide (show ∀ y ∈ xs.map Tv.g, y.as_.length ≤ 2000 from fun y hy => by have := attrs_small hP hy; have := HDl.out; omega)
      clear hP hr hi b2 hN HA hd hd2 hb2 hE hxl HVc HBc
      cases ok with
      | false =>
        go_wp2_with fail
        refine (HWk.out _ (B2.out)).mono ?_
        rintro e wz ⟨rfl, bz⟩
        go_wp2
        go_ret
        exact ⟨rfl, (B2.out).trans (bz.mono (B2.out).size)⟩
      | true =>
        by_cases hz : N = 0
        · subst hz
          go_wp2_with fail
          refine (HWk.out _ (B2.out)).mono ?_
          rintro e wz ⟨rfl, bz⟩
          go_wp2
          go_ret
          exact ⟨rfl, (B2.out).trans (bz.mono (B2.out).size)⟩
        have hNz : ((N : Int) == 0) = false := by rw [beq_eq_false_iff_ne]; omega
        go_wp2
        go_loopg [10] c.size (fun g vi wr => ∃ j : Nat, g = c.size - j ∧ j ≤ c.size ∧ vi = .int .i64 (j : Int) ∧ (∀ i, i < j → C[i]? ≠ some 62) ∧ wr = w2)
        case atStart => exact ⟨0, rfl, Nat.zero_le _, rfl, (fun i hi => absurd hi (by omega)), rfl⟩
        case round =>
          obtain ⟨j, hgg, hj, rfl, h62, rfl⟩ := hrel
          have Hg := hide hgg
          have H62 := hide h62
          clear hgg h62
          by_cases hlt : j < c.size
          · obtain ⟨d, hd⟩ : ∃ d, C[j]? = some d := ⟨_, List.getElem?_eq_getElem (by rw [HCl.out]; exact hlt)⟩
            have hidx := idx_run c j d (by rw [hC]; exact hd)
            by_cases h2 : d = 62
            · have ht : ((d.toNat : Int) == 62) = true := by rw [byte_is (e := 62) (z := 62) rfl, h2]; rfl
              clear h2 hd
              go_wp2_with fail
              refine (HWk.out _ (B2.out)).mono ?_
              rintro e wz ⟨rfl, bz⟩
              go_wp2
              go_ret
              exact ⟨rfl, (B2.out).trans (bz.mono (B2.out).size)⟩
            · have ht : ((d.toNat : Int) == 62) = false := by rw [byte_is (e := 62) (z := 62) rfl]; exact beq_eq_false_iff_ne.2 h2
              have Hn := hide (show ∀ i, i < j + 1 → C[i]? ≠ some 62 from fun i hi => by
                by_cases hij : i = j
                · subst hij; rw [hd]; intro e; exact h2 (Option.some.inj e)
                · exact H62.out i (by omega))
              clear h2 hd
              go_wp2
              go_roundg (c.size - (j + 1))
              case measure => have := Hg.out; omega
              case rel => exact ⟨j + 1, rfl, by omega, by go_num, Hn.out, rfl⟩
          · have h62' : (62 : UInt8) ∉ C := fun hm => by
              obtain ⟨i, hi, e⟩ := List.getElem_of_mem hm
              exact H62.out i (by have := HCl.out; omega) (by rw [List.getElem?_eq_getElem hi, e])
            have H62' := hide h62'
            obtain ⟨m, hm, hm1, hm2, i, hi, hij⟩ := mod_in k (show 0 < N by omega)
            obtain ⟨x, hx, hxe⟩ := HE.out i hij
            obtain ⟨b, off, rfl, hb, hat⟩ := HT.out.at_ hx
            have x6 : wr.cell? ⟨b, off + i * 7 + 6, none⟩ = some (Value.int .i64 (x.t.end_ : Int)) := hat.c6
            have Hx := hide hx
            have hxi : (x.t.end_ : Int) ≤ (s.size : Int) := by omega
            have hx0 : (0 : Int) ≤ (x.t.end_ : Int) := by omega
            have Hj := hide (show j = c.size by omega)
            clear hat hx h62' HE H62 hz
            obtain ⟨q, hq⟩ : ∃ q, x.t.end_ = q := ⟨_, rfl⟩
            rw [hq] at x6 hxe hxi hx0
            have Hq := hide hq
            clear hq
            have k1 : ¬ 9223372036854775807 < q + 4 := by omega
            have k2 : ¬ 9223372036854775807 < q + 4 + c.size := by omega
            have k3 : ¬ 9223372036854775807 < q + 4 + c.size + 3 := by omega
            have k4 : ¬ 9223372036854775807 < q + 4 + c.size + 3 + (s.size - q) := by omega
            go_wp2
            refine wp_region_held_drew (S := fun W => W = wr.drew) (by kernel_rfl) ?_ (fun hHeld => ?_)
            · (try dsimp only)
              first | done | rfl | exact hHeld
            change wpAnyH _ _ _ _ _ 20 #[false, false, false, false, false, false, false, false, false, false, false, false, false, false, false, false, false, false, false, false] _ _
            refine held_take (i := 0) (d := 71) (v := ?_) rfl rfl (by kernel_rfl) (by kernel_rfl) (by kernel_rfl) (fun _ _ _ h => h) (by kernel_rfl) hHeld ?_ ?_
            rotate_left
            · intro w hSw
              (try dsimp only at hSw)
              go_simp
              first | done | with_reducible rfl
            (try simp only [Act.put, List.setIfInBounds_toArray, List.set_cons_zero, List.set_cons_succ])
            refine held_take (i := 1) (d := 72) (v := ?_) rfl rfl (by kernel_rfl) (by kernel_rfl) (by kernel_rfl) (fun _ _ _ h => h) (by kernel_rfl) hHeld ?_ ?_
            rotate_left
            · intro w hSw
              (try dsimp only at hSw)
              go_simp
              first | done | with_reducible rfl
            (try simp only [Act.put, List.setIfInBounds_toArray, List.set_cons_zero, List.set_cons_succ])
            refine held_take (i := 2) (d := 73) (v := ?_) rfl rfl (by kernel_rfl) (by kernel_rfl) (by kernel_rfl) (fun _ _ _ h => h) (by kernel_rfl) hHeld ?_ ?_
            rotate_left
            · intro w hSw
              (try dsimp only at hSw)
              go_simp
              first | done | with_reducible rfl
            (try simp only [Act.put, List.setIfInBounds_toArray, List.set_cons_zero, List.set_cons_succ])
            refine held_take (i := 3) (d := 74) (v := ?_) rfl rfl (by kernel_rfl) (by kernel_rfl) (by kernel_rfl) (fun _ _ _ h => h) (by kernel_rfl) hHeld ?_ ?_
            rotate_left
            · intro w hSw
              (try dsimp only at hSw)
              go_simp
              first | done | with_reducible rfl
            (try simp only [Act.put, List.setIfInBounds_toArray, List.set_cons_zero, List.set_cons_succ])
            refine held_take (i := 4) (d := 75) (v := ?_) rfl rfl (by kernel_rfl) (by kernel_rfl) (by kernel_rfl) (fun _ _ _ h => h) (by kernel_rfl) hHeld ?_ ?_
            rotate_left
            · intro w hSw
              (try dsimp only at hSw)
              go_simp
              first | done | with_reducible rfl
            (try simp only [Act.put, List.setIfInBounds_toArray, List.set_cons_zero, List.set_cons_succ])
            refine held_take (i := 5) (d := 76) (v := ?_) rfl rfl (by kernel_rfl) (by kernel_rfl) (by kernel_rfl) (fun _ _ _ h => h) (by kernel_rfl) hHeld ?_ ?_
            rotate_left
            · intro w hSw
              (try dsimp only at hSw)
              subst hSw
              go_simp
              first | done | with_reducible rfl
            (try simp only [Act.put, List.setIfInBounds_toArray, List.set_cons_zero, List.set_cons_succ])
            refine held_take (i := 6) (d := 77) (v := ?_) rfl rfl (by kernel_rfl) (by kernel_rfl) (by kernel_rfl) (fun _ _ _ h => h) (by kernel_rfl) hHeld ?_ ?_
            rotate_left
            · intro w hSw
              (try dsimp only at hSw)
              go_simp
              first | done | with_reducible rfl
            (try simp only [Act.put, List.setIfInBounds_toArray, List.set_cons_zero, List.set_cons_succ])
            refine held_take (i := 7) (d := 78) (v := ?_) rfl rfl (by kernel_rfl) (by kernel_rfl) (by kernel_rfl) (fun _ _ _ h => h) (by kernel_rfl) hHeld ?_ ?_
            rotate_left
            · intro w hSw
              (try dsimp only at hSw)
              go_simp
              first | done | with_reducible rfl
            (try simp only [Act.put, List.setIfInBounds_toArray, List.set_cons_zero, List.set_cons_succ])
            refine held_take (i := 8) (d := 79) (v := ?_) rfl rfl (by kernel_rfl) (by kernel_rfl) (by kernel_rfl) (fun _ _ _ h => h) (by kernel_rfl) hHeld ?_ ?_
            rotate_left
            · intro w hSw
              (try dsimp only at hSw)
              go_simp
              first | done | with_reducible rfl
            (try simp only [Act.put, List.setIfInBounds_toArray, List.set_cons_zero, List.set_cons_succ])
            refine held_take (i := 9) (d := 80) (v := ?_) rfl rfl (by kernel_rfl) (by kernel_rfl) (by kernel_rfl) (fun _ _ _ h => h) (by kernel_rfl) hHeld ?_ ?_
            rotate_left
            · intro w hSw
              (try dsimp only at hSw)
              go_simp
              first | done | with_reducible rfl
            (try simp only [Act.put, List.setIfInBounds_toArray, List.set_cons_zero, List.set_cons_succ])
            refine held_take (i := 10) (d := 81) (v := ?_) rfl rfl (by kernel_rfl) (by kernel_rfl) (by kernel_rfl) (fun _ _ _ h => h) (by kernel_rfl) hHeld ?_ ?_
            rotate_left
            · intro w hSw
              (try dsimp only at hSw)
              go_simp
              first | done | with_reducible rfl
            (try simp only [Act.put, List.setIfInBounds_toArray, List.set_cons_zero, List.set_cons_succ])
            refine held_take (i := 11) (d := 82) (v := ?_) rfl rfl (by kernel_rfl) (by kernel_rfl) (by kernel_rfl) (fun _ _ _ h => h) (by kernel_rfl) hHeld ?_ ?_
            rotate_left
            · intro w hSw
              (try dsimp only at hSw)
              go_simp
              first | done | with_reducible rfl
            (try simp only [Act.put, List.setIfInBounds_toArray, List.set_cons_zero, List.set_cons_succ])
            refine held_take (i := 12) (d := 83) (v := ?_) rfl rfl (by kernel_rfl) (by kernel_rfl) (by kernel_rfl) (fun _ _ _ h => h) (by kernel_rfl) hHeld ?_ ?_
            rotate_left
            · intro w hSw
              (try dsimp only at hSw)
              go_simp
              first | done | with_reducible rfl
            (try simp only [Act.put, List.setIfInBounds_toArray, List.set_cons_zero, List.set_cons_succ])
            refine held_take (i := 13) (d := 84) (v := ?_) rfl rfl (by kernel_rfl) (by kernel_rfl) (by kernel_rfl) (fun _ _ _ h => h) (by kernel_rfl) hHeld ?_ ?_
            rotate_left
            · intro w hSw
              (try dsimp only at hSw)
              go_simp
              first | done | with_reducible rfl
            (try simp only [Act.put, List.setIfInBounds_toArray, List.set_cons_zero, List.set_cons_succ])
            refine held_take (i := 14) (d := 85) (v := ?_) rfl rfl (by kernel_rfl) (by kernel_rfl) (by kernel_rfl) (fun _ _ _ h => h) (by kernel_rfl) hHeld ?_ ?_
            rotate_left
            · intro w hSw
              (try dsimp only at hSw)
              go_simp
              first | done | with_reducible rfl
            (try simp only [Act.put, List.setIfInBounds_toArray, List.set_cons_zero, List.set_cons_succ])
            refine held_take (i := 15) (d := 86) (v := ?_) rfl rfl (by kernel_rfl) (by kernel_rfl) (by kernel_rfl) (fun _ _ _ h => h) (by kernel_rfl) hHeld ?_ ?_
            rotate_left
            · intro w hSw
              (try dsimp only at hSw)
              go_simp
              first | done | with_reducible rfl
            (try simp only [Act.put, List.setIfInBounds_toArray, List.set_cons_zero, List.set_cons_succ])
            refine held_take (i := 16) (d := 87) (v := ?_) rfl rfl (by kernel_rfl) (by kernel_rfl) (by kernel_rfl) (fun _ _ _ h => h) (by kernel_rfl) hHeld ?_ ?_
            rotate_left
            · intro w hSw
              (try dsimp only at hSw)
              subst hSw
              go_simp
              first | done | with_reducible rfl
            (try simp only [Act.put, List.setIfInBounds_toArray, List.set_cons_zero, List.set_cons_succ])
            refine held_take (i := 17) (d := 88) (v := ?_) rfl rfl (by kernel_rfl) (by kernel_rfl) (by kernel_rfl) (fun _ _ _ h => h) (by kernel_rfl) hHeld ?_ ?_
            rotate_left
            · intro w hSw
              (try dsimp only at hSw)
              go_simp
              first | done | with_reducible rfl
            (try simp only [Act.put, List.setIfInBounds_toArray, List.set_cons_zero, List.set_cons_succ])
            refine held_take (i := 18) (d := 89) (v := ?_) rfl rfl (by kernel_rfl) (by kernel_rfl) (by kernel_rfl) (fun _ _ _ h => h) (by kernel_rfl) hHeld ?_ ?_
            rotate_left
            · intro w hSw
              (try dsimp only at hSw)
              go_simp
              first | done | with_reducible rfl
            (try simp only [Act.put, List.setIfInBounds_toArray, List.set_cons_zero, List.set_cons_succ])
            refine held_take (i := 19) (d := 11) (v := ?_) rfl rfl (by kernel_rfl) (by kernel_rfl) (by kernel_rfl) (fun _ _ _ h => h) (by kernel_rfl) hHeld ?_ ?_
            rotate_left
            · intro w hSw
              (try dsimp only at hSw)
              go_simp
              first | done | with_reducible rfl
            (try simp only [Act.put, List.setIfInBounds_toArray, List.set_cons_zero, List.set_cons_succ])
            refine wpAnyH_done (by kernel_rfl) ?_ _
            rw [hHeld]
            have B3 := hide B2.out.drew
            have HT3 := hide (show TkL wr.drew wr.heap.size (some ⟨b, off, none⟩) (xs.map Tv.g) from ⟨HT.out.row.keep (fun _ _ => rfl), fun y hy => (HT.out.sub y hy).keep (fun _ _ => rfl)⟩)
            clear hHeld B2 HT
            have x7 : wr.drew.cell? ⟨b, off + i * 7 + 6, none⟩ = some (Value.int .i64 (q : Int)) := x6
            clear x6
            have HZ3 := hide (show wr.drew.heap.size = wr.heap.size from rfl)
            generalize wr.drew = w3 at *
            go_wp2_with fail
            refine (HA2.out _ q _ (by simp only [ByteArray.append_assoc]) B3.out).mono ?_
            rintro e w4 ⟨xs2, A2, c2, n2, ok2, hP2, hxl2, hxc2, rfl, b4, hr2, -, -, hi2⟩
            have HL := hide (skip_law HP.out (j := i) (t := x.t) (by rw [List.getElem?_map, Hx.out]; rfl) Hf.out H62'.out (by rw [Hq.out]; exact hP2))
            have HT4 := hide (TkL.of hr2 hi2)
            have HT5 := hide ((HT3.out.more (by rw [HZ3.out]; exact Nat.le_refl _)).below b4)
            have B4 := hide (B3.out.trans (b4.mono B3.out.size))
            have b4s := b4.size
            have x8 := cell_go b4 x7
            have HP2 := hide hP2
            clear hP2 hr2 hi2 b4 HT3 x7 HA2 HP B3
            have hdc := dashes_is C
            obtain ⟨b0, hb0⟩ : ∃ b, (C.getLast? == some 45) = b := ⟨_, rfl⟩
            rw [hb0] at hdc
            have Hdc := hide hdc
            clear hdc
            have Hsz := hide (show (D.take q ++ (sComment ++ (C ++ ([45, 45, 62] ++ D.drop q)))).length ≤ 100000 by
              have h1 := HDl.out
              have h2 := HCl.out
              simp only [List.length_append, List.length_take, List.length_drop, List.length_cons, List.length_nil, sComment]
              omega)
            have B5s := hide (show w3.heap.size ≤ w4.heap.size from b4s)
            by_cases hc0 : c.size = 0
            · have hcd : decide ((0 : Int) < (c.size : Int)) = false := decide_eq_false (by omega)
              have hb0f : b0 = false := by
                have e : C = [] := List.eq_nil_of_length_eq_zero (by rw [HCl.out]; exact hc0)
                rw [← hb0, e]
                rfl
              have HB0 := hide hb0f
              clear hb0 hb0f
              go_wp2
              go_loopg [15, 16] c.size (fun g vb vi wr => ∃ j : Nat, g = c.size - j ∧ j ≤ C.length - 1 ∧ vi = .int .i64 (j : Int) ∧ vb = .bool (b0 || pairs C j) ∧ wr = w4)
              case atStart => exact ⟨0, rfl, Nat.zero_le _, rfl, by rw [pairs_zero, Bool.or_false] <;> try rw [HB0.out], rfl⟩
              case round =>
                obtain ⟨j2, hgg, hj2, rfl, rfl, hwr⟩ := hrel
                subst wr
                have Hg := hide hgg
                clear hgg
                have hj2s : j2 ≤ c.size := by have := HCl.out; omega
                by_cases hlt2 : j2 + 1 < c.size
                · exact absurd hlt2 (by omega)
                · have hjl : j2 = C.length - 1 := by have := HCl.out; omega
                  obtain ⟨db, hdb⟩ : ∃ d, (b0 || pairs C j2) = d := ⟨_, rfl⟩
                  have Hdb := hide (show dashes C = db by rw [Hdc.out, ← hjl, hdb])
                  rw [hdb]
                  have hlj : decide ((j2 : Int) + 1 < (c.size : Int)) = false := decide_eq_false (by omega)
                  have hwj : IntKind.i64.wrap ((j2 : Int) + 1) = (j2 : Int) + 1 := IntWalk.i64_in _ (by omega)
                  clear hdb Hdc hjl hj2
                  cases db with
                  | true =>
                    have hL := HL.out
                    rw [if_pos Hdb.out] at hL
                    obtain ⟨rfl, he2⟩ := hL
                    rw [Hq.out] at he2
                    subst he2
                    go_wp2_with fail
                    refine (HWk.out _ (B4.out)).mono ?_
                    rintro e wz ⟨rfl, bz⟩
                    go_wp2
                    go_ret
                    exact ⟨rfl, (B4.out).trans (bz.mono (B4.out).size)⟩
                  | false =>
                    have hL := HL.out
                    rw [if_neg (by rw [Hdb.out]; simp)] at hL
                    obtain ⟨rfl, cm, hcm, hts⟩ := hL
                    obtain ⟨hl2, ⟨y, hy, hyt⟩, hm1', hm2'⟩ := skip_len (xs := xs) (j := i) (by rw [HN.out]; exact hij) hts
                    obtain ⟨b', off', rfl, hb', hat'⟩ := HT4.out.at_ hy
                    have y0 : w4.cell? ⟨b', off' + (i + 1) * 7, none⟩ = some (Value.int .i8 4) := by have := hat'.c0; rw [show y.g.kind = 4 from by show y.t.kind = 4; rw [hyt, hcm]] at this; exact this
                    rw [HN.out] at hl2
                    have hl2' : ((xs2.length : Int) != (N : Int) + 1) = false := by rw [hl2]; simp
                    have hw1 : IntKind.i64.wrap ((N : Int) + 1) = (N : Int) + 1 := IntWalk.i64_in _ (by omega)
                    have hw2 : IntKind.i64.wrap ((i : Int) + 1) = (i : Int) + 1 := IntWalk.i64_in _ (by omega)
                    have hw3 : IntKind.i64.wrap ((i : Int) + 2) = (i : Int) + 2 := IntWalk.i64_in _ (by omega)
                    have HS1 := hide (fun W (hW : Below w4.heap.size w4 W) => (show ∀ p r, p = i + 1 → r = i + 1 → Calls Tryd.prog 10 #[.slice (some ⟨b', off', none⟩) p c2, .slice (some ⟨b, off, none⟩) r cc] W fun e w' => e = .returned (.bool true) ∧ Below W.heap.size W w' from by
                      rintro p r rfl rfl
                      have h := same_any (some ⟨b', off', none⟩) (some ⟨b, off, none⟩) c2 cc w4.heap.size ((xs2.map Tv.g).take (i + 1)) ((xs.map Tv.g).take (i + 1)) W ((HT4.out.take (by rw [List.length_map]; omega)).below hW) (((HT5.out.take (by rw [List.length_map, HN.out]; omega)).more (by have := B5s.out; omega)).below hW) hW.size
                        (by rw [List.length_take, List.length_map]; omega) (by rw [List.length_take, List.length_map, HN.out]; omega) (fun y hy => by have := attrs_small HP2.out (List.mem_of_mem_take hy); have := Hsz.out; omega) (fun y hy => by have := Hsm.out y (List.mem_of_mem_take hy); omega)
                      rw [List.length_take, List.length_map, List.length_take, List.length_map, HN.out, Nat.min_eq_left (by omega), Nat.min_eq_left (by omega), ← List.map_take, ← List.map_take, decide_eq_true (gs_bare _ _ (by rw [hm1']))] at h
                      exact h))
                    have HS2 := hide (fun W (hW : Below w4.heap.size w4 W) => (show ∀ (p1 p2 : Option Addr) r1 r2 d1 d2, (p1 = some ⟨b', off' + (i + 2) * 7, none⟩ ∨ xs2.length = i + 2) → (p2 = some ⟨b, off + (i + 1) * 7, none⟩ ∨ N = i + 1) → r1 = xs2.length - (i + 2) → r2 = N - (i + 1) → Calls Tryd.prog 10 #[.slice p1 r1 d1, .slice p2 r2 d2] W fun e w' => e = .returned (.bool true) ∧ Below W.heap.size W w' from by
                      rintro p1 p2 r1 r2 d1 d2 hp1 hp2 rfl rfl
                      have h := same_any p1 p2 d1 d2 w4.heap.size ((xs2.map Tv.g).drop (i + 2)) ((xs.map Tv.g).drop (i + 1)) W ((HT4.out.dropA (q := i + 2) (by rw [List.length_map]; omega) (by rw [List.length_map]; exact hp1)).below hW) (((HT5.out.dropA (q := i + 1) (by rw [List.length_map, HN.out]; omega) (by rw [List.length_map, HN.out]; exact hp2)).more (by have := B5s.out; omega)).below hW) hW.size
                        (by rw [List.length_drop, List.length_map]; omega) (by rw [List.length_drop, List.length_map, HN.out]; omega) (fun y hy => by have := attrs_small HP2.out (List.mem_of_mem_drop hy); have := Hsz.out; omega) (fun y hy => by have := Hsm.out y (List.mem_of_mem_drop hy); omega)
                      rw [List.length_drop, List.length_map, List.length_drop, List.length_map, HN.out, ← List.map_drop, ← List.map_drop, decide_eq_true (gs_bare _ _ (by rw [hm2']; have := same_shift (c.size + 7) ((xs.drop (i + 1)).map (·.t)); have e := of_decide_eq_true this; rw [HCl.out]; exact e))] at h
                      exact h))
                    have hic : i + 1 ≤ cc := by omega
                    have hic2 : i + 1 ≤ c2 := by omega
                    have hic3 : i + 2 ≤ xs2.length := by omega
                    have v1 : 0 ≤ (i : Int) + 1 ∧ (i : Int) + 1 ≤ (c2 : Int) := by omega
                    have v2 : 0 ≤ (i : Int) + 1 ∧ (i : Int) + 1 ≤ (cc : Int) := by omega
                    have v3 : 0 ≤ (i : Int) + 2 ∧ (i : Int) + 2 ≤ (xs2.length : Int) := by omega
                    have v4 : 0 ≤ (i : Int) + 1 ∧ (i : Int) + 1 ≤ (N : Int) := by omega
                    have v5 : (i : Int) + 2 ≤ (N : Int) + 1 := by omega
                    have v6 : (i : Int) + 1 ≤ (N : Int) := by omega
                    have tn2 : ((i : Int) + 2).toNat = i + 2 := by omega
                    have tn1 : ((i : Int) + 1).toNat = i + 1 := by omega
                    clear hat' hy hyt hcm hts hm1' hm2' HL
                    go_wp2
                    refine wp_region_held_drew (S := fun W => Below w4.heap.size w4 W) (by kernel_rfl) ?_ (fun hHeld => ?_)
                    · (try dsimp only)
                      first | done | exact (Below.refl _ _).drew | exact hHeld | exact hHeld.drew
                    change wpAnyH _ _ _ _ _ 24 #[false, false, false, false, false, false, false, false, false, false, false, false, false, false, false, false, false, false, false, false, false, false, false, false] _ _
                    refine held_take (i := 0) (d := 162) (v := ?_) rfl rfl (by kernel_rfl) (by kernel_rfl) (by kernel_rfl) (fun _ _ _ h => h) (by kernel_rfl) hHeld ?_ ?_
                    rotate_left
                    · intro w hSw
                      (try dsimp only at hSw)
                      go_simp
                      first | done | with_reducible rfl
                    (try simp only [Act.put, List.setIfInBounds_toArray, List.set_cons_zero, List.set_cons_succ])
                    refine held_take (i := 1) (d := 163) (v := ?_) rfl rfl (by kernel_rfl) (by kernel_rfl) (by kernel_rfl) (fun _ _ _ h => h) (by kernel_rfl) hHeld ?_ ?_
                    rotate_left
                    · intro w hSw
                      (try dsimp only at hSw)
                      go_simp
                      first | done | with_reducible rfl
                    (try simp only [Act.put, List.setIfInBounds_toArray, List.set_cons_zero, List.set_cons_succ])
                    refine held_take (i := 2) (d := 164) (v := ?_) rfl rfl (by kernel_rfl) (by kernel_rfl) (by kernel_rfl) (fun _ _ _ h => h) (by kernel_rfl) hHeld ?_ ?_
                    rotate_left
                    · intro w hSw
                      (try dsimp only at hSw)
                      go_simp
                      first | done | with_reducible rfl
                    (try simp only [Act.put, List.setIfInBounds_toArray, List.set_cons_zero, List.set_cons_succ])
                    refine held_take (i := 3) (d := 165) (v := ?_) rfl rfl (by kernel_rfl) (by kernel_rfl) (by kernel_rfl) (fun _ _ _ h => h) (by kernel_rfl) hHeld ?_ ?_
                    rotate_left
                    · intro w hSw
                      (try dsimp only at hSw)
                      go_simp
                      first | done | with_reducible rfl
                    (try simp only [Act.put, List.setIfInBounds_toArray, List.set_cons_zero, List.set_cons_succ])
                    refine held_take (i := 4) (d := 166) (v := ?_) rfl rfl (by kernel_rfl) (by kernel_rfl) (by kernel_rfl) (fun _ _ _ h => h) (by kernel_rfl) hHeld ?_ ?_
                    rotate_left
                    · intro w hSw
                      (try dsimp only at hSw)
                      go_simp
                      first | done | with_reducible rfl
                    (try simp only [Act.put, List.setIfInBounds_toArray, List.set_cons_zero, List.set_cons_succ])
                    refine held_take (i := 5) (d := 167) (v := ?_) rfl rfl (by kernel_rfl) (by kernel_rfl) (by kernel_rfl) (fun _ _ _ h => h) (by kernel_rfl) hHeld ?_ ?_
                    rotate_left
                    · intro w hSw
                      (try dsimp only at hSw)
                      go_simp
                      first | done | with_reducible rfl
                    (try simp only [Act.put, List.setIfInBounds_toArray, List.set_cons_zero, List.set_cons_succ])
                    refine held_take (i := 6) (d := 168) (v := ?_) rfl rfl (by kernel_rfl) (by kernel_rfl) (by kernel_rfl) (fun _ _ _ h => h) (by kernel_rfl) hHeld ?_ ?_
                    rotate_left
                    · intro w hSw
                      (try dsimp only at hSw)
                      go_simp
                      first | done | with_reducible rfl
                    (try simp only [Act.put, List.setIfInBounds_toArray, List.set_cons_zero, List.set_cons_succ])
                    refine held_take (i := 7) (d := 169) (v := ?_) rfl rfl (by kernel_rfl) (by kernel_rfl) (by kernel_rfl) (fun _ _ _ h => h) (by kernel_rfl) hHeld ?_ ?_
                    rotate_left
                    · intro w hSw
                      (try dsimp only at hSw)
                      go_simp
                      first | done | with_reducible rfl
                    (try simp only [Act.put, List.setIfInBounds_toArray, List.set_cons_zero, List.set_cons_succ])
                    refine held_call (i := 8) rfl (by kernel_rfl) (by kernel_rfl) (fun K hK => ?_)
                    go_simp
                    go_at_call 10
                    refine (HS1.out _ hHeld _ _ (by first | rfl | omega) (by first | rfl | omega)).mono ?_
                    rintro e w' ⟨rfl, hb⟩
                    replace hHeld := hHeld.trans (hb.mono hHeld.size)
                    (try dsimp only)
                    refine hK.out _ _ ?_ (fun hHeld' => ?_)
                    · (try dsimp only)
                      first | done | exact (Below.refl _ _).drew | exact hHeld | exact hHeld.drew
                    clear hK K hHeld
                    have hHeld := hHeld'
                    clear hHeld'
                    (try simp only [Act.put, List.setIfInBounds_toArray, List.set_cons_zero, List.set_cons_succ])
                    refine held_take (i := 9) (d := 171) (v := ?_) rfl rfl (by kernel_rfl) (by kernel_rfl) (by kernel_rfl) (fun _ _ _ h => h) (by kernel_rfl) hHeld ?_ ?_
                    rotate_left
                    · intro w hSw
                      (try dsimp only at hSw)
                      go_simp
                      first | done | with_reducible rfl
                    (try simp only [Act.put, List.setIfInBounds_toArray, List.set_cons_zero, List.set_cons_succ])
                    refine held_take (i := 10) (d := 172) (v := ?_) rfl rfl (by kernel_rfl) (by kernel_rfl) (by kernel_rfl) (fun _ _ _ h => h) (by kernel_rfl) hHeld ?_ ?_
                    rotate_left
                    · intro w hSw
                      (try dsimp only at hSw)
                      go_simp
                      first | done | with_reducible rfl
                    (try simp only [Act.put, List.setIfInBounds_toArray, List.set_cons_zero, List.set_cons_succ])
                    refine held_take (i := 11) (d := 173) (v := ?_) rfl rfl (by kernel_rfl) (by kernel_rfl) (by kernel_rfl) (fun _ _ _ h => h) (by kernel_rfl) hHeld ?_ ?_
                    rotate_left
                    · intro w hSw
                      (try dsimp only at hSw)
                      go_simp
                      first | done | with_reducible rfl
                    (try simp only [Act.put, List.setIfInBounds_toArray, List.set_cons_zero, List.set_cons_succ])
                    refine held_take (i := 12) (d := 174) (v := ?_) rfl rfl (by kernel_rfl) (by kernel_rfl) (by kernel_rfl) (fun _ _ _ h => h) (by kernel_rfl) hHeld ?_ ?_
                    rotate_left
                    · intro w hSw
                      (try dsimp only at hSw)
                      go_simp
                      first | done | with_reducible rfl
                    (try simp only [Act.put, List.setIfInBounds_toArray, List.set_cons_zero, List.set_cons_succ])
                    refine held_take (i := 13) (d := 175) (v := ?_) rfl rfl (by kernel_rfl) (by kernel_rfl) (by kernel_rfl) (fun _ _ _ h => h) (by kernel_rfl) hHeld ?_ ?_
                    rotate_left
                    · intro w hSw
                      (try dsimp only at hSw)
                      go_simp
                      first | done | with_reducible rfl
                    (try simp only [Act.put, List.setIfInBounds_toArray, List.set_cons_zero, List.set_cons_succ])
                    refine held_take (i := 14) (d := 176) (v := ?_) rfl rfl (by kernel_rfl) (by kernel_rfl) (by kernel_rfl) (fun _ _ _ h => h) (by kernel_rfl) hHeld ?_ ?_
                    rotate_left
                    · intro w hSw
                      (try dsimp only at hSw)
                      go_simp
                      first | done | with_reducible rfl
                    (try simp only [Act.put, List.setIfInBounds_toArray, List.set_cons_zero, List.set_cons_succ])
                    refine held_take (i := 15) (d := 177) (v := ?_) rfl rfl (by kernel_rfl) (by kernel_rfl) (by kernel_rfl) (fun _ _ _ h => h) (by kernel_rfl) hHeld ?_ ?_
                    rotate_left
                    · intro w hSw
                      (try dsimp only at hSw)
                      go_simp
                      first | done | with_reducible rfl
                    (try simp only [Act.put, List.setIfInBounds_toArray, List.set_cons_zero, List.set_cons_succ])
                    refine held_take (i := 16) (d := 178) (v := ?_) rfl rfl (by kernel_rfl) (by kernel_rfl) (by kernel_rfl) (fun _ _ _ h => h) (by kernel_rfl) hHeld ?_ ?_
                    rotate_left
                    · intro w hSw
                      (try dsimp only at hSw)
                      go_simp
                      first | done | with_reducible rfl
                    (try simp only [Act.put, List.setIfInBounds_toArray, List.set_cons_zero, List.set_cons_succ])
                    refine held_take (i := 17) (d := 179) (v := ?_) rfl rfl (by kernel_rfl) (by kernel_rfl) (by kernel_rfl) (fun _ _ _ h => h) (by kernel_rfl) hHeld ?_ ?_
                    rotate_left
                    · intro w hSw
                      (try dsimp only at hSw)
                      go_simp
                      first | done | with_reducible rfl
                    (try simp only [Act.put, List.setIfInBounds_toArray, List.set_cons_zero, List.set_cons_succ])
                    refine held_call (i := 18) rfl (by kernel_rfl) (by kernel_rfl) (fun K hK => ?_)
                    go_simp
                    go_at_call 10
                    refine (HS2.out _ hHeld _ _ _ _ _ _ (by (repeat' split) <;> first | exact Or.inl rfl | exact Or.inr (by omega)) (by (repeat' split) <;> first | exact Or.inl rfl | exact Or.inr (by omega)) (by first | rfl | omega) (by first | rfl | omega)).mono ?_
                    rintro e w' ⟨rfl, hb⟩
                    replace hHeld := hHeld.trans (hb.mono hHeld.size)
                    (try dsimp only)
                    refine hK.out _ _ ?_ (fun hHeld' => ?_)
                    · (try dsimp only)
                      first | done | exact (Below.refl _ _).drew | exact hHeld | exact hHeld.drew
                    clear hK K hHeld
                    have hHeld := hHeld'
                    clear hHeld'
                    (try simp only [Act.put, List.setIfInBounds_toArray, List.set_cons_zero, List.set_cons_succ])
                    refine held_take (i := 19) (d := 181) (v := ?_) rfl rfl (by kernel_rfl) (by kernel_rfl) (by kernel_rfl) (fun _ _ _ h => h) (by kernel_rfl) hHeld ?_ ?_
                    rotate_left
                    · intro w hSw
                      (try dsimp only at hSw)
                      go_simp
                      first | done | with_reducible rfl
                    (try simp only [Act.put, List.setIfInBounds_toArray, List.set_cons_zero, List.set_cons_succ])
                    refine held_take (i := 20) (d := 182) (v := ?_) rfl rfl (by kernel_rfl) (by kernel_rfl) (by kernel_rfl) (fun _ _ _ h => h) (by kernel_rfl) hHeld ?_ ?_
                    rotate_left
                    · intro w hSw
                      (try dsimp only at hSw)
                      go_simp
                      first | done | with_reducible rfl
                    (try simp only [Act.put, List.setIfInBounds_toArray, List.set_cons_zero, List.set_cons_succ])
                    refine held_call (i := 21) rfl (by kernel_rfl) (by kernel_rfl) (fun K hK => ?_)
                    go_simp
                    go_at_call 7
                    refine (HWk.out _ (B4.out.trans (hHeld.mono B4.out.size))).mono ?_
                    rintro e w' ⟨rfl, hb⟩
                    replace hHeld := hHeld.trans (hb.mono hHeld.size)
                    (try dsimp only)
                    refine hK.out _ _ ?_ (fun hHeld' => ?_)
                    · (try dsimp only)
                      first | done | exact (Below.refl _ _).drew | exact hHeld | exact hHeld.drew
                    clear hK K hHeld
                    have hHeld := hHeld'
                    clear hHeld'
                    (try simp only [Act.put, List.setIfInBounds_toArray, List.set_cons_zero, List.set_cons_succ])
                    refine held_take (i := 22) (d := 184) (v := ?_) rfl rfl (by kernel_rfl) (by kernel_rfl) (by kernel_rfl) (fun _ _ _ h => h) (by kernel_rfl) hHeld ?_ ?_
                    rotate_left
                    · intro w hSw
                      (try dsimp only at hSw)
                      go_simp
                      first | done | with_reducible rfl
                    (try simp only [Act.put, List.setIfInBounds_toArray, List.set_cons_zero, List.set_cons_succ])
                    refine held_take (i := 23) (d := 6) (v := ?_) rfl rfl (by kernel_rfl) (by kernel_rfl) (by kernel_rfl) (fun _ _ _ h => h) (by kernel_rfl) hHeld ?_ ?_
                    rotate_left
                    · intro w hSw
                      (try dsimp only at hSw)
                      go_simp
                      first | done | with_reducible rfl
                    (try simp only [Act.put, List.setIfInBounds_toArray, List.set_cons_zero, List.set_cons_succ])
                    refine wpAnyH_done (by kernel_rfl) ?_ _
                    go_wp2
                    all_goals
                      go_ret
                      exact ⟨rfl, B4.out.trans (hHeld.mono B4.out.size)⟩
            · have hcd : decide ((0 : Int) < (c.size : Int)) = true := decide_eq_true (by omega)
              obtain ⟨d, hd⟩ : ∃ d, C[c.size - 1]? = some d := ⟨_, List.getElem?_eq_getElem (by rw [HCl.out]; omega)⟩
              have hidx := idx_run c (c.size - 1) d (by rw [hC]; exact hd)
              rw [show ((c.size - 1 : Nat) : Int) = (c.size : Int) - 1 by omega] at hidx
              have hwc : IntKind.i64.wrap ((c.size : Int) - 1) = (c.size : Int) - 1 := IntWalk.i64_in _ (by omega)
              have tl := byte_is (d := d) (e := 45) (z := 45) rfl
              have e0 : (d == 45) = b0 := by
                rw [← hb0, List.getLast?_eq_getElem?, HCl.out, hd]
                rfl
              rw [e0] at tl
              have HB0 := hide (rfl : b0 = b0)
              clear hb0 e0 hd
              go_wp2
              go_loopg [15, 16] c.size (fun g vb vi wr => ∃ j : Nat, g = c.size - j ∧ j ≤ C.length - 1 ∧ vi = .int .i64 (j : Int) ∧ vb = .bool (b0 || pairs C j) ∧ wr = w4)
              case atStart => exact ⟨0, rfl, Nat.zero_le _, rfl, by rw [pairs_zero, Bool.or_false] <;> try rw [HB0.out], rfl⟩
              case round =>
                obtain ⟨j2, hgg, hj2, rfl, rfl, hwr⟩ := hrel
                subst wr
                have Hg := hide hgg
                clear hgg
                have hj2s : j2 ≤ c.size := by have := HCl.out; omega
                by_cases hlt2 : j2 + 1 < c.size
                · obtain ⟨d1, hd1⟩ : ∃ d, C[j2]? = some d := ⟨_, List.getElem?_eq_getElem (by rw [HCl.out]; omega)⟩
                  obtain ⟨d2, hd2⟩ : ∃ d, C[j2 + 1]? = some d := ⟨_, List.getElem?_eq_getElem (by rw [HCl.out]; exact hlt2)⟩
                  have hi1 := idx_run c j2 d1 (by rw [hC]; exact hd1)
                  have hi2 := idx_run c (j2 + 1) d2 (by rw [hC]; exact hd2)
                  rw [show ((j2 + 1 : Nat) : Int) = (j2 : Int) + 1 by omega] at hi2
                  have hwj : IntKind.i64.wrap ((j2 : Int) + 1) = (j2 : Int) + 1 := IntWalk.i64_in _ (by omega)
                  have hlj : decide ((j2 : Int) + 1 < (c.size : Int)) = true := decide_eq_true (by omega)
                  have t1 := byte_is (d := d1) (e := 45) (z := 45) rfl
                  have t2 := byte_is (d := d2) (e := 45) (z := 45) rfl
                  have Hpn := hide (show (b0 || pairs C (j2 + 1)) = ((b0 || pairs C j2) || ((d1 == 45) && (d2 == 45))) by rw [pairs_next, hd1, hd2, Bool.or_assoc]; rfl)
                  have Hjn := hide (show j2 + 1 ≤ C.length - 1 by have := HCl.out; omega)
                  generalize (b0 || pairs C j2) = bb at *
                  generalize (d1 == 45) = e1 at *
                  generalize (d2 == 45) = e2 at *
                  clear hd1 hd2
                  cases bb <;> cases e1 <;> cases e2
                  all_goals
                    go_wp2
                    go_roundg (c.size - (j2 + 1))
                    case measure => have := Hg.out; omega
                    case rel => exact ⟨j2 + 1, rfl, Hjn.out, by go_num, by first | (rw [Hpn.out]; done) | (rw [Hpn.out]; rfl), rfl⟩
                · have hjl : j2 = C.length - 1 := by have := HCl.out; omega
                  obtain ⟨db, hdb⟩ : ∃ d, (b0 || pairs C j2) = d := ⟨_, rfl⟩
                  have Hdb := hide (show dashes C = db by rw [Hdc.out, ← hjl, hdb])
                  rw [hdb]
                  have hlj : decide ((j2 : Int) + 1 < (c.size : Int)) = false := decide_eq_false (by omega)
                  have hwj : IntKind.i64.wrap ((j2 : Int) + 1) = (j2 : Int) + 1 := IntWalk.i64_in _ (by omega)
                  clear hdb Hdc hjl hj2
                  cases db with
                  | true =>
                    have hL := HL.out
                    rw [if_pos Hdb.out] at hL
                    obtain ⟨rfl, he2⟩ := hL
                    rw [Hq.out] at he2
                    subst he2
                    go_wp2_with fail
                    refine (HWk.out _ (B4.out)).mono ?_
                    rintro e wz ⟨rfl, bz⟩
                    go_wp2
                    go_ret
                    exact ⟨rfl, (B4.out).trans (bz.mono (B4.out).size)⟩
                  | false =>
                    have hL := HL.out
                    rw [if_neg (by rw [Hdb.out]; simp)] at hL
                    obtain ⟨rfl, cm, hcm, hts⟩ := hL
                    obtain ⟨hl2, ⟨y, hy, hyt⟩, hm1', hm2'⟩ := skip_len (xs := xs) (j := i) (by rw [HN.out]; exact hij) hts
                    obtain ⟨b', off', rfl, hb', hat'⟩ := HT4.out.at_ hy
                    have y0 : w4.cell? ⟨b', off' + (i + 1) * 7, none⟩ = some (Value.int .i8 4) := by have := hat'.c0; rw [show y.g.kind = 4 from by show y.t.kind = 4; rw [hyt, hcm]] at this; exact this
                    rw [HN.out] at hl2
                    have hl2' : ((xs2.length : Int) != (N : Int) + 1) = false := by rw [hl2]; simp
                    have hw1 : IntKind.i64.wrap ((N : Int) + 1) = (N : Int) + 1 := IntWalk.i64_in _ (by omega)
                    have hw2 : IntKind.i64.wrap ((i : Int) + 1) = (i : Int) + 1 := IntWalk.i64_in _ (by omega)
                    have hw3 : IntKind.i64.wrap ((i : Int) + 2) = (i : Int) + 2 := IntWalk.i64_in _ (by omega)
                    have HS1 := hide (fun W (hW : Below w4.heap.size w4 W) => (show ∀ p r, p = i + 1 → r = i + 1 → Calls Tryd.prog 10 #[.slice (some ⟨b', off', none⟩) p c2, .slice (some ⟨b, off, none⟩) r cc] W fun e w' => e = .returned (.bool true) ∧ Below W.heap.size W w' from by
                      rintro p r rfl rfl
                      have h := same_any (some ⟨b', off', none⟩) (some ⟨b, off, none⟩) c2 cc w4.heap.size ((xs2.map Tv.g).take (i + 1)) ((xs.map Tv.g).take (i + 1)) W ((HT4.out.take (by rw [List.length_map]; omega)).below hW) (((HT5.out.take (by rw [List.length_map, HN.out]; omega)).more (by have := B5s.out; omega)).below hW) hW.size
                        (by rw [List.length_take, List.length_map]; omega) (by rw [List.length_take, List.length_map, HN.out]; omega) (fun y hy => by have := attrs_small HP2.out (List.mem_of_mem_take hy); have := Hsz.out; omega) (fun y hy => by have := Hsm.out y (List.mem_of_mem_take hy); omega)
                      rw [List.length_take, List.length_map, List.length_take, List.length_map, HN.out, Nat.min_eq_left (by omega), Nat.min_eq_left (by omega), ← List.map_take, ← List.map_take, decide_eq_true (gs_bare _ _ (by rw [hm1']))] at h
                      exact h))
                    have HS2 := hide (fun W (hW : Below w4.heap.size w4 W) => (show ∀ (p1 p2 : Option Addr) r1 r2 d1 d2, (p1 = some ⟨b', off' + (i + 2) * 7, none⟩ ∨ xs2.length = i + 2) → (p2 = some ⟨b, off + (i + 1) * 7, none⟩ ∨ N = i + 1) → r1 = xs2.length - (i + 2) → r2 = N - (i + 1) → Calls Tryd.prog 10 #[.slice p1 r1 d1, .slice p2 r2 d2] W fun e w' => e = .returned (.bool true) ∧ Below W.heap.size W w' from by
                      rintro p1 p2 r1 r2 d1 d2 hp1 hp2 rfl rfl
                      have h := same_any p1 p2 d1 d2 w4.heap.size ((xs2.map Tv.g).drop (i + 2)) ((xs.map Tv.g).drop (i + 1)) W ((HT4.out.dropA (q := i + 2) (by rw [List.length_map]; omega) (by rw [List.length_map]; exact hp1)).below hW) (((HT5.out.dropA (q := i + 1) (by rw [List.length_map, HN.out]; omega) (by rw [List.length_map, HN.out]; exact hp2)).more (by have := B5s.out; omega)).below hW) hW.size
                        (by rw [List.length_drop, List.length_map]; omega) (by rw [List.length_drop, List.length_map, HN.out]; omega) (fun y hy => by have := attrs_small HP2.out (List.mem_of_mem_drop hy); have := Hsz.out; omega) (fun y hy => by have := Hsm.out y (List.mem_of_mem_drop hy); omega)
                      rw [List.length_drop, List.length_map, List.length_drop, List.length_map, HN.out, ← List.map_drop, ← List.map_drop, decide_eq_true (gs_bare _ _ (by rw [hm2']; have := same_shift (c.size + 7) ((xs.drop (i + 1)).map (·.t)); have e := of_decide_eq_true this; rw [HCl.out]; exact e))] at h
                      exact h))
                    have hic : i + 1 ≤ cc := by omega
                    have hic2 : i + 1 ≤ c2 := by omega
                    have hic3 : i + 2 ≤ xs2.length := by omega
                    have v1 : 0 ≤ (i : Int) + 1 ∧ (i : Int) + 1 ≤ (c2 : Int) := by omega
                    have v2 : 0 ≤ (i : Int) + 1 ∧ (i : Int) + 1 ≤ (cc : Int) := by omega
                    have v3 : 0 ≤ (i : Int) + 2 ∧ (i : Int) + 2 ≤ (xs2.length : Int) := by omega
                    have v4 : 0 ≤ (i : Int) + 1 ∧ (i : Int) + 1 ≤ (N : Int) := by omega
                    have v5 : (i : Int) + 2 ≤ (N : Int) + 1 := by omega
                    have v6 : (i : Int) + 1 ≤ (N : Int) := by omega
                    have tn2 : ((i : Int) + 2).toNat = i + 2 := by omega
                    have tn1 : ((i : Int) + 1).toNat = i + 1 := by omega
                    clear hat' hy hyt hcm hts hm1' hm2' HL
                    go_wp2
                    refine wp_region_held_drew (S := fun W => Below w4.heap.size w4 W) (by kernel_rfl) ?_ (fun hHeld => ?_)
                    · (try dsimp only)
                      first | done | exact (Below.refl _ _).drew | exact hHeld | exact hHeld.drew
                    change wpAnyH _ _ _ _ _ 24 #[false, false, false, false, false, false, false, false, false, false, false, false, false, false, false, false, false, false, false, false, false, false, false, false] _ _
                    refine held_take (i := 0) (d := 162) (v := ?_) rfl rfl (by kernel_rfl) (by kernel_rfl) (by kernel_rfl) (fun _ _ _ h => h) (by kernel_rfl) hHeld ?_ ?_
                    rotate_left
                    · intro w hSw
                      (try dsimp only at hSw)
                      go_simp
                      first | done | with_reducible rfl
                    (try simp only [Act.put, List.setIfInBounds_toArray, List.set_cons_zero, List.set_cons_succ])
                    refine held_take (i := 1) (d := 163) (v := ?_) rfl rfl (by kernel_rfl) (by kernel_rfl) (by kernel_rfl) (fun _ _ _ h => h) (by kernel_rfl) hHeld ?_ ?_
                    rotate_left
                    · intro w hSw
                      (try dsimp only at hSw)
                      go_simp
                      first | done | with_reducible rfl
                    (try simp only [Act.put, List.setIfInBounds_toArray, List.set_cons_zero, List.set_cons_succ])
                    refine held_take (i := 2) (d := 164) (v := ?_) rfl rfl (by kernel_rfl) (by kernel_rfl) (by kernel_rfl) (fun _ _ _ h => h) (by kernel_rfl) hHeld ?_ ?_
                    rotate_left
                    · intro w hSw
                      (try dsimp only at hSw)
                      go_simp
                      first | done | with_reducible rfl
                    (try simp only [Act.put, List.setIfInBounds_toArray, List.set_cons_zero, List.set_cons_succ])
                    refine held_take (i := 3) (d := 165) (v := ?_) rfl rfl (by kernel_rfl) (by kernel_rfl) (by kernel_rfl) (fun _ _ _ h => h) (by kernel_rfl) hHeld ?_ ?_
                    rotate_left
                    · intro w hSw
                      (try dsimp only at hSw)
                      go_simp
                      first | done | with_reducible rfl
                    (try simp only [Act.put, List.setIfInBounds_toArray, List.set_cons_zero, List.set_cons_succ])
                    refine held_take (i := 4) (d := 166) (v := ?_) rfl rfl (by kernel_rfl) (by kernel_rfl) (by kernel_rfl) (fun _ _ _ h => h) (by kernel_rfl) hHeld ?_ ?_
                    rotate_left
                    · intro w hSw
                      (try dsimp only at hSw)
                      go_simp
                      first | done | with_reducible rfl
                    (try simp only [Act.put, List.setIfInBounds_toArray, List.set_cons_zero, List.set_cons_succ])
                    refine held_take (i := 5) (d := 167) (v := ?_) rfl rfl (by kernel_rfl) (by kernel_rfl) (by kernel_rfl) (fun _ _ _ h => h) (by kernel_rfl) hHeld ?_ ?_
                    rotate_left
                    · intro w hSw
                      (try dsimp only at hSw)
                      go_simp
                      first | done | with_reducible rfl
                    (try simp only [Act.put, List.setIfInBounds_toArray, List.set_cons_zero, List.set_cons_succ])
                    refine held_take (i := 6) (d := 168) (v := ?_) rfl rfl (by kernel_rfl) (by kernel_rfl) (by kernel_rfl) (fun _ _ _ h => h) (by kernel_rfl) hHeld ?_ ?_
                    rotate_left
                    · intro w hSw
                      (try dsimp only at hSw)
                      go_simp
                      first | done | with_reducible rfl
                    (try simp only [Act.put, List.setIfInBounds_toArray, List.set_cons_zero, List.set_cons_succ])
                    refine held_take (i := 7) (d := 169) (v := ?_) rfl rfl (by kernel_rfl) (by kernel_rfl) (by kernel_rfl) (fun _ _ _ h => h) (by kernel_rfl) hHeld ?_ ?_
                    rotate_left
                    · intro w hSw
                      (try dsimp only at hSw)
                      go_simp
                      first | done | with_reducible rfl
                    (try simp only [Act.put, List.setIfInBounds_toArray, List.set_cons_zero, List.set_cons_succ])
                    refine held_call (i := 8) rfl (by kernel_rfl) (by kernel_rfl) (fun K hK => ?_)
                    go_simp
                    go_at_call 10
                    refine (HS1.out _ hHeld _ _ (by first | rfl | omega) (by first | rfl | omega)).mono ?_
                    rintro e w' ⟨rfl, hb⟩
                    replace hHeld := hHeld.trans (hb.mono hHeld.size)
                    (try dsimp only)
                    refine hK.out _ _ ?_ (fun hHeld' => ?_)
                    · (try dsimp only)
                      first | done | exact (Below.refl _ _).drew | exact hHeld | exact hHeld.drew
                    clear hK K hHeld
                    have hHeld := hHeld'
                    clear hHeld'
                    (try simp only [Act.put, List.setIfInBounds_toArray, List.set_cons_zero, List.set_cons_succ])
                    refine held_take (i := 9) (d := 171) (v := ?_) rfl rfl (by kernel_rfl) (by kernel_rfl) (by kernel_rfl) (fun _ _ _ h => h) (by kernel_rfl) hHeld ?_ ?_
                    rotate_left
                    · intro w hSw
                      (try dsimp only at hSw)
                      go_simp
                      first | done | with_reducible rfl
                    (try simp only [Act.put, List.setIfInBounds_toArray, List.set_cons_zero, List.set_cons_succ])
                    refine held_take (i := 10) (d := 172) (v := ?_) rfl rfl (by kernel_rfl) (by kernel_rfl) (by kernel_rfl) (fun _ _ _ h => h) (by kernel_rfl) hHeld ?_ ?_
                    rotate_left
                    · intro w hSw
                      (try dsimp only at hSw)
                      go_simp
                      first | done | with_reducible rfl
                    (try simp only [Act.put, List.setIfInBounds_toArray, List.set_cons_zero, List.set_cons_succ])
                    refine held_take (i := 11) (d := 173) (v := ?_) rfl rfl (by kernel_rfl) (by kernel_rfl) (by kernel_rfl) (fun _ _ _ h => h) (by kernel_rfl) hHeld ?_ ?_
                    rotate_left
                    · intro w hSw
                      (try dsimp only at hSw)
                      go_simp
                      first | done | with_reducible rfl
                    (try simp only [Act.put, List.setIfInBounds_toArray, List.set_cons_zero, List.set_cons_succ])
                    refine held_take (i := 12) (d := 174) (v := ?_) rfl rfl (by kernel_rfl) (by kernel_rfl) (by kernel_rfl) (fun _ _ _ h => h) (by kernel_rfl) hHeld ?_ ?_
                    rotate_left
                    · intro w hSw
                      (try dsimp only at hSw)
                      go_simp
                      first | done | with_reducible rfl
                    (try simp only [Act.put, List.setIfInBounds_toArray, List.set_cons_zero, List.set_cons_succ])
                    refine held_take (i := 13) (d := 175) (v := ?_) rfl rfl (by kernel_rfl) (by kernel_rfl) (by kernel_rfl) (fun _ _ _ h => h) (by kernel_rfl) hHeld ?_ ?_
                    rotate_left
                    · intro w hSw
                      (try dsimp only at hSw)
                      go_simp
                      first | done | with_reducible rfl
                    (try simp only [Act.put, List.setIfInBounds_toArray, List.set_cons_zero, List.set_cons_succ])
                    refine held_take (i := 14) (d := 176) (v := ?_) rfl rfl (by kernel_rfl) (by kernel_rfl) (by kernel_rfl) (fun _ _ _ h => h) (by kernel_rfl) hHeld ?_ ?_
                    rotate_left
                    · intro w hSw
                      (try dsimp only at hSw)
                      go_simp
                      first | done | with_reducible rfl
                    (try simp only [Act.put, List.setIfInBounds_toArray, List.set_cons_zero, List.set_cons_succ])
                    refine held_take (i := 15) (d := 177) (v := ?_) rfl rfl (by kernel_rfl) (by kernel_rfl) (by kernel_rfl) (fun _ _ _ h => h) (by kernel_rfl) hHeld ?_ ?_
                    rotate_left
                    · intro w hSw
                      (try dsimp only at hSw)
                      go_simp
                      first | done | with_reducible rfl
                    (try simp only [Act.put, List.setIfInBounds_toArray, List.set_cons_zero, List.set_cons_succ])
                    refine held_take (i := 16) (d := 178) (v := ?_) rfl rfl (by kernel_rfl) (by kernel_rfl) (by kernel_rfl) (fun _ _ _ h => h) (by kernel_rfl) hHeld ?_ ?_
                    rotate_left
                    · intro w hSw
                      (try dsimp only at hSw)
                      go_simp
                      first | done | with_reducible rfl
                    (try simp only [Act.put, List.setIfInBounds_toArray, List.set_cons_zero, List.set_cons_succ])
                    refine held_take (i := 17) (d := 179) (v := ?_) rfl rfl (by kernel_rfl) (by kernel_rfl) (by kernel_rfl) (fun _ _ _ h => h) (by kernel_rfl) hHeld ?_ ?_
                    rotate_left
                    · intro w hSw
                      (try dsimp only at hSw)
                      go_simp
                      first | done | with_reducible rfl
                    (try simp only [Act.put, List.setIfInBounds_toArray, List.set_cons_zero, List.set_cons_succ])
                    refine held_call (i := 18) rfl (by kernel_rfl) (by kernel_rfl) (fun K hK => ?_)
                    go_simp
                    go_at_call 10
                    refine (HS2.out _ hHeld _ _ _ _ _ _ (by (repeat' split) <;> first | exact Or.inl rfl | exact Or.inr (by omega)) (by (repeat' split) <;> first | exact Or.inl rfl | exact Or.inr (by omega)) (by first | rfl | omega) (by first | rfl | omega)).mono ?_
                    rintro e w' ⟨rfl, hb⟩
                    replace hHeld := hHeld.trans (hb.mono hHeld.size)
                    (try dsimp only)
                    refine hK.out _ _ ?_ (fun hHeld' => ?_)
                    · (try dsimp only)
                      first | done | exact (Below.refl _ _).drew | exact hHeld | exact hHeld.drew
                    clear hK K hHeld
                    have hHeld := hHeld'
                    clear hHeld'
                    (try simp only [Act.put, List.setIfInBounds_toArray, List.set_cons_zero, List.set_cons_succ])
                    refine held_take (i := 19) (d := 181) (v := ?_) rfl rfl (by kernel_rfl) (by kernel_rfl) (by kernel_rfl) (fun _ _ _ h => h) (by kernel_rfl) hHeld ?_ ?_
                    rotate_left
                    · intro w hSw
                      (try dsimp only at hSw)
                      go_simp
                      first | done | with_reducible rfl
                    (try simp only [Act.put, List.setIfInBounds_toArray, List.set_cons_zero, List.set_cons_succ])
                    refine held_take (i := 20) (d := 182) (v := ?_) rfl rfl (by kernel_rfl) (by kernel_rfl) (by kernel_rfl) (fun _ _ _ h => h) (by kernel_rfl) hHeld ?_ ?_
                    rotate_left
                    · intro w hSw
                      (try dsimp only at hSw)
                      go_simp
                      first | done | with_reducible rfl
                    (try simp only [Act.put, List.setIfInBounds_toArray, List.set_cons_zero, List.set_cons_succ])
                    refine held_call (i := 21) rfl (by kernel_rfl) (by kernel_rfl) (fun K hK => ?_)
                    go_simp
                    go_at_call 7
                    refine (HWk.out _ (B4.out.trans (hHeld.mono B4.out.size))).mono ?_
                    rintro e w' ⟨rfl, hb⟩
                    replace hHeld := hHeld.trans (hb.mono hHeld.size)
                    (try dsimp only)
                    refine hK.out _ _ ?_ (fun hHeld' => ?_)
                    · (try dsimp only)
                      first | done | exact (Below.refl _ _).drew | exact hHeld | exact hHeld.drew
                    clear hK K hHeld
                    have hHeld := hHeld'
                    clear hHeld'
                    (try simp only [Act.put, List.setIfInBounds_toArray, List.set_cons_zero, List.set_cons_succ])
                    refine held_take (i := 22) (d := 184) (v := ?_) rfl rfl (by kernel_rfl) (by kernel_rfl) (by kernel_rfl) (fun _ _ _ h => h) (by kernel_rfl) hHeld ?_ ?_
                    rotate_left
                    · intro w hSw
                      (try dsimp only at hSw)
                      go_simp
                      first | done | with_reducible rfl
                    (try simp only [Act.put, List.setIfInBounds_toArray, List.set_cons_zero, List.set_cons_succ])
                    refine held_take (i := 23) (d := 6) (v := ?_) rfl rfl (by kernel_rfl) (by kernel_rfl) (by kernel_rfl) (fun _ _ _ h => h) (by kernel_rfl) hHeld ?_ ?_
                    rotate_left
                    · intro w hSw
                      (try dsimp only at hSw)
                      go_simp
                      first | done | with_reducible rfl
                    (try simp only [Act.put, List.setIfInBounds_toArray, List.set_cons_zero, List.set_cons_succ])
                    refine wpAnyH_done (by kernel_rfl) ?_ _
                    go_wp2
                    all_goals
                      go_ret
                      exact ⟨rfl, B4.out.trans (hHeld.mono B4.out.size)⟩
end Go.Proofs.YtbnaphbmmkmaeaaDoor
