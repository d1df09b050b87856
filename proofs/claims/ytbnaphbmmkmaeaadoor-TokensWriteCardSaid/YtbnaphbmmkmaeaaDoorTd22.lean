/- The document's Join: tokens written: the walk. (Printed by wip/genTkRe.py.) -/
import Derived.Test.YtbnaphbmmkmaeaaDoorTd01
import Derived.Test.YtbnaphbmmkmaeaaDoorTd21
set_option linter.unusedSimpArgs false
set_option linter.unusedVariables false
namespace Go.Proofs.YtbnaphbmmkmaeaaDoor
open Go.RowKit Tk

set_option maxHeartbeats 32000000 in
set_option maxRecDepth 20000 in
theorem refJoin14_any (A : Option Addr) (c B0 : Nat) (l : List Gt) (w : World) (hA : TkL w B0 A l) (hB0 : B0 ≤ w.heap.size) (hl : l.length ≤ 1000000000) (hs : ∀ x ∈ l, x.as_.length ≤ 1000000000) (hj : (joinG l).length ≤ 140737488355228) :
    Calls Tryd.prog 14 #[.slice A l.length c] w fun e w' => e = .returned (.string (bstr (joinG l))) ∧ Below w.heap.size w w' := by
  obtain ⟨n, hn⟩ : ∃ n, l.length = n := ⟨_, rfl⟩
  have HA := hide hA
  rw [hn] at hl ⊢
  have Hn := hide hn
  have Hs := hide hs
  have Hj := hide hj
  clear hn hA hs hj
  go_enter Tryd.func14, Tryd.ntmps14
  go_wp2
  go_loopg [3, 4] n (fun g vo vi wr => ∃ (k : Nat) (o : ByteArray), g = n - k ∧ k ≤ n ∧ vi = .int .i64 (k : Int) ∧ vo = .string o ∧ o.data.toList = joinG (l.take k) ∧ Below w.heap.size w wr)
  case atStart => exact ⟨0, ⟨#[]⟩, rfl, Nat.zero_le _, rfl, rfl, rfl, Below.refl _ _⟩
  case round =>
    obtain ⟨k, o, hg, hk, rfl, rfl, ho, hB⟩ := hrel
    have Hg := hide hg
    have HB := hide hB
    have Ho := hide ho
    clear hg hB ho
    by_cases hlt : k < n
    · have h1 : k < l.length := by rw [Hn.out]; exact hlt
      obtain ⟨b, off, rfl, hb, hx⟩ := (HA.out.below (HB.out.mono hB0)).row.gt h1
      have HSubW := hide (fun W (hW : Below w.heap.size w W) => (HA.out.below (hW.mono hB0)).sub l[k] (List.getElem_mem h1))
      have hsl := Hs.out l[k] (List.getElem_mem h1)
      have Hnext := hide (show joinG (l.take (k + 1)) = joinG (l.take k) ++ joinGt l[k] from flat_take joinGt h1)
      have Hbd := hide (show (joinG (l.take k)).length + (joinGt l[k]).length ≤ 140737488355228 by have h2 := flat_pre joinGt l (k + 1); rw [flat_take joinGt h1, List.length_append] at h2; have := Hj.out; unfold joinG at this ⊢; omega)
      generalize l[k] = x at *
      obtain ⟨pre, hpre⟩ : ∃ p, joinG (l.take k) = p := ⟨_, rfl⟩
      rw [hpre] at Hnext Hbd Ho
      have hos : o.size = pre.length := by rw [← size_list, Ho.out]
      have x0 := hx.c0
      have x1 := hx.c1
      have x2 := hx.c2
      have x3 := hx.c3
      have x4 := hx.c4
      have x5 := hx.c5
      have x6 := hx.c6
      obtain ⟨kd, nm, as_, A2, c2, em, tx, a0, e0⟩ := x
      dsimp only at x0 x1 x2 x3 x4 x5 x6 hsl HSubW
      have V1 := hide (Blk.new wr 29 #[.int .i8 kd, .string nm, .slice A2 as_.length c2, .bool em, .string tx, .int .i64 a0, .int .i64 e0])
      have p0 := V1.out.cell 0
      have p1 := V1.out.cell 1
      have p2 := V1.out.cell 2
      have p3 := V1.out.cell 3
      have p4 := V1.out.cell 4
      have HB2 := hide (HB.out.alloc HB.out.size (.cells #[.int .i8 kd, .string nm, .slice A2 as_.length c2, .bool em, .string tx, .int .i64 a0, .int .i64 e0] 29))
      have hnz := size_list nm
      have htz := size_list tx
      clear hx hpre
      by_cases k0 : kd = 0
      · subst k0
        have Hjx := hide (show joinGt ⟨0, nm, as_, A2, c2, em, tx, a0, e0⟩ = 60 :: (nm.data.toList ++ (as_.flatMap joinGa ++ ((if em then [47] else []) ++ [62]))) from rfl)
        have hbd := Hbd.out
        rw [Hjx.out] at hbd
        simp only [List.length_append, List.length_cons, List.length_nil] at hbd
        have Hbd2 := hide hbd
        have k1 : ¬ 9223372036854775807 < o.size + 1 := by omega
        have k2 : ¬ 9223372036854775807 < o.size + 1 + nm.size := by omega
        clear hbd hos
        obtain ⟨na, hna⟩ : ∃ na, as_.length = na := ⟨_, rfl⟩
        have Hna := hide hna
        rw [hna] at x2 p2 hsl V1 HB2
        rw [hna] at p0 p1 p3 p4
        clear hna
        go_wp2
        generalize wr.heap.size = V at *
        go_loopg [3, 6] na (fun g vo vj wr2 => ∃ (j : Nat) (u : ByteArray), g = na - j ∧ j ≤ na ∧ vj = .int .i64 (j : Int) ∧ vo = .string u ∧ u.data.toList = pre ++ (60 :: nm.data.toList) ++ (as_.take j).flatMap joinGa ∧ Below w.heap.size w wr2 ∧ Blk wr2 V 29 #[.int .i8 0, .string nm, .slice A2 na c2, .bool em, .string tx, .int .i64 a0, .int .i64 e0])
        case atStart => exact ⟨0, _, rfl, Nat.zero_le _, rfl, rfl, by simp [ByteArray.data_append, Ho.out], HB2.out, V1.out⟩
        case round =>
          obtain ⟨j, u, hgj, hj2, rfl, rfl, hu, hBj, hVj⟩ := hrel
          have Hgj := hide hgj
          have Hu := hide hu
          have HBj := hide hBj
          have HVj := hide hVj
          clear hgj hu hBj hVj
          have p2 := HVj.out.cell 2
          have p3 := HVj.out.cell 3
          have hus : u.size = pre.length + (nm.size + 1) + ((as_.take j).flatMap joinGa).length := by rw [← size_list, Hu.out]; simp only [List.length_append, List.length_cons, hnz]
          by_cases hltj : j < na
          · have ha1 : j < as_.length := by rw [Hna.out]; exact hltj
            obtain ⟨b2, off2, rfl, hb2, hy⟩ := (HSubW.out _ HBj.out).ga ha1
            have Hnj := hide (show (as_.take (j + 1)).flatMap joinGa = (as_.take j).flatMap joinGa ++ joinGa as_[j] from flat_take joinGa ha1)
            have Hbdj := hide (show ((as_.take j).flatMap joinGa).length + (joinGa as_[j]).length ≤ (as_.flatMap joinGa).length by have h2 := flat_pre joinGa as_ (j + 1); rw [flat_take joinGa ha1, List.length_append] at h2; exact h2)
            generalize as_[j] = y at *
            obtain ⟨pj, hpj⟩ : ∃ p, (as_.take j).flatMap joinGa = p := ⟨_, rfl⟩
            rw [hpj] at Hu hus Hnj Hbdj
            obtain ⟨yn, yv, ya⟩ := y
            have y0 : _ = some (Value.string yn) := hy.c0
            have y1 : _ = some (Value.string yv) := hy.c1
            have hib := tillAt_one 34 yv.data.toList
            have hgl : (joinGa ⟨yn, yv, ya⟩).length = yn.size + yv.size + 4 := joinGa_len _
            have hbj : u.size + yn.size + yv.size + 4 ≤ 140737488355328 := by have h1 := Hbdj.out; have h2 := Hbd2.out; rw [hgl] at h1; omega
            have HCt := hide (fun W => refTill_any yv ⟨#[34]⟩ 0 W (Nat.zero_le _) (by omega) (by decide) (by decide))
            have m1 : ¬ 9223372036854775807 < u.size + 1 := by omega
            have m2 : ¬ 9223372036854775807 < u.size + 1 + yn.size := by omega
            have m3 : ¬ 9223372036854775807 < u.size + 1 + yn.size + 1 := by omega
            have m4 : ¬ 9223372036854775807 < u.size + 1 + yn.size + 1 + 1 := by omega
            have m5 : ¬ 9223372036854775807 < u.size + 1 + yn.size + 1 + 1 + yv.size := by omega
            have m6 : ¬ 9223372036854775807 < u.size + 1 + yn.size + 1 + 1 + yv.size + 1 := by omega
            clear hy hpj hgl hus
            have HCt' := hide (show ∀ W, Calls Tryd.prog 26 #[.string yv, .int .i64 0, .string ⟨#[34]⟩] W fun e w' => e = .returned (.int .i64 (tillAt yv.data.toList [34] 0)) ∧ w' = W from HCt.out)
            clear HCt
            obtain ⟨z, hz⟩ : ∃ z, tillAt yv.data.toList [34] 0 = z := ⟨_, rfl⟩
            rw [hz] at HCt' hib
            clear hz
            by_cases h34 : 0 ≤ z
            · have hd : decide (0 ≤ z) = true := decide_eq_true h34
              have Hq := hide (show joinGa ⟨yn, yv, ya⟩ = 32 :: (yn.data.toList ++ 61 :: 39 :: (yv.data.toList ++ [39])) from by unfold joinGa quoteG; rw [if_pos (hib.1 h34)])
              clear h34 hib
              go_wp2_with fail
              refine (HCt'.out _).mono ?_
              rintro e w4 ⟨rfl, hw4⟩
              subst w4
              go_wp2_with fail
              refine wp_region_held_drew (S := fun W => W = wr.drew) (by kernel_rfl) ?_ (fun hHeld => ?_)
              · (try dsimp only)
                first | done | rfl | exact hHeld
              change wpAnyH _ _ _ _ _ 22 #[false, false, false, false, false, false, false, false, false, false, false, false, false, false, false, false, false, false, false, false, false, false] _ _
              refine held_take (i := 0) (d := 43) (v := ?_) rfl rfl (by kernel_rfl) (by kernel_rfl) (by kernel_rfl) (fun _ _ _ h => h) (by kernel_rfl) hHeld ?_ ?_
              rotate_left
              · intro w hSw
                (try dsimp only at hSw)
                go_simp
                first | done | with_reducible rfl
              (try simp only [Act.put, List.setIfInBounds_toArray, List.set_cons_zero, List.set_cons_succ])
              refine held_take (i := 1) (d := 44) (v := ?_) rfl rfl (by kernel_rfl) (by kernel_rfl) (by kernel_rfl) (fun _ _ _ h => h) (by kernel_rfl) hHeld ?_ ?_
              rotate_left
              · intro w hSw
                (try dsimp only at hSw)
                go_simp
                first | done | with_reducible rfl
              (try simp only [Act.put, List.setIfInBounds_toArray, List.set_cons_zero, List.set_cons_succ])
              refine held_take (i := 2) (d := 45) (v := ?_) rfl rfl (by kernel_rfl) (by kernel_rfl) (by kernel_rfl) (fun _ _ _ h => h) (by kernel_rfl) hHeld ?_ ?_
              rotate_left
              · intro w hSw
                (try dsimp only at hSw)
                go_simp
                first | done | with_reducible rfl
              (try simp only [Act.put, List.setIfInBounds_toArray, List.set_cons_zero, List.set_cons_succ])
              refine held_take (i := 3) (d := 46) (v := ?_) rfl rfl (by kernel_rfl) (by kernel_rfl) (by kernel_rfl) (fun _ _ _ h => h) (by kernel_rfl) hHeld ?_ ?_
              rotate_left
              · intro w hSw
                (try dsimp only at hSw)
                subst hSw
                go_simp
                first | done | with_reducible rfl
              (try simp only [Act.put, List.setIfInBounds_toArray, List.set_cons_zero, List.set_cons_succ])
              refine held_take (i := 4) (d := 47) (v := ?_) rfl rfl (by kernel_rfl) (by kernel_rfl) (by kernel_rfl) (fun _ _ _ h => h) (by kernel_rfl) hHeld ?_ ?_
              rotate_left
              · intro w hSw
                (try dsimp only at hSw)
                go_simp
                first | done | with_reducible rfl
              (try simp only [Act.put, List.setIfInBounds_toArray, List.set_cons_zero, List.set_cons_succ])
              refine held_take (i := 5) (d := 48) (v := ?_) rfl rfl (by kernel_rfl) (by kernel_rfl) (by kernel_rfl) (fun _ _ _ h => h) (by kernel_rfl) hHeld ?_ ?_
              rotate_left
              · intro w hSw
                (try dsimp only at hSw)
                go_simp
                first | done | with_reducible rfl
              (try simp only [Act.put, List.setIfInBounds_toArray, List.set_cons_zero, List.set_cons_succ])
              refine held_take (i := 6) (d := 49) (v := ?_) rfl rfl (by kernel_rfl) (by kernel_rfl) (by kernel_rfl) (fun _ _ _ h => h) (by kernel_rfl) hHeld ?_ ?_
              rotate_left
              · intro w hSw
                (try dsimp only at hSw)
                go_simp
                first | done | with_reducible rfl
              (try simp only [Act.put, List.setIfInBounds_toArray, List.set_cons_zero, List.set_cons_succ])
              refine held_take (i := 7) (d := 50) (v := ?_) rfl rfl (by kernel_rfl) (by kernel_rfl) (by kernel_rfl) (fun _ _ _ h => h) (by kernel_rfl) hHeld ?_ ?_
              rotate_left
              · intro w hSw
                (try dsimp only at hSw)
                subst hSw
                go_simp
                first | done | with_reducible rfl
              (try simp only [Act.put, List.setIfInBounds_toArray, List.set_cons_zero, List.set_cons_succ])
              refine held_take (i := 8) (d := 51) (v := ?_) rfl rfl (by kernel_rfl) (by kernel_rfl) (by kernel_rfl) (fun _ _ _ h => h) (by kernel_rfl) hHeld ?_ ?_
              rotate_left
              · intro w hSw
                (try dsimp only at hSw)
                go_simp
                first | done | with_reducible rfl
              (try simp only [Act.put, List.setIfInBounds_toArray, List.set_cons_zero, List.set_cons_succ])
              refine held_take (i := 9) (d := 52) (v := ?_) rfl rfl (by kernel_rfl) (by kernel_rfl) (by kernel_rfl) (fun _ _ _ h => h) (by kernel_rfl) hHeld ?_ ?_
              rotate_left
              · intro w hSw
                (try dsimp only at hSw)
                go_simp
                first | done | with_reducible rfl
              (try simp only [Act.put, List.setIfInBounds_toArray, List.set_cons_zero, List.set_cons_succ])
              refine held_take (i := 10) (d := 53) (v := ?_) rfl rfl (by kernel_rfl) (by kernel_rfl) (by kernel_rfl) (fun _ _ _ h => h) (by kernel_rfl) hHeld ?_ ?_
              rotate_left
              · intro w hSw
                (try dsimp only at hSw)
                go_simp
                first | done | with_reducible rfl
              (try simp only [Act.put, List.setIfInBounds_toArray, List.set_cons_zero, List.set_cons_succ])
              refine held_take (i := 11) (d := 54) (v := ?_) rfl rfl (by kernel_rfl) (by kernel_rfl) (by kernel_rfl) (fun _ _ _ h => h) (by kernel_rfl) hHeld ?_ ?_
              rotate_left
              · intro w hSw
                (try dsimp only at hSw)
                go_simp
                first | done | with_reducible rfl
              (try simp only [Act.put, List.setIfInBounds_toArray, List.set_cons_zero, List.set_cons_succ])
              refine held_take (i := 12) (d := 55) (v := ?_) rfl rfl (by kernel_rfl) (by kernel_rfl) (by kernel_rfl) (fun _ _ _ h => h) (by kernel_rfl) hHeld ?_ ?_
              rotate_left
              · intro w hSw
                (try dsimp only at hSw)
                go_simp
                first | done | with_reducible rfl
              (try simp only [Act.put, List.setIfInBounds_toArray, List.set_cons_zero, List.set_cons_succ])
              refine held_take (i := 13) (d := 56) (v := ?_) rfl rfl (by kernel_rfl) (by kernel_rfl) (by kernel_rfl) (fun _ _ _ h => h) (by kernel_rfl) hHeld ?_ ?_
              rotate_left
              · intro w hSw
                (try dsimp only at hSw)
                subst hSw
                go_simp
                first | done | with_reducible rfl
              (try simp only [Act.put, List.setIfInBounds_toArray, List.set_cons_zero, List.set_cons_succ])
              refine held_take (i := 14) (d := 57) (v := ?_) rfl rfl (by kernel_rfl) (by kernel_rfl) (by kernel_rfl) (fun _ _ _ h => h) (by kernel_rfl) hHeld ?_ ?_
              rotate_left
              · intro w hSw
                (try dsimp only at hSw)
                go_simp
                first | done | with_reducible rfl
              (try simp only [Act.put, List.setIfInBounds_toArray, List.set_cons_zero, List.set_cons_succ])
              refine held_take (i := 15) (d := 58) (v := ?_) rfl rfl (by kernel_rfl) (by kernel_rfl) (by kernel_rfl) (fun _ _ _ h => h) (by kernel_rfl) hHeld ?_ ?_
              rotate_left
              · intro w hSw
                (try dsimp only at hSw)
                go_simp
                first | done | with_reducible rfl
              (try simp only [Act.put, List.setIfInBounds_toArray, List.set_cons_zero, List.set_cons_succ])
              refine held_take (i := 16) (d := 59) (v := ?_) rfl rfl (by kernel_rfl) (by kernel_rfl) (by kernel_rfl) (fun _ _ _ h => h) (by kernel_rfl) hHeld ?_ ?_
              rotate_left
              · intro w hSw
                (try dsimp only at hSw)
                go_simp
                first | done | with_reducible rfl
              (try simp only [Act.put, List.setIfInBounds_toArray, List.set_cons_zero, List.set_cons_succ])
              refine held_take (i := 17) (d := 60) (v := ?_) rfl rfl (by kernel_rfl) (by kernel_rfl) (by kernel_rfl) (fun _ _ _ h => h) (by kernel_rfl) hHeld ?_ ?_
              rotate_left
              · intro w hSw
                (try dsimp only at hSw)
                subst hSw
                go_simp
                first | done | with_reducible rfl
              (try simp only [Act.put, List.setIfInBounds_toArray, List.set_cons_zero, List.set_cons_succ])
              refine held_take (i := 18) (d := 61) (v := ?_) rfl rfl (by kernel_rfl) (by kernel_rfl) (by kernel_rfl) (fun _ _ _ h => h) (by kernel_rfl) hHeld ?_ ?_
              rotate_left
              · intro w hSw
                (try dsimp only at hSw)
                go_simp
                first | done | with_reducible rfl
              (try simp only [Act.put, List.setIfInBounds_toArray, List.set_cons_zero, List.set_cons_succ])
              refine held_take (i := 19) (d := 62) (v := ?_) rfl rfl (by kernel_rfl) (by kernel_rfl) (by kernel_rfl) (fun _ _ _ h => h) (by kernel_rfl) hHeld ?_ ?_
              rotate_left
              · intro w hSw
                (try dsimp only at hSw)
                go_simp
                first | done | with_reducible rfl
              (try simp only [Act.put, List.setIfInBounds_toArray, List.set_cons_zero, List.set_cons_succ])
              refine held_take (i := 20) (d := 63) (v := ?_) rfl rfl (by kernel_rfl) (by kernel_rfl) (by kernel_rfl) (fun _ _ _ h => h) (by kernel_rfl) hHeld ?_ ?_
              rotate_left
              · intro w hSw
                (try dsimp only at hSw)
                go_simp
                first | done | with_reducible rfl
              (try simp only [Act.put, List.setIfInBounds_toArray, List.set_cons_zero, List.set_cons_succ])
              refine held_take (i := 21) (d := 3) (v := ?_) rfl rfl (by kernel_rfl) (by kernel_rfl) (by kernel_rfl) (fun _ _ _ h => h) (by kernel_rfl) hHeld ?_ ?_
              rotate_left
              · intro w hSw
                (try dsimp only at hSw)
                go_simp
                first | done | with_reducible rfl
              (try simp only [Act.put, List.setIfInBounds_toArray, List.set_cons_zero, List.set_cons_succ])
              refine wpAnyH_done (by kernel_rfl) ?_ _
              rw [hHeld]
              go_wp2
              go_roundg (na - (j + 1))
              case measure => have := Hgj.out; omega
              case rel => exact ⟨j + 1, _, rfl, by omega, by go_num, rfl, by rw [Hnj.out, Hq.out]; simp [ByteArray.data_append, Hu.out], HBj.out.drew, HVj.out⟩
            · have hd : decide (0 ≤ z) = false := decide_eq_false h34
              have Hq := hide (show joinGa ⟨yn, yv, ya⟩ = 32 :: (yn.data.toList ++ 61 :: 34 :: (yv.data.toList ++ [34])) from by unfold joinGa quoteG; rw [if_neg (fun h => h34 (hib.2 h))])
              clear h34 hib
              go_wp2_with fail
              refine (HCt'.out _).mono ?_
              rintro e w4 ⟨rfl, hw4⟩
              subst w4
              go_wp2_with fail
              refine wp_region_held_drew (S := fun W => W = wr.drew) (by kernel_rfl) ?_ (fun hHeld => ?_)
              · (try dsimp only)
                first | done | rfl | exact hHeld
              change wpAnyH _ _ _ _ _ 22 #[false, false, false, false, false, false, false, false, false, false, false, false, false, false, false, false, false, false, false, false, false, false] _ _
              refine held_take (i := 0) (d := 43) (v := ?_) rfl rfl (by kernel_rfl) (by kernel_rfl) (by kernel_rfl) (fun _ _ _ h => h) (by kernel_rfl) hHeld ?_ ?_
              rotate_left
              · intro w hSw
                (try dsimp only at hSw)
                go_simp
                first | done | with_reducible rfl
              (try simp only [Act.put, List.setIfInBounds_toArray, List.set_cons_zero, List.set_cons_succ])
              refine held_take (i := 1) (d := 44) (v := ?_) rfl rfl (by kernel_rfl) (by kernel_rfl) (by kernel_rfl) (fun _ _ _ h => h) (by kernel_rfl) hHeld ?_ ?_
              rotate_left
              · intro w hSw
                (try dsimp only at hSw)
                go_simp
                first | done | with_reducible rfl
              (try simp only [Act.put, List.setIfInBounds_toArray, List.set_cons_zero, List.set_cons_succ])
              refine held_take (i := 2) (d := 45) (v := ?_) rfl rfl (by kernel_rfl) (by kernel_rfl) (by kernel_rfl) (fun _ _ _ h => h) (by kernel_rfl) hHeld ?_ ?_
              rotate_left
              · intro w hSw
                (try dsimp only at hSw)
                go_simp
                first | done | with_reducible rfl
              (try simp only [Act.put, List.setIfInBounds_toArray, List.set_cons_zero, List.set_cons_succ])
              refine held_take (i := 3) (d := 46) (v := ?_) rfl rfl (by kernel_rfl) (by kernel_rfl) (by kernel_rfl) (fun _ _ _ h => h) (by kernel_rfl) hHeld ?_ ?_
              rotate_left
              · intro w hSw
                (try dsimp only at hSw)
                subst hSw
                go_simp
                first | done | with_reducible rfl
              (try simp only [Act.put, List.setIfInBounds_toArray, List.set_cons_zero, List.set_cons_succ])
              refine held_take (i := 4) (d := 47) (v := ?_) rfl rfl (by kernel_rfl) (by kernel_rfl) (by kernel_rfl) (fun _ _ _ h => h) (by kernel_rfl) hHeld ?_ ?_
              rotate_left
              · intro w hSw
                (try dsimp only at hSw)
                go_simp
                first | done | with_reducible rfl
              (try simp only [Act.put, List.setIfInBounds_toArray, List.set_cons_zero, List.set_cons_succ])
              refine held_take (i := 5) (d := 48) (v := ?_) rfl rfl (by kernel_rfl) (by kernel_rfl) (by kernel_rfl) (fun _ _ _ h => h) (by kernel_rfl) hHeld ?_ ?_
              rotate_left
              · intro w hSw
                (try dsimp only at hSw)
                go_simp
                first | done | with_reducible rfl
              (try simp only [Act.put, List.setIfInBounds_toArray, List.set_cons_zero, List.set_cons_succ])
              refine held_take (i := 6) (d := 49) (v := ?_) rfl rfl (by kernel_rfl) (by kernel_rfl) (by kernel_rfl) (fun _ _ _ h => h) (by kernel_rfl) hHeld ?_ ?_
              rotate_left
              · intro w hSw
                (try dsimp only at hSw)
                go_simp
                first | done | with_reducible rfl
              (try simp only [Act.put, List.setIfInBounds_toArray, List.set_cons_zero, List.set_cons_succ])
              refine held_take (i := 7) (d := 50) (v := ?_) rfl rfl (by kernel_rfl) (by kernel_rfl) (by kernel_rfl) (fun _ _ _ h => h) (by kernel_rfl) hHeld ?_ ?_
              rotate_left
              · intro w hSw
                (try dsimp only at hSw)
                subst hSw
                go_simp
                first | done | with_reducible rfl
              (try simp only [Act.put, List.setIfInBounds_toArray, List.set_cons_zero, List.set_cons_succ])
              refine held_take (i := 8) (d := 51) (v := ?_) rfl rfl (by kernel_rfl) (by kernel_rfl) (by kernel_rfl) (fun _ _ _ h => h) (by kernel_rfl) hHeld ?_ ?_
              rotate_left
              · intro w hSw
                (try dsimp only at hSw)
                go_simp
                first | done | with_reducible rfl
              (try simp only [Act.put, List.setIfInBounds_toArray, List.set_cons_zero, List.set_cons_succ])
              refine held_take (i := 9) (d := 52) (v := ?_) rfl rfl (by kernel_rfl) (by kernel_rfl) (by kernel_rfl) (fun _ _ _ h => h) (by kernel_rfl) hHeld ?_ ?_
              rotate_left
              · intro w hSw
                (try dsimp only at hSw)
                go_simp
                first | done | with_reducible rfl
              (try simp only [Act.put, List.setIfInBounds_toArray, List.set_cons_zero, List.set_cons_succ])
              refine held_take (i := 10) (d := 53) (v := ?_) rfl rfl (by kernel_rfl) (by kernel_rfl) (by kernel_rfl) (fun _ _ _ h => h) (by kernel_rfl) hHeld ?_ ?_
              rotate_left
              · intro w hSw
                (try dsimp only at hSw)
                go_simp
                first | done | with_reducible rfl
              (try simp only [Act.put, List.setIfInBounds_toArray, List.set_cons_zero, List.set_cons_succ])
              refine held_take (i := 11) (d := 54) (v := ?_) rfl rfl (by kernel_rfl) (by kernel_rfl) (by kernel_rfl) (fun _ _ _ h => h) (by kernel_rfl) hHeld ?_ ?_
              rotate_left
              · intro w hSw
                (try dsimp only at hSw)
                go_simp
                first | done | with_reducible rfl
              (try simp only [Act.put, List.setIfInBounds_toArray, List.set_cons_zero, List.set_cons_succ])
              refine held_take (i := 12) (d := 55) (v := ?_) rfl rfl (by kernel_rfl) (by kernel_rfl) (by kernel_rfl) (fun _ _ _ h => h) (by kernel_rfl) hHeld ?_ ?_
              rotate_left
              · intro w hSw
                (try dsimp only at hSw)
                go_simp
                first | done | with_reducible rfl
              (try simp only [Act.put, List.setIfInBounds_toArray, List.set_cons_zero, List.set_cons_succ])
              refine held_take (i := 13) (d := 56) (v := ?_) rfl rfl (by kernel_rfl) (by kernel_rfl) (by kernel_rfl) (fun _ _ _ h => h) (by kernel_rfl) hHeld ?_ ?_
              rotate_left
              · intro w hSw
                (try dsimp only at hSw)
                subst hSw
                go_simp
                first | done | with_reducible rfl
              (try simp only [Act.put, List.setIfInBounds_toArray, List.set_cons_zero, List.set_cons_succ])
              refine held_take (i := 14) (d := 57) (v := ?_) rfl rfl (by kernel_rfl) (by kernel_rfl) (by kernel_rfl) (fun _ _ _ h => h) (by kernel_rfl) hHeld ?_ ?_
              rotate_left
              · intro w hSw
                (try dsimp only at hSw)
                go_simp
                first | done | with_reducible rfl
              (try simp only [Act.put, List.setIfInBounds_toArray, List.set_cons_zero, List.set_cons_succ])
              refine held_take (i := 15) (d := 58) (v := ?_) rfl rfl (by kernel_rfl) (by kernel_rfl) (by kernel_rfl) (fun _ _ _ h => h) (by kernel_rfl) hHeld ?_ ?_
              rotate_left
              · intro w hSw
                (try dsimp only at hSw)
                go_simp
                first | done | with_reducible rfl
              (try simp only [Act.put, List.setIfInBounds_toArray, List.set_cons_zero, List.set_cons_succ])
              refine held_take (i := 16) (d := 59) (v := ?_) rfl rfl (by kernel_rfl) (by kernel_rfl) (by kernel_rfl) (fun _ _ _ h => h) (by kernel_rfl) hHeld ?_ ?_
              rotate_left
              · intro w hSw
                (try dsimp only at hSw)
                go_simp
                first | done | with_reducible rfl
              (try simp only [Act.put, List.setIfInBounds_toArray, List.set_cons_zero, List.set_cons_succ])
              refine held_take (i := 17) (d := 60) (v := ?_) rfl rfl (by kernel_rfl) (by kernel_rfl) (by kernel_rfl) (fun _ _ _ h => h) (by kernel_rfl) hHeld ?_ ?_
              rotate_left
              · intro w hSw
                (try dsimp only at hSw)
                subst hSw
                go_simp
                first | done | with_reducible rfl
              (try simp only [Act.put, List.setIfInBounds_toArray, List.set_cons_zero, List.set_cons_succ])
              refine held_take (i := 18) (d := 61) (v := ?_) rfl rfl (by kernel_rfl) (by kernel_rfl) (by kernel_rfl) (fun _ _ _ h => h) (by kernel_rfl) hHeld ?_ ?_
              rotate_left
              · intro w hSw
                (try dsimp only at hSw)
                go_simp
                first | done | with_reducible rfl
              (try simp only [Act.put, List.setIfInBounds_toArray, List.set_cons_zero, List.set_cons_succ])
              refine held_take (i := 19) (d := 62) (v := ?_) rfl rfl (by kernel_rfl) (by kernel_rfl) (by kernel_rfl) (fun _ _ _ h => h) (by kernel_rfl) hHeld ?_ ?_
              rotate_left
              · intro w hSw
                (try dsimp only at hSw)
                go_simp
                first | done | with_reducible rfl
              (try simp only [Act.put, List.setIfInBounds_toArray, List.set_cons_zero, List.set_cons_succ])
              refine held_take (i := 20) (d := 63) (v := ?_) rfl rfl (by kernel_rfl) (by kernel_rfl) (by kernel_rfl) (fun _ _ _ h => h) (by kernel_rfl) hHeld ?_ ?_
              rotate_left
              · intro w hSw
                (try dsimp only at hSw)
                go_simp
                first | done | with_reducible rfl
              (try simp only [Act.put, List.setIfInBounds_toArray, List.set_cons_zero, List.set_cons_succ])
              refine held_take (i := 21) (d := 3) (v := ?_) rfl rfl (by kernel_rfl) (by kernel_rfl) (by kernel_rfl) (fun _ _ _ h => h) (by kernel_rfl) hHeld ?_ ?_
              rotate_left
              · intro w hSw
                (try dsimp only at hSw)
                go_simp
                first | done | with_reducible rfl
              (try simp only [Act.put, List.setIfInBounds_toArray, List.set_cons_zero, List.set_cons_succ])
              refine wpAnyH_done (by kernel_rfl) ?_ _
              rw [hHeld]
              go_wp2
              go_roundg (na - (j + 1))
              case measure => have := Hgj.out; omega
              case rel => exact ⟨j + 1, _, rfl, by omega, by go_num, rfl, by rw [Hnj.out, Hq.out]; simp [ByteArray.data_append, Hu.out], HBj.out.drew, HVj.out⟩
          · have hjn : j = na := by omega
            subst hjn
            have hu := Hu.out
            rw [List.take_of_length_le (by rw [Hna.out]; exact Nat.le_refl _)] at hu hus
            have Hu2 := hide hu
            have hub : u.size + 2 ≤ 140737488355328 := by have h2 := Hbd2.out; omega
            have m1 : ¬ 9223372036854775807 < u.size + 1 := by omega
            have m2 : ¬ 9223372036854775807 < u.size + 1 + 1 := by omega
            clear hu hus
            cases em with
            | true =>
              go_wp2
              go_roundg (n - (k + 1))
              case measure => have := Hg.out; omega
              case rel => exact ⟨k + 1, _, rfl, by omega, by go_num, rfl, by rw [Hnext.out, Hjx.out]; simp [ByteArray.data_append, Hu2.out], HBj.out⟩
            | false =>
              go_wp2
              go_roundg (n - (k + 1))
              case measure => have := Hg.out; omega
              case rel => exact ⟨k + 1, _, rfl, by omega, by go_num, rfl, by rw [Hnext.out, Hjx.out]; simp [ByteArray.data_append, Hu2.out], HBj.out⟩
      have c0 : (kd == 0) = false := by simpa using k0
      by_cases k1 : kd = 1
      · subst k1
        have Hjx := hide (show joinGt ⟨1, nm, as_, A2, c2, em, tx, a0, e0⟩ = 60 :: 47 :: (nm.data.toList ++ [62]) from rfl)
        have hbd := Hbd.out
        rw [Hjx.out] at hbd
        (try simp only [List.length_append, List.length_cons, List.length_nil, sData] at hbd)
        have k1 : ¬ 9223372036854775807 < o.size + 2 := by omega
        have k2 : ¬ 9223372036854775807 < o.size + 2 + nm.size := by omega
        have k3 : ¬ 9223372036854775807 < o.size + 2 + nm.size + 1 := by omega
        clear hbd hos
        go_wp2
        go_roundg (n - (k + 1))
        case measure => have := Hg.out; omega
        case rel => exact ⟨k + 1, _, rfl, by omega, by go_num, rfl, by rw [Hnext.out, Hjx.out]; simp [ByteArray.data_append, Ho.out, sData], HB2.out⟩
      have c1 : (kd == 1) = false := by simpa using k1
      by_cases k2 : kd = 2
      · subst k2
        have Hjx := hide (show joinGt ⟨2, nm, as_, A2, c2, em, tx, a0, e0⟩ = tx.data.toList from rfl)
        have hbd := Hbd.out
        rw [Hjx.out] at hbd
        (try simp only [List.length_append, List.length_cons, List.length_nil, sData] at hbd)
        have k1 : ¬ 9223372036854775807 < o.size + tx.size := by omega
        clear hbd hos
        go_wp2
        go_roundg (n - (k + 1))
        case measure => have := Hg.out; omega
        case rel => exact ⟨k + 1, _, rfl, by omega, by go_num, rfl, by rw [Hnext.out, Hjx.out]; simp [ByteArray.data_append, Ho.out, sData], HB2.out⟩
      have c2' : (kd == 2) = false := by simpa using k2
      by_cases k3 : kd = 3
      · subst k3
        have Hjx := hide (show joinGt ⟨3, nm, as_, A2, c2, em, tx, a0, e0⟩ = sData ++ (tx.data.toList ++ [93, 93, 62]) from rfl)
        have hbd := Hbd.out
        rw [Hjx.out] at hbd
        (try simp only [List.length_append, List.length_cons, List.length_nil, sData] at hbd)
        have k1 : ¬ 9223372036854775807 < o.size + 9 := by omega
        have k2 : ¬ 9223372036854775807 < o.size + 9 + tx.size := by omega
        have k3 : ¬ 9223372036854775807 < o.size + 9 + tx.size + 3 := by omega
        clear hbd hos
        go_wp2
        go_roundg (n - (k + 1))
        case measure => have := Hg.out; omega
        case rel => exact ⟨k + 1, _, rfl, by omega, by go_num, rfl, by rw [Hnext.out, Hjx.out]; simp [ByteArray.data_append, Ho.out, sData], HB2.out⟩
      have c3 : (kd == 3) = false := by simpa using k3
      have Hjx := hide (show joinGt ⟨kd, nm, as_, A2, c2, em, tx, a0, e0⟩ = [] by unfold joinGt; rw [if_neg k0, if_neg k1, if_neg k2, if_neg k3])
      go_wp2
      go_roundg (n - (k + 1))
      case measure => have := Hg.out; omega
      case rel => exact ⟨k + 1, _, rfl, by omega, by go_num, rfl, by rw [Hnext.out, Hjx.out, List.append_nil]; exact Ho.out, HB2.out⟩
    · have hkn : k = n := by omega
      subst hkn
      have ho := Ho.out
      rw [List.take_of_length_le (by rw [Hn.out]; exact Nat.le_refl _)] at ho
      have Ho2 := hide ho
      clear ho
      go_wp2
      go_ret
      exact ⟨by rw [← Ho2.out, bstr_of]; rfl, HB.out⟩
end Go.Proofs.YtbnaphbmmkmaeaaDoor
