/- The document's own: whether two rows are the same. (Printed by wip/genTkRb.py.) -/
import Derived.Test.YtbnaphbmmkmaeaaGreatDoorTz24
import Derived.Deep.CutRange
set_option linter.unusedSimpArgs false
set_option linter.unusedVariables false
namespace Go.Proofs.YtbnaphbmmkmaeaaGreatDoor
open Go.RowKit Tk

set_option maxRecDepth 20000 in
set_option maxHeartbeats 8000000 in
theorem refSame14_any (A A' : Option Addr) (c c' B : Nat) (l l' : List Gt) (w : World) (hA : TkL w B A l) (hA' : TkL w B A' l') (hB : B ≤ w.heap.size) (hl : l.length ≤ 1000000000) (hl' : l'.length ≤ 1000000000) (hs : ∀ x ∈ l, x.as_.length ≤ 1000000000) (hs' : ∀ x ∈ l', x.as_.length ≤ 1000000000) :
    Calls Tryz.prog 32 #[.slice A l.length c, .slice A' l'.length c'] w fun e w' => e = .returned (.bool (decide (l.map Gt.bare = l'.map Gt.bare))) ∧ Below w.heap.size w w' := by
  obtain ⟨n, hn⟩ : ∃ n, l.length = n := ⟨_, rfl⟩
  obtain ⟨n', hn'⟩ : ∃ n, l'.length = n := ⟨_, rfl⟩
  have HA := hide hA
  have HA' := hide hA'
  rw [hn] at hl ⊢
  rw [hn'] at hl' ⊢
  have Hn := hide hn
  have Hn' := hide hn'
  have Hs := hide hs
  have Hs' := hide hs'
  clear hn hn' hA hA' hs hs'
  obtain ⟨ml, hml⟩ : ∃ m, l.map Gt.bare = m := ⟨_, rfl⟩
  obtain ⟨ml', hml'⟩ : ∃ m, l'.map Gt.bare = m := ⟨_, rfl⟩
  have Hml := hide hml
  have Hml' := hide hml'
  rw [hml, hml']
  clear hml hml'
  have Hlm := hide (show ml.length = n by rw [← Hml.out, List.length_map, Hn.out])
  have Hlm' := hide (show ml'.length = n' by rw [← Hml'.out, List.length_map, Hn'.out])
  by_cases hne : n = n'
  · subst hne
    have ht : ((n : Int) != (n : Int)) = false := by simp
    go_enter Tryz.func32, Tryz.ntmps32
    go_wp2
    go_loopg [5] n (fun g vi wr => ∃ k : Nat, g = n - k ∧ k ≤ n ∧ vi = .int .i64 k ∧ ml.take k = ml'.take k ∧ Below w.heap.size w wr)
    case atStart => exact ⟨0, rfl, Nat.zero_le _, rfl, by simp, Below.refl _ _⟩
    case round =>
      obtain ⟨k, hg, hk, rfl, htk, hB1⟩ := hrel
      have Hg := hide hg
      have Htk := hide htk
      have HB1 := hide hB1
      clear hg htk hB1
      by_cases hlt : k < n
      · have h1 : k < l.length := by rw [Hn.out]; exact hlt
        have h2 : k < l'.length := by rw [Hn'.out]; exact hlt
        obtain ⟨b, off, rfl, hb, hx⟩ := (HA.out.below (HB1.out.mono hB)).row.gt h1
        obtain ⟨b', off', rfl, hb', hy⟩ := (HA'.out.below (HB1.out.mono hB)).row.gt h2
        have Ex := hide (show ml[k]'(by rw [Hlm.out]; exact hlt) = (l[k]).bare by simp only [← Hml.out, List.getElem_map])
        have Ey := hide (show ml'[k]'(by rw [Hlm'.out]; exact hlt) = (l'[k]).bare by simp only [← Hml'.out, List.getElem_map])
        have Sx := hide ((HA.out.below (HB1.out.mono hB)).sub _ (List.getElem_mem h1))
        have Sy := hide ((HA'.out.below (HB1.out.mono hB)).sub _ (List.getElem_mem h2))
        have Lx := hide (Hs.out _ (List.getElem_mem h1))
        have Ly := hide (Hs'.out _ (List.getElem_mem h2))
        generalize l[k] = x at *
        generalize l'[k] = y at *
        obtain ⟨kx, nx, ax, Ax, cx, ex, tx, px, ox⟩ := x
        obtain ⟨ky, ny, ay, Ay, cy, ey, ty, py, oy⟩ := y
        dsimp only at Sx Sy Lx Ly
        have x0 : wr.cell? _ = some (.int .i8 kx) := hx.c0
        have x1 : wr.cell? _ = some (.string nx) := hx.c1
        have x2 : wr.cell? _ = some (.slice Ax ax.length cx) := hx.c2
        have x3 : wr.cell? _ = some (.bool ex) := hx.c3
        have x4 : wr.cell? _ = some (.string tx) := hx.c4
        have x5 : wr.cell? _ = some (.int .i64 px) := hx.c5
        have x6 : wr.cell? _ = some (.int .i64 ox) := hx.c6
        have xx0 : ∀ o, (wr.alloc o).cell? _ = some (.int .i8 kx) := fun o => cell_go (below_alloc _ _) hx.c0
        have xx1 : ∀ o, (wr.alloc o).cell? _ = some (.string nx) := fun o => cell_go (below_alloc _ _) hx.c1
        have xx2 : ∀ o, (wr.alloc o).cell? _ = some (.slice Ax ax.length cx) := fun o => cell_go (below_alloc _ _) hx.c2
        have xx3 : ∀ o, (wr.alloc o).cell? _ = some (.bool ex) := fun o => cell_go (below_alloc _ _) hx.c3
        have xx4 : ∀ o, (wr.alloc o).cell? _ = some (.string tx) := fun o => cell_go (below_alloc _ _) hx.c4
        have xx5 : ∀ o, (wr.alloc o).cell? _ = some (.int .i64 px) := fun o => cell_go (below_alloc _ _) hx.c5
        have xx6 : ∀ o, (wr.alloc o).cell? _ = some (.int .i64 ox) := fun o => cell_go (below_alloc _ _) hx.c6
        have xw0 : ∀ o o', ((wr.alloc o).alloc o').cell? _ = some (.int .i8 kx) := fun o o' => cell_go (below_alloc _ _) (xx0 o)
        have xw1 : ∀ o o', ((wr.alloc o).alloc o').cell? _ = some (.string nx) := fun o o' => cell_go (below_alloc _ _) (xx1 o)
        have xw2 : ∀ o o', ((wr.alloc o).alloc o').cell? _ = some (.slice Ax ax.length cx) := fun o o' => cell_go (below_alloc _ _) (xx2 o)
        have xw3 : ∀ o o', ((wr.alloc o).alloc o').cell? _ = some (.bool ex) := fun o o' => cell_go (below_alloc _ _) (xx3 o)
        have xw4 : ∀ o o', ((wr.alloc o).alloc o').cell? _ = some (.string tx) := fun o o' => cell_go (below_alloc _ _) (xx4 o)
        have xw5 : ∀ o o', ((wr.alloc o).alloc o').cell? _ = some (.int .i64 px) := fun o o' => cell_go (below_alloc _ _) (xx5 o)
        have xw6 : ∀ o o', ((wr.alloc o).alloc o').cell? _ = some (.int .i64 ox) := fun o o' => cell_go (below_alloc _ _) (xx6 o)
        have y0 : wr.cell? _ = some (.int .i8 ky) := hy.c0
        have y1 : wr.cell? _ = some (.string ny) := hy.c1
        have y2 : wr.cell? _ = some (.slice Ay ay.length cy) := hy.c2
        have y3 : wr.cell? _ = some (.bool ey) := hy.c3
        have y4 : wr.cell? _ = some (.string ty) := hy.c4
        have y5 : wr.cell? _ = some (.int .i64 py) := hy.c5
        have y6 : wr.cell? _ = some (.int .i64 oy) := hy.c6
        have yy0 : ∀ o, (wr.alloc o).cell? _ = some (.int .i8 ky) := fun o => cell_go (below_alloc _ _) hy.c0
        have yy1 : ∀ o, (wr.alloc o).cell? _ = some (.string ny) := fun o => cell_go (below_alloc _ _) hy.c1
        have yy2 : ∀ o, (wr.alloc o).cell? _ = some (.slice Ay ay.length cy) := fun o => cell_go (below_alloc _ _) hy.c2
        have yy3 : ∀ o, (wr.alloc o).cell? _ = some (.bool ey) := fun o => cell_go (below_alloc _ _) hy.c3
        have yy4 : ∀ o, (wr.alloc o).cell? _ = some (.string ty) := fun o => cell_go (below_alloc _ _) hy.c4
        have yy5 : ∀ o, (wr.alloc o).cell? _ = some (.int .i64 py) := fun o => cell_go (below_alloc _ _) hy.c5
        have yy6 : ∀ o, (wr.alloc o).cell? _ = some (.int .i64 oy) := fun o => cell_go (below_alloc _ _) hy.c6
        have yw0 : ∀ o o', ((wr.alloc o).alloc o').cell? _ = some (.int .i8 ky) := fun o o' => cell_go (below_alloc _ _) (yy0 o)
        have yw1 : ∀ o o', ((wr.alloc o).alloc o').cell? _ = some (.string ny) := fun o o' => cell_go (below_alloc _ _) (yy1 o)
        have yw2 : ∀ o o', ((wr.alloc o).alloc o').cell? _ = some (.slice Ay ay.length cy) := fun o o' => cell_go (below_alloc _ _) (yy2 o)
        have yw3 : ∀ o o', ((wr.alloc o).alloc o').cell? _ = some (.bool ey) := fun o o' => cell_go (below_alloc _ _) (yy3 o)
        have yw4 : ∀ o o', ((wr.alloc o).alloc o').cell? _ = some (.string ty) := fun o o' => cell_go (below_alloc _ _) (yy4 o)
        have yw5 : ∀ o o', ((wr.alloc o).alloc o').cell? _ = some (.int .i64 py) := fun o o' => cell_go (below_alloc _ _) (yy5 o)
        have yw6 : ∀ o o', ((wr.alloc o).alloc o').cell? _ = some (.int .i64 oy) := fun o o' => cell_go (below_alloc _ _) (yy6 o)
        clear hx hy
        go_upto_region 6 with fail
        go_cut [6, 7] from 14 to 97 (fun v6 v7 wx => ∃ V6 V7, v6 = .pointer (some ⟨V6, 0, none⟩) ∧ v7 = .pointer (some ⟨V7, 0, none⟩) ∧ Blk wx V6 29 #[.int .i8 kx, .string nx, .slice Ax ax.length cx, .bool ex, .string tx, .int .i64 px, .int .i64 ox] ∧ Blk wx V7 29 #[.int .i8 ky, .string ny, .slice Ay ay.length cy, .bool ey, .string ty, .int .i64 py, .int .i64 oy] ∧ Below w.heap.size w wx ∧ Below wr.heap.size wr wx)
        case first =>
          have B1 := ((Below.refl wr.heap.size wr).alloc (Nat.le_refl _) (.cells #[.int .i8 kx, .string nx, .slice Ax ax.length cx, .bool ex, .string tx, .int .i64 px, .int .i64 ox] 29)).alloc (by simp) (.cells #[.int .i8 ky, .string ny, .slice Ay ay.length cy, .bool ey, .string ty, .int .i64 py, .int .i64 oy] 29)
          have B2 := ((Below.refl wr.heap.size wr).alloc (Nat.le_refl _) (.cells #[.int .i8 ky, .string ny, .slice Ay ay.length cy, .bool ey, .string ty, .int .i64 py, .int .i64 oy] 29)).alloc (by simp) (.cells #[.int .i8 kx, .string nx, .slice Ax ax.length cx, .bool ex, .string tx, .int .i64 px, .int .i64 ox] 29)
          have U1 := (Blk.new wr 29 #[.int .i8 kx, .string nx, .slice Ax ax.length cx, .bool ex, .string tx, .int .i64 px, .int .i64 ox]).alloc (.cells #[.int .i8 ky, .string ny, .slice Ay ay.length cy, .bool ey, .string ty, .int .i64 py, .int .i64 oy] 29)
          have U2 := Blk.new (wr.alloc (.cells #[.int .i8 kx, .string nx, .slice Ax ax.length cx, .bool ex, .string tx, .int .i64 px, .int .i64 ox] 29)) 29 #[.int .i8 ky, .string ny, .slice Ay ay.length cy, .bool ey, .string ty, .int .i64 py, .int .i64 oy]
          have U3 := (Blk.new wr 29 #[.int .i8 ky, .string ny, .slice Ay ay.length cy, .bool ey, .string ty, .int .i64 py, .int .i64 oy]).alloc (.cells #[.int .i8 kx, .string nx, .slice Ax ax.length cx, .bool ex, .string tx, .int .i64 px, .int .i64 ox] 29)
          have U4 := Blk.new (wr.alloc (.cells #[.int .i8 ky, .string ny, .slice Ay ay.length cy, .bool ey, .string ty, .int .i64 py, .int .i64 oy] 29)) 29 #[.int .i8 kx, .string nx, .slice Ax ax.length cx, .bool ex, .string tx, .int .i64 px, .int .i64 ox]
          rw [World.size_alloc] at U2 U4
          have C1 := hide (And.intro U1 (And.intro U2 (And.intro (HB1.out.trans (B1.mono HB1.out.size)) B1)))
          have C2 := hide (And.intro U4 (And.intro U3 (And.intro (HB1.out.trans (B2.mono HB1.out.size)) B2)))
          clear B1 B2 U1 U2 U3 U4
          go_region
          all_goals
            (try simp only [Exit.then])
            rename_i hJ hM
            refine hM _ _ (Met.intro ?_)
            refine hJ _ _ ?_
            (repeat apply Exists.intro)
            refine ⟨?_, rfl⟩
            first
            | exact ⟨_, _, rfl, rfl, C1.out.1, C1.out.2.1, below_drewN C1.out.2.2.1 1, below_drewN C1.out.2.2.2 1⟩
            | exact ⟨_, _, rfl, rfl, C2.out.1, C2.out.2.1, below_drewN C2.out.2.2.1 1, below_drewN C2.out.2.2.2 1⟩
        case rest =>
          obtain ⟨V6, V7, rfl, rfl, k6, k7, hb2, hb3⟩ := hcut
          have HB2 := hide hb2
          have Rx := hide (Sx.out.below (hb3.mono (by have := HB1.out.size; omega)))
          have Ry := hide (Sy.out.below (hb3.mono (by have := HB1.out.size; omega)))
          have p0 := k6.cell 0
          have q0 := k7.cell 0
          have p1 := k6.cell 1
          have q1 := k7.cell 1
          have p2 := k6.cell 2
          have q2 := k7.cell 2
          have p3 := k6.cell 3
          have q3 := k7.cell 3
          have p4 := k6.cell 4
          have q4 := k7.cell 4
          have p5 := k6.cell 5
          have q5 := k7.cell 5
          have p6 := k6.cell 6
          have q6 := k7.cell 6
          clear k6 k7 hb2 hb3 Sx Sy x0 x1 x2 x3 x4 x5 x6 y0 y1 y2 y3 y4 y5 y6 xx0 xx1 xx2 xx3 xx4 xx5 xx6 yy0 yy1 yy2 yy3 yy4 yy5 yy6 xw0 xw1 xw2 xw3 xw4 xw5 xw6 yw0 yw1 yw2 yw3 yw4 yw5 yw6
          by_cases h0 : kx = ky
          · have t0 : (kx != ky) = false := by rw [h0]; simp
            by_cases h1' : nx = ny
            · have t1 : (nx.toList == ny.toList) = true := neq_str_dec _ _ h1'
              by_cases h2' : ex = ey
              · have t2 : (ex == ey) = true := by rw [h2']; simp
                by_cases h3' : tx = ty
                · have t3 : (tx.toList == ty.toList) = true := neq_str_dec _ _ h3'
                  by_cases h4' : ax.length = ay.length
                  · have t4 : ((ax.length : Int) != (ay.length : Int)) = false := by rw [h4']; simp
                    obtain ⟨na, hna⟩ : ∃ na, ax.length = na := ⟨_, rfl⟩
                    have hna' : ay.length = na := by rw [← h4', hna]
                    have Hna := hide hna
                    have Hna' := hide hna'
                    have hla : na ≤ 1000000000 := by rw [← hna]; exact Lx.out
                    rw [hna] at p2 t4
                    rw [hna'] at q2 t4
                    obtain ⟨mx, hmx⟩ : ∃ m, ax.map Ga.bare = m := ⟨_, rfl⟩
                    obtain ⟨my, hmy⟩ : ∃ m, ay.map Ga.bare = m := ⟨_, rfl⟩
                    have Hmx := hide hmx
                    have Hmy := hide hmy
                    have Hlx := hide (show mx.length = na by rw [← hmx, List.length_map, hna])
                    have Hly := hide (show my.length = na by rw [← hmy, List.length_map, hna'])
                    have Hbx := hide (show (Gt.mk kx nx ax Ax cx ex tx px ox).bare = ⟨kx, nx, mx, ex, tx⟩ by rw [← hmx]; rfl)
                    have Hby := hide (show (Gt.mk ky ny ay Ay cy ey ty py oy).bare = ⟨kx, nx, my, ex, tx⟩ by rw [h0, h1', h2', h3', ← hmy]; rfl)
                    clear hna hna' hmx hmy h4' h0 h1' h2' h3'
                    go_wp2
                    go_loopg [8] na (fun g vi wr2 => ∃ j m : Nat, g = na - j ∧ j ≤ na ∧ vi = .int .i64 j ∧ mx.take j = my.take j ∧ wr2 = wc.drewN m)
                    case atStart => exact ⟨0, 0, rfl, Nat.zero_le _, rfl, by simp, rfl⟩
                    case round =>
                      obtain ⟨j, m, hgj, hj, rfl, htj, rfl⟩ := hrel
                      have Hgj := hide hgj
                      have Htj := hide htj
                      clear hgj htj
                      by_cases hltj : j < na
                      · have g1 : j < ax.length := by rw [Hna.out]; exact hltj
                        have g2 : j < ay.length := by rw [Hna'.out]; exact hltj
                        obtain ⟨d, od, rfl, hd, hx⟩ := Rx.out.ga g1
                        obtain ⟨d', od', rfl, hd', hy⟩ := Ry.out.ga g2
                        have Fx := hide (show mx[j]'(by rw [Hlx.out]; exact hltj) = (ax[j]).bare by simp only [← Hmx.out, List.getElem_map])
                        have Fy := hide (show my[j]'(by rw [Hly.out]; exact hltj) = (ay[j]).bare by simp only [← Hmy.out, List.getElem_map])
                        generalize ax[j] = x at *
                        generalize ay[j] = y at *
                        have x0 := hx.c0
                        have x1 := hx.c1
                        have y0 := hy.c0
                        have y1 := hy.c1
                        clear hx hy
                        by_cases hn1 : x.name = y.name
                        · have e1 := neq_str_dec _ _ hn1
                          by_cases hn2 : x.value = y.value
                          · have e2 := neq_str_dec _ _ hn2
                            have Hxy := hide (show x.bare = y.bare by unfold Ga.bare; rw [hn1, hn2])
                            clear hn1 hn2
                            go_wp2_with fail
                            refine wp_region_held_drew (S := fun W => W = (wc.drewN m).drew) (by kernel_rfl) ?_ (fun hHeld => ?_)
                            · (try dsimp only)
                              first | done | rfl | exact hHeld
                            change wpAnyH _ _ _ _ _ 28 #[false, false, false, false, false, false, false, false, false, false, false, false, false, false, false, false, false, false, false, false, false, false, false, false, false, false, false, false] _ _
                            refine held_take (i := 0) (d := 70) (v := ?_) rfl rfl (by kernel_rfl) (by kernel_rfl) (by kernel_rfl) (fun _ _ _ h => h) (by kernel_rfl) hHeld ?_ ?_
                            rotate_left
                            · intro w hSw
                              (try dsimp only at hSw)
                              go_simp
                              first | done | with_reducible rfl
                            (try simp only [Act.put, List.setIfInBounds_toArray, List.set_cons_zero, List.set_cons_succ])
                            refine held_take (i := 1) (d := 71) (v := ?_) rfl rfl (by kernel_rfl) (by kernel_rfl) (by kernel_rfl) (fun _ _ _ h => h) (by kernel_rfl) hHeld ?_ ?_
                            rotate_left
                            · intro w hSw
                              (try dsimp only at hSw)
                              subst hSw
                              go_simp
                              first | done | with_reducible rfl
                            (try simp only [Act.put, List.setIfInBounds_toArray, List.set_cons_zero, List.set_cons_succ])
                            refine held_take (i := 2) (d := 72) (v := ?_) rfl rfl (by kernel_rfl) (by kernel_rfl) (by kernel_rfl) (fun _ _ _ h => h) (by kernel_rfl) hHeld ?_ ?_
                            rotate_left
                            · intro w hSw
                              (try dsimp only at hSw)
                              go_simp
                              first | done | with_reducible rfl
                            (try simp only [Act.put, List.setIfInBounds_toArray, List.set_cons_zero, List.set_cons_succ])
                            refine held_take (i := 3) (d := 73) (v := ?_) rfl rfl (by kernel_rfl) (by kernel_rfl) (by kernel_rfl) (fun _ _ _ h => h) (by kernel_rfl) hHeld ?_ ?_
                            rotate_left
                            · intro w hSw
                              (try dsimp only at hSw)
                              go_simp
                              first | done | with_reducible rfl
                            (try simp only [Act.put, List.setIfInBounds_toArray, List.set_cons_zero, List.set_cons_succ])
                            refine held_take (i := 4) (d := 74) (v := ?_) rfl rfl (by kernel_rfl) (by kernel_rfl) (by kernel_rfl) (fun _ _ _ h => h) (by kernel_rfl) hHeld ?_ ?_
                            rotate_left
                            · intro w hSw
                              (try dsimp only at hSw)
                              go_simp
                              first | done | with_reducible rfl
                            (try simp only [Act.put, List.setIfInBounds_toArray, List.set_cons_zero, List.set_cons_succ])
                            refine held_take (i := 5) (d := 75) (v := ?_) rfl rfl (by kernel_rfl) (by kernel_rfl) (by kernel_rfl) (fun _ _ _ h => h) (by kernel_rfl) hHeld ?_ ?_
                            rotate_left
                            · intro w hSw
                              (try dsimp only at hSw)
                              subst hSw
                              go_simp
                              first | done | with_reducible rfl
                            (try simp only [Act.put, List.setIfInBounds_toArray, List.set_cons_zero, List.set_cons_succ])
                            refine held_take (i := 6) (d := 76) (v := ?_) rfl rfl (by kernel_rfl) (by kernel_rfl) (by kernel_rfl) (fun _ _ _ h => h) (by kernel_rfl) hHeld ?_ ?_
                            rotate_left
                            · intro w hSw
                              (try dsimp only at hSw)
                              go_simp
                              first | done | with_reducible rfl
                            (try simp only [Act.put, List.setIfInBounds_toArray, List.set_cons_zero, List.set_cons_succ])
                            refine held_take (i := 7) (d := 77) (v := ?_) rfl rfl (by kernel_rfl) (by kernel_rfl) (by kernel_rfl) (fun _ _ _ h => h) (by kernel_rfl) hHeld ?_ ?_
                            rotate_left
                            · intro w hSw
                              (try dsimp only at hSw)
                              subst hSw
                              go_simp
                              first | done | with_reducible rfl
                            (try simp only [Act.put, List.setIfInBounds_toArray, List.set_cons_zero, List.set_cons_succ])
                            refine held_take (i := 8) (d := 78) (v := ?_) rfl rfl (by kernel_rfl) (by kernel_rfl) (by kernel_rfl) (fun _ _ _ h => h) (by kernel_rfl) hHeld ?_ ?_
                            rotate_left
                            · intro w hSw
                              (try dsimp only at hSw)
                              go_simp
                              first | done | with_reducible rfl
                            (try simp only [Act.put, List.setIfInBounds_toArray, List.set_cons_zero, List.set_cons_succ])
                            refine held_take (i := 9) (d := 79) (v := ?_) rfl rfl (by kernel_rfl) (by kernel_rfl) (by kernel_rfl) (fun _ _ _ h => h) (by kernel_rfl) hHeld ?_ ?_
                            rotate_left
                            · intro w hSw
                              (try dsimp only at hSw)
                              go_simp
                              first | done | with_reducible rfl
                            (try simp only [Act.put, List.setIfInBounds_toArray, List.set_cons_zero, List.set_cons_succ])
                            refine held_take (i := 10) (d := 80) (v := ?_) rfl rfl (by kernel_rfl) (by kernel_rfl) (by kernel_rfl) (fun _ _ _ h => h) (by kernel_rfl) hHeld ?_ ?_
                            rotate_left
                            · intro w hSw
                              (try dsimp only at hSw)
                              go_simp
                              first | done | with_reducible rfl
                            (try simp only [Act.put, List.setIfInBounds_toArray, List.set_cons_zero, List.set_cons_succ])
                            refine held_take (i := 11) (d := 81) (v := ?_) rfl rfl (by kernel_rfl) (by kernel_rfl) (by kernel_rfl) (fun _ _ _ h => h) (by kernel_rfl) hHeld ?_ ?_
                            rotate_left
                            · intro w hSw
                              (try dsimp only at hSw)
                              subst hSw
                              go_simp
                              first | done | with_reducible rfl
                            (try simp only [Act.put, List.setIfInBounds_toArray, List.set_cons_zero, List.set_cons_succ])
                            refine held_take (i := 12) (d := 82) (v := ?_) rfl rfl (by kernel_rfl) (by kernel_rfl) (by kernel_rfl) (fun _ _ _ h => h) (by kernel_rfl) hHeld ?_ ?_
                            rotate_left
                            · intro w hSw
                              (try dsimp only at hSw)
                              go_simp
                              first | done | with_reducible rfl
                            (try simp only [Act.put, List.setIfInBounds_toArray, List.set_cons_zero, List.set_cons_succ])
                            refine held_take (i := 13) (d := 83) (v := ?_) rfl rfl (by kernel_rfl) (by kernel_rfl) (by kernel_rfl) (fun _ _ _ h => h) (by kernel_rfl) hHeld ?_ ?_
                            rotate_left
                            · intro w hSw
                              (try dsimp only at hSw)
                              go_simp
                              first | done | with_reducible rfl
                            (try simp only [Act.put, List.setIfInBounds_toArray, List.set_cons_zero, List.set_cons_succ])
                            refine held_take (i := 14) (d := 84) (v := ?_) rfl rfl (by kernel_rfl) (by kernel_rfl) (by kernel_rfl) (fun _ _ _ h => h) (by kernel_rfl) hHeld ?_ ?_
                            rotate_left
                            · intro w hSw
                              (try dsimp only at hSw)
                              go_simp
                              first | done | with_reducible rfl
                            (try simp only [Act.put, List.setIfInBounds_toArray, List.set_cons_zero, List.set_cons_succ])
                            refine held_take (i := 15) (d := 85) (v := ?_) rfl rfl (by kernel_rfl) (by kernel_rfl) (by kernel_rfl) (fun _ _ _ h => h) (by kernel_rfl) hHeld ?_ ?_
                            rotate_left
                            · intro w hSw
                              (try dsimp only at hSw)
                              subst hSw
                              go_simp
                              first | done | with_reducible rfl
                            (try simp only [Act.put, List.setIfInBounds_toArray, List.set_cons_zero, List.set_cons_succ])
                            refine held_take (i := 16) (d := 86) (v := ?_) rfl rfl (by kernel_rfl) (by kernel_rfl) (by kernel_rfl) (fun _ _ _ h => h) (by kernel_rfl) hHeld ?_ ?_
                            rotate_left
                            · intro w hSw
                              (try dsimp only at hSw)
                              go_simp
                              first | done | with_reducible rfl
                            (try simp only [Act.put, List.setIfInBounds_toArray, List.set_cons_zero, List.set_cons_succ])
                            refine held_take (i := 17) (d := 87) (v := ?_) rfl rfl (by kernel_rfl) (by kernel_rfl) (by kernel_rfl) (fun _ _ _ h => h) (by kernel_rfl) hHeld ?_ ?_
                            rotate_left
                            · intro w hSw
                              (try dsimp only at hSw)
                              go_simp
                              first | done | with_reducible rfl
                            (try simp only [Act.put, List.setIfInBounds_toArray, List.set_cons_zero, List.set_cons_succ])
                            refine held_take (i := 18) (d := 88) (v := ?_) rfl rfl (by kernel_rfl) (by kernel_rfl) (by kernel_rfl) (fun _ _ _ h => h) (by kernel_rfl) hHeld ?_ ?_
                            rotate_left
                            · intro w hSw
                              (try dsimp only at hSw)
                              go_simp
                              first | done | with_reducible rfl
                            (try simp only [Act.put, List.setIfInBounds_toArray, List.set_cons_zero, List.set_cons_succ])
                            refine held_take (i := 19) (d := 89) (v := ?_) rfl rfl (by kernel_rfl) (by kernel_rfl) (by kernel_rfl) (fun _ _ _ h => h) (by kernel_rfl) hHeld ?_ ?_
                            rotate_left
                            · intro w hSw
                              (try dsimp only at hSw)
                              subst hSw
                              go_simp
                              first | done | with_reducible rfl
                            (try simp only [Act.put, List.setIfInBounds_toArray, List.set_cons_zero, List.set_cons_succ])
                            refine held_take (i := 20) (d := 90) (v := ?_) rfl rfl (by kernel_rfl) (by kernel_rfl) (by kernel_rfl) (fun _ _ _ h => h) (by kernel_rfl) hHeld ?_ ?_
                            rotate_left
                            · intro w hSw
                              (try dsimp only at hSw)
                              go_simp
                              first | done | with_reducible rfl
                            (try simp only [Act.put, List.setIfInBounds_toArray, List.set_cons_zero, List.set_cons_succ])
                            refine held_take (i := 21) (d := 91) (v := ?_) rfl rfl (by kernel_rfl) (by kernel_rfl) (by kernel_rfl) (fun _ _ _ h => h) (by kernel_rfl) hHeld ?_ ?_
                            rotate_left
                            · intro w hSw
                              (try dsimp only at hSw)
                              subst hSw
                              go_simp
                              first | done | with_reducible rfl
                            (try simp only [Act.put, List.setIfInBounds_toArray, List.set_cons_zero, List.set_cons_succ])
                            refine held_take (i := 22) (d := 92) (v := ?_) rfl rfl (by kernel_rfl) (by kernel_rfl) (by kernel_rfl) (fun _ _ _ h => h) (by kernel_rfl) hHeld ?_ ?_
                            rotate_left
                            · intro w hSw
                              (try dsimp only at hSw)
                              go_simp
                              first | done | with_reducible rfl
                            (try simp only [Act.put, List.setIfInBounds_toArray, List.set_cons_zero, List.set_cons_succ])
                            refine held_take (i := 23) (d := 93) (v := ?_) rfl rfl (by kernel_rfl) (by kernel_rfl) (by kernel_rfl) (fun _ _ _ h => h) (by kernel_rfl) hHeld ?_ ?_
                            rotate_left
                            · intro w hSw
                              (try dsimp only at hSw)
                              go_simp
                              first | done | with_reducible rfl
                            (try simp only [Act.put, List.setIfInBounds_toArray, List.set_cons_zero, List.set_cons_succ])
                            refine held_take (i := 24) (d := 94) (v := ?_) rfl rfl (by kernel_rfl) (by kernel_rfl) (by kernel_rfl) (fun _ _ _ h => h) (by kernel_rfl) hHeld ?_ ?_
                            rotate_left
                            · intro w hSw
                              (try dsimp only at hSw)
                              go_simp
                              first | done | with_reducible rfl
                            (try simp only [Act.put, List.setIfInBounds_toArray, List.set_cons_zero, List.set_cons_succ])
                            refine held_take (i := 25) (d := 95) (v := ?_) rfl rfl (by kernel_rfl) (by kernel_rfl) (by kernel_rfl) (fun _ _ _ h => h) (by kernel_rfl) hHeld ?_ ?_
                            rotate_left
                            · intro w hSw
                              (try dsimp only at hSw)
                              subst hSw
                              go_simp
                              first | done | with_reducible rfl
                            (try simp only [Act.put, List.setIfInBounds_toArray, List.set_cons_zero, List.set_cons_succ])
                            refine held_take (i := 26) (d := 96) (v := ?_) rfl rfl (by kernel_rfl) (by kernel_rfl) (by kernel_rfl) (fun _ _ _ h => h) (by kernel_rfl) hHeld ?_ ?_
                            rotate_left
                            · intro w hSw
                              (try dsimp only at hSw)
                              go_simp
                              first | done | with_reducible rfl
                            (try simp only [Act.put, List.setIfInBounds_toArray, List.set_cons_zero, List.set_cons_succ])
                            refine held_take (i := 27) (d := 97) (v := ?_) rfl rfl (by kernel_rfl) (by kernel_rfl) (by kernel_rfl) (fun _ _ _ h => h) (by kernel_rfl) hHeld ?_ ?_
                            rotate_left
                            · intro w hSw
                              (try dsimp only at hSw)
                              go_simp
                              first | done | with_reducible rfl
                            (try simp only [Act.put, List.setIfInBounds_toArray, List.set_cons_zero, List.set_cons_succ])
                            refine wpAnyH_done (by kernel_rfl) ?_ _
                            rw [hHeld]
                            go_wp2
                            go_roundg (na - (j + 1))
                            case measure => have := Hgj.out; omega
                            case rel => exact ⟨j + 1, m + 1, rfl, by omega, by go_num, eq_take (by rw [Hlx.out]; exact hltj) (by rw [Hly.out]; exact hltj) Htj.out (by rw [Fx.out, Fy.out, Hxy.out]), rfl⟩
                          · have e2 := neq_str_dec' _ _ hn2
                            have Hxy := hide (show x.bare ≠ y.bare from fun h => hn2 (congrArg Prod.snd h))
                            clear hn1 hn2
                            go_wp2_with fail
                            refine wp_region_held_drew (S := fun W => W = (wc.drewN m).drew) (by kernel_rfl) ?_ (fun hHeld => ?_)
                            · (try dsimp only)
                              first | done | rfl | exact hHeld
                            change wpAnyH _ _ _ _ _ 28 #[false, false, false, false, false, false, false, false, false, false, false, false, false, false, false, false, false, false, false, false, false, false, false, false, false, false, false, false] _ _
                            refine held_take (i := 0) (d := 70) (v := ?_) rfl rfl (by kernel_rfl) (by kernel_rfl) (by kernel_rfl) (fun _ _ _ h => h) (by kernel_rfl) hHeld ?_ ?_
                            rotate_left
                            · intro w hSw
                              (try dsimp only at hSw)
                              go_simp
                              first | done | with_reducible rfl
                            (try simp only [Act.put, List.setIfInBounds_toArray, List.set_cons_zero, List.set_cons_succ])
                            refine held_take (i := 1) (d := 71) (v := ?_) rfl rfl (by kernel_rfl) (by kernel_rfl) (by kernel_rfl) (fun _ _ _ h => h) (by kernel_rfl) hHeld ?_ ?_
                            rotate_left
                            · intro w hSw
                              (try dsimp only at hSw)
                              subst hSw
                              go_simp
                              first | done | with_reducible rfl
                            (try simp only [Act.put, List.setIfInBounds_toArray, List.set_cons_zero, List.set_cons_succ])
                            refine held_take (i := 2) (d := 72) (v := ?_) rfl rfl (by kernel_rfl) (by kernel_rfl) (by kernel_rfl) (fun _ _ _ h => h) (by kernel_rfl) hHeld ?_ ?_
                            rotate_left
                            · intro w hSw
                              (try dsimp only at hSw)
                              go_simp
                              first | done | with_reducible rfl
                            (try simp only [Act.put, List.setIfInBounds_toArray, List.set_cons_zero, List.set_cons_succ])
                            refine held_take (i := 3) (d := 73) (v := ?_) rfl rfl (by kernel_rfl) (by kernel_rfl) (by kernel_rfl) (fun _ _ _ h => h) (by kernel_rfl) hHeld ?_ ?_
                            rotate_left
                            · intro w hSw
                              (try dsimp only at hSw)
                              go_simp
                              first | done | with_reducible rfl
                            (try simp only [Act.put, List.setIfInBounds_toArray, List.set_cons_zero, List.set_cons_succ])
                            refine held_take (i := 4) (d := 74) (v := ?_) rfl rfl (by kernel_rfl) (by kernel_rfl) (by kernel_rfl) (fun _ _ _ h => h) (by kernel_rfl) hHeld ?_ ?_
                            rotate_left
                            · intro w hSw
                              (try dsimp only at hSw)
                              go_simp
                              first | done | with_reducible rfl
                            (try simp only [Act.put, List.setIfInBounds_toArray, List.set_cons_zero, List.set_cons_succ])
                            refine held_take (i := 5) (d := 75) (v := ?_) rfl rfl (by kernel_rfl) (by kernel_rfl) (by kernel_rfl) (fun _ _ _ h => h) (by kernel_rfl) hHeld ?_ ?_
                            rotate_left
                            · intro w hSw
                              (try dsimp only at hSw)
                              subst hSw
                              go_simp
                              first | done | with_reducible rfl
                            (try simp only [Act.put, List.setIfInBounds_toArray, List.set_cons_zero, List.set_cons_succ])
                            refine held_take (i := 6) (d := 76) (v := ?_) rfl rfl (by kernel_rfl) (by kernel_rfl) (by kernel_rfl) (fun _ _ _ h => h) (by kernel_rfl) hHeld ?_ ?_
                            rotate_left
                            · intro w hSw
                              (try dsimp only at hSw)
                              go_simp
                              first | done | with_reducible rfl
                            (try simp only [Act.put, List.setIfInBounds_toArray, List.set_cons_zero, List.set_cons_succ])
                            refine held_take (i := 7) (d := 77) (v := ?_) rfl rfl (by kernel_rfl) (by kernel_rfl) (by kernel_rfl) (fun _ _ _ h => h) (by kernel_rfl) hHeld ?_ ?_
                            rotate_left
                            · intro w hSw
                              (try dsimp only at hSw)
                              subst hSw
                              go_simp
                              first | done | with_reducible rfl
                            (try simp only [Act.put, List.setIfInBounds_toArray, List.set_cons_zero, List.set_cons_succ])
                            refine held_take (i := 8) (d := 78) (v := ?_) rfl rfl (by kernel_rfl) (by kernel_rfl) (by kernel_rfl) (fun _ _ _ h => h) (by kernel_rfl) hHeld ?_ ?_
                            rotate_left
                            · intro w hSw
                              (try dsimp only at hSw)
                              go_simp
                              first | done | with_reducible rfl
                            (try simp only [Act.put, List.setIfInBounds_toArray, List.set_cons_zero, List.set_cons_succ])
                            refine held_take (i := 9) (d := 79) (v := ?_) rfl rfl (by kernel_rfl) (by kernel_rfl) (by kernel_rfl) (fun _ _ _ h => h) (by kernel_rfl) hHeld ?_ ?_
                            rotate_left
                            · intro w hSw
                              (try dsimp only at hSw)
                              go_simp
                              first | done | with_reducible rfl
                            (try simp only [Act.put, List.setIfInBounds_toArray, List.set_cons_zero, List.set_cons_succ])
                            refine held_take (i := 10) (d := 80) (v := ?_) rfl rfl (by kernel_rfl) (by kernel_rfl) (by kernel_rfl) (fun _ _ _ h => h) (by kernel_rfl) hHeld ?_ ?_
                            rotate_left
                            · intro w hSw
                              (try dsimp only at hSw)
                              go_simp
                              first | done | with_reducible rfl
                            (try simp only [Act.put, List.setIfInBounds_toArray, List.set_cons_zero, List.set_cons_succ])
                            refine held_take (i := 11) (d := 81) (v := ?_) rfl rfl (by kernel_rfl) (by kernel_rfl) (by kernel_rfl) (fun _ _ _ h => h) (by kernel_rfl) hHeld ?_ ?_
                            rotate_left
                            · intro w hSw
                              (try dsimp only at hSw)
                              subst hSw
                              go_simp
                              first | done | with_reducible rfl
                            (try simp only [Act.put, List.setIfInBounds_toArray, List.set_cons_zero, List.set_cons_succ])
                            refine held_take (i := 12) (d := 82) (v := ?_) rfl rfl (by kernel_rfl) (by kernel_rfl) (by kernel_rfl) (fun _ _ _ h => h) (by kernel_rfl) hHeld ?_ ?_
                            rotate_left
                            · intro w hSw
                              (try dsimp only at hSw)
                              go_simp
                              first | done | with_reducible rfl
                            (try simp only [Act.put, List.setIfInBounds_toArray, List.set_cons_zero, List.set_cons_succ])
                            refine held_take (i := 13) (d := 83) (v := ?_) rfl rfl (by kernel_rfl) (by kernel_rfl) (by kernel_rfl) (fun _ _ _ h => h) (by kernel_rfl) hHeld ?_ ?_
                            rotate_left
                            · intro w hSw
                              (try dsimp only at hSw)
                              go_simp
                              first | done | with_reducible rfl
                            (try simp only [Act.put, List.setIfInBounds_toArray, List.set_cons_zero, List.set_cons_succ])
                            refine held_take (i := 14) (d := 84) (v := ?_) rfl rfl (by kernel_rfl) (by kernel_rfl) (by kernel_rfl) (fun _ _ _ h => h) (by kernel_rfl) hHeld ?_ ?_
                            rotate_left
                            · intro w hSw
                              (try dsimp only at hSw)
                              go_simp
                              first | done | with_reducible rfl
                            (try simp only [Act.put, List.setIfInBounds_toArray, List.set_cons_zero, List.set_cons_succ])
                            refine held_take (i := 15) (d := 85) (v := ?_) rfl rfl (by kernel_rfl) (by kernel_rfl) (by kernel_rfl) (fun _ _ _ h => h) (by kernel_rfl) hHeld ?_ ?_
                            rotate_left
                            · intro w hSw
                              (try dsimp only at hSw)
                              subst hSw
                              go_simp
                              first | done | with_reducible rfl
                            (try simp only [Act.put, List.setIfInBounds_toArray, List.set_cons_zero, List.set_cons_succ])
                            refine held_take (i := 16) (d := 86) (v := ?_) rfl rfl (by kernel_rfl) (by kernel_rfl) (by kernel_rfl) (fun _ _ _ h => h) (by kernel_rfl) hHeld ?_ ?_
                            rotate_left
                            · intro w hSw
                              (try dsimp only at hSw)
                              go_simp
                              first | done | with_reducible rfl
                            (try simp only [Act.put, List.setIfInBounds_toArray, List.set_cons_zero, List.set_cons_succ])
                            refine held_take (i := 17) (d := 87) (v := ?_) rfl rfl (by kernel_rfl) (by kernel_rfl) (by kernel_rfl) (fun _ _ _ h => h) (by kernel_rfl) hHeld ?_ ?_
                            rotate_left
                            · intro w hSw
                              (try dsimp only at hSw)
                              go_simp
                              first | done | with_reducible rfl
                            (try simp only [Act.put, List.setIfInBounds_toArray, List.set_cons_zero, List.set_cons_succ])
                            refine held_take (i := 18) (d := 88) (v := ?_) rfl rfl (by kernel_rfl) (by kernel_rfl) (by kernel_rfl) (fun _ _ _ h => h) (by kernel_rfl) hHeld ?_ ?_
                            rotate_left
                            · intro w hSw
                              (try dsimp only at hSw)
                              go_simp
                              first | done | with_reducible rfl
                            (try simp only [Act.put, List.setIfInBounds_toArray, List.set_cons_zero, List.set_cons_succ])
                            refine held_take (i := 19) (d := 89) (v := ?_) rfl rfl (by kernel_rfl) (by kernel_rfl) (by kernel_rfl) (fun _ _ _ h => h) (by kernel_rfl) hHeld ?_ ?_
                            rotate_left
                            · intro w hSw
                              (try dsimp only at hSw)
                              subst hSw
                              go_simp
                              first | done | with_reducible rfl
                            (try simp only [Act.put, List.setIfInBounds_toArray, List.set_cons_zero, List.set_cons_succ])
                            refine held_take (i := 20) (d := 90) (v := ?_) rfl rfl (by kernel_rfl) (by kernel_rfl) (by kernel_rfl) (fun _ _ _ h => h) (by kernel_rfl) hHeld ?_ ?_
                            rotate_left
                            · intro w hSw
                              (try dsimp only at hSw)
                              go_simp
                              first | done | with_reducible rfl
                            (try simp only [Act.put, List.setIfInBounds_toArray, List.set_cons_zero, List.set_cons_succ])
                            refine held_take (i := 21) (d := 91) (v := ?_) rfl rfl (by kernel_rfl) (by kernel_rfl) (by kernel_rfl) (fun _ _ _ h => h) (by kernel_rfl) hHeld ?_ ?_
                            rotate_left
                            · intro w hSw
                              (try dsimp only at hSw)
                              subst hSw
                              go_simp
                              first | done | with_reducible rfl
                            (try simp only [Act.put, List.setIfInBounds_toArray, List.set_cons_zero, List.set_cons_succ])
                            refine held_take (i := 22) (d := 92) (v := ?_) rfl rfl (by kernel_rfl) (by kernel_rfl) (by kernel_rfl) (fun _ _ _ h => h) (by kernel_rfl) hHeld ?_ ?_
                            rotate_left
                            · intro w hSw
                              (try dsimp only at hSw)
                              go_simp
                              first | done | with_reducible rfl
                            (try simp only [Act.put, List.setIfInBounds_toArray, List.set_cons_zero, List.set_cons_succ])
                            refine held_take (i := 23) (d := 93) (v := ?_) rfl rfl (by kernel_rfl) (by kernel_rfl) (by kernel_rfl) (fun _ _ _ h => h) (by kernel_rfl) hHeld ?_ ?_
                            rotate_left
                            · intro w hSw
                              (try dsimp only at hSw)
                              go_simp
                              first | done | with_reducible rfl
                            (try simp only [Act.put, List.setIfInBounds_toArray, List.set_cons_zero, List.set_cons_succ])
                            refine held_take (i := 24) (d := 94) (v := ?_) rfl rfl (by kernel_rfl) (by kernel_rfl) (by kernel_rfl) (fun _ _ _ h => h) (by kernel_rfl) hHeld ?_ ?_
                            rotate_left
                            · intro w hSw
                              (try dsimp only at hSw)
                              go_simp
                              first | done | with_reducible rfl
                            (try simp only [Act.put, List.setIfInBounds_toArray, List.set_cons_zero, List.set_cons_succ])
                            refine held_take (i := 25) (d := 95) (v := ?_) rfl rfl (by kernel_rfl) (by kernel_rfl) (by kernel_rfl) (fun _ _ _ h => h) (by kernel_rfl) hHeld ?_ ?_
                            rotate_left
                            · intro w hSw
                              (try dsimp only at hSw)
                              subst hSw
                              go_simp
                              first | done | with_reducible rfl
                            (try simp only [Act.put, List.setIfInBounds_toArray, List.set_cons_zero, List.set_cons_succ])
                            refine held_take (i := 26) (d := 96) (v := ?_) rfl rfl (by kernel_rfl) (by kernel_rfl) (by kernel_rfl) (fun _ _ _ h => h) (by kernel_rfl) hHeld ?_ ?_
                            rotate_left
                            · intro w hSw
                              (try dsimp only at hSw)
                              go_simp
                              first | done | with_reducible rfl
                            (try simp only [Act.put, List.setIfInBounds_toArray, List.set_cons_zero, List.set_cons_succ])
                            refine held_take (i := 27) (d := 97) (v := ?_) rfl rfl (by kernel_rfl) (by kernel_rfl) (by kernel_rfl) (fun _ _ _ h => h) (by kernel_rfl) hHeld ?_ ?_
                            rotate_left
                            · intro w hSw
                              (try dsimp only at hSw)
                              go_simp
                              first | done | with_reducible rfl
                            (try simp only [Act.put, List.setIfInBounds_toArray, List.set_cons_zero, List.set_cons_succ])
                            refine wpAnyH_done (by kernel_rfl) ?_ _
                            rw [hHeld]
                            go_wp2
                            go_ret
                            exact ⟨ret_eq1 (bool_eq (by rw [eq_comm, decide_eq_false_iff_not]; exact ne_at (by rw [Hlm.out]; exact hlt) (by rw [Hlm'.out]; exact hlt) (by rw [Ex.out, Ey.out, Hbx.out, Hby.out]; exact fun h => ne_at (by rw [Hlx.out]; exact hltj) (by rw [Hly.out]; exact hltj) (by rw [Fx.out, Fy.out]; exact Hxy.out) (congrArg Gb.as_ h)))), below_drewN HB2.out _⟩
                        · have e1 := neq_str_dec' _ _ hn1
                          have Hxy := hide (show x.bare ≠ y.bare from fun h => hn1 (congrArg Prod.fst h))
                          clear hn1
                          go_wp2_with fail
                          refine wp_region_held_drew (S := fun W => W = (wc.drewN m).drew) (by kernel_rfl) ?_ (fun hHeld => ?_)
                          · (try dsimp only)
                            first | done | rfl | exact hHeld
                          change wpAnyH _ _ _ _ _ 28 #[false, false, false, false, false, false, false, false, false, false, false, false, false, false, false, false, false, false, false, false, false, false, false, false, false, false, false, false] _ _
                          refine held_take (i := 0) (d := 70) (v := ?_) rfl rfl (by kernel_rfl) (by kernel_rfl) (by kernel_rfl) (fun _ _ _ h => h) (by kernel_rfl) hHeld ?_ ?_
                          rotate_left
                          · intro w hSw
                            (try dsimp only at hSw)
                            go_simp
                            first | done | with_reducible rfl
                          (try simp only [Act.put, List.setIfInBounds_toArray, List.set_cons_zero, List.set_cons_succ])
                          refine held_take (i := 1) (d := 71) (v := ?_) rfl rfl (by kernel_rfl) (by kernel_rfl) (by kernel_rfl) (fun _ _ _ h => h) (by kernel_rfl) hHeld ?_ ?_
                          rotate_left
                          · intro w hSw
                            (try dsimp only at hSw)
                            subst hSw
                            go_simp
                            first | done | with_reducible rfl
                          (try simp only [Act.put, List.setIfInBounds_toArray, List.set_cons_zero, List.set_cons_succ])
                          refine held_take (i := 2) (d := 72) (v := ?_) rfl rfl (by kernel_rfl) (by kernel_rfl) (by kernel_rfl) (fun _ _ _ h => h) (by kernel_rfl) hHeld ?_ ?_
                          rotate_left
                          · intro w hSw
                            (try dsimp only at hSw)
                            go_simp
                            first | done | with_reducible rfl
                          (try simp only [Act.put, List.setIfInBounds_toArray, List.set_cons_zero, List.set_cons_succ])
                          refine held_take (i := 3) (d := 73) (v := ?_) rfl rfl (by kernel_rfl) (by kernel_rfl) (by kernel_rfl) (fun _ _ _ h => h) (by kernel_rfl) hHeld ?_ ?_
                          rotate_left
                          · intro w hSw
                            (try dsimp only at hSw)
                            go_simp
                            first | done | with_reducible rfl
                          (try simp only [Act.put, List.setIfInBounds_toArray, List.set_cons_zero, List.set_cons_succ])
                          refine held_take (i := 4) (d := 74) (v := ?_) rfl rfl (by kernel_rfl) (by kernel_rfl) (by kernel_rfl) (fun _ _ _ h => h) (by kernel_rfl) hHeld ?_ ?_
                          rotate_left
                          · intro w hSw
                            (try dsimp only at hSw)
                            go_simp
                            first | done | with_reducible rfl
                          (try simp only [Act.put, List.setIfInBounds_toArray, List.set_cons_zero, List.set_cons_succ])
                          refine held_take (i := 5) (d := 75) (v := ?_) rfl rfl (by kernel_rfl) (by kernel_rfl) (by kernel_rfl) (fun _ _ _ h => h) (by kernel_rfl) hHeld ?_ ?_
                          rotate_left
                          · intro w hSw
                            (try dsimp only at hSw)
                            subst hSw
                            go_simp
                            first | done | with_reducible rfl
                          (try simp only [Act.put, List.setIfInBounds_toArray, List.set_cons_zero, List.set_cons_succ])
                          refine held_take (i := 6) (d := 76) (v := ?_) rfl rfl (by kernel_rfl) (by kernel_rfl) (by kernel_rfl) (fun _ _ _ h => h) (by kernel_rfl) hHeld ?_ ?_
                          rotate_left
                          · intro w hSw
                            (try dsimp only at hSw)
                            go_simp
                            first | done | with_reducible rfl
                          (try simp only [Act.put, List.setIfInBounds_toArray, List.set_cons_zero, List.set_cons_succ])
                          refine held_take (i := 7) (d := 77) (v := ?_) rfl rfl (by kernel_rfl) (by kernel_rfl) (by kernel_rfl) (fun _ _ _ h => h) (by kernel_rfl) hHeld ?_ ?_
                          rotate_left
                          · intro w hSw
                            (try dsimp only at hSw)
                            subst hSw
                            go_simp
                            first | done | with_reducible rfl
                          (try simp only [Act.put, List.setIfInBounds_toArray, List.set_cons_zero, List.set_cons_succ])
                          refine held_take (i := 8) (d := 78) (v := ?_) rfl rfl (by kernel_rfl) (by kernel_rfl) (by kernel_rfl) (fun _ _ _ h => h) (by kernel_rfl) hHeld ?_ ?_
                          rotate_left
                          · intro w hSw
                            (try dsimp only at hSw)
                            go_simp
                            first | done | with_reducible rfl
                          (try simp only [Act.put, List.setIfInBounds_toArray, List.set_cons_zero, List.set_cons_succ])
                          refine held_take (i := 9) (d := 79) (v := ?_) rfl rfl (by kernel_rfl) (by kernel_rfl) (by kernel_rfl) (fun _ _ _ h => h) (by kernel_rfl) hHeld ?_ ?_
                          rotate_left
                          · intro w hSw
                            (try dsimp only at hSw)
                            go_simp
                            first | done | with_reducible rfl
                          (try simp only [Act.put, List.setIfInBounds_toArray, List.set_cons_zero, List.set_cons_succ])
                          refine held_take (i := 10) (d := 80) (v := ?_) rfl rfl (by kernel_rfl) (by kernel_rfl) (by kernel_rfl) (fun _ _ _ h => h) (by kernel_rfl) hHeld ?_ ?_
                          rotate_left
                          · intro w hSw
                            (try dsimp only at hSw)
                            go_simp
                            first | done | with_reducible rfl
                          (try simp only [Act.put, List.setIfInBounds_toArray, List.set_cons_zero, List.set_cons_succ])
                          refine held_take (i := 11) (d := 81) (v := ?_) rfl rfl (by kernel_rfl) (by kernel_rfl) (by kernel_rfl) (fun _ _ _ h => h) (by kernel_rfl) hHeld ?_ ?_
                          rotate_left
                          · intro w hSw
                            (try dsimp only at hSw)
                            subst hSw
                            go_simp
                            first | done | with_reducible rfl
                          (try simp only [Act.put, List.setIfInBounds_toArray, List.set_cons_zero, List.set_cons_succ])
                          refine held_take (i := 12) (d := 82) (v := ?_) rfl rfl (by kernel_rfl) (by kernel_rfl) (by kernel_rfl) (fun _ _ _ h => h) (by kernel_rfl) hHeld ?_ ?_
                          rotate_left
                          · intro w hSw
                            (try dsimp only at hSw)
                            go_simp
                            first | done | with_reducible rfl
                          (try simp only [Act.put, List.setIfInBounds_toArray, List.set_cons_zero, List.set_cons_succ])
                          refine held_take (i := 13) (d := 83) (v := ?_) rfl rfl (by kernel_rfl) (by kernel_rfl) (by kernel_rfl) (fun _ _ _ h => h) (by kernel_rfl) hHeld ?_ ?_
                          rotate_left
                          · intro w hSw
                            (try dsimp only at hSw)
                            go_simp
                            first | done | with_reducible rfl
                          (try simp only [Act.put, List.setIfInBounds_toArray, List.set_cons_zero, List.set_cons_succ])
                          refine held_skip (i := 14) (d := 84) rfl rfl (by kernel_rfl) (by kernel_rfl) (by kernel_rfl) (fun _ _ _ h => h) (by kernel_rfl) hHeld ?_
                          (try simp only [Act.put, List.setIfInBounds_toArray, List.set_cons_zero, List.set_cons_succ])
                          refine held_skip (i := 15) (d := 85) rfl rfl (by kernel_rfl) (by kernel_rfl) (by kernel_rfl) (fun _ _ _ h => h) (by kernel_rfl) hHeld ?_
                          (try simp only [Act.put, List.setIfInBounds_toArray, List.set_cons_zero, List.set_cons_succ])
                          refine held_skip (i := 16) (d := 86) rfl rfl (by kernel_rfl) (by kernel_rfl) (by kernel_rfl) (fun _ _ _ h => h) (by kernel_rfl) hHeld ?_
                          (try simp only [Act.put, List.setIfInBounds_toArray, List.set_cons_zero, List.set_cons_succ])
                          refine held_skip (i := 17) (d := 87) rfl rfl (by kernel_rfl) (by kernel_rfl) (by kernel_rfl) (fun _ _ _ h => h) (by kernel_rfl) hHeld ?_
                          (try simp only [Act.put, List.setIfInBounds_toArray, List.set_cons_zero, List.set_cons_succ])
                          refine held_skip (i := 18) (d := 88) rfl rfl (by kernel_rfl) (by kernel_rfl) (by kernel_rfl) (fun _ _ _ h => h) (by kernel_rfl) hHeld ?_
                          (try simp only [Act.put, List.setIfInBounds_toArray, List.set_cons_zero, List.set_cons_succ])
                          refine held_skip (i := 19) (d := 89) rfl rfl (by kernel_rfl) (by kernel_rfl) (by kernel_rfl) (fun _ _ _ h => h) (by kernel_rfl) hHeld ?_
                          (try simp only [Act.put, List.setIfInBounds_toArray, List.set_cons_zero, List.set_cons_succ])
                          refine held_skip (i := 20) (d := 90) rfl rfl (by kernel_rfl) (by kernel_rfl) (by kernel_rfl) (fun _ _ _ h => h) (by kernel_rfl) hHeld ?_
                          (try simp only [Act.put, List.setIfInBounds_toArray, List.set_cons_zero, List.set_cons_succ])
                          refine held_skip (i := 21) (d := 91) rfl rfl (by kernel_rfl) (by kernel_rfl) (by kernel_rfl) (fun _ _ _ h => h) (by kernel_rfl) hHeld ?_
                          (try simp only [Act.put, List.setIfInBounds_toArray, List.set_cons_zero, List.set_cons_succ])
                          refine held_skip (i := 22) (d := 92) rfl rfl (by kernel_rfl) (by kernel_rfl) (by kernel_rfl) (fun _ _ _ h => h) (by kernel_rfl) hHeld ?_
                          (try simp only [Act.put, List.setIfInBounds_toArray, List.set_cons_zero, List.set_cons_succ])
                          refine held_skip (i := 23) (d := 93) rfl rfl (by kernel_rfl) (by kernel_rfl) (by kernel_rfl) (fun _ _ _ h => h) (by kernel_rfl) hHeld ?_
                          (try simp only [Act.put, List.setIfInBounds_toArray, List.set_cons_zero, List.set_cons_succ])
                          refine held_skip (i := 24) (d := 94) rfl rfl (by kernel_rfl) (by kernel_rfl) (by kernel_rfl) (fun _ _ _ h => h) (by kernel_rfl) hHeld ?_
                          (try simp only [Act.put, List.setIfInBounds_toArray, List.set_cons_zero, List.set_cons_succ])
                          refine held_skip (i := 25) (d := 95) rfl rfl (by kernel_rfl) (by kernel_rfl) (by kernel_rfl) (fun _ _ _ h => h) (by kernel_rfl) hHeld ?_
                          (try simp only [Act.put, List.setIfInBounds_toArray, List.set_cons_zero, List.set_cons_succ])
                          refine held_skip (i := 26) (d := 96) rfl rfl (by kernel_rfl) (by kernel_rfl) (by kernel_rfl) (fun _ _ _ h => h) (by kernel_rfl) hHeld ?_
                          (try simp only [Act.put, List.setIfInBounds_toArray, List.set_cons_zero, List.set_cons_succ])
                          refine held_take (i := 27) (d := 97) (v := ?_) rfl rfl (by kernel_rfl) (by kernel_rfl) (by kernel_rfl) (fun _ _ _ h => h) (by kernel_rfl) hHeld ?_ ?_
                          rotate_left
                          · intro w hSw
                            (try dsimp only at hSw)
                            go_simp
                            first | done | with_reducible rfl
                          (try simp only [Act.put, List.setIfInBounds_toArray, List.set_cons_zero, List.set_cons_succ])
                          refine wpAnyH_done (by kernel_rfl) ?_ _
                          rw [hHeld]
                          go_wp2
                          go_ret
                          exact ⟨ret_eq1 (bool_eq (by rw [eq_comm, decide_eq_false_iff_not]; exact ne_at (by rw [Hlm.out]; exact hlt) (by rw [Hlm'.out]; exact hlt) (by rw [Ex.out, Ey.out, Hbx.out, Hby.out]; exact fun h => ne_at (by rw [Hlx.out]; exact hltj) (by rw [Hly.out]; exact hltj) (by rw [Fx.out, Fy.out]; exact Hxy.out) (congrArg Gb.as_ h)))), below_drewN HB2.out _⟩
                      · have hjn : j = na := by omega
                        subst hjn
                        have Hxy := hide (show mx = my by have := Htj.out; rwa [List.take_of_length_le (by rw [Hlx.out]; exact Nat.le_refl _), List.take_of_length_le (by rw [Hly.out]; exact Nat.le_refl _)] at this)
                        go_wp2
                        go_roundg (n - (k + 1))
                        case measure => have := Hg.out; omega
                        case rel => exact ⟨k + 1, rfl, by omega, by go_num, eq_take (by rw [Hlm.out]; exact hlt) (by rw [Hlm'.out]; exact hlt) Htk.out (by rw [Ex.out, Ey.out, Hbx.out, Hby.out, Hxy.out]), below_drewN HB2.out _⟩
                  · have t4 : ((ax.length : Int) != (ay.length : Int)) = true := by simp; omega
                    have Hxy := hide (show Gt.bare ⟨kx, nx, ax, Ax, cx, ex, tx, px, ox⟩ ≠ Gt.bare ⟨ky, ny, ay, Ay, cy, ey, ty, py, oy⟩ from fun h => h4' (by have := congrArg (fun g => g.as_.length) h; simpa [Gt.bare] using this))
                    have Lx' := Lx.out
                    have Ly' := Ly.out
                    clear h4' h0 h1' h2' h3'
                    go_wp2
                    go_ret
                    exact ⟨ret_eq1 (bool_eq (by rw [eq_comm, decide_eq_false_iff_not]; exact ne_at (by rw [Hlm.out]; exact hlt) (by rw [Hlm'.out]; exact hlt) (by rw [Ex.out, Ey.out]; exact Hxy.out))), HB2.out⟩
                · have t3 : (tx.toList == ty.toList) = false := neq_str_dec' _ _ h3'
                  have Hxy := hide (show Gt.bare ⟨kx, nx, ax, Ax, cx, ex, tx, px, ox⟩ ≠ Gt.bare ⟨ky, ny, ay, Ay, cy, ey, ty, py, oy⟩ from fun h => h3' (congrArg Gb.text h))
                  clear h3' h0 h1' h2'
                  go_wp2
                  go_ret
                  exact ⟨ret_eq1 (bool_eq (by rw [eq_comm, decide_eq_false_iff_not]; exact ne_at (by rw [Hlm.out]; exact hlt) (by rw [Hlm'.out]; exact hlt) (by rw [Ex.out, Ey.out]; exact Hxy.out))), HB2.out⟩
              · have t2 : (ex == ey) = false := by simpa using h2'
                have Hxy := hide (show Gt.bare ⟨kx, nx, ax, Ax, cx, ex, tx, px, ox⟩ ≠ Gt.bare ⟨ky, ny, ay, Ay, cy, ey, ty, py, oy⟩ from fun h => h2' (congrArg Gb.empty h))
                clear h2' h0 h1'
                go_wp2
                go_ret
                exact ⟨ret_eq1 (bool_eq (by rw [eq_comm, decide_eq_false_iff_not]; exact ne_at (by rw [Hlm.out]; exact hlt) (by rw [Hlm'.out]; exact hlt) (by rw [Ex.out, Ey.out]; exact Hxy.out))), HB2.out⟩
            · have t1 : (nx.toList == ny.toList) = false := neq_str_dec' _ _ h1'
              have Hxy := hide (show Gt.bare ⟨kx, nx, ax, Ax, cx, ex, tx, px, ox⟩ ≠ Gt.bare ⟨ky, ny, ay, Ay, cy, ey, ty, py, oy⟩ from fun h => h1' (congrArg Gb.name h))
              clear h1' h0
              go_wp2
              go_ret
              exact ⟨ret_eq1 (bool_eq (by rw [eq_comm, decide_eq_false_iff_not]; exact ne_at (by rw [Hlm.out]; exact hlt) (by rw [Hlm'.out]; exact hlt) (by rw [Ex.out, Ey.out]; exact Hxy.out))), HB2.out⟩
          · have t0 : (kx != ky) = true := by simpa using h0
            have Hxy := hide (show Gt.bare ⟨kx, nx, ax, Ax, cx, ex, tx, px, ox⟩ ≠ Gt.bare ⟨ky, ny, ay, Ay, cy, ey, ty, py, oy⟩ from fun h => h0 (congrArg Gb.kind h))
            clear h0
            go_wp2
            go_ret
            exact ⟨ret_eq1 (bool_eq (by rw [eq_comm, decide_eq_false_iff_not]; exact ne_at (by rw [Hlm.out]; exact hlt) (by rw [Hlm'.out]; exact hlt) (by rw [Ex.out, Ey.out]; exact Hxy.out))), HB2.out⟩
      · go_wp2
        go_ret
        exact ⟨ret_eq1 (bool_eq (by rw [eq_comm, decide_eq_true_eq]; have := Htk.out; rwa [List.take_of_length_le (by rw [Hlm.out]; omega), List.take_of_length_le (by rw [Hlm'.out]; omega)] at this)), HB1.out⟩
  · have ht : ((n : Int) != (n' : Int)) = true := by simp; omega
    have Hne := hide hne
    clear hne
    go_enter Tryz.func32, Tryz.ntmps32
    go_wp2
    go_ret
    exact ⟨ret_eq1 (bool_eq (by rw [eq_comm, decide_eq_false_iff_not]; rintro rfl; exact Hne.out (Hlm.out.symm.trans Hlm'.out))), Below.refl _ _⟩
end Go.Proofs.YtbnaphbmmkmaeaaGreatDoor
