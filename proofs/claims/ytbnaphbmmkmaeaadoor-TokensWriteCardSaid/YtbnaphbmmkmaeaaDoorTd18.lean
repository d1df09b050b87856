/- Tokens in memory, wherever they lie: whether two rows are the same. -/
import Derived.Test.YtbnaphbmmkmaeaaDoorTd17
set_option linter.unusedSimpArgs false
set_option linter.unusedVariables false
namespace Go.Proofs.YtbnaphbmmkmaeaaDoor
open Go.RowKit Tk

set_option maxHeartbeats 4000000 in
theorem same_any (A A' : Option Addr) (c c' B : Nat) (l l' : List Gt) (w : World) (hA : TkL w B A l) (hA' : TkL w B A' l') (hB : B ≤ w.heap.size) (hl : l.length ≤ 1000000000) (hl' : l'.length ≤ 1000000000) (hs : ∀ x ∈ l, x.as_.length ≤ 1000000000) (hs' : ∀ x ∈ l', x.as_.length ≤ 1000000000) :
    Calls Tryd.prog 10 #[.slice A l.length c, .slice A' l'.length c'] w fun e w' => e = .returned (.bool (decide (l.map Gt.bare = l'.map Gt.bare))) ∧ Below w.heap.size w w' := by
  obtain ⟨n, hn⟩ : ∃ n, l.length = n := ⟨_, rfl⟩
  obtain ⟨n', hn'⟩ : ∃ n, l'.length = n := ⟨_, rfl⟩
  have HA := hide hA
  have HA' := hide hA'
  rw [hn] at hl ⊢
  rw [hn'] at hl' ⊢
  have Hn := hide hn
  have Hn' := hide hn'
  have Hs := hide hs
  have Hs' := hide hs'
  clear hn hn' hA hA' hs hs'
  obtain ⟨ml, hml⟩ : ∃ m, l.map Gt.bare = m := ⟨_, rfl⟩
  obtain ⟨ml', hml'⟩ : ∃ m, l'.map Gt.bare = m := ⟨_, rfl⟩
  have Hml := hide hml
  have Hml' := hide hml'
  rw [hml, hml']
  clear hml hml'
  have Hlm := hide (show ml.length = n by rw [← Hml.out, List.length_map, Hn.out])
  have Hlm' := hide (show ml'.length = n' by rw [← Hml'.out, List.length_map, Hn'.out])
  by_cases hne : n = n'
  · subst hne
    have ht : ((n : Int) != (n : Int)) = false := by simp
    go_enter Tryd.func10, Tryd.ntmps10
    go_wp2
    go_loopg [15] n (fun g vi wr => ∃ k : Nat, g = n - k ∧ k ≤ n ∧ vi = .int .i64 k ∧ ml.take k = ml'.take k ∧ Below w.heap.size w wr)
    case atStart => exact ⟨0, rfl, Nat.zero_le _, rfl, by simp, Below.refl _ _⟩
    case round =>
      obtain ⟨k, hg, hk, rfl, htk, hB1⟩ := hrel
      have Hg := hide hg
      have Htk := hide htk
      have HB1 := hide hB1
      clear hg htk hB1
      by_cases hlt : k < n
      · have h1 : k < l.length := by rw [Hn.out]; exact hlt
        have h2 : k < l'.length := by rw [Hn'.out]; exact hlt
        obtain ⟨b, off, rfl, hb, hx⟩ := (HA.out.below (HB1.out.mono hB)).row.gt h1
        obtain ⟨b', off', rfl, hb', hy⟩ := (HA'.out.below (HB1.out.mono hB)).row.gt h2
        have Ex := hide (show ml[k]'(by rw [Hlm.out]; exact hlt) = (l[k]).bare by simp only [← Hml.out, List.getElem_map])
        have Ey := hide (show ml'[k]'(by rw [Hlm'.out]; exact hlt) = (l'[k]).bare by simp only [← Hml'.out, List.getElem_map])
        have HSa := hide (fun W (hW : Below w.heap.size w W) => sameAttrs_any l[k].A l'[k].A l[k].c l'[k].c B l[k].as_ l'[k].as_ W ((HA.out.below (hW.mono hB)).sub _ (List.getElem_mem h1)) ((HA'.out.below (hW.mono hB)).sub _ (List.getElem_mem h2)) (Hs.out _ (List.getElem_mem h1)) (Hs'.out _ (List.getElem_mem h2)))
        generalize l[k] = x at *
        generalize l'[k] = y at *
        have x0 := hx.c0
        have x1 := hx.c1
        have x2 := hx.c2
        have x3 := hx.c3
        have x4 := hx.c4
        have x5 := hx.c5
        have x6 := hx.c6
        have y0 : ∀ o, (wr.alloc o).cell? _ = _ := fun o => cell_go (below_alloc _ _) hy.c0
        have y1 : ∀ o, (wr.alloc o).cell? _ = _ := fun o => cell_go (below_alloc _ _) hy.c1
        have y2 : ∀ o, (wr.alloc o).cell? _ = _ := fun o => cell_go (below_alloc _ _) hy.c2
        have y3 : ∀ o, (wr.alloc o).cell? _ = _ := fun o => cell_go (below_alloc _ _) hy.c3
        have y4 : ∀ o, (wr.alloc o).cell? _ = _ := fun o => cell_go (below_alloc _ _) hy.c4
        have y5 : ∀ o, (wr.alloc o).cell? _ = _ := fun o => cell_go (below_alloc _ _) hy.c5
        have y6 : ∀ o, (wr.alloc o).cell? _ = _ := fun o => cell_go (below_alloc _ _) hy.c6
        clear hx hy
        have V1 := (Blk.new wr 29 #[.int .i8 x.kind, .string x.name, .slice x.A x.as_.length x.c, .bool x.empty, .string x.text, .int .i64 x.at_, .int .i64 x.end_]).alloc (.cells #[.int .i8 y.kind, .string y.name, .slice y.A y.as_.length y.c, .bool y.empty, .string y.text, .int .i64 y.at_, .int .i64 y.end_] 29)
        have V2 := Blk.new (wr.alloc (.cells #[.int .i8 x.kind, .string x.name, .slice x.A x.as_.length x.c, .bool x.empty, .string x.text, .int .i64 x.at_, .int .i64 x.end_] 29)) 29 #[.int .i8 y.kind, .string y.name, .slice y.A y.as_.length y.c, .bool y.empty, .string y.text, .int .i64 y.at_, .int .i64 y.end_]
        rw [World.size_alloc] at V2
        have HB2 := hide ((HB1.out.alloc HB1.out.size (.cells #[.int .i8 x.kind, .string x.name, .slice x.A x.as_.length x.c, .bool x.empty, .string x.text, .int .i64 x.at_, .int .i64 x.end_] 29)).alloc (by have := HB1.out.size; simp; omega) (.cells #[.int .i8 y.kind, .string y.name, .slice y.A y.as_.length y.c, .bool y.empty, .string y.text, .int .i64 y.at_, .int .i64 y.end_] 29))
        have p0 := V1.cell 0
        have p1 := V1.cell 1
        have p2 := V1.cell 2
        have p3 := V1.cell 3
        have p4 := V1.cell 4
        have p5 := V1.cell 5
        have p6 := V1.cell 6
        have q0 := V2.cell 0
        have q1 := V2.cell 1
        have q2 := V2.cell 2
        have q3 := V2.cell 3
        have q4 := V2.cell 4
        have q5 := V2.cell 5
        have q6 := V2.cell 6
        clear V1 V2
        by_cases h0 : x.kind = y.kind
        · have t0 : (x.kind != y.kind) = false := by rw [h0]; simp
          by_cases h1' : x.name = y.name
          · have t1 : (x.name.toList == y.name.toList) = true := neq_str_dec _ _ h1'
            by_cases h2' : x.empty = y.empty
            · have t2 : (x.empty == y.empty) = true := by rw [h2']; simp
              by_cases h3' : x.text = y.text
              · have t3 : (x.text.toList == y.text.toList) = true := neq_str_dec _ _ h3'
                have HSc := HSa.out _ HB2.out
                by_cases hsm : x.as_.map Ga.bare = y.as_.map Ga.bare
                · have hd : decide (x.as_.map Ga.bare = y.as_.map Ga.bare) = true := decide_eq_true hsm
                  rw [hd] at HSc
                  have Hsc := hide HSc
                  have Hxy := hide (show x.bare = y.bare by unfold Gt.bare; rw [h0, h1', h2', h3', hsm])
                  clear hsm hd HSc HSa h0 h1' h2' h3'
                  go_wp2_with fail
                  refine Hsc.out.mono ?_
                  rintro e w5 ⟨rfl, m5, rfl⟩
                  go_wp2
                  go_roundg (n - (k + 1))
                  case measure => have := Hg.out; omega
                  case rel => exact ⟨k + 1, rfl, by omega, by go_num, eq_take (by rw [Hlm.out]; exact hlt) (by rw [Hlm'.out]; exact hlt) Htk.out (by rw [Ex.out, Ey.out, Hxy.out]), below_drewN HB2.out _⟩
                · have hd : decide (x.as_.map Ga.bare = y.as_.map Ga.bare) = false := decide_eq_false hsm
                  rw [hd] at HSc
                  have Hsc := hide HSc
                  have Hxy := hide (show x.bare ≠ y.bare from fun h => hsm (congrArg Gb.as_ h))
                  clear hsm hd HSc HSa h0 h1' h2' h3'
                  go_wp2_with fail
                  refine Hsc.out.mono ?_
                  rintro e w5 ⟨rfl, m5, rfl⟩
                  go_wp2
                  go_ret
                  exact ⟨ret_eq1 (bool_eq (by rw [eq_comm, decide_eq_false_iff_not]; exact ne_at (by rw [Hlm.out]; exact hlt) (by rw [Hlm'.out]; exact hlt) (by rw [Ex.out, Ey.out]; exact Hxy.out))), below_drewN HB2.out _⟩
              · have t3 : (x.text.toList == y.text.toList) = false := neq_str_dec' _ _ h3'
                have Hxy := hide (show x.bare ≠ y.bare from fun h => h3' (congrArg Gb.text h))
                clear h3' HSa h0 h1' h2'
                go_wp2
                go_ret
                exact ⟨ret_eq1 (bool_eq (by rw [eq_comm, decide_eq_false_iff_not]; exact ne_at (by rw [Hlm.out]; exact hlt) (by rw [Hlm'.out]; exact hlt) (by rw [Ex.out, Ey.out]; exact Hxy.out))), HB2.out⟩
            · have t2 : (x.empty == y.empty) = false := by simpa using h2'
              have Hxy := hide (show x.bare ≠ y.bare from fun h => h2' (congrArg Gb.empty h))
              clear h2' HSa h0 h1'
              go_wp2
              go_ret
              exact ⟨ret_eq1 (bool_eq (by rw [eq_comm, decide_eq_false_iff_not]; exact ne_at (by rw [Hlm.out]; exact hlt) (by rw [Hlm'.out]; exact hlt) (by rw [Ex.out, Ey.out]; exact Hxy.out))), HB2.out⟩
          · have t1 : (x.name.toList == y.name.toList) = false := neq_str_dec' _ _ h1'
            have Hxy := hide (show x.bare ≠ y.bare from fun h => h1' (congrArg Gb.name h))
            clear h1' HSa h0
            go_wp2
            go_ret
            exact ⟨ret_eq1 (bool_eq (by rw [eq_comm, decide_eq_false_iff_not]; exact ne_at (by rw [Hlm.out]; exact hlt) (by rw [Hlm'.out]; exact hlt) (by rw [Ex.out, Ey.out]; exact Hxy.out))), HB2.out⟩
        · have t0 : (x.kind != y.kind) = true := by simpa using h0
          have Hxy := hide (show x.bare ≠ y.bare from fun h => h0 (congrArg Gb.kind h))
          clear h0 HSa
          go_wp2
          go_ret
          exact ⟨ret_eq1 (bool_eq (by rw [eq_comm, decide_eq_false_iff_not]; exact ne_at (by rw [Hlm.out]; exact hlt) (by rw [Hlm'.out]; exact hlt) (by rw [Ex.out, Ey.out]; exact Hxy.out))), HB2.out⟩
      · go_wp2
        go_ret
        exact ⟨ret_eq1 (bool_eq (by rw [eq_comm, decide_eq_true_eq]; have := Htk.out; rwa [List.take_of_length_le (by rw [Hlm.out]; omega), List.take_of_length_le (by rw [Hlm'.out]; omega)] at this)), HB1.out⟩
  · have ht : ((n : Int) != (n' : Int)) = true := by simp; omega
    have Hne := hide hne
    clear hne
    go_enter Tryd.func10, Tryd.ntmps10
    go_wp2
    go_ret
    exact ⟨ret_eq1 (bool_eq (by rw [eq_comm, decide_eq_false_iff_not]; rintro rfl; exact Hne.out (Hlm.out.symm.trans Hlm'.out))), Below.refl _ _⟩
end Go.Proofs.YtbnaphbmmkmaeaaDoor
