/- The law WriteTells. (Printed by genTeB.py.) -/
import Derived.Test.YtlcfakmbcfdgbaaGreatWt04
import Derived.Test.YtlcfakmbcfdgbaaGreatWt28
set_option linter.unusedSimpArgs false
set_option linter.unusedVariables false
namespace Go.Proofs.YtlcfakmbcfdgbaaGreat
open Go.RowKit Go.WideShapes

theorem atomV_is (f : Fd) : ∃ (S : ByteArray) (E : Int), Wr.atomV f = .tuple #[.string S, .int .i64 E] := by
  unfold Wr.atomV
  cases Wr.may f with
  | true => exact ⟨_, _, if_pos rfl⟩
  | false => exact ⟨_, _, if_neg (by decide)⟩
set_option maxHeartbeats 16000000 in
set_option maxRecDepth 100000 in
theorem lawTells26_any (f g : Fd) (A A' : Option Addr) (n c n' c' B : Nat) (w : World) (hR : Reads w B 7 A n (entVs f.es)) (hn : f.es.length = n) (hR' : Reads w B 7 A' n' (entVs g.es)) (hn' : g.es.length = n') (hB : B ≤ w.heap.size) (hm : n ≤ maxLen) (hm' : n' ≤ maxLen) (hf : f.Wf) (hg : g.Wf) :
    Calls Tryz.prog 3 #[.agg (f.cells A n c), .agg (g.cells A' n' c')] w fun e w' => e = .returned (.bool true) ∧ Below w.heap.size w w' := by
  have hO := (below_alloc w (.cells (f.cells A n c) 26)).trans ((below_alloc _ (.cells (g.cells A' n' c') 26)).mono (by simp))
  have hT := (Blk.new w 26 (f.cells A n c)).alloc (.cells (g.cells A' n' c') 26)
  have hU := Blk.new (w.alloc (.cells (f.cells A n c) 26)) 26 (g.cells A' n' c')
  rw [World.size_alloc] at hU
  have hz2 : ((w.alloc (.cells (f.cells A n c) 26)).alloc (.cells (g.cells A' n' c') 26)).heap.size = w.heap.size + 2 := by simp
  obtain ⟨W2, hW2⟩ : ∃ W2, (w.alloc (.cells (f.cells A n c) 26)).alloc (.cells (g.cells A' n' c') 26) = W2 := ⟨_, rfl⟩
  rw [hW2] at hO hT hU hz2
  have hrow : ∀ W, Below W2.heap.size W2 W → Reads W B 7 A n (entVs f.es) ∧ Reads W B 7 A' n' (entVs g.es) ∧ B ≤ W.heap.size := fun W hb => by
    have hk : ∀ p : Addr, p.block < B → W.cell? p = w.cell? p := fun p hp => World.cell?_of_block ((hb.block _ (by omega)).trans (hO.block _ (by omega)))
    exact ⟨hR.keep hk, hR'.keep hk, by have := hb.size; omega⟩
  have HO := hide hO
  have HT := hide hT
  have HU := hide hU
  have HG := hide (fun W (hb : Below W2.heap.size W2 W) => Great_any f A n c B W (hrow W hb).1 hn (hrow W hb).2.2 hm)
  have HG' := hide (fun W (hb : Below W2.heap.size W2 W) => Great_any g A' n' c' B W (hrow W hb).2.1 hn' (hrow W hb).2.2 hm')
  have HWk := hide (fun W => wakes26_any W)
  obtain ⟨gf, hgf⟩ : ∃ v, greatP f = v := ⟨_, rfl⟩
  obtain ⟨gg, hgg⟩ : ∃ v, greatP g = v := ⟨_, rfl⟩
  rw [hgf] at HG
  rw [hgg] at HG'
  have HRow := hide hrow
  have Hok := hide (fun h : gf = false => ok_of_small (hgf.trans h) hf)
  have Hok' := hide (fun h : gg = false => ok_of_small (hgg.trans h) hg)
  have Hn := hide hn
  have Hn' := hide hn'
  clear hrow hO hT hU hR hR' hgf hgg hf hg hn hn'
  unfold Fd.cells at HT HU HG HG' hW2 ⊢
  have t0 := HT.out.cell 0
  have t1 := HT.out.cell 1
  have t2 := HT.out.cell 2
  have t3 := HT.out.cell 3
  have t4 := HT.out.cell 4
  have t5 := HT.out.cell 5
  have u0 := HU.out.cell 0
  have u1 := HU.out.cell 1
  have u2 := HU.out.cell 2
  have u3 := HU.out.cell 3
  have u4 := HU.out.cell 4
  have u5 := HU.out.cell 5
  go_enter Tryz.func3, Tryz.ntmps3
  go_wp2_with fail
  refine (HG.out _ (Below.refl _ _)).mono ?_
  rintro e w1 ⟨rfl, hb1⟩
  have HB1 := hide hb1
  have HT1 := hide (HT.out.go hb1)
  have HU1 := hide (HU.out.go hb1)
  clear hb1 hW2 t0 t1 t2 t3 t4 t5 u0 u1 u2 u3 u4 u5
  have t0 := HT1.out.cell 0
  have t1 := HT1.out.cell 1
  have t2 := HT1.out.cell 2
  have t3 := HT1.out.cell 3
  have t4 := HT1.out.cell 4
  have t5 := HT1.out.cell 5
  have u0 := HU1.out.cell 0
  have u1 := HU1.out.cell 1
  have u2 := HU1.out.cell 2
  have u3 := HU1.out.cell 3
  have u4 := HU1.out.cell 4
  have u5 := HU1.out.cell 5
  have hz2' := hz2
  clear hz2
  cases gf with
  | true =>
    go_wp2_with fail
    refine (HWk.out _).mono ?_
    rintro e w2 ⟨rfl, hb2⟩
    have HB2 := hide (HB1.out.trans (hb2.mono HB1.out.size))
    clear hb2
    go_wp2
    go_ret
    exact ⟨rfl, HO.out.trans (HB2.out.mono HO.out.size)⟩
  | false =>
  go_wp2_with fail
  refine (HG'.out _ HB1.out).mono ?_
  rintro e w2 ⟨rfl, hb2⟩
  have HB2 := hide (HB1.out.trans (hb2.mono HB1.out.size))
  have HT2 := hide (HT1.out.go hb2)
  have HU2 := hide (HU1.out.go hb2)
  clear hb2 t0 t1 t2 t3 t4 t5 u0 u1 u2 u3 u4 u5
  have t0 := HT2.out.cell 0
  have t1 := HT2.out.cell 1
  have t2 := HT2.out.cell 2
  have t3 := HT2.out.cell 3
  have t4 := HT2.out.cell 4
  have t5 := HT2.out.cell 5
  have u0 := HU2.out.cell 0
  have u1 := HU2.out.cell 1
  have u2 := HU2.out.cell 2
  have u3 := HU2.out.cell 3
  have u4 := HU2.out.cell 4
  have u5 := HU2.out.cell 5
  cases gg with
  | true =>
    go_wp2_with fail
    refine (HWk.out _).mono ?_
    rintro e w3 ⟨rfl, hb3⟩
    have HB3 := hide (HB2.out.trans (hb3.mono HB2.out.size))
    clear hb3
    go_wp2
    go_ret
    exact ⟨rfl, HO.out.trans (HB3.out.mono HO.out.size)⟩
  | false =>
  obtain ⟨hokf, hlf⟩ := Hok.out (by trivial)
  obtain ⟨hokg, hlg⟩ := Hok'.out (by trivial)
  have hn40 : n ≤ 40 := by rw [← Hn.out]; exact hlf
  have hn40' : n' ≤ 40 := by rw [← Hn'.out]; exact hlg
  have HA := hide (fun W (hb : Below W2.heap.size W2 W) => Atom_any f A n c B W (HRow.out W hb).1 Hn.out (HRow.out W hb).2.2 hm hokf)
  have HAD := hide (fun W (hb : Below W2.heap.size W2 W) => refAtom26_any f A n c B W (HRow.out W hb).1 Hn.out (HRow.out W hb).2.2 hm hokf)
  have HMay := hide (fun W (hb : Below W2.heap.size W2 W) => May_any f A n c B W (HRow.out W hb).1 Hn.out (HRow.out W hb).2.2 hm hokf)
  have HMayD := hide (fun W (hb : Below W2.heap.size W2 W) => refMay26_any f A n c B W (HRow.out W hb).1 Hn.out (HRow.out W hb).2.2 hm hokf)
  have HSz := hide (fun W (hb : Below W2.heap.size W2 W) => Size_any f A n c B W (HRow.out W hb).1 Hn.out (HRow.out W hb).2.2 hm hokf)
  have HSzD := hide (fun W (hb : Below W2.heap.size W2 W) => refSize26_any f A n c B W (HRow.out W hb).1 Hn.out (HRow.out W hb).2.2 hm hokf)
  have HSm := hide (fun W (hb : Below W2.heap.size W2 W) => wSame_any f g A A' n c n' c' B W (HRow.out W hb).1 Hn.out (HRow.out W hb).2.1 Hn'.out (HRow.out W hb).2.2 (by omega))
  have HSmD := hide (fun W (hb : Below W2.heap.size W2 W) => refSame26_any f g A A' n c n' c' B W (HRow.out W hb).1 Hn.out (HRow.out W hb).2.1 Hn'.out (HRow.out W hb).2.2 (by omega))
  obtain ⟨S, E, hSE⟩ := atomV_is f
  rw [hSE] at HA HAD
  unfold Fd.cells at HA HAD HMay HMayD HSz HSzD HSm HSmD
  obtain ⟨mf, hmf⟩ : ∃ v, Wr.may f = v := ⟨_, rfl⟩
  rw [hmf] at HMay HMayD
  obtain ⟨q, hq⟩ : ∃ v, sameP f g = v := ⟨_, rfl⟩
  rw [hq] at HSm HSmD
  obtain ⟨z, hz⟩ : ∃ v, Wr.size f = v := ⟨_, rfl⟩
  rw [hz] at HSz HSzD
  clear hmf hq hz hSE hokf hokg hlf hlg
  go_wp2_with fail
  refine (HA.out _ HB2.out).mono ?_
  rintro e w3 ⟨rfl, hb3⟩
  have HB3 := hide (HB2.out.trans (hb3.mono HB2.out.size))
  have HT3 := hide (HT2.out.go hb3)
  have HU3 := hide (HU2.out.go hb3)
  clear hb3 t0 t1 t2 t3 t4 t5 u0 u1 u2 u3 u4 u5
  dsimp only
  have t0 := HT3.out.cell 0
  have t1 := HT3.out.cell 1
  have t2 := HT3.out.cell 2
  have t3 := HT3.out.cell 3
  have t4 := HT3.out.cell 4
  have t5 := HT3.out.cell 5
  go_wp2_with fail
  refine (HAD.out _ HB3.out).mono ?_
  rintro e w4 ⟨rfl, hb4⟩
  have HB4 := hide (HB3.out.trans (hb4.mono HB3.out.size))
  have HT4 := hide (HT3.out.go hb4)
  have HU4 := hide (HU3.out.go hb4)
  clear hb4 t0 t1 t2 t3 t4 t5
  dsimp only
  go_wp2_with fail
  refine wp_region_held_drew (S := fun W => Below w4.heap.size w4 W) (by kernel_rfl) ?_ (fun hHeld => ?_)
  · (try dsimp only)
    first | done | exact (Below.refl _ _).drew | exact hHeld | exact hHeld.drew
  change wpAnyH _ _ _ _ _ 31 #[false, false, false, false, false, false, false, false, false, false, false, false, false, false, false, false, false, false, false, false, false, false, false, false, false, false, false, false, false, false, false] _ _
  refine held_take (i := 0) (d := 27) (v := ?_) rfl rfl (by kernel_rfl) (by kernel_rfl) (by kernel_rfl) (fun _ _ _ h => h) (by kernel_rfl) hHeld ?_ ?_
  rotate_left
  · intro w hSw
    (try dsimp only at hSw)
    have hbk := HT4.out.go hSw
    have b0 := hbk.cell 0
    have b1 := hbk.cell 1
    have b2 := hbk.cell 2
    have b3 := hbk.cell 3
    have b4 := hbk.cell 4
    have b5 := hbk.cell 5
    have hck := HU4.out.go hSw
    have c0 := hck.cell 0
    have c1 := hck.cell 1
    have c2 := hck.cell 2
    have c3 := hck.cell 3
    have c4 := hck.cell 4
    have c5 := hck.cell 5
    clear hbk hck
    go_simp
    first | done | with_reducible rfl
  (try simp only [Act.put, List.setIfInBounds_toArray, List.set_cons_zero, List.set_cons_succ])
  refine held_take (i := 2) (d := 29) (v := ?_) rfl rfl (by kernel_rfl) (by kernel_rfl) (by kernel_rfl) (fun _ _ _ h => h) (by kernel_rfl) hHeld ?_ ?_
  rotate_left
  · intro w hSw
    (try dsimp only at hSw)
    have hbk := HT4.out.go hSw
    have b0 := hbk.cell 0
    have b1 := hbk.cell 1
    have b2 := hbk.cell 2
    have b3 := hbk.cell 3
    have b4 := hbk.cell 4
    have b5 := hbk.cell 5
    have hck := HU4.out.go hSw
    have c0 := hck.cell 0
    have c1 := hck.cell 1
    have c2 := hck.cell 2
    have c3 := hck.cell 3
    have c4 := hck.cell 4
    have c5 := hck.cell 5
    clear hbk hck
    go_simp
    first | done | with_reducible rfl
  (try simp only [Act.put, List.setIfInBounds_toArray, List.set_cons_zero, List.set_cons_succ])
  refine held_call (i := 1) rfl (by kernel_rfl) (by kernel_rfl) (fun K hK => ?_)
  go_simp
  go_at_call 8
  refine (HMay.out _ (HB4.out.trans (hHeld.mono HB4.out.size))).mono ?_
  rintro e w' ⟨rfl, hb⟩
  replace hHeld := hHeld.trans (hb.mono hHeld.size)
  clear hb
  (try dsimp only)
  refine hK.out _ _ ?_ (fun hHeld' => ?_)
  · (try dsimp only)
    first | done | exact (Below.refl _ _).drew | exact hHeld | exact hHeld.drew
  clear hK K hHeld
  have hHeld := hHeld'
  clear hHeld'
  (try simp only [Act.put, List.setIfInBounds_toArray, List.set_cons_zero, List.set_cons_succ])
  refine held_call (i := 3) rfl (by kernel_rfl) (by kernel_rfl) (fun K hK => ?_)
  go_simp
  go_at_call 9
  refine (HMayD.out _ (HB4.out.trans (hHeld.mono HB4.out.size))).mono ?_
  rintro e w' ⟨rfl, hb⟩
  replace hHeld := hHeld.trans (hb.mono hHeld.size)
  clear hb
  (try dsimp only)
  refine hK.out _ _ ?_ (fun hHeld' => ?_)
  · (try dsimp only)
    first | done | exact (Below.refl _ _).drew | exact hHeld | exact hHeld.drew
  clear hK K hHeld
  have hHeld := hHeld'
  clear hHeld'
  (try simp only [Act.put, List.setIfInBounds_toArray, List.set_cons_zero, List.set_cons_succ])
  refine held_take (i := 4) (d := 31) (v := ?_) rfl rfl (by kernel_rfl) (by kernel_rfl) (by kernel_rfl) (fun _ _ _ h => h) (by kernel_rfl) hHeld ?_ ?_
  rotate_left
  · intro w hSw
    (try dsimp only at hSw)
    go_simp
    first | done | with_reducible rfl
  (try simp only [Act.put, List.setIfInBounds_toArray, List.set_cons_zero, List.set_cons_succ])
  refine held_take (i := 5) (d := 32) (v := ?_) rfl rfl (by kernel_rfl) (by kernel_rfl) (by kernel_rfl) (fun _ _ _ h => h) (by kernel_rfl) hHeld ?_ ?_
  rotate_left
  · intro w hSw
    (try dsimp only at hSw)
    go_simp
    first | done | with_reducible rfl
  (try simp only [Act.put, List.setIfInBounds_toArray, List.set_cons_zero, List.set_cons_succ])
  refine held_take (i := 6) (d := 33) (v := ?_) rfl rfl (by kernel_rfl) (by kernel_rfl) (by kernel_rfl) (fun _ _ _ h => h) (by kernel_rfl) hHeld ?_ ?_
  rotate_left
  · intro w hSw
    (try dsimp only at hSw)
    go_simp
    first | done | with_reducible rfl
  (try simp only [Act.put, List.setIfInBounds_toArray, List.set_cons_zero, List.set_cons_succ])
  refine held_take (i := 7) (d := 34) (v := ?_) rfl rfl (by kernel_rfl) (by kernel_rfl) (by kernel_rfl) (fun _ _ _ h => h) (by kernel_rfl) hHeld ?_ ?_
  rotate_left
  · intro w hSw
    (try dsimp only at hSw)
    go_simp
    first | done | with_reducible rfl
  (try simp only [Act.put, List.setIfInBounds_toArray, List.set_cons_zero, List.set_cons_succ])
  refine held_take (i := 8) (d := 35) (v := ?_) rfl rfl (by kernel_rfl) (by kernel_rfl) (by kernel_rfl) (fun _ _ _ h => h) (by kernel_rfl) hHeld ?_ ?_
  rotate_left
  · intro w hSw
    (try dsimp only at hSw)
    go_simp
    first | done | with_reducible rfl
  (try simp only [Act.put, List.setIfInBounds_toArray, List.set_cons_zero, List.set_cons_succ])
  refine held_take (i := 9) (d := 36) (v := ?_) rfl rfl (by kernel_rfl) (by kernel_rfl) (by kernel_rfl) (fun _ _ _ h => h) (by kernel_rfl) hHeld ?_ ?_
  rotate_left
  · intro w hSw
    (try dsimp only at hSw)
    go_simp
    first | done | with_reducible rfl
  (try simp only [Act.put, List.setIfInBounds_toArray, List.set_cons_zero, List.set_cons_succ])
  refine held_take (i := 10) (d := 37) (v := ?_) rfl rfl (by kernel_rfl) (by kernel_rfl) (by kernel_rfl) (fun _ _ _ h => h) (by kernel_rfl) hHeld ?_ ?_
  rotate_left
  · intro w hSw
    (try dsimp only at hSw)
    go_simp
    first | done | with_reducible rfl
  (try simp only [Act.put, List.setIfInBounds_toArray, List.set_cons_zero, List.set_cons_succ])
  refine held_take (i := 11) (d := 38) (v := ?_) rfl rfl (by kernel_rfl) (by kernel_rfl) (by kernel_rfl) (fun _ _ _ h => h) (by kernel_rfl) hHeld ?_ ?_
  rotate_left
  · intro w hSw
    (try dsimp only at hSw)
    go_simp
    first | done | with_reducible rfl
  (try simp only [Act.put, List.setIfInBounds_toArray, List.set_cons_zero, List.set_cons_succ])
  refine held_take (i := 12) (d := 39) (v := ?_) rfl rfl (by kernel_rfl) (by kernel_rfl) (by kernel_rfl) (fun _ _ _ h => h) (by kernel_rfl) hHeld ?_ ?_
  rotate_left
  · intro w hSw
    (try dsimp only at hSw)
    go_simp
    first | done | with_reducible rfl
  (try simp only [Act.put, List.setIfInBounds_toArray, List.set_cons_zero, List.set_cons_succ])
  refine held_take (i := 13) (d := 40) (v := ?_) rfl rfl (by kernel_rfl) (by kernel_rfl) (by kernel_rfl) (fun _ _ _ h => h) (by kernel_rfl) hHeld ?_ ?_
  rotate_left
  · intro w hSw
    (try dsimp only at hSw)
    go_simp
    first | done | with_reducible rfl
  (try simp only [Act.put, List.setIfInBounds_toArray, List.set_cons_zero, List.set_cons_succ])
  refine held_take (i := 14) (d := 41) (v := ?_) rfl rfl (by kernel_rfl) (by kernel_rfl) (by kernel_rfl) (fun _ _ _ h => h) (by kernel_rfl) hHeld ?_ ?_
  rotate_left
  · intro w hSw
    (try dsimp only at hSw)
    go_simp
    first | done | with_reducible rfl
  (try simp only [Act.put, List.setIfInBounds_toArray, List.set_cons_zero, List.set_cons_succ])
  refine held_take (i := 15) (d := 42) (v := ?_) rfl rfl (by kernel_rfl) (by kernel_rfl) (by kernel_rfl) (fun _ _ _ h => h) (by kernel_rfl) hHeld ?_ ?_
  rotate_left
  · intro w hSw
    (try dsimp only at hSw)
    go_simp
    first | done | with_reducible rfl
  (try simp only [Act.put, List.setIfInBounds_toArray, List.set_cons_zero, List.set_cons_succ])
  refine held_take (i := 16) (d := 43) (v := ?_) rfl rfl (by kernel_rfl) (by kernel_rfl) (by kernel_rfl) (fun _ _ _ h => h) (by kernel_rfl) hHeld ?_ ?_
  rotate_left
  · intro w hSw
    (try dsimp only at hSw)
    have hbk := HT4.out.go hSw
    have b0 := hbk.cell 0
    have b1 := hbk.cell 1
    have b2 := hbk.cell 2
    have b3 := hbk.cell 3
    have b4 := hbk.cell 4
    have b5 := hbk.cell 5
    have hck := HU4.out.go hSw
    have c0 := hck.cell 0
    have c1 := hck.cell 1
    have c2 := hck.cell 2
    have c3 := hck.cell 3
    have c4 := hck.cell 4
    have c5 := hck.cell 5
    clear hbk hck
    go_simp
    first | done | with_reducible rfl
  (try simp only [Act.put, List.setIfInBounds_toArray, List.set_cons_zero, List.set_cons_succ])
  refine held_take (i := 18) (d := 45) (v := ?_) rfl rfl (by kernel_rfl) (by kernel_rfl) (by kernel_rfl) (fun _ _ _ h => h) (by kernel_rfl) hHeld ?_ ?_
  rotate_left
  · intro w hSw
    (try dsimp only at hSw)
    have hbk := HT4.out.go hSw
    have b0 := hbk.cell 0
    have b1 := hbk.cell 1
    have b2 := hbk.cell 2
    have b3 := hbk.cell 3
    have b4 := hbk.cell 4
    have b5 := hbk.cell 5
    have hck := HU4.out.go hSw
    have c0 := hck.cell 0
    have c1 := hck.cell 1
    have c2 := hck.cell 2
    have c3 := hck.cell 3
    have c4 := hck.cell 4
    have c5 := hck.cell 5
    clear hbk hck
    go_simp
    first | done | with_reducible rfl
  (try simp only [Act.put, List.setIfInBounds_toArray, List.set_cons_zero, List.set_cons_succ])
  refine held_call (i := 17) rfl (by kernel_rfl) (by kernel_rfl) (fun K hK => ?_)
  go_simp
  go_at_call 10
  refine (HSz.out _ (HB4.out.trans (hHeld.mono HB4.out.size))).mono ?_
  rintro e w' ⟨rfl, hb⟩
  replace hHeld := hHeld.trans (hb.mono hHeld.size)
  clear hb
  (try dsimp only)
  refine hK.out _ _ ?_ (fun hHeld' => ?_)
  · (try dsimp only)
    first | done | exact (Below.refl _ _).drew | exact hHeld | exact hHeld.drew
  clear hK K hHeld
  have hHeld := hHeld'
  clear hHeld'
  (try simp only [Act.put, List.setIfInBounds_toArray, List.set_cons_zero, List.set_cons_succ])
  refine held_call (i := 19) rfl (by kernel_rfl) (by kernel_rfl) (fun K hK => ?_)
  go_simp
  go_at_call 11
  refine (HSzD.out _ (HB4.out.trans (hHeld.mono HB4.out.size))).mono ?_
  rintro e w' ⟨rfl, hb⟩
  replace hHeld := hHeld.trans (hb.mono hHeld.size)
  clear hb
  (try dsimp only)
  refine hK.out _ _ ?_ (fun hHeld' => ?_)
  · (try dsimp only)
    first | done | exact (Below.refl _ _).drew | exact hHeld | exact hHeld.drew
  clear hK K hHeld
  have hHeld := hHeld'
  clear hHeld'
  (try simp only [Act.put, List.setIfInBounds_toArray, List.set_cons_zero, List.set_cons_succ])
  refine held_take (i := 20) (d := 47) (v := ?_) rfl rfl (by kernel_rfl) (by kernel_rfl) (by kernel_rfl) (fun _ _ _ h => h) (by kernel_rfl) hHeld ?_ ?_
  rotate_left
  · intro w hSw
    (try dsimp only at hSw)
    go_simp
    first | done | with_reducible rfl
  (try simp only [Act.put, List.setIfInBounds_toArray, List.set_cons_zero, List.set_cons_succ])
  refine held_take (i := 21) (d := 48) (v := ?_) rfl rfl (by kernel_rfl) (by kernel_rfl) (by kernel_rfl) (fun _ _ _ h => h) (by kernel_rfl) hHeld ?_ ?_
  rotate_left
  · intro w hSw
    (try dsimp only at hSw)
    go_simp
    first | done | with_reducible rfl
  (try simp only [Act.put, List.setIfInBounds_toArray, List.set_cons_zero, List.set_cons_succ])
  refine held_take (i := 22) (d := 49) (v := ?_) rfl rfl (by kernel_rfl) (by kernel_rfl) (by kernel_rfl) (fun _ _ _ h => h) (by kernel_rfl) hHeld ?_ ?_
  rotate_left
  · intro w hSw
    (try dsimp only at hSw)
    go_simp
    first | done | with_reducible rfl
  (try simp only [Act.put, List.setIfInBounds_toArray, List.set_cons_zero, List.set_cons_succ])
  refine held_take (i := 23) (d := 50) (v := ?_) rfl rfl (by kernel_rfl) (by kernel_rfl) (by kernel_rfl) (fun _ _ _ h => h) (by kernel_rfl) hHeld ?_ ?_
  rotate_left
  · intro w hSw
    (try dsimp only at hSw)
    have hbk := HT4.out.go hSw
    have b0 := hbk.cell 0
    have b1 := hbk.cell 1
    have b2 := hbk.cell 2
    have b3 := hbk.cell 3
    have b4 := hbk.cell 4
    have b5 := hbk.cell 5
    have hck := HU4.out.go hSw
    have c0 := hck.cell 0
    have c1 := hck.cell 1
    have c2 := hck.cell 2
    have c3 := hck.cell 3
    have c4 := hck.cell 4
    have c5 := hck.cell 5
    clear hbk hck
    go_simp
    first | done | with_reducible rfl
  (try simp only [Act.put, List.setIfInBounds_toArray, List.set_cons_zero, List.set_cons_succ])
  refine held_take (i := 24) (d := 51) (v := ?_) rfl rfl (by kernel_rfl) (by kernel_rfl) (by kernel_rfl) (fun _ _ _ h => h) (by kernel_rfl) hHeld ?_ ?_
  rotate_left
  · intro w hSw
    (try dsimp only at hSw)
    have hbk := HT4.out.go hSw
    have b0 := hbk.cell 0
    have b1 := hbk.cell 1
    have b2 := hbk.cell 2
    have b3 := hbk.cell 3
    have b4 := hbk.cell 4
    have b5 := hbk.cell 5
    have hck := HU4.out.go hSw
    have c0 := hck.cell 0
    have c1 := hck.cell 1
    have c2 := hck.cell 2
    have c3 := hck.cell 3
    have c4 := hck.cell 4
    have c5 := hck.cell 5
    clear hbk hck
    go_simp
    first | done | with_reducible rfl
  (try simp only [Act.put, List.setIfInBounds_toArray, List.set_cons_zero, List.set_cons_succ])
  refine held_take (i := 26) (d := 53) (v := ?_) rfl rfl (by kernel_rfl) (by kernel_rfl) (by kernel_rfl) (fun _ _ _ h => h) (by kernel_rfl) hHeld ?_ ?_
  rotate_left
  · intro w hSw
    (try dsimp only at hSw)
    have hbk := HT4.out.go hSw
    have b0 := hbk.cell 0
    have b1 := hbk.cell 1
    have b2 := hbk.cell 2
    have b3 := hbk.cell 3
    have b4 := hbk.cell 4
    have b5 := hbk.cell 5
    have hck := HU4.out.go hSw
    have c0 := hck.cell 0
    have c1 := hck.cell 1
    have c2 := hck.cell 2
    have c3 := hck.cell 3
    have c4 := hck.cell 4
    have c5 := hck.cell 5
    clear hbk hck
    go_simp
    first | done | with_reducible rfl
  (try simp only [Act.put, List.setIfInBounds_toArray, List.set_cons_zero, List.set_cons_succ])
  refine held_take (i := 27) (d := 54) (v := ?_) rfl rfl (by kernel_rfl) (by kernel_rfl) (by kernel_rfl) (fun _ _ _ h => h) (by kernel_rfl) hHeld ?_ ?_
  rotate_left
  · intro w hSw
    (try dsimp only at hSw)
    have hbk := HT4.out.go hSw
    have b0 := hbk.cell 0
    have b1 := hbk.cell 1
    have b2 := hbk.cell 2
    have b3 := hbk.cell 3
    have b4 := hbk.cell 4
    have b5 := hbk.cell 5
    have hck := HU4.out.go hSw
    have c0 := hck.cell 0
    have c1 := hck.cell 1
    have c2 := hck.cell 2
    have c3 := hck.cell 3
    have c4 := hck.cell 4
    have c5 := hck.cell 5
    clear hbk hck
    go_simp
    first | done | with_reducible rfl
  (try simp only [Act.put, List.setIfInBounds_toArray, List.set_cons_zero, List.set_cons_succ])
  refine held_call (i := 25) rfl (by kernel_rfl) (by kernel_rfl) (fun K hK => ?_)
  go_simp
  go_at_call 12
  refine (HSm.out _ (HB4.out.trans (hHeld.mono HB4.out.size))).mono ?_
  rintro e w' ⟨rfl, hb⟩
  replace hHeld := hHeld.trans (hb.mono hHeld.size)
  clear hb
  (try dsimp only)
  refine hK.out _ _ ?_ (fun hHeld' => ?_)
  · (try dsimp only)
    first | done | exact (Below.refl _ _).drew | exact hHeld | exact hHeld.drew
  clear hK K hHeld
  have hHeld := hHeld'
  clear hHeld'
  (try simp only [Act.put, List.setIfInBounds_toArray, List.set_cons_zero, List.set_cons_succ])
  refine held_call (i := 28) rfl (by kernel_rfl) (by kernel_rfl) (fun K hK => ?_)
  go_simp
  go_at_call 13
  refine (HSmD.out _ (HB4.out.trans (hHeld.mono HB4.out.size))).mono ?_
  rintro e w' ⟨rfl, hb⟩
  replace hHeld := hHeld.trans (hb.mono hHeld.size)
  clear hb
  (try dsimp only)
  refine hK.out _ _ ?_ (fun hHeld' => ?_)
  · (try dsimp only)
    first | done | exact (Below.refl _ _).drew | exact hHeld | exact hHeld.drew
  clear hK K hHeld
  have hHeld := hHeld'
  clear hHeld'
  (try simp only [Act.put, List.setIfInBounds_toArray, List.set_cons_zero, List.set_cons_succ])
  refine held_take (i := 29) (d := 56) (v := ?_) rfl rfl (by kernel_rfl) (by kernel_rfl) (by kernel_rfl) (fun _ _ _ h => h) (by kernel_rfl) hHeld ?_ ?_
  rotate_left
  · intro w hSw
    (try dsimp only at hSw)
    go_simp
    first | done | with_reducible rfl
  (try simp only [Act.put, List.setIfInBounds_toArray, List.set_cons_zero, List.set_cons_succ])
  refine held_take (i := 30) (d := 57) (v := ?_) rfl rfl (by kernel_rfl) (by kernel_rfl) (by kernel_rfl) (fun _ _ _ h => h) (by kernel_rfl) hHeld ?_ ?_
  rotate_left
  · intro w hSw
    (try dsimp only at hSw)
    go_simp
    first | done | with_reducible rfl
  (try simp only [Act.put, List.setIfInBounds_toArray, List.set_cons_zero, List.set_cons_succ])
  refine wpAnyH_done (by kernel_rfl) ?_ _
  have HBs := hide (HB4.out.trans (hHeld.mono HB4.out.size))
  have HTs := hide (HT4.out.go hHeld)
  have HUs := hide (HU4.out.go hHeld)
  clear hHeld
  rename World => ws
  go_wp2
  go_loopg [9] n (fun gk v9 wr => ∃ (i : Nat), v9 = .int .i64 (i : Int) ∧ gk = n - i ∧ i ≤ n ∧ i ≤ n' ∧ Below ws.heap.size ws wr)
  case atStart => exact ⟨0, rfl, rfl, by omega, by omega, Below.refl _ _⟩
  case round =>
    obtain ⟨i, rfl, hgk, hin, hin', hb⟩ := hrel
    have Hgk := hide hgk
    have HBr := hide (HBs.out.trans (hb.mono HBs.out.size))
    have HTr := hide (HTs.out.go hb)
    have HUr := hide (HUs.out.go hb)
    have Hb := hide hb
    have t5 := HTr.out.cell 5
    have u5 := HUr.out.cell 5
    clear hgk hb
    by_cases hlt : i < n
    · by_cases hlt' : i < n'
      · obtain ⟨hR1, hR2, hBl⟩ := HRow.out wr HBr.out
        rw [← Hn.out] at hR1
        rw [← Hn'.out] at hR2
        obtain ⟨b, off, rfl, hbB, hx⟩ := hR1.ent (by rw [Hn.out]; exact hlt)
        obtain ⟨b', off', rfl, hbB', hy⟩ := hR2.ent (by rw [Hn'.out]; exact hlt')
        obtain ⟨x, ex⟩ : ∃ x, f.es[i]'(by rw [Hn.out]; exact hlt) = x := ⟨_, rfl⟩
        obtain ⟨y, ey⟩ : ∃ x, g.es[i]'(by rw [Hn'.out]; exact hlt') = x := ⟨_, rfl⟩
        rw [ex] at hx
        rw [ey] at hy
        have HSE := hide (fun W => wSameEntry_any x y W)
        have hE := fun W => eql_ent W x y
        obtain ⟨ev, hev⟩ : ∃ ev, eqE x y = ev := ⟨_, rfl⟩
        rw [hev] at HSE
        simp only [hev] at hE
        clear hR1 hR2 ex ey hev
        obtain ⟨xi, xt, xl, xa, xc, xk, xs⟩ := x
        obtain ⟨yi, yt, yl, ya, yc, yk, ys⟩ := y
        unfold Ent.cells at HSE
        dsimp only at HSE hE
        have x0 := hx.c0
        have x1 := hx.c1
        have x2 := hx.c2
        have x3 := hx.c3
        have x4 := hx.c4
        have x5 := hx.c5
        have x6 := hx.c6
        have y0 := hy.c0
        have y1 := hy.c1
        have y2 := hy.c2
        have y3 := hy.c3
        have y4 := hy.c4
        have y5 := hy.c5
        have y6 := hy.c6
        dsimp only at x0 x1 x2 x3 x4 x5 x6 y0 y1 y2 y3 y4 y5 y6
        have i0 : (0 : Int) ≤ i := by omega
        have i1 : (i : Int) < n := by omega
        have i2 : (i : Int) < n' := by omega
        clear hx hy
        go_wp2_with fail
        clear t5 u5
        refine wp_region_held_drew (S := fun W => Below wr.heap.size wr W) (by kernel_rfl) ?_ (fun hHeld => ?_)
        · (try dsimp only)
          first | done | exact (Below.refl _ _).drew | exact hHeld | exact hHeld.drew
        change wpAnyH _ _ _ _ _ 23 #[false, false, false, false, false, false, false, false, false, false, false, false, false, false, false, false, false, false, false, false, false, false, false] _ _
        refine held_take (i := 0) (d := 72) (v := ?_) rfl rfl (by kernel_rfl) (by kernel_rfl) (by kernel_rfl) (fun _ _ _ h => h) (by kernel_rfl) hHeld ?_ ?_
        rotate_left
        · intro w hSw
          (try dsimp only at hSw)
          go_simp
          first | done | with_reducible rfl
        (try simp only [Act.put, List.setIfInBounds_toArray, List.set_cons_zero, List.set_cons_succ])
        refine held_take (i := 1) (d := 73) (v := ?_) rfl rfl (by kernel_rfl) (by kernel_rfl) (by kernel_rfl) (fun _ _ _ h => h) (by kernel_rfl) hHeld ?_ ?_
        rotate_left
        · intro w hSw
          (try dsimp only at hSw)
          have b5 := (HTr.out.go hSw).cell 5
          have c5 := (HUr.out.go hSw).cell 5
          have p0 := (hSw.cell (lt_of_cell x0)).trans x0
          have q0 := (hSw.cell (lt_of_cell y0)).trans y0
          have p1 := (hSw.cell (lt_of_cell x1)).trans x1
          have q1 := (hSw.cell (lt_of_cell y1)).trans y1
          have p2 := (hSw.cell (lt_of_cell x2)).trans x2
          have q2 := (hSw.cell (lt_of_cell y2)).trans y2
          have p3 := (hSw.cell (lt_of_cell x3)).trans x3
          have q3 := (hSw.cell (lt_of_cell y3)).trans y3
          have p4 := (hSw.cell (lt_of_cell x4)).trans x4
          have q4 := (hSw.cell (lt_of_cell y4)).trans y4
          have p5 := (hSw.cell (lt_of_cell x5)).trans x5
          have q5 := (hSw.cell (lt_of_cell y5)).trans y5
          have p6 := (hSw.cell (lt_of_cell x6)).trans x6
          have q6 := (hSw.cell (lt_of_cell y6)).trans y6
          go_simp
          first | done | with_reducible rfl
        (try simp only [Act.put, List.setIfInBounds_toArray, List.set_cons_zero, List.set_cons_succ])
        refine held_take (i := 2) (d := 74) (v := ?_) rfl rfl (by kernel_rfl) (by kernel_rfl) (by kernel_rfl) (fun _ _ _ h => h) (by kernel_rfl) hHeld ?_ ?_
        rotate_left
        · intro w hSw
          (try dsimp only at hSw)
          go_simp
          first | done | with_reducible rfl
        (try simp only [Act.put, List.setIfInBounds_toArray, List.set_cons_zero, List.set_cons_succ])
        refine held_take (i := 3) (d := 75) (v := ?_) rfl rfl (by kernel_rfl) (by kernel_rfl) (by kernel_rfl) (fun _ _ _ h => h) (by kernel_rfl) hHeld ?_ ?_
        rotate_left
        · intro w hSw
          (try dsimp only at hSw)
          go_simp
          first | done | with_reducible rfl
        (try simp only [Act.put, List.setIfInBounds_toArray, List.set_cons_zero, List.set_cons_succ])
        refine held_take (i := 4) (d := 76) (v := ?_) rfl rfl (by kernel_rfl) (by kernel_rfl) (by kernel_rfl) (fun _ _ _ h => h) (by kernel_rfl) hHeld ?_ ?_
        rotate_left
        · intro w hSw
          (try dsimp only at hSw)
          have b5 := (HTr.out.go hSw).cell 5
          have c5 := (HUr.out.go hSw).cell 5
          have p0 := (hSw.cell (lt_of_cell x0)).trans x0
          have q0 := (hSw.cell (lt_of_cell y0)).trans y0
          have p1 := (hSw.cell (lt_of_cell x1)).trans x1
          have q1 := (hSw.cell (lt_of_cell y1)).trans y1
          have p2 := (hSw.cell (lt_of_cell x2)).trans x2
          have q2 := (hSw.cell (lt_of_cell y2)).trans y2
          have p3 := (hSw.cell (lt_of_cell x3)).trans x3
          have q3 := (hSw.cell (lt_of_cell y3)).trans y3
          have p4 := (hSw.cell (lt_of_cell x4)).trans x4
          have q4 := (hSw.cell (lt_of_cell y4)).trans y4
          have p5 := (hSw.cell (lt_of_cell x5)).trans x5
          have q5 := (hSw.cell (lt_of_cell y5)).trans y5
          have p6 := (hSw.cell (lt_of_cell x6)).trans x6
          have q6 := (hSw.cell (lt_of_cell y6)).trans y6
          go_simp
          first | done | with_reducible rfl
        (try simp only [Act.put, List.setIfInBounds_toArray, List.set_cons_zero, List.set_cons_succ])
        refine held_take (i := 5) (d := 77) (v := ?_) rfl rfl (by kernel_rfl) (by kernel_rfl) (by kernel_rfl) (fun _ _ _ h => h) (by kernel_rfl) hHeld ?_ ?_
        rotate_left
        · intro w hSw
          (try dsimp only at hSw)
          go_simp
          first | done | with_reducible rfl
        (try simp only [Act.put, List.setIfInBounds_toArray, List.set_cons_zero, List.set_cons_succ])
        refine held_take (i := 6) (d := 78) (v := ?_) rfl rfl (by kernel_rfl) (by kernel_rfl) (by kernel_rfl) (fun _ _ _ h => h) (by kernel_rfl) hHeld ?_ ?_
        rotate_left
        · intro w hSw
          (try dsimp only at hSw)
          have b5 := (HTr.out.go hSw).cell 5
          have c5 := (HUr.out.go hSw).cell 5
          have p0 := (hSw.cell (lt_of_cell x0)).trans x0
          have q0 := (hSw.cell (lt_of_cell y0)).trans y0
          have p1 := (hSw.cell (lt_of_cell x1)).trans x1
          have q1 := (hSw.cell (lt_of_cell y1)).trans y1
          have p2 := (hSw.cell (lt_of_cell x2)).trans x2
          have q2 := (hSw.cell (lt_of_cell y2)).trans y2
          have p3 := (hSw.cell (lt_of_cell x3)).trans x3
          have q3 := (hSw.cell (lt_of_cell y3)).trans y3
          have p4 := (hSw.cell (lt_of_cell x4)).trans x4
          have q4 := (hSw.cell (lt_of_cell y4)).trans y4
          have p5 := (hSw.cell (lt_of_cell x5)).trans x5
          have q5 := (hSw.cell (lt_of_cell y5)).trans y5
          have p6 := (hSw.cell (lt_of_cell x6)).trans x6
          have q6 := (hSw.cell (lt_of_cell y6)).trans y6
          go_simp
          first | done | with_reducible rfl
        (try simp only [Act.put, List.setIfInBounds_toArray, List.set_cons_zero, List.set_cons_succ])
        refine held_take (i := 7) (d := 79) (v := ?_) rfl rfl (by kernel_rfl) (by kernel_rfl) (by kernel_rfl) (fun _ _ _ h => h) (by kernel_rfl) hHeld ?_ ?_
        rotate_left
        · intro w hSw
          (try dsimp only at hSw)
          go_simp
          first | done | with_reducible rfl
        (try simp only [Act.put, List.setIfInBounds_toArray, List.set_cons_zero, List.set_cons_succ])
        refine held_take (i := 8) (d := 80) (v := ?_) rfl rfl (by kernel_rfl) (by kernel_rfl) (by kernel_rfl) (fun _ _ _ h => h) (by kernel_rfl) hHeld ?_ ?_
        rotate_left
        · intro w hSw
          (try dsimp only at hSw)
          go_simp
          first | done | with_reducible rfl
        (try simp only [Act.put, List.setIfInBounds_toArray, List.set_cons_zero, List.set_cons_succ])
        refine held_take (i := 9) (d := 81) (v := ?_) rfl rfl (by kernel_rfl) (by kernel_rfl) (by kernel_rfl) (fun _ _ _ h => h) (by kernel_rfl) hHeld ?_ ?_
        rotate_left
        · intro w hSw
          (try dsimp only at hSw)
          have b5 := (HTr.out.go hSw).cell 5
          have c5 := (HUr.out.go hSw).cell 5
          have p0 := (hSw.cell (lt_of_cell x0)).trans x0
          have q0 := (hSw.cell (lt_of_cell y0)).trans y0
          have p1 := (hSw.cell (lt_of_cell x1)).trans x1
          have q1 := (hSw.cell (lt_of_cell y1)).trans y1
          have p2 := (hSw.cell (lt_of_cell x2)).trans x2
          have q2 := (hSw.cell (lt_of_cell y2)).trans y2
          have p3 := (hSw.cell (lt_of_cell x3)).trans x3
          have q3 := (hSw.cell (lt_of_cell y3)).trans y3
          have p4 := (hSw.cell (lt_of_cell x4)).trans x4
          have q4 := (hSw.cell (lt_of_cell y4)).trans y4
          have p5 := (hSw.cell (lt_of_cell x5)).trans x5
          have q5 := (hSw.cell (lt_of_cell y5)).trans y5
          have p6 := (hSw.cell (lt_of_cell x6)).trans x6
          have q6 := (hSw.cell (lt_of_cell y6)).trans y6
          go_simp
          first | done | with_reducible rfl
        (try simp only [Act.put, List.setIfInBounds_toArray, List.set_cons_zero, List.set_cons_succ])
        refine held_take (i := 11) (d := 83) (v := ?_) rfl rfl (by kernel_rfl) (by kernel_rfl) (by kernel_rfl) (fun _ _ _ h => h) (by kernel_rfl) hHeld ?_ ?_
        rotate_left
        · intro w hSw
          (try dsimp only at hSw)
          go_simp
          first | done | with_reducible rfl
        (try simp only [Act.put, List.setIfInBounds_toArray, List.set_cons_zero, List.set_cons_succ])
        refine held_take (i := 12) (d := 84) (v := ?_) rfl rfl (by kernel_rfl) (by kernel_rfl) (by kernel_rfl) (fun _ _ _ h => h) (by kernel_rfl) hHeld ?_ ?_
        rotate_left
        · intro w hSw
          (try dsimp only at hSw)
          have b5 := (HTr.out.go hSw).cell 5
          have c5 := (HUr.out.go hSw).cell 5
          have p0 := (hSw.cell (lt_of_cell x0)).trans x0
          have q0 := (hSw.cell (lt_of_cell y0)).trans y0
          have p1 := (hSw.cell (lt_of_cell x1)).trans x1
          have q1 := (hSw.cell (lt_of_cell y1)).trans y1
          have p2 := (hSw.cell (lt_of_cell x2)).trans x2
          have q2 := (hSw.cell (lt_of_cell y2)).trans y2
          have p3 := (hSw.cell (lt_of_cell x3)).trans x3
          have q3 := (hSw.cell (lt_of_cell y3)).trans y3
          have p4 := (hSw.cell (lt_of_cell x4)).trans x4
          have q4 := (hSw.cell (lt_of_cell y4)).trans y4
          have p5 := (hSw.cell (lt_of_cell x5)).trans x5
          have q5 := (hSw.cell (lt_of_cell y5)).trans y5
          have p6 := (hSw.cell (lt_of_cell x6)).trans x6
          have q6 := (hSw.cell (lt_of_cell y6)).trans y6
          go_simp
          first | done | with_reducible rfl
        (try simp only [Act.put, List.setIfInBounds_toArray, List.set_cons_zero, List.set_cons_succ])
        refine held_take (i := 13) (d := 85) (v := ?_) rfl rfl (by kernel_rfl) (by kernel_rfl) (by kernel_rfl) (fun _ _ _ h => h) (by kernel_rfl) hHeld ?_ ?_
        rotate_left
        · intro w hSw
          (try dsimp only at hSw)
          go_simp
          first | done | with_reducible rfl
        (try simp only [Act.put, List.setIfInBounds_toArray, List.set_cons_zero, List.set_cons_succ])
        refine held_take (i := 14) (d := 86) (v := ?_) rfl rfl (by kernel_rfl) (by kernel_rfl) (by kernel_rfl) (fun _ _ _ h => h) (by kernel_rfl) hHeld ?_ ?_
        rotate_left
        · intro w hSw
          (try dsimp only at hSw)
          go_simp
          first | done | with_reducible rfl
        (try simp only [Act.put, List.setIfInBounds_toArray, List.set_cons_zero, List.set_cons_succ])
        refine held_take (i := 15) (d := 87) (v := ?_) rfl rfl (by kernel_rfl) (by kernel_rfl) (by kernel_rfl) (fun _ _ _ h => h) (by kernel_rfl) hHeld ?_ ?_
        rotate_left
        · intro w hSw
          (try dsimp only at hSw)
          have b5 := (HTr.out.go hSw).cell 5
          have c5 := (HUr.out.go hSw).cell 5
          have p0 := (hSw.cell (lt_of_cell x0)).trans x0
          have q0 := (hSw.cell (lt_of_cell y0)).trans y0
          have p1 := (hSw.cell (lt_of_cell x1)).trans x1
          have q1 := (hSw.cell (lt_of_cell y1)).trans y1
          have p2 := (hSw.cell (lt_of_cell x2)).trans x2
          have q2 := (hSw.cell (lt_of_cell y2)).trans y2
          have p3 := (hSw.cell (lt_of_cell x3)).trans x3
          have q3 := (hSw.cell (lt_of_cell y3)).trans y3
          have p4 := (hSw.cell (lt_of_cell x4)).trans x4
          have q4 := (hSw.cell (lt_of_cell y4)).trans y4
          have p5 := (hSw.cell (lt_of_cell x5)).trans x5
          have q5 := (hSw.cell (lt_of_cell y5)).trans y5
          have p6 := (hSw.cell (lt_of_cell x6)).trans x6
          have q6 := (hSw.cell (lt_of_cell y6)).trans y6
          go_simp
          first | done | with_reducible rfl
        (try simp only [Act.put, List.setIfInBounds_toArray, List.set_cons_zero, List.set_cons_succ])
        refine held_take (i := 16) (d := 88) (v := ?_) rfl rfl (by kernel_rfl) (by kernel_rfl) (by kernel_rfl) (fun _ _ _ h => h) (by kernel_rfl) hHeld ?_ ?_
        rotate_left
        · intro w hSw
          (try dsimp only at hSw)
          go_simp
          first | done | with_reducible rfl
        (try simp only [Act.put, List.setIfInBounds_toArray, List.set_cons_zero, List.set_cons_succ])
        refine held_take (i := 17) (d := 89) (v := ?_) rfl rfl (by kernel_rfl) (by kernel_rfl) (by kernel_rfl) (fun _ _ _ h => h) (by kernel_rfl) hHeld ?_ ?_
        rotate_left
        · intro w hSw
          (try dsimp only at hSw)
          have b5 := (HTr.out.go hSw).cell 5
          have c5 := (HUr.out.go hSw).cell 5
          have p0 := (hSw.cell (lt_of_cell x0)).trans x0
          have q0 := (hSw.cell (lt_of_cell y0)).trans y0
          have p1 := (hSw.cell (lt_of_cell x1)).trans x1
          have q1 := (hSw.cell (lt_of_cell y1)).trans y1
          have p2 := (hSw.cell (lt_of_cell x2)).trans x2
          have q2 := (hSw.cell (lt_of_cell y2)).trans y2
          have p3 := (hSw.cell (lt_of_cell x3)).trans x3
          have q3 := (hSw.cell (lt_of_cell y3)).trans y3
          have p4 := (hSw.cell (lt_of_cell x4)).trans x4
          have q4 := (hSw.cell (lt_of_cell y4)).trans y4
          have p5 := (hSw.cell (lt_of_cell x5)).trans x5
          have q5 := (hSw.cell (lt_of_cell y5)).trans y5
          have p6 := (hSw.cell (lt_of_cell x6)).trans x6
          have q6 := (hSw.cell (lt_of_cell y6)).trans y6
          go_simp
          first | done | with_reducible rfl
        (try simp only [Act.put, List.setIfInBounds_toArray, List.set_cons_zero, List.set_cons_succ])
        refine held_take (i := 18) (d := 90) (v := ?_) rfl rfl (by kernel_rfl) (by kernel_rfl) (by kernel_rfl) (fun _ _ _ h => h) (by kernel_rfl) hHeld ?_ ?_
        rotate_left
        · intro w hSw
          (try dsimp only at hSw)
          go_simp
          first | done | with_reducible rfl
        (try simp only [Act.put, List.setIfInBounds_toArray, List.set_cons_zero, List.set_cons_succ])
        refine held_take (i := 19) (d := 91) (v := ?_) rfl rfl (by kernel_rfl) (by kernel_rfl) (by kernel_rfl) (fun _ _ _ h => h) (by kernel_rfl) hHeld ?_ ?_
        rotate_left
        · intro w hSw
          (try dsimp only at hSw)
          go_simp
          first | done | with_reducible rfl
        (try simp only [Act.put, List.setIfInBounds_toArray, List.set_cons_zero, List.set_cons_succ])
        refine held_take (i := 20) (d := 92) (v := ?_) rfl rfl (by kernel_rfl) (by kernel_rfl) (by kernel_rfl) (fun _ _ _ h => h) (by kernel_rfl) hHeld ?_ ?_
        rotate_left
        · intro w hSw
          (try dsimp only at hSw)
          have b5 := (HTr.out.go hSw).cell 5
          have c5 := (HUr.out.go hSw).cell 5
          have p0 := (hSw.cell (lt_of_cell x0)).trans x0
          have q0 := (hSw.cell (lt_of_cell y0)).trans y0
          have p1 := (hSw.cell (lt_of_cell x1)).trans x1
          have q1 := (hSw.cell (lt_of_cell y1)).trans y1
          have p2 := (hSw.cell (lt_of_cell x2)).trans x2
          have q2 := (hSw.cell (lt_of_cell y2)).trans y2
          have p3 := (hSw.cell (lt_of_cell x3)).trans x3
          have q3 := (hSw.cell (lt_of_cell y3)).trans y3
          have p4 := (hSw.cell (lt_of_cell x4)).trans x4
          have q4 := (hSw.cell (lt_of_cell y4)).trans y4
          have p5 := (hSw.cell (lt_of_cell x5)).trans x5
          have q5 := (hSw.cell (lt_of_cell y5)).trans y5
          have p6 := (hSw.cell (lt_of_cell x6)).trans x6
          have q6 := (hSw.cell (lt_of_cell y6)).trans y6
          go_simp
          first | done | with_reducible rfl
        (try simp only [Act.put, List.setIfInBounds_toArray, List.set_cons_zero, List.set_cons_succ])
        refine held_take (i := 21) (d := 93) (v := ?_) rfl rfl (by kernel_rfl) (by kernel_rfl) (by kernel_rfl) (fun _ _ _ h => h) (by kernel_rfl) hHeld ?_ ?_
        rotate_left
        · intro w hSw
          (try dsimp only at hSw)
          go_simp
          first | done | with_reducible rfl
        (try simp only [Act.put, List.setIfInBounds_toArray, List.set_cons_zero, List.set_cons_succ])
        refine held_call (i := 10) rfl (by kernel_rfl) (by kernel_rfl) (fun K hK => ?_)
        go_simp
        go_at_call 14
        refine (HSE.out _).mono ?_
        rintro e w' ⟨rfl, hb⟩
        replace hHeld := hHeld.trans (hb.mono hHeld.size)
        clear hb
        (try dsimp only)
        refine hK.out _ _ ?_ (fun hHeld' => ?_)
        · (try dsimp only)
          first | done | exact (Below.refl _ _).drew | exact hHeld | exact hHeld.drew
        clear hK K hHeld
        have hHeld := hHeld'
        clear hHeld'
        (try simp only [Act.put, List.setIfInBounds_toArray, List.set_cons_zero, List.set_cons_succ])
        refine held_take (i := 22) (d := 94) (v := ?_) rfl rfl (by kernel_rfl) (by kernel_rfl) (by kernel_rfl) (fun _ _ _ h => h) (by kernel_rfl) hHeld ?_ ?_
        rotate_left
        · intro w hSw
          (try dsimp only at hSw)
          go_simp
          first | done | with_reducible rfl
        (try simp only [Act.put, List.setIfInBounds_toArray, List.set_cons_zero, List.set_cons_succ])
        refine wpAnyH_done (by kernel_rfl) ?_ _
        go_wp2
        go_roundg (n - (i + 1))
        case measure => have := Hgk.out; omega
        case rel => exact ⟨i + 1, by first | rfl | go_num, rfl, by omega, by omega, Hb.out.trans (hHeld.mono Hb.out.size)⟩
      · have hi2 : ¬ (i : Int) < (n' : Int) := by omega
        go_wp2_with fail
        refine (HWk.out _).mono ?_
        rintro e w5 ⟨rfl, hb5⟩
        have HB5 := hide (HBr.out.trans (hb5.mono HBr.out.size))
        clear hb5
        go_wp2
        go_ret
        exact ⟨rfl, HO.out.trans (HB5.out.mono HO.out.size)⟩
    · have hi2 : ¬ (i : Int) < (n : Int) := by omega
      go_wp2_with fail
      refine (HWk.out _).mono ?_
      rintro e w5 ⟨rfl, hb5⟩
      have HB5 := hide (HBr.out.trans (hb5.mono HBr.out.size))
      clear hb5
      go_wp2
      go_ret
      exact ⟨rfl, HO.out.trans (HB5.out.mono HO.out.size)⟩
end Go.Proofs.YtlcfakmbcfdgbaaGreat
