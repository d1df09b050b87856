/- Whether a record may be, the document's answer. (Printed by wip/genRecK.py.) -/
import Derived.Test.YtlkkmgimjjnhjaaMA09
set_option linter.unusedSimpArgs false
set_option linter.unusedVariables false
namespace Go.Proofs.Ytlkkmgimjjnhjaa
open Go.RowKit Rec
attribute [local go_sem ↓] Go.wp_at_zero Go.wp_at_succ

theorem blk_go {w w' : World} {g t : Nat} {cs : Array Value} (h : Blk w g t cs) (hb : Below w.heap.size w w') : Blk w' g t cs := h.below hb h.lt
theorem nor_of {p q lt : Bool} (h : (p || q) = !lt) : (!p && !q) = lt := by cases p <;> cases q <;> cases lt <;> simp_all


set_option maxHeartbeats 4000000 in
theorem rmay_3 (r : Rcd) (A A' : Option Addr) (c c' : Nat) (w : World) (hk : r.kind = 3) (hi : RcdIn w r A A') :
    Calls Try.prog 34 #[.agg (rcdCells r A c A' c')] w fun e w' => e = .returned (.bool (may r)) ∧ Below w.heap.size w w' := by
  obtain ⟨k, g, u, i, b, l, s, m⟩ := r
  dsimp only at hk
  subst hk
  unfold rcdCells
  dsimp only
  have HI := hide hi
  clear hi
  have HS := hide fun (W : World) (hb : Below w.heap.size w W) => refSame_any (⟨3, 0, u, ⟨#[]⟩, false, l, ⟨#[]⟩, []⟩) ⟨3, g, u, i, b, l, s, m⟩ A none A A' c 0 c c' W (HI.out.later hb).a Reads.none_ (HI.out.later hb).a (HI.out.later hb).k HI.out.na HI.out.na (Nat.zero_le _) HI.out.nk
  rw [show (decide ((⟨3, 0, u, ⟨#[]⟩, false, l, ⟨#[]⟩, []⟩ : Rcd) = ⟨3, g, u, i, b, l, s, m⟩)) = _ from own_eq ⟨3, g, u, i, b, l, s, m⟩ false true false false true false] at HS
  unfold rcdCells at HS
  have HU := hide fun W => refUrl_any u W
  have hm : may ⟨3, g, u, i, b, l, s, m⟩ = ((okUrl u && (decide (1 ≤ l.length) && decide (l.length ≤ 16))) && rising l && zeroBut ⟨3, g, u, i, b, l, s, m⟩ false true false false true false false) := by
    unfold may
    dsimp only
    rw [if_neg (by decide), if_neg (by decide), if_pos rfl, Bool.decide_and]
    generalize decide (1 ≤ l.length) = a1
    generalize decide (l.length ≤ 16) = a2
    generalize rising l = a3
    generalize okUrl u = a4
    cases a1 <;> cases a2 <;> cases a3 <;> cases a4 <;> rfl
  obtain ⟨x, hx⟩ : ∃ x, may ⟨3, g, u, i, b, l, s, m⟩ = x := ⟨_, rfl⟩
  rw [hx] at hm ⊢
  clear hx
  obtain ⟨z, hz⟩ : ∃ z, zeroBut ⟨3, g, u, i, b, l, s, m⟩ false true false false true false false = z := ⟨_, rfl⟩
  rw [hz] at HS hm
  clear hz
  obtain ⟨o, ho⟩ : ∃ z, okUrl u = z := ⟨_, rfl⟩
  rw [ho] at HU hm
  clear ho
  obtain ⟨n, hn⟩ : ∃ n, l.length = n := ⟨_, rfl⟩
  have HL := hide hn
  rw [hn] at HS hm ⊢
  clear hn
  obtain ⟨a1, ha1⟩ : ∃ a, decide (1 ≤ n) = a := ⟨_, rfl⟩
  obtain ⟨a2, ha2⟩ : ∃ a, decide (n ≤ 16) = a := ⟨_, rfl⟩
  rw [ha1, ha2] at hm
  have h1 : decide ((1 : Int) ≤ (n : Int)) = a1 := by rw [← ha1, decide_eq_decide]; omega
  have h2 : decide ((n : Int) ≤ 16) = a2 := by rw [← ha2, decide_eq_decide]; omega
  have hs : n ≤ 1000000000 := by rw [← HL.out]; exact HI.out.na
  clear ha1 ha2
  have HM := hide hm
  clear hm
  cases o
  · skip
    have hx : x = false := by rw [HM.out]; rfl
    subst hx
    clear HM
    go_enter Try.func34, Try.ntmps34
    go_wp2_with (go_at_call 62; refine (HU.out _).mono ?_; rintro e w' ⟨rfl, rfl⟩)
    refine wp_loop_rounds 1 ?_
    rw [rounds_succ]
    go_wp2
    all_goals go_ret
    all_goals first | exact ⟨ret_eq1 (bool_eq (rfl)), (by (first | assumption | exact below2 _ _ _ | (refine Below.drew ?_; first | assumption | exact below2 _ _ _ | (refine Below.drew ?_; first | assumption | exact below2 _ _ _ | (refine Below.drew ?_; first | assumption | exact below2 _ _ _) | (refine Below.setCell ?_ (by simp) _; first | assumption | exact below2 _ _ _)) | (refine Below.setCell ?_ (by simp) _; first | assumption | exact below2 _ _ _ | (refine Below.drew ?_; first | assumption | exact below2 _ _ _) | (refine Below.setCell ?_ (by simp) _; first | assumption | exact below2 _ _ _))) | (refine Below.setCell ?_ (by simp) _; first | assumption | exact below2 _ _ _ | (refine Below.drew ?_; first | assumption | exact below2 _ _ _ | (refine Below.drew ?_; first | assumption | exact below2 _ _ _) | (refine Below.setCell ?_ (by simp) _; first | assumption | exact below2 _ _ _)) | (refine Below.setCell ?_ (by simp) _; first | assumption | exact below2 _ _ _ | (refine Below.drew ?_; first | assumption | exact below2 _ _ _) | (refine Below.setCell ?_ (by simp) _; first | assumption | exact below2 _ _ _)))))⟩
  · cases a1
    · skip
      have hx : x = false := by rw [HM.out]; rfl
      subst hx
      clear HM
      go_enter Try.func34, Try.ntmps34
      go_wp2_with (go_at_call 62; refine (HU.out _).mono ?_; rintro e w' ⟨rfl, rfl⟩)
      refine wp_loop_rounds 1 ?_
      rw [rounds_succ]
      go_wp2
      all_goals go_ret
      all_goals first | exact ⟨ret_eq1 (bool_eq (rfl)), (by (first | assumption | exact below2 _ _ _ | (refine Below.drew ?_; first | assumption | exact below2 _ _ _ | (refine Below.drew ?_; first | assumption | exact below2 _ _ _ | (refine Below.drew ?_; first | assumption | exact below2 _ _ _) | (refine Below.setCell ?_ (by simp) _; first | assumption | exact below2 _ _ _)) | (refine Below.setCell ?_ (by simp) _; first | assumption | exact below2 _ _ _ | (refine Below.drew ?_; first | assumption | exact below2 _ _ _) | (refine Below.setCell ?_ (by simp) _; first | assumption | exact below2 _ _ _))) | (refine Below.setCell ?_ (by simp) _; first | assumption | exact below2 _ _ _ | (refine Below.drew ?_; first | assumption | exact below2 _ _ _ | (refine Below.drew ?_; first | assumption | exact below2 _ _ _) | (refine Below.setCell ?_ (by simp) _; first | assumption | exact below2 _ _ _)) | (refine Below.setCell ?_ (by simp) _; first | assumption | exact below2 _ _ _ | (refine Below.drew ?_; first | assumption | exact below2 _ _ _) | (refine Below.setCell ?_ (by simp) _; first | assumption | exact below2 _ _ _)))))⟩
    · cases a2
      · skip
        have hx : x = false := by rw [HM.out]; rfl
        subst hx
        clear HM
        go_enter Try.func34, Try.ntmps34
        go_wp2_with (go_at_call 62; refine (HU.out _).mono ?_; rintro e w' ⟨rfl, rfl⟩)
        refine wp_loop_rounds 1 ?_
        rw [rounds_succ]
        go_wp2
        all_goals go_ret
        all_goals first | exact ⟨ret_eq1 (bool_eq (rfl)), (by (first | assumption | exact below2 _ _ _ | (refine Below.drew ?_; first | assumption | exact below2 _ _ _ | (refine Below.drew ?_; first | assumption | exact below2 _ _ _ | (refine Below.drew ?_; first | assumption | exact below2 _ _ _) | (refine Below.setCell ?_ (by simp) _; first | assumption | exact below2 _ _ _)) | (refine Below.setCell ?_ (by simp) _; first | assumption | exact below2 _ _ _ | (refine Below.drew ?_; first | assumption | exact below2 _ _ _) | (refine Below.setCell ?_ (by simp) _; first | assumption | exact below2 _ _ _))) | (refine Below.setCell ?_ (by simp) _; first | assumption | exact below2 _ _ _ | (refine Below.drew ?_; first | assumption | exact below2 _ _ _ | (refine Below.drew ?_; first | assumption | exact below2 _ _ _) | (refine Below.setCell ?_ (by simp) _; first | assumption | exact below2 _ _ _)) | (refine Below.setCell ?_ (by simp) _; first | assumption | exact below2 _ _ _ | (refine Below.drew ?_; first | assumption | exact below2 _ _ _) | (refine Below.setCell ?_ (by simp) _; first | assumption | exact below2 _ _ _)))))⟩
      · have hx : x = (rising l && z) := HM.out
        have HX := hide hx
        clear hx HM
        have g1 : (1 : Int) ≤ (n : Int) := of_decide_eq_true h1
        have g2 : (n : Int) ≤ 16 := of_decide_eq_true h2
        clear h1 h2
        have HA := hide HI.out.a
        have HSm := hide HI.out.sa
        obtain ⟨b0, off, hA0, hb0, _⟩ := HA.out.ent (k := 0) (by rw [HL.out]; omega)
        subst hA0
        go_enter Try.func34, Try.ntmps34
        go_wp2_with (go_at_call 62; refine (HU.out _).mono ?_; rintro e w' ⟨rfl, rfl⟩)
        have k0 := (Blk.new w 28 #[.int .i8 3, .int .i64 g, .string u, .string i, .bool b, .slice (some ⟨b0, off, none⟩) n c, .string s, .slice A' m.length c']).alloc (.cells #[.int .i8 3, .int .i64 0, .string u, .string ⟨#[]⟩, .bool false, .slice (some ⟨b0, off, none⟩) n c, .string ⟨#[]⟩, .slice none 0 0] 28)
        have k1 := Blk.new (w.alloc (.cells #[.int .i8 3, .int .i64 g, .string u, .string i, .bool b, .slice (some ⟨b0, off, none⟩) n c, .string s, .slice A' m.length c'] 28)) 28 #[.int .i8 3, .int .i64 0, .string u, .string ⟨#[]⟩, .bool false, .slice (some ⟨b0, off, none⟩) n c, .string ⟨#[]⟩, .slice none 0 0]
        rw [World.size_alloc] at k1
        have kb := below2 w (.cells #[.int .i8 3, .int .i64 g, .string u, .string i, .bool b, .slice (some ⟨b0, off, none⟩) n c, .string s, .slice A' m.length c'] 28) (.cells #[.int .i8 3, .int .i64 0, .string u, .string ⟨#[]⟩, .bool false, .slice (some ⟨b0, off, none⟩) n c, .string ⟨#[]⟩, .slice none 0 0] 28)
        obtain ⟨W0, hW0⟩ : ∃ W0, ((w.alloc (.cells #[.int .i8 3, .int .i64 g, .string u, .string i, .bool b, .slice (some ⟨b0, off, none⟩) n c, .string s, .slice A' m.length c'] 28)).alloc (.cells #[.int .i8 3, .int .i64 0, .string u, .string ⟨#[]⟩, .bool false, .slice (some ⟨b0, off, none⟩) n c, .string ⟨#[]⟩, .slice none 0 0] 28)) = W0 := ⟨_, rfl⟩
        rw [hW0] at k0 k1 kb ⊢
        clear hW0
        have HK0 := hide k0
        have HK1 := hide k1
        have HB := hide kb
        clear k0 k1 kb
        go_loopg [4, 5] n (fun gk vo vi wr => ∃ k : Nat, gk = n - k ∧ k ≤ n ∧ vi = .int .i64 k ∧ (∃ o' : Bool, vo = .bool o' ∧ (o' = true → upTo l k) ∧ (o' = false → rising l = false)) ∧ Blk wr w.heap.size 28 #[.int .i8 3, .int .i64 g, .string u, .string i, .bool b, .slice (some ⟨b0, off, none⟩) n c, .string s, .slice A' m.length c'] ∧ Blk wr (w.heap.size + 1) 28 #[.int .i8 3, .int .i64 0, .string u, .string ⟨#[]⟩, .bool false, .slice (some ⟨b0, off, none⟩) n c, .string ⟨#[]⟩, .slice none 0 0] ∧ Below w.heap.size w wr)
        case atStart => exact ⟨0, rfl, Nat.zero_le _, rfl, ⟨true, rfl, fun _ => upTo.zero _, fun h => by cases h⟩, HK0.out, HK1.out, HB.out⟩
        case round =>
          obtain ⟨k, hg, hk, rfl, ⟨o', rfl, hu, hno⟩, k0, k1, kb⟩ := hrel
          clear HK0 HK1 HB
          have Hg := hide hg
          have Hu := hide hu
          have Hno := hide hno
          have K0 := hide k0
          have K1 := hide k1
          have Kb := hide kb
          clear hg hu hno
          have q5 : wr.cell? ⟨w.heap.size, 5, none⟩ = some (.slice (some ⟨b0, off, none⟩) n c) := k0.cell 5
          cases o'
          · have hx : x = false := by rw [HX.out, Hno.out (by first | rfl | trivial)]; rfl
            subst hx
            clear HX k0 k1 kb
            go_wp2
            all_goals go_ret
            all_goals exact ⟨rfl, Kb.out⟩
          · by_cases hlt : k < n
            · have h1 : k < l.length := by rw [HL.out]; exact hlt
              obtain ⟨b', off', e1, hb', hy⟩ := (HA.out.below Kb.out).ent h1
              injection e1 with e1
              injection e1 with e1 e2 _
              subst e1 e2
              obtain ⟨y, ey⟩ : ∃ y, l[k] = y := ⟨_, rfl⟩
              have hz := HSm.out k h1
              rw [ey] at hy hz
              have V := hide fun W => refKeeps_any y W hz
              have Ey := hide ey
              unfold entCells at V
              have x0 := hy.c0
              have x1 := hy.c1
              have x2 := hy.c2
              have x3 := hy.c3
              have x4 := hy.c4
              have x5 := hy.c5
              have x6 := hy.c6
              clear hy hz ey
              have j1 : (0 : Int) ≤ (k : Int) := by omega
              have j2 : (k : Int) < (n : Int) := by omega
              rcases Bool.eq_false_or_eq_true (keeps y) with hkx | hkx
              · rw [hkx] at V
                have Hkx := hide hkx
                clear hkx
                by_cases h0 : 0 < k
                · have h2 : k - 1 < l.length := by omega
                  obtain ⟨b', off', e1, hb', hy⟩ := (HA.out.below Kb.out).ent h2
                  injection e1 with e1
                  injection e1 with e1 e2 _
                  subst e1 e2
                  obtain ⟨y', ey⟩ : ∃ x, l[k - 1] = x := ⟨_, rfl⟩
                  rw [ey] at hy
                  have Ey' := hide ey
                  clear ey
                  have y0 := hy.c0
                  clear hy
                  have i0 : (0 : Int) < (k : Int) := by omega
                  have i5 : ((k : Int) == 0) = false := by rw [i_beq]; simp; omega
                  obtain ⟨lt, hlt'⟩ : ∃ c, Op.bytesLess (y'.id).toList (y.id).toList = c := ⟨_, rfl⟩
                  have Hlt := hide hlt'
                  obtain ⟨p, hp⟩ : ∃ c, Op.bytesLess (y.id).toList (y'.id).toList = c := ⟨_, rfl⟩
                  obtain ⟨q, hq⟩ : ∃ c, ((y.id).toList == (y'.id).toList) = c := ⟨_, rfl⟩
                  have htri := less_tri (y.id).toList (y'.id).toList
                  rw [hp, hq, hlt'] at htri
                  have Htri := hide htri
                  clear htri
                  have iw : IntKind.i64.wrap ((k : Int) - 1) = (k : Int) - 1 := IntWalk.i64_in _ (by omega)
                  have i1 : (0 : Int) ≤ (k : Int) - 1 := by omega
                  have i2 : ((k : Int) - 1).toNat = k - 1 := by omega
                  have i3 : (k : Int) - 1 < (n : Int) := by omega
                  have i4 : (1 : Int) ≤ (k : Int) := by omega
                  go_wp2
                  refine wp_region_held_drew (S := fun w' => w'.cell? ⟨w.heap.size, 5, none⟩ = some (.slice (some ⟨b0, off, none⟩) n c) ∧ w'.cell? ⟨b0, off + k * 7, none⟩ = some (.string y.id) ∧ w'.cell? ⟨b0, off + k * 7 + 1, none⟩ = some (.string y.title) ∧ w'.cell? ⟨b0, off + k * 7 + 2, none⟩ = some (.string y.link) ∧ w'.cell? ⟨b0, off + k * 7 + 3, none⟩ = some (.string y.author) ∧ w'.cell? ⟨b0, off + k * 7 + 4, none⟩ = some (.string y.content) ∧ w'.cell? ⟨b0, off + k * 7 + 5, none⟩ = some (.bool y.has) ∧ w'.cell? ⟨b0, off + k * 7 + 6, none⟩ = some (.int .i64 y.sec) ∧ w'.cell? ⟨b0, off + (k - 1) * 7, none⟩ = some (.string y'.id) ∧ Blk w' w.heap.size 28 #[.int .i8 3, .int .i64 g, .string u, .string i, .bool b, .slice (some ⟨b0, off, none⟩) n c, .string s, .slice A' m.length c'] ∧ Blk w' (w.heap.size + 1) 28 #[.int .i8 3, .int .i64 0, .string u, .string ⟨#[]⟩, .bool false, .slice (some ⟨b0, off, none⟩) n c, .string ⟨#[]⟩, .slice none 0 0] ∧ Below w.heap.size w w') (by kernel_rfl) ?_ (fun hHeld => ?_)
                  · (try dsimp only)
                    go_split_ands
                    refine ⟨?_, ?_, ?_, ?_, ?_, ?_, ?_, ?_, ?_, ?_, ?_, ?_⟩ <;> first | assumption | exact Below.drew (by assumption) | exact Blk.drew (by assumption) | exact cell_go (by assumption) (by assumption) | exact blk_go (by assumption) (by assumption) | exact below_go (by assumption) (by assumption) (Nat.le_refl _)
                  change wpAnyH _ _ _ _ _ 27 #[false, false, false, false, false, false, false, false, false, false, false, false, false, false, false, false, false, false, false, false, false, false, false, false, false, false, false] _ _
                  refine held_take (i := 0) (d := 66) (v := ?_) rfl rfl (by kernel_rfl) (by kernel_rfl) (by kernel_rfl) (fun _ _ _ h => h) (by kernel_rfl) hHeld ?_ ?_
                  rotate_left
                  · intro w hSw
                    (try dsimp only at hSw)
                    go_simp
                    first | done | with_reducible rfl
                  (try simp only [Act.put, List.setIfInBounds_toArray, List.set_cons_zero, List.set_cons_succ])
                  refine held_take (i := 1) (d := 67) (v := ?_) rfl rfl (by kernel_rfl) (by kernel_rfl) (by kernel_rfl) (fun _ _ _ h => h) (by kernel_rfl) hHeld ?_ ?_
                  rotate_left
                  · intro w hSw
                    (try dsimp only at hSw)
                    go_simp
                    first | done | with_reducible rfl
                  (try simp only [Act.put, List.setIfInBounds_toArray, List.set_cons_zero, List.set_cons_succ])
                  refine held_take (i := 2) (d := 68) (v := ?_) rfl rfl (by kernel_rfl) (by kernel_rfl) (by kernel_rfl) (fun _ _ _ h => h) (by kernel_rfl) hHeld ?_ ?_
                  rotate_left
                  · intro w hSw
                    (try dsimp only at hSw)
                    go_simp
                    first | done | with_reducible rfl
                  (try simp only [Act.put, List.setIfInBounds_toArray, List.set_cons_zero, List.set_cons_succ])
                  refine held_take (i := 3) (d := 69) (v := ?_) rfl rfl (by kernel_rfl) (by kernel_rfl) (by kernel_rfl) (fun _ _ _ h => h) (by kernel_rfl) hHeld ?_ ?_
                  rotate_left
                  · intro w hSw
                    (try dsimp only at hSw)
                    go_simp
                    first | done | with_reducible rfl
                  (try simp only [Act.put, List.setIfInBounds_toArray, List.set_cons_zero, List.set_cons_succ])
                  refine held_take (i := 4) (d := 70) (v := ?_) rfl rfl (by kernel_rfl) (by kernel_rfl) (by kernel_rfl) (fun _ _ _ h => h) (by kernel_rfl) hHeld ?_ ?_
                  rotate_left
                  · intro w hSw
                    (try dsimp only at hSw)
                    go_simp
                    first | done | with_reducible rfl
                  (try simp only [Act.put, List.setIfInBounds_toArray, List.set_cons_zero, List.set_cons_succ])
                  refine held_call (i := 5) rfl (by kernel_rfl) (by kernel_rfl) (fun K hK => ?_)
                  go_simp
                  go_at_call 28
                  refine (V.out _).mono ?_
                  rintro e w' ⟨rfl, hb⟩
                  (try dsimp only)
                  refine hK.out _ _ ?_ (fun hHeld' => ?_)
                  · (try dsimp only)
                    go_split_ands
                    refine ⟨?_, ?_, ?_, ?_, ?_, ?_, ?_, ?_, ?_, ?_, ?_, ?_⟩ <;> first | assumption | exact Below.drew (by assumption) | exact Blk.drew (by assumption) | exact cell_go (by assumption) (by assumption) | exact blk_go (by assumption) (by assumption) | exact below_go (by assumption) (by assumption) (Nat.le_refl _)
                  clear hK K hHeld
                  have hHeld := hHeld'
                  clear hHeld'
                  (try simp only [Act.put, List.setIfInBounds_toArray, List.set_cons_zero, List.set_cons_succ])
                  refine held_take (i := 6) (d := 72) (v := ?_) rfl rfl (by kernel_rfl) (by kernel_rfl) (by kernel_rfl) (fun _ _ _ h => h) (by kernel_rfl) hHeld ?_ ?_
                  rotate_left
                  · intro w hSw
                    (try dsimp only at hSw)
                    go_simp
                    first | done | with_reducible rfl
                  (try simp only [Act.put, List.setIfInBounds_toArray, List.set_cons_zero, List.set_cons_succ])
                  refine held_take (i := 7) (d := 73) (v := ?_) rfl rfl (by kernel_rfl) (by kernel_rfl) (by kernel_rfl) (fun _ _ _ h => h) (by kernel_rfl) hHeld ?_ ?_
                  rotate_left
                  · intro w hSw
                    (try dsimp only at hSw)
                    go_simp
                    first | done | with_reducible rfl
                  (try simp only [Act.put, List.setIfInBounds_toArray, List.set_cons_zero, List.set_cons_succ])
                  refine held_take (i := 8) (d := 74) (v := ?_) rfl rfl (by kernel_rfl) (by kernel_rfl) (by kernel_rfl) (fun _ _ _ h => h) (by kernel_rfl) hHeld ?_ ?_
                  rotate_left
                  · intro w hSw
                    (try dsimp only at hSw)
                    go_simp
                    first | done | with_reducible rfl
                  (try simp only [Act.put, List.setIfInBounds_toArray, List.set_cons_zero, List.set_cons_succ])
                  refine held_take (i := 9) (d := 75) (v := ?_) rfl rfl (by kernel_rfl) (by kernel_rfl) (by kernel_rfl) (fun _ _ _ h => h) (by kernel_rfl) hHeld ?_ ?_
                  rotate_left
                  · intro w hSw
                    (try dsimp only at hSw)
                    go_simp
                    first | done | with_reducible rfl
                  (try simp only [Act.put, List.setIfInBounds_toArray, List.set_cons_zero, List.set_cons_succ])
                  refine held_take (i := 10) (d := 76) (v := ?_) rfl rfl (by kernel_rfl) (by kernel_rfl) (by kernel_rfl) (fun _ _ _ h => h) (by kernel_rfl) hHeld ?_ ?_
                  rotate_left
                  · intro w hSw
                    (try dsimp only at hSw)
                    go_simp
                    first | done | with_reducible rfl
                  (try simp only [Act.put, List.setIfInBounds_toArray, List.set_cons_zero, List.set_cons_succ])
                  refine held_take (i := 11) (d := 77) (v := ?_) rfl rfl (by kernel_rfl) (by kernel_rfl) (by kernel_rfl) (fun _ _ _ h => h) (by kernel_rfl) hHeld ?_ ?_
                  rotate_left
                  · intro w hSw
                    (try dsimp only at hSw)
                    go_simp
                    first | done | with_reducible rfl
                  (try simp only [Act.put, List.setIfInBounds_toArray, List.set_cons_zero, List.set_cons_succ])
                  refine held_take (i := 12) (d := 78) (v := ?_) rfl rfl (by kernel_rfl) (by kernel_rfl) (by kernel_rfl) (fun _ _ _ h => h) (by kernel_rfl) hHeld ?_ ?_
                  rotate_left
                  · intro w hSw
                    (try dsimp only at hSw)
                    go_simp
                    first | done | with_reducible rfl
                  (try simp only [Act.put, List.setIfInBounds_toArray, List.set_cons_zero, List.set_cons_succ])
                  refine held_take (i := 13) (d := 79) (v := ?_) rfl rfl (by kernel_rfl) (by kernel_rfl) (by kernel_rfl) (fun _ _ _ h => h) (by kernel_rfl) hHeld ?_ ?_
                  rotate_left
                  · intro w hSw
                    (try dsimp only at hSw)
                    go_simp
                    first | done | with_reducible rfl
                  (try simp only [Act.put, List.setIfInBounds_toArray, List.set_cons_zero, List.set_cons_succ])
                  refine held_take (i := 14) (d := 80) (v := ?_) rfl rfl (by kernel_rfl) (by kernel_rfl) (by kernel_rfl) (fun _ _ _ h => h) (by kernel_rfl) hHeld ?_ ?_
                  rotate_left
                  · intro w hSw
                    (try dsimp only at hSw)
                    go_simp
                    first | done | with_reducible rfl
                  (try simp only [Act.put, List.setIfInBounds_toArray, List.set_cons_zero, List.set_cons_succ])
                  refine held_take (i := 15) (d := 81) (v := ?_) rfl rfl (by kernel_rfl) (by kernel_rfl) (by kernel_rfl) (fun _ _ _ h => h) (by kernel_rfl) hHeld ?_ ?_
                  rotate_left
                  · intro w hSw
                    (try dsimp only at hSw)
                    go_simp
                    first | done | with_reducible rfl
                  (try simp only [Act.put, List.setIfInBounds_toArray, List.set_cons_zero, List.set_cons_succ])
                  refine held_take (i := 16) (d := 82) (v := ?_) rfl rfl (by kernel_rfl) (by kernel_rfl) (by kernel_rfl) (fun _ _ _ h => h) (by kernel_rfl) hHeld ?_ ?_
                  rotate_left
                  · intro w hSw
                    (try dsimp only at hSw)
                    go_simp
                    first | done | with_reducible rfl
                  (try simp only [Act.put, List.setIfInBounds_toArray, List.set_cons_zero, List.set_cons_succ])
                  refine held_take (i := 17) (d := 83) (v := ?_) rfl rfl (by kernel_rfl) (by kernel_rfl) (by kernel_rfl) (fun _ _ _ h => h) (by kernel_rfl) hHeld ?_ ?_
                  rotate_left
                  · intro w hSw
                    (try dsimp only at hSw)
                    go_simp
                    first | done | with_reducible rfl
                  (try simp only [Act.put, List.setIfInBounds_toArray, List.set_cons_zero, List.set_cons_succ])
                  refine held_take (i := 18) (d := 84) (v := ?_) rfl rfl (by kernel_rfl) (by kernel_rfl) (by kernel_rfl) (fun _ _ _ h => h) (by kernel_rfl) hHeld ?_ ?_
                  rotate_left
                  · intro w hSw
                    (try dsimp only at hSw)
                    go_simp
                    first | done | with_reducible rfl
                  (try simp only [Act.put, List.setIfInBounds_toArray, List.set_cons_zero, List.set_cons_succ])
                  refine held_take (i := 19) (d := 85) (v := ?_) rfl rfl (by kernel_rfl) (by kernel_rfl) (by kernel_rfl) (fun _ _ _ h => h) (by kernel_rfl) hHeld ?_ ?_
                  rotate_left
                  · intro w hSw
                    (try dsimp only at hSw)
                    go_simp
                    first | done | with_reducible rfl
                  (try simp only [Act.put, List.setIfInBounds_toArray, List.set_cons_zero, List.set_cons_succ])
                  refine held_take (i := 20) (d := 86) (v := ?_) rfl rfl (by kernel_rfl) (by kernel_rfl) (by kernel_rfl) (fun _ _ _ h => h) (by kernel_rfl) hHeld ?_ ?_
                  rotate_left
                  · intro w hSw
                    (try dsimp only at hSw)
                    go_simp
                    first | done | with_reducible rfl
                  (try simp only [Act.put, List.setIfInBounds_toArray, List.set_cons_zero, List.set_cons_succ])
                  refine held_take (i := 21) (d := 87) (v := ?_) rfl rfl (by kernel_rfl) (by kernel_rfl) (by kernel_rfl) (fun _ _ _ h => h) (by kernel_rfl) hHeld ?_ ?_
                  rotate_left
                  · intro w hSw
                    (try dsimp only at hSw)
                    go_simp
                    first | done | with_reducible rfl
                  (try simp only [Act.put, List.setIfInBounds_toArray, List.set_cons_zero, List.set_cons_succ])
                  refine held_take (i := 22) (d := 88) (v := ?_) rfl rfl (by kernel_rfl) (by kernel_rfl) (by kernel_rfl) (fun _ _ _ h => h) (by kernel_rfl) hHeld ?_ ?_
                  rotate_left
                  · intro w hSw
                    (try dsimp only at hSw)
                    go_simp
                    first | done | with_reducible rfl
                  (try simp only [Act.put, List.setIfInBounds_toArray, List.set_cons_zero, List.set_cons_succ])
                  refine held_take (i := 23) (d := 89) (v := ?_) rfl rfl (by kernel_rfl) (by kernel_rfl) (by kernel_rfl) (fun _ _ _ h => h) (by kernel_rfl) hHeld ?_ ?_
                  rotate_left
                  · intro w hSw
                    (try dsimp only at hSw)
                    go_simp
                    first | done | with_reducible rfl
                  (try simp only [Act.put, List.setIfInBounds_toArray, List.set_cons_zero, List.set_cons_succ])
                  refine held_take (i := 24) (d := 90) (v := ?_) rfl rfl (by kernel_rfl) (by kernel_rfl) (by kernel_rfl) (fun _ _ _ h => h) (by kernel_rfl) hHeld ?_ ?_
                  rotate_left
                  · intro w hSw
                    (try dsimp only at hSw)
                    go_simp
                    first | done | with_reducible rfl
                  (try simp only [Act.put, List.setIfInBounds_toArray, List.set_cons_zero, List.set_cons_succ])
                  refine held_take (i := 25) (d := 91) (v := ?_) rfl rfl (by kernel_rfl) (by kernel_rfl) (by kernel_rfl) (fun _ _ _ h => h) (by kernel_rfl) hHeld ?_ ?_
                  rotate_left
                  · intro w hSw
                    (try dsimp only at hSw)
                    go_simp
                    first | done | with_reducible rfl
                  (try simp only [Act.put, List.setIfInBounds_toArray, List.set_cons_zero, List.set_cons_succ])
                  refine held_take (i := 26) (d := 4) (v := ?_) rfl rfl (by kernel_rfl) (by kernel_rfl) (by kernel_rfl) (fun _ _ _ h => h) (by kernel_rfl) hHeld ?_ ?_
                  rotate_left
                  · intro w hSw
                    (try dsimp only at hSw)
                    go_simp
                    first | done | with_reducible rfl
                  (try simp only [Act.put, List.setIfInBounds_toArray, List.set_cons_zero, List.set_cons_succ])
                  refine wpAnyH_done (by kernel_rfl) ?_ _
                  have K0' := hide hHeld.2.2.2.2.2.2.2.2.2.1
                  have K1' := hide hHeld.2.2.2.2.2.2.2.2.2.2.1
                  have Kb' := hide hHeld.2.2.2.2.2.2.2.2.2.2.2
                  clear iw i1 i2 i3 hHeld
                  clear hlt' hp hq
                  have hr := nor_of Htri.out
                  rw [hr]
                  clear hr
                  cases lt
                  · go_wp2
                    go_roundg (n - (k + 1))
                    case measure => have := Hg.out; omega
                    case rel => exact ⟨k + 1, rfl, by omega, by go_num, ⟨_, rfl, (fun h => by cases h), fun _ => rising_no2 h1 h0 (by rw [Ey.out, Ey'.out]; exact Hlt.out)⟩, K0'.out, K1'.out, Kb'.out⟩
                  · go_wp2
                    go_roundg (n - (k + 1))
                    case measure => have := Hg.out; omega
                    case rel => exact ⟨k + 1, rfl, by omega, by go_num, ⟨_, rfl, (fun _ => (Hu.out (by first | rfl | trivial)).next h1 (by rw [Ey.out]; exact Hkx.out) (fun _ => by rw [Ey.out, Ey'.out]; exact Hlt.out)), (fun h => by cases h)⟩, K0'.out, K1'.out, Kb'.out⟩
                · have i4 : ((k : Int) == 0) = true := by rw [i_beq]; simp; omega
                  go_wp2
                  refine wp_region_held_drew (S := fun w' => w'.cell? ⟨w.heap.size, 5, none⟩ = some (.slice (some ⟨b0, off, none⟩) n c) ∧ w'.cell? ⟨b0, off + k * 7, none⟩ = some (.string y.id) ∧ w'.cell? ⟨b0, off + k * 7 + 1, none⟩ = some (.string y.title) ∧ w'.cell? ⟨b0, off + k * 7 + 2, none⟩ = some (.string y.link) ∧ w'.cell? ⟨b0, off + k * 7 + 3, none⟩ = some (.string y.author) ∧ w'.cell? ⟨b0, off + k * 7 + 4, none⟩ = some (.string y.content) ∧ w'.cell? ⟨b0, off + k * 7 + 5, none⟩ = some (.bool y.has) ∧ w'.cell? ⟨b0, off + k * 7 + 6, none⟩ = some (.int .i64 y.sec) ∧ Blk w' w.heap.size 28 #[.int .i8 3, .int .i64 g, .string u, .string i, .bool b, .slice (some ⟨b0, off, none⟩) n c, .string s, .slice A' m.length c'] ∧ Blk w' (w.heap.size + 1) 28 #[.int .i8 3, .int .i64 0, .string u, .string ⟨#[]⟩, .bool false, .slice (some ⟨b0, off, none⟩) n c, .string ⟨#[]⟩, .slice none 0 0] ∧ Below w.heap.size w w') (by kernel_rfl) ?_ (fun hHeld => ?_)
                  · (try dsimp only)
                    go_split_ands
                    refine ⟨?_, ?_, ?_, ?_, ?_, ?_, ?_, ?_, ?_, ?_, ?_⟩ <;> first | assumption | exact Below.drew (by assumption) | exact Blk.drew (by assumption) | exact cell_go (by assumption) (by assumption) | exact blk_go (by assumption) (by assumption) | exact below_go (by assumption) (by assumption) (Nat.le_refl _)
                  change wpAnyH _ _ _ _ _ 27 #[false, false, false, false, false, false, false, false, false, false, false, false, false, false, false, false, false, false, false, false, false, false, false, false, false, false, false] _ _
                  refine held_take (i := 0) (d := 66) (v := ?_) rfl rfl (by kernel_rfl) (by kernel_rfl) (by kernel_rfl) (fun _ _ _ h => h) (by kernel_rfl) hHeld ?_ ?_
                  rotate_left
                  · intro w hSw
                    (try dsimp only at hSw)
                    go_simp
                    first | done | with_reducible rfl
                  (try simp only [Act.put, List.setIfInBounds_toArray, List.set_cons_zero, List.set_cons_succ])
                  refine held_take (i := 1) (d := 67) (v := ?_) rfl rfl (by kernel_rfl) (by kernel_rfl) (by kernel_rfl) (fun _ _ _ h => h) (by kernel_rfl) hHeld ?_ ?_
                  rotate_left
                  · intro w hSw
                    (try dsimp only at hSw)
                    go_simp
                    first | done | with_reducible rfl
                  (try simp only [Act.put, List.setIfInBounds_toArray, List.set_cons_zero, List.set_cons_succ])
                  refine held_take (i := 2) (d := 68) (v := ?_) rfl rfl (by kernel_rfl) (by kernel_rfl) (by kernel_rfl) (fun _ _ _ h => h) (by kernel_rfl) hHeld ?_ ?_
                  rotate_left
                  · intro w hSw
                    (try dsimp only at hSw)
                    go_simp
                    first | done | with_reducible rfl
                  (try simp only [Act.put, List.setIfInBounds_toArray, List.set_cons_zero, List.set_cons_succ])
                  refine held_take (i := 3) (d := 69) (v := ?_) rfl rfl (by kernel_rfl) (by kernel_rfl) (by kernel_rfl) (fun _ _ _ h => h) (by kernel_rfl) hHeld ?_ ?_
                  rotate_left
                  · intro w hSw
                    (try dsimp only at hSw)
                    go_simp
                    first | done | with_reducible rfl
                  (try simp only [Act.put, List.setIfInBounds_toArray, List.set_cons_zero, List.set_cons_succ])
                  refine held_take (i := 4) (d := 70) (v := ?_) rfl rfl (by kernel_rfl) (by kernel_rfl) (by kernel_rfl) (fun _ _ _ h => h) (by kernel_rfl) hHeld ?_ ?_
                  rotate_left
                  · intro w hSw
                    (try dsimp only at hSw)
                    go_simp
                    first | done | with_reducible rfl
                  (try simp only [Act.put, List.setIfInBounds_toArray, List.set_cons_zero, List.set_cons_succ])
                  refine held_call (i := 5) rfl (by kernel_rfl) (by kernel_rfl) (fun K hK => ?_)
                  go_simp
                  go_at_call 28
                  refine (V.out _).mono ?_
                  rintro e w' ⟨rfl, hb⟩
                  (try dsimp only)
                  refine hK.out _ _ ?_ (fun hHeld' => ?_)
                  · (try dsimp only)
                    go_split_ands
                    refine ⟨?_, ?_, ?_, ?_, ?_, ?_, ?_, ?_, ?_, ?_, ?_⟩ <;> first | assumption | exact Below.drew (by assumption) | exact Blk.drew (by assumption) | exact cell_go (by assumption) (by assumption) | exact blk_go (by assumption) (by assumption) | exact below_go (by assumption) (by assumption) (Nat.le_refl _)
                  clear hK K hHeld
                  have hHeld := hHeld'
                  clear hHeld'
                  (try simp only [Act.put, List.setIfInBounds_toArray, List.set_cons_zero, List.set_cons_succ])
                  refine held_take (i := 6) (d := 72) (v := ?_) rfl rfl (by kernel_rfl) (by kernel_rfl) (by kernel_rfl) (fun _ _ _ h => h) (by kernel_rfl) hHeld ?_ ?_
                  rotate_left
                  · intro w hSw
                    (try dsimp only at hSw)
                    go_simp
                    first | done | with_reducible rfl
                  (try simp only [Act.put, List.setIfInBounds_toArray, List.set_cons_zero, List.set_cons_succ])
                  refine held_take (i := 7) (d := 73) (v := ?_) rfl rfl (by kernel_rfl) (by kernel_rfl) (by kernel_rfl) (fun _ _ _ h => h) (by kernel_rfl) hHeld ?_ ?_
                  rotate_left
                  · intro w hSw
                    (try dsimp only at hSw)
                    go_simp
                    first | done | with_reducible rfl
                  (try simp only [Act.put, List.setIfInBounds_toArray, List.set_cons_zero, List.set_cons_succ])
                  refine held_take (i := 8) (d := 74) (v := ?_) rfl rfl (by kernel_rfl) (by kernel_rfl) (by kernel_rfl) (fun _ _ _ h => h) (by kernel_rfl) hHeld ?_ ?_
                  rotate_left
                  · intro w hSw
                    (try dsimp only at hSw)
                    go_simp
                    first | done | with_reducible rfl
                  (try simp only [Act.put, List.setIfInBounds_toArray, List.set_cons_zero, List.set_cons_succ])
                  refine held_take (i := 9) (d := 75) (v := ?_) rfl rfl (by kernel_rfl) (by kernel_rfl) (by kernel_rfl) (fun _ _ _ h => h) (by kernel_rfl) hHeld ?_ ?_
                  rotate_left
                  · intro w hSw
                    (try dsimp only at hSw)
                    go_simp
                    first | done | with_reducible rfl
                  (try simp only [Act.put, List.setIfInBounds_toArray, List.set_cons_zero, List.set_cons_succ])
                  refine held_skip (i := 10) (d := 76) rfl rfl (by kernel_rfl) (by kernel_rfl) (by kernel_rfl) (fun _ _ _ h => h) (by kernel_rfl) hHeld ?_
                  (try simp only [Act.put, List.setIfInBounds_toArray, List.set_cons_zero, List.set_cons_succ])
                  refine held_skip (i := 11) (d := 77) rfl rfl (by kernel_rfl) (by kernel_rfl) (by kernel_rfl) (fun _ _ _ h => h) (by kernel_rfl) hHeld ?_
                  (try simp only [Act.put, List.setIfInBounds_toArray, List.set_cons_zero, List.set_cons_succ])
                  refine held_skip (i := 12) (d := 78) rfl rfl (by kernel_rfl) (by kernel_rfl) (by kernel_rfl) (fun _ _ _ h => h) (by kernel_rfl) hHeld ?_
                  (try simp only [Act.put, List.setIfInBounds_toArray, List.set_cons_zero, List.set_cons_succ])
                  refine held_skip (i := 13) (d := 79) rfl rfl (by kernel_rfl) (by kernel_rfl) (by kernel_rfl) (fun _ _ _ h => h) (by kernel_rfl) hHeld ?_
                  (try simp only [Act.put, List.setIfInBounds_toArray, List.set_cons_zero, List.set_cons_succ])
                  refine held_skip (i := 14) (d := 80) rfl rfl (by kernel_rfl) (by kernel_rfl) (by kernel_rfl) (fun _ _ _ h => h) (by kernel_rfl) hHeld ?_
                  (try simp only [Act.put, List.setIfInBounds_toArray, List.set_cons_zero, List.set_cons_succ])
                  refine held_skip (i := 15) (d := 81) rfl rfl (by kernel_rfl) (by kernel_rfl) (by kernel_rfl) (fun _ _ _ h => h) (by kernel_rfl) hHeld ?_
                  (try simp only [Act.put, List.setIfInBounds_toArray, List.set_cons_zero, List.set_cons_succ])
                  refine held_skip (i := 16) (d := 82) rfl rfl (by kernel_rfl) (by kernel_rfl) (by kernel_rfl) (fun _ _ _ h => h) (by kernel_rfl) hHeld ?_
                  (try simp only [Act.put, List.setIfInBounds_toArray, List.set_cons_zero, List.set_cons_succ])
                  refine held_skip (i := 17) (d := 83) rfl rfl (by kernel_rfl) (by kernel_rfl) (by kernel_rfl) (fun _ _ _ h => h) (by kernel_rfl) hHeld ?_
                  (try simp only [Act.put, List.setIfInBounds_toArray, List.set_cons_zero, List.set_cons_succ])
                  refine held_skip (i := 18) (d := 84) rfl rfl (by kernel_rfl) (by kernel_rfl) (by kernel_rfl) (fun _ _ _ h => h) (by kernel_rfl) hHeld ?_
                  (try simp only [Act.put, List.setIfInBounds_toArray, List.set_cons_zero, List.set_cons_succ])
                  refine held_skip (i := 19) (d := 85) rfl rfl (by kernel_rfl) (by kernel_rfl) (by kernel_rfl) (fun _ _ _ h => h) (by kernel_rfl) hHeld ?_
                  (try simp only [Act.put, List.setIfInBounds_toArray, List.set_cons_zero, List.set_cons_succ])
                  refine held_skip (i := 20) (d := 86) rfl rfl (by kernel_rfl) (by kernel_rfl) (by kernel_rfl) (fun _ _ _ h => h) (by kernel_rfl) hHeld ?_
                  (try simp only [Act.put, List.setIfInBounds_toArray, List.set_cons_zero, List.set_cons_succ])
                  refine held_skip (i := 21) (d := 87) rfl rfl (by kernel_rfl) (by kernel_rfl) (by kernel_rfl) (fun _ _ _ h => h) (by kernel_rfl) hHeld ?_
                  (try simp only [Act.put, List.setIfInBounds_toArray, List.set_cons_zero, List.set_cons_succ])
                  refine held_skip (i := 22) (d := 88) rfl rfl (by kernel_rfl) (by kernel_rfl) (by kernel_rfl) (fun _ _ _ h => h) (by kernel_rfl) hHeld ?_
                  (try simp only [Act.put, List.setIfInBounds_toArray, List.set_cons_zero, List.set_cons_succ])
                  refine held_skip (i := 23) (d := 89) rfl rfl (by kernel_rfl) (by kernel_rfl) (by kernel_rfl) (fun _ _ _ h => h) (by kernel_rfl) hHeld ?_
                  (try simp only [Act.put, List.setIfInBounds_toArray, List.set_cons_zero, List.set_cons_succ])
                  refine held_take (i := 24) (d := 90) (v := ?_) rfl rfl (by kernel_rfl) (by kernel_rfl) (by kernel_rfl) (fun _ _ _ h => h) (by kernel_rfl) hHeld ?_ ?_
                  rotate_left
                  · intro w hSw
                    (try dsimp only at hSw)
                    go_simp
                    first | done | with_reducible rfl
                  (try simp only [Act.put, List.setIfInBounds_toArray, List.set_cons_zero, List.set_cons_succ])
                  refine held_take (i := 25) (d := 91) (v := ?_) rfl rfl (by kernel_rfl) (by kernel_rfl) (by kernel_rfl) (fun _ _ _ h => h) (by kernel_rfl) hHeld ?_ ?_
                  rotate_left
                  · intro w hSw
                    (try dsimp only at hSw)
                    go_simp
                    first | done | with_reducible rfl
                  (try simp only [Act.put, List.setIfInBounds_toArray, List.set_cons_zero, List.set_cons_succ])
                  refine held_take (i := 26) (d := 4) (v := ?_) rfl rfl (by kernel_rfl) (by kernel_rfl) (by kernel_rfl) (fun _ _ _ h => h) (by kernel_rfl) hHeld ?_ ?_
                  rotate_left
                  · intro w hSw
                    (try dsimp only at hSw)
                    go_simp
                    first | done | with_reducible rfl
                  (try simp only [Act.put, List.setIfInBounds_toArray, List.set_cons_zero, List.set_cons_succ])
                  refine wpAnyH_done (by kernel_rfl) ?_ _
                  have K0' := hide hHeld.2.2.2.2.2.2.2.2.1
                  have K1' := hide hHeld.2.2.2.2.2.2.2.2.2.1
                  have Kb' := hide hHeld.2.2.2.2.2.2.2.2.2.2
                  clear hHeld
                  go_wp2
                  go_roundg (n - (k + 1))
                  case measure => have := Hg.out; omega
                  case rel => exact ⟨k + 1, rfl, by omega, by go_num, ⟨_, rfl, fun _ => (Hu.out (by first | rfl | trivial)).next h1 (by rw [Ey.out]; exact Hkx.out) (fun h => absurd h h0), (fun h => by cases h)⟩, K0'.out, K1'.out, Kb'.out⟩
              · rw [hkx] at V
                have Hkx := hide hkx
                clear hkx
                go_wp2
                refine wp_region_held_drew (S := fun w' => w'.cell? ⟨w.heap.size, 5, none⟩ = some (.slice (some ⟨b0, off, none⟩) n c) ∧ w'.cell? ⟨b0, off + k * 7, none⟩ = some (.string y.id) ∧ w'.cell? ⟨b0, off + k * 7 + 1, none⟩ = some (.string y.title) ∧ w'.cell? ⟨b0, off + k * 7 + 2, none⟩ = some (.string y.link) ∧ w'.cell? ⟨b0, off + k * 7 + 3, none⟩ = some (.string y.author) ∧ w'.cell? ⟨b0, off + k * 7 + 4, none⟩ = some (.string y.content) ∧ w'.cell? ⟨b0, off + k * 7 + 5, none⟩ = some (.bool y.has) ∧ w'.cell? ⟨b0, off + k * 7 + 6, none⟩ = some (.int .i64 y.sec) ∧ Blk w' w.heap.size 28 #[.int .i8 3, .int .i64 g, .string u, .string i, .bool b, .slice (some ⟨b0, off, none⟩) n c, .string s, .slice A' m.length c'] ∧ Blk w' (w.heap.size + 1) 28 #[.int .i8 3, .int .i64 0, .string u, .string ⟨#[]⟩, .bool false, .slice (some ⟨b0, off, none⟩) n c, .string ⟨#[]⟩, .slice none 0 0] ∧ Below w.heap.size w w') (by kernel_rfl) ?_ (fun hHeld => ?_)
                · (try dsimp only)
                  go_split_ands
                  refine ⟨?_, ?_, ?_, ?_, ?_, ?_, ?_, ?_, ?_, ?_, ?_⟩ <;> first | assumption | exact Below.drew (by assumption) | exact Blk.drew (by assumption) | exact cell_go (by assumption) (by assumption) | exact blk_go (by assumption) (by assumption) | exact below_go (by assumption) (by assumption) (Nat.le_refl _)
                change wpAnyH _ _ _ _ _ 27 #[false, false, false, false, false, false, false, false, false, false, false, false, false, false, false, false, false, false, false, false, false, false, false, false, false, false, false] _ _
                refine held_take (i := 0) (d := 66) (v := ?_) rfl rfl (by kernel_rfl) (by kernel_rfl) (by kernel_rfl) (fun _ _ _ h => h) (by kernel_rfl) hHeld ?_ ?_
                rotate_left
                · intro w hSw
                  (try dsimp only at hSw)
                  go_simp
                  first | done | with_reducible rfl
                (try simp only [Act.put, List.setIfInBounds_toArray, List.set_cons_zero, List.set_cons_succ])
                refine held_take (i := 1) (d := 67) (v := ?_) rfl rfl (by kernel_rfl) (by kernel_rfl) (by kernel_rfl) (fun _ _ _ h => h) (by kernel_rfl) hHeld ?_ ?_
                rotate_left
                · intro w hSw
                  (try dsimp only at hSw)
                  go_simp
                  first | done | with_reducible rfl
                (try simp only [Act.put, List.setIfInBounds_toArray, List.set_cons_zero, List.set_cons_succ])
                refine held_take (i := 2) (d := 68) (v := ?_) rfl rfl (by kernel_rfl) (by kernel_rfl) (by kernel_rfl) (fun _ _ _ h => h) (by kernel_rfl) hHeld ?_ ?_
                rotate_left
                · intro w hSw
                  (try dsimp only at hSw)
                  go_simp
                  first | done | with_reducible rfl
                (try simp only [Act.put, List.setIfInBounds_toArray, List.set_cons_zero, List.set_cons_succ])
                refine held_take (i := 3) (d := 69) (v := ?_) rfl rfl (by kernel_rfl) (by kernel_rfl) (by kernel_rfl) (fun _ _ _ h => h) (by kernel_rfl) hHeld ?_ ?_
                rotate_left
                · intro w hSw
                  (try dsimp only at hSw)
                  go_simp
                  first | done | with_reducible rfl
                (try simp only [Act.put, List.setIfInBounds_toArray, List.set_cons_zero, List.set_cons_succ])
                refine held_take (i := 4) (d := 70) (v := ?_) rfl rfl (by kernel_rfl) (by kernel_rfl) (by kernel_rfl) (fun _ _ _ h => h) (by kernel_rfl) hHeld ?_ ?_
                rotate_left
                · intro w hSw
                  (try dsimp only at hSw)
                  go_simp
                  first | done | with_reducible rfl
                (try simp only [Act.put, List.setIfInBounds_toArray, List.set_cons_zero, List.set_cons_succ])
                refine held_call (i := 5) rfl (by kernel_rfl) (by kernel_rfl) (fun K hK => ?_)
                go_simp
                go_at_call 28
                refine (V.out _).mono ?_
                rintro e w' ⟨rfl, hb⟩
                (try dsimp only)
                refine hK.out _ _ ?_ (fun hHeld' => ?_)
                · (try dsimp only)
                  go_split_ands
                  refine ⟨?_, ?_, ?_, ?_, ?_, ?_, ?_, ?_, ?_, ?_, ?_⟩ <;> first | assumption | exact Below.drew (by assumption) | exact Blk.drew (by assumption) | exact cell_go (by assumption) (by assumption) | exact blk_go (by assumption) (by assumption) | exact below_go (by assumption) (by assumption) (Nat.le_refl _)
                clear hK K hHeld
                have hHeld := hHeld'
                clear hHeld'
                (try simp only [Act.put, List.setIfInBounds_toArray, List.set_cons_zero, List.set_cons_succ])
                refine held_take (i := 6) (d := 72) (v := ?_) rfl rfl (by kernel_rfl) (by kernel_rfl) (by kernel_rfl) (fun _ _ _ h => h) (by kernel_rfl) hHeld ?_ ?_
                rotate_left
                · intro w hSw
                  (try dsimp only at hSw)
                  go_simp
                  first | done | with_reducible rfl
                (try simp only [Act.put, List.setIfInBounds_toArray, List.set_cons_zero, List.set_cons_succ])
                refine held_skip (i := 7) (d := 73) rfl rfl (by kernel_rfl) (by kernel_rfl) (by kernel_rfl) (fun _ _ _ h => h) (by kernel_rfl) hHeld ?_
                (try simp only [Act.put, List.setIfInBounds_toArray, List.set_cons_zero, List.set_cons_succ])
                refine held_skip (i := 8) (d := 74) rfl rfl (by kernel_rfl) (by kernel_rfl) (by kernel_rfl) (fun _ _ _ h => h) (by kernel_rfl) hHeld ?_
                (try simp only [Act.put, List.setIfInBounds_toArray, List.set_cons_zero, List.set_cons_succ])
                refine held_skip (i := 9) (d := 75) rfl rfl (by kernel_rfl) (by kernel_rfl) (by kernel_rfl) (fun _ _ _ h => h) (by kernel_rfl) hHeld ?_
                (try simp only [Act.put, List.setIfInBounds_toArray, List.set_cons_zero, List.set_cons_succ])
                refine held_skip (i := 10) (d := 76) rfl rfl (by kernel_rfl) (by kernel_rfl) (by kernel_rfl) (fun _ _ _ h => h) (by kernel_rfl) hHeld ?_
                (try simp only [Act.put, List.setIfInBounds_toArray, List.set_cons_zero, List.set_cons_succ])
                refine held_skip (i := 11) (d := 77) rfl rfl (by kernel_rfl) (by kernel_rfl) (by kernel_rfl) (fun _ _ _ h => h) (by kernel_rfl) hHeld ?_
                (try simp only [Act.put, List.setIfInBounds_toArray, List.set_cons_zero, List.set_cons_succ])
                refine held_skip (i := 12) (d := 78) rfl rfl (by kernel_rfl) (by kernel_rfl) (by kernel_rfl) (fun _ _ _ h => h) (by kernel_rfl) hHeld ?_
                (try simp only [Act.put, List.setIfInBounds_toArray, List.set_cons_zero, List.set_cons_succ])
                refine held_skip (i := 13) (d := 79) rfl rfl (by kernel_rfl) (by kernel_rfl) (by kernel_rfl) (fun _ _ _ h => h) (by kernel_rfl) hHeld ?_
                (try simp only [Act.put, List.setIfInBounds_toArray, List.set_cons_zero, List.set_cons_succ])
                refine held_skip (i := 14) (d := 80) rfl rfl (by kernel_rfl) (by kernel_rfl) (by kernel_rfl) (fun _ _ _ h => h) (by kernel_rfl) hHeld ?_
                (try simp only [Act.put, List.setIfInBounds_toArray, List.set_cons_zero, List.set_cons_succ])
                refine held_skip (i := 15) (d := 81) rfl rfl (by kernel_rfl) (by kernel_rfl) (by kernel_rfl) (fun _ _ _ h => h) (by kernel_rfl) hHeld ?_
                (try simp only [Act.put, List.setIfInBounds_toArray, List.set_cons_zero, List.set_cons_succ])
                refine held_skip (i := 16) (d := 82) rfl rfl (by kernel_rfl) (by kernel_rfl) (by kernel_rfl) (fun _ _ _ h => h) (by kernel_rfl) hHeld ?_
                (try simp only [Act.put, List.setIfInBounds_toArray, List.set_cons_zero, List.set_cons_succ])
                refine held_skip (i := 17) (d := 83) rfl rfl (by kernel_rfl) (by kernel_rfl) (by kernel_rfl) (fun _ _ _ h => h) (by kernel_rfl) hHeld ?_
                (try simp only [Act.put, List.setIfInBounds_toArray, List.set_cons_zero, List.set_cons_succ])
                refine held_skip (i := 18) (d := 84) rfl rfl (by kernel_rfl) (by kernel_rfl) (by kernel_rfl) (fun _ _ _ h => h) (by kernel_rfl) hHeld ?_
                (try simp only [Act.put, List.setIfInBounds_toArray, List.set_cons_zero, List.set_cons_succ])
                refine held_skip (i := 19) (d := 85) rfl rfl (by kernel_rfl) (by kernel_rfl) (by kernel_rfl) (fun _ _ _ h => h) (by kernel_rfl) hHeld ?_
                (try simp only [Act.put, List.setIfInBounds_toArray, List.set_cons_zero, List.set_cons_succ])
                refine held_skip (i := 20) (d := 86) rfl rfl (by kernel_rfl) (by kernel_rfl) (by kernel_rfl) (fun _ _ _ h => h) (by kernel_rfl) hHeld ?_
                (try simp only [Act.put, List.setIfInBounds_toArray, List.set_cons_zero, List.set_cons_succ])
                refine held_skip (i := 21) (d := 87) rfl rfl (by kernel_rfl) (by kernel_rfl) (by kernel_rfl) (fun _ _ _ h => h) (by kernel_rfl) hHeld ?_
                (try simp only [Act.put, List.setIfInBounds_toArray, List.set_cons_zero, List.set_cons_succ])
                refine held_skip (i := 22) (d := 88) rfl rfl (by kernel_rfl) (by kernel_rfl) (by kernel_rfl) (fun _ _ _ h => h) (by kernel_rfl) hHeld ?_
                (try simp only [Act.put, List.setIfInBounds_toArray, List.set_cons_zero, List.set_cons_succ])
                refine held_skip (i := 23) (d := 89) rfl rfl (by kernel_rfl) (by kernel_rfl) (by kernel_rfl) (fun _ _ _ h => h) (by kernel_rfl) hHeld ?_
                (try simp only [Act.put, List.setIfInBounds_toArray, List.set_cons_zero, List.set_cons_succ])
                refine held_skip (i := 24) (d := 90) rfl rfl (by kernel_rfl) (by kernel_rfl) (by kernel_rfl) (fun _ _ _ h => h) (by kernel_rfl) hHeld ?_
                (try simp only [Act.put, List.setIfInBounds_toArray, List.set_cons_zero, List.set_cons_succ])
                refine held_take (i := 25) (d := 91) (v := ?_) rfl rfl (by kernel_rfl) (by kernel_rfl) (by kernel_rfl) (fun _ _ _ h => h) (by kernel_rfl) hHeld ?_ ?_
                rotate_left
                · intro w hSw
                  (try dsimp only at hSw)
                  go_simp
                  first | done | with_reducible rfl
                (try simp only [Act.put, List.setIfInBounds_toArray, List.set_cons_zero, List.set_cons_succ])
                refine held_take (i := 26) (d := 4) (v := ?_) rfl rfl (by kernel_rfl) (by kernel_rfl) (by kernel_rfl) (fun _ _ _ h => h) (by kernel_rfl) hHeld ?_ ?_
                rotate_left
                · intro w hSw
                  (try dsimp only at hSw)
                  go_simp
                  first | done | with_reducible rfl
                (try simp only [Act.put, List.setIfInBounds_toArray, List.set_cons_zero, List.set_cons_succ])
                refine wpAnyH_done (by kernel_rfl) ?_ _
                have K0' := hide hHeld.2.2.2.2.2.2.2.2.1
                have K1' := hide hHeld.2.2.2.2.2.2.2.2.2.1
                have Kb' := hide hHeld.2.2.2.2.2.2.2.2.2.2
                clear hHeld
                go_wp2
                go_roundg (n - (k + 1))
                case measure => have := Hg.out; omega
                case rel => exact ⟨k + 1, rfl, by omega, by go_num, ⟨_, rfl, (fun h => by cases h), fun _ => rising_no1 h1 (by rw [Ey.out]; exact Hkx.out)⟩, K0'.out, K1'.out, Kb'.out⟩
            · have hx : x = z := by rw [HX.out, (Hu.out (by first | rfl | trivial)).all (by rw [HL.out]; omega)]; rfl
              subst hx
              clear HX
              have r0 := k0.cell 0
              have s0 := k1.cell 0
              have r1 := k0.cell 1
              have s1 := k1.cell 1
              have r2 := k0.cell 2
              have s2 := k1.cell 2
              have r3 := k0.cell 3
              have s3 := k1.cell 3
              have r4 := k0.cell 4
              have s4 := k1.cell 4
              have r5 := k0.cell 5
              have s5 := k1.cell 5
              have r6 := k0.cell 6
              have s6 := k1.cell 6
              have r7 := k0.cell 7
              have s7 := k1.cell 7
              clear k0 k1
              go_wp2_with (go_at_call 18; refine (HS.out _ Kb.out).mono ?_; rintro e w' ⟨rfl, hb⟩)
              go_ret
              exact ⟨rfl, below_go Kb.out hb (Nat.le_refl _)⟩


theorem rmay_any (r : Rcd) (A A' : Option Addr) (c c' : Nat) (w : World) (hi : RcdIn w r A A') :
    Calls Try.prog 34 #[.agg (rcdCells r A c A' c')] w fun e w' => e = .returned (.bool (may r)) ∧ Below w.heap.size w w' := by
  by_cases hk : 0 ≤ r.kind ∧ r.kind ≤ 6
  · have : r.kind = 0 ∨ r.kind = 1 ∨ r.kind = 2 ∨ r.kind = 3 ∨ r.kind = 4 ∨ r.kind = 5 ∨ r.kind = 6 := by omega
    rcases this with h | h | h | h | h | h | h
    · exact rmay_0 r A A' c c' w h hi
    · exact rmay_1 r A A' c c' w h hi
    · exact rmay_2 r A A' c c' w h hi
    · exact rmay_3 r A A' c c' w h hi
    · exact rmay_4 r A A' c c' w h hi
    · exact rmay_5 r A A' c c' w h hi
    · exact rmay_6 r A A' c c' w h hi
  · exact rmay_none r A A' c c' w hk
end Go.Proofs.Ytlkkmgimjjnhjaa
