/- Bozo: what stands at the front. -/
import Derived.Test.YtaickkaoglohgaaBv33
set_option linter.unusedSimpArgs false
set_option linter.unusedVariables false
namespace Go.Proofs.Ytaickkaoglohgaa
open Go.RowKit Tk Sx

theorem bhas_enter (args : Array Value) (w : World) : (callFunc 26 args).run Try.prog w = .ok (.enter 26 args) w := callFunc_body Try.func26 (by kernel_rfl) (by kernel_rfl) _ _
theorem bhas_any (P b : Nat) (D q : L) (w : World) (hb : w.cell? ⟨b, 0, none⟩ = some (.pointer (some ⟨P, 0, none⟩))) (hP : w.cell? ⟨P, 0, none⟩ = some (.string (bstr D))) :
    Calls Try.prog 26 #[.string (bstr q), .pointer (some ⟨b, 0, none⟩)] w fun e w' => e = .returned (.bool (q.isPrefixOf D)) ∧ w' = w := by
  have HP := hide (fun W => bpre_any D q W)
  go_enter Try.func26, Try.ntmps26
  go_wp2_with fail
  refine cq (HP.out _) ?_
  go_wp2
  go_ret
  exact ⟨rfl, rfl⟩
theorem skip_rs (op : Nat) (e : L) (p : Bs) : (Bz.skipB op e p).2.rs.length ≤ p.rs.length + 1 ∧ (Bz.skipB op e p).1.length ≤ p.l.length := by
  unfold Bz.skipB
  split
  · refine ⟨?_, by dsimp only; rw [List.length_drop]; omega⟩
    show (Bz.mend 14 p.at_ (Bz.cutB (min op p.l.length) p)).rs.length ≤ _
    rw [Bz.mend_rs]
    exact Nat.le_refl _
  · refine ⟨Nat.le_succ _, by dsimp only; rw [List.length_take, List.length_drop]; omega⟩
theorem info_bx : (Try.prog.info? 48).map (fun i => (i.zero, i.size, i.bytes)) = some (some (.pointer none), 1, 8) := by kernel_rfl
set_option maxRecDepth 100000 in
set_option maxHeartbeats 32000000 in
theorem bpiece_any (B P : Nat) (w : World) (p : Bs) (v : Bv) (h : PB B P w p v) (hd : Gd B w) (hk : Ok p.st 80000000 1000000000000000) (hl : p.at_ + p.l.length ≤ 80000) (hr : p.rs.length ≤ 90000000) (hne : p.l ≠ []) (hns : ∀ d ∈ p.st.scope, d.ns.length ≤ 1000000) :
    Calls Try.prog 15 #[.pointer (some ⟨P, 0, none⟩)] w (BR B P w (Bz.piece p) (.tuple #[])) := by
  have H := hide h
  have HD := hide hd
  have Hk := hide hk
  have Hl := hide hl
  have Hr := hide hr
  have Hns := hide hns
  obtain ⟨R, hR⟩ : ∃ R, Bz.piece p = R := ⟨_, rfl⟩
  rw [hR]
  unfold Bz.piece at hR
  have HR := hide hR
  obtain ⟨D, hD⟩ : ∃ D, p.l = D := ⟨_, rfl⟩
  have HDD := hide hD
  have z0 : w.cell? ⟨P, 0, none⟩ = some (.string (bstr D)) := by rw [← hD]; exact h.cell.1
  have z1 := h.cell.2.1
  have hPl := h.blk.lt
  have hlen : 1 ≤ D.length := by rw [← hD]; exact List.length_pos_iff.2 hne
  have hDl : D.length ≤ 80000 := by rw [← hD]; omega
  have Hlen := hide hlen
  have HDl := hide hDl
  have hce := bhas_enter
  have HB0 := hide (Blk.new w 48 #[.pointer (some ⟨P, 0, none⟩)])
  have BA := hide (below_alloc w (.cells #[.pointer (some ⟨P, 0, none⟩)] 48))
  obtain ⟨W1, hW1⟩ : ∃ W1, w.alloc (.cells #[.pointer (some ⟨P, 0, none⟩)] 48) = W1 := ⟨_, rfl⟩
  rw [hW1] at HB0 BA
  have P1 := hide (H.out.go BA.out)
  have hbP : w.heap.size ≠ P := by omega
  obtain ⟨b, hb⟩ : ∃ b, w.heap.size = b := ⟨_, rfl⟩
  rw [hb] at HB0 hbP
  have HbP := hide hbP
  have Hb := hide hb
  have HH := hide (fun (q : L) (W : World) (h1 : Blk W b 48 #[.pointer (some ⟨P, 0, none⟩)]) (v1 : Bv) (h2 : PB B P W p v1) => bhas_any P b D q W (h1.cell 0) (by rw [← HDD.out]; exact h2.cell.1))
  have x0 : W1.cell? ⟨b, 0, none⟩ = some (.pointer (some ⟨P, 0, none⟩)) := HB0.out.cell 0
  have x1 := P1.out.cell.2.1
  have x2 : W1.cell? ⟨P, 0, none⟩ = some (.string (bstr D)) := by rw [← hD]; exact P1.out.cell.1
  clear h hd hk hl hr hns hR hne hD z0 z1 hbP
  go_enter Try.func15, Try.ntmps15
  obtain ⟨b1, hb1⟩ : ∃ x, ([60] : L).isPrefixOf D = x := ⟨_, rfl⟩
  have HB1 := hide (fun W h1 v1 h2 => HH.out [60] W h1 v1 h2)
  rw [hb1] at HB1
  have Hb1 := hide hb1
  clear hb1
  obtain ⟨D1, hD1⟩ : ∃ D1, D.drop 1 = D1 := ⟨_, rfl⟩
  obtain ⟨D2, hD2⟩ : ∃ D2, D.drop 2 = D2 := ⟨_, rfl⟩
  have HTk1 := hide (fun W => take_any (bstr D1) W (by rw [bstr_size, ← hD1, List.length_drop]; omega))
  have HTk2 := hide (fun W => take_any (bstr D2) W (by rw [bstr_size, ← hD2, List.length_drop]; omega))
  rw [bstr_list] at HTk1 HTk2
  have HD1 := hide hD1
  have HD2 := hide hD2
  clear hD1 hD2
  go_upto_if 12 with (go_at_call 26; refine cq (HB1.out _ HB0.out _ P1.out) ?_)
  go_cut [4] (fun s4 wx => s4 = .int .i64 ((if b1 then take D1 else 0 : Nat) : Int) ∧ Below W1.heap.size W1 wx)
  case first =>
    cases b1 with
    | true =>
      have hs : (bstr D).size = D.length := bstr_size D
      have hx1 : (bstr D).extract 1 D.length = bstr D1 := by rw [← HD1.out, extract_bstr, bstr_list, ← List.length_drop, List.take_length]
      have hbd : (0 : Int) ≤ 1 ∧ (1 : Int) ≤ (D.length : Int) := by omega
      have hbd2 : (D.length : Int) ≤ (D.length : Int) := Int.le_refl _
      obtain ⟨tn, htn⟩ : ∃ tn, take D1 = tn := ⟨_, rfl⟩
      rw [htn] at HTk1
      have Htn := hide htn
      clear htn
      go_wp2_with fail
      refine (HTk1.out _).mono ?_
      rintro e w2 ⟨rfl, b2⟩
      have B2 := hide b2
      clear b2
      dsimp only
      rename_i hM KK hK0 hJ
      refine hK0 _ _ ?_
      clear hK0 KK
      go_wp2
      (try simp only [Exit.then])
      (try refine hM _ _ (Met.intro ?_))
      refine hJ _ _ ?_
      (repeat apply Exists.intro)
      exact ⟨⟨by simp only [if_true]; rw [Htn.out], B2.out⟩, rfl⟩
    | false =>
      go_wp2
      (try simp only [Exit.then])
      (try refine Met.intro ?_)
      first
        | (rename_i hJ hM; refine hM _ _ (Met.intro ?_); refine hJ _ _ ?_)
        | (rename_i hJ; refine hJ _ _ ?_)
        | (rename_i hJ hT; refine hJ _ _ ?_)
        | (rename_i hJ hT hT2; refine hJ _ _ ?_)
        | (rename_i hJ hT hT2 hT3; refine hJ _ _ ?_)
      (repeat apply Exists.intro)
      exact ⟨⟨rfl, Below.refl _ _⟩, rfl⟩
  case rest =>
    obtain ⟨wa, hwa⟩ : ∃ x : World, wc = x := ⟨_, rfl⟩
    obtain ⟨rfl, b2⟩ := hcut
    rw [hwa] at b2 ⊢
    clear hwa
    have BB2 := hide b2
    have BX2 := hide (HB0.out.go b2)
    have P2 := hide (P1.out.go b2)
    obtain ⟨tn, htn⟩ : ∃ tn : Nat, (if b1 then take D1 else 0) = tn := ⟨_, rfl⟩
    rw [htn]
    have Htn := hide htn
    obtain ⟨bE, hbE⟩ : ∃ x, ([60, 47] : L).isPrefixOf D = x := ⟨_, rfl⟩
    have HBE := hide (fun W h1 v1 h2 => HH.out [60, 47] W h1 v1 h2)
    rw [hbE] at HBE
    have HbE := hide hbE
    have x0c : wa.cell? ⟨b, 0, none⟩ = some (.pointer (some ⟨P, 0, none⟩)) := BX2.out.cell 0
    have x2c : wa.cell? ⟨P, 0, none⟩ = some (.string (bstr D)) := by rw [← HDD.out]; exact P2.out.cell.1
    clear b2 htn hbE x0 x1 x2 hW1 hPl
    go_upto_if 20 with (go_at_call 26; refine cq (HBE.out _ BX2.out _ P2.out) ?_)
    go_cut [5] (fun s5 wx => s5 = .int .i64 ((if bE then take D2 else 0 : Nat) : Int) ∧ Below wa.heap.size wa wx)
    case first =>
      cases bE with
      | true =>
        have hs : (bstr D).size = D.length := bstr_size D
        have h2 : 2 ≤ D.length := by have := (List.isPrefixOf_iff_prefix.1 HbE.out).length_le; simpa using this
        have hx1 : (bstr D).extract 2 D.length = bstr D2 := by rw [← HD2.out, extract_bstr, bstr_list, ← List.length_drop, List.take_length]
        have hbd : (0 : Int) ≤ 2 ∧ (2 : Int) ≤ (D.length : Int) := by omega
        have hbd2 : (D.length : Int) ≤ (D.length : Int) := Int.le_refl _
        obtain ⟨tm, htm⟩ : ∃ tm, take D2 = tm := ⟨_, rfl⟩
        rw [htm] at HTk2
        have Htm := hide htm
        clear htm
        go_wp2_with fail
        refine (HTk2.out _).mono ?_
        rintro e w3 ⟨rfl, b3⟩
        have B3 := hide b3
        clear b3
        dsimp only
        rename_i hM KK hK0 hJ
        refine hK0 _ _ ?_
        clear hK0 KK
        go_wp2
        (try simp only [Exit.then])
        (try refine hM _ _ (Met.intro ?_))
        refine hJ _ _ ?_
        (repeat apply Exists.intro)
        exact ⟨⟨by simp only [if_true]; rw [Htm.out], B3.out⟩, rfl⟩
      | false =>
        go_wp2
        (try simp only [Exit.then])
        (try refine Met.intro ?_)
        first
          | (rename_i hJ hM; refine hM _ _ (Met.intro ?_); refine hJ _ _ ?_)
          | (rename_i hJ; refine hJ _ _ ?_)
          | (rename_i hJ hT; refine hJ _ _ ?_)
          | (rename_i hJ hT hT2; refine hJ _ _ ?_)
          | (rename_i hJ hT hT2 hT3; refine hJ _ _ ?_)
        (repeat apply Exists.intro)
        exact ⟨⟨rfl, Below.refl _ _⟩, rfl⟩
    case rest =>
      obtain ⟨wb, hwb⟩ : ∃ x : World, wc = x := ⟨_, rfl⟩
      obtain ⟨rfl, b3⟩ := hcut
      rw [hwb] at b3 ⊢
      clear hwb
      have M3 := hide (BMov.of_below (B := B) (P := P) ((BA.out.trans (BB2.out.mono BA.out.size)).trans (b3.mono (Nat.le_trans BA.out.size BB2.out.size))))
      have BX3 := hide (BX2.out.go b3)
      have P3 := hide (P2.out.go b3)
      have x0 : wb.cell? ⟨b, 0, none⟩ = some (.pointer (some ⟨P, 0, none⟩)) := BX3.out.cell 0
      obtain ⟨tm, htm⟩ : ∃ tm : Nat, (if bE then take D2 else 0) = tm := ⟨_, rfl⟩
      rw [htm]
      have Htm := hide htm
      have D3 := hide (HD.out.bmov M3.out H.out.bp)
      have HWb := hide (Nat.le_trans HD.out.hB M3.out.size)
      have hR := HR.out
      rw [HDD.out, Hb1.out, HbE.out, HD1.out, HD2.out] at hR
      clear b3 htm x0c x2c
      obtain ⟨bC, hbC⟩ : ∃ x, sComment.isPrefixOf D = x := ⟨_, rfl⟩
      obtain ⟨bQ, hbQ⟩ : ∃ x, ([60, 63] : L).isPrefixOf D = x := ⟨_, rfl⟩
      obtain ⟨bD, hbD⟩ : ∃ x, sData.isPrefixOf D = x := ⟨_, rfl⟩
      obtain ⟨bX, hbX⟩ : ∃ x, ([60, 33] : L).isPrefixOf D = x := ⟨_, rfl⟩
      have HBC0 := HH.out sComment wb BX3.out _ P3.out
      have HBQ0 := HH.out [60, 63] wb BX3.out _ P3.out
      have HBD0 := HH.out sData wb BX3.out _ P3.out
      have HBX0 := HH.out [60, 33] wb BX3.out _ P3.out
      rw [hbC] at HBC0 hR
      rw [hbQ] at HBQ0 hR
      rw [hbD] at HBD0 hR
      rw [hbX] at HBX0 hR
      have HBC := hide HBC0
      have HBQ := hide HBQ0
      have HBD := hide HBD0
      have HBX := hide HBX0
      have HB1' := hide (HB1.out wb BX3.out _ P3.out)
      have HR2 := hide hR
      have Hat := hide (show p.at_ + p.l.length ≤ 1000000000 by have := Hl.out; omega)
      have Hk2 := hide (show Ok p.st 1000000000 10000000000000000 from ⟨Hk.out.op, Nat.le_trans Hk.out.sc (by decide), Nat.le_trans Hk.out.ev (by decide), fun y hy => Nat.le_trans (Hk.out.tx y hy) (by decide), Hk.out.in_, Hk.out.srt⟩)
      clear hR hbC hbQ hbD hbX HBC0 HBQ0 HBD0 HBX0
      cases b1 with
      | false =>
        have HRE := hide (show Bz.says (p.l.take (Bz.span Bz.isLt p.l)) p.at_ Bz.ploose (Bz.untilB Bz.isLt p) = R by have h := HR2.out; rw [if_pos (by simp)] at h; rw [HDD.out]; exact h)
        go_wp2_with fail
        refine cq (HB1'.out) ?_
        go_wp2
        refine wp_region_held_drew (S := fun W' => W'.cell? ⟨b, 0, none⟩ = some (.pointer (some ⟨P, 0, none⟩))) (by kernel_rfl) ?_ (fun hHeld => ?_)
        · (try dsimp only)
          exact x0
        change wpAnyH _ _ _ _ _ 7 #[false, false, false, false, false, false, false] _ _
        refine held_take (i := 0) (d := 39) (v := ?_) rfl rfl (by kernel_rfl) (by kernel_rfl) (by kernel_rfl) (fun _ _ _ h => h) (by kernel_rfl) hHeld ?_ ?_
        rotate_left
        · intro w hSw
          (try dsimp only at hSw)
          go_simp
          first | done | with_reducible rfl
        (try simp only [Act.put, List.setIfInBounds_toArray, List.set_cons_zero, List.set_cons_succ])
        refine held_take (i := 1) (d := 40) (v := ?_) rfl rfl (by kernel_rfl) (by kernel_rfl) (by kernel_rfl) (fun _ _ _ h => h) (by kernel_rfl) hHeld ?_ ?_
        rotate_left
        · intro w hSw
          (try dsimp only at hSw)
          go_simp
          first | done | with_reducible rfl
        (try simp only [Act.put, List.setIfInBounds_toArray, List.set_cons_zero, List.set_cons_succ])
        refine held_take (i := 3) (d := 42) (v := ?_) rfl rfl (by kernel_rfl) (by kernel_rfl) (by kernel_rfl) (fun _ _ _ h => h) (by kernel_rfl) hHeld ?_ ?_
        rotate_left
        · intro w hSw
          (try dsimp only at hSw)
          go_simp
          first | done | with_reducible rfl
        (try simp only [Act.put, List.setIfInBounds_toArray, List.set_cons_zero, List.set_cons_succ])
        refine held_take (i := 4) (d := 43) (v := ?_) rfl rfl (by kernel_rfl) (by kernel_rfl) (by kernel_rfl) (fun _ _ _ h => h) (by kernel_rfl) hHeld ?_ ?_
        rotate_left
        · intro w hSw
          (try dsimp only at hSw)
          go_simp
          first | done | with_reducible rfl
        (try simp only [Act.put, List.setIfInBounds_toArray, List.set_cons_zero, List.set_cons_succ])
        refine held_take (i := 5) (d := 44) (v := ?_) rfl rfl (by kernel_rfl) (by kernel_rfl) (by kernel_rfl) (fun _ _ _ h => h) (by kernel_rfl) hHeld ?_ ?_
        rotate_left
        · intro w hSw
          (try dsimp only at hSw)
          go_simp
          first | done | with_reducible rfl
        (try simp only [Act.put, List.setIfInBounds_toArray, List.set_cons_zero, List.set_cons_succ])
        refine held_call (i := 2) rfl (by kernel_rfl) (by kernel_rfl) (fun K hK => ?_)
        go_simp
        refine (buntil_less B P _ p v (P3.out.go (Below.refl _ _).drew) Hat.out).mono ?_
        rintro e w4 ⟨rfl, m4, v4, p4⟩
        have M4 := hide ((M3.out.drew).trans m4)
        have P4 := hide p4
        have BX4 := hide (m4.blk (show Blk wb.drew b 48 _ from BX3.out) HbP.out (by decide))
        have D4 := hide (HD.out.bmov M4.out H.out.bp)
        (try dsimp only)
        refine hK.out _ _ ?_ (fun hHeld' => ?_)
        · exact BX4.out.cell 0
        clear hK K hHeld
        have hHeld := hHeld'
        clear hHeld'
        (try simp only [Act.put, List.setIfInBounds_toArray, List.set_cons_zero, List.set_cons_succ])
        refine held_call (i := 6) rfl (by kernel_rfl) (by kernel_rfl) (fun K hK => ?_)
        go_simp
        refine (bsays_loose B P _ (Bz.untilB Bz.isLt p) v4 (p.l.take (Bz.span Bz.isLt p.l)) p.at_ p4 (D4.out) Hk2.out (by show p.rs.length ≤ _; have := Hr.out; omega) (by rw [List.length_take]; have := Hl.out; omega)).mono ?_
        rintro e w5 ⟨rfl, m5, v5, p5⟩
        (try dsimp only)
        refine hK.out _ _ ?_ (fun hHeld' => ?_)
        · exact (m5.blk BX4.out HbP.out (by decide)).cell 0
        clear hK K hHeld
        have hHeld := hHeld'
        clear hHeld'
        (try simp only [Act.put, List.setIfInBounds_toArray, List.set_cons_zero, List.set_cons_succ])
        refine wpAnyH_done (by kernel_rfl) ?_ _
        go_wp2
        go_end0
        rw [← HRE.out]
        exact ⟨rfl, M4.out.trans m5, v5, p5⟩
      | true =>
        go_wp2_with fail
        refine cq (HB1'.out) ?_
        cases bC with
        | true =>
          go_wp2_with fail
          refine cq (HBC.out) ?_
          have HRE := hide (show (Bz.skipB 4 [45, 45, 62] p).2 = R by have h := HR2.out; rw [if_neg (by simp)] at h; simp only [if_true] at h; exact h)
          go_wp2_with fail
          refine (bskip_any B P wb p v 4 [45, 45, 62] P3.out D3.out Hat.out (by have := Hr.out; omega)).mono ?_
          rintro e w4 ⟨rfl, m4, v4, p4⟩
          go_wp2
          go_end0
          rw [← HRE.out]
          exact ⟨rfl, M3.out.trans m4, v4, p4⟩
        | false =>
          go_wp2_with fail
          refine cq (HBC.out) ?_
          cases bQ with
          | true =>
            go_wp2_with fail
            refine cq (HBQ.out) ?_
            have HRE := hide (show (Bz.skipB 2 [63, 62] p).2 = R by have h := HR2.out; rw [if_neg (by simp), if_neg (by simp)] at h; simp only [if_true] at h; exact h)
            go_wp2_with fail
            refine (bskip_any B P wb p v 2 [63, 62] P3.out D3.out Hat.out (by have := Hr.out; omega)).mono ?_
            rintro e w4 ⟨rfl, m4, v4, p4⟩
            go_wp2
            go_end0
            rw [← HRE.out]
            exact ⟨rfl, M3.out.trans m4, v4, p4⟩
          | false =>
            go_wp2_with fail
            refine cq (HBQ.out) ?_
            cases bD with
            | true =>
              go_wp2_with fail
              refine cq (HBD.out) ?_
              have HRE := hide (show Bz.says (Bz.skipB 9 [93, 93, 62] p).1 p.at_ Bz.pclean (Bz.skipB 9 [93, 93, 62] p).2 = R by have h := HR2.out; rw [if_neg (by simp), if_neg (by simp), if_neg (by simp)] at h; simp only [if_true] at h; exact h)
              have Hsk := hide (skip_rs 9 [93, 93, 62] p)
              have Hskt := hide (Bz.skip_st 9 p [93, 93, 62])
              go_wp2
              refine wp_region_held_drew (S := fun W' => W'.cell? ⟨b, 0, none⟩ = some (.pointer (some ⟨P, 0, none⟩))) (by kernel_rfl) ?_ (fun hHeld => ?_)
              · (try dsimp only)
                exact x0
              change wpAnyH _ _ _ _ _ 7 #[false, false, false, false, false, false, false] _ _
              refine held_take (i := 0) (d := 59) (v := ?_) rfl rfl (by kernel_rfl) (by kernel_rfl) (by kernel_rfl) (fun _ _ _ h => h) (by kernel_rfl) hHeld ?_ ?_
              rotate_left
              · intro w hSw
                (try dsimp only at hSw)
                go_simp
                first | done | with_reducible rfl
              (try simp only [Act.put, List.setIfInBounds_toArray, List.set_cons_zero, List.set_cons_succ])
              refine held_take (i := 1) (d := 60) (v := ?_) rfl rfl (by kernel_rfl) (by kernel_rfl) (by kernel_rfl) (fun _ _ _ h => h) (by kernel_rfl) hHeld ?_ ?_
              rotate_left
              · intro w hSw
                (try dsimp only at hSw)
                go_simp
                first | done | with_reducible rfl
              (try simp only [Act.put, List.setIfInBounds_toArray, List.set_cons_zero, List.set_cons_succ])
              refine held_take (i := 3) (d := 62) (v := ?_) rfl rfl (by kernel_rfl) (by kernel_rfl) (by kernel_rfl) (fun _ _ _ h => h) (by kernel_rfl) hHeld ?_ ?_
              rotate_left
              · intro w hSw
                (try dsimp only at hSw)
                go_simp
                first | done | with_reducible rfl
              (try simp only [Act.put, List.setIfInBounds_toArray, List.set_cons_zero, List.set_cons_succ])
              refine held_take (i := 4) (d := 63) (v := ?_) rfl rfl (by kernel_rfl) (by kernel_rfl) (by kernel_rfl) (fun _ _ _ h => h) (by kernel_rfl) hHeld ?_ ?_
              rotate_left
              · intro w hSw
                (try dsimp only at hSw)
                go_simp
                first | done | with_reducible rfl
              (try simp only [Act.put, List.setIfInBounds_toArray, List.set_cons_zero, List.set_cons_succ])
              refine held_take (i := 5) (d := 64) (v := ?_) rfl rfl (by kernel_rfl) (by kernel_rfl) (by kernel_rfl) (fun _ _ _ h => h) (by kernel_rfl) hHeld ?_ ?_
              rotate_left
              · intro w hSw
                (try dsimp only at hSw)
                go_simp
                first | done | with_reducible rfl
              (try simp only [Act.put, List.setIfInBounds_toArray, List.set_cons_zero, List.set_cons_succ])
              refine held_call (i := 2) rfl (by kernel_rfl) (by kernel_rfl) (fun K hK => ?_)
              go_simp
              refine (bskip_any B P _ p v 9 [93, 93, 62] (P3.out.go (Below.refl _ _).drew) (D3.out.below (Below.refl _ _).drew) Hat.out (by have := Hr.out; omega)).mono ?_
              rintro e w4 ⟨rfl, m4, v4, p4⟩
              have M4 := hide ((M3.out.drew).trans m4)
              have P4 := hide p4
              have BX4 := hide (m4.blk (show Blk wb.drew b 48 _ from BX3.out) HbP.out (by decide))
              have D4 := hide (HD.out.bmov M4.out H.out.bp)
              (try dsimp only)
              refine hK.out _ _ ?_ (fun hHeld' => ?_)
              · exact BX4.out.cell 0
              clear hK K hHeld
              have hHeld := hHeld'
              clear hHeld'
              (try simp only [Act.put, List.setIfInBounds_toArray, List.set_cons_zero, List.set_cons_succ])
              refine held_call (i := 6) rfl (by kernel_rfl) (by kernel_rfl) (fun K hK => ?_)
              go_simp
              refine (bsays_clean B P _ (Bz.skipB 9 [93, 93, 62] p).2 v4 (Bz.skipB 9 [93, 93, 62] p).1 p.at_ p4 (D4.out) (by rw [Hskt.out]; exact Hk2.out) (by have := Hr.out; have := Hsk.out.1; omega) (by have := Hsk.out.2; have := Hl.out; omega)).mono ?_
              rintro e w5 ⟨rfl, m5, v5, p5⟩
              (try dsimp only)
              refine hK.out _ _ ?_ (fun hHeld' => ?_)
              · exact (m5.blk BX4.out HbP.out (by decide)).cell 0
              clear hK K hHeld
              have hHeld := hHeld'
              clear hHeld'
              (try simp only [Act.put, List.setIfInBounds_toArray, List.set_cons_zero, List.set_cons_succ])
              refine wpAnyH_done (by kernel_rfl) ?_ _
              go_wp2
              go_end0
              rw [← HRE.out]
              exact ⟨rfl, M4.out.trans m5, v5, p5⟩
            | false =>
              go_wp2_with fail
              refine cq (HBD.out) ?_
              cases bX with
              | true =>
                go_wp2_with fail
                refine cq (HBX.out) ?_
                have HRE := hide (show (Bz.skipB 2 [62] (Bz.mend 15 p.at_ p)).2 = R by have h := HR2.out; rw [if_neg (by simp), if_neg (by simp), if_neg (by simp), if_neg (by simp)] at h; simp only [if_true] at h; exact h)
                go_wp2_with fail
                refine (bmend_any B P wb p v 15 p.at_ P3.out HWb.out (by have := Hr.out; omega)).mono ?_
                rintro e w4 ⟨rfl, m4, v4, p4⟩
                have M4 := hide (M3.out.trans m4)
                have P4 := hide p4
                have BX4 := hide (m4.blk BX3.out HbP.out (by decide))
                have y0 := BX4.out.cell 0
                clear m4 p4
                go_wp2_with fail
                refine (bskip_any B P w4 (Bz.mend 15 p.at_ p) v4 2 [62] P4.out (HD.out.bmov M4.out H.out.bp) Hat.out (by rw [Bz.mend_rs]; have := Hr.out; omega)).mono ?_
                rintro e w5 ⟨rfl, m5, v5, p5⟩
                go_wp2
                go_end0
                rw [← HRE.out]
                exact ⟨rfl, M4.out.trans m5, v5, p5⟩
              | false =>
                go_wp2_with fail
                refine cq (HBX.out) ?_
                have hR := HR2.out
                rw [if_neg (by simp), if_neg (by simp), if_neg (by simp), if_neg (by simp), if_neg (by simp)] at hR
                by_cases hm : 0 < tm
                · have hbE : bE = true := by
                    cases bE with
                    | true => rfl
                    | false => have h := Htm.out; simp only [Bool.false_eq_true, if_false] at h; omega
                  subst hbE
                  have htm : take D2 = tm := by have h := Htm.out; simpa using h
                  rw [htm, if_pos ⟨rfl, hm⟩] at hR
                  have HRE := hide hR
                  have h2 : 2 ≤ p.l.length := by rw [HDD.out]; have := (List.isPrefixOf_iff_prefix.1 HbE.out).length_le; simpa using this
                  have hn2 : tm ≤ (p.l.drop 2).length := by rw [HDD.out, HD2.out, ← htm]; exact take_le _
                  have hgt : decide ((0 : Int) < (tm : Int)) = true := decide_eq_true (by omega)
                  have HE := hide (bend_any B P wb p v tm P3.out D3.out ⟨Hk.out.op, Nat.le_trans Hk.out.sc (by decide), Nat.le_trans Hk.out.ev (by decide), fun y hy => Nat.le_trans (Hk.out.tx y hy) (by decide), Hk.out.in_, Hk.out.srt⟩ (by have := Hl.out; omega) (by have := Hr.out; omega) h2 hn2)
                  clear hR htm h2 hn2
                  go_wp2_with fail
                  refine HE.out.mono ?_
                  rintro e w4 ⟨rfl, m4, v4, p4⟩
                  go_wp2
                  go_end0
                  rw [← HRE.out]
                  exact ⟨rfl, M3.out.trans m4, v4, p4⟩
                · have hm0 : tm = 0 := by omega
                  have hcn : ¬ (bE = true ∧ 0 < take D2) := by
                    rintro ⟨h1, h2⟩
                    have h := Htm.out
                    rw [h1] at h
                    simp only [if_true] at h
                    omega
                  rw [if_neg hcn] at hR
                  clear hcn hm
                  have Htm0 := hide Htm.out
                  clear Htm
                  subst hm0
                  have htn : take D1 = tn := by have h := Htn.out; simpa using h
                  rw [htn] at hR
                  by_cases hn : 0 < tn
                  · rw [if_pos hn] at hR
                    have HRE := hide hR
                    have h1 : 1 ≤ p.l.length := by rw [HDD.out]; exact Hlen.out
                    have hn2 : tn ≤ (p.l.drop 1).length := by rw [HDD.out, HD1.out, ← htn]; exact take_le _
                    have hgt : decide ((0 : Int) < (tn : Int)) = true := decide_eq_true (by omega)
                    have HE := hide (bstart_any B P wb p v tn P3.out D3.out ⟨Hk.out.op, Nat.le_trans Hk.out.sc (by decide), Nat.le_trans Hk.out.ev (by decide), fun y hy => Nat.le_trans (Hk.out.tx y hy) (by decide), Hk.out.in_, Hk.out.srt⟩ Hl.out (by have := Hr.out; omega) h1 hn2 Hns.out)
                    clear hR htn h1 hn2
                    go_wp2_with fail
                    refine HE.out.mono ?_
                    rintro e w4 ⟨rfl, m4, v4, p4⟩
                    go_wp2
                    go_end0
                    rw [← HRE.out]
                    exact ⟨rfl, M3.out.trans m4, v4, p4⟩
                  · have hn0 : tn = 0 := by omega
                    rw [if_neg hn] at hR
                    have HRE0 := hide hR
                    have Htn0 := hide Htn.out
                    clear hR hn htn Htn
                    subst hn0
                    go_wp2_with fail
                    refine (bmend_any B P wb p v 5 p.at_ P3.out HWb.out (by have := Hr.out; omega)).mono ?_
                    rintro e w3 ⟨rfl, m3, v3, p3⟩
                    have M3' := hide (M3.out.trans m3)
                    have P3' := hide p3
                    have BX3' := hide (m3.blk BX3.out HbP.out (by decide))
                    have hp1 : (Bz.mend 5 p.at_ p).l.take 1 = [60] := by
                      show p.l.take 1 = [60]
                      rw [HDD.out]
                      obtain ⟨t, ht⟩ := List.isPrefixOf_iff_prefix.1 Hb1.out
                      rw [← ht]
                      rfl
                    have Hp1 := hide hp1
                    have x0' := BX3'.out.cell 0
                    clear m3 p3 hp1 x0
                    go_wp2
                    refine wp_region_held_drew (S := fun W' => W'.cell? ⟨b, 0, none⟩ = some (.pointer (some ⟨P, 0, none⟩))) (by kernel_rfl) ?_ (fun hHeld => ?_)
                    · (try dsimp only)
                      exact x0'
                    change wpAnyH _ _ _ _ _ 5 #[false, false, false, false, false] _ _
                    refine held_take (i := 0) (d := 30) (v := ?_) rfl rfl (by kernel_rfl) (by kernel_rfl) (by kernel_rfl) (fun _ _ _ h => h) (by kernel_rfl) hHeld ?_ ?_
                    rotate_left
                    · intro w hSw
                      (try dsimp only at hSw)
                      go_simp
                      first | done | with_reducible rfl
                    (try simp only [Act.put, List.setIfInBounds_toArray, List.set_cons_zero, List.set_cons_succ])
                    refine held_take (i := 1) (d := 31) (v := ?_) rfl rfl (by kernel_rfl) (by kernel_rfl) (by kernel_rfl) (fun _ _ _ h => h) (by kernel_rfl) hHeld ?_ ?_
                    rotate_left
                    · intro w hSw
                      (try dsimp only at hSw)
                      go_simp
                      first | done | with_reducible rfl
                    (try simp only [Act.put, List.setIfInBounds_toArray, List.set_cons_zero, List.set_cons_succ])
                    refine held_take (i := 3) (d := 33) (v := ?_) rfl rfl (by kernel_rfl) (by kernel_rfl) (by kernel_rfl) (fun _ _ _ h => h) (by kernel_rfl) hHeld ?_ ?_
                    rotate_left
                    · intro w hSw
                      (try dsimp only at hSw)
                      go_simp
                      first | done | with_reducible rfl
                    (try simp only [Act.put, List.setIfInBounds_toArray, List.set_cons_zero, List.set_cons_succ])
                    refine held_call (i := 2) rfl (by kernel_rfl) (by kernel_rfl) (fun K hK => ?_)
                    go_simp
                    refine (btake_any B P _ (Bz.mend 5 p.at_ p) v3 1 (P3'.out.go (Below.refl _ _).drew) (by show 1 ≤ p.l.length; rw [HDD.out]; exact Hlen.out) Hat.out).mono ?_
                    rintro e w4 ⟨rfl, m4, v4, p4⟩
                    rw [Hp1.out]
                    have M4 := hide ((M3'.out.drew).trans m4)
                    have P4 := hide p4
                    have BX4 := hide (m4.blk (show Blk w3.drew b 48 _ from BX3'.out) HbP.out (by decide))
                    have D4 := hide (HD.out.bmov M4.out H.out.bp)
                    (try dsimp only)
                    refine hK.out _ _ ?_ (fun hHeld' => ?_)
                    · exact BX4.out.cell 0
                    clear hK K hHeld
                    have hHeld := hHeld'
                    clear hHeld'
                    (try simp only [Act.put, List.setIfInBounds_toArray, List.set_cons_zero, List.set_cons_succ])
                    refine held_call (i := 4) rfl (by kernel_rfl) (by kernel_rfl) (fun K hK => ?_)
                    go_simp
                    refine (bsays_same B P _ (Bz.cutB 1 (Bz.mend 5 p.at_ p)) v4 [60] p.at_ p4 D4.out Hk2.out (by show (Bz.mend 5 p.at_ p).rs.length ≤ _; rw [Bz.mend_rs]; have := Hr.out; omega) (by decide)).mono ?_
                    rintro e w5 ⟨rfl, m5, v5, p5⟩
                    (try dsimp only)
                    refine hK.out _ _ ?_ (fun hHeld' => ?_)
                    · exact (m5.blk BX4.out HbP.out (by decide)).cell 0
                    clear hK K hHeld
                    have hHeld := hHeld'
                    clear hHeld'
                    (try simp only [Act.put, List.setIfInBounds_toArray, List.set_cons_zero, List.set_cons_succ])
                    refine wpAnyH_done (by kernel_rfl) ?_ _
                    go_wp2
                    go_end0
                    rw [← HRE0.out]
                    exact ⟨rfl, M4.out.trans m5, v5, p5⟩
end Go.Proofs.Ytaickkaoglohgaa
