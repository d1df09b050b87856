/- The law RecordWrites, walked. (Printed by wip/genLawRec.py.) -/
import Derived.Test.YtlkkmgimjjnhjaaMA04
import Derived.Test.YtlkkmgimjjnhjaaMA32
set_option linter.unusedSimpArgs false
set_option linter.unusedVariables false
namespace Go.Proofs.Ytlkkmgimjjnhjaa
open Go.RowKit Rec

set_option maxHeartbeats 8000000 in
theorem lawWrites_any (r q : Rcd) (A A' B B' : Option Addr) (c c' d d' : Nat) (w : World) (hr : RcdGot w r A A') (hq : RcdGot w q B B') :
    Calls Try.prog 3 #[.agg (rcdCells r A c A' c'), .agg (rcdCells q B d B' d')] w fun e w' => e = .returned (.bool true) ∧ Below w.heap.size w w' := by
  have HG := hide (great_two r q A A' B B' c c' d d' w hr hq)
  obtain ⟨gr, hgr⟩ : ∃ b, great [r, q] = b := ⟨_, rfl⟩
  rw [hgr] at HG
  have HX := hide fun (h : gr = false) => (show RcdIn w r A A' ∧ RcdIn w q B B' from by
    rw [h] at hgr
    exact ⟨hr.rcdIn (rSize_of_great hgr (by simp)), hq.rcdIn (rSize_of_great hgr (by simp))⟩)
  clear hgr hr hq
  unfold rcdCells at HG ⊢
  go_enter Try.func3, Try.ntmps3
  go_wp2_with fail
  have KA := hide (((Blk.new w 28 #[.int .i8 r.kind, .int .i64 r.gen, .string r.url, .string r.id, .bool r.read, .slice A r.entries.length c, .string r.surl, .slice A' r.kept.length c']).alloc (.cells #[.int .i8 q.kind, .int .i64 q.gen, .string q.url, .string q.id, .bool q.read, .slice B q.entries.length d, .string q.surl, .slice B' q.kept.length d'] 28)).alloc (.cells (#[.int .i8 r.kind, .int .i64 r.gen, .string r.url, .string r.id, .bool r.read, .slice A r.entries.length c, .string r.surl, .slice A' r.kept.length c'] ++ #[.int .i8 q.kind, .int .i64 q.gen, .string q.url, .string q.id, .bool q.read, .slice B q.entries.length d, .string q.surl, .slice B' q.kept.length d']) 28))
  have KQ := hide ((Blk.new (w.alloc (.cells #[.int .i8 r.kind, .int .i64 r.gen, .string r.url, .string r.id, .bool r.read, .slice A r.entries.length c, .string r.surl, .slice A' r.kept.length c'] 28)) 28 #[.int .i8 q.kind, .int .i64 q.gen, .string q.url, .string q.id, .bool q.read, .slice B q.entries.length d, .string q.surl, .slice B' q.kept.length d']).alloc (.cells (#[.int .i8 r.kind, .int .i64 r.gen, .string r.url, .string r.id, .bool r.read, .slice A r.entries.length c, .string r.surl, .slice A' r.kept.length c'] ++ #[.int .i8 q.kind, .int .i64 q.gen, .string q.url, .string q.id, .bool q.read, .slice B q.entries.length d, .string q.surl, .slice B' q.kept.length d']) 28))
  have KR := hide (Blk.new ((w.alloc (.cells #[.int .i8 r.kind, .int .i64 r.gen, .string r.url, .string r.id, .bool r.read, .slice A r.entries.length c, .string r.surl, .slice A' r.kept.length c'] 28)).alloc (.cells #[.int .i8 q.kind, .int .i64 q.gen, .string q.url, .string q.id, .bool q.read, .slice B q.entries.length d, .string q.surl, .slice B' q.kept.length d'] 28)) 28 (#[.int .i8 r.kind, .int .i64 r.gen, .string r.url, .string r.id, .bool r.read, .slice A r.entries.length c, .string r.surl, .slice A' r.kept.length c'] ++ #[.int .i8 q.kind, .int .i64 q.gen, .string q.url, .string q.id, .bool q.read, .slice B q.entries.length d, .string q.surl, .slice B' q.kept.length d']))
  have WB := hide ((below2 w (.cells #[.int .i8 r.kind, .int .i64 r.gen, .string r.url, .string r.id, .bool r.read, .slice A r.entries.length c, .string r.surl, .slice A' r.kept.length c'] 28) (.cells #[.int .i8 q.kind, .int .i64 q.gen, .string q.url, .string q.id, .bool q.read, .slice B q.entries.length d, .string q.surl, .slice B' q.kept.length d'] 28)).alloc (by simp; omega) (.cells (#[.int .i8 r.kind, .int .i64 r.gen, .string r.url, .string r.id, .bool r.read, .slice A r.entries.length c, .string r.surl, .slice A' r.kept.length c'] ++ #[.int .i8 q.kind, .int .i64 q.gen, .string q.url, .string q.id, .bool q.read, .slice B q.entries.length d, .string q.surl, .slice B' q.kept.length d']) 28))
  simp only [World.size_alloc] at KQ KR
  simp only [List.append_toArray, List.cons_append, List.nil_append] at KA KQ KR WB
  obtain ⟨W1, hW1⟩ : ∃ W1, ((w.alloc (.cells #[.int .i8 r.kind, .int .i64 r.gen, .string r.url, .string r.id, .bool r.read, .slice A r.entries.length c, .string r.surl, .slice A' r.kept.length c'] 28)).alloc (.cells #[.int .i8 q.kind, .int .i64 q.gen, .string q.url, .string q.id, .bool q.read, .slice B q.entries.length d, .string q.surl, .slice B' q.kept.length d'] 28)).alloc (.cells #[.int .i8 r.kind, .int .i64 r.gen, .string r.url, .string r.id, .bool r.read, .slice A r.entries.length c, .string r.surl, .slice A' r.kept.length c', .int .i8 q.kind, .int .i64 q.gen, .string q.url, .string q.id, .bool q.read, .slice B q.entries.length d, .string q.surl, .slice B' q.kept.length d'] 28) = W1 := ⟨_, rfl⟩
  rw [hW1] at KA KQ KR WB ⊢
  clear hW1
  refine (HG.out W1 _ WB.out KR.out).mono ?_
  rintro e w1 ⟨rfl, hb⟩
  have HB := hide hb
  clear hb HG KR
  cases gr with
  | true =>
    clear HX KA KQ
    go_wp2_with fail
    refine (wakes_any _).mono ?_
    rintro e w2 ⟨rfl, hb⟩
    replace HB := hide (HB.out.trans (hb.mono HB.out.size))
    clear hb
    go_wp2
    go_ret
    exact ⟨rfl, WB.out.trans (HB.out.mono WB.out.size)⟩
  | false =>
    have h0 := HX.out rfl
    have HA := hide fun W (hb : Below W1.heap.size W1 W) => (h0.1.ans c c').bytes W (WB.out.trans (hb.mono WB.out.size))
    have HQ := hide fun W (hb : Below W1.heap.size W1 W) => (h0.1.ans c c').rbytes W (WB.out.trans (hb.mono WB.out.size))
    have HF := hide fun W (hb : Below W1.heap.size W1 W) => (h0.1.ans c c').frame W (WB.out.trans (hb.mono WB.out.size))
    have HG := hide fun W (hb : Below W1.heap.size W1 W) => (h0.1.ans c c').rframe W (WB.out.trans (hb.mono WB.out.size))
    have HM := hide fun W (hb : Below W1.heap.size W1 W) => (h0.1.ans c c').may W (WB.out.trans (hb.mono WB.out.size))
    have HN := hide fun W (hb : Below W1.heap.size W1 W) => (h0.1.ans c c').rmay W (WB.out.trans (hb.mono WB.out.size))
    have HS := hide fun W (hb : Below W1.heap.size W1 W) => psame_in r q A A' B B' c c' d d' w W h0.1 h0.2 (WB.out.trans (hb.mono WB.out.size))
    have HT := hide fun W (hb : Below W1.heap.size W1 W) => same_in r q A A' B B' c c' d d' w W h0.1 h0.2 (WB.out.trans (hb.mono WB.out.size))
    have HU := hide fun W (hb : Below W1.heap.size W1 W) => sub_in r q A A' B B' c' d' w W h0.1 h0.2 (WB.out.trans (hb.mono WB.out.size))
    have HV := hide fun W (hb : Below W1.heap.size W1 W) => rsub_in r q A A' B B' c' d' w W h0.1 h0.2 (WB.out.trans (hb.mono WB.out.size))
    clear h0 HX
    unfold rcdCells at HA HF HQ HG HM HN HS HT
    generalize bytesOut r = x at *
    generalize frameOut r = z at *
    generalize codeOut r = k at *
    generalize mayAll r = m at *
    generalize (decide (r.surl = q.surl) && decide (r.kept = q.kept)) = u at *
    generalize decide (r = q) = s at *
    obtain ⟨p0, p1, p2, p3, p4, p5, p6, p7⟩ := (KA.out.below HB.out KA.out.lt).rcd
    go_wp2_with fail
    clear p0 p1 p2 p3 p4 p5 p6 p7
    refine (HA.out _ HB.out).mono ?_
    rintro e w2 ⟨rfl, hb⟩
    replace HB := hide (HB.out.trans (hb.mono HB.out.size))
    clear hb
    obtain ⟨p0, p1, p2, p3, p4, p5, p6, p7⟩ := (KA.out.below HB.out KA.out.lt).rcd
    go_wp2_with fail
    clear p0 p1 p2 p3 p4 p5 p6 p7
    refine (HQ.out _ HB.out).mono ?_
    rintro e w3 ⟨rfl, hb⟩
    replace HB := hide (HB.out.trans (hb.mono HB.out.size))
    clear hb
    obtain ⟨p0, p1, p2, p3, p4, p5, p6, p7⟩ := (KA.out.below HB.out KA.out.lt).rcd
    go_wp2_with fail
    clear p0 p1 p2 p3 p4 p5 p6 p7
    refine (HF.out _ HB.out).mono ?_
    rintro e w4 ⟨rfl, hb⟩
    replace HB := hide (HB.out.trans (hb.mono HB.out.size))
    clear hb
    obtain ⟨p0, p1, p2, p3, p4, p5, p6, p7⟩ := (KA.out.below HB.out KA.out.lt).rcd
    go_wp2_with fail
    clear p0 p1 p2 p3 p4 p5 p6 p7
    refine (HG.out _ HB.out).mono ?_
    rintro e w5 ⟨rfl, hb⟩
    replace HB := hide (HB.out.trans (hb.mono HB.out.size))
    clear hb
    clear HA HQ HF HG
    go_wp2
    refine wp_region_held_drew (S := fun w' => Below W1.heap.size W1 w') (by kernel_rfl) ?_ (fun hHeld => ?_)
    · (try dsimp only)
      first | exact HB.out | exact Below.drew (by assumption) | exact below_go (by assumption) (by assumption) (Nat.le_refl _)
    change wpAnyH _ _ _ _ _ 51 #[false, false, false, false, false, false, false, false, false, false, false, false, false, false, false, false, false, false, false, false, false, false, false, false, false, false, false, false, false, false, false, false, false, false, false, false, false, false, false, false, false, false, false, false, false, false, false, false, false, false, false] _ _
    refine held_take (i := 0) (d := 38) (v := ?_) rfl rfl (by kernel_rfl) (by kernel_rfl) (by kernel_rfl) (fun _ _ _ h => h) (by kernel_rfl) hHeld ?_ ?_
    rotate_left
    · intro w hSw
      (try dsimp only at hSw)
      obtain ⟨p0, p1, p2, p3, p4, p5, p6, p7⟩ := (KA.out.below hSw KA.out.lt).rcd
      obtain ⟨q0, q1, q2, q3, q4, q5, q6, q7⟩ := (KQ.out.below hSw KQ.out.lt).rcd
      go_simp
      first | done | with_reducible rfl
    (try simp only [Act.put, List.setIfInBounds_toArray, List.set_cons_zero, List.set_cons_succ])
    refine held_take (i := 2) (d := 40) (v := ?_) rfl rfl (by kernel_rfl) (by kernel_rfl) (by kernel_rfl) (fun _ _ _ h => h) (by kernel_rfl) hHeld ?_ ?_
    rotate_left
    · intro w hSw
      (try dsimp only at hSw)
      obtain ⟨p0, p1, p2, p3, p4, p5, p6, p7⟩ := (KA.out.below hSw KA.out.lt).rcd
      obtain ⟨q0, q1, q2, q3, q4, q5, q6, q7⟩ := (KQ.out.below hSw KQ.out.lt).rcd
      go_simp
      first | done | with_reducible rfl
    (try simp only [Act.put, List.setIfInBounds_toArray, List.set_cons_zero, List.set_cons_succ])
    refine held_call (i := 1) rfl (by kernel_rfl) (by kernel_rfl) (fun K hK => ?_)
    go_simp
    go_at_call 15
    refine (HM.out _ hHeld).mono ?_
    rintro e w' ⟨rfl, hb⟩
    (try dsimp only)
    refine hK.out _ _ ?_ (fun hHeld' => ?_)
    · (try dsimp only)
      first | exact HB.out | exact Below.drew (by assumption) | exact below_go (by assumption) (by assumption) (Nat.le_refl _)
    clear hK K hHeld
    have hHeld := hHeld'
    clear hHeld'
    (try simp only [Act.put, List.setIfInBounds_toArray, List.set_cons_zero, List.set_cons_succ])
    refine held_call (i := 3) rfl (by kernel_rfl) (by kernel_rfl) (fun K hK => ?_)
    go_simp
    go_at_call 16
    refine (HN.out _ hHeld).mono ?_
    rintro e w' ⟨rfl, hb⟩
    (try dsimp only)
    refine hK.out _ _ ?_ (fun hHeld' => ?_)
    · (try dsimp only)
      first | exact HB.out | exact Below.drew (by assumption) | exact below_go (by assumption) (by assumption) (Nat.le_refl _)
    clear hK K hHeld
    have hHeld := hHeld'
    clear hHeld'
    (try simp only [Act.put, List.setIfInBounds_toArray, List.set_cons_zero, List.set_cons_succ])
    refine held_take (i := 4) (d := 42) (v := ?_) rfl rfl (by kernel_rfl) (by kernel_rfl) (by kernel_rfl) (fun _ _ _ h => h) (by kernel_rfl) hHeld ?_ ?_
    rotate_left
    · intro w hSw
      (try dsimp only at hSw)
      go_simp
      first | done | with_reducible rfl
    (try simp only [Act.put, List.setIfInBounds_toArray, List.set_cons_zero, List.set_cons_succ])
    refine held_take (i := 5) (d := 43) (v := ?_) rfl rfl (by kernel_rfl) (by kernel_rfl) (by kernel_rfl) (fun _ _ _ h => h) (by kernel_rfl) hHeld ?_ ?_
    rotate_left
    · intro w hSw
      (try dsimp only at hSw)
      go_simp
      first | done | with_reducible rfl
    (try simp only [Act.put, List.setIfInBounds_toArray, List.set_cons_zero, List.set_cons_succ])
    refine held_take (i := 6) (d := 44) (v := ?_) rfl rfl (by kernel_rfl) (by kernel_rfl) (by kernel_rfl) (fun _ _ _ h => h) (by kernel_rfl) hHeld ?_ ?_
    rotate_left
    · intro w hSw
      (try dsimp only at hSw)
      go_simp
      first | done | with_reducible rfl
    (try simp only [Act.put, List.setIfInBounds_toArray, List.set_cons_zero, List.set_cons_succ])
    refine held_take (i := 7) (d := 45) (v := ?_) rfl rfl (by kernel_rfl) (by kernel_rfl) (by kernel_rfl) (fun _ _ _ h => h) (by kernel_rfl) hHeld ?_ ?_
    rotate_left
    · intro w hSw
      (try dsimp only at hSw)
      go_simp
      first | done | with_reducible rfl
    (try simp only [Act.put, List.setIfInBounds_toArray, List.set_cons_zero, List.set_cons_succ])
    refine held_take (i := 8) (d := 46) (v := ?_) rfl rfl (by kernel_rfl) (by kernel_rfl) (by kernel_rfl) (fun _ _ _ h => h) (by kernel_rfl) hHeld ?_ ?_
    rotate_left
    · intro w hSw
      (try dsimp only at hSw)
      go_simp
      first | done | with_reducible rfl
    (try simp only [Act.put, List.setIfInBounds_toArray, List.set_cons_zero, List.set_cons_succ])
    refine held_take (i := 9) (d := 47) (v := ?_) rfl rfl (by kernel_rfl) (by kernel_rfl) (by kernel_rfl) (fun _ _ _ h => h) (by kernel_rfl) hHeld ?_ ?_
    rotate_left
    · intro w hSw
      (try dsimp only at hSw)
      go_simp
      first | done | with_reducible rfl
    (try simp only [Act.put, List.setIfInBounds_toArray, List.set_cons_zero, List.set_cons_succ])
    refine held_take (i := 10) (d := 48) (v := ?_) rfl rfl (by kernel_rfl) (by kernel_rfl) (by kernel_rfl) (fun _ _ _ h => h) (by kernel_rfl) hHeld ?_ ?_
    rotate_left
    · intro w hSw
      (try dsimp only at hSw)
      go_simp
      first | done | with_reducible rfl
    (try simp only [Act.put, List.setIfInBounds_toArray, List.set_cons_zero, List.set_cons_succ])
    refine held_take (i := 11) (d := 49) (v := ?_) rfl rfl (by kernel_rfl) (by kernel_rfl) (by kernel_rfl) (fun _ _ _ h => h) (by kernel_rfl) hHeld ?_ ?_
    rotate_left
    · intro w hSw
      (try dsimp only at hSw)
      go_simp
      first | done | with_reducible rfl
    (try simp only [Act.put, List.setIfInBounds_toArray, List.set_cons_zero, List.set_cons_succ])
    refine held_take (i := 12) (d := 50) (v := ?_) rfl rfl (by kernel_rfl) (by kernel_rfl) (by kernel_rfl) (fun _ _ _ h => h) (by kernel_rfl) hHeld ?_ ?_
    rotate_left
    · intro w hSw
      (try dsimp only at hSw)
      go_simp
      first | done | with_reducible rfl
    (try simp only [Act.put, List.setIfInBounds_toArray, List.set_cons_zero, List.set_cons_succ])
    refine held_take (i := 13) (d := 51) (v := ?_) rfl rfl (by kernel_rfl) (by kernel_rfl) (by kernel_rfl) (fun _ _ _ h => h) (by kernel_rfl) hHeld ?_ ?_
    rotate_left
    · intro w hSw
      (try dsimp only at hSw)
      go_simp
      first | done | with_reducible rfl
    (try simp only [Act.put, List.setIfInBounds_toArray, List.set_cons_zero, List.set_cons_succ])
    refine held_take (i := 14) (d := 52) (v := ?_) rfl rfl (by kernel_rfl) (by kernel_rfl) (by kernel_rfl) (fun _ _ _ h => h) (by kernel_rfl) hHeld ?_ ?_
    rotate_left
    · intro w hSw
      (try dsimp only at hSw)
      go_simp
      first | done | with_reducible rfl
    (try simp only [Act.put, List.setIfInBounds_toArray, List.set_cons_zero, List.set_cons_succ])
    refine held_take (i := 15) (d := 53) (v := ?_) rfl rfl (by kernel_rfl) (by kernel_rfl) (by kernel_rfl) (fun _ _ _ h => h) (by kernel_rfl) hHeld ?_ ?_
    rotate_left
    · intro w hSw
      (try dsimp only at hSw)
      go_simp
      first | done | with_reducible rfl
    (try simp only [Act.put, List.setIfInBounds_toArray, List.set_cons_zero, List.set_cons_succ])
    refine held_take (i := 16) (d := 54) (v := ?_) rfl rfl (by kernel_rfl) (by kernel_rfl) (by kernel_rfl) (fun _ _ _ h => h) (by kernel_rfl) hHeld ?_ ?_
    rotate_left
    · intro w hSw
      (try dsimp only at hSw)
      go_simp
      first | done | with_reducible rfl
    (try simp only [Act.put, List.setIfInBounds_toArray, List.set_cons_zero, List.set_cons_succ])
    refine held_take (i := 17) (d := 55) (v := ?_) rfl rfl (by kernel_rfl) (by kernel_rfl) (by kernel_rfl) (fun _ _ _ h => h) (by kernel_rfl) hHeld ?_ ?_
    rotate_left
    · intro w hSw
      (try dsimp only at hSw)
      go_simp
      first | done | with_reducible rfl
    (try simp only [Act.put, List.setIfInBounds_toArray, List.set_cons_zero, List.set_cons_succ])
    refine held_take (i := 18) (d := 56) (v := ?_) rfl rfl (by kernel_rfl) (by kernel_rfl) (by kernel_rfl) (fun _ _ _ h => h) (by kernel_rfl) hHeld ?_ ?_
    rotate_left
    · intro w hSw
      (try dsimp only at hSw)
      go_simp
      first | done | with_reducible rfl
    (try simp only [Act.put, List.setIfInBounds_toArray, List.set_cons_zero, List.set_cons_succ])
    refine held_take (i := 19) (d := 57) (v := ?_) rfl rfl (by kernel_rfl) (by kernel_rfl) (by kernel_rfl) (fun _ _ _ h => h) (by kernel_rfl) hHeld ?_ ?_
    rotate_left
    · intro w hSw
      (try dsimp only at hSw)
      go_simp
      first | done | with_reducible rfl
    (try simp only [Act.put, List.setIfInBounds_toArray, List.set_cons_zero, List.set_cons_succ])
    refine held_take (i := 20) (d := 58) (v := ?_) rfl rfl (by kernel_rfl) (by kernel_rfl) (by kernel_rfl) (fun _ _ _ h => h) (by kernel_rfl) hHeld ?_ ?_
    rotate_left
    · intro w hSw
      (try dsimp only at hSw)
      go_simp
      first | done | with_reducible rfl
    (try simp only [Act.put, List.setIfInBounds_toArray, List.set_cons_zero, List.set_cons_succ])
    refine held_take (i := 21) (d := 59) (v := ?_) rfl rfl (by kernel_rfl) (by kernel_rfl) (by kernel_rfl) (fun _ _ _ h => h) (by kernel_rfl) hHeld ?_ ?_
    rotate_left
    · intro w hSw
      (try dsimp only at hSw)
      go_simp
      first | done | with_reducible rfl
    (try simp only [Act.put, List.setIfInBounds_toArray, List.set_cons_zero, List.set_cons_succ])
    refine held_take (i := 22) (d := 60) (v := ?_) rfl rfl (by kernel_rfl) (by kernel_rfl) (by kernel_rfl) (fun _ _ _ h => h) (by kernel_rfl) hHeld ?_ ?_
    rotate_left
    · intro w hSw
      (try dsimp only at hSw)
      go_simp
      first | done | with_reducible rfl
    (try simp only [Act.put, List.setIfInBounds_toArray, List.set_cons_zero, List.set_cons_succ])
    refine held_take (i := 23) (d := 61) (v := ?_) rfl rfl (by kernel_rfl) (by kernel_rfl) (by kernel_rfl) (fun _ _ _ h => h) (by kernel_rfl) hHeld ?_ ?_
    rotate_left
    · intro w hSw
      (try dsimp only at hSw)
      go_simp
      first | done | with_reducible rfl
    (try simp only [Act.put, List.setIfInBounds_toArray, List.set_cons_zero, List.set_cons_succ])
    refine held_take (i := 24) (d := 62) (v := ?_) rfl rfl (by kernel_rfl) (by kernel_rfl) (by kernel_rfl) (fun _ _ _ h => h) (by kernel_rfl) hHeld ?_ ?_
    rotate_left
    · intro w hSw
      (try dsimp only at hSw)
      go_simp
      first | done | with_reducible rfl
    (try simp only [Act.put, List.setIfInBounds_toArray, List.set_cons_zero, List.set_cons_succ])
    refine held_take (i := 25) (d := 63) (v := ?_) rfl rfl (by kernel_rfl) (by kernel_rfl) (by kernel_rfl) (fun _ _ _ h => h) (by kernel_rfl) hHeld ?_ ?_
    rotate_left
    · intro w hSw
      (try dsimp only at hSw)
      go_simp
      first | done | with_reducible rfl
    (try simp only [Act.put, List.setIfInBounds_toArray, List.set_cons_zero, List.set_cons_succ])
    refine held_take (i := 26) (d := 64) (v := ?_) rfl rfl (by kernel_rfl) (by kernel_rfl) (by kernel_rfl) (fun _ _ _ h => h) (by kernel_rfl) hHeld ?_ ?_
    rotate_left
    · intro w hSw
      (try dsimp only at hSw)
      obtain ⟨p0, p1, p2, p3, p4, p5, p6, p7⟩ := (KA.out.below hSw KA.out.lt).rcd
      obtain ⟨q0, q1, q2, q3, q4, q5, q6, q7⟩ := (KQ.out.below hSw KQ.out.lt).rcd
      go_simp
      first | done | with_reducible rfl
    (try simp only [Act.put, List.setIfInBounds_toArray, List.set_cons_zero, List.set_cons_succ])
    refine held_take (i := 27) (d := 65) (v := ?_) rfl rfl (by kernel_rfl) (by kernel_rfl) (by kernel_rfl) (fun _ _ _ h => h) (by kernel_rfl) hHeld ?_ ?_
    rotate_left
    · intro w hSw
      (try dsimp only at hSw)
      obtain ⟨p0, p1, p2, p3, p4, p5, p6, p7⟩ := (KA.out.below hSw KA.out.lt).rcd
      obtain ⟨q0, q1, q2, q3, q4, q5, q6, q7⟩ := (KQ.out.below hSw KQ.out.lt).rcd
      go_simp
      first | done | with_reducible rfl
    (try simp only [Act.put, List.setIfInBounds_toArray, List.set_cons_zero, List.set_cons_succ])
    refine held_take (i := 29) (d := 67) (v := ?_) rfl rfl (by kernel_rfl) (by kernel_rfl) (by kernel_rfl) (fun _ _ _ h => h) (by kernel_rfl) hHeld ?_ ?_
    rotate_left
    · intro w hSw
      (try dsimp only at hSw)
      obtain ⟨p0, p1, p2, p3, p4, p5, p6, p7⟩ := (KA.out.below hSw KA.out.lt).rcd
      obtain ⟨q0, q1, q2, q3, q4, q5, q6, q7⟩ := (KQ.out.below hSw KQ.out.lt).rcd
      go_simp
      first | done | with_reducible rfl
    (try simp only [Act.put, List.setIfInBounds_toArray, List.set_cons_zero, List.set_cons_succ])
    refine held_take (i := 30) (d := 68) (v := ?_) rfl rfl (by kernel_rfl) (by kernel_rfl) (by kernel_rfl) (fun _ _ _ h => h) (by kernel_rfl) hHeld ?_ ?_
    rotate_left
    · intro w hSw
      (try dsimp only at hSw)
      obtain ⟨p0, p1, p2, p3, p4, p5, p6, p7⟩ := (KA.out.below hSw KA.out.lt).rcd
      obtain ⟨q0, q1, q2, q3, q4, q5, q6, q7⟩ := (KQ.out.below hSw KQ.out.lt).rcd
      go_simp
      first | done | with_reducible rfl
    (try simp only [Act.put, List.setIfInBounds_toArray, List.set_cons_zero, List.set_cons_succ])
    refine held_call (i := 28) rfl (by kernel_rfl) (by kernel_rfl) (fun K hK => ?_)
    go_simp
    go_at_call 17
    refine (HS.out _ hHeld).mono ?_
    rintro e w' ⟨rfl, hb⟩
    (try dsimp only)
    refine hK.out _ _ ?_ (fun hHeld' => ?_)
    · (try dsimp only)
      first | exact HB.out | exact Below.drew (by assumption) | exact below_go (by assumption) (by assumption) (Nat.le_refl _)
    clear hK K hHeld
    have hHeld := hHeld'
    clear hHeld'
    (try simp only [Act.put, List.setIfInBounds_toArray, List.set_cons_zero, List.set_cons_succ])
    refine held_call (i := 31) rfl (by kernel_rfl) (by kernel_rfl) (fun K hK => ?_)
    go_simp
    go_at_call 18
    refine (HT.out _ hHeld).mono ?_
    rintro e w' ⟨rfl, hb⟩
    (try dsimp only)
    refine hK.out _ _ ?_ (fun hHeld' => ?_)
    · (try dsimp only)
      first | exact HB.out | exact Below.drew (by assumption) | exact below_go (by assumption) (by assumption) (Nat.le_refl _)
    clear hK K hHeld
    have hHeld := hHeld'
    clear hHeld'
    (try simp only [Act.put, List.setIfInBounds_toArray, List.set_cons_zero, List.set_cons_succ])
    refine held_take (i := 32) (d := 70) (v := ?_) rfl rfl (by kernel_rfl) (by kernel_rfl) (by kernel_rfl) (fun _ _ _ h => h) (by kernel_rfl) hHeld ?_ ?_
    rotate_left
    · intro w hSw
      (try dsimp only at hSw)
      go_simp
      first | done | with_reducible rfl
    (try simp only [Act.put, List.setIfInBounds_toArray, List.set_cons_zero, List.set_cons_succ])
    refine held_take (i := 33) (d := 71) (v := ?_) rfl rfl (by kernel_rfl) (by kernel_rfl) (by kernel_rfl) (fun _ _ _ h => h) (by kernel_rfl) hHeld ?_ ?_
    rotate_left
    · intro w hSw
      (try dsimp only at hSw)
      go_simp
      first | done | with_reducible rfl
    (try simp only [Act.put, List.setIfInBounds_toArray, List.set_cons_zero, List.set_cons_succ])
    refine held_take (i := 34) (d := 72) (v := ?_) rfl rfl (by kernel_rfl) (by kernel_rfl) (by kernel_rfl) (fun _ _ _ h => h) (by kernel_rfl) hHeld ?_ ?_
    rotate_left
    · intro w hSw
      (try dsimp only at hSw)
      go_simp
      first | done | with_reducible rfl
    (try simp only [Act.put, List.setIfInBounds_toArray, List.set_cons_zero, List.set_cons_succ])
    refine held_take (i := 35) (d := 73) (v := ?_) rfl rfl (by kernel_rfl) (by kernel_rfl) (by kernel_rfl) (fun _ _ _ h => h) (by kernel_rfl) hHeld ?_ ?_
    rotate_left
    · intro w hSw
      (try dsimp only at hSw)
      go_simp
      first | done | with_reducible rfl
    (try simp only [Act.put, List.setIfInBounds_toArray, List.set_cons_zero, List.set_cons_succ])
    refine held_take (i := 36) (d := 74) (v := ?_) rfl rfl (by kernel_rfl) (by kernel_rfl) (by kernel_rfl) (fun _ _ _ h => h) (by kernel_rfl) hHeld ?_ ?_
    rotate_left
    · intro w hSw
      (try dsimp only at hSw)
      obtain ⟨p0, p1, p2, p3, p4, p5, p6, p7⟩ := (KA.out.below hSw KA.out.lt).rcd
      obtain ⟨q0, q1, q2, q3, q4, q5, q6, q7⟩ := (KQ.out.below hSw KQ.out.lt).rcd
      go_simp
      first | done | with_reducible rfl
    (try simp only [Act.put, List.setIfInBounds_toArray, List.set_cons_zero, List.set_cons_succ])
    refine held_take (i := 37) (d := 75) (v := ?_) rfl rfl (by kernel_rfl) (by kernel_rfl) (by kernel_rfl) (fun _ _ _ h => h) (by kernel_rfl) hHeld ?_ ?_
    rotate_left
    · intro w hSw
      (try dsimp only at hSw)
      go_simp
      first | done | with_reducible rfl
    (try simp only [Act.put, List.setIfInBounds_toArray, List.set_cons_zero, List.set_cons_succ])
    refine held_take (i := 38) (d := 76) (v := ?_) rfl rfl (by kernel_rfl) (by kernel_rfl) (by kernel_rfl) (fun _ _ _ h => h) (by kernel_rfl) hHeld ?_ ?_
    rotate_left
    · intro w hSw
      (try dsimp only at hSw)
      obtain ⟨p0, p1, p2, p3, p4, p5, p6, p7⟩ := (KA.out.below hSw KA.out.lt).rcd
      obtain ⟨q0, q1, q2, q3, q4, q5, q6, q7⟩ := (KQ.out.below hSw KQ.out.lt).rcd
      go_simp
      first | done | with_reducible rfl
    (try simp only [Act.put, List.setIfInBounds_toArray, List.set_cons_zero, List.set_cons_succ])
    refine held_take (i := 40) (d := 78) (v := ?_) rfl rfl (by kernel_rfl) (by kernel_rfl) (by kernel_rfl) (fun _ _ _ h => h) (by kernel_rfl) hHeld ?_ ?_
    rotate_left
    · intro w hSw
      (try dsimp only at hSw)
      go_simp
      first | done | with_reducible rfl
    (try simp only [Act.put, List.setIfInBounds_toArray, List.set_cons_zero, List.set_cons_succ])
    refine held_take (i := 41) (d := 79) (v := ?_) rfl rfl (by kernel_rfl) (by kernel_rfl) (by kernel_rfl) (fun _ _ _ h => h) (by kernel_rfl) hHeld ?_ ?_
    rotate_left
    · intro w hSw
      (try dsimp only at hSw)
      obtain ⟨p0, p1, p2, p3, p4, p5, p6, p7⟩ := (KA.out.below hSw KA.out.lt).rcd
      obtain ⟨q0, q1, q2, q3, q4, q5, q6, q7⟩ := (KQ.out.below hSw KQ.out.lt).rcd
      go_simp
      first | done | with_reducible rfl
    (try simp only [Act.put, List.setIfInBounds_toArray, List.set_cons_zero, List.set_cons_succ])
    refine held_take (i := 42) (d := 80) (v := ?_) rfl rfl (by kernel_rfl) (by kernel_rfl) (by kernel_rfl) (fun _ _ _ h => h) (by kernel_rfl) hHeld ?_ ?_
    rotate_left
    · intro w hSw
      (try dsimp only at hSw)
      go_simp
      first | done | with_reducible rfl
    (try simp only [Act.put, List.setIfInBounds_toArray, List.set_cons_zero, List.set_cons_succ])
    refine held_take (i := 43) (d := 81) (v := ?_) rfl rfl (by kernel_rfl) (by kernel_rfl) (by kernel_rfl) (fun _ _ _ h => h) (by kernel_rfl) hHeld ?_ ?_
    rotate_left
    · intro w hSw
      (try dsimp only at hSw)
      obtain ⟨p0, p1, p2, p3, p4, p5, p6, p7⟩ := (KA.out.below hSw KA.out.lt).rcd
      obtain ⟨q0, q1, q2, q3, q4, q5, q6, q7⟩ := (KQ.out.below hSw KQ.out.lt).rcd
      go_simp
      first | done | with_reducible rfl
    (try simp only [Act.put, List.setIfInBounds_toArray, List.set_cons_zero, List.set_cons_succ])
    refine held_call (i := 39) rfl (by kernel_rfl) (by kernel_rfl) (fun K hK => ?_)
    go_simp
    go_at_call 19
    refine (HU.out _ hHeld).mono ?_
    rintro e w' ⟨rfl, hb⟩
    (try dsimp only)
    refine hK.out _ _ ?_ (fun hHeld' => ?_)
    · (try dsimp only)
      first | exact HB.out | exact Below.drew (by assumption) | exact below_go (by assumption) (by assumption) (Nat.le_refl _)
    clear hK K hHeld
    have hHeld := hHeld'
    clear hHeld'
    (try simp only [Act.put, List.setIfInBounds_toArray, List.set_cons_zero, List.set_cons_succ])
    refine held_call (i := 44) rfl (by kernel_rfl) (by kernel_rfl) (fun K hK => ?_)
    go_simp
    go_at_call 20
    refine (HV.out _ hHeld).mono ?_
    rintro e w' ⟨rfl, hb⟩
    (try dsimp only)
    refine hK.out _ _ ?_ (fun hHeld' => ?_)
    · (try dsimp only)
      first | exact HB.out | exact Below.drew (by assumption) | exact below_go (by assumption) (by assumption) (Nat.le_refl _)
    clear hK K hHeld
    have hHeld := hHeld'
    clear hHeld'
    (try simp only [Act.put, List.setIfInBounds_toArray, List.set_cons_zero, List.set_cons_succ])
    refine held_take (i := 45) (d := 83) (v := ?_) rfl rfl (by kernel_rfl) (by kernel_rfl) (by kernel_rfl) (fun _ _ _ h => h) (by kernel_rfl) hHeld ?_ ?_
    rotate_left
    · intro w hSw
      (try dsimp only at hSw)
      go_simp
      first | done | with_reducible rfl
    (try simp only [Act.put, List.setIfInBounds_toArray, List.set_cons_zero, List.set_cons_succ])
    refine held_take (i := 46) (d := 84) (v := ?_) rfl rfl (by kernel_rfl) (by kernel_rfl) (by kernel_rfl) (fun _ _ _ h => h) (by kernel_rfl) hHeld ?_ ?_
    rotate_left
    · intro w hSw
      (try dsimp only at hSw)
      go_simp
      first | done | with_reducible rfl
    (try simp only [Act.put, List.setIfInBounds_toArray, List.set_cons_zero, List.set_cons_succ])
    refine held_take (i := 47) (d := 85) (v := ?_) rfl rfl (by kernel_rfl) (by kernel_rfl) (by kernel_rfl) (fun _ _ _ h => h) (by kernel_rfl) hHeld ?_ ?_
    rotate_left
    · intro w hSw
      (try dsimp only at hSw)
      go_simp
      first | done | with_reducible rfl
    (try simp only [Act.put, List.setIfInBounds_toArray, List.set_cons_zero, List.set_cons_succ])
    refine held_call (i := 48) rfl (by kernel_rfl) (by kernel_rfl) (fun K hK => ?_)
    go_simp
    go_at_call 10
    refine (wakes_any _).mono ?_
    rintro e w' ⟨rfl, hb⟩
    (try dsimp only)
    refine hK.out _ _ ?_ (fun hHeld' => ?_)
    · (try dsimp only)
      first | exact HB.out | exact Below.drew (by assumption) | exact below_go (by assumption) (by assumption) (Nat.le_refl _)
    clear hK K hHeld
    have hHeld := hHeld'
    clear hHeld'
    (try simp only [Act.put, List.setIfInBounds_toArray, List.set_cons_zero, List.set_cons_succ])
    refine held_take (i := 49) (d := 87) (v := ?_) rfl rfl (by kernel_rfl) (by kernel_rfl) (by kernel_rfl) (fun _ _ _ h => h) (by kernel_rfl) hHeld ?_ ?_
    rotate_left
    · intro w hSw
      (try dsimp only at hSw)
      go_simp
      first | done | with_reducible rfl
    (try simp only [Act.put, List.setIfInBounds_toArray, List.set_cons_zero, List.set_cons_succ])
    refine held_take (i := 50) (d := 4) (v := ?_) rfl rfl (by kernel_rfl) (by kernel_rfl) (by kernel_rfl) (fun _ _ _ h => h) (by kernel_rfl) hHeld ?_ ?_
    rotate_left
    · intro w hSw
      (try dsimp only at hSw)
      go_simp
      first | done | with_reducible rfl
    (try simp only [Act.put, List.setIfInBounds_toArray, List.set_cons_zero, List.set_cons_succ])
    refine wpAnyH_done (by kernel_rfl) ?_ _
    go_wp2
    go_ret
    exact ⟨rfl, WB.out.trans (Below.mono hHeld WB.out.size)⟩
end Go.Proofs.Ytlkkmgimjjnhjaa
