/- How great records are: the walks of Size. · How great records are: the walk of Great; a row of records in memory. · Two rows of records: the same? · What the document says of the end's frame: true of the program. -/
import Derived.Test.YtlkkmgimjjnhjaaMA04
import Derived.Test.YtlkkmgimjjnhjaaMA29
set_option linter.unusedSimpArgs false
set_option linter.unusedVariables false
namespace Go.Proofs.Ytlkkmgimjjnhjaa
open Go.RowKit Rec
attribute [local go_sem ↓] Go.wp_at_zero Go.wp_at_succ

/-- What Size asks of a record. -/
structure SizeIn (w : World) (r : Rcd) (A A' : Option Addr) : Prop where
  a : Reads w w.heap.size 7 A r.entries.length (ents r.entries)
  k : Reads w w.heap.size 8 A' r.kept.length (kpts r.kept)
  na : r.entries.length ≤ maxLen
  nk : r.kept.length ≤ maxLen
theorem SizeIn.below {w w' : World} {r : Rcd} {A A' : Option Addr} (h : SizeIn w r A A') (hb : Below w.heap.size w w') : SizeIn w' r A A' := ⟨(h.a.below hb).more hb.size, (h.k.below hb).more hb.size, h.na, h.nk⟩
theorem rsz_le (l : List Ent) : rsz l ≤ 21350061 := by
  unfold rsz
  split
  · omega
  · have := esum_le l l.length
    rw [List.take_length] at this
    have : l.length ≤ 60 := by omega
    omega

theorem min_run (w : World) (a q : Nat) (h : min a 70000 = q) : (Builtin.min_ #[3, 3] 3 #[.int .i64 (a : Int), .int .i64 70000]).run Try.prog w = .ok (.int .i64 (q : Int)) w := by
  rcases Nat.lt_or_ge 70000 a with hh | hh
  · have h1 : (70000 : Int) < a := by omega
    have h2 : q = 70000 := by omega
    subst h2
    go_simp
  · have h1 : ¬ (70000 : Int) < a := by omega
    have h2 : q = a := by omega
    subst h2
    go_simp

set_option maxHeartbeats 4000000 in
theorem Size_any (r : Rcd) (A A' : Option Addr) (c c' : Nat) (w : World) (hi : SizeIn w r A A') :
    Calls Try.prog 26 #[.agg (rcdCells r A c A' c')] w fun e w' => e = .returned (.int .i64 (rSize r)) ∧ Below w.heap.size w w' := by
  obtain ⟨n, hn⟩ : ∃ n, r.kept.length = n := ⟨_, rfl⟩
  have hl' : (n : Int) ≤ 9223372036854775807 := by have := hi.nk; rw [← hn]; unfold maxLen at this; omega
  have HI := hide hi
  unfold rcdCells
  rw [hn]
  have Hn := hide hn
  clear hn hi
  go_enter Try.func26, Try.ntmps26
  go_wp2
  have K0 := hide (Blk.new w 28 (rcdCells r A c A' c'))
  have B0 := hide (below_alloc w (.cells (rcdCells r A c A' c') 28))
  unfold rcdCells at K0 B0
  rw [Hn.out] at K0 B0
  go_loopg [3, 4] 61 (fun g vl vi wr => ∃ (k : Nat) (A2 : Option Addr) (c2 : Nat), g = 61 - k ∧ k ≤ 61 ∧ k ≤ n ∧ vi = .int .i64 k ∧ vl = .slice A2 k c2 ∧ wr.ownsRow (w.heap.size + 1) 47 7 (.slice A2 k c2) k (ents ((r.kept.map (·.e)).take k)) ∧ Below w.heap.size w wr ∧
    Blk wr w.heap.size 28 #[.int .i8 r.kind, .int .i64 r.gen, .string r.url, .string r.id, .bool r.read, .slice A r.entries.length c, .string r.surl, .slice A' n c'])
  case atStart => exact ⟨0, none, 0, rfl, by omega, by omega, rfl, rfl, World.ownsRow_nil _ _ _ _, B0.out, K0.out⟩
  case round =>
    obtain ⟨k, A2, c2, hg, hk, hkn, rfl, rfl, hrow, hB, hK⟩ := hrel
    have Hg := hide hg
    have Hrow := hide hrow
    have HB := hide hB
    have HK := hide hK
    have x7 : wr.cell? ⟨w.heap.size, 7, none⟩ = some (.slice A' n c') := hK.cell 7
    have x5 : wr.cell? ⟨w.heap.size, 5, none⟩ = some (.slice A r.entries.length c) := hK.cell 5
    have x2 : wr.cell? ⟨w.heap.size, 2, none⟩ = some (.string r.url) := hK.cell 2
    have x3 : wr.cell? ⟨w.heap.size, 3, none⟩ = some (.string r.id) := hK.cell 3
    have x6 : wr.cell? ⟨w.heap.size, 6, none⟩ = some (.string r.surl) := hK.cell 6
    clear hg hrow hB hK K0 B0
    by_cases hlt : k < n
    · by_cases h60 : k ≤ 60
      · have h1 : k < r.kept.length := by rw [Hn.out]; exact hlt
        have hrk := (HI.out.k.below HB.out)
        obtain ⟨bb, off, rfl, hbb, hx⟩ := hrk.kpt h1
        obtain ⟨x, ex⟩ : ∃ x, r.kept[k] = x := ⟨_, rfl⟩
        rw [ex] at hx
        have hnx : (r.kept.map (·.e)).take (k + 1) = (r.kept.map (·.e)).take k ++ [x.e] := by
          rw [List.take_succ_eq_append_getElem (by simpa using h1)]
          simp [ex]
        have Hnx := hide hnx
        have y0 := hx.c0
        have y1 := hx.c1
        have y2 := hx.c2
        have y3 := hx.c3
        have y4 := hx.c4
        have y5 := hx.c5
        have y6 := hx.c6
        clear hx ex hrk hnx
        go_wp2_with (at_builtin; go_loud (refine wpList_append_elem_at (wr.alloc (.cells #[.string x.e.id, .string x.e.title, .string x.e.link, .string x.e.author, .string x.e.content, .bool x.e.has, .int .i64 x.e.sec] 47)) rfl (.tmp 17) (.tmp 25) 23 rfl (w.heap.size + 1) 47 (.agg #[.string ⟨#[]⟩, .string ⟨#[]⟩, .string ⟨#[]⟩, .string ⟨#[]⟩, .string ⟨#[]⟩, .bool false, .int .i64 0]) 7 96 Try.underlying23 info_ent rfl (by omega) (.slice A2 k c2) k (ents ((r.kept.map (·.e)).take k)) rfl (Hrow.out.alloc _) (entCells x.e) rfl (ent_one x.e) wr.heap.size (Blk.new wr 47 _) rfl (by unfold maxLen; omega) (by omega) (by have := HK.out.lt; simp; omega) ?_); intro g cap w3 hown3 hgrow3 hlt3; have Hown3 := hide hown3; have Hgrow3 := hide hgrow3; clear hown3 hgrow3 hlt3)
        have HB3 := hide (show Below w.heap.size w w3 from (HB.out.alloc HB.out.size _).grown Hgrow3.out (by have := HB.out.size; simp; omega) (fun j e => by have := (own_isT Hrow.out j e).1; omega))
        have HK3 := hide (Blk.grown (HK.out.alloc _) Hgrow3.out (own_blk_ne Hrow.out HK.out (by decide)).symm)
        go_roundg (61 - (k + 1))
        case measure => have := Hg.out; omega
        case rel => exact ⟨k + 1, some ⟨g, 0, none⟩, cap, rfl, by omega, by omega, by go_num, rfl, by rw [Hnx.out, ents_snoc]; exact Hown3.out, HB3.out, HK3.out⟩
      · have HR := hide (show rSize r = 1048576 by unfold rSize; rw [Hn.out, if_pos (by omega)])
        go_wp2
        go_ret
        exact ⟨ret_eq1 (int_eq (by rw [HR.out]; rfl)), HB.out⟩
    · have hkn' : k = n := by omega
      subst hkn'
      by_cases h60 : k ≤ 60
      · have HT := hide (show (r.kept.map (·.e)).take k = r.kept.map (·.e) from List.take_of_length_le (by simp [Hn.out]))
        rw [HT.out] at Hrow
        have hl2 : (r.kept.map (·.e)).length = k := by simp [Hn.out]
        have Ha := hide fun (W : World) (hW : Below wr.heap.size wr W) => size_any A c r.entries W (((HI.out.a.below HB.out).more HB.out.size |>.below hW).more hW.size) HI.out.na
        have Hk := hide fun (W : World) (hW : Below wr.heap.size wr W) => by
          have h := size_any A2 c2 (r.kept.map (·.e)) W (by rw [hl2]; exact ((Reads.of_own Hrow.out).below hW).more hW.size) (by rw [hl2]; unfold maxLen; omega)
          rw [hl2] at h
          exact h
        have hz1 := rsz_le r.entries
        have hz2 := rsz_le (r.kept.map (·.e))
        have HR := hide (show rSize r = rsz r.entries + rsz (r.kept.map (·.e)) + m7 r.id + m7 r.url + m7 r.surl by unfold rSize; rw [Hn.out, if_neg (by omega)])
        generalize rsz r.entries = z1 at *
        generalize rsz (r.kept.map (·.e)) = z2 at *
        have h7a := m7_le r.id
        have h7b := m7_le r.url
        have h7c := m7_le r.surl
        have e7a : min (r.id.size : Int) 70000 = ((m7 r.id : Nat) : Int) := by unfold m7; omega
        have e7b : min (r.url.size : Int) 70000 = ((m7 r.url : Nat) : Int) := by unfold m7; omega
        have e7c : min (r.surl.size : Int) 70000 = ((m7 r.surl : Nat) : Int) := by unfold m7; omega
        generalize m7 r.id = q1 at *
        generalize m7 r.url = q2 at *
        generalize m7 r.surl = q3 at *
        have hw0 := hide (show Below wr.heap.size wr wr.drew from (Below.refl _ wr).drew)
        have Hlt := hide HK.out.lt
        clear hlt hkn hk hl2
        go_wp2
        have hs1 : IntKind.i64.wrap ((z1 : Int) + z2) = (z1 : Int) + z2 := IntWalk.i64_in _ (by omega)
        have hs2 : IntKind.i64.wrap ((z1 : Int) + z2 + q1) = (z1 : Int) + z2 + q1 := IntWalk.i64_in _ (by omega)
        have hs3 : IntKind.i64.wrap ((z1 : Int) + z2 + q1 + q2) = (z1 : Int) + z2 + q1 + q2 := IntWalk.i64_in _ (by omega)
        have hs4 : IntKind.i64.wrap ((z1 : Int) + z2 + q1 + q2 + q3) = (z1 : Int) + z2 + q1 + q2 + q3 := IntWalk.i64_in _ (by omega)
        refine wp_region_held_drew (S := (fun w' => w'.cell? ⟨w.heap.size, 5, none⟩ = some (.slice A r.entries.length c) ∧ w'.cell? ⟨w.heap.size, 3, none⟩ = some (.string r.id) ∧ w'.cell? ⟨w.heap.size, 2, none⟩ = some (.string r.url) ∧ w'.cell? ⟨w.heap.size, 6, none⟩ = some (.string r.surl))) (by kernel_rfl) ?_ (fun hHeld => ?_)
        · (try dsimp only)
          exact ⟨x5, x3, x2, x6⟩
        change wpAnyH _ _ _ _ _ 23 #[false, false, false, false, false, false, false, false, false, false, false, false, false, false, false, false, false, false, false, false, false, false, false] _ _
        refine held_take (i := 0) (d := 32) (v := ?_) rfl rfl (by kernel_rfl) (by kernel_rfl) (by kernel_rfl) (fun _ _ _ h => h) (by kernel_rfl) hHeld ?_ ?_
        rotate_left
        · intro w hSw
          (try dsimp only at hSw)
          go_simp
          first | done | with_reducible rfl
        (try simp only [Act.put, List.setIfInBounds_toArray, List.set_cons_zero, List.set_cons_succ])
        refine held_take (i := 1) (d := 33) (v := ?_) rfl rfl (by kernel_rfl) (by kernel_rfl) (by kernel_rfl) (fun _ _ _ h => h) (by kernel_rfl) hHeld ?_ ?_
        rotate_left
        · intro w hSw
          (try dsimp only at hSw)
          go_simp
          first | done | with_reducible rfl
        (try simp only [Act.put, List.setIfInBounds_toArray, List.set_cons_zero, List.set_cons_succ])
        refine held_take (i := 3) (d := 35) (v := ?_) rfl rfl (by kernel_rfl) (by kernel_rfl) (by kernel_rfl) (fun _ _ _ h => h) (by kernel_rfl) hHeld ?_ ?_
        rotate_left
        · intro w hSw
          (try dsimp only at hSw)
          go_simp
          first | done | with_reducible rfl
        (try simp only [Act.put, List.setIfInBounds_toArray, List.set_cons_zero, List.set_cons_succ])
        refine held_take (i := 6) (d := 38) (v := ?_) rfl rfl (by kernel_rfl) (by kernel_rfl) (by kernel_rfl) (fun _ _ _ h => h) (by kernel_rfl) hHeld ?_ ?_
        rotate_left
        · intro w hSw
          (try dsimp only at hSw)
          go_simp
          first | done | with_reducible rfl
        (try simp only [Act.put, List.setIfInBounds_toArray, List.set_cons_zero, List.set_cons_succ])
        refine held_take (i := 7) (d := 39) (v := ?_) rfl rfl (by kernel_rfl) (by kernel_rfl) (by kernel_rfl) (fun _ _ _ h => h) (by kernel_rfl) hHeld ?_ ?_
        rotate_left
        · intro w hSw
          (try dsimp only at hSw)
          go_simp
          first | done | with_reducible rfl
        (try simp only [Act.put, List.setIfInBounds_toArray, List.set_cons_zero, List.set_cons_succ])
        refine held_take (i := 8) (d := 40) (v := ?_) rfl rfl (by kernel_rfl) (by kernel_rfl) (by kernel_rfl) (fun _ _ _ h => h) (by kernel_rfl) hHeld ?_ ?_
        rotate_left
        · intro w hSw
          (try dsimp only at hSw)
          go_simp
          first | done | with_reducible rfl
        (try simp only [Act.put, List.setIfInBounds_toArray, List.set_cons_zero, List.set_cons_succ])
        refine held_take (i := 9) (d := 41) (v := .int .i64 (q1 : Int)) rfl rfl (by kernel_rfl) (by kernel_rfl) (by kernel_rfl) (fun _ _ _ h => h) (by kernel_rfl) hHeld ?_ ?_
        · intro w hSw
          (try dsimp only at hSw)
          have hmin := min_run w r.id.size q1 (by omega)
          go_simp
        (try simp only [Act.put, List.setIfInBounds_toArray, List.set_cons_zero, List.set_cons_succ])
        refine held_take (i := 11) (d := 43) (v := ?_) rfl rfl (by kernel_rfl) (by kernel_rfl) (by kernel_rfl) (fun _ _ _ h => h) (by kernel_rfl) hHeld ?_ ?_
        rotate_left
        · intro w hSw
          (try dsimp only at hSw)
          go_simp
          first | done | with_reducible rfl
        (try simp only [Act.put, List.setIfInBounds_toArray, List.set_cons_zero, List.set_cons_succ])
        refine held_take (i := 12) (d := 44) (v := ?_) rfl rfl (by kernel_rfl) (by kernel_rfl) (by kernel_rfl) (fun _ _ _ h => h) (by kernel_rfl) hHeld ?_ ?_
        rotate_left
        · intro w hSw
          (try dsimp only at hSw)
          go_simp
          first | done | with_reducible rfl
        (try simp only [Act.put, List.setIfInBounds_toArray, List.set_cons_zero, List.set_cons_succ])
        refine held_take (i := 13) (d := 45) (v := ?_) rfl rfl (by kernel_rfl) (by kernel_rfl) (by kernel_rfl) (fun _ _ _ h => h) (by kernel_rfl) hHeld ?_ ?_
        rotate_left
        · intro w hSw
          (try dsimp only at hSw)
          go_simp
          first | done | with_reducible rfl
        (try simp only [Act.put, List.setIfInBounds_toArray, List.set_cons_zero, List.set_cons_succ])
        refine held_take (i := 14) (d := 46) (v := .int .i64 (q2 : Int)) rfl rfl (by kernel_rfl) (by kernel_rfl) (by kernel_rfl) (fun _ _ _ h => h) (by kernel_rfl) hHeld ?_ ?_
        · intro w hSw
          (try dsimp only at hSw)
          have hmin := min_run w r.url.size q2 (by omega)
          go_simp
        (try simp only [Act.put, List.setIfInBounds_toArray, List.set_cons_zero, List.set_cons_succ])
        refine held_take (i := 16) (d := 48) (v := ?_) rfl rfl (by kernel_rfl) (by kernel_rfl) (by kernel_rfl) (fun _ _ _ h => h) (by kernel_rfl) hHeld ?_ ?_
        rotate_left
        · intro w hSw
          (try dsimp only at hSw)
          go_simp
          first | done | with_reducible rfl
        (try simp only [Act.put, List.setIfInBounds_toArray, List.set_cons_zero, List.set_cons_succ])
        refine held_take (i := 17) (d := 49) (v := ?_) rfl rfl (by kernel_rfl) (by kernel_rfl) (by kernel_rfl) (fun _ _ _ h => h) (by kernel_rfl) hHeld ?_ ?_
        rotate_left
        · intro w hSw
          (try dsimp only at hSw)
          go_simp
          first | done | with_reducible rfl
        (try simp only [Act.put, List.setIfInBounds_toArray, List.set_cons_zero, List.set_cons_succ])
        refine held_take (i := 18) (d := 50) (v := ?_) rfl rfl (by kernel_rfl) (by kernel_rfl) (by kernel_rfl) (fun _ _ _ h => h) (by kernel_rfl) hHeld ?_ ?_
        rotate_left
        · intro w hSw
          (try dsimp only at hSw)
          go_simp
          first | done | with_reducible rfl
        (try simp only [Act.put, List.setIfInBounds_toArray, List.set_cons_zero, List.set_cons_succ])
        refine held_take (i := 19) (d := 51) (v := ?_) rfl rfl (by kernel_rfl) (by kernel_rfl) (by kernel_rfl) (fun _ _ _ h => h) (by kernel_rfl) hHeld ?_ ?_
        rotate_left
        · intro w hSw
          (try dsimp only at hSw)
          go_simp
          first | done | with_reducible rfl
        (try simp only [Act.put, List.setIfInBounds_toArray, List.set_cons_zero, List.set_cons_succ])
        refine held_take (i := 20) (d := 52) (v := .int .i64 (q3 : Int)) rfl rfl (by kernel_rfl) (by kernel_rfl) (by kernel_rfl) (fun _ _ _ h => h) (by kernel_rfl) hHeld ?_ ?_
        · intro w hSw
          (try dsimp only at hSw)
          have hmin := min_run w r.surl.size q3 (by omega)
          go_simp
        (try simp only [Act.put, List.setIfInBounds_toArray, List.set_cons_zero, List.set_cons_succ])
        refine held_call (i := 2) rfl (by kernel_rfl) (by kernel_rfl) (fun K hK => ?_)
        go_simp
        refine (Ha.out _ hw0.out).mono ?_
        rintro e wa ⟨rfl, hb⟩
        have Hwa := hide (hw0.out.trans (hb.mono hw0.out.size))
        have wak5 : wa.cell? ⟨w.heap.size, 5, none⟩ = some (.slice A r.entries.length c) := (Hwa.out.cell (p := ⟨w.heap.size, 5, none⟩) Hlt.out).trans x5
        have wak3 : wa.cell? ⟨w.heap.size, 3, none⟩ = some (.string r.id) := (Hwa.out.cell (p := ⟨w.heap.size, 3, none⟩) Hlt.out).trans x3
        have wak2 : wa.cell? ⟨w.heap.size, 2, none⟩ = some (.string r.url) := (Hwa.out.cell (p := ⟨w.heap.size, 2, none⟩) Hlt.out).trans x2
        have wak6 : wa.cell? ⟨w.heap.size, 6, none⟩ = some (.string r.surl) := (Hwa.out.cell (p := ⟨w.heap.size, 6, none⟩) Hlt.out).trans x6
        clear hb
        refine hK.out _ _ ?_ (fun hHeld' => ?_)
        · (try dsimp only)
          exact ⟨wak5, wak3, wak2, wak6⟩
        clear hK K hHeld
        have hHeld := hHeld'
        clear hHeld'
        (try simp only [Act.put, List.setIfInBounds_toArray, List.set_cons_zero, List.set_cons_succ])
        refine held_call (i := 4) rfl (by kernel_rfl) (by kernel_rfl) (fun K hK => ?_)
        go_simp
        refine (Hk.out _ Hwa.out).mono ?_
        rintro e wb ⟨rfl, hb⟩
        have Hwb := hide (Hwa.out.trans (hb.mono Hwa.out.size))
        have wbk5 : wb.cell? ⟨w.heap.size, 5, none⟩ = some (.slice A r.entries.length c) := (Hwb.out.cell (p := ⟨w.heap.size, 5, none⟩) Hlt.out).trans x5
        have wbk3 : wb.cell? ⟨w.heap.size, 3, none⟩ = some (.string r.id) := (Hwb.out.cell (p := ⟨w.heap.size, 3, none⟩) Hlt.out).trans x3
        have wbk2 : wb.cell? ⟨w.heap.size, 2, none⟩ = some (.string r.url) := (Hwb.out.cell (p := ⟨w.heap.size, 2, none⟩) Hlt.out).trans x2
        have wbk6 : wb.cell? ⟨w.heap.size, 6, none⟩ = some (.string r.surl) := (Hwb.out.cell (p := ⟨w.heap.size, 6, none⟩) Hlt.out).trans x6
        clear hb
        refine hK.out _ _ ?_ (fun hHeld' => ?_)
        · (try dsimp only)
          exact ⟨wbk5, wbk3, wbk2, wbk6⟩
        clear hK K hHeld
        have hHeld := hHeld'
        clear hHeld'
        (try simp only [Act.put, List.setIfInBounds_toArray, List.set_cons_zero, List.set_cons_succ])
        refine held_take (i := 5) (d := 37) (v := ?_) rfl rfl (by kernel_rfl) (by kernel_rfl) (by kernel_rfl) (fun _ _ _ h => h) (by kernel_rfl) hHeld ?_ ?_
        rotate_left
        · intro w hSw
          (try dsimp only at hSw)
          go_simp
          first | done | with_reducible rfl
        (try simp only [Act.put, List.setIfInBounds_toArray, List.set_cons_zero, List.set_cons_succ])
        refine held_take (i := 10) (d := 42) (v := ?_) rfl rfl (by kernel_rfl) (by kernel_rfl) (by kernel_rfl) (fun _ _ _ h => h) (by kernel_rfl) hHeld ?_ ?_
        rotate_left
        · intro w hSw
          (try dsimp only at hSw)
          go_simp
          first | done | with_reducible rfl
        (try simp only [Act.put, List.setIfInBounds_toArray, List.set_cons_zero, List.set_cons_succ])
        refine held_take (i := 15) (d := 47) (v := ?_) rfl rfl (by kernel_rfl) (by kernel_rfl) (by kernel_rfl) (fun _ _ _ h => h) (by kernel_rfl) hHeld ?_ ?_
        rotate_left
        · intro w hSw
          (try dsimp only at hSw)
          go_simp
          first | done | with_reducible rfl
        (try simp only [Act.put, List.setIfInBounds_toArray, List.set_cons_zero, List.set_cons_succ])
        refine held_take (i := 21) (d := 53) (v := ?_) rfl rfl (by kernel_rfl) (by kernel_rfl) (by kernel_rfl) (fun _ _ _ h => h) (by kernel_rfl) hHeld ?_ ?_
        rotate_left
        · intro w hSw
          (try dsimp only at hSw)
          go_simp
          first | done | with_reducible rfl
        (try simp only [Act.put, List.setIfInBounds_toArray, List.set_cons_zero, List.set_cons_succ])
        refine held_take (i := 22) (d := 2) (v := ?_) rfl rfl (by kernel_rfl) (by kernel_rfl) (by kernel_rfl) (fun _ _ _ h => h) (by kernel_rfl) hHeld ?_ ?_
        rotate_left
        · intro w hSw
          (try dsimp only at hSw)
          go_simp
          first | done | with_reducible rfl
        (try simp only [Act.put, List.setIfInBounds_toArray, List.set_cons_zero, List.set_cons_succ])
        refine wpAnyH_done (by kernel_rfl) ?_ _
        go_wp2
        go_ret
        exact ⟨ret_eq1 (int_eq (by rw [HR.out]; omega)), HB.out.trans (Hwb.out.mono HB.out.size)⟩
      · have HR := hide (show rSize r = 1048576 by unfold rSize; rw [Hn.out, if_pos (by omega)])
        go_wp2
        go_ret
        exact ⟨ret_eq1 (int_eq (by rw [HR.out]; rfl)), HB.out⟩
end Go.Proofs.Ytlkkmgimjjnhjaa
namespace Go.Proofs.Ytlkkmgimjjnhjaa
open Go.RowKit Rec

theorem frows_at : ∀ (l : List Fr) (k : Nat) (hk : k < l.length) (j : Nat), j < 8 → (frows l)[k * 8 + j]? = (l[k].row)[j]? := by
  intro l
  induction l with
  | nil => intro k hk; simp at hk
  | cons x l ih =>
    intro k hk j hj
    have hl : (x.row).length = 8 := rfl
    unfold frows
    rw [List.flatMap_cons]
    cases k with
    | zero => rw [List.getElem?_append_left (by omega)]; simp
    | succ k =>
      rw [List.getElem?_append_right (by omega), hl, show (k + 1) * 8 + j - 8 = k * 8 + j from by omega]
      exact ih k (by simpa using hk) j hj
/-- The cells of a record from an offset on. -/
structure RcdCellsAt (w : World) (b o : Nat) (x : Fr) : Prop where
  c0 : w.cell? ⟨b, o, none⟩ = some (.int .i8 x.r.kind)
  c1 : w.cell? ⟨b, o + 1, none⟩ = some (.int .i64 x.r.gen)
  c2 : w.cell? ⟨b, o + 2, none⟩ = some (.string x.r.url)
  c3 : w.cell? ⟨b, o + 3, none⟩ = some (.string x.r.id)
  c4 : w.cell? ⟨b, o + 4, none⟩ = some (.bool x.r.read)
  c5 : w.cell? ⟨b, o + 5, none⟩ = some (.slice x.A x.r.entries.length x.c)
  c6 : w.cell? ⟨b, o + 6, none⟩ = some (.string x.r.surl)
  c7 : w.cell? ⟨b, o + 7, none⟩ = some (.slice x.A' x.r.kept.length x.c')
theorem Reads.frow {w : World} {B : Nat} {A : Option Addr} {l : List Fr} (h : Reads w B 8 A l.length (frows l)) {k : Nat} (hk : k < l.length) : ∃ b off, A = some ⟨b, off, none⟩ ∧ b < B ∧ RcdCellsAt w b (off + k * 8) l[k] := by
  obtain ⟨b, off, hA, hb, hc⟩ := h.2 (by omega)
  have hx := frows_at l k hk
  refine ⟨b, off, hA, hb, ⟨?_, ?_, ?_, ?_, ?_, ?_, ?_, ?_⟩⟩
  · have := hc (k * 8 + 0) _ (hx 0 (by omega)); simpa using this
  · have := hc (k * 8 + 1) _ (hx 1 (by omega)); rwa [← Nat.add_assoc] at this
  · have := hc (k * 8 + 2) _ (hx 2 (by omega)); rwa [← Nat.add_assoc] at this
  · have := hc (k * 8 + 3) _ (hx 3 (by omega)); rwa [← Nat.add_assoc] at this
  · have := hc (k * 8 + 4) _ (hx 4 (by omega)); rwa [← Nat.add_assoc] at this
  · have := hc (k * 8 + 5) _ (hx 5 (by omega)); rwa [← Nat.add_assoc] at this
  · have := hc (k * 8 + 6) _ (hx 6 (by omega)); rwa [← Nat.add_assoc] at this
  · have := hc (k * 8 + 7) _ (hx 7 (by omega)); rwa [← Nat.add_assoc] at this
theorem rSize_le (r : Rcd) : rSize r ≤ 50000000 := by
  unfold rSize
  split
  · omega
  · have := rsz_le r.entries
    have := rsz_le (r.kept.map (·.e))
    have := m7_le r.id
    have := m7_le r.url
    have := m7_le r.surl
    omega
def ssum (l : List Rcd) : Nat := (l.map rSize).sum
theorem ssum_next (l : List Rcd) (k : Nat) (h : k < l.length) : ssum (l.take (k + 1)) = ssum (l.take k) + rSize l[k] := by
  unfold ssum
  rw [List.take_succ_eq_append_getElem h, List.map_append, List.sum_append]; simp
theorem ssum_le (l : List Rcd) (k : Nat) : ssum (l.take k) ≤ 50000000 * k := by
  unfold ssum
  induction k generalizing l with
  | zero => simp
  | succ k ih =>
    cases l with
    | nil => simp
    | cons x l =>
      have := ih l
      have := rSize_le x
      simp only [List.take_succ_cons, List.map_cons, List.sum_cons]
      omega

set_option maxHeartbeats 4000000 in
theorem great_any (A : Option Addr) (c : Nat) (xs : List Fr) (w : World) (hA : Reads w w.heap.size 8 A xs.length (frows xs)) (hx : ∀ x ∈ xs, SizeIn w x.r x.A x.A') (hl : xs.length ≤ maxLen) :
    Calls Try.prog 9 #[.slice A xs.length c] w fun e w' => e = .returned (.bool (great (xs.map (·.r)))) ∧ Below w.heap.size w w' := by
  obtain ⟨n, hn⟩ : ∃ n, xs.length = n := ⟨_, rfl⟩
  have HA := hide hA
  have HX := hide hx
  have hl' : (n : Int) ≤ 9223372036854775807 := by rw [← hn]; unfold maxLen at hl; omega
  have HR := hide (show great (xs.map (·.r)) = (decide (100 < n) || decide (30000 < ssum (xs.map (·.r)))) by unfold great ssum; simp [hn])
  rw [hn] at ⊢
  have Hn := hide hn
  clear hn hA hl hx
  go_enter Try.func9, Try.ntmps9
  go_wp2
  go_loopg [3, 4] 101 (fun g vn vi wr => ∃ k : Nat, g = 101 - k ∧ k ≤ 101 ∧ k ≤ n ∧ vi = .int .i64 k ∧ vn = .int .i64 (ssum ((xs.map (·.r)).take k)) ∧ Below w.heap.size w wr)
  case atStart => exact ⟨0, rfl, by omega, by omega, rfl, rfl, Below.refl _ _⟩
  case round =>
    obtain ⟨k, hg, hk, hkn, rfl, rfl, kb⟩ := hrel
    have Hg := hide hg
    have Kb := hide kb
    obtain ⟨z, hz⟩ : ∃ z, ssum ((xs.map (·.r)).take k) = z := ⟨_, rfl⟩
    have hz1 : z ≤ 5050000000 := by have := ssum_le (xs.map (·.r)) k; omega
    rw [hz]
    have Hz := hide hz
    clear hg hz kb
    by_cases hlt : k < n
    · by_cases h100 : k ≤ 100
      · have h1 : k < xs.length := by rw [Hn.out]; exact hlt
        obtain ⟨b, off, rfl, hb, hx⟩ := (HA.out.below Kb.out).frow h1
        obtain ⟨x, ex⟩ : ∃ x, xs[k] = x := ⟨_, rfl⟩
        rw [ex] at hx
        have hmem : x ∈ xs := by rw [← ex]; exact List.getElem_mem h1
        have HS := hide fun (W : World) (hW : Below w.heap.size w W) => Size_any x.r x.A x.A' x.c x.c' W ((HX.out x hmem).below hW)
        unfold rcdCells at HS
        have hsn : ssum ((xs.map (·.r)).take (k + 1)) = z + rSize x.r := by rw [ssum_next _ _ (by simpa using h1), Hz.out]; simp [ex]
        have Hsn := hide hsn
        have hrs := rSize_le x.r
        have x0 := hx.c0
        have x1 := hx.c1
        have x2 := hx.c2
        have x3 := hx.c3
        have x4 := hx.c4
        have x5 := hx.c5
        have x6 := hx.c6
        have x7 := hx.c7
        clear hx ex hmem hsn
        generalize rSize x.r = s at *
        go_wp2_with fail
        refine (HS.out _ Kb.out).mono ?_
        rintro e w1 ⟨rfl, hb1⟩
        have Kb1 := hide (Kb.out.trans (hb1.mono Kb.out.size))
        clear hb1
        go_wp2
        go_roundg (101 - (k + 1))
        case measure => have := Hg.out; omega
        case rel => exact ⟨k + 1, rfl, by omega, by omega, by go_num, int_eq (by rw [Hsn.out]; omega), Kb1.out⟩
      · have hd : decide (100 < n) = true := by simp; omega
        go_wp2
        go_ret
        exact ⟨ret_eq1 (bool_eq (by rw [HR.out, hd]; rfl)), Kb.out⟩
    · have hkn' : k = n := by omega
      have hz2 : z = ssum (xs.map (·.r)) := by rw [← Hz.out, List.take_of_length_le (by simp [Hn.out]; omega)]
      have Hz2 := hide hz2
      clear hz2
      by_cases h100 : 100 < n
      · have hd : decide (100 < n) = true := by simp; omega
        go_wp2
        go_ret
        exact ⟨ret_eq1 (bool_eq (by rw [HR.out, hd]; rfl)), Kb.out⟩
      · have hd : decide (100 < n) = false := by simp; omega
        go_wp2
        go_ret
        exact ⟨ret_eq1 (bool_eq (by rw [HR.out, hd, ← Hz2.out, Bool.false_or, show decide ((100 : Int) < n) = false by simp; omega, Bool.false_or, decide_eq_decide]; omega)), Kb.out⟩
end Go.Proofs.Ytlkkmgimjjnhjaa
namespace Go.Proofs.Ytlkkmgimjjnhjaa
open Go.RowKit Rec
attribute [local go_sem ↓] Go.wp_at_zero Go.wp_at_succ

/-- What Same asks of a record. -/
structure SameIn (w : World) (x : Fr) : Prop where
  a : Reads w w.heap.size 7 x.A x.r.entries.length (ents x.r.entries)
  k : Reads w w.heap.size 8 x.A' x.r.kept.length (kpts x.r.kept)
  na : x.r.entries.length ≤ 1000000000
  nk : x.r.kept.length ≤ 1000000000
theorem SameIn.below {w w' : World} {x : Fr} (h : SameIn w x) (hb : Below w.heap.size w w') : SameIn w' x := ⟨(h.a.below hb).more hb.size, (h.k.below hb).more hb.size, h.na, h.nk⟩
theorem recs_take {l l' : List Fr} {k : Nat} (h1 : k < l.length) (h2 : k < l'.length) (ht : (l.map (·.r)).take k = (l'.map (·.r)).take k) (he : l[k].r = l'[k].r) : (l.map (·.r)).take (k + 1) = (l'.map (·.r)).take (k + 1) := by
  rw [List.take_succ_eq_append_getElem (by simpa using h1), List.take_succ_eq_append_getElem (by simpa using h2), ht]
  simp [he]

set_option maxHeartbeats 4000000 in
theorem sameAll_any (A A' : Option Addr) (c c' : Nat) (xs ys : List Fr) (w : World) (hA : Reads w w.heap.size 8 A xs.length (frows xs)) (hA' : Reads w w.heap.size 8 A' ys.length (frows ys)) (hx : ∀ x ∈ xs, SameIn w x) (hy : ∀ x ∈ ys, SameIn w x) (hl : xs.length ≤ 1000000001) (hl' : ys.length ≤ 1000000001) :
    Calls Try.prog 25 #[.slice A xs.length c, .slice A' ys.length c'] w fun e w' => e = .returned (.bool (decide (xs.map (·.r) = ys.map (·.r)))) ∧ Below w.heap.size w w' := by
  obtain ⟨n, hn⟩ : ∃ n, xs.length = n := ⟨_, rfl⟩
  obtain ⟨n', hn'⟩ : ∃ n, ys.length = n := ⟨_, rfl⟩
  have HA := hide hA
  have HA' := hide hA'
  have HX := hide hx
  have HY := hide hy
  rw [hn] at hl ⊢
  rw [hn'] at hl' ⊢
  have Hn := hide hn
  have Hn' := hide hn'
  clear hA hA' hx hy hn hn'
  by_cases hnn : n = n'
  · subst hnn
    go_enter Try.func25, Try.ntmps25
    go_wp2
    go_loopg [5] n (fun g vi wr => ∃ k : Nat, g = n - k ∧ k ≤ n ∧ vi = .int .i64 k ∧ (xs.map (·.r)).take k = (ys.map (·.r)).take k ∧ Below w.heap.size w wr)
    case atStart => exact ⟨0, rfl, by omega, rfl, rfl, Below.refl _ _⟩
    case round =>
      obtain ⟨k, hg, hk, rfl, hq, kb⟩ := hrel
      have Hg := hide hg
      have Kb := hide kb
      have Hq := hide hq
      clear hg kb hq
      by_cases hlt : k < n
      · have h1 : k < xs.length := by rw [Hn.out]; exact hlt
        have h2 : k < ys.length := by rw [Hn'.out]; exact hlt
        obtain ⟨b, off, rfl, hb, hx⟩ := ((HA.out.below Kb.out).more Kb.out.size).frow h1
        obtain ⟨b', off', rfl, hb', hy⟩ := ((HA'.out.below Kb.out).more Kb.out.size).frow h2
        obtain ⟨x, ex⟩ : ∃ x, xs[k] = x := ⟨_, rfl⟩
        obtain ⟨y, ey⟩ : ∃ x, ys[k] = x := ⟨_, rfl⟩
        rw [ex] at hx
        rw [ey] at hy
        have hmx : x ∈ xs := by rw [← ex]; exact List.getElem_mem h1
        have hmy : y ∈ ys := by rw [← ey]; exact List.getElem_mem h2
        have HS := hide fun (W : World) (hW : Below w.heap.size w W) => by
          have a := (HX.out x hmx).below hW
          have b := (HY.out y hmy).below hW
          exact refSame_any x.r y.r x.A x.A' y.A y.A' x.c x.c' y.c y.c' W a.a a.k b.a b.k a.na b.na a.nk b.nk
        unfold rcdCells at HS
        have Ex := hide ex
        have Ey := hide ey
        have x0 := hx.c0
        have x1 := hx.c1
        have x2 := hx.c2
        have x3 := hx.c3
        have x4 := hx.c4
        have x5 := hx.c5
        have x6 := hx.c6
        have x7 := hx.c7
        have y0 := hy.c0
        have y1 := hy.c1
        have y2 := hy.c2
        have y3 := hy.c3
        have y4 := hy.c4
        have y5 := hy.c5
        have y6 := hy.c6
        have y7 := hy.c7
        have i0 : (0 : Int) ≤ k := by omega
        have i1 : (k : Int) < n := by omega
        have Hw0 := hide (Kb.out.drew)
        clear hx hy ex ey hmx hmy
        by_cases he : x.r = y.r
        · have hd : decide (x.r = y.r) = true := by simpa using he
          have He := hide (recs_take h1 h2 Hq.out (by rw [Ex.out, Ey.out, he]))
          rw [hd] at HS
          clear he hd
          go_wp2
          go_region_with ((go_at_call 18; refine (HS.out _ Hw0.out).mono ?_; rintro e w1 ⟨rfl, hb1⟩; have Kb1 := hide (Hw0.out.trans (hb1.mono Hw0.out.size)); clear hb1))
          all_goals go_wp2
          all_goals
            go_roundg (n - (k + 1))
            case measure => have := Hg.out; omega
            case rel => exact ⟨k + 1, rfl, by omega, by go_num, He.out, Kb1.out⟩
        · have hd : decide (x.r = y.r) = false := by simpa using he
          have Hne := hide (show decide (xs.map (·.r) = ys.map (·.r)) = false by
            rw [decide_eq_false_iff_not]
            intro h
            have h3 : (xs.map (·.r))[k]? = (ys.map (·.r))[k]? := by rw [h]
            rw [List.getElem?_eq_getElem (by simpa using h1), List.getElem?_eq_getElem (by simpa using h2)] at h3
            simp [Ex.out, Ey.out] at h3
            exact he h3)
          rw [hd] at HS
          clear he hd
          go_wp2
          go_region_with ((go_at_call 18; refine (HS.out _ Hw0.out).mono ?_; rintro e w1 ⟨rfl, hb1⟩; have Kb1 := hide (Hw0.out.trans (hb1.mono Hw0.out.size)); clear hb1))
          all_goals go_wp2
          all_goals
            go_ret
            exact ⟨ret_eq1 (bool_eq (by rw [Hne.out])), Kb1.out⟩
      · have hkn : k = n := by omega
        have He := hide (show decide (xs.map (·.r) = ys.map (·.r)) = true by
          rw [decide_eq_true_eq]
          have h := Hq.out
          rw [List.take_of_length_le (by simp [Hn.out]; omega), List.take_of_length_le (by simp [Hn'.out]; omega)] at h
          exact h)
        clear hkn
        go_wp2
        go_ret
        exact ⟨ret_eq1 (bool_eq (by rw [He.out])), Kb.out⟩
  · have He := hide (show decide (xs.map (·.r) = ys.map (·.r)) = false by
      rw [decide_eq_false_iff_not]
      intro h
      have := congrArg List.length h
      simp [Hn.out, Hn'.out] at this
      exact hnn this)
    go_enter Try.func25, Try.ntmps25
    go_wp2
    go_ret
    exact ⟨ret_eq1 (bool_eq (by rw [He.out])), Below.refl _ _⟩
end Go.Proofs.Ytlkkmgimjjnhjaa
namespace Go.Proofs.Ytlkkmgimjjnhjaa
open Go.RowKit Rec

theorem wakes_frame : frameOut (rec1 6 ⟨#[]⟩) = ⟨#[1, 0, 0, 0, 6]⟩ := by decide +kernel
theorem wakes_code : codeOut (rec1 6 ⟨#[]⟩) = 0 := by decide +kernel
theorem wakes_frames : framesOf ⟨#[1, 0, 0, 0, 6, 1]⟩ = [(5, rec1 6 ⟨#[]⟩)] := by decide +kernel

set_option maxHeartbeats 2000000 in
theorem wakes_any (w : World) : Calls Try.prog 10 #[] w fun e w' => e = .returned (.bool true) ∧ Below w.heap.size w w' := by
  have HF := hide fun (W : World) => frame_any (rec1 6 ⟨#[]⟩) none none 0 0 W ⟨Reads.none_, Reads.none_, by simp [rec1], by simp [rec1], by intro j hj; simp [rec1] at hj, by intro j hj; simp [rec1] at hj, by simp [rec1, zero_size], by simp [rec1, zero_size]⟩
  rw [wakes_frame, wakes_code] at HF
  have HA := hide fun (W : World) => all_any ⟨#[1, 0, 0, 0, 6, 1]⟩ W (by decide)
  rw [wakes_frames] at HA
  unfold rcdCells rec1 at HF
  go_enter Try.func10, Try.ntmps10
  go_wp2_with fail
  refine (HF.out _).mono ?_
  rintro e w1 ⟨rfl, hb1⟩
  have Hb1 := hide hb1
  clear hb1
  go_wp2_with fail
  refine (HA.out _).mono ?_
  rintro e w2 ⟨xs, A, c, hx, he, hb2, hA, hxi⟩
  have ht : (((⟨#[1, 0, 0, 0, 6, 1]⟩ : ByteArray).size : Nat) : Int) - ((lastEnd [(5, rec1 6 ⟨#[]⟩)] : Nat) : Int) = 1 := by rfl
  rw [ht] at he
  subst he
  have Hb2 := hide (Hb1.out.trans (hb2.mono Hb1.out.size))
  obtain ⟨x, rfl⟩ : ∃ x, xs = [x] := List.length_eq_one_iff.1 (by have := congrArg List.length hx; simpa using this)
  have hk : x.r.kind = 6 := by
    have h2 : x.r = rec1 6 ⟨#[]⟩ := by simpa [Fr.plain] using (congrArg (fun l : List (Nat × Rcd) => l.map (·.2)) hx)
    rw [h2]; rfl
  obtain ⟨b, off, rfl, hb, hc⟩ := hA.frow (k := 0) (by simp)
  have c0 : w2.cell? ⟨b, off, none⟩ = some (.int .i8 6) := by have := hc.c0; simp only [List.getElem_cons_zero, hk] at this; simpa using this
  clear hA hxi hx hc hb2 hk ht
  go_wp2
  go_ret
  exact ⟨rfl, Hb2.out⟩
end Go.Proofs.Ytlkkmgimjjnhjaa
