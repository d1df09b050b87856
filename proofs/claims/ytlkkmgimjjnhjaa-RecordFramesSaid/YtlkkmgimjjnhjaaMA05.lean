/- Whether entries rise. -/
import Derived.Test.YtlkkmgimjjnhjaaMA04
import Derived.Deep.DrawnRows
import Derived.IntWalk
set_option linter.unusedSimpArgs false
set_option linter.unusedVariables false
namespace Go.Proofs.Ytlkkmgimjjnhjaa
open Go.RowKit Rec
attribute [local go_sem ↓] Go.wp_at_zero Go.wp_at_succ

theorem rising_iff : ∀ (l : List Ent), rising l = true ↔ ∀ (j : Nat) (h : j < l.length), keeps l[j] = true ∧ ∀ h0 : 0 < j, below l[j - 1].id l[j].id = true := by
  intro l
  induction l with
  | nil => simp [rising]
  | cons x l ih =>
    cases l with
    | nil =>
      simp only [rising, List.length_cons, List.length_nil]
      constructor
      · intro h j hj
        obtain rfl : j = 0 := by omega
        exact ⟨h, fun h0 => absurd h0 (by omega)⟩
      · intro h
        exact (h 0 (by omega)).1
    | cons y l =>
      rw [rising, Bool.and_eq_true, Bool.and_eq_true, ih]
      constructor
      · rintro ⟨⟨h1, h2⟩, h3⟩ j hj
        rcases j with _ | j
        · exact ⟨h1, fun h0 => absurd h0 (by omega)⟩
        · rcases j with _ | j
          · exact ⟨(h3 0 (by simp)).1, fun _ => h2⟩
          · exact ⟨(h3 (j + 1) (by simpa using hj)).1, fun _ => (h3 (j + 1) (by simpa using hj)).2 (by omega)⟩
      · intro h
        refine ⟨⟨(h 0 (by simp)).1, (h 1 (by simp)).2 (by omega)⟩, fun j hj => ⟨(h (j + 1) (by simpa using hj)).1, fun h0 => ?_⟩⟩
        have := (h (j + 1) (by simpa using hj)).2 (by omega)
        rcases j with _ | j
        · omega
        · exact this

/-- The first k entries rise. -/
def upTo (l : List Ent) (k : Nat) : Prop := ∀ (j : Nat) (h : j < l.length), j < k → keeps l[j] = true ∧ ∀ h0 : 0 < j, below l[j - 1].id l[j].id = true
theorem upTo.zero (l : List Ent) : upTo l 0 := fun _ _ h => absurd h (by omega)
theorem upTo.next {l : List Ent} {k : Nat} (hu : upTo l k) (h : k < l.length) (h1 : keeps l[k] = true) (h2 : ∀ h0 : 0 < k, below l[k - 1].id l[k].id = true) : upTo l (k + 1) := by
  intro j hj hk
  rcases Nat.lt_succ_iff_lt_or_eq.mp hk with hk | rfl
  · exact hu j hj hk
  · exact ⟨h1, h2⟩
theorem upTo.all {l : List Ent} {k : Nat} (hu : upTo l k) (h : l.length ≤ k) : rising l = true := (rising_iff l).2 fun j hj => hu j hj (by omega)
theorem rising_no1 {l : List Ent} {k : Nat} (h : k < l.length) (h1 : keeps l[k] = false) : rising l = false := by
  rw [← Bool.not_eq_true, rising_iff]
  intro hh
  rw [(hh k h).1] at h1
  cases h1
theorem rising_no2 {l : List Ent} {k : Nat} (h : k < l.length) (h0 : 0 < k) (h1 : below l[k - 1].id l[k].id = false) : rising l = false := by
  rw [← Bool.not_eq_true, rising_iff]
  intro hh
  rw [(hh k h).2 h0] at h1
  cases h1
theorem cell_lt {w : World} {a : Addr} {v : Value} (h : w.cell? a = some v) : a.block < w.heap.size := by
  rcases Nat.lt_or_ge a.block w.heap.size with hlt | hge
  · exact hlt
  · unfold World.cell? at h; rw [Array.getElem?_eq_none hge] at h; simp at h
theorem cell_go {w w' : World} {a : Addr} {v : Value} (hb : Below w.heap.size w w') (h : w.cell? a = some v) : w'.cell? a = some v := (hb.cell (cell_lt h)).trans h
theorem below_go {B : Nat} {w0 w w' : World} (h : Below B w0 w) (hb : Below w.heap.size w w') (hB : B ≤ w0.heap.size) : Below B w0 w' := h.trans (hb.mono (Nat.le_trans hB h.size))
/-- No text of these is greater than a thousand millions. -/
def Small (l : List Ent) : Prop := ∀ (j : Nat) (h : j < l.length), ∀ k, k < 5 → (five l[j] k).size ≤ 1000000000


set_option maxHeartbeats 1000000 in
theorem rising_any (A : Option Addr) (c : Nat) (l : List Ent) (w : World) (hA : Reads w w.heap.size 7 A l.length (ents l)) (hl : l.length ≤ 1000000000) (hs : Small (l)) :
    Calls Try.prog 50 #[.slice A l.length c, .func (.func 51) #[] #[], .func (.func 27) #[] #[]] w fun e w' => e = .returned (.bool (rising (l))) ∧ Below w.heap.size w w' := by
  obtain ⟨n, hn⟩ : ∃ n, l.length = n := ⟨_, rfl⟩
  have HA := hide hA
  have HS := hide hs
  have HL := hide (show (l).length = n from hn)
  rw [hn] at hl ⊢
  have Hn := hide hn
  clear hn hA hs
  go_enter Try.func50, Try.ntmps50
  go_wp2
  go_loopg [11] n (fun g vi wr => ∃ k : Nat, g = n - k ∧ k ≤ n ∧ vi = .int .i64 k ∧ upTo (l) k ∧ Below w.heap.size w wr)
  case atStart => exact ⟨0, rfl, Nat.zero_le _, rfl, upTo.zero _, Below.refl _ _⟩
  case round =>
    obtain ⟨k, hg, hk, rfl, hu, kb⟩ := hrel
    have Hg := hide hg
    have Hu := hide hu
    have Kb := hide kb
    clear hg hu kb
    by_cases hlt : k < n
    · have h1 : k < l.length := by rw [Hn.out]; exact hlt
      have h1' : k < (l).length := by rw [HL.out]; exact hlt
      obtain ⟨b, off, hA0, hb, hx⟩ := (HA.out.below Kb.out).ent h1
      obtain ⟨x, ex⟩ : ∃ x, l[k] = x := ⟨_, rfl⟩
      have ex' : (l)[k]'h1' = x := ex
      have hz := HS.out k h1'
      rw [ex'] at hz
      rw [ex] at hx
      subst hA0
      have V := hide fun W => keeps_any x W hz
      have Ex := hide ex'
      unfold entCells at V
      have x0 := hx.c0
      have x1 := hx.c1
      have x2 := hx.c2
      have x3 := hx.c3
      have x4 := hx.c4
      have x5 := hx.c5
      have x6 := hx.c6
      clear hx hz ex ex'
      go_wp2
      have k0 := Blk.new wr 47 #[.string x.id, .string x.title, .string x.link, .string x.author, .string x.content, .bool x.has, .int .i64 x.sec]
      have kb := Kb.out.trans ((below_alloc wr (.cells #[.string x.id, .string x.title, .string x.link, .string x.author, .string x.content, .bool x.has, .int .i64 x.sec] 47)).mono Kb.out.size)
      have hal : ∀ (a : Addr) v, wr.cell? a = some v → (wr.alloc (.cells #[.string x.id, .string x.title, .string x.link, .string x.author, .string x.content, .bool x.has, .int .i64 x.sec] 47)).cell? a = some v := fun a v h => cell_go (below_alloc _ _) h
      obtain ⟨W0, hW0⟩ : ∃ W0, wr.alloc (.cells #[.string x.id, .string x.title, .string x.link, .string x.author, .string x.content, .bool x.has, .int .i64 x.sec] 47) = W0 := ⟨_, rfl⟩
      rw [hW0] at k0 kb hal ⊢
      clear hW0
      obtain ⟨H, hH⟩ : ∃ H, wr.heap.size = H := ⟨_, rfl⟩
      rw [hH] at k0 ⊢
      clear hH x0 x1 x2 x3 x4 x5 x6
      have q0 : W0.cell? ⟨H, 0, none⟩ = some (.string x.id) := k0.cell 0
      have q1 : W0.cell? ⟨H, 1, none⟩ = some (.string x.title) := k0.cell 1
      have q2 : W0.cell? ⟨H, 2, none⟩ = some (.string x.link) := k0.cell 2
      have q3 : W0.cell? ⟨H, 3, none⟩ = some (.string x.author) := k0.cell 3
      have q4 : W0.cell? ⟨H, 4, none⟩ = some (.string x.content) := k0.cell 4
      have q5 : W0.cell? ⟨H, 5, none⟩ = some (.bool x.has) := k0.cell 5
      have q6 : W0.cell? ⟨H, 6, none⟩ = some (.int .i64 x.sec) := k0.cell 6
      clear k0
      rcases Bool.eq_false_or_eq_true (keeps x) with hkx | hkx
      · rw [hkx] at V
        have Hkx := hide hkx
        clear hkx
        by_cases h0 : 0 < k
        · have h2 : k - 1 < l.length := by omega
          have h2' : k - 1 < (l).length := by rw [HL.out]; omega
          obtain ⟨b', off', e1, hb', hy⟩ := (HA.out.below Kb.out).ent h2
          injection e1 with e1
          injection e1 with e1 e2 _
          subst e1 e2
          obtain ⟨y, ey⟩ : ∃ x, l[k - 1] = x := ⟨_, rfl⟩
          rw [ey] at hy
          have Ey := hide (show (l)[k - 1]'h2' = y from ey)
          clear ey
          have y0 := hal _ _ hy.c0
          have y1 := hal _ _ hy.c1
          have y2 := hal _ _ hy.c2
          have y3 := hal _ _ hy.c3
          have y4 := hal _ _ hy.c4
          have y5 := hal _ _ hy.c5
          have y6 := hal _ _ hy.c6
          clear hy hal
          have i0 : (0 : Int) < (k : Int) := by omega
          have BX := hide fun W => byEntry_any x W
          have BY := hide fun W => byEntry_any y W
          unfold entCells at BX BY
          obtain ⟨lt, hlt'⟩ : ∃ c, Op.bytesLess (y).id.toList (x).id.toList = c := ⟨_, rfl⟩
          have Hlt := hide hlt'
          have iw : IntKind.i64.wrap ((k : Int) - 1) = (k : Int) - 1 := IntWalk.i64_in _ (by omega)
          have i1 : (0 : Int) ≤ (k : Int) - 1 := by omega
          have i2 : ((k : Int) - 1).toNat = k - 1 := by omega
          have i3 : (k : Int) - 1 < (n : Int) := by omega
          have i4 : (1 : Int) ≤ (k : Int) := by omega
          refine wp_region_held_drew (S := fun w' => w'.cell? ⟨H, 0, none⟩ = some (.string x.id) ∧ w'.cell? ⟨H, 1, none⟩ = some (.string x.title) ∧ w'.cell? ⟨H, 2, none⟩ = some (.string x.link) ∧ w'.cell? ⟨H, 3, none⟩ = some (.string x.author) ∧ w'.cell? ⟨H, 4, none⟩ = some (.string x.content) ∧ w'.cell? ⟨H, 5, none⟩ = some (.bool x.has) ∧ w'.cell? ⟨H, 6, none⟩ = some (.int .i64 x.sec) ∧ w'.cell? ⟨b, off + (k - 1) * 7, none⟩ = some (.string y.id) ∧ w'.cell? ⟨b, off + (k - 1) * 7 + 1, none⟩ = some (.string y.title) ∧ w'.cell? ⟨b, off + (k - 1) * 7 + 2, none⟩ = some (.string y.link) ∧ w'.cell? ⟨b, off + (k - 1) * 7 + 3, none⟩ = some (.string y.author) ∧ w'.cell? ⟨b, off + (k - 1) * 7 + 4, none⟩ = some (.string y.content) ∧ w'.cell? ⟨b, off + (k - 1) * 7 + 5, none⟩ = some (.bool y.has) ∧ w'.cell? ⟨b, off + (k - 1) * 7 + 6, none⟩ = some (.int .i64 y.sec) ∧ Below w.heap.size w w') (by kernel_rfl) ?_ (fun hHeld => ?_)
          · (try dsimp only)
            go_split_ands
            refine ⟨?_, ?_, ?_, ?_, ?_, ?_, ?_, ?_, ?_, ?_, ?_, ?_, ?_, ?_, ?_⟩ <;> first | assumption | exact Below.drew (by assumption) | exact cell_go (by assumption) (by assumption) | exact below_go (by assumption) (by assumption) (Nat.le_refl _)
          change wpAnyH _ _ _ _ _ 21 #[false, false, false, false, false, false, false, false, false, false, false, false, false, false, false, false, false, false, false, false, false] _ _
          refine held_take (i := 0) (d := 16) (v := ?_) rfl rfl (by kernel_rfl) (by kernel_rfl) (by kernel_rfl) (fun _ _ _ h => h) (by kernel_rfl) hHeld ?_ ?_
          rotate_left
          · intro w hSw
            (try dsimp only at hSw)
            go_simp
            first | done | with_reducible rfl
          (try simp only [Act.put, List.setIfInBounds_toArray, List.set_cons_zero, List.set_cons_succ])
          refine held_take (i := 1) (d := 17) (v := ?_) rfl rfl (by kernel_rfl) (by kernel_rfl) (by kernel_rfl) (fun _ _ _ h => h) (by kernel_rfl) hHeld ?_ ?_
          rotate_left
          · intro w hSw
            (try dsimp only at hSw)
            go_simp
            first | done | with_reducible rfl
          (try simp only [Act.put, List.setIfInBounds_toArray, List.set_cons_zero, List.set_cons_succ])
          refine held_call (i := 2) rfl (by kernel_rfl) (by kernel_rfl) (fun K hK => ?_)
          go_simp
          go_at_call 27
          refine (V.out _).mono ?_
          rintro e w' ⟨rfl, hb⟩
          (try dsimp only)
          refine hK.out _ _ ?_ (fun hHeld' => ?_)
          · (try dsimp only)
            go_split_ands
            refine ⟨?_, ?_, ?_, ?_, ?_, ?_, ?_, ?_, ?_, ?_, ?_, ?_, ?_, ?_, ?_⟩ <;> first | assumption | exact Below.drew (by assumption) | exact cell_go (by assumption) (by assumption) | exact below_go (by assumption) (by assumption) (Nat.le_refl _)
          clear hK K hHeld
          have hHeld := hHeld'
          clear hHeld'
          (try simp only [Act.put, List.setIfInBounds_toArray, List.set_cons_zero, List.set_cons_succ])
          refine held_take (i := 3) (d := 19) (v := ?_) rfl rfl (by kernel_rfl) (by kernel_rfl) (by kernel_rfl) (fun _ _ _ h => h) (by kernel_rfl) hHeld ?_ ?_
          rotate_left
          · intro w hSw
            (try dsimp only at hSw)
            go_simp
            first | done | with_reducible rfl
          (try simp only [Act.put, List.setIfInBounds_toArray, List.set_cons_zero, List.set_cons_succ])
          refine held_take (i := 4) (d := 20) (v := ?_) rfl rfl (by kernel_rfl) (by kernel_rfl) (by kernel_rfl) (fun _ _ _ h => h) (by kernel_rfl) hHeld ?_ ?_
          rotate_left
          · intro w hSw
            (try dsimp only at hSw)
            go_simp
            first | done | with_reducible rfl
          (try simp only [Act.put, List.setIfInBounds_toArray, List.set_cons_zero, List.set_cons_succ])
          refine held_take (i := 5) (d := 21) (v := ?_) rfl rfl (by kernel_rfl) (by kernel_rfl) (by kernel_rfl) (fun _ _ _ h => h) (by kernel_rfl) hHeld ?_ ?_
          rotate_left
          · intro w hSw
            (try dsimp only at hSw)
            go_simp
            first | done | with_reducible rfl
          (try simp only [Act.put, List.setIfInBounds_toArray, List.set_cons_zero, List.set_cons_succ])
          refine held_take (i := 6) (d := 22) (v := ?_) rfl rfl (by kernel_rfl) (by kernel_rfl) (by kernel_rfl) (fun _ _ _ h => h) (by kernel_rfl) hHeld ?_ ?_
          rotate_left
          · intro w hSw
            (try dsimp only at hSw)
            go_simp
            first | done | with_reducible rfl
          (try simp only [Act.put, List.setIfInBounds_toArray, List.set_cons_zero, List.set_cons_succ])
          refine held_take (i := 7) (d := 23) (v := ?_) rfl rfl (by kernel_rfl) (by kernel_rfl) (by kernel_rfl) (fun _ _ _ h => h) (by kernel_rfl) hHeld ?_ ?_
          rotate_left
          · intro w hSw
            (try dsimp only at hSw)
            go_simp
            first | done | with_reducible rfl
          (try simp only [Act.put, List.setIfInBounds_toArray, List.set_cons_zero, List.set_cons_succ])
          refine held_take (i := 8) (d := 24) (v := ?_) rfl rfl (by kernel_rfl) (by kernel_rfl) (by kernel_rfl) (fun _ _ _ h => h) (by kernel_rfl) hHeld ?_ ?_
          rotate_left
          · intro w hSw
            (try dsimp only at hSw)
            go_simp
            first | done | with_reducible rfl
          (try simp only [Act.put, List.setIfInBounds_toArray, List.set_cons_zero, List.set_cons_succ])
          refine held_take (i := 9) (d := 25) (v := ?_) rfl rfl (by kernel_rfl) (by kernel_rfl) (by kernel_rfl) (fun _ _ _ h => h) (by kernel_rfl) hHeld ?_ ?_
          rotate_left
          · intro w hSw
            (try dsimp only at hSw)
            go_simp
            first | done | with_reducible rfl
          (try simp only [Act.put, List.setIfInBounds_toArray, List.set_cons_zero, List.set_cons_succ])
          refine held_take (i := 10) (d := 26) (v := ?_) rfl rfl (by kernel_rfl) (by kernel_rfl) (by kernel_rfl) (fun _ _ _ h => h) (by kernel_rfl) hHeld ?_ ?_
          rotate_left
          · intro w hSw
            (try dsimp only at hSw)
            go_simp
            first | done | with_reducible rfl
          (try simp only [Act.put, List.setIfInBounds_toArray, List.set_cons_zero, List.set_cons_succ])
          refine held_take (i := 11) (d := 27) (v := ?_) rfl rfl (by kernel_rfl) (by kernel_rfl) (by kernel_rfl) (fun _ _ _ h => h) (by kernel_rfl) hHeld ?_ ?_
          rotate_left
          · intro w hSw
            (try dsimp only at hSw)
            go_simp
            first | done | with_reducible rfl
          (try simp only [Act.put, List.setIfInBounds_toArray, List.set_cons_zero, List.set_cons_succ])
          refine held_take (i := 12) (d := 28) (v := ?_) rfl rfl (by kernel_rfl) (by kernel_rfl) (by kernel_rfl) (fun _ _ _ h => h) (by kernel_rfl) hHeld ?_ ?_
          rotate_left
          · intro w hSw
            (try dsimp only at hSw)
            go_simp
            first | done | with_reducible rfl
          (try simp only [Act.put, List.setIfInBounds_toArray, List.set_cons_zero, List.set_cons_succ])
          refine held_take (i := 13) (d := 29) (v := ?_) rfl rfl (by kernel_rfl) (by kernel_rfl) (by kernel_rfl) (fun _ _ _ h => h) (by kernel_rfl) hHeld ?_ ?_
          rotate_left
          · intro w hSw
            (try dsimp only at hSw)
            go_simp
            first | done | with_reducible rfl
          (try simp only [Act.put, List.setIfInBounds_toArray, List.set_cons_zero, List.set_cons_succ])
          refine held_take (i := 15) (d := 31) (v := ?_) rfl rfl (by kernel_rfl) (by kernel_rfl) (by kernel_rfl) (fun _ _ _ h => h) (by kernel_rfl) hHeld ?_ ?_
          rotate_left
          · intro w hSw
            (try dsimp only at hSw)
            go_simp
            first | done | with_reducible rfl
          (try simp only [Act.put, List.setIfInBounds_toArray, List.set_cons_zero, List.set_cons_succ])
          refine held_take (i := 16) (d := 32) (v := ?_) rfl rfl (by kernel_rfl) (by kernel_rfl) (by kernel_rfl) (fun _ _ _ h => h) (by kernel_rfl) hHeld ?_ ?_
          rotate_left
          · intro w hSw
            (try dsimp only at hSw)
            go_simp
            first | done | with_reducible rfl
          (try simp only [Act.put, List.setIfInBounds_toArray, List.set_cons_zero, List.set_cons_succ])
          refine held_call (i := 14) rfl (by kernel_rfl) (by kernel_rfl) (fun K hK => ?_)
          go_simp
          go_at_call 51
          refine (BY.out _).mono ?_
          rintro e w' ⟨rfl, hb⟩
          (try dsimp only)
          refine hK.out _ _ ?_ (fun hHeld' => ?_)
          · (try dsimp only)
            go_split_ands
            refine ⟨?_, ?_, ?_, ?_, ?_, ?_, ?_, ?_, ?_, ?_, ?_, ?_, ?_, ?_, ?_⟩ <;> first | assumption | exact Below.drew (by assumption) | exact cell_go (by assumption) (by assumption) | exact below_go (by assumption) (by assumption) (Nat.le_refl _)
          clear hK K hHeld
          have hHeld := hHeld'
          clear hHeld'
          (try simp only [Act.put, List.setIfInBounds_toArray, List.set_cons_zero, List.set_cons_succ])
          refine held_call (i := 17) rfl (by kernel_rfl) (by kernel_rfl) (fun K hK => ?_)
          go_simp
          go_at_call 51
          refine (BX.out _).mono ?_
          rintro e w' ⟨rfl, hb⟩
          (try dsimp only)
          refine hK.out _ _ ?_ (fun hHeld' => ?_)
          · (try dsimp only)
            go_split_ands
            refine ⟨?_, ?_, ?_, ?_, ?_, ?_, ?_, ?_, ?_, ?_, ?_, ?_, ?_, ?_, ?_⟩ <;> first | assumption | exact Below.drew (by assumption) | exact cell_go (by assumption) (by assumption) | exact below_go (by assumption) (by assumption) (Nat.le_refl _)
          clear hK K hHeld
          have hHeld := hHeld'
          clear hHeld'
          (try simp only [Act.put, List.setIfInBounds_toArray, List.set_cons_zero, List.set_cons_succ])
          refine held_take (i := 18) (d := 34) (v := ?_) rfl rfl (by kernel_rfl) (by kernel_rfl) (by kernel_rfl) (fun _ _ _ h => h) (by kernel_rfl) hHeld ?_ ?_
          rotate_left
          · intro w hSw
            (try dsimp only at hSw)
            go_simp
            first | done | with_reducible rfl
          (try simp only [Act.put, List.setIfInBounds_toArray, List.set_cons_zero, List.set_cons_succ])
          refine held_take (i := 19) (d := 35) (v := ?_) rfl rfl (by kernel_rfl) (by kernel_rfl) (by kernel_rfl) (fun _ _ _ h => h) (by kernel_rfl) hHeld ?_ ?_
          rotate_left
          · intro w hSw
            (try dsimp only at hSw)
            go_simp
            first | done | with_reducible rfl
          (try simp only [Act.put, List.setIfInBounds_toArray, List.set_cons_zero, List.set_cons_succ])
          refine held_take (i := 20) (d := 36) (v := ?_) rfl rfl (by kernel_rfl) (by kernel_rfl) (by kernel_rfl) (fun _ _ _ h => h) (by kernel_rfl) hHeld ?_ ?_
          rotate_left
          · intro w hSw
            (try dsimp only at hSw)
            go_simp
            first | done | with_reducible rfl
          (try simp only [Act.put, List.setIfInBounds_toArray, List.set_cons_zero, List.set_cons_succ])
          refine wpAnyH_done (by kernel_rfl) ?_ _
          have Kb' := hide hHeld.2.2.2.2.2.2.2.2.2.2.2.2.2.2
          clear iw i1 i2 i3 hHeld
          clear hlt'
          cases lt
          · go_wp2
            go_ret
            exact ⟨ret_eq1 (bool_eq (rising_no2 h1' h0 (by rw [Ex.out, Ey.out]; exact Hlt.out)).symm), Kb'.out⟩
          · go_wp2
            go_roundg (n - (k + 1))
            case measure => have := Hg.out; omega
            case rel => exact ⟨k + 1, rfl, by omega, by go_num, Hu.out.next h1' (by rw [Ex.out]; exact Hkx.out) (fun _ => by rw [Ex.out, Ey.out]; exact Hlt.out), Kb'.out⟩
        · have i4 : decide ((0 : Int) < (k : Int)) = false := by simp; omega
          clear hal
          refine wp_region_held_drew (S := fun w' => w'.cell? ⟨H, 0, none⟩ = some (.string x.id) ∧ w'.cell? ⟨H, 1, none⟩ = some (.string x.title) ∧ w'.cell? ⟨H, 2, none⟩ = some (.string x.link) ∧ w'.cell? ⟨H, 3, none⟩ = some (.string x.author) ∧ w'.cell? ⟨H, 4, none⟩ = some (.string x.content) ∧ w'.cell? ⟨H, 5, none⟩ = some (.bool x.has) ∧ w'.cell? ⟨H, 6, none⟩ = some (.int .i64 x.sec) ∧ Below w.heap.size w w') (by kernel_rfl) ?_ (fun hHeld => ?_)
          · (try dsimp only)
            go_split_ands
            refine ⟨?_, ?_, ?_, ?_, ?_, ?_, ?_, ?_⟩ <;> first | assumption | exact Below.drew (by assumption) | exact cell_go (by assumption) (by assumption) | exact below_go (by assumption) (by assumption) (Nat.le_refl _)
          change wpAnyH _ _ _ _ _ 21 #[false, false, false, false, false, false, false, false, false, false, false, false, false, false, false, false, false, false, false, false, false] _ _
          refine held_take (i := 0) (d := 16) (v := ?_) rfl rfl (by kernel_rfl) (by kernel_rfl) (by kernel_rfl) (fun _ _ _ h => h) (by kernel_rfl) hHeld ?_ ?_
          rotate_left
          · intro w hSw
            (try dsimp only at hSw)
            go_simp
            first | done | with_reducible rfl
          (try simp only [Act.put, List.setIfInBounds_toArray, List.set_cons_zero, List.set_cons_succ])
          refine held_take (i := 1) (d := 17) (v := ?_) rfl rfl (by kernel_rfl) (by kernel_rfl) (by kernel_rfl) (fun _ _ _ h => h) (by kernel_rfl) hHeld ?_ ?_
          rotate_left
          · intro w hSw
            (try dsimp only at hSw)
            go_simp
            first | done | with_reducible rfl
          (try simp only [Act.put, List.setIfInBounds_toArray, List.set_cons_zero, List.set_cons_succ])
          refine held_call (i := 2) rfl (by kernel_rfl) (by kernel_rfl) (fun K hK => ?_)
          go_simp
          go_at_call 27
          refine (V.out _).mono ?_
          rintro e w' ⟨rfl, hb⟩
          (try dsimp only)
          refine hK.out _ _ ?_ (fun hHeld' => ?_)
          · (try dsimp only)
            go_split_ands
            refine ⟨?_, ?_, ?_, ?_, ?_, ?_, ?_, ?_⟩ <;> first | assumption | exact Below.drew (by assumption) | exact cell_go (by assumption) (by assumption) | exact below_go (by assumption) (by assumption) (Nat.le_refl _)
          clear hK K hHeld
          have hHeld := hHeld'
          clear hHeld'
          (try simp only [Act.put, List.setIfInBounds_toArray, List.set_cons_zero, List.set_cons_succ])
          refine held_take (i := 3) (d := 19) (v := ?_) rfl rfl (by kernel_rfl) (by kernel_rfl) (by kernel_rfl) (fun _ _ _ h => h) (by kernel_rfl) hHeld ?_ ?_
          rotate_left
          · intro w hSw
            (try dsimp only at hSw)
            go_simp
            first | done | with_reducible rfl
          (try simp only [Act.put, List.setIfInBounds_toArray, List.set_cons_zero, List.set_cons_succ])
          refine held_take (i := 4) (d := 20) (v := ?_) rfl rfl (by kernel_rfl) (by kernel_rfl) (by kernel_rfl) (fun _ _ _ h => h) (by kernel_rfl) hHeld ?_ ?_
          rotate_left
          · intro w hSw
            (try dsimp only at hSw)
            go_simp
            first | done | with_reducible rfl
          (try simp only [Act.put, List.setIfInBounds_toArray, List.set_cons_zero, List.set_cons_succ])
          refine held_take (i := 5) (d := 21) (v := ?_) rfl rfl (by kernel_rfl) (by kernel_rfl) (by kernel_rfl) (fun _ _ _ h => h) (by kernel_rfl) hHeld ?_ ?_
          rotate_left
          · intro w hSw
            (try dsimp only at hSw)
            go_simp
            first | done | with_reducible rfl
          (try simp only [Act.put, List.setIfInBounds_toArray, List.set_cons_zero, List.set_cons_succ])
          refine held_take (i := 6) (d := 22) (v := ?_) rfl rfl (by kernel_rfl) (by kernel_rfl) (by kernel_rfl) (fun _ _ _ h => h) (by kernel_rfl) hHeld ?_ ?_
          rotate_left
          · intro w hSw
            (try dsimp only at hSw)
            go_simp
            first | done | with_reducible rfl
          (try simp only [Act.put, List.setIfInBounds_toArray, List.set_cons_zero, List.set_cons_succ])
          refine held_take (i := 7) (d := 23) (v := ?_) rfl rfl (by kernel_rfl) (by kernel_rfl) (by kernel_rfl) (fun _ _ _ h => h) (by kernel_rfl) hHeld ?_ ?_
          rotate_left
          · intro w hSw
            (try dsimp only at hSw)
            go_simp
            first | done | with_reducible rfl
          (try simp only [Act.put, List.setIfInBounds_toArray, List.set_cons_zero, List.set_cons_succ])
          refine held_skip (i := 8) (d := 24) rfl rfl (by kernel_rfl) (by kernel_rfl) (by kernel_rfl) (fun _ _ _ h => h) (by kernel_rfl) hHeld ?_
          (try simp only [Act.put, List.setIfInBounds_toArray, List.set_cons_zero, List.set_cons_succ])
          refine held_skip (i := 9) (d := 25) rfl rfl (by kernel_rfl) (by kernel_rfl) (by kernel_rfl) (fun _ _ _ h => h) (by kernel_rfl) hHeld ?_
          (try simp only [Act.put, List.setIfInBounds_toArray, List.set_cons_zero, List.set_cons_succ])
          refine held_skip (i := 10) (d := 26) rfl rfl (by kernel_rfl) (by kernel_rfl) (by kernel_rfl) (fun _ _ _ h => h) (by kernel_rfl) hHeld ?_
          (try simp only [Act.put, List.setIfInBounds_toArray, List.set_cons_zero, List.set_cons_succ])
          refine held_skip (i := 11) (d := 27) rfl rfl (by kernel_rfl) (by kernel_rfl) (by kernel_rfl) (fun _ _ _ h => h) (by kernel_rfl) hHeld ?_
          (try simp only [Act.put, List.setIfInBounds_toArray, List.set_cons_zero, List.set_cons_succ])
          refine held_skip (i := 12) (d := 28) rfl rfl (by kernel_rfl) (by kernel_rfl) (by kernel_rfl) (fun _ _ _ h => h) (by kernel_rfl) hHeld ?_
          (try simp only [Act.put, List.setIfInBounds_toArray, List.set_cons_zero, List.set_cons_succ])
          refine held_skip (i := 13) (d := 29) rfl rfl (by kernel_rfl) (by kernel_rfl) (by kernel_rfl) (fun _ _ _ h => h) (by kernel_rfl) hHeld ?_
          (try simp only [Act.put, List.setIfInBounds_toArray, List.set_cons_zero, List.set_cons_succ])
          refine held_skip (i := 14) (d := 30) rfl rfl (by kernel_rfl) (by kernel_rfl) (by kernel_rfl) (fun _ _ _ h => h) (by kernel_rfl) hHeld ?_
          (try simp only [Act.put, List.setIfInBounds_toArray, List.set_cons_zero, List.set_cons_succ])
          refine held_skip (i := 15) (d := 31) rfl rfl (by kernel_rfl) (by kernel_rfl) (by kernel_rfl) (fun _ _ _ h => h) (by kernel_rfl) hHeld ?_
          (try simp only [Act.put, List.setIfInBounds_toArray, List.set_cons_zero, List.set_cons_succ])
          refine held_skip (i := 16) (d := 32) rfl rfl (by kernel_rfl) (by kernel_rfl) (by kernel_rfl) (fun _ _ _ h => h) (by kernel_rfl) hHeld ?_
          (try simp only [Act.put, List.setIfInBounds_toArray, List.set_cons_zero, List.set_cons_succ])
          refine held_skip (i := 17) (d := 33) rfl rfl (by kernel_rfl) (by kernel_rfl) (by kernel_rfl) (fun _ _ _ h => h) (by kernel_rfl) hHeld ?_
          (try simp only [Act.put, List.setIfInBounds_toArray, List.set_cons_zero, List.set_cons_succ])
          refine held_skip (i := 18) (d := 34) rfl rfl (by kernel_rfl) (by kernel_rfl) (by kernel_rfl) (fun _ _ _ h => h) (by kernel_rfl) hHeld ?_
          (try simp only [Act.put, List.setIfInBounds_toArray, List.set_cons_zero, List.set_cons_succ])
          refine held_take (i := 19) (d := 35) (v := ?_) rfl rfl (by kernel_rfl) (by kernel_rfl) (by kernel_rfl) (fun _ _ _ h => h) (by kernel_rfl) hHeld ?_ ?_
          rotate_left
          · intro w hSw
            (try dsimp only at hSw)
            go_simp
            first | done | with_reducible rfl
          (try simp only [Act.put, List.setIfInBounds_toArray, List.set_cons_zero, List.set_cons_succ])
          refine held_take (i := 20) (d := 36) (v := ?_) rfl rfl (by kernel_rfl) (by kernel_rfl) (by kernel_rfl) (fun _ _ _ h => h) (by kernel_rfl) hHeld ?_ ?_
          rotate_left
          · intro w hSw
            (try dsimp only at hSw)
            go_simp
            first | done | with_reducible rfl
          (try simp only [Act.put, List.setIfInBounds_toArray, List.set_cons_zero, List.set_cons_succ])
          refine wpAnyH_done (by kernel_rfl) ?_ _
          have Kb' := hide hHeld.2.2.2.2.2.2.2
          clear hHeld
          go_wp2
          go_roundg (n - (k + 1))
          case measure => have := Hg.out; omega
          case rel => exact ⟨k + 1, rfl, by omega, by go_num, Hu.out.next h1' (by rw [Ex.out]; exact Hkx.out) (fun h => absurd h h0), Kb'.out⟩
      · rw [hkx] at V
        have Hkx := hide hkx
        clear hkx hal
        refine wp_region_held_drew (S := fun w' => w'.cell? ⟨H, 0, none⟩ = some (.string x.id) ∧ w'.cell? ⟨H, 1, none⟩ = some (.string x.title) ∧ w'.cell? ⟨H, 2, none⟩ = some (.string x.link) ∧ w'.cell? ⟨H, 3, none⟩ = some (.string x.author) ∧ w'.cell? ⟨H, 4, none⟩ = some (.string x.content) ∧ w'.cell? ⟨H, 5, none⟩ = some (.bool x.has) ∧ w'.cell? ⟨H, 6, none⟩ = some (.int .i64 x.sec) ∧ Below w.heap.size w w') (by kernel_rfl) ?_ (fun hHeld => ?_)
        · (try dsimp only)
          go_split_ands
          refine ⟨?_, ?_, ?_, ?_, ?_, ?_, ?_, ?_⟩ <;> first | assumption | exact Below.drew (by assumption) | exact cell_go (by assumption) (by assumption) | exact below_go (by assumption) (by assumption) (Nat.le_refl _)
        change wpAnyH _ _ _ _ _ 21 #[false, false, false, false, false, false, false, false, false, false, false, false, false, false, false, false, false, false, false, false, false] _ _
        refine held_take (i := 0) (d := 16) (v := ?_) rfl rfl (by kernel_rfl) (by kernel_rfl) (by kernel_rfl) (fun _ _ _ h => h) (by kernel_rfl) hHeld ?_ ?_
        rotate_left
        · intro w hSw
          (try dsimp only at hSw)
          go_simp
          first | done | with_reducible rfl
        (try simp only [Act.put, List.setIfInBounds_toArray, List.set_cons_zero, List.set_cons_succ])
        refine held_take (i := 1) (d := 17) (v := ?_) rfl rfl (by kernel_rfl) (by kernel_rfl) (by kernel_rfl) (fun _ _ _ h => h) (by kernel_rfl) hHeld ?_ ?_
        rotate_left
        · intro w hSw
          (try dsimp only at hSw)
          go_simp
          first | done | with_reducible rfl
        (try simp only [Act.put, List.setIfInBounds_toArray, List.set_cons_zero, List.set_cons_succ])
        refine held_call (i := 2) rfl (by kernel_rfl) (by kernel_rfl) (fun K hK => ?_)
        go_simp
        go_at_call 27
        refine (V.out _).mono ?_
        rintro e w' ⟨rfl, hb⟩
        (try dsimp only)
        refine hK.out _ _ ?_ (fun hHeld' => ?_)
        · (try dsimp only)
          go_split_ands
          refine ⟨?_, ?_, ?_, ?_, ?_, ?_, ?_, ?_⟩ <;> first | assumption | exact Below.drew (by assumption) | exact cell_go (by assumption) (by assumption) | exact below_go (by assumption) (by assumption) (Nat.le_refl _)
        clear hK K hHeld
        have hHeld := hHeld'
        clear hHeld'
        (try simp only [Act.put, List.setIfInBounds_toArray, List.set_cons_zero, List.set_cons_succ])
        refine held_take (i := 3) (d := 19) (v := ?_) rfl rfl (by kernel_rfl) (by kernel_rfl) (by kernel_rfl) (fun _ _ _ h => h) (by kernel_rfl) hHeld ?_ ?_
        rotate_left
        · intro w hSw
          (try dsimp only at hSw)
          go_simp
          first | done | with_reducible rfl
        (try simp only [Act.put, List.setIfInBounds_toArray, List.set_cons_zero, List.set_cons_succ])
        refine held_take (i := 4) (d := 20) (v := ?_) rfl rfl (by kernel_rfl) (by kernel_rfl) (by kernel_rfl) (fun _ _ _ h => h) (by kernel_rfl) hHeld ?_ ?_
        rotate_left
        · intro w hSw
          (try dsimp only at hSw)
          go_simp
          first | done | with_reducible rfl
        (try simp only [Act.put, List.setIfInBounds_toArray, List.set_cons_zero, List.set_cons_succ])
        refine held_skip (i := 5) (d := 21) rfl rfl (by kernel_rfl) (by kernel_rfl) (by kernel_rfl) (fun _ _ _ h => h) (by kernel_rfl) hHeld ?_
        (try simp only [Act.put, List.setIfInBounds_toArray, List.set_cons_zero, List.set_cons_succ])
        refine held_skip (i := 6) (d := 22) rfl rfl (by kernel_rfl) (by kernel_rfl) (by kernel_rfl) (fun _ _ _ h => h) (by kernel_rfl) hHeld ?_
        (try simp only [Act.put, List.setIfInBounds_toArray, List.set_cons_zero, List.set_cons_succ])
        refine held_skip (i := 7) (d := 23) rfl rfl (by kernel_rfl) (by kernel_rfl) (by kernel_rfl) (fun _ _ _ h => h) (by kernel_rfl) hHeld ?_
        (try simp only [Act.put, List.setIfInBounds_toArray, List.set_cons_zero, List.set_cons_succ])
        refine held_skip (i := 8) (d := 24) rfl rfl (by kernel_rfl) (by kernel_rfl) (by kernel_rfl) (fun _ _ _ h => h) (by kernel_rfl) hHeld ?_
        (try simp only [Act.put, List.setIfInBounds_toArray, List.set_cons_zero, List.set_cons_succ])
        refine held_skip (i := 9) (d := 25) rfl rfl (by kernel_rfl) (by kernel_rfl) (by kernel_rfl) (fun _ _ _ h => h) (by kernel_rfl) hHeld ?_
        (try simp only [Act.put, List.setIfInBounds_toArray, List.set_cons_zero, List.set_cons_succ])
        refine held_skip (i := 10) (d := 26) rfl rfl (by kernel_rfl) (by kernel_rfl) (by kernel_rfl) (fun _ _ _ h => h) (by kernel_rfl) hHeld ?_
        (try simp only [Act.put, List.setIfInBounds_toArray, List.set_cons_zero, List.set_cons_succ])
        refine held_skip (i := 11) (d := 27) rfl rfl (by kernel_rfl) (by kernel_rfl) (by kernel_rfl) (fun _ _ _ h => h) (by kernel_rfl) hHeld ?_
        (try simp only [Act.put, List.setIfInBounds_toArray, List.set_cons_zero, List.set_cons_succ])
        refine held_skip (i := 12) (d := 28) rfl rfl (by kernel_rfl) (by kernel_rfl) (by kernel_rfl) (fun _ _ _ h => h) (by kernel_rfl) hHeld ?_
        (try simp only [Act.put, List.setIfInBounds_toArray, List.set_cons_zero, List.set_cons_succ])
        refine held_skip (i := 13) (d := 29) rfl rfl (by kernel_rfl) (by kernel_rfl) (by kernel_rfl) (fun _ _ _ h => h) (by kernel_rfl) hHeld ?_
        (try simp only [Act.put, List.setIfInBounds_toArray, List.set_cons_zero, List.set_cons_succ])
        refine held_skip (i := 14) (d := 30) rfl rfl (by kernel_rfl) (by kernel_rfl) (by kernel_rfl) (fun _ _ _ h => h) (by kernel_rfl) hHeld ?_
        (try simp only [Act.put, List.setIfInBounds_toArray, List.set_cons_zero, List.set_cons_succ])
        refine held_skip (i := 15) (d := 31) rfl rfl (by kernel_rfl) (by kernel_rfl) (by kernel_rfl) (fun _ _ _ h => h) (by kernel_rfl) hHeld ?_
        (try simp only [Act.put, List.setIfInBounds_toArray, List.set_cons_zero, List.set_cons_succ])
        refine held_skip (i := 16) (d := 32) rfl rfl (by kernel_rfl) (by kernel_rfl) (by kernel_rfl) (fun _ _ _ h => h) (by kernel_rfl) hHeld ?_
        (try simp only [Act.put, List.setIfInBounds_toArray, List.set_cons_zero, List.set_cons_succ])
        refine held_skip (i := 17) (d := 33) rfl rfl (by kernel_rfl) (by kernel_rfl) (by kernel_rfl) (fun _ _ _ h => h) (by kernel_rfl) hHeld ?_
        (try simp only [Act.put, List.setIfInBounds_toArray, List.set_cons_zero, List.set_cons_succ])
        refine held_skip (i := 18) (d := 34) rfl rfl (by kernel_rfl) (by kernel_rfl) (by kernel_rfl) (fun _ _ _ h => h) (by kernel_rfl) hHeld ?_
        (try simp only [Act.put, List.setIfInBounds_toArray, List.set_cons_zero, List.set_cons_succ])
        refine held_skip (i := 19) (d := 35) rfl rfl (by kernel_rfl) (by kernel_rfl) (by kernel_rfl) (fun _ _ _ h => h) (by kernel_rfl) hHeld ?_
        (try simp only [Act.put, List.setIfInBounds_toArray, List.set_cons_zero, List.set_cons_succ])
        refine held_take (i := 20) (d := 36) (v := ?_) rfl rfl (by kernel_rfl) (by kernel_rfl) (by kernel_rfl) (fun _ _ _ h => h) (by kernel_rfl) hHeld ?_ ?_
        rotate_left
        · intro w hSw
          (try dsimp only at hSw)
          go_simp
          first | done | with_reducible rfl
        (try simp only [Act.put, List.setIfInBounds_toArray, List.set_cons_zero, List.set_cons_succ])
        refine wpAnyH_done (by kernel_rfl) ?_ _
        have Kb' := hide hHeld.2.2.2.2.2.2.2
        clear hHeld
        go_wp2
        go_ret
        exact ⟨ret_eq1 (bool_eq (rising_no1 h1' (by rw [Ex.out]; exact Hkx.out)).symm), Kb'.out⟩
    · go_wp2
      go_ret
      exact ⟨ret_eq1 (bool_eq (Hu.out.all (by rw [HL.out]; omega)).symm), Kb.out⟩

set_option maxHeartbeats 1000000 in
theorem risingK_any (A : Option Addr) (c : Nat) (l : List Kpt) (w : World) (hA : Reads w w.heap.size 8 A l.length (kpts l)) (hl : l.length ≤ 1000000000) (hs : Small (l.map (·.e))) :
    Calls Try.prog 53 #[.slice A l.length c, .func (.func 54) #[] #[], .func (.func 55) #[] #[]] w fun e w' => e = .returned (.bool (rising (l.map (·.e)))) ∧ Below w.heap.size w w' := by
  obtain ⟨n, hn⟩ : ∃ n, l.length = n := ⟨_, rfl⟩
  have HA := hide hA
  have HS := hide hs
  have HL := hide (show (l.map (·.e)).length = n from (List.length_map _).trans hn)
  rw [hn] at hl ⊢
  have Hn := hide hn
  clear hn hA hs
  go_enter Try.func53, Try.ntmps53
  go_wp2
  go_loopg [11] n (fun g vi wr => ∃ k : Nat, g = n - k ∧ k ≤ n ∧ vi = .int .i64 k ∧ upTo (l.map (·.e)) k ∧ Below w.heap.size w wr)
  case atStart => exact ⟨0, rfl, Nat.zero_le _, rfl, upTo.zero _, Below.refl _ _⟩
  case round =>
    obtain ⟨k, hg, hk, rfl, hu, kb⟩ := hrel
    have Hg := hide hg
    have Hu := hide hu
    have Kb := hide kb
    clear hg hu kb
    by_cases hlt : k < n
    · have h1 : k < l.length := by rw [Hn.out]; exact hlt
      have h1' : k < (l.map (·.e)).length := by rw [HL.out]; exact hlt
      obtain ⟨b, off, hA0, hb, hx⟩ := (HA.out.below Kb.out).kpt h1
      obtain ⟨x, ex⟩ : ∃ x, l[k] = x := ⟨_, rfl⟩
      have ex' : (l.map (·.e))[k]'h1' = x.e := by rw [List.getElem_map, ex]
      have hz := HS.out k h1'
      rw [ex'] at hz
      rw [ex] at hx
      subst hA0
      have V := hide fun W => keepsK_any x W hz
      have Ex := hide ex'
      unfold kptCells entCells at V
      have x0 := hx.c0
      have x1 := hx.c1
      have x2 := hx.c2
      have x3 := hx.c3
      have x4 := hx.c4
      have x5 := hx.c5
      have x6 := hx.c6
      have x7 := hx.c7
      clear hx hz ex ex'
      go_wp2
      have k0 := Blk.new wr 64 #[.string x.e.id, .string x.e.title, .string x.e.link, .string x.e.author, .string x.e.content, .bool x.e.has, .int .i64 x.e.sec, .bool x.read]
      have kb := Kb.out.trans ((below_alloc wr (.cells #[.string x.e.id, .string x.e.title, .string x.e.link, .string x.e.author, .string x.e.content, .bool x.e.has, .int .i64 x.e.sec, .bool x.read] 64)).mono Kb.out.size)
      have hal : ∀ (a : Addr) v, wr.cell? a = some v → (wr.alloc (.cells #[.string x.e.id, .string x.e.title, .string x.e.link, .string x.e.author, .string x.e.content, .bool x.e.has, .int .i64 x.e.sec, .bool x.read] 64)).cell? a = some v := fun a v h => cell_go (below_alloc _ _) h
      obtain ⟨W0, hW0⟩ : ∃ W0, wr.alloc (.cells #[.string x.e.id, .string x.e.title, .string x.e.link, .string x.e.author, .string x.e.content, .bool x.e.has, .int .i64 x.e.sec, .bool x.read] 64) = W0 := ⟨_, rfl⟩
      rw [hW0] at k0 kb hal ⊢
      clear hW0
      obtain ⟨H, hH⟩ : ∃ H, wr.heap.size = H := ⟨_, rfl⟩
      rw [hH] at k0 ⊢
      clear hH x0 x1 x2 x3 x4 x5 x6 x7
      have q0 : W0.cell? ⟨H, 0, none⟩ = some (.string x.e.id) := k0.cell 0
      have q1 : W0.cell? ⟨H, 1, none⟩ = some (.string x.e.title) := k0.cell 1
      have q2 : W0.cell? ⟨H, 2, none⟩ = some (.string x.e.link) := k0.cell 2
      have q3 : W0.cell? ⟨H, 3, none⟩ = some (.string x.e.author) := k0.cell 3
      have q4 : W0.cell? ⟨H, 4, none⟩ = some (.string x.e.content) := k0.cell 4
      have q5 : W0.cell? ⟨H, 5, none⟩ = some (.bool x.e.has) := k0.cell 5
      have q6 : W0.cell? ⟨H, 6, none⟩ = some (.int .i64 x.e.sec) := k0.cell 6
      have q7 : W0.cell? ⟨H, 7, none⟩ = some (.bool x.read) := k0.cell 7
      clear k0
      rcases Bool.eq_false_or_eq_true (keeps (x.e)) with hkx | hkx
      · rw [hkx] at V
        have Hkx := hide hkx
        clear hkx
        by_cases h0 : 0 < k
        · have h2 : k - 1 < l.length := by omega
          have h2' : k - 1 < (l.map (·.e)).length := by rw [HL.out]; omega
          obtain ⟨b', off', e1, hb', hy⟩ := (HA.out.below Kb.out).kpt h2
          injection e1 with e1
          injection e1 with e1 e2 _
          subst e1 e2
          obtain ⟨y, ey⟩ : ∃ x, l[k - 1] = x := ⟨_, rfl⟩
          rw [ey] at hy
          have Ey := hide (show (l.map (·.e))[k - 1]'h2' = y.e from by rw [List.getElem_map, ey])
          clear ey
          have y0 := hal _ _ hy.c0
          have y1 := hal _ _ hy.c1
          have y2 := hal _ _ hy.c2
          have y3 := hal _ _ hy.c3
          have y4 := hal _ _ hy.c4
          have y5 := hal _ _ hy.c5
          have y6 := hal _ _ hy.c6
          have y7 := hal _ _ hy.c7
          clear hy hal
          have i0 : (0 : Int) < (k : Int) := by omega
          have BX := hide fun W => byKept_any x W
          have BY := hide fun W => byKept_any y W
          unfold kptCells entCells at BX BY
          obtain ⟨lt, hlt'⟩ : ∃ c, Op.bytesLess (y.e).id.toList (x.e).id.toList = c := ⟨_, rfl⟩
          have Hlt := hide hlt'
          have iw : IntKind.i64.wrap ((k : Int) - 1) = (k : Int) - 1 := IntWalk.i64_in _ (by omega)
          have i1 : (0 : Int) ≤ (k : Int) - 1 := by omega
          have i2 : ((k : Int) - 1).toNat = k - 1 := by omega
          have i3 : (k : Int) - 1 < (n : Int) := by omega
          have i4 : (1 : Int) ≤ (k : Int) := by omega
          refine wp_region_held_drew (S := fun w' => w'.cell? ⟨H, 0, none⟩ = some (.string x.e.id) ∧ w'.cell? ⟨H, 1, none⟩ = some (.string x.e.title) ∧ w'.cell? ⟨H, 2, none⟩ = some (.string x.e.link) ∧ w'.cell? ⟨H, 3, none⟩ = some (.string x.e.author) ∧ w'.cell? ⟨H, 4, none⟩ = some (.string x.e.content) ∧ w'.cell? ⟨H, 5, none⟩ = some (.bool x.e.has) ∧ w'.cell? ⟨H, 6, none⟩ = some (.int .i64 x.e.sec) ∧ w'.cell? ⟨H, 7, none⟩ = some (.bool x.read) ∧ w'.cell? ⟨b, off + (k - 1) * 8, none⟩ = some (.string y.e.id) ∧ w'.cell? ⟨b, off + (k - 1) * 8 + 1, none⟩ = some (.string y.e.title) ∧ w'.cell? ⟨b, off + (k - 1) * 8 + 2, none⟩ = some (.string y.e.link) ∧ w'.cell? ⟨b, off + (k - 1) * 8 + 3, none⟩ = some (.string y.e.author) ∧ w'.cell? ⟨b, off + (k - 1) * 8 + 4, none⟩ = some (.string y.e.content) ∧ w'.cell? ⟨b, off + (k - 1) * 8 + 5, none⟩ = some (.bool y.e.has) ∧ w'.cell? ⟨b, off + (k - 1) * 8 + 6, none⟩ = some (.int .i64 y.e.sec) ∧ w'.cell? ⟨b, off + (k - 1) * 8 + 7, none⟩ = some (.bool y.read) ∧ Below w.heap.size w w') (by kernel_rfl) ?_ (fun hHeld => ?_)
          · (try dsimp only)
            go_split_ands
            refine ⟨?_, ?_, ?_, ?_, ?_, ?_, ?_, ?_, ?_, ?_, ?_, ?_, ?_, ?_, ?_, ?_, ?_⟩ <;> first | assumption | exact Below.drew (by assumption) | exact cell_go (by assumption) (by assumption) | exact below_go (by assumption) (by assumption) (Nat.le_refl _)
          change wpAnyH _ _ _ _ _ 21 #[false, false, false, false, false, false, false, false, false, false, false, false, false, false, false, false, false, false, false, false, false] _ _
          refine held_take (i := 0) (d := 16) (v := ?_) rfl rfl (by kernel_rfl) (by kernel_rfl) (by kernel_rfl) (fun _ _ _ h => h) (by kernel_rfl) hHeld ?_ ?_
          rotate_left
          · intro w hSw
            (try dsimp only at hSw)
            go_simp
            first | done | with_reducible rfl
          (try simp only [Act.put, List.setIfInBounds_toArray, List.set_cons_zero, List.set_cons_succ])
          refine held_take (i := 1) (d := 17) (v := ?_) rfl rfl (by kernel_rfl) (by kernel_rfl) (by kernel_rfl) (fun _ _ _ h => h) (by kernel_rfl) hHeld ?_ ?_
          rotate_left
          · intro w hSw
            (try dsimp only at hSw)
            go_simp
            first | done | with_reducible rfl
          (try simp only [Act.put, List.setIfInBounds_toArray, List.set_cons_zero, List.set_cons_succ])
          refine held_call (i := 2) rfl (by kernel_rfl) (by kernel_rfl) (fun K hK => ?_)
          go_simp
          go_at_call 55
          refine (V.out _).mono ?_
          rintro e w' ⟨rfl, hb⟩
          (try dsimp only)
          refine hK.out _ _ ?_ (fun hHeld' => ?_)
          · (try dsimp only)
            go_split_ands
            refine ⟨?_, ?_, ?_, ?_, ?_, ?_, ?_, ?_, ?_, ?_, ?_, ?_, ?_, ?_, ?_, ?_, ?_⟩ <;> first | assumption | exact Below.drew (by assumption) | exact cell_go (by assumption) (by assumption) | exact below_go (by assumption) (by assumption) (Nat.le_refl _)
          clear hK K hHeld
          have hHeld := hHeld'
          clear hHeld'
          (try simp only [Act.put, List.setIfInBounds_toArray, List.set_cons_zero, List.set_cons_succ])
          refine held_take (i := 3) (d := 19) (v := ?_) rfl rfl (by kernel_rfl) (by kernel_rfl) (by kernel_rfl) (fun _ _ _ h => h) (by kernel_rfl) hHeld ?_ ?_
          rotate_left
          · intro w hSw
            (try dsimp only at hSw)
            go_simp
            first | done | with_reducible rfl
          (try simp only [Act.put, List.setIfInBounds_toArray, List.set_cons_zero, List.set_cons_succ])
          refine held_take (i := 4) (d := 20) (v := ?_) rfl rfl (by kernel_rfl) (by kernel_rfl) (by kernel_rfl) (fun _ _ _ h => h) (by kernel_rfl) hHeld ?_ ?_
          rotate_left
          · intro w hSw
            (try dsimp only at hSw)
            go_simp
            first | done | with_reducible rfl
          (try simp only [Act.put, List.setIfInBounds_toArray, List.set_cons_zero, List.set_cons_succ])
          refine held_take (i := 5) (d := 21) (v := ?_) rfl rfl (by kernel_rfl) (by kernel_rfl) (by kernel_rfl) (fun _ _ _ h => h) (by kernel_rfl) hHeld ?_ ?_
          rotate_left
          · intro w hSw
            (try dsimp only at hSw)
            go_simp
            first | done | with_reducible rfl
          (try simp only [Act.put, List.setIfInBounds_toArray, List.set_cons_zero, List.set_cons_succ])
          refine held_take (i := 6) (d := 22) (v := ?_) rfl rfl (by kernel_rfl) (by kernel_rfl) (by kernel_rfl) (fun _ _ _ h => h) (by kernel_rfl) hHeld ?_ ?_
          rotate_left
          · intro w hSw
            (try dsimp only at hSw)
            go_simp
            first | done | with_reducible rfl
          (try simp only [Act.put, List.setIfInBounds_toArray, List.set_cons_zero, List.set_cons_succ])
          refine held_take (i := 7) (d := 23) (v := ?_) rfl rfl (by kernel_rfl) (by kernel_rfl) (by kernel_rfl) (fun _ _ _ h => h) (by kernel_rfl) hHeld ?_ ?_
          rotate_left
          · intro w hSw
            (try dsimp only at hSw)
            go_simp
            first | done | with_reducible rfl
          (try simp only [Act.put, List.setIfInBounds_toArray, List.set_cons_zero, List.set_cons_succ])
          refine held_take (i := 8) (d := 24) (v := ?_) rfl rfl (by kernel_rfl) (by kernel_rfl) (by kernel_rfl) (fun _ _ _ h => h) (by kernel_rfl) hHeld ?_ ?_
          rotate_left
          · intro w hSw
            (try dsimp only at hSw)
            go_simp
            first | done | with_reducible rfl
          (try simp only [Act.put, List.setIfInBounds_toArray, List.set_cons_zero, List.set_cons_succ])
          refine held_take (i := 9) (d := 25) (v := ?_) rfl rfl (by kernel_rfl) (by kernel_rfl) (by kernel_rfl) (fun _ _ _ h => h) (by kernel_rfl) hHeld ?_ ?_
          rotate_left
          · intro w hSw
            (try dsimp only at hSw)
            go_simp
            first | done | with_reducible rfl
          (try simp only [Act.put, List.setIfInBounds_toArray, List.set_cons_zero, List.set_cons_succ])
          refine held_take (i := 10) (d := 26) (v := ?_) rfl rfl (by kernel_rfl) (by kernel_rfl) (by kernel_rfl) (fun _ _ _ h => h) (by kernel_rfl) hHeld ?_ ?_
          rotate_left
          · intro w hSw
            (try dsimp only at hSw)
            go_simp
            first | done | with_reducible rfl
          (try simp only [Act.put, List.setIfInBounds_toArray, List.set_cons_zero, List.set_cons_succ])
          refine held_take (i := 11) (d := 27) (v := ?_) rfl rfl (by kernel_rfl) (by kernel_rfl) (by kernel_rfl) (fun _ _ _ h => h) (by kernel_rfl) hHeld ?_ ?_
          rotate_left
          · intro w hSw
            (try dsimp only at hSw)
            go_simp
            first | done | with_reducible rfl
          (try simp only [Act.put, List.setIfInBounds_toArray, List.set_cons_zero, List.set_cons_succ])
          refine held_take (i := 12) (d := 28) (v := ?_) rfl rfl (by kernel_rfl) (by kernel_rfl) (by kernel_rfl) (fun _ _ _ h => h) (by kernel_rfl) hHeld ?_ ?_
          rotate_left
          · intro w hSw
            (try dsimp only at hSw)
            go_simp
            first | done | with_reducible rfl
          (try simp only [Act.put, List.setIfInBounds_toArray, List.set_cons_zero, List.set_cons_succ])
          refine held_take (i := 13) (d := 29) (v := ?_) rfl rfl (by kernel_rfl) (by kernel_rfl) (by kernel_rfl) (fun _ _ _ h => h) (by kernel_rfl) hHeld ?_ ?_
          rotate_left
          · intro w hSw
            (try dsimp only at hSw)
            go_simp
            first | done | with_reducible rfl
          (try simp only [Act.put, List.setIfInBounds_toArray, List.set_cons_zero, List.set_cons_succ])
          refine held_take (i := 15) (d := 31) (v := ?_) rfl rfl (by kernel_rfl) (by kernel_rfl) (by kernel_rfl) (fun _ _ _ h => h) (by kernel_rfl) hHeld ?_ ?_
          rotate_left
          · intro w hSw
            (try dsimp only at hSw)
            go_simp
            first | done | with_reducible rfl
          (try simp only [Act.put, List.setIfInBounds_toArray, List.set_cons_zero, List.set_cons_succ])
          refine held_take (i := 16) (d := 32) (v := ?_) rfl rfl (by kernel_rfl) (by kernel_rfl) (by kernel_rfl) (fun _ _ _ h => h) (by kernel_rfl) hHeld ?_ ?_
          rotate_left
          · intro w hSw
            (try dsimp only at hSw)
            go_simp
            first | done | with_reducible rfl
          (try simp only [Act.put, List.setIfInBounds_toArray, List.set_cons_zero, List.set_cons_succ])
          refine held_call (i := 14) rfl (by kernel_rfl) (by kernel_rfl) (fun K hK => ?_)
          go_simp
          go_at_call 54
          refine (BY.out _).mono ?_
          rintro e w' ⟨rfl, hb⟩
          (try dsimp only)
          refine hK.out _ _ ?_ (fun hHeld' => ?_)
          · (try dsimp only)
            go_split_ands
            refine ⟨?_, ?_, ?_, ?_, ?_, ?_, ?_, ?_, ?_, ?_, ?_, ?_, ?_, ?_, ?_, ?_, ?_⟩ <;> first | assumption | exact Below.drew (by assumption) | exact cell_go (by assumption) (by assumption) | exact below_go (by assumption) (by assumption) (Nat.le_refl _)
          clear hK K hHeld
          have hHeld := hHeld'
          clear hHeld'
          (try simp only [Act.put, List.setIfInBounds_toArray, List.set_cons_zero, List.set_cons_succ])
          refine held_call (i := 17) rfl (by kernel_rfl) (by kernel_rfl) (fun K hK => ?_)
          go_simp
          go_at_call 54
          refine (BX.out _).mono ?_
          rintro e w' ⟨rfl, hb⟩
          (try dsimp only)
          refine hK.out _ _ ?_ (fun hHeld' => ?_)
          · (try dsimp only)
            go_split_ands
            refine ⟨?_, ?_, ?_, ?_, ?_, ?_, ?_, ?_, ?_, ?_, ?_, ?_, ?_, ?_, ?_, ?_, ?_⟩ <;> first | assumption | exact Below.drew (by assumption) | exact cell_go (by assumption) (by assumption) | exact below_go (by assumption) (by assumption) (Nat.le_refl _)
          clear hK K hHeld
          have hHeld := hHeld'
          clear hHeld'
          (try simp only [Act.put, List.setIfInBounds_toArray, List.set_cons_zero, List.set_cons_succ])
          refine held_take (i := 18) (d := 34) (v := ?_) rfl rfl (by kernel_rfl) (by kernel_rfl) (by kernel_rfl) (fun _ _ _ h => h) (by kernel_rfl) hHeld ?_ ?_
          rotate_left
          · intro w hSw
            (try dsimp only at hSw)
            go_simp
            first | done | with_reducible rfl
          (try simp only [Act.put, List.setIfInBounds_toArray, List.set_cons_zero, List.set_cons_succ])
          refine held_take (i := 19) (d := 35) (v := ?_) rfl rfl (by kernel_rfl) (by kernel_rfl) (by kernel_rfl) (fun _ _ _ h => h) (by kernel_rfl) hHeld ?_ ?_
          rotate_left
          · intro w hSw
            (try dsimp only at hSw)
            go_simp
            first | done | with_reducible rfl
          (try simp only [Act.put, List.setIfInBounds_toArray, List.set_cons_zero, List.set_cons_succ])
          refine held_take (i := 20) (d := 36) (v := ?_) rfl rfl (by kernel_rfl) (by kernel_rfl) (by kernel_rfl) (fun _ _ _ h => h) (by kernel_rfl) hHeld ?_ ?_
          rotate_left
          · intro w hSw
            (try dsimp only at hSw)
            go_simp
            first | done | with_reducible rfl
          (try simp only [Act.put, List.setIfInBounds_toArray, List.set_cons_zero, List.set_cons_succ])
          refine wpAnyH_done (by kernel_rfl) ?_ _
          have Kb' := hide hHeld.2.2.2.2.2.2.2.2.2.2.2.2.2.2.2.2
          clear iw i1 i2 i3 hHeld
          clear hlt'
          cases lt
          · go_wp2
            go_ret
            exact ⟨ret_eq1 (bool_eq (rising_no2 h1' h0 (by rw [Ex.out, Ey.out]; exact Hlt.out)).symm), Kb'.out⟩
          · go_wp2
            go_roundg (n - (k + 1))
            case measure => have := Hg.out; omega
            case rel => exact ⟨k + 1, rfl, by omega, by go_num, Hu.out.next h1' (by rw [Ex.out]; exact Hkx.out) (fun _ => by rw [Ex.out, Ey.out]; exact Hlt.out), Kb'.out⟩
        · have i4 : decide ((0 : Int) < (k : Int)) = false := by simp; omega
          clear hal
          refine wp_region_held_drew (S := fun w' => w'.cell? ⟨H, 0, none⟩ = some (.string x.e.id) ∧ w'.cell? ⟨H, 1, none⟩ = some (.string x.e.title) ∧ w'.cell? ⟨H, 2, none⟩ = some (.string x.e.link) ∧ w'.cell? ⟨H, 3, none⟩ = some (.string x.e.author) ∧ w'.cell? ⟨H, 4, none⟩ = some (.string x.e.content) ∧ w'.cell? ⟨H, 5, none⟩ = some (.bool x.e.has) ∧ w'.cell? ⟨H, 6, none⟩ = some (.int .i64 x.e.sec) ∧ w'.cell? ⟨H, 7, none⟩ = some (.bool x.read) ∧ Below w.heap.size w w') (by kernel_rfl) ?_ (fun hHeld => ?_)
          · (try dsimp only)
            go_split_ands
            refine ⟨?_, ?_, ?_, ?_, ?_, ?_, ?_, ?_, ?_⟩ <;> first | assumption | exact Below.drew (by assumption) | exact cell_go (by assumption) (by assumption) | exact below_go (by assumption) (by assumption) (Nat.le_refl _)
          change wpAnyH _ _ _ _ _ 21 #[false, false, false, false, false, false, false, false, false, false, false, false, false, false, false, false, false, false, false, false, false] _ _
          refine held_take (i := 0) (d := 16) (v := ?_) rfl rfl (by kernel_rfl) (by kernel_rfl) (by kernel_rfl) (fun _ _ _ h => h) (by kernel_rfl) hHeld ?_ ?_
          rotate_left
          · intro w hSw
            (try dsimp only at hSw)
            go_simp
            first | done | with_reducible rfl
          (try simp only [Act.put, List.setIfInBounds_toArray, List.set_cons_zero, List.set_cons_succ])
          refine held_take (i := 1) (d := 17) (v := ?_) rfl rfl (by kernel_rfl) (by kernel_rfl) (by kernel_rfl) (fun _ _ _ h => h) (by kernel_rfl) hHeld ?_ ?_
          rotate_left
          · intro w hSw
            (try dsimp only at hSw)
            go_simp
            first | done | with_reducible rfl
          (try simp only [Act.put, List.setIfInBounds_toArray, List.set_cons_zero, List.set_cons_succ])
          refine held_call (i := 2) rfl (by kernel_rfl) (by kernel_rfl) (fun K hK => ?_)
          go_simp
          go_at_call 55
          refine (V.out _).mono ?_
          rintro e w' ⟨rfl, hb⟩
          (try dsimp only)
          refine hK.out _ _ ?_ (fun hHeld' => ?_)
          · (try dsimp only)
            go_split_ands
            refine ⟨?_, ?_, ?_, ?_, ?_, ?_, ?_, ?_, ?_⟩ <;> first | assumption | exact Below.drew (by assumption) | exact cell_go (by assumption) (by assumption) | exact below_go (by assumption) (by assumption) (Nat.le_refl _)
          clear hK K hHeld
          have hHeld := hHeld'
          clear hHeld'
          (try simp only [Act.put, List.setIfInBounds_toArray, List.set_cons_zero, List.set_cons_succ])
          refine held_take (i := 3) (d := 19) (v := ?_) rfl rfl (by kernel_rfl) (by kernel_rfl) (by kernel_rfl) (fun _ _ _ h => h) (by kernel_rfl) hHeld ?_ ?_
          rotate_left
          · intro w hSw
            (try dsimp only at hSw)
            go_simp
            first | done | with_reducible rfl
          (try simp only [Act.put, List.setIfInBounds_toArray, List.set_cons_zero, List.set_cons_succ])
          refine held_take (i := 4) (d := 20) (v := ?_) rfl rfl (by kernel_rfl) (by kernel_rfl) (by kernel_rfl) (fun _ _ _ h => h) (by kernel_rfl) hHeld ?_ ?_
          rotate_left
          · intro w hSw
            (try dsimp only at hSw)
            go_simp
            first | done | with_reducible rfl
          (try simp only [Act.put, List.setIfInBounds_toArray, List.set_cons_zero, List.set_cons_succ])
          refine held_take (i := 5) (d := 21) (v := ?_) rfl rfl (by kernel_rfl) (by kernel_rfl) (by kernel_rfl) (fun _ _ _ h => h) (by kernel_rfl) hHeld ?_ ?_
          rotate_left
          · intro w hSw
            (try dsimp only at hSw)
            go_simp
            first | done | with_reducible rfl
          (try simp only [Act.put, List.setIfInBounds_toArray, List.set_cons_zero, List.set_cons_succ])
          refine held_take (i := 6) (d := 22) (v := ?_) rfl rfl (by kernel_rfl) (by kernel_rfl) (by kernel_rfl) (fun _ _ _ h => h) (by kernel_rfl) hHeld ?_ ?_
          rotate_left
          · intro w hSw
            (try dsimp only at hSw)
            go_simp
            first | done | with_reducible rfl
          (try simp only [Act.put, List.setIfInBounds_toArray, List.set_cons_zero, List.set_cons_succ])
          refine held_take (i := 7) (d := 23) (v := ?_) rfl rfl (by kernel_rfl) (by kernel_rfl) (by kernel_rfl) (fun _ _ _ h => h) (by kernel_rfl) hHeld ?_ ?_
          rotate_left
          · intro w hSw
            (try dsimp only at hSw)
            go_simp
            first | done | with_reducible rfl
          (try simp only [Act.put, List.setIfInBounds_toArray, List.set_cons_zero, List.set_cons_succ])
          refine held_skip (i := 8) (d := 24) rfl rfl (by kernel_rfl) (by kernel_rfl) (by kernel_rfl) (fun _ _ _ h => h) (by kernel_rfl) hHeld ?_
          (try simp only [Act.put, List.setIfInBounds_toArray, List.set_cons_zero, List.set_cons_succ])
          refine held_skip (i := 9) (d := 25) rfl rfl (by kernel_rfl) (by kernel_rfl) (by kernel_rfl) (fun _ _ _ h => h) (by kernel_rfl) hHeld ?_
          (try simp only [Act.put, List.setIfInBounds_toArray, List.set_cons_zero, List.set_cons_succ])
          refine held_skip (i := 10) (d := 26) rfl rfl (by kernel_rfl) (by kernel_rfl) (by kernel_rfl) (fun _ _ _ h => h) (by kernel_rfl) hHeld ?_
          (try simp only [Act.put, List.setIfInBounds_toArray, List.set_cons_zero, List.set_cons_succ])
          refine held_skip (i := 11) (d := 27) rfl rfl (by kernel_rfl) (by kernel_rfl) (by kernel_rfl) (fun _ _ _ h => h) (by kernel_rfl) hHeld ?_
          (try simp only [Act.put, List.setIfInBounds_toArray, List.set_cons_zero, List.set_cons_succ])
          refine held_skip (i := 12) (d := 28) rfl rfl (by kernel_rfl) (by kernel_rfl) (by kernel_rfl) (fun _ _ _ h => h) (by kernel_rfl) hHeld ?_
          (try simp only [Act.put, List.setIfInBounds_toArray, List.set_cons_zero, List.set_cons_succ])
          refine held_skip (i := 13) (d := 29) rfl rfl (by kernel_rfl) (by kernel_rfl) (by kernel_rfl) (fun _ _ _ h => h) (by kernel_rfl) hHeld ?_
          (try simp only [Act.put, List.setIfInBounds_toArray, List.set_cons_zero, List.set_cons_succ])
          refine held_skip (i := 14) (d := 30) rfl rfl (by kernel_rfl) (by kernel_rfl) (by kernel_rfl) (fun _ _ _ h => h) (by kernel_rfl) hHeld ?_
          (try simp only [Act.put, List.setIfInBounds_toArray, List.set_cons_zero, List.set_cons_succ])
          refine held_skip (i := 15) (d := 31) rfl rfl (by kernel_rfl) (by kernel_rfl) (by kernel_rfl) (fun _ _ _ h => h) (by kernel_rfl) hHeld ?_
          (try simp only [Act.put, List.setIfInBounds_toArray, List.set_cons_zero, List.set_cons_succ])
          refine held_skip (i := 16) (d := 32) rfl rfl (by kernel_rfl) (by kernel_rfl) (by kernel_rfl) (fun _ _ _ h => h) (by kernel_rfl) hHeld ?_
          (try simp only [Act.put, List.setIfInBounds_toArray, List.set_cons_zero, List.set_cons_succ])
          refine held_skip (i := 17) (d := 33) rfl rfl (by kernel_rfl) (by kernel_rfl) (by kernel_rfl) (fun _ _ _ h => h) (by kernel_rfl) hHeld ?_
          (try simp only [Act.put, List.setIfInBounds_toArray, List.set_cons_zero, List.set_cons_succ])
          refine held_skip (i := 18) (d := 34) rfl rfl (by kernel_rfl) (by kernel_rfl) (by kernel_rfl) (fun _ _ _ h => h) (by kernel_rfl) hHeld ?_
          (try simp only [Act.put, List.setIfInBounds_toArray, List.set_cons_zero, List.set_cons_succ])
          refine held_take (i := 19) (d := 35) (v := ?_) rfl rfl (by kernel_rfl) (by kernel_rfl) (by kernel_rfl) (fun _ _ _ h => h) (by kernel_rfl) hHeld ?_ ?_
          rotate_left
          · intro w hSw
            (try dsimp only at hSw)
            go_simp
            first | done | with_reducible rfl
          (try simp only [Act.put, List.setIfInBounds_toArray, List.set_cons_zero, List.set_cons_succ])
          refine held_take (i := 20) (d := 36) (v := ?_) rfl rfl (by kernel_rfl) (by kernel_rfl) (by kernel_rfl) (fun _ _ _ h => h) (by kernel_rfl) hHeld ?_ ?_
          rotate_left
          · intro w hSw
            (try dsimp only at hSw)
            go_simp
            first | done | with_reducible rfl
          (try simp only [Act.put, List.setIfInBounds_toArray, List.set_cons_zero, List.set_cons_succ])
          refine wpAnyH_done (by kernel_rfl) ?_ _
          have Kb' := hide hHeld.2.2.2.2.2.2.2.2
          clear hHeld
          go_wp2
          go_roundg (n - (k + 1))
          case measure => have := Hg.out; omega
          case rel => exact ⟨k + 1, rfl, by omega, by go_num, Hu.out.next h1' (by rw [Ex.out]; exact Hkx.out) (fun h => absurd h h0), Kb'.out⟩
      · rw [hkx] at V
        have Hkx := hide hkx
        clear hkx hal
        refine wp_region_held_drew (S := fun w' => w'.cell? ⟨H, 0, none⟩ = some (.string x.e.id) ∧ w'.cell? ⟨H, 1, none⟩ = some (.string x.e.title) ∧ w'.cell? ⟨H, 2, none⟩ = some (.string x.e.link) ∧ w'.cell? ⟨H, 3, none⟩ = some (.string x.e.author) ∧ w'.cell? ⟨H, 4, none⟩ = some (.string x.e.content) ∧ w'.cell? ⟨H, 5, none⟩ = some (.bool x.e.has) ∧ w'.cell? ⟨H, 6, none⟩ = some (.int .i64 x.e.sec) ∧ w'.cell? ⟨H, 7, none⟩ = some (.bool x.read) ∧ Below w.heap.size w w') (by kernel_rfl) ?_ (fun hHeld => ?_)
        · (try dsimp only)
          go_split_ands
          refine ⟨?_, ?_, ?_, ?_, ?_, ?_, ?_, ?_, ?_⟩ <;> first | assumption | exact Below.drew (by assumption) | exact cell_go (by assumption) (by assumption) | exact below_go (by assumption) (by assumption) (Nat.le_refl _)
        change wpAnyH _ _ _ _ _ 21 #[false, false, false, false, false, false, false, false, false, false, false, false, false, false, false, false, false, false, false, false, false] _ _
        refine held_take (i := 0) (d := 16) (v := ?_) rfl rfl (by kernel_rfl) (by kernel_rfl) (by kernel_rfl) (fun _ _ _ h => h) (by kernel_rfl) hHeld ?_ ?_
        rotate_left
        · intro w hSw
          (try dsimp only at hSw)
          go_simp
          first | done | with_reducible rfl
        (try simp only [Act.put, List.setIfInBounds_toArray, List.set_cons_zero, List.set_cons_succ])
        refine held_take (i := 1) (d := 17) (v := ?_) rfl rfl (by kernel_rfl) (by kernel_rfl) (by kernel_rfl) (fun _ _ _ h => h) (by kernel_rfl) hHeld ?_ ?_
        rotate_left
        · intro w hSw
          (try dsimp only at hSw)
          go_simp
          first | done | with_reducible rfl
        (try simp only [Act.put, List.setIfInBounds_toArray, List.set_cons_zero, List.set_cons_succ])
        refine held_call (i := 2) rfl (by kernel_rfl) (by kernel_rfl) (fun K hK => ?_)
        go_simp
        go_at_call 55
        refine (V.out _).mono ?_
        rintro e w' ⟨rfl, hb⟩
        (try dsimp only)
        refine hK.out _ _ ?_ (fun hHeld' => ?_)
        · (try dsimp only)
          go_split_ands
          refine ⟨?_, ?_, ?_, ?_, ?_, ?_, ?_, ?_, ?_⟩ <;> first | assumption | exact Below.drew (by assumption) | exact cell_go (by assumption) (by assumption) | exact below_go (by assumption) (by assumption) (Nat.le_refl _)
        clear hK K hHeld
        have hHeld := hHeld'
        clear hHeld'
        (try simp only [Act.put, List.setIfInBounds_toArray, List.set_cons_zero, List.set_cons_succ])
        refine held_take (i := 3) (d := 19) (v := ?_) rfl rfl (by kernel_rfl) (by kernel_rfl) (by kernel_rfl) (fun _ _ _ h => h) (by kernel_rfl) hHeld ?_ ?_
        rotate_left
        · intro w hSw
          (try dsimp only at hSw)
          go_simp
          first | done | with_reducible rfl
        (try simp only [Act.put, List.setIfInBounds_toArray, List.set_cons_zero, List.set_cons_succ])
        refine held_take (i := 4) (d := 20) (v := ?_) rfl rfl (by kernel_rfl) (by kernel_rfl) (by kernel_rfl) (fun _ _ _ h => h) (by kernel_rfl) hHeld ?_ ?_
        rotate_left
        · intro w hSw
          (try dsimp only at hSw)
          go_simp
          first | done | with_reducible rfl
        (try simp only [Act.put, List.setIfInBounds_toArray, List.set_cons_zero, List.set_cons_succ])
        refine held_skip (i := 5) (d := 21) rfl rfl (by kernel_rfl) (by kernel_rfl) (by kernel_rfl) (fun _ _ _ h => h) (by kernel_rfl) hHeld ?_
        (try simp only [Act.put, List.setIfInBounds_toArray, List.set_cons_zero, List.set_cons_succ])
        refine held_skip (i := 6) (d := 22) rfl rfl (by kernel_rfl) (by kernel_rfl) (by kernel_rfl) (fun _ _ _ h => h) (by kernel_rfl) hHeld ?_
        (try simp only [Act.put, List.setIfInBounds_toArray, List.set_cons_zero, List.set_cons_succ])
        refine held_skip (i := 7) (d := 23) rfl rfl (by kernel_rfl) (by kernel_rfl) (by kernel_rfl) (fun _ _ _ h => h) (by kernel_rfl) hHeld ?_
        (try simp only [Act.put, List.setIfInBounds_toArray, List.set_cons_zero, List.set_cons_succ])
        refine held_skip (i := 8) (d := 24) rfl rfl (by kernel_rfl) (by kernel_rfl) (by kernel_rfl) (fun _ _ _ h => h) (by kernel_rfl) hHeld ?_
        (try simp only [Act.put, List.setIfInBounds_toArray, List.set_cons_zero, List.set_cons_succ])
        refine held_skip (i := 9) (d := 25) rfl rfl (by kernel_rfl) (by kernel_rfl) (by kernel_rfl) (fun _ _ _ h => h) (by kernel_rfl) hHeld ?_
        (try simp only [Act.put, List.setIfInBounds_toArray, List.set_cons_zero, List.set_cons_succ])
        refine held_skip (i := 10) (d := 26) rfl rfl (by kernel_rfl) (by kernel_rfl) (by kernel_rfl) (fun _ _ _ h => h) (by kernel_rfl) hHeld ?_
        (try simp only [Act.put, List.setIfInBounds_toArray, List.set_cons_zero, List.set_cons_succ])
        refine held_skip (i := 11) (d := 27) rfl rfl (by kernel_rfl) (by kernel_rfl) (by kernel_rfl) (fun _ _ _ h => h) (by kernel_rfl) hHeld ?_
        (try simp only [Act.put, List.setIfInBounds_toArray, List.set_cons_zero, List.set_cons_succ])
        refine held_skip (i := 12) (d := 28) rfl rfl (by kernel_rfl) (by kernel_rfl) (by kernel_rfl) (fun _ _ _ h => h) (by kernel_rfl) hHeld ?_
        (try simp only [Act.put, List.setIfInBounds_toArray, List.set_cons_zero, List.set_cons_succ])
        refine held_skip (i := 13) (d := 29) rfl rfl (by kernel_rfl) (by kernel_rfl) (by kernel_rfl) (fun _ _ _ h => h) (by kernel_rfl) hHeld ?_
        (try simp only [Act.put, List.setIfInBounds_toArray, List.set_cons_zero, List.set_cons_succ])
        refine held_skip (i := 14) (d := 30) rfl rfl (by kernel_rfl) (by kernel_rfl) (by kernel_rfl) (fun _ _ _ h => h) (by kernel_rfl) hHeld ?_
        (try simp only [Act.put, List.setIfInBounds_toArray, List.set_cons_zero, List.set_cons_succ])
        refine held_skip (i := 15) (d := 31) rfl rfl (by kernel_rfl) (by kernel_rfl) (by kernel_rfl) (fun _ _ _ h => h) (by kernel_rfl) hHeld ?_
        (try simp only [Act.put, List.setIfInBounds_toArray, List.set_cons_zero, List.set_cons_succ])
        refine held_skip (i := 16) (d := 32) rfl rfl (by kernel_rfl) (by kernel_rfl) (by kernel_rfl) (fun _ _ _ h => h) (by kernel_rfl) hHeld ?_
        (try simp only [Act.put, List.setIfInBounds_toArray, List.set_cons_zero, List.set_cons_succ])
        refine held_skip (i := 17) (d := 33) rfl rfl (by kernel_rfl) (by kernel_rfl) (by kernel_rfl) (fun _ _ _ h => h) (by kernel_rfl) hHeld ?_
        (try simp only [Act.put, List.setIfInBounds_toArray, List.set_cons_zero, List.set_cons_succ])
        refine held_skip (i := 18) (d := 34) rfl rfl (by kernel_rfl) (by kernel_rfl) (by kernel_rfl) (fun _ _ _ h => h) (by kernel_rfl) hHeld ?_
        (try simp only [Act.put, List.setIfInBounds_toArray, List.set_cons_zero, List.set_cons_succ])
        refine held_skip (i := 19) (d := 35) rfl rfl (by kernel_rfl) (by kernel_rfl) (by kernel_rfl) (fun _ _ _ h => h) (by kernel_rfl) hHeld ?_
        (try simp only [Act.put, List.setIfInBounds_toArray, List.set_cons_zero, List.set_cons_succ])
        refine held_take (i := 20) (d := 36) (v := ?_) rfl rfl (by kernel_rfl) (by kernel_rfl) (by kernel_rfl) (fun _ _ _ h => h) (by kernel_rfl) hHeld ?_ ?_
        rotate_left
        · intro w hSw
          (try dsimp only at hSw)
          go_simp
          first | done | with_reducible rfl
        (try simp only [Act.put, List.setIfInBounds_toArray, List.set_cons_zero, List.set_cons_succ])
        refine wpAnyH_done (by kernel_rfl) ?_ _
        have Kb' := hide hHeld.2.2.2.2.2.2.2.2
        clear hHeld
        go_wp2
        go_ret
        exact ⟨ret_eq1 (bool_eq (rising_no1 h1' (by rw [Ex.out]; exact Hkx.out)).symm), Kb'.out⟩
    · go_wp2
      go_ret
      exact ⟨ret_eq1 (bool_eq (Hu.out.all (by rw [HL.out]; omega)).symm), Kb.out⟩
end Go.Proofs.Ytlkkmgimjjnhjaa
