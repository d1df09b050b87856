/- The document's till: where the first such piece stands, from a byte on. · The document's Great: how great rows of tokens are: the walk. (Printed by wip/genTkRc.py.) -/
import Derived.Test.YtbnaphbmmkmaeaaDoorTd01
import Derived.Test.YtbnaphbmmkmaeaaDoorTd17
import Derived.Test.YtbnaphbmmkmaeaaDoorTd18
set_option linter.unusedSimpArgs false
set_option linter.unusedVariables false
namespace Go.Proofs.YtbnaphbmmkmaeaaDoor
open Go.RowKit Tk

/-- Where the first such piece stands, from byte k on; -1: nowhere. -/
def tillAt (l q : L) (k : Nat) : Int := match Tk.till q (l.drop k) with
  | some n => ((k + n : Nat) : Int)
  | none => -1
theorem tillAt_here {l q : L} {k : Nat} (h : q.isPrefixOf (l.drop k) = true) : tillAt l q k = k := by
  have : Tk.till q (l.drop k) = some 0 := by
    rw [till_iff]
    exact Lib.index_first (Nat.zero_le _) (by unfold Lib.occAt; rw [List.drop_zero]; exact h) fun j hj => by omega
  unfold tillAt
  rw [this]
  rfl
theorem tillAt_next {l q : L} {k : Nat} (hk : k < l.length) (h : q.isPrefixOf (l.drop k) = false) : tillAt l q k = tillAt l q (k + 1) := by
  obtain ⟨b, hb⟩ : ∃ b, l[k]? = some b := ⟨_, List.getElem?_eq_getElem hk⟩
  have e : l.drop k = b :: l.drop (k + 1) := by
    obtain ⟨h1, h2⟩ := List.getElem?_eq_some_iff.1 hb
    rw [← h2, ← List.drop_eq_getElem_cons]
  have hi : Lib.index (l.drop k) q = if Lib.index (l.drop (k + 1)) q == -1 then -1 else Lib.index (l.drop (k + 1)) q + 1 := by
    rw [e] at h ⊢
    conv => lhs; unfold Lib.index
    rw [if_neg (by rw [h]; simp)]
  have hg := Lib.index_ge (l.drop (k + 1)) q
  unfold tillAt Tk.till
  rw [hi]
  by_cases hn : Lib.index (l.drop (k + 1)) q = -1
  · rw [hn]; rfl
  · have : (Lib.index (l.drop (k + 1)) q == -1) = false := beq_eq_false_iff_ne.2 hn
    have h2 : (if (Lib.index (l.drop (k + 1)) q == -1) = true then -1 else Lib.index (l.drop (k + 1)) q + 1) = Lib.index (l.drop (k + 1)) q + 1 := by rw [if_neg (by rw [this]; simp)]
    rw [h2, if_neg (by omega), if_neg (by omega)]
    dsimp only
    omega
theorem tillAt_no {l q : L} {k : Nat} (hq : q ≠ []) (h : l.length < k + q.length) : tillAt l q k = -1 := by
  unfold tillAt
  cases ht : Tk.till q (l.drop k) with
  | none => rfl
  | some n =>
    have := till_len ht
    rw [List.length_drop] at this
    have := List.length_pos_iff.2 hq
    omega

set_option maxHeartbeats 4000000 in
theorem refTill_any (s q : ByteArray) (at_ : Nat) (w : World) (ha : at_ ≤ s.size) (hs : s.size ≤ 140737488355328) (hq : q.size ≤ 1000) (hq0 : 0 < q.size) :
    Calls Tryd.prog 26 #[.string s, .int .i64 (at_ : Int), .string q] w fun e w' => e = .returned (.int .i64 (tillAt s.data.toList q.data.toList at_)) ∧ w' = w := by
  obtain ⟨D, hD⟩ : ∃ D, s.data.toList = D := ⟨_, rfl⟩
  obtain ⟨Q, hQ⟩ : ∃ Q, q.data.toList = Q := ⟨_, rfl⟩
  have HDl := hide (show D.length = s.size by rw [← hD, size_list])
  have HQl := hide (show Q.length = q.size by rw [← hQ, size_list])
  have HQ0 := hide (show Q ≠ [] from fun e => by have := HQl.out; rw [e] at this; simp at this; omega)
  have HE := hide (show ∀ k, k + q.size ≤ s.size → ((s.extract k (k + q.size)).toList == q.toList) = Q.isPrefixOf (D.drop k) from fun k hk => by
    rw [ByteArray.toList_eq, ByteArray.toList_eq, extract_bstr, bstr_list, hD, hQ, Nat.add_sub_cancel_left, ← HQl.out, Bool.eq_iff_iff, beq_iff_eq, List.isPrefixOf_iff_prefix, List.prefix_iff_eq_take]
    exact eq_comm)
  rw [hD, hQ]
  obtain ⟨z, hz⟩ : ∃ z, tillAt D Q at_ = z := ⟨_, rfl⟩
  have Hz := hide hz
  rw [hz]
  clear hD hQ hz
  go_enter Tryd.func26, Tryd.ntmps26
  go_wp2
  go_loopg [7] (s.size + 1 - at_) (fun g v wr => ∃ k : Nat, g = s.size + 1 - k ∧ k ≤ s.size ∧ v = .int .i64 (k : Int) ∧ tillAt D Q k = z ∧ wr = w)
  case atStart => exact ⟨at_, rfl, ha, rfl, Hz.out, rfl⟩
  case round =>
    obtain ⟨k, hg, hk, rfl, hzk, rfl⟩ := hrel
    have Hg := hide hg
    have Hzk := hide hzk
    clear hg hzk Hz
    have hw : IntKind.i64.wrap ((k : Int) + (q.size : Int)) = (k : Int) + (q.size : Int) := IntWalk.i64_in _ (by omega)
    by_cases hlt : k + q.size ≤ s.size
    · have hd : decide ((k : Int) + (q.size : Int) ≤ (s.size : Int)) = true := decide_eq_true (by omega)
      have hb1 : 0 ≤ (k : Int) ∧ (k : Int) ≤ (k : Int) + (q.size : Int) ∧ (k : Int) + (q.size : Int) ≤ (s.size : Int) := by omega
      have tn : ((k : Int) + (q.size : Int)).toNat = k + q.size := by omega
      have hE := HE.out k hlt
      cases hp : Q.isPrefixOf (D.drop k) with
      | true =>
        rw [hp] at hE
        have Hr := hide (show (k : Int) = z by rw [← Hzk.out, tillAt_here hp])
        clear hp
        go_wp2
        go_ret
        exact ⟨ret_eq1 (int_eq Hr.out), rfl⟩
      | false =>
        rw [hp] at hE
        have Hn := hide (show tillAt D Q (k + 1) = z by rw [← Hzk.out, tillAt_next (by rw [HDl.out]; omega) hp])
        clear hp
        go_wp2
        go_roundg (s.size + 1 - (k + 1))
        case measure => have := Hg.out; omega
        case rel => exact ⟨k + 1, rfl, by omega, by go_num, Hn.out, rfl⟩
    · have hd : decide ((k : Int) + (q.size : Int) ≤ (s.size : Int)) = false := decide_eq_false (by omega)
      have Hr := hide (show (-1 : Int) = z by rw [← Hzk.out, tillAt_no HQ0.out (by rw [HDl.out, HQl.out]; omega)])
      go_wp2
      go_ret
      exact ⟨ret_eq1 (int_eq Hr.out), rfl⟩
end Go.Proofs.YtbnaphbmmkmaeaaDoor
namespace Go.Proofs.YtbnaphbmmkmaeaaDoor
open Go.RowKit Tk

/-- How much a text counts; an attribute; a token. -/
def m5 (s : ByteArray) : Nat := min s.size 5000
theorem m5_le (s : ByteArray) : m5 s ≤ 5000 := by unfold m5; omega
def wGa (x : Ga) : Nat := 1 + m5 x.name + m5 x.value
def wGas (l : List Ga) : Nat := (l.map wGa).sum
def wGt (x : Gt) : Nat := m5 x.name + m5 x.text + wGas x.as_
def wGts (l : List Gt) : Nat := (l.map wGt).sum
theorem wGas_next (l : List Ga) (k : Nat) (h : k < l.length) : wGas (l.take (k + 1)) = wGas (l.take k) + wGa l[k] := by
  unfold wGas
  rw [List.take_succ_eq_append_getElem h, List.map_append, List.sum_append]; simp
theorem wGts_next (l : List Gt) (k : Nat) (h : k < l.length) : wGts (l.take (k + 1)) = wGts (l.take k) + wGt l[k] := by
  unfold wGts
  rw [List.take_succ_eq_append_getElem h, List.map_append, List.sum_append]; simp
/-- A row that is not too great. -/
def Small (l : List Gt) : Prop := l.length ≤ 200 ∧ (∀ x ∈ l, x.as_.length ≤ 60) ∧ wGts l ≤ 5000
theorem all_take {P : Gt → Prop} {l : List Gt} {k : Nat} (hk : k < l.length) (h : ∀ x ∈ l.take k, P x) (hx : P l[k]) : ∀ x ∈ l.take (k + 1), P x := by
  intro x hm
  rw [List.take_succ_eq_append_getElem hk, List.mem_append] at hm
  rcases hm with hm | hm
  · exact h x hm
  · rw [List.mem_singleton] at hm; rw [hm]; exact hx

set_option maxRecDepth 20000 in
set_option maxHeartbeats 8000000 in
theorem great14_any (A : Option Addr) (c B : Nat) (l : List Gt) (w : World) (hA : TkL w B A l) (hl : l.length ≤ maxLen) (hs : ∀ x ∈ l, x.as_.length ≤ maxLen) :
    Calls Tryd.prog 12 #[.slice A l.length c] w fun e w' => (∃ b, e = .returned (.bool b) ∧ (b = false → Small l)) ∧ ∃ m, w' = w.drewN m := by
  obtain ⟨n, hn⟩ : ∃ n, l.length = n := ⟨_, rfl⟩
  have HA := hide hA
  rw [hn] at hl ⊢
  have hl' : (n : Int) ≤ 9223372036854775807 := by unfold maxLen at hl; omega
  have Hn := hide hn
  have Hs := hide hs
  clear hn hA hs hl
  go_enter Tryd.func12, Tryd.ntmps12
  go_wp2
  go_loopg [3, 4] 201 (fun g vn vi wr => ∃ k z m : Nat, g = 201 - k ∧ k ≤ 201 ∧ k ≤ n ∧ vi = .int .i64 k ∧ vn = .int .i64 z ∧ z = wGts (l.take k) ∧ z ≤ 700000 * k ∧ (∀ x ∈ l.take k, x.as_.length ≤ 60) ∧ wr = w.drewN m)
  case atStart => exact ⟨0, 0, 0, rfl, by omega, by omega, rfl, rfl, rfl, by omega, by simp, rfl⟩
  case round =>
    obtain ⟨k, z, m, hg, hk, hkn, rfl, rfl, hz, hzb, hall, rfl⟩ := hrel
    have Hg := hide hg
    have Hz := hide hz
    have Hall := hide hall
    clear hg hz hall
    by_cases hlt : k < n
    · by_cases h200 : k ≤ 200
      · have h1 : k < l.length := by rw [Hn.out]; exact hlt
        obtain ⟨b, off, rfl, hb, hx⟩ := HA.out.row.gt h1
        have Sx := hide (HA.out.sub _ (List.getElem_mem h1))
        have Lx := hide (Hs.out _ (List.getElem_mem h1))
        have Hnx := hide (wGts_next l k h1)
        have Hax := hide (fun h => all_take (P := fun x => x.as_.length ≤ 60) h1 Hall.out h)
        generalize l[k] = x at *
        obtain ⟨kx, nx, ax, Ax, cx, ex, tx, px, ox⟩ := x
        dsimp only at Sx Lx
        have x1 : _ = some (Value.string nx) := hx.c1
        have x2 : _ = some (Value.slice Ax ax.length cx) := hx.c2
        have x4 : _ = some (Value.string tx) := hx.c4
        obtain ⟨na, hna⟩ : ∃ na, ax.length = na := ⟨_, rfl⟩
        have Hna := hide hna
        rw [hna] at x2
        have hla : (na : Int) ≤ 9223372036854775807 := by have := Lx.out; rw [hna] at this; unfold maxLen at this; omega
        obtain ⟨q1, hq1⟩ : ∃ q, m5 nx = q := ⟨_, rfl⟩
        obtain ⟨q2, hq2⟩ : ∃ q, m5 tx = q := ⟨_, rfl⟩
        have hq1l : q1 ≤ 5000 := by rw [← hq1]; exact m5_le _
        have hq2l : q2 ≤ 5000 := by rw [← hq2]; exact m5_le _
        have hw1 : IntKind.i64.wrap ((z : Int) + q1) = (z : Int) + q1 := IntWalk.i64_in _ (by omega)
        have hw2 : IntKind.i64.wrap ((z : Int) + q1 + q2) = (z : Int) + q1 + q2 := IntWalk.i64_in _ (by omega)
        unfold m5 at hq1 hq2
        clear hx hna
        go_wp2_with fail
        refine wp_region_held_drew (S := fun W => W = (w.drewN m).drew) (by kernel_rfl) ?_ (fun hHeld => ?_)
        · (try dsimp only)
          first | done | rfl | exact hHeld
        change wpAnyH _ _ _ _ _ 18 #[false, false, false, false, false, false, false, false, false, false, false, false, false, false, false, false, false, false] _ _
        refine held_take (i := 0) (d := 16) (v := ?_) rfl rfl (by kernel_rfl) (by kernel_rfl) (by kernel_rfl) (fun _ _ _ h => h) (by kernel_rfl) hHeld ?_ ?_
        rotate_left
        · intro w hSw
          (try dsimp only at hSw)
          go_simp
          first | done | with_reducible rfl
        (try simp only [Act.put, List.setIfInBounds_toArray, List.set_cons_zero, List.set_cons_succ])
        refine held_take (i := 1) (d := 17) (v := ?_) rfl rfl (by kernel_rfl) (by kernel_rfl) (by kernel_rfl) (fun _ _ _ h => h) (by kernel_rfl) hHeld ?_ ?_
        rotate_left
        · intro w hSw
          (try dsimp only at hSw)
          go_simp
          first | done | with_reducible rfl
        (try simp only [Act.put, List.setIfInBounds_toArray, List.set_cons_zero, List.set_cons_succ])
        refine held_take (i := 2) (d := 18) (v := ?_) rfl rfl (by kernel_rfl) (by kernel_rfl) (by kernel_rfl) (fun _ _ _ h => h) (by kernel_rfl) hHeld ?_ ?_
        rotate_left
        · intro w hSw
          (try dsimp only at hSw)
          go_simp
          first | done | with_reducible rfl
        (try simp only [Act.put, List.setIfInBounds_toArray, List.set_cons_zero, List.set_cons_succ])
        refine held_take (i := 3) (d := 19) (v := ?_) rfl rfl (by kernel_rfl) (by kernel_rfl) (by kernel_rfl) (fun _ _ _ h => h) (by kernel_rfl) hHeld ?_ ?_
        rotate_left
        · intro w hSw
          (try dsimp only at hSw)
          go_simp
          first | done | with_reducible rfl
        (try simp only [Act.put, List.setIfInBounds_toArray, List.set_cons_zero, List.set_cons_succ])
        refine held_take (i := 4) (d := 20) (v := ?_) rfl rfl (by kernel_rfl) (by kernel_rfl) (by kernel_rfl) (fun _ _ _ h => h) (by kernel_rfl) hHeld ?_ ?_
        rotate_left
        · intro w hSw
          (try dsimp only at hSw)
          go_simp
          first | done | with_reducible rfl
        (try simp only [Act.put, List.setIfInBounds_toArray, List.set_cons_zero, List.set_cons_succ])
        refine held_take (i := 5) (d := 21) (v := ?_) rfl rfl (by kernel_rfl) (by kernel_rfl) (by kernel_rfl) (fun _ _ _ h => h) (by kernel_rfl) hHeld ?_ ?_
        rotate_left
        · intro w hSw
          (try dsimp only at hSw)
          subst hSw
          go_simp
          first | done | with_reducible rfl
        (try simp only [Act.put, List.setIfInBounds_toArray, List.set_cons_zero, List.set_cons_succ])
        refine held_take (i := 6) (d := 22) (v := ?_) rfl rfl (by kernel_rfl) (by kernel_rfl) (by kernel_rfl) (fun _ _ _ h => h) (by kernel_rfl) hHeld ?_ ?_
        rotate_left
        · intro w hSw
          (try dsimp only at hSw)
          go_simp
          first | done | with_reducible rfl
        (try simp only [Act.put, List.setIfInBounds_toArray, List.set_cons_zero, List.set_cons_succ])
        refine held_take (i := 7) (d := 23) (v := .int .i64 (q1 : Int)) rfl rfl (by kernel_rfl) (by kernel_rfl) (by kernel_rfl) (fun _ _ _ h => h) (by kernel_rfl) hHeld ?_ ?_
        · intro w hSw
          (try dsimp only at hSw)
          have hmin : min ((nx.size : Nat) : Int) 5000 = ((q1 : Nat) : Int) := by omega
          go_simp
        (try simp only [Act.put, List.setIfInBounds_toArray, List.set_cons_zero, List.set_cons_succ])
        refine held_take (i := 8) (d := 24) (v := ?_) rfl rfl (by kernel_rfl) (by kernel_rfl) (by kernel_rfl) (fun _ _ _ h => h) (by kernel_rfl) hHeld ?_ ?_
        rotate_left
        · intro w hSw
          (try dsimp only at hSw)
          go_simp
          first | done | with_reducible rfl
        (try simp only [Act.put, List.setIfInBounds_toArray, List.set_cons_zero, List.set_cons_succ])
        refine held_take (i := 9) (d := 25) (v := ?_) rfl rfl (by kernel_rfl) (by kernel_rfl) (by kernel_rfl) (fun _ _ _ h => h) (by kernel_rfl) hHeld ?_ ?_
        rotate_left
        · intro w hSw
          (try dsimp only at hSw)
          go_simp
          first | done | with_reducible rfl
        (try simp only [Act.put, List.setIfInBounds_toArray, List.set_cons_zero, List.set_cons_succ])
        refine held_take (i := 10) (d := 26) (v := ?_) rfl rfl (by kernel_rfl) (by kernel_rfl) (by kernel_rfl) (fun _ _ _ h => h) (by kernel_rfl) hHeld ?_ ?_
        rotate_left
        · intro w hSw
          (try dsimp only at hSw)
          go_simp
          first | done | with_reducible rfl
        (try simp only [Act.put, List.setIfInBounds_toArray, List.set_cons_zero, List.set_cons_succ])
        refine held_take (i := 11) (d := 27) (v := ?_) rfl rfl (by kernel_rfl) (by kernel_rfl) (by kernel_rfl) (fun _ _ _ h => h) (by kernel_rfl) hHeld ?_ ?_
        rotate_left
        · intro w hSw
          (try dsimp only at hSw)
          go_simp
          first | done | with_reducible rfl
        (try simp only [Act.put, List.setIfInBounds_toArray, List.set_cons_zero, List.set_cons_succ])
        refine held_take (i := 12) (d := 28) (v := ?_) rfl rfl (by kernel_rfl) (by kernel_rfl) (by kernel_rfl) (fun _ _ _ h => h) (by kernel_rfl) hHeld ?_ ?_
        rotate_left
        · intro w hSw
          (try dsimp only at hSw)
          go_simp
          first | done | with_reducible rfl
        (try simp only [Act.put, List.setIfInBounds_toArray, List.set_cons_zero, List.set_cons_succ])
        refine held_take (i := 13) (d := 29) (v := ?_) rfl rfl (by kernel_rfl) (by kernel_rfl) (by kernel_rfl) (fun _ _ _ h => h) (by kernel_rfl) hHeld ?_ ?_
        rotate_left
        · intro w hSw
          (try dsimp only at hSw)
          subst hSw
          go_simp
          first | done | with_reducible rfl
        (try simp only [Act.put, List.setIfInBounds_toArray, List.set_cons_zero, List.set_cons_succ])
        refine held_take (i := 14) (d := 30) (v := ?_) rfl rfl (by kernel_rfl) (by kernel_rfl) (by kernel_rfl) (fun _ _ _ h => h) (by kernel_rfl) hHeld ?_ ?_
        rotate_left
        · intro w hSw
          (try dsimp only at hSw)
          go_simp
          first | done | with_reducible rfl
        (try simp only [Act.put, List.setIfInBounds_toArray, List.set_cons_zero, List.set_cons_succ])
        refine held_take (i := 15) (d := 31) (v := .int .i64 (q2 : Int)) rfl rfl (by kernel_rfl) (by kernel_rfl) (by kernel_rfl) (fun _ _ _ h => h) (by kernel_rfl) hHeld ?_ ?_
        · intro w hSw
          (try dsimp only at hSw)
          have hmin : min ((tx.size : Nat) : Int) 5000 = ((q2 : Nat) : Int) := by omega
          go_simp
        (try simp only [Act.put, List.setIfInBounds_toArray, List.set_cons_zero, List.set_cons_succ])
        refine held_take (i := 16) (d := 32) (v := ?_) rfl rfl (by kernel_rfl) (by kernel_rfl) (by kernel_rfl) (fun _ _ _ h => h) (by kernel_rfl) hHeld ?_ ?_
        rotate_left
        · intro w hSw
          (try dsimp only at hSw)
          go_simp
          first | done | with_reducible rfl
        (try simp only [Act.put, List.setIfInBounds_toArray, List.set_cons_zero, List.set_cons_succ])
        refine held_take (i := 17) (d := 3) (v := ?_) rfl rfl (by kernel_rfl) (by kernel_rfl) (by kernel_rfl) (fun _ _ _ h => h) (by kernel_rfl) hHeld ?_ ?_
        rotate_left
        · intro w hSw
          (try dsimp only at hSw)
          go_simp
          first | done | with_reducible rfl
        (try simp only [Act.put, List.setIfInBounds_toArray, List.set_cons_zero, List.set_cons_succ])
        refine wpAnyH_done (by kernel_rfl) ?_ _
        rw [hHeld]
        go_wp2
        go_loopg [3, 5] 61 (fun g vn vj wr => ∃ j y m : Nat, g = 61 - j ∧ j ≤ 61 ∧ j ≤ na ∧ vj = .int .i64 j ∧ vn = .int .i64 y ∧ y = z + q1 + q2 + wGas (ax.take j) ∧ y ≤ z + 10000 + 11000 * j ∧ wr = w.drewN m)
        case atStart => exact ⟨0, z + q1 + q2, _, rfl, by omega, by omega, rfl, int_eq (by omega), rfl, by omega, rfl⟩
        case round =>
          obtain ⟨j, y, m2, hgj, hj, hjn, rfl, rfl, hy, hyb, rfl⟩ := hrel
          have Hgj := hide hgj
          have Hy := hide hy
          clear hgj hy
          by_cases hltj : j < na
          · by_cases h60 : j ≤ 60
            · have g1 : j < ax.length := by rw [Hna.out]; exact hltj
              obtain ⟨d, od, rfl, hd, hx⟩ := Sx.out.ga g1
              have Hnj := hide (wGas_next ax j g1)
              generalize ax[j] = a at *
              obtain ⟨an, av, aa⟩ := a
              have y0 : _ = some (Value.string an) := hx.c0
              have y1 : _ = some (Value.string av) := hx.c1
              obtain ⟨r1, hr1⟩ : ∃ q, m5 an = q := ⟨_, rfl⟩
              obtain ⟨r2, hr2⟩ : ∃ q, m5 av = q := ⟨_, rfl⟩
              have Hr1 := hide hr1
              have Hr2 := hide hr2
              have hr1l : r1 ≤ 5000 := by rw [← hr1]; exact m5_le _
              have hr2l : r2 ≤ 5000 := by rw [← hr2]; exact m5_le _
              have hv0 : IntKind.i64.wrap ((y : Int) + 1) = (y : Int) + 1 := IntWalk.i64_in _ (by omega)
              have hv1 : IntKind.i64.wrap ((y : Int) + 1 + r1) = (y : Int) + 1 + r1 := IntWalk.i64_in _ (by omega)
              have hv2 : IntKind.i64.wrap ((y : Int) + 1 + r1 + r2) = (y : Int) + 1 + r1 + r2 := IntWalk.i64_in _ (by omega)
              unfold m5 at hr1 hr2
              clear hx
              go_wp2_with fail
              refine wp_region_held_drew (S := fun W => W = (w.drewN m2).drew) (by kernel_rfl) ?_ (fun hHeld => ?_)
              · (try dsimp only)
                first | done | rfl | exact hHeld
              change wpAnyH _ _ _ _ _ 27 #[false, false, false, false, false, false, false, false, false, false, false, false, false, false, false, false, false, false, false, false, false, false, false, false, false, false, false] _ _
              refine held_take (i := 0) (d := 47) (v := ?_) rfl rfl (by kernel_rfl) (by kernel_rfl) (by kernel_rfl) (fun _ _ _ h => h) (by kernel_rfl) hHeld ?_ ?_
              rotate_left
              · intro w hSw
                (try dsimp only at hSw)
                go_simp
                first | done | with_reducible rfl
              (try simp only [Act.put, List.setIfInBounds_toArray, List.set_cons_zero, List.set_cons_succ])
              refine held_take (i := 1) (d := 48) (v := ?_) rfl rfl (by kernel_rfl) (by kernel_rfl) (by kernel_rfl) (fun _ _ _ h => h) (by kernel_rfl) hHeld ?_ ?_
              rotate_left
              · intro w hSw
                (try dsimp only at hSw)
                go_simp
                first | done | with_reducible rfl
              (try simp only [Act.put, List.setIfInBounds_toArray, List.set_cons_zero, List.set_cons_succ])
              refine held_take (i := 2) (d := 49) (v := ?_) rfl rfl (by kernel_rfl) (by kernel_rfl) (by kernel_rfl) (fun _ _ _ h => h) (by kernel_rfl) hHeld ?_ ?_
              rotate_left
              · intro w hSw
                (try dsimp only at hSw)
                go_simp
                first | done | with_reducible rfl
              (try simp only [Act.put, List.setIfInBounds_toArray, List.set_cons_zero, List.set_cons_succ])
              refine held_take (i := 3) (d := 50) (v := ?_) rfl rfl (by kernel_rfl) (by kernel_rfl) (by kernel_rfl) (fun _ _ _ h => h) (by kernel_rfl) hHeld ?_ ?_
              rotate_left
              · intro w hSw
                (try dsimp only at hSw)
                go_simp
                first | done | with_reducible rfl
              (try simp only [Act.put, List.setIfInBounds_toArray, List.set_cons_zero, List.set_cons_succ])
              refine held_take (i := 4) (d := 51) (v := ?_) rfl rfl (by kernel_rfl) (by kernel_rfl) (by kernel_rfl) (fun _ _ _ h => h) (by kernel_rfl) hHeld ?_ ?_
              rotate_left
              · intro w hSw
                (try dsimp only at hSw)
                go_simp
                first | done | with_reducible rfl
              (try simp only [Act.put, List.setIfInBounds_toArray, List.set_cons_zero, List.set_cons_succ])
              refine held_take (i := 5) (d := 52) (v := ?_) rfl rfl (by kernel_rfl) (by kernel_rfl) (by kernel_rfl) (fun _ _ _ h => h) (by kernel_rfl) hHeld ?_ ?_
              rotate_left
              · intro w hSw
                (try dsimp only at hSw)
                go_simp
                first | done | with_reducible rfl
              (try simp only [Act.put, List.setIfInBounds_toArray, List.set_cons_zero, List.set_cons_succ])
              refine held_take (i := 6) (d := 53) (v := ?_) rfl rfl (by kernel_rfl) (by kernel_rfl) (by kernel_rfl) (fun _ _ _ h => h) (by kernel_rfl) hHeld ?_ ?_
              rotate_left
              · intro w hSw
                (try dsimp only at hSw)
                subst hSw
                go_simp
                first | done | with_reducible rfl
              (try simp only [Act.put, List.setIfInBounds_toArray, List.set_cons_zero, List.set_cons_succ])
              refine held_take (i := 7) (d := 54) (v := ?_) rfl rfl (by kernel_rfl) (by kernel_rfl) (by kernel_rfl) (fun _ _ _ h => h) (by kernel_rfl) hHeld ?_ ?_
              rotate_left
              · intro w hSw
                (try dsimp only at hSw)
                go_simp
                first | done | with_reducible rfl
              (try simp only [Act.put, List.setIfInBounds_toArray, List.set_cons_zero, List.set_cons_succ])
              refine held_take (i := 8) (d := 55) (v := ?_) rfl rfl (by kernel_rfl) (by kernel_rfl) (by kernel_rfl) (fun _ _ _ h => h) (by kernel_rfl) hHeld ?_ ?_
              rotate_left
              · intro w hSw
                (try dsimp only at hSw)
                go_simp
                first | done | with_reducible rfl
              (try simp only [Act.put, List.setIfInBounds_toArray, List.set_cons_zero, List.set_cons_succ])
              refine held_take (i := 9) (d := 56) (v := ?_) rfl rfl (by kernel_rfl) (by kernel_rfl) (by kernel_rfl) (fun _ _ _ h => h) (by kernel_rfl) hHeld ?_ ?_
              rotate_left
              · intro w hSw
                (try dsimp only at hSw)
                go_simp
                first | done | with_reducible rfl
              (try simp only [Act.put, List.setIfInBounds_toArray, List.set_cons_zero, List.set_cons_succ])
              refine held_take (i := 10) (d := 57) (v := ?_) rfl rfl (by kernel_rfl) (by kernel_rfl) (by kernel_rfl) (fun _ _ _ h => h) (by kernel_rfl) hHeld ?_ ?_
              rotate_left
              · intro w hSw
                (try dsimp only at hSw)
                subst hSw
                go_simp
                first | done | with_reducible rfl
              (try simp only [Act.put, List.setIfInBounds_toArray, List.set_cons_zero, List.set_cons_succ])
              refine held_take (i := 11) (d := 58) (v := ?_) rfl rfl (by kernel_rfl) (by kernel_rfl) (by kernel_rfl) (fun _ _ _ h => h) (by kernel_rfl) hHeld ?_ ?_
              rotate_left
              · intro w hSw
                (try dsimp only at hSw)
                go_simp
                first | done | with_reducible rfl
              (try simp only [Act.put, List.setIfInBounds_toArray, List.set_cons_zero, List.set_cons_succ])
              refine held_take (i := 12) (d := 59) (v := .int .i64 (r1 : Int)) rfl rfl (by kernel_rfl) (by kernel_rfl) (by kernel_rfl) (fun _ _ _ h => h) (by kernel_rfl) hHeld ?_ ?_
              · intro w hSw
                (try dsimp only at hSw)
                have hmin : min ((an.size : Nat) : Int) 5000 = ((r1 : Nat) : Int) := by omega
                go_simp
              (try simp only [Act.put, List.setIfInBounds_toArray, List.set_cons_zero, List.set_cons_succ])
              refine held_take (i := 13) (d := 60) (v := ?_) rfl rfl (by kernel_rfl) (by kernel_rfl) (by kernel_rfl) (fun _ _ _ h => h) (by kernel_rfl) hHeld ?_ ?_
              rotate_left
              · intro w hSw
                (try dsimp only at hSw)
                go_simp
                first | done | with_reducible rfl
              (try simp only [Act.put, List.setIfInBounds_toArray, List.set_cons_zero, List.set_cons_succ])
              refine held_take (i := 14) (d := 61) (v := ?_) rfl rfl (by kernel_rfl) (by kernel_rfl) (by kernel_rfl) (fun _ _ _ h => h) (by kernel_rfl) hHeld ?_ ?_
              rotate_left
              · intro w hSw
                (try dsimp only at hSw)
                go_simp
                first | done | with_reducible rfl
              (try simp only [Act.put, List.setIfInBounds_toArray, List.set_cons_zero, List.set_cons_succ])
              refine held_take (i := 15) (d := 62) (v := ?_) rfl rfl (by kernel_rfl) (by kernel_rfl) (by kernel_rfl) (fun _ _ _ h => h) (by kernel_rfl) hHeld ?_ ?_
              rotate_left
              · intro w hSw
                (try dsimp only at hSw)
                go_simp
                first | done | with_reducible rfl
              (try simp only [Act.put, List.setIfInBounds_toArray, List.set_cons_zero, List.set_cons_succ])
              refine held_take (i := 16) (d := 63) (v := ?_) rfl rfl (by kernel_rfl) (by kernel_rfl) (by kernel_rfl) (fun _ _ _ h => h) (by kernel_rfl) hHeld ?_ ?_
              rotate_left
              · intro w hSw
                (try dsimp only at hSw)
                go_simp
                first | done | with_reducible rfl
              (try simp only [Act.put, List.setIfInBounds_toArray, List.set_cons_zero, List.set_cons_succ])
              refine held_take (i := 17) (d := 64) (v := ?_) rfl rfl (by kernel_rfl) (by kernel_rfl) (by kernel_rfl) (fun _ _ _ h => h) (by kernel_rfl) hHeld ?_ ?_
              rotate_left
              · intro w hSw
                (try dsimp only at hSw)
                go_simp
                first | done | with_reducible rfl
              (try simp only [Act.put, List.setIfInBounds_toArray, List.set_cons_zero, List.set_cons_succ])
              refine held_take (i := 18) (d := 65) (v := ?_) rfl rfl (by kernel_rfl) (by kernel_rfl) (by kernel_rfl) (fun _ _ _ h => h) (by kernel_rfl) hHeld ?_ ?_
              rotate_left
              · intro w hSw
                (try dsimp only at hSw)
                subst hSw
                go_simp
                first | done | with_reducible rfl
              (try simp only [Act.put, List.setIfInBounds_toArray, List.set_cons_zero, List.set_cons_succ])
              refine held_take (i := 19) (d := 66) (v := ?_) rfl rfl (by kernel_rfl) (by kernel_rfl) (by kernel_rfl) (fun _ _ _ h => h) (by kernel_rfl) hHeld ?_ ?_
              rotate_left
              · intro w hSw
                (try dsimp only at hSw)
                go_simp
                first | done | with_reducible rfl
              (try simp only [Act.put, List.setIfInBounds_toArray, List.set_cons_zero, List.set_cons_succ])
              refine held_take (i := 20) (d := 67) (v := ?_) rfl rfl (by kernel_rfl) (by kernel_rfl) (by kernel_rfl) (fun _ _ _ h => h) (by kernel_rfl) hHeld ?_ ?_
              rotate_left
              · intro w hSw
                (try dsimp only at hSw)
                go_simp
                first | done | with_reducible rfl
              (try simp only [Act.put, List.setIfInBounds_toArray, List.set_cons_zero, List.set_cons_succ])
              refine held_take (i := 21) (d := 68) (v := ?_) rfl rfl (by kernel_rfl) (by kernel_rfl) (by kernel_rfl) (fun _ _ _ h => h) (by kernel_rfl) hHeld ?_ ?_
              rotate_left
              · intro w hSw
                (try dsimp only at hSw)
                go_simp
                first | done | with_reducible rfl
              (try simp only [Act.put, List.setIfInBounds_toArray, List.set_cons_zero, List.set_cons_succ])
              refine held_take (i := 22) (d := 69) (v := ?_) rfl rfl (by kernel_rfl) (by kernel_rfl) (by kernel_rfl) (fun _ _ _ h => h) (by kernel_rfl) hHeld ?_ ?_
              rotate_left
              · intro w hSw
                (try dsimp only at hSw)
                subst hSw
                go_simp
                first | done | with_reducible rfl
              (try simp only [Act.put, List.setIfInBounds_toArray, List.set_cons_zero, List.set_cons_succ])
              refine held_take (i := 23) (d := 70) (v := ?_) rfl rfl (by kernel_rfl) (by kernel_rfl) (by kernel_rfl) (fun _ _ _ h => h) (by kernel_rfl) hHeld ?_ ?_
              rotate_left
              · intro w hSw
                (try dsimp only at hSw)
                go_simp
                first | done | with_reducible rfl
              (try simp only [Act.put, List.setIfInBounds_toArray, List.set_cons_zero, List.set_cons_succ])
              refine held_take (i := 24) (d := 71) (v := .int .i64 (r2 : Int)) rfl rfl (by kernel_rfl) (by kernel_rfl) (by kernel_rfl) (fun _ _ _ h => h) (by kernel_rfl) hHeld ?_ ?_
              · intro w hSw
                (try dsimp only at hSw)
                have hmin : min ((av.size : Nat) : Int) 5000 = ((r2 : Nat) : Int) := by omega
                go_simp
              (try simp only [Act.put, List.setIfInBounds_toArray, List.set_cons_zero, List.set_cons_succ])
              refine held_take (i := 25) (d := 72) (v := ?_) rfl rfl (by kernel_rfl) (by kernel_rfl) (by kernel_rfl) (fun _ _ _ h => h) (by kernel_rfl) hHeld ?_ ?_
              rotate_left
              · intro w hSw
                (try dsimp only at hSw)
                go_simp
                first | done | with_reducible rfl
              (try simp only [Act.put, List.setIfInBounds_toArray, List.set_cons_zero, List.set_cons_succ])
              refine held_take (i := 26) (d := 3) (v := ?_) rfl rfl (by kernel_rfl) (by kernel_rfl) (by kernel_rfl) (fun _ _ _ h => h) (by kernel_rfl) hHeld ?_ ?_
              rotate_left
              · intro w hSw
                (try dsimp only at hSw)
                go_simp
                first | done | with_reducible rfl
              (try simp only [Act.put, List.setIfInBounds_toArray, List.set_cons_zero, List.set_cons_succ])
              refine wpAnyH_done (by kernel_rfl) ?_ _
              rw [hHeld]
              go_wp2
              go_roundg (61 - (j + 1))
              case measure => have := Hgj.out; omega
              case rel => exact ⟨j + 1, y + 1 + r1 + r2, _, rfl, by omega, by omega, by go_num, int_eq (by omega), by rw [Hnj.out, Hy.out]; unfold wGa; rw [Hr1.out, Hr2.out]; omega, by omega, rfl⟩
            · go_wp2
              go_ret
              exact ⟨⟨true, rfl, fun h => by cases h⟩, _, rfl⟩
          · have hjn' : j = na := by omega
            subst hjn'
            have hyt : y = z + q1 + q2 + wGas ax := by have := Hy.out; rwa [List.take_of_length_le (by rw [Hna.out]; exact Nat.le_refl _)] at this
            have Hyt := hide hyt
            clear hyt
            by_cases h60 : 60 < j
            · have hd : decide (60 < (j : Int)) = true := by simp; omega
              go_wp2
              go_ret
              exact ⟨⟨true, rfl, fun h => by cases h⟩, _, rfl⟩
            · have hd : decide (60 < (j : Int)) = false := by simp; omega
              go_wp2
              go_roundg (201 - (k + 1))
              case measure => have := Hg.out; omega
              case rel => exact ⟨k + 1, y, _, rfl, by omega, by omega, by go_num, rfl, by rw [Hnx.out, Hyt.out, Hz.out]; unfold wGt m5; (try dsimp only); omega, by omega, Hax.out (by (try dsimp only); rw [Hna.out]; omega), rfl⟩
      · have hd : decide (200 < (n : Int)) = true := by simp; omega
        go_wp2
        go_ret
        exact ⟨⟨true, rfl, fun h => by cases h⟩, _, rfl⟩
    · have hkn' : k = n := by omega
      subst hkn'
      have hzt : z = wGts l := by have := Hz.out; rwa [List.take_of_length_le (by rw [Hn.out]; exact Nat.le_refl _)] at this
      have Hzt := hide hzt
      have hat : ∀ x ∈ l, x.as_.length ≤ 60 := by have := Hall.out; rwa [List.take_of_length_le (by rw [Hn.out]; exact Nat.le_refl _)] at this
      have Hat := hide hat
      clear hzt hat
      by_cases h200 : 200 < k
      · have hd : decide (200 < (k : Int)) = true := by simp; omega
        go_wp2
        go_ret
        exact ⟨⟨true, rfl, fun h => by cases h⟩, _, rfl⟩
      · have hd : decide (200 < (k : Int)) = false := by simp; omega
        by_cases h5 : 5000 < z
        · have hd5 : decide (5000 < (z : Int)) = true := by simp; omega
          go_wp2
          go_ret
          exact ⟨⟨_, rfl, fun h => by cases h⟩, _, rfl⟩
        · have hd5 : decide (5000 < (z : Int)) = false := by simp; omega
          go_wp2
          go_ret
          exact ⟨⟨_, rfl, fun _ => ⟨by rw [Hn.out]; omega, Hat.out, by rw [← Hzt.out]; omega⟩⟩, _, rfl⟩
end Go.Proofs.YtbnaphbmmkmaeaaDoor
