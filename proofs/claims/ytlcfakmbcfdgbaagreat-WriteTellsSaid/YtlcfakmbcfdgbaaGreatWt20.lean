/- NFC: the document's pairs (ref10.Pairs). -/
import Derived.Test.YtlcfakmbcfdgbaaGreatWt04
import Derived.Test.YtlcfakmbcfdgbaaGreatWt05
import Derived.Test.YtlcfakmbcfdgbaaGreatWt19
set_option linter.unusedSimpArgs false
set_option linter.unusedVariables false
namespace Go.Proofs.YtlcfakmbcfdgbaaGreat
open Go.RowKit Go.WideShapes

theorem oper_app1 {P : Program} {o : Oper} {a : Act} {K : Act → World → Prop} {Q : Exit → Act → World → Prop} (W : World) (hgd : o.guard = none) (s x : Operand) (t : TypeId) (ho : o.op = .call { callee := .builtin .append, args := #[s, x], argTypes := #[t, t] })
    (base : Nat) (e : TypeId) (z : Value) (size bytes : Nat) (ht : P.underlying t = some (.slice e)) (hinfo : (P.info? e).map (fun i => (i.zero, i.size, i.bytes)) = some (some z, size, bytes))
    (hzs : z.cells.size = size) (hsz : 0 < size) (v : Value) (n : Nat) (xs : List Value) (hs : a.eval s = v) (hown : W.ownsRow base e size v n xs)
    (cs : List Value) (hcs : cs.length = size) (h1 : ∀ u ∈ cs, u.oneCell' = true) (H : Nat) (hH : Blk W H e cs.toArray) (hx : a.eval x = .slice (some ⟨H, 0, none⟩) 1 1)
    (h63 : n + 1 ≤ maxLen) (hbytes : (n + 1) * bytes ≤ 140737488355328) (hbase : base ≤ W.heap.size)
    (h : ∀ g cap w', w'.ownsRow base e size (.slice (some ⟨g, 0, none⟩) (n + 1) cap) (n + 1) (xs ++ cs) → W.grownBy w' v.ownBlock → g < w'.heap.size → K (a.put o.dst (.slice (some ⟨g, 0, none⟩) (n + 1) cap)) w') : Oper.wp P o a W K Q := by
  have hh := step_append_elem (ops := #[]) (Q := Q) (E := True) W hgd s x t ho base e z size bytes ht hinfo hzs hsz v n xs hs hown cs hcs h1 H hH hx h63 hbytes hbase h
  rw [if_pos (by simp [Region.wanted, hgd])] at hh
  exact hh
theorem own_capN {w : World} {base e size n cap : Nat} {A : Option Addr} {xs : List Value} (h : w.ownsRow base e size (.slice A n cap) n xs) : n ≤ cap := by
  rcases h.2 with ⟨h0, h1⟩ | ⟨g', cap', cur, e, hb, hh, h1, h2, h3, h4⟩
  · omega
  · cases e; exact h1
theorem own_gD {w w' : World} {base e size n : Nat} {v : Value} {xs : List Value} (h : w.ownsRow base e size v n xs) (hb : Below w.heap.size w w') : w'.ownsRow base e size v n xs :=
  h.kept (row := some w.heap.size) ⟨hb.os, hb.tape, hb.output, hb.size, fun i hi _ => hb.block i hi⟩ (.inr fun e => by have := (h.lt _ e).2; omega)
theorem laid_size : ∀ (l : List Obj) (w : World), (laid w l).heap.size = w.heap.size + l.length
  | [], w => rfl
  | o :: l, w => by rw [laid, laid_size l, World.size_alloc, List.length_cons]; omega
theorem laid_below : ∀ (l : List Obj) (w : World), Below w.heap.size w (laid w l)
  | [], w => Below.refl _ _
  | o :: l, w => (below_alloc w o).trans ((laid_below l (w.alloc o)).mono (by simp))
theorem laid_at : ∀ (l : List Obj) (w : World) (i : Nat), i < l.length → (laid w l).heap[w.heap.size + i]? = l[i]?
  | [], w, i, h => absurd h (by simp)
  | o :: l, w, 0, _ => ((laid_below l (w.alloc o)).block _ (by simp)).trans (heap_alloc_new w o)
  | o :: l, w, i + 1, h => by
    have := laid_at l (w.alloc o) i (by simpa using h)
    rw [World.size_alloc] at this
    rw [laid, List.getElem?_cons_succ, ← this, show w.heap.size + (i + 1) = w.heap.size + 1 + i by omega]
theorem rowVs_at : ∀ (l : List (Int × List Int)) (Z i : Nat) (x : Int × List Int), l[i]? = some x → (rowVs Z l)[i * 2]? = some (.int .i64 x.1) ∧ (rowVs Z l)[i * 2 + 1]? = some (.slice (some ⟨Z + i, 0, none⟩) x.2.length x.2.length)
  | [], Z, i, x, h => by simp at h
  | y :: l, Z, 0, x, h => by
    cases h
    exact ⟨rfl, rfl⟩
  | y :: l, Z, i + 1, x, h => by
    have := rowVs_at l (Z + 1) i x (by simpa using h)
    have e : rowVs Z (y :: l) = .int .i64 y.1 :: .slice (some ⟨Z, 0, none⟩) y.2.length y.2.length :: rowVs (Z + 1) l := rfl
    rw [e, show (i + 1) * 2 = i * 2 + 1 + 1 by omega, show Z + (i + 1) = Z + 1 + i by omega]
    exact this
/-- The table, its first letters in block b. -/
def Tab (b : Nat) (W : World) : Prop := ∀ i x, Nf.tableD[i]? = some x → W.cell? ⟨b + 11, i * 2, none⟩ = some (.int .i64 x.1) ∧ W.cell? ⟨b + 11, i * 2 + 1, none⟩ = some (.slice (some ⟨b + i, 0, none⟩) x.2.length x.2.length) ∧ ∀ j v, x.2[j]? = some v → W.cell? ⟨b + i, j, none⟩ = some (.int .i64 v)
theorem Tab.below {b : Nat} {w w' : World} (h : Tab b w) (hb : Below (b + 12) w w') : Tab b w' := fun i x hx => by
  have hi : i < 11 := (List.getElem?_eq_some_iff.1 hx).1
  obtain ⟨h1, h2, h3⟩ := h i x hx
  exact ⟨(hb.cell (by show b + 11 < _; omega)).trans h1, (hb.cell (by show b + 11 < _; omega)).trans h2, fun j v hv => (hb.cell (by show b + i < _; omega)).trans (h3 j v hv)⟩
theorem tab_new (w : World) : Tab w.heap.size ((laid w (Nf.tableD.map rowObj)).alloc (.cells (rowVs w.heap.size Nf.tableD).toArray 157)) := fun i x hx => by
  have hi : i < 11 := (List.getElem?_eq_some_iff.1 hx).1
  have hz : (laid w (Nf.tableD.map rowObj)).heap.size = w.heap.size + 11 := laid_size _ _
  obtain ⟨h1, h2⟩ := rowVs_at Nf.tableD w.heap.size i x hx
  have hB : Blk ((laid w (Nf.tableD.map rowObj)).alloc (.cells (rowVs w.heap.size Nf.tableD).toArray 157)) (w.heap.size + 11) 157 (rowVs w.heap.size Nf.tableD).toArray := by
    have := Blk.new (laid w (Nf.tableD.map rowObj)) 157 (rowVs w.heap.size Nf.tableD).toArray
    rwa [hz] at this
  refine ⟨(hB.cell _).trans (by simpa using h1), (hB.cell _).trans (by simpa using h2), fun j v hv => ?_⟩
  have hL : Blk (laid w (Nf.tableD.map rowObj)) (w.heap.size + i) 3 (intVs x.2).toArray := by
    have := laid_at (Nf.tableD.map rowObj) w i (by simpa using show i < Nf.tableD.length from hi)
    rw [List.getElem?_map, hx] at this
    exact this
  rw [(hL.alloc _).cell]
  simp [intVs, hv]
namespace Nf
theorem pairsOf_at : ∀ (m : Int) (l : List Int) (q : Nat) (a b : Int), l[q * 2]? = some a → l[q * 2 + 1]? = some b → (pairsOf m l)[q]? = some ⟨b, a, m⟩
  | m, [], q, a, b, h, _ => by simp at h
  | m, [x], q, a, b, _, h => by simp at h
  | m, x :: y :: l, 0, a, b, h1, h2 => by
    cases h1
    cases h2
    rfl
  | m, x :: y :: l, q + 1, a, b, h1, h2 => by
    have e : pairsOf m (x :: y :: l) = ⟨y, x, m⟩ :: pairsOf m l := rfl
    rw [show (q + 1) * 2 = q * 2 + 1 + 1 by omega] at h1 h2
    rw [e, List.getElem?_cons_succ]
    exact pairsOf_at m l q a b h1 h2
theorem tab_even : ∀ x ∈ tableD, x.2.length = (pairsOf x.1 x.2).length * 2 := by decide +kernel
theorem tab_len : ∀ x ∈ tableD, x.2.length ≤ 28 := by decide +kernel
def dAll (l : List Pr) : List Pr := l.foldl dput []
theorem dAll_snoc (l : List Pr) (p : Pr) : dAll (l ++ [p]) = dput (dAll l) p := by
  unfold dAll
  rw [List.foldl_append]
  rfl
theorem dfold_len : ∀ (l acc : List Pr), (l.foldl dput acc).length = acc.length + l.length
  | [], acc => rfl
  | p :: l, acc => by rw [List.foldl_cons, dfold_len l, dput_len, List.length_cons]; omega
theorem dAll_len (l : List Pr) : (dAll l).length = l.length := by unfold dAll; rw [dfold_len]; simp
/-- The table's pairs, up to the q-th of row i. -/
def prsTo (i q : Nat) : List Pr := (tableD.take i).flatMap (fun x => pairsOf x.1 x.2) ++ (match tableD[i]? with
  | some x => (pairsOf x.1 x.2).take q
  | none => [])
theorem prsTo_next {i q : Nat} {x : Int × List Int} {p : Pr} (hx : tableD[i]? = some x) (hp : (pairsOf x.1 x.2)[q]? = some p) : prsTo i (q + 1) = prsTo i q ++ [p] := by
  unfold prsTo
  rw [hx]
  dsimp only
  rw [List.take_add_one, hp, List.append_assoc]
  rfl
theorem prsTo_row {i q : Nat} {x : Int × List Int} (hx : tableD[i]? = some x) (hq : q = (pairsOf x.1 x.2).length) : prsTo (i + 1) 0 = prsTo i q := by
  unfold prsTo
  rw [hx]
  dsimp only
  rw [List.take_of_length_le (l := pairsOf x.1 x.2) (by omega), List.take_add_one, hx, List.flatMap_append]
  cases tableD[i + 1]? <;> simp
/-- The document's doubles, as numbers. -/
def dblD : List Int := [832, 768, 833, 769, 8486, 937, 8490, 75, 8491, 197]
theorem dbl_at : ∀ (j : Nat) (p : Pr), doublesD[j]? = some p → dblD[j * 2]? = some p.w ∧ dblD[j * 2 + 1]? = some p.f ∧ p.s = 0 := by
  intro j p h
  match j with
  | 0 => cases h; exact ⟨rfl, rfl, rfl⟩
  | 1 => cases h; exact ⟨rfl, rfl, rfl⟩
  | 2 => cases h; exact ⟨rfl, rfl, rfl⟩
  | 3 => cases h; exact ⟨rfl, rfl, rfl⟩
  | 4 => cases h; exact ⟨rfl, rfl, rfl⟩
  | j + 5 => exact absurd h (by simp [doublesD])
theorem prsTo_end : dAll (prsTo 11 0) ++ doublesD = pairsD := rfl
theorem prsTo_len : ∀ i, i < 12 → ∀ q, q < 20 → (prsTo i q).length ≤ 500 := by decide +kernel
end Nf
set_option maxHeartbeats 8000000 in
set_option maxRecDepth 100000 in
theorem refPairs_any (w : World) : Calls Tryz.prog 128 #[] w fun e w' => (∃ A' c', e = .returned (.slice A' Nf.pairsD.length c') ∧ w'.ownsRow w.heap.size 144 3 (.slice A' Nf.pairsD.length c') Nf.pairsD.length (prVs Nf.pairsD)) ∧ Below w.heap.size w w' := by
  have HT := hide (tab_new w)
  have HBt := hide (Below.trans (laid_below (Nf.tableD.map rowObj) w) ((below_alloc (laid w (Nf.tableD.map rowObj)) (.cells (rowVs w.heap.size Nf.tableD).toArray 157)).mono (by rw [laid_size]; omega)))
  have HZ := hide (show ((laid w (Nf.tableD.map rowObj)).alloc (.cells (rowVs w.heap.size Nf.tableD).toArray 157)).heap.size = w.heap.size + 12 by rw [World.size_alloc, laid_size]; rfl)
  have HCt := hide (refTable_any w)
  obtain ⟨W1, hW1⟩ : ∃ W1, (laid w (Nf.tableD.map rowObj)).alloc (.cells (rowVs w.heap.size Nf.tableD).toArray 157) = W1 := ⟨_, rfl⟩
  rw [hW1] at HT HBt HZ HCt
  clear hW1
  go_enter Tryz.func128, Tryz.ntmps128
  go_wp2_with fail
  refine HCt.out.mono ?_
  rintro e w1 ⟨rfl, hw1⟩
  subst hw1
  go_wp2
  go_loopg [1, 3, 4] 11 (fun gk v1 v3 v4 wr => ∃ (i : Nat) (A2 : Option Addr) (c2 : Nat), gk = 11 - i ∧ i ≤ 11 ∧ v3 = .int .i64 (i : Int) ∧ v1 = .slice A2 (Nf.prsTo i 0).length c2 ∧ (Nf.prsTo i 0).length ≤ c2 ∧ wr.ownsRow (w.heap.size + 12) 144 3 (.slice A2 (Nf.prsTo i 0).length c2) (Nf.prsTo i 0).length (prVs (Nf.dAll (Nf.prsTo i 0))) ∧ Tab w.heap.size wr ∧ Below w.heap.size w wr ∧ w.heap.size + 12 ≤ wr.heap.size)
  case atStart => exact ⟨0, none, 0, rfl, by omega, rfl, rfl, by decide, World.ownsRow_nil _ _ _ _, HT.out, HBt.out, by rw [HZ.out]; exact Nat.le_refl _⟩
  case round =>
    obtain ⟨i, A2, c2, hgk, hi, rfl, rfl, hc2, ho, ht, hb, hbs⟩ := hrel
    have Hg := hide hgk
    have HO := hide ho
    have HC2 := hide hc2
    have HT2 := hide ht
    have HB := hide hb
    clear hgk ho hc2 ht hb
    by_cases hlt : i < 11
    · obtain ⟨x, hx⟩ : ∃ x, Nf.tableD[i]? = some x := ⟨_, List.getElem?_eq_getElem (by exact hlt)⟩
      have hev := Nf.tab_even x (List.mem_of_getElem? hx)
      have HX := hide hx
      obtain ⟨Z, hZ⟩ : ∃ Z, (Nf.pairsOf x.1 x.2).length = Z := ⟨_, rfl⟩
      have HZ2 := hide hZ
      rw [hZ] at hev
      obtain ⟨n, hn⟩ : ∃ n, x.2.length = n := ⟨_, rfl⟩
      have HN := hide hn
      have HEv := hide (hn.symm.trans hev)
      have hii : (0 : Int) ≤ i ∧ (i : Int) < 11 := by omega
      have hn28 : n ≤ 28 := by rw [← hn]; exact Nf.tab_len x (List.mem_of_getElem? hx)
      have hz14 : Z < 20 := by have := HEv.out; omega
      clear hx hev hZ hn
      go_wp2
      rename World => wo
      go_loopg [1, 4] Z (fun gq v1 v4 wr => ∃ (q k : Nat) (A2 : Option Addr) (c2 : Nat), gq = Z - q ∧ q ≤ Z ∧ k = q * 2 ∧ v4 = .int .i64 (k : Int) ∧ v1 = .slice A2 (Nf.prsTo i q).length c2 ∧ (Nf.prsTo i q).length ≤ c2 ∧ wr.ownsRow (w.heap.size + 12) 144 3 (.slice A2 (Nf.prsTo i q).length c2) (Nf.prsTo i q).length (prVs (Nf.dAll (Nf.prsTo i q))) ∧ Tab w.heap.size wr ∧ Below w.heap.size w wr ∧ w.heap.size + 12 ≤ wr.heap.size)
      case atStart => exact ⟨0, 0, _, _, rfl, by omega, rfl, rfl, rfl, HC2.out, HO.out, HT2.out, HB.out, hbs⟩
      case round =>
        obtain ⟨q, k, A2, c2, hgq, hq, hk, rfl, rfl, hc2, ho, ht, hb, hbs⟩ := hrel
        have Hg2 := hide hgq
        have HO2 := hide ho
        have HC3 := hide hc2
        have HB2 := hide hb
        have HT3 := hide ht
        have HK := hide hk
        have hbs2 : w.heap.size + 12 ≤ wr.heap.size := hbs
        clear hgq ho hc2 hb ht hk hbs
        obtain ⟨hy1, hy0, hys⟩ := HT3.out i x HX.out
        rw [HN.out] at hy0
        by_cases hqz : q < Z
        · have hkn : k + 1 < n := by have := HEv.out; have := HK.out; omega
          obtain ⟨k1, hk1⟩ : ∃ k1, k + 1 = k1 := ⟨_, rfl⟩
          obtain ⟨la, hla⟩ : ∃ v, x.2[k]? = some v := ⟨_, List.getElem?_eq_getElem (by have := HN.out; omega)⟩
          obtain ⟨lb, hlb⟩ : ∃ v, x.2[k1]? = some v := ⟨_, List.getElem?_eq_getElem (by have := HN.out; omega)⟩
          have y0 := hy0
          have y1 := hy1
          have y2 := hys _ _ hla
          have y3 := hys _ _ hlb
          have hp : (Nf.pairsOf x.1 x.2)[q]? = some ⟨lb, la, x.1⟩ := Nf.pairsOf_at x.1 x.2 q la lb (by rw [← HK.out]; exact hla) (by rw [← HK.out, hk1]; exact hlb)
          have hnx := Nf.prsTo_next HX.out hp
          have hal : Nf.dAll (Nf.prsTo i (q + 1)) = Nf.dput (Nf.dAll (Nf.prsTo i q)) ⟨lb, la, x.1⟩ := by rw [hnx, Nf.dAll_snoc]
          have hnl : (Nf.prsTo i (q + 1)).length = (Nf.prsTo i q).length + 1 := by rw [hnx, List.length_append]; rfl
          have hle := Nf.prsTo_len i (by omega) q (by omega)
          have HPut := hide (fun (W : World) (h : Below wr.heap.size wr W) => refPrPut_any (Nf.dAll (Nf.prsTo i q)) ⟨lb, la, x.1⟩ A2 c2 wr.heap.size W ((by have := Reads.of_own HO2.out; rw [← Nf.dAll_len] at this; exact this.below h)) h.size (by rw [Nf.dAll_len]; omega) (by rw [Nf.dAll_len]; exact HC3.out))
          have HAl := hide hal
          have HNl := hide hnl
          have z1 : IntKind.i64.wrap ((k : Int) + 1) = (k1 : Int) := by rw [IntWalk.i64_in _ (by omega)]; omega
          have hk1' := hide hk1
          have hkk : (0 : Int) ≤ k ∧ (k : Int) < n := by omega
          have hkk1 : (0 : Int) ≤ k1 ∧ (k1 : Int) < n := by omega
          rw [← HAl.out] at HPut
          unfold prCells at HPut
          rw [Nf.dAll_len] at HPut
          rw [Nf.dAll_len, HNl.out] at HPut
          dsimp only at HPut
          clear hys hla hlb hp hnx hal hnl hy0 hy1 hk1
          obtain ⟨mk, hmk⟩ : ∃ m, x.1 = m := ⟨_, rfl⟩
          rw [hmk] at y1 HPut
          clear hmk
          obtain ⟨pn, hpn⟩ : ∃ m, (Nf.prsTo i q).length = m := ⟨_, rfl⟩
          have HPn := hide hpn
          rw [hpn] at HPut hle
          rw [hpn]
          clear hpn
          go_wp2_with fail
          refine wp_region_held_drew (S := fun W => Below wr.heap.size wr W) (by kernel_rfl) ?_ (fun hHeld => ?_)
          · (try dsimp only)
            first | done | exact (Below.refl _ _).drew | exact hHeld | exact hHeld.drew
          change wpAnyH _ _ _ _ _ 26 #[false, false, false, false, false, false, false, false, false, false, false, false, false, false, false, false, false, false, false, false, false, false, false, false, false, false] _ _
          refine held_take (i := 0) (d := 24) (v := ?_) rfl rfl (by kernel_rfl) (by kernel_rfl) (by kernel_rfl) (fun _ _ _ h => h) (by kernel_rfl) hHeld ?_ ?_
          rotate_left
          · intro w hSw
            (try dsimp only at hSw)
            go_simp
            first | done | with_reducible rfl
          (try simp only [Act.put, List.setIfInBounds_toArray, List.set_cons_zero, List.set_cons_succ])
          refine held_take (i := 1) (d := 25) (v := ?_) rfl rfl (by kernel_rfl) (by kernel_rfl) (by kernel_rfl) (fun _ _ _ h => h) (by kernel_rfl) hHeld ?_ ?_
          rotate_left
          · intro w hSw
            (try dsimp only at hSw)
            go_simp
            first | done | with_reducible rfl
          (try simp only [Act.put, List.setIfInBounds_toArray, List.set_cons_zero, List.set_cons_succ])
          refine held_take (i := 2) (d := 26) (v := ?_) rfl rfl (by kernel_rfl) (by kernel_rfl) (by kernel_rfl) (fun _ _ _ h => h) (by kernel_rfl) hHeld ?_ ?_
          rotate_left
          · intro w hSw
            (try dsimp only at hSw)
            go_simp
            first | done | with_reducible rfl
          (try simp only [Act.put, List.setIfInBounds_toArray, List.set_cons_zero, List.set_cons_succ])
          refine held_take (i := 3) (d := 27) (v := ?_) rfl rfl (by kernel_rfl) (by kernel_rfl) (by kernel_rfl) (fun _ _ _ h => h) (by kernel_rfl) hHeld ?_ ?_
          rotate_left
          · intro w hSw
            (try dsimp only at hSw)
            go_simp
            first | done | with_reducible rfl
          (try simp only [Act.put, List.setIfInBounds_toArray, List.set_cons_zero, List.set_cons_succ])
          refine held_take (i := 4) (d := 28) (v := ?_) rfl rfl (by kernel_rfl) (by kernel_rfl) (by kernel_rfl) (fun _ _ _ h => h) (by kernel_rfl) hHeld ?_ ?_
          rotate_left
          · intro w hSw
            (try dsimp only at hSw)
            go_simp
            first | done | with_reducible rfl
          (try simp only [Act.put, List.setIfInBounds_toArray, List.set_cons_zero, List.set_cons_succ])
          refine held_take (i := 5) (d := 29) (v := ?_) rfl rfl (by kernel_rfl) (by kernel_rfl) (by kernel_rfl) (fun _ _ _ h => h) (by kernel_rfl) hHeld ?_ ?_
          rotate_left
          · intro w hSw
            (try dsimp only at hSw)
            have s0 := (hSw.cell (lt_of_cell y0)).trans y0
            have s1 := (hSw.cell (lt_of_cell y1)).trans y1
            have s2 := (hSw.cell (lt_of_cell y2)).trans y2
            have s3 := (hSw.cell (lt_of_cell y3)).trans y3
            go_simp
            first | done | with_reducible rfl
          (try simp only [Act.put, List.setIfInBounds_toArray, List.set_cons_zero, List.set_cons_succ])
          refine held_take (i := 6) (d := 30) (v := ?_) rfl rfl (by kernel_rfl) (by kernel_rfl) (by kernel_rfl) (fun _ _ _ h => h) (by kernel_rfl) hHeld ?_ ?_
          rotate_left
          · intro w hSw
            (try dsimp only at hSw)
            go_simp
            first | done | with_reducible rfl
          (try simp only [Act.put, List.setIfInBounds_toArray, List.set_cons_zero, List.set_cons_succ])
          refine held_take (i := 7) (d := 31) (v := ?_) rfl rfl (by kernel_rfl) (by kernel_rfl) (by kernel_rfl) (fun _ _ _ h => h) (by kernel_rfl) hHeld ?_ ?_
          rotate_left
          · intro w hSw
            (try dsimp only at hSw)
            go_simp
            first | done | with_reducible rfl
          (try simp only [Act.put, List.setIfInBounds_toArray, List.set_cons_zero, List.set_cons_succ])
          refine held_take (i := 8) (d := 32) (v := ?_) rfl rfl (by kernel_rfl) (by kernel_rfl) (by kernel_rfl) (fun _ _ _ h => h) (by kernel_rfl) hHeld ?_ ?_
          rotate_left
          · intro w hSw
            (try dsimp only at hSw)
            go_simp
            first | done | with_reducible rfl
          (try simp only [Act.put, List.setIfInBounds_toArray, List.set_cons_zero, List.set_cons_succ])
          refine held_take (i := 9) (d := 33) (v := ?_) rfl rfl (by kernel_rfl) (by kernel_rfl) (by kernel_rfl) (fun _ _ _ h => h) (by kernel_rfl) hHeld ?_ ?_
          rotate_left
          · intro w hSw
            (try dsimp only at hSw)
            have s0 := (hSw.cell (lt_of_cell y0)).trans y0
            have s1 := (hSw.cell (lt_of_cell y1)).trans y1
            have s2 := (hSw.cell (lt_of_cell y2)).trans y2
            have s3 := (hSw.cell (lt_of_cell y3)).trans y3
            go_simp
            first | done | with_reducible rfl
          (try simp only [Act.put, List.setIfInBounds_toArray, List.set_cons_zero, List.set_cons_succ])
          refine held_take (i := 10) (d := 34) (v := ?_) rfl rfl (by kernel_rfl) (by kernel_rfl) (by kernel_rfl) (fun _ _ _ h => h) (by kernel_rfl) hHeld ?_ ?_
          rotate_left
          · intro w hSw
            (try dsimp only at hSw)
            go_simp
            first | done | with_reducible rfl
          (try simp only [Act.put, List.setIfInBounds_toArray, List.set_cons_zero, List.set_cons_succ])
          refine held_take (i := 11) (d := 35) (v := ?_) rfl rfl (by kernel_rfl) (by kernel_rfl) (by kernel_rfl) (fun _ _ _ h => h) (by kernel_rfl) hHeld ?_ ?_
          rotate_left
          · intro w hSw
            (try dsimp only at hSw)
            go_simp
            first | done | with_reducible rfl
          (try simp only [Act.put, List.setIfInBounds_toArray, List.set_cons_zero, List.set_cons_succ])
          refine held_take (i := 12) (d := 36) (v := ?_) rfl rfl (by kernel_rfl) (by kernel_rfl) (by kernel_rfl) (fun _ _ _ h => h) (by kernel_rfl) hHeld ?_ ?_
          rotate_left
          · intro w hSw
            (try dsimp only at hSw)
            go_simp
            first | done | with_reducible rfl
          (try simp only [Act.put, List.setIfInBounds_toArray, List.set_cons_zero, List.set_cons_succ])
          refine held_take (i := 13) (d := 37) (v := ?_) rfl rfl (by kernel_rfl) (by kernel_rfl) (by kernel_rfl) (fun _ _ _ h => h) (by kernel_rfl) hHeld ?_ ?_
          rotate_left
          · intro w hSw
            (try dsimp only at hSw)
            go_simp
            first | done | with_reducible rfl
          (try simp only [Act.put, List.setIfInBounds_toArray, List.set_cons_zero, List.set_cons_succ])
          refine held_take (i := 14) (d := 38) (v := ?_) rfl rfl (by kernel_rfl) (by kernel_rfl) (by kernel_rfl) (fun _ _ _ h => h) (by kernel_rfl) hHeld ?_ ?_
          rotate_left
          · intro w hSw
            (try dsimp only at hSw)
            have s0 := (hSw.cell (lt_of_cell y0)).trans y0
            have s1 := (hSw.cell (lt_of_cell y1)).trans y1
            have s2 := (hSw.cell (lt_of_cell y2)).trans y2
            have s3 := (hSw.cell (lt_of_cell y3)).trans y3
            go_simp
            first | done | with_reducible rfl
          (try simp only [Act.put, List.setIfInBounds_toArray, List.set_cons_zero, List.set_cons_succ])
          refine held_take (i := 15) (d := 39) (v := ?_) rfl rfl (by kernel_rfl) (by kernel_rfl) (by kernel_rfl) (fun _ _ _ h => h) (by kernel_rfl) hHeld ?_ ?_
          rotate_left
          · intro w hSw
            (try dsimp only at hSw)
            go_simp
            first | done | with_reducible rfl
          (try simp only [Act.put, List.setIfInBounds_toArray, List.set_cons_zero, List.set_cons_succ])
          refine held_take (i := 16) (d := 40) (v := ?_) rfl rfl (by kernel_rfl) (by kernel_rfl) (by kernel_rfl) (fun _ _ _ h => h) (by kernel_rfl) hHeld ?_ ?_
          rotate_left
          · intro w hSw
            (try dsimp only at hSw)
            go_simp
            first | done | with_reducible rfl
          (try simp only [Act.put, List.setIfInBounds_toArray, List.set_cons_zero, List.set_cons_succ])
          refine held_take (i := 17) (d := 41) (v := ?_) rfl rfl (by kernel_rfl) (by kernel_rfl) (by kernel_rfl) (fun _ _ _ h => h) (by kernel_rfl) hHeld ?_ ?_
          rotate_left
          · intro w hSw
            (try dsimp only at hSw)
            have s0 := (hSw.cell (lt_of_cell y0)).trans y0
            have s1 := (hSw.cell (lt_of_cell y1)).trans y1
            have s2 := (hSw.cell (lt_of_cell y2)).trans y2
            have s3 := (hSw.cell (lt_of_cell y3)).trans y3
            go_simp
            first | done | with_reducible rfl
          (try simp only [Act.put, List.setIfInBounds_toArray, List.set_cons_zero, List.set_cons_succ])
          refine held_take (i := 18) (d := 42) (v := ?_) rfl rfl (by kernel_rfl) (by kernel_rfl) (by kernel_rfl) (fun _ _ _ h => h) (by kernel_rfl) hHeld ?_ ?_
          rotate_left
          · intro w hSw
            (try dsimp only at hSw)
            go_simp
            first | done | with_reducible rfl
          (try simp only [Act.put, List.setIfInBounds_toArray, List.set_cons_zero, List.set_cons_succ])
          refine held_take (i := 19) (d := 43) (v := ?_) rfl rfl (by kernel_rfl) (by kernel_rfl) (by kernel_rfl) (fun _ _ _ h => h) (by kernel_rfl) hHeld ?_ ?_
          rotate_left
          · intro w hSw
            (try dsimp only at hSw)
            go_simp
            first | done | with_reducible rfl
          (try simp only [Act.put, List.setIfInBounds_toArray, List.set_cons_zero, List.set_cons_succ])
          refine held_take (i := 20) (d := 44) (v := ?_) rfl rfl (by kernel_rfl) (by kernel_rfl) (by kernel_rfl) (fun _ _ _ h => h) (by kernel_rfl) hHeld ?_ ?_
          rotate_left
          · intro w hSw
            (try dsimp only at hSw)
            go_simp
            first | done | with_reducible rfl
          (try simp only [Act.put, List.setIfInBounds_toArray, List.set_cons_zero, List.set_cons_succ])
          refine held_take (i := 21) (d := 45) (v := ?_) rfl rfl (by kernel_rfl) (by kernel_rfl) (by kernel_rfl) (fun _ _ _ h => h) (by kernel_rfl) hHeld ?_ ?_
          rotate_left
          · intro w hSw
            (try dsimp only at hSw)
            go_simp
            first | done | with_reducible rfl
          (try simp only [Act.put, List.setIfInBounds_toArray, List.set_cons_zero, List.set_cons_succ])
          refine held_take (i := 22) (d := 46) (v := ?_) rfl rfl (by kernel_rfl) (by kernel_rfl) (by kernel_rfl) (fun _ _ _ h => h) (by kernel_rfl) hHeld ?_ ?_
          rotate_left
          · intro w hSw
            (try dsimp only at hSw)
            have s0 := (hSw.cell (lt_of_cell y0)).trans y0
            have s1 := (hSw.cell (lt_of_cell y1)).trans y1
            have s2 := (hSw.cell (lt_of_cell y2)).trans y2
            have s3 := (hSw.cell (lt_of_cell y3)).trans y3
            go_simp
            first | done | with_reducible rfl
          (try simp only [Act.put, List.setIfInBounds_toArray, List.set_cons_zero, List.set_cons_succ])
          refine held_take (i := 23) (d := 47) (v := ?_) rfl rfl (by kernel_rfl) (by kernel_rfl) (by kernel_rfl) (fun _ _ _ h => h) (by kernel_rfl) hHeld ?_ ?_
          rotate_left
          · intro w hSw
            (try dsimp only at hSw)
            go_simp
            first | done | with_reducible rfl
          (try simp only [Act.put, List.setIfInBounds_toArray, List.set_cons_zero, List.set_cons_succ])
          refine held_call (i := 24) rfl (by kernel_rfl) (by kernel_rfl) (fun K hK => ?_)
          go_simp
          go_at_call 137
          refine (HPut.out _ hHeld).mono ?_
          rintro e w' ⟨⟨A3, c3, rfl, ho3⟩, hb3⟩
          have HO3 := hide (ho3.mono (Nat.le_trans hbs2 hHeld.size))
          have HB3 := hide (HB2.out.trans ((hHeld.trans (hb3.mono hHeld.size)).mono HB2.out.size))
          have hz3 : wr.heap.size ≤ w'.heap.size := Nat.le_trans hHeld.size hb3.size
          replace hHeld := hHeld.trans (hb3.mono hHeld.size)
          clear ho3 hb3
          (try dsimp only)
          refine hK.out _ _ ?_ (fun hHeld' => ?_)
          · (try dsimp only)
            first | done | exact (Below.refl _ _).drew | exact hHeld | exact hHeld.drew
          clear hK K hHeld
          have hHeld := hHeld'
          clear hHeld'
          (try simp only [Act.put, List.setIfInBounds_toArray, List.set_cons_zero, List.set_cons_succ])
          refine held_take (i := 25) (d := 1) (v := ?_) rfl rfl (by kernel_rfl) (by kernel_rfl) (by kernel_rfl) (fun _ _ _ h => h) (by kernel_rfl) hHeld ?_ ?_
          rotate_left
          · intro w hSw
            (try dsimp only at hSw)
            go_simp
            first | done | with_reducible rfl
          (try simp only [Act.put, List.setIfInBounds_toArray, List.set_cons_zero, List.set_cons_succ])
          refine wpAnyH_done (by kernel_rfl) ?_ _
          go_wp2
          go_roundg (Z - (q + 1))
          case measure => have := Hg2.out; omega
          case rel =>
            have hb3 : Below (w.heap.size + 12) wr w' := hHeld.mono hbs2
            refine ⟨q + 1, k + 2, A3, c3, rfl, by omega, by have := HK.out; omega, by first | rfl | go_num, ?_, ?_, ?_, HT3.out.below hb3, HB3.out, by omega⟩
            · rw [HNl.out, HPn.out]
            · rw [HNl.out, HPn.out]; exact own_capN HO3.out
            · rw [HNl.out, HPn.out]; exact HO3.out
        · have hkn : ¬ k < n := by have := HEv.out; have := HK.out; omega
          have hqZ : q = Z := by omega
          have hrow := hide (Nf.prsTo_row HX.out (hqZ.trans HZ2.out.symm))
          have hkk : ¬ (k : Int) < (n : Int) := by omega
          clear hys hqZ
          go_wp2
          go_roundg (11 - (i + 1))
          case measure => have := Hg.out; omega
          case rel => exact ⟨i + 1, A2, c2, rfl, by omega, by first | rfl | go_num, by rw [hrow.out], by rw [hrow.out]; exact HC3.out, by rw [hrow.out]; exact HO2.out, HT3.out, HB2.out, hbs2⟩
    · have hi11 : i = 11 := by omega
      subst hi11
      obtain ⟨m, hm⟩ : ∃ m, (Nf.prsTo 11 0).length = m := ⟨_, rfl⟩
      have hm5 : m ≤ 500 := by rw [← hm]; exact Nf.prsTo_len 11 (by omega) 0 (by omega)
      have HM := hide hm
      have HD := hide (fun W => refDoubles_any W)
      have HE := hide Nf.prsTo_end
      obtain ⟨LL, hLL⟩ : ∃ L, Nf.dAll (Nf.prsTo 11 0) = L := ⟨_, rfl⟩
      have HLL := hide hLL
      rw [hm, hLL] at HO
      rw [hLL] at HE
      rw [hm]
      clear hm hLL
      go_wp2_with fail
      refine (HD.out _).mono ?_
      rintro e wd ⟨rfl, hwd⟩
      obtain ⟨D, hD⟩ : ∃ D, wr.heap.size = D := ⟨_, rfl⟩
      have hkd := Blk.new wr 3 (Nf.dblD.map (Value.int .i64)).toArray
      rw [hD] at hkd
      have HKd := hide (show Blk wd D 3 (Nf.dblD.map (Value.int .i64)).toArray from by rw [hwd]; exact hkd)
      have hbd : Below wr.heap.size wr wd := by rw [hwd]; exact below_alloc _ _
      have HBd := hide (HB.out.trans (hbd.mono HB.out.size))
      have HOd := hide (own_gD HO.out hbd)
      have hDw : w.heap.size + 12 ≤ D := by omega
      have hDd : D + 1 ≤ wd.heap.size := HKd.out.lt
      rw [hD]
      clear hwd hkd hbd hD
      dsimp only
      go_wp2
      go_loopg [1, 6] 5 (fun gk v1 v6 wr => ∃ (j k : Nat) (A3 : Option Addr) (c3 : Nat), gk = 5 - j ∧ j ≤ 5 ∧ k = j * 2 ∧ v6 = .int .i64 (k : Int) ∧ v1 = .slice A3 (m + j) c3 ∧ wr.ownsRow (w.heap.size + 12) 144 3 (.slice A3 (m + j) c3) (m + j) (prVs (LL ++ Nf.doublesD.take j)) ∧ Blk wr D 3 (Nf.dblD.map (Value.int .i64)).toArray ∧ Below w.heap.size w wr ∧ w.heap.size + 12 ≤ wr.heap.size ∧ (Value.slice A3 (m + j) c3).ownBlock ≠ some D)
      case atStart => exact ⟨0, 0, A2, c2, rfl, by omega, rfl, rfl, rfl, by rw [List.take_zero, List.append_nil]; exact HOd.out, HKd.out, HBd.out, by omega, own_blk_ne HOd.out HKd.out (by decide)⟩
      case round =>
        obtain ⟨j, k, A3, c3, hgk, hj, hk, rfl, rfl, ho, hkd, hb, hbs3, hnd⟩ := hrel
        have Hg3 := hide hgk
        have HO3 := hide ho
        have HKd3 := hide hkd
        have HB3 := hide hb
        have HK := hide hk
        have HND := hide hnd
        clear hgk ho hkd hb hk hnd
        by_cases hj5 : j < 5
        · obtain ⟨p, hp⟩ : ∃ p, Nf.doublesD[j]? = some p := ⟨_, List.getElem?_eq_getElem (by exact hj5)⟩
          obtain ⟨hd1, hd2, hd3⟩ := Nf.dbl_at j p hp
          have HTk := hide (show Nf.doublesD.take (j + 1) = Nf.doublesD.take j ++ [p] by rw [List.take_add_one, hp]; rfl)
          obtain ⟨pw, pf, ps⟩ := p
          dsimp only at hd1 hd2 hd3
          subst hd3
          rw [← HK.out] at hd1 hd2
          obtain ⟨k1, hk1⟩ : ∃ k1, k + 1 = k1 := ⟨_, rfl⟩
          rw [hk1] at hd2
          have y0 : wr.cell? ⟨D, k, none⟩ = some (.int .i64 pw) := by rw [HKd3.out.cell, List.getElem?_toArray, List.getElem?_map, hd1]; rfl
          have y1 : wr.cell? ⟨D, k1, none⟩ = some (.int .i64 pf) := by rw [HKd3.out.cell, List.getElem?_toArray, List.getElem?_map, hd2]; rfl
          have hkn : k1 < 10 := by have := HK.out; omega
          have z1 : IntKind.i64.wrap ((k : Int) + 1) = (k1 : Int) := by rw [IntWalk.i64_in _ (by omega)]; omega
          have hkk : (0 : Int) ≤ k ∧ (k : Int) < 10 := by omega
          have hkk1 : (0 : Int) ≤ k1 ∧ (k1 : Int) < 10 := by omega
          have BX := hide (show Below wr.heap.size wr (wr.drew.alloc (.cells #[.int .i64 pw, .int .i64 pf, .int .i64 0] 144)) from (Below.refl _ _).drew.alloc (Nat.le_refl _) _)
          have KX := hide (show Blk (wr.drew.alloc (.cells #[.int .i64 pw, .int .i64 pf, .int .i64 0] 144)) wr.heap.size 144 #[.int .i64 pw, .int .i64 pf, .int .i64 0] from Blk.new wr.drew 144 _)
          have Y0 := hide y0
          have Y1 := hide y1
          have HY := hide (show (wr.drew.alloc (.cells #[.int .i64 pw, .int .i64 pf, .int .i64 0] 144)).cell? ⟨D, k, none⟩ = some (.int .i64 pw) ∧ (wr.drew.alloc (.cells #[.int .i64 pw, .int .i64 pf, .int .i64 0] 144)).cell? ⟨D, k1, none⟩ = some (.int .i64 pf) from ⟨(BX.out.cell (lt_of_cell y0)).trans y0, (BX.out.cell (lt_of_cell y1)).trans y1⟩)
          have HnD := hide (fun e => HND.out (Eq.symm e))
          clear hp hd1 hd2 hk1 y0 y1
          go_wp2_with fail
          refine wp_region_held_drew (S := fun W' => W'.cell? ⟨D, k, none⟩ = some (.int .i64 pw) ∧ W'.cell? ⟨D, k1, none⟩ = some (.int .i64 pf)) (by kernel_rfl) ?_ (fun hHeld => ?_)
          · (try dsimp only)
            exact ⟨Y0.out, Y1.out⟩
          change wpAnyH _ _ _ _ _ 14 #[false, false, false, false, false, false, false, false, false, false, false, false, false, false] _ _
          refine held_take (i := 0) (d := 56) (v := ?_) rfl rfl (by kernel_rfl) (by kernel_rfl) (by kernel_rfl) (fun _ _ _ h => h) (by kernel_rfl) hHeld ?_ ?_
          rotate_left
          · intro w' hSw
            obtain ⟨z0, z1⟩ := hSw
            go_simp
            first | done | with_reducible rfl
          (try simp only [Act.put, List.setIfInBounds_toArray, List.set_cons_zero, List.set_cons_succ])
          refine held_take (i := 1) (d := 57) (v := ?_) rfl rfl (by kernel_rfl) (by kernel_rfl) (by kernel_rfl) (fun _ _ _ h => h) (by kernel_rfl) hHeld ?_ ?_
          rotate_left
          · intro w' hSw
            obtain ⟨z0, z1⟩ := hSw
            go_simp
            first | done | with_reducible rfl
          (try simp only [Act.put, List.setIfInBounds_toArray, List.set_cons_zero, List.set_cons_succ])
          refine held_take (i := 2) (d := 58) (v := ?_) rfl rfl (by kernel_rfl) (by kernel_rfl) (by kernel_rfl) (fun _ _ _ h => h) (by kernel_rfl) hHeld ?_ ?_
          rotate_left
          · intro w' hSw
            obtain ⟨z0, z1⟩ := hSw
            go_simp
            first | done | with_reducible rfl
          (try simp only [Act.put, List.setIfInBounds_toArray, List.set_cons_zero, List.set_cons_succ])
          refine held_take (i := 3) (d := 59) (v := ?_) rfl rfl (by kernel_rfl) (by kernel_rfl) (by kernel_rfl) (fun _ _ _ h => h) (by kernel_rfl) hHeld ?_ ?_
          rotate_left
          · intro w' hSw
            obtain ⟨z0, z1⟩ := hSw
            go_simp
            first | done | with_reducible rfl
          (try simp only [Act.put, List.setIfInBounds_toArray, List.set_cons_zero, List.set_cons_succ])
          refine held_take (i := 4) (d := 60) (v := ?_) rfl rfl (by kernel_rfl) (by kernel_rfl) (by kernel_rfl) (fun _ _ _ h => h) (by kernel_rfl) hHeld ?_ ?_
          rotate_left
          · intro w' hSw
            obtain ⟨z0, z1⟩ := hSw
            go_simp
            first | done | with_reducible rfl
          (try simp only [Act.put, List.setIfInBounds_toArray, List.set_cons_zero, List.set_cons_succ])
          refine held_take (i := 5) (d := 61) (v := ?_) rfl rfl (by kernel_rfl) (by kernel_rfl) (by kernel_rfl) (fun _ _ _ h => h) (by kernel_rfl) hHeld ?_ ?_
          rotate_left
          · intro w' hSw
            obtain ⟨z0, z1⟩ := hSw
            go_simp
            first | done | with_reducible rfl
          (try simp only [Act.put, List.setIfInBounds_toArray, List.set_cons_zero, List.set_cons_succ])
          refine held_take (i := 6) (d := 62) (v := ?_) rfl rfl (by kernel_rfl) (by kernel_rfl) (by kernel_rfl) (fun _ _ _ h => h) (by kernel_rfl) hHeld ?_ ?_
          rotate_left
          · intro w' hSw
            obtain ⟨z0, z1⟩ := hSw
            go_simp
            first | done | with_reducible rfl
          (try simp only [Act.put, List.setIfInBounds_toArray, List.set_cons_zero, List.set_cons_succ])
          refine held_take (i := 7) (d := 63) (v := ?_) rfl rfl (by kernel_rfl) (by kernel_rfl) (by kernel_rfl) (fun _ _ _ h => h) (by kernel_rfl) hHeld ?_ ?_
          rotate_left
          · intro w' hSw
            obtain ⟨z0, z1⟩ := hSw
            go_simp
            first | done | with_reducible rfl
          (try simp only [Act.put, List.setIfInBounds_toArray, List.set_cons_zero, List.set_cons_succ])
          refine held_take (i := 8) (d := 64) (v := ?_) rfl rfl (by kernel_rfl) (by kernel_rfl) (by kernel_rfl) (fun _ _ _ h => h) (by kernel_rfl) hHeld ?_ ?_
          rotate_left
          · intro w' hSw
            obtain ⟨z0, z1⟩ := hSw
            go_simp
            first | done | with_reducible rfl
          (try simp only [Act.put, List.setIfInBounds_toArray, List.set_cons_zero, List.set_cons_succ])
          refine held_take (i := 9) (d := 65) (v := ?_) rfl rfl (by kernel_rfl) (by kernel_rfl) (by kernel_rfl) (fun _ _ _ h => h) (by kernel_rfl) hHeld ?_ ?_
          rotate_left
          · intro w' hSw
            obtain ⟨z0, z1⟩ := hSw
            go_simp
            first | done | with_reducible rfl
          (try simp only [Act.put, List.setIfInBounds_toArray, List.set_cons_zero, List.set_cons_succ])
          refine held_take (i := 10) (d := 66) (v := ?_) rfl rfl (by kernel_rfl) (by kernel_rfl) (by kernel_rfl) (fun _ _ _ h => h) (by kernel_rfl) hHeld ?_ ?_
          rotate_left
          · intro w' hSw
            obtain ⟨z0, z1⟩ := hSw
            go_simp
            first | done | with_reducible rfl
          (try simp only [Act.put, List.setIfInBounds_toArray, List.set_cons_zero, List.set_cons_succ])
          refine held_call (i := 11) rfl (by kernel_rfl) (by kernel_rfl) (fun K hK => ?_)
          go_simp
          (try dsimp only)
          refine hK.out _ _ ?_ (fun hHeld' => ?_)
          · (try dsimp only)
            exact ⟨(BX.out.cell (lt_of_cell Y0.out)).trans Y0.out, (BX.out.cell (lt_of_cell Y1.out)).trans Y1.out⟩
          clear hK K hHeld
          have hHeld := hHeld'
          clear hHeld'
          (try simp only [Act.put, List.setIfInBounds_toArray, List.set_cons_zero, List.set_cons_succ])
          refine held_call (i := 12) rfl (by kernel_rfl) (by kernel_rfl) (fun K hK => ?_)
          refine oper_app1 _ (by rfl) _ _ _ (by rfl) (w.heap.size + 12) 144 _ 3 24 Tryz.underlying141 info_pr (by rfl) (by omega) (.slice A3 (m + j) c3) (m + j) _ (by rfl) (own_gD HO3.out BX.out) [.int .i64 pw, .int .i64 pf, .int .i64 0] rfl (by intro u hu; simp at hu; rcases hu with rfl | rfl | rfl <;> rfl) wr.heap.size KX.out (by rfl) (by unfold maxLen; omega) (by omega) (Nat.le_trans hbs3 BX.out.size) ?_
          intro g8 cap8 w10 hown8 hgrow8 hlt8
          have HO8 := hide hown8
          have HG8 := hide hgrow8
          clear hown8 hgrow8 hlt8
          (try dsimp only)
          refine hK.out _ _ ?_ (fun hHeld' => ?_)
          · (try dsimp only)
            exact ⟨(HG8.out.cell HY.out.1 HnD.out), (HG8.out.cell HY.out.2 HnD.out)⟩
          clear hK K hHeld
          have hHeld := hHeld'
          clear hHeld'
          (try simp only [Act.put, List.setIfInBounds_toArray, List.set_cons_zero, List.set_cons_succ])
          refine held_take (i := 13) (d := 1) (v := ?_) rfl rfl (by kernel_rfl) (by kernel_rfl) (by kernel_rfl) (fun _ _ _ h => h) (by kernel_rfl) hHeld ?_ ?_
          rotate_left
          · intro w' hSw
            obtain ⟨z0, z1⟩ := hSw
            go_simp
            first | done | with_reducible rfl
          (try simp only [Act.put, List.setIfInBounds_toArray, List.set_cons_zero, List.set_cons_succ])
          refine wpAnyH_done (by kernel_rfl) ?_ _
          go_wp2
          go_roundg (5 - (j + 1))
          case measure => have := Hg3.out; omega
          case rel =>
            have hK10 : Blk w10 D 3 (Nf.dblD.map (Value.int .i64)).toArray := (HKd3.out.go BX.out).grown HG8.out HnD.out
            have hb10 : Below w.heap.size w w10 := (HB3.out.trans (BX.out.mono HB3.out.size)).grown HG8.out (HB3.out.trans (BX.out.mono HB3.out.size)).size (fun j' e => by have := (own_isT HO3.out j' e).1; omega)
            have hp : prVs (LL ++ Nf.doublesD.take (j + 1)) = prVs (LL ++ Nf.doublesD.take j) ++ [.int .i64 pw, .int .i64 pf, .int .i64 0] := by
              rw [HTk.out, ← List.append_assoc, prVs_app]
              rfl
            exact ⟨j + 1, k + 2, some ⟨g8, 0, none⟩, cap8, rfl, by omega, by have := HK.out; omega, by first | rfl | go_num, by rw [Nat.add_assoc], by rw [hp, ← Nat.add_assoc]; exact HO8.out, hK10, hb10, Nat.le_trans hbs3 (Nat.le_trans BX.out.size HG8.out.size), own_blk_ne (by rw [← Nat.add_assoc]; exact HO8.out) hK10 (by decide)⟩
        · have hj5' : j = 5 := by omega
          have hk10 : k = 10 := by have := HK.out; omega
          subst hj5'
          subst hk10
          have hl : Nf.pairsD.length = m + 5 := by rw [← HE.out, List.length_append, ← HLL.out, Nf.dAll_len, HM.out]; rfl
          have ho := HO3.out
          rw [List.take_of_length_le (show Nf.doublesD.length ≤ 5 from Nat.le_refl _), HE.out] at ho
          have HO4 := hide (ho.mono (Nat.le_add_right _ 12))
          have HL := hide hl
          clear ho hl
          go_wp2
          go_ret
          refine ⟨⟨A3, c3, by rw [HL.out]; rfl, ?_⟩, HB3.out⟩
          rw [HL.out]
          exact HO4.out
end Go.Proofs.YtlcfakmbcfdgbaaGreat
