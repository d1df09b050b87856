/- Bozo: a start. -/
import Derived.Test.YtaickkaoglohgaaBv04
import Derived.Test.YtaickkaoglohgaaBv16
import Derived.Test.YtaickkaoglohgaaBv29
import Derived.Test.YtaickkaoglohgaaBv32
import Derived.Deep.CutBlock
set_option linter.unusedSimpArgs false
set_option linter.unusedVariables false
namespace Go.Proofs.Ytaickkaoglohgaa
open Go.RowKit Tk Sx

/-- Two operations that the order leaves open: both ways. -/
theorem held_two {P : Program} {l : List Oper} {Q : Exit → Act → World → Prop} {md : Region.Mode} {S : World → Prop} {i j : Nat} {oi oj : Oper} {fuel : Nat} {listed : Array Bool} {a : Act} {w : World} (hi : l[i]? = some oi) (hj : l[j]? = some oj) (hr : Region.ready md l.toArray listed = [i, j]) (hwi : Region.wanted oi (yielded l.toArray a.tmps) = true) (hwj : Region.wanted oj (yielded l.toArray a.tmps) = true)
    (h1 : ∀ K' : Act → World → Prop, Shut (∀ a w, S w → (S w → wpAnyH P md l.toArray Q S fuel (listed.setIfInBounds i true) a w) → K' a w) → Oper.wp P oi a w K' Q)
    (h2 : ∀ K' : Act → World → Prop, Shut (∀ a w, S w → (S w → wpAnyH P md l.toArray Q S fuel (listed.setIfInBounds j true) a w) → K' a w) → Oper.wp P oj a w K' Q) : wpAnyH P md l.toArray Q S (fuel + 1) listed a w :=
  wpAnyH_ready hr (by simp) (AllReadyH.cons (o := oi) (by simpa using hi) (fun K hK => by rw [if_pos hwi]; exact h1 K hK) (AllReadyH.cons (o := oj) (by simpa using hj) (fun K hK => by rw [if_pos hwj]; exact h2 K hK) AllReadyH.nil))
/-- What start may have turned of the blocks that were there, up to its opening: the parser, rows of reasons and of scopes. -/
structure SMov (B P : Nat) (w w' : World) : Prop where
  os : w'.os = w.os
  tape : w'.tape = w.tape
  output : w'.output = w.output
  size : w.heap.size ≤ w'.heap.size
  block : ∀ k, k < w.heap.size → k ≠ P → ¬ (B ≤ k ∧ (IsT w k 47 ∨ IsT w k 97)) → w'.heap[k]? = w.heap[k]?
  keep : ∀ c, w.cell? ⟨P, 2, none⟩ = some c → w'.cell? ⟨P, 2, none⟩ = some c
section
variable {B P : Nat} {w w1 w' : World}
theorem RMov.smov (h : RMov B P w w') : SMov B P w w' := ⟨h.os, h.tape, h.output, h.size, fun k hk hP hn => h.block k hk hP fun hh => hn ⟨hh.1, .inl hh.2⟩, fun c hc => h.keep 2 c (by omega) (by omega) hc⟩
theorem SMov.bmov (h : SMov B P w w') : BMov B P w w' := ⟨h.os, h.tape, h.output, h.size, fun k hk hP hn => h.block k hk hP fun hh => hn ⟨hh.1, hh.2.elim (fun h => .inr (.inr (.inr h))) fun h => .inr (.inl h)⟩⟩
theorem SMov.trans (h : SMov B P w w1) (k : SMov B P w1 w') : SMov B P w w' := by
  refine ⟨k.os.trans h.os, k.tape.trans h.tape, k.output.trans h.output, Nat.le_trans h.size k.size, fun i hi hb hn => ?_, fun c hc => k.keep c (h.keep c hc)⟩
  have e := h.block i hi hb hn
  rw [k.block i (Nat.lt_of_lt_of_le hi h.size) hb ?_, e]
  rintro ⟨h1, h2⟩
  exact hn ⟨h1, h2.imp (fun h => isT_same h e.symm) fun h => isT_same h e.symm⟩
theorem SMov.blk {g t : Nat} {cs : Array Value} (h : SMov B P w w') (hg : Blk w g t cs) (hP : g ≠ P) (ht : t ≠ 47 ∧ t ≠ 97) : Blk w' g t cs :=
  (h.block g hg.lt hP (fun hh => hh.2.elim (fun h => isT_ne hg.isT h ht.1) fun h => isT_ne hg.isT h ht.2)).trans hg
theorem SMov.go (h : SMov B P w w1) (k : Below w1.heap.size w1 w') : SMov B P w w' := h.trans (RMov.of_below k).smov
theorem SMov.of_movt {t : Nat} {cs : Array Value} (h : MovT B 97 w w') (hP : Blk w P t cs) (ht : t ≠ 97) (u : Value) : SMov B P w (w'.setCell ⟨P, 3, none⟩ u) :=
  ⟨h.os, h.tape, h.output, by simpa [World.setCell] using h.size, fun k hk hP hn => (Below.heap_setCell _ _ _ _ (by omega)).trans (h.block k hk fun hh => hn ⟨hh.1, .inr hh.2⟩), fun c hc => by
    rw [World.cell?_setCell_other _ _ _ _ (by intro e; injection e with _ e; omega)]
    exact (World.cell?_of_block (a := ⟨P, 2, none⟩) (h.block P hP.lt fun hh => isT_ne hP.isT hh.2 ht)).trans hc⟩
theorem SMov.ao {p q : Bs} {v v' : Bv} (h : SMov B P w w') (hp : PB B P w p v) (hq : PB B P w' q v') : v'.Ao = v.Ao := by
  have h1 := h.keep _ hp.cell.2.2.1
  rw [hq.cell.2.2.1] at h1
  simp only [Option.some.injEq, Value.slice.injEq] at h1
  exact h1.1
end
theorem begun_ok2 {st : St} {el : El} {sc : List Dcl} {e : Ev} {n M m : Nat} (hk : Ok st n M) (h16 : st.open_.length < 16) (hs : sc.length ≤ m) (hg : st.scope.length ≤ sc.length) (hel : el.scope = st.scope.length) (hkd : e.kind = 0) (htx : e.text = []) : Ok ⟨st.open_ ++ [el], sc, putEv st.evs e, true⟩ (max m (n + 1)) M := by
  refine ⟨?_, by show sc.length ≤ _; omega, ?_, ?_, ?_, ?_⟩
  · show (st.open_ ++ [el]).length ≤ 16
    rw [List.length_append]
    simp; omega
  · have h1 := hk.ev
    exact Nat.le_trans (putEv_len st.evs e) (by omega)
  · exact putEv_tx (x := e) hk.tx (by rw [hkd]; decide) (by rw [htx]; simp)
  · intro x hx
    show x.scope ≤ sc.length
    rcases List.mem_append.1 hx with hx | hx
    · have := hk.in_ x hx; omega
    · rw [List.mem_singleton.1 hx, hel]; exact hg
  · show (st.open_ ++ [el]).Pairwise _
    rw [List.pairwise_append]
    refine ⟨hk.srt, List.pairwise_singleton _ _, fun a ha b hb => ?_⟩
    rw [List.mem_singleton.1 hb, hel]
    exact hk.in_ a ha
theorem elsB_snoc (l : List El) (x : El) : els (l ++ [x]) = els l ++ elCells x := by simp [els]
theorem elB_one (x : El) : ∀ u ∈ elCells x, u.oneCell' = true := by
  intro u hu
  simp only [elCells, List.mem_cons, List.not_mem_nil, or_false] at hu
  rcases hu with rfl | rfl | rfl | rfl <;> rfl
theorem dcls_snocB (l : List Dcl) (d : Dcl) : dcls (l ++ [d]) = dcls l ++ dclCells d := by simp [dcls]
theorem dcl_one (d : Dcl) : ∀ u ∈ dclCells d, u.oneCell' = true := by
  intro u hu
  simp only [dclCells, List.mem_cons, List.not_mem_nil, or_false] at hu
  rcases hu with rfl | rfl <;> rfl
/-- A store into an element that is none of the row's. -/
theorem PB.setEl {B P E : Nat} {W : World} {p : Bs} {v : Bv} {cs : Array Value} (h : PB B P W p v) (hE : Blk W E 77 cs) (hne : P ≠ E) (hA : ∀ a, v.Ao = some a → a.block ≠ E) (i : Nat) (u : Value) : PB B P (W.setCell ⟨E, i, none⟩ u) p v := by
  refine ⟨h.blk.far (p := ⟨E, i, none⟩) hne _, h.bp, ?_, own_far (p := ⟨E, i, none⟩) h.s hE (by decide) _, own_far (p := ⟨E, i, none⟩) h.e hE (by decide) _, own_far (p := ⟨E, i, none⟩) h.r hE (by decide) _, h.ev,
    fun x hx => (h.inn x hx).bmov ((BMov.refl B E W).setCell (p := ⟨E, i, none⟩) (.inl rfl) _) fun a ha e => by subst e; exact isT_ne ((h.inn x hx).ta a ha) hE.isT (by decide)⟩
  exact h.o.kept ⟨rfl, rfl, rfl, by simp [World.setCell], fun j _ hj => Below.heap_setCell _ _ _ _ (fun e => hj (by rw [e]))⟩ (by
    cases hv : v.Ao with
    | none => exact .inl rfl
    | some a' => exact .inr (fun e => hA a' hv (by simpa [Value.ownBlock] using e)))
set_option maxRecDepth 100000 in
set_option maxHeartbeats 32000000 in
theorem bstart_any (B P : Nat) (w : World) (p : Bs) (v : Bv) (n : Nat) (h : PB B P w p v) (hd : Gd B w) (hk : Ok p.st 80000000 10000000000000000) (hl : p.at_ + p.l.length ≤ 80000) (hr : p.rs.length ≤ 100000000) (h1 : 1 ≤ p.l.length) (hn : n ≤ (p.l.drop 1).length) (hns : ∀ d ∈ p.st.scope, d.ns.length ≤ 1000000) :
    Calls Try.prog 36 #[.pointer (some ⟨P, 0, none⟩), .int .i64 (n : Int)] w (BR B P w (Bz.startB n p) (.tuple #[])) := by
  have H := hide h
  have HD := hide hd
  have Hk := hide hk
  have Hl := hide hl
  have Hr := hide hr
  have H1 := hide h1
  have Hn := hide hn
  have Hns := hide hns
  obtain ⟨R, hR⟩ : ∃ R, Bz.startB n p = R := ⟨_, rfl⟩
  rw [hR]
  unfold Bz.startB at hR
  dsimp only at hR
  have z1 := h.cell.2.1
  clear h hd hk hl hr h1 hn hns
  obtain ⟨p1, hp1⟩ : ∃ q, Bz.cutB 1 p = q := ⟨_, rfl⟩
  obtain ⟨p2, hp2⟩ : ∃ q, Bz.cutB n p1 = q := ⟨_, rfl⟩
  rw [hp1, hp2] at hR
  have HR := hide hR
  have Hc1 := hide (Bz.len_cut (n := 1) (p := p) H1.out)
  have Hl1 : p1.l = p.l.drop 1 := by rw [← hp1]; rfl
  have Hc2 := hide (Bz.len_cut (n := n) (p := p1) (by rw [Hl1]; exact Hn.out))
  rw [hp1] at Hc1
  rw [hp2] at Hc2
  have Hs1 := hide (show p1.st = p.st ∧ p1.rs = p.rs by rw [← hp1]; exact ⟨rfl, rfl⟩)
  have Hs2 := hide (show p2.st = p.st ∧ p2.rs = p.rs by rw [← hp2, ← hp1]; exact ⟨rfl, rfl⟩)
  have HT := hide (fun W (v1 : Bv) (hW : PB B P W p1 v1) => btake_v B P W p1 v1 n hW (by rw [Hl1]; exact Hn.out) (by have := Hc1.out; have := Hl.out; omega))
  rw [hp2] at HT
  obtain ⟨nm, hnm⟩ : ∃ nm, (p.l.drop 1).take n = nm := ⟨_, rfl⟩
  rw [hnm] at HR
  rw [Hl1, hnm] at HT
  have Hnm := hide hnm
  clear hR Hl1 hp2 hnm
  go_enter Try.func36, Try.ntmps36
  go_wp2_with fail
  refine (btake_m B P w p v 1 H.out H1.out (by have := Hl.out; omega)).mono ?_
  rintro e w1 ⟨rfl, m1, v1, p1⟩
  have M1 := hide m1; have P1 := hide p1; clear m1 p1
  rw [hp1] at P1
  clear hp1 z1
  have hP1 := P1.out.blk.lt
  have HPl := hide hP1
  have c3 := P1.out.cell.2.2.2.1
  rw [Hs1.out.1] at c3
  have hEP : w1.heap.size ≠ P := by omega
  have hAE : ∀ a, v1.Ao = some a → a.block ≠ w1.heap.size := fun a ha => by have := (own_isT P1.out.o a.block (by rw [ha]; rfl)).2.lt; omega
  go_upto_region 2 with fail
  go_cut [5] (fun s5 wx => ∃ E, s5 = .pointer (some ⟨E, 0, none⟩) ∧ w.heap.size ≤ E ∧ E ≠ P ∧ Blk wx E 77 #[.string (bstr nm), .string ⟨#[]⟩, .string ⟨#[]⟩, .int .i64 (p.st.scope.length : Int)] ∧ (∃ v2, PB B P wx p2 v2 ∧ ∀ a, v2.Ao = some a → a.block ≠ E) ∧ RMov B P w wx)
  case first =>
    refine wp_region_held_drew (S := fun W' => W'.cell? ⟨P, 3, none⟩ = some (.slice v1.As p.st.scope.length v1.cs)) (by kernel_rfl) ?_ (fun hHeld => ?_)
    · (try dsimp only)
      exact c3
    change wpAnyH _ _ _ _ _ 11 #[false, false, false, false, false, false, false, false, false, false, false] _ _
    refine held_take (i := 0) (d := 19) (v := ?_) rfl rfl (by kernel_rfl) (by kernel_rfl) (by kernel_rfl) (fun _ _ _ h => h) (by kernel_rfl) hHeld ?_ ?_
    rotate_left
    · intro w hSw
      (try dsimp only at hSw)
      go_simp
      first | done | with_reducible rfl
    (try simp only [Act.put, List.setIfInBounds_toArray, List.set_cons_zero, List.set_cons_succ])
    refine held_take (i := 1) (d := 20) (v := ?_) rfl rfl (by kernel_rfl) (by kernel_rfl) (by kernel_rfl) (fun _ _ _ h => h) (by kernel_rfl) hHeld ?_ ?_
    rotate_left
    · intro w hSw
      (try dsimp only at hSw)
      go_simp
      first | done | with_reducible rfl
    (try simp only [Act.put, List.setIfInBounds_toArray, List.set_cons_zero, List.set_cons_succ])
    refine held_take (i := 3) (d := 22) (v := ?_) rfl rfl (by kernel_rfl) (by kernel_rfl) (by kernel_rfl) (fun _ _ _ h => h) (by kernel_rfl) hHeld ?_ ?_
    rotate_left
    · intro w hSw
      (try dsimp only at hSw)
      go_simp
      first | done | with_reducible rfl
    (try simp only [Act.put, List.setIfInBounds_toArray, List.set_cons_zero, List.set_cons_succ])
    refine held_take (i := 4) (d := 23) (v := ?_) rfl rfl (by kernel_rfl) (by kernel_rfl) (by kernel_rfl) (fun _ _ _ h => h) (by kernel_rfl) hHeld ?_ ?_
    rotate_left
    · intro w hSw
      (try dsimp only at hSw)
      go_simp
      first | done | with_reducible rfl
    (try simp only [Act.put, List.setIfInBounds_toArray, List.set_cons_zero, List.set_cons_succ])
    refine held_take (i := 5) (d := 24) (v := ?_) rfl rfl (by kernel_rfl) (by kernel_rfl) (by kernel_rfl) (fun _ _ _ h => h) (by kernel_rfl) hHeld ?_ ?_
    rotate_left
    · intro w hSw
      (try dsimp only at hSw)
      go_simp
      first | done | with_reducible rfl
    (try simp only [Act.put, List.setIfInBounds_toArray, List.set_cons_zero, List.set_cons_succ])
    refine held_take (i := 6) (d := 25) (v := ?_) rfl rfl (by kernel_rfl) (by kernel_rfl) (by kernel_rfl) (fun _ _ _ h => h) (by kernel_rfl) hHeld ?_ ?_
    rotate_left
    · intro w hSw
      (try dsimp only at hSw)
      go_simp
      first | done | with_reducible rfl
    (try simp only [Act.put, List.setIfInBounds_toArray, List.set_cons_zero, List.set_cons_succ])
    refine held_take (i := 7) (d := 26) (v := ?_) rfl rfl (by kernel_rfl) (by kernel_rfl) (by kernel_rfl) (fun _ _ _ h => h) (by kernel_rfl) hHeld ?_ ?_
    rotate_left
    · intro w hSw
      (try dsimp only at hSw)
      go_simp
      first | done | with_reducible rfl
    (try simp only [Act.put, List.setIfInBounds_toArray, List.set_cons_zero, List.set_cons_succ])
    refine held_two (i := 2) (j := 9) rfl rfl (by kernel_rfl) (by kernel_rfl) (by kernel_rfl) (fun K hK => ?_) (fun K hK => ?_)
    · go_simp
      refine (HT.out _ v1 (P1.out.go (Below.refl _ _).drew)).mono ?_
      rintro e w2 ⟨rfl, m2, hs2, p2'⟩
      have c3' := p2'.cell.2.2.2.1
      rw [Hs2.out.1] at c3'
      (try dsimp only)
      refine hK.out _ _ ?_ (fun hHeld' => ?_)
      · exact c3'
      clear hK K hHeld
      have hHeld := hHeld'
      clear hHeld'
      (try simp only [Act.put, List.setIfInBounds_toArray, List.set_cons_zero, List.set_cons_succ])
      refine held_take (i := 8) (d := 27) (v := ?_) rfl rfl (by kernel_rfl) (by kernel_rfl) (by kernel_rfl) (fun _ _ _ h => h) (by kernel_rfl) hHeld ?_ ?_
      rotate_left
      · intro w hSw
        (try dsimp only at hSw)
        go_simp
        first | done | with_reducible rfl
      (try simp only [Act.put, List.setIfInBounds_toArray, List.set_cons_zero, List.set_cons_succ])
      refine held_call (i := 9) rfl (by kernel_rfl) (by kernel_rfl) (fun K hK => ?_)
      go_simp
      (try dsimp only)
      refine hK.out _ _ ?_ (fun hHeld' => ?_)
      · (try dsimp only)
        exact (below_alloc w2 _).cell (p := ⟨P, 3, none⟩) p2'.blk.lt |>.trans c3'
      clear hK K hHeld
      have hHeld := hHeld'
      clear hHeld'
      (try simp only [Act.put, List.setIfInBounds_toArray, List.set_cons_zero, List.set_cons_succ])
      refine held_call (i := 10) rfl (by kernel_rfl) (by kernel_rfl) (fun K hK => ?_)
      go_simp
      refine hK.out _ _ ?_ (fun hHeld' => ?_)
      · exact (below_alloc w2 _).cell (p := ⟨P, 3, none⟩) p2'.blk.lt |>.trans c3'
      clear hK K hHeld
      have hHeld := hHeld'
      clear hHeld'
      (try simp only [Act.put, List.setIfInBounds_toArray, List.set_cons_zero, List.set_cons_succ])
      refine wpAnyH_done (by kernel_rfl) ?_ _
      (try simp only [Exit.then])
      (try refine Met.intro ?_)
      first
        | (rename_i hJ hM; refine hM _ _ (Met.intro ?_); refine hJ _ _ ?_)
        | (rename_i hJ; refine hJ _ _ ?_)
        | (rename_i hJ hT; refine hJ _ _ ?_)
        | (rename_i hJ hT hT2; refine hJ _ _ ?_)
        | (rename_i hJ hT hT2 hT3; refine hJ _ _ ?_)
      (repeat apply Exists.intro)
      refine ⟨⟨w1.heap.size, rfl, M1.out.size, hEP, ?_, ⟨v1, p2'.go (below_alloc w2 _), hAE⟩, (M1.out.trans ((RMov.refl B P w1).drew.trans m2)).alloc _⟩, rfl⟩
      have e := Blk.new w2 77 #[.string (bstr nm), .string ⟨#[]⟩, .string ⟨#[]⟩, .int .i64 (p.st.scope.length : Int)]
      rw [hs2] at e
      exact e
    · go_simp
      refine hK.out _ _ ?_ (fun hHeld' => ?_)
      · exact (below_alloc w1 _).cell (p := ⟨P, 3, none⟩) P1.out.blk.lt |>.trans c3
      clear hK K hHeld
      have hHeld := hHeld'
      clear hHeld'
      (try simp only [Act.put, List.setIfInBounds_toArray, List.set_cons_zero, List.set_cons_succ])
      refine held_call (i := 2) rfl (by kernel_rfl) (by kernel_rfl) (fun K hK => ?_)
      go_simp
      refine (HT.out _ v1 (P1.out.go ((below_alloc w1 _).trans (Below.refl _ _).drew))).mono ?_
      rintro e w2 ⟨rfl, m2, hs2, p2'⟩
      have c3' := p2'.cell.2.2.2.1
      rw [Hs2.out.1] at c3'
      have kE := m2.blk (show Blk (w1.alloc (Obj.cells #[.string ⟨#[]⟩, .string ⟨#[]⟩, .string ⟨#[]⟩, .int .i64 0] 77)).drew w1.heap.size 77 #[.string ⟨#[]⟩, .string ⟨#[]⟩, .string ⟨#[]⟩, .int .i64 0] from Blk.new w1 _ _) hEP (by decide)
      have e0 := kE.cell 0
      have e1 := kE.cell 1
      have e2 := kE.cell 2
      have e3 := kE.cell 3
      have g0 := kE.frozen 0
      have g1 := kE.frozen 1
      have g2 := kE.frozen 2
      have g3 := kE.frozen 3
      (try dsimp only)
      refine hK.out _ _ ?_ (fun hHeld' => ?_)
      · exact c3'
      clear hK K hHeld
      have hHeld := hHeld'
      clear hHeld'
      (try simp only [Act.put, List.setIfInBounds_toArray, List.set_cons_zero, List.set_cons_succ])
      refine held_take (i := 8) (d := 27) (v := ?_) rfl rfl (by kernel_rfl) (by kernel_rfl) (by kernel_rfl) (fun _ _ _ h => h) (by kernel_rfl) hHeld ?_ ?_
      rotate_left
      · intro w hSw
        (try dsimp only at hSw)
        go_simp
        first | done | with_reducible rfl
      (try simp only [Act.put, List.setIfInBounds_toArray, List.set_cons_zero, List.set_cons_succ])
      refine held_call (i := 10) rfl (by kernel_rfl) (by kernel_rfl) (fun K hK => ?_)
      go_simp
      have i0 := p2'.setEl kE hEP.symm hAE 0 (.string (bstr nm))
      have k0 := kE.set_ 0 (.string (bstr nm))
      have i1 := i0.setEl k0 hEP.symm hAE 1 (.string ⟨#[]⟩)
      have k1 := k0.set_ 1 (.string ⟨#[]⟩)
      have i2 := i1.setEl k1 hEP.symm hAE 2 (.string ⟨#[]⟩)
      have k2 := k1.set_ 2 (.string ⟨#[]⟩)
      have i3 := i2.setEl k2 hEP.symm hAE 3 (.int .i64 (p.st.scope.length : Int))
      have k3 := k2.set_ 3 (.int .i64 (p.st.scope.length : Int))
      refine hK.out _ _ ?_ (fun hHeld' => ?_)
      · have h9 := i3.cell.2.2.2.1
        rw [Hs2.out.1] at h9
        exact h9
      clear hK K hHeld
      have hHeld := hHeld'
      clear hHeld'
      (try simp only [Act.put, List.setIfInBounds_toArray, List.set_cons_zero, List.set_cons_succ])
      refine wpAnyH_done (by kernel_rfl) ?_ _
      (try simp only [Exit.then])
      (try refine Met.intro ?_)
      first
        | (rename_i hJ hM; refine hM _ _ (Met.intro ?_); refine hJ _ _ ?_)
        | (rename_i hJ; refine hJ _ _ ?_)
        | (rename_i hJ hT; refine hJ _ _ ?_)
        | (rename_i hJ hT hT2; refine hJ _ _ ?_)
        | (rename_i hJ hT hT2 hT3; refine hJ _ _ ?_)
      (repeat apply Exists.intro)
      exact ⟨⟨w1.heap.size, rfl, M1.out.size, hEP, k3, ⟨v1, i3, hAE⟩, ((((M1.out.trans ((RMov.refl B P w1).go ((below_alloc w1 _).trans (Below.refl _ _).drew))).trans m2).setCell (p := ⟨w1.heap.size, 0, none⟩) (.inr M1.out.size) _).setCell (p := ⟨w1.heap.size, 1, none⟩) (.inr M1.out.size) _).setCell (p := ⟨w1.heap.size, 2, none⟩) (.inr M1.out.size) _ |>.setCell (p := ⟨w1.heap.size, 3, none⟩) (.inr M1.out.size) _⟩, rfl⟩
  case rest =>
    obtain ⟨E, rfl, hwE, hEP, kE, ⟨v2, p2', hA2⟩, m2⟩ := hcut
    have P2 := hide p2'
    have A2 := hide hA2
    have K2 := hide kE
    have M2 := hide m2
    have HwE := hide hwE
    have HEP := hide hEP
    have Hp2 := hide (show p2.at_ + p2.l.length ≤ 80000 by have := Hc1.out; have := Hc2.out; have := Hl.out; omega)
    have Hr2 := hide (show p2.rs.length ≤ 100000000 by rw [Hs2.out.2]; exact Hr.out)
    have HTg0 := btag_any B P wc p2 v2 p.at_ P2.out (HD.out.bmov M2.out.bmov H.out.bp) (by have := Hp2.out; omega) (by have := Hp2.out; have := Hr2.out; omega)
    have hlen := Bz.len_tag p.at_ (p2.l.length + 1) [] p2
    have hst := Bz.tag_st p.at_ (p2.l.length + 1) [] p2
    have hR := HR.out
    obtain ⟨⟨ls, te, q3⟩, hT⟩ : ∃ r, Bz.tag p.at_ (p2.l.length + 1) [] p2 = r := ⟨_, rfl⟩
    rw [hT] at HTg0 hlen hst hR
    dsimp only at HTg0 hlen hst hR
    rw [Hs2.out.1] at hst
    have HTg := hide HTg0
    have Hlen := hide hlen
    have Hq3 := hide hst
    have HRs := hide hR
    clear p2' hA2 kE m2 hwE hEP HTg0 hlen hst hR hT c3 hAE hP1
    go_wp2_with fail
    refine HTg.out.mono ?_
    rintro e w3 ⟨A3, c3', v3, rfl, m3, p3, o3⟩
    have M3 := hide (M2.out.trans m3)
    have P3 := hide p3
    have O3 := hide o3
    have K3 := hide (m3.blk K2.out HEP.out (by decide))
    have A3' := hide (show ∀ a, v3.Ao = some a → a.block ≠ E by rw [m3.ao P2.out p3]; exact A2.out)
    have Hwc := hide (show wc.heap.size ≤ w3.heap.size from m3.size)
    obtain ⟨nl, hnl⟩ : ∃ n, ls.length = n := ⟨_, rfl⟩
    have Hnl := hide hnl
    dsimp only at O3
    rw [hnl] at O3
    dsimp only
    rw [hnl]
    have hR := HRs.out
    rw [hnl] at hR
    clear m3 p3 o3 hnl
    by_cases h16 : 16 < nl
    · rw [if_pos h16] at hR
      have HRE := hide hR
      have x8 := P3.out.cell.2.2.2.2.2.2.2.2
      have f8 := P3.out.frz 8
      clear hR
      go_wp2
      go_end0
      rw [← HRE.out]
      exact ⟨rfl, M3.out.bmov.setCell (p := ⟨P, 8, none⟩) (.inl rfl) _, v3, P3.out.put (q := { q3 with e := 42 }) 8 (.int .i64 42) rfl rfl rfl rfl rfl⟩
    rw [if_neg h16] at hR
    obtain ⟨no, hno⟩ : ∃ n, q3.st.open_.length = n := ⟨_, rfl⟩
    have Hno := hide hno
    rw [hno] at hR
    have c2 := P3.out.cell.2.2.1
    rw [hno] at c2
    clear hno
    by_cases ho : 16 ≤ no
    · rw [if_pos ho] at hR
      have HRE := hide hR
      have x8 := P3.out.cell.2.2.2.2.2.2.2.2
      have f8 := P3.out.frz 8
      clear hR
      go_wp2
      go_end0
      rw [← HRE.out]
      exact ⟨rfl, M3.out.bmov.setCell (p := ⟨P, 8, none⟩) (.inl rfl) _, v3, P3.out.put (q := { q3 with e := 41 }) 8 (.int .i64 41) rfl rfl rfl rfl rfl⟩
    rw [if_neg ho] at hR
    have HRE := hide hR
    have hst3 : q3.st = p.st := Hq3.out
    have Hrs3 := hide (show q3.rs.length ≤ 100000000 + 480001 by have := Hlen.out.2.1; have := Hr2.out; have := Hp2.out; omega)
    have Hls := hide (show ∀ x ∈ ls, x.name.length ≤ 80000 ∧ x.value.length ≤ 960000 from fun x hx => by
      rcases Hlen.out.2.2.1 x hx with h | h
      · cases h
      · have := Hp2.out
        omega)
    have Hnl16 := hide (show nl ≤ 16 by omega)
    have Hno16 := hide (show no < 16 by omega)
    have HOn0 := bonce_any B P wc.heap.size w3 q3 v3 ls A3 c3' P3.out (HD.out.bmov M3.out.bmov H.out.bp) (by rw [Hnl.out]; exact O3.out) (by rw [Hnl.out]; omega) (by have := Hrs3.out; omega) (fun x hx => Nat.le_trans (Hls.out x hx).1 (by decide))
    rw [Hnl.out] at HOn0
    have hon := Bz.once_st ls [] q3
    have hor := Bz.once_rs ls [] q3
    unfold Bz.begun at HRE
    dsimp only at HRE
    obtain ⟨⟨l4, q4⟩, hO⟩ : ∃ r, Bz.once [] ls q3 = r := ⟨_, rfl⟩
    rw [hO] at HOn0 hon hor HRE
    dsimp only at HOn0 hon hor HRE
    have HOn := hide HOn0
    have Hon := hide (show q4.st = p.st from hon.1.trans hst3)
    have Hl4 := hide (show ∀ x ∈ l4, x.name.length ≤ 80000 ∧ x.value.length ≤ 960000 from fun x hx => Hls.out x (hon.2.2.2 x hx))
    have Hn4 := hide (show l4.length ≤ 16 by have := hon.2.2.1; rw [Hnl.out] at this; have := Hnl16.out; omega)
    have Hrs4 := hide (show q4.rs.length ≤ 100000000 + 500000 by have := hor.1; rw [Hnl.out] at this; have := Hnl16.out; have := Hrs3.out; omega)
    clear HOn0 hon hor hO hR hst3
    go_wp2_with fail
    refine HOn.out.mono ?_
    rintro e w4 ⟨A4, c4, v4, rfl, m4, p4, o4⟩
    have M4 := hide (M3.out.trans m4)
    have P4 := hide p4
    have O4 := hide o4
    have K4 := hide (m4.blk K3.out HEP.out (by decide))
    have A4' := hide (show ∀ a, v4.Ao = some a → a.block ≠ E by rw [m4.ao P3.out p4]; exact A3'.out)
    obtain ⟨n4, hn4⟩ : ∃ n, l4.length = n := ⟨_, rfl⟩
    have HN4 := hide hn4
    dsimp only at O4
    rw [hn4] at O4 Hn4
    dsimp only
    rw [hn4]
    clear m4 p4 o4 hn4 c2 ho h16
    go_wp2
    go_loopg [56] n4 (fun gk vk wr => ∃ (k : Nat) (vr : Bv), gk = n4 - k ∧ k ≤ n4 ∧ vk = .int .i64 (k : Int) ∧ PB B P wr { q4 with st := ⟨q4.st.open_, Bz.declaredB q4.st.scope (l4.take k), q4.st.evs, q4.st.rooted⟩ } vr ∧ SMov B P w4 wr)
    case atStart => exact ⟨0, v4, rfl, by omega, rfl, P4.out, (RMov.refl B P w4).smov⟩
    case round =>
      obtain ⟨k, vr, hgk, hk, rfl, h1, h2⟩ := hrel
      have Hg := hide hgk
      have H1' := hide h1
      have H2 := hide h2
      clear hgk h1 h2
      by_cases hlt : k < n4
      · obtain ⟨x, hx⟩ : ∃ x, l4[k]? = some x := ⟨_, List.getElem?_eq_getElem (by rw [HN4.out]; exact hlt)⟩
        have Ol := H2.out.bmov.own O4.out P4.out.blk (by decide) (by decide)
        obtain ⟨lg, lc, hlv, hlb, hll⟩ := Ol.form (by omega)
        have hAl : A4 = some ⟨lg, 0, none⟩ := by injection hlv
        subst hAl
        have hce := at_cellsB Ol HN4.out hx
        have y0 : wr.cell? ⟨lg, k * 3, none⟩ = some (.string (bstr x.name)) := hce 0 (by omega)
        have y1 : wr.cell? ⟨lg, k * 3 + 1, none⟩ = some (.string (bstr x.value)) := hce 1 (by omega)
        have y2 : wr.cell? ⟨lg, k * 3 + 2, none⟩ = some (.int .i64 (x.at_ : Int)) := hce 2 (by omega)
        have hwk : IntKind.i64.wrap ((k : Int) + 1) = (k : Int) + 1 := IntWalk.i64_in _ (by have := Hn4.out; omega)
        have hts : l4.take (k + 1) = l4.take k ++ [x] := by
          obtain ⟨q1, q2⟩ := List.getElem?_eq_some_iff.1 hx
          rw [List.take_succ_eq_append_getElem q1, q2]
        have hsc := Bz.declaredB_snoc (l4.take k) x q4.st.scope
        rw [← hts] at hsc
        have HSc := hide hsc
        have Hkl := hide (show (Bz.declaredB q4.st.scope (l4.take k)).length ≤ 80000020 by
          have h1 := Bz.declaredB_len (l4.take k) q4.st.scope
          rw [List.length_take] at h1
          have h2 := Hk.out.sc
          rw [← Hon.out] at h2
          have := Hn4.out
          omega)
        have HKn := hide (show x.name.length ≤ 1000000000 from Nat.le_trans (Hl4.out x (List.mem_of_getElem? hx)).1 (by decide))
        have ba := below_alloc wr (.cells #[.string (bstr x.name), .string (bstr x.value), .int .i64 (x.at_ : Int)] 96)
        have KX := Blk.new wr 96 #[.string (bstr x.name), .string (bstr x.value), .int .i64 (x.at_ : Int)]
        obtain ⟨W1, hW1⟩ : ∃ W1, wr.alloc (.cells #[.string (bstr x.name), .string (bstr x.value), .int .i64 (x.at_ : Int)] 96) = W1 := ⟨_, rfl⟩
        rw [hW1] at ba KX
        have HPX := hide (show P ≠ wr.heap.size by have := H1'.out.blk.lt; omega)
        have I1 := hide (H1'.out.go ba)
        have M1' := hide (H2.out.go ba)
        have KX1 := hide KX
        have v0 := KX.cell 0
        have HDc := hide (bdecl_any x.name W1 (HD.out.bmov (M4.out.bmov.trans M1'.out.bmov) H.out.bp).g HKn.out)
        obtain ⟨X, hX⟩ : ∃ X, wr.heap.size = X := ⟨_, rfl⟩
        rw [hX] at KX1 v0 HPX
        obtain ⟨⟨dp, is⟩, hd⟩ : ∃ d, Bz.declB x.name = d := ⟨_, rfl⟩
        rw [hd] at HDc HSc
        dsimp only at HDc HSc
        obtain ⟨sc, hscE⟩ : ∃ sc, Bz.declaredB q4.st.scope (l4.take k) = sc := ⟨_, rfl⟩
        rw [hscE] at HSc I1 Hkl
        clear ba KX hx hce Ol hlv hd hts hsc hscE
        go_wp2_with fail
        refine HDc.out.mono ?_
        rintro e w5 ⟨rfl, b5⟩
        have I5 := hide (I1.out.go b5)
        have M5 := hide (M1'.out.go b5)
        have KX5 := hide (KX1.out.go b5)
        clear b5 v0 hW1 hX y0 y1 y2
        cases is with
        | false =>
          go_wp2
          go_roundg (n4 - (k + 1))
          case measure => have := Hg.out; omega
          case rel => exact ⟨k + 1, vr, rfl, by omega, by first | rfl | go_num, by rw [HSc.out, if_neg (by simp)]; exact I5.out, M5.out⟩
        | true =>
          have c3s : w5.cell? ⟨P, 3, none⟩ = some (.slice vr.As sc.length vr.cs) := I5.out.cell.2.2.2.1
          have x1s : w5.cell? ⟨X, 1, none⟩ = some (.string (bstr x.value)) := KX5.out.cell 1
          have C3 := hide c3s
          have X1 := hide x1s
          have OO := hide (show w5.ownsRow B 97 2 (.slice vr.As sc.length vr.cs) sc.length (dcls sc) from I5.out.s)
          obtain ⟨ns, hns⟩ : ∃ ns, sc.length = ns := ⟨_, rfl⟩
          rw [hns] at C3 OO Hkl
          have Hns' := hide hns
          clear c3s x1s hns
          go_wp2
          have xb : Below w5.heap.size w5 (w5.drew.alloc (.cells #[.string (bstr dp), .string (bstr x.value)] 97)) := (Below.refl _ _).drew.alloc (Nat.le_refl _) _
          have BX := hide xb
          have KY := hide (show Blk (w5.drew.alloc (.cells #[.string (bstr dp), .string (bstr x.value)] 97)) w5.heap.size 97 #[.string (bstr dp), .string (bstr x.value)] from Blk.new w5.drew 97 _)
          clear xb
          refine wp_region_B 13 (fun W' => W'.cell? ⟨P, 3, none⟩ = some (.slice vr.As ns vr.cs) ∧ W'.cell? ⟨X, 1, none⟩ = some (.string (bstr x.value))) (by kernel_rfl) ?_ (fun hHeld => ?_)
          · (try dsimp only)
            exact ⟨C3.out, X1.out⟩
          change wpAnyB _ _ _ _ _ _ 14 #[false, false, false, false, false, false, false, false, false, false, false, false, false, false] _ _
          refine heldB_free (i := 0) (d := 67) (v := ?_) rfl rfl (by kernel_rfl) (by kernel_rfl) (by kernel_rfl) (fun _ _ _ h => h) (by kernel_rfl) (by kernel_rfl) (.inr hHeld) ?_ ?_
          rotate_left
          · intro w'
            go_simp
            first | done | with_reducible rfl
          (try simp only [Act.put, List.setIfInBounds_toArray, List.set_cons_zero, List.set_cons_succ])
          refine heldB_free (i := 1) (d := 68) (v := ?_) rfl rfl (by kernel_rfl) (by kernel_rfl) (by kernel_rfl) (fun _ _ _ h => h) (by kernel_rfl) (by kernel_rfl) (.inr hHeld) ?_ ?_
          rotate_left
          · intro w'
            go_simp
            first | done | with_reducible rfl
          (try simp only [Act.put, List.setIfInBounds_toArray, List.set_cons_zero, List.set_cons_succ])
          refine heldB_free (i := 2) (d := 69) (v := ?_) rfl rfl (by kernel_rfl) (by kernel_rfl) (by kernel_rfl) (fun _ _ _ h => h) (by kernel_rfl) (by kernel_rfl) (.inr hHeld) ?_ ?_
          rotate_left
          · intro w'
            go_simp
            first | done | with_reducible rfl
          (try simp only [Act.put, List.setIfInBounds_toArray, List.set_cons_zero, List.set_cons_succ])
          refine heldB_free (i := 3) (d := 70) (v := ?_) rfl rfl (by kernel_rfl) (by kernel_rfl) (by kernel_rfl) (fun _ _ _ h => h) (by kernel_rfl) (by kernel_rfl) (.inr hHeld) ?_ ?_
          rotate_left
          · intro w'
            go_simp
            first | done | with_reducible rfl
          (try simp only [Act.put, List.setIfInBounds_toArray, List.set_cons_zero, List.set_cons_succ])
          refine heldB_take (i := 4) (d := 71) (v := ?_) rfl rfl (by kernel_rfl) (by kernel_rfl) (by kernel_rfl) (fun _ _ _ h => h) (by kernel_rfl) (by kernel_rfl) hHeld ?_ ?_
          rotate_left
          · intro w' hSw
            obtain ⟨z0, z1⟩ := hSw
            go_simp
            first | done | with_reducible rfl
          (try simp only [Act.put, List.setIfInBounds_toArray, List.set_cons_zero, List.set_cons_succ])
          refine heldB_free (i := 5) (d := 72) (v := ?_) rfl rfl (by kernel_rfl) (by kernel_rfl) (by kernel_rfl) (fun _ _ _ h => h) (by kernel_rfl) (by kernel_rfl) (.inr hHeld) ?_ ?_
          rotate_left
          · intro w'
            go_simp
            first | done | with_reducible rfl
          (try simp only [Act.put, List.setIfInBounds_toArray, List.set_cons_zero, List.set_cons_succ])
          refine heldB_free (i := 6) (d := 73) (v := ?_) rfl rfl (by kernel_rfl) (by kernel_rfl) (by kernel_rfl) (fun _ _ _ h => h) (by kernel_rfl) (by kernel_rfl) (.inr hHeld) ?_ ?_
          rotate_left
          · intro w'
            go_simp
            first | done | with_reducible rfl
          (try simp only [Act.put, List.setIfInBounds_toArray, List.set_cons_zero, List.set_cons_succ])
          refine heldB_take (i := 7) (d := 74) (v := ?_) rfl rfl (by kernel_rfl) (by kernel_rfl) (by kernel_rfl) (fun _ _ _ h => h) (by kernel_rfl) (by kernel_rfl) hHeld ?_ ?_
          rotate_left
          · intro w' hSw
            obtain ⟨z0, z1⟩ := hSw
            go_simp
            first | done | with_reducible rfl
          (try simp only [Act.put, List.setIfInBounds_toArray, List.set_cons_zero, List.set_cons_succ])
          refine heldB_free (i := 8) (d := 75) (v := ?_) rfl rfl (by kernel_rfl) (by kernel_rfl) (by kernel_rfl) (fun _ _ _ h => h) (by kernel_rfl) (by kernel_rfl) (.inr hHeld) ?_ ?_
          rotate_left
          · intro w'
            go_simp
            first | done | with_reducible rfl
          (try simp only [Act.put, List.setIfInBounds_toArray, List.set_cons_zero, List.set_cons_succ])
          refine heldB_call (i := 9) rfl (by kernel_rfl) (by kernel_rfl) (fun K hK => ?_)
          go_simp
          (try dsimp only)
          refine hK.out _ _ ?_ (fun hHeld' => ?_)
          · (try dsimp only)
            exact ⟨(BX.out.cell (lt_of_cell C3.out)).trans C3.out, (BX.out.cell (lt_of_cell X1.out)).trans X1.out⟩
          clear hK K hHeld
          have hHeld := hHeld'
          clear hHeld'
          (try simp only [Act.put, List.setIfInBounds_toArray, List.set_cons_zero, List.set_cons_succ])
          refine heldB_call (i := 10) rfl (by kernel_rfl) (by kernel_rfl) (fun K hK => ?_)
          refine oper_append_elem _ (by rfl) _ _ _ (by rfl) B 97 _ 2 32 Try.underlying50 info_dcl (by rfl) (by omega) (.slice vr.As ns vr.cs) ns (dcls sc) (by rfl) (own_go OO.out BX.out) [.string (bstr dp), .string (bstr x.value)] rfl (dcl_one ⟨dp, x.value⟩) w5.heap.size KY.out (by rfl) (by unfold maxLen; have := Hkl.out; omega) (by have := Hkl.out; omega) (Nat.le_trans HD.out.hB (Nat.le_trans (M4.out.bmov.trans M5.out.bmov).size BX.out.size)) ?_
          intro g8 cap8 w8 hown8 hgrow8 hlt8
          have HO8 := hide hown8
          have hnP : some P ≠ (Value.slice vr.As ns vr.cs).ownBlock := fun e => own_blk_ne (own_go OO.out BX.out) (I5.out.blk.go BX.out) (by decide) e.symm
          have hnX : some X ≠ (Value.slice vr.As ns vr.cs).ownBlock := fun e => own_blk_ne (own_go OO.out BX.out) (KX5.out.go BX.out) (by decide) e.symm
          have KX8 := hide ((KX5.out.go BX.out).grown hgrow8 hnX)
          have PB8 := hide ((I5.out.blk.go BX.out).grown hgrow8 hnP)
          have MT8 := hide (show MovT B 97 w5 w8 from (MovT.of_below BX.out).trans (.grown hgrow8 fun j hj => own_isT (own_go OO.out BX.out) j hj))
          clear hown8 hgrow8 hlt8
          (try dsimp only)
          refine hK.out _ _ ?_ (fun hHeld' => ?_)
          · (try dsimp only)
            exact ⟨by rw [← Hns'.out]; exact PB8.out.cell 3, KX8.out.cell 1⟩
          clear hK K hHeld
          have hHeld := hHeld'
          clear hHeld'
          (try simp only [Act.put, List.setIfInBounds_toArray, List.set_cons_zero, List.set_cons_succ])
          refine heldB_free (i := 11) (d := 78) (v := ?_) rfl rfl (by kernel_rfl) (by kernel_rfl) (by kernel_rfl) (fun _ _ _ h => h) (by kernel_rfl) (by kernel_rfl) (.inr hHeld) ?_ ?_
          rotate_left
          · intro w'
            go_simp
            first | done | with_reducible rfl
          (try simp only [Act.put, List.setIfInBounds_toArray, List.set_cons_zero, List.set_cons_succ])
          refine heldB_free (i := 12) (d := 79) (v := ?_) rfl rfl (by kernel_rfl) (by kernel_rfl) (by kernel_rfl) (fun _ _ _ h => h) (by kernel_rfl) (by kernel_rfl) (.inr hHeld) ?_ ?_
          rotate_left
          · intro w'
            go_simp
            first | done | with_reducible rfl
          (try simp only [Act.put, List.setIfInBounds_toArray, List.set_cons_zero, List.set_cons_succ])
          have q3' : w8.cell? ⟨P, 3, none⟩ = some _ := PB8.out.cell 3
          have f3' := PB8.out.frozen 3
          refine heldB_last (i := 13) rfl (by kernel_rfl) (by kernel_rfl) (by kernel_rfl) (fun K hK => ?_)
          go_simp
          (try dsimp only)
          refine hK.out _ _ ?_
          clear hK K
          (try simp only [Act.put, List.setIfInBounds_toArray, List.set_cons_zero, List.set_cons_succ])
          refine heldB_done (by kernel_rfl) ?_ _
          have hlen : (sc ++ [(⟨dp, x.value⟩ : Dcl)]).length = ns + 1 := by rw [List.length_append, Hns'.out]; rfl
          have ho8 : w8.ownsRow B 97 2 (.slice (some ⟨g8, 0, none⟩) (sc ++ [(⟨dp, x.value⟩ : Dcl)]).length cap8) (sc ++ [(⟨dp, x.value⟩ : Dcl)]).length (dcls (sc ++ [⟨dp, x.value⟩])) := by
            rw [dcls_snocB, hlen]
            exact HO8.out
          have i8 := I5.out.setS MT8.out ho8
          rw [hlen] at i8
          have I8 := hide i8
          clear hlen ho8 i8 q3' f3'
          go_wp2
          go_roundg (n4 - (k + 1))
          case measure => have := Hg.out; omega
          case rel => exact ⟨k + 1, _, rfl, by omega, by first | rfl | go_num, by rw [HSc.out]; simp only [if_true]; exact I8.out, M5.out.trans (SMov.of_movt MT8.out I5.out.blk (by decide) _)⟩
      · have hall : k = n4 := by omega
        subst hall
        have h6 := H1'.out
        rw [List.take_of_length_le (by rw [HN4.out]; exact Nat.le_refl _)] at h6
        have hq5l : q4.rs.length ≤ 100500000 := Hrs4.out
        have hscl : (Bz.declaredB q4.st.scope l4).length ≤ 80000020 := by
          have h1 := Bz.declaredB_len l4 q4.st.scope
          rw [HN4.out] at h1
          have h2 := Hk.out.sc
          rw [← Hon.out] at h2
          have := Hn4.out
          omega
        have hscg : p.st.scope.length ≤ (Bz.declaredB q4.st.scope l4).length := by
          have h := Bz.declaredB_ge l4 q4.st.scope
          have e : q4.st.scope.length = p.st.scope.length := by rw [Hon.out]
          omega
        have hdns : ∀ d ∈ Bz.declaredB q4.st.scope l4, d.ns.length ≤ 1000000 := Bz.declaredB_ns l4 _ (by rw [Hon.out]; exact Hns.out) (fun x hx => Nat.le_trans (Hl4.out x hx).2 (by decide))
        obtain ⟨q5, hq5⟩ : ∃ q, ({ q4 with st := ⟨q4.st.open_, Bz.declaredB q4.st.scope l4, q4.st.evs, q4.st.rooted⟩ } : Bs) = q := ⟨_, rfl⟩
        rw [hq5] at h6 HRE
        have P6 := hide h6
        have Hq5 := hide (show q5.st.open_ = p.st.open_ ∧ q5.st.evs = p.st.evs ∧ q5.rs.length ≤ 100500000 ∧ q5.st.scope.length ≤ 80000020 ∧ (∀ d ∈ q5.st.scope, d.ns.length ≤ 1000000) ∧ p.st.scope.length ≤ q5.st.scope.length by
          rw [← hq5]
          exact ⟨by show q4.st.open_ = _; rw [Hon.out], by show q4.st.evs = _; rw [Hon.out], hq5l, hscl, hdns, hscg⟩)
        have M6 := hide (M4.out.bmov.trans H2.out.bmov)
        have K6 := hide (H2.out.blk K4.out HEP.out (by decide))
        have A6 := hide (show ∀ a, vr.Ao = some a → a.block ≠ E by rw [H2.out.ao P4.out h6]; exact A4'.out)
        have O6 := hide (H2.out.bmov.own O4.out P4.out.blk (by decide) (by decide))
        have hnmL : nm.length ≤ 80000 := by rw [← Hnm.out, List.length_take, List.length_drop]; have := Hl.out; omega
        have HNa0 := bname_r B P wr q5 vr nm false p.at_ P6.out (HD.out.bmov M6.out H.out.bp) (by omega) (by have := Hq5.out.2.2.1; omega) (by have := Hq5.out.2.2.2.1; omega)
        have hnst := name_stq nm false p.at_ q5
        have hnrs := name_rs nm false p.at_ q5
        obtain ⟨⟨nv, q6⟩, hna⟩ : ∃ y, Bz.name nm false p.at_ q5 = y := ⟨_, rfl⟩
        rw [hna] at HNa0 HRE hnst hnrs
        dsimp only at HNa0 HRE hnst hnrs
        have HNa := hide HNa0
        have Hnst := hide hnst
        have Hnrs := hide (show q6.rs.length ≤ 100500001 by have := Hq5.out.2.2.1; omega)
        have HREh := hide HRE
        have e0 : wr.cell? ⟨E, 0, none⟩ = some (.string (bstr nm)) := K6.out.cell 0
        clear h6 hq5l hscl hscg hdns hq5 hnmL HNa0 hnst hnrs hna HRE
        go_wp2_with fail
        refine HNa.out.mono ?_
        rintro e w7 ⟨rfl, m7, v7, p7, x7⟩
        have M7 := hide (M6.out.trans m7.bmov)
        have P7 := hide p7
        have K7 := hide (m7.blk K6.out HEP.out (by decide))
        have A7 := hide (show ∀ a, v7.Ao = some a → a.block ≠ E by rw [x7.o.1]; exact A6.out)
        have O7 := hide (m7.bmov.own O6.out P6.out.blk (by decide) (by decide))
        clear m7 p7 x7 e0
        unfold nmV
        have i8 := P7.out.setEl K7.out HEP.out.symm A7.out 1 (.string (bstr nv.ns))
        have k8 := K7.out.set_ 1 (.string (bstr nv.ns))
        have i9 := i8.setEl k8 HEP.out.symm A7.out 2 (.string (bstr nv.loc))
        have k9 := k8.set_ 2 (.string (bstr nv.loc))
        have o9 := own_far (p := ⟨E, 2, none⟩) (own_far (p := ⟨E, 1, none⟩) O7.out K7.out (by decide) (.string (bstr nv.ns))) k8 (by decide) (.string (bstr nv.loc))
        have m9 := (M7.out.setCell (p := ⟨E, 1, none⟩) (.inr HwE.out) (.string (bstr nv.ns))).setCell (p := ⟨E, 2, none⟩) (.inr HwE.out) (.string (bstr nv.loc))
        have x1s := K7.out.cell 1
        have x2s := K7.out.cell 2
        have f1s := K7.out.frozen 1
        have f2s := K7.out.frozen 2
        obtain ⟨W9, hW9⟩ : ∃ W9, (w7.setCell ⟨E, 1, none⟩ (.string (bstr nv.ns))).setCell ⟨E, 2, none⟩ (.string (bstr nv.loc)) = W9 := ⟨_, rfl⟩
        rw [hW9] at i9 k9 o9 m9
        have P9 := hide i9
        have K9 := hide k9
        have O9 := hide o9
        have M9 := hide m9
        have HAt0 := battrs_any B P w3.heap.size W9 q6 v7 l4 A4 c4 P9.out (HD.out.bmov M9.out H.out.bp) (by rw [HN4.out]; exact O9.out) (by rw [HN4.out]; have := Hn4.out; omega) (by have := Hnrs.out; omega) (fun x hx => Nat.le_trans (Hl4.out x hx).1 (by decide)) (by rw [Hnst.out]; have := Hq5.out.2.2.2.1; omega) (fun d hd => Nat.le_trans (Hq5.out.2.2.2.2.1 d (by rw [← Hnst.out]; exact hd)) (by decide))
        rw [HN4.out] at HAt0
        have hast := Bz.attrs_st l4 [] q6
        obtain ⟨⟨as9, q7⟩, hat⟩ : ∃ y, Bz.attrsB [] l4 q6 = y := ⟨_, rfl⟩
        have hRE := HREh.out
        rw [hat] at HAt0 hast hRE
        dsimp only at HAt0 hast hRE
        have HAt := hide HAt0
        have Hast := hide (show q7.st = q5.st from hast.1.trans Hnst.out)
        have HRE := hide hRE
        clear i8 k8 i9 k9 o9 m9 HAt0 hast hat hRE
        go_wp2_with fail
        refine HAt.out.mono ?_
        rintro e w10 ⟨A9, c9, v10, rfl, m10, p10, o10⟩
        have M10 := hide (M9.out.trans m10.bmov)
        have P10 := hide p10
        have K10 := hide (m10.blk K9.out HEP.out (by decide))
        have A10 := hide (show ∀ a, v10.Ao = some a → a.block ≠ E by rw [m10.ao P9.out p10]; exact A7.out)
        have O10 := hide (show w10.ownsRow W9.heap.size 41 3 (.slice A9 as9.length c9) as9.length (atts as9) from o10)
        have HW9 := hide (show w.heap.size ≤ W9.heap.size from M9.out.size)
        obtain ⟨n9, hn9⟩ : ∃ n, as9.length = n := ⟨_, rfl⟩
        have Hn9 := hide hn9
        rw [hn9] at O10
        dsimp only
        rw [hn9]
        clear m10 p10 o10 hn9 hW9 x1s x2s f1s f2s
        obtain ⟨el, helE⟩ : ∃ el : El, (⟨nm, nv, p.st.scope.length⟩ : El) = el := ⟨_, rfl⟩
        have K10' : Hid (Blk w10 E 77 (elCells el).toArray) := hide (by rw [← helE]; exact K10.out)
        have hRE := HRE.out
        rw [helE] at hRE
        have HRE2 := hide hRE
        have HelS := hide (show el.scope = p.st.scope.length by rw [← helE])
        have HelN := hide (show el.name = nv by rw [← helE])
        have Hop := hide (show q7.st.open_ = p.st.open_ by rw [Hast.out]; exact Hq5.out.1)
        obtain ⟨np, hnp⟩ : ∃ n, q7.st.open_.length = n := ⟨_, rfl⟩
        have Hnp := hide hnp
        have Hnp16 := hide (show np ≤ 16 by rw [← hnp, Hop.out]; exact Hk.out.op)
        have C2 := hide (show w10.cell? ⟨P, 2, none⟩ = some (.slice v10.Ao np v10.co) by rw [← hnp]; exact P10.out.cell.2.2.1)
        have OO := hide (show w10.ownsRow B 77 4 (.slice v10.Ao np v10.co) np (els q7.st.open_) by rw [← hnp]; exact P10.out.o)
        clear hRE helE hnp
        go_upto_region 18 with fail
        go_cut [] (fun wx => ∃ v, PB B P wx { q7 with st := ⟨q7.st.open_ ++ [el], q7.st.scope, q7.st.evs, true⟩, junk := false } v ∧ Blk wx E 77 (elCells el).toArray ∧ wx.ownsRow w.heap.size 41 3 (.slice A9 n9 c9) n9 (atts as9) ∧ BMov B P w wx)
        case first =>
          have xb : Below w10.heap.size w10 (w10.drew.alloc (.cells (elCells el).toArray 77)) := (Below.refl _ _).drew.alloc (Nat.le_refl _) _
          have BX := hide xb
          have KX := hide (show Blk (w10.drew.alloc (.cells (elCells el).toArray 77)) w10.heap.size 77 (elCells el).toArray from Blk.new w10.drew 77 _)
          have KC := hide (show w10.cell? ⟨E, 0, none⟩ = some (.string (bstr el.written)) ∧ w10.cell? ⟨E, 1, none⟩ = some (.string (bstr el.name.ns)) ∧ w10.cell? ⟨E, 2, none⟩ = some (.string (bstr el.name.loc)) ∧ w10.cell? ⟨E, 3, none⟩ = some (.int .i64 (el.scope : Int)) from ⟨K10'.out.cell 0, K10'.out.cell 1, K10'.out.cell 2, K10'.out.cell 3⟩)
          clear xb
          refine wp_region_B 12 (fun W' => W'.cell? ⟨P, 2, none⟩ = some (.slice v10.Ao np v10.co) ∧ W'.cell? ⟨E, 0, none⟩ = some (.string (bstr el.written)) ∧ W'.cell? ⟨E, 1, none⟩ = some (.string (bstr el.name.ns)) ∧ W'.cell? ⟨E, 2, none⟩ = some (.string (bstr el.name.loc)) ∧ W'.cell? ⟨E, 3, none⟩ = some (.int .i64 (el.scope : Int))) (by kernel_rfl) ?_ (fun hHeld => ?_)
          · (try dsimp only)
            exact ⟨C2.out, KC.out.1, KC.out.2.1, KC.out.2.2.1, KC.out.2.2.2⟩
          change wpAnyB _ _ _ _ _ _ 19 #[false, false, false, false, false, false, false, false, false, false, false, false, false, false, false, false, false, false, false] _ _
          refine heldB_free (i := 0) (d := 90) (v := ?_) rfl rfl (by kernel_rfl) (by kernel_rfl) (by kernel_rfl) (fun _ _ _ h => h) (by kernel_rfl) (by kernel_rfl) (.inr hHeld) ?_ ?_
          rotate_left
          · intro w'
            go_simp
            first | done | with_reducible rfl
          (try simp only [Act.put, List.setIfInBounds_toArray, List.set_cons_zero, List.set_cons_succ])
          refine heldB_free (i := 1) (d := 91) (v := ?_) rfl rfl (by kernel_rfl) (by kernel_rfl) (by kernel_rfl) (fun _ _ _ h => h) (by kernel_rfl) (by kernel_rfl) (.inr hHeld) ?_ ?_
          rotate_left
          · intro w'
            go_simp
            first | done | with_reducible rfl
          (try simp only [Act.put, List.setIfInBounds_toArray, List.set_cons_zero, List.set_cons_succ])
          refine heldB_free (i := 2) (d := 92) (v := ?_) rfl rfl (by kernel_rfl) (by kernel_rfl) (by kernel_rfl) (fun _ _ _ h => h) (by kernel_rfl) (by kernel_rfl) (.inr hHeld) ?_ ?_
          rotate_left
          · intro w'
            go_simp
            first | done | with_reducible rfl
          (try simp only [Act.put, List.setIfInBounds_toArray, List.set_cons_zero, List.set_cons_succ])
          refine heldB_free (i := 3) (d := 93) (v := ?_) rfl rfl (by kernel_rfl) (by kernel_rfl) (by kernel_rfl) (fun _ _ _ h => h) (by kernel_rfl) (by kernel_rfl) (.inr hHeld) ?_ ?_
          rotate_left
          · intro w'
            go_simp
            first | done | with_reducible rfl
          (try simp only [Act.put, List.setIfInBounds_toArray, List.set_cons_zero, List.set_cons_succ])
          refine heldB_free (i := 4) (d := 94) (v := ?_) rfl rfl (by kernel_rfl) (by kernel_rfl) (by kernel_rfl) (fun _ _ _ h => h) (by kernel_rfl) (by kernel_rfl) (.inr hHeld) ?_ ?_
          rotate_left
          · intro w'
            go_simp
            first | done | with_reducible rfl
          (try simp only [Act.put, List.setIfInBounds_toArray, List.set_cons_zero, List.set_cons_succ])
          refine heldB_free (i := 5) (d := 95) (v := ?_) rfl rfl (by kernel_rfl) (by kernel_rfl) (by kernel_rfl) (fun _ _ _ h => h) (by kernel_rfl) (by kernel_rfl) (.inr hHeld) ?_ ?_
          rotate_left
          · intro w'
            go_simp
            first | done | with_reducible rfl
          (try simp only [Act.put, List.setIfInBounds_toArray, List.set_cons_zero, List.set_cons_succ])
          refine heldB_take (i := 6) (d := 96) (v := ?_) rfl rfl (by kernel_rfl) (by kernel_rfl) (by kernel_rfl) (fun _ _ _ h => h) (by kernel_rfl) (by kernel_rfl) hHeld ?_ ?_
          rotate_left
          · intro w' hSw
            obtain ⟨z0, z1, z2, z3, z4⟩ := hSw
            go_simp
            first | done | with_reducible rfl
          (try simp only [Act.put, List.setIfInBounds_toArray, List.set_cons_zero, List.set_cons_succ])
          refine heldB_take (i := 7) (d := 97) (v := ?_) rfl rfl (by kernel_rfl) (by kernel_rfl) (by kernel_rfl) (fun _ _ _ h => h) (by kernel_rfl) (by kernel_rfl) hHeld ?_ ?_
          rotate_left
          · intro w' hSw
            obtain ⟨z0, z1, z2, z3, z4⟩ := hSw
            go_simp
            first | done | with_reducible rfl
          (try simp only [Act.put, List.setIfInBounds_toArray, List.set_cons_zero, List.set_cons_succ])
          refine heldB_call (i := 8) rfl (by kernel_rfl) (by kernel_rfl) (fun K hK => ?_)
          go_simp
          (try dsimp only)
          refine hK.out _ _ ?_ (fun hHeld' => ?_)
          · (try dsimp only)
            exact ⟨(BX.out.cell (lt_of_cell C2.out)).trans C2.out, (BX.out.cell (lt_of_cell KC.out.1)).trans KC.out.1, (BX.out.cell (lt_of_cell KC.out.2.1)).trans KC.out.2.1, (BX.out.cell (lt_of_cell KC.out.2.2.1)).trans KC.out.2.2.1, (BX.out.cell (lt_of_cell KC.out.2.2.2)).trans KC.out.2.2.2⟩
          clear hK K hHeld
          have hHeld := hHeld'
          clear hHeld'
          (try simp only [Act.put, List.setIfInBounds_toArray, List.set_cons_zero, List.set_cons_succ])
          refine heldB_call (i := 9) rfl (by kernel_rfl) (by kernel_rfl) (fun K hK => ?_)
          refine oper_append_elem _ (by rfl) _ _ _ (by rfl) B 77 _ 4 56 Try.underlying49 info_bel (by rfl) (by omega) (.slice v10.Ao np v10.co) np (els q7.st.open_) (by rfl) (own_go OO.out BX.out) (elCells el) rfl (elB_one el) w10.heap.size KX.out (by rfl) (by unfold maxLen; have := Hnp16.out; omega) (by have := Hnp16.out; omega) (Nat.le_trans HD.out.hB (Nat.le_trans M10.out.size BX.out.size)) ?_
          intro g8 cap8 w11 hown8 hgrow8 hlt8
          have HO8 := hide hown8
          have hne8 : ∀ j, (Value.slice v10.Ao np v10.co).ownBlock = some j → j ≠ E := fun j hj => by
            cases hA : v10.Ao with
            | none => rw [hA] at hj; cases hj
            | some a => rw [hA] at hj; simp only [Value.ownBlock, Option.some.injEq] at hj; rw [← hj]; exact A10.out a hA
          have hnP : some P ≠ (Value.slice v10.Ao np v10.co).ownBlock := fun e => own_blk_ne (own_go OO.out BX.out) (P10.out.blk.go BX.out) (by decide) e.symm
          have hnE : some E ≠ (Value.slice v10.Ao np v10.co).ownBlock := fun e => hne8 E e.symm rfl
          have K11 := hide ((K10'.out.go BX.out).grown hgrow8 hnE)
          have PB11 := hide ((P10.out.blk.go BX.out).grown hgrow8 hnP)
          have MT11 := hide (show MovT B 77 w10 w11 from (MovT.of_below BX.out).trans (.grown hgrow8 fun j hj => own_isT (own_go OO.out BX.out) j hj))
          clear hown8 hgrow8 hlt8
          (try dsimp only)
          refine hK.out _ _ ?_ (fun hHeld' => ?_)
          · (try dsimp only)
            exact ⟨by rw [← Hnp.out]; exact PB11.out.cell 2, K11.out.cell 0, K11.out.cell 1, K11.out.cell 2, K11.out.cell 3⟩
          clear hK K hHeld
          have hHeld := hHeld'
          clear hHeld'
          (try simp only [Act.put, List.setIfInBounds_toArray, List.set_cons_zero, List.set_cons_succ])
          refine heldB_free (i := 10) (d := 100) (v := ?_) rfl rfl (by kernel_rfl) (by kernel_rfl) (by kernel_rfl) (fun _ _ _ h => h) (by kernel_rfl) (by kernel_rfl) (.inr hHeld) ?_ ?_
          rotate_left
          · intro w'
            go_simp
            first | done | with_reducible rfl
          (try simp only [Act.put, List.setIfInBounds_toArray, List.set_cons_zero, List.set_cons_succ])
          refine heldB_free (i := 11) (d := 101) (v := ?_) rfl rfl (by kernel_rfl) (by kernel_rfl) (by kernel_rfl) (fun _ _ _ h => h) (by kernel_rfl) (by kernel_rfl) (.inr hHeld) ?_ ?_
          rotate_left
          · intro w'
            go_simp
            first | done | with_reducible rfl
          (try simp only [Act.put, List.setIfInBounds_toArray, List.set_cons_zero, List.set_cons_succ])
          have q2' : w11.cell? ⟨P, 2, none⟩ = some _ := PB11.out.cell 2
          have f2' := PB11.out.frozen 2
          refine heldB_last (i := 12) rfl (by kernel_rfl) (by kernel_rfl) (by kernel_rfl) (fun K hK => ?_)
          go_simp
          (try dsimp only)
          refine hK.out _ _ ?_
          clear hK K
          (try simp only [Act.put, List.setIfInBounds_toArray, List.set_cons_zero, List.set_cons_succ])
          refine heldB_free (i := 13) (d := 102) (v := ?_) rfl rfl (by kernel_rfl) (by kernel_rfl) (by kernel_rfl) (fun _ _ _ h => h) (by kernel_rfl) (by kernel_rfl) (.inl (by kernel_rfl)) ?_ ?_
          rotate_left
          · intro w'
            go_simp
            first | done | with_reducible rfl
          (try simp only [Act.put, List.setIfInBounds_toArray, List.set_cons_zero, List.set_cons_succ])
          refine heldB_free (i := 14) (d := 103) (v := ?_) rfl rfl (by kernel_rfl) (by kernel_rfl) (by kernel_rfl) (fun _ _ _ h => h) (by kernel_rfl) (by kernel_rfl) (.inl (by kernel_rfl)) ?_ ?_
          rotate_left
          · intro w'
            go_simp
            first | done | with_reducible rfl
          (try simp only [Act.put, List.setIfInBounds_toArray, List.set_cons_zero, List.set_cons_succ])
          have hop : q7.st.open_.length + 1 = (q7.st.open_ ++ [el]).length := by rw [List.length_append]; rfl
          have ho10 : w11.ownsRow B 77 4 (.slice (some ⟨g8, 0, none⟩) (q7.st.open_ ++ [el]).length cap8) (q7.st.open_ ++ [el]).length (els (q7.st.open_ ++ [el])) := by
            rw [elsB_snoc, ← hop, Hnp.out]
            exact HO8.out
          have i12 := P10.out.setO MT11.out ho10
          rw [← hop, Hnp.out] at i12
          have I12 := hide i12
          have q6' := i12.cell.2.2.2.2.2.2.1
          have f6' := i12.frz 6
          clear hop ho10 i12 q2' f2'
          refine heldB_last (i := 15) rfl (by kernel_rfl) (by kernel_rfl) (by kernel_rfl) (fun K hK => ?_)
          go_simp
          (try dsimp only)
          refine hK.out _ _ ?_
          clear hK K
          (try simp only [Act.put, List.setIfInBounds_toArray, List.set_cons_zero, List.set_cons_succ])
          refine heldB_free (i := 16) (d := 104) (v := ?_) rfl rfl (by kernel_rfl) (by kernel_rfl) (by kernel_rfl) (fun _ _ _ h => h) (by kernel_rfl) (by kernel_rfl) (.inl (by kernel_rfl)) ?_ ?_
          rotate_left
          · intro w'
            go_simp
            first | done | with_reducible rfl
          (try simp only [Act.put, List.setIfInBounds_toArray, List.set_cons_zero, List.set_cons_succ])
          refine heldB_free (i := 17) (d := 105) (v := ?_) rfl rfl (by kernel_rfl) (by kernel_rfl) (by kernel_rfl) (fun _ _ _ h => h) (by kernel_rfl) (by kernel_rfl) (.inl (by kernel_rfl)) ?_ ?_
          rotate_left
          · intro w'
            go_simp
            first | done | with_reducible rfl
          (try simp only [Act.put, List.setIfInBounds_toArray, List.set_cons_zero, List.set_cons_succ])
          have i13 := I12.out.put (q := { q7 with st := ⟨q7.st.open_ ++ [el], q7.st.scope, q7.st.evs, true⟩ }) 6 (.bool true) rfl rfl rfl rfl rfl
          have I13 := hide i13
          have q7' := i13.cell.2.2.2.2.2.2.2.1
          have f7' := i13.frz 7
          clear i13 q6' f6'
          refine heldB_last (i := 18) rfl (by kernel_rfl) (by kernel_rfl) (by kernel_rfl) (fun K hK => ?_)
          go_simp
          (try dsimp only)
          refine hK.out _ _ ?_
          clear hK K
          (try simp only [Act.put, List.setIfInBounds_toArray, List.set_cons_zero, List.set_cons_succ])
          refine heldB_done (by kernel_rfl) ?_ _
          (try simp only [Exit.then])
          (try refine Met.intro ?_)
          first
            | (rename_i hJ hM; refine hM _ _ (Met.intro ?_); refine hJ _ _ ?_)
            | (rename_i hJ; refine hJ _ _ ?_)
            | (rename_i hJ hT; refine hJ _ _ ?_)
            | (rename_i hJ hT hT2; refine hJ _ _ ?_)
            | (rename_i hJ hT hT2 hT3; refine hJ _ _ ?_)
          (repeat apply Exists.intro)
          refine ⟨⟨_, I13.out.put (q := { q7 with st := ⟨q7.st.open_ ++ [el], q7.st.scope, q7.st.evs, true⟩, junk := false }) 7 (.bool false) rfl rfl rfl rfl rfl, ?_, ?_, ?_⟩, rfl⟩
          · exact ((K11.out.far (p := ⟨P, 2, none⟩) HEP.out _).far (p := ⟨P, 6, none⟩) HEP.out _).far (p := ⟨P, 7, none⟩) HEP.out _
          · have hoA := MT11.out.own (O10.out.mono (base' := w.heap.size) HW9.out) (by decide)
            have hoB := own_far (p := ⟨P, 2, none⟩) hoA PB11.out (by decide) (.slice (some ⟨g8, 0, none⟩) (np + 1) cap8)
            exact own_far (p := ⟨P, 7, none⟩) (own_far (p := ⟨P, 6, none⟩) hoB (PB11.out.set_ 2 _) (by decide) _) ((PB11.out.set_ 2 _).set_ 6 _) (by decide) _
          · exact (((M10.out.trans (MT11.out.bmov (.inl rfl))).setCell (p := ⟨P, 2, none⟩) (.inl rfl) _).setCell (p := ⟨P, 6, none⟩) (.inl rfl) _).setCell (p := ⟨P, 7, none⟩) (.inl rfl) _
        case rest =>
          obtain ⟨v11, p11, k11, o11, m11⟩ := hcut
          have P11 := hide p11
          have O11 := hide o11
          have M11 := hide m11
          have c4s := p11.cell.2.2.2.2.1
          have y1 : wc.cell? ⟨E, 1, none⟩ = some (.string (bstr el.name.ns)) := k11.cell 1
          have y2 : wc.cell? ⟨E, 2, none⟩ = some (.string (bstr el.name.loc)) := k11.cell 2
          have Hev := hide (show q7.st.evs = p.st.evs by rw [Hast.out]; exact Hq5.out.2.1)
          have hp0 := eput_any B v11.xs ⟨⟨0, el.name, as9, []⟩, A9, c9⟩ v11.Ae v11.ce wc.drew p11.e (Nat.le_trans HD.out.hB m11.size) (by rw [p11.len]; show q7.st.evs.length ≤ _; rw [Hev.out]; exact Nat.le_trans Hk.out.ev (by decide)) (fun y hy => by have := Hk.out.tx y.e (by rw [← Hev.out, ← show v11.xs.map (·.e) = q7.st.evs from p11.ev]; exact List.mem_map_of_mem hy); show _ + 0 ≤ _; omega)
          dsimp only at hp0
          rw [Hn9.out] at hp0
          have HP := hide hp0
          have HK := hide (show Blk wc.drew P 52 _ from p11.blk)
          clear hp0 p11 k11 o11 m11
          go_upto_region 19 with fail
          go_cut [] (fun wx => ∃ v, PB B P wx { q7 with st := ⟨q7.st.open_ ++ [el], q7.st.scope, putEv q7.st.evs ⟨0, el.name, as9, []⟩, true⟩, junk := false } v ∧ BMov B P w wx)
          case first =>
            go_region_with (go_at_call 41; refine HP.out.mono ?_; rintro e w12 ⟨A, c, xs, rfl, ho, hx, hi, hm⟩; have q4c : w12.cell? ⟨P, 4, none⟩ = some _ := (hm.blk HK.out (by decide)).cell 4; have g4 := (hm.blk HK.out (by decide)).frozen 4)
            all_goals
              (try simp only [Exit.then])
              (try refine Met.intro ?_)
              first
                | (rename_i hJ hM; refine hM _ _ (Met.intro ?_); refine hJ _ _ ?_)
                | (rename_i hJ; refine hJ _ _ ?_)
                | (rename_i hJ hT; refine hJ _ _ ?_)
                | (rename_i hJ hT hT2; refine hJ _ _ ?_)
                | (rename_i hJ hT hT2 hT3; refine hJ _ _ ?_)
              (repeat apply Exists.intro)
              refine ⟨⟨_, (P11.out.go (Below.refl _ _).drew).events hm ho hx hi (in_own (by rw [show (⟨0, el.name, as9, []⟩ : Ev).attrs.length = n9 from Hn9.out]; exact O11.out) (Nat.le_trans HD.out.hB (Nat.le_refl _))), ?_⟩, rfl⟩
              exact ((M11.out.drew).trans (hm.bmov (.inr (.inr (.inl rfl))))).setCell (p := ⟨P, 4, none⟩) (.inl rfl) _
          case rest =>
            obtain ⟨v13, p13, m13⟩ := hcut
            have P13 := hide p13
            have M13 := hide m13
            have hno : no = p.st.open_.length := by rw [← Hno.out, Hq3.out]
            have hok := begun_ok2 (st := p.st) (el := el) (sc := q7.st.scope) (e := ⟨0, el.name, as9, []⟩) (m := 80000020) Hk.out (by have := Hno16.out; omega) (by rw [Hast.out]; exact Hq5.out.2.2.2.1) (by rw [Hast.out]; exact Hq5.out.2.2.2.2.2) HelS.out rfl rfl
            rw [← Hop.out, ← Hev.out] at hok
            have HC := hide (bclose_any B P wc _ v13 P13.out (Nat.le_trans HD.out.hB M13.out.size) ⟨hok.op, Nat.le_trans hok.sc (by decide), Nat.le_trans hok.ev (by decide), fun y hy => Nat.le_trans (hok.tx y hy) (by decide), hok.in_, hok.srt⟩ (by show q7.st.open_ ++ [_] ≠ []; simp))
            clear p13 m13 hno hok c4s y1 y2
            cases te with
            | false =>
              go_wp2
              go_end0
              rw [← HRE2.out, if_neg (by simp), ← HelN.out]
              exact ⟨rfl, M13.out, v13, P13.out⟩
            | true =>
              go_wp2_with fail
              refine HC.out.mono ?_
              rintro e w14 ⟨rfl, m14, v14, p14⟩
              have P14 := hide p14
              have M14 := hide (M13.out.trans m14)
              clear m14 p14
              dsimp only
              rename_i hK0
              refine hK0 _ _ ?_
              clear hK0
              go_wp2
              go_end0
              rw [← HRE2.out, ← HelN.out]
              simp only [if_true]
              exact ⟨rfl, M14.out, v14, P14.out⟩
end Go.Proofs.Ytaickkaoglohgaa
