/- Bozo: what a name as written stands for. · Bozo: an end. · Bozo: an end, the walk. -/
import Derived.Test.YtaickkaoglohgaaBv28
set_option linter.unusedSimpArgs false
set_option linter.unusedVariables false
namespace Go.Proofs.Ytaickkaoglohgaa
open Go.RowKit Tk Sx

theorem bname_ret {a : Act} {W : World} {N : Nat} {v0 v1 : Value} {Q : Ending → World → Prop} (ha : a.tmps.getD 8 undef = .pointer (some ⟨N, 0, none⟩)) (hd : a.defers = []) (hK : Blk W N 36 #[v0, v1]) (hQ : Q (.returned (.agg #[v0, v1])) W) : bodyPost Try.prog Try.f58 Q .ret a W :=
  bodyPost_ret (results_cell_row (fn := Try.f58) rfl a.tmps W N 36 #[v0, v1] (0, 0) _ ha hK Try.underlying36 rfl (by kernel_rfl)) hd hQ
theorem PB.far {B P N : Nat} {W : World} {p : Bs} {v : Bv} {cs : Array Value} (h : PB B P W p v) (hN : Blk W N 36 cs) (hne : P ≠ N) (i : Nat) (u : Value) : PB B P (W.setCell ⟨N, i, none⟩ u) p v :=
  ⟨h.blk.far (p := ⟨N, i, none⟩) hne _, h.bp, own_far (p := ⟨N, i, none⟩) h.o hN (by decide) _, own_far (p := ⟨N, i, none⟩) h.s hN (by decide) _, own_far (p := ⟨N, i, none⟩) h.e hN (by decide) _, own_far (p := ⟨N, i, none⟩) h.r hN (by decide) _, h.ev,
    fun x hx => (h.inn x hx).bmov ((BMov.refl B N W).setCell (p := ⟨N, i, none⟩) (.inl rfl) _) fun a ha e => by subst e; exact isT_ne ((h.inn x hx).ta a ha) hN.isT (by decide)⟩
/-- The end of a way through name. -/
theorem bname_end {B P N : Nat} {w W : World} {q : Bs} {v0 v : Bv} {cs : Array Value} {n : Nm} (hN : Blk W N 36 cs) (hc : cs.size = 2) (hlt : w.heap.size ≤ N) (hne : P ≠ N) (hm : RMov B P w W) (h : PB B P W q v) (hv : Vr v0 v) :
    Blk ((W.setCell ⟨N, 0, none⟩ (.string (bstr n.ns))).setCell ⟨N, 1, none⟩ (.string (bstr n.loc))) N 36 #[.string (bstr n.ns), .string (bstr n.loc)] ∧ BRr B P w v0 q (nmV n) (.returned (nmV n)) ((W.setCell ⟨N, 0, none⟩ (.string (bstr n.ns))).setCell ⟨N, 1, none⟩ (.string (bstr n.loc))) := by
  have h1 := hN.set_ 0 (.string (bstr n.ns))
  have h2 := h1.set_ 1 (.string (bstr n.loc))
  have e : (cs.setIfInBounds 0 (.string (bstr n.ns))).setIfInBounds 1 (.string (bstr n.loc)) = #[.string (bstr n.ns), .string (bstr n.loc)] := by
    obtain ⟨l⟩ := cs
    match l, hc with
    | [x, y], _ => rfl
  rw [e] at h2
  exact ⟨h2, rfl, (hm.setCell (p := ⟨N, 0, none⟩) (.inr hlt) _).setCell (p := ⟨N, 1, none⟩) (.inr hlt) _, v, (h.far hN hne 0 _).far h1 hne 1 _, hv⟩
set_option maxHeartbeats 8000000 in
theorem bname_r (B P : Nat) (w : World) (p : Bs) (v : Bv) (wr : L) (att : Bool) (a : Nat) (h : PB B P w p v) (hd : Gd B w) (hl : wr.length ≤ 1000000000) (hn : p.rs.length ≤ 900000000) (hsc : p.st.scope.length ≤ 1000000000) :
    Calls Try.prog 58 #[.pointer (some ⟨P, 0, none⟩), .string (bstr wr), .bool att, .int .i64 (a : Int)] w (BRr B P w v (Bz.name wr att a p).2 (nmV (Bz.name wr att a p).1)) := by
  have H := hide h
  have HD := hide hd
  have HS := hide (fun W (hg : Gm W) => splitm_any wr W hg hl)
  have Hn := hide hn
  have K0 := Blk.new w 36 #[.string ⟨#[]⟩, .string ⟨#[]⟩]
  have b0 := below_alloc w (.cells #[.string ⟨#[]⟩, .string ⟨#[]⟩] 36)
  obtain ⟨W1, hW1⟩ : ∃ W1, w.alloc (.cells #[.string ⟨#[]⟩, .string ⟨#[]⟩] 36) = W1 := ⟨_, rfl⟩
  rw [hW1] at K0 b0
  have KK := hide K0
  have B0 := hide b0
  have hPl := h.blk.lt
  have hne : P ≠ w.heap.size := by omega
  obtain ⟨S, hS⟩ : ∃ S, Bz.name wr att a p = S := ⟨_, rfl⟩
  rw [hS]
  unfold Bz.name at hS
  cases hsp : split wr with
  | none =>
    rw [hsp] at HS hS
    dsimp only at hS
    have HR := hide hS
    unfold splV at HS
    have HKn := hide (fun W => bknown_any [] W)
    have hkn : Bz.known [] = none := by decide
    rw [hkn] at HKn
    clear h hd hl hn hsc hS K0 b0 hsp hkn hPl
    go_enter Try.func58, Try.ntmps58
    go_wp2_with fail
    refine (HS.out _ (HD.out.g.below B0.out)).mono ?_
    rintro e w2 ⟨rfl, b2⟩
    have C2 := hide (B0.out.trans (b2.mono B0.out.size))
    have K2 := hide (KK.out.go b2)
    clear b2
    go_wp2_with fail
    refine (bmend_r B P w2 p v 10 a (H.out.go C2.out) (Nat.le_trans HD.out.hB C2.out.size) (by have := Hn.out; omega)).mono ?_
    rintro e w3 ⟨rfl, m3, v3, p3, x3⟩
    have M3 := hide m3; have P3 := hide p3; have X3 := hide x3; clear m3 p3 x3
    go_wp2_with fail
    refine cq (HKn.out _) ?_
    have KN := hide (M3.out.bmov.blk K2.out hne.symm (by decide))
    have q0 := KN.out.cell 0
    have q1 := KN.out.cell 1
    have f0 := KN.out.frozen 0
    have f1 := KN.out.frozen 1
    go_wp2
    obtain ⟨e1, e2⟩ := bname_end (n := ⟨[], wr⟩) KN.out rfl (Nat.le_refl _) hne ((RMov.of_below C2.out : RMov B P w w2).trans M3.out) P3.out X3.out
    exact bname_ret rfl rfl e1 (by rw [← HR.out]; exact e2)
  | some x =>
    obtain ⟨pre, loc⟩ := x
    rw [hsp] at HS hS
    dsimp only at hS
    unfold splV at HS
    have hem : ((bstr pre).toList == ([] : L)) = decide (pre = []) := lit_eq (bstr pre) []
    have hem2 : (bstr pre).toList.isEmpty = decide (pre = []) := by rw [ByteArray.toList_eq, bstr_list]; cases pre <;> simp
    by_cases hap : att = true ∧ pre = []
    · rw [if_pos hap] at hS
      obtain ⟨rfl, hpe⟩ := hap
      rw [decide_eq_true hpe] at hem hem2
      have HR := hide hS
      clear h hd hl hn hsc hS K0 b0 hsp hPl hpe
      go_enter Try.func58, Try.ntmps58
      go_wp2_with fail
      refine (HS.out _ (HD.out.g.below B0.out)).mono ?_
      rintro e w2 ⟨rfl, b2⟩
      have C2 := hide (B0.out.trans (b2.mono B0.out.size))
      have KN := hide (KK.out.go b2)
      clear b2
      have q0 := KN.out.cell 0
      have q1 := KN.out.cell 1
      have f0 := KN.out.frozen 0
      have f1 := KN.out.frozen 1
      go_wp2
      obtain ⟨e1, e2⟩ := bname_end (n := ⟨[], loc⟩) KN.out rfl (Nat.le_refl _) hne (RMov.of_below C2.out : RMov B P w w2) (H.out.go C2.out) (.refl v)
      exact bname_ret rfl rfl e1 (by rw [← HR.out]; exact e2)
    · rw [if_neg hap] at hS
      have HSp := hide (fun W (vr : Bv) (h1 : PB B P W p vr) => space15_any vr.As vr.cs W.heap.size p.st.scope pre W (Reads.of_own h1.s) (Nat.le_refl _) hsc)
      obtain ⟨⟨u, d⟩, hud⟩ : ∃ z, spaceOf p.st.scope pre = z := ⟨_, rfl⟩
      rw [hud] at HSp hS
      dsimp only at hS
      unfold spV at HSp
      dsimp only at HSp
      cases att with
      | false =>
        clear hem hem2
        cases d with
        | true =>
          rw [if_pos rfl] at hS
          have HR := hide hS
          clear h hd hl hn hsc hS K0 b0 hsp hPl hap hud
          go_enter Try.func58, Try.ntmps58
          go_wp2_with fail
          refine (HS.out _ (HD.out.g.below B0.out)).mono ?_
          rintro e w2 ⟨rfl, b2⟩
          have C2 := hide (B0.out.trans (b2.mono B0.out.size))
          have K2 := hide (KK.out.go b2)
          clear b2
          have z3 := (H.out.go C2.out).cell.2.2.2.1
          go_wp2_with fail
          refine (HSp.out _ v (H.out.go C2.out)).mono ?_
          rintro e w3 ⟨rfl, b3⟩
          have C3 := hide (C2.out.trans (b3.mono C2.out.size))
          have K3 := hide (K2.out.go b3)
          clear b3
          have KN := K3
          have q0 := KN.out.cell 0
          have q1 := KN.out.cell 1
          have f0 := KN.out.frozen 0
          have f1 := KN.out.frozen 1
          go_wp2
          obtain ⟨e1, e2⟩ := bname_end (n := ⟨u, loc⟩) KN.out rfl (Nat.le_refl _) hne (RMov.of_below C3.out : RMov B P w w3) (H.out.go C3.out) (.refl v)
          exact bname_ret rfl rfl e1 (by rw [← HR.out]; exact e2)
        | false =>
          rw [if_neg (by simp)] at hS
          have HKn := hide (fun W => bknown_any pre W)
          cases hkn : Bz.known pre with
          | some u2 =>
            rw [hkn] at HKn hS
            dsimp only at HKn hS
            have HR := hide hS
            clear h hd hl hn hsc hS K0 b0 hsp hPl hap hud hkn
            go_enter Try.func58, Try.ntmps58
            go_wp2_with fail
            refine (HS.out _ (HD.out.g.below B0.out)).mono ?_
            rintro e w2 ⟨rfl, b2⟩
            have C2 := hide (B0.out.trans (b2.mono B0.out.size))
            have K2 := hide (KK.out.go b2)
            clear b2
            have z3 := (H.out.go C2.out).cell.2.2.2.1
            go_wp2_with fail
            refine (HSp.out _ v (H.out.go C2.out)).mono ?_
            rintro e w3 ⟨rfl, b3⟩
            have C3 := hide (C2.out.trans (b3.mono C2.out.size))
            have K3 := hide (K2.out.go b3)
            clear b3
            go_wp2_with fail
            refine (bmend_r B P w3 p v 10 a (H.out.go C3.out) (Nat.le_trans HD.out.hB C3.out.size) (by have := Hn.out; omega)).mono ?_
            rintro e w4 ⟨rfl, m4, v4, p4, x4⟩
            have M4 := hide m4; have P4 := hide p4; have X4 := hide x4; clear m4 p4 x4
            go_wp2_with fail
            refine cq (HKn.out _) ?_
            have KN := hide (M4.out.bmov.blk K3.out hne.symm (by decide))
            have q0 := KN.out.cell 0
            have q1 := KN.out.cell 1
            have f0 := KN.out.frozen 0
            have f1 := KN.out.frozen 1
            go_wp2
            obtain ⟨e1, e2⟩ := bname_end (n := ⟨u2, loc⟩) KN.out rfl (Nat.le_refl _) hne ((RMov.of_below C3.out : RMov B P w w3).trans M4.out) P4.out X4.out
            exact bname_ret rfl rfl e1 (by rw [← HR.out]; exact e2)
          | none =>
            rw [hkn] at HKn hS
            dsimp only at HKn hS
            have HR := hide hS
            clear h hd hl hn hsc hS K0 b0 hsp hPl hap hud hkn
            go_enter Try.func58, Try.ntmps58
            go_wp2_with fail
            refine (HS.out _ (HD.out.g.below B0.out)).mono ?_
            rintro e w2 ⟨rfl, b2⟩
            have C2 := hide (B0.out.trans (b2.mono B0.out.size))
            have K2 := hide (KK.out.go b2)
            clear b2
            have z3 := (H.out.go C2.out).cell.2.2.2.1
            go_wp2_with fail
            refine (HSp.out _ v (H.out.go C2.out)).mono ?_
            rintro e w3 ⟨rfl, b3⟩
            have C3 := hide (C2.out.trans (b3.mono C2.out.size))
            have K3 := hide (K2.out.go b3)
            clear b3
            go_wp2_with fail
            refine (bmend_r B P w3 p v 10 a (H.out.go C3.out) (Nat.le_trans HD.out.hB C3.out.size) (by have := Hn.out; omega)).mono ?_
            rintro e w4 ⟨rfl, m4, v4, p4, x4⟩
            have M4 := hide m4; have P4 := hide p4; have X4 := hide x4; clear m4 p4 x4
            go_wp2_with fail
            refine cq (HKn.out _) ?_
            have KN := hide (M4.out.bmov.blk K3.out hne.symm (by decide))
            have q0 := KN.out.cell 0
            have q1 := KN.out.cell 1
            have f0 := KN.out.frozen 0
            have f1 := KN.out.frozen 1
            go_wp2
            obtain ⟨e1, e2⟩ := bname_end (n := ⟨[], wr⟩) KN.out rfl (Nat.le_refl _) hne ((RMov.of_below C3.out : RMov B P w w3).trans M4.out) P4.out X4.out
            exact bname_ret rfl rfl e1 (by rw [← HR.out]; exact e2)
      | true =>
        have hp0 : decide (pre = []) = false := decide_eq_false fun h => hap ⟨rfl, h⟩
        rw [hp0] at hem hem2
        clear hp0
        cases d with
        | true =>
          rw [if_pos rfl] at hS
          have HR := hide hS
          clear h hd hl hn hsc hS K0 b0 hsp hPl hap hud
          go_enter Try.func58, Try.ntmps58
          go_wp2_with fail
          refine (HS.out _ (HD.out.g.below B0.out)).mono ?_
          rintro e w2 ⟨rfl, b2⟩
          have C2 := hide (B0.out.trans (b2.mono B0.out.size))
          have K2 := hide (KK.out.go b2)
          clear b2
          have z3 := (H.out.go C2.out).cell.2.2.2.1
          go_wp2_with fail
          refine (HSp.out _ v (H.out.go C2.out)).mono ?_
          rintro e w3 ⟨rfl, b3⟩
          have C3 := hide (C2.out.trans (b3.mono C2.out.size))
          have K3 := hide (K2.out.go b3)
          clear b3
          have KN := K3
          have q0 := KN.out.cell 0
          have q1 := KN.out.cell 1
          have f0 := KN.out.frozen 0
          have f1 := KN.out.frozen 1
          go_wp2
          obtain ⟨e1, e2⟩ := bname_end (n := ⟨u, loc⟩) KN.out rfl (Nat.le_refl _) hne (RMov.of_below C3.out : RMov B P w w3) (H.out.go C3.out) (.refl v)
          exact bname_ret rfl rfl e1 (by rw [← HR.out]; exact e2)
        | false =>
          rw [if_neg (by simp)] at hS
          have HKn := hide (fun W => bknown_any pre W)
          cases hkn : Bz.known pre with
          | some u2 =>
            rw [hkn] at HKn hS
            dsimp only at HKn hS
            have HR := hide hS
            clear h hd hl hn hsc hS K0 b0 hsp hPl hap hud hkn
            go_enter Try.func58, Try.ntmps58
            go_wp2_with fail
            refine (HS.out _ (HD.out.g.below B0.out)).mono ?_
            rintro e w2 ⟨rfl, b2⟩
            have C2 := hide (B0.out.trans (b2.mono B0.out.size))
            have K2 := hide (KK.out.go b2)
            clear b2
            have z3 := (H.out.go C2.out).cell.2.2.2.1
            go_wp2_with fail
            refine (HSp.out _ v (H.out.go C2.out)).mono ?_
            rintro e w3 ⟨rfl, b3⟩
            have C3 := hide (C2.out.trans (b3.mono C2.out.size))
            have K3 := hide (K2.out.go b3)
            clear b3
            go_wp2_with fail
            refine (bmend_r B P w3 p v 10 a (H.out.go C3.out) (Nat.le_trans HD.out.hB C3.out.size) (by have := Hn.out; omega)).mono ?_
            rintro e w4 ⟨rfl, m4, v4, p4, x4⟩
            have M4 := hide m4; have P4 := hide p4; have X4 := hide x4; clear m4 p4 x4
            go_wp2_with fail
            refine cq (HKn.out _) ?_
            have KN := hide (M4.out.bmov.blk K3.out hne.symm (by decide))
            have q0 := KN.out.cell 0
            have q1 := KN.out.cell 1
            have f0 := KN.out.frozen 0
            have f1 := KN.out.frozen 1
            go_wp2
            obtain ⟨e1, e2⟩ := bname_end (n := ⟨u2, loc⟩) KN.out rfl (Nat.le_refl _) hne ((RMov.of_below C3.out : RMov B P w w3).trans M4.out) P4.out X4.out
            exact bname_ret rfl rfl e1 (by rw [← HR.out]; exact e2)
          | none =>
            rw [hkn] at HKn hS
            dsimp only at HKn hS
            have HR := hide hS
            clear h hd hl hn hsc hS K0 b0 hsp hPl hap hud hkn
            go_enter Try.func58, Try.ntmps58
            go_wp2_with fail
            refine (HS.out _ (HD.out.g.below B0.out)).mono ?_
            rintro e w2 ⟨rfl, b2⟩
            have C2 := hide (B0.out.trans (b2.mono B0.out.size))
            have K2 := hide (KK.out.go b2)
            clear b2
            have z3 := (H.out.go C2.out).cell.2.2.2.1
            go_wp2_with fail
            refine (HSp.out _ v (H.out.go C2.out)).mono ?_
            rintro e w3 ⟨rfl, b3⟩
            have C3 := hide (C2.out.trans (b3.mono C2.out.size))
            have K3 := hide (K2.out.go b3)
            clear b3
            go_wp2_with fail
            refine (bmend_r B P w3 p v 10 a (H.out.go C3.out) (Nat.le_trans HD.out.hB C3.out.size) (by have := Hn.out; omega)).mono ?_
            rintro e w4 ⟨rfl, m4, v4, p4, x4⟩
            have M4 := hide m4; have P4 := hide p4; have X4 := hide x4; clear m4 p4 x4
            go_wp2_with fail
            refine cq (HKn.out _) ?_
            have KN := hide (M4.out.bmov.blk K3.out hne.symm (by decide))
            have q0 := KN.out.cell 0
            have q1 := KN.out.cell 1
            have f0 := KN.out.frozen 0
            have f1 := KN.out.frozen 1
            go_wp2
            obtain ⟨e1, e2⟩ := bname_end (n := ⟨[], wr⟩) KN.out rfl (Nat.le_refl _) hne ((RMov.of_below C3.out : RMov B P w w3).trans M4.out) P4.out X4.out
            exact bname_ret rfl rfl e1 (by rw [← HR.out]; exact e2)
theorem bname_any (B P : Nat) (w : World) (p : Bs) (v : Bv) (wr : L) (att : Bool) (a : Nat) (h : PB B P w p v) (hd : Gd B w) (hl : wr.length ≤ 1000000000) (hn : p.rs.length ≤ 900000000) (hsc : p.st.scope.length ≤ 1000000000) :
    Calls Try.prog 58 #[.pointer (some ⟨P, 0, none⟩), .string (bstr wr), .bool att, .int .i64 (a : Int)] w (BR B P w (Bz.name wr att a p).2 (nmV (Bz.name wr att a p).1)) := (bname_r B P w p v wr att a h hd hl hn hsc).mono fun _ _ h => h.br
end Go.Proofs.Ytaickkaoglohgaa
namespace Go.Proofs.Ytaickkaoglohgaa
open Go.RowKit Tk Sx

theorem bpre_any (s q : L) (w : World) : Calls Try.prog 27 #[.string (bstr s), .string (bstr q)] w fun e w' => e = .returned (.bool (q.isPrefixOf s)) ∧ w' = w := by
  have h := Try.strings_HasPrefix (bstr s) (bstr q) w
  rw [bstr_list, bstr_list] at h
  exact h
theorem endCut_at (n : Nat) (p : Bs) : Bz.endCut n p = (let p3 := Bz.untilB Bz.angle (Bz.cutB n (Bz.cutB 2 p)); let p4 := if !([62] : L).isPrefixOf p3.l || !((Bz.cutB n (Bz.cutB 2 p)).l.take (Bz.span Bz.angle (Bz.cutB n (Bz.cutB 2 p)).l)).all sp then Bz.mend 14 p.at_ p3 else p3; if ([62] : L).isPrefixOf p4.l then Bz.cutB 1 p4 else p4) := rfl
/-- Where the search for an element stands: the last of the first m that is written so is the last of all. -/
theorem lastOf_step {nm : L} {o : List El} {k : Nat} {x : El} (hx : o[k]? = some x) : Bz.lastOf nm o (k + 1) = if x.written = nm then some k else Bz.lastOf nm o k := by
  rw [Bz.lastOf, hx]
  simp
end Go.Proofs.Ytaickkaoglohgaa
namespace Go.Proofs.Ytaickkaoglohgaa
open Go.RowKit Tk Sx

set_option maxRecDepth 100000 in
set_option maxHeartbeats 16000000 in
theorem bend_any (B P : Nat) (w : World) (p : Bs) (v : Bv) (n : Nat) (h : PB B P w p v) (hd : Gd B w) (hk : Ok p.st 900000000 10000000000000000) (hl : p.at_ + p.l.length ≤ 900000000) (hn : p.rs.length ≤ 800000000) (h2 : 2 ≤ p.l.length) (hn2 : n ≤ (p.l.drop 2).length) :
    Calls Try.prog 35 #[.pointer (some ⟨P, 0, none⟩), .int .i64 (n : Int)] w (BR B P w (Bz.endB n p) (.tuple #[])) := by
  obtain ⟨-, c1, -⟩ := h.cell
  have H := hide h
  have HD := hide hd
  have Hk := hide hk
  have Hl := hide hl
  have Hn := hide hn
  have H2 := hide h2
  have Hn2 := hide hn2
  clear h hd hk hl hn h2 hn2
  go_enter Try.func35, Try.ntmps35
  go_wp2_with fail
  refine (btake_any B P w p v 2 H.out H2.out (by have := Hl.out; omega)).mono ?_
  rintro e w1 ⟨rfl, m1, v1, p1⟩
  have M1 := hide m1; have P1 := hide p1; clear m1 p1
  have Hl1 := hide (tak_mono (n := 2) (p := p) (by have := Hl.out; omega) H2.out)
  go_wp2_with fail
  refine (btake_any B P w1 _ v1 n P1.out Hn2.out Hl1.out).mono ?_
  rintro e w2 ⟨rfl, m2, v2, p2⟩
  have M2 := hide m2; have P2 := hide p2; clear m2 p2
  have Hl2 := hide (tak_mono (n := n) (p := Bz.cutB 2 p) Hl1.out Hn2.out)
  go_wp2_with fail
  refine (buntil_angle B P w2 _ v2 P2.out Hl2.out).mono ?_
  rintro e w3 ⟨rfl, m3, v3, p3⟩
  have M3 := hide m3; have P3 := hide p3; clear m3 p3
  obtain ⟨p2, hp2⟩ : ∃ q, Bz.cutB n (Bz.cutB 2 p) = q := ⟨_, rfl⟩
  obtain ⟨p3, hp3⟩ : ∃ q, Bz.untilB Bz.angle p2 = q := ⟨_, rfl⟩
  rw [hp2, hp3] at P3
  have z0 := P3.out.cell.1
  obtain ⟨b1, hb1⟩ : ∃ b, ([62] : L).isPrefixOf p3.l = b := ⟨_, rfl⟩
  have HP1 := hide (fun W => bpre_any p3.l [62] W)
  rw [hb1] at HP1
  obtain ⟨bt, hbt⟩ : ∃ t, (p2.l.take (Bz.span Bz.angle p2.l)) = t := ⟨_, rfl⟩
  have hp2l : p2.l.length ≤ 900000000 := by rw [← hp2]; have := Hl2.out; have := Hl.out; show ((p.l.drop 2).drop n).length ≤ _; rw [List.length_drop, List.length_drop]; omega
  have HBl := hide (fun W => blank_any bt W (by rw [← hbt, List.length_take]; omega))
  obtain ⟨b2, hb2⟩ : ∃ b, bt.all sp = b := ⟨_, rfl⟩
  rw [hb2] at HBl
  rw [hp2, hbt]
  have HP4 := hide (show Bz.endCut n p = (let p4 := if !b1 || !b2 then Bz.mend 14 p.at_ p3 else p3; if ([62] : L).isPrefixOf p4.l then Bz.cutB 1 p4 else p4) by rw [endCut_at]; dsimp only; rw [hp2, hp3, hb1, hbt, hb2])
  have hn3 : p3.rs.length ≤ 800000000 := by rw [← hp3, ← hp2]; exact Hn.out
  have Hn3 := hide hn3
  have M123 := hide ((M1.out.trans M2.out).trans M3.out)
  have Hb1 := hide hb1
  have Hl3 := hide (show p3.at_ + p3.l.length ≤ 1000000000 by rw [← hp3, ← hp2]; exact until_mono Hl2.out)
  clear hb1 hb2 hbt hp2l hn3
  cases b1 with
  | true =>
    go_upto_if 29 with first
      | (go_at_call 27; refine cq (HP1.out _) ?_)
      | (go_at_call 52; refine (HBl.out _).mono ?_; rintro e w4 ⟨rfl, b4⟩; have B4 := hide b4; clear b4)
    go_cut [] (fun wx => ∃ v4, PB B P wx (if !true || !b2 then Bz.mend 14 p.at_ p3 else p3) v4 ∧ BMov B P w wx)
    case first =>
      have P34 := hide (P3.out.go B4.out)
      have M34 := hide (M123.out.go B4.out)
      cases b2 with
      | true =>
        go_wp2
        (try simp only [Exit.then])
        (try refine Met.intro ?_)
        first
          | (rename_i hJ hM; refine hM _ _ (Met.intro ?_); refine hJ _ _ ?_)
          | (rename_i hJ; refine hJ _ _ ?_)
          | (rename_i hJ hT; refine hJ _ _ ?_)
          | (rename_i hJ hT hT2; refine hJ _ _ ?_)
          | (rename_i hJ hT hT2 hT3; refine hJ _ _ ?_)
        (repeat apply Exists.intro)
        exact ⟨⟨_, P34.out, M34.out⟩, rfl⟩
      | false =>
        have HW := hide (bmend_any B P w4 p3 v3 14 p.at_ P34.out (Nat.le_trans HD.out.hB M34.out.size) (by have := Hn3.out; omega))
        go_wp2_with fail
        refine HW.out.mono ?_
        rintro e w5 ⟨rfl, m5, v5, p5⟩
        have M5 := hide (M34.out.trans m5)
        have P5 := hide p5
        clear m5 p5
        dsimp only
        first
          | (rename_i hM hJ hT KK hK0; refine hK0 _ _ ?_; clear hK0 KK; go_wp2; (try simp only [Exit.then]); (try refine hM _ _ (Met.intro ?_)); refine hJ _ _ ?_)
          | (rename_i hM hJ KK hK0; refine hK0 _ _ ?_; clear hK0 KK; go_wp2; (try simp only [Exit.then]); (try refine hM _ _ (Met.intro ?_)); refine hJ _ _ ?_)
        (repeat apply Exists.intro)
        exact ⟨⟨_, P5.out, M5.out⟩, rfl⟩
    case rest =>
      obtain ⟨v4, h4, m4⟩ := hcut
      obtain ⟨p4, hp4⟩ : ∃ q, (if (!true || !b2) = true then Bz.mend 14 p.at_ p3 else p3) = q := ⟨_, rfl⟩
      have e4 : p4.l = p3.l := by rw [← hp4]; cases b2 <;> rfl
      have e4a : p4.at_ = p3.at_ := by rw [← hp4]; cases b2 <;> rfl
      rw [hp4] at h4
      have z4 := h4.cell.1
      rw [e4] at z4
      have P4 := hide h4
      have M4 := hide m4
      have hlen1 : 1 ≤ p4.l.length := by
        rw [e4]
        have hb := Hb1.out
        cases hl9 : p3.l with
        | nil => rw [hl9] at hb; cases hb
        | cons c r => simp
      have hq : Bz.endCut n p = Bz.cutB 1 p4 := by rw [HP4.out, hp4, e4, Hb1.out]; rfl
      have Hq := hide hq
      have Hrs := hide (show (Bz.endCut n p).rs.length ≤ 800000001 by
        rw [hq]
        show p4.rs.length ≤ _
        rw [← hp4]
        have := Hn3.out
        cases b2
        · show (Bz.mend 14 p.at_ p3).rs.length ≤ _
          rw [Bz.mend_rs]
          omega
        · show p3.rs.length ≤ _
          omega)
      have hlim : p4.at_ + p4.l.length ≤ 1000000000 := by rw [e4, e4a]; exact Hl3.out
      clear h4 m4 hq hp4
      go_wp2_with fail
      refine cq (HP1.out _) ?_
      go_wp2_with fail
      refine (btake_any B P wc p4 v4 1 P4.out hlen1 hlim).mono ?_
      rintro e w5 ⟨rfl, m5, v5, p5⟩
      have M5 := hide m5; have P5 := hide p5; clear m5 p5
      rw [← Hq.out] at P5
      have HSt := hide (Bz.endCut_st n p).1
      have Hend := hide (show Bz.endB n p = match Bz.lastOf ((p.l.drop 2).take n) (Bz.endCut n p).st.open_ (Bz.endCut n p).st.open_.length with | none => Bz.mend 12 p.at_ (Bz.endCut n p) | some k => Bz.close (Bz.closeN p.at_ ((Bz.endCut n p).st.open_.length - (k + 1)) (Bz.endCut n p)) from rfl)
      obtain ⟨E, hE⟩ : ∃ E, Bz.endCut n p = E := ⟨_, rfl⟩
      rw [hE] at P5 HSt Hend Hrs
      obtain ⟨nm, hnm⟩ : ∃ x, (p.l.drop 2).take n = x := ⟨_, rfl⟩
      rw [hnm] at Hend
      have hnm2 : (Bz.cutB 2 p).l.take n = nm := hnm
      rw [hnm2]
      obtain ⟨no, hno⟩ : ∃ n, E.st.open_.length = n := ⟨_, rfl⟩
      have c2 := P5.out.cell.2.2.1
      rw [hno] at c2 Hend
      have Hno := hide hno
      have hno16 : no ≤ 16 := by rw [← hno, HSt.out]; exact Hk.out.op
      have hwn : IntKind.i64.wrap ((no : Int) - 1) = (no : Int) - 1 := IntWalk.i64_in _ (by omega)
      clear hE hnm hnm2 hno
      go_wp2
      go_loopg [7] (no + 1) (fun gk vk wr => ∃ k : Nat, gk = k + 1 ∧ k ≤ no ∧ vk = .int .i64 ((k : Int) - 1) ∧ Bz.lastOf nm E.st.open_ no = Bz.lastOf nm E.st.open_ k ∧ wr = w5)
      case atStart => exact ⟨no, rfl, Nat.le_refl _, rfl, rfl, rfl⟩
      case round =>
        obtain ⟨k, hgk, hk, rfl, hlo, hwr⟩ := hrel
        subst hwr
        have Hg := hide hgk
        have Hlo := hide hlo
        clear hgk hlo
        cases k with
        | zero =>
          have hR := Hend.out
          rw [Hlo.out, show Bz.lastOf nm E.st.open_ 0 = none from rfl] at hR
          have HR := hide hR
          have hm1 : ((0 : Nat) : Int) - 1 = -1 := rfl
          clear hR
          rw [hm1]
          have HW := hide (bmend_any B P wr E v5 12 p.at_ P5.out (Nat.le_trans HD.out.hB (M4.out.trans M5.out).size) (by have := Hrs.out; omega))
          go_wp2_with fail
          refine HW.out.mono ?_
          rintro e w6 ⟨rfl, m6, v6, p6⟩
          have M6 := hide m6
          have P6 := hide p6
          clear m6 p6
          go_wp2
          go_end0
          rw [HR.out]
          exact ⟨rfl, (M4.out.trans M5.out).trans M6.out, v6, P6.out⟩
        | succ m =>
          have hm2 : ((m + 1 : Nat) : Int) - 1 = (m : Int) := by omega
          rw [hm2]
          have hmo : m < no := by omega
          obtain ⟨x, hx⟩ : ∃ x, E.st.open_[m]? = some x := ⟨_, List.getElem?_eq_getElem (by rw [Hno.out]; exact hmo)⟩
          have ho := P5.out.o
          rw [Hno.out] at ho
          obtain ⟨g, cap, hv, hgb, hlt⟩ := ho.form (by omega)
          have hAo : v5.Ao = some ⟨g, 0, none⟩ := by injection hv
          rw [hAo] at ho
          have d0 : wr.cell? ⟨g, m * 4, none⟩ = some (.string (bstr x.written)) := el_cellsB ho Hno.out hx 0 (by omega)
          have c2' : wr.cell? ⟨P, 2, none⟩ = some (.slice (some ⟨g, 0, none⟩) no v5.co) := by rw [← hAo]; exact c2
          have hq : ((bstr x.written).toList != (bstr nm).toList) = !decide (x.written = nm) := by rw [bne, beq_bstr]
          have hq2 := beq_bstr x.written nm
          have hbd : (0 : Int) ≤ (m : Int) ∧ (m : Int) < (no : Int) := by omega
          have hwm : IntKind.i64.wrap ((m : Int) - 1) = (m : Int) - 1 := IntWalk.i64_in _ (by omega)
          have Hls := hide (lastOf_step (nm := nm) hx)
          have HAo := hide hAo
          clear ho hv hAo hx c2
          cases hd : decide (x.written = nm) with
          | true =>
            rw [hd] at hq hq2
            have hR := Hend.out
            rw [Hlo.out, Hls.out, if_pos (of_decide_eq_true hd)] at hR
            have HR := hide hR
            clear hR hd
            have hw1 : IntKind.i64.wrap ((m : Int) + 1) = ((m + 1 : Nat) : Int) := by rw [IntWalk.i64_in _ (by omega)]; omega
            have Hmo := hide hmo
            go_wp2
            go_loopg [] (no - (m + 1)) (fun gk wx => ∃ (q : Bs) (vq : Bv) (r : Nat), gk = r ∧ PB B P wx q vq ∧ BMov B P w wx ∧ q.st.open_.length = m + 1 + r ∧ Bz.closeN p.at_ r q = Bz.closeN p.at_ (no - (m + 1)) E ∧ Ok q.st (900000016 - r) 10000000000000000 ∧ q.rs.length + r ≤ 900000000)
            case atStart => exact ⟨E, v5, no - (m + 1), rfl, P5.out, M4.out.trans M5.out, by rw [Hno.out]; have := Hmo.out; omega, rfl, (by rw [HSt.out]; exact ⟨Hk.out.op, Nat.le_trans Hk.out.sc (by omega), Nat.le_trans Hk.out.ev (by omega), Hk.out.tx, Hk.out.in_, Hk.out.srt⟩), (by have := Hrs.out; omega)⟩
            case round =>
              obtain ⟨q, vq, r, hgk, hq1, hq2', hq3, hq4, hq5, hq6⟩ := hrel
              have Hg2 := hide hgk
              have Q1 := hide hq1
              have Q2 := hide hq2'
              have Q3 := hide hq3
              have Q4 := hide hq4
              have Q5 := hide hq5
              have Q6 := hide hq6
              have cq2 := hq1.cell.2.2.1
              rw [hq3] at cq2
              clear hgk hq1 hq2' hq3 hq4 hq5 hq6
              cases r with
              | zero =>
                have hnl : ¬ (m + 1 < m + 1 + 0) := by omega
                go_wp2_with fail
                refine (bclose_any B P _ q vq Q1.out (Nat.le_trans HD.out.hB Q2.out.size) ⟨Q5.out.op, Nat.le_trans Q5.out.sc (by omega), Nat.le_trans Q5.out.ev (by omega), fun y hy => Nat.le_trans (Q5.out.tx y hy) (by omega), Q5.out.in_, Q5.out.srt⟩ (by intro e0; have h9 := Q3.out; rw [e0] at h9; simp at h9)).mono ?_
                rintro e w8 ⟨rfl, m8, v8, p8⟩
                have M8 := hide m8
                have P8 := hide p8
                clear m8 p8
                go_wp2
                go_end0
                rw [HR.out, ← Q4.out]
                exact ⟨rfl, Q2.out.trans M8.out, v8, P8.out⟩
              | succ r =>
                have hgt : m + 1 < m + 1 + (r + 1) := by omega
                have HM := hide (bmend_any B P _ q vq 11 p.at_ Q1.out (Nat.le_trans HD.out.hB Q2.out.size) (by have := Q6.out; omega))
                go_wp2_with fail
                refine HM.out.mono ?_
                rintro e w7 ⟨rfl, m7, v7, p7⟩
                have M7 := hide m7
                have P7 := hide p7
                clear m7 p7
                go_wp2_with fail
                refine (bclose_any B P w7 (Bz.mend 11 p.at_ q) v7 P7.out (Nat.le_trans HD.out.hB (Q2.out.trans M7.out).size) ⟨Q5.out.op, Nat.le_trans Q5.out.sc (by omega), Nat.le_trans Q5.out.ev (by omega), fun y hy => Nat.le_trans (Q5.out.tx y hy) (by omega), Q5.out.in_, Q5.out.srt⟩ (by intro e0; have h9 := Q3.out; have e1 : q.st.open_ = [] := e0; rw [e1] at h9; simp at h9)).mono ?_
                rintro e w8 ⟨rfl, m8, v8, p8⟩
                have M8 := hide m8
                have P8 := hide p8
                clear m8 p8
                go_wp2
                go_roundg r
                case measure => have := Hg2.out; omega
                case rel => exact ⟨_, v8, r, rfl, P8.out, (Q2.out.trans M7.out).trans M8.out, (by show (closeSt q.st).open_.length = _; rw [Bz.close_open, List.length_dropLast, Q3.out]; omega), Q4.out, (by have h9 := ok_close Q5.out; rw [show 900000016 - (r + 1) + 1 = 900000016 - r by have := Q6.out; omega] at h9; exact h9), (by show (Bz.mend 11 p.at_ q).rs.length + r ≤ _; rw [Bz.mend_rs]; have := Q6.out; omega)⟩
          | false =>
            rw [hd] at hq hq2
            have Hn2 := hide (show Bz.lastOf nm E.st.open_ no = Bz.lastOf nm E.st.open_ m by rw [Hlo.out, Hls.out, if_neg (of_decide_eq_false hd)])
            clear hd
            go_wp2
            go_roundg (m + 1)
            case measure => have := Hg.out; omega
            case rel => exact ⟨m, rfl, by omega, rfl, Hn2.out, rfl⟩
  | false =>
    have M4 := hide M123.out
    have Hq := hide (show Bz.endCut n p = Bz.mend 14 p.at_ p3 by rw [HP4.out]; show (if ([62] : L).isPrefixOf p3.l then _ else _) = _; rw [Hb1.out]; rfl)
    have Hrs := hide (show (Bz.endCut n p).rs.length ≤ 800000001 by rw [Hq.out, Bz.mend_rs]; have := Hn3.out; omega)
    go_wp2_with fail
    refine cq (HP1.out _) ?_
    go_wp2_with fail
    refine (bmend_any B P w3 p3 v3 14 p.at_ P3.out (Nat.le_trans HD.out.hB M123.out.size) (by have := Hn3.out; omega)).mono ?_
    rintro e w5 ⟨rfl, m5, v5, p5⟩
    have M5 := hide m5; have P5 := hide p5; clear m5 p5
    have z5 : w5.cell? ⟨P, 0, none⟩ = some (.string (bstr p3.l)) := P5.out.cell.1
    go_wp2_with fail
    refine cq (HP1.out _) ?_
    rw [← Hq.out] at P5
    have HSt := hide (Bz.endCut_st n p).1
    have Hend := hide (show Bz.endB n p = match Bz.lastOf ((p.l.drop 2).take n) (Bz.endCut n p).st.open_ (Bz.endCut n p).st.open_.length with | none => Bz.mend 12 p.at_ (Bz.endCut n p) | some k => Bz.close (Bz.closeN p.at_ ((Bz.endCut n p).st.open_.length - (k + 1)) (Bz.endCut n p)) from rfl)
    obtain ⟨E, hE⟩ : ∃ E, Bz.endCut n p = E := ⟨_, rfl⟩
    rw [hE] at P5 HSt Hend Hrs
    obtain ⟨nm, hnm⟩ : ∃ x, (p.l.drop 2).take n = x := ⟨_, rfl⟩
    rw [hnm] at Hend
    have hnm2 : (Bz.cutB 2 p).l.take n = nm := hnm
    rw [hnm2]
    obtain ⟨no, hno⟩ : ∃ n, E.st.open_.length = n := ⟨_, rfl⟩
    have c2 := P5.out.cell.2.2.1
    rw [hno] at c2 Hend
    have Hno := hide hno
    have hno16 : no ≤ 16 := by rw [← hno, HSt.out]; exact Hk.out.op
    have hwn : IntKind.i64.wrap ((no : Int) - 1) = (no : Int) - 1 := IntWalk.i64_in _ (by omega)
    clear hE hnm hnm2 hno
    go_wp2
    go_loopg [7] (no + 1) (fun gk vk wr => ∃ k : Nat, gk = k + 1 ∧ k ≤ no ∧ vk = .int .i64 ((k : Int) - 1) ∧ Bz.lastOf nm E.st.open_ no = Bz.lastOf nm E.st.open_ k ∧ wr = w5)
    case atStart => exact ⟨no, rfl, Nat.le_refl _, rfl, rfl, rfl⟩
    case round =>
      obtain ⟨k, hgk, hk, rfl, hlo, hwr⟩ := hrel
      subst hwr
      have Hg := hide hgk
      have Hlo := hide hlo
      clear hgk hlo
      cases k with
      | zero =>
        have hR := Hend.out
        rw [Hlo.out, show Bz.lastOf nm E.st.open_ 0 = none from rfl] at hR
        have HR := hide hR
        have hm1 : ((0 : Nat) : Int) - 1 = -1 := rfl
        clear hR
        rw [hm1]
        have HW := hide (bmend_any B P wr E v5 12 p.at_ P5.out (Nat.le_trans HD.out.hB (M4.out.trans M5.out).size) (by have := Hrs.out; omega))
        go_wp2_with fail
        refine HW.out.mono ?_
        rintro e w6 ⟨rfl, m6, v6, p6⟩
        have M6 := hide m6
        have P6 := hide p6
        clear m6 p6
        go_wp2
        go_end0
        rw [HR.out]
        exact ⟨rfl, (M4.out.trans M5.out).trans M6.out, v6, P6.out⟩
      | succ m =>
        have hm2 : ((m + 1 : Nat) : Int) - 1 = (m : Int) := by omega
        rw [hm2]
        have hmo : m < no := by omega
        obtain ⟨x, hx⟩ : ∃ x, E.st.open_[m]? = some x := ⟨_, List.getElem?_eq_getElem (by rw [Hno.out]; exact hmo)⟩
        have ho := P5.out.o
        rw [Hno.out] at ho
        obtain ⟨g, cap, hv, hgb, hlt⟩ := ho.form (by omega)
        have hAo : v5.Ao = some ⟨g, 0, none⟩ := by injection hv
        rw [hAo] at ho
        have d0 : wr.cell? ⟨g, m * 4, none⟩ = some (.string (bstr x.written)) := el_cellsB ho Hno.out hx 0 (by omega)
        have c2' : wr.cell? ⟨P, 2, none⟩ = some (.slice (some ⟨g, 0, none⟩) no v5.co) := by rw [← hAo]; exact c2
        have hq : ((bstr x.written).toList != (bstr nm).toList) = !decide (x.written = nm) := by rw [bne, beq_bstr]
        have hq2 := beq_bstr x.written nm
        have hbd : (0 : Int) ≤ (m : Int) ∧ (m : Int) < (no : Int) := by omega
        have hwm : IntKind.i64.wrap ((m : Int) - 1) = (m : Int) - 1 := IntWalk.i64_in _ (by omega)
        have Hls := hide (lastOf_step (nm := nm) hx)
        have HAo := hide hAo
        clear ho hv hAo hx c2
        cases hd : decide (x.written = nm) with
        | true =>
          rw [hd] at hq hq2
          have hR := Hend.out
          rw [Hlo.out, Hls.out, if_pos (of_decide_eq_true hd)] at hR
          have HR := hide hR
          clear hR hd
          have hw1 : IntKind.i64.wrap ((m : Int) + 1) = ((m + 1 : Nat) : Int) := by rw [IntWalk.i64_in _ (by omega)]; omega
          have Hmo := hide hmo
          go_wp2
          go_loopg [] (no - (m + 1)) (fun gk wx => ∃ (q : Bs) (vq : Bv) (r : Nat), gk = r ∧ PB B P wx q vq ∧ BMov B P w wx ∧ q.st.open_.length = m + 1 + r ∧ Bz.closeN p.at_ r q = Bz.closeN p.at_ (no - (m + 1)) E ∧ Ok q.st (900000016 - r) 10000000000000000 ∧ q.rs.length + r ≤ 900000000)
          case atStart => exact ⟨E, v5, no - (m + 1), rfl, P5.out, M4.out.trans M5.out, by rw [Hno.out]; have := Hmo.out; omega, rfl, (by rw [HSt.out]; exact ⟨Hk.out.op, Nat.le_trans Hk.out.sc (by omega), Nat.le_trans Hk.out.ev (by omega), Hk.out.tx, Hk.out.in_, Hk.out.srt⟩), (by have := Hrs.out; omega)⟩
          case round =>
            obtain ⟨q, vq, r, hgk, hq1, hq2', hq3, hq4, hq5, hq6⟩ := hrel
            have Hg2 := hide hgk
            have Q1 := hide hq1
            have Q2 := hide hq2'
            have Q3 := hide hq3
            have Q4 := hide hq4
            have Q5 := hide hq5
            have Q6 := hide hq6
            have cq2 := hq1.cell.2.2.1
            rw [hq3] at cq2
            clear hgk hq1 hq2' hq3 hq4 hq5 hq6
            cases r with
            | zero =>
              have hnl : ¬ (m + 1 < m + 1 + 0) := by omega
              go_wp2_with fail
              refine (bclose_any B P _ q vq Q1.out (Nat.le_trans HD.out.hB Q2.out.size) ⟨Q5.out.op, Nat.le_trans Q5.out.sc (by omega), Nat.le_trans Q5.out.ev (by omega), fun y hy => Nat.le_trans (Q5.out.tx y hy) (by omega), Q5.out.in_, Q5.out.srt⟩ (by intro e0; have h9 := Q3.out; rw [e0] at h9; simp at h9)).mono ?_
              rintro e w8 ⟨rfl, m8, v8, p8⟩
              have M8 := hide m8
              have P8 := hide p8
              clear m8 p8
              go_wp2
              go_end0
              rw [HR.out, ← Q4.out]
              exact ⟨rfl, Q2.out.trans M8.out, v8, P8.out⟩
            | succ r =>
              have hgt : m + 1 < m + 1 + (r + 1) := by omega
              have HM := hide (bmend_any B P _ q vq 11 p.at_ Q1.out (Nat.le_trans HD.out.hB Q2.out.size) (by have := Q6.out; omega))
              go_wp2_with fail
              refine HM.out.mono ?_
              rintro e w7 ⟨rfl, m7, v7, p7⟩
              have M7 := hide m7
              have P7 := hide p7
              clear m7 p7
              go_wp2_with fail
              refine (bclose_any B P w7 (Bz.mend 11 p.at_ q) v7 P7.out (Nat.le_trans HD.out.hB (Q2.out.trans M7.out).size) ⟨Q5.out.op, Nat.le_trans Q5.out.sc (by omega), Nat.le_trans Q5.out.ev (by omega), fun y hy => Nat.le_trans (Q5.out.tx y hy) (by omega), Q5.out.in_, Q5.out.srt⟩ (by intro e0; have h9 := Q3.out; have e1 : q.st.open_ = [] := e0; rw [e1] at h9; simp at h9)).mono ?_
              rintro e w8 ⟨rfl, m8, v8, p8⟩
              have M8 := hide m8
              have P8 := hide p8
              clear m8 p8
              go_wp2
              go_roundg r
              case measure => have := Hg2.out; omega
              case rel => exact ⟨_, v8, r, rfl, P8.out, (Q2.out.trans M7.out).trans M8.out, (by show (closeSt q.st).open_.length = _; rw [Bz.close_open, List.length_dropLast, Q3.out]; omega), Q4.out, (by have h9 := ok_close Q5.out; rw [show 900000016 - (r + 1) + 1 = 900000016 - r by have := Q6.out; omega] at h9; exact h9), (by show (Bz.mend 11 p.at_ q).rs.length + r ≤ _; rw [Bz.mend_rs]; have := Q6.out; omega)⟩
        | false =>
          rw [hd] at hq hq2
          have Hn2 := hide (show Bz.lastOf nm E.st.open_ no = Bz.lastOf nm E.st.open_ m by rw [Hlo.out, Hls.out, if_neg (of_decide_eq_false hd)])
          clear hd
          go_wp2
          go_roundg (m + 1)
          case measure => have := Hg.out; omega
          case rel => exact ⟨m, rfl, by omega, rfl, Hn2.out, rfl⟩
end Go.Proofs.Ytaickkaoglohgaa
