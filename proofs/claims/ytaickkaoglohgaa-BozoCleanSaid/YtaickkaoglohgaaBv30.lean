/- Bozo, plain: how much is left behind a value, an attribute. · Bozo: an attribute. -/
import Derived.Test.YtaickkaoglohgaaBv12
import Derived.Test.YtaickkaoglohgaaBv22
import Derived.Test.YtaickkaoglohgaaBv29
set_option linter.unusedSimpArgs false
set_option linter.unusedVariables false
namespace Go.Proofs.Ytaickkaoglohgaa
open Go Tk Sx
namespace Bz
theorem len_cut {n : Nat} {p : Bs} (h : n ≤ p.l.length) : (cutB n p).at_ + (cutB n p).l.length = p.at_ + p.l.length ∧ (cutB n p).l.length + n = p.l.length := by
  unfold cutB
  dsimp only
  rw [List.length_drop]
  omega
theorem len_span (f : UInt8 → Bool) (l : L) : span f l ≤ l.length := (List.takeWhile_sublist _).length_le
theorem len_until (f : UInt8 → Bool) (p : Bs) : (untilB f p).at_ + (untilB f p).l.length = p.at_ + p.l.length ∧ (untilB f p).l.length + span f p.l = p.l.length ∧ (untilB f p).rs = p.rs := by
  obtain ⟨h1, h2⟩ := len_cut (p := p) (len_span f p.l)
  exact ⟨h1, h2, rfl⟩
theorem len_unq (a : Nat) (p : Bs) : (unquoted a p).2.at_ + (unquoted a p).2.l.length = p.at_ + p.l.length ∧ (unquoted a p).1.length + (unquoted a p).2.l.length = p.l.length ∧ (unquoted a p).2.rs.length = p.rs.length + 1 := by
  obtain ⟨h1, h2, h3⟩ := len_until anglesp (mend 8 a p)
  unfold unquoted
  dsimp only
  rw [h3, mend_rs]
  refine ⟨h1, ?_, rfl⟩
  rw [List.length_take]
  have := len_span anglesp p.l
  have e : (mend 8 a p).l = p.l := rfl
  rw [e] at h2
  omega
theorem len_value (a : Nat) (p : Bs) : (valueB a p).2.at_ + (valueB a p).2.l.length = p.at_ + p.l.length ∧ (valueB a p).1.length + (valueB a p).2.l.length ≤ p.l.length ∧ (valueB a p).2.rs.length ≤ p.rs.length + 1 := by
  obtain ⟨h1, h2, h3⟩ := len_until solid p
  unfold valueB
  split
  · obtain ⟨u1, u2, u3⟩ := len_unq a (untilB solid p)
    rw [h3] at u3
    exact ⟨u1.trans h1, by omega, by omega⟩
  · rename_i q r hl
    split
    · split
      · rename_i n hn
        have hnl := till_len hn
        have hle : n + 2 ≤ (untilB solid p).l.length := by rw [hl, List.length_cons]; simp at hnl; omega
        obtain ⟨u1, u2⟩ := len_cut hle
        refine ⟨u1.trans h1, ?_, ?_⟩
        · dsimp only; rw [List.length_take]; omega
        · show (untilB solid p).rs.length ≤ _
          rw [h3]; omega
      · have hle : 1 ≤ (mend 8 a (untilB solid p)).l.length := by show 1 ≤ (untilB solid p).l.length; rw [hl, List.length_cons]; omega
        obtain ⟨u1, u2⟩ := len_cut hle
        obtain ⟨t1, t2, t3⟩ := len_until angle (cutB 1 (mend 8 a (untilB solid p)))
        have e : (cutB 1 (mend 8 a (untilB solid p))).l = r := by show (untilB solid p).l.drop 1 = r; rw [hl]; rfl
        refine ⟨t1.trans (u1.trans h1), ?_, ?_⟩
        · rw [e] at t2 u2
          have : (mend 8 a (untilB solid p)).l.length = (untilB solid p).l.length := rfl
          have := len_span angle r
          dsimp only
          rw [List.length_take]
          omega
        · rw [t3]
          show (mend 8 a (untilB solid p)).rs.length ≤ _
          rw [mend_rs, h3]
          omega
    · obtain ⟨u1, u2, u3⟩ := len_unq a (untilB solid p)
      rw [h3] at u3
      exact ⟨u1.trans h1, by omega, by omega⟩
theorem len_attr {n : Nat} {p : Bs} (hn : n ≤ p.l.length) : (attrB n p).2.at_ + (attrB n p).2.l.length = p.at_ + p.l.length ∧ (attrB n p).2.l.length + n ≤ p.l.length ∧ (attrB n p).2.rs.length + 6 * (attrB n p).2.l.length + 6 * n ≤ p.rs.length + 6 * p.l.length + 1 ∧
    (attrB n p).1.name = p.l.take n ∧ (attrB n p).1.value.length ≤ 12 * p.l.length := by
  obtain ⟨c1, c2⟩ := len_cut hn
  obtain ⟨u1, u2, u3⟩ := len_until solid (cutB n p)
  unfold attrB
  split
  · rename_i hp
    have h1 : 1 ≤ (untilB solid (cutB n p)).l.length := by
      cases hl : (untilB solid (cutB n p)).l with
      | nil => rw [hl] at hp; cases hp
      | cons c r => simp
    obtain ⟨d1, d2⟩ := len_cut h1
    obtain ⟨v1, v2, v3⟩ := len_value p.at_ (cutB 1 (untilB solid (cutB n p)))
    dsimp only
    obtain ⟨l1, l2⟩ := ploose_len ((valueB p.at_ (cutB 1 (untilB solid (cutB n p)))).1.map norm) p.at_ (valueB p.at_ (cutB 1 (untilB solid (cutB n p)))).2
    have e : (cutB 1 (untilB solid (cutB n p))).rs = p.rs := rfl
    rw [e] at v3
    rw [List.length_map] at l1 l2
    have ea : (ploose ((valueB p.at_ (cutB 1 (untilB solid (cutB n p)))).1.map norm) p.at_ (valueB p.at_ (cutB 1 (untilB solid (cutB n p)))).2).2.at_ = (valueB p.at_ (cutB 1 (untilB solid (cutB n p)))).2.at_ := rfl
    have el : (ploose ((valueB p.at_ (cutB 1 (untilB solid (cutB n p)))).1.map norm) p.at_ (valueB p.at_ (cutB 1 (untilB solid (cutB n p)))).2).2.l = (valueB p.at_ (cutB 1 (untilB solid (cutB n p)))).2.l := rfl
    rw [ea, el]
    refine ⟨by omega, by omega, by omega, rfl, by omega⟩
  · dsimp only
    rw [mend_rs]
    have e : (mend 8 p.at_ (cutB n p)).l = (cutB n p).l := rfl
    have e2 : (mend 8 p.at_ (cutB n p)).at_ = (cutB n p).at_ := rfl
    have e3 : (cutB n p).rs = p.rs := rfl
    rw [e, e2, e3]
    exact ⟨c1, by omega, by omega, rfl, by simp⟩
theorem one_le : ∀ {l : L}, l ≠ [] → 1 ≤ oneB l ∧ oneB l ≤ l.length
  | [], h => absurd rfl h
  | c :: r, _ => by
    have h1 := Utf.piece_len c r
    unfold oneB
    rw [List.length_cons] at *
    split <;> omega
end Bz
end Go.Proofs.Ytaickkaoglohgaa
namespace Go.Proofs.Ytaickkaoglohgaa
open Go.RowKit Tk Sx

theorem info_batr : (Try.prog.info? 96).map (fun i => (i.zero, i.size, i.bytes)) = some (some (.agg #[.string ⟨#[]⟩, .string ⟨#[]⟩, .int .i64 0]), 3, 40) := by kernel_rfl
def atCells (a : At) : List Value := [.string (bstr a.name), .string (bstr a.value), .int .i64 (a.at_ : Int)]
def atV (a : At) : Value := .agg #[.string (bstr a.name), .string (bstr a.value), .int .i64 (a.at_ : Int)]
theorem battr_ret {a : Act} {W : World} {N : Nat} {v0 v1 v2 : Value} {Q : Ending → World → Prop} (ha : a.tmps.getD 4 undef = .pointer (some ⟨N, 0, none⟩)) (hd : a.defers = []) (hK : Blk W N 96 #[v0, v1, v2]) (hQ : Q (.returned (.agg #[v0, v1, v2])) W) : bodyPost Try.prog Try.f73 Q .ret a W :=
  bodyPost_ret (results_cell_row (fn := Try.f73) rfl a.tmps W N 96 #[v0, v1, v2] (0, 0) _ ha hK Try.underlying96 rfl (by kernel_rfl)) hd hQ
theorem PB.farT {B P N t : Nat} {W : World} {p : Bs} {v : Bv} {cs : Array Value} (h : PB B P W p v) (hN : Blk W N t cs) (hne : P ≠ N) (ht : 77 ≠ t ∧ 97 ≠ t ∧ 39 ≠ t ∧ 47 ≠ t ∧ 41 ≠ t) (i : Nat) (u : Value) : PB B P (W.setCell ⟨N, i, none⟩ u) p v :=
  ⟨h.blk.far (p := ⟨N, i, none⟩) hne _, h.bp, own_far (p := ⟨N, i, none⟩) h.o hN ht.1 _, own_far (p := ⟨N, i, none⟩) h.s hN ht.2.1 _, own_far (p := ⟨N, i, none⟩) h.e hN ht.2.2.1 _, own_far (p := ⟨N, i, none⟩) h.r hN ht.2.2.2.1 _, h.ev,
    fun x hx => (h.inn x hx).bmov ((BMov.refl B N W).setCell (p := ⟨N, i, none⟩) (.inl rfl) _) fun a ha e => by subst e; exact isT_ne ((h.inn x hx).ta a ha) hN.isT ht.2.2.2.2⟩
/-- The end of a way through attribute. -/
theorem battr_end {B P N : Nat} {w W : World} {q : Bs} {v : Bv} {cs : Array Value} {x : At} (hN : Blk W N 96 cs) (hc : cs.size = 3) (hlt : w.heap.size ≤ N) (hne : P ≠ N) (hm : RMov B P w W) (h : PB B P W q v) :
    Blk (((W.setCell ⟨N, 0, none⟩ (.string (bstr x.name))).setCell ⟨N, 1, none⟩ (.string (bstr x.value))).setCell ⟨N, 2, none⟩ (.int .i64 (x.at_ : Int))) N 96 #[.string (bstr x.name), .string (bstr x.value), .int .i64 (x.at_ : Int)] ∧
    BRm B P w q (atV x) (.returned (atV x)) (((W.setCell ⟨N, 0, none⟩ (.string (bstr x.name))).setCell ⟨N, 1, none⟩ (.string (bstr x.value))).setCell ⟨N, 2, none⟩ (.int .i64 (x.at_ : Int))) := by
  have h1 := hN.set_ 0 (.string (bstr x.name))
  have h2 := h1.set_ 1 (.string (bstr x.value))
  have h3 := h2.set_ 2 (.int .i64 (x.at_ : Int))
  have e : ((cs.setIfInBounds 0 (.string (bstr x.name))).setIfInBounds 1 (.string (bstr x.value))).setIfInBounds 2 (.int .i64 (x.at_ : Int)) = #[.string (bstr x.name), .string (bstr x.value), .int .i64 (x.at_ : Int)] := by
    obtain ⟨l⟩ := cs
    match l, hc with
    | [x, y, z], _ => rfl
  rw [e] at h3
  exact ⟨h3, rfl, ((hm.setCell (p := ⟨N, 0, none⟩) (.inr hlt) _).setCell (p := ⟨N, 1, none⟩) (.inr hlt) _).setCell (p := ⟨N, 2, none⟩) (.inr hlt) _, v, ((h.farT hN hne (by decide) 0 _).farT h1 hne (by decide) 1 _).farT h2 hne (by decide) 2 _⟩
theorem bploose_m (B P : Nat) (w : World) (p : Bs) (v : Bv) (D : L) (a : Nat) (h : PB B P w p v) (hd : Gd B w) (hD : D.length ≤ 900000) (hn : p.rs.length ≤ 700000000) :
    Calls Try.prog 32 #[.pointer (some ⟨P, 0, none⟩), .string (bstr D), .int .i64 (a : Int)] w (BRm B P w (Bz.ploose D a p).2 (.string (bstr (Bz.ploose D a p).1))) := (bploose_r B P w p v D a h hd hD hn).mono fun _ _ h => ⟨h.1, h.2.1, h.2.2.elim fun v hv => ⟨v, hv.1⟩⟩
theorem norm_solid (c : UInt8) : norm c = if Bz.solid c then c else 32 := by
  unfold norm Bz.solid sp
  by_cases h : c = 32
  · subst h; rfl
  · simp [h]
    by_cases h1 : c = 9
    · simp [h1]
    · by_cases h2 : c = 10
      · simp [h2]
      · by_cases h3 : c = 13
        · simp [h3]
        · simp [h1, h2, h3]
set_option maxRecDepth 100000 in
set_option maxHeartbeats 16000000 in
theorem battr_m (B P : Nat) (w : World) (p : Bs) (v : Bv) (n : Nat) (h : PB B P w p v) (hd : Gd B w) (hl : p.at_ + p.l.length ≤ 90000) (hn : p.rs.length ≤ 600000000) (hn2 : n ≤ p.l.length) :
    Calls Try.prog 73 #[.pointer (some ⟨P, 0, none⟩), .int .i64 (n : Int)] w (BRm B P w (Bz.attrB n p).2 (atV (Bz.attrB n p).1)) := by
  have H := hide h
  have HD := hide hd
  obtain ⟨S, hS⟩ : ∃ S, Bz.attrB n p = S := ⟨_, rfl⟩
  rw [hS]
  unfold Bz.attrB at hS
  dsimp only at hS
  have z1 := h.cell.2.1
  have hPl := h.blk.lt
  have hPA : P ≠ w.heap.size + 1 := by omega
  have hPN : P ≠ w.heap.size := by omega
  obtain ⟨W2, hW2⟩ : ∃ W2, (w.alloc (.cells #[.string ⟨#[]⟩, .string ⟨#[]⟩, .int .i64 0] 96)).alloc (.cells #[.string ⟨#[]⟩, .string ⟨#[]⟩, .int .i64 (p.at_ : Int)] 96) = W2 := ⟨_, rfl⟩
  have B2 := hide (show Below w.heap.size w W2 by rw [← hW2]; exact below_two w _ _)
  have KN := hide (show Blk W2 w.heap.size 96 #[.string ⟨#[]⟩, .string ⟨#[]⟩, .int .i64 0] by rw [← hW2]; exact (Blk.new w _ _).go (below_alloc _ _))
  have KA := hide (show Blk W2 (w.heap.size + 1) 96 #[.string ⟨#[]⟩, .string ⟨#[]⟩, .int .i64 (p.at_ : Int)] by
    rw [← hW2]
    have := Blk.new (w.alloc (.cells #[.string ⟨#[]⟩, .string ⟨#[]⟩, .int .i64 0] 96)) 96 #[.string ⟨#[]⟩, .string ⟨#[]⟩, .int .i64 (p.at_ : Int)]
    rwa [World.size_alloc] at this)
  have Hl := hide (show p.at_ + p.l.length ≤ 1000000000 by omega)
  have Hn2 := hide hn2
  have Hls := hide hl
  have Hn := hide hn
  clear h hd hl hn hn2
  go_enter Try.func73, Try.ntmps73
  go_wp2_with fail
  refine (btake_m B P W2 p v n (H.out.go B2.out) Hn2.out Hl.out).mono ?_
  rintro e w1 ⟨rfl, m1, v1, p1⟩
  have M1 := hide m1; have P1 := hide p1; clear m1 p1
  clear hW2 z1
  have KN1 := hide (M1.out.blk KN.out hPN.symm (by decide))
  have KA1 := hide (M1.out.blk KA.out hPA.symm (by decide))
  have MM1 := hide ((RMov.of_below B2.out : RMov B P w W2).trans M1.out)
  obtain ⟨nm, hnm⟩ : ∃ x, p.l.take n = x := ⟨_, rfl⟩
  obtain ⟨p1, hp1⟩ : ∃ q, Bz.cutB n p = q := ⟨_, rfl⟩
  rw [hp1] at P1
  rw [hnm]
  obtain ⟨A, hA⟩ : ∃ A, w.heap.size + 1 = A := ⟨_, rfl⟩
  rw [hA] at hPA KA KA1 ⊢
  obtain ⟨N, hN⟩ : ∃ N, w.heap.size = N := ⟨_, rfl⟩
  rw [hN] at hPN KN KN1 ⊢
  obtain ⟨W3, hW3⟩ : ∃ W3, w1.setCell ⟨A, 0, none⟩ (.string (bstr nm)) = W3 := ⟨_, rfl⟩
  have hNA : N ≠ A := by omega
  have P3 := hide (show PB B P W3 p1 v1 by rw [← hW3]; exact P1.out.farT KA1.out hPA (by decide) _ _)
  have KA3 := hide (show Blk W3 A 96 #[.string (bstr nm), .string ⟨#[]⟩, .int .i64 (p.at_ : Int)] by rw [← hW3]; exact KA1.out.set_ 0 _)
  have KN3 := hide (show Blk W3 N 96 #[.string ⟨#[]⟩, .string ⟨#[]⟩, .int .i64 0] by rw [← hW3]; exact KN1.out.far (p := ⟨A, 0, none⟩) hNA _)
  have MM3 := hide (show RMov B P w W3 by rw [← hW3]; exact MM1.out.setCell (p := ⟨A, 0, none⟩) (.inr (by show w.heap.size ≤ A; omega)) _)
  have k0 := KA1.out.cell 0
  have f0 := KA1.out.frozen 0
  obtain ⟨y0, y1, y2, y3, y4, y5, y6, y7, y8⟩ := P3.out.cell
  obtain ⟨W4, hW4⟩ : ∃ W4, W3.alloc (.cells (pbCells p1 v1) 52) = W4 := ⟨_, rfl⟩
  have B4 := hide (show Below W3.heap.size W3 W4 by rw [← hW4]; exact below_alloc _ _)
  have KC4 := hide (show Blk W4 W3.heap.size 52 (pbCells p1 v1) by rw [← hW4]; exact Blk.new W3 _ _)
  have hPC : P ≠ W3.heap.size := by have := P3.out.blk.lt; omega
  obtain ⟨C, hC⟩ : ∃ C, W3.heap.size = C := ⟨_, rfl⟩
  unfold pbCells at hW4
  have Hl1 := hide (show p1.at_ + p1.l.length ≤ 1000000000 by rw [← hp1]; exact tak_mono Hl.out Hn2.out)
  rw [hC] at KC4 hPC
  have P4 := hide (P3.out.go B4.out)
  have KA4 := hide (KA3.out.go B4.out)
  have KN4 := hide (KN3.out.go B4.out)
  have MM4 := hide (MM3.out.go B4.out)
  rw [hp1, hnm] at hS
  have HN := hide hN
  have HA := hide hA
  go_wp2_with fail
  refine (buntil_solidM B P W4 p1 v1 P4.out Hl1.out).mono ?_
  rintro e w5 ⟨rfl, m5, v5, p5⟩
  have M5 := hide m5; have P5 := hide p5; clear m5 p5
  have KA5 := hide (M5.out.blk KA4.out hPA.symm (by decide))
  have KN5 := hide (M5.out.blk KN4.out hPN.symm (by decide))
  have KC5 := hide (M5.out.blk KC4.out hPC.symm (by decide))
  have MM5 := hide (MM4.out.trans M5.out)
  have Hl5 := hide (until_mono (f := Bz.solid) Hl1.out)
  obtain ⟨q5, hq5⟩ : ∃ q, Bz.untilB Bz.solid p1 = q := ⟨_, rfl⟩
  rw [hq5] at P5 hS Hl5
  have Hq5 := hide (show q5 = ⟨q5.l, q5.at_, p1.st, p1.rs, p1.junk, p1.e⟩ by rw [← hq5]; rfl)
  have Hq5L := hide (show q5.l.length ≤ 90000 by
    have h1 := (Bz.len_until Bz.solid p1).2.1
    rw [hq5, ← hp1] at h1
    have h2 := (Bz.len_cut (p := p) Hn2.out).2
    have := Hls.out
    omega)
  have Hrs := hide (show p1.rs.length ≤ 600000000 by rw [← hp1]; exact Hn.out)
  have z0 := P5.out.cell.1
  obtain ⟨b1, hb1⟩ : ∃ b, ([61] : L).isPrefixOf q5.l = b := ⟨_, rfl⟩
  have HP1 := hide (fun W => bpre_any q5.l [61] W)
  rw [hb1] at HP1 hS
  have Hb1 := hide hb1
  clear hW3 hW4 k0 f0 y0 y1 y2 y3 y4 y5 y6 y7 y8 hC hq5 hb1 hp1 hnm hN hA hPl
  cases b1 with
  | false =>
    rw [if_neg (by simp)] at hS
    have HS := hide hS
    have c0 : w5.cell? ⟨C, 0, none⟩ = some (.string (bstr p1.l)) := KC5.out.cell 0
    have c1 : w5.cell? ⟨C, 1, none⟩ = some (.int .i64 (p1.at_ : Int)) := KC5.out.cell 1
    have f0 := P5.out.frz 0
    have f1 := P5.out.frz 1
    have x1 := P5.out.cell.2.1
    clear hS
    go_wp2_with fail
    refine cq (HP1.out _) ?_
    go_wp2
    go_region
    all_goals
      have P5' := P5.out
      rw [Hq5.out] at P5'
      have P6 := hide (((P5'.put (q := ⟨p1.l, q5.at_, p1.st, p1.rs, p1.junk, p1.e⟩) 0 (.string (bstr p1.l)) rfl rfl rfl rfl rfl).put (q := p1) 1 (.int .i64 (p1.at_ : Int)) rfl rfl rfl rfl rfl).go (Below.refl _ _).drew)
      have M6 := hide ((MM5.out.setCell (p := ⟨P, 0, none⟩) (.inl ⟨rfl, .inl (Nat.zero_lt_succ _)⟩) (.string (bstr p1.l))).setCell (p := ⟨P, 1, none⟩) (.inl ⟨rfl, .inl (Nat.lt_succ_self _)⟩) (.int .i64 (p1.at_ : Int))).drew
      have KA6 := hide (show Blk ((w5.setCell ⟨P, 0, none⟩ (.string (bstr p1.l))).setCell ⟨P, 1, none⟩ (.int .i64 (p1.at_ : Int))).drew A 96 _ from (KA5.out.far (p := ⟨P, 0, none⟩) hPA.symm (.string (bstr p1.l))).far (p := ⟨P, 1, none⟩) hPA.symm (.int .i64 (p1.at_ : Int)))
      have KN6 := hide (show Blk ((w5.setCell ⟨P, 0, none⟩ (.string (bstr p1.l))).setCell ⟨P, 1, none⟩ (.int .i64 (p1.at_ : Int))).drew N 96 _ from (KN5.out.far (p := ⟨P, 0, none⟩) hPN.symm (.string (bstr p1.l))).far (p := ⟨P, 1, none⟩) hPN.symm (.int .i64 (p1.at_ : Int)))
      clear P5' c0 c1 f0 f1 x1 z0
      obtain ⟨W6, hW6⟩ : ∃ W6, ((w5.setCell ⟨P, 0, none⟩ (.string (bstr p1.l))).setCell ⟨P, 1, none⟩ (.int .i64 (p1.at_ : Int))).drew = W6 := ⟨_, rfl⟩
      rw [hW6] at P6 M6 KA6 KN6 ⊢
      have a2 := KA6.out.cell 2
      go_wp2_with fail
      refine (bmend_m B P W6 p1 v5 8 p.at_ P6.out (Nat.le_trans HD.out.hB M6.out.size) (by have := Hrs.out; omega)).mono ?_
      rintro e w7 ⟨rfl, m7, v7, p7⟩
      have M7 := hide m7; have P7 := hide p7; clear m7 p7
      have KA7 := hide (M7.out.blk KA6.out hPA.symm (by decide))
      have KN7 := hide (M7.out.blk KN6.out hPN.symm (by decide))
      have g0 := KA7.out.cell 0
      have g1 := KA7.out.cell 1
      have g2 := KA7.out.cell 2
      have j0 := KN7.out.cell 0
      have j1 := KN7.out.cell 1
      have j2 := KN7.out.cell 2
      have i0 := KN7.out.frozen 0
      have i1 := KN7.out.frozen 1
      have i2 := KN7.out.frozen 2
      clear a2 hW6
      go_wp2
      obtain ⟨e1, e2⟩ := battr_end (x := ⟨nm, [], p.at_⟩) KN7.out rfl (by rw [HN.out]; exact Nat.le_refl _) hPN (M6.out.trans M7.out) P7.out
      exact battr_ret rfl rfl e1 (by rw [← HS.out]; exact e2)
  | true =>
    rw [if_pos rfl] at hS
    have h1 : 1 ≤ q5.l.length := by
      have hb := Hb1.out
      cases hl9 : q5.l with
      | nil => rw [hl9] at hb; cases hb
      | cons c r => simp
    have Hl6 := hide (tak_mono Hl5.out h1)
    have Hlen := hide (show q5.l.length ≤ 90000 by have := Hq5L.out; omega)
    go_wp2_with fail
    refine cq (HP1.out _) ?_
    go_wp2_with fail
    refine (btake_m B P w5 q5 v5 1 P5.out h1 Hl5.out).mono ?_
    rintro e w6 ⟨rfl, m6, v6, p6⟩
    have M6 := hide m6; have P6 := hide p6; clear m6 p6
    obtain ⟨q6, hq6⟩ : ∃ q, Bz.cutB 1 q5 = q := ⟨_, rfl⟩
    rw [hq6] at P6 hS Hl6
    have KA6 := hide (M6.out.blk KA5.out hPA.symm (by decide))
    have KN6 := hide (M6.out.blk KN5.out hPN.symm (by decide))
    have MM6 := hide (MM5.out.trans M6.out)
    have a2 := KA6.out.cell 2
    have Hrs6 := hide (show q6.rs.length ≤ 600000000 by rw [← hq6]; have := Hrs.out; show q5.rs.length ≤ _; rw [Hq5.out]; exact this)
    have hlv := Bz.len_value p.at_ q6
    have hq6l : q6.l.length ≤ 90000 := by rw [← hq6]; show (q5.l.drop 1).length ≤ _; rw [List.length_drop]; have := Hlen.out; omega
    go_wp2_with fail
    refine (bvalue_m B P w6 q6 v6 p.at_ P6.out (Nat.le_trans HD.out.hB MM6.out.size) Hl6.out (by have := Hrs6.out; omega)).mono ?_
    rintro e w7 ⟨rfl, m7, v7, p7⟩
    have M7 := hide m7; have P7 := hide p7; clear m7 p7
    obtain ⟨y, hy⟩ : ∃ y, Bz.valueB p.at_ q6 = y := ⟨_, rfl⟩
    rw [hy] at P7 hS hlv ⊢
    obtain ⟨t, q7⟩ := y
    dsimp only at P7 hS hlv ⊢
    have HS := hide hS
    have KA7 := hide (M7.out.blk KA6.out hPA.symm (by decide))
    have KN7 := hide (M7.out.blk KN6.out hPN.symm (by decide))
    have MM7 := hide (MM6.out.trans M7.out)
    have Htl := hide (show t.length ≤ 90000 ∧ q7.rs.length ≤ 600000001 by have := Hrs6.out; omega)
    obtain ⟨W8, g, cap, hconv, hb8, hg8, hgl8, hby⟩ := bytes_mine t w7
    have Hs := hide (bstr_size t)
    have HBy := hide (show ByAt W8 g (normTo 0 t) from hby)
    have HB8 := hide hb8
    have HG8 := hide hg8
    clear hby hb8 hg8 a2 hq6 hlv hq6l hy hS z0 h1
    go_wp2
    clear hconv
    go_loopg [54] (bstr t).size (fun gk vk wr => ∃ k : Nat, gk = (bstr t).size - k ∧ k ≤ (bstr t).size ∧ vk = .int .i64 (k : Int) ∧ ByAt wr g (normTo k t) ∧ g < wr.heap.size ∧ Below w7.heap.size w7 wr)
    case atStart => exact ⟨0, rfl, by omega, rfl, HBy.out, hgl8, HB8.out⟩
    case round =>
      obtain ⟨k, hgk, hk, rfl, hby, hgl, hb⟩ := hrel
      have Hg := hide hgk
      have Hby := hide hby
      have Hgl := hide hgl
      have HB1 := hide hb
      clear hgk hby hgl hb HBy HB8
      by_cases hlt : k < (bstr t).size
      · obtain ⟨c, hc⟩ : ∃ c, t[k]? = some c := ⟨_, List.getElem?_eq_getElem (by rw [← Hs.out]; exact hlt)⟩
        have hcell := Hby.out.c k c (normTo_at hc)
        have hfr := Hby.out.f k (by rw [normTo_len, ← Hs.out]; exact hlt)
        have hk0 : (0 : Int) ≤ (k : Int) := by omega
        have hwk : IntKind.i64.wrap ((k : Int) + 1) = (k : Int) + 1 := IntWalk.i64_in _ (by have := Hs.out; have := Htl.out; omega)
        have HSo := hide (fun W => bsolid_any c W)
        have hns := norm_solid c
        cases hsd : Bz.solid c with
        | true =>
          rw [hsd] at HSo hns
          have Hn2 := hide (show ByAt wr g (normTo (k + 1) t) by rw [normTo_same hc (by rw [hns]; rfl)]; exact Hby.out)
          clear hc hns hsd
          go_wp2_with fail
          refine cq (HSo.out _) ?_
          go_wp2
          go_roundg ((bstr t).size - (k + 1))
          case measure => have := Hg.out; omega
          case rel => exact ⟨k + 1, rfl, by omega, by first | rfl | go_num, Hn2.out, Hgl.out, HB1.out⟩
        | false =>
          rw [hsd] at HSo hns
          have Hn2 := hide (show ByAt (wr.setCell ⟨g, k, none⟩ (.int .u8 32)) g (normTo (k + 1) t) by
            have h := Hby.out.set (k := k) (by rw [normTo_len, ← Hs.out]; exact hlt) 32
            rw [normTo_next hc, show norm c = 32 by rw [hns]; rfl]
            exact h)
          have HB2 := hide (HB1.out.setCell (p := ⟨g, k, none⟩) HG8.out (.int .u8 32))
          have Hgl2 := hide (show g < (wr.setCell ⟨g, k, none⟩ (.int .u8 32)).heap.size by simpa [World.setCell] using Hgl.out)
          clear hc hns hsd
          go_wp2_with fail
          refine cq (HSo.out _) ?_
          go_wp2
          go_roundg ((bstr t).size - (k + 1))
          case measure => have := Hg.out; omega
          case rel => exact ⟨k + 1, rfl, by omega, by first | rfl | go_num, Hn2.out, Hgl2.out, HB2.out⟩
      · have hall : normTo k t = t.map norm := by
          have hkl : t.length ≤ k := by rw [← Hs.out]; omega
          unfold normTo
          rw [List.take_of_length_le hkl, List.drop_of_length_le hkl, List.append_nil]
        have hback : (Go.convert 58 9 (.slice (some ⟨g, 0, none⟩) (bstr t).size cap)).run Try.prog wr = .ok (.string (bstr (t.map norm))) wr := by
          have hy := Hby.out
          rw [hall] at hy
          have hl : (bstr t).size = (t.map norm).length := by rw [List.length_map, Hs.out]
          rw [hl]
          refine run_convert_bytes_back wr 58 9 5 ⟨g, 0, none⟩ cap (t.map norm) Try.underlying58 Try.underlying5 Try.underlying9 ?_
          intro j hj
          have := hy.c j _ (List.getElem?_eq_getElem hj)
          unfold Addr.add
          split
          · rename_i h0
            subst h0
            exact this
          · simpa using this
        have KA8 := hide (KA7.out.go HB1.out)
        have KN8 := hide (KN7.out.go HB1.out)
        have P8 := hide (P7.out.go HB1.out)
        have MM8 := hide (MM7.out.go HB1.out)
        have a2 := KA8.out.cell 2
        have HPl := hide (bploose_m B P wr q7 v7 (t.map norm) p.at_ P8.out (HD.out.bmov MM8.out.bmov H.out.bp) (by rw [List.length_map]; have := Htl.out; omega) (by have := Htl.out; omega))
        clear hall Hby
        go_wp2_with fail
        refine HPl.out.mono ?_
        rintro e w9 ⟨rfl, m9, v9, p9⟩
        have M9 := hide m9; have P9 := hide p9; clear m9 p9
        obtain ⟨z, hz⟩ : ∃ z, Bz.ploose (t.map norm) p.at_ q7 = z := ⟨_, rfl⟩
        have HS2 := hide (show ((⟨nm, z.1, p.at_⟩ : At), z.2) = S by rw [← HS.out, hz])
        rw [hz] at P9 ⊢
        have KA9 := hide (M9.out.blk KA8.out hPA.symm (by decide))
        have KN9 := hide (M9.out.blk KN8.out hPN.symm (by decide))
        obtain ⟨W10, hW10⟩ : ∃ W10, w9.setCell ⟨A, 1, none⟩ (.string (bstr z.1)) = W10 := ⟨_, rfl⟩
        have P10 := hide (show PB B P W10 z.2 v9 by rw [← hW10]; exact P9.out.farT KA9.out hPA (by decide) _ _)
        have KA10 := hide (show Blk W10 A 96 #[.string (bstr nm), .string (bstr z.1), .int .i64 (p.at_ : Int)] by rw [← hW10]; exact KA9.out.set_ 1 _)
        have KN10 := hide (show Blk W10 N 96 #[.string ⟨#[]⟩, .string ⟨#[]⟩, .int .i64 0] by rw [← hW10]; exact KN9.out.far (p := ⟨A, 1, none⟩) hNA _)
        have MM10 := hide (show RMov B P w W10 by rw [← hW10]; exact (MM8.out.trans M9.out).setCell (p := ⟨A, 1, none⟩) (.inr (by show w.heap.size ≤ A; have := HA.out; have := HN.out; omega)) _)
        have k1 := KA9.out.cell 1
        have f1 := KA9.out.frozen 1
        have g0 := KA10.out.cell 0
        have g1 := KA10.out.cell 1
        have g2 := KA10.out.cell 2
        have j0 := KN10.out.cell 0
        have j1 := KN10.out.cell 1
        have j2 := KN10.out.cell 2
        have i0 := KN10.out.frozen 0
        have i1 := KN10.out.frozen 1
        have i2 := KN10.out.frozen 2
        clear a2 hback hz
        go_wp2
        obtain ⟨e1, e2⟩ := battr_end (x := ⟨nm, z.1, p.at_⟩) KN10.out rfl (by rw [HN.out]; exact Nat.le_refl _) hPN MM10.out P10.out
        exact battr_ret rfl rfl e1 (by rw [← HS2.out]; exact e2)
theorem battr_any (B P : Nat) (w : World) (p : Bs) (v : Bv) (n : Nat) (h : PB B P w p v) (hd : Gd B w) (hl : p.at_ + p.l.length ≤ 90000) (hn : p.rs.length ≤ 600000000) (hn2 : n ≤ p.l.length) :
    Calls Try.prog 73 #[.pointer (some ⟨P, 0, none⟩), .int .i64 (n : Int)] w (BR B P w (Bz.attrB n p).2 (atV (Bz.attrB n p).1)) := (battr_m B P w p v n h hd hl hn hn2).mono fun _ _ h => h.br
end Go.Proofs.Ytaickkaoglohgaa
