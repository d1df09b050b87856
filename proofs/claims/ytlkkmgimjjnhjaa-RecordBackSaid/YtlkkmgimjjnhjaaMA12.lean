/- The writer's records. (Printed by wip/genRecO.py.) -/
import Derived.Test.YtlkkmgimjjnhjaaMA11
import Derived.Deep.DeepCutAuto
set_option linter.unusedSimpArgs false
set_option linter.unusedVariables false
namespace Go.Proofs.Ytlkkmgimjjnhjaa
open Go.RowKit Rec
attribute [local go_sem ↓] Go.wp_at_zero Go.wp_at_succ

/-- An entry that may be written. -/
def Plain (x : Ent) : Prop := (∀ k, k < 5 → (five x k).size ≤ 30000) ∧ TimeOk x
/-- A record that may be written; its rows lie below X. -/
structure RcdAt (w : World) (X : Nat) (r : Rcd) (A A' : Option Addr) : Prop where
  a : Reads w X 7 A r.entries.length (ents r.entries)
  k : Reads w X 8 A' r.kept.length (kpts r.kept)
  na : r.entries.length ≤ 32
  nk : r.kept.length ≤ 32
  pa : ∀ x ∈ r.entries, Plain x
  pk : ∀ x ∈ r.kept, Plain x.e
  gen : 0 ≤ r.gen ∧ r.gen < 1000000000000
  su : r.url.size ≤ 100000
  si : r.id.size ≤ 100000
  ss : r.surl.size ≤ 100000
theorem RcdAt.later {w w' : World} {base B X : Nat} {r : Rcd} {A A' : Option Addr} (h : RcdAt w X r A A') (ht : Tur base 5 B w w') (h1 : X ≤ base) (h2 : X ≤ B) (h3 : X ≤ w.heap.size) : RcdAt w' X r A A' :=
  ⟨ht.reads h.a h1 h2 h3, ht.reads h.k h1 h2 h3, h.na, h.nk, h.pa, h.pk, h.gen, h.su, h.si, h.ss⟩
/-- The bytes of a kind. -/
def kb (n : Int) : List UInt8 := [UInt8.ofNat (n % 256).toNat]


set_option maxHeartbeats 2000000 in
theorem write_6 (r : Rcd) (A2 A3 : Option Addr) (c2 c3 X : Nat) (w : World) (hk : r.kind = 6) (base B : Nat) (L : List UInt8) (A : Option Addr) (c : Nat) (hW : Wr w base B L A c) (hl : L.length ≤ 100000000) (hr : RcdAt w X r A2 A3) (h1 : X ≤ base) (h2 : X ≤ B) :
    Calls Try.prog 30 #[.pointer (some ⟨B, 0, none⟩), .agg (rcdCells r A2 c2 A3 c3)] w fun e w' => e = .returned (.tuple #[]) ∧ (∃ A' c', Wr w' base B (L ++ Rec.bytes r) A' c') ∧ Tur base 5 B w w' := by
  obtain ⟨k, g, u, i, b, l, s, m⟩ := r
  dsimp only at hk
  subst hk
  unfold rcdCells
  dsimp only
  have hX : X ≤ w.heap.size := by have := hW.blk.lt; omega
  have HR := hide hr
  have HW := hide hW
  have HB := hide (show B ≠ w.heap.size from fun e => by have := hW.blk.lt; omega)
  have Hb := hide (And.intro h1 (And.intro h2 hX))
  have qb : ∀ o, (w.alloc o).cell? ⟨B, 0, none⟩ = some (.slice A L.length c) := fun o => cell_go (below_alloc _ _) (hW.blk.cell 0)
  have qb2 : ∀ o o', ((w.alloc o).alloc o').cell? ⟨B, 0, none⟩ = some (.slice A L.length c) := fun o o' => cell_go (below_alloc _ _) (qb o)
  have hu : IntKind.u8.wrap 6 = 6 := by decide
  clear hr hW h1 h2 hX
  go_enter Try.func30, Try.ntmps30
  go_upto_region 1 with fail
  go_cut [] (fun wx => (∃ A' c', Wr wx base B (L ++ kb 6) A' c') ∧ Blk wx w.heap.size 28 #[.int .i8 6, .int .i64 g, .string u, .string i, .bool b, .slice A2 l.length c2, .string s, .slice A3 m.length c3] ∧ Tur base 5 B w wx)
  case first =>
    go_region_law ((refine step_append_byte (w := w.alloc (.cells #[.int .i8 6, .int .i64 g, .string u, .string i, .bool b, .slice A2 l.length c2, .string s, .slice A3 m.length c3] 28)) (by rfl) _ _ _ (by rfl) base B L A c (HW.out.alloc _) Try.underlying54 (by kernel_rfl) (by rfl) 6 (by omega) (w.heap.size + 1) (by simp) (by rfl) ?_; intro A4 c4 w2 hk2 ho2 ht2; have qf2 := hk2.frozen 0; have q2 := hk2.cell 0))
    all_goals
      rw [show ([bv 6] : List UInt8) = kb 6 from rfl] at ho2
      have HN := (HW.out.alloc (.cells #[.int .i8 6, .int .i64 g, .string u, .string i, .bool b, .slice A2 l.length c2, .string s, .slice A3 m.length c3] 28)).next hk2 ho2 ht2 (by simp [kb]) (by simp [kb]; omega)
      have kk := (ht2.blk (Blk.new w 28 #[.int .i8 6, .int .i64 g, .string u, .string i, .bool b, .slice A2 l.length c2, .string s, .slice A3 m.length c3]) HB.out.symm (by decide)).far (p := ⟨B, 0, none⟩) HB.out.symm (.slice A4 (L.length + 1) c4)
      have HN1 := hide HN.1
      have HN2 := hide (((Tur.refl base 5 B w).alloc _).trans HN.2)
      have HK := hide kk
      clear HN kk qf2 q2 hk2 ho2 ht2 hu qb qb2
      (try simp only [Exit.then])
      rename_i hJ hM
      refine hM _ _ (Met.intro ?_)
      refine hJ _ _ ?_
      (repeat apply Exists.intro)
      refine ⟨?_, rfl⟩
      exact ⟨⟨_, _, HN1.out⟩, HK.out, HN2.out⟩
  case rest =>
    obtain ⟨⟨A4, c4, hW⟩, k0, t0⟩ := hcut
    obtain ⟨L1, hL1⟩ : ∃ L1, L ++ kb 6 = L1 := ⟨_, rfl⟩
    rw [hL1] at hW
    have l1 : L1.length = L.length + 1 := by rw [← hL1]; simp [kb]
    have HL1 := hide hL1
    have W1 := hide hW
    have K0 := hide k0
    have T1 := hide t0
    have q0 := k0.cell 0
    have q1 := k0.cell 1
    have q2 := k0.cell 2
    have q3 := k0.cell 3
    have q4 := k0.cell 4
    have q5 := k0.cell 5
    have q6 := k0.cell 6
    have q7 := k0.cell 7
    clear hL1 hW k0 t0 qb qb2 hu
    go_wp2
    go_end0
    refine ⟨rfl, ⟨A4, c4, ?_⟩, T1.out⟩
    have e := W1.out
    rw [← HL1.out] at e
    have hb : Rec.bytes ⟨6, g, u, i, b, l, s, m⟩ = kb 6 := rfl
    rw [hb]
    exact e

set_option maxHeartbeats 2000000 in
theorem write_0 (r : Rcd) (A2 A3 : Option Addr) (c2 c3 X : Nat) (w : World) (hk : r.kind = 0) (base B : Nat) (L : List UInt8) (A : Option Addr) (c : Nat) (hW : Wr w base B L A c) (hl : L.length ≤ 100000000) (hr : RcdAt w X r A2 A3) (h1 : X ≤ base) (h2 : X ≤ B) :
    Calls Try.prog 30 #[.pointer (some ⟨B, 0, none⟩), .agg (rcdCells r A2 c2 A3 c3)] w fun e w' => e = .returned (.tuple #[]) ∧ (∃ A' c', Wr w' base B (L ++ Rec.bytes r) A' c') ∧ Tur base 5 B w w' := by
  obtain ⟨k, g, u, i, b, l, s, m⟩ := r
  dsimp only at hk
  subst hk
  obtain ⟨n, rfl⟩ : ∃ n : Nat, g = (n : Int) := ⟨g.toNat, by have := hr.gen.1; simp at this; omega⟩
  have hn : n < 1000000000000 := by have := hr.gen.2; simp at this; omega
  unfold rcdCells
  dsimp only
  have hX : X ≤ w.heap.size := by have := hW.blk.lt; omega
  have HR := hide hr
  have HW := hide hW
  have HB := hide (show B ≠ w.heap.size from fun e => by have := hW.blk.lt; omega)
  have Hb := hide (And.intro h1 (And.intro h2 hX))
  have qb : ∀ o, (w.alloc o).cell? ⟨B, 0, none⟩ = some (.slice A L.length c) := fun o => cell_go (below_alloc _ _) (hW.blk.cell 0)
  have qb2 : ∀ o o', ((w.alloc o).alloc o').cell? ⟨B, 0, none⟩ = some (.slice A L.length c) := fun o o' => cell_go (below_alloc _ _) (qb o)
  have hu : IntKind.u8.wrap 0 = 0 := by decide
  clear hr hW h1 h2 hX
  go_enter Try.func30, Try.ntmps30
  go_upto_region 1 with fail
  go_cut [] (fun wx => (∃ A' c', Wr wx base B (L ++ kb 0) A' c') ∧ Blk wx w.heap.size 28 #[.int .i8 0, .int .i64 n, .string u, .string i, .bool b, .slice A2 l.length c2, .string s, .slice A3 m.length c3] ∧ Tur base 5 B w wx)
  case first =>
    go_region_law ((refine step_append_byte (w := w.alloc (.cells #[.int .i8 0, .int .i64 n, .string u, .string i, .bool b, .slice A2 l.length c2, .string s, .slice A3 m.length c3] 28)) (by rfl) _ _ _ (by rfl) base B L A c (HW.out.alloc _) Try.underlying54 (by kernel_rfl) (by rfl) 0 (by omega) (w.heap.size + 1) (by simp) (by rfl) ?_; intro A4 c4 w2 hk2 ho2 ht2; have qf2 := hk2.frozen 0; have q2 := hk2.cell 0))
    all_goals
      rw [show ([bv 0] : List UInt8) = kb 0 from rfl] at ho2
      have HN := (HW.out.alloc (.cells #[.int .i8 0, .int .i64 n, .string u, .string i, .bool b, .slice A2 l.length c2, .string s, .slice A3 m.length c3] 28)).next hk2 ho2 ht2 (by simp [kb]) (by simp [kb]; omega)
      have kk := (ht2.blk (Blk.new w 28 #[.int .i8 0, .int .i64 n, .string u, .string i, .bool b, .slice A2 l.length c2, .string s, .slice A3 m.length c3]) HB.out.symm (by decide)).far (p := ⟨B, 0, none⟩) HB.out.symm (.slice A4 (L.length + 1) c4)
      have HN1 := hide HN.1
      have HN2 := hide (((Tur.refl base 5 B w).alloc _).trans HN.2)
      have HK := hide kk
      clear HN kk qf2 q2 hk2 ho2 ht2 hu qb qb2
      (try simp only [Exit.then])
      rename_i hJ hM
      refine hM _ _ (Met.intro ?_)
      refine hJ _ _ ?_
      (repeat apply Exists.intro)
      refine ⟨?_, rfl⟩
      exact ⟨⟨_, _, HN1.out⟩, HK.out, HN2.out⟩
  case rest =>
    obtain ⟨⟨A4, c4, hW⟩, k0, t0⟩ := hcut
    obtain ⟨L1, hL1⟩ : ∃ L1, L ++ kb 0 = L1 := ⟨_, rfl⟩
    rw [hL1] at hW
    have l1 : L1.length = L.length + 1 := by rw [← hL1]; simp [kb]
    have HL1 := hide hL1
    have W1 := hide hW
    have K0 := hide k0
    have T1 := hide t0
    have q0 := k0.cell 0
    have q1 := k0.cell 1
    have q2 := k0.cell 2
    have q3 := k0.cell 3
    have q4 := k0.cell 4
    have q5 := k0.cell 5
    have q6 := k0.cell 6
    have q7 := k0.cell 7
    clear hL1 hW k0 t0 qb qb2 hu
    go_wp2_with fail
    refine (number_any n _ base B L1 A4 c4 W1.out (by omega) hn).mono ?_
    rintro e w2 ⟨rfl, ⟨B2, d2, hW⟩, ht⟩
    replace K0 := hide (ht.blk K0.out HB.out.symm (by decide))
    have T2 := hide (T1.out.trans ht)
    have W2 := hide hW
    have k0 := K0.out
    have q0 := k0.cell 0
    have q1 := k0.cell 1
    have q2 := k0.cell 2
    have q3 := k0.cell 3
    have q4 := k0.cell 4
    have q5 := k0.cell 5
    have q6 := k0.cell 6
    have q7 := k0.cell 7
    clear hW ht k0
    go_wp2
    go_end0
    refine ⟨rfl, ⟨B2, d2, ?_⟩, T2.out⟩
    have e := W2.out
    rw [← HL1.out] at e
    have hb : Rec.bytes ⟨0, n, u, i, b, l, s, m⟩ = kb 0 ++ num n := rfl
    rw [hb]
    simpa [List.append_assoc] using e

set_option maxHeartbeats 2000000 in
theorem write_1 (r : Rcd) (A2 A3 : Option Addr) (c2 c3 X : Nat) (w : World) (hk : r.kind = 1) (base B : Nat) (L : List UInt8) (A : Option Addr) (c : Nat) (hW : Wr w base B L A c) (hl : L.length ≤ 100000000) (hr : RcdAt w X r A2 A3) (h1 : X ≤ base) (h2 : X ≤ B) :
    Calls Try.prog 30 #[.pointer (some ⟨B, 0, none⟩), .agg (rcdCells r A2 c2 A3 c3)] w fun e w' => e = .returned (.tuple #[]) ∧ (∃ A' c', Wr w' base B (L ++ Rec.bytes r) A' c') ∧ Tur base 5 B w w' := by
  obtain ⟨k, g, u, i, b, l, s, m⟩ := r
  dsimp only at hk
  subst hk
  unfold rcdCells
  dsimp only
  have hX : X ≤ w.heap.size := by have := hW.blk.lt; omega
  have HR := hide hr
  have HW := hide hW
  have HB := hide (show B ≠ w.heap.size from fun e => by have := hW.blk.lt; omega)
  have Hb := hide (And.intro h1 (And.intro h2 hX))
  have qb : ∀ o, (w.alloc o).cell? ⟨B, 0, none⟩ = some (.slice A L.length c) := fun o => cell_go (below_alloc _ _) (hW.blk.cell 0)
  have qb2 : ∀ o o', ((w.alloc o).alloc o').cell? ⟨B, 0, none⟩ = some (.slice A L.length c) := fun o o' => cell_go (below_alloc _ _) (qb o)
  have hu : IntKind.u8.wrap 1 = 1 := by decide
  clear hr hW h1 h2 hX
  go_enter Try.func30, Try.ntmps30
  go_upto_region 1 with fail
  go_cut [] (fun wx => (∃ A' c', Wr wx base B (L ++ kb 1) A' c') ∧ Blk wx w.heap.size 28 #[.int .i8 1, .int .i64 g, .string u, .string i, .bool b, .slice A2 l.length c2, .string s, .slice A3 m.length c3] ∧ Tur base 5 B w wx)
  case first =>
    go_region_law ((refine step_append_byte (w := w.alloc (.cells #[.int .i8 1, .int .i64 g, .string u, .string i, .bool b, .slice A2 l.length c2, .string s, .slice A3 m.length c3] 28)) (by rfl) _ _ _ (by rfl) base B L A c (HW.out.alloc _) Try.underlying54 (by kernel_rfl) (by rfl) 1 (by omega) (w.heap.size + 1) (by simp) (by rfl) ?_; intro A4 c4 w2 hk2 ho2 ht2; have qf2 := hk2.frozen 0; have q2 := hk2.cell 0))
    all_goals
      rw [show ([bv 1] : List UInt8) = kb 1 from rfl] at ho2
      have HN := (HW.out.alloc (.cells #[.int .i8 1, .int .i64 g, .string u, .string i, .bool b, .slice A2 l.length c2, .string s, .slice A3 m.length c3] 28)).next hk2 ho2 ht2 (by simp [kb]) (by simp [kb]; omega)
      have kk := (ht2.blk (Blk.new w 28 #[.int .i8 1, .int .i64 g, .string u, .string i, .bool b, .slice A2 l.length c2, .string s, .slice A3 m.length c3]) HB.out.symm (by decide)).far (p := ⟨B, 0, none⟩) HB.out.symm (.slice A4 (L.length + 1) c4)
      have HN1 := hide HN.1
      have HN2 := hide (((Tur.refl base 5 B w).alloc _).trans HN.2)
      have HK := hide kk
      clear HN kk qf2 q2 hk2 ho2 ht2 hu qb qb2
      (try simp only [Exit.then])
      rename_i hJ hM
      refine hM _ _ (Met.intro ?_)
      refine hJ _ _ ?_
      (repeat apply Exists.intro)
      refine ⟨?_, rfl⟩
      exact ⟨⟨_, _, HN1.out⟩, HK.out, HN2.out⟩
  case rest =>
    obtain ⟨⟨A4, c4, hW⟩, k0, t0⟩ := hcut
    obtain ⟨L1, hL1⟩ : ∃ L1, L ++ kb 1 = L1 := ⟨_, rfl⟩
    rw [hL1] at hW
    have l1 : L1.length = L.length + 1 := by rw [← hL1]; simp [kb]
    have HL1 := hide hL1
    have W1 := hide hW
    have K0 := hide k0
    have T1 := hide t0
    have q0 := k0.cell 0
    have q1 := k0.cell 1
    have q2 := k0.cell 2
    have q3 := k0.cell 3
    have q4 := k0.cell 4
    have q5 := k0.cell 5
    have q6 := k0.cell 6
    have q7 := k0.cell 7
    clear hL1 hW k0 t0 qb qb2 hu
    have hu := HR.out.su
    have hu' : u.size ≤ 10000000 := Nat.le_trans hu (by omega)
    clear hu
    go_wp2_with fail
    refine (text_any u _ base B L1 A4 c4 W1.out (by omega) hu').mono ?_
    rintro e w2 ⟨rfl, ⟨B2, d2, hW⟩, ht⟩
    replace K0 := hide (ht.blk K0.out HB.out.symm (by decide))
    have T2 := hide (T1.out.trans ht)
    have W2 := hide hW
    have k0 := K0.out
    have q0 := k0.cell 0
    have q1 := k0.cell 1
    have q2 := k0.cell 2
    have q3 := k0.cell 3
    have q4 := k0.cell 4
    have q5 := k0.cell 5
    have q6 := k0.cell 6
    have q7 := k0.cell 7
    clear hW ht k0
    go_wp2
    go_end0
    refine ⟨rfl, ⟨B2, d2, ?_⟩, T2.out⟩
    have e := W2.out
    rw [← HL1.out] at e
    have hb : Rec.bytes ⟨1, g, u, i, b, l, s, m⟩ = kb 1 ++ text u := rfl
    rw [hb]
    simpa [List.append_assoc] using e

set_option maxHeartbeats 2000000 in
theorem write_2 (r : Rcd) (A2 A3 : Option Addr) (c2 c3 X : Nat) (w : World) (hk : r.kind = 2) (base B : Nat) (L : List UInt8) (A : Option Addr) (c : Nat) (hW : Wr w base B L A c) (hl : L.length ≤ 100000000) (hr : RcdAt w X r A2 A3) (h1 : X ≤ base) (h2 : X ≤ B) :
    Calls Try.prog 30 #[.pointer (some ⟨B, 0, none⟩), .agg (rcdCells r A2 c2 A3 c3)] w fun e w' => e = .returned (.tuple #[]) ∧ (∃ A' c', Wr w' base B (L ++ Rec.bytes r) A' c') ∧ Tur base 5 B w w' := by
  obtain ⟨k, g, u, i, b, l, s, m⟩ := r
  dsimp only at hk
  subst hk
  unfold rcdCells
  dsimp only
  have hX : X ≤ w.heap.size := by have := hW.blk.lt; omega
  have HR := hide hr
  have HW := hide hW
  have HB := hide (show B ≠ w.heap.size from fun e => by have := hW.blk.lt; omega)
  have Hb := hide (And.intro h1 (And.intro h2 hX))
  have qb : ∀ o, (w.alloc o).cell? ⟨B, 0, none⟩ = some (.slice A L.length c) := fun o => cell_go (below_alloc _ _) (hW.blk.cell 0)
  have qb2 : ∀ o o', ((w.alloc o).alloc o').cell? ⟨B, 0, none⟩ = some (.slice A L.length c) := fun o o' => cell_go (below_alloc _ _) (qb o)
  have hu : IntKind.u8.wrap 2 = 2 := by decide
  clear hr hW h1 h2 hX
  go_enter Try.func30, Try.ntmps30
  go_upto_region 1 with fail
  go_cut [] (fun wx => (∃ A' c', Wr wx base B (L ++ kb 2) A' c') ∧ Blk wx w.heap.size 28 #[.int .i8 2, .int .i64 g, .string u, .string i, .bool b, .slice A2 l.length c2, .string s, .slice A3 m.length c3] ∧ Tur base 5 B w wx)
  case first =>
    go_region_law ((refine step_append_byte (w := w.alloc (.cells #[.int .i8 2, .int .i64 g, .string u, .string i, .bool b, .slice A2 l.length c2, .string s, .slice A3 m.length c3] 28)) (by rfl) _ _ _ (by rfl) base B L A c (HW.out.alloc _) Try.underlying54 (by kernel_rfl) (by rfl) 2 (by omega) (w.heap.size + 1) (by simp) (by rfl) ?_; intro A4 c4 w2 hk2 ho2 ht2; have qf2 := hk2.frozen 0; have q2 := hk2.cell 0))
    all_goals
      rw [show ([bv 2] : List UInt8) = kb 2 from rfl] at ho2
      have HN := (HW.out.alloc (.cells #[.int .i8 2, .int .i64 g, .string u, .string i, .bool b, .slice A2 l.length c2, .string s, .slice A3 m.length c3] 28)).next hk2 ho2 ht2 (by simp [kb]) (by simp [kb]; omega)
      have kk := (ht2.blk (Blk.new w 28 #[.int .i8 2, .int .i64 g, .string u, .string i, .bool b, .slice A2 l.length c2, .string s, .slice A3 m.length c3]) HB.out.symm (by decide)).far (p := ⟨B, 0, none⟩) HB.out.symm (.slice A4 (L.length + 1) c4)
      have HN1 := hide HN.1
      have HN2 := hide (((Tur.refl base 5 B w).alloc _).trans HN.2)
      have HK := hide kk
      clear HN kk qf2 q2 hk2 ho2 ht2 hu qb qb2
      (try simp only [Exit.then])
      rename_i hJ hM
      refine hM _ _ (Met.intro ?_)
      refine hJ _ _ ?_
      (repeat apply Exists.intro)
      refine ⟨?_, rfl⟩
      exact ⟨⟨_, _, HN1.out⟩, HK.out, HN2.out⟩
  case rest =>
    obtain ⟨⟨A4, c4, hW⟩, k0, t0⟩ := hcut
    obtain ⟨L1, hL1⟩ : ∃ L1, L ++ kb 2 = L1 := ⟨_, rfl⟩
    rw [hL1] at hW
    have l1 : L1.length = L.length + 1 := by rw [← hL1]; simp [kb]
    have HL1 := hide hL1
    have W1 := hide hW
    have K0 := hide k0
    have T1 := hide t0
    have q0 := k0.cell 0
    have q1 := k0.cell 1
    have q2 := k0.cell 2
    have q3 := k0.cell 3
    have q4 := k0.cell 4
    have q5 := k0.cell 5
    have q6 := k0.cell 6
    have q7 := k0.cell 7
    clear hL1 hW k0 t0 qb qb2 hu
    have hu := HR.out.su
    have hu' : u.size ≤ 10000000 := Nat.le_trans hu (by omega)
    clear hu
    go_wp2_with fail
    refine (text_any u _ base B L1 A4 c4 W1.out (by omega) hu').mono ?_
    rintro e w2 ⟨rfl, ⟨B2, d2, hW⟩, ht⟩
    replace K0 := hide (ht.blk K0.out HB.out.symm (by decide))
    have T2 := hide (T1.out.trans ht)
    have W2 := hide hW
    have k0 := K0.out
    have q0 := k0.cell 0
    have q1 := k0.cell 1
    have q2 := k0.cell 2
    have q3 := k0.cell 3
    have q4 := k0.cell 4
    have q5 := k0.cell 5
    have q6 := k0.cell 6
    have q7 := k0.cell 7
    clear hW ht k0
    go_wp2
    go_end0
    refine ⟨rfl, ⟨B2, d2, ?_⟩, T2.out⟩
    have e := W2.out
    rw [← HL1.out] at e
    have hb : Rec.bytes ⟨2, g, u, i, b, l, s, m⟩ = kb 2 ++ text u := rfl
    rw [hb]
    simpa [List.append_assoc] using e

set_option maxHeartbeats 2000000 in
theorem write_4 (r : Rcd) (A2 A3 : Option Addr) (c2 c3 X : Nat) (w : World) (hk : r.kind = 4) (base B : Nat) (L : List UInt8) (A : Option Addr) (c : Nat) (hW : Wr w base B L A c) (hl : L.length ≤ 100000000) (hr : RcdAt w X r A2 A3) (h1 : X ≤ base) (h2 : X ≤ B) :
    Calls Try.prog 30 #[.pointer (some ⟨B, 0, none⟩), .agg (rcdCells r A2 c2 A3 c3)] w fun e w' => e = .returned (.tuple #[]) ∧ (∃ A' c', Wr w' base B (L ++ Rec.bytes r) A' c') ∧ Tur base 5 B w w' := by
  obtain ⟨k, g, u, i, b, l, s, m⟩ := r
  dsimp only at hk
  subst hk
  unfold rcdCells
  dsimp only
  have hX : X ≤ w.heap.size := by have := hW.blk.lt; omega
  have HR := hide hr
  have HW := hide hW
  have HB := hide (show B ≠ w.heap.size from fun e => by have := hW.blk.lt; omega)
  have Hb := hide (And.intro h1 (And.intro h2 hX))
  have qb : ∀ o, (w.alloc o).cell? ⟨B, 0, none⟩ = some (.slice A L.length c) := fun o => cell_go (below_alloc _ _) (hW.blk.cell 0)
  have qb2 : ∀ o o', ((w.alloc o).alloc o').cell? ⟨B, 0, none⟩ = some (.slice A L.length c) := fun o o' => cell_go (below_alloc _ _) (qb o)
  have hu : IntKind.u8.wrap 4 = 4 := by decide
  clear hr hW h1 h2 hX
  go_enter Try.func30, Try.ntmps30
  go_upto_region 1 with fail
  go_cut [] (fun wx => (∃ A' c', Wr wx base B (L ++ kb 4) A' c') ∧ Blk wx w.heap.size 28 #[.int .i8 4, .int .i64 g, .string u, .string i, .bool b, .slice A2 l.length c2, .string s, .slice A3 m.length c3] ∧ Tur base 5 B w wx)
  case first =>
    go_region_law ((refine step_append_byte (w := w.alloc (.cells #[.int .i8 4, .int .i64 g, .string u, .string i, .bool b, .slice A2 l.length c2, .string s, .slice A3 m.length c3] 28)) (by rfl) _ _ _ (by rfl) base B L A c (HW.out.alloc _) Try.underlying54 (by kernel_rfl) (by rfl) 4 (by omega) (w.heap.size + 1) (by simp) (by rfl) ?_; intro A4 c4 w2 hk2 ho2 ht2; have qf2 := hk2.frozen 0; have q2 := hk2.cell 0))
    all_goals
      rw [show ([bv 4] : List UInt8) = kb 4 from rfl] at ho2
      have HN := (HW.out.alloc (.cells #[.int .i8 4, .int .i64 g, .string u, .string i, .bool b, .slice A2 l.length c2, .string s, .slice A3 m.length c3] 28)).next hk2 ho2 ht2 (by simp [kb]) (by simp [kb]; omega)
      have kk := (ht2.blk (Blk.new w 28 #[.int .i8 4, .int .i64 g, .string u, .string i, .bool b, .slice A2 l.length c2, .string s, .slice A3 m.length c3]) HB.out.symm (by decide)).far (p := ⟨B, 0, none⟩) HB.out.symm (.slice A4 (L.length + 1) c4)
      have HN1 := hide HN.1
      have HN2 := hide (((Tur.refl base 5 B w).alloc _).trans HN.2)
      have HK := hide kk
      clear HN kk qf2 q2 hk2 ho2 ht2 hu qb qb2
      (try simp only [Exit.then])
      rename_i hJ hM
      refine hM _ _ (Met.intro ?_)
      refine hJ _ _ ?_
      (repeat apply Exists.intro)
      refine ⟨?_, rfl⟩
      exact ⟨⟨_, _, HN1.out⟩, HK.out, HN2.out⟩
  case rest =>
    obtain ⟨⟨A4, c4, hW⟩, k0, t0⟩ := hcut
    obtain ⟨L1, hL1⟩ : ∃ L1, L ++ kb 4 = L1 := ⟨_, rfl⟩
    rw [hL1] at hW
    have l1 : L1.length = L.length + 1 := by rw [← hL1]; simp [kb]
    have HL1 := hide hL1
    have W1 := hide hW
    have K0 := hide k0
    have T1 := hide t0
    have q0 := k0.cell 0
    have q1 := k0.cell 1
    have q2 := k0.cell 2
    have q3 := k0.cell 3
    have q4 := k0.cell 4
    have q5 := k0.cell 5
    have q6 := k0.cell 6
    have q7 := k0.cell 7
    clear hL1 hW k0 t0 qb qb2 hu
    have hu' : u.size ≤ 100000 := HR.out.su
    have hi' : i.size ≤ 100000 := HR.out.si
    obtain ⟨L2, hL2⟩ : ∃ L2, L1 ++ text u = L2 := ⟨_, rfl⟩
    have l2 : L2.length ≤ 200000000 := by rw [← hL2]; simp [text, num]; omega
    obtain ⟨L3, hL3⟩ : ∃ L3, L2 ++ text i = L3 := ⟨_, rfl⟩
    have l3 : L3.length ≤ 300000000 := by rw [← hL3]; simp [text, num]; omega
    have HL2 := hide hL2
    have HL3 := hide hL3
    clear hL2 hL3
    go_wp2_with fail
    refine (text_any u _ base B L1 A4 c4 W1.out (by omega) (by omega)).mono ?_
    rintro e w2 ⟨rfl, ⟨B2, d2, hW⟩, ht⟩
    replace K0 := hide (ht.blk K0.out HB.out.symm (by decide))
    have T2 := hide (T1.out.trans ht)
    have W2 := hide hW
    have k0 := K0.out
    have q0 := k0.cell 0
    have q1 := k0.cell 1
    have q2 := k0.cell 2
    have q3 := k0.cell 3
    have q4 := k0.cell 4
    have q5 := k0.cell 5
    have q6 := k0.cell 6
    have q7 := k0.cell 7
    clear hW ht k0
    replace W2 := hide (HL2.out ▸ W2.out)
    go_wp2_with fail
    refine (text_any i _ base B L2 B2 d2 W2.out (by omega) (by omega)).mono ?_
    rintro e w3 ⟨rfl, ⟨B3, d3, hW⟩, ht⟩
    replace K0 := hide (ht.blk K0.out HB.out.symm (by decide))
    have T3 := hide (T2.out.trans ht)
    have W3 := hide hW
    have k0 := K0.out
    have q0 := k0.cell 0
    have q1 := k0.cell 1
    have q2 := k0.cell 2
    have q3 := k0.cell 3
    have q4 := k0.cell 4
    have q5 := k0.cell 5
    have q6 := k0.cell 6
    have q7 := k0.cell 7
    clear hW ht k0
    replace W3 := hide (HL3.out ▸ W3.out)
    go_wp2_with fail
    refine (flag_any b _ base B L3 B3 d3 W3.out (by omega)).mono ?_
    rintro e w4 ⟨rfl, ⟨B4, d4, hW⟩, ht⟩
    replace K0 := hide (ht.blk K0.out HB.out.symm (by decide))
    have T4 := hide (T3.out.trans ht)
    have W4 := hide hW
    have k0 := K0.out
    have q0 := k0.cell 0
    have q1 := k0.cell 1
    have q2 := k0.cell 2
    have q3 := k0.cell 3
    have q4 := k0.cell 4
    have q5 := k0.cell 5
    have q6 := k0.cell 6
    have q7 := k0.cell 7
    clear hW ht k0
    go_wp2
    go_end0
    refine ⟨rfl, ⟨B4, d4, ?_⟩, T4.out⟩
    have e := W4.out
    rw [← HL3.out, ← HL2.out, ← HL1.out] at e
    have hb : Rec.bytes ⟨4, g, u, i, b, l, s, m⟩ = kb 4 ++ (text u ++ text i ++ flag b) := rfl
    rw [hb]
    simpa [List.append_assoc] using e

end Go.Proofs.Ytlkkmgimjjnhjaa
