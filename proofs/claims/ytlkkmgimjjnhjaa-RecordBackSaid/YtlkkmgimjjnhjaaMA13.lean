/- The writer's records: entries, subs. (Printed by wip/genRecQ.py.) · record.Bytes, May, Frame. -/
import Derived.Test.YtlkkmgimjjnhjaaMA12
set_option linter.unusedSimpArgs false
set_option linter.unusedVariables false
namespace Go.Proofs.Ytlkkmgimjjnhjaa
open Go.RowKit Rec
attribute [local go_sem ↓] Go.wp_at_zero Go.wp_at_succ

theorem entry_len (x : Ent) (h : Plain x) : (entry x).length ≤ 160000 := by
  rw [entry_texts]
  have h0 := h.1 0 (by omega)
  have h1 := h.1 1 (by omega)
  have h2 := h.1 2 (by omega)
  have h3 := h.1 3 (by omega)
  have h4 := h.1 4 (by omega)
  have e : (texts x 5).length = 20 + (five x 0).size + (five x 1).size + (five x 2).size + (five x 3).size + (five x 4).size := by simp [texts, text, num]; omega
  have e2 : (if x.has then num (x.sec - -62135596800) ++ num ((x.sec - -62135596800) / 4294967296) else []).length ≤ 8 := by split <;> simp [num]
  simp only [List.length_append, e]
  have e3 : (flag x.has).length = 1 := rfl
  omega
theorem flat_len {α : Type} (f : α → List UInt8) (z : Nat) : ∀ l : List α, (∀ x ∈ l, (f x).length ≤ z) → (l.flatMap f).length ≤ z * l.length := by
  intro l
  induction l with
  | nil => simp
  | cons x l ih =>
    intro h
    have h1 := h x (by simp)
    have h2 := ih fun y hy => h y (by simp [hy])
    simp only [List.flatMap_cons, List.length_append, List.length_cons, Nat.mul_add]
    omega
theorem flat_next {α : Type} (f : α → List UInt8) (l : List α) (k : Nat) (h : k < l.length) : (l.take (k + 1)).flatMap f = (l.take k).flatMap f ++ f l[k] := by
  rw [List.take_succ_eq_append_getElem h, List.flatMap_append]; simp
theorem take_len {α : Type} (f : α → List UInt8) (l : List α) (k : Nat) (z : Nat) (h : ∀ x ∈ l, (f x).length ≤ z) (hl : l.length ≤ 32) : ((l.take k).flatMap f).length ≤ z * 32 := by
  have h1 := flat_len f z (l.take k) fun x hx => h x (List.mem_of_mem_take hx)
  have h2 : (l.take k).length ≤ 32 := by simp; omega
  exact Nat.le_trans h1 (Nat.mul_le_mul_left z h2)


set_option maxHeartbeats 2000000 in
theorem write_3 (r : Rcd) (A2 A3 : Option Addr) (c2 c3 X : Nat) (w : World) (hk : r.kind = 3) (base B : Nat) (L : List UInt8) (A : Option Addr) (c : Nat) (hW : Wr w base B L A c) (hl : L.length ≤ 100000000) (hr : RcdAt w X r A2 A3) (h1 : X ≤ base) (h2 : X ≤ B) :
    Calls Try.prog 30 #[.pointer (some ⟨B, 0, none⟩), .agg (rcdCells r A2 c2 A3 c3)] w fun e w' => e = .returned (.tuple #[]) ∧ (∃ A' c', Wr w' base B (L ++ Rec.bytes r) A' c') ∧ Tur base 5 B w w' := by
  obtain ⟨k, g, u, i, b, l, s, m⟩ := r
  dsimp only at hk
  subst hk
  unfold rcdCells
  dsimp only
  have hX : X ≤ w.heap.size := by have := hW.blk.lt; omega
  have HR := hide hr
  have HW := hide hW
  have HB := hide (show B ≠ w.heap.size from fun e => by have := hW.blk.lt; omega)
  have Hb := hide (And.intro h1 (And.intro h2 hX))
  have qb : ∀ o, (w.alloc o).cell? ⟨B, 0, none⟩ = some (.slice A L.length c) := fun o => cell_go (below_alloc _ _) (hW.blk.cell 0)
  have qb2 : ∀ o o', ((w.alloc o).alloc o').cell? ⟨B, 0, none⟩ = some (.slice A L.length c) := fun o o' => cell_go (below_alloc _ _) (qb o)
  have hu : IntKind.u8.wrap 3 = 3 := by decide
  clear hr hW h1 h2 hX
  go_enter Try.func30, Try.ntmps30
  go_upto_region 1 with fail
  go_cut [] (fun wx => (∃ A' c', Wr wx base B (L ++ kb 3) A' c') ∧ Blk wx w.heap.size 28 #[.int .i8 3, .int .i64 g, .string u, .string i, .bool b, .slice A2 l.length c2, .string s, .slice A3 m.length c3] ∧ Tur base 5 B w wx)
  case first =>
    go_region_law ((refine step_append_byte (w := w.alloc (.cells #[.int .i8 3, .int .i64 g, .string u, .string i, .bool b, .slice A2 l.length c2, .string s, .slice A3 m.length c3] 28)) (by rfl) _ _ _ (by rfl) base B L A c (HW.out.alloc _) Try.underlying54 (by kernel_rfl) (by rfl) 3 (by omega) (w.heap.size + 1) (by simp) (by rfl) ?_; intro A4 c4 w2 hk2 ho2 ht2; have qf2 := hk2.frozen 0; have q2 := hk2.cell 0))
    all_goals
      rw [show ([bv 3] : List UInt8) = kb 3 from rfl] at ho2
      have HN := (HW.out.alloc (.cells #[.int .i8 3, .int .i64 g, .string u, .string i, .bool b, .slice A2 l.length c2, .string s, .slice A3 m.length c3] 28)).next hk2 ho2 ht2 (by simp [kb]) (by simp [kb]; omega)
      have kk := (ht2.blk (Blk.new w 28 #[.int .i8 3, .int .i64 g, .string u, .string i, .bool b, .slice A2 l.length c2, .string s, .slice A3 m.length c3]) HB.out.symm (by decide)).far (p := ⟨B, 0, none⟩) HB.out.symm (.slice A4 (L.length + 1) c4)
      have HN1 := hide HN.1
      have HN2 := hide (((Tur.refl base 5 B w).alloc _).trans HN.2)
      have HK := hide kk
      clear HN kk qf2 q2 hk2 ho2 ht2 hu qb qb2
      (try simp only [Exit.then])
      rename_i hJ hM
      refine hM _ _ (Met.intro ?_)
      refine hJ _ _ ?_
      (repeat apply Exists.intro)
      refine ⟨?_, rfl⟩
      exact ⟨⟨_, _, HN1.out⟩, HK.out, HN2.out⟩
  case rest =>
    obtain ⟨⟨A4, c4, hW⟩, k0, t0⟩ := hcut
    obtain ⟨L1, hL1⟩ : ∃ L1, L ++ kb 3 = L1 := ⟨_, rfl⟩
    rw [hL1] at hW
    have l1 : L1.length = L.length + 1 := by rw [← hL1]; simp [kb]
    have HL1 := hide hL1
    have W1 := hide hW
    have K0 := hide k0
    have T1 := hide t0
    have q0 := k0.cell 0
    have q1 := k0.cell 1
    have q2 := k0.cell 2
    have q3 := k0.cell 3
    have q4 := k0.cell 4
    have q5 := k0.cell 5
    have q6 := k0.cell 6
    have q7 := k0.cell 7
    clear hL1 hW k0 t0 qb qb2 hu
    have hu' : u.size ≤ 100000 := HR.out.su
    obtain ⟨n, hn⟩ : ∃ n, l.length = n := ⟨_, rfl⟩
    have hn32 : n ≤ 32 := by rw [← hn]; exact HR.out.na
    have HL := hide hn
    obtain ⟨L2, hL2⟩ : ∃ L2, L1 ++ text u = L2 := ⟨_, rfl⟩
    have l2 : L2.length ≤ 200000000 := by rw [← hL2]; simp [text, num]; omega
    obtain ⟨L3, hL3⟩ : ∃ L3, L2 ++ num (n : Int) = L3 := ⟨_, rfl⟩
    have l3 : L3.length ≤ 200000100 := by rw [← hL3]; simp [num]; omega
    have HL2 := hide hL2
    have HL3 := hide hL3
    simp only [hn] at q5 q7 K0 ⊢
    clear hL2 hL3 hn
    go_wp2_with fail
    refine (text_any u _ base B L1 A4 c4 W1.out (by omega) (by omega)).mono ?_
    rintro e w2 ⟨rfl, ⟨B2, d2, hW⟩, ht⟩
    replace K0 := hide (ht.blk K0.out HB.out.symm (by decide))
    have T2 := hide (T1.out.trans ht)
    have W2 := hide hW
    have k0 := K0.out
    have q0 := k0.cell 0
    have q1 := k0.cell 1
    have q2 := k0.cell 2
    have q3 := k0.cell 3
    have q4 := k0.cell 4
    have q5 := k0.cell 5
    have q6 := k0.cell 6
    have q7 := k0.cell 7
    clear hW ht k0
    replace W2 := hide (HL2.out ▸ W2.out)
    go_wp2_with fail
    refine (number_any n _ base B L2 B2 d2 W2.out (by omega) (by omega)).mono ?_
    rintro e w3 ⟨rfl, ⟨B3, d3, hW⟩, ht⟩
    replace K0 := hide (ht.blk K0.out HB.out.symm (by decide))
    have T3 := hide (T2.out.trans ht)
    have W3 := hide hW
    have k0 := K0.out
    have q0 := k0.cell 0
    have q1 := k0.cell 1
    have q2 := k0.cell 2
    have q3 := k0.cell 3
    have q4 := k0.cell 4
    have q5 := k0.cell 5
    have q6 := k0.cell 6
    have q7 := k0.cell 7
    clear hW ht k0
    replace W3 := hide (HL3.out ▸ W3.out)
    go_wp2
    clear l1 q0 q1 q2 q3 q4 q5 q6 q7 K0
    go_loopg [49] n (fun gk vi wr => ∃ k : Nat, gk = n - k ∧ k ≤ n ∧ vi = .int .i64 k ∧ (∃ A' c', Wr wr base B (L3 ++ (l.take k).flatMap entry) A' c') ∧ Tur base 5 B w wr)
    case atStart => exact ⟨0, rfl, Nat.zero_le _, rfl, ⟨B3, d3, by simpa using W3.out⟩, T3.out⟩
    case round =>
      obtain ⟨k, hg, hk, rfl, ⟨B9, d9, hW⟩, ht⟩ := hrel
      have Hg := hide hg
      obtain ⟨L9, hL9⟩ : ∃ L9, L3 ++ (l.take k).flatMap entry = L9 := ⟨_, rfl⟩
      rw [hL9] at hW
      have l9 : L9.length ≤ 300000000 := by
        rw [← hL9, List.length_append]
        have := take_len entry l k 160001 (fun x hx => by have := entry_len x (HR.out.pa x hx); omega) (by rw [HL.out]; exact hn32)
        omega
      have HL9 := hide hL9
      have W9 := hide hW
      have T9 := hide ht
      clear hg hW ht hL9
      by_cases hlt : k < n
      · have h1 : k < l.length := by rw [HL.out]; exact hlt
        obtain ⟨b', off, rfl, hb', hx⟩ := ((HR.out.later T9.out Hb.out.1 Hb.out.2.1 Hb.out.2.2).a).ent h1
        obtain ⟨x, ex⟩ : ∃ x, l[k] = x := ⟨_, rfl⟩
        have hp : Plain x := by
          have := HR.out.pa l[k] (List.getElem_mem h1)
          rwa [ex] at this
        rw [ex] at hx
        have HE := hide fun (W : World) (hW : Wr W base B L9 B9 d9) => entry_any x W base B L9 B9 d9 hW (by omega) (fun k hk => Nat.le_trans (hp.1 k hk) (by omega)) hp.2
        unfold entCells at HE
        have Ex := hide ex
        have x0 := hx.c0
        have x1 := hx.c1
        have x2 := hx.c2
        have x3 := hx.c3
        have x4 := hx.c4
        have x5 := hx.c5
        have x6 := hx.c6
        clear hx ex hp
        go_wp2_with fail
        refine (HE.out _ (W9.out.alloc _)).mono ?_
        rintro e w8 ⟨rfl, ⟨B8, d8, hW⟩, ht⟩
        have W8 := hide hW
        have T8 := hide (T9.out.trans (((Tur.refl base 5 B wr).alloc _).trans ht))
        clear hW ht
        go_wp2
        go_roundg (n - (k + 1))
        case measure => have := Hg.out; omega
        case rel => exact ⟨k + 1, rfl, by omega, by go_num, ⟨B8, d8, by rw [flat_next _ _ _ h1, ← List.append_assoc, HL9.out, Ex.out]; exact W8.out⟩, T8.out⟩
      · go_wp2
        go_end0
        refine ⟨rfl, ⟨B9, d9, ?_⟩, T9.out⟩
        have e := HL9.out
        rw [List.take_of_length_le (by rw [HL.out]; omega), ← HL3.out, ← HL2.out, ← HL1.out, ← HL.out] at e
        have hb : Rec.bytes ⟨3, g, u, i, b, l, s, m⟩ = kb 3 ++ (text u ++ num l.length ++ l.flatMap entry) := rfl
        rw [hb]
        have e2 : L ++ (kb 3 ++ (text u ++ num l.length ++ l.flatMap entry)) = L9 := by rw [← e]; simp [List.append_assoc]
        rw [e2]
        exact W9.out


set_option maxHeartbeats 2000000 in
theorem write_5 (r : Rcd) (A2 A3 : Option Addr) (c2 c3 X : Nat) (w : World) (hk : r.kind = 5) (base B : Nat) (L : List UInt8) (A : Option Addr) (c : Nat) (hW : Wr w base B L A c) (hl : L.length ≤ 100000000) (hr : RcdAt w X r A2 A3) (h1 : X ≤ base) (h2 : X ≤ B) :
    Calls Try.prog 30 #[.pointer (some ⟨B, 0, none⟩), .agg (rcdCells r A2 c2 A3 c3)] w fun e w' => e = .returned (.tuple #[]) ∧ (∃ A' c', Wr w' base B (L ++ Rec.bytes r) A' c') ∧ Tur base 5 B w w' := by
  obtain ⟨k, g, u, i, b, l, s, m⟩ := r
  dsimp only at hk
  subst hk
  unfold rcdCells
  dsimp only
  have hX : X ≤ w.heap.size := by have := hW.blk.lt; omega
  have HR := hide hr
  have HW := hide hW
  have HB := hide (show B ≠ w.heap.size from fun e => by have := hW.blk.lt; omega)
  have Hb := hide (And.intro h1 (And.intro h2 hX))
  have qb : ∀ o, (w.alloc o).cell? ⟨B, 0, none⟩ = some (.slice A L.length c) := fun o => cell_go (below_alloc _ _) (hW.blk.cell 0)
  have qb2 : ∀ o o', ((w.alloc o).alloc o').cell? ⟨B, 0, none⟩ = some (.slice A L.length c) := fun o o' => cell_go (below_alloc _ _) (qb o)
  have hu : IntKind.u8.wrap 5 = 5 := by decide
  clear hr hW h1 h2 hX
  go_enter Try.func30, Try.ntmps30
  go_upto_region 1 with fail
  go_cut [] (fun wx => (∃ A' c', Wr wx base B (L ++ kb 5) A' c') ∧ Blk wx w.heap.size 28 #[.int .i8 5, .int .i64 g, .string u, .string i, .bool b, .slice A2 l.length c2, .string s, .slice A3 m.length c3] ∧ Tur base 5 B w wx)
  case first =>
    go_region_law ((refine step_append_byte (w := w.alloc (.cells #[.int .i8 5, .int .i64 g, .string u, .string i, .bool b, .slice A2 l.length c2, .string s, .slice A3 m.length c3] 28)) (by rfl) _ _ _ (by rfl) base B L A c (HW.out.alloc _) Try.underlying54 (by kernel_rfl) (by rfl) 5 (by omega) (w.heap.size + 1) (by simp) (by rfl) ?_; intro A4 c4 w2 hk2 ho2 ht2; have qf2 := hk2.frozen 0; have q2 := hk2.cell 0))
    all_goals
      rw [show ([bv 5] : List UInt8) = kb 5 from rfl] at ho2
      have HN := (HW.out.alloc (.cells #[.int .i8 5, .int .i64 g, .string u, .string i, .bool b, .slice A2 l.length c2, .string s, .slice A3 m.length c3] 28)).next hk2 ho2 ht2 (by simp [kb]) (by simp [kb]; omega)
      have kk := (ht2.blk (Blk.new w 28 #[.int .i8 5, .int .i64 g, .string u, .string i, .bool b, .slice A2 l.length c2, .string s, .slice A3 m.length c3]) HB.out.symm (by decide)).far (p := ⟨B, 0, none⟩) HB.out.symm (.slice A4 (L.length + 1) c4)
      have HN1 := hide HN.1
      have HN2 := hide (((Tur.refl base 5 B w).alloc _).trans HN.2)
      have HK := hide kk
      clear HN kk qf2 q2 hk2 ho2 ht2 hu qb qb2
      (try simp only [Exit.then])
      rename_i hJ hM
      refine hM _ _ (Met.intro ?_)
      refine hJ _ _ ?_
      (repeat apply Exists.intro)
      refine ⟨?_, rfl⟩
      exact ⟨⟨_, _, HN1.out⟩, HK.out, HN2.out⟩
  case rest =>
    obtain ⟨⟨A4, c4, hW⟩, k0, t0⟩ := hcut
    obtain ⟨L1, hL1⟩ : ∃ L1, L ++ kb 5 = L1 := ⟨_, rfl⟩
    rw [hL1] at hW
    have l1 : L1.length = L.length + 1 := by rw [← hL1]; simp [kb]
    have HL1 := hide hL1
    have W1 := hide hW
    have K0 := hide k0
    have T1 := hide t0
    have q0 := k0.cell 0
    have q1 := k0.cell 1
    have q2 := k0.cell 2
    have q3 := k0.cell 3
    have q4 := k0.cell 4
    have q5 := k0.cell 5
    have q6 := k0.cell 6
    have q7 := k0.cell 7
    clear hL1 hW k0 t0 qb qb2 hu
    have hu' : s.size ≤ 100000 := HR.out.ss
    obtain ⟨n, hn⟩ : ∃ n, m.length = n := ⟨_, rfl⟩
    have hn32 : n ≤ 32 := by rw [← hn]; exact HR.out.nk
    have HL := hide hn
    obtain ⟨L2, hL2⟩ : ∃ L2, L1 ++ text s = L2 := ⟨_, rfl⟩
    have l2 : L2.length ≤ 200000000 := by rw [← hL2]; simp [text, num]; omega
    obtain ⟨L3, hL3⟩ : ∃ L3, L2 ++ num (n : Int) = L3 := ⟨_, rfl⟩
    have l3 : L3.length ≤ 200000100 := by rw [← hL3]; simp [num]; omega
    have HL2 := hide hL2
    have HL3 := hide hL3
    simp only [hn] at q5 q7 K0 ⊢
    clear hL2 hL3 hn
    go_wp2_with fail
    refine (text_any s _ base B L1 A4 c4 W1.out (by omega) (by omega)).mono ?_
    rintro e w2 ⟨rfl, ⟨B2, d2, hW⟩, ht⟩
    replace K0 := hide (ht.blk K0.out HB.out.symm (by decide))
    have T2 := hide (T1.out.trans ht)
    have W2 := hide hW
    have k0 := K0.out
    have q0 := k0.cell 0
    have q1 := k0.cell 1
    have q2 := k0.cell 2
    have q3 := k0.cell 3
    have q4 := k0.cell 4
    have q5 := k0.cell 5
    have q6 := k0.cell 6
    have q7 := k0.cell 7
    clear hW ht k0
    replace W2 := hide (HL2.out ▸ W2.out)
    go_wp2_with fail
    refine (number_any n _ base B L2 B2 d2 W2.out (by omega) (by omega)).mono ?_
    rintro e w3 ⟨rfl, ⟨B3, d3, hW⟩, ht⟩
    replace K0 := hide (ht.blk K0.out HB.out.symm (by decide))
    have T3 := hide (T2.out.trans ht)
    have W3 := hide hW
    have k0 := K0.out
    have q0 := k0.cell 0
    have q1 := k0.cell 1
    have q2 := k0.cell 2
    have q3 := k0.cell 3
    have q4 := k0.cell 4
    have q5 := k0.cell 5
    have q6 := k0.cell 6
    have q7 := k0.cell 7
    clear hW ht k0
    replace W3 := hide (HL3.out ▸ W3.out)
    go_wp2
    clear l1 q0 q1 q2 q3 q4 q5 q6 q7 K0
    go_loopg [88] n (fun gk vi wr => ∃ k : Nat, gk = n - k ∧ k ≤ n ∧ vi = .int .i64 k ∧ (∃ A' c', Wr wr base B (L3 ++ (m.take k).flatMap keptB) A' c') ∧ Tur base 5 B w wr)
    case atStart => exact ⟨0, rfl, Nat.zero_le _, rfl, ⟨B3, d3, by simpa using W3.out⟩, T3.out⟩
    case round =>
      obtain ⟨k, hg, hk, rfl, ⟨B9, d9, hW⟩, ht⟩ := hrel
      have Hg := hide hg
      obtain ⟨L9, hL9⟩ : ∃ L9, L3 ++ (m.take k).flatMap keptB = L9 := ⟨_, rfl⟩
      rw [hL9] at hW
      have l9 : L9.length ≤ 300000000 := by
        rw [← hL9, List.length_append]
        have := take_len keptB m k 160001 (fun x hx => by have := entry_len x.e (HR.out.pk x hx); simp [keptB, flag]; omega) (by rw [HL.out]; exact hn32)
        omega
      have HL9 := hide hL9
      have W9 := hide hW
      have T9 := hide ht
      clear hg hW ht hL9
      by_cases hlt : k < n
      · have h1 : k < m.length := by rw [HL.out]; exact hlt
        obtain ⟨b', off, rfl, hb', hx⟩ := ((HR.out.later T9.out Hb.out.1 Hb.out.2.1 Hb.out.2.2).k).kpt h1
        obtain ⟨x, ex⟩ : ∃ x, m[k] = x := ⟨_, rfl⟩
        have hp : Plain x.e := by
          have := HR.out.pk m[k] (List.getElem_mem h1)
          rwa [ex] at this
        rw [ex] at hx
        have HE := hide fun (W : World) (hW : Wr W base B L9 B9 d9) => entry_any x.e W base B L9 B9 d9 hW (by omega) (fun k hk => Nat.le_trans (hp.1 k hk) (by omega)) hp.2
        unfold entCells at HE
        have Ex := hide ex
        have x0 := hx.c0
        have x1 := hx.c1
        have x2 := hx.c2
        have x3 := hx.c3
        have x4 := hx.c4
        have x5 := hx.c5
        have x6 := hx.c6
        have x7 := hx.c7
        clear hx ex hp
        go_wp2_with fail
        refine (HE.out _ (W9.out.alloc _)).mono ?_
        rintro e w8 ⟨rfl, ⟨B8, d8, hW⟩, ht⟩
        have k8 := ht.blk (Blk.new wr 64 #[.string x.e.id, .string x.e.title, .string x.e.link, .string x.e.author, .string x.e.content, .bool x.e.has, .int .i64 x.e.sec, .bool x.read]) (fun e => by have := W9.out.blk.lt; omega) (by decide)
        have r7 := k8.cell 7
        have W8 := hide hW
        have T8 := hide (T9.out.trans (((Tur.refl base 5 B wr).alloc _).trans ht))
        have l8 : (L9 ++ entry x.e).length ≤ 400000000 := by
          have := entry_len x.e (by have := HR.out.pk m[k] (List.getElem_mem h1); rwa [Ex.out] at this)
          simp; omega
        clear hW ht k8
        go_wp2_with fail
        refine (flag_any x.read _ base B _ B8 d8 W8.out (by omega)).mono ?_
        rintro e w7 ⟨rfl, ⟨B7, d7, hW⟩, ht⟩
        have W7 := hide hW
        have T7 := hide (T8.out.trans ht)
        clear hW ht
        go_wp2
        go_roundg (n - (k + 1))
        case measure => have := Hg.out; omega
        case rel => exact ⟨k + 1, rfl, by omega, by go_num, ⟨B7, d7, by rw [flat_next _ _ _ h1, ← List.append_assoc, HL9.out, Ex.out, keptB, ← List.append_assoc]; exact W7.out⟩, T7.out⟩
      · go_wp2
        go_end0
        refine ⟨rfl, ⟨B9, d9, ?_⟩, T9.out⟩
        have e := HL9.out
        rw [List.take_of_length_le (by rw [HL.out]; omega), ← HL3.out, ← HL2.out, ← HL1.out, ← HL.out] at e
        have hb : Rec.bytes ⟨5, g, u, i, b, l, s, m⟩ = kb 5 ++ (text s ++ num m.length ++ m.flatMap keptB) := rfl
        rw [hb]
        have e2 : L ++ (kb 5 ++ (text s ++ num m.length ++ m.flatMap keptB)) = L9 := by rw [← e]; simp [List.append_assoc]
        rw [e2]
        exact W9.out


theorem write_any (r : Rcd) (A2 A3 : Option Addr) (c2 c3 X : Nat) (w : World) (hk : 0 ≤ r.kind ∧ r.kind ≤ 6) (base B : Nat) (L : List UInt8) (A : Option Addr) (c : Nat) (hW : Wr w base B L A c) (hl : L.length ≤ 100000000) (hr : RcdAt w X r A2 A3) (h1 : X ≤ base) (h2 : X ≤ B) :
    Calls Try.prog 30 #[.pointer (some ⟨B, 0, none⟩), .agg (rcdCells r A2 c2 A3 c3)] w fun e w' => e = .returned (.tuple #[]) ∧ (∃ A' c', Wr w' base B (L ++ Rec.bytes r) A' c') ∧ Tur base 5 B w w' := by
  have : r.kind = 0 ∨ r.kind = 1 ∨ r.kind = 2 ∨ r.kind = 3 ∨ r.kind = 4 ∨ r.kind = 5 ∨ r.kind = 6 := by omega
  rcases this with h | h | h | h | h | h | h
  · exact write_0 r A2 A3 c2 c3 X w h base B L A c hW hl hr h1 h2
  · exact write_1 r A2 A3 c2 c3 X w h base B L A c hW hl hr h1 h2
  · exact write_2 r A2 A3 c2 c3 X w h base B L A c hW hl hr h1 h2
  · exact write_3 r A2 A3 c2 c3 X w h base B L A c hW hl hr h1 h2
  · exact write_4 r A2 A3 c2 c3 X w h base B L A c hW hl hr h1 h2
  · exact write_5 r A2 A3 c2 c3 X w h base B L A c hW hl hr h1 h2
  · exact write_6 r A2 A3 c2 c3 X w h base B L A c hW hl hr h1 h2
end Go.Proofs.Ytlkkmgimjjnhjaa
namespace Go.Proofs.Ytlkkmgimjjnhjaa
open Go.RowKit Rec

theorem strIs_eq {t : ByteArray} {l : List UInt8} (h : StrIs t l) : t = ⟨l.toArray⟩ := by
  unfold StrIs at h
  obtain ⟨⟨x⟩⟩ := t
  simp at h
  subst h
  rfl

theorem str_eqv {a b : ByteArray} (h : a = b) : Value.string a = .string b := by rw [h]
theorem keeps_plain {x : Ent} (h : keeps x = true) : Plain x := by
  have hx : ∀ k, k < 5 → okText (five x k) = true := by
    intro k hk
    rcases Bool.eq_false_or_eq_true (okText (five x k)) with h1 | h1
    · exact h1
    · rw [← keeps_no hk h1] at h; cases h
  refine ⟨fun k hk => ?_, fun hh => ?_⟩
  · have := hx k hk
    unfold okText at this
    simp at this
    exact this.1
  · have e := keeps_yes hx
    rw [h] at e
    have : okTime x.has x.sec = true := by
      rcases Bool.eq_false_or_eq_true (okTime x.has x.sec) with h1 | h1
      · exact h1
      · rw [h1] at e; simp at e
    rw [hh] at this
    unfold okTime at this
    rw [if_pos rfl, decide_eq_true_eq] at this
    omega
theorem rising_plain {l : List Ent} (h : rising l = true) : ∀ x ∈ l, Plain x := by
  intro x hx
  obtain ⟨j, hj, rfl⟩ := List.getElem_of_mem hx
  exact keeps_plain ((rising_iff l).1 h j hj).1

/-- What a record that may be has. -/
structure Fine (r : Rcd) : Prop where
  kind : 0 ≤ r.kind ∧ r.kind ≤ 6
  na : r.entries.length ≤ 32
  nk : r.kept.length ≤ 32
  pa : ∀ x ∈ r.entries, Plain x
  pk : ∀ x ∈ r.kept, Plain x.e
  gen : 0 ≤ r.gen ∧ r.gen < 1000000000000
  su : r.url.size ≤ 100000
  si : r.id.size ≤ 100000
  ss : r.surl.size ≤ 100000
theorem size_nil {s : ByteArray} (h : s = ⟨#[]⟩) : s.size ≤ 100000 := by rw [h]; simp [ByteArray.size]
theorem may_fine {r : Rcd} (h : may r = true) : Fine r := by
  obtain ⟨k, g, u, i, b, l, s, m⟩ := r
  unfold may zeroBut okUrl at h
  dsimp only at h
  by_cases h0 : k = 0
  · subst h0
    simp at h
    obtain ⟨⟨a1, a2⟩, ⟨⟨⟨⟨b1, b2⟩, b3⟩, b4⟩, b5⟩, b6⟩ := h
    exact ⟨by simp, by simp [b4], by simp [b6], by simp [b4], by simp [b6], by simp; omega, size_nil b1, size_nil b2, size_nil b5⟩
  rw [if_neg h0] at h
  by_cases h1 : k = 1 ∨ k = 2
  · rw [if_pos h1] at h
    simp at h
    obtain ⟨⟨a1, a2⟩, ⟨⟨⟨⟨b1, b2⟩, b3⟩, b4⟩, b5⟩, b6⟩ := h
    exact ⟨by simp; omega, by simp [b4], by simp [b6], by simp [b4], by simp [b6], by simp [b1], by simp; omega, size_nil b2, size_nil b5⟩
  rw [if_neg h1] at h
  by_cases h3 : k = 3
  · rw [if_pos h3] at h
    simp only [Bool.and_eq_true, Bool.or_eq_true, decide_eq_true_eq] at h
    obtain ⟨⟨⟨a1, a2⟩, a3⟩, hz⟩ := h
    simp at hz
    obtain ⟨⟨⟨⟨b1, b2⟩, b3⟩, b4⟩, b5⟩ := hz
    exact ⟨by simp; omega, by simp; omega, by simp [b5], rising_plain a2, by simp [b5], by simp [b1], by simp; omega, size_nil b2, size_nil b4⟩
  rw [if_neg h3] at h
  by_cases h4 : k = 4
  · rw [if_pos h4] at h
    simp only [Bool.and_eq_true, Bool.or_eq_true, decide_eq_true_eq] at h
    obtain ⟨⟨⟨a1, a2⟩, a3⟩, hz⟩ := h
    simp at hz
    obtain ⟨⟨⟨b1, b2⟩, b3⟩, b4⟩ := hz
    unfold okText at a2
    simp at a2
    exact ⟨by simp; omega, by simp [b2], by simp [b4], by simp [b2], by simp [b4], by simp [b1], by simp; omega, by simp; omega, size_nil b3⟩
  rw [if_neg h4] at h
  by_cases h5 : k = 5
  · rw [if_pos h5] at h
    simp only [Bool.and_eq_true, Bool.or_eq_true, decide_eq_true_eq] at h
    obtain ⟨⟨⟨a1, a2⟩, a3⟩, hz⟩ := h
    simp at hz
    obtain ⟨⟨⟨⟨b1, b2⟩, b3⟩, b4⟩, b5⟩ := hz
    exact ⟨by simp; omega, by simp [b5], by simp; omega, by simp [b5], fun x hx => rising_plain a3 _ (List.mem_map_of_mem hx), by simp [b1], size_nil b2, size_nil b3, by simp; omega⟩
  rw [if_neg h5] at h
  by_cases h6 : k = 6
  · rw [if_pos h6] at h
    simp at h
    obtain ⟨⟨⟨⟨⟨⟨b0, b1⟩, b2⟩, b3⟩, b4⟩, b5⟩, b6⟩ := h
    exact ⟨by simp; omega, by simp [b4], by simp [b6], by simp [b4], by simp [b6], by simp [b0], size_nil b1, size_nil b2, size_nil b5⟩
  rw [if_neg h6] at h
  cases h

/-- A record's bytes as a string. -/
def bstr (l : List UInt8) : ByteArray := ⟨l.toArray⟩
theorem _root_.Go.Proofs.Ytlkkmgimjjnhjaa.RcdAt.below {w w' : World} {X : Nat} {r : Rcd} {A A' : Option Addr} (h : RcdAt w X r A A') (hb : Below w.heap.size w w') (hX : X ≤ w.heap.size) : RcdAt w' X r A A' :=
  ⟨h.a.below (hb.mono hX), h.k.below (hb.mono hX), h.na, h.nk, h.pa, h.pk, h.gen, h.su, h.si, h.ss⟩
/-- What Bytes answers. -/
def bytesOut (r : Rcd) : ByteArray := if mayAll r then bstr (Rec.bytes r) else ⟨#[]⟩
def codeOut (r : Rcd) : Int := if mayAll r then 0 else 2

set_option maxHeartbeats 1000000 in
theorem bytes_any (r : Rcd) (A A' : Option Addr) (c c' : Nat) (w : World) (hi : RcdIn w r A A') :
    Calls Try.prog 11 #[.agg (rcdCells r A c A' c')] w fun e w' => e = .returned (.tuple #[.string (bytesOut r), .int .i64 (codeOut r)]) ∧ Below w.heap.size w w' := by
  have HM := hide fun (W : World) (hb : Below w.heap.size w W) => may_any r A A' c c' W (hi.later hb)
  rcases Bool.eq_false_or_eq_true (may r) with hm | hm
  · have hf := may_fine hm
    have HAt := hide (show RcdAt w w.heap.size r A A' from ⟨hi.a, hi.k, hf.na, hf.nk, hf.pa, hf.pk, hf.gen, hf.su, hf.si, hf.ss⟩)
    rw [hm] at HM
    have Hm := hide hm
    have Hk := hide hf.kind
    clear hi hf hm
    obtain ⟨Lb, hLb⟩ : ∃ Lb, Rec.bytes r = Lb := ⟨_, rfl⟩
    have HLb := hide hLb
    have HWr := hide fun (W W' : World) (hb : Below w.heap.size w W) (hW' : W' = W.alloc (.cells #[.slice none 0 0] 56)) => by
      have h := write_any r A A' c c' w.heap.size W' Hk.out W.heap.size W.heap.size [] none 0 (by subst hW'; exact ⟨Blk.new W 56 #[.slice none 0 0], World.ownsRow_nil _ _ _ _, by simp, by simp⟩) (by simp)
        (HAt.out.below (by subst hW'; exact hb.alloc hb.size _) (Nat.le_refl _)) hb.size hb.size
      rw [List.nil_append, hLb] at h
      exact h
    clear hLb
    have e0 : bytesOut r = if Lb.length ≤ 65536 then bstr Lb else ⟨#[]⟩ := by
      unfold bytesOut mayAll; rw [Hm.out, HLb.out]; simp
    have e1 : codeOut r = if Lb.length ≤ 65536 then 0 else 2 := by
      unfold codeOut mayAll; rw [Hm.out, HLb.out]; simp
    rw [e0, e1]
    clear e0 e1 HLb Hm Hk HAt
    unfold rcdCells at HM HWr ⊢
    obtain ⟨k, g, u, i, b, l, s, m⟩ := r
    dsimp only at HM HWr ⊢
    go_enter Try.func11, Try.ntmps11
    go_wp2_with first
      | (go_at_call 29; refine (HM.out _ (below_alloc _ _)).mono ?_; rintro e w1 ⟨rfl, hb⟩; have k0 := (Blk.new w 28 #[.int .i8 k, .int .i64 g, .string u, .string i, .bool b, .slice A l.length c, .string s, .slice A' m.length c']).below hb (by simp); have Hb := hide (below_go (below_alloc _ _) hb (Nat.le_refl _)); clear hb; have q0 := fun o => (k0.alloc o).cell 0; have q1 := fun o => (k0.alloc o).cell 1; have q2 := fun o => (k0.alloc o).cell 2; have q3 := fun o => (k0.alloc o).cell 3; have q4 := fun o => (k0.alloc o).cell 4; have q5 := fun o => (k0.alloc o).cell 5; have q6 := fun o => (k0.alloc o).cell 6; have q7 := fun o => (k0.alloc o).cell 7)
      | (go_at_call 30; refine (HWr.out _ _ Hb.out rfl).mono ?_; rintro e w2 ⟨rfl, ⟨A4, c4, hW⟩, ht⟩; have W2 := hide hW; have p0 := hW.blk.cell 0; have Hb2 := hide ((Hb.out.alloc Hb.out.size _).trans (ht.below Hb.out.size Hb.out.size (Nat.le_trans Hb.out.size (by simp)))); clear hW ht)
      | (with_reducible show wpList _ _ _ (⟨_, .convert 54 9 _, _, _, _, _⟩ :: _) _ _; refine wpList_to_string rfl 54 9 5 (.tmp 22) rfl Try.underlying54 Try.underlying5 Try.underlying9 w1.heap.size (.slice A4 Lb.length c4) Lb.length rfl Lb W2.out.own ?_; intro t ht)
    · go_ret2
      exact ⟨rfl, Hb2.out⟩
    · go_ret2
      exact ⟨ret_eq2 (str_eqv (strIs_eq ht)) rfl, Hb2.out⟩
  · rw [hm] at HM
    have e1 : bytesOut r = ⟨#[]⟩ := by unfold bytesOut mayAll; rw [hm]; rfl
    have e2 : codeOut r = 2 := by unfold codeOut mayAll; rw [hm]; rfl
    rw [e1, e2]
    clear hi hm e1 e2
    unfold rcdCells at HM ⊢
    go_enter Try.func11, Try.ntmps11
    go_wp2_with (go_at_call 29; refine (HM.out _ (below_alloc _ _)).mono ?_; rintro e w1 ⟨rfl, hb⟩)
    go_ret2
    exact ⟨rfl, below_go (below_alloc _ _) (by assumption) (Nat.le_refl _)⟩

theorem code_eq (r : Rcd) : (codeOut r == 0) = mayAll r := by
  unfold codeOut
  cases mayAll r <;> rfl
set_option maxHeartbeats 1000000 in
theorem mayP_any (r : Rcd) (A A' : Option Addr) (c c' : Nat) (w : World) (hi : RcdIn w r A A') :
    Calls Try.prog 15 #[.agg (rcdCells r A c A' c')] w fun e w' => e = .returned (.bool (mayAll r)) ∧ Below w.heap.size w w' := by
  have HM := hide fun (W : World) (hb : Below w.heap.size w W) => bytes_any r A A' c c' W (hi.later hb)
  have HC := hide (code_eq r)
  clear hi
  unfold rcdCells at HM ⊢
  obtain ⟨t, ht⟩ : ∃ t, bytesOut r = t := ⟨_, rfl⟩
  obtain ⟨cd, hc⟩ : ∃ t, codeOut r = t := ⟨_, rfl⟩
  rw [ht, hc] at HM
  rw [hc] at HC
  clear ht hc
  go_enter Try.func15, Try.ntmps15
  go_wp2_with (go_at_call 11; refine (HM.out _ (below_alloc _ _)).mono ?_; rintro e w1 ⟨rfl, hb⟩)
  go_ret
  exact ⟨ret_eq1 (bool_eq HC.out), below_go (below_alloc _ _) (by assumption) (Nat.le_refl _)⟩

/-- What Frame answers. -/
def frameOut (r : Rcd) : ByteArray := if mayAll r then bstr (text (bstr (Rec.bytes r))) else ⟨#[]⟩
set_option maxHeartbeats 1000000 in
theorem frame_any (r : Rcd) (A A' : Option Addr) (c c' : Nat) (w : World) (hi : RcdIn w r A A') :
    Calls Try.prog 13 #[.agg (rcdCells r A c A' c')] w fun e w' => e = .returned (.tuple #[.string (frameOut r), .int .i64 (codeOut r)]) ∧ Below w.heap.size w w' := by
  have HM := hide fun (W : World) (hb : Below w.heap.size w W) => bytes_any r A A' c c' W (hi.later hb)
  clear hi
  unfold rcdCells at HM ⊢
  rcases Bool.eq_false_or_eq_true (mayAll r) with hm | hm
  · have e0 : bytesOut r = bstr (Rec.bytes r) := by unfold bytesOut; rw [hm]; rfl
    have e1 : codeOut r = 0 := by unfold codeOut; rw [hm]; rfl
    have e2 : frameOut r = bstr (text (bstr (Rec.bytes r))) := by unfold frameOut; rw [hm]; rfl
    have hsz : (bstr (Rec.bytes r)).size ≤ 65536 := by
      unfold mayAll at hm
      simp at hm
      simpa [bstr, ByteArray.size] using hm.2
    rw [e0, e1] at HM
    rw [e1, e2]
    clear e0 e1 e2 hm
    generalize bstr (Rec.bytes r) = t at *
    have HT := hide fun (W W' : World) (hW' : W' = W.alloc (.cells #[.slice none 0 0] 56)) => by
      have h := text_any t W' W.heap.size W.heap.size [] none 0 (by subst hW'; exact ⟨Blk.new W 56 #[.slice none 0 0], World.ownsRow_nil _ _ _ _, by simp, by simp⟩) (by simp) (by omega)
      rw [List.nil_append] at h
      exact h
    clear hsz
    obtain ⟨Lb, hLb⟩ : ∃ Lb, text t = Lb := ⟨_, rfl⟩
    rw [hLb] at HT ⊢
    clear hLb
    go_enter Try.func13, Try.ntmps13
    go_wp2_with first
      | (go_at_call 11; refine (HM.out _ (below_alloc _ _)).mono ?_; rintro e w1 ⟨rfl, hb⟩; have Hb := hide (below_go (below_alloc _ _) hb (Nat.le_refl _)); clear hb)
      | (go_at_call 32; refine (HT.out _ _ rfl).mono ?_; rintro e w2 ⟨rfl, ⟨A4, c4, hW⟩, ht⟩; have W2 := hide hW; have p0 := hW.blk.cell 0; have Hb2 := hide ((Hb.out.alloc Hb.out.size _).trans (ht.below Hb.out.size Hb.out.size (Nat.le_trans Hb.out.size (by simp)))); clear hW ht)
      | (with_reducible show wpList _ _ _ (⟨_, .convert 54 9 _, _, _, _, _⟩ :: _) _ _; refine wpList_to_string rfl 54 9 5 (.tmp 23) rfl Try.underlying54 Try.underlying5 Try.underlying9 w1.heap.size (.slice A4 Lb.length c4) Lb.length rfl Lb W2.out.own ?_; intro t ht)
    go_ret2
    exact ⟨ret_eq2 (str_eqv (strIs_eq ht)) rfl, Hb2.out⟩
  · have e0 : bytesOut r = ⟨#[]⟩ := by unfold bytesOut; rw [hm]; rfl
    have e1 : codeOut r = 2 := by unfold codeOut; rw [hm]; rfl
    have e2 : frameOut r = ⟨#[]⟩ := by unfold frameOut; rw [hm]; rfl
    rw [e0, e1] at HM
    rw [e1, e2]
    clear e0 e1 e2 hm
    go_enter Try.func13, Try.ntmps13
    go_wp2_with (go_at_call 11; refine (HM.out _ (below_alloc _ _)).mono ?_; rintro e w1 ⟨rfl, hb⟩)
    go_ret2
    exact ⟨rfl, below_go (below_alloc _ _) (by assumption) (Nat.le_refl _)⟩
end Go.Proofs.Ytlkkmgimjjnhjaa
