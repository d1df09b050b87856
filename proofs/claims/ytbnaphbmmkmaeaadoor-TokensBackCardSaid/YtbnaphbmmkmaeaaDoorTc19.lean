/- Tokens: Join: tokens written. (Printed by wip/genTkJb.py.) · Tokens: words for the law of writing and reading again; no walk. -/
import Derived.Test.YtbnaphbmmkmaeaaDoorTc18
set_option linter.unusedSimpArgs false
set_option linter.unusedVariables false
namespace Go.Proofs.YtbnaphbmmkmaeaaDoor
open Go.RowKit Tk

theorem in_byte (c : UInt8) (v : L) : (0 ≤ Lib.indexByte v c) ↔ c ∈ v := by
  induction v with
  | nil => simp [Lib.indexByte]
  | cons b l ih =>
    unfold Lib.indexByte
    by_cases hb : b = c
    · subst hb; simp
    · rw [if_neg (by simpa using hb)]
      have h1 := Lib.indexByte_ge l c
      have : c ∈ b :: l ↔ c ∈ l := by simp [Ne.symm hb]
      rw [this, ← ih]
      (try dsimp only)
      split
      · rename_i h2
        have : Lib.indexByte l c = -1 := by simpa using h2
        omega
      · rename_i h2
        have : Lib.indexByte l c ≠ -1 := by simpa using h2
        omega
/-- What is written of an attribute, of a token that lies anywhere. -/
def quoteG (v : ByteArray) : UInt8 := if (34 : UInt8) ∈ v.data.toList then 39 else 34
def joinGa (a : Ga) : L := 32 :: (a.name.data.toList ++ 61 :: quoteG a.value :: (a.value.data.toList ++ [quoteG a.value]))
def joinGt (t : Gt) : L :=
  if t.kind = 0 then 60 :: (t.name.data.toList ++ (t.as_.flatMap joinGa ++ ((if t.empty then [47] else []) ++ [62])))
  else if t.kind = 1 then 60 :: 47 :: (t.name.data.toList ++ [62])
  else if t.kind = 2 then t.text.data.toList
  else if t.kind = 3 then sData ++ (t.text.data.toList ++ [93, 93, 62])
  else []
def joinG (l : List Gt) : L := l.flatMap joinGt
theorem str_cells (s : ByteArray) : Lib.strCells s = Lib.byteCells s.data.toList := rfl
theorem byteCells_append (a b : L) : Lib.byteCells (a ++ b) = Lib.byteCells a ++ Lib.byteCells b := by simp [Lib.byteCells]
/-- A builder that holds these bytes. -/
def Bu (B b : Nat) (l : L) (w : World) : Prop := Lib.IsBuilder 51 5 B b (Lib.byteCells l) w
theorem Bu.ws {B b : Nat} {l : L} {w : World} (h : Bu B b l w) (s : ByteArray) (m : L) (hm : s.data.toList = m) (hlen : l.length + m.length ≤ 2000000000) (hBw : B ≤ w.heap.size) :
    Calls Tryd.prog 22 #[.pointer (some ⟨b, 0, none⟩), .string s] w fun e w' => (∃ v, e = .returned v) ∧ Bu B b (l ++ m) w' ∧ BlT B b w w' := by
  have hs : s.size = m.length := by rw [← hm, size_list]
  refine (ws_any B b _ s w h (by rw [Lib.byteCells_length]; omega) hBw).mono ?_
  rintro e w' ⟨rfl, h1, h2⟩
  refine ⟨⟨_, rfl⟩, ?_, h2⟩
  unfold Bu
  rw [byteCells_append, ← hm]
  exact h1
theorem Bu.wb {B b : Nat} {l : L} {w : World} (h : Bu B b l w) (c : UInt8) (hlen : l.length + 1 ≤ 2000000000) (hBw : B ≤ w.heap.size) :
    Calls Tryd.prog 24 #[.pointer (some ⟨b, 0, none⟩), .int .u8 (c.toNat : Nat)] w fun e w' => e = .returned .nilIface ∧ Bu B b (l ++ [c]) w' ∧ BlT B b w w' := by
  refine (wb_any B b _ _ w h (by rw [Lib.byteCells_length]; omega) hBw).mono ?_
  rintro e w' ⟨rfl, h1, h2⟩
  refine ⟨rfl, ?_, h2⟩
  unfold Bu
  rw [byteCells_append]
  exact h1
theorem Bu.alloc {B b : Nat} {l : L} {w : World} (h : Bu B b l w) (o : Obj) : Bu B b l (w.alloc o) := by
  have key : ∀ p, Lib.BuilderAt 51 5 B b p (Lib.byteCells l) w → Lib.BuilderAt 51 5 B b p (Lib.byteCells l) (w.alloc o) := fun p hp => by
    have hlt := hp.lt
    obtain ⟨hB, v, hb, hown, hne⟩ := hp
    exact ⟨hB, v, (Below.heap_alloc _ _ _ hlt).trans hb, hown.alloc o, hne⟩
  rcases h with h | h
  · exact .inl (key _ h)
  · exact .inr (key _ h)
theorem Bu.fresh (w : World) : Bu w.heap.size w.heap.size [] (w.alloc (.cells #[.pointer none, .slice none 0 0] 51)) :=
  .inl ⟨Nat.le_refl _, _, Blk.new w _ _, World.ownsRow_nil _ _ _ _, fun h => by cases h⟩
theorem Bu.lt {B b : Nat} {l : L} {w : World} (h : Bu B b l w) : b < w.heap.size := by
  rcases h with h | h <;> exact h.lt
theorem flat_len {α : Type} {f : α → L} {l : List α} {x : α} (hx : x ∈ l) : (f x).length ≤ (l.flatMap f).length := by
  induction l with
  | nil => cases hx
  | cons y l ih =>
    rw [List.flatMap_cons, List.length_append]
    rcases List.mem_cons.1 hx with rfl | hx
    · omega
    · have := ih hx; omega
theorem flat_take {α : Type} (f : α → L) {l : List α} {k : Nat} (hk : k < l.length) : (l.take (k + 1)).flatMap f = (l.take k).flatMap f ++ f l[k] := by
  rw [List.take_succ_eq_append_getElem hk, List.flatMap_append]
  simp
theorem flat_pre {α : Type} (f : α → L) (l : List α) (k : Nat) : ((l.take k).flatMap f).length ≤ (l.flatMap f).length := by
  conv => rhs; rw [← List.take_append_drop k l, List.flatMap_append, List.length_append]
  omega

set_option maxHeartbeats 32000000 in
set_option maxRecDepth 20000 in
theorem join_any (A : Option Addr) (c B0 : Nat) (l : List Gt) (w : World) (hA : TkL w B0 A l) (hB0 : B0 ≤ w.heap.size) (hl : l.length ≤ 1000000000) (hs : ∀ x ∈ l, x.as_.length ≤ 1000000000) (hj : (joinG l).length ≤ 1000000000) :
    Calls Tryd.prog 13 #[.slice A l.length c] w fun e w' => e = .returned (.string (bstr (joinG l))) ∧ Below w.heap.size w w' := by
  obtain ⟨n, hn⟩ : ∃ n, l.length = n := ⟨_, rfl⟩
  have HA := hide hA
  rw [hn] at hl ⊢
  have Hn := hide hn
  have Hs := hide hs
  have Hj := hide hj
  have hst := fun W l h => Tryd.Builder_String_any w.heap.size w.heap.size l W h
  have HSt := hide hst
  clear hn hA hs hj hst
  have b0 := Bu.fresh w
  have HB0 := hide b0
  have hB1 : Below w.heap.size w (w.alloc (.cells #[.pointer none, .slice none 0 0] 51)) := (Below.refl _ w).alloc (Nat.le_refl _) _
  have HB1 := hide hB1
  clear b0 hB1
  go_enter Tryd.func13, Tryd.ntmps13
  go_wp2
  go_loopg [11] n (fun g vi wr => ∃ k : Nat, g = n - k ∧ k ≤ n ∧ vi = .int .i64 (k : Int) ∧ Bu w.heap.size w.heap.size (joinG (l.take k)) wr ∧ Below w.heap.size w wr)
  case atStart => exact ⟨0, rfl, Nat.zero_le _, rfl, HB0.out, HB1.out⟩
  case round =>
    obtain ⟨k, hg, hk, rfl, hb, hB⟩ := hrel
    have Hg := hide hg
    have Hb := hide hb
    have HB := hide hB
    clear hg hb hB HB0 HB1
    by_cases hlt : k < n
    · have h1 : k < l.length := by rw [Hn.out]; exact hlt
      obtain ⟨b, off, rfl, hb, hx⟩ := (HA.out.below (HB.out.mono hB0)).row.gt h1
      have HSubW := hide (fun W (hW : Below w.heap.size w W) => (HA.out.below (hW.mono hB0)).sub l[k] (List.getElem_mem h1))
      have hVb : wr.heap.size ≠ w.heap.size := by have := Hb.out.lt; omega
      have hsl := Hs.out l[k] (List.getElem_mem h1)
      have Hnext := hide (show joinG (l.take (k + 1)) = joinG (l.take k) ++ joinGt l[k] from flat_take joinGt h1)
      have Hbd := hide (show (joinG (l.take k)).length + (joinGt l[k]).length ≤ 1000000000 by have h2 := flat_pre joinGt l (k + 1); rw [flat_take joinGt h1, List.length_append] at h2; have := Hj.out; unfold joinG at this ⊢; omega)
      generalize l[k] = x at *
      obtain ⟨pre, hpre⟩ : ∃ p, joinG (l.take k) = p := ⟨_, rfl⟩
      rw [hpre] at Hb Hnext Hbd
      have x0 := hx.c0
      have x1 := hx.c1
      have x2 := hx.c2
      have x3 := hx.c3
      have x4 := hx.c4
      have x5 := hx.c5
      have x6 := hx.c6
      obtain ⟨kd, nm, as_, A2, c2, em, tx, a0, e0⟩ := x
      dsimp only at x0 x1 x2 x3 x4 x5 x6 hsl HSubW
      have V1 := hide (Blk.new wr 29 #[.int .i8 kd, .string nm, .slice A2 as_.length c2, .bool em, .string tx, .int .i64 a0, .int .i64 e0])
      have p0 := V1.out.cell 0
      have p1 := V1.out.cell 1
      have p2 := V1.out.cell 2
      have p3 := V1.out.cell 3
      have p4 := V1.out.cell 4
      have Hb1 := hide (Hb.out.alloc (.cells #[.int .i8 kd, .string nm, .slice A2 as_.length c2, .bool em, .string tx, .int .i64 a0, .int .i64 e0] 29))
      have HB2 := hide (HB.out.alloc HB.out.size (.cells #[.int .i8 kd, .string nm, .slice A2 as_.length c2, .bool em, .string tx, .int .i64 a0, .int .i64 e0] 29))
      clear hx hpre Hb
      by_cases k0 : kd = 0
      · subst k0
        have Hjx := hide (show joinGt ⟨0, nm, as_, A2, c2, em, tx, a0, e0⟩ = 60 :: (nm.data.toList ++ (as_.flatMap joinGa ++ ((if em then [47] else []) ++ [62]))) from rfl)
        have hbd := Hbd.out
        rw [Hjx.out] at hbd
        simp only [List.length_append, List.length_cons, List.length_nil] at hbd
        have Hbd2 := hide hbd
        have hnz := size_list nm
        have k1 : ¬ 9223372036854775807 < 1 + nm.size := by omega
        clear hbd
        go_wp2_with fail
        generalize wr.heap.size = V at *
        refine (Hb1.out.ws _ (60 :: nm.data.toList) (by simp [ByteArray.data_append]) (by have := Hbd2.out; simp only [List.length_cons]; omega) HB2.out.size).mono ?_
        rintro e w3 ⟨⟨v3, rfl⟩, b3, t3⟩
        have hV : V ≠ w.heap.size := hVb
        have V3 := hide (t3.blk V1.out hV (by decide))
        have r2 := V3.out.cell 2
        have r3 := V3.out.cell 3
        have Hb3 := hide b3
        have HB3 := hide (HB2.out.trans (t3.below (Nat.le_refl _) HB2.out.size))
        obtain ⟨na, hna⟩ : ∃ na, as_.length = na := ⟨_, rfl⟩
        have Hna := hide hna
        rw [hna] at r2 hsl
        clear b3 t3 p0 p1 p2 p3 p4 hna k1 V1 Hb1 x0 x1 x2 x3 x4 x5 x6
        go_wp2
        go_loopg [26] na (fun g vi wr2 => ∃ j : Nat, g = na - j ∧ j ≤ na ∧ vi = .int .i64 (j : Int) ∧ Bu w.heap.size w.heap.size (pre ++ (60 :: nm.data.toList) ++ (as_.take j).flatMap joinGa) wr2 ∧ Below w.heap.size w wr2 ∧ Blk wr2 V 29 #[.int .i8 0, .string nm, .slice A2 as_.length c2, .bool em, .string tx, .int .i64 a0, .int .i64 e0])
        case atStart => exact ⟨0, rfl, Nat.zero_le _, rfl, by rw [List.take_zero, List.flatMap_nil, List.append_nil]; exact Hb3.out, HB3.out, V3.out⟩
        case round =>
          obtain ⟨j, hgj, hj2, rfl, hbj, hBj, hVj⟩ := hrel
          have Hgj := hide hgj
          have Hbj := hide hbj
          have HBj := hide hBj
          have HVj := hide hVj
          clear hgj hbj hBj hVj Hb3 HB3 V3 r2 r3
          by_cases hltj : j < na
          · have ha1 : j < as_.length := by rw [Hna.out]; exact hltj
            obtain ⟨b2, off2, rfl, hb2, hy⟩ := (HSubW.out _ HBj.out).ga ha1
            have Hnj := hide (show (as_.take (j + 1)).flatMap joinGa = (as_.take j).flatMap joinGa ++ joinGa as_[j] from flat_take joinGa ha1)
            have Hbdj := hide (show ((as_.take j).flatMap joinGa).length + (joinGa as_[j]).length ≤ (as_.flatMap joinGa).length by have h2 := flat_pre joinGa as_ (j + 1); rw [flat_take joinGa ha1, List.length_append] at h2; exact h2)
            generalize as_[j] = y at *
            obtain ⟨pj, hpj⟩ : ∃ p, (as_.take j).flatMap joinGa = p := ⟨_, rfl⟩
            rw [hpj] at Hbj Hnj Hbdj
            obtain ⟨yn, yv, ya⟩ := y
            have y0 : _ = some (Value.string yn) := hy.c0
            have y1 : _ = some (Value.string yv) := hy.c1
            have y2 : _ = some (Value.int .i64 ya) := hy.c2
            have W1 := hide (Blk.new wr 38 #[.string yn, .string yv, .int .i64 ya])
            have s0 := W1.out.cell 0
            have s1 := W1.out.cell 1
            have hct := Tryd.strings_Contains_one yv 34
            have hib := in_byte 34 yv.data.toList
            have hzn := size_list yn
            have hzv := size_list yv
            have hgl : (joinGa ⟨yn, yv, ya⟩).length = yn.size + yv.size + 4 := by unfold joinGa; simp only [List.length_cons, List.length_append, List.length_nil, hzn, hzv]; omega
            have HCt := hide hct
            have hb9 : yn.size + yv.size + 4 ≤ 1000000000 := by have h1 := Hbdj.out; have h2 := Hbd2.out; rw [hgl] at h1; omega
            have m1 : ¬ 9223372036854775807 < 1 + yn.size := by omega
            have m2 : ¬ 9223372036854775807 < 1 + yn.size + 1 := by omega
            have m3 : ¬ 9223372036854775807 < 1 + yn.size + 1 + 1 := by omega
            have m4 : ¬ 9223372036854775807 < 1 + yn.size + 1 + 1 + yv.size := by omega
            have m5 : ¬ 9223372036854775807 < 1 + yn.size + 1 + 1 + yv.size + 1 := by omega
            have Hgl := hide hgl
            clear hy hct hpj hgl
            obtain ⟨z, hz⟩ : ∃ z, Lib.indexByte yv.data.toList 34 = z := ⟨_, rfl⟩
            rw [hz] at HCt hib
            clear hz
            by_cases h34 : 0 ≤ z
            · have hd : decide (0 ≤ z) = true := decide_eq_true h34
              rw [hd] at HCt
              have Hq := hide (show joinGa ⟨yn, yv, ya⟩ = 32 :: (yn.data.toList ++ 61 :: 39 :: (yv.data.toList ++ [39])) from by unfold joinGa quoteG; rw [if_pos (hib.1 h34)])
              clear h34 hib hd
              go_wp2_with fail
              refine (HCt.out _).mono ?_
              rintro e w4 ⟨rfl, rfl⟩
              go_wp2_with fail
              refine ((Hbj.out.alloc (.cells #[.string yn, .string yv, .int .i64 ya] 38)).ws _ (joinGa ⟨yn, yv, ya⟩) (by rw [Hq.out]; simp [ByteArray.data_append]) (by have h1 := Hbdj.out; have h2 := Hbd2.out; simp only [List.length_append, List.length_cons]; omega) (by have := HBj.out.size; simp; omega)).mono ?_
              rintro e w5 ⟨⟨v5, rfl⟩, b5, t5⟩
              have Hb5 := hide b5
              have HB5 := hide ((HBj.out.alloc HBj.out.size (.cells #[.string yn, .string yv, .int .i64 ya] 38)).trans (t5.below (Nat.le_refl _) (by have := HBj.out.size; simp; omega)))
              have HV5 := hide (t5.blk (HVj.out.alloc (.cells #[.string yn, .string yv, .int .i64 ya] 38)) hV (by decide))
              clear b5 t5
              go_wp2
              go_roundg (na - (j + 1))
              case measure => have := Hgj.out; omega
              case rel => exact ⟨j + 1, rfl, by omega, by go_num, by rw [Hnj.out, ← List.append_assoc]; exact Hb5.out, HB5.out, HV5.out⟩
            · have hd : decide (0 ≤ z) = false := decide_eq_false h34
              rw [hd] at HCt
              have Hq := hide (show joinGa ⟨yn, yv, ya⟩ = 32 :: (yn.data.toList ++ 61 :: 34 :: (yv.data.toList ++ [34])) from by unfold joinGa quoteG; rw [if_neg (fun h => h34 (hib.2 h))])
              clear h34 hib hd
              go_wp2_with fail
              refine (HCt.out _).mono ?_
              rintro e w4 ⟨rfl, rfl⟩
              go_wp2_with fail
              refine ((Hbj.out.alloc (.cells #[.string yn, .string yv, .int .i64 ya] 38)).ws _ (joinGa ⟨yn, yv, ya⟩) (by rw [Hq.out]; simp [ByteArray.data_append]) (by have h1 := Hbdj.out; have h2 := Hbd2.out; simp only [List.length_append, List.length_cons]; omega) (by have := HBj.out.size; simp; omega)).mono ?_
              rintro e w5 ⟨⟨v5, rfl⟩, b5, t5⟩
              have Hb5 := hide b5
              have HB5 := hide ((HBj.out.alloc HBj.out.size (.cells #[.string yn, .string yv, .int .i64 ya] 38)).trans (t5.below (Nat.le_refl _) (by have := HBj.out.size; simp; omega)))
              have HV5 := hide (t5.blk (HVj.out.alloc (.cells #[.string yn, .string yv, .int .i64 ya] 38)) hV (by decide))
              clear b5 t5
              go_wp2
              go_roundg (na - (j + 1))
              case measure => have := Hgj.out; omega
              case rel => exact ⟨j + 1, rfl, by omega, by go_num, by rw [Hnj.out, ← List.append_assoc]; exact Hb5.out, HB5.out, HV5.out⟩
          · have hjn : j = na := by omega
            subst hjn
            have r3 := HVj.out.cell 3
            have hbj := Hbj.out
            rw [List.take_of_length_le (by rw [Hna.out]; exact Nat.le_refl _)] at hbj
            have Hbe := hide hbj
            clear hbj
            cases em with
            | true =>
              go_wp2_with fail
              refine (Hbe.out.wb 47 (by have h2 := Hbd2.out; simp only [List.length_append, List.length_cons]; omega) HBj.out.size).mono ?_
              rintro e w6 ⟨rfl, b6, t6⟩
              have Hb6 := hide b6
              have HB6 := hide (HBj.out.trans (t6.below (Nat.le_refl _) HBj.out.size))
              clear b6 t6
              go_wp2_with fail
              refine (Hb6.out.wb 62 (by have h2 := Hbd2.out; simp only [List.length_append, List.length_cons, List.length_nil]; omega) HB6.out.size).mono ?_
              rintro e w7 ⟨rfl, b7, t7⟩
              have HB7 := hide (HB6.out.trans (t7.below (Nat.le_refl _) HB6.out.size))
              have Hb7 := hide (show Bu w.heap.size w.heap.size (pre ++ joinGt ⟨0, nm, as_, A2, c2, true, tx, a0, e0⟩) w7 by rw [Hjx.out]; simpa using b7)
              clear b7 t7
              go_wp2
              go_roundg (n - (k + 1))
              case measure => have := Hg.out; omega
              case rel => exact ⟨k + 1, rfl, by omega, by go_num, by rw [Hnext.out]; exact Hb7.out, HB7.out⟩
            | false =>
              go_wp2_with fail
              refine (Hbe.out.wb 62 (by have h2 := Hbd2.out; simp only [List.length_append, List.length_cons]; omega) HBj.out.size).mono ?_
              rintro e w7 ⟨rfl, b7, t7⟩
              have HB7 := hide (HBj.out.trans (t7.below (Nat.le_refl _) HBj.out.size))
              have Hb7 := hide (show Bu w.heap.size w.heap.size (pre ++ joinGt ⟨0, nm, as_, A2, c2, false, tx, a0, e0⟩) w7 by rw [Hjx.out]; simpa using b7)
              clear b7 t7
              go_wp2
              go_roundg (n - (k + 1))
              case measure => have := Hg.out; omega
              case rel => exact ⟨k + 1, rfl, by omega, by go_num, by rw [Hnext.out]; exact Hb7.out, HB7.out⟩
      have c0 : (kd == 0) = false := by simpa using k0
      by_cases k1 : kd = 1
      · subst k1
        have Hjx := hide (show joinGt ⟨1, nm, as_, A2, c2, em, tx, a0, e0⟩ = 60 :: 47 :: (nm.data.toList ++ [62]) from rfl)
        have hbd := Hbd.out
        rw [Hjx.out] at hbd
        (try simp only [List.length_append, List.length_cons, List.length_nil, sData] at hbd)
        have Hbd2 := hide hbd
        have hnz := size_list nm
        have htz := size_list tx
        have k1 : ¬ 9223372036854775807 < 2 + nm.size := by omega
        have k2 : ¬ 9223372036854775807 < 2 + nm.size + 1 := by omega
        clear hbd
        go_wp2_with fail
        refine (Hb1.out.ws _ (60 :: 47 :: (nm.data.toList ++ [62])) (by simp [ByteArray.data_append, sData]) (by have := Hbd2.out; (try simp only [List.length_append, List.length_cons, List.length_nil, sData]); omega) HB2.out.size).mono ?_
        rintro e w3 ⟨⟨v3, rfl⟩, b3, t3⟩
        have HB3 := hide (HB2.out.trans (t3.below (Nat.le_refl _) HB2.out.size))
        have Hb3 := hide (show Bu w.heap.size w.heap.size (pre ++ joinGt ⟨1, nm, as_, A2, c2, em, tx, a0, e0⟩) w3 by rw [Hjx.out]; exact b3)
        clear b3 t3
        go_wp2
        go_roundg (n - (k + 1))
        case measure => have := Hg.out; omega
        case rel => exact ⟨k + 1, rfl, by omega, by go_num, by rw [Hnext.out]; exact Hb3.out, HB3.out⟩
      have c1 : (kd == 1) = false := by simpa using k1
      by_cases k2 : kd = 2
      · subst k2
        have Hjx := hide (show joinGt ⟨2, nm, as_, A2, c2, em, tx, a0, e0⟩ = tx.data.toList from rfl)
        have hbd := Hbd.out
        rw [Hjx.out] at hbd
        (try simp only [List.length_append, List.length_cons, List.length_nil, sData] at hbd)
        have Hbd2 := hide hbd
        have hnz := size_list nm
        have htz := size_list tx

        clear hbd
        go_wp2_with fail
        refine (Hb1.out.ws _ (tx.data.toList) (by simp [ByteArray.data_append, sData]) (by have := Hbd2.out; (try simp only [List.length_append, List.length_cons, List.length_nil, sData]); omega) HB2.out.size).mono ?_
        rintro e w3 ⟨⟨v3, rfl⟩, b3, t3⟩
        have HB3 := hide (HB2.out.trans (t3.below (Nat.le_refl _) HB2.out.size))
        have Hb3 := hide (show Bu w.heap.size w.heap.size (pre ++ joinGt ⟨2, nm, as_, A2, c2, em, tx, a0, e0⟩) w3 by rw [Hjx.out]; exact b3)
        clear b3 t3
        go_wp2
        go_roundg (n - (k + 1))
        case measure => have := Hg.out; omega
        case rel => exact ⟨k + 1, rfl, by omega, by go_num, by rw [Hnext.out]; exact Hb3.out, HB3.out⟩
      have c2' : (kd == 2) = false := by simpa using k2
      by_cases k3 : kd = 3
      · subst k3
        have Hjx := hide (show joinGt ⟨3, nm, as_, A2, c2, em, tx, a0, e0⟩ = sData ++ (tx.data.toList ++ [93, 93, 62]) from rfl)
        have hbd := Hbd.out
        rw [Hjx.out] at hbd
        (try simp only [List.length_append, List.length_cons, List.length_nil, sData] at hbd)
        have Hbd2 := hide hbd
        have hnz := size_list nm
        have htz := size_list tx
        have k1 : ¬ 9223372036854775807 < 9 + tx.size := by omega
        have k2 : ¬ 9223372036854775807 < 9 + tx.size + 3 := by omega
        clear hbd
        go_wp2_with fail
        refine (Hb1.out.ws _ (sData ++ (tx.data.toList ++ [93, 93, 62])) (by simp [ByteArray.data_append, sData]) (by have := Hbd2.out; (try simp only [List.length_append, List.length_cons, List.length_nil, sData]); omega) HB2.out.size).mono ?_
        rintro e w3 ⟨⟨v3, rfl⟩, b3, t3⟩
        have HB3 := hide (HB2.out.trans (t3.below (Nat.le_refl _) HB2.out.size))
        have Hb3 := hide (show Bu w.heap.size w.heap.size (pre ++ joinGt ⟨3, nm, as_, A2, c2, em, tx, a0, e0⟩) w3 by rw [Hjx.out]; exact b3)
        clear b3 t3
        go_wp2
        go_roundg (n - (k + 1))
        case measure => have := Hg.out; omega
        case rel => exact ⟨k + 1, rfl, by omega, by go_num, by rw [Hnext.out]; exact Hb3.out, HB3.out⟩
      have c3 : (kd == 3) = false := by simpa using k3
      have Hjx := hide (show joinGt ⟨kd, nm, as_, A2, c2, em, tx, a0, e0⟩ = [] by unfold joinGt; rw [if_neg k0, if_neg k1, if_neg k2, if_neg k3])
      have Hb3 := hide (show Bu w.heap.size w.heap.size (pre ++ joinGt ⟨kd, nm, as_, A2, c2, em, tx, a0, e0⟩) _ by rw [Hjx.out, List.append_nil]; exact Hb1.out)
      go_wp2
      go_roundg (n - (k + 1))
      case measure => have := Hg.out; omega
      case rel => exact ⟨k + 1, rfl, by omega, by go_num, by rw [Hnext.out]; exact Hb3.out, HB2.out⟩
    · have hkn : k = n := by omega
      subst hkn
      have hb := Hb.out
      rw [List.take_of_length_le (by rw [Hn.out]; exact Nat.le_refl _)] at hb
      have Hb2 := hide hb
      clear hb Hb
      go_wp2_with fail
      refine (HSt.out _ _ Hb2.out HB.out.size).mono ?_
      rintro e w9 ⟨rfl, b9⟩
      have B9 := hide (HB.out.trans b9)
      clear b9
      go_wp2
      go_ret
      exact ⟨rfl, B9.out⟩
end Go.Proofs.YtbnaphbmmkmaeaaDoor
namespace Go.Proofs.YtbnaphbmmkmaeaaDoor
open Go.RowKit Tk

theorem joinGa_g (a : At) : joinGa a.g = joinAt a := rfl
theorem joinGt_g (x : Tv) : joinGt x.g = joinTok x.t := by
  unfold joinGt joinTok Tv.g
  dsimp only
  rw [List.flatMap_map]
  rfl
theorem joinG_g (xs : List Tv) : joinG (xs.map Tv.g) = Tk.join (xs.map (·.t)) := by
  unfold joinG Tk.join
  rw [List.flatMap_map, List.flatMap_map]
  induction xs with
  | nil => rfl
  | cons x xs ih => rw [List.flatMap_cons, List.flatMap_cons, ih, joinGt_g]
theorem attrsW_join {off : Nat} {w : L} {as_ : List At} {e : Bool} (h : AttrsW off w as_ e) : (as_.flatMap joinAt ++ ((if e then [47] else []) ++ [62])).length ≤ w.length := by
  induction h with
  | two off b hb => simp
  | one off b hb => simp
  | more off b nm v x w as_ e hb h0 hn hn0 hv h60 hw ih =>
    have hbl : 0 < b.length := List.length_pos_iff.2 h0
    obtain ⟨b1, b2, q, _, _, _, _, rfl⟩ := hv
    simp only [List.flatMap_cons, List.length_append, List.length_cons, List.length_nil, joinAt] at ih ⊢
    omega
theorem tokW_join {at_ : Nat} {w : L} {t : Tok} (h : TokW at_ w t) : (joinTok t).length ≤ w.length := by
  cases h with
  | start _ nm wa as_ e hn h0 ha =>
    have := attrsW_join ha
    show (60 :: (nm ++ _)).length ≤ _
    simp only [List.length_append, List.length_cons] at this ⊢
    omega
  | end_ _ nm b hn h0 hb =>
    show (60 :: 47 :: (nm ++ [62])).length ≤ _
    simp only [List.length_append, List.length_cons, List.length_nil]
    omega
  | text _ _ h1 h2 h3 => exact Nat.le_refl _
  | data _ tx h1 => exact Nat.le_refl _
  | comment => exact Nat.zero_le _
  | decl => exact Nat.zero_le _
  | instr => exact Nat.zero_le _
theorem row_join {at_ : Nat} {w rest : L} {ts : List Tok} (h : Row at_ w rest ts) (f : Tok → Bool) : (Tk.join (ts.filter f)).length ≤ w.length := by
  induction h with
  | nil => exact Nat.le_refl _
  | cons at_ w t w2 rest ts hw hf hk _ ih =>
    have := tokW_join hw
    rw [List.filter_cons, List.length_append]
    split
    · show (joinTok t ++ Tk.join (ts.filter f)).length ≤ _
      rw [List.length_append]
      omega
    · omega
theorem allP_join {s : L} {ts : List Tok} {n : Nat} {ok : Bool} (h : AllP s ts n ok) (f : Tok → Bool) : (Tk.join (ts.filter f)).length ≤ s.length := by
  unfold AllP at h
  split at h
  · obtain ⟨w, rest, rfl, h1, _⟩ := h
    have := row_join h1 f
    rw [List.length_append]
    omega
  · obtain ⟨rfl, _⟩ := h
    exact Nat.zero_le _
/-- The tokens that are not skipped. -/
def kept (xs : List Tv) : List Tv := xs.filter fun x => !(x.t.kind == 4)
theorem kept_take {xs : List Tv} {j : Nat} {x : Tv} (h : xs[j]? = some x) : kept (xs.take (j + 1)) = if x.t.kind = 4 then kept (xs.take j) else kept (xs.take j) ++ [x] := by
  unfold kept
  rw [List.take_add_one, h, Option.toList_some, List.filter_append]
  split
  · rename_i hk; simp [hk]
  · rename_i hk
    have : (x.t.kind == 4) = false := by simpa using hk
    simp [this]
theorem kept_map (xs : List Tv) : (kept xs).map (·.t) = (xs.map (·.t)).filter fun t => !(t.kind == 4) := by
  unfold kept
  rw [List.filter_map]
  rfl
theorem kept_len (xs : List Tv) (j : Nat) : (kept (xs.take j)).length ≤ xs.length := by
  have := List.length_filter_le (fun x : Tv => !(x.t.kind == 4)) (xs.take j)
  unfold kept
  rw [List.length_take] at this
  omega
theorem apart_snoc : ∀ {l : List Tok} {t : Tok}, Apart l → (∀ u, l.getLast? = some u → ¬(u.kind = 2 ∧ t.kind = 2)) → Apart (l ++ [t])
  | [], t, _, _ => trivial
  | [a], t, _, h => ⟨h a rfl, trivial⟩
  | a :: b :: r, t, ha, h => ⟨ha.1, apart_snoc (l := b :: r) ha.2 fun u hu => h u (by simpa [List.getLast?_cons] using hu)⟩
theorem kept_read {s : L} {xs : List Tv} {n : Nat} {ok : Bool} (h : AllP s (xs.map (·.t)) n ok) : ∀ t ∈ (kept xs).map (·.t), Tk.Read t := by
  rw [kept_map]
  intro t ht
  obtain ⟨h1, h2⟩ := List.mem_filter.1 ht
  exact h.read t h1 (by simpa using h2)
end Go.Proofs.YtbnaphbmmkmaeaaDoor
