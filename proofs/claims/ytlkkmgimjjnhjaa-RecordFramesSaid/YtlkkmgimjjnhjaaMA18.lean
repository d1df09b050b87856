/- The reader's entry, the whole walk. · The document's reader: its fields. -/
import Derived.Test.YtlkkmgimjjnhjaaMA17
set_option linter.unusedSimpArgs false
set_option linter.unusedVariables false
namespace Go.Proofs.Ytlkkmgimjjnhjaa
open Go.RowKit Rec

/-- The reader behind a parser: what it has got; or it is bad. -/
def St {α : Type} (w : World) (R : Nat) (o : Option (α × List UInt8)) (P : α → Prop) : Prop :=
  match o with
  | some (a, r) => Rl w R r false ∧ P a
  | none => ∃ l', Rl w R l' true
def also {α β : Type} (o : Option (α × List UInt8)) (p : Par β) : Option ((α × β) × List UInt8) := o.bind fun x => (p x.2).bind fun y => some ((x.1, y.1), y.2)

theorem St.rl {α : Type} {w : World} {R : Nat} {o : Option (α × List UInt8)} {P : α → Prop} (h : St w R o P) : ∃ l, Rl w R l o.isNone := by
  cases o with
  | none => exact h
  | some p => exact ⟨_, h.1⟩
theorem St.lt {α : Type} {w : World} {R : Nat} {o : Option (α × List UInt8)} {P : α → Prop} (h : St w R o P) : R < w.heap.size := by
  obtain ⟨l, h⟩ := h.rl
  exact Blk.lt h
theorem St.keep {α : Type} {w w' : World} {R : Nat} {o : Option (α × List UInt8)} {P : α → Prop} (h : St w R o P) (hk : w'.heap[R]? = w.heap[R]?) : St w' R o P := by
  cases o with
  | none => obtain ⟨l, h⟩ := h; exact ⟨l, hk.trans h⟩
  | some p => exact ⟨hk.trans h.1, h.2⟩
theorem St.of {α : Type} {w : World} {R : Nat} {bad : Bool} {l : List UInt8} (hR : Rl w R l bad) (a : α) {P : α → Prop} (hP : P a) : St w R (if bad then none else some (a, l)) P := by
  cases bad
  · exact ⟨hR, hP⟩
  · exact ⟨l, hR⟩
theorem St.step {α β : Type} {p : Par β} {val : β → Value} {shape : Value → Prop} {Q : β → Prop} {f : Nat} {args : Array Value} {R : Nat}
    (hc : ∀ w l bad, Rl w R l bad → Calls Try.prog f args w (Got R w (goes p bad l) val shape))
    (hs : ∀ v, shape v → ∃ b, v = val b ∧ Q b) (hq : ∀ l b r, p l = some (b, r) → Q b) (w : World) (o : Option (α × List UInt8)) (P : α → Prop) (h : St w R o P) :
    Calls Try.prog f args w fun e w' => ∃ b, e = .returned (val b) ∧ Q b ∧ But R w w' ∧ St w' R (also o p) (fun ab => P ab.1 ∧ ab.2 = b) := by
  cases o with
  | none =>
    obtain ⟨l', hl⟩ := h
    refine (hc w l' true hl).mono fun e w' hg => ?_
    obtain ⟨hb, ⟨v, h1, h2⟩, h3⟩ := Got.no (show Got R w none _ _ e w' from hg)
    obtain ⟨b, rfl, hb'⟩ := hs v h2
    exact ⟨b, h1, hb', hb, h3⟩
  | some x =>
    obtain ⟨a, r⟩ := x
    obtain ⟨hl, hP⟩ := h
    refine (hc w r false hl).mono fun e w' hg => ?_
    have hg' : Got R w (p r) val shape e w' := hg
    show ∃ b, _ ∧ _ ∧ _ ∧ St w' R (((p r).bind fun y => some ((a, y.1), y.2))) _
    cases ht : p r with
    | none =>
      rw [ht] at hg'
      obtain ⟨hb, ⟨v, h1, h2⟩, h3⟩ := hg'.no
      obtain ⟨b, rfl, hb'⟩ := hs v h2
      exact ⟨b, h1, hb', hb, h3⟩
    | some q =>
      obtain ⟨b, r'⟩ := q
      rw [ht] at hg'
      obtain ⟨hb, h1, h2⟩ := hg'.yes
      exact ⟨b, h1, hq _ _ _ ht, hb, h2, hP, rfl⟩
theorem pNum_lt {l : List UInt8} {n : Nat} {r : List UInt8} (h : pNum l = some (n, r)) : n < 4294967296 := by
  unfold pNum at h
  split at h
  · cases h
    have := leN_lt (l.take 4)
    rw [List.length_take, Nat.min_eq_left (by omega)] at this
    omega
  · cases h
theorem num_step {α : Type} {R : Nat} (w : World) (o : Option (α × List UInt8)) (P : α → Prop) (h : St w R o P) :
    Calls Try.prog 65 #[.pointer (some ⟨R, 0, none⟩)] w fun e w' => ∃ b : Nat, e = .returned (.int .i64 b) ∧ b < 4294967296 ∧ But R w w' ∧ St w' R (also o pNum) (fun ab => P ab.1 ∧ ab.2 = b) :=
  St.step (fun w l bad h => num_got w R l bad h) (fun v h => ⟨0, h, by omega⟩) (fun _ _ _ h => pNum_lt h) w o P h
theorem flag_step {α : Type} {R : Nat} (w : World) (o : Option (α × List UInt8)) (P : α → Prop) (h : St w R o P) :
    Calls Try.prog 69 #[.pointer (some ⟨R, 0, none⟩)] w fun e w' => ∃ b : Bool, e = .returned (.bool b) ∧ True ∧ But R w w' ∧ St w' R (also o pFlag) (fun ab => P ab.1 ∧ ab.2 = b) :=
  St.step (fun w l bad h => flag_got w R l bad h) (fun v ⟨b, h⟩ => ⟨b, h, trivial⟩) (fun _ _ _ _ => trivial) w o P h
theorem text_stepS {α : Type} {R : Nat} (w : World) (o : Option (α × List UInt8)) (P : α → Prop) (h : St w R o P) :
    Calls Try.prog 66 #[.pointer (some ⟨R, 0, none⟩)] w fun e w' => ∃ b : ByteArray, e = .returned (.string b) ∧ True ∧ But R w w' ∧ St w' R (also o pText) (fun ab => P ab.1 ∧ ab.2 = b) :=
  St.step (fun w l bad h => text_got w R l bad h) (fun v h => ⟨_, h, trivial⟩) (fun _ _ _ _ => trivial) w o P h
theorem many_step {α : Type} {R : Nat} (most : Nat) (w : World) (o : Option (α × List UInt8)) (P : α → Prop) (h : St w R o P) :
    Calls Try.prog 67 #[.pointer (some ⟨R, 0, none⟩), .int .i64 most] w fun e w' => ∃ b : Nat, e = .returned (.int .i64 b) ∧ b ≤ most ∧ But R w w' ∧ St w' R (also o (pMany most)) (fun ab => P ab.1 ∧ ab.2 = b) :=
  St.step (fun w l bad h => many_got most w R l bad h) (fun v h => ⟨0, h, by omega⟩) (fun l n r h => by
    unfold pMany at h
    cases hp : pNum l with
    | none => rw [hp] at h; cases h
    | some q =>
      obtain ⟨m, r'⟩ := q
      rw [hp] at h
      simp only [Option.bind_some] at h
      split at h
      · cases h; assumption
      · cases h) w o P h

theorem At5.keep {w w' : World} {R k : Nat} {o : Option (List ByteArray × List UInt8)} {f : Nat → ByteArray} (h : At5 w R o k f) (hk : w'.heap[R]? = w.heap[R]?) : At5 w' R o k f := by
  cases o with
  | none => obtain ⟨l, h⟩ := h; exact ⟨l, hk.trans h⟩
  | some p => exact ⟨hk.trans h.1, h.2⟩
theorem At5.st {w : World} {R k : Nat} {o : Option (List ByteArray × List UInt8)} {f : Nat → ByteArray} (h : At5 w R o k f) : St w R o (fun ts => ts.length = k ∧ ∀ j, j < k → f j = ts.getD j ⟨#[]⟩) := by
  cases o with
  | none => exact h
  | some p => exact ⟨h.1, h.2⟩
theorem pTexts_goes (bad : Bool) (l : List UInt8) (k : Nat) : goes (pTexts (k + 1)) bad l = (goes (pTexts k) bad l).bind fun (ts, r) => (pText r).bind fun (t, r') => some (ts ++ [t], r') := by
  unfold goes; cases bad <;> rfl

/-- An entry out of its texts. -/
def mkEnt (ts : List ByteArray) (h : Bool) (s : Int) : Ent := ⟨ts.getD 0 ⟨#[]⟩, ts.getD 1 ⟨#[]⟩, ts.getD 2 ⟨#[]⟩, ts.getD 3 ⟨#[]⟩, ts.getD 4 ⟨#[]⟩, h, s⟩
theorem entry_goes (bad : Bool) (l : List UInt8) : goes pEntry bad l = (also (goes (pTexts 5) bad l) pFlag).bind fun ((ts, h), r) =>
    if h then (pNum r).bind fun (lo, r) => (pNum r).bind fun (hi, r) => if hi < 256 then some (mkEnt ts true (hi * 4294967296 + lo + -62135596800), r) else none
    else some (mkEnt ts false 0, r) := by
  unfold goes also pEntry mkEnt
  cases bad
  · simp only [Bool.false_eq_true, if_false, Option.bind_assoc, Option.bind_some]
  · rfl
theorem entBox_ent {f : Nat → ByteArray} {ts : List ByteArray} {h : Bool} {s : Int} (hf : ∀ j, j < 5 → f j = ts.getD j ⟨#[]⟩) : entBox f h s = (entCells (mkEnt ts h s)).toArray := by
  unfold entBox entCells mkEnt
  simp only [hf 0 (by omega), hf 1 (by omega), hf 2 (by omega), hf 3 (by omega), hf 4 (by omega)]
theorem entBox_some (f : Nat → ByteArray) (h : Bool) (s : Int) : ∃ x : Ent, Value.agg (entBox f h s) = .agg (entCells x).toArray := ⟨⟨f 0, f 1, f 2, f 3, f 4, h, s⟩, rfl⟩

/-- An entry laid into its cells, one by one. -/
def set7 (w : World) (X : Nat) (v0 v1 v2 v3 v4 v5 v6 : Value) : World := (((((((w.setCell ⟨X, 0, none⟩ v0).setCell ⟨X, 1, none⟩ v1).setCell ⟨X, 2, none⟩ v2).setCell ⟨X, 3, none⟩ v3).setCell ⟨X, 4, none⟩ v4).setCell ⟨X, 5, none⟩ v5).setCell ⟨X, 6, none⟩ v6)
theorem set7_heap (w : World) (X R : Nat) (h : R ≠ X) (v0 v1 v2 v3 v4 v5 v6 : Value) : (set7 w X v0 v1 v2 v3 v4 v5 v6).heap[R]? = w.heap[R]? := by
  unfold set7
  iterate 7 rw [Below.heap_setCell _ _ _ _ (by exact h)]
theorem But.set7 {R X : Nat} {w w1 : World} (h : But R w w1) (hX : w.heap.size ≤ X) (v0 v1 v2 v3 v4 v5 v6 : Value) : But R w (set7 w1 X v0 v1 v2 v3 v4 v5 v6) :=
  ((((((h.setCell (p := ⟨X, 0, none⟩) (.inr hX) v0).setCell (p := ⟨X, 1, none⟩) (.inr hX) v1).setCell (p := ⟨X, 2, none⟩) (.inr hX) v2).setCell (p := ⟨X, 3, none⟩) (.inr hX) v3).setCell (p := ⟨X, 4, none⟩) (.inr hX) v4).setCell (p := ⟨X, 5, none⟩) (.inr hX) v5).setCell (p := ⟨X, 6, none⟩) (.inr hX) v6
theorem also2_some {α : Type} {o : Option (α × List UInt8)} {x : (α × Nat) × Nat} {r : List UInt8} (h : also (also o pNum) pNum = some (x, r)) : ∃ r0 r1, o = some (x.1.1, r0) ∧ pNum r0 = some (x.1.2, r1) ∧ pNum r1 = some (x.2, r) := by
  unfold also at h
  cases o with
  | none => cases h
  | some a =>
    obtain ⟨a, r0⟩ := a
    simp only [Option.bind_some] at h
    cases h1 : pNum r0 with
    | none => rw [h1] at h; cases h
    | some b =>
      obtain ⟨b, r1⟩ := b
      rw [h1] at h
      simp only [Option.bind_some] at h
      cases h2 : pNum r1 with
      | none => rw [h2] at h; cases h
      | some c =>
        obtain ⟨c, r2⟩ := c
        rw [h2] at h
        cases h
        exact ⟨r0, r1, rfl, h1, h2⟩
theorem also2_none {α : Type} {o : Option (α × List UInt8)} (h : also (also o pNum) pNum = none) : o = none ∨ ∃ a r0, o = some (a, r0) ∧ (pNum r0 = none ∨ ∃ b r1, pNum r0 = some (b, r1) ∧ pNum r1 = none) := by
  unfold also at h
  cases o with
  | none => exact .inl rfl
  | some a =>
    obtain ⟨a, r0⟩ := a
    refine .inr ⟨a, r0, rfl, ?_⟩
    simp only [Option.bind_some] at h
    cases h1 : pNum r0 with
    | none => exact .inl rfl
    | some b =>
      obtain ⟨b, r1⟩ := b
      rw [h1] at h
      simp only [Option.bind_some] at h
      cases h2 : pNum r1 with
      | none => exact .inr ⟨b, r1, rfl, h2⟩
      | some c => rw [h2] at h; cases h
theorem set7_blk {w : World} {X : Nat} {f : Nat → ByteArray} {h h' : Bool} {s s' : Int} (hK : Blk w X 47 (entBox f h s)) : Blk (set7 w X (.string (f 0)) (.string (f 1)) (.string (f 2)) (.string (f 3)) (.string (f 4)) (.bool h') (.int .i64 s')) X 47 (entBox f h' s') := by
  have e : (((((((entBox f h s).setIfInBounds 0 (.string (f 0))).setIfInBounds 1 (.string (f 1))).setIfInBounds 2 (.string (f 2))).setIfInBounds 3 (.string (f 3))).setIfInBounds 4 (.string (f 4))).setIfInBounds 5 (.bool h')).setIfInBounds 6 (.int .i64 s') = entBox f h' s' := by
    unfold entBox
    simp only [List.setIfInBounds_toArray, List.set_cons_zero, List.set_cons_succ]
  unfold set7
  rw [← e]
  exact ((((((hK.set_ 0 _).set_ 1 _).set_ 2 _).set_ 3 _).set_ 4 _).set_ 5 _).set_ 6 _
theorem entry_ret {Q : Ending → World → Prop} {a : Act} {W : World} {X : Nat} {f : Nat → ByteArray} {h : Bool} {s : Int} (ha : a.tmps.getD 2 undef = .pointer (some ⟨X, 0, none⟩)) (hd : a.defers = []) (hK : Blk W X 47 (entBox f h s))
    (hQ : Q (.returned (.agg (entBox f h s))) W) : bodyPost Try.prog Try.f68 Q .ret a W := by
  have p0 : W.cell? ⟨X, 0, none⟩ = some (.string (f 0)) := hK.cell 0
  have p1 : W.cell? ⟨X, 1, none⟩ = some (.string (f 1)) := hK.cell 1
  have p2 : W.cell? ⟨X, 2, none⟩ = some (.string (f 2)) := hK.cell 2
  have p3 : W.cell? ⟨X, 3, none⟩ = some (.string (f 3)) := hK.cell 3
  have p4 : W.cell? ⟨X, 4, none⟩ = some (.string (f 4)) := hK.cell 4
  have p5 : W.cell? ⟨X, 5, none⟩ = some (.bool h) := hK.cell 5
  have p6 : W.cell? ⟨X, 6, none⟩ = some (.int .i64 s) := hK.cell 6
  refine bodyPost_ret (v := .agg (entBox f h s)) ?_ hd hQ
  obtain ⟨tm, df⟩ := a
  dsimp only at ha ⊢
  have ha' : tm[2]?.getD undef = .pointer (some ⟨X, 0, none⟩) := by simpa using ha
  simp [results, Try.results68, go_sem, p0, p1, p2, p3, p4, p5, p6, entBox, ha']
theorem entry_none {bad : Bool} {l : List UInt8} {oe : Option (Ent × List UInt8)} {f : (List ByteArray × Bool) × List UInt8 → Option (Ent × List UInt8)} {o : Option ((List ByteArray × Bool) × List UInt8)} (h : oe = o.bind f) (ho : o = none) : oe = none := by rw [h, ho]; rfl

set_option maxHeartbeats 2000000 in
theorem entry_got (w : World) (R : Nat) (l : List UInt8) (bad : Bool) (hR : Rl w R l bad) :
    Calls Try.prog 68 #[.pointer (some ⟨R, 0, none⟩)] w (Got R w (goes pEntry bad l) (fun x => .agg (entCells x).toArray) fun v => ∃ x : Ent, v = .agg (entCells x).toArray) := by
  have hi := hide (ptr_index w.heap.size)
  have HX := hide (show w.heap.size ≠ R from fun e => by have := Blk.lt hR; omega)
  obtain ⟨oe, hoe⟩ : ∃ o, goes pEntry bad l = o := ⟨_, rfl⟩
  have HO := hide (hoe.symm.trans (entry_goes bad l))
  rw [hoe]
  clear hoe
  have HR0 := hide hR
  clear hR
  go_enter Try.func68, Try.ntmps68
  go_wp2
  have HK := hide (Blk.new w 47 (entBox (fun _ => ⟨#[]⟩) false 0))
  have HB := hide ((But.refl R w).alloc (.cells (entBox (fun _ => ⟨#[]⟩) false 0) 47))
  have HS : Hid (At5 (w.alloc (.cells (entBox (fun _ => ⟨#[]⟩) false 0) 47)) R (goes (pTexts 0) bad l) 0 (fun _ => ⟨#[]⟩)) := by
    have h := HR0.out
    cases bad
    · exact ⟨Blk.alloc h _, rfl, fun j hj => absurd hj (by omega)⟩
    · exact ⟨l, Blk.alloc h _⟩
  go_loopg [16] 5 (fun g vi wr => ∃ (k : Nat) (f : Nat → ByteArray), g = 5 - k ∧ k ≤ 5 ∧ vi = .int .i64 k ∧ At5 wr R (goes (pTexts k) bad l) k f ∧ Blk wr w.heap.size 47 (entBox f false 0) ∧ But R w wr)
  case atStart => exact ⟨0, fun _ => ⟨#[]⟩, rfl, by omega, rfl, HS.out, HK.out, HB.out⟩
  case round =>
    obtain ⟨k, f0, hg, hk, rfl, hs, k0, ht⟩ := hrel
    have Hg := hide hg
    have K0 := hide k0
    have HS := hide hs
    have Ht := hide ht
    clear hg hs ht HK HB k0
    by_cases hlt : k < 5
    · have ix := hi.out k hlt
      have HC := hide (text_step wr R k _ f0 HS.out)
      have hbe := entBox_at f0 false 0 k hlt
      have Hbe := hide hbe
      clear hbe
      go_wp2_with (go_at_call 66; refine HC.out.mono ?_; rintro e w1 ⟨t, rfl, hb1, hs1⟩; replace K0 := hide (hb1.blk K0.out HX.out); have Hs1 := hide hs1; have Ht1 := hide (Ht.out.trans hb1); clear hs1 hb1; have q := (K0.out.cell k).trans Hbe.out; have f := K0.out.frozen k)
      have HF := hide f
      clear f
      have HAt := hide (show At5 (w1.setCell ⟨w.heap.size, k, none⟩ (.string t)) R (goes (pTexts (k + 1)) bad l) (k + 1) (fun j => if j = k then t else f0 j) by
        rw [pTexts_goes]
        exact (Hs1.out).keep (Below.heap_setCell _ _ _ _ HX.out.symm))
      have K2 := hide (show Blk (w1.setCell ⟨w.heap.size, k, none⟩ (.string t)) w.heap.size 47 (entBox (fun j => if j = k then t else f0 j) false 0) by
        rw [← entBox_set _ _ _ _ hlt]; exact K0.out.set_ k _)
      go_roundg (5 - (k + 1))
      case measure => have := Hg.out; omega
      case rel => exact ⟨k + 1, _, rfl, by omega, by go_num, HAt.out, K2.out, (Ht1.out).setCell (.inr (Nat.le_refl _)) _⟩
    · have hk5 : k = 5 := by omega
      subst hk5
      have S5 := hide (HS.out.st)
      clear HS Hg hk hlt
      go_wp2_with fail
      refine (flag_step _ _ _ S5.out).mono ?_
      rintro e w6 ⟨h, rfl, -, hb, s6⟩
      replace K0 := hide (hb.blk K0.out HX.out)
      have B6 := hide (Ht.out.trans hb)
      clear hb S5 Ht
      have p0 : w6.cell? ⟨w.heap.size, 0, none⟩ = some (.string (f0 0)) := K0.out.cell 0
      have p1 : w6.cell? ⟨w.heap.size, 1, none⟩ = some (.string (f0 1)) := K0.out.cell 1
      have p2 : w6.cell? ⟨w.heap.size, 2, none⟩ = some (.string (f0 2)) := K0.out.cell 2
      have p3 : w6.cell? ⟨w.heap.size, 3, none⟩ = some (.string (f0 3)) := K0.out.cell 3
      have p4 : w6.cell? ⟨w.heap.size, 4, none⟩ = some (.string (f0 4)) := K0.out.cell 4
      have p5 : w6.cell? ⟨w.heap.size, 5, none⟩ = some (.bool false) := K0.out.cell 5
      have p6 : w6.cell? ⟨w.heap.size, 6, none⟩ = some (.int .i64 0) := K0.out.cell 6
      have r0 := K0.out.frozen 0
      have r1 := K0.out.frozen 1
      have r2 := K0.out.frozen 2
      have r3 := K0.out.frozen 3
      have r4 := K0.out.frozen 4
      have r5 := K0.out.frozen 5
      have r6 := K0.out.frozen 6
      have s7 := s6.keep (w' := w6.setCell ⟨w.heap.size, 5, none⟩ (.bool h)) (Below.heap_setCell _ _ _ _ HX.out.symm)
      have K1 := hide (show Blk (w6.setCell ⟨w.heap.size, 5, none⟩ (.bool h)) w.heap.size 47 (entBox f0 h 0) from K0.out.set_ 5 _)
      have B7 := hide ((B6.out).setCell (p := ⟨w.heap.size, 5, none⟩) (.inr (Nat.le_refl _)) (.bool h))
      clear s6 B6
      have S7 := hide s7
      clear s7
      obtain ⟨o6, ho6⟩ : ∃ o, also (goes (pTexts 5) bad l) pFlag = o := ⟨_, rfl⟩
      rw [ho6] at S7 HO
      clear ho6
      cases h
      · go_wp2
        refine entry_ret rfl rfl (set7_blk K1.out) ?_
        have S8 := S7.out.keep (set7_heap _ w.heap.size R HX.out.symm (.string (f0 0)) (.string (f0 1)) (.string (f0 2)) (.string (f0 3)) (.string (f0 4)) (.bool false) (.int .i64 0))
        have B8 := B7.out.set7 (Nat.le_refl _) (.string (f0 0)) (.string (f0 1)) (.string (f0 2)) (.string (f0 3)) (.string (f0 4)) (.bool false) (.int .i64 0)
        have e := HO.out
        cases o6 with
        | none => subst e; exact ⟨B8, ⟨_, rfl, entBox_some _ _ _⟩, S8⟩
        | some q =>
          obtain ⟨⟨ts, h⟩, r⟩ := q
          obtain ⟨hl, ⟨_, hf⟩, rfl⟩ := S8
          subst e
          exact ⟨B8, by rw [entBox_ent hf], hl⟩
      · go_wp2_with fail
        have HP := hide (show ∀ ts h' r0, o6 = some ((ts, h'), r0) → h' = true from by
          intro ts h' r0 h
          have := S7.out
          rw [h] at this
          exact this.2.2)
        refine (num_step _ _ _ S7.out).mono ?_
        rintro e w8 ⟨lo, rfl, hlo, hb, s8⟩
        replace K1 := hide (hb.blk K1.out HX.out)
        have B8 := hide (B7.out.trans hb)
        clear hb S7 B7
        go_wp2_with fail
        refine (num_step _ _ _ s8).mono ?_
        rintro e w9 ⟨hi, rfl, hhi, hb, s9⟩
        replace K1 := hide (hb.blk K1.out HX.out)
        have B9 := hide (B8.out.trans hb)
        clear hb s8 B8
        clear p0 p1 p2 p3 p4 p5 p6 r0 r1 r2 r3 r4 r5 r6
        have p0 : w9.cell? ⟨w.heap.size, 0, none⟩ = some (.string (f0 0)) := K1.out.cell 0
        have p1 : w9.cell? ⟨w.heap.size, 1, none⟩ = some (.string (f0 1)) := K1.out.cell 1
        have p2 : w9.cell? ⟨w.heap.size, 2, none⟩ = some (.string (f0 2)) := K1.out.cell 2
        have p3 : w9.cell? ⟨w.heap.size, 3, none⟩ = some (.string (f0 3)) := K1.out.cell 3
        have p4 : w9.cell? ⟨w.heap.size, 4, none⟩ = some (.string (f0 4)) := K1.out.cell 4
        have p5 : w9.cell? ⟨w.heap.size, 5, none⟩ = some (.bool true) := K1.out.cell 5
        have p6 : w9.cell? ⟨w.heap.size, 6, none⟩ = some (.int .i64 0) := K1.out.cell 6
        have r0 := K1.out.frozen 0
        have r1 := K1.out.frozen 1
        have r2 := K1.out.frozen 2
        have r3 := K1.out.frozen 3
        have r4 := K1.out.frozen 4
        have r5 := K1.out.frozen 5
        have r6 := K1.out.frozen 6
        obtain ⟨lr, hrl⟩ := s9.rl
        have d1 := hrl.cell 1
        have g1 := hrl.frozen 1
        have hne := HX.out
        have hne' := HX.out.symm
        have S9 := hide s9
        clear s9 hrl
        obtain ⟨o8, ho8⟩ : ∃ o, also (also o6 pNum) pNum = o := ⟨_, rfl⟩
        rw [ho8] at S9 d1
        have hm : bits .and .i64 (hi : Int) 255 = ((hi % 256 : Nat) : Int) := by rw [i64_mask _ 8 (by omega) (by omega) (by omega) 255 (by rfl)]; omega
        have hm2 : hi % 256 < 256 := by omega
        obtain ⟨m, hmm⟩ : ∃ m, hi % 256 = m := ⟨_, rfl⟩
        rw [hmm] at hm hm2
        have Hmm := hide hmm
        clear hmm
        have HE := HO.out
        clear HO
        cases o8 with
        | none =>
          have d1' : w9.cell? ⟨R, 1, none⟩ = some (.bool true) := d1
          have HN : Hid (o6 = none ∨ ∃ h' ts r0, o6 = some ((ts, h'), r0) ∧ (pNum r0 = none ∨ ∃ b r1, pNum r0 = some (b, r1) ∧ pNum r1 = none)) := by
            rcases also2_none ho8 with h | ⟨⟨a, b⟩, r0, h1, h2⟩
            · exact .inl h
            · exact .inr ⟨b, a, r0, h1, h2⟩
          have HE := hide HE
          clear d1 ho8
          go_wp2
          refine entry_ret rfl rfl (set7_blk ((K1.out.far hne _).set_ 6 _)) ?_
          have hoe : oe = none := by
            rw [HE.out]
            rcases HN.out with h | ⟨h', ts, r0, h, h2⟩
            · rw [h]; rfl
            · have := HP.out ts h' r0 h
              subst this
              rw [h]
              rcases h2 with h2 | ⟨b, r1, h2, h3⟩
              · simp [h2]
              · simp [h2, h3]
          have hB := (((B9.out).setCell (p := ⟨R, 1, none⟩) (.inl rfl) (.bool true)).setCell (p := ⟨w.heap.size, 6, none⟩) (.inr (Nat.le_refl _)) (.int .i64 ((m : Int) * 4294967296 + lo + -62135596800))).set7 (Nat.le_refl _) (.string (f0 0)) (.string (f0 1)) (.string (f0 2)) (.string (f0 3)) (.string (f0 4)) (.bool true) (.int .i64 ((m : Int) * 4294967296 + lo + -62135596800))
          obtain ⟨l', hl'⟩ : ∃ l', Rl w9 R l' true := S9.out
          have hl2 : Rl (w9.setCell ⟨R, 1, none⟩ (.bool true)) R l' true := by have := Blk.set_ hl' 1 (.bool true); unfold Rl Rd; simpa using this
          rw [hoe]
          refine ⟨hB, ⟨_, rfl, entBox_some _ _ _⟩, l', ?_⟩
          exact (set7_heap _ w.heap.size R hne' _ _ _ _ _ _ _).trans ((Below.heap_setCell _ _ _ _ hne').trans hl2)
        | some q =>
          obtain ⟨⟨⟨⟨ts, h'⟩, lo'⟩, hi'⟩, r⟩ := q
          obtain ⟨hl', ⟨⟨⟨_, hf⟩, hh⟩, hlo'⟩, hhi'⟩ := S9.out
          dsimp only at hf hh hlo' hhi'
          subst hh hlo' hhi'
          obtain ⟨r0, r1, h6, h7, h8⟩ := also2_some ho8
          dsimp only at h6 h7 h8
          have d1' : w9.cell? ⟨R, 1, none⟩ = some (.bool false) := d1
          rw [h6] at HE
          simp only [Option.bind_some, h7, h8, if_true] at HE
          by_cases h256 : hi' < 256
          · have hd : decide ((256 : Int) ≤ hi') = false := by simp; omega
            have hoe : oe = _ := HE.trans (if_pos h256)
            have Hoe := hide hoe
            have hmh : m = hi' := by have := Hmm.out; omega
            have Hmh := hide hmh
            have HF := hide hf
            have HL := hide hl'
            clear hoe hmh hf hl' HE d1 ho8 h6 h7 h8 S9 HP
            go_wp2
            refine entry_ret rfl rfl (set7_blk ((K1.out.far hne _).set_ 6 _)) ?_
            have hB := (((B9.out).setCell (p := ⟨R, 1, none⟩) (.inl rfl) (.bool false)).setCell (p := ⟨w.heap.size, 6, none⟩) (.inr (Nat.le_refl _)) (.int .i64 ((m : Int) * 4294967296 + lo' + -62135596800))).set7 (Nat.le_refl _) (.string (f0 0)) (.string (f0 1)) (.string (f0 2)) (.string (f0 3)) (.string (f0 4)) (.bool true) (.int .i64 ((m : Int) * 4294967296 + lo' + -62135596800))
            have hl2 : Rl (w9.setCell ⟨R, 1, none⟩ (.bool false)) R r false := by have := Blk.set_ HL.out 1 (.bool false); unfold Rl Rd; simpa using this
            have e := Hoe.out
            rw [← Hmh.out] at e
            rw [e]
            exact ⟨hB, by rw [entBox_ent HF.out], (set7_heap _ w.heap.size R hne' _ _ _ _ _ _ _).trans ((Below.heap_setCell _ _ _ _ hne').trans hl2)⟩
          · have hd : decide ((256 : Int) ≤ hi') = true := by simp; omega
            have hoe : oe = none := HE.trans (if_neg h256)
            have Hoe := hide hoe
            have HL := hide hl'
            clear hoe hf hl' HE d1 ho8 h6 h7 h8 S9 HP
            go_wp2
            refine entry_ret rfl rfl (set7_blk ((K1.out.far hne _).set_ 6 _)) ?_
            have hB := (((B9.out).setCell (p := ⟨R, 1, none⟩) (.inl rfl) (.bool true)).setCell (p := ⟨w.heap.size, 6, none⟩) (.inr (Nat.le_refl _)) (.int .i64 ((m : Int) * 4294967296 + lo' + -62135596800))).set7 (Nat.le_refl _) (.string (f0 0)) (.string (f0 1)) (.string (f0 2)) (.string (f0 3)) (.string (f0 4)) (.bool true) (.int .i64 ((m : Int) * 4294967296 + lo' + -62135596800))
            have hl2 : Rl (w9.setCell ⟨R, 1, none⟩ (.bool true)) R r true := by have := Blk.set_ HL.out 1 (.bool true); unfold Rl Rd; simpa using this
            rw [Hoe.out]
            refine ⟨hB, ⟨_, rfl, entBox_some _ _ _⟩, r, ?_⟩
            exact (set7_heap _ w.heap.size R hne' _ _ _ _ _ _ _).trans ((Below.heap_setCell _ _ _ _ hne').trans hl2)
end Go.Proofs.Ytlkkmgimjjnhjaa
namespace Go.Proofs.Ytlkkmgimjjnhjaa
open Go.RowKit Rec

/-- The document's reader at block R: the text, where it stands, whether it is bad. -/
def Qd (w : World) (R : Nat) (s : ByteArray) (p : Nat) (bad : Bool) : Prop := Blk w R 71 #[.string s, .int .i64 (p : Int), .bool bad]
/-- What is left is l. -/
def Ql (w : World) (R : Nat) (s : ByteArray) (l : List UInt8) (bad : Bool) : Prop := ∃ p, p ≤ s.size ∧ l = s.data.toList.drop p ∧ Qd w R s p bad

theorem But.of_drewN {R : Nat} {w w1 : World} (h : But R w w1) (n : Nat) : But R w (w1.drewN n) := ⟨h.os, h.tape, h.output, h.size, h.block⟩
theorem Qd.bad {w : World} {R : Nat} {s : ByteArray} {p : Nat} {b : Bool} (h : Qd w R s p b) (b' : Bool) : Qd (w.setCell ⟨R, 2, none⟩ (.bool b')) R s p b' := by
  have := Blk.set_ h 2 (.bool b')
  unfold Qd
  simpa using this
theorem Qd.to {w : World} {R : Nat} {s : ByteArray} {p : Nat} {b : Bool} (h : Qd w R s p b) (p' : Nat) : Qd (w.setCell ⟨R, 1, none⟩ (.int .i64 (p' : Int))) R s p' b := by
  have := Blk.set_ h 1 (.int .i64 (p' : Int))
  unfold Qd
  simpa using this
theorem Qd.drewN {w : World} {R : Nat} {s : ByteArray} {p : Nat} {b : Bool} (h : Qd w R s p b) (n : Nat) : Qd (w.drewN n) R s p b := h
theorem Ql.bad? {w : World} {R : Nat} {s : ByteArray} {l : List UInt8} {b : Bool} (h : Ql w R s l b) : ∃ p : Nat, w.cell? ⟨R, 2, none⟩ = some (.bool b) ∧ p = 0 := by
  obtain ⟨p, _, _, hq⟩ := h; exact ⟨0, Blk.cell hq 2, rfl⟩
theorem Ql.drewN {w : World} {R : Nat} {s : ByteArray} {l : List UInt8} {b : Bool} (h : Ql w R s l b) (n : Nat) : Ql (w.drewN n) R s l b := h
theorem Ql.spoil {w : World} {R : Nat} {s : ByteArray} {l : List UInt8} {b : Bool} (h : Ql w R s l b) (b' : Bool) : Ql (w.setCell ⟨R, 2, none⟩ (.bool b')) R s l b' := by
  obtain ⟨p, h1, h2, hq⟩ := h; exact ⟨p, h1, h2, hq.bad b'⟩
theorem Ql.frozen {w : World} {R : Nat} {s : ByteArray} {l : List UInt8} {b : Bool} (h : Ql w R s l b) (k : Nat) : w.frozen? ⟨R, k, none⟩ = false := by
  obtain ⟨p, h1, h2, hq⟩ := h; exact Blk.frozen hq k
theorem bstr_cut (s : ByteArray) (p n : Nat) : s.extract p (p + n) = bstr ((s.data.toList.drop p).take n) := by
  unfold bstr
  rw [ByteArray.ext_iff]
  apply Array.toList_inj.1
  simp

set_option maxHeartbeats 1000000 in
theorem qtake_bad (n : Nat) (w : World) (R : Nat) (s : ByteArray) (p : Nat) (bad : Bool) (hR : Qd w R s p bad) (hp : p ≤ s.size) (hs : s.size ≤ 1000000000) (hn : n ≤ 1000000000000) (h : bad = true ∨ s.size - p < n) :
    Calls Try.prog 39 #[.pointer (some ⟨R, 0, none⟩), .int .i64 n] w fun e w' => e = .returned (.string ⟨#[]⟩) ∧ Qd w' R s p true ∧ But R w w' := by
  have q0 := hR.cell 0
  have q1 := hR.cell 1
  have q2 := hR.cell 2
  have f2 := hR.frozen 2
  have HR := hide hR
  clear hR
  cases bad
  · have h' : decide ((s.size : Int) - p < n) = true := by simp at h ⊢; omega
    have hw : IntKind.i64.wrap ((s.size : Int) - p) = (s.size : Int) - p := IntWalk.i64_in _ (by omega)
    have h0 : decide ((n : Int) < 0) = false := by simp
    clear h hs hn hp
    go_enter Try.func39, Try.ntmps39
    go_wp2
    go_quiet (fail)
    go_wp2
    go_ret
    exact ⟨rfl, (HR.out.drewN _).bad true, ((But.refl R w).of_drewN _).setCell (.inl rfl) _⟩
  · clear h hs hn hp
    go_enter Try.func39, Try.ntmps39
    go_wp2
    go_quiet (fail)
    go_wp2
    go_ret
    exact ⟨rfl, (HR.out.drewN _).bad true, ((But.refl R w).of_drewN _).setCell (.inl rfl) _⟩

set_option maxHeartbeats 1000000 in
theorem qtake_ok (n : Nat) (w : World) (R : Nat) (s : ByteArray) (p : Nat) (hR : Qd w R s p false) (hp : p + n ≤ s.size) (hs : s.size ≤ 1000000000) :
    Calls Try.prog 39 #[.pointer (some ⟨R, 0, none⟩), .int .i64 n] w fun e w' => e = .returned (.string (s.extract p (p + n))) ∧ Qd w' R s (p + n) false ∧ But R w w' := by
  have q0 := hR.cell 0
  have q1 := hR.cell 1
  have q2 := hR.cell 2
  have f1 := hR.frozen 1
  have HR := hide hR
  clear hR
  have h' : decide ((s.size : Int) - p < n) = false := by simp; omega
  have hw : IntKind.i64.wrap ((s.size : Int) - p) = (s.size : Int) - p := IntWalk.i64_in _ (by omega)
  have h0 : decide ((n : Int) < 0) = false := by simp
  obtain ⟨m, hm⟩ : ∃ m, p + n = m := ⟨_, rfl⟩
  have hw2 : IntKind.i64.wrap ((p : Int) + n) = (m : Int) := by rw [← hm]; exact IntWalk.i64_in _ (by omega)
  have hw2' : (p : Int) + n = (m : Int) := by omega
  have hw3 : IntKind.i64.wrap ((m : Int) - n) = (p : Int) := by rw [← hm, IntWalk.i64_in _ (by omega)]; omega
  have hm1 : m ≤ s.size := by omega
  have hm2 : p ≤ m := by omega
  have hpn : (p : Int) ≤ 1000000000 := by omega
  have hnn : (n : Int) ≤ 1000000000 := by omega
  rw [hm]
  clear hm hs hp
  go_enter Try.func39, Try.ntmps39
  go_wp2
  go_quiet (fail)
  go_wp2
  go_quiet (fail)
  go_wp2
  go_ret
  exact ⟨rfl, ((HR.out.drewN _).to _).drewN _, (((But.refl R w).of_drewN _).setCell (.inl rfl) _).of_drewN _⟩

theorem qtake_no (n : Nat) (w : World) (R : Nat) (s : ByteArray) (l : List UInt8) (bad : Bool) (hR : Ql w R s l bad) (hs : s.size ≤ 1000000000) (hn : n ≤ 1000000000000) (h : bad = true ∨ l.length < n) :
    Calls Try.prog 39 #[.pointer (some ⟨R, 0, none⟩), .int .i64 n] w fun e w' => e = .returned (.string ⟨#[]⟩) ∧ Ql w' R s l true ∧ But R w w' := by
  obtain ⟨p, hp, rfl, hq⟩ := hR
  refine (qtake_bad n w R s p bad hq hp hs hn (by simpa using h)).mono ?_
  rintro e w' ⟨h1, h2, h3⟩
  exact ⟨h1, ⟨p, hp, rfl, h2⟩, h3⟩
theorem qtake_yes (n : Nat) (w : World) (R : Nat) (s : ByteArray) (l : List UInt8) (hR : Ql w R s l false) (hs : s.size ≤ 1000000000) (h : n ≤ l.length) :
    Calls Try.prog 39 #[.pointer (some ⟨R, 0, none⟩), .int .i64 n] w fun e w' => e = .returned (.string (bstr (l.take n))) ∧ Ql w' R s (l.drop n) false ∧ But R w w' := by
  obtain ⟨p, hp, rfl, hq⟩ := hR
  have hn : p + n ≤ s.size := by simp at h; omega
  refine (qtake_ok n w R s p hq hn hs).mono ?_
  rintro e w' ⟨h1, h2, h3⟩
  rw [bstr_cut] at h1
  exact ⟨h1, ⟨p + n, hn, by rw [List.drop_drop], h2⟩, h3⟩

theorem list4 (t : List UInt8) (h : t.length = 4) : ∃ a b c d, t = [a, b, c, d] := by
  match t, h with
  | [a, b, c, d], _ => exact ⟨a, b, c, d, rfl⟩
theorem index_byte' (l : List UInt8) (k : Nat) (h : k < l.length) (i : Int) (hi : i = k) (w : World) : (Instr.index 9 (.string (bstr l)) (.int .i64 i)).run Try.prog w = .ok (.int .u8 ((l[k].toNat : Nat) : Int)) w := by
  subst hi; exact index_byte l k h w

set_option maxHeartbeats 2000000 in
theorem qnumber_ok (w : World) (R : Nat) (s : ByteArray) (l : List UInt8) (hR : Ql w R s l false) (hs : s.size ≤ 1000000000) (h : 4 ≤ l.length) :
    Calls Try.prog 40 #[.pointer (some ⟨R, 0, none⟩)] w fun e w' => e = .returned (.int .i64 (leN (l.take 4))) ∧ Ql w' R s (l.drop 4) false ∧ But R w w' := by
  have HT := hide (show Calls Try.prog 39 #[.pointer (some ⟨R, 0, none⟩), .int .i64 4] w fun e w' => e = .returned (.string (bstr (l.take 4))) ∧ Ql w' R s (l.drop 4) false ∧ But R w w' from qtake_yes 4 w R s l hR hs h)
  obtain ⟨a, b, c, d, ht⟩ := list4 (l.take 4) (by simp; omega)
  rw [ht] at HT ⊢
  have i0 := index_byte' [a, b, c, d] 0 (by simp) 0 rfl
  have i1 := index_byte' [a, b, c, d] 1 (by simp) 1 rfl
  have i2 := index_byte' [a, b, c, d] 2 (by simp) 2 rfl
  have i3 := index_byte' [a, b, c, d] 3 (by simp) 3 rfl
  simp only [List.getElem_cons_zero, List.getElem_cons_succ] at i0 i1 i2 i3
  have hz : (bstr [a, b, c, d]).size = 4 := bstr_size _
  have a1 : a.toNat < 256 := a.toNat_lt
  have b1 : b.toNat < 256 := b.toNat_lt
  have c1 : c.toNat < 256 := c.toNat_lt
  have d1 : d.toNat < 256 := d.toNat_lt
  have HL := hide (show leN [a, b, c, d] = a.toNat + b.toNat * 256 + c.toNat * 65536 + d.toNat * 16777216 by simp only [leN]; omega)
  generalize bstr [a, b, c, d] = t at *
  generalize leN [a, b, c, d] = m at *
  generalize a.toNat = a at *
  generalize b.toNat = b at *
  generalize c.toNat = c at *
  generalize d.toNat = d at *
  clear ht h hR hs
  go_enter Try.func40, Try.ntmps40
  go_wp2_with fail
  refine HT.out.mono ?_
  rintro e w1 ⟨rfl, hr, hb⟩
  obtain ⟨_, q2, _⟩ := hr.bad?
  have HR1 := hide hr
  have HB1 := hide hb
  clear hr hb
  go_wp2
  go_quiet (fail)
  go_wp2
  go_ret
  exact ⟨ret_eq1 (int_eq (by rw [HL.out]; omega)), (HR1.out).drewN _, (HB1.out).of_drewN _⟩

set_option maxHeartbeats 1000000 in
theorem qnumber_no (w : World) (R : Nat) (s : ByteArray) (l : List UInt8) (bad : Bool) (hR : Ql w R s l bad) (hs : s.size ≤ 1000000000) (h : bad = true ∨ l.length < 4) :
    Calls Try.prog 40 #[.pointer (some ⟨R, 0, none⟩)] w fun e w' => e = .returned (.int .i64 0) ∧ Ql w' R s l true ∧ But R w w' := by
  have HT := hide (show Calls Try.prog 39 #[.pointer (some ⟨R, 0, none⟩), .int .i64 4] w fun e w' => e = .returned (.string ⟨#[]⟩) ∧ Ql w' R s l true ∧ But R w w' from qtake_no 4 w R s l bad hR hs (by omega) h)
  clear h hR hs
  go_enter Try.func40, Try.ntmps40
  go_wp2_with fail
  refine HT.out.mono ?_
  rintro e w1 ⟨rfl, hr, hb⟩
  obtain ⟨_, q2, _⟩ := hr.bad?
  have HR1 := hide hr
  have HB1 := hide hb
  clear hr hb
  go_wp2
  go_ret
  exact ⟨rfl, HR1.out, HB1.out⟩

/-- What a read leaves, of the document's reader. -/
def GotQ {α : Type} (R : Nat) (s : ByteArray) (w : World) (o : Option (α × List UInt8)) (val : α → Value) (shape : Value → Prop) (e : Ending) (w' : World) : Prop :=
  But R w w' ∧ match o with
    | some (a, r) => e = .returned (val a) ∧ Ql w' R s r false
    | none => (∃ v, e = .returned v ∧ shape v) ∧ ∃ l', Ql w' R s l' true
theorem GotQ.no {α : Type} {R : Nat} {s : ByteArray} {w : World} {val : α → Value} {shape : Value → Prop} {e : Ending} {w' : World} (h : GotQ R s w none val shape e w') : But R w w' ∧ (∃ v, e = .returned v ∧ shape v) ∧ ∃ l', Ql w' R s l' true := h
theorem GotQ.yes {α : Type} {R : Nat} {s : ByteArray} {w : World} {a : α} {r : List UInt8} {val : α → Value} {shape : Value → Prop} {e : Ending} {w' : World} (h : GotQ R s w (some (a, r)) val shape e w') : But R w w' ∧ e = .returned (val a) ∧ Ql w' R s r false := h

theorem GotQ.cast {α : Type} {R : Nat} {s : ByteArray} {w : World} {o o' : Option (α × List UInt8)} {val : α → Value} {shape : Value → Prop} {e : Ending} {w' : World} (h : o = o') (k : GotQ R s w o' val shape e w') : GotQ R s w o val shape e w' := h ▸ k

theorem goes_num (bad : Bool) (l : List UInt8) : (bad = true ∨ l.length < 4) ∧ goes pNum bad l = none ∨ bad = false ∧ 4 ≤ l.length ∧ goes pNum bad l = some (leN (l.take 4), l.drop 4) := by
  unfold goes pNum
  cases bad
  · by_cases h : 4 ≤ l.length
    · right; simp [h]
    · left; simp [h]; omega
  · left; simp
theorem qnum_got (w : World) (R : Nat) (s : ByteArray) (l : List UInt8) (bad : Bool) (hR : Ql w R s l bad) (hs : s.size ≤ 1000000000) :
    Calls Try.prog 40 #[.pointer (some ⟨R, 0, none⟩)] w (GotQ R s w (goes pNum bad l) (fun n => .int .i64 (n : Nat)) fun v => v = .int .i64 0) := by
  rcases goes_num bad l with ⟨h, e⟩ | ⟨rfl, h, e⟩
  · rw [e]
    exact (qnumber_no w R s l bad hR hs h).mono fun e w' ⟨h1, h2, h3⟩ => ⟨h3, ⟨_, h1, rfl⟩, _, h2⟩
  · rw [e]
    exact (qnumber_ok w R s l hR hs h).mono fun e w' ⟨h1, h2, h3⟩ => ⟨h3, h1, h2⟩
def pTake (n : Nat) : Par ByteArray := fun l => if n ≤ l.length then some (bstr (l.take n), l.drop n) else none
theorem qtake_got (n : Nat) (w : World) (R : Nat) (s : ByteArray) (l : List UInt8) (bad : Bool) (hR : Ql w R s l bad) (hs : s.size ≤ 1000000000) (hn : n ≤ 1000000000000) :
    Calls Try.prog 39 #[.pointer (some ⟨R, 0, none⟩), .int .i64 n] w (GotQ R s w (goes (pTake n) bad l) (fun t => .string t) fun v => v = .string ⟨#[]⟩) := by
  by_cases h : bad = true ∨ l.length < n
  · have e : goes (pTake n) bad l = none := by
      unfold goes pTake
      cases bad
      · simp at h; simp [h]
      · rfl
    rw [e]
    exact (qtake_no n w R s l bad hR hs hn h).mono fun e w' ⟨h1, h2, h3⟩ => ⟨h3, ⟨_, h1, rfl⟩, _, h2⟩
  · have hb : bad = false := by cases bad <;> simp_all
    subst hb
    simp at h
    have e : goes (pTake n) false l = some (bstr (l.take n), l.drop n) := by unfold goes pTake; simp [h]
    rw [e]
    exact (qtake_yes n w R s l hR hs h).mono fun e w' ⟨h1, h2, h3⟩ => ⟨h3, h1, h2⟩
theorem goes_text (bad : Bool) (l : List UInt8) : goes pText bad l = (goes pNum bad l).bind fun (n, r) => pTake n r := by
  unfold goes pText pTake; cases bad <;> rfl
theorem goes_bind {α β : Type} (o : Option (α × List UInt8)) (p : α → Par β) : (o.bind fun (n, r) => p n r) = match o with | none => none | some (n, r) => goes (p n) false r := by
  cases o <;> rfl

set_option maxHeartbeats 1000000 in
theorem qtext_got (w : World) (R : Nat) (s : ByteArray) (l : List UInt8) (bad : Bool) (hR : Ql w R s l bad) (hs : s.size ≤ 1000000000) :
    Calls Try.prog 41 #[.pointer (some ⟨R, 0, none⟩)] w (GotQ R s w (goes pText bad l) (fun t => .string t) fun v => v = .string ⟨#[]⟩) := by
  have HN := hide (qnum_got w R s l bad hR hs)
  have hgt := goes_text bad l
  have hlt : ∀ n r, goes pNum bad l = some (n, r) → n < 4294967296 := by
    intro n r h
    unfold goes at h
    cases bad
    · exact pNum_lt h
    · cases h
  obtain ⟨o, ho⟩ : ∃ o, goes pNum bad l = o := ⟨_, rfl⟩
  rw [ho] at HN hgt hlt
  rw [hgt]
  clear ho hgt hR
  have Hs := hide hs
  clear hs
  cases o with
  | none =>
    clear hlt
    go_enter Try.func41, Try.ntmps41
    go_wp2_with fail
    refine HN.out.mono ?_
    intro e w1 hg
    obtain ⟨hb, ⟨v, rfl, rfl⟩, l', hr⟩ := hg.no
    have HT := hide (qtake_got 0 w1 R s l' true hr Hs.out (by omega))
    have HB1 := hide hb
    clear hr hb hg
    go_wp2_with fail
    refine HT.out.mono ?_
    intro e w2 hg
    obtain ⟨hb, ⟨v, rfl, rfl⟩, l', hr⟩ := GotQ.no (show GotQ R s w1 none _ _ e w2 from hg)
    have HR2 := hide hr
    have HB2 := hide (HB1.out.trans hb)
    clear hr hb hg
    go_wp2
    go_ret
    exact ⟨HB2.out, ⟨_, rfl, rfl⟩, _, HR2.out⟩
  | some q =>
    obtain ⟨n, r⟩ := q
    have hn := hlt n r rfl
    clear hlt
    have Hn := hide hn
    clear hn
    go_enter Try.func41, Try.ntmps41
    go_wp2_with fail
    refine HN.out.mono ?_
    intro e w1 hg
    obtain ⟨hb, rfl, hr⟩ := hg.yes
    have HT := hide (qtake_got n w1 R s r false hr Hs.out (by have := Hn.out; omega))
    have HB1 := hide hb
    clear hr hb hg
    go_wp2_with fail
    refine HT.out.mono ?_
    intro e w2 hg
    have hg' : GotQ R s w1 (pTake n r) (fun t => .string t) (fun v => v = .string ⟨#[]⟩) e w2 := hg
    cases ht : pTake n r with
    | none =>
      rw [ht] at hg'
      obtain ⟨hb, ⟨v, rfl, rfl⟩, l', hr⟩ := hg'.no
      have HR2 := hide hr
      have HB2 := hide (HB1.out.trans hb)
      have Ht := hide ht
      clear hr hb hg hg' ht
      go_wp2
      go_ret
      exact GotQ.cast Ht.out ⟨HB2.out, ⟨_, rfl, rfl⟩, _, HR2.out⟩
    | some q =>
      obtain ⟨t, r'⟩ := q
      rw [ht] at hg'
      obtain ⟨hb, rfl, hr⟩ := hg'.yes
      have HR2 := hide hr
      have HB2 := hide (HB1.out.trans hb)
      have Ht := hide ht
      clear hr hb hg hg' ht
      go_wp2
      go_ret
      exact GotQ.cast Ht.out ⟨HB2.out, rfl, HR2.out⟩
end Go.Proofs.Ytlkkmgimjjnhjaa
