/- The program's reader: a record. (Printed by wip/genRecRd.py.) -/
import Derived.Test.YtlkkmgimjjnhjaaMA19
set_option linter.unusedSimpArgs false
set_option linter.unusedVariables false
namespace Go.Proofs.Ytlkkmgimjjnhjaa
open Go.RowKit Rec
attribute [local go_sem ↓] Go.wp_at_zero Go.wp_at_succ

/-- A pointer that lies from block B on. -/
def Above (B : Nat) (A : Option Addr) : Prop := ∀ a, A = some a → B ≤ a.block
theorem above_none (B : Nat) : Above B none := fun _ h => by cases h
theorem above_own {w : World} {B e size n c : Nat} {A : Option Addr} {xs : List Value} (h : w.ownsRow B e size (.slice A n c) n xs) : Above B A := by
  intro a ha
  subst ha
  rcases h.2 with ⟨h1, _⟩ | ⟨g, cap, cur, h1, h2, _⟩
  · cases h1
  · cases h1; exact h2
/-- A pointer into a row of such elements. -/
def Typed (w : World) (A : Option Addr) (t : TypeId) : Prop := ∀ a, A = some a → IsT w a.block t
theorem typed_none (w : World) (t : TypeId) : Typed w none t := fun _ h => by cases h
theorem typed_own {w : World} {B e size n c : Nat} {A : Option Addr} {xs : List Value} (h : w.ownsRow B e size (.slice A n c) n xs) : Typed w A e := by
  intro a ha
  subst ha
  rcases h.2 with ⟨h1, _⟩ | ⟨g, cap, cur, h1, _, h2, _⟩
  · cases h1
  · cases h1; exact ⟨_, _, h2⟩
theorem Typed.below {w w' : World} {A : Option Addr} {t : TypeId} (h : Typed w A t) (hb : Below w.heap.size w w') : Typed w' A t := fun a ha => by
  obtain ⟨cs, fr, hh⟩ := h a ha
  exact ⟨cs, fr, (hb.block _ (Array.getElem?_eq_some_iff.1 hh).1).trans hh⟩
theorem Typed.setCell {w : World} {A : Option Addr} {t : TypeId} (h : Typed w A t) (p : Addr) (u : Value) : Typed (w.setCell p u) A t := fun a ha => isT_setCell (h a ha)
/-- What 'read' leaves. -/
def ReadP (w : World) (R : Nat) (op : Option (Rcd × List UInt8)) (e : Ending) (w' : World) : Prop :=
  ∃ (r : Rcd) (A : Option Addr) (c : Nat) (A' : Option Addr) (c' : Nat), e = .returned (.agg (rcdCells r A c A' c')) ∧ But R w w' ∧ St w' R op (fun x => x = r) ∧
    Reads w' w'.heap.size 7 A r.entries.length (ents r.entries) ∧ Reads w' w'.heap.size 8 A' r.kept.length (kpts r.kept) ∧ Above w.heap.size A ∧ Above w.heap.size A' ∧ Typed w' A 47 ∧ Typed w' A' 64
def ReadQ (w : World) (R : Nat) (l : List UInt8) (e : Ending) (w' : World) : Prop := ReadP w R (pRcd l) e w'

/-- A record's box. -/
def rbox (k g : Int) (u i : ByteArray) (b : Bool) (e : Value) (s : ByteArray) (q : Value) : Array Value := #[.int .i8 k, .int .i64 g, .string u, .string i, .bool b, e, .string s, q]
def set8 (w : World) (X : Nat) (v0 v1 v2 v3 v4 v5 v6 v7 : Value) : World := ((((((((w.setCell ⟨X, 0, none⟩ v0).setCell ⟨X, 1, none⟩ v1).setCell ⟨X, 2, none⟩ v2).setCell ⟨X, 3, none⟩ v3).setCell ⟨X, 4, none⟩ v4).setCell ⟨X, 5, none⟩ v5).setCell ⟨X, 6, none⟩ v6).setCell ⟨X, 7, none⟩ v7)
theorem set8_heap (w : World) (X R : Nat) (h : R ≠ X) (v0 v1 v2 v3 v4 v5 v6 v7 : Value) : (set8 w X v0 v1 v2 v3 v4 v5 v6 v7).heap[R]? = w.heap[R]? := by
  unfold set8
  iterate 8 rw [Below.heap_setCell _ _ _ _ (by exact h)]
theorem set8_size (w : World) (X : Nat) (v0 v1 v2 v3 v4 v5 v6 v7 : Value) : (set8 w X v0 v1 v2 v3 v4 v5 v6 v7).heap.size = w.heap.size := by
  unfold set8
  simp [World.setCell]
theorem But.set8 {R X : Nat} {w w1 : World} (h : But R w w1) (hX : w.heap.size ≤ X) (v0 v1 v2 v3 v4 v5 v6 v7 : Value) : But R w (set8 w1 X v0 v1 v2 v3 v4 v5 v6 v7) :=
  (((((((h.setCell (p := ⟨X, 0, none⟩) (.inr hX) v0).setCell (p := ⟨X, 1, none⟩) (.inr hX) v1).setCell (p := ⟨X, 2, none⟩) (.inr hX) v2).setCell (p := ⟨X, 3, none⟩) (.inr hX) v3).setCell (p := ⟨X, 4, none⟩) (.inr hX) v4).setCell (p := ⟨X, 5, none⟩) (.inr hX) v5).setCell (p := ⟨X, 6, none⟩) (.inr hX) v6).setCell (p := ⟨X, 7, none⟩) (.inr hX) v7
theorem set8_blk {w : World} {X : Nat} {k k' g g' : Int} {u u' i i' s s' : ByteArray} {b b' : Bool} {e e' q q' : Value} (hK : Blk w X 28 (rbox k g u i b e s q)) :
    Blk (set8 w X (.int .i8 k') (.int .i64 g') (.string u') (.string i') (.bool b') e' (.string s') q') X 28 (rbox k' g' u' i' b' e' s' q') := by
  have h : ((((((((rbox k g u i b e s q).setIfInBounds 0 (.int .i8 k')).setIfInBounds 1 (.int .i64 g')).setIfInBounds 2 (.string u')).setIfInBounds 3 (.string i')).setIfInBounds 4 (.bool b')).setIfInBounds 5 e').setIfInBounds 6 (.string s')).setIfInBounds 7 q' = rbox k' g' u' i' b' e' s' q' := by
    unfold rbox
    simp only [List.setIfInBounds_toArray, List.set_cons_zero, List.set_cons_succ]
  unfold set8
  rw [← h]
  exact (((((((hK.set_ 0 _).set_ 1 _).set_ 2 _).set_ 3 _).set_ 4 _).set_ 5 _).set_ 6 _).set_ 7 _
theorem rb0 {w : World} {X : Nat} {k g : Int} {u i s : ByteArray} {b : Bool} {e q : Value} (hK : Blk w X 28 (rbox k g u i b e s q)) (z : Int) : Blk (w.setCell ⟨X, 0, none⟩ (.int .i8 z)) X 28 (rbox z g u i b e s q) := by
  have h : (rbox k g u i b e s q).setIfInBounds 0 (.int .i8 z) = rbox z g u i b e s q := by
    unfold rbox
    simp only [List.setIfInBounds_toArray, List.set_cons_zero, List.set_cons_succ]
  rw [← h]
  exact hK.set_ 0 _
theorem rb1 {w : World} {X : Nat} {k g : Int} {u i s : ByteArray} {b : Bool} {e q : Value} (hK : Blk w X 28 (rbox k g u i b e s q)) (z : Int) : Blk (w.setCell ⟨X, 1, none⟩ (.int .i64 z)) X 28 (rbox k z u i b e s q) := by
  have h : (rbox k g u i b e s q).setIfInBounds 1 (.int .i64 z) = rbox k z u i b e s q := by
    unfold rbox
    simp only [List.setIfInBounds_toArray, List.set_cons_zero, List.set_cons_succ]
  rw [← h]
  exact hK.set_ 1 _
theorem rb2 {w : World} {X : Nat} {k g : Int} {u i s : ByteArray} {b : Bool} {e q : Value} (hK : Blk w X 28 (rbox k g u i b e s q)) (z : ByteArray) : Blk (w.setCell ⟨X, 2, none⟩ (.string z)) X 28 (rbox k g z i b e s q) := by
  have h : (rbox k g u i b e s q).setIfInBounds 2 (.string z) = rbox k g z i b e s q := by
    unfold rbox
    simp only [List.setIfInBounds_toArray, List.set_cons_zero, List.set_cons_succ]
  rw [← h]
  exact hK.set_ 2 _
theorem rb3 {w : World} {X : Nat} {k g : Int} {u i s : ByteArray} {b : Bool} {e q : Value} (hK : Blk w X 28 (rbox k g u i b e s q)) (z : ByteArray) : Blk (w.setCell ⟨X, 3, none⟩ (.string z)) X 28 (rbox k g u z b e s q) := by
  have h : (rbox k g u i b e s q).setIfInBounds 3 (.string z) = rbox k g u z b e s q := by
    unfold rbox
    simp only [List.setIfInBounds_toArray, List.set_cons_zero, List.set_cons_succ]
  rw [← h]
  exact hK.set_ 3 _
theorem rb4 {w : World} {X : Nat} {k g : Int} {u i s : ByteArray} {b : Bool} {e q : Value} (hK : Blk w X 28 (rbox k g u i b e s q)) (z : Bool) : Blk (w.setCell ⟨X, 4, none⟩ (.bool z)) X 28 (rbox k g u i z e s q) := by
  have h : (rbox k g u i b e s q).setIfInBounds 4 (.bool z) = rbox k g u i z e s q := by
    unfold rbox
    simp only [List.setIfInBounds_toArray, List.set_cons_zero, List.set_cons_succ]
  rw [← h]
  exact hK.set_ 4 _
theorem rb5 {w : World} {X : Nat} {k g : Int} {u i s : ByteArray} {b : Bool} {e q : Value} (hK : Blk w X 28 (rbox k g u i b e s q)) (z : Value) : Blk (w.setCell ⟨X, 5, none⟩ z) X 28 (rbox k g u i b z s q) := by
  have h : (rbox k g u i b e s q).setIfInBounds 5 z = rbox k g u i b z s q := by
    unfold rbox
    simp only [List.setIfInBounds_toArray, List.set_cons_zero, List.set_cons_succ]
  rw [← h]
  exact hK.set_ 5 _
theorem rb6 {w : World} {X : Nat} {k g : Int} {u i s : ByteArray} {b : Bool} {e q : Value} (hK : Blk w X 28 (rbox k g u i b e s q)) (z : ByteArray) : Blk (w.setCell ⟨X, 6, none⟩ (.string z)) X 28 (rbox k g u i b e z q) := by
  have h : (rbox k g u i b e s q).setIfInBounds 6 (.string z) = rbox k g u i b e z q := by
    unfold rbox
    simp only [List.setIfInBounds_toArray, List.set_cons_zero, List.set_cons_succ]
  rw [← h]
  exact hK.set_ 6 _
theorem rb7 {w : World} {X : Nat} {k g : Int} {u i s : ByteArray} {b : Bool} {e q : Value} (hK : Blk w X 28 (rbox k g u i b e s q)) (z : Value) : Blk (w.setCell ⟨X, 7, none⟩ z) X 28 (rbox k g u i b e s z) := by
  have h : (rbox k g u i b e s q).setIfInBounds 7 z = rbox k g u i b e s z := by
    unfold rbox
    simp only [List.setIfInBounds_toArray, List.set_cons_zero, List.set_cons_succ]
  rw [← h]
  exact hK.set_ 7 _
theorem _root_.Go.World.ownsRow.kept_but {w w' : World} {R X e size n : Nat} {v : Value} {xs : List Value} (h : w.ownsRow X e size v n xs) (hb : But R w w') (hx : X ≠ R) (hl : R < X) : w'.ownsRow X e size v n xs :=
  h.kept (row := some R) ⟨hb.os, hb.tape, hb.output, hb.size, fun k hk hne => hb.block k hk (fun e => hne (by rw [e]))⟩ (by
    rcases h.2 with ⟨rfl, _⟩ | ⟨g, cap, cur, rfl, hg, _⟩
    · exact .inl rfl
    · refine .inr ?_
      simp [Value.ownBlock]
      omega)
theorem But.grown {R : Nat} {w w1 w' : World} (h : But R w w1) {row : Option Nat} (hg : w1.grownBy w' row) (hr : ∀ k, row = some k → w.heap.size ≤ k) : But R w w' :=
  ⟨hg.os.trans h.os, hg.tape.trans h.tape, hg.output.trans h.output, Nat.le_trans h.size hg.size, fun k hk hne => (hg.block k (Nat.lt_of_lt_of_le hk h.size) (fun e => by have := hr k e.symm; omega)).trans (h.block k hk hne)⟩
theorem Typed.set8 {w : World} {A : Option Addr} {t : TypeId} (h : Typed w A t) (X : Nat) (v0 v1 v2 v3 v4 v5 v6 v7 : Value) : Typed (set8 w X v0 v1 v2 v3 v4 v5 v6 v7) A t :=
  (((((((h.setCell _ _).setCell _ _).setCell _ _).setCell _ _).setCell _ _).setCell _ _).setCell _ _).setCell _ _
theorem own_set8 {w : World} {X : Nat} {base e size n : Nat} {v : Value} {xs : List Value} (ho : w.ownsRow base e size v n xs) (hx : v.ownBlock ≠ some X) (v0 v1 v2 v3 v4 v5 v6 v7 : Value) : (set8 w X v0 v1 v2 v3 v4 v5 v6 v7).ownsRow base e size v n xs := by
  unfold set8
  exact ownsRow_setCell_other (ownsRow_setCell_other (ownsRow_setCell_other (ownsRow_setCell_other (ownsRow_setCell_other (ownsRow_setCell_other (ownsRow_setCell_other (ownsRow_setCell_other ho (a := ⟨X, 0, none⟩) hx _) (a := ⟨X, 1, none⟩) hx _) (a := ⟨X, 2, none⟩) hx _) (a := ⟨X, 3, none⟩) hx _) (a := ⟨X, 4, none⟩) hx _) (a := ⟨X, 5, none⟩) hx _) (a := ⟨X, 6, none⟩) hx _) (a := ⟨X, 7, none⟩) hx _
theorem read_ret {Q : Ending → World → Prop} {a : Act} {W : World} {X : Nat} {k g : Int} {u i s : ByteArray} {b : Bool} {e q : Value} (ha : a.tmps.getD 2 undef = .pointer (some ⟨X, 0, none⟩)) (hd : a.defers = []) (hK : Blk W X 28 (rbox k g u i b e s q))
    (hQ : Q (.returned (.agg (rbox k g u i b e s q))) W) : bodyPost Try.prog Try.f38 Q .ret a W := by
  have p0 : W.cell? ⟨X, 0, none⟩ = some (.int .i8 k) := hK.cell 0
  have p1 : W.cell? ⟨X, 1, none⟩ = some (.int .i64 g) := hK.cell 1
  have p2 : W.cell? ⟨X, 2, none⟩ = some (.string u) := hK.cell 2
  have p3 : W.cell? ⟨X, 3, none⟩ = some (.string i) := hK.cell 3
  have p4 : W.cell? ⟨X, 4, none⟩ = some (.bool b) := hK.cell 4
  have p5 : W.cell? ⟨X, 5, none⟩ = some e := hK.cell 5
  have p6 : W.cell? ⟨X, 6, none⟩ = some (.string s) := hK.cell 6
  have p7 : W.cell? ⟨X, 7, none⟩ = some q := hK.cell 7
  refine bodyPost_ret (v := .agg (rbox k g u i b e s q)) ?_ hd hQ
  obtain ⟨tm, df⟩ := a
  dsimp only at ha ⊢
  have ha' : tm[2]?.getD undef = .pointer (some ⟨X, 0, none⟩) := by simpa using ha
  simp [results, Try.results38, go_sem, p0, p1, p2, p3, p4, p5, p6, p7, rbox, ha']
/-- The state behind the kind. -/
def afterKind (c : UInt8) (l : List UInt8) : Option (Unit × List UInt8) := if decide (6 < c.toNat) then none else some ((), l)
theorem rcd_after (c : UInt8) (l : List UInt8) (k : Nat) (hk : c.toNat % 128 = k) : pRcd (c :: l) = (afterKind c l).bind fun x => pBody k x.2 := by
  unfold afterKind pRcd
  by_cases h : 6 < c.toNat
  · rw [if_pos (by simpa using h)]
    show pBody c.toNat l = none
    unfold pBody
    have h0 : ¬ c.toNat = 0 := by omega
    have h1 : ¬ (c.toNat = 1 ∨ c.toNat = 2) := by omega
    have h3 : ¬ c.toNat = 3 := by omega
    have h4 : ¬ c.toNat = 4 := by omega
    have h5 : ¬ c.toNat = 5 := by omega
    have h6 : ¬ c.toNat = 6 := by omega
    rw [if_neg h0, if_neg h1, if_neg h3, if_neg h4, if_neg h5, if_neg h6]
  · rw [if_neg (by simpa using h)]
    have : c.toNat = k := by omega
    show pBody c.toNat l = pBody k l
    rw [this]
theorem St.mapf {α β : Type} {w : World} {R : Nat} {o : Option (α × List UInt8)} {P : α → Prop} {Q : β → Prop} (f : α → β) (h : St w R o P) (hf : ∀ a, P a → Q (f a)) : St w R (o.map fun x => (f x.1, x.2)) Q := by
  cases o with
  | none => exact h
  | some x => exact ⟨h.1, hf _ h.2⟩
section
variable {α : Type} (oa : Option (α × List UInt8))
theorem body0 : (oa.bind fun x => pBody 0 x.2) = (also oa pNum).map fun x => (rec0 x.1.2, x.2) := by
  cases oa with
  | none => rfl
  | some x => simp only [also, pBody, Option.bind_some]; cases pNum x.2 <;> rfl
theorem body1 : (oa.bind fun x => pBody 1 x.2) = (also oa pText).map fun x => (rec1 1 x.1.2, x.2) := by
  cases oa with
  | none => rfl
  | some x => simp only [also, pBody, Option.bind_some]; cases pText x.2 <;> rfl
theorem body2 : (oa.bind fun x => pBody 2 x.2) = (also oa pText).map fun x => (rec1 2 x.1.2, x.2) := by
  cases oa with
  | none => rfl
  | some x => simp only [also, pBody, Option.bind_some]; cases pText x.2 <;> rfl
theorem body4 : (oa.bind fun x => pBody 4 x.2) = (also (also (also oa pText) pText) pFlag).map fun x => (rec4 x.1.1.1.2 x.1.1.2 x.1.2, x.2) := by
  cases oa with
  | none => rfl
  | some x =>
    simp only [also, pBody, Option.bind_some]
    cases pText x.2 with
    | none => rfl
    | some y =>
      simp only [Option.bind_some]
      show (pText y.2).bind _ = _
      cases pText y.2 with
      | none => rfl
      | some z =>
        simp only [Option.bind_some]
        cases pFlag z.2 <;> rfl
theorem body6 : (oa.bind fun x => pBody 6 x.2) = oa.map fun x => (rec1 6 ⟨#[]⟩, x.2) := by
  cases oa <;> rfl
theorem body3 (u : ByteArray) (N : Nat) (h : ∀ x, also (also oa pText) (pMany 16) = some x → x.1.2 = N) :
    (oa.bind fun x => pBody 3 x.2) = (rep (also (also oa pText) (pMany 16)) pEntry N).map fun x => (rec3 x.1.1.1.2 x.1.2, x.2) := by
  rw [rep_eq]
  cases oa with
  | none => rfl
  | some x =>
    simp only [also, pBody, Option.bind_some] at h ⊢
    show (pText x.2).bind _ = _
    cases hy : pText x.2 with
    | none => rfl
    | some y =>
      rw [hy] at h
      simp only [Option.bind_some] at h ⊢
      show (pMany 16 y.2).bind _ = _
      cases hz : pMany 16 y.2 with
      | none => rfl
      | some z =>
        rw [hz] at h
        simp only [Option.bind_some] at h ⊢
        have := h _ rfl
        dsimp only at this
        subst this
        show (pRep pEntry z.1 z.2).bind _ = _
        cases pRep pEntry z.1 z.2 <;> rfl
theorem body5 (u : ByteArray) (N : Nat) (h : ∀ x, also (also oa pText) (pMany 32) = some x → x.1.2 = N) :
    (oa.bind fun x => pBody 5 x.2) = (rep (also (also oa pText) (pMany 32)) pKpt N).map fun x => (rec5 x.1.1.1.2 x.1.2, x.2) := by
  rw [rep_eq]
  cases oa with
  | none => rfl
  | some x =>
    simp only [also, pBody, Option.bind_some] at h ⊢
    show (pText x.2).bind _ = _
    cases hy : pText x.2 with
    | none => rfl
    | some y =>
      rw [hy] at h
      simp only [Option.bind_some] at h ⊢
      show (pMany 32 y.2).bind _ = _
      cases hz : pMany 32 y.2 with
      | none => rfl
      | some z =>
        rw [hz] at h
        simp only [Option.bind_some] at h ⊢
        have := h _ rfl
        dsimp only at this
        subst this
        show (pRep pKpt z.1 z.2).bind _ = _
        cases pRep pKpt z.1 z.2 <;> rfl
end
theorem entry_step' {α : Type} {R : Nat} (w : World) (o : Option (α × List UInt8)) (P : α → Prop) (h : St w R o P) :
    Calls Try.prog 68 #[.pointer (some ⟨R, 0, none⟩)] w fun e w' => ∃ b : Ent, e = .returned (.agg #[.string b.id, .string b.title, .string b.link, .string b.author, .string b.content, .bool b.has, .int .i64 b.sec]) ∧ True ∧ But R w w' ∧ St w' R (also o pEntry) (fun ab => P ab.1 ∧ ab.2 = b) := entry_step w o P h
theorem St.repK {α : Type} {w : World} {R : Nat} {o : Option (α × List UInt8)} {P : α → Prop} {k : Nat} {L : List Kpt} {x : Ent} {b : Bool}
    (h : St w R (also (also (rep o pKpt k) pEntry) pFlag) (fun ab => (fun aa : (α × List Kpt) × Ent => (fun y : α × List Kpt => P y.1 ∧ y.2 = L) aa.1 ∧ aa.2 = x) ab.1 ∧ ab.2 = b)) : St w R (rep o pKpt (k + 1)) (fun y => P y.1 ∧ y.2 = L ++ [⟨x, b⟩]) := by
  refine St.repS (p := pKpt) (b := ⟨x, b⟩) (h.map (fun e => ?_) fun a r e hP => ⟨(a.1.1, ⟨a.1.2, a.2⟩), ?_, hP.1.1, by rw [hP.2, hP.1.2]⟩)
  · unfold also at e ⊢
    cases h1 : rep o pKpt k with
    | none => rfl
    | some y =>
      rw [h1] at e
      simp only [Option.bind_some, pKpt] at e ⊢
      cases h2 : pEntry y.2 with
      | none => rfl
      | some z =>
        rw [h2] at e
        simp only [Option.bind_some] at e ⊢
        cases h3 : pFlag z.2 with
        | none => rfl
        | some q => rw [h3] at e; cases e
  · unfold also at e ⊢
    cases h1 : rep o pKpt k with
    | none => rw [h1] at e; cases e
    | some y =>
      rw [h1] at e
      simp only [Option.bind_some, pKpt] at e ⊢
      cases h2 : pEntry y.2 with
      | none => rw [h2] at e; cases e
      | some z =>
        rw [h2] at e
        simp only [Option.bind_some] at e ⊢
        cases h3 : pFlag z.2 with
        | none => rw [h3] at e; cases e
        | some q => rw [h3] at e; cases e; rfl
theorem own_ne {w : World} {t : TypeId} {g size n base e : Nat} {cs : Array Value} {v : Value} {xs : List Value} (h : w.ownsRow base e size v n xs) (hg : Blk w g t cs) (hne : v.ownBlock ≠ some g) : v.ownBlock ≠ some g := hne
theorem mask127 (n : Nat) (h : n < 256) : bits .and .u8 (n : Int) 127 = ((n % 128 : Nat) : Int) := by rw [u8_mask _ 7 (by omega) (by omega) (by omega) 127 (by rfl)]; omega

set_option maxHeartbeats 2000000 in
theorem read_nil (w : World) (R : Nat) (hR : Rl w R [] false) : Calls Try.prog 38 #[.pointer (some ⟨R, 0, none⟩)] w (ReadQ w R []) := by
  have HX := hide (show w.heap.size ≠ R from fun e => by have := Blk.lt hR; omega)
  have HT := hide fun (o : Obj) => (show Calls Try.prog 64 #[.pointer (some ⟨R, 0, none⟩), .int .i64 1] (w.alloc o) fun e w' => e = .returned (.string ⟨#[]⟩) ∧ Rl w' R [] true ∧ But R (w.alloc o) w' from take_no 1 (w.alloc o) R [] false (Blk.alloc hR o) (.inr (by simp)))
  clear hR
  go_enter Try.func38, Try.ntmps38
  go_wp2_with fail
  refine (HT.out _).mono ?_
  rintro e w1 ⟨rfl, hr, hb⟩
  have K := hide (show Blk w1 w.heap.size 28 (rbox 0 0 ⟨#[]⟩ ⟨#[]⟩ false (.slice none 0 0) ⟨#[]⟩ (.slice none 0 0)) from hb.blk (Blk.new w 28 _) HX.out)
  have B := hide ((But.of_below (below_alloc w _)).trans hb)
  have x0 : w1.cell? ⟨w.heap.size, 0, none⟩ = some (.int .i8 0) := K.out.cell 0
  have x1 : w1.cell? ⟨w.heap.size, 1, none⟩ = some (.int .i64 0) := K.out.cell 1
  have x2 : w1.cell? ⟨w.heap.size, 2, none⟩ = some (.string ⟨#[]⟩) := K.out.cell 2
  have x3 : w1.cell? ⟨w.heap.size, 3, none⟩ = some (.string ⟨#[]⟩) := K.out.cell 3
  have x4 : w1.cell? ⟨w.heap.size, 4, none⟩ = some (.bool false) := K.out.cell 4
  have x5 : w1.cell? ⟨w.heap.size, 5, none⟩ = some (.slice none 0 0) := K.out.cell 5
  have x6 : w1.cell? ⟨w.heap.size, 6, none⟩ = some (.string ⟨#[]⟩) := K.out.cell 6
  have x7 : w1.cell? ⟨w.heap.size, 7, none⟩ = some (.slice none 0 0) := K.out.cell 7
  have f0 := K.out.frozen 0
  have f1 := K.out.frozen 1
  have f2 := K.out.frozen 2
  have f3 := K.out.frozen 3
  have f4 := K.out.frozen 4
  have f5 := K.out.frozen 5
  have f6 := K.out.frozen 6
  have f7 := K.out.frozen 7
  have d1 : w1.cell? ⟨R, 1, none⟩ = some (.bool true) := hr.cell 1
  have HR1 := hide hr
  clear hr hb
  go_wp2
  refine read_ret rfl rfl (set8_blk K.out) ?_
  refine ⟨zeroRcd, none, 0, none, 0, rfl, (B.out).set8 (Nat.le_refl _) _ _ _ _ _ _ _ _, ⟨[], ?_⟩, Reads.none_, Reads.none_, above_none _, above_none _, typed_none _ _, typed_none _ _⟩
  exact (set8_heap _ _ _ HX.out.symm _ _ _ _ _ _ _ _).trans HR1.out
end Go.Proofs.Ytlkkmgimjjnhjaa
