/- The document's reader: flags, counts. · The document's reader: an entry. · A record by a plain parser; append of one element in a region that draws its order. -/
import Derived.Test.YtlkkmgimjjnhjaaMA18
import Derived.Deep.RegionHeld3
import Derived.Deep.AppendLies
set_option linter.unusedSimpArgs false
set_option linter.unusedVariables false
namespace Go.Proofs.Ytlkkmgimjjnhjaa
open Go.RowKit Rec

theorem goes_flag (bad : Bool) (l : List UInt8) : (bad = true ∨ l.length < 1) ∧ goes pFlag bad l = none ∨ bad = false ∧ ∃ c r, l = c :: r ∧ (c.toNat ≤ 1 ∧ goes pFlag bad l = some (decide (c.toNat = 1), r) ∨ 1 < c.toNat ∧ goes pFlag bad l = none) := by
  unfold goes
  cases bad
  · cases l with
    | nil => left; simp [pFlag]
    | cons c r =>
      right
      refine ⟨rfl, c, r, rfl, ?_⟩
      by_cases h : c.toNat ≤ 1
      · left; simp [pFlag, h]
      · right; simp [pFlag, h]; omega
  · left; simp

set_option maxHeartbeats 1000000 in
theorem qflag_got (w : World) (R : Nat) (s : ByteArray) (l : List UInt8) (bad : Bool) (hR : Ql w R s l bad) (hs : s.size ≤ 1000000000) :
    Calls Try.prog 44 #[.pointer (some ⟨R, 0, none⟩)] w (GotQ R s w (goes pFlag bad l) (fun b => .bool b) fun v => ∃ b, v = .bool b) := by
  rcases goes_flag bad l with ⟨h, e⟩ | ⟨rfl, c, r, rfl, he⟩
  · rw [e]
    have HT := hide (show Calls Try.prog 39 #[.pointer (some ⟨R, 0, none⟩), .int .i64 1] w fun e w' => e = .returned (.string ⟨#[]⟩) ∧ Ql w' R s l true ∧ But R w w' from qtake_no 1 w R s l bad hR hs (by omega) h)
    clear e h hR hs
    go_enter Try.func44, Try.ntmps44
    go_wp2_with fail
    refine HT.out.mono ?_
    rintro e w1 ⟨rfl, hr, hb⟩
    obtain ⟨_, q2, _⟩ := hr.bad?
    have f2 := hr.frozen 2
    have HR1 := hide hr
    have HB1 := hide hb
    clear hr hb
    go_wp2
    go_ret
    exact ⟨(HB1.out).setCell (.inl rfl) _, ⟨_, rfl, _, rfl⟩, _, (HR1.out).spoil true⟩
  · have HT := hide (show Calls Try.prog 39 #[.pointer (some ⟨R, 0, none⟩), .int .i64 1] w fun e w' => e = .returned (.string (bstr [c])) ∧ Ql w' R s r false ∧ But R w w' from qtake_yes 1 w R s (c :: r) hR hs (by simp))
    have i0 := index_byte' [c] 0 (by simp) 0 rfl
    simp only [List.getElem_cons_zero] at i0
    have hz : (bstr [c]).size = 1 := bstr_size _
    generalize bstr [c] = t at *
    generalize c.toNat = n at *
    clear hR hs
    rcases he with ⟨hn, e⟩ | ⟨hn, e⟩
    · rw [e]
      have hn' : ((n : Int) == 1) = decide (n = 1) := by rw [Bool.eq_iff_iff]; simp; omega
      have hd : decide (1 < (n : Int)) = false := by simp; omega
      have Hn := hide hn'
      clear e hn hn'
      go_enter Try.func44, Try.ntmps44
      go_wp2_with fail
      refine HT.out.mono ?_
      rintro e w1 ⟨rfl, hr, hb⟩
      obtain ⟨_, q2, _⟩ := hr.bad?
      have f2 := hr.frozen 2
      have HR1 := hide hr
      have HB1 := hide hb
      clear hr hb
      go_wp2
      go_ret
      exact ⟨HB1.out, ret_eq1 (bool_eq (by first | exact Hn.out | (simp; omega))), HR1.out⟩
    · rw [e]
      have hd : decide (1 < (n : Int)) = true := by simp; omega
      clear e hn
      go_enter Try.func44, Try.ntmps44
      go_wp2_with fail
      refine HT.out.mono ?_
      rintro e w1 ⟨rfl, hr, hb⟩
      obtain ⟨_, q2, _⟩ := hr.bad?
      have f2 := hr.frozen 2
      have HR1 := hide hr
      have HB1 := hide hb
      clear hr hb
      go_wp2
      go_ret
      exact ⟨(HB1.out).setCell (.inl rfl) _, ⟨_, rfl, _, rfl⟩, _, (HR1.out).spoil true⟩

theorem goes_many (most : Nat) (bad : Bool) (l : List UInt8) : goes (pMany most) bad l = (goes pNum bad l).bind fun (n, r) => if n ≤ most then some (n, r) else none := by
  unfold goes pMany; cases bad <;> rfl

set_option maxHeartbeats 1000000 in
theorem qmany_got (most : Nat) (w : World) (R : Nat) (s : ByteArray) (l : List UInt8) (bad : Bool) (hR : Ql w R s l bad) (hs : s.size ≤ 1000000000) :
    Calls Try.prog 42 #[.pointer (some ⟨R, 0, none⟩), .int .i64 most] w (GotQ R s w (goes (pMany most) bad l) (fun n => .int .i64 (n : Nat)) fun v => v = .int .i64 0) := by
  have HN := hide (qnum_got w R s l bad hR hs)
  rw [goes_many]
  generalize goes pNum bad l = o at *
  clear hR hs
  cases o with
  | none =>
    have hd : decide ((most : Int) < 0) = false := by simp
    go_enter Try.func42, Try.ntmps42
    go_wp2_with fail
    refine HN.out.mono ?_
    intro e w1 hg
    obtain ⟨hb, ⟨v, rfl, rfl⟩, l', hr⟩ := hg.no
    have HR1 := hide hr
    have HB1 := hide hb
    clear hr hb hg
    go_wp2
    go_ret
    exact ⟨HB1.out, ⟨_, rfl, rfl⟩, _, HR1.out⟩
  | some q =>
    obtain ⟨n, r⟩ := q
    by_cases hn : n ≤ most
    · have hd : decide (most < n) = false := by simp; omega
      have Hn := hide hn
      clear hn
      go_enter Try.func42, Try.ntmps42
      go_wp2_with fail
      refine HN.out.mono ?_
      intro e w1 hg
      obtain ⟨hb, rfl, hr⟩ := hg.yes
      have HR1 := hide hr
      have HB1 := hide hb
      clear hr hb hg
      go_wp2
      go_ret
      exact GotQ.cast (if_pos Hn.out) ⟨HB1.out, rfl, HR1.out⟩
    · have hd : decide (most < n) = true := by simp; omega
      have Hn := hide hn
      clear hn
      go_enter Try.func42, Try.ntmps42
      go_wp2_with fail
      refine HN.out.mono ?_
      intro e w1 hg
      obtain ⟨hb, rfl, hr⟩ := hg.yes
      have f2 := hr.frozen 2
      obtain ⟨_, q2, _⟩ := hr.bad?
      have HR1 := hide hr
      have HB1 := hide hb
      clear hr hb hg
      go_wp2
      go_ret
      exact GotQ.cast (if_neg Hn.out) ⟨(HB1.out).setCell (.inl rfl) _, ⟨_, rfl, rfl⟩, _, (HR1.out).spoil true⟩
end Go.Proofs.Ytlkkmgimjjnhjaa
namespace Go.Proofs.Ytlkkmgimjjnhjaa
open Go.RowKit Rec

/-- The document's reader behind a parser: what it has got; or it is bad. -/
def StQ {α : Type} (w : World) (R : Nat) (s : ByteArray) (o : Option (α × List UInt8)) (P : α → Prop) : Prop :=
  match o with
  | some (a, r) => Ql w R s r false ∧ P a
  | none => ∃ l', Ql w R s l' true
theorem StQ.ql {α : Type} {w : World} {R : Nat} {s : ByteArray} {o : Option (α × List UInt8)} {P : α → Prop} (h : StQ w R s o P) : ∃ l, Ql w R s l o.isNone := by
  cases o with
  | none => exact h
  | some p => exact ⟨_, h.1⟩
theorem Ql.lt {w : World} {R : Nat} {s : ByteArray} {l : List UInt8} {b : Bool} (h : Ql w R s l b) : R < w.heap.size := by
  obtain ⟨p, _, _, hq⟩ := h; exact Blk.lt hq
theorem Ql.keep {w w' : World} {R : Nat} {s : ByteArray} {l : List UInt8} {b : Bool} (h : Ql w R s l b) (hk : w'.heap[R]? = w.heap[R]?) : Ql w' R s l b := by
  obtain ⟨p, h1, h2, hq⟩ := h; exact ⟨p, h1, h2, hk.trans hq⟩
theorem StQ.lt {α : Type} {w : World} {R : Nat} {s : ByteArray} {o : Option (α × List UInt8)} {P : α → Prop} (h : StQ w R s o P) : R < w.heap.size := by
  obtain ⟨l, h⟩ := h.ql
  exact h.lt
theorem StQ.keep {α : Type} {w w' : World} {R : Nat} {s : ByteArray} {o : Option (α × List UInt8)} {P : α → Prop} (h : StQ w R s o P) (hk : w'.heap[R]? = w.heap[R]?) : StQ w' R s o P := by
  cases o with
  | none => obtain ⟨l, h⟩ := h; exact ⟨l, h.keep hk⟩
  | some p => exact ⟨h.1.keep hk, h.2⟩
theorem StQ.more {α : Type} {w : World} {R : Nat} {s : ByteArray} {o : Option (α × List UInt8)} {P Q : α → Prop} (h : StQ w R s o P) (hk : ∀ a, P a → Q a) : StQ w R s o Q := by
  cases o with
  | none => exact h
  | some p => exact ⟨h.1, hk _ h.2⟩
theorem StQ.of {α : Type} {w : World} {R : Nat} {s : ByteArray} {bad : Bool} {l : List UInt8} (hR : Ql w R s l bad) (a : α) {P : α → Prop} (hP : P a) : StQ w R s (if bad then none else some (a, l)) P := by
  cases bad
  · exact ⟨hR, hP⟩
  · exact ⟨l, hR⟩
theorem StQ.step {α β : Type} {p : Par β} {val : β → Value} {shape : Value → Prop} {Q : β → Prop} {f : Nat} {args : Array Value} {R : Nat} {s : ByteArray}
    (hc : ∀ w l bad, Ql w R s l bad → Calls Try.prog f args w (GotQ R s w (goes p bad l) val shape))
    (hs : ∀ v, shape v → ∃ b, v = val b ∧ Q b) (hq : ∀ l b r, p l = some (b, r) → Q b) (w : World) (o : Option (α × List UInt8)) (P : α → Prop) (h : StQ w R s o P) :
    Calls Try.prog f args w fun e w' => ∃ b, e = .returned (val b) ∧ Q b ∧ But R w w' ∧ StQ w' R s (also o p) (fun ab => P ab.1 ∧ ab.2 = b) := by
  cases o with
  | none =>
    obtain ⟨l', hl⟩ := h
    refine (hc w l' true hl).mono fun e w' hg => ?_
    obtain ⟨hb, ⟨v, h1, h2⟩, h3⟩ := GotQ.no (show GotQ R s w none _ _ e w' from hg)
    obtain ⟨b, rfl, hb'⟩ := hs v h2
    exact ⟨b, h1, hb', hb, h3⟩
  | some x =>
    obtain ⟨a, r⟩ := x
    obtain ⟨hl, hP⟩ := h
    refine (hc w r false hl).mono fun e w' hg => ?_
    have hg' : GotQ R s w (p r) val shape e w' := hg
    show ∃ b, _ ∧ _ ∧ _ ∧ StQ w' R s (((p r).bind fun y => some ((a, y.1), y.2))) _
    cases ht : p r with
    | none =>
      rw [ht] at hg'
      obtain ⟨hb, ⟨v, h1, h2⟩, h3⟩ := hg'.no
      obtain ⟨b, rfl, hb'⟩ := hs v h2
      exact ⟨b, h1, hb', hb, h3⟩
    | some q =>
      obtain ⟨b, r'⟩ := q
      rw [ht] at hg'
      obtain ⟨hb, h1, h2⟩ := hg'.yes
      exact ⟨b, h1, hq _ _ _ ht, hb, h2, hP, rfl⟩
theorem pMany_le {most : Nat} {l : List UInt8} {n : Nat} {r : List UInt8} (h : pMany most l = some (n, r)) : n ≤ most := by
  unfold pMany at h
  cases hp : pNum l with
  | none => rw [hp] at h; cases h
  | some q =>
    obtain ⟨m, r'⟩ := q
    rw [hp] at h
    simp only [Option.bind_some] at h
    split at h
    · cases h; assumption
    · cases h
section
variable {α : Type} {R : Nat} {s : ByteArray} (hz : s.size ≤ 1000000000) (w : World) (o : Option (α × List UInt8)) (P : α → Prop) (h : StQ w R s o P)
include hz h
theorem qnum_step : Calls Try.prog 40 #[.pointer (some ⟨R, 0, none⟩)] w fun e w' => ∃ b : Nat, e = .returned (.int .i64 b) ∧ b < 4294967296 ∧ But R w w' ∧ StQ w' R s (also o pNum) (fun ab => P ab.1 ∧ ab.2 = b) :=
  StQ.step (fun w l bad h => qnum_got w R s l bad h hz) (fun v h => ⟨0, h, by omega⟩) (fun _ _ _ h => pNum_lt h) w o P h
theorem qflag_step : Calls Try.prog 44 #[.pointer (some ⟨R, 0, none⟩)] w fun e w' => ∃ b : Bool, e = .returned (.bool b) ∧ True ∧ But R w w' ∧ StQ w' R s (also o pFlag) (fun ab => P ab.1 ∧ ab.2 = b) :=
  StQ.step (fun w l bad h => qflag_got w R s l bad h hz) (fun v ⟨b, h⟩ => ⟨b, h, trivial⟩) (fun _ _ _ _ => trivial) w o P h
theorem qtext_step : Calls Try.prog 41 #[.pointer (some ⟨R, 0, none⟩)] w fun e w' => ∃ b : ByteArray, e = .returned (.string b) ∧ True ∧ But R w w' ∧ StQ w' R s (also o pText) (fun ab => P ab.1 ∧ ab.2 = b) :=
  StQ.step (fun w l bad h => qtext_got w R s l bad h hz) (fun v h => ⟨_, h, trivial⟩) (fun _ _ _ _ => trivial) w o P h
theorem qmany_step (most : Nat) : Calls Try.prog 42 #[.pointer (some ⟨R, 0, none⟩), .int .i64 most] w fun e w' => ∃ b : Nat, e = .returned (.int .i64 b) ∧ b ≤ most ∧ But R w w' ∧ StQ w' R s (also o (pMany most)) (fun ab => P ab.1 ∧ ab.2 = b) :=
  StQ.step (fun w l bad h => qmany_got most w R s l bad h hz) (fun v h => ⟨0, h, by omega⟩) (fun l n r h => pMany_le h) w o P h
end

/-- The texts one by one. -/
def al5 (l : Option (Unit × List UInt8)) : Option ((((((Unit × ByteArray) × ByteArray) × ByteArray) × ByteArray) × ByteArray) × List UInt8) := also (also (also (also (also l pText) pText) pText) pText) pText
theorem al5_texts (bad : Bool) (l : List UInt8) : goes (pTexts 5) bad l = (al5 (if bad then none else some ((), l))).map fun x => ([x.1.1.1.1.1.2, x.1.1.1.1.2, x.1.1.1.2, x.1.1.2, x.1.2], x.2) := by
  unfold goes al5 also pTexts pTexts pTexts pTexts pTexts pTexts
  cases bad
  · simp only [Bool.false_eq_true, if_false, Option.bind_some]
    cases pText l with
    | none => rfl
    | some x0 =>
      simp only [Option.bind_some]
      cases pText x0.2 with
      | none => rfl
      | some x1 =>
        simp only [Option.bind_some]
        cases pText x1.2 with
        | none => rfl
        | some x2 =>
          simp only [Option.bind_some]
          cases pText x2.2 with
          | none => rfl
          | some x3 =>
            simp only [Option.bind_some]
            cases pText x3.2 with
            | none => rfl
            | some x4 => rfl
  · rfl
theorem st_texts {w : World} {R : Nat} {s : ByteArray} {bad : Bool} {l : List UInt8} {t0 t1 t2 t3 t4 : ByteArray}
    (h : StQ w R s (al5 (if bad then none else some ((), l))) (fun x => ((((((fun (_ : Unit) => True) x.1.1.1.1.1 ∧ x.1.1.1.1.2 = t0) ∧ x.1.1.1.2 = t1) ∧ x.1.1.2 = t2) ∧ x.1.2 = t3) ∧ x.2 = t4))) :
    StQ w R s (goes (pTexts 5) bad l) (fun ts => ts = [t0, t1, t2, t3, t4]) := by
  rw [al5_texts]
  generalize al5 _ = o at *
  cases o with
  | none => exact h
  | some x =>
    obtain ⟨⟨⟨⟨⟨⟨_, x0⟩, x1⟩, x2⟩, x3⟩, x4⟩, r⟩ := x
    obtain ⟨h, ⟨⟨⟨⟨_, rfl⟩, rfl⟩, rfl⟩, rfl⟩, rfl⟩ := h
    exact ⟨h, rfl⟩

theorem shl32 {P : Program} (b : Nat) (hb : b < 4294967296) (w : World) (hs : b < 256) : (Op.shift .shl .i64 (b : Int) .u64 32).run P w = .ok (.int .i64 ((b * 4294967296 : Nat) : Int)) w := by
  rw [shift_shl_any _ _ _ _ (by omega)]
  have h2 : (2 : Int) ^ (min (32 : Int).toNat IntKind.i64.bits) = ((4294967296 : Nat) : Int) := rfl
  rw [h2, ← Int.natCast_mul]
  rw [show IntKind.i64.wrap ((b * 4294967296 : Nat) : Int) = ((b * 4294967296 : Nat) : Int) from IntWalk.i64_in _ (by omega)]
  rfl

/-- The box of an entry, from its texts. -/
def fv (t0 t1 t2 t3 t4 : ByteArray) (j : Nat) : ByteArray := if j = 0 then t0 else if j = 1 then t1 else if j = 2 then t2 else if j = 3 then t3 else t4
theorem qentry_ret {Q : Ending → World → Prop} {a : Act} {W : World} {X : Nat} {f : Nat → ByteArray} {h : Bool} {s : Int} (ha : a.tmps.getD 2 undef = .pointer (some ⟨X, 0, none⟩)) (hd : a.defers = []) (hK : Blk W X 47 (entBox f h s))
    (hQ : Q (.returned (.agg (entBox f h s))) W) : bodyPost Try.prog Try.f43 Q .ret a W := by
  have p0 : W.cell? ⟨X, 0, none⟩ = some (.string (f 0)) := hK.cell 0
  have p1 : W.cell? ⟨X, 1, none⟩ = some (.string (f 1)) := hK.cell 1
  have p2 : W.cell? ⟨X, 2, none⟩ = some (.string (f 2)) := hK.cell 2
  have p3 : W.cell? ⟨X, 3, none⟩ = some (.string (f 3)) := hK.cell 3
  have p4 : W.cell? ⟨X, 4, none⟩ = some (.string (f 4)) := hK.cell 4
  have p5 : W.cell? ⟨X, 5, none⟩ = some (.bool h) := hK.cell 5
  have p6 : W.cell? ⟨X, 6, none⟩ = some (.int .i64 s) := hK.cell 6
  refine bodyPost_ret (v := .agg (entBox f h s)) ?_ hd hQ
  obtain ⟨tm, df⟩ := a
  dsimp only at ha ⊢
  have ha' : tm[2]?.getD undef = .pointer (some ⟨X, 0, none⟩) := by simpa using ha
  simp [results, Try.results43, go_sem, p0, p1, p2, p3, p4, p5, p6, entBox, ha']
theorem set7_blk' {w : World} {X : Nat} {f f' : Nat → ByteArray} {h h' : Bool} {s s' : Int} (hK : Blk w X 47 (entBox f h s)) : Blk (set7 w X (.string (f' 0)) (.string (f' 1)) (.string (f' 2)) (.string (f' 3)) (.string (f' 4)) (.bool h') (.int .i64 s')) X 47 (entBox f' h' s') := by
  have e : (((((((entBox f h s).setIfInBounds 0 (.string (f' 0))).setIfInBounds 1 (.string (f' 1))).setIfInBounds 2 (.string (f' 2))).setIfInBounds 3 (.string (f' 3))).setIfInBounds 4 (.string (f' 4))).setIfInBounds 5 (.bool h')).setIfInBounds 6 (.int .i64 s') = entBox f' h' s' := by
    unfold entBox
    simp only [List.setIfInBounds_toArray, List.set_cons_zero, List.set_cons_succ]
  unfold set7
  rw [← e]
  exact ((((((hK.set_ 0 _).set_ 1 _).set_ 2 _).set_ 3 _).set_ 4 _).set_ 5 _).set_ 6 _
theorem fv_getD (t0 t1 t2 t3 t4 : ByteArray) : ∀ j, j < 5 → fv t0 t1 t2 t3 t4 j = [t0, t1, t2, t3, t4].getD j ⟨#[]⟩ := by
  intro j hj
  have : j = 0 ∨ j = 1 ∨ j = 2 ∨ j = 3 ∨ j = 4 := by omega
  rcases this with rfl | rfl | rfl | rfl | rfl <;> rfl

set_option maxHeartbeats 2000000 in
theorem qentry_got (w : World) (R : Nat) (s : ByteArray) (l : List UInt8) (bad : Bool) (hR : Ql w R s l bad) (hz : s.size ≤ 1000000000) :
    Calls Try.prog 43 #[.pointer (some ⟨R, 0, none⟩)] w (GotQ R s w (goes pEntry bad l) (fun x => .agg (entCells x).toArray) fun v => ∃ x : Ent, v = .agg (entCells x).toArray) := by
  obtain ⟨oe, hoe⟩ : ∃ o, goes pEntry bad l = o := ⟨_, rfl⟩
  have HO := hide (hoe.symm.trans (entry_goes bad l))
  rw [hoe]
  clear hoe
  have Hz := hide hz
  have H0 := hide (StQ.of hR () (P := fun _ => True) trivial)
  clear hR hz
  go_enter Try.func43, Try.ntmps43
  go_wp2_with fail
  have b0 := (But.refl R w).alloc (.cells #[.string ⟨#[]⟩, .string ⟨#[]⟩, .string ⟨#[]⟩, .string ⟨#[]⟩, .string ⟨#[]⟩, .bool false, .int .i64 0] 47)
  have s0 := H0.out.keep ((below_alloc w (.cells #[.string ⟨#[]⟩, .string ⟨#[]⟩, .string ⟨#[]⟩, .string ⟨#[]⟩, .string ⟨#[]⟩, .bool false, .int .i64 0] 47)).block R H0.out.lt)
  have K0 := hide (Blk.new w 47 #[.string ⟨#[]⟩, .string ⟨#[]⟩, .string ⟨#[]⟩, .string ⟨#[]⟩, .string ⟨#[]⟩, .bool false, .int .i64 0])
  have HX := hide (show w.heap.size ≠ R from fun e => by have := H0.out.lt; omega)
  have HRl := hide H0.out.lt
  have B0 := hide b0
  clear b0 H0
  refine (qtext_step Hz.out _ _ _ s0).mono ?_
  rintro e w1 ⟨t0, rfl, -, hb, s1⟩
  replace K0 := hide (hb.blk K0.out HX.out)
  have B1 := hide (B0.out.trans hb)
  clear hb s0 B0
  go_wp2_with fail
  refine (qtext_step Hz.out _ _ _ s1).mono ?_
  rintro e w2 ⟨t1, rfl, -, hb, s2⟩
  replace K0 := hide (hb.blk K0.out HX.out)
  have B2 := hide (B1.out.trans hb)
  clear hb s1 B1
  go_wp2_with fail
  refine (qtext_step Hz.out _ _ _ s2).mono ?_
  rintro e w3 ⟨t2, rfl, -, hb, s3⟩
  replace K0 := hide (hb.blk K0.out HX.out)
  have B3 := hide (B2.out.trans hb)
  clear hb s2 B2
  go_wp2_with fail
  refine (qtext_step Hz.out _ _ _ s3).mono ?_
  rintro e w4 ⟨t3, rfl, -, hb, s4⟩
  replace K0 := hide (hb.blk K0.out HX.out)
  have B4 := hide (B3.out.trans hb)
  clear hb s3 B3
  go_wp2_with fail
  refine (qtext_step Hz.out _ _ _ s4).mono ?_
  rintro e w5 ⟨t4, rfl, -, hb, s5⟩
  replace K0 := hide (hb.blk K0.out HX.out)
  have B5 := hide (B4.out.trans hb)
  clear hb s4 B4
  have S5 := hide (st_texts s5)
  clear s5
  go_wp2_with fail
  have s6 := S5.out.keep ((below_alloc w5 (.cells #[.string t0, .string t1, .string t2, .string t3, .string t4, .bool false, .int .i64 0] 47)).block R S5.out.lt)
  have K1 := hide (Blk.new w5 47 #[.string t0, .string t1, .string t2, .string t3, .string t4, .bool false, .int .i64 0])
  have B6 := hide (B5.out.alloc (.cells #[.string t0, .string t1, .string t2, .string t3, .string t4, .bool false, .int .i64 0] 47))
  have Hsz := hide B5.out.size
  have B5' := hide (show w.heap.size < w5.heap.size from K0.out.lt)
  obtain ⟨o5, ho5⟩ : ∃ o, goes (pTexts 5) bad l = o := ⟨_, rfl⟩
  rw [ho5] at s6 HO
  clear ho5 S5 B5
  refine (qflag_step Hz.out _ _ _ s6).mono ?_
  rintro e w6 ⟨h, rfl, -, hb, s7⟩
  have HY := hide (show w5.heap.size ≠ R from fun e => by have := HRl.out; have := Hsz.out; omega)
  replace K0 := hide (hb.blk (K0.out.alloc _) HX.out)
  replace K1 := hide (hb.blk K1.out HY.out)
  have B7 := hide (B6.out.trans hb)
  clear hb s6 B6
  have S7 := hide (s7.keep (w' := w6.setCell ⟨w5.heap.size, 5, none⟩ (.bool h)) (Below.heap_setCell _ _ _ _ HY.out.symm))
  have hxy : w.heap.size ≠ w5.heap.size := fun e => by have := B5'.out; omega
  have hyx := hxy.symm
  have hxr := HX.out
  have hrx := HX.out.symm
  have hyr := HY.out
  have hry := HY.out.symm
  have HF := hide (fv_getD t0 t1 t2 t3 t4)
  obtain ⟨o6, ho6⟩ : ∃ o, also o5 pFlag = o := ⟨_, rfl⟩
  rw [ho6] at S7 HO
  have HP := hide (show ∀ ts h' r0, o6 = some ((ts, h'), r0) → ts = [t0, t1, t2, t3, t4] ∧ h' = h from by
    intro ts h' r0 e
    have := S7.out
    rw [e] at this
    exact ⟨this.2.1, this.2.2⟩)
  clear ho6
  cases h
  · have x0 : w6.cell? ⟨w.heap.size, 0, none⟩ = some (.string ⟨#[]⟩) := K0.out.cell 0
    have x1 : w6.cell? ⟨w.heap.size, 1, none⟩ = some (.string ⟨#[]⟩) := K0.out.cell 1
    have x2 : w6.cell? ⟨w.heap.size, 2, none⟩ = some (.string ⟨#[]⟩) := K0.out.cell 2
    have x3 : w6.cell? ⟨w.heap.size, 3, none⟩ = some (.string ⟨#[]⟩) := K0.out.cell 3
    have x4 : w6.cell? ⟨w.heap.size, 4, none⟩ = some (.string ⟨#[]⟩) := K0.out.cell 4
    have x5 : w6.cell? ⟨w.heap.size, 5, none⟩ = some (.bool false) := K0.out.cell 5
    have x6 : w6.cell? ⟨w.heap.size, 6, none⟩ = some (.int .i64 0) := K0.out.cell 6
    have f0 := K0.out.frozen 0
    have f1 := K0.out.frozen 1
    have f2 := K0.out.frozen 2
    have f3 := K0.out.frozen 3
    have f4 := K0.out.frozen 4
    have f5 := K0.out.frozen 5
    have f6 := K0.out.frozen 6
    have y0 : w6.cell? ⟨w5.heap.size, 0, none⟩ = some (.string t0) := K1.out.cell 0
    have y1 : w6.cell? ⟨w5.heap.size, 1, none⟩ = some (.string t1) := K1.out.cell 1
    have y2 : w6.cell? ⟨w5.heap.size, 2, none⟩ = some (.string t2) := K1.out.cell 2
    have y3 : w6.cell? ⟨w5.heap.size, 3, none⟩ = some (.string t3) := K1.out.cell 3
    have y4 : w6.cell? ⟨w5.heap.size, 4, none⟩ = some (.string t4) := K1.out.cell 4
    have y5 : w6.cell? ⟨w5.heap.size, 5, none⟩ = some (.bool false) := K1.out.cell 5
    have y6 : w6.cell? ⟨w5.heap.size, 6, none⟩ = some (.int .i64 0) := K1.out.cell 6
    have g5 := K1.out.frozen 5
    have g6 := K1.out.frozen 6
    go_wp2
    have hK := set7_blk' (f' := fv t0 t1 t2 t3 t4) (h' := false) (s' := 0) (show Blk _ _ _ (entBox (fun _ => ⟨#[]⟩) false 0) from K0.out.far (p := ⟨w5.heap.size, 5, none⟩) hxy (.bool false))
    have S8 := S7.out.keep (set7_heap _ w.heap.size R hrx (.string t0) (.string t1) (.string t2) (.string t3) (.string t4) (.bool false) (.int .i64 0))
    have B8 := ((B7.out).setCell (p := ⟨w5.heap.size, 5, none⟩) (.inr Hsz.out) (.bool false)).set7 (X := w.heap.size) (Nat.le_refl _) (.string t0) (.string t1) (.string t2) (.string t3) (.string t4) (.bool false) (.int .i64 0)
    refine qentry_ret rfl rfl hK ?_
    have e := HO.out
    cases o6 with
    | none => subst e; exact ⟨B8, ⟨_, rfl, entBox_some _ _ _⟩, S8⟩
    | some q =>
      obtain ⟨⟨ts, h⟩, r⟩ := q
      obtain ⟨hl, hts, hh⟩ := S8
      dsimp only at hts hh
      subst hts hh
      subst e
      exact ⟨B8, by rw [entBox_ent HF.out], hl⟩
  · have z5 : w6.cell? ⟨w5.heap.size, 5, none⟩ = some (.bool false) := K1.out.cell 5
    have z6 := K1.out.frozen 5
    go_wp2_with fail
    refine (qnum_step Hz.out _ _ _ S7.out).mono ?_
    rintro e w8 ⟨lo, rfl, hlo, hb, s8⟩
    replace K0 := hide (hb.blk (K0.out.far (p := ⟨w5.heap.size, 5, none⟩) hxy (.bool true)) HX.out)
    replace K1 := hide (hb.blk (K1.out.set_ 5 (.bool true)) HY.out)
    have B8 := hide (((B7.out).setCell (p := ⟨w5.heap.size, 5, none⟩) (.inr Hsz.out) (.bool true)).trans hb)
    clear hb S7 B7
    go_wp2_with fail
    refine (qnum_step Hz.out _ _ _ s8).mono ?_
    rintro e w9 ⟨hi, rfl, hhi, hb, s9⟩
    replace K0 := hide (hb.blk K0.out HX.out)
    replace K1 := hide (show Blk w9 w5.heap.size 47 #[.string t0, .string t1, .string t2, .string t3, .string t4, .bool true, .int .i64 0] from hb.blk K1.out HY.out)
    have B9 := hide (B8.out.trans hb)
    clear hb s8 B8
    have x0 : w9.cell? ⟨w.heap.size, 0, none⟩ = some (.string ⟨#[]⟩) := K0.out.cell 0
    have x1 : w9.cell? ⟨w.heap.size, 1, none⟩ = some (.string ⟨#[]⟩) := K0.out.cell 1
    have x2 : w9.cell? ⟨w.heap.size, 2, none⟩ = some (.string ⟨#[]⟩) := K0.out.cell 2
    have x3 : w9.cell? ⟨w.heap.size, 3, none⟩ = some (.string ⟨#[]⟩) := K0.out.cell 3
    have x4 : w9.cell? ⟨w.heap.size, 4, none⟩ = some (.string ⟨#[]⟩) := K0.out.cell 4
    have x5 : w9.cell? ⟨w.heap.size, 5, none⟩ = some (.bool false) := K0.out.cell 5
    have x6 : w9.cell? ⟨w.heap.size, 6, none⟩ = some (.int .i64 0) := K0.out.cell 6
    have f0 := K0.out.frozen 0
    have f1 := K0.out.frozen 1
    have f2 := K0.out.frozen 2
    have f3 := K0.out.frozen 3
    have f4 := K0.out.frozen 4
    have f5 := K0.out.frozen 5
    have f6 := K0.out.frozen 6
    have y0 : w9.cell? ⟨w5.heap.size, 0, none⟩ = some (.string t0) := K1.out.cell 0
    have y1 : w9.cell? ⟨w5.heap.size, 1, none⟩ = some (.string t1) := K1.out.cell 1
    have y2 : w9.cell? ⟨w5.heap.size, 2, none⟩ = some (.string t2) := K1.out.cell 2
    have y3 : w9.cell? ⟨w5.heap.size, 3, none⟩ = some (.string t3) := K1.out.cell 3
    have y4 : w9.cell? ⟨w5.heap.size, 4, none⟩ = some (.string t4) := K1.out.cell 4
    have y5 : w9.cell? ⟨w5.heap.size, 5, none⟩ = some (.bool true) := K1.out.cell 5
    have y6 : w9.cell? ⟨w5.heap.size, 6, none⟩ = some (.int .i64 0) := K1.out.cell 6
    have g5 := K1.out.frozen 5
    have g6 := K1.out.frozen 6
    obtain ⟨lr, hrl⟩ := s9.ql
    obtain ⟨_, d2, _⟩ := hrl.bad?
    have g2 := hrl.frozen 2
    have S9 := hide s9
    clear s9 hrl
    obtain ⟨o8, ho8⟩ : ∃ o, also (also o6 pNum) pNum = o := ⟨_, rfl⟩
    rw [ho8] at S9 d2
    have HE := HO.out
    clear HO
    by_cases h256 : hi < 256
    · have hd : decide ((255 : Int) < hi) = false := by simp; omega
      have hK := hide fun (v : Int) => set7_blk' (f' := fv t0 t1 t2 t3 t4) (h' := true) (s' := v) (show Blk _ _ _ (entBox (fun _ => ⟨#[]⟩) false 0) from K0.out.far (p := ⟨w5.heap.size, 6, none⟩) hxy (.int .i64 v))
      have hB := hide fun (v : Int) => ((B9.out).setCell (p := ⟨w5.heap.size, 6, none⟩) (.inr Hsz.out) (.int .i64 v)).set7 (X := w.heap.size) (Nat.le_refl _) (.string t0) (.string t1) (.string t2) (.string t3) (.string t4) (.bool true) (.int .i64 v)
      have hS := hide fun (v : Int) => (S9.out.keep (Below.heap_setCell w9 ⟨w5.heap.size, 6, none⟩ (.int .i64 v) R hry)).keep (set7_heap _ w.heap.size R hrx (.string t0) (.string t1) (.string t2) (.string t3) (.string t4) (.bool true) (.int .i64 v))
      have hq : Hid (oe = none ∧ o8 = none ∨ ∃ r, o8 = some (((([t0, t1, t2, t3, t4], true), lo), hi), r) ∧ oe = some (mkEnt [t0, t1, t2, t3, t4] true (hi * 4294967296 + lo + -62135596800), r)) := by
        refine hide ?_
        cases o8 with
        | none =>
          left
          refine ⟨?_, rfl⟩
          rw [HE]
          rcases also2_none ho8 with h | ⟨⟨ts, h'⟩, r0, h, h2⟩
          · rw [h]; rfl
          · obtain ⟨_, e⟩ := HP.out ts h' r0 h
            subst e
            rw [h]
            rcases h2 with h2 | ⟨b, r1, h2, h3⟩
            · simp [h2]
            · simp [h2, h3]
        | some q =>
          right
          obtain ⟨⟨⟨⟨ts, h'⟩, lo'⟩, hi'⟩, r⟩ := q
          obtain ⟨hl', ⟨⟨hts, hh⟩, hlo'⟩, hhi'⟩ := S9.out
          dsimp only at hts hh hlo' hhi'
          subst hts hh hlo' hhi'
          obtain ⟨r0, r1, h6, h7, h8⟩ := also2_some ho8
          dsimp only at h6 h7 h8
          rw [h6] at HE
          simp only [Option.bind_some, h7, h8, if_true] at HE
          exact ⟨r, rfl, HE.trans (if_pos h256)⟩
      have hbd : (hi : Int) < 256 := by omega
      have hlo' : (lo : Int) < 4294967296 := by omega
      clear HE ho8 HP h256 hhi hlo
      go_wp2
      refine qentry_ret rfl rfl (hK.out _) ?_
      rcases hq.out with ⟨h1, h2⟩ | ⟨r, h1, h2⟩
      · rw [h1]
        have := hS.out ((hi : Int) * 4294967296 + lo + -62135596800)
        rw [h2] at this
        exact ⟨hB.out _, ⟨_, rfl, entBox_some _ _ _⟩, this⟩
      · rw [h2]
        have := hS.out ((hi : Int) * 4294967296 + lo + -62135596800)
        rw [h1] at this
        exact ⟨hB.out _, by rw [entBox_ent HF.out], this.1⟩
    · have hd : decide ((255 : Int) < hi) = true := by simp; omega
      have hK := hide (set7_blk' (f' := fv t0 t1 t2 t3 t4) (h' := true) (s' := 0) (show Blk _ _ _ (entBox (fun _ => ⟨#[]⟩) false 0) from K0.out.far (p := ⟨R, 2, none⟩) hxr (.bool true)))
      have hB := hide (((B9.out).setCell (p := ⟨R, 2, none⟩) (.inl rfl) (.bool true)).set7 (X := w.heap.size) (Nat.le_refl _) (.string t0) (.string t1) (.string t2) (.string t3) (.string t4) (.bool true) (.int .i64 0))
      have hq : Hid (oe = none) := by
        refine hide ?_
        rw [HE]
        cases o8 with
        | none =>
          rcases also2_none ho8 with h | ⟨⟨ts, h'⟩, r0, h, h2⟩
          · rw [h]; rfl
          · obtain ⟨_, e⟩ := HP.out ts h' r0 h
            subst e
            rw [h]
            rcases h2 with h2 | ⟨b, r1, h2, h3⟩
            · simp [h2]
            · simp [h2, h3]
        | some q =>
          obtain ⟨⟨⟨⟨ts, h'⟩, lo'⟩, hi'⟩, r⟩ := q
          obtain ⟨hl', ⟨⟨hts, hh⟩, hlo'⟩, hhi'⟩ := S9.out
          dsimp only at hts hh hlo' hhi'
          subst hts hh hlo' hhi'
          obtain ⟨r0, r1, h6, h7, h8⟩ := also2_some ho8
          dsimp only at h6 h7 h8
          rw [h6]
          simp only [Option.bind_some, h7, h8, if_true]
          exact if_neg h256
      have hS := hide (show ∃ l', Ql (set7 (w9.setCell ⟨R, 2, none⟩ (.bool true)) w.heap.size (.string t0) (.string t1) (.string t2) (.string t3) (.string t4) (.bool true) (.int .i64 0)) R s l' true by
        obtain ⟨l', h⟩ := S9.out.ql
        exact ⟨l', (h.spoil true).keep (set7_heap _ w.heap.size R hrx _ _ _ _ _ _ _)⟩)
      clear HE ho8 HP h256 hhi hlo
      go_wp2
      refine qentry_ret rfl rfl hK.out ?_
      rw [hq.out]
      exact ⟨hB.out, ⟨_, rfl, entBox_some _ _ _⟩, hS.out⟩
end Go.Proofs.Ytlkkmgimjjnhjaa
namespace Go.Proofs.Ytlkkmgimjjnhjaa
open Go.RowKit Rec

namespace Rec
/-- So many in a row. -/
def pRep {α : Type} (p : Par α) : Nat → Par (List α)
  | 0 => fun l => some ([], l)
  | k + 1 => fun l => (pRep p k l).bind fun (xs, r) => (p r).bind fun (x, r') => some (xs ++ [x], r')
def pKpt : Par Kpt := fun l => (pEntry l).bind fun (e, r) => (pFlag r).bind fun (b, r) => some (⟨e, b⟩, r)
def rec0 (n : Nat) : Rcd := ⟨0, n, ⟨#[]⟩, ⟨#[]⟩, false, [], ⟨#[]⟩, []⟩
def rec1 (k : Int) (u : ByteArray) : Rcd := ⟨k, 0, u, ⟨#[]⟩, false, [], ⟨#[]⟩, []⟩
def rec3 (u : ByteArray) (es : List Ent) : Rcd := ⟨3, 0, u, ⟨#[]⟩, false, es, ⟨#[]⟩, []⟩
def rec4 (u i : ByteArray) (b : Bool) : Rcd := ⟨4, 0, u, i, b, [], ⟨#[]⟩, []⟩
def rec5 (u : ByteArray) (ks : List Kpt) : Rcd := ⟨5, 0, ⟨#[]⟩, ⟨#[]⟩, false, [], u, ks⟩
/-- A record's fields behind its kind. -/
def pBody (k : Nat) : Par Rcd := fun l =>
  if k = 0 then (pNum l).bind fun (n, r) => some (rec0 n, r)
  else if k = 1 ∨ k = 2 then (pText l).bind fun (u, r) => some (rec1 k u, r)
  else if k = 3 then (pText l).bind fun (u, r) => (pMany 16 r).bind fun (n, r) => (pRep pEntry n r).bind fun (es, r) => some (rec3 u es, r)
  else if k = 4 then (pText l).bind fun (u, r) => (pText r).bind fun (i, r) => (pFlag r).bind fun (b, r) => some (rec4 u i b, r)
  else if k = 5 then (pText l).bind fun (u, r) => (pMany 32 r).bind fun (n, r) => (pRep pKpt n r).bind fun (ks, r) => some (rec5 u ks, r)
  else if k = 6 then some (rec1 6 ⟨#[]⟩, l)
  else none
def pRcd : Par Rcd
  | [] => none
  | c :: l => pBody c.toNat l
end Rec

/-- What a state has got, and so many more. -/
def rep {α β : Type} (o : Option (α × List UInt8)) (p : Par β) : Nat → Option ((α × List β) × List UInt8)
  | 0 => o.map fun x => ((x.1, []), x.2)
  | k + 1 => (rep o p k).bind fun x => (p x.2).bind fun y => some ((x.1.1, x.1.2 ++ [y.1]), y.2)
theorem rep_eq {α β : Type} (o : Option (α × List UInt8)) (p : Par β) (k : Nat) : rep o p k = o.bind fun x => (pRep p k x.2).bind fun y => some ((x.1, y.1), y.2) := by
  induction k with
  | zero => cases o <;> rfl
  | succ k ih =>
    unfold rep
    rw [ih]
    cases o with
    | none => rfl
    | some x =>
      simp only [Option.bind_some, pRep]
      cases pRep p k x.2 with
      | none => rfl
      | some y =>
        simp only [Option.bind_some]
        cases p y.2 <;> rfl
theorem St.map {α β : Type} {w : World} {R : Nat} {o : Option (α × List UInt8)} {P : α → Prop} {o' : Option (β × List UInt8)} {Q : β → Prop} (h : St w R o P) (hn : o = none → o' = none)
    (hs : ∀ a r, o = some (a, r) → P a → ∃ b, o' = some (b, r) ∧ Q b) : St w R o' Q := by
  cases o with
  | none => rw [hn rfl]; exact h
  | some x =>
    obtain ⟨a, r⟩ := x
    obtain ⟨b, e, hq⟩ := hs a r rfl h.2
    rw [e]
    exact ⟨h.1, hq⟩
theorem St.rep0 {α β : Type} {w : World} {R : Nat} {o : Option (α × List UInt8)} {P : α → Prop} {p : Par β} (h : St w R o P) : St w R (rep o p 0) (fun x => P x.1 ∧ x.2 = []) :=
  h.map (fun e => by rw [e]; rfl) fun a r e hP => ⟨(a, []), by rw [e]; rfl, hP, rfl⟩
theorem St.repS {α β : Type} {w : World} {R : Nat} {o : Option (α × List UInt8)} {P : α → Prop} {p : Par β} {k : Nat} {L : List β} {b : β}
    (h : St w R (also (rep o p k) p) (fun ab => (fun x : α × List β => P x.1 ∧ x.2 = L) ab.1 ∧ ab.2 = b)) : St w R (rep o p (k + 1)) (fun x => P x.1 ∧ x.2 = L ++ [b]) := by
  refine h.map (fun e => ?_) fun a r e hP => ?_
  · unfold also at e
    show (rep o p k).bind _ = none
    cases h1 : rep o p k with
    | none => rfl
    | some x =>
      rw [h1] at e
      simp only [Option.bind_some] at e ⊢
      cases h2 : p x.2 with
      | none => rfl
      | some y => rw [h2] at e; cases e
  · unfold also at e
    cases h1 : rep o p k with
    | none => rw [h1] at e; cases e
    | some x =>
      rw [h1] at e
      simp only [Option.bind_some] at e
      cases h2 : p x.2 with
      | none => rw [h2] at e; cases e
      | some y =>
        rw [h2] at e
        cases e
        refine ⟨(x.1.1, x.1.2 ++ [y.1]), by show (rep o p k).bind _ = _; rw [h1]; simp [h2], hP.1.1, ?_⟩
        show x.1.2 ++ [y.1] = _
        rw [show x.1.2 = L from hP.1.2, show y.1 = b from hP.2]
theorem entry_step {α : Type} {R : Nat} (w : World) (o : Option (α × List UInt8)) (P : α → Prop) (h : St w R o P) :
    Calls Try.prog 68 #[.pointer (some ⟨R, 0, none⟩)] w fun e w' => ∃ b : Ent, e = .returned (.agg (entCells b).toArray) ∧ True ∧ But R w w' ∧ St w' R (also o pEntry) (fun ab => P ab.1 ∧ ab.2 = b) :=
  St.step (fun w l bad h => entry_got w R l bad h) (fun v ⟨x, h⟩ => ⟨x, h, trivial⟩) (fun _ _ _ _ => trivial) w o P h
theorem qentry_step {α : Type} {R : Nat} {s : ByteArray} (hz : s.size ≤ 1000000000) (w : World) (o : Option (α × List UInt8)) (P : α → Prop) (h : StQ w R s o P) :
    Calls Try.prog 43 #[.pointer (some ⟨R, 0, none⟩)] w fun e w' => ∃ b : Ent, e = .returned (.agg (entCells b).toArray) ∧ True ∧ But R w w' ∧ StQ w' R s (also o pEntry) (fun ab => P ab.1 ∧ ab.2 = b) :=
  StQ.step (fun w l bad h => qentry_got w R s l bad h hz) (fun v ⟨x, h⟩ => ⟨x, h, trivial⟩) (fun _ _ _ _ => trivial) w o P h

theorem info_ent : (Try.prog.info? 47).map (fun i => (i.zero, i.size, i.bytes)) = some (some (.agg #[.string ⟨#[]⟩, .string ⟨#[]⟩, .string ⟨#[]⟩, .string ⟨#[]⟩, .string ⟨#[]⟩, .bool false, .int .i64 0]), 7, 96) := by kernel_rfl
theorem info_kpt : (Try.prog.info? 64).map (fun i => (i.zero, i.size, i.bytes)) = some (some (.agg #[.string ⟨#[]⟩, .string ⟨#[]⟩, .string ⟨#[]⟩, .string ⟨#[]⟩, .string ⟨#[]⟩, .bool false, .int .i64 0, .bool false]), 8, 104) := by kernel_rfl

section
variable {P : Program} {ops : Array Oper} {o : Oper} {a : Act} {K : Act → World → Prop} {Q : Exit → Act → World → Prop} {E : Prop}
/-- append of one element, which lies whole in a block of its own, at a step of a region that draws its order. -/
theorem step_append_elem (W : World) (hgd : o.guard = none) (s x : Operand) (t : TypeId) (ho : o.op = .call { callee := .builtin .append, args := #[s, x], argTypes := #[t, t] })
    (base : Nat) (e : TypeId) (z : Value) (size bytes : Nat) (ht : P.underlying t = some (.slice e)) (hinfo : (P.info? e).map (fun i => (i.zero, i.size, i.bytes)) = some (some z, size, bytes))
    (hzs : z.cells.size = size) (hsz : 0 < size) (v : Value) (n : Nat) (xs : List Value) (hs : a.eval s = v) (hown : W.ownsRow base e size v n xs)
    (cs : List Value) (hcs : cs.length = size) (h1 : ∀ u ∈ cs, u.oneCell' = true) (H : Nat) (hH : Blk W H e cs.toArray) (hx : a.eval x = .slice (some ⟨H, 0, none⟩) 1 1)
    (h63 : n + 1 ≤ maxLen) (hbytes : (n + 1) * bytes ≤ 140737488355328) (hbase : base ≤ W.heap.size)
    (h : ∀ g cap w', w'.ownsRow base e size (.slice (some ⟨g, 0, none⟩) (n + 1) cap) (n + 1) (xs ++ cs) → W.grownBy w' v.ownBlock → g < w'.heap.size →
      K (a.put o.dst (.slice (some ⟨g, 0, none⟩) (n + 1) cap)) w') :
    if Region.wanted o (yielded ops a.tmps) = true then Oper.wp P o a W K Q else E := by
  obtain ⟨i, hi, hz, hsize, hby⟩ := info_parts hinfo
  refine step_append_lies _ hgd s x t ho base e i z size bytes ht hi hz hsize hby hzs hsz v n xs hs hown ⟨H, 0, none⟩ 1 1 cs hx (by omega) ?_ h1 (by omega) h63 hbytes hbase _ rfl ?_
  · intro j u hu
    exact World.news_of_block hH j u (by simpa using hu)
  · intro g cap w' hown' hgrow _ hlt
    exact h g cap w' hown' hgrow hlt
/-- The same at a plain region's list. -/
theorem wpList_append_elem_at {rest : List Oper} {Q : Exit → Act → World → Prop} (W : World) (hgd : o.guard = none) (s x : Operand) (t : TypeId) (ho : o.op = .call { callee := .builtin .append, args := #[s, x], argTypes := #[t, t] })
    (base : Nat) (e : TypeId) (z : Value) (size bytes : Nat) (ht : P.underlying t = some (.slice e)) (hinfo : (P.info? e).map (fun i => (i.zero, i.size, i.bytes)) = some (some z, size, bytes))
    (hzs : z.cells.size = size) (hsz : 0 < size) (v : Value) (n : Nat) (xs : List Value) (hs : a.eval s = v) (hown : W.ownsRow base e size v n xs)
    (cs : List Value) (hcs : cs.length = size) (h1 : ∀ u ∈ cs, u.oneCell' = true) (H : Nat) (hH : Blk W H e cs.toArray) (hx : a.eval x = .slice (some ⟨H, 0, none⟩) 1 1)
    (h63 : n + 1 ≤ maxLen) (hbytes : (n + 1) * bytes ≤ 140737488355328) (hbase : base ≤ W.heap.size)
    (h : ∀ g cap w', w'.ownsRow base e size (.slice (some ⟨g, 0, none⟩) (n + 1) cap) (n + 1) (xs ++ cs) → W.grownBy w' v.ownBlock → g < w'.heap.size →
      wpList P ops Q rest (a.put o.dst (.slice (some ⟨g, 0, none⟩) (n + 1) cap)) w') :
    wpList P ops Q (o :: rest) a W := by
  obtain ⟨i, hi, hz, hsize, hby⟩ := info_parts hinfo
  refine wpList_append_lies W hgd s x t ho base e i z size bytes ht hi hz hsize hby hzs hsz v n xs hs hown ⟨H, 0, none⟩ 1 1 cs hx (by omega) ?_ h1 (by omega) h63 hbytes hbase _ rfl ?_
  · intro j u hu
    exact World.news_of_block hH j u (by simpa using hu)
  · intro g cap w' hown' hgrow _ hlt
    exact h g cap w' hown' hgrow hlt
end
theorem ent_one (x : Ent) : ∀ u ∈ entCells x, u.oneCell' = true := by
  intro u hu
  simp only [entCells, List.mem_cons, List.not_mem_nil, or_false] at hu
  rcases hu with rfl | rfl | rfl | rfl | rfl | rfl | rfl <;> rfl
theorem kpt_one (x : Kpt) : ∀ u ∈ kptCells x, u.oneCell' = true := by
  intro u hu
  simp only [kptCells, List.mem_append, List.mem_cons, List.not_mem_nil, or_false] at hu
  rcases hu with hu | rfl
  · exact ent_one _ u hu
  · rfl
theorem ents_snoc (l : List Ent) (x : Ent) : ents (l ++ [x]) = ents l ++ entCells x := by simp [ents]
theorem kpts_snoc (l : List Kpt) (x : Kpt) : kpts (l ++ [x]) = kpts l ++ kptCells x := by simp [kpts]
end Go.Proofs.Ytlkkmgimjjnhjaa
