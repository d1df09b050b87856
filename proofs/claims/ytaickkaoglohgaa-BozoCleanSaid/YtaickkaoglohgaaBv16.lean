/- Strict: the program's start of an element: what is told ahead of its values. · A region that draws its order and stores: a condition on the world that holds up to the first store (operation b); the operations behind it are taken as they come. -/
import Derived.Test.YtaickkaoglohgaaBv04
import Derived.Test.YtaickkaoglohgaaBv15
set_option linter.unusedSimpArgs false
set_option linter.unusedVariables false
namespace Go.Proofs.Ytaickkaoglohgaa
open Go.RowKit Tk Sx

namespace Sx
def sc1 (st : St) (t : Tok) : List Dcl := if (valsAt t.attrs).isNone then scope' st t else st.scope
def b1 (t : Tok) : Option Nat := (valsAt t.attrs).or (declAt (splits t))
def spWrong (sc : List Dcl) (t : Tok) : Option Nat := if (spaceOf sc (preOf t)).2 = false ∨ preOf t = pXmlns then some t.at_ else none
def b3 (st : St) (t : Tok) : Option Nat := ((b1 t).or (spWrong (sc1 st t) t)).or (attrsAt (sc1 st t) [] (splits t))
def elOf (st : St) (t : Tok) (sc : List Dcl) : El := ⟨t.name, ⟨(spaceOf sc (preOf t)).1, locOf t⟩, st.scope.length⟩
def evOf (t : Tok) (sc : List Dcl) : Ev := ⟨0, ⟨(spaceOf sc (preOf t)).1, locOf t⟩, attrsOf sc (splits t), []⟩
def startedW (st : St) (t : Tok) (sc : List Dcl) : St := ⟨st.open_ ++ [elOf st t sc], sc, putEv st.evs (evOf t sc), true⟩
theorem late_is (st : St) (t : Tok) : late st t = b3 st t := by
  unfold late b3 b1 sc1
  cases hv : valsAt t.attrs with
  | some a => simp
  | none =>
    simp only [Option.isNone_none, if_true, Option.none_or]
    cases hd : declAt (splits t) with
    | some a => simp
    | none =>
      simp only [Option.none_or]
      unfold spWrong
      split
      · simp
      · simp
theorem sc1_of {st : St} {t : Tok} (h : b3 st t = none) : sc1 st t = scope' st t := by
  unfold b3 b1 at h
  unfold sc1
  cases hv : valsAt t.attrs with
  | some a => rw [hv] at h; simp at h
  | none => rfl
theorem started_is {st : St} {t : Tok} (h : b3 st t = none) : startedW st t (sc1 st t) = started st t := by rw [sc1_of h]; rfl
end Sx
end Go.Proofs.Ytaickkaoglohgaa
namespace Go.Proofs.Ytaickkaoglohgaa
open Go

section
variable {P : Program} {ops : Array Oper} {Q : Exit → Act → World → Prop} {md : Region.Mode} {S : World → Prop} {b : Nat}
def wpAnyB (P : Program) (md : Region.Mode) (ops : Array Oper) (Q : Exit → Act → World → Prop) (S : World → Prop) (b : Nat) : Nat → Array Bool → Act → World → Prop
  | 0, listed, a, w => Region.ready md ops listed = [] ∧ Q .normal a w
  | fuel + 1, listed, a, w =>
    (Region.ready md ops listed = [] → Q .normal a w) ∧
    ∀ i ∈ Region.ready md ops listed, wpOp P ops Q i (fun a' w' => ((listed.setIfInBounds i true).getD b true = false → S w') ∧ wpAnyB P md ops Q S b fuel (listed.setIfInBounds i true) a' w') a w
theorem wpAny_of_B : ∀ (fuel : Nat) (listed : Array Bool) (a : Act) (w : World), wpAnyB P md ops Q S b fuel listed a w → wpAny P md ops Q fuel listed a w
  | 0, _, _, _, h => h
  | fuel + 1, _, _, _, h => ⟨h.1, fun i hi => wpOp_mono (fun a' w' h' => wpAny_of_B fuel _ a' w' h'.2) (h.2 i hi)⟩
/-- Operation b waits for i. -/
def waitsFor (md : Region.Mode) (ops : Array Oper) (b i : Nat) : Bool := ((ops[b]?).map fun o => o.after.any fun e => Region.binds md e && e.on == i).getD false
theorem not_ready {listed : Array Bool} {i : Nat} (hw : waitsFor md ops b i = true) (hr : i ∈ Region.ready md ops listed) : b ∉ Region.ready md ops listed := by
  intro hb
  obtain ⟨_, ob, hob, hall⟩ := mem_ready.1 hb
  obtain ⟨h0, _⟩ := mem_ready.1 hr
  unfold waitsFor at hw
  rw [hob] at hw
  simp only [Option.map_some, Option.getD_some] at hw
  obtain ⟨e, he, hbe⟩ := Array.any_eq_true'.1 hw
  simp only [Bool.and_eq_true, beq_iff_eq] at hbe
  have h1 := hall e he hbe.1
  rw [hbe.2] at h1
  rcases Nat.lt_or_ge i listed.size with h' | h'
  · simp [h'] at h0 h1; rw [h0] at h1; cases h1
  · simp [Array.getElem?_eq_none h'] at h1
theorem wpAnyB_first {i : Nat} {oi : Oper} {v : Value} (hi : ops[i]? = some oi) (hsel : ∀ (j : Nat) (o : Oper) cs b, ops[j]? = some o → o.op ≠ .select cs b)
    (hQ : ∀ c a w, Q (.panic c) (a.put oi.dst v) w → Q (.panic c) a w) (hw : waitsFor md ops b i = true) :
    ∀ (fuel : Nat) (listed : Array Bool) (a : Act) (w : World),
      (∀ j oj, ops[j]? = some oj → j ≠ i → listed.getD j true = false → (∀ e ∈ oj.after, Region.binds md e = true → e.on ≠ i) → oi.apart ops oj = true) →
      i ∈ Region.ready md ops listed → listed.getD b true = false → YieldsIf P ops S oi v a → S w →
      wpAnyB P md ops Q S b fuel (listed.setIfInBounds i true) (a.put oi.dst v) w → wpAnyB P md ops Q S b (fuel + 1) listed a w := by
  intro fuel
  induction fuel with
  | zero =>
    intro listed a w _ hr hb hy hS H
    refine ⟨fun h => (by rw [h] at hr; cases hr), fun j hj => ?_⟩
    by_cases hji : j = i
    · subst hji; exact hy.wpOp hi hS ⟨fun _ => hS, H⟩
    · have := ready_mono hj hji
      rw [H.1] at this
      cases this
  | succ fuel ih =>
    intro listed a w hfree hr hb hy hS H
    refine ⟨fun h => (by rw [h] at hr; cases hr), fun j hj => ?_⟩
    by_cases hji : j = i
    · subst hji; exact hy.wpOp hi hS ⟨fun _ => hS, H⟩
    · have h1 := H.2 j (ready_mono hj hji)
      have hnb := not_ready hw hr
      have hbi : i ≠ b := fun e => hnb (by rw [← e]; exact hr)
      have hbj : j ≠ b := fun e => hnb (by rw [← e]; exact hj)
      obtain ⟨hjun, oj, hoj, hall⟩ := mem_ready.1 hj
      have hnot : ∀ e ∈ oj.after, Region.binds md e = true → e.on ≠ i := fun e he hb heq => by
        have h1 := hall e he hb
        have h0 := (mem_ready.1 hr).1
        rw [heq] at h1
        rcases Nat.lt_or_ge i listed.size with h' | h'
        · simp [h'] at h0 h1; rw [h0] at h1; cases h1
        · simp [Array.getElem?_eq_none h'] at h1
      have h2 := wpOp_putIf hoj (hfree j oj hoj hji hjun hnot) (fun cs b => hsel i oi cs b hi) (fun cs b => hsel j oj cs b hoj) hQ hy h1
      have hfree' : ∀ k ok, ops[k]? = some ok → k ≠ i → (listed.setIfInBounds j true).getD k true = false →
          (∀ e ∈ ok.after, Region.binds md e = true → e.on ≠ i) → oi.apart ops ok = true := fun k ok hk hki hun hno => by
        refine hfree k ok hk hki ?_ hno
        by_cases hjk : j = k
        · subst hjk; exact hjun
        · rw [getD_set_ne true hjk] at hun; exact hun
      have hbl : (listed.setIfInBounds j true).getD b true = false := by rw [getD_set_ne true hbj]; exact hb
      have hbl2 : ((listed.setIfInBounds i true).setIfInBounds j true).getD b true = false := by rw [getD_set_ne true hbj, getD_set_ne true hbi]; exact hb
      refine wpOp_mono (fun a' w' h3 => ⟨fun _ => h3.2.1 hbl2, ih (listed.setIfInBounds j true) a' w' hfree' (ready_mono hr (Ne.symm hji)) hbl h3.1 (h3.2.1 hbl2) ?_⟩) h2
      rw [Array.setIfInBounds_comm _ _ hji]
      exact h3.2.2
theorem wpAnyB_firstY {i : Nat} {oi : Oper} {v : Value} (hi : ops[i]? = some oi) (hsel : ∀ (j : Nat) (o : Oper) cs b, ops[j]? = some o → o.op ≠ .select cs b)
    (hQ : ∀ c a w, Q (.panic c) (a.put oi.dst v) w → Q (.panic c) a w) (hbi : i ≠ b) :
    ∀ (fuel : Nat) (listed : Array Bool) (a : Act) (w : World),
      (∀ j oj, ops[j]? = some oj → j ≠ i → listed.getD j true = false → (∀ e ∈ oj.after, Region.binds md e = true → e.on ≠ i) → oi.apart ops oj = true) →
      i ∈ Region.ready md ops listed → YieldsIf P ops (fun _ => True) oi v a → (listed.getD b true = false → S w) →
      wpAnyB P md ops Q S b fuel (listed.setIfInBounds i true) (a.put oi.dst v) w → wpAnyB P md ops Q S b (fuel + 1) listed a w := by
  intro fuel
  induction fuel with
  | zero =>
    intro listed a w _ hr hy hS H
    refine ⟨fun h => (by rw [h] at hr; cases hr), fun j hj => ?_⟩
    by_cases hji : j = i
    · subst hji; exact hy.wpOp hi trivial ⟨fun h => hS (by rwa [getD_set_ne true hbi] at h), H⟩
    · have := ready_mono hj hji
      rw [H.1] at this
      cases this
  | succ fuel ih =>
    intro listed a w hfree hr hy hS H
    refine ⟨fun h => (by rw [h] at hr; cases hr), fun j hj => ?_⟩
    by_cases hji : j = i
    · subst hji; exact hy.wpOp hi trivial ⟨fun h => hS (by rwa [getD_set_ne true hbi] at h), H⟩
    · have h1 := H.2 j (ready_mono hj hji)
      obtain ⟨hjun, oj, hoj, hall⟩ := mem_ready.1 hj
      have hnot : ∀ e ∈ oj.after, Region.binds md e = true → e.on ≠ i := fun e he hb heq => by
        have h1 := hall e he hb
        have h0 := (mem_ready.1 hr).1
        rw [heq] at h1
        rcases Nat.lt_or_ge i listed.size with h' | h'
        · simp [h'] at h0 h1; rw [h0] at h1; cases h1
        · simp [Array.getElem?_eq_none h'] at h1
      have h2 := wpOp_putIf hoj (hfree j oj hoj hji hjun hnot) (fun cs b => hsel i oi cs b hi) (fun cs b => hsel j oj cs b hoj) hQ hy h1
      have hfree' : ∀ k ok, ops[k]? = some ok → k ≠ i → (listed.setIfInBounds j true).getD k true = false →
          (∀ e ∈ ok.after, Region.binds md e = true → e.on ≠ i) → oi.apart ops ok = true := fun k ok hk hki hun hno => by
        refine hfree k ok hk hki ?_ hno
        by_cases hjk : j = k
        · subst hjk; exact hjun
        · rw [getD_set_ne true hjk] at hun; exact hun
      have key : ∀ {w' : World}, (((listed.setIfInBounds i true).setIfInBounds j true).getD b true = false → S w') → (listed.setIfInBounds j true).getD b true = false → S w' := fun h1 h => h1 (by
        rw [Array.setIfInBounds_comm _ _ (Ne.symm hji), getD_set_ne true hbi]; exact h)
      refine wpOp_mono (fun a' w' h3 => ⟨key h3.2.1, ih (listed.setIfInBounds j true) a' w' hfree' (ready_mono hr (Ne.symm hji)) h3.1 (key h3.2.1) ?_⟩) h2
      rw [Array.setIfInBounds_comm _ _ hji]
      exact h3.2.2
end
section
variable {P : Program} {l : List Oper} {Q : Exit → Act → World → Prop} {md : Region.Mode} {S : World → Prop} {b : Nat}
/-- A load, ahead of the first store. -/
theorem heldB_take {i d : Nat} {oi : Oper} {v : Value} {fuel : Nat} {listed : Array Bool} {a : Act} {w : World} (hi : l[i]? = some oi) (hd : oi.dst = some d)
    (hs : Region.noSelect l.toArray = true) (hf : Region.free md l.toArray listed i = true) (hr : (Region.ready md l.toArray listed).contains i = true)
    (hQ : ∀ c a w, Q (.panic c) (a.put oi.dst v) w → Q (.panic c) a w) (hw : Region.wanted oi (yielded l.toArray a.tmps) = true) (hb : (waitsFor md l.toArray b i && !listed.getD b true) = true) (hS : S w) (hy : ∀ w, S w → (execOp a.eval oi).run P w = .ok (.value v) w)
    (h : wpAnyB P md l.toArray Q S b fuel (listed.setIfInBounds i true) { tmps := a.tmps.setIfInBounds d v, defers := a.defers } w) : wpAnyB P md l.toArray Q S b (fuel + 1) listed a w := by
  simp only [Bool.and_eq_true, Bool.not_eq_true'] at hb
  exact wpAnyB_first (by simpa using hi) (Region.noSelect_spec hs) hQ hb.1 fuel listed a w (Region.free_spec (by simpa using hi) hf) (by simpa using hr) hb.2 (Or.inl ⟨hw, hy⟩) hS (by rw [put_some hd]; exact h)
/-- What yields in whatever world. -/
theorem heldB_free {i d : Nat} {oi : Oper} {v : Value} {fuel : Nat} {listed : Array Bool} {a : Act} {w : World} (hi : l[i]? = some oi) (hd : oi.dst = some d)
    (hs : Region.noSelect l.toArray = true) (hf : Region.free md l.toArray listed i = true) (hr : (Region.ready md l.toArray listed).contains i = true)
    (hQ : ∀ c a w, Q (.panic c) (a.put oi.dst v) w → Q (.panic c) a w) (hw : Region.wanted oi (yielded l.toArray a.tmps) = true) (hb : (i != b) = true) (hS : listed.getD b true = true ∨ S w) (hy : ∀ w, (execOp a.eval oi).run P w = .ok (.value v) w)
    (h : wpAnyB P md l.toArray Q S b fuel (listed.setIfInBounds i true) { tmps := a.tmps.setIfInBounds d v, defers := a.defers } w) : wpAnyB P md l.toArray Q S b (fuel + 1) listed a w :=
  wpAnyB_firstY (by simpa using hi) (Region.noSelect_spec hs) hQ (by simpa using hb) fuel listed a w (Region.free_spec (by simpa using hi) hf) (by simpa using hr) (Or.inl ⟨hw, fun w _ => hy w⟩)
    (fun h => hS.elim (fun h2 => by rw [h] at h2; cases h2) id) (by rw [put_some hd]; exact h)
/-- The next operation that was not taken yet. -/
theorem nbT {d : Nat} {oi : Oper} {v : Value} {fuel : Nat} {ls : List Bool} {tm : List Value} {df : List Deferred} {w : World} (hi : l[nx ls]? = some oi) (hd : oi.dst = some d) (hS : S w)
    (hy : ∀ w, S w → (execOp (Act.eval ⟨tm.toArray, df⟩) oi).run P w = .ok (.value v) w) (h : wpAnyB P md l.toArray Q S b fuel (ls.set (nx ls) true).toArray { tmps := (tm.set d v).toArray, defers := df } w)
    (hs : Region.noSelect l.toArray = true := by kernel_rfl) (hf : Region.free md l.toArray ls.toArray (nx ls) = true := by kernel_rfl) (hr : (Region.ready md l.toArray ls.toArray).contains (nx ls) = true := by kernel_rfl)
    (hw : Region.wanted oi (yielded l.toArray tm.toArray) = true := by kernel_rfl) (hb : (waitsFor md l.toArray b (nx ls) && !ls.toArray.getD b true) = true := by kernel_rfl) (hQ : ∀ c a w, Q (.panic c) (a.put oi.dst v) w → Q (.panic c) a w := by exact fun _ _ _ h => h) : wpAnyB P md l.toArray Q S b (fuel + 1) ls.toArray ⟨tm.toArray, df⟩ w :=
  heldB_take hi hd hs hf hr hQ hw hb hS hy (by simpa using h)
theorem nbF {d : Nat} {oi : Oper} {v : Value} {fuel : Nat} {ls : List Bool} {tm : List Value} {df : List Deferred} {w : World} (hi : l[nx ls]? = some oi) (hd : oi.dst = some d) (hS : S w)
    (hy : ∀ w, (execOp (Act.eval ⟨tm.toArray, df⟩) oi).run P w = .ok (.value v) w) (h : wpAnyB P md l.toArray Q S b fuel (ls.set (nx ls) true).toArray { tmps := (tm.set d v).toArray, defers := df } w)
    (hs : Region.noSelect l.toArray = true := by kernel_rfl) (hf : Region.free md l.toArray ls.toArray (nx ls) = true := by kernel_rfl) (hr : (Region.ready md l.toArray ls.toArray).contains (nx ls) = true := by kernel_rfl)
    (hw : Region.wanted oi (yielded l.toArray tm.toArray) = true := by kernel_rfl) (hb : (nx ls != b) = true := by kernel_rfl) (hQ : ∀ c a w, Q (.panic c) (a.put oi.dst v) w → Q (.panic c) a w := by exact fun _ _ _ h => h) : wpAnyB P md l.toArray Q S b (fuel + 1) ls.toArray ⟨tm.toArray, df⟩ w :=
  heldB_free hi hd hs hf hr hQ hw hb (.inr hS) hy (by simpa using h)
theorem heldB_skip {i d : Nat} {oi : Oper} {fuel : Nat} {listed : Array Bool} {a : Act} {w : World} (hi : l[i]? = some oi) (hd : oi.dst = some d)
    (hs : Region.noSelect l.toArray = true) (hf : Region.free md l.toArray listed i = true) (hr : (Region.ready md l.toArray listed).contains i = true)
    (hQ : ∀ c a w, Q (.panic c) (a.put oi.dst undef) w → Q (.panic c) a w) (hw : Region.wanted oi (yielded l.toArray a.tmps) = false) (hb : (i != b) = true) (hS : listed.getD b true = true ∨ S w)
    (h : wpAnyB P md l.toArray Q S b fuel (listed.setIfInBounds i true) { tmps := a.tmps.setIfInBounds d undef, defers := a.defers } w) : wpAnyB P md l.toArray Q S b (fuel + 1) listed a w :=
  wpAnyB_firstY (by simpa using hi) (Region.noSelect_spec hs) hQ (by simpa using hb) fuel listed a w (Region.free_spec (by simpa using hi) hf) (by simpa using hr) (Or.inr ⟨hw, rfl⟩)
    (fun h => hS.elim (fun h2 => by rw [h] at h2; cases h2) id) (by rw [put_some hd]; exact h)
theorem wpAnyB_one {i : Nat} {oi : Oper} {fuel : Nat} {listed : Array Bool} {a : Act} {w : World} (hi : l[i]? = some oi) (hr : Region.ready md l.toArray listed = [i]) (hw : Region.wanted oi (yielded l.toArray a.tmps) = true)
    (h : ∀ K' : Act → World → Prop, (∀ a w, (((listed.setIfInBounds i true).getD b true = false → S w) ∧ wpAnyB P md l.toArray Q S b fuel (listed.setIfInBounds i true) a w) → K' a w) → Oper.wp P oi a w K' Q) : wpAnyB P md l.toArray Q S b (fuel + 1) listed a w := by
  refine ⟨fun h0 => (by rw [h0] at hr; cases hr), fun j hj => ?_⟩
  rw [hr] at hj
  obtain rfl := List.mem_singleton.1 hj
  exact wpOp_step (by simpa using hi) fun K' hK => by rw [if_pos hw]; exact h K' hK
/-- A call or an alloc ahead of the first store: S is shown anew. -/
theorem heldB_call {i : Nat} {oi : Oper} {fuel : Nat} {listed : Array Bool} {a : Act} {w : World} (hi : l[i]? = some oi) (hr : Region.ready md l.toArray listed = [i]) (hw : Region.wanted oi (yielded l.toArray a.tmps) = true)
    (h : ∀ K' : Act → World → Prop, Shut (∀ a w, S w → (S w → wpAnyB P md l.toArray Q S b fuel (listed.setIfInBounds i true) a w) → K' a w) → Oper.wp P oi a w K' Q) : wpAnyB P md l.toArray Q S b (fuel + 1) listed a w :=
  wpAnyB_one hi hr hw fun K' hK => h K' fun a w hS hW => hK a w ⟨fun _ => hS, hW hS⟩
/-- The first store, and what comes behind it. -/
theorem heldB_last {i : Nat} {oi : Oper} {fuel : Nat} {listed : Array Bool} {a : Act} {w : World} (hi : l[i]? = some oi) (hr : Region.ready md l.toArray listed = [i]) (hw : Region.wanted oi (yielded l.toArray a.tmps) = true)
    (hb : (listed.setIfInBounds i true).getD b true = true)
    (h : ∀ K' : Act → World → Prop, Shut (∀ a w, wpAnyB P md l.toArray Q S b fuel (listed.setIfInBounds i true) a w → K' a w) → Oper.wp P oi a w K' Q) : wpAnyB P md l.toArray Q S b (fuel + 1) listed a w :=
  wpAnyB_one hi hr hw fun K' hK => h K' fun a w hW => hK a w ⟨fun h2 => (by rw [hb] at h2; cases h2), hW⟩
theorem heldB_done {listed : Array Bool} {a : Act} {w : World} (hr : Region.ready md l.toArray listed = []) (h : Q .normal a w) : ∀ fuel, wpAnyB P md l.toArray Q S b fuel listed a w
  | 0 => ⟨hr, h⟩
  | _ + 1 => ⟨fun _ => h, by rw [hr]; simp⟩
theorem wp_region_B {id : Nat} {a : Act} {w : World} (b : Nat) (S : World → Prop) (hm : P.follows .mixedOrders = true) (hS : S w.drew)
    (h : S w.drew → wpAnyB P .any l.toArray Q S b l.toArray.size (Array.replicate l.toArray.size false) a w.drew) : (Code.region id l.toArray true).wp P Q a w :=
  wp_region_any hm (wpAny_of_B _ _ _ _ (h hS))
end
end Go.Proofs.Ytaickkaoglohgaa
