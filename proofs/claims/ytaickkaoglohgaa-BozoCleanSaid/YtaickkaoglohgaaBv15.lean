/- Strict: the program's attrs: what a start's attributes are, and whether two are alike. -/
import Derived.Test.YtaickkaoglohgaaBv14
import Derived.Deep.DeepCutAuto
set_option linter.unusedSimpArgs false
set_option linter.unusedVariables false
namespace Go.Proofs.Ytaickkaoglohgaa
open Go.RowKit Tk Sx

theorem attrsOf_snoc (sc : List Dcl) (l : List Spl) (s : Spl) : attrsOf sc (l ++ [s]) = attrsOf sc l ++ (if (declares s).2 then [] else [⟨attNm sc s, s.val⟩]) := by
  induction l with
  | nil => simp only [List.nil_append, attrsOf]
  | cons x l ih =>
    rw [List.cons_append, attrsOf, attrsOf, ih]
    split
    · rfl
    · rfl
theorem attrsAt_snoc (sc : List Dcl) (l : List Spl) (s : Spl) : ∀ seen : List Nm, attrsAt sc seen (l ++ [s]) = (attrsAt sc seen l).or (if (declares s).2 then none else if (attSp sc s).2 = false ∨ attNm sc s ∈ seen ++ (attrsOf sc l).map (·.name) then some s.at_ else none) := by
  induction l with
  | nil => intro seen; simp only [List.nil_append, attrsAt, attrsOf, List.map_nil, List.append_nil, Option.none_or]
  | cons x l ih =>
    intro seen
    rw [List.cons_append, attrsAt, attrsAt, attrsOf]
    by_cases hd : (declares x).2 = true
    · rw [if_pos hd, if_pos hd, if_pos hd, ih]
    · rw [if_neg hd, if_neg hd, if_neg hd]
      by_cases hb : (attSp sc x).2 = false ∨ attNm sc x ∈ seen
      · rw [if_pos hb, if_pos hb]; rfl
      · rw [if_neg hb, if_neg hb, ih, List.map_cons, List.append_assoc]; rfl
theorem attrsOf_len (sc : List Dcl) (l : List Spl) : (attrsOf sc l).length ≤ l.length := by
  induction l with
  | nil => simp [attrsOf]
  | cons x l ih =>
    rw [attrsOf]
    split
    · simp; omega
    · simp; omega
theorem orB_or (bd : Bad) (x : Option Nat) (a : Nat) : orB (bd.or (badV x)) a 50 = bd.or (badV (x.or (some a))) := by cases bd <;> cases x <;> rfl
theorem att_len (a : Att) : (attCells a).length = 3 := rfl
theorem atts_snoc (l : List Att) (a : Att) : atts (l ++ [a]) = atts l ++ attCells a := by simp [atts]
theorem attc_one (a : Att) : ∀ u ∈ attCells a, u.oneCell' = true := by
  intro u hu
  simp only [attCells, List.mem_cons, List.not_mem_nil, or_false] at hu
  rcases hu with rfl | rfl | rfl <;> rfl
theorem spaceOf_small {sc : List Dcl} {p : L} (h : ∀ d ∈ sc, d.ns.length ≤ 1000000000) : (spaceOf sc p).1.length ≤ 1000000000 := by
  unfold spaceOf
  split
  · decide
  · unfold spaceAt
    cases hf : (sc.take sc.length).reverse.find? fun d => decide (d.pre = p) with
    | none => simp
    | some d =>
      have := List.mem_of_find?_eq_some hf
      rw [List.mem_reverse] at this
      exact h d (List.mem_of_mem_take this)
theorem oper_append_elem {P : Program} {o : Oper} {a : Act} {K : Act → World → Prop} {Q : Exit → Act → World → Prop} (W : World) (hgd : o.guard = none) (s x : Operand) (t : TypeId) (ho : o.op = .call { callee := .builtin .append, args := #[s, x], argTypes := #[t, t] })
    (base : Nat) (e : TypeId) (z : Value) (size bytes : Nat) (ht : P.underlying t = some (.slice e)) (hinfo : (P.info? e).map (fun i => (i.zero, i.size, i.bytes)) = some (some z, size, bytes))
    (hzs : z.cells.size = size) (hsz : 0 < size) (v : Value) (n : Nat) (xs : List Value) (hs : a.eval s = v) (hown : W.ownsRow base e size v n xs)
    (cs : List Value) (hcs : cs.length = size) (h1 : ∀ u ∈ cs, u.oneCell' = true) (H : Nat) (hH : Blk W H e cs.toArray) (hx : a.eval x = .slice (some ⟨H, 0, none⟩) 1 1)
    (h63 : n + 1 ≤ maxLen) (hbytes : (n + 1) * bytes ≤ 140737488355328) (hbase : base ≤ W.heap.size)
    (h : ∀ g cap w', w'.ownsRow base e size (.slice (some ⟨g, 0, none⟩) (n + 1) cap) (n + 1) (xs ++ cs) → W.grownBy w' v.ownBlock → g < w'.heap.size → K (a.put o.dst (.slice (some ⟨g, 0, none⟩) (n + 1) cap)) w') : Oper.wp P o a W K Q := by
  have hh := step_append_elem (ops := #[]) (Q := Q) (E := True) W hgd s x t ho base e z size bytes ht hinfo hzs hsz v n xs hs hown cs hcs h1 H hH hx h63 hbytes hbase h
  rw [if_pos (by simp [Region.wanted, hgd])] at hh
  exact hh
end Go.Proofs.Ytaickkaoglohgaa
