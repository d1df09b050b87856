/- Strict: the program's start of an element, from its values on. -/
import Derived.Test.YtaickkaoglohgaaBv16
import Derived.Deep.CutBlock
set_option linter.unusedSimpArgs false
set_option linter.unusedVariables false
namespace Go.Proofs.Ytaickkaoglohgaa
open Go.RowKit Tk Sx

theorem split_short (l : L) : ((split l).getD ([], [])).1.length ≤ l.length ∧ ((split l).getD ([], [])).2.length ≤ l.length := by
  have h := cut_short' l [58]
  unfold split
  split
  · split
    · exact h
    · exact ⟨Nat.zero_le _, Nat.zero_le _⟩
  · split
    · exact ⟨Nat.zero_le _, Nat.le_refl _⟩
    · exact ⟨Nat.zero_le _, Nat.zero_le _⟩
theorem splOf_loc (a : At) : (splOf a).loc.length ≤ a.name.length := by
  have h := split_short a.name
  unfold splOf
  cases hs : split a.name with
  | none => exact Nat.zero_le _
  | some x => rw [hs] at h; exact h.2
theorem valOf_short (a : At) : (Sx.valOf a).length ≤ 4 * a.value.length := by
  unfold Sx.valOf
  cases hv : value a.value with
  | error e => exact Nat.zero_le _
  | ok v =>
    unfold value at hv
    dsimp only
    split at hv
    · split at hv <;> cases hv
    · have := sref_len _ _ _ _ hv
      rwa [List.length_map] at this
theorem declared_ns {m : Nat} : ∀ (l : List Spl) (sc : List Dcl), (∀ d ∈ sc, d.ns.length ≤ m) → (∀ s ∈ l, s.val.length ≤ m) → ∀ d ∈ declared sc l, d.ns.length ≤ m
  | [], sc, h, _ => h
  | s :: l, sc, h, h2 => by
    rw [declared]
    split
    · refine declared_ns l _ (fun d hd => ?_) (fun x hx => h2 x (List.mem_cons_of_mem _ hx))
      rcases List.mem_append.1 hd with hd | hd
      · exact h d hd
      · rw [List.mem_singleton.1 hd]; exact h2 s (List.mem_cons_self ..)
    · exact declared_ns l _ h (fun x hx => h2 x (List.mem_cons_of_mem _ hx))

theorem els_snoc (l : List El) (x : El) : els (l ++ [x]) = els l ++ elCells x := by simp [els]
theorem el_one (x : El) : ∀ u ∈ elCells x, u.oneCell' = true := by
  intro u hu
  simp only [elCells, List.mem_cons, List.not_mem_nil, or_false] at hu
  rcases hu with rfl | rfl | rfl | rfl <;> rfl
theorem in_own {B Z : Nat} {w : World} {e : Ev} {A : Option Addr} {c : Nat} (h : w.ownsRow Z 41 3 (.slice A e.attrs.length c) e.attrs.length (atts e.attrs)) (hZ : B ≤ Z) : (Ew.mk e A c).In B w :=
  ⟨Reads.of_own h, fun a ha => Nat.le_trans hZ (above_own h a ha), typed_own h⟩
theorem putEv_len (l : List Ev) (x : Ev) : (putEv l x).length ≤ l.length + 1 := by
  unfold putEv
  split
  · simp
  · split
    · split
      · simp only [List.length_append, List.length_dropLast, List.length_singleton]; omega
      · split
        · exact Nat.le_succ _
        · simp
    · split
      · exact Nat.le_succ _
      · simp
theorem putEv_tx {l : List Ev} {x : Ev} {M : Nat} (h : ∀ y ∈ l, y.text.length ≤ M) (hx : x.kind ≠ 2) (h2 : x.text.length ≤ M) : ∀ y ∈ putEv l x, y.text.length ≤ M := by
  rw [put_other hx]
  intro y hy
  rcases List.mem_append.1 hy with hy | hy
  · exact h y hy
  · rw [List.mem_singleton.1 hy]; exact h2
theorem declared_ge (l : List Spl) : ∀ sc : List Dcl, sc.length ≤ (declared sc l).length := by
  induction l with
  | nil => intro sc; exact Nat.le_refl _
  | cons s l ih =>
    intro sc
    rw [declared]
    split
    · have := ih (sc ++ [⟨(declares s).1, s.val⟩]); rw [List.length_append] at this; omega
    · exact ih sc
theorem sc1_ge (st : St) (t : Tok) : st.scope.length ≤ (sc1 st t).length := by
  unfold sc1
  split
  · exact declared_ge _ _
  · exact Nat.le_refl _
theorem startedW_ok {st : St} {t : Tok} {n M m : Nat} (hk : Ok st n M) (h16 : st.open_.length ≠ 16) (hs : (sc1 st t).length ≤ m) (hn : n < m) : Ok (startedW st t (sc1 st t)) m M := by
  refine ⟨?_, hs, ?_, ?_, ?_, ?_⟩
  · have := hk.op
    show (st.open_ ++ [_]).length ≤ 16
    rw [List.length_append]
    simp; omega
  · have h1 := hk.ev
    exact Nat.le_trans (putEv_len st.evs (evOf t (sc1 st t))) (by omega)
  · exact putEv_tx (x := evOf t (sc1 st t)) hk.tx (by simp [evOf]) (by simp [evOf])
  · intro x hx
    have hg := sc1_ge st t
    show x.scope ≤ (sc1 st t).length
    rcases List.mem_append.1 hx with hx | hx
    · have := hk.in_ x hx; omega
    · rw [List.mem_singleton.1 hx]; exact hg
  · show (st.open_ ++ [_]).Pairwise _
    rw [List.pairwise_append]
    refine ⟨hk.srt, List.pairwise_singleton _ _, fun a ha b hb => ?_⟩
    rw [List.mem_singleton.1 hb]
    exact hk.in_ a ha
theorem Ok_up {st : St} {n n' M : Nat} (h : Ok st n M) (hn : n ≤ n') : Ok st n' M := ⟨h.op, Nat.le_trans h.sc hn, Nat.le_trans h.ev hn, h.tx, h.in_, h.srt⟩
end Go.Proofs.Ytaickkaoglohgaa
