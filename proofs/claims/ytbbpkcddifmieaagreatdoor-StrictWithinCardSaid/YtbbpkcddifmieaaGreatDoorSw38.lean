/- Plain: a text's parse by its row of tokens; tokens farther on do the same; no program in sight. · Plain: a text that is well-formed is so within another element; no program in sight. · Strict: the document's SameEvents, where the events are the same. -/
import Derived.Test.YtbbpkcddifmieaaGreatDoorSw34
import Derived.Test.YtbbpkcddifmieaaGreatDoorSw35
set_option linter.unusedSimpArgs false
set_option linter.unusedVariables false
namespace Go.Proofs.YtbbpkcddifmieaaGreatDoor
open Tk Sx

theorem bad_of_fine {s : L} (h : fine s = true) : ¬ 0 ≤ bad s := by
 have := bad_fine s
 rw [h] at this
 simpa using this
theorem row_end {s : L} {ts : List Tok} (h : Row 0 s [] ts) : toks s.length 0 s = ts ∧ tokEnd ts = s.length := by
 have hc := h.chain
 have he := ends_all hc
 unfold ends at he
 rw [List.take_length] at he
 have ht := toks_row h (.inl rfl) s.length (by simp)
 rw [List.append_nil] at ht
 exact ⟨ht, by show tokEnd ts = _; unfold tokEnd; omega⟩
/-- A text that is tokens throughout. -/
theorem parse_row {s : L} {ts : List Tok} (h : Row 0 s [] ts) : Sx.parse s = match run st0 ts with
  | .error x => .error x
  | .ok st => if st.open_ = [] ∧ st.rooted = true then .ok st.evs else .error (s.length, 50) := by
 obtain ⟨h1, h2⟩ := row_end h
 unfold Sx.parse
 rw [if_neg (bad_of_fine h.fine), h1, if_neg (by rw [h2]; simp)]
 rfl
theorem row_parse {s : L} {evs : List Ev} (h : Sx.parse s = .ok evs) : ∃ ts st, Row 0 s [] ts ∧ run st0 ts = .ok st ∧ st.open_ = [] ∧ st.rooted = true ∧ st.evs = evs := by
 obtain ⟨w, rest, hw, hr, _⟩ := toks_word s.length 0 s (Nat.le_refl _)
 unfold Sx.parse at h
 split at h
 ·cases h
 split at h
 ·cases h
 rename_i hte
 have hc := hr.chain
 have he := ends_all hc
 unfold ends at he
 rw [List.take_length] at he
 have hl : w.length = s.length := by
  have : tokEnd (toks s.length 0 s) = s.length := by simpa using hte
  unfold tokEnd at this
  omega
 have hrest : rest = [] := by
  have := congrArg List.length hw
  rw [List.length_append] at this
  exact List.eq_nil_of_length_eq_zero (by omega)
 subst hrest
 rw [List.append_nil] at hw
 rw [← hw] at hr
 cases hrun : run st0 (toks s.length 0 s) with
 | error x => rw [hrun] at h; cases h
 | ok st =>
  rw [hrun] at h
  dsimp only at h
  split at h
  ·rename_i ho
   simp only [Except.ok.injEq] at h
   exact ⟨_, st, hr, hrun, ho.1, ho.2, h⟩
  ·cases h
/-! Places do not matter. -/
def bump (d : Nat) (x : Nat × Nat) : Nat × Nat := (x.1 + d, x.2)
def bumpE {α : Type} (d : Nat) (e : Except (Nat × Nat) α) : Except (Nat × Nat) α := match e with
 | .error x => .error (bump d x)
 | .ok a => .ok a
def Spl.shift (d : Nat) (s : Spl) : Spl := ⟨s.pre, s.loc, s.val, s.at_ + d⟩
theorem namesAt_shift (d : Nat) : ∀ (l : List At) (seen : List L), namesAt seen (l.map (At.shift d)) = (namesAt seen l).map (· + d)
 | [], _ => rfl
 | a :: l, seen => by
  rw [List.map_cons, namesAt, namesAt]
  have e : (At.shift d a).name = a.name := rfl
  rw [e, namesAt_shift d l]
  split <;> rfl
theorem names_shift (d : Nat) (t : Tok) : names (t.shift d) = (names t).map (· + d) := by
 unfold names
 show (if (split t.name).isNone = true then some (t.at_ + d) else namesAt [] (t.attrs.map (At.shift d))) = _
 rw [namesAt_shift]
 split <;> rfl
theorem valsAt_shift (d : Nat) : ∀ l : List At, valsAt (l.map (At.shift d)) = (valsAt l).map (· + d)
 | [] => rfl
 | a :: l => by
  rw [List.map_cons, valsAt, valsAt, valsAt_shift d l]
  have e : (At.shift d a).value = a.value := rfl
  rw [e]
  cases value a.value <;> rfl
theorem valued_shift (d : Nat) (a : At) : valued (At.shift d a) = Spl.shift d (valued a) := by
 have h1 : (splOf (At.shift d a)).pre = (splOf a).pre ∧ (splOf (At.shift d a)).loc = (splOf a).loc := by
  unfold splOf
  have e : (At.shift d a).name = a.name := rfl
  rw [e]
  cases split a.name <;> exact ⟨rfl, rfl⟩
 unfold valued
 rw [h1.1, h1.2]
 rfl
theorem splits_shift (d : Nat) (t : Tok) : splits (t.shift d) = (splits t).map (Spl.shift d) := by
 unfold splits
 show (t.attrs.map (At.shift d)).map valued = _
 rw [List.map_map, List.map_map]
 exact List.map_congr_left fun a _ => valued_shift d a
theorem declared_shift (d : Nat) : ∀ (l : List Spl) (sc : List Dcl), declared sc (l.map (Spl.shift d)) = declared sc l
 | [], _ => rfl
 | s :: l, sc => by
  rw [List.map_cons, declared, declared, declared_shift d l, declared_shift d l]
  rfl
theorem declAt_shift (d : Nat) : ∀ l : List Spl, declAt (l.map (Spl.shift d)) = (declAt l).map (· + d)
 | [] => rfl
 | s :: l => by
  rw [List.map_cons, declAt, declAt, declAt_shift d l]
  show (if ((declares s).2 && !mayD (declares s).1 s.val) = true then some (s.at_ + d) else _) = _
  split <;> rfl
theorem attrsOf_shift (d : Nat) (sc : List Dcl) : ∀ l : List Spl, attrsOf sc (l.map (Spl.shift d)) = attrsOf sc l
 | [] => rfl
 | s :: l => by
  rw [List.map_cons, attrsOf, attrsOf, attrsOf_shift d sc l]
  rfl
theorem attrsAt_shift (d : Nat) (sc : List Dcl) : ∀ (l : List Spl) (seen : List Nm), attrsAt sc seen (l.map (Spl.shift d)) = (attrsAt sc seen l).map (· + d)
 | [], _ => rfl
 | s :: l, seen => by
  rw [List.map_cons, attrsAt, attrsAt, attrsAt_shift d sc l, attrsAt_shift d sc l]
  show (if (declares s).2 = true then _ else if (attSp sc s).2 = false ∨ attNm sc s ∈ seen then some (s.at_ + d) else _) = _
  split
  ·rfl
  ·split <;> rfl
theorem scope_shift (d : Nat) (st : St) (t : Tok) : scope' st (t.shift d) = scope' st t := by unfold scope'; rw [splits_shift, declared_shift]
theorem early_shift (d : Nat) (st : St) (t : Tok) : Sx.early st (t.shift d) = (Sx.early st t).map (bump d) := by
 unfold Sx.early
 rw [names_shift]
 cases names t with
 | some a => rfl
 | none =>
  simp only [Option.map_none]
  show (if (st.rooted && st.open_.isEmpty) = true then some (t.at_ + d, 50) else if 16 < (t.attrs.map (At.shift d)).length then some (t.at_ + d, 42) else if st.open_.length = 16 then some (t.at_ + d, 41) else none) = _
  rw [List.length_map]
  split
  ·rfl
  ·split
   ·rfl
   ·split <;> rfl
theorem late_shift (d : Nat) (st : St) (t : Tok) : late st (t.shift d) = (late st t).map (· + d) := by
 unfold late
 rw [scope_shift, splits_shift, declAt_shift, attrsAt_shift]
 show (match valsAt (t.attrs.map (At.shift d)) with | some a => some a | none => _) = _
 rw [valsAt_shift]
 cases valsAt t.attrs with
 | some a => rfl
 | none =>
  simp only [Option.map_none]
  cases declAt (splits t) with
  | some a => rfl
  | none =>
   simp only [Option.map_none]
   show (if (spaceOf (scope' st t) (preOf t)).2 = false ∨ preOf t = pXmlns then some (t.at_ + d) else _) = _
   split <;> rfl
theorem started_shift (d : Nat) (st : St) (t : Tok) : started st (t.shift d) = started st t := by
 unfold started
 rw [scope_shift, splits_shift, attrsOf_shift]
 rfl
theorem start_shift (d : Nat) (st : St) (t : Tok) : Sx.start st (t.shift d) = bumpE d (Sx.start st t) := by
 unfold Sx.start
 rw [early_shift, late_shift, started_shift]
 cases Sx.early st t with
 | some b => rfl
 | none =>
  simp only [Option.map_none]
  cases late st t with
  | some a => rfl
  | none => rfl
/-- A token farther on does the same. -/
theorem step_shift (d : Nat) (st : St) (t : Tok) : Sx.step st (t.shift d) = bumpE d (Sx.step st t) := by
 unfold Sx.step
 show (if t.kind = 0 then Sx.start st (t.shift d) else if t.kind = 1 then Sx.end_ st (t.shift d) else if t.kind = 2 then Sx.text st (t.shift d) else if t.kind = 3 then Sx.data st (t.shift d) else (Except.ok st : Except (Nat × Nat) St)) = _
 split
 ·exact start_shift d st t
 split
 ·unfold Sx.end_
  cases st.open_.getLast? with
  | none => rfl
  | some x =>
   show (if x.written = t.name then (Except.ok (closeSt st) : Except (Nat × Nat) St) else Except.error (t.at_ + d, 50)) = _
   dsimp only
   split <;> rfl
 split
 ·unfold Sx.text
  show (if st.open_ = [] then if t.text.all sp = true then (Except.ok st : Except (Nat × Nat) St) else Except.error (t.at_ + d, 50) else match sref t.text.length 0 t.text with | .ok s => Except.ok (putSt st s) | .error _ => Except.error (t.at_ + d, 50)) = _
  split
  ·split <;> rfl
  ·cases sref t.text.length 0 t.text <;> rfl
 split
 ·unfold Sx.data
  show (if st.open_ = [] then (Except.error (t.at_ + d, 50) : Except (Nat × Nat) St) else Except.ok (putSt st t.text)) = _
  split <;> rfl
 ·rfl
theorem run_shift (d : Nat) : ∀ (ts : List Tok) (st : St), run st (ts.map (Tok.shift d)) = bumpE d (run st ts)
 | [], _ => rfl
 | t :: ts, st => by
  rw [List.map_cons, run, run, step_shift]
  cases Sx.step st t with
  | error x => rfl
  | ok st1 => exact run_shift d ts st1
theorem run_app {ts ts' : List Tok} : ∀ st : St, run st (ts ++ ts') = match run st ts with
  | .error x => .error x
  | .ok st' => run st' ts' := by
 induction ts with
 | nil => intro st; rfl
 | cons t ts ih =>
  intro st
  rw [List.cons_append, run, run]
  cases Sx.step st t with
  | error x => rfl
  | ok st1 => exact ih st1
/-- A token that is none of <? may stand anywhere. -/
theorem tokW_shift0 {at_ : Nat} {w : L} {t : Tok} (h : TokW at_ w t) (hq : at_ ≠ 0 ∨ ∀ r, w ≠ 60 :: 63 :: r) (d : Nat) : TokW (at_ + d) w (t.shift d) := by
 by_cases h0 : at_ = 0
 ·have hq' : ∀ r, w ≠ 60 :: 63 :: r := hq.resolve_left (fun e => e h0)
  cases h with
  | start _ nm wa as_ e hn hn0 ha =>
   have := TokW.start (at_ + d) nm wa (as_.map (At.shift d)) e hn hn0 (by rw [show at_ + d + 1 + nm.length = at_ + 1 + nm.length + d by omega]; exact ha.shift d)
   rw [show at_ + d + (60 :: (nm ++ wa)).length = at_ + (60 :: (nm ++ wa)).length + d by omega] at this
   exact this
  | end_ _ nm b hn hn0 hb =>
   have := TokW.end_ (at_ + d) nm b hn hn0 hb
   rw [show at_ + d + (60 :: 47 :: (nm ++ (b ++ [62]))).length = at_ + (60 :: 47 :: (nm ++ (b ++ [62]))).length + d by omega] at this
   exact this
  | text _ _ h1 h2 h3 =>
   have := TokW.text (at_ + d) w h1 h2 h3
   rw [show at_ + d + w.length = at_ + w.length + d by omega] at this
   exact this
  | data _ tx h1 =>
   have := TokW.data (at_ + d) tx h1
   rw [Nat.add_right_comm at_ d] at this
   exact this
  | comment _ c h1 =>
   have := TokW.comment (at_ + d) c h1
   rw [Nat.add_right_comm at_ d] at this
   exact this
  | decl x _ => exact absurd rfl (hq' ([120, 109, 108] ++ x))
  | instr _ nm y h1 h2 => exact absurd rfl (hq' _)
 ·exact h.shift h0 d
theorem row_shift0 {at_ : Nat} {w rest : L} {ts : List Tok} (h : Row at_ w rest ts) (hq : at_ ≠ 0 ∨ ∀ r, w ≠ 60 :: 63 :: r) (d : Nat) : Row (at_ + d) w rest (ts.map (Tok.shift d)) := by
 cases h with
 | nil => exact .nil _ _
 | cons _ w t w2 rest ts hw hf hk hr =>
  refine .cons _ _ _ _ _ _ (tokW_shift0 hw ?_ d) hf hk ?_
  ·rcases hq with hq | hq
   ·exact .inl hq
   ·by_cases h0 : at_ = 0
    ·right
     intro r e
     exact hq (r ++ w2) (by rw [e]; rfl)
    ·exact .inl h0
  ·have hne : at_ + w.length ≠ 0 := by have := List.length_pos_iff.2 hw.ne; omega
   have := hr.shift hne d
   rwa [show at_ + w.length + d = at_ + d + w.length by omega] at this
/-! An event has few attributes. -/
def Few (l : List Ev) : Prop := ∀ e ∈ l, e.attrs.length ≤ 16
theorem few_put {l : List Ev} {x : Ev} (h : Few l) (hx : x.attrs.length ≤ 16) : Few (putEv l x) := by
 intro e he
 have h2 : ∀ e ∈ l ++ [x], e.attrs.length ≤ 16 := fun e he => by
  rcases List.mem_append.1 he with he | he
  ·exact h e he
  ·rw [List.mem_singleton.1 he]; exact hx
 unfold putEv at he
 split at he
 ·exact h2 e he
 ·split at he
  ·rename_i y hy
   split at he
   ·rcases List.mem_append.1 he with he | he
    ·exact h e (List.dropLast_subset _ he)
    ·rw [List.mem_singleton.1 he]
     exact h y (List.mem_of_getLast? hy)
   ·split at he
    ·exact h e he
    ·exact h2 e he
  ·split at he
   ·exact h e he
   ·exact h2 e he
theorem few_close {st : St} (h : Few st.evs) : Few (closeSt st).evs := by
 unfold closeSt
 split
 ·exact h
 ·rename_i x _
  exact few_put (x := ⟨1, x.name, [], []⟩) h (by simp)
theorem few_step {st st' : St} {t : Tok} (h : Few st.evs) (hs : Sx.step st t = .ok st') : Few st'.evs := by
 unfold Sx.step at hs
 split at hs
 ·unfold Sx.start at hs
  cases he : Sx.early st t with
  | some b => rw [he] at hs; cases hs
  | none =>
   rw [he] at hs
   obtain ⟨_, _, e3, _⟩ := early_none he
   dsimp only at hs
   have hst : Few (started st t).evs := few_put (l := st.evs) (x := ⟨0, ⟨(spaceOf (scope' st t) (preOf t)).1, locOf t⟩, attrsOf (scope' st t) (splits t), []⟩) h (by
    have := attrsOf_len (scope' st t) (splits t)
    rw [show (splits t).length = t.attrs.length from List.length_map _] at this
    show (attrsOf (scope' st t) (splits t)).length ≤ 16
    omega)
   cases hl : late st t with
   | some a => rw [hl] at hs; cases hs
   | none =>
    rw [hl] at hs
    simp only [Except.ok.injEq] at hs
    subst hs
    cases t.empty with
    | true => exact few_close hst
    | false => exact hst
 split at hs
 ·unfold Sx.end_ at hs
  split at hs
  ·cases hs
  ·split at hs
   ·simp only [Except.ok.injEq] at hs
    subst hs
    exact few_close h
   ·cases hs
 split at hs
 ·unfold Sx.text at hs
  split at hs
  ·split at hs
   ·simp only [Except.ok.injEq] at hs
    subst hs
    exact h
   ·cases hs
  ·split at hs
   ·rename_i x _
    simp only [Except.ok.injEq] at hs
    subst hs
    exact few_put (l := st.evs) (x := textEv x) h (by simp [textEv])
   ·cases hs
 split at hs
 ·unfold Sx.data at hs
  split at hs
  ·cases hs
  ·simp only [Except.ok.injEq] at hs
   subst hs
   exact few_put (l := st.evs) (x := textEv t.text) h (by simp [textEv])
 ·simp only [Except.ok.injEq] at hs
  subst hs
  exact h
theorem few_run : ∀ {ts : List Tok} {st st' : St}, Few st.evs → run st ts = .ok st' → Few st'.evs
 | [], st, st', h, hs => by simp only [run, Except.ok.injEq] at hs; subst hs; exact h
 | t :: ts, st, st', h, hs => by
  simp only [run] at hs
  cases hst : Sx.step st t with
  | error x => rw [hst] at hs; cases hs
  | ok st1 => rw [hst] at hs; exact few_run (few_step h hst) hs
theorem parse_few {s : L} {evs : List Ev} (h : Sx.parse s = .ok evs) : Few evs := by
 obtain ⟨ts, st, _, hrun, _, _, rfl⟩ := row_parse h
 exact few_run (fun e he => by cases he) hrun
end Go.Proofs.YtbbpkcddifmieaaGreatDoor
namespace Go.Proofs.YtbbpkcddifmieaaGreatDoor
open Tk Sx

def elW : El := ⟨[119], ⟨[], [119]⟩, 0⟩
def evW : Ev := ⟨0, ⟨[], [119]⟩, [], []⟩
def evW1 : Ev := ⟨1, ⟨[], [119]⟩, [], []⟩
/-- The same parse, one element deeper. -/
structure Sim (st st' : St) (tl : List Ev) : Prop where
 op : st'.open_ = elW :: st.open_
 sc : st'.scope = st.scope
 ro : st'.rooted = true
 ev : st'.evs = evW :: (st.evs ++ tl)
 tl : tl = [] ∨ (st.open_ = [] ∧ ∃ t, tl = [textEv t])
theorem Sim.none {st st' : St} {tl : List Ev} (h : Sim st st' tl) (ho : st.open_ ≠ []) : tl = [] := h.tl.resolve_right fun hh => ho hh.1
theorem putEv_cons {a : Ev} {l : List Ev} {x : Ev} (hl : l ≠ []) : putEv (a :: l) x = a :: putEv l x := by
 by_cases hx : x.kind = 2
 ·rcases List.eq_nil_or_concat l with he | ⟨ys, y, he⟩
  ·exact absurd he hl
  rw [List.concat_eq_append] at he
  subst he
  rw [← List.cons_append]
  by_cases hy : y.kind = 2
  ·rw [put_text hx hy, put_text hx hy]; rfl
  ·rw [put_behind hx hy, put_behind hx hy]
   split <;> rfl
 ·rw [put_other hx, put_other hx]; rfl
theorem sim_close {st st' : St} (h : Sim st st' []) (ho : st.open_ ≠ []) : Sim (closeSt st) (closeSt st') [] := by
 rcases List.eq_nil_or_concat st.open_ with he | ⟨ys, y, he⟩
 ·exact absurd he ho
 rw [List.concat_eq_append] at he
 have hc : closeSt st = ⟨ys, st.scope.take y.scope, st.evs ++ [⟨1, y.name, [], []⟩], st.rooted⟩ := by
  unfold closeSt
  rw [he, List.getLast?_append, List.getLast?_singleton]
  simp only [Option.some_or, List.dropLast_concat]
  rw [put_other (by simp)]
 have he' : st'.open_ = (elW :: ys) ++ [y] := by rw [h.op, he]; rfl
 have hc' : closeSt st' = ⟨elW :: ys, st'.scope.take y.scope, st'.evs ++ [⟨1, y.name, [], []⟩], st'.rooted⟩ := by
  unfold closeSt
  rw [he', List.getLast?_append, List.getLast?_singleton]
  simp only [Option.some_or, List.dropLast_concat]
  rw [put_other (by simp)]
 rw [hc, hc']
 exact ⟨rfl, by rw [h.sc], h.ro, by show st'.evs ++ [_] = _; rw [h.ev]; simp, .inl rfl⟩
theorem start_ok {st st1 : St} {t : Tok} (hs : Sx.start st t = .ok st1) : Sx.early st t = none ∧ late st t = none ∧ st1 = if t.empty then closeSt (started st t) else started st t := by
 unfold Sx.start at hs
 cases he : Sx.early st t with
 | some b => rw [he] at hs; cases hs
 | none =>
  rw [he] at hs
  dsimp only at hs
  cases hl : late st t with
  | some a => rw [hl] at hs; cases hs
  | none =>
   rw [hl] at hs
   simp only [Except.ok.injEq] at hs
   exact ⟨rfl, rfl, hs.symm⟩
theorem sim_start {st st' st1 : St} {t : Tok} (h : Sim st st' []) (hs : Sx.start st t = .ok st1) : (∃ x, Sx.start st' t = .error x ∧ x.2 = 41) ∨ ∃ st1', Sx.start st' t = .ok st1' ∧ Sim st1 st1' [] ∧ st1.rooted = true := by
 obtain ⟨h1, h2, h3⟩ := start_ok hs
 obtain ⟨e1, e2, e3, e4⟩ := early_none h1
 have hsc : scope' st' t = scope' st t := by unfold scope'; rw [h.sc]
 have hl : late st' t = none := by
  rw [← h2]
  unfold late
  rw [hsc]
 have hst : Sim (started st t) (started st' t) [] := by
  refine ⟨?_, hsc, rfl, ?_, .inl rfl⟩
  ·show st'.open_ ++ [⟨t.name, ⟨(spaceOf (scope' st' t) (preOf t)).1, locOf t⟩, st'.scope.length⟩] = _
   rw [hsc, h.sc, h.op]
   rfl
  ·show putEv st'.evs ⟨0, ⟨(spaceOf (scope' st' t) (preOf t)).1, locOf t⟩, attrsOf (scope' st' t) (splits t), []⟩ = _
   have hev : (started st t).evs = st.evs ++ [⟨0, ⟨(spaceOf (scope' st t) (preOf t)).1, locOf t⟩, attrsOf (scope' st t) (splits t), []⟩] := put_other (l := st.evs) (x := ⟨0, ⟨(spaceOf (scope' st t) (preOf t)).1, locOf t⟩, attrsOf (scope' st t) (splits t), []⟩) (by simp)
   rw [hsc, h.ev, put_other (by simp), hev]
   simp
 by_cases hd : st'.open_.length = 16
 ·left
  refine ⟨(t.at_, 41), ?_, rfl⟩
  unfold Sx.start
  have : Sx.early st' t = some (t.at_, 41) := by
   unfold Sx.early
   rw [e1]
   dsimp only
   rw [if_neg (by rw [h.op]; simp), if_neg (by omega), if_pos hd]
  rw [this]
 ·right
  have he : Sx.early st' t = none := by
   unfold Sx.early
   rw [e1]
   dsimp only
   rw [if_neg (by rw [h.op]; simp), if_neg (by omega), if_neg hd]
  refine ⟨if t.empty then closeSt (started st' t) else started st' t, by unfold Sx.start; rw [he]; dsimp only; rw [hl], ?_, ?_⟩
  ·rw [h3]
   cases t.empty with
   | true => exact sim_close hst (by show st.open_ ++ [_] ≠ []; simp)
   | false => exact hst
  ·rw [h3]
   cases t.empty with
   | true =>
    show (closeSt (started st t)).rooted = true
    unfold closeSt
    split <;> rfl
   | false => rfl
theorem last_end {st : St} (h : Inv st) (hr : st.rooted = true) (ho : st.open_ = []) : ∃ ys y, st.evs = ys ++ [y] ∧ y.kind ≠ 2 := by
 rcases List.eq_nil_or_concat st.evs with he | ⟨ys, y, he⟩
 ·exact absurd he (h.yes hr)
 rw [List.concat_eq_append] at he
 refine ⟨ys, y, he, fun hy => ?_⟩
 have hb := h.bal
 have hop := h.op
 rw [he] at hb hop
 have hg := hb ys.length y (by rw [List.getElem?_append_right (Nat.le_refl _), Nat.sub_self]; rfl)
 rw [List.take_left] at hg
 rw [opn_snoc, ho] at hop
 unfold opnS at hop
 rw [if_neg (by omega), if_neg (by omega)] at hop
 rcases hg with ⟨h1, _⟩ | ⟨h1, _⟩ | ⟨_, h2, _⟩
 ·omega
 ·omega
 ·exact h2 hop
theorem all_sp_amp {t : L} (h : t.all sp = true) : (38 : UInt8) ∉ t := fun hm => by
 have := List.all_eq_true.1 h 38 hm
 exact absurd this (by decide)
theorem close_rooted (st : St) : (closeSt st).rooted = st.rooted := by unfold closeSt; split <;> rfl
theorem sim_put {st st' : St} (h : Sim st st' []) (hr : st.evs ≠ []) (x : L) : Sim (putSt st x) (putSt st' x) [] := by
 refine ⟨h.op, h.sc, h.ro, ?_, .inl rfl⟩
 show putEv st'.evs (textEv x) = evW :: (putEv st.evs (textEv x) ++ [])
 rw [h.ev, List.append_nil, List.append_nil, putEv_cons hr]
theorem sim_step {st st' st1 : St} {tl : List Ev} {t : Tok} (h : Sim st st' tl) (hi : Inv st) (hr : st.rooted = true) (hk : t.kind = 2 → t.text ≠ []) (hs : Sx.step st t = .ok st1) :
  (∃ x, Sx.step st' t = .error x ∧ x.2 = 41) ∨ ∃ st1' tl1, Sx.step st' t = .ok st1' ∧ Sim st1 st1' tl1 ∧ st1.rooted = true := by
 have hne : st'.open_ ≠ [] := by rw [h.op]; simp
 unfold Sx.step at hs ⊢
 by_cases k0 : t.kind = 0
 ·rw [if_pos k0] at hs ⊢
  obtain ⟨h1, _, _⟩ := start_ok hs
  obtain ⟨_, e2, _, _⟩ := early_none h1
  have htl := h.none (fun e => e2 ⟨hr, e⟩)
  subst htl
  rcases sim_start h hs with hh | ⟨st1', a, b, c⟩
  ·exact .inl hh
  ·exact .inr ⟨st1', [], a, b, c⟩
 rw [if_neg k0] at hs ⊢
 by_cases k1 : t.kind = 1
 ·rw [if_pos k1] at hs ⊢
  right
  unfold Sx.end_ at hs ⊢
  rcases List.eq_nil_or_concat st.open_ with he | ⟨ys, y, he⟩
  ·rw [he] at hs; cases hs
  rw [List.concat_eq_append] at he
  have hon : st.open_ ≠ [] := by rw [he]; simp
  have htl := h.none hon
  subst htl
  rw [he, List.getLast?_append, List.getLast?_singleton, Option.some_or] at hs
  dsimp only at hs
  have he' : st'.open_ = (elW :: ys) ++ [y] := by rw [h.op, he]; rfl
  rw [he', List.getLast?_append, List.getLast?_singleton, Option.some_or]
  dsimp only
  by_cases hw : y.written = t.name
  ·rw [if_pos hw] at hs ⊢
   simp only [Except.ok.injEq] at hs
   subst hs
   exact ⟨_, [], rfl, sim_close h hon, by rw [close_rooted]; exact hr⟩
  ·rw [if_neg hw] at hs; cases hs
 rw [if_neg k1] at hs ⊢
 by_cases k2 : t.kind = 2
 ·rw [if_pos k2] at hs ⊢
  right
  unfold Sx.text at hs ⊢
  rw [if_neg hne]
  by_cases ho : st.open_ = []
  ·rw [if_pos ho] at hs
   by_cases hb : t.text.all sp = true
   ·rw [if_pos hb] at hs
    simp only [Except.ok.injEq] at hs
    subst hs
    rw [sref_plain (all_sp_amp hb) (Nat.le_refl _)]
    dsimp only
    obtain ⟨ys, y, hy, hy2⟩ := last_end hi hr ho
    rcases h.tl with htl | ⟨_, u, htl⟩
    ·subst htl
     refine ⟨_, [textEv t.text], rfl, ⟨h.op, h.sc, h.ro, ?_, .inr ⟨ho, _, rfl⟩⟩, hr⟩
     show putEv st'.evs (textEv t.text) = _
     rw [h.ev, List.append_nil, hy, ← List.cons_append, put_behind rfl hy2, if_neg (show ¬ (textEv t.text).text = [] from hk k2)]
     simp
    ·subst htl
     refine ⟨_, [textEv (u ++ t.text)], rfl, ⟨h.op, h.sc, h.ro, ?_, .inr ⟨ho, _, rfl⟩⟩, hr⟩
     show putEv st'.evs (textEv t.text) = _
     rw [h.ev, ← List.cons_append, put_text rfl rfl]
     rfl
   ·rw [if_neg hb] at hs; cases hs
  ·rw [if_neg ho] at hs
   have htl := h.none ho
   subst htl
   cases hsr : sref t.text.length 0 t.text with
   | error a => rw [hsr] at hs; cases hs
   | ok x =>
    rw [hsr] at hs
    simp only [Except.ok.injEq] at hs
    subst hs
    exact ⟨_, [], rfl, sim_put h (hi.yes hr) x, hr⟩
 rw [if_neg k2] at hs ⊢
 by_cases k3 : t.kind = 3
 ·rw [if_pos k3] at hs ⊢
  right
  unfold Sx.data at hs ⊢
  rw [if_neg hne]
  by_cases ho : st.open_ = []
  ·rw [if_pos ho] at hs; cases hs
  ·rw [if_neg ho] at hs
   have htl := h.none ho
   subst htl
   simp only [Except.ok.injEq] at hs
   subst hs
   exact ⟨_, [], rfl, sim_put h (hi.yes hr) _, hr⟩
 rw [if_neg k3] at hs ⊢
 simp only [Except.ok.injEq] at hs
 subst hs
 exact .inr ⟨_, tl, rfl, h, hr⟩
theorem sim_run : ∀ {ts : List Tok} {st st' st1 : St} {tl : List Ev}, Sim st st' tl → Inv st → st.rooted = true → (∀ t ∈ ts, (t.kind = 2 → t.text ≠ []) ∧ fine t.text = true) → run st ts = .ok st1 →
  (∃ x, run st' ts = .error x ∧ x.2 = 41) ∨ ∃ st1' tl1, run st' ts = .ok st1' ∧ Sim st1 st1' tl1
 | [], st, st', st1, tl, h, _, _, _, hs => by
  simp only [run, Except.ok.injEq] at hs
  subst hs
  exact .inr ⟨_, tl, rfl, h⟩
 | t :: ts, st, st', st1, tl, h, hi, hr, ht, hs => by
  simp only [run] at hs
  cases hst : Sx.step st t with
  | error x => rw [hst] at hs; cases hs
  | ok st2 =>
   rw [hst] at hs
   have ht0 := ht t (List.mem_cons_self ..)
   rcases sim_step h hi hr ht0.1 hst with ⟨x, h1, h2⟩ | ⟨st2', tl2, h1, h2, h3⟩
   ·left
    exact ⟨x, by rw [run, h1], h2⟩
   ·rcases sim_run h2 (inv_step hi ht0.2 hst) h3 (fun u hu => ht u (List.mem_cons_of_mem _ hu)) hs with ⟨x, a, b⟩ | ⟨s, tl3, a, b⟩
    ·exact .inl ⟨x, by rw [run, h1]; exact a, b⟩
    ·exact .inr ⟨s, tl3, by rw [run, h1]; exact a, b⟩
theorem tokW_text {at_ : Nat} {w : L} {t : Tok} (h : TokW at_ w t) : t.kind = 2 → t.text ≠ [] := by
 cases h with
 | text _ _ h0 => exact fun _ => h0
 | _ => intro e; cases e
theorem row_text {at_ : Nat} {w rest : L} {ts : List Tok} (h : Row at_ w rest ts) : ∀ t ∈ ts, (t.kind = 2 → t.text ≠ []) ∧ fine t.text = true := by
 induction h with
 | nil => intro t ht; cases ht
 | cons at_ w t w2 rest ts hw hf hk _ ih =>
  intro u hu
  rcases List.mem_cons.1 hu with rfl | hu
  ·exact ⟨tokW_text hw, tokW_fine hw hf⟩
  ·exact ih u hu
/-- A token at a text's beginning that is none of <?, <!, and no text, is a start or an end. -/
theorem tokW_root {at_ : Nat} {w : L} {t : Tok} (h : TokW at_ w t) {c : UInt8} {r : L} (hw : ∃ q, w ++ q = 60 :: c :: r) (h63 : c ≠ 63) (h33 : c ≠ 33) : t.kind = 0 ∨ t.kind = 1 := by
 obtain ⟨q, hq⟩ := hw
 cases h with
 | start => exact .inl rfl
 | end_ => exact .inr rfl
 | text _ _ h0 h60 =>
  cases w with
  | nil => exact absurd rfl h0
  | cons d w =>
   rw [List.cons_append, List.cons.injEq] at hq
   exact absurd (List.mem_cons_self ..) (by rw [hq.1] at h60; exact h60)
 | data =>
  simp only [sData, List.cons_append, List.cons.injEq] at hq
  exact absurd hq.2.1.symm h33
 | comment =>
  simp only [sComment, List.cons_append, List.cons.injEq] at hq
  exact absurd hq.2.1.symm h33
 | decl =>
  simp only [sXml, List.cons_append, List.cons.injEq] at hq
  exact absurd hq.2.1.symm h63
 | instr =>
  simp only [List.cons_append, List.cons.injEq] at hq
  exact absurd hq.2.1.symm h63
theorem name_w : Name [119] := ⟨by decide, by decide⟩
def stW : St := ⟨[elW], [], [evW], true⟩
theorem within_law {s : L} {evs : List Ev} {c : UInt8} {r : L} (h : Sx.parse s = .ok evs) (hs : s = 60 :: c :: r) (h63 : c ≠ 63) (h33 : c ≠ 33) :
  (∃ x, Sx.parse ([60, 119, 62] ++ (s ++ [60, 47, 119, 62])) = .error x ∧ x.2 = 41) ∨ ∃ tl, Sx.parse ([60, 119, 62] ++ (s ++ [60, 47, 119, 62])) = .ok (evW :: (evs ++ tl) ++ [evW1]) := by
 obtain ⟨ts, st, hrow, hrun, ho, hro, hev⟩ := row_parse h
 have hq : ∀ r', s ≠ 60 :: 63 :: r' := fun r' e => by rw [hs] at e; simp only [List.cons.injEq] at e; exact h63 e.2.1
 have hr1 := row_shift0 (hrow.rest_ (rest' := [60, 47, 119, 62]) (.inr ⟨_, rfl⟩)) (.inr hq) 3
 rw [Nat.zero_add] at hr1
 have t1 : TokW 0 [60, 119, 62] ⟨0, [119], [], false, [], 0, 3⟩ := TokW.start 0 [119] [62] [] false name_w (by simp) (.one _ [] (by rfl))
 have r1 : Row 0 [60, 119, 62] (s ++ [60, 47, 119, 62]) [⟨0, [119], [], false, [], 0, 3⟩] := by
  have := Row.cons 0 [60, 119, 62] _ [] (s ++ [60, 47, 119, 62]) [] t1 (by decide) (fun e => by cases e) (.nil _ _)
  rwa [List.append_nil] at this
 have t2 : TokW (3 + s.length) [60, 47, 119, 62] ⟨1, [119], [], false, [], 3 + s.length, 3 + s.length + 4⟩ := TokW.end_ (3 + s.length) [119] [] name_w (by simp) (by rfl)
 have r2 : Row (3 + s.length) [60, 47, 119, 62] [] [⟨1, [119], [], false, [], 3 + s.length, 3 + s.length + 4⟩] := by
  have := Row.cons (3 + s.length) [60, 47, 119, 62] _ [] [] [] t2 (by decide) (fun e => by cases e) (.nil _ _)
  rwa [List.append_nil] at this
 have r3 := Row.join (w1 := s) (w2 := [60, 47, 119, 62]) (rest := []) (by rw [List.append_nil]; exact hr1) r2
 have r4 := Row.join (w1 := [60, 119, 62]) (w2 := s ++ [60, 47, 119, 62]) (rest := []) (by rw [List.append_nil]; exact r1) (by exact r3)
 obtain ⟨tE, hE1, hE2, hE3⟩ : ∃ tE : Tok, tE.kind = 1 ∧ tE.name = [119] ∧ (⟨1, [119], [], false, [], 3 + s.length, 3 + s.length + 4⟩ : Tok) = tE := ⟨_, rfl, rfl, rfl⟩
 rw [hE3] at r4
 rw [parse_row r4, run_app, show run st0 [⟨0, [119], [], false, [], 0, 3⟩] = .ok stW from rfl]
 dsimp only
 rw [run_app, run_shift]
 cases hrow with
 | nil => cases hs
 | cons _ w t w2 _ ts hw hf hk hr2 =>
  have ht := row_text (Row.cons 0 w t w2 [] ts hw hf hk hr2)
  rw [run] at hrun
  cases hst : Sx.step st0 t with
  | error x => rw [hst] at hrun; cases hrun
  | ok st2 =>
   rw [hst] at hrun
   dsimp only at hrun
   have ht0 := ht t (List.mem_cons_self ..)
   have hi := inv_step inv0 ht0.2 hst
   have hsim : Sim st0 stW [] := ⟨rfl, rfl, rfl, rfl, .inl rfl⟩
   have key : (∃ x, run stW (t :: ts) = .error x ∧ x.2 = 41) ∨ ∃ st1' tl1, run stW (t :: ts) = .ok st1' ∧ Sim st st1' tl1 := by
    rcases tokW_root hw ⟨w2, hs⟩ h63 h33 with k0 | k1
    ·have hst' : Sx.start st0 t = .ok st2 := by unfold Sx.step at hst; rw [if_pos k0] at hst; exact hst
     have hsw : ∀ st, Sx.step st t = Sx.start st t := fun st => by unfold Sx.step; rw [if_pos k0]
     rcases sim_start hsim hst' with ⟨x, a, b⟩ | ⟨st2', a, b, c⟩
     ·exact .inl ⟨x, by rw [run, hsw, a], b⟩
     ·rcases sim_run b hi c (fun u hu => ht u (List.mem_cons_of_mem _ hu)) hrun with ⟨x, d, e⟩ | ⟨s1, tl, d, e⟩
      ·exact .inl ⟨x, by rw [run, hsw, a]; exact d, e⟩
      ·exact .inr ⟨s1, tl, by rw [run, hsw, a]; exact d, e⟩
    ·unfold Sx.step at hst
     rw [if_neg (by omega), if_pos k1] at hst
     cases hst
   rcases key with ⟨x, a, b⟩ | ⟨s1, tl, a, b⟩
   ·left
    rw [a]
    exact ⟨bump 3 x, rfl, b⟩
   ·right
    rw [a]
    refine ⟨tl, ?_⟩
    have hend : run s1 [tE] = .ok (closeSt s1) := by
     have : Sx.step s1 tE = .ok (closeSt s1) := by
      unfold Sx.step
      rw [if_neg (by omega), if_pos hE1]
      unfold Sx.end_
      rw [b.op, ho, hE2]
      rfl
     rw [run, this]
     rfl
    show (match run s1 [tE] with | .error x => Except.error x | .ok st => if st.open_ = [] ∧ st.rooted = true then Except.ok st.evs else Except.error (_, 50)) = _
    rw [hend]
    have hcl : closeSt s1 = ⟨[], s1.scope.take 0, s1.evs ++ [evW1], s1.rooted⟩ := by
     unfold closeSt
     rw [b.op, ho]
     show (⟨[], s1.scope.take 0, putEv s1.evs evW1, s1.rooted⟩ : St) = _
     rw [put_other (by simp [evW1])]
    dsimp only
    rw [hcl]
    dsimp only
    rw [if_pos ⟨rfl, b.ro⟩, b.ev, hev]
/-- A text that is well-formed has more than one byte. -/
theorem parse_long {s : L} {evs : List Ev} (h : Sx.parse s = .ok evs) : 1 < s.length := by
 obtain ⟨ts, st, hrow, hrun, ho, hro, hev⟩ := row_parse h
 apply Nat.lt_of_not_le
 intro hle
 cases hrow with
 | nil =>
  simp only [run, Except.ok.injEq] at hrun
  subst hrun
  cases hro
 | cons _ w t w2 _ ts hw hf hk hr2 =>
  have h1 := List.length_pos_iff.2 hw.ne
  rw [List.length_append] at hle
  have h2 : w2 = [] := List.eq_nil_of_length_eq_zero (by omega)
  subst h2
  have hts : ts = [] := by
   have := row_len hr2
   exact List.eq_nil_of_length_eq_zero (by simpa using this)
  subst hts
  have hk2 : t.kind = 2 := by
   cases hw with
   | start _ nm wa as_ e hn h0 ha => have := List.length_pos_iff.2 h0; simp only [List.length_cons, List.length_append, List.length_nil] at hle; omega
   | end_ => simp at hle
   | text => rfl
   | data => simp [sData] at hle
   | comment => simp [sComment] at hle
   | decl => simp [sXml] at hle
   | instr => simp at hle
  simp only [run] at hrun
  have : Sx.step st0 t = .ok st0 ∨ ∃ x, Sx.step st0 t = .error x := by
   unfold Sx.step Sx.text
   rw [if_neg (by omega), if_neg (by omega), if_pos hk2, if_pos (show st0.open_ = [] from rfl)]
   split
   ·exact .inl rfl
   ·exact .inr ⟨_, rfl⟩
  rcases this with e | ⟨x, e⟩
  ·rw [e] at hrun
   simp only [Except.ok.injEq] at hrun
   subst hrun
   cases hro
  ·rw [e] at hrun; cases hrun
end Go.Proofs.YtbbpkcddifmieaaGreatDoor
namespace Go.Proofs.YtbbpkcddifmieaaGreatDoor
open Go.RowKit Tk Sx

set_option maxRecDepth 100000 in
set_option maxHeartbeats 32000000 in
theorem sameEvents_any (w : World) (B : Nat) (A A' : Option Addr) (c c' : Nat) (xs ys : List Ew) (h : EvL w B A xs) (h' : EvL w B A' ys) (he : xs.map (·.e) = ys.map (·.e)) (hn : xs.length ≤ 1000000000) (hna : ∀ x ∈ xs, x.e.attrs.length ≤ 1000000000) (hB : B ≤ w.heap.size) :
  Calls Tryz.prog 15 #[.slice A xs.length c, .slice A' ys.length c'] w fun e w' => e = .returned (.bool true) ∧ Below w.heap.size w w' := by
 have HX := hide h
 have HY := hide h'
 have HE := hide he
 have HNa := hide hna
 have hl : ys.length = xs.length := by have := congrArg List.length he; simpa using this.symm
 obtain ⟨N, hN⟩ : ∃ N, xs.length = N := ⟨_, rfl⟩
 rw [hl]
 rw [hN] at hn hl ⊢
 have HN := hide hN
 have HNy := hide hl
 have HB := hide hB
 clear h h' he hna hN hl hB
 go_enter Tryz.func15, Tryz.ntmps15
 go_wp2
 go_loopg [5] N (fun gk vk wr => ∃ k : Nat, gk = N - k ∧ k ≤ N ∧ vk = .int .i64 (k : Int) ∧ Below w.heap.size w wr)
 case atStart => exact ⟨0, rfl, by omega, rfl, Below.refl _ _⟩
 case round =>
  obtain ⟨k, hgk, hk, rfl, hb⟩ := hrel
  have Hg := hide hgk
  have Hb := hide hb
  clear hgk hb
  by_cases hlt : k < N
  ·obtain ⟨x, hx⟩ : ∃ x, xs[k]? = some x := ⟨_, List.getElem?_eq_getElem (by rw [HN.out]; exact hlt)⟩
   obtain ⟨y, hy⟩ : ∃ y, ys[k]? = some y := ⟨_, List.getElem?_eq_getElem (by rw [HNy.out]; exact hlt)⟩
   have hxy : y.e = x.e := by
    have h1 : (xs.map (·.e))[k]? = some x.e := by rw [List.getElem?_map, hx]; rfl
    have h2 : (ys.map (·.e))[k]? = some y.e := by rw [List.getElem?_map, hy]; rfl
    rw [HE.out, h2] at h1
    exact Option.some.inj h1
   have bB := hide (Hb.out.mono HB.out)
   obtain ⟨b, off, rfl, hbl, hat⟩ := HX.out.at_ hx
   obtain ⟨b', off', rfl, hbl', hat'⟩ := HY.out.at_ hy
   have x0 := (bB.out.cell (p := ⟨b, off + k * 5, none⟩) hbl).trans hat.c0
   have x1 := (bB.out.cell (p := ⟨b, off + k * 5 + 1, none⟩) hbl).trans hat.c1
   have x2 := (bB.out.cell (p := ⟨b, off + k * 5 + 2, none⟩) hbl).trans hat.c2
   have x3 := (bB.out.cell (p := ⟨b, off + k * 5 + 3, none⟩) hbl).trans hat.c3
   have x4 := (bB.out.cell (p := ⟨b, off + k * 5 + 4, none⟩) hbl).trans hat.c4
   have y0 := (bB.out.cell (p := ⟨b', off' + k * 5, none⟩) hbl').trans hat'.c0
   have y1 := (bB.out.cell (p := ⟨b', off' + k * 5 + 1, none⟩) hbl').trans hat'.c1
   have y2 := (bB.out.cell (p := ⟨b', off' + k * 5 + 2, none⟩) hbl').trans hat'.c2
   have y3 := (bB.out.cell (p := ⟨b', off' + k * 5 + 3, none⟩) hbl').trans hat'.c3
   have y4 := (bB.out.cell (p := ⟨b', off' + k * 5 + 4, none⟩) hbl').trans hat'.c4
   rw [hxy] at y0 y1 y2 y3 y4
   have X3 := fun W (hW : Below B w W) => (hW.cell (p := ⟨b, off + k * 5 + 3, none⟩) hbl).trans hat.c3
   have Y3 := fun W (hW : Below B w W) => (hW.cell (p := ⟨b', off' + k * 5 + 3, none⟩) hbl').trans hat'.c3
   rw [hxy] at Y3
   have hsx := HX.out.sub x (List.mem_of_getElem? hx)
   have hsy := HY.out.sub y (List.mem_of_getElem? hy)
   rw [hxy] at hsy
   have HSx := hide hsx
   have HSy := hide hsy
   have hna := HNa.out x (List.mem_of_getElem? hx)
   obtain ⟨as_, has⟩ : ∃ as_, x.e.attrs = as_ := ⟨_, rfl⟩
   rw [has] at x3 y3 X3 Y3 hna HSx HSy
   obtain ⟨na, hnn⟩ : ∃ na, as_.length = na := ⟨_, rfl⟩
   rw [hnn] at x3 y3 X3 Y3 hna HSx HSy
   have HX3 := hide X3
   have HY3 := hide Y3
   have Hnn := hide hnn
   generalize bstr x.e.name.ns = s1 at *
   generalize bstr x.e.name.loc = s2 at *
   generalize bstr x.e.text = s4 at *
   generalize x.e.kind = kd at *
   generalize x.A = xA at *
   generalize y.A = yA at *
   generalize x.c = xc at *
   generalize y.c = yc at *
   clear X3 Y3 hat hat' hx hy hxy hsx hsy has hnn
   go_wp2
   go_quiet (fail)
   go_wp2
   clear x0 x1 x2 x3 x4 y0 y1 y2 y3 y4
   go_loopg [6] na (fun gk vj wr2 => ∃ j : Nat, gk = na - j ∧ j ≤ na ∧ vj = .int .i64 (j : Int) ∧ Below w.heap.size w wr2)
   case atStart => exact ⟨0, rfl, by omega, rfl, by first | exact Hb.out | exact below_drewN Hb.out _⟩
   case round =>
    obtain ⟨j, hgk2, hj, rfl, hb2⟩ := hrel
    have Hg2 := hide hgk2
    have Hb2 := hide hb2
    have bB2 := hide (hb2.mono HB.out)
    clear hgk2 hb2
    have x3 := HX3.out wr bB2.out
    have y3 := HY3.out wr bB2.out
    by_cases hlj : j < na
    ·obtain ⟨a, ha⟩ : ∃ a, as_[j]? = some a := ⟨_, List.getElem?_eq_getElem (by rw [Hnn.out]; exact hlj)⟩
     have r1 := HSx.out.below bB2.out
     have r2 := HSy.out.below bB2.out
     rw [← Hnn.out] at r1 r2
     obtain ⟨ab, ao, rfl, _, ta⟩ := atts_at r1 ha
     obtain ⟨ab', ao', rfl, _, ta'⟩ := atts_at r2 ha
     obtain ⟨u0, u1, u2⟩ := ta
     obtain ⟨v0, v1, v2⟩ := ta'
     generalize bstr a.name.ns = t1 at *
     generalize bstr a.name.loc = t2 at *
     generalize bstr a.val = t3 at *
     clear ha r1 r2
     go_wp2
     go_quiet (fail)
     go_wp2
     go_roundg (na - (j + 1))
     case measure => have := Hg2.out; omega
     case rel => exact ⟨j + 1, rfl, by omega, by first | rfl | go_num, below_drewN Hb2.out _⟩
    ·go_wp2
     go_roundg (N - (k + 1))
     case measure => have := Hg.out; omega
     case rel => exact ⟨k + 1, rfl, by omega, by first | rfl | go_num, Hb2.out⟩
  ·go_wp2
   go_ret
   exact ⟨rfl, Hb.out⟩
end Go.Proofs.YtbbpkcddifmieaaGreatDoor
