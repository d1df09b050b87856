/- Plain: a parse's events balance; where a parse is wrong lies within the text; no program in sight. -/
import Derived.Test.YtaickkaoglohgaaBv18
set_option linter.unusedSimpArgs false
set_option linter.unusedVariables false
namespace Go.Proofs.Ytaickkaoglohgaa
open Tk Sx

/-- What is open behind an event. -/
def opnS (o : List Nm) (e : Ev) : List Nm := if e.kind = 0 then o ++ [e.name] else if e.kind = 1 then o.dropLast else o
def opn : List Nm → List Ev → List Nm
  | o, [] => o
  | o, e :: r => opn (opnS o e) r
theorem opn_app : ∀ (l : List Ev) (o : List Nm) (r : List Ev), opn o (l ++ r) = opn (opn o l) r
  | [], _, _ => rfl
  | e :: l, o, r => opn_app l (opnS o e) r
theorem opn_snoc (l : List Ev) (o : List Nm) (e : Ev) : opn o (l ++ [e]) = opnS (opn o l) e := opn_app l o [e]
/-- An event that may stand there. -/
def GoodE (o : List Nm) (k : Nat) (prev : Option Ev) (e : Ev) : Prop :=
  (e.kind = 0 ∧ (o = [] → k = 0) ∧ o.length < 16 ∧ e.attrs.length ≤ 16 ∧ e.name.loc ≠ []) ∨ (e.kind = 1 ∧ o.getLast? = some e.name) ∨ (e.kind = 2 ∧ o ≠ [] ∧ e.text ≠ [] ∧ fine e.text = true ∧ ∃ p, prev = some p ∧ p.kind ≠ 2)
def Bal (evs : List Ev) : Prop := ∀ k e, evs[k]? = some e → GoodE (opn [] (evs.take k)) k (evs[k - 1]?) e
theorem bal_nil : Bal [] := fun k e h => by cases h
theorem bal_snoc {evs : List Ev} {e : Ev} (h : Bal evs) (hg : GoodE (opn [] evs) evs.length (evs.getLast?) e) : Bal (evs ++ [e]) := by
  intro k x hx
  by_cases hk : k < evs.length
  · rw [List.getElem?_append_left hk] at hx
    have := h k x hx
    rw [List.take_append_of_le_length (by omega), List.getElem?_append_left (by omega)]
    exact this
  · have hk2 : k = evs.length := by
      have := (List.getElem?_eq_some_iff.1 hx).1
      rw [List.length_append] at this
      simp at this
      omega
    subst hk2
    rw [List.getElem?_append_right (Nat.le_refl _), Nat.sub_self] at hx
    simp only [List.getElem?_cons_zero, Option.some.injEq] at hx
    subst hx
    rw [List.take_left]
    rcases hg with hg | hg | ⟨h1, h2, h3, h4, p, h5, h6⟩
    · exact .inl hg
    · exact .inr (.inl hg)
    · refine .inr (.inr ⟨h1, h2, h3, h4, p, ?_, h6⟩)
      have hne : evs ≠ [] := fun e => by rw [e] at h5; cases h5
      have := List.length_pos_iff.2 hne
      rw [List.getElem?_append_left (by omega), ← List.getLast?_eq_getElem?]
      exact h5
theorem bal_text {ys : List Ev} {y : Ev} {x : L} (h : Bal (ys ++ [y])) (hy : y.kind = 2) (hx : fine x = true) : Bal (ys ++ [⟨2, y.name, y.attrs, y.text ++ x⟩]) := by
  intro k z hz
  by_cases hk : k < ys.length
  · rw [List.getElem?_append_left hk] at hz
    have := h k z (by rw [List.getElem?_append_left hk]; exact hz)
    rw [List.take_append_of_le_length (by omega), List.getElem?_append_left (by omega)] at this ⊢
    exact this
  · have hk2 : k = ys.length := by
      have := (List.getElem?_eq_some_iff.1 hz).1
      rw [List.length_append] at this
      simp at this
      omega
    subst hk2
    rw [List.getElem?_append_right (Nat.le_refl _), Nat.sub_self] at hz
    simp only [List.getElem?_cons_zero, Option.some.injEq] at hz
    subst hz
    have := h ys.length y (by rw [List.getElem?_append_right (Nat.le_refl _), Nat.sub_self]; rfl)
    rw [List.take_left] at this ⊢
    rcases this with ⟨h1, _⟩ | ⟨h1, _⟩ | ⟨h1, h2, h3, h4, p, h5, h6⟩
    · omega
    · omega
    · have hne : ys ≠ [] := fun e => by rw [e] at h2; exact h2 rfl
      have hpos := List.length_pos_iff.2 hne
      refine .inr (.inr ⟨rfl, h2, by simp [h3], fine_both h4 hx, p, ?_, h6⟩)
      rw [List.getElem?_append_left (by omega)] at h5 ⊢
      exact h5
/-- A parse whose events balance. -/
structure Inv (st : St) : Prop where
  bal : Bal st.evs
  op : opn [] st.evs = st.open_.map (·.name)
  no : st.rooted = false → st.evs = [] ∧ st.open_ = []
  yes : st.rooted = true → st.evs ≠ []
  few : st.open_.length ≤ 16
theorem inv0 : Inv st0 := ⟨bal_nil, rfl, fun _ => ⟨rfl, rfl⟩, fun h => (by cases h), by simp [st0]⟩
theorem inv_text {st : St} {x : L} (h : Inv st) (ho : st.open_ ≠ []) (hx : fine x = true) : Inv (putSt st x) := by
  have hro : st.rooted = true := by
    cases hr : st.rooted with
    | true => rfl
    | false => exact absurd (h.no hr).2 ho
  have hon : opn [] st.evs ≠ [] := by rw [h.op]; simpa using ho
  rcases List.eq_nil_or_concat st.evs with he | ⟨ys, y, he⟩
  · exact absurd he (h.yes hro)
  rw [List.concat_eq_append] at he
  have hb := h.bal
  have hop := h.op
  rw [he] at hb hop hon
  have key : ∀ evs, putEv st.evs (textEv x) = evs → Bal evs → opn [] evs = st.open_.map (·.name) → evs ≠ [] → Inv (putSt st x) := fun evs e1 e2 e3 e4 => by
    refine ⟨?_, ?_, ?_, ?_, h.few⟩
    · show Bal (putEv st.evs (textEv x)); rw [e1]; exact e2
    · show opn [] (putEv st.evs (textEv x)) = _; rw [e1]; exact e3
    · intro hr; rw [show (putSt st x).rooted = true from hro] at hr; cases hr
    · intro _; show putEv st.evs (textEv x) ≠ []; rw [e1]; exact e4
  by_cases hy : y.kind = 2
  · refine key _ (by rw [he]; exact put_text rfl hy) (bal_text hb hy hx) ?_ (by simp)
    rw [opn_snoc] at hop ⊢
    have e1 : ∀ z : Ev, z.kind = 2 → ∀ o, opnS o z = o := fun z hz o => by unfold opnS; rw [if_neg (by omega), if_neg (by omega)]
    rw [e1 y hy] at hop
    rw [e1 _ rfl]
    exact hop
  · by_cases hx0 : x = []
    · refine key (ys ++ [y]) (by rw [he, put_behind rfl hy]; exact if_pos hx0) hb hop (by simp)
    · refine key (ys ++ [y] ++ [textEv x]) (by rw [he, put_behind rfl hy]; exact if_neg hx0) (bal_snoc hb ?_) ?_ (by simp)
      · exact .inr (.inr ⟨rfl, hon, hx0, hx, y, by simp, hy⟩)
      · rw [opn_snoc, hop]
        rfl
theorem inv_close {st : St} (h : Inv st) (ho : st.open_ ≠ []) : Inv (closeSt st) := by
  rcases List.eq_nil_or_concat st.open_ with he | ⟨ys, y, he⟩
  · exact absurd he ho
  rw [List.concat_eq_append] at he
  have hc : closeSt st = ⟨ys, st.scope.take y.scope, st.evs ++ [⟨1, y.name, [], []⟩], st.rooted⟩ := by
    unfold closeSt
    rw [he, List.getLast?_append, List.getLast?_singleton]
    simp only [Option.some_or, List.dropLast_concat]
    rw [put_other (by simp)]
  have hop := h.op
  rw [he, List.map_append] at hop
  rw [hc]
  refine ⟨bal_snoc h.bal (.inr (.inl ⟨rfl, by rw [hop]; simp⟩)), ?_, fun hr => ?_, fun _ => by simp, ?_⟩
  · show opn [] (st.evs ++ [_]) = _
    rw [opn_snoc, hop]
    unfold opnS
    rw [if_neg (by simp), if_pos rfl]
    simp
  · exact absurd (h.no hr).2 ho
  · have := h.few
    rw [he, List.length_append] at this
    show ys.length ≤ 16
    simp at this
    omega
theorem split_loc {l : L} {p : L × L} (h : split l = some p) : p.2 ≠ [] := by
  have hp : ∀ {q : L}, plainOk q = true → q ≠ [] := fun {q} hq e => by rw [e] at hq; simp [plainOk] at hq
  unfold split at h
  split at h
  · split at h
    · rename_i hh
      simp only [Option.some.injEq] at h
      rw [← h]
      simp only [Bool.and_eq_true] at hh
      exact hp hh.2
    · cases h
  · split at h
    · rename_i hh
      simp only [Option.some.injEq] at h
      rw [← h]
      exact hp hh
    · cases h
theorem attrsOf_few (sc : List Dcl) (l : List Spl) : (attrsOf sc l).length ≤ l.length := attrsOf_len sc l
theorem early_none {st : St} {t : Tok} (h : Sx.early st t = none) : names t = none ∧ ¬(st.rooted = true ∧ st.open_ = []) ∧ t.attrs.length ≤ 16 ∧ st.open_.length ≠ 16 := by
  unfold Sx.early at h
  cases hn : names t with
  | some a => rw [hn] at h; cases h
  | none =>
    rw [hn] at h
    dsimp only at h
    split at h
    · cases h
    · rename_i h1
      split at h
      · cases h
      · rename_i h2
        split at h
        · cases h
        · rename_i h3
          refine ⟨rfl, fun hh => h1 ?_, by omega, h3⟩
          rw [hh.1, hh.2]
          rfl
theorem inv_start {st st' : St} {t : Tok} (h : Inv st) (hs : Sx.start st t = .ok st') : Inv st' := by
  unfold Sx.start at hs
  cases he : Sx.early st t with
  | some b => rw [he] at hs; cases hs
  | none =>
    rw [he] at hs
    obtain ⟨e1, e2, e3, e4⟩ := early_none he
    dsimp only at hs
    rw [late_is] at hs
    cases hb : b3 st t with
    | some a => rw [hb] at hs; cases hs
    | none =>
      rw [hb] at hs
      dsimp only at hs
      rw [← started_is hb] at hs
      have hloc : locOf t ≠ [] := by
        unfold names at e1
        split at e1
        · cases e1
        · rename_i hn
          cases hsp : split t.name with
          | none => rw [hsp] at hn; simp at hn
          | some p => unfold locOf; rw [hsp]; exact split_loc hsp
      have hI : Inv (startedW st t (sc1 st t)) := by
        have hev : (startedW st t (sc1 st t)).evs = st.evs ++ [evOf t (sc1 st t)] := put_other (l := st.evs) (x := evOf t (sc1 st t)) (by simp [evOf])
        have hk : opn [] st.evs = [] → st.evs.length = 0 := fun ho => by
          rw [h.op] at ho
          have ho' : st.open_ = [] := by simpa using ho
          cases hr : st.rooted with
          | true => exact absurd ⟨hr, ho'⟩ e2
          | false => rw [(h.no hr).1]; rfl
        refine ⟨?_, ?_, fun hr => (by cases hr), fun _ => by rw [hev]; simp, ?_⟩
        · rw [hev]
          refine bal_snoc h.bal (.inl ⟨rfl, hk, ?_, ?_, hloc⟩)
          · rw [h.op, List.length_map]; have := h.few; omega
          · have := attrsOf_len (sc1 st t) (splits t)
            rw [show (splits t).length = t.attrs.length from List.length_map _] at this
            show (attrsOf (sc1 st t) (splits t)).length ≤ 16
            omega
        · rw [hev, opn_snoc, h.op]
          show st.open_.map (·.name) ++ [(evOf t (sc1 st t)).name] = (st.open_ ++ [elOf st t (sc1 st t)]).map (·.name)
          rw [List.map_append]
          rfl
        · show (st.open_ ++ [_]).length ≤ 16
          rw [List.length_append]
          have := h.few
          simp
          omega
      cases hte : t.empty with
      | true =>
        rw [hte] at hs
        simp only [if_true, Except.ok.injEq] at hs
        subst hs
        exact inv_close hI (by show st.open_ ++ [_] ≠ []; simp)
      | false =>
        rw [hte] at hs
        simp only [Bool.false_eq_true, if_false, Except.ok.injEq] at hs
        subst hs
        exact hI
theorem inv_step {st st' : St} {t : Tok} (h : Inv st) (hf : fine t.text = true) (hs : Sx.step st t = .ok st') : Inv st' := by
  unfold Sx.step at hs
  split at hs
  · exact inv_start h hs
  split at hs
  · unfold Sx.end_ at hs
    split at hs
    · cases hs
    · rename_i x hx
      split at hs
      · simp only [Except.ok.injEq] at hs
        subst hs
        exact inv_close h (fun e => by rw [e] at hx; cases hx)
      · cases hs
  split at hs
  · unfold Sx.text at hs
    split at hs
    · split at hs
      · simp only [Except.ok.injEq] at hs
        subst hs
        exact h
      · cases hs
    · rename_i ho
      split at hs
      · rename_i x hx
        simp only [Except.ok.injEq] at hs
        subst hs
        exact inv_text h ho (sref_fine _ _ _ _ _ (Nat.le_refl _) (Nat.le_refl _) hf hx)
      · cases hs
  split at hs
  · unfold Sx.data at hs
    split at hs
    · cases hs
    · rename_i ho
      simp only [Except.ok.injEq] at hs
      subst hs
      exact inv_text h ho hf
  · simp only [Except.ok.injEq] at hs
    subst hs
    exact h
theorem inv_run : ∀ {ts : List Tok} {st st' : St}, Inv st → (∀ t ∈ ts, fine t.text = true) → run st ts = .ok st' → Inv st'
  | [], st, st', h, _, hs => by simp only [run, Except.ok.injEq] at hs; subst hs; exact h
  | t :: ts, st, st', h, hf, hs => by
    simp only [run] at hs
    cases hst : Sx.step st t with
    | error x => rw [hst] at hs; cases hs
    | ok st1 =>
      rw [hst] at hs
      exact inv_run (inv_step h (hf t (List.mem_cons_self ..)) hst) (fun u hu => hf u (List.mem_cons_of_mem _ hu)) hs
theorem tokW_fine {at_ : Nat} {w : L} {t : Tok} (h : TokW at_ w t) (hf : fine w = true) : fine t.text = true := by
  cases h with
  | text _ tx => exact hf
  | data _ tx h0 =>
    have e : sData ++ (tx ++ [93, 93, 62]) = [60, 33, 91, 67, 68, 65, 84, 65] ++ 91 :: (tx ++ 93 :: [93, 62]) := rfl
    rw [e] at hf
    exact (fine_split (by decide) (fine_split (by decide) hf).2).1
  | _ => rfl
theorem row_fine {at_ : Nat} {w rest : L} {ts : List Tok} (h : Row at_ w rest ts) : ∀ t ∈ ts, fine t.text = true := by
  induction h with
  | nil => intro t ht; cases ht
  | cons at_ w t w2 rest ts hw hf hk _ ih =>
    intro u hu
    rcases List.mem_cons.1 hu with rfl | hu
    · exact tokW_fine hw hf
    · exact ih u hu
theorem toks_fine (s : L) : ∀ t ∈ toks s.length 0 s, fine t.text = true := by
  obtain ⟨w, rest, _, h, _⟩ := toks_word s.length 0 s (Nat.le_refl _)
  exact row_fine h
theorem parse_balance {s : L} {evs : List Ev} (h : Sx.parse s = .ok evs) : Bal evs ∧ opn [] evs = [] ∧ 2 ≤ evs.length := by
  unfold Sx.parse at h
  split at h
  · cases h
  split at h
  · cases h
  cases hr : run st0 (toks s.length 0 s) with
  | error x => rw [hr] at h; cases h
  | ok st =>
    rw [hr] at h
    dsimp only at h
    split at h
    · rename_i ho
      simp only [Except.ok.injEq] at h
      subst h
      have hI := inv_run inv0 (toks_fine s) hr
      have hop : opn [] st.evs = [] := by rw [hI.op, ho.1]; rfl
      refine ⟨hI.bal, hop, ?_⟩
      have hne := hI.yes ho.2
      match hl : st.evs, hne with
      | [e], _ =>
        have := hI.bal 0 e (by rw [hl]; rfl)
        rw [hl] at hop
        rcases this with ⟨h1, _⟩ | ⟨h1, h2⟩ | ⟨h1, h2, _⟩
        · simp only [opn, opnS, h1, if_true, List.nil_append] at hop
          cases hop
        · rw [List.take_zero] at h2; cases h2
        · rw [List.take_zero] at h2; exact absurd rfl h2
      | _ :: _ :: _, _ => simp
    · cases h
/-- Where a parse may be wrong. -/
structure TokE (n : Nat) (t : Tok) : Prop where
  at_ : t.at_ ≤ n
  ats : ∀ a ∈ t.attrs, a.at_ ≤ n
theorem attrsW_at {off : Nat} {w : L} {as_ : List At} {e : Bool} (h : AttrsW off w as_ e) : ∀ a ∈ as_, a.at_ ≤ off + w.length := by
  induction h with
  | two => intro a ha; cases ha
  | one => intro a ha; cases ha
  | more off b nm v x w as_ e hb h0 hn hn0 hv h60 hw ih =>
    intro a ha
    simp only [List.length_append]
    rcases List.mem_cons.1 ha with rfl | ha
    · show off + b.length ≤ _; omega
    · have := ih a ha; omega
theorem tokW_at {at_ : Nat} {w : L} {t : Tok} (h : TokW at_ w t) : TokE (at_ + w.length) t := by
  refine ⟨by rw [h.at_eq]; omega, ?_⟩
  cases h with
  | start _ nm wa as_ e hn h0 ha =>
    intro a hm
    have := attrsW_at ha a hm
    simp only [List.length_cons, List.length_append]
    omega
  | _ => intro a ha; cases ha
theorem row_at {at_ : Nat} {w rest : L} {ts : List Tok} (h : Row at_ w rest ts) : ∀ t ∈ ts, TokE (at_ + w.length) t := by
  induction h with
  | nil => intro t ht; cases ht
  | cons at_ w t w2 rest ts hw hf hk _ ih =>
    intro u hu
    rw [List.length_append]
    rcases List.mem_cons.1 hu with rfl | hu
    · have := tokW_at hw; exact ⟨by have := this.at_; omega, fun a ha => by have := this.ats a ha; omega⟩
    · have := ih u hu; exact ⟨by have := this.at_; omega, fun a ha => by have := this.ats a ha; omega⟩
def Told (n : Nat) (x : Nat × Nat) : Prop := x.1 ≤ n ∧ (x.2 = 50 ∨ x.2 = 41 ∨ x.2 = 42)
theorem namesAt_le {n : Nat} : ∀ {l : List At} {seen : List L} {a : Nat}, (∀ x ∈ l, x.at_ ≤ n) → namesAt seen l = some a → a ≤ n
  | [], _, _, _, h => by cases h
  | x :: l, seen, a, hl, h => by
    unfold namesAt at h
    split at h
    · simp only [Option.some.injEq] at h; subst h; exact hl x (List.mem_cons_self ..)
    · exact namesAt_le (fun y hy => hl y (List.mem_cons_of_mem _ hy)) h
theorem valsAt_le {n : Nat} : ∀ {l : List At} {a : Nat}, (∀ x ∈ l, x.at_ ≤ n) → valsAt l = some a → a ≤ n
  | [], _, _, h => by cases h
  | x :: l, a, hl, h => by
    unfold valsAt at h
    split at h
    · exact valsAt_le (fun y hy => hl y (List.mem_cons_of_mem _ hy)) h
    · simp only [Option.some.injEq] at h; subst h; exact hl x (List.mem_cons_self ..)
theorem declAt_le {n : Nat} : ∀ {l : List Spl} {a : Nat}, (∀ x ∈ l, x.at_ ≤ n) → Sx.declAt l = some a → a ≤ n
  | [], _, _, h => by cases h
  | x :: l, a, hl, h => by
    unfold Sx.declAt at h
    split at h
    · simp only [Option.some.injEq] at h; subst h; exact hl x (List.mem_cons_self ..)
    · exact declAt_le (fun y hy => hl y (List.mem_cons_of_mem _ hy)) h
theorem attrsAt_le {n : Nat} {sc : List Dcl} : ∀ {l : List Spl} {seen : List Nm} {a : Nat}, (∀ x ∈ l, x.at_ ≤ n) → attrsAt sc seen l = some a → a ≤ n
  | [], _, _, _, h => by cases h
  | x :: l, seen, a, hl, h => by
    unfold attrsAt at h
    split at h
    · exact attrsAt_le (fun y hy => hl y (List.mem_cons_of_mem _ hy)) h
    · split at h
      · simp only [Option.some.injEq] at h; subst h; exact hl x (List.mem_cons_self ..)
      · exact attrsAt_le (fun y hy => hl y (List.mem_cons_of_mem _ hy)) h
theorem splits_at {n : Nat} {t : Tok} (h : TokE n t) : ∀ s ∈ splits t, s.at_ ≤ n := by
  intro s hs
  obtain ⟨a, ha, rfl⟩ := List.mem_map.1 hs
  exact h.ats a ha
theorem start_told {n : Nat} {st : St} {t : Tok} {x : Nat × Nat} (h : TokE n t) (hs : Sx.start st t = .error x) : Told n x := by
  unfold Sx.start at hs
  cases he : Sx.early st t with
  | some b =>
    rw [he] at hs
    simp only [Except.error.injEq] at hs
    subst hs
    unfold Sx.early at he
    cases hn : names t with
    | some a =>
      rw [hn] at he
      simp only [Option.some.injEq] at he
      subst he
      unfold names at hn
      split at hn
      · simp only [Option.some.injEq] at hn; subst hn; exact ⟨h.at_, .inl rfl⟩
      · exact ⟨namesAt_le h.ats hn, .inl rfl⟩
    | none =>
      rw [hn] at he
      dsimp only at he
      split at he
      · simp only [Option.some.injEq] at he; subst he; exact ⟨h.at_, .inl rfl⟩
      · split at he
        · simp only [Option.some.injEq] at he; subst he; exact ⟨h.at_, .inr (.inr rfl)⟩
        · split at he
          · simp only [Option.some.injEq] at he; subst he; exact ⟨h.at_, .inr (.inl rfl)⟩
          · cases he
  | none =>
    rw [he] at hs
    dsimp only at hs
    cases hl : late st t with
    | none => rw [hl] at hs; cases hs
    | some a =>
      rw [hl] at hs
      simp only [Except.error.injEq] at hs
      subst hs
      refine ⟨?_, .inl rfl⟩
      unfold late at hl
      split at hl
      · rename_i hv; simp only [Option.some.injEq] at hl; subst hl; exact valsAt_le h.ats hv
      · split at hl
        · rename_i hd; simp only [Option.some.injEq] at hl; subst hl; exact declAt_le (splits_at h) hd
        · split at hl
          · simp only [Option.some.injEq] at hl; subst hl; exact h.at_
          · exact attrsAt_le (splits_at h) hl
theorem step_told {n : Nat} {st : St} {t : Tok} {x : Nat × Nat} (h : TokE n t) (hs : Sx.step st t = .error x) : Told n x := by
  have key : ∀ {y : Nat × Nat}, (.error (t.at_, 50) : Except (Nat × Nat) St) = .error y → Told n y := fun {y} e => by
    simp only [Except.error.injEq] at e
    subst e
    exact ⟨h.at_, .inl rfl⟩
  unfold Sx.step at hs
  split at hs
  · exact start_told h hs
  split at hs
  · unfold Sx.end_ at hs
    split at hs
    · exact key hs
    · split at hs
      · cases hs
      · exact key hs
  split at hs
  · unfold Sx.text at hs
    split at hs
    · split at hs
      · cases hs
      · exact key hs
    · split at hs
      · cases hs
      · exact key hs
  split at hs
  · unfold Sx.data at hs
    split at hs
    · exact key hs
    · cases hs
  · cases hs
theorem run_told {n : Nat} : ∀ {ts : List Tok} {st : St} {x : Nat × Nat}, (∀ t ∈ ts, TokE n t) → run st ts = .error x → Told n x
  | [], _, _, _, h => by cases h
  | t :: ts, st, x, ht, h => by
    simp only [run] at h
    cases hs : Sx.step st t with
    | error y =>
      rw [hs] at h
      simp only [Except.error.injEq] at h
      subst h
      exact step_told (ht t (List.mem_cons_self ..)) hs
    | ok st1 => rw [hs] at h; exact run_told (fun u hu => ht u (List.mem_cons_of_mem _ hu)) h
theorem bad_le {s : L} (h : 0 ≤ bad s) : (bad s).toNat ≤ s.length := by
  unfold bad at h ⊢
  cases hs : stop (fun _ r => charOk r) s with
  | none => rw [hs] at h; simp at h
  | some k =>
    dsimp only
    have := stop_lt hs
    omega
theorem parse_told {s : L} {x : Nat × Nat} (h : Sx.parse s = .error x) : Told s.length x := by
  obtain ⟨w, rest, hw, hrow, _⟩ := toks_word s.length 0 s (Nat.le_refl _)
  have hwl : w.length ≤ s.length := by rw [hw, List.length_append]; omega
  unfold Sx.parse at h
  split at h
  · rename_i hb
    simp only [Except.error.injEq] at h
    subst h
    exact ⟨bad_le hb, .inl rfl⟩
  split at h
  · simp only [Except.error.injEq] at h
    subst h
    refine ⟨?_, .inl rfl⟩
    have hc := hrow.chain
    have he := ends_all hc
    unfold ends at he
    rw [List.take_length] at he
    show tokEnd _ ≤ _
    unfold tokEnd
    omega
  cases hr : run st0 (toks s.length 0 s) with
  | error y =>
    rw [hr] at h
    simp only [Except.error.injEq] at h
    subst h
    exact run_told (fun t ht => by
      have := row_at hrow t ht
      exact ⟨by have := this.at_; omega, fun a ha => by have := this.ats a ha; omega⟩) hr
  | ok st =>
    rw [hr] at h
    dsimp only at h
    split at h
    · cases h
    · simp only [Except.error.injEq] at h
      subst h
      exact ⟨Nat.le_refl _, .inl rfl⟩
/-- What a parse gives is within bounds. -/
theorem ok_run : ∀ {ts : List Tok} {st st' : St} {n M V N : Nat}, OkS st n M V → (∀ t ∈ ts, TokS N t) → 4 * N ≤ V → run st ts = .ok st' → OkS st' (n + 18 * ts.length) (M + 4 * N * ts.length) V
  | [], st, st', n, M, V, N, h, _, _, hs => by
    simp only [run, Except.ok.injEq] at hs
    subst hs
    exact h
  | t :: ts, st, st', n, M, V, N, h, ht, hV, hs => by
    simp only [run] at hs
    cases hst : Sx.step st t with
    | error x => rw [hst] at hs; cases hs
    | ok st1 =>
      rw [hst] at hs
      have h1 := ok_step h (ht t (List.mem_cons_self ..)) hV hst
      have h2 := ok_run h1 (fun u hu => ht u (List.mem_cons_of_mem _ hu)) hV hs
      have e1 : n + 18 + 18 * ts.length = n + 18 * (t :: ts).length := by rw [List.length_cons]; omega
      have e2 : M + 4 * N + 4 * N * ts.length = M + 4 * N * (t :: ts).length := by rw [List.length_cons, Nat.mul_succ]; omega
      rw [e1, e2] at h2
      exact h2
theorem okS0 (V : Nat) : OkS st0 0 0 V := ⟨⟨by simp [st0], by simp [st0], by simp [st0], by simp [st0], by simp [st0], by simp [st0]⟩, by simp [st0]⟩
theorem toks_small (s : L) : (∀ t ∈ toks s.length 0 s, TokS s.length t) ∧ (toks s.length 0 s).length ≤ s.length := by
  obtain ⟨w, rest, hw, h, _⟩ := toks_word s.length 0 s (Nat.le_refl _)
  have hl : w.length ≤ s.length := by rw [hw, List.length_append]; omega
  exact ⟨fun t ht => (row_small h t ht).more hl, Nat.le_trans (row_len h) hl⟩
theorem parse_small {s : L} {evs : List Ev} {N : Nat} (h : Sx.parse s = .ok evs) (hN : s.length ≤ N) : evs.length ≤ 18 * N ∧ ∀ e ∈ evs, e.text.length ≤ 4 * N * N := by
  unfold Sx.parse at h
  split at h
  · cases h
  split at h
  · cases h
  cases hr : run st0 (toks s.length 0 s) with
  | error x => rw [hr] at h; cases h
  | ok st =>
    rw [hr] at h
    dsimp only at h
    split at h
    · simp only [Except.ok.injEq] at h
      subst h
      obtain ⟨t1, t2⟩ := toks_small s
      have hk := ok_run (okS0 (4 * N)) (fun t ht => (t1 t ht).more hN) (Nat.le_refl _) hr
      have hl : (toks s.length 0 s).length ≤ N := Nat.le_trans t2 hN
      refine ⟨?_, fun e he => ?_⟩
      · have := hk.ok.ev; omega
      · have h1 := hk.ok.tx e he
        have h2 : 4 * N * (toks s.length 0 s).length ≤ 4 * N * N := Nat.mul_le_mul_left _ hl
        omega
    · cases h
end Go.Proofs.Ytaickkaoglohgaa
