/- Tokens in plain data: a text's row of tokens: cut off at an end, with a comment between two, written and read again; no program in sight. · Tokens: a list of tokens in memory, each with a row of attributes of its own. · Tokens in memory, wherever they lie. · Strict: what a prefix stands for in a scope: the program's Space and the document's. -/
import Derived.Test.YtaickkaoglohgaaBv03
import Derived.Test.YtaickkaoglohgaaBv05
import Derived.Test.YtaickkaoglohgaaBv06
import Derived.Test.YtaickkaoglohgaaBv07
import Derived.Deep.QuietTactic
import Derived.BigQuiet
import Derived.Deep.LoopGhost
import Derived.WalkSpells
import Derived.WalkLawsBesides
set_option linter.unusedSimpArgs false
set_option linter.unusedVariables false
namespace Go.Proofs.Ytaickkaoglohgaa
namespace Tk

/-- What All tells of a text. -/
def AllP (s : L) (ts : List Tok) (e : Nat) (ok : Bool) : Prop :=
  if Utf.valid s = true then ∃ w rest, s = w ++ rest ∧ Row 0 w rest ts ∧ (rest = [] ∨ Tk.one w.length rest = none) ∧ e = w.length ∧ ok = rest.isEmpty
  else ts = [] ∧ e = 0 ∧ ok = false
theorem AllP.unique {s : L} {ts ts' : List Tok} {e e' : Nat} {ok ok' : Bool} (h : AllP s ts e ok) (k : AllP s ts' e' ok') : ts = ts' ∧ e = e' ∧ ok = ok' := by
  unfold AllP at h k
  split at h
  · rename_i hv
    rw [if_pos hv] at k
    obtain ⟨w, rest, rfl, h1, h2, rfl, rfl⟩ := h
    obtain ⟨w', rest', e, k1, k2, rfl, rfl⟩ := k
    have t1 := toks_row h1 (by rw [Nat.zero_add]; exact h2) (w ++ rest).length (Nat.le_refl _)
    have t2 := toks_row k1 (by rw [Nat.zero_add]; exact k2) (w ++ rest).length (by rw [e]; exact Nat.le_refl _)
    rw [← e, t1] at t2
    subst t2
    have c1 := h1.chain
    have c2 := k1.chain
    have ce : ∀ (l : List Tok) (n a b : Nat), Chain n l a → Chain n l b → a = b := by
      intro l
      induction l with
      | nil => intro n a b h k; exact h.symm.trans k
      | cons t l ih => intro n a b h k; exact ih _ _ _ h.2.2 k.2.2
    have hl := ce _ _ _ _ c1 c2
    rw [Nat.zero_add, Nat.zero_add] at hl
    have := congrArg List.length e
    simp only [List.length_append] at this
    refine ⟨rfl, hl, ?_⟩
    have hr : rest.length = rest'.length := by omega
    cases rest <;> cases rest' <;> first | rfl | simp at hr
  · rename_i hv
    rw [if_neg hv] at k
    obtain ⟨rfl, rfl, rfl⟩ := h
    obtain ⟨rfl, rfl, rfl⟩ := k
    exact ⟨rfl, rfl, rfl⟩
theorem AllP.len {s : L} {ts : List Tok} {e : Nat} {ok : Bool} (h : AllP s ts e ok) : e ≤ s.length ∧ Chain 0 ts e ∧ ok = (decide (e = s.length) && Utf.valid s) := by
  unfold AllP at h
  split at h
  · rename_i hv
    obtain ⟨w, rest, rfl, h1, h2, rfl, rfl⟩ := h
    refine ⟨by rw [List.length_append]; omega, by simpa using h1.chain, ?_⟩
    rw [hv, Bool.and_true]
    cases rest <;> simp
  · rename_i hv
    obtain ⟨rfl, rfl, rfl⟩ := h
    rw [Bool.eq_false_iff.2 hv]
    exact ⟨Nat.zero_le _, rfl, by simp⟩
theorem Row.valid {at_ : Nat} {w rest : L} {ts : List Tok} (h : Row at_ w rest ts) : Utf.valid w = true := fine_valid h.fine
/-- A row up to its j-th token. -/
theorem Row.at_j {w rest : L} {ts : List Tok} {at_ : Nat} (h : Row at_ w rest ts) {j : Nat} {t : Tok} (hj : ts[j]? = some t) : ∃ w1 w2, w = w1 ++ w2 ∧ t.end_ = at_ + w1.length ∧ Row at_ w1 (w2 ++ rest) (ts.take (j + 1)) ∧ Row t.end_ w2 rest (ts.drop (j + 1)) := by
  have h' := h
  rw [← List.take_append_drop (j + 1) ts] at h'
  obtain ⟨w1, w2, rfl, h1, h2⟩ := h'.split
  have e : t.end_ = at_ + w1.length := by
    have hl := (List.getElem?_eq_some_iff.1 hj)
    obtain ⟨hl, he⟩ := hl
    have e2 : ts.take (j + 1) = ts.take j ++ [t] := by rw [List.take_add_one, hj]; rfl
    rw [e2] at h1
    obtain ⟨w3, w4, rfl, _, h4⟩ := h1.split
    cases h4 with
    | cons _ w t w2 rest ts hw hf hk hr =>
      cases hr
      rw [hw.end_eq, List.append_nil, List.length_append, Nat.add_assoc]
  exact ⟨w1, w2, rfl, e, h1, by rw [e]; exact h2⟩
theorem cover_cut {s : L} {ts ts' : List Tok} {e e' j : Nat} {ok ok' : Bool} {t : Tok} (h : AllP s ts e ok) (hj : ts[j]? = some t) (k : AllP (s.take t.end_) ts' e' ok') : ok' = true ∧ e' = t.end_ ∧ ts' = ts.take (j + 1) := by
  unfold AllP at h
  split at h
  · obtain ⟨w, rest, rfl, h1, h2, rfl, rfl⟩ := h
    obtain ⟨w1, w2, rfl, e1, h3, _⟩ := h1.at_j hj
    rw [Nat.zero_add] at e1
    have et : (w1 ++ w2 ++ rest).take t.end_ = w1 := by rw [e1, List.append_assoc, List.take_left]
    rw [et] at k
    have := AllP.unique k (ts' := ts.take (j + 1)) (e' := w1.length) (ok' := true) (by
      unfold AllP
      rw [if_pos h3.valid]
      exact ⟨w1, [], (List.append_nil _).symm, h3.rest_ (.inl rfl), .inl rfl, rfl, rfl⟩)
    obtain ⟨h4, h5, h6⟩ := this
    exact ⟨h6, by rw [h5, e1], h4⟩
  · obtain ⟨rfl, _, _⟩ := h
    simp at hj
/-- A token farther on. -/
def At.shift (d : Nat) (a : At) : At := ⟨a.name, a.value, a.at_ + d⟩
def Tok.shift (d : Nat) (t : Tok) : Tok := ⟨t.kind, t.name, t.attrs.map (At.shift d), t.empty, t.text, t.at_ + d, t.end_ + d⟩
theorem AttrsW.shift {off : Nat} {w : L} {as_ : List At} {e : Bool} (h : AttrsW off w as_ e) (d : Nat) : AttrsW (off + d) w (as_.map (At.shift d)) e := by
  induction h with
  | two off b hb => exact .two _ b hb
  | one off b hb => exact .one _ b hb
  | more off b nm v x w as_ e hb h0 hn hn0 hv h60 hw ih =>
    have := AttrsW.more (off + d) b nm v x w (as_.map (At.shift d)) e hb h0 hn hn0 hv h60 (by
      rw [show off + d + b.length + nm.length + v.length = off + b.length + nm.length + v.length + d by omega]; exact ih)
    rw [show off + d + b.length = off + b.length + d by omega] at this
    exact this
theorem TokW.shift {at_ : Nat} {w : L} {t : Tok} (h : TokW at_ w t) (h0 : at_ ≠ 0) (d : Nat) : TokW (at_ + d) w (t.shift d) := by
  cases h with
  | start _ nm wa as_ e hn hn0 ha =>
    have := TokW.start (at_ + d) nm wa (as_.map (At.shift d)) e hn hn0 (by rw [show at_ + d + 1 + nm.length = at_ + 1 + nm.length + d by omega]; exact ha.shift d)
    rw [show at_ + d + (60 :: (nm ++ wa)).length = at_ + (60 :: (nm ++ wa)).length + d by omega] at this
    exact this
  | end_ _ nm b hn hn0 hb =>
    have := TokW.end_ (at_ + d) nm b hn hn0 hb
    rw [show at_ + d + (60 :: 47 :: (nm ++ (b ++ [62]))).length = at_ + (60 :: 47 :: (nm ++ (b ++ [62]))).length + d by omega] at this
    exact this
  | text _ _ h1 h2 h3 =>
    have := TokW.text (at_ + d) w h1 h2 h3
    rw [show at_ + d + w.length = at_ + w.length + d by omega] at this
    exact this
  | data _ tx h1 =>
    have := TokW.data (at_ + d) tx h1
    rw [Nat.add_right_comm at_ d] at this
    exact this
  | comment _ c h1 =>
    have := TokW.comment (at_ + d) c h1
    rw [Nat.add_right_comm at_ d] at this
    exact this
  | decl _ _ => exact absurd rfl h0
  | instr _ nm y h1 h2 =>
    have := TokW.instr (at_ + d) nm y h1 (fun e => by omega)
    rw [show at_ + d + (60 :: 63 :: (nm ++ (y ++ [63, 62]))).length = at_ + (60 :: 63 :: (nm ++ (y ++ [63, 62]))).length + d by omega] at this
    exact this
theorem Row.shift {at_ : Nat} {w rest : L} {ts : List Tok} (h : Row at_ w rest ts) (h0 : at_ ≠ 0) (d : Nat) : Row (at_ + d) w rest (ts.map (Tok.shift d)) := by
  induction h with
  | nil at_ rest => exact .nil _ _
  | cons at_ w t w2 rest ts hw hf hk _ ih =>
    refine .cons _ _ _ _ _ _ (hw.shift h0 d) hf hk ?_
    rw [show at_ + d + w.length = at_ + w.length + d by omega]
    exact ih (by omega)
/-- Two dashes within, or one at the end. -/
def dashes : L → Bool
  | [] => false
  | [a] => a == 45
  | a :: b :: r => (a == 45 && b == 45) || dashes (b :: r)
theorem till_dashes : ∀ c : L, (till [45, 45] (c ++ [45, 45]) = some c.length ∧ dashes c = false) ∨ ((∃ k, k < c.length ∧ till [45, 45] (c ++ [45, 45]) = some k) ∧ dashes c = true) := by
  intro c
  induction c with
  | nil => left; exact ⟨by decide, rfl⟩
  | cons a c ih =>
    have hstep : ∀ {n : Nat}, ([45, 45] : L).isPrefixOf (a :: (c ++ [45, 45])) = false → till [45, 45] (c ++ [45, 45]) = some n → till [45, 45] (a :: c ++ [45, 45]) = some (n + 1) := by
      intro n hp hn
      rw [till_iff] at hn ⊢
      rw [List.cons_append]
      unfold Lib.index
      rw [hp, hn]
      have : ((n : Int) == -1) = false := by rw [beq_eq_false_iff_ne]; omega
      simp [this]
    have hhere : ([45, 45] : L).isPrefixOf (a :: (c ++ [45, 45])) = true → till [45, 45] (a :: c ++ [45, 45]) = some 0 := by
      intro hp
      rw [till_iff, List.cons_append]
      unfold Lib.index
      rw [if_pos hp]
      rfl
    have hd : dashes (a :: c) = (([45, 45] : L).isPrefixOf (a :: (c ++ [45, 45])) || dashes c) := by
      cases c with
      | nil =>
        unfold dashes
        simp [dashes]
        rw [Bool.eq_iff_iff]; simp; exact ⟨fun h => h.symm, fun h => h.symm⟩
      | cons b r =>
        conv => lhs; unfold dashes
        congr 1
        rw [Bool.eq_iff_iff]; simp; exact ⟨fun h => ⟨h.1.symm, h.2.symm⟩, fun h => ⟨h.1.symm, h.2.symm⟩⟩
    cases hp : ([45, 45] : L).isPrefixOf (a :: (c ++ [45, 45])) with
    | true =>
      right
      exact ⟨⟨0, by simp, hhere hp⟩, by rw [hd, hp]; rfl⟩
    | false =>
      rcases ih with ⟨h1, h2⟩ | ⟨⟨k, h1, h2⟩, h3⟩
      · left
        exact ⟨hstep hp h1, by rw [hd, hp, h2]; rfl⟩
      · right
        exact ⟨⟨k + 1, by simp; exact h1, hstep hp h2⟩, by rw [hd, hp, h3]; rfl⟩
theorem comment_bad {c : L} (hd : dashes c = true) (h62 : (62 : UInt8) ∉ c) (r : L) (at_ : Nat) : Tk.one at_ (sComment ++ (c ++ ([45, 45, 62] ++ r))) = none := by
  rcases till_dashes c with ⟨_, h⟩ | ⟨⟨k, hk, ht⟩, _⟩
  · rw [hd] at h; cases h
  have ht2 : till [45, 45] (c ++ ([45, 45, 62] ++ r)) = some k := by
    have := till_len ht
    have := till_app (a := c ++ [45, 45]) (r := []) (r' := 62 :: r) (by rw [List.append_nil]; exact ht) this
    rw [show c ++ ([45, 45, 62] ++ r) = c ++ [45, 45] ++ 62 :: r by simp]
    exact this
  have hb : (c ++ ([45, 45, 62] ++ r))[k + 2]? ≠ some 62 := by
    by_cases h1 : k + 2 < c.length
    · rw [List.getElem?_append_left h1]
      exact fun e => h62 (List.mem_of_getElem? e)
    · rw [List.getElem?_append_right (by omega)]
      have : k + 2 - c.length = 0 ∨ k + 2 - c.length = 1 := by omega
      rcases this with e | e <;> rw [e] <;> simp
  unfold Tk.one Tk.piece
  rw [if_neg (by simp [sComment]), if_pos (by simp [sComment])]
  unfold Tk.skip
  rw [if_pos (pfx_iff.2 ⟨_, rfl⟩), show List.drop 4 (sComment ++ (c ++ ([45, 45, 62] ++ r))) = c ++ ([45, 45, 62] ++ r) from drop_len (by rfl)]
  unfold Tk.comment
  rw [ht2, Option.bind_some, if_neg]
  · rfl
  · intro hp
    obtain ⟨s, hs⟩ := pfx_iff.1 hp
    apply hb
    have := congrArg List.head? hs
    rw [List.head?_drop] at this
    rw [this]
    rfl
theorem fine_dash (r : L) : fine (45 :: r) = fine r := by rw [fine_ascii (by decide)]; rfl
theorem fine_comment {c : L} (hc : fine c = true) : fine (sComment ++ (c ++ [45, 45, 62])) = true := fine_both (by decide) (fine_both hc (by decide))
/-- A comment behind a token. -/
theorem skip_law {s c : L} {ts ts' : List Tok} {e e' j : Nat} {ok' : Bool} {t : Tok} (h : AllP s ts e true) (hj : ts[j]? = some t) (hc : fine c = true) (h62 : (62 : UInt8) ∉ c)
    (k : AllP (s.take t.end_ ++ (sComment ++ (c ++ ([45, 45, 62] ++ s.drop t.end_)))) ts' e' ok') :
    if dashes c = true then ok' = false ∧ e' = t.end_ else ok' = true ∧ ∃ cm, cm.kind = 4 ∧ ts' = ts.take (j + 1) ++ cm :: (ts.drop (j + 1)).map (Tok.shift (c.length + 7)) := by
  unfold AllP at h
  split at h
  · obtain ⟨w, rest, rfl, h1, h2, rfl, h3⟩ := h
    have : rest = [] := by cases rest with
      | nil => rfl
      | cons a r => cases h3
    subst this
    rw [List.append_nil] at k
    obtain ⟨w1, w2, rfl, e1, h4, h5⟩ := h1.at_j hj
    rw [Nat.zero_add] at e1
    rw [e1, List.take_left, List.drop_left] at k
    have hcm : w1 ≠ [] := by
      rintro rfl
      have hch := h4.chain
      cases hts : ts.take (j + 1) with
      | nil =>
        have := congrArg List.length hts
        obtain ⟨hl, _⟩ := List.getElem?_eq_some_iff.1 hj
        rw [List.length_take, List.length_nil] at this
        omega
      | cons u us =>
        rw [hts] at h4
        cases h4' : ([] : L) with
        | nil =>
          generalize hw : ([] : L) = w0 at h4
          cases h4 with
          | cons _ w t w2 rest ts hw2 hf hk hr =>
            have := List.append_eq_nil_iff.1 hw.symm
            exact hw2.ne this.1
        | cons _ _ => cases h4'
    have h0 := List.length_pos_iff.2 hcm
    split
    · rename_i hd
      have hv : Utf.valid (w1 ++ (sComment ++ (c ++ ([45, 45, 62] ++ w2)))) = true := by
        rw [Utf.valid_app h4.valid, Utf.valid_app (by decide), Utf.valid_app (fine_valid hc), Utf.valid_app (by decide)]
        exact h5.valid
      have hu := AllP.unique k (ts' := ts.take (j + 1)) (e' := w1.length) (ok' := false) (by
        unfold AllP
        rw [if_pos hv]
        exact ⟨w1, _, rfl, h4.rest_ (.inr ⟨_, rfl⟩), .inr (comment_bad hd h62 w2 _), rfl, rfl⟩)
      exact ⟨hu.2.2, by rw [hu.2.1, e1]⟩
    · rename_i hd
      have hd : dashes c = false := by simpa using hd
      have ht : till [45, 45] (c ++ [45, 45]) = some c.length := by
        rcases till_dashes c with ⟨h, _⟩ | ⟨_, h⟩
        · exact h
        · rw [hd] at h; cases h
      have hcw := TokW.comment w1.length c ht
      have hcl : (sComment ++ (c ++ [45, 45, 62])).length = c.length + 7 := by simp [sComment]
      have hrow : Row 0 (w1 ++ ((sComment ++ (c ++ [45, 45, 62])) ++ w2)) [] (ts.take (j + 1) ++ ⟨4, [], [], false, [], w1.length, w1.length + (sComment ++ (c ++ [45, 45, 62])).length⟩ :: (ts.drop (j + 1)).map (Tok.shift (c.length + 7))) := by
        refine Row.join (h4.rest_ (.inr ⟨_, rfl⟩)) ?_
        rw [Nat.zero_add]
        refine .cons _ _ _ _ _ _ hcw (fine_comment hc) (fun e => by cases e) ?_
        rw [hcl]
        rw [e1] at h5
        exact h5.shift (by omega) _
      have e2 : w1 ++ (sComment ++ (c ++ ([45, 45, 62] ++ w2))) = w1 ++ ((sComment ++ (c ++ [45, 45, 62])) ++ w2) := by simp
      rw [e2] at k
      have hu := AllP.unique k (ts' := _) (e' := (w1 ++ ((sComment ++ (c ++ [45, 45, 62])) ++ w2)).length) (ok' := true) (by
        unfold AllP
        rw [if_pos hrow.valid]
        exact ⟨_, [], (List.append_nil _).symm, hrow, .inl rfl, rfl, rfl⟩)
      exact ⟨hu.2.2, _, rfl, hu.1⟩
  · obtain ⟨rfl, _, _⟩ := h
    simp at hj
/-- A token without its places. -/
def At.bare (a : At) : At := ⟨a.name, a.value, 0⟩
def Tok.bare (t : Tok) : Tok := ⟨t.kind, t.name, t.attrs.map At.bare, t.empty, t.text, 0, 0⟩
theorem shift_bare (d : Nat) (t : Tok) : (t.shift d).bare = t.bare := by
  unfold Tok.shift Tok.bare
  simp only [List.map_map]
  rfl
/-- Whether tokens are the same, but for their places. -/
def same (a b : List Tok) : Bool := decide (a.map Tok.bare = b.map Tok.bare)
theorem same_refl (a : List Tok) : same a a = true := by simp [same]
theorem same_shift (d : Nat) (a : List Tok) : same (a.map (Tok.shift d)) a = true := by
  unfold same
  rw [decide_eq_true_eq, List.map_map]
  exact List.map_congr_left fun t _ => shift_bare d t
/-- What is written. -/
def quote (v : L) : UInt8 := if (34 : UInt8) ∈ v then 39 else 34
def joinAt (a : At) : L := 32 :: (a.name ++ 61 :: quote a.value :: (a.value ++ [quote a.value]))
def joinTok (t : Tok) : L :=
  if t.kind = 0 then 60 :: (t.name ++ (t.attrs.flatMap joinAt ++ ((if t.empty then [47] else []) ++ [62])))
  else if t.kind = 1 then 60 :: 47 :: (t.name ++ [62])
  else if t.kind = 2 then t.text
  else if t.kind = 3 then sData ++ (t.text ++ [93, 93, 62])
  else []
def join (ts : List Tok) : L := ts.flatMap joinTok
theorem EqW.canon {w x : L} (h : EqW w x) : EqW (61 :: quote x :: (x ++ [quote x])) x := by
  obtain ⟨b1, b2, q, _, _, hq, hx, _⟩ := h
  refine ⟨[], [], quote x, rfl, rfl, ?_, ?_, rfl⟩
  · unfold quote; split <;> simp
  · unfold quote
    split
    · rename_i h34
      rcases hq with rfl | rfl
      · exact absurd h34 hx
      · exact hx
    · rename_i h34; exact h34
theorem AttrsW.canon {off : Nat} {w : L} {as_ : List At} {e : Bool} (h : AttrsW off w as_ e) : ∀ off', ∃ as', as'.map At.bare = as_.map At.bare ∧ AttrsW off' (as_.flatMap joinAt ++ ((if e then [47] else []) ++ [62])) as' e := by
  induction h with
  | two off b hb => exact fun off' => ⟨[], rfl, .two off' [] rfl⟩
  | one off b hb => exact fun off' => ⟨[], rfl, .one off' [] rfl⟩
  | more off b nm v x w as_ e hb h0 hn hn0 hv h60 hw ih =>
    intro off'
    obtain ⟨as', h1, h2⟩ := ih (off' + 1 + nm.length + (61 :: quote x :: (x ++ [quote x])).length)
    refine ⟨⟨nm, x, off' + 1⟩ :: as', by rw [List.map_cons, List.map_cons, h1]; rfl, ?_⟩
    have := AttrsW.more off' [32] nm _ x _ as' e rfl (by simp) hn hn0 hv.canon h60 h2
    have e2 : ((⟨nm, x, off + b.length⟩ :: as_ : List At).flatMap joinAt) ++ ((if e then [47] else []) ++ [62]) =
        [32] ++ (nm ++ (61 :: quote x :: (x ++ [quote x]) ++ (as_.flatMap joinAt ++ ((if e then [47] else []) ++ [62])))) := by
      simp [joinAt, At.bare]
    rw [e2]
    exact this
theorem sps_fine {b : L} (h : Sps b) : fine b = true := by
  induction b with
  | nil => rfl
  | cons c b ih =>
    unfold Sps at h
    rw [List.all_cons, Bool.and_eq_true] at h
    have hc := h.1
    unfold sp at hc
    simp only [Bool.or_eq_true, beq_iff_eq] at hc
    have hf : fine b = true := ih h.2
    rcases hc with ((rfl | rfl) | rfl) | rfl <;> rw [fine_ascii (by decide), hf] <;> decide
theorem EqW.fine {w x r : L} (h : EqW w x) (hf : Tk.fine (w ++ r) = true) : Tk.fine x = true ∧ Tk.fine r = true := by
  obtain ⟨b1, b2, q, hb1, hb2, hq, hx, rfl⟩ := h
  have e : b1 ++ 61 :: (b2 ++ q :: (x ++ [q])) ++ r = b1 ++ 61 :: (b2 ++ q :: (x ++ q :: r)) := by simp
  rw [e] at hf
  have hq7 : q.toNat < 128 := by rcases hq with rfl | rfl <;> decide
  have h1 := (fine_split (by decide) hf).2
  have h2 := (fine_split hq7 h1).2
  exact fine_split hq7 h2
theorem fine_quote {x : L} (h : Tk.fine x = true) : Tk.fine (61 :: quote x :: (x ++ [quote x])) = true := by
  have hq : ∀ r, Tk.fine (quote x :: r) = Tk.fine r := by
    intro r
    unfold quote
    split <;> rw [fine_ascii (by decide)] <;> rfl
  rw [fine_ascii (by decide), hq]
  have h2 : Tk.fine [quote x] = true := by rw [hq]; rfl
  rw [fine_both h h2]
  rfl
theorem AttrsW.fine {off : Nat} {w : L} {as_ : List At} {e : Bool} (h : AttrsW off w as_ e) : Tk.fine w = true → Tk.fine (as_.flatMap joinAt ++ ((if e then [47] else []) ++ [62])) = true := by
  induction h with
  | two off b hb => exact fun _ => by decide
  | one off b hb => exact fun _ => by decide
  | more off b nm v x w as_ e hb h0 hn hn0 hv h60 hw ih =>
    intro hf
    have h1 := (fine_parts (fine_valid (sps_fine hb)) hf).2
    have h2 := fine_parts hn.1 h1
    have h3 := hv.fine h2.2
    have e2 : ((⟨nm, x, off + b.length⟩ :: as_ : List At).flatMap joinAt) ++ ((if e then [47] else []) ++ [62]) =
        [32] ++ (nm ++ ((61 :: quote x :: (x ++ [quote x])) ++ (as_.flatMap joinAt ++ ((if e then [47] else []) ++ [62])))) := by
      simp [joinAt, At.bare]
    rw [e2]
    exact fine_both (by decide) (fine_both h2.1 (fine_both (fine_quote h3.1) (ih h3.2)))
theorem fine_cons {c : UInt8} {r : L} (hc : c.toNat < 128) (h : Tk.fine (c :: r) = true) : Tk.fine r = true := by
  rw [fine_ascii hc, Bool.and_eq_true] at h
  exact h.2
/-- A token, written, is read as it was. -/
theorem TokW.canon {at_ : Nat} {w : L} {t : Tok} (h : TokW at_ w t) (h4 : t.kind ≠ 4) (hf : Tk.fine w = true) (at' : Nat) : ∃ t', t'.bare = t.bare ∧ TokW at' (joinTok t) t' ∧ Tk.fine (joinTok t) = true := by
  cases h with
  | start _ nm wa as_ e hn hn0 ha =>
    obtain ⟨as', h1, h2⟩ := ha.canon (at' + 1 + nm.length)
    have hf2 := fine_parts hn.1 (fine_cons (by decide) hf)
    refine ⟨_, ?_, .start at' nm _ as' e hn hn0 h2, ?_⟩
    · unfold Tok.bare; simp only; rw [h1]
    · show Tk.fine (60 :: (nm ++ _)) = true
      rw [fine_ascii (by decide), fine_both hf2.1 (ha.fine hf2.2)]
      rfl
  | end_ _ nm b hn hn0 hb =>
    have hf2 := fine_parts hn.1 (fine_cons (by decide) (fine_cons (by decide) hf))
    refine ⟨_, ?_, .end_ at' nm [] hn hn0 rfl, ?_⟩
    · rfl
    · show Tk.fine (60 :: 47 :: (nm ++ [62])) = true
      rw [fine_ascii (by decide), fine_ascii (by decide), fine_both hf2.1 (by decide)]
      rfl
  | text _ _ h1 h2 h3 => exact ⟨⟨2, [], [], false, w, at', at' + w.length⟩, rfl, .text at' w h1 h2 h3, hf⟩
  | data _ tx h1 => exact ⟨⟨3, [], [], false, tx, at', at' + List.length (sData ++ (tx ++ [93, 93, 62]))⟩, rfl, .data at' tx h1, hf⟩
  | comment => exact absurd rfl h4
  | decl => exact absurd rfl h4
  | instr => exact absurd rfl h4
theorem join_front {at_ : Nat} {w : L} {t : Tok} (h : TokW at_ w t) (h4 : t.kind ≠ 4) (h2 : t.kind ≠ 2) : ∃ s, joinTok t = 60 :: s := by
  cases h with
  | start => exact ⟨_, rfl⟩
  | end_ => exact ⟨_, rfl⟩
  | text => exact absurd rfl h2
  | data => exact ⟨_, rfl⟩
  | comment => exact absurd rfl h4
  | decl => exact absurd rfl h4
  | instr => exact absurd rfl h4
/-- Tokens that were read somewhere. -/
def Read (t : Tok) : Prop := t.kind ≠ 4 ∧ ∃ at_ w, TokW at_ w t ∧ Tk.fine w = true
/-- No two texts meet. -/
def Apart : List Tok → Prop
  | [] => True
  | [_] => True
  | a :: b :: r => ¬(a.kind = 2 ∧ b.kind = 2) ∧ Apart (b :: r)
theorem back_row : ∀ (m : List Tok) (at' : Nat), (∀ t ∈ m, Read t) → Apart m → ∃ m', m'.map Tok.bare = m.map Tok.bare ∧ Row at' (join m) [] m'
  | [], at', _, _ => ⟨[], rfl, .nil _ _⟩
  | t :: m, at', hr, ha => by
    obtain ⟨h4, a0, w0, hw, hf⟩ := hr t (List.mem_cons_self ..)
    obtain ⟨t', h1, h2, h3⟩ := hw.canon h4 hf at'
    obtain ⟨m', h5, h6⟩ := back_row m (at' + (joinTok t).length) (fun u hu => hr u (List.mem_cons_of_mem _ hu)) (by
      cases m with
      | nil => trivial
      | cons b r => exact ha.2)
    refine ⟨t' :: m', by rw [List.map_cons, List.map_cons, h1, h5], ?_⟩
    show Row at' (joinTok t ++ join m) [] (t' :: m')
    refine .cons _ _ _ _ _ _ h2 h3 (fun e => ?_) h6
    rw [List.append_nil]
    cases m with
    | nil => exact .inl rfl
    | cons b r =>
      have hk : t'.kind = t.kind := (show t'.bare.kind = t.bare.kind by rw [h1])
      have hb2 : b.kind ≠ 2 := fun e2 => ha.1 ⟨by rw [← hk]; exact e, e2⟩
      obtain ⟨hb4, ab, wb, hwb, _⟩ := hr b (List.mem_cons_of_mem _ (List.mem_cons_self ..))
      obtain ⟨s, hs⟩ := join_front hwb hb4 hb2
      refine .inr ⟨s ++ join r, ?_⟩
      show joinTok b ++ join r = _
      rw [hs]
      rfl
theorem Row.read {at_ : Nat} {w rest : L} {ts : List Tok} (h : Row at_ w rest ts) : ∀ t ∈ ts, t.kind ≠ 4 → Read t := by
  induction h with
  | nil at_ rest => intro t ht; cases ht
  | cons at_ w t w2 rest ts hw hf hk _ ih =>
    intro u hu h4
    rcases List.mem_cons.1 hu with rfl | hu
    · exact ⟨h4, _, _, hw, hf⟩
    · exact ih u hu h4
theorem AllP.read {s : L} {ts : List Tok} {e : Nat} {ok : Bool} (h : AllP s ts e ok) : ∀ t ∈ ts, t.kind ≠ 4 → Read t := by
  unfold AllP at h
  split at h
  · obtain ⟨w, rest, rfl, h1, _⟩ := h
    exact h1.read
  · obtain ⟨rfl, _⟩ := h
    intro t ht
    cases ht
theorem back_law {m n : List Tok} {e : Nat} {ok : Bool} (hr : ∀ t ∈ m, Read t) (ha : Apart m) (h : AllP (join m) n e ok) : ok = true ∧ e = (join m).length ∧ same m n = true := by
  obtain ⟨m', h1, h2⟩ := back_row m 0 hr ha
  have hu := AllP.unique h (ts' := m') (e' := (join m).length) (ok' := true) (by
    unfold AllP
    rw [if_pos h2.valid]
    exact ⟨_, [], (List.append_nil _).symm, h2, .inl rfl, rfl, rfl⟩)
  refine ⟨hu.2.2, hu.2.1, ?_⟩
  unfold same
  rw [hu.1, h1, decide_eq_true_eq]
end Tk
end Go.Proofs.Ytaickkaoglohgaa
namespace Go.Proofs.Ytaickkaoglohgaa
open Go.RowKit Tk

/-- A slice's array lies at block B or behind it. -/
def Above (B : Nat) (A : Option Addr) : Prop := ∀ a, A = some a → B ≤ a.block
theorem Above.more {B B' : Nat} {A : Option Addr} (h : Above B A) (hB : B' ≤ B) : Above B' A := fun a ha => Nat.le_trans hB (h a ha)
theorem above_own {w : World} {B e size n c : Nat} {A : Option Addr} {xs : List Value} (h : w.ownsRow B e size (.slice A n c) n xs) : Above B A := by
  intro a ha
  subst ha
  rcases h.2 with ⟨h1, _⟩ | ⟨g, cap, cur, hv, hb, _⟩
  · cases h1
  · cases hv; exact hb
def Typed (w : World) (A : Option Addr) (t : TypeId) : Prop := ∀ a, A = some a → IsT w a.block t
theorem typed_own {w : World} {B e size n c : Nat} {A : Option Addr} {xs : List Value} (h : w.ownsRow B e size (.slice A n c) n xs) : Typed w A e := by
  intro a ha
  subst ha
  rcases h.2 with ⟨h1, _⟩ | ⟨g, cap, cur, hv, hb, hh, _⟩
  · cases h1
  · cases hv; exact ⟨_, _, hh⟩
theorem Typed.below {w w' : World} {A : Option Addr} {t : TypeId} (h : Typed w A t) (hb : Below w.heap.size w w') : Typed w' A t := fun a ha => by
  obtain ⟨cs, fr, hh⟩ := h a ha
  exact ⟨cs, fr, (hb.block _ (h a ha).lt).trans hh⟩
theorem own_cap {w : World} {B e size n c : Nat} {A : Option Addr} {xs : List Value} (h : w.ownsRow B e size (.slice A n c) n xs) : n ≤ c := by
  rcases h.2 with ⟨h1, _⟩ | ⟨g, cap, cur, hv, hb, hh, hrest⟩
  · cases h1; omega
  · cases hv; exact hrest.1
theorem isT_ne {w : World} {k t t' : Nat} (h : IsT w k t) (h' : IsT w k t') (hne : t ≠ t') : False := by
  obtain ⟨cs, fr, h1⟩ := h
  obtain ⟨cs', fr', h2⟩ := h'
  rw [h1] at h2
  injection h2 with h2
  injection h2 with _ h3
  exact hne h3
/-- A token and where its attributes lie. -/
structure Tv where
  t : Tok
  A : Option Addr
  c : Nat
def Tv.row (x : Tv) : List Value := tokCells x.t (.slice x.A x.t.attrs.length x.c) x.t.end_
def tvRows (xs : List Tv) : List Value := xs.flatMap Tv.row
theorem tvRows_snoc (xs : List Tv) (x : Tv) : tvRows (xs ++ [x]) = tvRows xs ++ x.row := by simp [tvRows]
theorem tvRows_length (xs : List Tv) : (tvRows xs).length = xs.length * 7 := by
  induction xs with
  | nil => rfl
  | cons x xs ih => unfold tvRows at ih ⊢; rw [List.flatMap_cons, List.length_append, ih, List.length_cons]; simp [Tv.row, tokCells]; omega
theorem tv_one (x : Tv) : ∀ u ∈ x.row, u.oneCell' = true := by
  intro u hu
  simp only [Tv.row, tokCells, List.mem_cons, List.not_mem_nil, or_false] at hu
  rcases hu with rfl | rfl | rfl | rfl | rfl | rfl | rfl <;> rfl
theorem attrVs_length (l : List At) : (attrVs l).length = l.length * 3 := by
  induction l with
  | nil => rfl
  | cons x xs ih => unfold attrVs at ih ⊢; rw [List.flatMap_cons, List.length_append, ih, List.length_cons]; simp; omega
theorem Reads.same {w w' : World} {B B' size n : Nat} {A : Option Addr} {xs : List Value} (h : Reads w B size A n xs) (hk : ∀ a, A = some a → w'.heap[a.block]? = w.heap[a.block]?) (hB : B ≤ B') : Reads w' B' size A n xs :=
  ⟨h.1, fun hn => by
    obtain ⟨b, off, e, hb, hc⟩ := h.2 hn
    exact ⟨b, off, e, by omega, fun j u hu => (World.cell?_of_block (a := ⟨b, off + j, none⟩) (hk ⟨b, off, none⟩ e)).trans (hc j u hu)⟩⟩
theorem Typed.same {w w' : World} {A : Option Addr} {t : TypeId} (h : Typed w A t) (hk : ∀ a, A = some a → w'.heap[a.block]? = w.heap[a.block]?) : Typed w' A t := fun a ha => by
  obtain ⟨cs, fr, hh⟩ := h a ha
  exact ⟨cs, fr, (hk a ha).trans hh⟩
/-- A round of All: one more token. -/
theorem row_next {D : L} {p : Nat} {ts : List Tok} {t : Tok} (h : Row 0 (D.take p) (D.drop p) ts) (hp : p < D.length) (ho : Tk.one p (D.drop p) = some t) : p < t.end_ ∧ t.end_ ≤ D.length ∧ Row 0 (D.take t.end_) (D.drop t.end_) (ts ++ [t]) := by
  have hl : (D.take p).length = p := by rw [List.length_take]; omega
  obtain ⟨w, rest, e, hw, hf, hk⟩ := one_word (by intro e; have := congrArg List.length e; rw [List.length_drop] at this; simp at this; omega) ho
  have h0 := List.length_pos_iff.2 hw.ne
  have he := hw.end_eq
  have hle : (D.drop p).length = D.length - p := List.length_drop ..
  rw [e, List.length_append] at hle
  have e1 : D = D.take p ++ (w ++ rest) := by rw [← e, List.take_append_drop]
  have hpw : (D.take p ++ w).length = t.end_ := by rw [List.length_append, hl, he]
  have e2 : D.take t.end_ = D.take p ++ w := by
    conv => lhs; rw [e1, ← List.append_assoc, ← hpw]
    rw [List.take_left]
  have e3 : D.drop t.end_ = rest := by
    conv => lhs; rw [e1, ← List.append_assoc, ← hpw]
    rw [List.drop_left]
  refine ⟨by omega, by omega, ?_⟩
  rw [e2, e3]
  refine Row.join (by rw [← e]; exact h) ?_
  have := Row.cons (0 + (D.take p).length) w t [] rest [] (by rw [Nat.zero_add, hl]; exact hw) hf (by simpa using hk) (.nil _ _)
  simpa using this
theorem row_len {at_ : Nat} {w rest : L} {ts : List Tok} (h : Row at_ w rest ts) : ts.length ≤ w.length := by
  induction h with
  | nil => exact Nat.le_refl _
  | cons at_ w t w2 rest ts hw hf hk _ ih =>
    have h0 := List.length_pos_iff.2 hw.ne
    rw [List.length_cons, List.length_append]
    omega
end Go.Proofs.Ytaickkaoglohgaa
namespace Go.Proofs.Ytaickkaoglohgaa
open Go.RowKit Tk

structure Ga where
  name : ByteArray
  value : ByteArray
  at_ : Int
structure Gt where
  kind : Int
  name : ByteArray
  as_ : List Ga
  A : Option Addr
  c : Nat
  empty : Bool
  text : ByteArray
  at_ : Int
  end_ : Int
def gaCells (x : Ga) : List Value := [.string x.name, .string x.value, .int .i64 x.at_]
def gtCells (x : Gt) : List Value := [.int .i8 x.kind, .string x.name, .slice x.A x.as_.length x.c, .bool x.empty, .string x.text, .int .i64 x.at_, .int .i64 x.end_]
def gas (l : List Ga) : List Value := l.flatMap gaCells
def gts (l : List Gt) : List Value := l.flatMap gtCells
theorem gas_length (l : List Ga) : (gas l).length = l.length * 3 := by
  induction l with
  | nil => rfl
  | cons x l ih => unfold gas at ih ⊢; rw [List.flatMap_cons, List.length_append, ih, List.length_cons]; simp [gaCells]; omega
theorem gts_length (l : List Gt) : (gts l).length = l.length * 7 := by
  induction l with
  | nil => rfl
  | cons x l ih => unfold gts at ih ⊢; rw [List.flatMap_cons, List.length_append, ih, List.length_cons]; simp [gtCells]; omega
theorem gas_at : ∀ (l : List Ga) (k : Nat) (hk : k < l.length) (j : Nat), j < 3 → (gas l)[k * 3 + j]? = (gaCells l[k])[j]? := by
  intro l
  induction l with
  | nil => intro k hk; simp at hk
  | cons x l ih =>
    intro k hk j hj
    have hl : (gaCells x).length = 3 := rfl
    unfold gas
    rw [List.flatMap_cons]
    cases k with
    | zero => rw [List.getElem?_append_left (by omega)]; simp
    | succ k =>
      rw [List.getElem?_append_right (by omega), hl, show (k + 1) * 3 + j - 3 = k * 3 + j from by omega]
      exact ih k (by simpa using hk) j hj
theorem gts_at : ∀ (l : List Gt) (k : Nat) (hk : k < l.length) (j : Nat), j < 7 → (gts l)[k * 7 + j]? = (gtCells l[k])[j]? := by
  intro l
  induction l with
  | nil => intro k hk; simp at hk
  | cons x l ih =>
    intro k hk j hj
    have hl : (gtCells x).length = 7 := rfl
    unfold gts
    rw [List.flatMap_cons]
    cases k with
    | zero => rw [List.getElem?_append_left (by omega)]; simp
    | succ k =>
      rw [List.getElem?_append_right (by omega), hl, show (k + 1) * 7 + j - 7 = k * 7 + j from by omega]
      exact ih k (by simpa using hk) j hj
structure GaAt (w : World) (b o : Nat) (x : Ga) : Prop where
  c0 : w.cell? ⟨b, o, none⟩ = some (.string x.name)
  c1 : w.cell? ⟨b, o + 1, none⟩ = some (.string x.value)
  c2 : w.cell? ⟨b, o + 2, none⟩ = some (.int .i64 x.at_)
structure GtAt (w : World) (b o : Nat) (x : Gt) : Prop where
  c0 : w.cell? ⟨b, o, none⟩ = some (.int .i8 x.kind)
  c1 : w.cell? ⟨b, o + 1, none⟩ = some (.string x.name)
  c2 : w.cell? ⟨b, o + 2, none⟩ = some (.slice x.A x.as_.length x.c)
  c3 : w.cell? ⟨b, o + 3, none⟩ = some (.bool x.empty)
  c4 : w.cell? ⟨b, o + 4, none⟩ = some (.string x.text)
  c5 : w.cell? ⟨b, o + 5, none⟩ = some (.int .i64 x.at_)
  c6 : w.cell? ⟨b, o + 6, none⟩ = some (.int .i64 x.end_)
section
variable {w : World} {B : Nat} {A : Option Addr}
theorem Reads.ga {l : List Ga} (h : Reads w B 3 A l.length (gas l)) {k : Nat} (hk : k < l.length) : ∃ b off, A = some ⟨b, off, none⟩ ∧ b < B ∧ GaAt w b (off + k * 3) l[k] := by
  obtain ⟨b, off, hA, hb, hc⟩ := h.2 (by omega)
  have hx := gas_at l k hk
  refine ⟨b, off, hA, hb, ?_⟩
  constructor
  · have := hc (k * 3 + 0) _ (hx 0 (by omega)); simpa using this
  · have := hc (k * 3 + 1) _ (hx 1 (by omega)); rwa [← Nat.add_assoc] at this
  · have := hc (k * 3 + 2) _ (hx 2 (by omega)); rwa [← Nat.add_assoc] at this
theorem Reads.gt {l : List Gt} (h : Reads w B 7 A l.length (gts l)) {k : Nat} (hk : k < l.length) : ∃ b off, A = some ⟨b, off, none⟩ ∧ b < B ∧ GtAt w b (off + k * 7) l[k] := by
  obtain ⟨b, off, hA, hb, hc⟩ := h.2 (by omega)
  have hx := gts_at l k hk
  refine ⟨b, off, hA, hb, ?_⟩
  constructor
  · have := hc (k * 7 + 0) _ (hx 0 (by omega)); simpa using this
  · have := hc (k * 7 + 1) _ (hx 1 (by omega)); rwa [← Nat.add_assoc] at this
  · have := hc (k * 7 + 2) _ (hx 2 (by omega)); rwa [← Nat.add_assoc] at this
  · have := hc (k * 7 + 3) _ (hx 3 (by omega)); rwa [← Nat.add_assoc] at this
  · have := hc (k * 7 + 4) _ (hx 4 (by omega)); rwa [← Nat.add_assoc] at this
  · have := hc (k * 7 + 5) _ (hx 5 (by omega)); rwa [← Nat.add_assoc] at this
  · have := hc (k * 7 + 6) _ (hx 6 (by omega)); rwa [← Nat.add_assoc] at this
end
theorem str_eq (a b : ByteArray) : (a.toList = b.toList) ↔ a = b := by
  rw [ByteArray.toList_eq, ByteArray.toList_eq]
  obtain ⟨⟨x⟩⟩ := a
  obtain ⟨⟨y⟩⟩ := b
  simp
theorem str_beq (a b : ByteArray) : (a.toList == b.toList) = decide (a = b) := by
  rw [Bool.eq_iff_iff]; simp [str_eq]
theorem eq_take {α : Type} {l l' : List α} {k : Nat} (h1 : k < l.length) (h2 : k < l'.length) (ht : l.take k = l'.take k) (he : l[k] = l'[k]) : l.take (k + 1) = l'.take (k + 1) := by
  rw [List.take_succ_eq_append_getElem h1, List.take_succ_eq_append_getElem h2, ht, he]
theorem ne_at {α : Type} {l l' : List α} {k : Nat} (h1 : k < l.length) (h2 : k < l'.length) (he : l[k] ≠ l'[k]) : l ≠ l' := by
  rintro rfl; exact he rfl
theorem cell_go {w w' : World} {a : Addr} {v : Value} (hb : Below w.heap.size w w') (h : w.cell? a = some v) : w'.cell? a = some v := (hb.cell (lt_of_cell h)).trans h
theorem below_drewN {B : Nat} {w w' : World} (h : Below B w w') (m : Nat) : Below B w (w'.drewN m) := ⟨h.os, h.tape, h.output, h.size, h.block⟩
/-- An attribute, a token without its places. -/
def Ga.bare (x : Ga) : ByteArray × ByteArray := (x.name, x.value)
structure Gb where
  kind : Int
  name : ByteArray
  as_ : List (ByteArray × ByteArray)
  empty : Bool
  text : ByteArray
  deriving DecidableEq
def Gt.bare (x : Gt) : Gb := ⟨x.kind, x.name, x.as_.map Ga.bare, x.empty, x.text⟩
/-- A list of tokens, wherever it lies. -/
structure TkL (w : World) (B : Nat) (A : Option Addr) (xs : List Gt) : Prop where
  row : Reads w B 7 A xs.length (gts xs)
  sub : ∀ x ∈ xs, Reads w B 3 x.A x.as_.length (gas x.as_)
theorem TkL.below {w w' : World} {B : Nat} {A : Option Addr} {xs : List Gt} (h : TkL w B A xs) (hb : Below B w w') : TkL w' B A xs := ⟨h.row.below hb, fun x hx => (h.sub x hx).below hb⟩
theorem TkL.more {w : World} {B B' : Nat} {A : Option Addr} {xs : List Gt} (h : TkL w B A xs) (hB : B ≤ B') : TkL w B' A xs := ⟨h.row.more hB, fun x hx => (h.sub x hx).more hB⟩
theorem neq_str_dec (a b : ByteArray) (hab : a = b) : (a.toList == b.toList) = true := by subst hab; simp
theorem neq_str_dec' (a b : ByteArray) (hab : a ≠ b) : (a.toList == b.toList) = false := by
  rw [beq_eq_false_iff_ne]
  exact fun h => hab ((str_eq a b).1 h)
end Go.Proofs.Ytaickkaoglohgaa
namespace Go.Proofs.Ytaickkaoglohgaa
open Go.RowKit Tk Sx

/-- A declaration: its prefix, its namespace. -/
structure Dcl where
  pre : L
  ns : L
def dclCells (x : Dcl) : List Value := [.string (bstr x.pre), .string (bstr x.ns)]
def dcls (l : List Dcl) : List Value := l.flatMap dclCells
def xmlNs : L := [104, 116, 116, 112, 58, 47, 47, 119, 119, 119, 46, 119, 51, 46, 111, 114, 103, 47, 88, 77, 76, 47, 49, 57, 57, 56, 47, 110, 97, 109, 101, 115, 112, 97, 99, 101]
def xmlnsNs : L := [104, 116, 116, 112, 58, 47, 47, 119, 119, 119, 46, 119, 51, 46, 111, 114, 103, 47, 50, 48, 48, 48, 47, 120, 109, 108, 110, 115, 47]
def pXml : L := [120, 109, 108]
/-- What a prefix stands for among the first m declarations, the last one first. -/
def spaceAt (l : List Dcl) (p : L) (m : Nat) : L × Bool := match (l.take m).reverse.find? fun d => decide (d.pre = p) with
  | some d => (d.ns, true)
  | none => ([], decide (p = []))
def spaceOf (l : List Dcl) (p : L) : L × Bool := if p = pXml then (xmlNs, true) else spaceAt l p l.length
def spV (x : L × Bool) : Value := .tuple #[.string (bstr x.1), .bool x.2]
theorem spaceAt_zero {l : List Dcl} {p : L} : spaceAt l p 0 = ([], decide (p = [])) := rfl
theorem spaceAt_step {l : List Dcl} {p : L} {m : Nat} (h : m < l.length) : spaceAt l p (m + 1) = if l[m].pre = p then (l[m].ns, true) else spaceAt l p m := by
  unfold spaceAt
  rw [List.take_succ_eq_append_getElem h, List.reverse_append, List.reverse_singleton, List.singleton_append, List.find?_cons]
  by_cases he : l[m].pre = p
  · rw [if_pos he]; simp [he]
  · rw [if_neg he]; simp [he]
theorem dcls_length (l : List Dcl) : (dcls l).length = l.length * 2 := by
  induction l with
  | nil => rfl
  | cons x l ih => unfold dcls at ih ⊢; rw [List.flatMap_cons, List.length_append, ih, List.length_cons]; simp [dclCells]; omega
theorem dcls_at : ∀ (l : List Dcl) (k : Nat) (hk : k < l.length) (j : Nat), j < 2 → (dcls l)[k * 2 + j]? = (dclCells l[k])[j]? := by
  intro l
  induction l with
  | nil => intro k hk; simp at hk
  | cons x l ih =>
    intro k hk j hj
    have hl : (dclCells x).length = 2 := rfl
    unfold dcls
    rw [List.flatMap_cons]
    cases k with
    | zero => rw [List.getElem?_append_left (by omega)]; simp
    | succ k =>
      rw [List.getElem?_append_right (by omega), hl, show (k + 1) * 2 + j - 2 = k * 2 + j from by omega]
      exact ih k (by simpa using hk) j hj
theorem Reads.dcl {w : World} {B : Nat} {A : Option Addr} {l : List Dcl} (h : Reads w B 2 A l.length (dcls l)) {k : Nat} (hk : k < l.length) :
    ∃ b off, A = some ⟨b, off, none⟩ ∧ b < B ∧ w.cell? ⟨b, off + k * 2, none⟩ = some (.string (bstr l[k].pre)) ∧ w.cell? ⟨b, off + k * 2 + 1, none⟩ = some (.string (bstr l[k].ns)) := by
  obtain ⟨b, off, hA, hb, hc⟩ := h.2 (by omega)
  have hx := dcls_at l k hk
  refine ⟨b, off, hA, hb, ?_, ?_⟩
  · have := hc (k * 2 + 0) _ (hx 0 (by omega)); simpa using this
  · have := hc (k * 2 + 1) _ (hx 1 (by omega)); rwa [← Nat.add_assoc] at this
theorem beq_bstr (a b : L) : ((bstr a).toList == (bstr b).toList) = decide (a = b) := by
  rw [ByteArray.toList_eq, ByteArray.toList_eq, bstr_list, bstr_list, Bool.eq_iff_iff, beq_iff_eq, decide_eq_true_iff]

end Go.Proofs.Ytaickkaoglohgaa
