/- Tokens in plain data: a token's word; a row of tokens; no program in sight. -/
import Derived.Test.YtaickkaoglohgaaBv06
set_option linter.unusedSimpArgs false
set_option linter.unusedVariables false
namespace Go.Proofs.Ytaickkaoglohgaa
namespace Tk

theorem drop_len {p r : L} {n : Nat} (h : p.length = n) : (p ++ r).drop n = r := by rw [← h, List.drop_left]
theorem toks_succ (k at_ : Nat) (l : L) : toks (k + 1) at_ l = if l.isEmpty then [] else match Tk.one at_ l with
    | none => []
    | some t => t :: toks k t.end_ (l.drop (t.end_ - at_)) := rfl
theorem till_word {p l : L} {n : Nat} (h : till p l = some n) : ∃ x rest, l = x ++ (p ++ rest) ∧ n = x.length ∧ till p (x ++ p) = some x.length := by
  have h0 := till_len h
  have hi := h
  rw [till_iff] at hi
  obtain ⟨h1, h2, h3⟩ := index_first' hi
  obtain ⟨rest, hr⟩ := pfx_iff.1 h1
  have hl : (l.take n).length = n := by rw [List.length_take]; omega
  have e : l = l.take n ++ (p ++ rest) := by rw [← hr, List.take_append_drop]
  refine ⟨l.take n, rest, e, hl.symm, ?_⟩
  rw [hl]
  have h4 : till p (l.take n ++ p ++ rest) = some n := by rw [List.append_assoc, ← e]; exact h
  have := till_app (r' := []) h4 (by rw [List.length_append, hl]; exact Nat.le_refl _)
  rwa [List.append_nil] at this
theorem till_of {p x : L} (h : till p (x ++ p) = some x.length) (rest : L) : till p (x ++ (p ++ rest)) = some x.length := by
  have := till_app (a := x ++ p) (r := []) (r' := rest) (by rw [List.append_nil]; exact h) (by rw [List.length_append]; exact Nat.le_refl _)
  rwa [List.append_assoc] at this
theorem start_eq (at_ : Nat) (l : L) : Tk.start at_ (60 :: l) = if take l = 0 then none else (attrs (l.length + 1) (at_ + 1 + take l) (l.drop (take l))).map fun x => ⟨0, l.take (take l), x.1, x.2.1, [], at_, x.2.2⟩ := by
  have e : (60 :: l).drop (1 + take l) = l.drop (take l) := by rw [Nat.add_comm, List.drop_succ_cons]
  rw [← e]
  rfl
theorem pfx_one {a : UInt8} {l : L} (h : ([a] : L).isPrefixOf l = true) : ∃ r, l = a :: r := pfx_iff.1 h
theorem pfx_two {a b : UInt8} {l : L} (h : ([a, b] : L).isPrefixOf l = true) : ∃ r, l = a :: b :: r := pfx_iff.1 h
/-- The words of an instruction behind its <?. -/
def InstrW (nm y : L) : Prop := Name nm ∧ nm ≠ [] ∧ xml nm = false ∧ (y = [] ∨ ∃ c t, y = c :: t ∧ sp c = true) ∧ till [63, 62] (y ++ [63, 62]) = some y.length
theorem instr_word {l : L} {n : Nat} (h : instr l = some n) : ∃ nm y rest, l = nm ++ (y ++ ([63, 62] ++ rest)) ∧ n = nm.length + y.length + 2 ∧ InstrW nm y := by
  obtain ⟨t1, t2, -⟩ := take_spec l
  unfold instr at h
  split at h
  · cases h
  rename_i h0
  have hx : xml (l.take (take l)) = false := by
    cases hx : xml (l.take (take l)) with
    | false => rfl
    | true => exact absurd (.inr hx) h0
  have hl : (l.take (take l)).length = take l := by rw [List.length_take]; omega
  have h1 : take l ≠ 0 := fun e => h0 (.inl e)
  have hne : l.take (take l) ≠ [] := fun e => by rw [e] at hl; exact h1 hl.symm
  split at h
  · rename_i hp
    obtain ⟨rest, hr⟩ := pfx_iff.1 hp
    cases h
    refine ⟨l.take (take l), [], rest, ?_, by rw [hl]; rfl, t2, hne, hx, .inl rfl, by decide⟩
    rw [List.nil_append, ← hr, List.take_append_drop]
  · cases ht : till [63, 62] (l.drop (take l)) with
    | none => rw [ht] at h; cases h
    | some k =>
      rw [ht] at h
      simp only [Option.bind_some] at h
      split at h
      · rename_i hnp hs
        obtain ⟨y, rest, hr, rfl, hy⟩ := till_word ht
        cases h
        refine ⟨l.take (take l), y, rest, ?_, by rw [hl], t2, hne, hx, ?_, hy⟩
        · rw [← hr, List.take_append_drop]
        · rw [hr] at hs hnp
          cases y with
          | nil => exact .inl rfl
          | cons c t => exact .inr ⟨c, t, rfl, by simpa using hs⟩
      · cases h
theorem instr_of {nm y : L} (h : InstrW nm y) (rest : L) : instr (nm ++ (y ++ ([63, 62] ++ rest))) = some (nm.length + y.length + 2) := by
  obtain ⟨h1, h2, h3, h4, h5⟩ := h
  have hlen : 0 < nm.length := List.length_pos_iff.2 h2
  have htk : take (nm ++ (y ++ ([63, 62] ++ rest))) = nm.length := by
    rcases h4 with rfl | ⟨c, t, rfl, hc⟩
    · exact take_word h1 h2 stops63
    · exact take_word h1 h2 (stops_sp hc)
  unfold instr
  rw [htk, List.take_left, List.drop_left, h3, if_neg (by simp; exact h2)]
  rcases h4 with rfl | ⟨c, t, rfl, hc⟩
  · rw [List.nil_append, if_pos (by simp)]
    simp
  · rw [if_neg (by
      simp
      rintro rfl
      cases hc), till_of h5]
    simp [hc]
/-- What a token's word is; where it stands. -/
def NotDecl (w : L) : Prop := ∀ rest, ¬(sXml.isPrefixOf (w ++ rest) = true ∧ (((w ++ rest).drop 5).head?.map sp).getD false = true)
inductive TokW : Nat → L → Tok → Prop
  | start (at_ : Nat) (nm wa : L) (as_ : List At) (e : Bool) : Name nm → nm ≠ [] → AttrsW (at_ + 1 + nm.length) wa as_ e → TokW at_ (60 :: (nm ++ wa)) ⟨0, nm, as_, e, [], at_, at_ + (60 :: (nm ++ wa)).length⟩
  | end_ (at_ : Nat) (nm b : L) : Name nm → nm ≠ [] → Sps b → TokW at_ (60 :: 47 :: (nm ++ (b ++ [62]))) ⟨1, nm, [], false, [], at_, at_ + (60 :: 47 :: (nm ++ (b ++ [62]))).length⟩
  | text (at_ : Nat) (tx : L) : tx ≠ [] → (60 : UInt8) ∉ tx → Lib.index tx [93, 93, 62] < 0 → TokW at_ tx ⟨2, [], [], false, tx, at_, at_ + tx.length⟩
  | data (at_ : Nat) (tx : L) : till [93, 93, 62] (tx ++ [93, 93, 62]) = some tx.length → TokW at_ (sData ++ (tx ++ [93, 93, 62])) ⟨3, [], [], false, tx, at_, at_ + (sData ++ (tx ++ [93, 93, 62])).length⟩
  | comment (at_ : Nat) (c : L) : till [45, 45] (c ++ [45, 45]) = some c.length → TokW at_ (sComment ++ (c ++ [45, 45, 62])) ⟨4, [], [], false, [], at_, at_ + (sComment ++ (c ++ [45, 45, 62])).length⟩
  | decl (d : L) : DeclW d → TokW 0 (sXml ++ d) ⟨4, [], [], false, [], 0, 0 + (sXml ++ d).length⟩
  | instr (at_ : Nat) (nm y : L) : InstrW nm y → (at_ = 0 → NotDecl (60 :: 63 :: (nm ++ (y ++ [63, 62])))) → TokW at_ (60 :: 63 :: (nm ++ (y ++ [63, 62]))) ⟨4, [], [], false, [], at_, at_ + (60 :: 63 :: (nm ++ (y ++ [63, 62]))).length⟩
theorem TokW.at_eq {at_ : Nat} {w : L} {t : Tok} (h : TokW at_ w t) : t.at_ = at_ := by cases h <;> rfl
theorem TokW.end_eq {at_ : Nat} {w : L} {t : Tok} (h : TokW at_ w t) : t.end_ = at_ + w.length := by cases h <;> rfl
theorem TokW.ne {at_ : Nat} {w : L} {t : Tok} (h : TokW at_ w t) : w ≠ [] := by
  cases h with
  | text _ _ h _ _ => exact h
  | _ => intro e; cases e
/-- What may stand behind a text. -/
def Lt (r : L) : Prop := r = [] ∨ ∃ s, r = 60 :: s
theorem notDecl_of {w r : L} (h6 : 6 ≤ w.length ∨ (∀ c t, w = t ++ [c] → c ∉ sXml) ∧ 0 < w.length) (h : ¬(sXml.isPrefixOf (w ++ r) = true ∧ (((w ++ r).drop 5).head?.map sp).getD false = true)) : NotDecl w := by
  intro rest hh
  have e5 : sXml.length = 5 := rfl
  by_cases h6' : 6 ≤ w.length
  · refine h ⟨?_, ?_⟩
    · rw [pfx_app (by omega)]; rw [pfx_app (by omega)] at hh; exact hh.1
    · have h2 := hh.2
      have hne : (w.drop 5).head? ≠ none := by
        rw [List.head?_drop, List.getElem?_eq_getElem (by omega)]
        simp
      rw [List.drop_append_of_le_length (by omega), List.head?_append] at h2 ⊢
      cases hw : (w.drop 5).head? with
      | none => exact absurd hw hne
      | some c => rw [hw] at h2; exact h2
  · rcases h6 with h6 | ⟨h6, h0⟩
    · exact h6' h6
    · obtain ⟨s, hs⟩ := pfx_iff.1 hh.1
      obtain ⟨t, c, htc⟩ : ∃ t c, w = t ++ [c] := ⟨w.dropLast, w.getLast (by intro e; subst e; simp at h0), (List.dropLast_concat_getLast _).symm⟩
      apply h6 c t htc
      have hl : t.length < 5 := by have := congrArg List.length htc; simp at this; omega
      have e1 : (sXml ++ s)[t.length]? = some c := by rw [← hs, htc]; simp
      rw [List.getElem?_append_left (by omega)] at e1
      exact List.mem_of_getElem? e1
theorem piece_word {at_ : Nat} {l : L} {t : Tok} (hl : l ≠ []) (h : Tk.piece at_ l = some t) : ∃ w rest, l = w ++ rest ∧ TokW at_ w t ∧ (t.kind = 2 → Lt rest) := by
  unfold Tk.piece at h
  split at h
  · rename_i hp
    obtain ⟨l, rfl⟩ := pfx_two hp
    unfold Tk.end_ at h
    simp only [List.drop_succ_cons, List.drop_zero] at h
    obtain ⟨t1, t2, -⟩ := take_spec l
    split at h
    · cases h
    rename_i h0
    obtain ⟨b, r, hr, hb, hn, -⟩ := nsp_word (l.drop (take l))
    rw [hn, hr, List.drop_left] at h
    split at h
    · rename_i hp
      obtain ⟨r, rfl⟩ := pfx_iff.1 hp
      have hlen : (l.take (take l)).length = take l := by rw [List.length_take]; omega
      cases h
      have ew : 60 :: 47 :: (l.take (take l) ++ (b ++ [62])) ++ r = 60 :: 47 :: l := by
        simp only [List.cons_append, List.append_assoc, List.nil_append]
        rw [show b ++ 62 :: r = l.drop (take l) by rw [hr]; simp, List.take_append_drop]
      refine ⟨60 :: 47 :: (l.take (take l) ++ (b ++ [62])), r, ew.symm, ?_, fun e => by cases e⟩
      have := TokW.end_ at_ (l.take (take l)) b t2 (fun e => by rw [e] at hlen; exact h0 hlen.symm) hb
      have e2 : at_ + (60 :: 47 :: (l.take (take l) ++ (b ++ [62]))).length = at_ + 2 + take l + b.length + 1 := by simp only [List.length_cons, List.length_append, hlen, List.length_nil]; omega
      rw [e2] at this
      exact this
    · cases h
  split at h
  · rename_i hp1 hp2
    unfold Tk.skip at h
    split at h
    · rename_i hp
      obtain ⟨l, rfl⟩ := pfx_iff.1 hp
      rw [show List.drop 4 (sComment ++ l) = l from drop_len (by rfl)] at h
      unfold Tk.comment at h
      cases ht : till [45, 45] l with
      | none => rw [ht] at h; cases h
      | some k =>
        rw [ht] at h
        simp only [Option.bind_some] at h
        obtain ⟨c, rest, rfl, rfl, hc⟩ := till_word ht
        rw [show List.drop (c.length + 2) (c ++ ([45, 45] ++ rest)) = rest by rw [← List.append_assoc]; exact drop_len (by simp)] at h
        split at h
        · rename_i hp
          obtain ⟨r, rfl⟩ := pfx_iff.1 hp
          cases h
          refine ⟨sComment ++ (c ++ [45, 45, 62]), r, by simp, ?_, fun e => by cases e⟩
          have := TokW.comment at_ c hc
          have e2 : at_ + (sComment ++ (c ++ [45, 45, 62])).length = at_ + 4 + (c.length + 3) := by simp only [List.length_append, List.length_cons, List.length_nil, sComment]; omega
          rw [e2] at this
          exact this
        · cases h
    split at h
    · rename_i hp
      obtain ⟨l, rfl⟩ := pfx_iff.1 hp
      rw [show List.drop 9 (sData ++ l) = l from drop_len (by rfl)] at h
      cases ht : till [93, 93, 62] l with
      | none => rw [ht] at h; cases h
      | some k =>
        rw [ht] at h
        obtain ⟨c, rest, rfl, rfl, hc⟩ := till_word ht
        cases h
        refine ⟨sData ++ (c ++ [93, 93, 62]), rest, by simp, ?_, fun e => by cases e⟩
        have := TokW.data at_ c hc
        have e2 : at_ + (sData ++ (c ++ [93, 93, 62])).length = at_ + 9 + c.length + 3 := by simp only [List.length_append, List.length_cons, List.length_nil, sData]; omega
        rw [e2] at this
        show TokW at_ _ ⟨3, [], [], false, (c ++ ([93, 93, 62] ++ rest)).take c.length, at_, at_ + 9 + c.length + 3⟩
        rw [List.take_left]
        exact this
    split at h
    · rename_i hp
      obtain ⟨rfl, hp, hs⟩ := hp
      obtain ⟨l, rfl⟩ := pfx_iff.1 hp
      rw [show List.drop 5 (sXml ++ l) = l from drop_len (by rfl)] at h hs
      cases hd : Tk.decl l with
      | none => rw [hd] at h; cases h
      | some n =>
        rw [hd] at h
        obtain ⟨w, rest, rfl, rfl, hw⟩ := decl_word hd
        cases h
        refine ⟨sXml ++ w, rest, by simp, ?_, fun e => by cases e⟩
        have := TokW.decl w hw
        have e2 : 0 + (sXml ++ w).length = 0 + 5 + w.length := by simp only [List.length_append, List.length_cons, List.length_nil, sXml]; omega
        rw [e2] at this
        exact this
    split at h
    · rename_i hnd hp
      obtain ⟨l, rfl⟩ := pfx_iff.1 hp
      rw [show List.drop 2 (([60, 63] : L) ++ l) = l from rfl] at h
      cases hi : Tk.instr l with
      | none => rw [hi] at h; cases h
      | some n =>
        rw [hi] at h
        obtain ⟨nm, y, rest, rfl, rfl, hw⟩ := instr_word hi
        cases h
        refine ⟨60 :: 63 :: (nm ++ (y ++ [63, 62])), rest, by simp, ?_, fun e => by cases e⟩
        have := TokW.instr at_ nm y hw fun h0 => notDecl_of (r := rest) (.inr ⟨fun c t e => by
          have e2 : 60 :: 63 :: (nm ++ (y ++ [63])) ++ [62] = t ++ [c] := by rw [← e]; simp
          have := List.append_inj_right' e2 rfl
          cases this
          decide, by simp⟩) (fun hh => hnd ⟨h0, by
            have e : 60 :: 63 :: (nm ++ (y ++ [63, 62])) ++ rest = [60, 63] ++ (nm ++ (y ++ ([63, 62] ++ rest))) := by simp
            rw [e] at hh
            exact hh⟩)
        have e2 : at_ + (60 :: 63 :: (nm ++ (y ++ [63, 62]))).length = at_ + 2 + (nm.length + y.length + 2) := by simp only [List.length_append, List.length_cons, List.length_nil]; omega
        rw [e2] at this
        exact this
    · cases h
  split at h
  · rename_i hp
    obtain ⟨l, rfl⟩ := pfx_one hp
    rw [start_eq] at h
    obtain ⟨t1, t2, -⟩ := take_spec l
    by_cases h0 : take l = 0
    · rw [if_pos h0] at h; cases h
    rw [if_neg h0] at h
    cases ha : attrs (l.length + 1) (at_ + 1 + take l) (l.drop (take l)) with
    | none => rw [ha] at h; cases h
    | some y =>
      obtain ⟨as_, e, off⟩ := y
      rw [ha] at h
      obtain ⟨w, rest, hr, rfl, hw⟩ := attrs_word _ _ _ _ _ _ ha
      have hlen : (l.take (take l)).length = take l := by rw [List.length_take]; omega
      cases h
      refine ⟨60 :: (l.take (take l) ++ w), rest, ?_, ?_, fun e => by cases e⟩
      · simp only [List.cons_append, List.append_assoc]
        rw [← hr, List.take_append_drop]
      · have := TokW.start at_ (l.take (take l)) w as_ e t2 (fun e => by rw [e] at hlen; exact h0 hlen.symm) (by rw [hlen]; exact hw)
        have e2 : at_ + (60 :: (l.take (take l) ++ w)).length = at_ + 1 + take l + w.length := by simp only [List.length_append, List.length_cons, hlen]; omega
        rw [e2] at this
        exact this
  · rename_i hp
    unfold Tk.text at h
    simp only at h
    split at h
    · rename_i hx
      cases h
      cases ht : till [60] l with
      | none =>
        rw [ht] at hx
        simp only [Option.getD_none, List.take_length] at hx ⊢
        exact ⟨l, [], (List.append_nil l).symm, .text at_ l hl (till_one_none ht) hx, fun _ => .inl rfl⟩
      | some n =>
        rw [ht] at hx
        obtain ⟨x, rest, rfl, hn, rfl⟩ := till_one ht
        simp only [Option.getD_some, List.take_left] at hx ⊢
        refine ⟨x, 60 :: rest, rfl, .text at_ x ?_ hn hx, fun _ => .inr ⟨rest, rfl⟩⟩
        rintro rfl
        simp at hp
    · cases h
theorem piece_of {at_ : Nat} {w : L} {t : Tok} (h : TokW at_ w t) (rest : L) (hr : t.kind = 2 → Lt rest) : Tk.piece at_ (w ++ rest) = some t := by
  cases h with
  | start _ nm wa as_ e hn h0 ha =>
    obtain ⟨c, u, hc⟩ : ∃ c u, nm = c :: u := by cases nm with
      | nil => exact absurd rfl h0
      | cons c t => exact ⟨c, t, rfl⟩
    have n47 : c ≠ 47 := name_not hn hc (by decide) (by decide)
    have n33 : c ≠ 33 := name_not hn hc (by decide) (by decide)
    have n63 : c ≠ 63 := name_not hn hc (by decide) (by decide)
    unfold Tk.piece
    rw [if_neg (by rw [hc]; simp; exact fun h => absurd h.symm n47), if_neg (by rw [hc]; simp; exact ⟨fun h => absurd h.symm n33, fun h => absurd h.symm n63⟩), if_pos (by simp)]
    rw [List.cons_append, start_eq]
    obtain ⟨d, u2, hd, hst⟩ := attrs_front ha rest
    have htk : take (nm ++ (wa ++ rest)) = nm.length := by rw [hd]; exact take_word hn h0 hst
    rw [List.append_assoc]
    rw [htk, if_neg (by intro h; exact h0 (List.eq_nil_of_length_eq_zero h)), List.drop_left, List.take_left, attrs_of ha _ _ (by simp; omega)]
    simp only [Option.map_some, List.length_cons, List.length_append]
    congr 2
    omega
  | end_ _ nm b hn h0 hb =>
    have e : 60 :: 47 :: (nm ++ (b ++ [62])) ++ rest = 60 :: 47 :: (nm ++ (b ++ 62 :: rest)) := by simp
    rw [e]
    unfold Tk.piece
    rw [if_pos (by simp)]
    unfold Tk.end_
    obtain ⟨d, u, hd, hst⟩ := sps_front (r := rest) hb stops62
    have htk : take (nm ++ (b ++ 62 :: rest)) = nm.length := by rw [hd]; exact take_word hn h0 hst
    simp only [List.drop_succ_cons, List.drop_zero]
    rw [htk, if_neg (by intro h; exact h0 (List.eq_nil_of_length_eq_zero h)), List.drop_left, List.take_left, nsp_of hb (fun c t h => by rw [← head_eq h]; rfl), List.drop_left, if_pos (by simp)]
    simp only [List.length_cons, List.length_append, List.length_nil]
    congr 2
    omega
  | text _ _ h0 h60 hx =>
    have hh : ∀ c u, w ++ rest = c :: u → c ≠ 60 := by
      intro c u hc
      cases w with
      | nil => exact absurd rfl h0
      | cons d w =>
        rw [List.cons_append] at hc
        rw [← head_eq hc]
        rintro rfl
        exact h60 (List.mem_cons_self ..)
    have hp : ∀ p, (60 :: p : L).isPrefixOf (w ++ rest) = false := by
      intro p
      cases hc : w ++ rest with
      | nil => rfl
      | cons c u =>
        have := hh c u hc
        rw [Bool.eq_false_iff]
        intro h
        obtain ⟨r, h⟩ := List.isPrefixOf_iff_prefix.1 h
        exact this (List.cons.inj h).1.symm
    unfold Tk.piece
    rw [hp, hp, hp, hp]
    simp only [Bool.or_self, Bool.false_eq_true, if_false]
    unfold Tk.text
    rcases hr rfl with rfl | ⟨s, rfl⟩
    · rw [List.append_nil]
      cases ht : till [60] w with
      | none => simp only [Option.getD_none, List.take_length]; rw [if_pos hx]
      | some n =>
        obtain ⟨x, r2, h1, h2, h3⟩ := till_one ht
        exact absurd (by rw [h1]; simp) h60
    · rw [till_one_of h60]
      simp only [Option.getD_some, List.take_left]
      rw [if_pos hx]
  | data _ tx ht =>
    have e : sData ++ (tx ++ [93, 93, 62]) ++ rest = sData ++ (tx ++ ([93, 93, 62] ++ rest)) := by simp
    rw [e]
    unfold Tk.piece
    rw [if_neg (by simp [sData]), if_pos (by simp [sData])]
    unfold Tk.skip
    rw [if_neg (by simp [sData, sComment]), if_pos (pfx_iff.2 ⟨_, rfl⟩), show List.drop 9 (sData ++ (tx ++ ([93, 93, 62] ++ rest))) = tx ++ ([93, 93, 62] ++ rest) from drop_len (by rfl), till_of ht, Option.map_some, List.take_left]
    simp only [List.length_append, List.length_cons, List.length_nil, sData]
    congr 2
    omega
  | comment _ c ht =>
    have e : sComment ++ (c ++ [45, 45, 62]) ++ rest = sComment ++ (c ++ ([45, 45] ++ (62 :: rest))) := by simp
    rw [e]
    unfold Tk.piece
    rw [if_neg (by simp [sComment]), if_pos (by simp [sComment])]
    unfold Tk.skip
    rw [if_pos (pfx_iff.2 ⟨_, rfl⟩), show List.drop 4 (sComment ++ (c ++ ([45, 45] ++ (62 :: rest)))) = c ++ ([45, 45] ++ (62 :: rest)) from drop_len (by rfl)]
    unfold Tk.comment
    rw [till_of ht, Option.bind_some, show List.drop (c.length + 2) (c ++ ([45, 45] ++ (62 :: rest))) = 62 :: rest by rw [← List.append_assoc]; exact drop_len (by simp), if_pos (by simp)]
    simp only [List.length_append, List.length_cons, List.length_nil, sComment, Option.map_some]
    congr 2
    omega
  | decl d hd =>
    rw [List.append_assoc]
    unfold Tk.piece
    rw [if_neg (by simp [sXml]), if_pos (by simp [sXml])]
    unfold Tk.skip
    have hs : ((((sXml ++ (d ++ rest)).drop 5).head?).map sp).getD false = true := by
      rw [show List.drop 5 (sXml ++ (d ++ rest)) = d ++ rest from drop_len (by rfl)]
      obtain ⟨v, x, e, a, b, ⟨b2, v2, h1, h2, h3, rfl⟩, _, _, _, _, rfl⟩ := hd
      cases b2 with
      | nil => exact absurd rfl h2
      | cons c b2 =>
        unfold Sps at h1
        rw [List.all_cons, Bool.and_eq_true] at h1
        simp [h1.1]
    rw [if_neg (by simp [sXml, sComment]), if_neg (by simp [sXml, sData]), if_pos ⟨rfl, pfx_iff.2 ⟨_, rfl⟩, hs⟩, show List.drop 5 (sXml ++ (d ++ rest)) = d ++ rest from drop_len (by rfl), decl_of hd, Option.map_some]
    simp only [List.length_append, List.length_cons, List.length_nil, sXml]
    congr 2
    omega
  | instr _ nm y hi hnd =>
    have e : 60 :: 63 :: (nm ++ (y ++ [63, 62])) ++ rest = 60 :: 63 :: (nm ++ (y ++ ([63, 62] ++ rest))) := by simp
    unfold Tk.piece
    rw [if_neg (by simp), if_pos (by simp)]
    unfold Tk.skip
    rw [if_neg (by simp [sComment]), if_neg (by simp [sData]), if_neg (fun hh => hnd hh.1 rest hh.2), if_pos (by simp), e]
    rw [show (60 :: 63 :: (nm ++ (y ++ ([63, 62] ++ rest)))).drop 2 = nm ++ (y ++ ([63, 62] ++ rest)) from rfl, instr_of hi, Option.map_some]
    simp only [List.length_append, List.length_cons, List.length_nil]
    congr 2
    omega
theorem fine_valid {l : L} (h : fine l = true) : Utf.valid l = true := by
  rw [Utf.valid_pieces, decide_eq_true_eq]
  unfold fine at h
  generalize Utf.pieces l = ps at *
  induction ps with
  | nil => decide
  | cons p ps ih =>
    rw [List.all_cons, Bool.and_eq_true] at h
    rw [Utf.firstBad_pos _ (fun hn => by rw [charOk_neg' _ hn] at h; cases h.1)]
    exact ih h.2
theorem fine_from (l : L) (at_ : Nat) : (Utf.from_ at_ l).all (fun p => charOk p.2) = fine l := by
  have := Utf.from_shift l 0 at_
  rw [Nat.zero_add] at this
  rw [this, List.all_map]
  rfl
theorem fine_app {p : L} (h : Utf.valid p = true) (q : L) : fine (p ++ q) = (fine p && fine q) := by
  have e : fine (p ++ q) = (Utf.from_ 0 (p ++ q)).all (fun p => charOk p.2) := rfl
  rw [e, Utf.from_app h, List.all_append, fine_from, fine_from]
theorem fine_both {p q : L} (h : fine p = true) (k : fine q = true) : fine (p ++ q) = true := by rw [fine_app (fine_valid h), h, k]; rfl
theorem fine_parts {p q : L} (h : Utf.valid p = true) (k : fine (p ++ q) = true) : fine p = true ∧ fine q = true := by
  rw [fine_app h, Bool.and_eq_true] at k
  exact k
theorem fine_ascii {c : UInt8} (hc : c.toNat < 128) (q : L) : fine (c :: q) = (charOk (c.toNat : Int) && fine q) := by
  have e : fine (c :: q) = (Utf.from_ 0 (c :: q)).all (fun p => charOk p.2) := rfl
  rw [e, Utf.from_ascii hc, List.all_cons, fine_from]
theorem fine_split {p q : L} {c : UInt8} (hc : c.toNat < 128) (h : fine (p ++ c :: q) = true) : fine p = true ∧ fine q = true := by
  obtain ⟨h1, h2⟩ := fine_parts (Utf.valid_split hc (fine_valid h)) h
  rw [fine_ascii hc, Bool.and_eq_true] at h2
  exact ⟨h1, h2.2⟩
theorem one_word {at_ : Nat} {l : L} {t : Tok} (hl : l ≠ []) (h : Tk.one at_ l = some t) : ∃ w rest, l = w ++ rest ∧ TokW at_ w t ∧ fine w = true ∧ (t.kind = 2 → Lt rest) := by
  unfold Tk.one at h
  cases hp : Tk.piece at_ l with
  | none => rw [hp] at h; cases h
  | some u =>
    rw [hp] at h
    simp only [Option.bind_some] at h
    split at h
    · rename_i hf
      cases h
      obtain ⟨w, rest, rfl, hw, hk⟩ := piece_word hl hp
      rw [hw.end_eq, Nat.add_sub_cancel_left, List.take_left] at hf
      exact ⟨w, rest, rfl, hw, hf, hk⟩
    · cases h
theorem one_of {at_ : Nat} {w : L} {t : Tok} (h : TokW at_ w t) (hf : fine w = true) {rest : L} (hr : t.kind = 2 → Lt rest) : Tk.one at_ (w ++ rest) = some t := by
  unfold Tk.one
  rw [piece_of h rest hr, Option.bind_some, h.end_eq, Nat.add_sub_cancel_left, List.take_left, if_pos hf]
/-- A row of tokens: the words from byte at_ on, what stands behind them. -/
inductive Row : Nat → L → L → List Tok → Prop
  | nil (at_ : Nat) (rest : L) : Row at_ [] rest []
  | cons (at_ : Nat) (w : L) (t : Tok) (w2 rest : L) (ts : List Tok) : TokW at_ w t → fine w = true → (t.kind = 2 → Lt (w2 ++ rest)) → Row (at_ + w.length) w2 rest ts → Row at_ (w ++ w2) rest (t :: ts)
theorem toks_word : ∀ (k at_ : Nat) (l : L), l.length ≤ k → ∃ w rest, l = w ++ rest ∧ Row at_ w rest (toks k at_ l) ∧ (rest = [] ∨ Tk.one (at_ + w.length) rest = none)
  | 0, at_, l, h => by
    have : l = [] := List.eq_nil_of_length_eq_zero (by omega)
    subst this
    exact ⟨[], [], rfl, .nil _ _, .inl rfl⟩
  | k + 1, at_, l, h => by
    unfold toks
    by_cases hl : l = []
    · subst hl
      exact ⟨[], [], rfl, .nil _ _, .inl rfl⟩
    rw [if_neg (by simpa using hl)]
    cases ho : Tk.one at_ l with
    | none => exact ⟨[], l, rfl, .nil _ _, .inr ho⟩
    | some t =>
      obtain ⟨w, r, rfl, hw, hf, hk⟩ := one_word hl ho
      have h0 := List.length_pos_iff.2 hw.ne
      rw [List.length_append] at h
      simp only
      rw [hw.end_eq, Nat.add_sub_cancel_left, List.drop_left]
      obtain ⟨w2, rest, rfl, h2, h3⟩ := toks_word k (at_ + w.length) r (by omega)
      exact ⟨w ++ w2, rest, by simp, .cons _ _ _ _ _ _ hw hf hk h2, by rw [List.length_append, ← Nat.add_assoc]; exact h3⟩
theorem toks_of {at_ : Nat} {w rest : L} {ts : List Tok} (h : Row at_ w rest ts) : ∀ k, (w ++ rest).length ≤ k → ∃ k', rest.length ≤ k' ∧ toks k at_ (w ++ rest) = ts ++ toks k' (at_ + w.length) rest := by
  induction h with
  | nil at_ rest => exact fun k hk => ⟨k, hk, rfl⟩
  | cons at_ w t w2 rest ts hw hf hk _ ih =>
    intro k hlen
    have h0 := List.length_pos_iff.2 hw.ne
    simp only [List.length_append] at hlen
    obtain ⟨k, rfl⟩ : ∃ j, k = j + 1 := ⟨k - 1, by omega⟩
    obtain ⟨k', h1, h2⟩ := ih k (by rw [List.length_append]; omega)
    refine ⟨k', h1, ?_⟩
    rw [List.append_assoc, toks_succ, if_neg (by simp; exact fun h => absurd h hw.ne), one_of hw hf hk]
    simp only
    rw [hw.end_eq, Nat.add_sub_cancel_left, List.drop_left, h2, List.length_append, Nat.add_assoc]
    rfl
theorem toks_none {k at_ : Nat} {l : L} (h : l = [] ∨ Tk.one at_ l = none) : toks k at_ l = [] := by
  cases k with
  | zero => rfl
  | succ k =>
    unfold toks
    rcases h with rfl | h
    · rfl
    · rw [h]
      split <;> rfl
theorem toks_row {w rest : L} {ts : List Tok} {at_ : Nat} (h : Row at_ w rest ts) (hr : rest = [] ∨ Tk.one (at_ + w.length) rest = none) (k : Nat) (hk : (w ++ rest).length ≤ k) : toks k at_ (w ++ rest) = ts := by
  obtain ⟨k', _, h2⟩ := toks_of h k hk
  rw [h2, toks_none hr, List.append_nil]
theorem Row.split {at_ : Nat} {w rest : L} {ts1 ts2 : List Tok} (h : Row at_ w rest (ts1 ++ ts2)) : ∃ w1 w2, w = w1 ++ w2 ∧ Row at_ w1 (w2 ++ rest) ts1 ∧ Row (at_ + w1.length) w2 rest ts2 := by
  induction ts1 generalizing at_ w with
  | nil => exact ⟨[], w, rfl, .nil _ _, h⟩
  | cons t ts1 ih =>
    cases h with
    | cons _ w t w2 rest ts hw hf hk hr =>
      obtain ⟨w3, w4, rfl, h1, h2⟩ := ih hr
      refine ⟨w ++ w3, w4, by simp, .cons _ _ _ _ _ _ hw hf (by rw [← List.append_assoc]; exact hk) h1, ?_⟩
      rw [List.length_append, ← Nat.add_assoc]
      exact h2
theorem Row.join {at_ : Nat} {w1 w2 rest : L} {ts1 ts2 : List Tok} (h : Row at_ w1 (w2 ++ rest) ts1) (k : Row (at_ + w1.length) w2 rest ts2) : Row at_ (w1 ++ w2) rest (ts1 ++ ts2) := by
  generalize hr : w2 ++ rest = r at h
  induction h with
  | nil at_ rest => exact k
  | cons at_ w t w3 rest ts hw hf hk _ ih =>
    subst hr
    rw [List.append_assoc]
    refine .cons _ _ _ _ _ _ hw hf (by rw [List.append_assoc]; exact hk) (ih ?_ rfl)
    rw [List.length_append, ← Nat.add_assoc] at k
    exact k
theorem Row.rest_ {at_ : Nat} {w rest rest' : L} {ts : List Tok} (h : Row at_ w rest ts) (hr : Lt rest') : Row at_ w rest' ts := by
  induction h with
  | nil at_ rest => exact .nil _ _
  | cons at_ w t w2 rest ts hw hf hk _ ih =>
    refine .cons _ _ _ _ _ _ hw hf (fun e => ?_) ih
    cases w2 with
    | nil => exact hr
    | cons c w2 =>
      rcases hk e with h | ⟨s, h⟩
      · cases h
      · rw [List.cons_append] at h
        rw [head_eq h]
        exact .inr ⟨_, rfl⟩
theorem Row.fine {at_ : Nat} {w rest : L} {ts : List Tok} (h : Row at_ w rest ts) : Tk.fine w = true := by
  induction h with
  | nil at_ rest => rfl
  | cons at_ w t w2 rest ts hw hf hk _ ih => exact fine_both hf ih
/-- Each begins where the one ahead ends. -/
def Chain : Nat → List Tok → Nat → Prop
  | n, [], e => n = e
  | n, t :: ts, e => t.at_ = n ∧ n < t.end_ ∧ Chain t.end_ ts e
theorem Row.chain {at_ : Nat} {w rest : L} {ts : List Tok} (h : Row at_ w rest ts) : Chain at_ ts (at_ + w.length) := by
  induction h with
  | nil at_ rest => rfl
  | cons at_ w t w2 rest ts hw hf hk _ ih =>
    have h0 := List.length_pos_iff.2 hw.ne
    refine ⟨hw.at_eq, by rw [hw.end_eq]; omega, ?_⟩
    rw [hw.end_eq, List.length_append, ← Nat.add_assoc]
    exact ih
end Tk
end Go.Proofs.Ytaickkaoglohgaa
