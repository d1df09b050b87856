/- Plain: what bozo's steps keep; its events balance; no program in sight. · Plain: a text's parse by its row of tokens; tokens farther on do the same; no program in sight. -/
import Derived.Test.YtaickkaoglohgaaBv13
import Derived.Test.YtaickkaoglohgaaBv19
set_option linter.unusedSimpArgs false
set_option linter.unusedVariables false
namespace Go.Proofs.Ytaickkaoglohgaa
open Go Tk Sx
namespace Bz
theorem piece_one {c : UInt8} {r : L} (h : 0 ≤ (Utf.piece (c :: r)).1) (hc : charOk (Utf.piece (c :: r)).1 = true) : fine ((c :: r).take (Utf.piece (c :: r)).2.toNat) = true := by
  have hn := Utf.piece_n c r
  have hp := Utf.piece_take h []
  rw [List.append_nil] at hp
  generalize hk : (Utf.piece (c :: r)).2.toNat = k at *
  obtain ⟨k, rfl⟩ : ∃ j, k = j + 1 := ⟨k - 1, by omega⟩
  rw [List.take_succ_cons] at hp ⊢
  rw [← fine_from _ 0, Utf.from_cons, hp, hk]
  have hd : (c :: r.take k).drop (k + 1) = [] := List.drop_of_length_le (by rw [List.length_cons, List.length_take]; omega)
  rw [hd]
  simp [hc, Utf.from_nil]
theorem cleanN_fine : ∀ (f : Nat) (l : L), fine (cleanN f l).1 = true
  | 0, _ => by rw [cleanN]; rfl
  | f + 1, [] => by
    rw [cleanN]
    · rfl
    · intro h; cases h
  | f + 1, c :: r => by
    rw [cleanN]
    split
    · rename_i h0
      split
      · rename_i hc
        exact fine_both (piece_one h0 hc) (cleanN_fine f _)
      · refine fine_both ?_ (cleanN_fine f _)
        split <;> decide
    · exact fine_both (by decide) (cleanN_fine f _)
theorem clean_fine (l : L) : fine (clean l).1 = true := by
  unfold clean
  split
  · rename_i h; exact h
  · exact cleanN_fine _ _
section
variable (n : Nat) (k : Int) (a : Nat) (s : L) (p : Bs)
theorem mend_st : (mend k a p).st = p.st := rfl
theorem mendN_st : (mendN n k a p).st = p.st := rfl
theorem mendL_st (l : List Rsn) : (mendL l a p).st = p.st := rfl
theorem cut_st : (cutB n p).st = p.st := rfl
theorem until_st (f : UInt8 → Bool) : (untilB f p).st = p.st := rfl
theorem pclean_st : (pclean s a p).2.st = p.st := rfl
theorem ploose_st : (ploose s a p).2.st = p.st := rfl
theorem skip_st (e : L) : (skipB n e p).2.st = p.st := by unfold skipB; split <;> rfl
theorem value_st : (valueB a p).2.st = p.st := by
  unfold valueB
  split
  · rfl
  · split
    · split <;> rfl
    · rfl
theorem attribute_st : (attrB n p).2.st = p.st := by
  unfold attrB
  split
  · exact value_st _ _
  · rfl
end
theorem tag_st (a : Nat) : ∀ (f : Nat) (acc : List At) (p : Bs), (tag a f acc p).2.2.st = p.st
  | 0, _, _ => rfl
  | f + 1, acc, p => by
    rw [tag]
    (try dsimp only)
    split
    · rfl
    split
    · rfl
    split
    · rfl
    split
    · rfl
    split
    · rw [tag_st a f, attribute_st]; rfl
    · rw [tag_st a f]; rfl
theorem tag_e (a : Nat) : ∀ (f : Nat) (acc : List At) (p : Bs), (tag a f acc p).2.2.e = p.e
  | 0, _, _ => rfl
  | f + 1, acc, p => by
    have hv : ∀ b q, (valueB b q).2.e = q.e := fun b q => by
      unfold valueB
      split
      · rfl
      · split
        · split <;> rfl
        · rfl
    have ha : ∀ n q, (attrB n q).2.e = q.e := fun n q => by
      unfold attrB
      split
      · exact hv _ _
      · rfl
    rw [tag]
    (try dsimp only)
    split
    · rfl
    split
    · rfl
    split
    · rfl
    split
    · rfl
    split
    · rw [tag_e a f, ha]; rfl
    · rw [tag_e a f]; rfl
theorem once_st : ∀ (l : List At) (seen : List L) (p : Bs), (once seen l p).2.st = p.st ∧ (once seen l p).2.e = p.e ∧ (once seen l p).1.length ≤ l.length ∧ ∀ x ∈ (once seen l p).1, x ∈ l
  | [], _, _ => ⟨rfl, rfl, Nat.le_refl _, fun _ h => h⟩
  | x :: r, seen, p => by
    rw [once]
    split
    · obtain ⟨h1, h2, h3, h4⟩ := once_st r seen (mend 9 x.at_ p)
      exact ⟨h1, h2, Nat.le_succ_of_le h3, fun y hy => List.mem_cons_of_mem _ (h4 y hy)⟩
    · obtain ⟨h1, h2, h3, h4⟩ := once_st r (seen ++ [x.name]) p
      refine ⟨h1, h2, Nat.succ_le_succ h3, fun y hy => ?_⟩
      rcases List.mem_cons.1 hy with rfl | hy
      · exact List.mem_cons_self ..
      · exact List.mem_cons_of_mem _ (h4 y hy)
theorem name_st (wr : L) (att : Bool) (a : Nat) (p : Bs) : (name wr att a p).2.st = p.st ∧ (name wr att a p).2.e = p.e ∧ (wr ≠ [] → (name wr att a p).1.loc ≠ []) := by
  unfold name
  split
  · exact ⟨rfl, rfl, fun h => h⟩
  · rename_i pre loc hs
    have hl : loc ≠ [] := split_loc hs
    split
    · exact ⟨rfl, rfl, fun _ => hl⟩
    split
    · exact ⟨rfl, rfl, fun _ => hl⟩
    split
    · exact ⟨rfl, rfl, fun _ => hl⟩
    · exact ⟨rfl, rfl, fun h => h⟩
theorem attrs_st : ∀ (l : List At) (seen : List Nm) (p : Bs), (attrsB seen l p).2.st = p.st ∧ (attrsB seen l p).2.e = p.e ∧ (attrsB seen l p).1.length ≤ l.length ∧ ∀ x ∈ (attrsB seen l p).1, ∃ y ∈ l, x.val = y.value
  | [], _, _ => ⟨rfl, rfl, Nat.le_refl _, fun _ h => by cases h⟩
  | x :: r, seen, p => by
    rw [attrsB]
    obtain ⟨n1, n2, _⟩ := name_st x.name true x.at_ p
    split
    · obtain ⟨h1, h2, h3, h4⟩ := attrs_st r seen p
      exact ⟨h1, h2, Nat.le_succ_of_le h3, fun y hy => by obtain ⟨z, hz, e⟩ := h4 y hy; exact ⟨z, List.mem_cons_of_mem _ hz, e⟩⟩
    split
    · obtain ⟨h1, h2, h3, h4⟩ := attrs_st r seen (mend 9 x.at_ (name x.name true x.at_ p).2)
      exact ⟨h1.trans n1, h2.trans n2, Nat.le_succ_of_le h3, fun y hy => by obtain ⟨z, hz, e⟩ := h4 y hy; exact ⟨z, List.mem_cons_of_mem _ hz, e⟩⟩
    · obtain ⟨h1, h2, h3, h4⟩ := attrs_st r (seen ++ [(name x.name true x.at_ p).1]) (name x.name true x.at_ p).2
      refine ⟨h1.trans n1, h2.trans n2, Nat.succ_le_succ h3, fun y hy => ?_⟩
      rcases List.mem_cons.1 hy with rfl | hy
      · exact ⟨x, List.mem_cons_self .., rfl⟩
      · obtain ⟨z, hz, e⟩ := h4 y hy; exact ⟨z, List.mem_cons_of_mem _ hz, e⟩
/-- The attributes' values are of Chars alone. -/
def FineV (l : List At) : Prop := ∀ x ∈ l, fine x.value = true
theorem attribute_fine (n : Nat) (p : Bs) : fine (attrB n p).1.value = true := by
  unfold attrB
  split
  · exact clean_fine _
  · rfl
theorem tag_fine (a : Nat) : ∀ (f : Nat) (acc : List At) (p : Bs), FineV acc → FineV (tag a f acc p).1
  | 0, _, _, h => h
  | f + 1, acc, p, h => by
    rw [tag]
    (try dsimp only)
    split
    · exact h
    split
    · exact h
    split
    · exact h
    split
    · exact h
    split
    · refine tag_fine a f _ _ fun x hx => ?_
      rcases List.mem_append.1 hx with hx | hx
      · exact h x hx
      · rw [List.mem_singleton.1 hx]; exact attribute_fine _ _
    · exact tag_fine a f _ _ h
/-- All the attributes' values are of Chars alone. -/
def FineE (l : List Ev) : Prop := ∀ e ∈ l, ∀ a ∈ e.attrs, fine a.val = true
theorem fineE_put {l : List Ev} {x : Ev} (h : FineE l) (hx : ∀ a ∈ x.attrs, fine a.val = true) : FineE (putEv l x) := by
  have h2 : FineE (l ++ [x]) := fun e he => by
    rcases List.mem_append.1 he with he | he
    · exact h e he
    · rw [List.mem_singleton.1 he]; exact hx
  unfold putEv
  split
  · exact h2
  split
  · rename_i y hy
    split
    · intro e he
      rcases List.mem_append.1 he with he | he
      · exact h e (List.dropLast_subset _ he)
      · rw [List.mem_singleton.1 he]
        exact h y (List.mem_of_getLast? hy)
    · split
      · exact h
      · exact h2
  · split
    · exact h
    · exact h2
theorem fineE_close {st : St} (h : FineE st.evs) : FineE (closeSt st).evs := by
  unfold closeSt
  split
  · exact h
  · rename_i x _
    exact fineE_put (x := ⟨1, x.name, [], []⟩) h (fun a ha => by cases ha)
/-- What every step keeps. -/
structure Good (p : Bs) : Prop where
  inv : Inv p.st
  val : FineE p.st.evs
theorem Good.same {p q : Bs} (h : Good p) (e : q.st = p.st) : Good q := ⟨by rw [e]; exact h.inv, by rw [e]; exact h.val⟩
theorem good0 (s : L) : Good (b0 s) := ⟨inv0, fun e he => by cases he⟩
theorem good_close {p : Bs} (h : Good p) (ho : p.st.open_ ≠ []) : Good (close p) := ⟨inv_close h.inv ho, fineE_close h.val⟩
theorem close_open {st : St} : (closeSt st).open_ = st.open_.dropLast := by
  unfold closeSt
  cases h : st.open_.getLast? with
  | none => rw [List.getLast?_eq_none_iff.1 h]; rfl
  | some x => rfl
theorem closeN_open (a : Nat) : ∀ (n : Nat) (p : Bs), (closeN a n p).st.open_ = p.st.open_.take (p.st.open_.length - n)
  | 0, p => by rw [closeN, Nat.sub_zero, List.take_length]
  | n + 1, p => by
    rw [closeN, closeN_open a n]
    show (closeSt p.st).open_.take ((closeSt p.st).open_.length - n) = _
    rw [close_open, List.length_dropLast, List.dropLast_eq_take, List.take_take]
    congr 1
    omega
theorem good_closeN (a : Nat) : ∀ (n : Nat) (p : Bs), Good p → n ≤ p.st.open_.length → Good (closeN a n p)
  | 0, _, h, _ => h
  | n + 1, p, h, hn => by
    rw [closeN]
    have ho : p.st.open_ ≠ [] := fun e => by rw [e] at hn; simp at hn
    refine good_closeN a n _ (good_close (h.same rfl) ho) ?_
    show n ≤ (closeSt p.st).open_.length
    rw [close_open, List.length_dropLast]
    omega
theorem lastOf_lt {nm : L} {o : List El} : ∀ {m k : Nat}, lastOf nm o m = some k → k < m
  | 0, k, h => by cases h
  | m + 1, k, h => by
    rw [lastOf] at h
    split at h
    · cases h; omega
    · have := lastOf_lt h; omega
theorem endCut_st (n : Nat) (p : Bs) : (endCut n p).st = p.st ∧ (endCut n p).e = p.e := by
  unfold endCut
  dsimp only
  split
  · split <;> exact ⟨rfl, rfl⟩
  · split <;> exact ⟨rfl, rfl⟩
theorem good_end {n : Nat} {p : Bs} (h : Good p) : Good (endB n p) := by
  have hc := (endCut_st n p).1
  unfold endB
  split
  · exact h.same hc
  · rename_i k hk
    have hk := lastOf_lt hk
    have hg : Good (endCut n p) := h.same hc
    refine good_close (good_closeN _ _ _ hg (by omega)) ?_
    intro e
    have := congrArg List.length e
    rw [closeN_open, List.length_take] at this
    simp at this
    omega
theorem declared_any (p : Bs) (l : List At) : Good p → Good { p with st := ⟨p.st.open_, declaredB p.st.scope l, p.st.evs, p.st.rooted⟩ } := fun h =>
  ⟨⟨h.inv.bal, h.inv.op, h.inv.no, h.inv.yes, h.inv.few⟩, h.val⟩
/-- An element may begin where none ended yet. -/
theorem good_begun {wr : L} {a sc : Nat} {l : List At} {empty : Bool} {p : Bs} (h : Good p) (hw : wr ≠ []) (hl : l.length ≤ 16) (hf : FineV l) (ho : p.st.open_.length < 16) (hr : p.st.rooted = false ∨ p.st.open_ ≠ []) : Good (begun wr a sc l empty p) := by
  obtain ⟨o1, _, o3, o4⟩ := once_st l [] p
  unfold begun
  dsimp only
  generalize once [] l p = o at *
  have h3 := declared_any o.2 o.1 (h.same o1)
  have e3 : ({ o.2 with st := ⟨o.2.st.open_, declaredB o.2.st.scope o.1, o.2.st.evs, o.2.st.rooted⟩ } : Bs).st = ⟨p.st.open_, declaredB p.st.scope o.1, p.st.evs, p.st.rooted⟩ := by rw [o1]
  generalize ({ o.2 with st := ⟨o.2.st.open_, declaredB o.2.st.scope o.1, o.2.st.evs, o.2.st.rooted⟩ } : Bs) = p3 at *
  obtain ⟨n1, _, n3⟩ := name_st wr false a p3
  generalize name wr false a p3 = nm at *
  obtain ⟨a1, _, a3, a4⟩ := attrs_st o.1 [] nm.2
  generalize attrsB [] o.1 nm.2 = x at *
  have ex : x.2.st = p3.st := a1.trans n1
  have hx : Good x.2 := h3.same ex
  have eo : x.2.st.open_ = p.st.open_ := by rw [ex, e3]
  have er : x.2.st.rooted = p.st.rooted := by rw [ex, e3]
  have hev : putEv x.2.st.evs ⟨0, nm.1, x.1, []⟩ = x.2.st.evs ++ [⟨0, nm.1, x.1, []⟩] := put_other (by simp)
  have hg : Good { x.2 with st := ⟨x.2.st.open_ ++ [⟨wr, nm.1, sc⟩], x.2.st.scope, putEv x.2.st.evs ⟨0, nm.1, x.1, []⟩, true⟩, junk := false } := by
    refine ⟨⟨?_, ?_, fun h => (by cases h), fun _ => ?_, ?_⟩, ?_⟩
    · show Bal (putEv x.2.st.evs ⟨0, nm.1, x.1, []⟩)
      rw [hev]
      refine bal_snoc hx.inv.bal (.inl ⟨rfl, fun hop => ?_, ?_, ?_, n3 hw⟩)
      · rw [hx.inv.op, eo] at hop
        have hop : p.st.open_ = [] := by simpa using hop
        rcases hr with hr | hr
        · rw [(hx.inv.no (er.trans hr)).1]; rfl
        · exact absurd hop hr
      · rw [hx.inv.op, List.length_map, eo]; exact ho
      · show x.1.length ≤ 16
        omega
    · show opn [] (putEv x.2.st.evs ⟨0, nm.1, x.1, []⟩) = (x.2.st.open_ ++ [(⟨wr, nm.1, sc⟩ : El)]).map (·.name)
      rw [hev, opn_snoc, hx.inv.op]
      rw [List.map_append]
      rfl
    · show putEv x.2.st.evs ⟨0, nm.1, x.1, []⟩ ≠ []
      rw [hev]
      simp
    · show (x.2.st.open_ ++ [(⟨wr, nm.1, sc⟩ : El)]).length ≤ 16
      rw [List.length_append, eo]
      simp
      omega
    · exact fineE_put (x := ⟨0, nm.1, x.1, []⟩) hx.val fun b hb => by
        obtain ⟨y, hy, e⟩ := a4 b hb
        rw [e]
        exact hf y (o4 y hy)
  split
  · exact good_close hg (by show x.2.st.open_ ++ [(⟨wr, nm.1, sc⟩ : El)] ≠ []; simp)
  · exact hg
theorem good_start {n : Nat} {p : Bs} (h : Good p) (hn : 0 < n) (hl : n ≤ (p.l.drop 1).length) (hr : p.st.rooted = false ∨ p.st.open_ ≠ []) : Good (startB n p) := by
  unfold startB
  dsimp only
  have ht := tag_st p.at_ ((cutB n (cutB 1 p)).l.length + 1) [] (cutB n (cutB 1 p))
  have hf := tag_fine p.at_ ((cutB n (cutB 1 p)).l.length + 1) [] (cutB n (cutB 1 p)) (fun _ h => by cases h)
  generalize tag p.at_ ((cutB n (cutB 1 p)).l.length + 1) [] (cutB n (cutB 1 p)) = t at *
  have e : t.2.2.st = p.st := ht
  split
  · exact h.same e
  split
  · exact h.same e
  · rename_i h1 h2
    refine good_begun (h.same e) ?_ (by omega) hf (by omega) (by rw [e]; exact hr)
    intro hnil
    have := congrArg List.length hnil
    rw [List.length_take] at this
    simp at this hl
    omega
theorem good_says {s : L} {a : Nat} {how : L → Nat → Bs → L × Bs} {p : Bs} (h : Good p) (h1 : ∀ q, (how s a q).2.st = q.st) (h2 : ∀ q, fine (how s a q).1 = true) : Good (says s a how p) := by
  unfold says
  split
  · rename_i ho
    have hg : Good (how s a p).2 := h.same (h1 p)
    exact ⟨inv_text hg.inv (by rw [h1 p]; exact ho) (h2 p), fineE_put (x := textEv (how s a p).1) hg.val (fun a ha => by cases ha)⟩
  split
  · exact h.same rfl
  · exact h
theorem good_piece {p : Bs} (h : Good p) (hl : p.l ≠ []) (hr : p.st.rooted = false ∨ p.st.open_ ≠ []) : Good (piece p) := by
  unfold piece
  split
  · exact good_says (h.same rfl) (fun _ => rfl) (fun _ => clean_fine _)
  split
  · exact h.same (skip_st _ _ _)
  split
  · exact h.same (skip_st _ _ _)
  split
  · exact good_says (h.same (skip_st _ _ _)) (fun _ => rfl) (fun _ => clean_fine _)
  split
  · exact h.same (skip_st _ _ _)
  split
  · exact good_end h
  split
  · rename_i ht
    exact good_start h ht (take_spec _).1 hr
  · exact good_says (h.same rfl) (fun _ => rfl) (fun _ => rfl)
theorem good_go : ∀ (f : Nat) (p : Bs), Good p → Good (go f p)
  | 0, _, h => h
  | f + 1, p, h => by
    rw [go]
    split
    · rename_i hc
      exact good_go f _ (good_piece h hc.1 hc.2.2)
    · exact h
theorem behind_st : ∀ (f : Nat) (p : Bs), (behind f p).st = p.st ∧ (behind f p).e = p.e
  | 0, _ => ⟨rfl, rfl⟩
  | f + 1, p => by
    have hs : ∀ n e q, (skipB n e q).2.e = q.e := fun n e q => by unfold skipB; split <;> rfl
    rw [behind]
    (try dsimp only)
    split
    · obtain ⟨h1, h2⟩ := behind_st f (skipB 4 [45, 45, 62] (untilB solid p)).2
      exact ⟨h1.trans (skip_st _ _ _), h2.trans (hs _ _ _)⟩
    split
    · obtain ⟨h1, h2⟩ := behind_st f (skipB 2 [63, 62] (untilB solid p)).2
      exact ⟨h1.trans (skip_st _ _ _), h2.trans (hs _ _ _)⟩
    split
    · exact ⟨rfl, rfl⟩
    · exact ⟨rfl, rfl⟩
/-- What a parse may answer as an error. -/
theorem piece_e {p : Bs} (h : p.e = 0) : (piece p).e = 0 ∨ (piece p).e = 41 ∨ (piece p).e = 42 := by
  have hs : ∀ n e q, (skipB n e q).2.e = q.e := fun n e q => by unfold skipB; split <;> rfl
  have hy : ∀ s a how (q : Bs), (how s a q).2.e = q.e → (says s a how q).e = q.e := fun s a how q hh => by
    unfold says
    split
    · exact hh
    split
    · rfl
    · rfl
  have hcn : ∀ a n q, (closeN a n q).e = q.e := by
    intro a n
    induction n with
    | zero => intro q; rfl
    | succ n ih => intro q; rw [closeN, ih]; rfl
  unfold piece
  split
  · left; rw [hy _ _ _ _ (by rfl)]; exact h
  split
  · left; rw [hs]; exact h
  split
  · left; rw [hs]; exact h
  split
  · left; rw [hy _ _ _ _ (by rfl), hs]; exact h
  split
  · left; rw [hs]; exact h
  split
  · left
    unfold endB
    have he := (endCut_st (take (p.l.drop 2)) p).2
    split
    · exact he.trans h
    · show (closeN _ _ _).e = 0
      rw [hcn, he]; exact h
  split
  · unfold startB
    dsimp only
    have ht := tag_e p.at_ ((cutB (take (p.l.drop 1)) (cutB 1 p)).l.length + 1) [] (cutB (take (p.l.drop 1)) (cutB 1 p))
    generalize tag p.at_ ((cutB (take (p.l.drop 1)) (cutB 1 p)).l.length + 1) [] (cutB (take (p.l.drop 1)) (cutB 1 p)) = t at *
    split
    · exact .inr (.inr rfl)
    split
    · exact .inr (.inl rfl)
    · left
      unfold begun
      dsimp only
      obtain ⟨_, o2, _⟩ := once_st t.1 [] t.2.2
      generalize once [] t.1 t.2.2 = o at *
      obtain ⟨_, n2, _⟩ := name_st ((p.l.drop 1).take (take (p.l.drop 1))) false p.at_ { o.2 with st := ⟨o.2.st.open_, declaredB o.2.st.scope o.1, o.2.st.evs, o.2.st.rooted⟩ }
      generalize name ((p.l.drop 1).take (take (p.l.drop 1))) false p.at_ { o.2 with st := ⟨o.2.st.open_, declaredB o.2.st.scope o.1, o.2.st.evs, o.2.st.rooted⟩ } = nm at *
      obtain ⟨_, a2, _⟩ := attrs_st o.1 [] nm.2
      generalize attrsB [] o.1 nm.2 = x at *
      have e : x.2.e = 0 := a2.trans (n2.trans (o2.trans (ht.trans h)))
      split
      · exact e
      · exact e
  · left; rw [hy _ _ _ _ (by rfl)]; exact h
theorem go_e : ∀ (f : Nat) (p : Bs), p.e = 0 → (go f p).e = 0 ∨ (go f p).e = 41 ∨ (go f p).e = 42
  | 0, _, h => .inl h
  | f + 1, p, h => by
    rw [go]
    split
    · rcases piece_e h with h1 | h1
      · exact go_e f _ h1
      · have hst : go f (piece p) = piece p := by
          cases f with
          | zero => rfl
          | succ f => rw [go, if_neg (fun hc => by have := hc.2.1; omega)]
        rw [hst]
        exact .inr h1
    · exact .inl h
theorem parse_errs {s : L} {x : Nat} (h : parse s = .error x) : x = 41 ∨ x = 42 ∨ x = 43 := by
  have hg := go_e (s.length + 1) (b0 s) rfl
  unfold parse fin at h
  split at h
  · rename_i hne
    cases h
    rcases hg with hg | hg | hg
    · exact absurd hg hne
    · exact .inl hg
    · exact .inr (.inl hg)
  split at h
  · cases h; exact .inr (.inr rfl)
  · cases h
/-- What is given balances; the attributes' values are of Chars alone; few reasons are kept. -/
theorem parse_balance {s : L} {evs : List Ev} {rs : List Rsn} (h : parse s = .ok (evs, rs)) : Bal evs ∧ opn [] evs = [] ∧ 2 ≤ evs.length ∧ FineE evs ∧ rs.length ≤ 8 := by
  have hg := good_go (s.length + 1) (b0 s) (good0 s)
  unfold parse fin at h
  generalize go (s.length + 1) (b0 s) = p at *
  split at h
  · cases h
  split at h
  · cases h
  rename_i hroot
  dsimp only at h
  have hq : Good (if p.st.open_ = [] then behind (p.l.length + 1) p else p) ∧ (if p.st.open_ = [] then behind (p.l.length + 1) p else p).st = p.st := by
    split
    · exact ⟨hg.same (behind_st _ _).1, (behind_st _ _).1⟩
    · exact ⟨hg, rfl⟩
  generalize (if p.st.open_ = [] then behind (p.l.length + 1) p else p) = q at *
  obtain ⟨hq, eq⟩ := hq
  have hr := good_closeN s.length q.st.open_.length q hq (Nat.le_refl _)
  have hro : (closeN s.length q.st.open_.length q).st.open_ = [] := by rw [closeN_open, Nat.sub_self]; rfl
  have hrt : ∀ (n : Nat) (q : Bs), q.st.rooted = true → (closeN s.length n q).st.rooted = true := by
    intro n
    induction n with
    | zero => intro q h; exact h
    | succ n ih =>
      intro q h
      rw [closeN]
      refine ih _ ?_
      show (closeSt q.st).rooted = true
      unfold closeSt
      split
      · exact h
      · exact h
  have hrr := hrt q.st.open_.length q (by rw [eq]; simpa using hroot)
  generalize closeN s.length q.st.open_.length q = r at *
  simp only [Except.ok.injEq, Prod.mk.injEq] at h
  obtain ⟨rfl, rfl⟩ := h
  have hop : opn [] r.st.evs = [] := by rw [hr.inv.op, hro]; rfl
  refine ⟨hr.inv.bal, hop, ?_, hr.val, by rw [List.length_take]; omega⟩
  have hne := hr.inv.yes hrr
  match hl : r.st.evs, hne with
  | [e], _ =>
    have := hr.inv.bal 0 e (by rw [hl]; rfl)
    rw [hl] at hop
    rcases this with ⟨h1, _⟩ | ⟨h1, h2⟩ | ⟨h1, h2, _⟩
    · simp only [opn, opnS, h1, if_true, List.nil_append] at hop
      cases hop
    · rw [List.take_zero] at h2; cases h2
    · rw [List.take_zero] at h2; exact absurd rfl h2
  | _ :: _ :: _, _ => simp
end Bz
end Go.Proofs.Ytaickkaoglohgaa
namespace Go.Proofs.Ytaickkaoglohgaa
open Tk Sx

theorem bad_of_fine {s : L} (h : fine s = true) : ¬ 0 ≤ bad s := by
  have := bad_fine s
  rw [h] at this
  simpa using this
theorem row_end {s : L} {ts : List Tok} (h : Row 0 s [] ts) : toks s.length 0 s = ts ∧ tokEnd ts = s.length := by
  have hc := h.chain
  have he := ends_all hc
  unfold ends at he
  rw [List.take_length] at he
  have ht := toks_row h (.inl rfl) s.length (by simp)
  rw [List.append_nil] at ht
  exact ⟨ht, by show tokEnd ts = _; unfold tokEnd; omega⟩
/-- A text that is tokens throughout. -/
theorem parse_row {s : L} {ts : List Tok} (h : Row 0 s [] ts) : Sx.parse s = match run st0 ts with
    | .error x => .error x
    | .ok st => if st.open_ = [] ∧ st.rooted = true then .ok st.evs else .error (s.length, 50) := by
  obtain ⟨h1, h2⟩ := row_end h
  unfold Sx.parse
  rw [if_neg (bad_of_fine h.fine), h1, if_neg (by rw [h2]; simp)]
  rfl
theorem row_parse {s : L} {evs : List Ev} (h : Sx.parse s = .ok evs) : ∃ ts st, Row 0 s [] ts ∧ run st0 ts = .ok st ∧ st.open_ = [] ∧ st.rooted = true ∧ st.evs = evs := by
  obtain ⟨w, rest, hw, hr, _⟩ := toks_word s.length 0 s (Nat.le_refl _)
  unfold Sx.parse at h
  split at h
  · cases h
  split at h
  · cases h
  rename_i hte
  have hc := hr.chain
  have he := ends_all hc
  unfold ends at he
  rw [List.take_length] at he
  have hl : w.length = s.length := by
    have : tokEnd (toks s.length 0 s) = s.length := by simpa using hte
    unfold tokEnd at this
    omega
  have hrest : rest = [] := by
    have := congrArg List.length hw
    rw [List.length_append] at this
    exact List.eq_nil_of_length_eq_zero (by omega)
  subst hrest
  rw [List.append_nil] at hw
  rw [← hw] at hr
  cases hrun : run st0 (toks s.length 0 s) with
  | error x => rw [hrun] at h; cases h
  | ok st =>
    rw [hrun] at h
    dsimp only at h
    split at h
    · rename_i ho
      simp only [Except.ok.injEq] at h
      exact ⟨_, st, hr, hrun, ho.1, ho.2, h⟩
    · cases h
/-! Places do not matter. -/
def bump (d : Nat) (x : Nat × Nat) : Nat × Nat := (x.1 + d, x.2)
def bumpE {α : Type} (d : Nat) (e : Except (Nat × Nat) α) : Except (Nat × Nat) α := match e with
  | .error x => .error (bump d x)
  | .ok a => .ok a
def Spl.shift (d : Nat) (s : Spl) : Spl := ⟨s.pre, s.loc, s.val, s.at_ + d⟩
theorem namesAt_shift (d : Nat) : ∀ (l : List At) (seen : List L), namesAt seen (l.map (At.shift d)) = (namesAt seen l).map (· + d)
  | [], _ => rfl
  | a :: l, seen => by
    rw [List.map_cons, namesAt, namesAt]
    have e : (At.shift d a).name = a.name := rfl
    rw [e, namesAt_shift d l]
    split <;> rfl
theorem names_shift (d : Nat) (t : Tok) : names (t.shift d) = (names t).map (· + d) := by
  unfold names
  show (if (split t.name).isNone = true then some (t.at_ + d) else namesAt [] (t.attrs.map (At.shift d))) = _
  rw [namesAt_shift]
  split <;> rfl
theorem valsAt_shift (d : Nat) : ∀ l : List At, valsAt (l.map (At.shift d)) = (valsAt l).map (· + d)
  | [] => rfl
  | a :: l => by
    rw [List.map_cons, valsAt, valsAt, valsAt_shift d l]
    have e : (At.shift d a).value = a.value := rfl
    rw [e]
    cases value a.value <;> rfl
theorem valued_shift (d : Nat) (a : At) : valued (At.shift d a) = Spl.shift d (valued a) := by
  have h1 : (splOf (At.shift d a)).pre = (splOf a).pre ∧ (splOf (At.shift d a)).loc = (splOf a).loc := by
    unfold splOf
    have e : (At.shift d a).name = a.name := rfl
    rw [e]
    cases split a.name <;> exact ⟨rfl, rfl⟩
  unfold valued
  rw [h1.1, h1.2]
  rfl
theorem splits_shift (d : Nat) (t : Tok) : splits (t.shift d) = (splits t).map (Spl.shift d) := by
  unfold splits
  show (t.attrs.map (At.shift d)).map valued = _
  rw [List.map_map, List.map_map]
  exact List.map_congr_left fun a _ => valued_shift d a
theorem declared_shift (d : Nat) : ∀ (l : List Spl) (sc : List Dcl), declared sc (l.map (Spl.shift d)) = declared sc l
  | [], _ => rfl
  | s :: l, sc => by
    rw [List.map_cons, declared, declared, declared_shift d l, declared_shift d l]
    rfl
theorem declAt_shift (d : Nat) : ∀ l : List Spl, Sx.declAt (l.map (Spl.shift d)) = (Sx.declAt l).map (· + d)
  | [] => rfl
  | s :: l => by
    rw [List.map_cons, Sx.declAt, Sx.declAt, declAt_shift d l]
    show (if ((declares s).2 && !mayD (declares s).1 s.val) = true then some (s.at_ + d) else _) = _
    split <;> rfl
theorem attrsOf_shift (d : Nat) (sc : List Dcl) : ∀ l : List Spl, attrsOf sc (l.map (Spl.shift d)) = attrsOf sc l
  | [] => rfl
  | s :: l => by
    rw [List.map_cons, attrsOf, attrsOf, attrsOf_shift d sc l]
    rfl
theorem attrsAt_shift (d : Nat) (sc : List Dcl) : ∀ (l : List Spl) (seen : List Nm), attrsAt sc seen (l.map (Spl.shift d)) = (attrsAt sc seen l).map (· + d)
  | [], _ => rfl
  | s :: l, seen => by
    rw [List.map_cons, attrsAt, attrsAt, attrsAt_shift d sc l, attrsAt_shift d sc l]
    show (if (declares s).2 = true then _ else if (attSp sc s).2 = false ∨ attNm sc s ∈ seen then some (s.at_ + d) else _) = _
    split
    · rfl
    · split <;> rfl
theorem scope_shift (d : Nat) (st : St) (t : Tok) : scope' st (t.shift d) = scope' st t := by unfold scope'; rw [splits_shift, declared_shift]
theorem early_shift (d : Nat) (st : St) (t : Tok) : Sx.early st (t.shift d) = (Sx.early st t).map (bump d) := by
  unfold Sx.early
  rw [names_shift]
  cases names t with
  | some a => rfl
  | none =>
    simp only [Option.map_none]
    show (if (st.rooted && st.open_.isEmpty) = true then some (t.at_ + d, 50) else if 16 < (t.attrs.map (At.shift d)).length then some (t.at_ + d, 42) else if st.open_.length = 16 then some (t.at_ + d, 41) else none) = _
    rw [List.length_map]
    split
    · rfl
    · split
      · rfl
      · split <;> rfl
theorem late_shift (d : Nat) (st : St) (t : Tok) : late st (t.shift d) = (late st t).map (· + d) := by
  unfold late
  rw [scope_shift, splits_shift, declAt_shift, attrsAt_shift]
  show (match valsAt (t.attrs.map (At.shift d)) with | some a => some a | none => _) = _
  rw [valsAt_shift]
  cases valsAt t.attrs with
  | some a => rfl
  | none =>
    simp only [Option.map_none]
    cases Sx.declAt (splits t) with
    | some a => rfl
    | none =>
      simp only [Option.map_none]
      show (if (spaceOf (scope' st t) (preOf t)).2 = false ∨ preOf t = pXmlns then some (t.at_ + d) else _) = _
      split <;> rfl
theorem started_shift (d : Nat) (st : St) (t : Tok) : started st (t.shift d) = started st t := by
  unfold started
  rw [scope_shift, splits_shift, attrsOf_shift]
  rfl
theorem start_shift (d : Nat) (st : St) (t : Tok) : Sx.start st (t.shift d) = bumpE d (Sx.start st t) := by
  unfold Sx.start
  rw [early_shift, late_shift, started_shift]
  cases Sx.early st t with
  | some b => rfl
  | none =>
    simp only [Option.map_none]
    cases late st t with
    | some a => rfl
    | none => rfl
/-- A token farther on does the same. -/
theorem step_shift (d : Nat) (st : St) (t : Tok) : Sx.step st (t.shift d) = bumpE d (Sx.step st t) := by
  unfold Sx.step
  show (if t.kind = 0 then Sx.start st (t.shift d) else if t.kind = 1 then Sx.end_ st (t.shift d) else if t.kind = 2 then Sx.text st (t.shift d) else if t.kind = 3 then Sx.data st (t.shift d) else (Except.ok st : Except (Nat × Nat) St)) = _
  split
  · exact start_shift d st t
  split
  · unfold Sx.end_
    cases st.open_.getLast? with
    | none => rfl
    | some x =>
      show (if x.written = t.name then (Except.ok (closeSt st) : Except (Nat × Nat) St) else Except.error (t.at_ + d, 50)) = _
      dsimp only
      split <;> rfl
  split
  · unfold Sx.text
    show (if st.open_ = [] then if t.text.all sp = true then (Except.ok st : Except (Nat × Nat) St) else Except.error (t.at_ + d, 50) else match sref t.text.length 0 t.text with | .ok s => Except.ok (putSt st s) | .error _ => Except.error (t.at_ + d, 50)) = _
    split
    · split <;> rfl
    · cases sref t.text.length 0 t.text <;> rfl
  split
  · unfold Sx.data
    show (if st.open_ = [] then (Except.error (t.at_ + d, 50) : Except (Nat × Nat) St) else Except.ok (putSt st t.text)) = _
    split <;> rfl
  · rfl
theorem run_shift (d : Nat) : ∀ (ts : List Tok) (st : St), run st (ts.map (Tok.shift d)) = bumpE d (run st ts)
  | [], _ => rfl
  | t :: ts, st => by
    rw [List.map_cons, run, run, step_shift]
    cases Sx.step st t with
    | error x => rfl
    | ok st1 => exact run_shift d ts st1
theorem run_app {ts ts' : List Tok} : ∀ st : St, run st (ts ++ ts') = match run st ts with
    | .error x => .error x
    | .ok st' => run st' ts' := by
  induction ts with
  | nil => intro st; rfl
  | cons t ts ih =>
    intro st
    rw [List.cons_append, run, run]
    cases Sx.step st t with
    | error x => rfl
    | ok st1 => exact ih st1
/-- A token that is none of <? may stand anywhere. -/
theorem tokW_shift0 {at_ : Nat} {w : L} {t : Tok} (h : TokW at_ w t) (hq : at_ ≠ 0 ∨ ∀ r, w ≠ 60 :: 63 :: r) (d : Nat) : TokW (at_ + d) w (t.shift d) := by
  by_cases h0 : at_ = 0
  · have hq' : ∀ r, w ≠ 60 :: 63 :: r := hq.resolve_left (fun e => e h0)
    cases h with
    | start _ nm wa as_ e hn hn0 ha =>
      have := TokW.start (at_ + d) nm wa (as_.map (At.shift d)) e hn hn0 (by rw [show at_ + d + 1 + nm.length = at_ + 1 + nm.length + d by omega]; exact ha.shift d)
      rw [show at_ + d + (60 :: (nm ++ wa)).length = at_ + (60 :: (nm ++ wa)).length + d by omega] at this
      exact this
    | end_ _ nm b hn hn0 hb =>
      have := TokW.end_ (at_ + d) nm b hn hn0 hb
      rw [show at_ + d + (60 :: 47 :: (nm ++ (b ++ [62]))).length = at_ + (60 :: 47 :: (nm ++ (b ++ [62]))).length + d by omega] at this
      exact this
    | text _ _ h1 h2 h3 =>
      have := TokW.text (at_ + d) w h1 h2 h3
      rw [show at_ + d + w.length = at_ + w.length + d by omega] at this
      exact this
    | data _ tx h1 =>
      have := TokW.data (at_ + d) tx h1
      rw [Nat.add_right_comm at_ d] at this
      exact this
    | comment _ c h1 =>
      have := TokW.comment (at_ + d) c h1
      rw [Nat.add_right_comm at_ d] at this
      exact this
    | decl x _ => exact absurd rfl (hq' ([120, 109, 108] ++ x))
    | instr _ nm y h1 h2 => exact absurd rfl (hq' _)
  · exact h.shift h0 d
theorem row_shift0 {at_ : Nat} {w rest : L} {ts : List Tok} (h : Row at_ w rest ts) (hq : at_ ≠ 0 ∨ ∀ r, w ≠ 60 :: 63 :: r) (d : Nat) : Row (at_ + d) w rest (ts.map (Tok.shift d)) := by
  cases h with
  | nil => exact .nil _ _
  | cons _ w t w2 rest ts hw hf hk hr =>
    refine .cons _ _ _ _ _ _ (tokW_shift0 hw ?_ d) hf hk ?_
    · rcases hq with hq | hq
      · exact .inl hq
      · by_cases h0 : at_ = 0
        · right
          intro r e
          exact hq (r ++ w2) (by rw [e]; rfl)
        · exact .inl h0
    · have hne : at_ + w.length ≠ 0 := by have := List.length_pos_iff.2 hw.ne; omega
      have := hr.shift hne d
      rwa [show at_ + w.length + d = at_ + d + w.length by omega] at this
/-! An event has few attributes. -/
def Few (l : List Ev) : Prop := ∀ e ∈ l, e.attrs.length ≤ 16
theorem few_put {l : List Ev} {x : Ev} (h : Few l) (hx : x.attrs.length ≤ 16) : Few (putEv l x) := by
  intro e he
  have h2 : ∀ e ∈ l ++ [x], e.attrs.length ≤ 16 := fun e he => by
    rcases List.mem_append.1 he with he | he
    · exact h e he
    · rw [List.mem_singleton.1 he]; exact hx
  unfold putEv at he
  split at he
  · exact h2 e he
  · split at he
    · rename_i y hy
      split at he
      · rcases List.mem_append.1 he with he | he
        · exact h e (List.dropLast_subset _ he)
        · rw [List.mem_singleton.1 he]
          exact h y (List.mem_of_getLast? hy)
      · split at he
        · exact h e he
        · exact h2 e he
    · split at he
      · exact h e he
      · exact h2 e he
theorem few_close {st : St} (h : Few st.evs) : Few (closeSt st).evs := by
  unfold closeSt
  split
  · exact h
  · rename_i x _
    exact few_put (x := ⟨1, x.name, [], []⟩) h (by simp)
theorem few_step {st st' : St} {t : Tok} (h : Few st.evs) (hs : Sx.step st t = .ok st') : Few st'.evs := by
  unfold Sx.step at hs
  split at hs
  · unfold Sx.start at hs
    cases he : Sx.early st t with
    | some b => rw [he] at hs; cases hs
    | none =>
      rw [he] at hs
      obtain ⟨_, _, e3, _⟩ := early_none he
      dsimp only at hs
      have hst : Few (started st t).evs := few_put (l := st.evs) (x := ⟨0, ⟨(spaceOf (scope' st t) (preOf t)).1, locOf t⟩, attrsOf (scope' st t) (splits t), []⟩) h (by
        have := attrsOf_len (scope' st t) (splits t)
        rw [show (splits t).length = t.attrs.length from List.length_map _] at this
        show (attrsOf (scope' st t) (splits t)).length ≤ 16
        omega)
      cases hl : late st t with
      | some a => rw [hl] at hs; cases hs
      | none =>
        rw [hl] at hs
        simp only [Except.ok.injEq] at hs
        subst hs
        cases t.empty with
        | true => exact few_close hst
        | false => exact hst
  split at hs
  · unfold Sx.end_ at hs
    split at hs
    · cases hs
    · split at hs
      · simp only [Except.ok.injEq] at hs
        subst hs
        exact few_close h
      · cases hs
  split at hs
  · unfold Sx.text at hs
    split at hs
    · split at hs
      · simp only [Except.ok.injEq] at hs
        subst hs
        exact h
      · cases hs
    · split at hs
      · rename_i x _
        simp only [Except.ok.injEq] at hs
        subst hs
        exact few_put (l := st.evs) (x := textEv x) h (by simp [textEv])
      · cases hs
  split at hs
  · unfold Sx.data at hs
    split at hs
    · cases hs
    · simp only [Except.ok.injEq] at hs
      subst hs
      exact few_put (l := st.evs) (x := textEv t.text) h (by simp [textEv])
  · simp only [Except.ok.injEq] at hs
    subst hs
    exact h
theorem few_run : ∀ {ts : List Tok} {st st' : St}, Few st.evs → run st ts = .ok st' → Few st'.evs
  | [], st, st', h, hs => by simp only [run, Except.ok.injEq] at hs; subst hs; exact h
  | t :: ts, st, st', h, hs => by
    simp only [run] at hs
    cases hst : Sx.step st t with
    | error x => rw [hst] at hs; cases hs
    | ok st1 => rw [hst] at hs; exact few_run (few_step h hst) hs
theorem parse_few {s : L} {evs : List Ev} (h : Sx.parse s = .ok evs) : Few evs := by
  obtain ⟨ts, st, _, hrun, _, _, rfl⟩ := row_parse h
  exact few_run (fun e he => by cases he) hrun
end Go.Proofs.Ytaickkaoglohgaa
