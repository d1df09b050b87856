/- Plain: what strict takes bozo takes likewise, piece by piece; no program in sight. -/
import Derived.Test.YtaickkaoglohgaaBv20
set_option linter.unusedSimpArgs false
set_option linter.unusedVariables false
namespace Go.Proofs.Ytaickkaoglohgaa
open Go Tk Sx
namespace Bz
theorem span_of {f : UInt8 → Bool} : ∀ {a r : L}, (∀ c ∈ a, f c = false) → (∀ c t, r = c :: t → f c = true) → span f (a ++ r) = a.length
  | [], [], _, _ => rfl
  | [], c :: t, _, hr => by unfold span; rw [List.nil_append, List.takeWhile_cons, hr c t rfl]; rfl
  | c :: a, r, ha, hr => by
    have ih := span_of (f := f) (a := a) (r := r) (fun d hd => ha d (List.mem_cons_of_mem _ hd)) hr
    unfold span at ih ⊢
    rw [List.cons_append, List.takeWhile_cons, ha c (List.mem_cons_self ..)]
    simp only [Bool.not_false, if_true, List.length_cons]
    rw [ih]
theorem until_of {f : UInt8 → Bool} {a r : L} {p : Bs} (hl : p.l = a ++ r) (ha : ∀ c ∈ a, f c = false) (hr : ∀ c t, r = c :: t → f c = true) : untilB f p = ⟨r, p.at_ + a.length, p.st, p.rs, p.junk, p.e⟩ := by
  unfold untilB cutB
  rw [hl, span_of ha hr, List.drop_left]
theorem sps_no {b : L} (h : Sps b) : ∀ c ∈ b, solid c = false := fun c hc => by
  unfold Sps at h
  have := List.all_eq_true.1 h c hc
  unfold solid
  rw [this]
  rfl
theorem clean_id {l : L} (h : fine l = true) : clean l = (l, 0) := if_pos h
theorem loose_ok : ∀ (f a k : Nat) (l v : L), l.length ≤ f → sref f k l = .ok v → loose f a l = (v, [])
  | 0, a, k, l, v, hf, h => by
    have : l = [] := List.eq_nil_of_length_eq_zero (by omega)
    subst this
    rw [sref_nil] at h
    cases h
    rfl
  | f + 1, a, k, [], v, hf, h => by
    rw [sref_nil] at h
    cases h
    rw [loose]
    intro h; cases h
  | f + 1, a, k, c :: r, v, hf, h => by
    rw [loose]
    rw [List.length_cons] at hf
    by_cases hc : c = 38
    · rw [if_neg (by simp [hc])]
      subst hc
      cases he : Sx.ends r with
      | none => rw [sref_none he] at h; cases h
      | some n =>
        cases hs : scalar (r.take n) with
        | none => rw [sref_bad he hs] at h; cases h
        | some u =>
          rw [sref_ref he hs] at h
          obtain ⟨o, h1, hv⟩ := glue_ok h
          rw [hv]
          simp only [hs]
          have ih := loose_ok f (a + n + 2) (k + n + 2) (r.drop (n + 1)) o (by rw [List.length_drop]; omega) h1
          simp only [ih]
    · rw [if_pos hc]
      rw [sref_byte hc] at h
      obtain ⟨o, h1, rfl⟩ := glue_ok h
      rw [loose_ok f (a + 1) (k + 1) r o (by omega) h1]
      rfl
theorem ploose_ok {s v : L} {a : Nat} {p : Bs} (h : sref s.length 0 s = .ok v) (hv : fine v = true) : ploose s a p = (v, p) := by
  unfold ploose
  rw [loose_ok _ _ _ _ _ (Nat.le_refl _) h]
  unfold pclean
  rw [clean_id hv]
  unfold mendN mendL
  simp
/-- White space that becomes spaces leaves Chars. -/
theorem norm_split : ∀ x : L, (∀ c ∈ x, norm c = c) ∨ ∃ a c b, x = a ++ c :: b ∧ (∀ d ∈ a, norm d = d) ∧ norm c = 32 ∧ c.toNat < 128
  | [] => .inl (fun c h => by cases h)
  | c :: x => by
    by_cases h : c = 9 ∨ c = 10 ∨ c = 13
    · exact .inr ⟨[], c, x, rfl, (fun d h => by cases h), if_pos h, by rcases h with rfl | rfl | rfl <;> decide⟩
    · have hc : norm c = c := if_neg h
      rcases norm_split x with h1 | ⟨a, d, b, h1, h2, h3, h4⟩
      · exact .inl fun d hd => by
          rcases List.mem_cons.1 hd with rfl | hd
          · exact hc
          · exact h1 d hd
      · exact .inr ⟨c :: a, d, b, by rw [h1]; rfl, (fun e he => by
          rcases List.mem_cons.1 he with rfl | he
          · exact hc
          · exact h2 e he), h3, h4⟩
theorem map_same {f : UInt8 → UInt8} : ∀ {l : L}, (∀ c ∈ l, f c = c) → l.map f = l
  | [], _ => rfl
  | c :: l, h => by rw [List.map_cons, h c (List.mem_cons_self ..), map_same fun d hd => h d (List.mem_cons_of_mem _ hd)]
theorem norm_fine : ∀ (n : Nat) (x : L), x.length ≤ n → fine x = true → fine (x.map norm) = true
  | 0, x, hn, h => by
    have : x = [] := List.eq_nil_of_length_eq_zero (by omega)
    subst this
    rfl
  | n + 1, x, hn, h => by
    rcases norm_split x with h1 | ⟨a, c, b, rfl, h1, h2, h3⟩
    · rw [map_same h1]; exact h
    · obtain ⟨fa, fb⟩ := fine_split h3 h
      rw [List.length_append, List.length_cons] at hn
      rw [List.map_append, List.map_cons, map_same h1, h2]
      refine fine_both fa ?_
      rw [fine_ascii (by decide), norm_fine n b (by omega) fb]
      rfl
theorem value_ok {x u : L} (h : value x = .ok u) : sref (x.map norm).length 0 (x.map norm) = .ok u := by
  unfold value at h
  split at h
  · split at h <;> cases h
  · rw [List.length_map]; exact h
/-- An attrB that is told by its word. -/
theorem attribute_word {nm v x r : L} {p : Bs} (hv : EqW v x) (hl : p.l = nm ++ (v ++ r)) :
    ∃ X rs, attrB nm.length p = (⟨nm, X, p.at_⟩, ⟨r, p.at_ + nm.length + v.length, p.st, p.rs ++ rs, p.junk, p.e⟩) ∧ (∀ u, value x = .ok u → fine x = true → X = u ∧ rs = []) := by
  obtain ⟨b1, b2, q, hb1, hb2, hq, hqx, rfl⟩ := hv
  have e0 : cutB nm.length p = ⟨b1 ++ 61 :: (b2 ++ q :: (x ++ q :: r)), p.at_ + nm.length, p.st, p.rs, p.junk, p.e⟩ := by
    unfold cutB
    rw [hl, List.drop_left]
    simp
  have e1 : untilB solid (cutB nm.length p) = ⟨61 :: (b2 ++ q :: (x ++ q :: r)), p.at_ + nm.length + b1.length, p.st, p.rs, p.junk, p.e⟩ := by
    rw [e0]
    exact until_of (a := b1) rfl (sps_no hb1) (fun c t h => by rw [← head_eq h]; rfl)
  have e2 : untilB solid (cutB 1 ⟨61 :: (b2 ++ q :: (x ++ q :: r)), p.at_ + nm.length + b1.length, p.st, p.rs, p.junk, p.e⟩) = ⟨q :: (x ++ q :: r), p.at_ + nm.length + b1.length + 1 + b2.length, p.st, p.rs, p.junk, p.e⟩ :=
    until_of (a := b2) rfl (sps_no hb2) (fun c t h => by rw [← head_eq h]; unfold solid; rw [q_nsp hq]; rfl)
  have e3 : valueB p.at_ (cutB 1 ⟨61 :: (b2 ++ q :: (x ++ q :: r)), p.at_ + nm.length + b1.length, p.st, p.rs, p.junk, p.e⟩) = (x, ⟨r, p.at_ + nm.length + b1.length + 1 + b2.length + (x.length + 2), p.st, p.rs, p.junk, p.e⟩) := by
    unfold valueB
    rw [e2]
    dsimp only
    rw [if_pos hq, till_one_of hqx]
    dsimp only
    rw [List.take_left]
    unfold cutB
    dsimp only
    have : (q :: (x ++ q :: r)).drop (x.length + 2) = r := by
      rw [show x.length + 2 = (x.length + 1) + 1 by omega, List.drop_succ_cons, show x.length + 1 = (x ++ [q]).length by simp, show x ++ q :: r = (x ++ [q]) ++ r by simp, List.drop_left]
    rw [this]
  unfold attrB
  rw [e1, if_pos (by simp)]
  dsimp only
  rw [e3, hl, List.take_left]
  refine ⟨_, (loose (x.map norm).length 0 (x.map norm)).2.map (fun r => ⟨r.kind, p.at_⟩) ++ List.replicate (clean (loose (x.map norm).length 0 (x.map norm)).1).2 ⟨4, p.at_⟩, Prod.ext (by rfl) ?_, fun u hu hf => ?_⟩
  · have ea : p.at_ + nm.length + b1.length + 1 + b2.length + (x.length + 2) = p.at_ + nm.length + (b1 ++ 61 :: (b2 ++ q :: (x ++ [q]))).length := by simp; omega
    show (⟨r, p.at_ + nm.length + b1.length + 1 + b2.length + (x.length + 2), p.st, (p.rs ++ _) ++ _, p.junk, p.e⟩ : Bs) = _
    rw [List.append_assoc, ea]
  · have h1 := value_ok hu
    have h2 := sref_fine _ _ _ _ _ (Nat.le_refl _) (Nat.le_refl _) (norm_fine _ _ (Nat.le_refl _) hf) h1
    have h3 := loose_ok _ 0 _ _ _ (Nat.le_refl _) h1
    rw [h3, clean_id h2]
    refine ⟨?_, rfl⟩
    show (ploose _ _ _).1 = u
    rw [ploose_ok h1 h2]
def vA (x : At) : At := ⟨x.name, Sx.valOf x, x.at_⟩
theorem valOf_ok {x : At} {u : L} (h : value x.value = .ok u) : Sx.valOf x = u := by unfold Sx.valOf; rw [h]
/-- The attributes of a start that are told by their words. -/
theorem tag_word {off : Nat} {w : L} {as_ : List At} {e : Bool} (h : AttrsW off w as_ e) : ∀ (a f : Nat) (acc : List At) (p : Bs) (r : L), p.l = w ++ r → p.at_ = off → w.length < f →
    ∃ l rs, tag a f acc p = (acc ++ l, e, ⟨r, off + w.length, p.st, p.rs ++ rs, p.junk, p.e⟩) ∧ l.length = as_.length ∧ (valsAt as_ = none → (∀ x ∈ as_, fine x.value = true) → l = as_.map vA ∧ rs = []) := by
  induction h with
  | two off b hb =>
    intro a f acc p r hl ho hf
    obtain ⟨f, rfl⟩ : ∃ g, f = g + 1 := ⟨f - 1, by omega⟩
    have e1 : untilB solid p = ⟨47 :: 62 :: r, p.at_ + b.length, p.st, p.rs, p.junk, p.e⟩ := until_of (a := b) (by rw [hl]; simp) (sps_no hb) (fun c t h => by rw [← head_eq h]; rfl)
    rw [tag]
    (try dsimp only)
    rw [e1]
    dsimp only
    rw [if_neg (by decide), if_neg (by decide), if_pos (by simp)]
    refine ⟨[], [], ?_, rfl, fun _ _ => ⟨rfl, rfl⟩⟩
    unfold cutB
    simp [ho]
    omega
  | one off b hb =>
    intro a f acc p r hl ho hf
    obtain ⟨f, rfl⟩ : ∃ g, f = g + 1 := ⟨f - 1, by omega⟩
    have e1 : untilB solid p = ⟨62 :: r, p.at_ + b.length, p.st, p.rs, p.junk, p.e⟩ := until_of (a := b) (by rw [hl]; simp) (sps_no hb) (fun c t h => by rw [← head_eq h]; rfl)
    rw [tag]
    (try dsimp only)
    rw [e1]
    dsimp only
    rw [if_neg (by decide), if_pos rfl]
    refine ⟨[], [], ?_, rfl, fun _ _ => ⟨rfl, rfl⟩⟩
    unfold cutB
    simp [ho]
    omega
  | more off b nm v x w as_ e hb hb0 hn hn0 hv hlt ha ih =>
    intro a f acc p r hl ho hf
    obtain ⟨f, rfl⟩ : ∃ g, f = g + 1 := ⟨f - 1, by omega⟩
    obtain ⟨c, t, rfl⟩ : ∃ c t, nm = c :: t := by
      cases nm with
      | nil => exact absurd rfl hn0
      | cons c t => exact ⟨c, t, rfl⟩
    have e1 : untilB solid p = ⟨(c :: t) ++ (v ++ (w ++ r)), p.at_ + b.length, p.st, p.rs, p.junk, p.e⟩ := until_of (a := b) (by rw [hl]; simp) (sps_no hb) (fun d s h => by
      rw [List.cons_append] at h
      rw [← head_eq h]; unfold solid; rw [name_nsp hn rfl]; rfl)
    have c60 : c ≠ 60 := name_not hn rfl (by decide) (by decide)
    have c62 : c ≠ 62 := name_not hn rfl (by decide) (by decide)
    have c47 : c ≠ 47 := name_not hn rfl (by decide) (by decide)
    obtain ⟨d, s, e2, hd⟩ := eqw_front hv (w ++ r)
    have e3 : take ((c :: t) ++ (v ++ (w ++ r))) = (c :: t).length := by rw [e2]; exact take_word hn (by simp) hd
    rw [tag]
    (try dsimp only)
    rw [e1]
    have e4 : ((c :: t) ++ (v ++ (w ++ r))) = c :: (t ++ (v ++ (w ++ r))) := rfl
    rw [e4] at e3 ⊢
    dsimp only
    rw [if_neg c60, if_neg c62, if_neg (by simp [Ne.symm c47]), if_pos (by rw [e3]; simp), e3]
    obtain ⟨X, rs1, h1, h2⟩ := attribute_word (nm := c :: t) (p := ⟨c :: (t ++ (v ++ (w ++ r))), p.at_ + b.length, p.st, p.rs, p.junk, p.e⟩) hv rfl
    rw [h1]
    dsimp only
    obtain ⟨l, rs2, h3, h4, h5⟩ := ih a f (acc ++ [⟨c :: t, X, p.at_ + b.length⟩]) ⟨w ++ r, p.at_ + b.length + (c :: t).length + v.length, p.st, p.rs ++ rs1, p.junk, p.e⟩ r rfl (by dsimp only; rw [ho]) (by simp at hf ⊢; omega)
    rw [h3]
    refine ⟨⟨c :: t, X, p.at_ + b.length⟩ :: l, rs1 ++ rs2, ?_, by simp [h4], fun hva hfi => ?_⟩
    · simp
      omega
    · rw [valsAt] at hva
      have hvx : ∃ u, value x = .ok u := by
        cases hvx : value x with
        | ok u => exact ⟨u, rfl⟩
        | error y => simp [hvx] at hva
      obtain ⟨u, hu⟩ := hvx
      simp only [hu] at hva
      obtain ⟨rfl, rfl⟩ := h2 u hu (hfi ⟨c :: t, x, off + b.length⟩ (List.mem_cons_self ..))
      obtain ⟨rfl, rfl⟩ := h5 hva (fun y hy => hfi y (List.mem_cons_of_mem _ hy))
      refine ⟨?_, rfl⟩
      have ev : vA ⟨c :: t, x, off + b.length⟩ = ⟨c :: t, X, p.at_ + b.length⟩ := by
        unfold vA
        rw [valOf_ok (x := ⟨c :: t, x, off + b.length⟩) hu, ho]
      rw [List.map_cons, ev]
theorem namesAt_all : ∀ {l : List At} {seen : List L}, namesAt seen l = none → ∀ x ∈ l, (split x.name).isSome = true
  | [], _, _, x, hx => by cases hx
  | y :: l, seen, h, x, hx => by
    rw [namesAt] at h
    split at h
    · cases h
    · rename_i hc
      rcases List.mem_cons.1 hx with rfl | hx
      · cases hs : split x.name with
        | none => exact absurd (.inl (by rw [hs]; rfl)) hc
        | some z => rfl
      · exact namesAt_all h x hx
theorem once_ok (p : Bs) : ∀ {l : List At} {seen : List L}, namesAt seen l = none → once seen (l.map vA) p = (l.map vA, p)
  | [], _, _ => rfl
  | y :: l, seen, h => by
    rw [namesAt] at h
    split at h
    · cases h
    · rename_i hc
      rw [List.map_cons, once, if_neg (show ¬ (vA y).name ∈ seen from fun hm => hc (.inr hm))]
      show (vA y :: (once (seen ++ [y.name]) (l.map vA) p).1, (once (seen ++ [y.name]) (l.map vA) p).2) = _
      rw [once_ok p h]
theorem declB_is (a : At) : declB a.name = declares (valued a) := by
  unfold declB declares preB locB
  have h1 : (valued a).pre = ((split a.name).getD ([], [])).1 := by
    show (splOf a).pre = _
    unfold splOf
    cases split a.name <;> rfl
  have h2 : (valued a).loc = ((split a.name).getD ([], [])).2 := by
    show (splOf a).loc = _
    unfold splOf
    cases split a.name <;> rfl
  rw [h1, h2]
theorem declared_is : ∀ (l : List At) (sc : List Dcl), declaredB sc (l.map vA) = declared sc (l.map valued)
  | [], _ => rfl
  | a :: l, sc => by
    rw [List.map_cons, List.map_cons, declaredB, declared]
    show (if (declB a.name).2 = true then declaredB (sc ++ [⟨(declB a.name).1, Sx.valOf a⟩]) (l.map vA) else declaredB sc (l.map vA)) = _
    rw [declB_is, declared_is l, declared_is l]
    rfl
theorem name_att {a : At} {p : Bs} (hs : (split a.name).isSome = true) (h : (attSp p.st.scope (valued a)).2 = true) : name a.name true a.at_ p = (attNm p.st.scope (valued a), p) := by
  obtain ⟨⟨pre, loc⟩, hs⟩ := Option.isSome_iff_exists.1 hs
  have h1 : (valued a).pre = pre := by show (splOf a).pre = _; unfold splOf; rw [hs]
  have h2 : (valued a).loc = loc := by show (splOf a).loc = _; unfold splOf; rw [hs]
  unfold name attNm
  unfold attSp at h ⊢
  rw [h1] at h ⊢
  rw [h2, hs]
  dsimp only
  by_cases hp : pre = []
  · rw [if_pos ⟨rfl, hp⟩, if_pos hp]
  · rw [if_neg hp] at h ⊢
    rw [if_neg (fun hh => hp hh.2), if_pos h]
theorem attrs_ok (p : Bs) : ∀ {l : List At} {seen : List Nm}, (∀ x ∈ l, (split x.name).isSome = true) → attrsAt p.st.scope seen (l.map valued) = none → attrsB seen (l.map vA) p = (attrsOf p.st.scope (l.map valued), p)
  | [], _, _, _ => rfl
  | a :: l, seen, hs, h => by
    rw [List.map_cons, attrsAt] at h
    rw [List.map_cons, List.map_cons, attrsB, attrsOf]
    show (if (declB a.name).2 = true then attrsB seen (l.map vA) p else if (name a.name true a.at_ p).1 ∈ seen then attrsB seen (l.map vA) (mend 9 a.at_ (name a.name true a.at_ p).2)
      else (⟨(name a.name true a.at_ p).1, Sx.valOf a⟩ :: (attrsB (seen ++ [(name a.name true a.at_ p).1]) (l.map vA) (name a.name true a.at_ p).2).1, (attrsB (seen ++ [(name a.name true a.at_ p).1]) (l.map vA) (name a.name true a.at_ p).2).2)) = _
    rw [declB_is]
    have hs' := fun x hx => hs x (List.mem_cons_of_mem _ hx)
    by_cases hd : (declares (valued a)).2 = true
    · rw [if_pos hd] at h ⊢
      rw [if_pos hd]
      exact attrs_ok p hs' h
    · rw [if_neg hd] at h ⊢
      rw [if_neg hd]
      split at h
      · cases h
      · rename_i hc
        have h2 : (attSp p.st.scope (valued a)).2 = true := by
          cases hb : (attSp p.st.scope (valued a)).2 with
          | true => rfl
          | false => exact absurd (.inl hb) hc
        rw [name_att (hs a (List.mem_cons_self ..)) h2, if_neg (fun hm => hc (.inr hm)), attrs_ok p hs' h]
        rfl
theorem name_el {wr : L} {a : Nat} {p : Bs} {x : L × L} (hs : split wr = some x) (h : (spaceOf p.st.scope x.1).2 = true) : name wr false a p = (⟨(spaceOf p.st.scope x.1).1, x.2⟩, p) := by
  obtain ⟨pre, loc⟩ := x
  unfold name
  rw [hs]
  dsimp only at h ⊢
  rw [if_neg (by simp), if_pos h]
/-- A start that strict takes. -/
theorem begun_ok {nm : L} {as_ : List At} {e : Bool} {at_ n : Nat} {st st' : St} {p : Bs} (hp : p.st = st) (hj : p.junk = false) (h : Sx.start st ⟨0, nm, as_, e, [], at_, n⟩ = .ok st') :
    begun nm at_ st.scope.length (as_.map vA) e p = ⟨p.l, p.at_, st', p.rs, false, p.e⟩ := by
  unfold Sx.start at h
  cases he : Sx.early st ⟨0, nm, as_, e, [], at_, n⟩ with
  | some b => rw [he] at h; cases h
  | none =>
    rw [he] at h
    obtain ⟨e1, e2, e3, e4⟩ := early_none he
    dsimp only at h
    rw [late_is] at h
    cases hb : b3 st ⟨0, nm, as_, e, [], at_, n⟩ with
    | some a => rw [hb] at h; cases h
    | none =>
      rw [hb] at h
      dsimp only at h
      have hla := late_is st ⟨0, nm, as_, e, [], at_, n⟩
      rw [hb] at hla
      unfold names at e1
      split at e1
      · cases e1
      rename_i hsn
      obtain ⟨x, hx⟩ : ∃ x, split nm = some x := by
        cases hz : split nm with
        | none => rw [hz] at hsn; simp at hsn
        | some x => exact ⟨x, rfl⟩
      unfold late at hla
      split at hla
      · cases hla
      split at hla
      · cases hla
      split at hla
      · cases hla
      rename_i hsp
      have hpo : preOf ⟨0, nm, as_, e, [], at_, n⟩ = x.1 := by unfold preOf; rw [hx]; rfl
      have hlo : locOf ⟨0, nm, as_, e, [], at_, n⟩ = x.2 := by unfold locOf; rw [hx]; rfl
      have hsc : scope' st ⟨0, nm, as_, e, [], at_, n⟩ = declared st.scope (as_.map valued) := rfl
      have hspl : splits ⟨0, nm, as_, e, [], at_, n⟩ = as_.map valued := rfl
      rw [hpo, hsc] at hsp
      rw [hsc, hspl] at hla
      have hs2 : (spaceOf (declared st.scope (as_.map valued)) x.1).2 = true := by
        cases hh : (spaceOf (declared st.scope (as_.map valued)) x.1).2 with
        | true => rfl
        | false => exact absurd (.inl hh) hsp
      have hst : started st ⟨0, nm, as_, e, [], at_, n⟩ = ⟨st.open_ ++ [⟨nm, ⟨(spaceOf (declared st.scope (as_.map valued)) x.1).1, x.2⟩, st.scope.length⟩], declared st.scope (as_.map valued),
          putEv st.evs ⟨0, ⟨(spaceOf (declared st.scope (as_.map valued)) x.1).1, x.2⟩, attrsOf (declared st.scope (as_.map valued)) (as_.map valued), []⟩, true⟩ := by
        unfold started
        rw [hpo, hlo, hsc, hspl]
      rw [hst] at h
      unfold begun
      dsimp only
      rw [once_ok p e1]
      dsimp only
      rw [declared_is, hp]
      rw [name_el hx (p := { p with st := ⟨st.open_, declared st.scope (as_.map valued), st.evs, st.rooted⟩ }) hs2]
      dsimp only
      rw [attrs_ok { p with st := ⟨st.open_, declared st.scope (as_.map valued), st.evs, st.rooted⟩ } (namesAt_all e1) hla]
      dsimp only
      cases e with
      | true =>
        simp only [if_true, Except.ok.injEq] at h ⊢
        rw [← h]
        rfl
      | false =>
        simp only [Bool.false_eq_true, if_false, Except.ok.injEq] at h ⊢
        rw [← h]
theorem start_word {at_ : Nat} {nm wa r : L} {as_ : List At} {e : Bool} {n : Nat} {st : St} {rs : List Rsn} (hn : Name nm) (h0 : nm ≠ []) (ha : AttrsW (at_ + 1 + nm.length) wa as_ e) (hfine : ∀ x ∈ as_, fine x.value = true) :
    (∀ st', st.open_.length ≤ 16 → Sx.start st ⟨0, nm, as_, e, [], at_, n⟩ = .ok st' → startB nm.length ⟨60 :: (nm ++ wa) ++ r, at_, st, rs, false, 0⟩ = ⟨r, at_ + (60 :: (nm ++ wa)).length, st', rs, false, 0⟩) ∧
    (∀ y c, Sx.start st ⟨0, nm, as_, e, [], at_, n⟩ = .error (y, c) → c = 41 ∨ c = 42 → (startB nm.length ⟨60 :: (nm ++ wa) ++ r, at_, st, rs, false, 0⟩).e = 41 ∨ (startB nm.length ⟨60 :: (nm ++ wa) ++ r, at_, st, rs, false, 0⟩).e = 42) := by
  have e1 : cutB nm.length (cutB 1 ⟨60 :: (nm ++ wa) ++ r, at_, st, rs, false, 0⟩) = ⟨wa ++ r, at_ + 1 + nm.length, st, rs, false, 0⟩ := by
    unfold cutB
    simp
  have e2 : ((60 :: (nm ++ wa) ++ r : L).drop 1).take nm.length = nm := by simp
  obtain ⟨l, rs1, h1, h2, h3⟩ := tag_word ha at_ ((wa ++ r).length + 1) [] ⟨wa ++ r, at_ + 1 + nm.length, st, rs, false, 0⟩ r rfl rfl (by simp; omega)
  unfold startB
  dsimp only
  rw [e1, e2]
  dsimp only
  rw [h1]
  dsimp only
  rw [List.nil_append, h2]
  refine ⟨fun st' ho hs => ?_, fun y c hs hc => ?_⟩
  · have hs0 := hs
    unfold Sx.start at hs
    cases he : Sx.early st ⟨0, nm, as_, e, [], at_, n⟩ with
    | some b => rw [he] at hs; cases hs
    | none =>
      rw [he] at hs
      obtain ⟨q1, q2, q3, q4⟩ := early_none he
      dsimp only at q3 q4 hs
      rw [if_neg (by omega), if_neg (by omega)]
      have hva : valsAt as_ = none := by
        cases hv : valsAt as_ with
        | none => rfl
        | some a =>
          have : late st ⟨0, nm, as_, e, [], at_, n⟩ = some a := by unfold late; dsimp only; rw [hv]
          rw [this] at hs
          cases hs
      obtain ⟨rfl, rfl⟩ := h3 hva hfine
      rw [begun_ok (p := ⟨r, at_ + 1 + nm.length + wa.length, st, rs ++ [], false, 0⟩) rfl rfl hs0]
      simp
      omega
  · unfold Sx.start at hs
    cases he : Sx.early st ⟨0, nm, as_, e, [], at_, n⟩ with
    | none =>
      rw [he] at hs
      dsimp only at hs
      split at hs
      · cases hs; omega
      · cases hs
    | some b =>
      rw [he] at hs
      unfold Sx.early at he
      split at he
      · cases he; cases hs; omega
      split at he
      · cases he; cases hs; omega
      split at he
      · rename_i hm
        rw [if_pos hm]
        exact .inr rfl
      split at he
      · rename_i hm1 hm2
        rw [if_neg hm1, if_pos (by omega)]
        exact .inl rfl
      · cases he
theorem pf_no {c d : UInt8} (h : c ≠ d) (q s : L) : (60 :: d :: q : L).isPrefixOf (60 :: c :: s) = false := by
  show ((60 : UInt8) == 60 && ((d == c) && q.isPrefixOf s)) = false
  rw [beq_eq_false_iff_ne.2 (Ne.symm h)]
  rfl
/-- The bytes of a name end no name. -/
theorem name_mem {p : L} (h : Name p) {c : UInt8} (hc : Stops c) (h2 : nameOk 0 (c.toNat : Int) = false) : c ∉ p := by
  intro hm
  obtain ⟨a, b, rfl⟩ := List.append_of_mem hm
  have hv := Utf.valid_split hc.1 h.1
  have := h.2 (0 + a.length, (c.toNat : Int)) (by rw [Utf.from_app hv, Utf.from_ascii hc.1]; simp)
  rw [Nat.zero_add] at this
  by_cases h0 : a.length = 0
  · rw [h0, h2] at this; cases this
  · rw [hc.2 _ h0] at this; cases this
theorem occ_head {c : UInt8} {q : L} {l : L} {j : Nat} (h : Lib.occAt l (c :: q) j = true) : l[j]? = some c := by
  unfold Lib.occAt at h
  obtain ⟨r, hr⟩ := pfx_iff.1 h
  have : (l.drop j)[0]? = some c := by rw [hr]; rfl
  rwa [List.getElem?_drop, Nat.add_zero] at this
/-- What stands ahead and holds no first byte of it makes no difference but for the place. -/
theorem till_behind {c : UInt8} {q x l : L} {n : Nat} (hx : c ∉ x) (h : till (c :: q) l = some n) : till (c :: q) (x ++ l) = some (x.length + n) := by
  rw [till_iff] at h ⊢
  obtain ⟨h1, h2, h3⟩ := index_first' h
  have e : ∀ j, Lib.occAt (x ++ l) (c :: q) (x.length + j) = Lib.occAt l (c :: q) j := fun j => by
    unfold Lib.occAt
    rw [← List.drop_drop, List.drop_left]
  refine Lib.index_first (by rw [List.length_append]; omega) (by rw [e]; exact h1) fun j hj => ?_
  by_cases hjx : j < x.length
  · cases ho : Lib.occAt (x ++ l) (c :: q) j with
    | false => rfl
    | true =>
      have := occ_head ho
      rw [List.getElem?_append_left hjx] at this
      exact absurd (List.mem_of_getElem? this) hx
  · obtain ⟨i, rfl⟩ : ∃ i, j = x.length + i := ⟨j - x.length, by omega⟩
    rw [e]
    exact h3 i (by omega)
theorem till_two {c d : UInt8} {y r : L} (h : till [c, d] (y ++ [c, d]) = some y.length) : till [c, d] (y ++ c :: d :: r) = some y.length := till_of (p := [c, d]) h r
/-- A comment's end. -/
theorem till_comment {c r : L} (h : till [45, 45] (c ++ [45, 45]) = some c.length) : till [45, 45, 62] (c ++ (45 :: 45 :: 62 :: r)) = some c.length := by
  have h0 := till_of h (62 :: r)
  rw [till_iff] at h0 ⊢
  obtain ⟨h1, h2, h3⟩ := index_first' h0
  refine Lib.index_first (by simp) ?_ fun j hj => ?_
  · unfold Lib.occAt
    rw [List.drop_left]
    simp
  · cases ho : Lib.occAt (c ++ (45 :: 45 :: 62 :: r)) [45, 45, 62] j with
    | false => rfl
    | true =>
      have h4 := h3 j hj
      unfold Lib.occAt at ho h4
      obtain ⟨s, hs⟩ := pfx_iff.1 ho
      have h5 : c ++ ([45, 45] ++ 62 :: r) = c ++ (45 :: 45 :: 62 :: r) := rfl
      rw [h5, hs] at h4
      simp at h4
theorem skip_of {op : Nat} {e x r : L} {p : Bs} (hop : op ≤ p.l.length) (hl : p.l.drop op = x ++ (e ++ r)) (h : till e (x ++ (e ++ r)) = some x.length) : skipB op e p = (x, ⟨r, p.at_ + op + x.length + e.length, p.st, p.rs, p.junk, p.e⟩) := by
  unfold skipB
  rw [hl, h]
  dsimp only
  rw [List.take_left, Nat.min_eq_left hop]
  unfold cutB
  dsimp only
  rw [hl, List.drop_left, List.drop_left]
theorem digits_no {l : L} (h : l.all digit = true) : (63 : UInt8) ∉ l := fun hm => by
  have := List.all_eq_true.1 h 63 hm
  exact absurd this (by decide)
theorem eqw_no {v x : L} (h : EqW v x) (hx : (63 : UInt8) ∉ x) : (63 : UInt8) ∉ v := by
  obtain ⟨b1, b2, q, hb1, hb2, hq, _, rfl⟩ := h
  have hb : ∀ {b : L}, Sps b → (63 : UInt8) ∉ b := fun hb hm => absurd (List.all_eq_true.1 hb 63 hm) (by decide)
  intro hm
  simp only [List.mem_append, List.mem_cons, List.not_mem_nil, or_false] at hm
  rcases hm with hm | hm | hm | hm | hm | hm
  · exact hb hb1 hm
  · cases hm
  · exact hb hb2 hm
  · rcases hq with rfl | rfl <;> cases hm
  · exact hx hm
  · rcases hq with rfl | rfl <;> cases hm
theorem part_no {nm w x : L} (h : PartW nm w x) (hn : (63 : UInt8) ∉ nm) (hx : (63 : UInt8) ∉ x) : (63 : UInt8) ∉ w := by
  obtain ⟨b, v, hb, _, hv, rfl⟩ := h
  intro hm
  rw [List.mem_append, List.mem_append] at hm
  rcases hm with (hm | hm) | hm
  · exact absurd (List.all_eq_true.1 hb 63 hm) (by decide)
  · exact hn hm
  · exact eqw_no hv hx hm
theorem decl_no {d : L} (h : DeclW d) : ∃ y, d = y ++ [63, 62] ∧ (63 : UInt8) ∉ y := by
  obtain ⟨v, x, e, a, b, hv, hx, he, ha, hb, rfl⟩ := h
  refine ⟨v ++ (e ++ (a ++ b)), by simp, ?_⟩
  intro hm
  simp only [List.mem_append] at hm
  rcases hm with hm | hm | hm | hm
  · refine part_no hv (by decide) ?_ hm
    unfold version at hx
    simp only [Bool.and_eq_true] at hx
    obtain ⟨⟨h1, _⟩, h2⟩ := hx
    obtain ⟨r, rfl⟩ := pfx_two h1
    intro h3
    simp only [List.mem_cons] at h3
    rcases h3 with h3 | h3 | h3
    · cases h3
    · cases h3
    · exact digits_no h2 h3
  · rcases he with rfl | ⟨y, hy, hye⟩
    · cases hm
    · refine part_no hy (by decide) ?_ hm
      cases y with
      | nil => simp
      | cons c t =>
        unfold encoding at hye
        rw [Bool.and_eq_true] at hye
        intro h3
        rcases List.mem_cons.1 h3 with h3 | h3
        · rw [← h3] at hye; exact absurd hye.1 (by decide)
        · exact absurd (List.all_eq_true.1 hye.2 63 h3) (by decide)
  · rcases ha with rfl | ⟨y, hy, hye⟩
    · cases hm
    · refine part_no hy (by decide) ?_ hm
      unfold alone at hye
      rw [Bool.or_eq_true, decide_eq_true_eq, decide_eq_true_eq] at hye
      rcases hye with rfl | rfl <;> decide
  · exact absurd (List.all_eq_true.1 hb 63 hm) (by decide)
theorem attrs_fine {off : Nat} {w : L} {as_ : List At} {e : Bool} (h : AttrsW off w as_ e) : fine w = true → ∀ x ∈ as_, fine x.value = true := by
  induction h with
  | two => intro _ x hx; cases hx
  | one => intro _ x hx; cases hx
  | more off b nm v x w as_ e hb _ hn _ hv _ _ ih =>
    intro hf y hy
    have hb' := sps_fine hb
    rw [fine_app (fine_valid hb'), Bool.and_eq_true] at hf
    have hn' := (fine_parts hn.1 hf.2).2
    obtain ⟨h1, h2⟩ := EqW.fine hv hn'
    rcases List.mem_cons.1 hy with rfl | hy
    · exact h1
    · exact ih h2 y hy
end Bz
end Go.Proofs.Ytaickkaoglohgaa
