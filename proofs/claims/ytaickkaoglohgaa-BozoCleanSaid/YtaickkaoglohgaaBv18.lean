/- Tokens: words for the laws: where tokens end; the first ones of a list. · Strict in plain data: tokens are small, a parse keeps within bounds; no program in sight. · Plain: a Char's bytes are fine; a text with references, if it is fine, stands for a fine one; no program in sight. -/
import Derived.Test.YtaickkaoglohgaaBv02
import Derived.Test.YtaickkaoglohgaaBv10
import Derived.Test.YtaickkaoglohgaaBv17
set_option linter.unusedSimpArgs false
set_option linter.unusedVariables false
namespace Go.Proofs.Ytaickkaoglohgaa
open Go.RowKit Tk

/-- Where the first tokens end. -/
def ends (ts : List Tok) (j : Nat) : Nat := ((ts.take j).getLast?.map (·.end_)).getD 0
theorem ends_zero (ts : List Tok) : ends ts 0 = 0 := rfl
theorem ends_next {ts : List Tok} {j : Nat} {t : Tok} (h : ts[j]? = some t) : ends ts (j + 1) = t.end_ := by
  unfold ends
  rw [List.take_add_one, h]
  simp
theorem chain_at {ts : List Tok} {n e : Nat} (h : Chain n ts e) : ∀ j (hj : j < ts.length), ts[j].at_ = ((ts.take j).getLast?.map (·.end_)).getD n ∧ ts[j].at_ < ts[j].end_ ∧ ts[j].end_ ≤ e := by
  induction ts generalizing n with
  | nil => intro j hj; simp at hj
  | cons t ts ih =>
    obtain ⟨h1, h2, h3⟩ := h
    intro j hj
    have hle : ∀ {l : List Tok} {a b : Nat}, Chain a l b → a ≤ b := by
      intro l
      induction l with
      | nil => intro a b h; exact Nat.le_of_eq h
      | cons u l ih2 => intro a b h; exact Nat.le_trans (Nat.le_of_lt h.2.1) (ih2 h.2.2)
    cases j with
    | zero => exact ⟨h1, by simp only [List.getElem_cons_zero]; omega, hle h3⟩
    | succ j =>
      have := ih h3 j (by simpa using hj)
      refine ⟨?_, this.2⟩
      simp only [List.getElem_cons_succ, List.take_succ_cons]
      rw [this.1]
      cases hl : ts.take j with
      | nil => rfl
      | cons u l => simp [List.getLast?_cons]
theorem ends_at {ts : List Tok} {e : Nat} (h : Chain 0 ts e) {j : Nat} (hj : j < ts.length) : ts[j].at_ = ends ts j ∧ ends ts j < ends ts (j + 1) ∧ ends ts (j + 1) ≤ e ∧ ts[j].end_ = ends ts (j + 1) := by
  obtain ⟨h1, h2, h3⟩ := chain_at h j hj
  have h4 := ends_next (List.getElem?_eq_getElem hj)
  rw [h4]
  exact ⟨h1, by rw [show ends ts j = ts[j].at_ from h1.symm]; exact h2, h3, rfl⟩
theorem ends_all {ts : List Tok} {e : Nat} (h : Chain 0 ts e) : ends ts ts.length = e := by
  unfold ends
  rw [List.take_length]
  exact h.end_.symm
theorem gts_take : ∀ (l : List Gt) (q : Nat), q ≤ l.length → gts (l.take q) = (gts l).take (q * 7)
  | [], q, h => by
    have : q = 0 := by simpa using h
    subst this
    rfl
  | x :: l, 0, _ => by simp [gts]
  | x :: l, q + 1, h => by
    have ih := gts_take l q (by simpa using h)
    have hl : (gtCells x).length = 7 := rfl
    unfold gts at ih ⊢
    rw [List.take_succ_cons, List.flatMap_cons, List.flatMap_cons, ih, List.take_append, hl, List.take_of_length_le (l := gtCells x) (by omega), show (q + 1) * 7 - 7 = q * 7 by omega]
theorem TkL.take {w : World} {B : Nat} {A : Option Addr} {xs : List Gt} (h : TkL w B A xs) {q : Nat} (hq : q ≤ xs.length) : TkL w B A (xs.take q) := by
  refine ⟨⟨?_, fun hn => ?_⟩, fun x hx => h.sub x (List.mem_of_mem_take hx)⟩
  · rw [gts_length]
  · rw [List.length_take] at hn
    obtain ⟨b, off, hA, hb, hc⟩ := h.row.2 (by omega)
    refine ⟨b, off, hA, hb, fun j u hu => hc j u ?_⟩
    rw [gts_take _ _ hq, List.getElem?_take] at hu
    split at hu
    · exact hu
    · cases hu
/-- The list from a token on: the slice's address moves on. -/
theorem TkL.drop {w : World} {B b off : Nat} {xs : List Gt} (h : TkL w B (some ⟨b, off, none⟩) xs) {q : Nat} (hq : q < xs.length) : TkL w B (some ⟨b, off + q * 7, none⟩) (xs.drop q) := by
  refine ⟨⟨?_, fun hn => ?_⟩, fun x hx => h.sub x (List.mem_of_mem_drop hx)⟩
  · rw [gts_length]
  · obtain ⟨b', off', hA, hb, hc⟩ := h.row.2 (by omega)
    cases hA
    refine ⟨b, off + q * 7, rfl, hb, fun j u hu => ?_⟩
    have hd : gts xs = gts (xs.take q) ++ gts (xs.drop q) := by unfold gts; rw [← List.flatMap_append, List.take_append_drop]
    have hl : (gts (xs.take q)).length = q * 7 := by rw [gts_length, List.length_take, Nat.min_eq_left (by omega)]
    have := hc (q * 7 + j) u (by rw [hd, List.getElem?_append_right (by omega), hl, Nat.add_sub_cancel_left]; exact hu)
    rwa [← Nat.add_assoc] at this
theorem tv_ends {xs : List Tv} {e : Nat} (h : Chain 0 (xs.map (·.t)) e) {j : Nat} (hj : j < xs.length) : ∃ x, xs[j]? = some x ∧ x.t.at_ = ends (xs.map (·.t)) j ∧ ends (xs.map (·.t)) j < ends (xs.map (·.t)) (j + 1) ∧ ends (xs.map (·.t)) (j + 1) ≤ e ∧ x.t.end_ = ends (xs.map (·.t)) (j + 1) := by
  obtain ⟨h1, h2, h3, h4⟩ := ends_at h (j := j) (by rw [List.length_map]; exact hj)
  rw [List.getElem_map] at h1 h4
  exact ⟨xs[j], List.getElem?_eq_getElem hj, h1, h2, h3, h4⟩
theorem TkL.at_ {w : World} {B : Nat} {A : Option Addr} {xs : List Tv} (h : TkL w B A (xs.map Tv.g)) {j : Nat} {x : Tv} (hx : xs[j]? = some x) : ∃ b off, A = some ⟨b, off, none⟩ ∧ b < B ∧ GtAt w b (off + j * 7) x.g := by
  obtain ⟨hj, he⟩ := List.getElem?_eq_some_iff.1 hx
  obtain ⟨b, off, h1, h2, h3⟩ := h.row.gt (k := j) (by rw [List.length_map]; exact hj)
  rw [List.getElem_map, he] at h3
  exact ⟨b, off, h1, h2, h3⟩
theorem attrsW_len {off : Nat} {w : L} {as_ : List At} {e : Bool} (h : AttrsW off w as_ e) : as_.length ≤ w.length := by
  induction h with
  | two off b hb => simp
  | one off b hb => simp
  | more off b nm v x w as_ e hb h0 hn hn0 hv h60 hw ih =>
    have hbl : 0 < b.length := List.length_pos_iff.2 h0
    simp only [List.length_append, List.length_cons]
    omega
theorem tokW_len {at_ : Nat} {w : L} {t : Tok} (h : TokW at_ w t) : t.attrs.length ≤ w.length := by
  cases h with
  | start _ nm wa as_ e hn h0 ha =>
    have := attrsW_len ha
    simp only [List.length_append, List.length_cons]
    omega
  | _ => exact Nat.zero_le _
theorem row_attrs {at_ : Nat} {w rest : L} {ts : List Tok} (h : Row at_ w rest ts) : ∀ t ∈ ts, t.attrs.length ≤ w.length := by
  induction h with
  | nil => intro t ht; cases ht
  | cons at_ w t w2 rest ts hw hf hk _ ih =>
    intro u hu
    rw [List.length_append]
    rcases List.mem_cons.1 hu with rfl | hu
    · have := tokW_len hw; omega
    · have := ih u hu; omega
theorem allP_attrs {s : L} {ts : List Tok} {n : Nat} {ok : Bool} (h : AllP s ts n ok) : ∀ t ∈ ts, t.attrs.length ≤ s.length := by
  unfold AllP at h
  split at h
  · obtain ⟨w, rest, rfl, h1, _⟩ := h
    intro t ht
    have := row_attrs h1 t ht
    rw [List.length_append]
    omega
  · obtain ⟨rfl, _⟩ := h
    intro t ht
    cases ht
theorem attrs_small {s : L} {xs : List Tv} {n : Nat} {ok : Bool} (h : AllP s (xs.map (·.t)) n ok) {y : Gt} (hy : y ∈ xs.map Tv.g) : y.as_.length ≤ s.length := by
  obtain ⟨x, hx, rfl⟩ := List.mem_map.1 hy
  have := allP_attrs h x.t (List.mem_map_of_mem hx)
  show (x.t.attrs.map At.g).length ≤ _
  rw [List.length_map]
  exact this
/-- k, brought within a length. -/
theorem mod_in (k : Int) {n : Nat} (hn : 0 < n) : ∃ m : Int, Int.tmod k (n : Int) = m ∧ -(n : Int) < m ∧ m < n ∧ ∃ j : Nat, Int.tmod (m + n) (n : Int) = j ∧ j < n := by
  refine ⟨_, rfl, by have := Int.lt_tmod_of_pos k (show (0 : Int) < n by omega); omega, Int.tmod_lt_of_pos k (by omega), ?_⟩
  have h1 := Int.lt_tmod_of_pos k (show (0 : Int) < n by omega)
  have h2 := Int.tmod_nonneg (n : Int) (show 0 ≤ Int.tmod k n + n by omega)
  have h3 := Int.tmod_lt_of_pos (Int.tmod k n + n) (show (0 : Int) < n by omega)
  exact ⟨(Int.tmod (Int.tmod k n + n) (n : Int)).toNat, by omega, by omega⟩
end Go.Proofs.Ytaickkaoglohgaa
namespace Go.Proofs.Ytaickkaoglohgaa
open Go.RowKit Tk Sx

/-- A token within bounds. -/
structure TokS (N : Nat) (t : Tok) : Prop where
  nm : t.name.length ≤ N
  tx : t.text.length ≤ N
  ats : t.attrs.length ≤ N
  an : ∀ a ∈ t.attrs, a.name.length ≤ N ∧ a.value.length ≤ N
  kd : t.kind = 0 ∨ t.kind = 1 ∨ t.kind = 2 ∨ t.kind = 3 ∨ t.kind = 4
theorem TokS.more {N N' : Nat} {t : Tok} (h : TokS N t) (hN : N ≤ N') : TokS N' t := ⟨Nat.le_trans h.nm hN, Nat.le_trans h.tx hN, Nat.le_trans h.ats hN, fun a ha => ⟨Nat.le_trans (h.an a ha).1 hN, Nat.le_trans (h.an a ha).2 hN⟩, h.kd⟩
theorem attrsW_small {off : Nat} {w : L} {as_ : List At} {e : Bool} (h : AttrsW off w as_ e) : ∀ a ∈ as_, a.name.length ≤ w.length ∧ a.value.length ≤ w.length := by
  induction h with
  | two => intro a ha; cases ha
  | one => intro a ha; cases ha
  | more off b nm v x w as_ e hb h0 hn hn0 hv h60 hw ih =>
    intro a ha
    obtain ⟨b1, b2, q, _, _, _, _, rfl⟩ := hv
    rcases List.mem_cons.1 ha with rfl | ha
    · simp only [List.length_append, List.length_cons]
      omega
    · have := ih a ha
      simp only [List.length_append, List.length_cons]
      omega
theorem tokW_small {at_ : Nat} {w : L} {t : Tok} (h : TokW at_ w t) : TokS w.length t := by
  cases h with
  | start _ nm wa as_ e hn h0 ha =>
    have h1 := attrsW_small ha
    have h2 := attrsW_len ha
    refine ⟨by simp; omega, by simp, by simp; omega, fun a ha => ?_, .inl rfl⟩
    have := h1 a ha
    simp only [List.length_append, List.length_cons]
    omega
  | end_ _ nm b hn h0 hb => exact ⟨by simp; omega, by simp, by simp, fun a ha => (by cases ha), .inr (.inl rfl)⟩
  | text _ tx h0 => exact ⟨by simp, by simp, by simp, fun a ha => (by cases ha), .inr (.inr (.inl rfl))⟩
  | data _ tx h0 => exact ⟨by simp, by simp; omega, by simp, fun a ha => (by cases ha), .inr (.inr (.inr (.inl rfl)))⟩
  | comment => exact ⟨by simp, by simp, by simp, fun a ha => (by cases ha), .inr (.inr (.inr (.inr rfl)))⟩
  | decl => exact ⟨by simp, by simp, by simp, fun a ha => (by cases ha), .inr (.inr (.inr (.inr rfl)))⟩
  | instr => exact ⟨by simp, by simp, by simp, fun a ha => (by cases ha), .inr (.inr (.inr (.inr rfl)))⟩
theorem row_small {at_ : Nat} {w rest : L} {ts : List Tok} (h : Row at_ w rest ts) : ∀ t ∈ ts, TokS w.length t := by
  induction h with
  | nil => intro t ht; cases ht
  | cons at_ w t w2 rest ts hw hf hk _ ih =>
    intro u hu
    rw [List.length_append]
    rcases List.mem_cons.1 hu with rfl | hu
    · exact (tokW_small hw).more (by omega)
    · exact (ih u hu).more (by omega)
theorem allP_small {s : L} {ts : List Tok} {n : Nat} {ok : Bool} (h : AllP s ts n ok) : ∀ t ∈ ts, TokS s.length t := by
  unfold AllP at h
  split at h
  · obtain ⟨w, rest, rfl, h1, _⟩ := h
    intro t ht
    exact (row_small h1 t ht).more (by rw [List.length_append]; omega)
  · obtain ⟨rfl, _⟩ := h
    intro t ht
    cases ht
/-- A parse within bounds, and what its prefixes stand for. -/
structure OkS (st : St) (n M V : Nat) : Prop where
  ok : Ok st n M
  ns : ∀ d ∈ st.scope, d.ns.length ≤ V
theorem ok_text {st : St} {n M k : Nat} (h : Ok st n M) (x : L) (hx : x.length ≤ k) : Ok (putSt st x) (n + 1) (M + k) := by
  refine ⟨h.op, Nat.le_trans h.sc (Nat.le_succ _), ?_, ?_, h.in_, h.srt⟩
  · exact Nat.le_trans (putEv_len st.evs (textEv x)) (Nat.succ_le_succ h.ev)
  · show ∀ y ∈ putEv st.evs (textEv x), y.text.length ≤ M + k
    intro y hy
    unfold putEv at hy
    rw [if_neg (by simp [textEv])] at hy
    have h1 : ∀ z ∈ st.evs, z.text.length ≤ M := h.tx
    split at hy
    · rename_i z hz
      have hzm := List.mem_of_getLast? hz
      split at hy
      · rcases List.mem_append.1 hy with hy | hy
        · exact Nat.le_trans (h1 y (List.dropLast_subset _ hy)) (Nat.le_add_right _ _)
        · rw [List.mem_singleton.1 hy]
          have := h1 z hzm
          show (z.text ++ x).length ≤ _
          rw [List.length_append]
          omega
      · split at hy
        · exact Nat.le_trans (h1 y hy) (Nat.le_add_right _ _)
        · rcases List.mem_append.1 hy with hy | hy
          · exact Nat.le_trans (h1 y hy) (Nat.le_add_right _ _)
          · rw [List.mem_singleton.1 hy]
            show x.length ≤ _
            omega
    · split at hy
      · exact Nat.le_trans (h1 y hy) (Nat.le_add_right _ _)
      · rcases List.mem_append.1 hy with hy | hy
        · exact Nat.le_trans (h1 y hy) (Nat.le_add_right _ _)
        · rw [List.mem_singleton.1 hy]
          show x.length ≤ _
          omega
theorem ok_close {st : St} {n M : Nat} (h : Ok st n M) : Ok (closeSt st) (n + 1) M := by
  unfold closeSt
  split
  · exact Ok_up h (Nat.le_succ _)
  · rename_i x hx
    have hxm := List.mem_of_getLast? hx
    have hsp : st.open_ = st.open_.dropLast ++ [x] := by
      have hne : st.open_ ≠ [] := fun e => by rw [e] at hx; cases hx
      rw [List.getLast?_eq_some_getLast hne] at hx
      rw [← Option.some.inj hx, List.dropLast_concat_getLast]
    have hp := h.srt
    rw [hsp, List.pairwise_append] at hp
    refine ⟨?_, ?_, ?_, ?_, ?_, hp.1⟩
    · exact Nat.le_trans (by rw [List.length_dropLast]; omega) h.op
    · exact Nat.le_trans (by rw [List.length_take]; omega) (Nat.le_trans h.sc (Nat.le_succ _))
    · exact Nat.le_trans (putEv_len st.evs ⟨1, x.name, [], []⟩) (Nat.succ_le_succ h.ev)
    · exact putEv_tx (x := ⟨1, x.name, [], []⟩) h.tx (by simp) (by simp)
    · intro y hy
      show y.scope ≤ (st.scope.take x.scope).length
      have h1 := hp.2.2 y hy x (List.mem_singleton.2 rfl)
      have h2 := h.in_ x hxm
      rw [List.length_take]
      omega
theorem close_scope (st : St) : ∀ d ∈ (closeSt st).scope, d ∈ st.scope := by
  unfold closeSt
  split
  · exact fun d h => h
  · exact fun d h => List.mem_of_mem_take h
theorem vals_small {N : Nat} {t : Tok} (h : TokS N t) : ∀ s ∈ splits t, s.val.length ≤ 4 * N := by
  intro s hs
  obtain ⟨a, ha, rfl⟩ := List.mem_map.1 hs
  have h1 := valOf_short a
  have h2 := (h.an a ha).2
  exact Nat.le_trans h1 (Nat.mul_le_mul_left 4 h2)
theorem ok_start {st st' : St} {t : Tok} {n M V N : Nat} (h : OkS st n M V) (ht : TokS N t) (hV : 4 * N ≤ V) (hs : Sx.start st t = .ok st') : OkS st' (n + 18) M V := by
  unfold Sx.start at hs
  cases he : Sx.early st t with
  | some b => rw [he] at hs; cases hs
  | none =>
    rw [he] at hs
    have he2 : t.attrs.length ≤ 16 ∧ st.open_.length ≠ 16 := by
      unfold Sx.early at he
      cases hn : names t with
      | some a => rw [hn] at he; cases he
      | none =>
        rw [hn] at he
        dsimp only at he
        split at he
        · cases he
        · split at he
          · cases he
          · split at he
            · cases he
            · omega
    dsimp only at hs
    rw [late_is] at hs
    cases hb : b3 st t with
    | some a => rw [hb] at hs; cases hs
    | none =>
      rw [hb] at hs
      dsimp only at hs
      rw [← started_is hb] at hs
      have hl : (sc1 st t).length ≤ n + 17 := by
        unfold sc1
        split
        · have := declared_len (splits t) st.scope
          rw [show (splits t).length = t.attrs.length from List.length_map _] at this
          have := h.ok.sc
          unfold scope'
          omega
        · have := h.ok.sc; omega
      have hok := startedW_ok h.ok he2.2 hl (by omega)
      have hns : ∀ d ∈ (startedW st t (sc1 st t)).scope, d.ns.length ≤ V := by
        intro d hd
        have hd2 : d ∈ sc1 st t := hd
        unfold sc1 at hd2
        split at hd2
        · exact declared_ns (splits t) st.scope h.ns (fun s hs => Nat.le_trans (vals_small ht s hs) hV) d hd2
        · exact h.ns d hd2
      cases hte : t.empty with
      | true =>
        rw [hte] at hs
        simp only [if_true, Except.ok.injEq] at hs
        subst hs
        exact ⟨ok_close hok, fun d hd => hns d (close_scope _ d hd)⟩
      | false =>
        rw [hte] at hs
        simp only [Bool.false_eq_true, if_false, Except.ok.injEq] at hs
        subst hs
        exact ⟨Ok_up hok (by omega), hns⟩
theorem ok_step {st st' : St} {t : Tok} {n M V N : Nat} (h : OkS st n M V) (ht : TokS N t) (hV : 4 * N ≤ V) (hs : Sx.step st t = .ok st') : OkS st' (n + 18) (M + 4 * N) V := by
  have up : ∀ {st : St} {m M' : Nat}, Ok st m M' → m ≤ n + 18 → M' ≤ M + 4 * N → Ok st (n + 18) (M + 4 * N) := fun {st m M'} k h1 h2 => ⟨k.op, Nat.le_trans k.sc h1, Nat.le_trans k.ev h1, fun y hy => Nat.le_trans (k.tx y hy) h2, k.in_, k.srt⟩
  unfold Sx.step at hs
  split at hs
  · have := ok_start h ht hV hs
    exact ⟨up this.ok (by omega) (by omega), this.ns⟩
  split at hs
  · unfold Sx.end_ at hs
    split at hs
    · cases hs
    · split at hs
      · simp only [Except.ok.injEq] at hs
        subst hs
        exact ⟨up (ok_close h.ok) (by omega) (by omega), fun d hd => h.ns d (close_scope _ d hd)⟩
      · cases hs
  split at hs
  · unfold Sx.text at hs
    split at hs
    · split at hs
      · simp only [Except.ok.injEq] at hs
        subst hs
        exact ⟨up h.ok (by omega) (by omega), h.ns⟩
      · cases hs
    · split at hs
      · rename_i x hx
        simp only [Except.ok.injEq] at hs
        subst hs
        have := sref_len _ _ _ _ hx
        have := ht.tx
        exact ⟨up (ok_text h.ok x (k := 4 * N) (by omega)) (by omega) (by omega), h.ns⟩
      · cases hs
  split at hs
  · unfold Sx.data at hs
    split at hs
    · cases hs
    · simp only [Except.ok.injEq] at hs
      subst hs
      have := ht.tx
      exact ⟨up (ok_text h.ok t.text (k := 4 * N) (by omega)) (by omega) (by omega), h.ns⟩
  · simp only [Except.ok.injEq] at hs
    subst hs
    exact ⟨up h.ok (by omega) (by omega), h.ns⟩
theorem run_snoc (st : St) (ts : List Tok) (t : Tok) : run st (ts ++ [t]) = match run st ts with | .error x => .error x | .ok st' => Sx.step st' t := by
  induction ts generalizing st with
  | nil =>
    simp only [List.nil_append, run]
    cases Sx.step st t <;> rfl
  | cons u ts ih =>
    simp only [List.cons_append, run]
    cases hs : Sx.step st u with
    | error x => rfl
    | ok st' => exact ih st'
theorem run_error {st : St} {ts : List Tok} {x : Nat × Nat} (h : run st ts = .error x) : ∀ r, run st (ts ++ r) = .error x := by
  induction ts generalizing st with
  | nil => cases h
  | cons u ts ih =>
    intro r
    simp only [List.cons_append, run] at h ⊢
    cases hs : Sx.step st u with
    | error y => rw [hs] at h; exact h
    | ok st' => rw [hs] at h; exact ih h r
end Go.Proofs.Ytaickkaoglohgaa
namespace Go.Proofs.Ytaickkaoglohgaa
open Tk Sx

theorem bv_nat {n : Int} (h0 : 0 ≤ n) (h1 : n < 256) : ((bv n).toNat : Int) = n := bv_toNat n h0 h1
theorem contStep {c : UInt8} {l : L} {k : Nat} {r n lo hi : Int} (h1 : lo ≤ (c.toNat : Int)) (h2 : (c.toNat : Int) ≤ hi) : Utf.cont (c :: l) (k + 1) r n lo hi = Utf.cont l k (r * 64 + (c.toNat : Int) % 64) (n + 1) 128 191 := by
  rw [Utf.cont, if_neg (by omega)]
theorem putL_one {r : Int} (h : r < 128) : putL r = [bv r] := by unfold putL Utf.put; rw [if_pos h]; rfl
theorem putL_two {r : Int} (h0 : ¬ r < 128) (h : r < 2048) : putL r = [bv (192 + r / 64), bv (128 + r % 64)] := by unfold putL Utf.put; rw [if_neg h0, if_pos h]; rfl
theorem putL_three {r : Int} (h0 : ¬ r < 128) (h1 : ¬ r < 2048) (h : r < 65536) : putL r = [bv (224 + r / 64 / 64), bv (128 + r / 64 % 64), bv (128 + r % 64)] := by unfold putL Utf.put; rw [if_neg h0, if_neg h1, if_pos h]; rfl
theorem putL_four {r : Int} (h0 : ¬ r < 128) (h1 : ¬ r < 2048) (h : ¬ r < 65536) : putL r = [bv (240 + r / 64 / 64 / 64), bv (128 + r / 64 / 64 % 64), bv (128 + r / 64 % 64), bv (128 + r % 64)] := by unfold putL Utf.put; rw [if_neg h0, if_neg h1, if_neg h]; rfl
theorem piece_put {r : Int} (h : Utf.isScalar r = true) : Utf.piece (putL r) = (r, ((putL r).length : Int)) := by
  have h0 : 0 ≤ r ∧ r ≤ 1114111 ∧ (r < 55296 ∨ 57343 < r) := by simpa [Utf.isScalar] using h
  by_cases h1 : r < 128
  · rw [putL_one h1]
    have hb := bv_nat (n := r) (by omega) (by omega)
    rw [Utf.piece_ascii (by omega), hb]
    rfl
  by_cases h2 : r < 2048
  · rw [putL_two h1 h2, Utf.piece_cons, bv_nat (n := 192 + r / 64) (by omega) (by omega)]
    have hf : Utf.follow (192 + r / 64) = (1, (192 + r / 64) % 32, 128, 191) := by
      unfold Utf.follow
      rw [if_neg (by omega), if_neg (by omega), if_pos (by omega)]
    have b1 := bv_nat (n := 128 + r % 64) (by omega) (by omega)
    rw [hf, if_neg (by simp)]
    dsimp only
    rw [show (1 : Int).toNat = 0 + 1 from rfl, contStep (by omega) (by omega), Utf.cont_zero, b1]
    simp only [List.length_cons, List.length_nil, Prod.mk.injEq]
    constructor <;> omega
  by_cases h3 : r < 65536
  · rw [putL_three h1 h2 h3, Utf.piece_cons, bv_nat (n := 224 + r / 64 / 64) (by omega) (by omega)]
    have hf : Utf.follow (224 + r / 64 / 64) = (2, (224 + r / 64 / 64) % 16, if 224 + r / 64 / 64 = 224 then 160 else 128, if 224 + r / 64 / 64 = 237 then 159 else 191) := by
      unfold Utf.follow
      rw [if_neg (by omega), if_neg (by omega), if_neg (by omega), if_pos (by omega)]
    have b1 := bv_nat (n := 128 + r / 64 % 64) (by omega) (by omega)
    have b2 := bv_nat (n := 128 + r % 64) (by omega) (by omega)
    rw [hf, if_neg (by simp)]
    dsimp only
    rw [show (2 : Int).toNat = 0 + 1 + 1 from rfl, contStep (by rw [b1]; split <;> omega) (by rw [b1]; split <;> omega), contStep (by omega) (by omega), Utf.cont_zero, b1, b2]
    simp only [List.length_cons, List.length_nil, Prod.mk.injEq]
    constructor <;> omega
  · rw [putL_four h1 h2 h3, Utf.piece_cons, bv_nat (n := 240 + r / 64 / 64 / 64) (by omega) (by omega)]
    have hf : Utf.follow (240 + r / 64 / 64 / 64) = (3, (240 + r / 64 / 64 / 64) % 8, if 240 + r / 64 / 64 / 64 = 240 then 144 else 128, if 240 + r / 64 / 64 / 64 = 244 then 143 else 191) := by
      unfold Utf.follow
      rw [if_neg (by omega), if_neg (by omega), if_neg (by omega), if_neg (by omega)]
    have b1 := bv_nat (n := 128 + r / 64 / 64 % 64) (by omega) (by omega)
    have b2 := bv_nat (n := 128 + r / 64 % 64) (by omega) (by omega)
    have b3 := bv_nat (n := 128 + r % 64) (by omega) (by omega)
    rw [hf, if_neg (by simp)]
    dsimp only
    rw [show (3 : Int).toNat = 0 + 1 + 1 + 1 from rfl, contStep (by rw [b1]; split <;> omega) (by rw [b1]; split <;> omega), contStep (by omega) (by omega), contStep (by omega) (by omega), Utf.cont_zero, b1, b2, b3]
    simp only [List.length_cons, List.length_nil, Prod.mk.injEq]
    constructor <;> omega
theorem putL_ne (r : Int) : putL r ≠ [] := by
  unfold putL Utf.put
  split
  · simp
  · split
    · simp
    · split <;> simp
theorem fine_put {r : Int} (h : charOk r = true) : fine (putL r) = true := by
  have hp := piece_put (char_scalar h)
  rw [← fine_from _ 0]
  cases hl : putL r with
  | nil => exact absurd hl (putL_ne r)
  | cons c l =>
    rw [hl] at hp
    rw [Utf.from_cons, hp]
    simp only [List.all_cons, h, Bool.true_and, Int.toNat_natCast, List.drop_length, Utf.from_nil, List.all_nil]
theorem scalar_char {s : L} {v : Nat} (h : scalar s = some v) : charOk (v : Int) = true := by
  unfold scalar at h
  have hn : ∀ {v : Nat}, named s = some v → charOk (v : Int) = true := fun {v} h => by
    unfold named at h
    repeat' (split at h)
    all_goals first | (cases h; done) | (simp only [Option.some.injEq] at h; subst h; decide)
  cases hm : number s with
  | none => rw [hm] at h; exact hn h
  | some x =>
    cases x with
    | none => rw [hm] at h; exact hn h
    | some u =>
      rw [hm] at h
      simp only [Option.some.injEq] at h
      subst h
      rw [number_is] at hm
      split at hm
      · cases hv : numVal (digs s).2 0 (digs s).1 with
        | none => rw [hv] at hm; cases hm
        | some y =>
          rw [hv, Option.map_some] at hm
          unfold chk at hm
          by_cases hc : charOk (y : Int) = true
          · rw [if_pos hc] at hm; cases hm; exact hc
          · rw [if_neg hc] at hm; cases hm
      · cases hm
/-- What stands behind a ; is fine, if all is. -/
theorem ends_split : ∀ {r : L} {n : Nat}, Sx.ends r = some n → ∃ a b, r = a ++ 59 :: b ∧ a.length = n
  | [], n, h => by cases h
  | c :: r, n, h => by
    unfold Sx.ends at h
    by_cases h1 : c = 59
    · rw [if_pos h1] at h; cases h; exact ⟨[], r, by rw [h1]; rfl, rfl⟩
    rw [if_neg h1] at h
    by_cases h2 : c = 38 ∨ c = 60
    · rw [if_pos h2] at h; cases h
    rw [if_neg h2] at h
    cases he : Sx.ends r with
    | none => rw [he] at h; cases h
    | some m =>
      rw [he] at h
      simp only [Option.map_some, Option.some.injEq] at h
      obtain ⟨a, b, h3, h4⟩ := ends_split he
      exact ⟨c :: a, b, by rw [h3]; rfl, by rw [List.length_cons, h4, h]⟩
/-- A text up to its first &. -/
theorem amp_split : ∀ l : L, ((38 : UInt8) ∉ l) ∨ ∃ a r, l = a ++ 38 :: r ∧ (38 : UInt8) ∉ a
  | [] => .inl (by simp)
  | c :: l => by
    by_cases h : c = 38
    · exact .inr ⟨[], l, by rw [h]; rfl, by simp⟩
    rcases amp_split l with h1 | ⟨a, r, h1, h2⟩
    · left
      intro hm
      rcases List.mem_cons.1 hm with hm | hm
      · exact h hm.symm
      · exact h1 hm
    · refine .inr ⟨c :: a, r, by rw [h1]; rfl, ?_⟩
      intro hm
      rcases List.mem_cons.1 hm with hm | hm
      · exact h hm.symm
      · exact h2 hm
theorem sref_app : ∀ (a : L) (f k : Nat) (l : L), (38 : UInt8) ∉ a → sref (a.length + f) k (a ++ l) = glueE a (sref f (k + a.length) l)
  | [], f, k, l, _ => by rw [List.length_nil, Nat.zero_add, List.nil_append, Nat.add_zero]; cases sref f k l <;> rfl
  | c :: a, f, k, l, h => by
    rw [List.length_cons, show a.length + 1 + f = (a.length + f) + 1 by omega, List.cons_append, sref_byte (fun e => h (by rw [e]; exact List.mem_cons_self ..)),
      sref_app a f (k + 1) l (fun hm => h (List.mem_cons_of_mem _ hm)), glueE_glue, show k + 1 + a.length = k + (a.length + 1) by omega]
    rfl
theorem sref_plain {l : L} {f k : Nat} (h : (38 : UInt8) ∉ l) (hf : l.length ≤ f) : sref f k l = .ok l := by
  have := sref_app l (f - l.length) k [] h
  rw [List.append_nil, show l.length + (f - l.length) = f by omega, sref_nil] at this
  rw [this]
  simp [glueE]
theorem glue_ok {a out : L} {e : Except Nat L} (h : glueE a e = .ok out) : ∃ o, e = .ok o ∧ out = a ++ o := by
  cases e with
  | error x => cases h
  | ok o => simp only [glueE, Except.ok.injEq] at h; exact ⟨o, rfl, h.symm⟩
/-- A fine text stands for a fine one. -/
theorem sref_fine : ∀ (n : Nat) (l : L) (f k : Nat) (out : L), l.length ≤ n → l.length ≤ f → fine l = true → sref f k l = .ok out → fine out = true := by
  intro n
  induction n with
  | zero =>
    intro l f k out hn _ _ h
    have : l = [] := List.eq_nil_of_length_eq_zero (by omega)
    subst this
    rw [sref_nil] at h
    cases h
    rfl
  | succ n ih =>
    intro l f k out hn hf hl h
    rcases amp_split l with h1 | ⟨a, r, rfl, h1⟩
    · rw [sref_plain h1 hf] at h
      cases h
      exact hl
    · obtain ⟨fa, fr⟩ := fine_split (by decide) hl
      rw [List.length_append, List.length_cons] at hn hf
      have e := sref_app a (f - a.length) k (38 :: r) h1
      rw [show a.length + (f - a.length) = f by omega] at e
      rw [e] at h
      obtain ⟨o1, h2, rfl⟩ := glue_ok h
      obtain ⟨g, hg⟩ : ∃ g, f - a.length = g + 1 := ⟨f - a.length - 1, by omega⟩
      rw [hg] at h2
      cases he : Sx.ends r with
      | none => rw [sref_none he] at h2; cases h2
      | some m =>
        obtain ⟨x, b, hr, hx⟩ := ends_split he
        cases hs : scalar (r.take m) with
        | none => rw [sref_bad he hs] at h2; cases h2
        | some v =>
          rw [sref_ref he hs] at h2
          have hfp := fine_put (scalar_char hs)
          generalize putL (v : Int) = pv at h2 hfp
          obtain ⟨o2, h3, ho⟩ := glue_ok h2
          subst ho
          have hd : r.drop (m + 1) = b := by rw [hr, ← hx]; simp [List.drop_append]
          rw [hd] at h3
          have hlb : b.length + m + 1 = r.length := by rw [hr, List.length_append, List.length_cons]; omega
          rw [hr] at fr
          have fb := (fine_split (by decide) fr).2
          exact fine_both fa (fine_both hfp (ih b _ _ o2 (by omega) (by omega) fb h3))
end Go.Proofs.Ytaickkaoglohgaa
