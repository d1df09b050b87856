/- Plain: no text that is cut off within its root is well-formed; no program in sight. · Strict: the law of a text that is cut off: the walk. -/
import Derived.Test.YtbbpkcddifmieaaGreatDoorSw35
import Derived.Test.YtbbpkcddifmieaaGreatDoorSw39
set_option linter.unusedSimpArgs false
set_option linter.unusedVariables false
namespace Go.Proofs.YtbbpkcddifmieaaGreatDoor
open Tk Sx

/-- Outside the root, behind it: nothing but white space, comments and instructions. -/
theorem run_outside : ∀ {ts : List Tok} {st st' : St}, st.open_ = [] → st.rooted = true → (∀ t ∈ ts, t.kind = 0 ∨ t.kind = 1 ∨ t.kind = 2 ∨ t.kind = 3 ∨ t.kind = 4) → run st ts = .ok st' → ∀ t ∈ ts, Blk0 t
 | [], _, _, _, _, _, _ => fun t ht => by cases ht
 | t :: ts, st, st', ho, hr, hk, hs => by
  simp only [run] at hs
  have key : Sx.step st t = .ok st ∧ Blk0 t ∨ ∃ x, Sx.step st t = .error x := by
   unfold Sx.step
   rcases hk t (List.mem_cons_self ..) with k | k | k | k | k
   ·right
    rw [if_pos k]
    unfold Sx.start Sx.early
    cases names t with
    | some a => exact ⟨_, rfl⟩
    | none =>
     dsimp only
     rw [if_pos (by rw [hr, ho]; rfl)]
     exact ⟨_, rfl⟩
   ·right
    rw [if_neg (by omega), if_pos k]
    unfold Sx.end_
    rw [ho]
    exact ⟨_, rfl⟩
   ·rw [if_neg (by omega), if_neg (by omega), if_pos k]
    unfold Sx.text
    rw [if_pos ho]
    by_cases hb : t.text.all sp = true
    ·rw [if_pos hb]; exact .inl ⟨rfl, .inr ⟨k, hb⟩⟩
    ·rw [if_neg hb]; exact .inr ⟨_, rfl⟩
   ·right
    rw [if_neg (by omega), if_neg (by omega), if_neg (by omega), if_pos k]
    unfold Sx.data
    rw [if_pos ho]
    exact ⟨_, rfl⟩
   ·left
    rw [if_neg (by omega), if_neg (by omega), if_neg (by omega), if_neg (by omega)]
    exact ⟨rfl, .inl k⟩
  rcases key with ⟨h1, h2⟩ | ⟨x, h1⟩
  ·rw [h1] at hs
   intro u hu
   rcases List.mem_cons.1 hu with rfl | hu
   ·exact h2
   ·exact run_outside ho hr (fun v hv => hk v (List.mem_cons_of_mem _ hv)) hs u hu
  ·rw [h1] at hs; cases hs
/-- What a cut text lacks: two dashes, or a question mark. -/
def Mark (y : L) (i : Nat) : Prop := (y[i]? = some 45 ∧ y[i + 1]? = some 45) ∨ y[i]? = some 63
theorem blank_word {at_ : Nat} {w : L} {t : Tok} (h : TokW at_ w t) (hb : Blk0 t) : w.all sp = true ∨ (∃ r, w = 60 :: 33 :: 45 :: 45 :: r) ∨ ∃ r, w = 60 :: 63 :: r := by
 cases h with
 | start => rcases hb with e | ⟨e, _⟩ <;> cases e
 | end_ => rcases hb with e | ⟨e, _⟩ <;> cases e
 | text =>
  rcases hb with e | ⟨_, e⟩
  ·cases e
  ·exact .inl e
 | data => rcases hb with e | ⟨e, _⟩ <;> cases e
 | comment _ c => exact .inr (.inl ⟨_, rfl⟩)
 | decl d => exact .inr (.inr ⟨_, rfl⟩)
 | instr => exact .inr (.inr ⟨_, rfl⟩)
theorem cut_mark {at_ : Nat} {y rest : L} {ts : List Tok} (h : Row at_ y rest ts) : (∀ t ∈ ts, Blk0 t) → ∀ (tx z : L) (p : Nat), y = tx ++ z → tx.all sp = true → y[p]? = some 62 → ∃ i, tx.length ≤ i ∧ i < p ∧ Mark y i := by
 induction h with
 | nil => intro _ tx z p _ _ hp; simp at hp
 | cons at_ w t w2 rest ts hw hf hk hr ih =>
  intro hb tx z p hy htx hp
  by_cases hpw : w.length ≤ p
  ·have hp2 : w2[p - w.length]? = some 62 := by rw [List.getElem?_append_right hpw] at hp; exact hp
   have hb2 : ∀ u ∈ ts, Blk0 u := fun u hu => hb u (List.mem_cons_of_mem _ hu)
   have lift : ∀ i, Mark w2 i → Mark (w ++ w2) (w.length + i) := fun i hm => by
    unfold Mark at hm ⊢
    rw [List.getElem?_append_right (by omega), List.getElem?_append_right (by omega), Nat.add_sub_cancel_left, show w.length + i + 1 - w.length = i + 1 by omega]
    exact hm
   by_cases hl : tx.length ≤ w.length
   ·obtain ⟨i, h1, h2, h3⟩ := ih hb2 [] w2 (p - w.length) rfl rfl hp2
    exact ⟨w.length + i, by omega, by omega, lift i h3⟩
   ·have hd : w2 = tx.drop w.length ++ z := by
     have := congrArg (List.drop w.length) hy
     rw [List.drop_left, List.drop_append_of_le_length (by omega)] at this
     exact this
    obtain ⟨i, h1, h2, h3⟩ := ih hb2 (tx.drop w.length) z (p - w.length) hd (by
     rw [List.all_eq_true] at htx ⊢
     exact fun x hx => htx x (List.mem_of_mem_drop hx)) hp2
    rw [List.length_drop] at h1
    exact ⟨w.length + i, by omega, by omega, lift i h3⟩
  ·have hpw' : p < w.length := by omega
   rw [List.getElem?_append_left hpw'] at hp
   have tx0 : ∀ {q : L}, w = 60 :: q → tx = [] := fun {q} e => by
    cases tx with
    | nil => rfl
    | cons c tx =>
     rw [e, List.cons_append, List.cons_append, List.cons.injEq] at hy
     simp only [List.all_cons, Bool.and_eq_true] at htx
     rw [← hy.1] at htx
     exact absurd htx.1 (by decide)
   rcases blank_word hw (hb t (List.mem_cons_self ..)) with hs | ⟨r, e⟩ | ⟨r, e⟩
   ·exact absurd (List.mem_of_getElem? hp) (all_sp_not hs (by decide))
   ·have := tx0 e
    subst this
    subst e
    refine ⟨2, Nat.zero_le _, ?_, .inl ⟨rfl, rfl⟩⟩
    match p, hp with
    | p + 4, _ => omega
   ·have := tx0 e
    subst this
    subst e
    refine ⟨1, Nat.zero_le _, ?_, .inr rfl⟩
    match p, hp with
    | p + 2, _ => omega
theorem chain_one : ∀ {ts : List Tok} {n a b : Nat}, Chain n ts a → Chain n ts b → a = b
 | [], _, _, _, h, k => h.symm.trans k
 | _ :: _, _, _, _, h, k => chain_one h.2.2 k.2.2
theorem cut_law {s : L} {evs evs' : List Ev} {k p : Nat} (h : Sx.parse s = .ok evs) (h2 : Sx.parse (s.take k) = .ok evs') (hkp : k ≤ p) (hp : s[p]? = some 62) : ∃ i, k ≤ i ∧ i < p ∧ Mark s i := by
 have hpl := (List.getElem?_eq_some_iff.1 hp).1
 have hkl : (s.take k).length = k := by rw [List.length_take]; omega
 obtain ⟨s0, tx, ts0, st, hst, htx, hrow0, hrun0, ho, hro, _⟩ := tail_split h2
 obtain ⟨tsS, stE, hrowS, hrunS, _, _, _⟩ := row_parse h
 have hs : s = s0 ++ (tx ++ s.drop k) := by rw [← List.append_assoc, ← hst, List.take_append_drop]
 obtain ⟨k', _, ht⟩ := toks_of (hrow0 (tx ++ s.drop k)) s.length (by rw [← hs]; exact Nat.le_refl _)
 rw [← hs, (row_end hrowS).1] at ht
 rw [ht] at hrowS hrunS
 obtain ⟨w1, w2, hw, r1, r2⟩ := hrowS.split
 have hl : w1.length = s0.length := by
  have c1 := r1.chain
  have c2 := (hrow0 []).chain
  have := chain_one c1 c2
  omega
 have hw1 : w1 = s0 := by
  have e : (w1 ++ w2).take w1.length = (s0 ++ (tx ++ s.drop k)).take w1.length := by rw [← hw, ← hs]
  rw [List.take_left, hl, List.take_left] at e
  exact e
 have hw2 : w2 = tx ++ s.drop k := by
  have e : (w1 ++ w2).drop w1.length = (s0 ++ (tx ++ s.drop k)).drop w1.length := by rw [← hw, ← hs]
  rw [List.drop_left, hl, List.drop_left] at e
  exact e
 rw [run_app, hrun0] at hrunS
 dsimp only at hrunS
 have hblk := run_outside ho hro (fun t ht => (row_small r2 t ht).kd) hrunS
 have hlk : s0.length + tx.length = k := by rw [← hkl, hst, List.length_append]
 obtain ⟨i, h1, h3, h4⟩ := cut_mark r2 hblk tx (s.drop k) (p - s0.length) hw2 htx (by
  rw [hw2, ← List.getElem?_append_right (l₁ := s0) (by omega), ← hs]
  exact hp)
 refine ⟨s0.length + i, by omega, by omega, ?_⟩
 unfold Mark at h4 ⊢
 rw [hw2] at h4
 have e1 : s[s0.length + i]? = (tx ++ s.drop k)[i]? := by
  conv => lhs; rw [hs]
  rw [List.getElem?_append_right (by omega), Nat.add_sub_cancel_left]
 have e2 : s[s0.length + i + 1]? = (tx ++ s.drop k)[i + 1]? := by
  conv => lhs; rw [hs]
  rw [List.getElem?_append_right (by omega), show s0.length + i + 1 - s0.length = i + 1 by omega]
 rw [e1, e2]
 exact h4
theorem attrsW_gt {off : Nat} {w : L} {as_ : List At} {e : Bool} (h : AttrsW off w as_ e) : (62 : UInt8) ∈ w := by
 induction h with
 | two => simp
 | one => simp
 | more off b nm v x w as_ e hb h0 hn hn0 hv h60 hw ih =>
  exact List.mem_append_right _ (List.mem_append_right _ (List.mem_append_right _ ih))
theorem row_gt {at_ : Nat} {w rest : L} {ts : List Tok} (h : Row at_ w rest ts) : ∀ t ∈ ts, t.kind = 0 → (62 : UInt8) ∈ w := by
 induction h with
 | nil => intro t ht; cases ht
 | cons at_ w t w2 rest ts hw hf hk _ ih =>
  intro u hu hk0
  rcases List.mem_cons.1 hu with rfl | hu
  ·refine List.mem_append_left _ ?_
   cases hw with
   | start _ nm wa as_ e hn h0 ha => exact List.mem_cons_of_mem _ (List.mem_append_right _ (attrsW_gt ha))
   | _ => cases hk0
  ·exact List.mem_append_right _ (ih u hu hk0)
theorem rooted_start : ∀ {ts : List Tok} {st st' : St}, run st ts = .ok st' → st'.rooted = true → st.rooted = true ∨ ∃ t ∈ ts, t.kind = 0
 | [], st, st', h, hr => by simp only [run, Except.ok.injEq] at h; subst h; exact .inl hr
 | t :: ts, st, st', h, hr => by
  simp only [run] at h
  cases hs : Sx.step st t with
  | error x => rw [hs] at h; cases h
  | ok st1 =>
   rw [hs] at h
   by_cases hk : t.kind = 0
   ·exact .inr ⟨t, List.mem_cons_self .., hk⟩
   ·have h1 : st1.rooted = st.rooted := by
     unfold Sx.step at hs
     rw [if_neg hk] at hs
     split at hs
     ·unfold Sx.end_ at hs
      split at hs
      ·cases hs
      ·split at hs
       ·simp only [Except.ok.injEq] at hs; subst hs; exact close_rooted st
       ·cases hs
     split at hs
     ·unfold Sx.text at hs
      split at hs
      ·split at hs
       ·simp only [Except.ok.injEq] at hs; subst hs; rfl
       ·cases hs
      ·split at hs
       ·simp only [Except.ok.injEq] at hs; subst hs; rfl
       ·cases hs
     split at hs
     ·unfold Sx.data at hs
      split at hs
      ·cases hs
      ·simp only [Except.ok.injEq] at hs; subst hs; rfl
     ·simp only [Except.ok.injEq] at hs; subst hs; rfl
    rcases rooted_start h hr with h2 | ⟨u, hu, h2⟩
    ·exact .inl (by rw [← h1]; exact h2)
    ·exact .inr ⟨u, List.mem_cons_of_mem _ hu, h2⟩
/-- A well-formed text has a >. -/
theorem parse_gt {s : L} {evs : List Ev} (h : Sx.parse s = .ok evs) : (62 : UInt8) ∈ s := by
 obtain ⟨ts, st, hrow, hrun, _, hro, _⟩ := row_parse h
 rcases rooted_start hrun hro with e | ⟨t, ht, hk⟩
 ·cases e
 ·exact row_gt hrow t ht hk
end Go.Proofs.YtbbpkcddifmieaaGreatDoor
namespace Go.Proofs.YtbbpkcddifmieaaGreatDoor
open Go.RowKit Tk Sx

theorem parse_code {w w' : World} {r : Except (Nat × Nat) (List Ev)} {e : Ending} (h : ParseR w r e w') (hc : ∀ x, r = .error x → x.2 ≠ 0) :
  ∃ (v10 v11 : Value) (code : Nat), e = .returned (.tuple #[v10, v11, .int .i64 (code : Int)]) ∧ Below w.heap.size w w' ∧ (code = 0 → ∃ evs, r = .ok evs) := by
 obtain ⟨hb, h2⟩ := h
 cases r with
 | error x => exact ⟨_, _, x.2, h2, hb, fun e => absurd e (hc x rfl)⟩
 | ok evs =>
  obtain ⟨xs, A, c, _, he, _⟩ := h2
  exact ⟨_, _, 0, he, hb, fun _ => ⟨evs, rfl⟩⟩
theorem told_ne {s : L} {x : Nat × Nat} (h : Sx.parse s = .error x) : x.2 ≠ 0 := by
 rcases (parse_told h).2 with e | e | e <;> rw [e] <;> decide
theorem mem_at {l : L} {c : UInt8} (h : c ∈ l) : ∃ j : Nat, l[j]? = some c := by
 obtain ⟨j, hj, he⟩ := List.getElem_of_mem h
 exact ⟨j, by rw [List.getElem?_eq_getElem hj, he]⟩
/-- Where a mark stands in the part that is cut off. -/
theorem mark_part {s : L} {j e i : Nat} (h : Mark s i) (h1 : j ≤ i) (h2 : i + 1 < e) : Mark ((s.drop j).take (e - j)) (i - j) := by
 have e1 : ((s.drop j).take (e - j))[i - j]? = s[i]? := by
  rw [List.getElem?_take, if_pos (by omega), List.getElem?_drop, show j + (i - j) = i by omega]
 have e2 : ((s.drop j).take (e - j))[i - j + 1]? = s[i + 1]? := by
  rw [List.getElem?_take, if_pos (by omega), List.getElem?_drop, show j + (i - j + 1) = i + 1 by omega]
 unfold Mark at h ⊢
 rw [e1, e2]
 exact h

set_option maxRecDepth 100000 in
set_option maxHeartbeats 64000000 in
theorem lawCut_any (s : L) (kk : Int) (w : World) (hg : Gl w) (hw6 : 6 ≤ w.heap.size) (hkw : (Lit.int .i64 kk).wf = true) :
  Calls Tryz.prog 6 #[.string (bstr s), .int .i64 kk] w fun e w' => e = .returned (.bool true) ∧ Below w.heap.size w w' := by
 have HWk := hide (fun W (h : Below w.heap.size w W) => wakes15_any W (hg.below h) (Nat.le_trans hw6 h.size))
 obtain ⟨n, hn⟩ : ∃ n, (bstr s).size = n := ⟨_, rfl⟩
 have hnl : n = s.length := by rw [← hn, bstr_size]
 by_cases hbig : 3000 < n
 ·clear hnl
  go_enter Tryz.func6, Tryz.ntmps6
  go_wp2_with fail
  refine (HWk.out _ (Below.refl _ _)).mono ?_
  rintro e w1 ⟨rfl, b1⟩
  go_wp2
  go_ret
  exact ⟨rfl, b1⟩
 have HPa := hide (parse_any (bstr s) w hg hw6 (by rw [bstr_size]; omega))
 have HPb := hide (fun (x : L) W (h : Below w.heap.size w W) (hx : x.length ≤ 10000) => parse_any (bstr x) W (hg.below h) (Nat.le_trans hw6 h.size) (by rw [bstr_size]; omega))
 rw [bstr_list] at HPa
 obtain ⟨r, hr⟩ : ∃ r, Sx.parse s = r := ⟨_, rfl⟩
 rw [hr] at HPa
 cases r with
 | error x =>
  obtain ⟨x1, x2⟩ := x
  have ht := parse_told hr
  obtain ⟨t1, t2⟩ := ht
  dsimp only at t1 t2
  clear HPb hr hg hw6 hnl t1
  rcases t2 with rfl | rfl | rfl
  all_goals
   go_enter Tryz.func6, Tryz.ntmps6
   go_wp2_with fail
   refine HPa.out.mono ?_
   rintro e w1 ⟨b1, rfl⟩
   have B1 := hide b1
   clear b1
   go_wp2_with fail
   refine (HWk.out _ B1.out).mono ?_
   rintro e w2 ⟨rfl, b2⟩
   go_wp2
   go_ret
   exact ⟨rfl, B1.out.trans (b2.mono B1.out.size)⟩
 | ok evs =>
  obtain ⟨j0, hj0⟩ := mem_at (parse_gt hr)
  obtain ⟨-, -, h2⟩ := parse_balance hr
  have HI : Hid (∀ (k : Nat) (c : UInt8), s[k]? = some c → ∀ w, (Instr.index 9 (.string (bstr s)) (.int .i64 (k : Int))).run Tryz.prog w = .ok (.int .u8 (c.toNat : Nat)) w) := hide fun k c h => idx_run (bstr s) k c (by rw [bstr_list]; exact h)
  have HEx := hide (show ∀ a b : Nat, (bstr s).extract a b = bstr ((s.drop a).take (b - a)) from fun a b => by rw [extract_bstr, bstr_list])
  have HCut := hide (fun (k p : Nat) (evs' : List Ev) (h2 : Sx.parse (s.take k) = .ok evs') (hkp : k ≤ p) (hp : s[p]? = some 62) => cut_law hr h2 hkp hp)
  have Hj0 := hide hj0
  have H2 := hide h2
  have Hnl := hide hnl
  clear hr hj0 h2 hnl hg hw6
  go_enter Tryz.func6, Tryz.ntmps6
  go_wp2_with fail
  refine HPa.out.mono ?_
  rintro e w1 ⟨b1, xs, A, c, hx, rfl, hxc, hr, -, -, hi⟩
  have B1 := hide b1
  obtain ⟨N, hN⟩ : ∃ N, xs.length = N := ⟨_, rfl⟩
  rw [hN]
  have hN2 : 2 ≤ N := by have := H2.out; rw [← hx, List.length_map, hN] at this; exact this
  clear b1 hx hr hi hN hxc HPa
  go_wp2
  go_loopg [8] n (fun gk v8 wr => ∃ e : Nat, gk = e ∧ e ≤ n ∧ v8 = .int .i64 (e : Int) ∧ wr = w1 ∧ j0 < e)
  case atStart => exact ⟨n, rfl, Nat.le_refl _, rfl, rfl, by rw [Hnl.out]; exact (List.getElem?_eq_some_iff.1 Hj0.out).1⟩
  case round =>
   obtain ⟨e, hge, he, rfl, rfl, hje⟩ := hrel
   have Hge := hide hge
   have Hje := hide hje
   have he0 : 0 < e := by omega
   obtain ⟨c0, hc0⟩ : ∃ c0, s[e - 1]? = some c0 := ⟨_, List.getElem?_eq_getElem (by rw [← Hnl.out]; omega)⟩
   have hix := HI.out (e - 1) c0 hc0
   have hw1 : IntKind.i64.wrap ((e : Int) - 1) = ((e - 1 : Nat) : Int) := by rw [IntWalk.i64_in _ (by omega)]; omega
   have key : ∀ c d : UInt8, ((c.toNat : Int) != (d.toNat : Int)) = !(c == d) := fun c d => by
    rw [bne]
    congr 1
    rw [Bool.eq_iff_iff, beq_iff_eq, beq_iff_eq]
    exact ⟨fun h => UInt8.toNat_inj.1 (by omega), fun h => by rw [h]⟩
   have e62 : ((c0.toNat : Int) != 62) = !(c0 == 62) := key c0 62
   have Hc0 := hide hc0
   clear hge hje hc0 key
   by_cases hc : c0 = 62
   ·have Hc := hide hc
    rw [show (!(c0 == 62)) = false by rw [hc]; rfl] at e62
    obtain ⟨m, hm, hm1, hm2, j, hj, hje⟩ := mod_in kk he0
    have hwm : IntKind.i64.wrap (m + (e : Int)) = m + (e : Int) := IntWalk.i64_in _ (by omega)
    have hez : ((e : Int) == 0) = false := by rw [beq_eq_false_iff_ne]; omega
    have hexj := HEx.out 0 j
    rw [List.drop_zero, Nat.sub_zero] at hexj
    have hexl := HEx.out j e
    obtain ⟨la, hla⟩ : ∃ la, (s.drop j).take (e - j) = la := ⟨_, rfl⟩
    have hlq : la.length = e - j := by rw [← hla, List.length_take, List.length_drop, ← Hnl.out]; omega
    obtain ⟨q, hq⟩ : ∃ q, e - j = q := ⟨_, rfl⟩
    have HLa := hide hla
    rw [hla] at hexl
    rw [hq] at hlq
    have hlsz : (bstr la).size = q := by rw [bstr_size, hlq]
    have HIl : Hid (∀ (k : Nat) (c : UInt8), la[k]? = some c → ∀ w, (Instr.index 9 (.string (bstr la)) (.int .i64 (k : Int))).run Tryz.prog w = .ok (.int .u8 (c.toNat : Nat)) w) := hide fun k c h => idx_run (bstr la) k c (by rw [bstr_list]; exact h)
    have hpb := HPb.out (s.take j) wr B1.out (by rw [List.length_take, ← Hnl.out]; omega)
    rw [bstr_list] at hpb
    have HPB := hide hpb
    have HMk := hide (fun (evs' : List Ev) (h2 : Sx.parse (s.take j) = .ok evs') => (show ∃ i, i + 1 < q ∧ Mark la i by
     obtain ⟨i, h3, h4, h5⟩ := HCut.out j (e - 1) evs' h2 (by omega) (by rw [Hc0.out, Hc.out])
     exact ⟨i - j, by omega, by rw [← HLa.out]; exact mark_part h5 h3 (by omega)⟩))
    have Hlq := hide hlq
    have hje2 : j ≤ e := by omega
    have hjn : j ≤ n := by omega
    have Hqe := hide hq
    clear hc hla hlq hpb hq
    go_wp2_with fail
    refine HPB.out.mono ?_
    rintro e' w2 hpr
    obtain ⟨v10, v11, code, rfl, b2, hcode⟩ := parse_code hpr (fun x hx => told_ne hx)
    have B2 := hide (B1.out.trans (b2.mono B1.out.size))
    have HCd := hide (fun (h0 : code = 0) => (show ∃ i, i + 1 < q ∧ Mark la i by
     obtain ⟨evs', h⟩ := hcode h0
     exact HMk.out evs' h))
    clear hpr b2 hcode HPB HPb HMk hexj hix e62
    go_wp2
    have hcn : ((code : Int) != 0) = !decide (code = 0) := by
     by_cases h : code = 0
     ·rw [h]; rfl
     ·rw [decide_eq_false h, bne_iff_ne.2 (by omega)]; rfl
    have Hcn := hide hcn
    clear hm hm1 hm2 hj hwm hez hexl hcn
    go_loopg [14] q (fun gk v14 wr => ∃ i : Nat, gk = q - i ∧ i ≤ q ∧ v14 = .int .i64 (i : Int) ∧ wr = w2 ∧ (code = 0 → ∃ i0, i ≤ i0 ∧ i0 + 1 < q ∧ Mark la i0))
    case atStart => exact ⟨0, rfl, Nat.zero_le _, rfl, rfl, fun h0 => by obtain ⟨i, h1, h2⟩ := HCd.out h0; exact ⟨i, Nat.zero_le _, h1, h2⟩⟩
    case round =>
     obtain ⟨i, hgi, hi, rfl, rfl, hmk⟩ := hrel
     have Hgi := hide hgi
     have Hmk := hide hmk
     have hq3 : q ≤ 3000 := by have := Hqe.out; omega
     have hwi : IntKind.i64.wrap ((i : Int) + 1) = (i : Int) + 1 := IntWalk.i64_in _ (by omega)
     clear hgi hmk
     by_cases hlt : i + 1 < q
     ·have hil : i + 1 < la.length := by rw [Hlq.out]; exact hlt
      obtain ⟨x, hx⟩ : ∃ x, la[i]? = some x := ⟨_, List.getElem?_eq_getElem (by omega)⟩
      obtain ⟨y, hy⟩ : ∃ y, la[i + 1]? = some y := ⟨_, List.getElem?_eq_getElem hil⟩
      have hix := HIl.out i x hx
      have hiy := HIl.out (i + 1) y hy
      rw [show ((i + 1 : Nat) : Int) = (i : Int) + 1 by omega] at hiy
      have hlt2 : (i : Int) + 1 < (q : Int) := by omega
      have hiq : i < q := by omega
      have hneg : ¬ ((i : Int) + 1 < 0) := by omega
      have key : ∀ c d : UInt8, ((c.toNat : Int) == (d.toNat : Int)) = (c == d) := fun c d => by
       rw [Bool.eq_iff_iff, beq_iff_eq, beq_iff_eq]
       exact ⟨fun h => UInt8.toNat_inj.1 (by omega), fun h => by rw [h]⟩
      have f1 : ((x.toNat : Int) == 45) = (x == 45) := key x 45
      have f2 : ((x.toNat : Int) == 63) = (x == 63) := key x 63
      have f3 : ((y.toNat : Int) == 45) = (y == 45) := key y 45
      have HX := hide hx
      have HY := hide hy
      clear key hx hy hil
      have next : ¬ Mark la i → (code = 0 → ∃ i0, i + 1 ≤ i0 ∧ i0 + 1 < q ∧ Mark la i0) := fun hn h0 => by
       obtain ⟨i0, h1, h2, h3⟩ := Hmk.out h0
       refine ⟨i0, ?_, h2, h3⟩
       apply Nat.lt_of_le_of_ne h1
       rintro rfl
       exact hn h3
      have Next := hide next
      clear next
      by_cases hx45 : x = 45
      ·rw [show (x == 45) = true by rw [hx45]; rfl] at f1
       rw [show (x == 63) = false by rw [hx45]; rfl] at f2
       by_cases hy45 : y = 45
       ·rw [show (y == 45) = true by rw [hy45]; rfl] at f3
        clear hx45 hy45
        generalize x.toNat = qx at *
        generalize y.toNat = qy at *
        go_wp2_with fail
        refine (HWk.out _ B2.out).mono ?_
        rintro e3 w3 ⟨rfl, b3⟩
        go_wp2
        go_ret
        exact ⟨rfl, B2.out.trans (b3.mono B2.out.size)⟩
       ·rw [show (y == 45) = false by rw [beq_eq_false_iff_ne]; exact hy45] at f3
        have HN := hide (show ¬ Mark la i from fun h => by
         unfold Mark at h
         rw [HX.out, HY.out] at h
         rcases h with ⟨_, h⟩ | h
         ·exact hy45 (Option.some.inj h)
         ·rw [hx45] at h; cases h)
        clear hx45 hy45
        generalize x.toNat = qx at *
        generalize y.toNat = qy at *
        go_wp2
        go_roundg (q - (i + 1))
        case measure => have := Hgi.out; omega
        case rel => exact ⟨i + 1, rfl, by omega, by first | rfl | go_num, rfl, Next.out HN.out⟩
      ·rw [show (x == 45) = false by rw [beq_eq_false_iff_ne]; exact hx45] at f1
       by_cases hx63 : x = 63
       ·rw [show (x == 63) = true by rw [hx63]; rfl] at f2
        clear hx45 hx63
        generalize x.toNat = qx at *
        generalize y.toNat = qy at *
        go_wp2_with fail
        refine (HWk.out _ B2.out).mono ?_
        rintro e3 w3 ⟨rfl, b3⟩
        go_wp2
        go_ret
        exact ⟨rfl, B2.out.trans (b3.mono B2.out.size)⟩
       ·rw [show (x == 63) = false by rw [beq_eq_false_iff_ne]; exact hx63] at f2
        have HN := hide (show ¬ Mark la i from fun h => by
         unfold Mark at h
         rw [HX.out] at h
         rcases h with ⟨h, _⟩ | h
         ·exact hx45 (Option.some.inj h)
         ·exact hx63 (Option.some.inj h))
        clear hx45 hx63
        generalize x.toNat = qx at *
        generalize y.toNat = qy at *
        go_wp2
        go_roundg (q - (i + 1))
        case measure => have := Hgi.out; omega
        case rel => exact ⟨i + 1, rfl, by omega, by first | rfl | go_num, rfl, Next.out HN.out⟩
     ·have hc0 : code ≠ 0 := fun h0 => by
       obtain ⟨i0, h1, h2, _⟩ := Hmk.out h0
       omega
      have hcn := Hcn.out
      rw [decide_eq_false hc0] at hcn
      replace hcn : ((code : Int) != 0) = true := hcn
      have hge : ¬ ((i : Int) + 1 < (q : Int)) := by omega
      clear hc0
      go_wp2_with fail
      refine (HWk.out _ B2.out).mono ?_
      rintro e3 w3 ⟨rfl, b3⟩
      go_wp2
      go_ret
      exact ⟨rfl, B2.out.trans (b3.mono B2.out.size)⟩
   ·rw [show (!(c0 == 62)) = true by rw [show (c0 == 62) = false by rw [beq_eq_false_iff_ne]; exact hc]; rfl] at e62
    go_wp2
    go_roundg (e - 1)
    case measure => have := Hge.out; omega
    case rel =>
     refine ⟨e - 1, rfl, by omega, by first | rfl | go_num, rfl, ?_⟩
     have := Hje.out
     apply Nat.lt_of_le_of_ne (by omega)
     intro h
     rw [h, Hc0.out] at Hj0
     exact hc (Option.some.inj Hj0.out)
end Go.Proofs.YtbbpkcddifmieaaGreatDoor
