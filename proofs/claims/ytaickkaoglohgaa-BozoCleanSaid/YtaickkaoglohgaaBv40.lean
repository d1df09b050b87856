/- Bozo, plain: what is given is few: attributes, events, texts. · Bozo, plain: the values that are given are no longer than twelve times the text. · Bozo: the law that what is given balances: the walk. · Bozo: the law BozoClean, the walk. -/
import Derived.Test.YtaickkaoglohgaaBv09
import Derived.Test.YtaickkaoglohgaaBv19
import Derived.Test.YtaickkaoglohgaaBv20
import Derived.Test.YtaickkaoglohgaaBv36
set_option linter.unusedSimpArgs false
set_option linter.unusedVariables false
namespace Go.Proofs.Ytaickkaoglohgaa
open Go Tk Sx
namespace Bz
theorem fewB_closeN (a : Nat) : ∀ (n : Nat) (p : Bs), Few p.st.evs → Few (closeN a n p).st.evs
  | 0, _, h => h
  | n + 1, p, h => by
    rw [closeN]
    exact fewB_closeN a n _ (few_close (st := p.st) h)
theorem fewB_end {n : Nat} {p : Bs} (h : Few p.st.evs) : Few (endB n p).st.evs := by
  have hc := (endCut_st n p).1
  unfold endB
  split
  · show Few (endCut n p).st.evs
    rw [hc]; exact h
  · rename_i k _
    exact few_close (st := (closeN p.at_ ((endCut n p).st.open_.length - (k + 1)) (endCut n p)).st) (fewB_closeN _ _ _ (by rw [hc]; exact h))
theorem fewB_begun {wr : L} {a sc : Nat} {l : List At} {empty : Bool} {p : Bs} (h : Few p.st.evs) (hl : l.length ≤ 16) : Few (begun wr a sc l empty p).st.evs := by
  obtain ⟨o1, _, o3, _⟩ := once_st l [] p
  unfold begun
  dsimp only
  generalize once [] l p = o at *
  have e3 : ({ o.2 with st := ⟨o.2.st.open_, declaredB o.2.st.scope o.1, o.2.st.evs, o.2.st.rooted⟩ } : Bs).st.evs = p.st.evs := by show o.2.st.evs = _; rw [o1]
  generalize ({ o.2 with st := ⟨o.2.st.open_, declaredB o.2.st.scope o.1, o.2.st.evs, o.2.st.rooted⟩ } : Bs) = p3 at *
  have n1 := (name_st wr false a p3).1
  generalize name wr false a p3 = nm at *
  obtain ⟨a1, _, a3, _⟩ := attrs_st o.1 [] nm.2
  generalize attrsB [] o.1 nm.2 = x at *
  have ex : x.2.st.evs = p.st.evs := by rw [a1, n1, e3]
  have hf : Few (putEv x.2.st.evs ⟨0, nm.1, x.1, []⟩) := few_put (by rw [ex]; exact h) (by show x.1.length ≤ 16; omega)
  split
  · exact few_close (st := ⟨x.2.st.open_ ++ [⟨wr, nm.1, sc⟩], x.2.st.scope, putEv x.2.st.evs ⟨0, nm.1, x.1, []⟩, true⟩) hf
  · exact hf
theorem fewB_start {n : Nat} {p : Bs} (h : Few p.st.evs) : Few (startB n p).st.evs := by
  have ht := tag_st p.at_ ((cutB n (cutB 1 p)).l.length + 1) [] (cutB n (cutB 1 p))
  unfold startB
  dsimp only
  generalize tag p.at_ ((cutB n (cutB 1 p)).l.length + 1) [] (cutB n (cutB 1 p)) = t at *
  have e : t.2.2.st = p.st := ht
  split
  · show Few t.2.2.st.evs
    rw [e]; exact h
  split
  · show Few t.2.2.st.evs
    rw [e]; exact h
  · exact fewB_begun (by rw [e]; exact h) (by omega)
theorem fewB_says {s : L} {a : Nat} {how : L → Nat → Bs → L × Bs} {p : Bs} (h : Few p.st.evs) (h1 : (how s a p).2.st = p.st) : Few (says s a how p).st.evs := by
  unfold says
  split
  · show Few (putEv (how s a p).2.st.evs (textEv (how s a p).1))
    rw [h1]
    exact few_put h (by simp [textEv])
  split
  · exact h
  · exact h
theorem fewB_piece {p : Bs} (h : Few p.st.evs) : Few (piece p).st.evs := by
  unfold piece
  split
  · exact fewB_says h rfl
  split
  · rw [skip_st]; exact h
  split
  · rw [skip_st]; exact h
  split
  · exact fewB_says (by rw [skip_st]; exact h) rfl
  split
  · rw [skip_st]; exact h
  split
  · exact fewB_end h
  split
  · exact fewB_start h
  · exact fewB_says h rfl
theorem fewB_go : ∀ (f : Nat) (p : Bs), Few p.st.evs → Few (go f p).st.evs
  | 0, _, h => h
  | f + 1, p, h => by
    rw [go]
    split
    · exact fewB_go f _ (fewB_piece h)
    · exact h
theorem okB_go {N : Nat} : ∀ (f : Nat) (p : Bs), OkB N p → OkB N (go f p)
  | 0, _, h => h
  | f + 1, p, h => by
    rw [go]
    split
    · rename_i hc
      exact okB_go f _ (okB_piece h hc.1).1
    · exact h
/-- What is given is few. -/
theorem parse_fewB {s : L} {evs : List Ev} {rs : List Rsn} (h : parse s = .ok (evs, rs)) : Few evs ∧ evs.length ≤ 40 * s.length + 16 ∧ ∀ e ∈ evs, e.text.length ≤ 12 * s.length := by
  have hf := fewB_go (s.length + 1) (b0 s) (fun e he => by cases he)
  have ho := okB_go (s.length + 1) (b0 s) (okB0 s)
  unfold parse fin at h
  generalize go (s.length + 1) (b0 s) = p at *
  split at h
  · cases h
  split at h
  · cases h
  dsimp only at h
  have eq : (if p.st.open_ = [] then behind (p.l.length + 1) p else p).st = p.st := by
    split
    · exact (behind_st _ _).1
    · rfl
  generalize (if p.st.open_ = [] then behind (p.l.length + 1) p else p) = q at *
  have hq := fewB_closeN s.length q.st.open_.length q (by rw [eq]; exact hf)
  obtain ⟨_, _, _, c4, _⟩ := closeN_len s.length q.st.open_.length q
  have hk := c4 _ _ (by rw [eq]; exact ho.ok)
  have hop := ho.ok.op
  rw [← eq] at hop
  have hat := ho.at_
  generalize closeN s.length q.st.open_.length q = r at *
  simp only [Except.ok.injEq, Prod.mk.injEq] at h
  obtain ⟨rfl, rfl⟩ := h
  refine ⟨hq, Nat.le_trans hk.ev (by omega), fun e he => Nat.le_trans (hk.tx e he) (by omega)⟩
end Bz
end Go.Proofs.Ytaickkaoglohgaa
namespace Go.Proofs.Ytaickkaoglohgaa
open Go Tk Sx
namespace Bz
def SmE (N : Nat) (l : List Ev) : Prop := ∀ e ∈ l, ∀ a ∈ e.attrs, a.val.length ≤ 12 * N
theorem smE_put {N : Nat} {l : List Ev} {x : Ev} (h : SmE N l) (hx : ∀ a ∈ x.attrs, a.val.length ≤ 12 * N) : SmE N (putEv l x) := by
  have h2 : SmE N (l ++ [x]) := fun e he => by
    rcases List.mem_append.1 he with he | he
    · exact h e he
    · rw [List.mem_singleton.1 he]; exact hx
  unfold putEv
  split
  · exact h2
  split
  · rename_i y hy
    split
    · intro e he
      rcases List.mem_append.1 he with he | he
      · exact h e (List.dropLast_subset _ he)
      · rw [List.mem_singleton.1 he]
        exact h y (List.mem_of_getLast? hy)
    · split
      · exact h
      · exact h2
  · split
    · exact h
    · exact h2
theorem smE_close {N : Nat} {st : St} (h : SmE N st.evs) : SmE N (closeSt st).evs := by
  unfold closeSt
  split
  · exact h
  · rename_i x _
    exact smE_put (x := ⟨1, x.name, [], []⟩) h (fun a ha => by cases ha)
theorem smE_closeN {N : Nat} (a : Nat) : ∀ (n : Nat) (p : Bs), SmE N p.st.evs → SmE N (closeN a n p).st.evs
  | 0, _, h => h
  | n + 1, p, h => by
    rw [closeN]
    exact smE_closeN a n _ (smE_close (st := p.st) h)
theorem smE_end {N n : Nat} {p : Bs} (h : SmE N p.st.evs) : SmE N (endB n p).st.evs := by
  have hc := (endCut_st n p).1
  unfold endB
  split
  · show SmE N (endCut n p).st.evs
    rw [hc]; exact h
  · rename_i k _
    exact smE_close (st := (closeN p.at_ ((endCut n p).st.open_.length - (k + 1)) (endCut n p)).st) (smE_closeN _ _ _ (by rw [hc]; exact h))
theorem smE_begun {N : Nat} {wr : L} {a sc : Nat} {l : List At} {empty : Bool} {p : Bs} (h : SmE N p.st.evs) (hl : ∀ x ∈ l, x.value.length ≤ 12 * N) : SmE N (begun wr a sc l empty p).st.evs := by
  obtain ⟨o1, _, _, o4⟩ := once_st l [] p
  unfold begun
  dsimp only
  generalize once [] l p = o at *
  have e3 : ({ o.2 with st := ⟨o.2.st.open_, declaredB o.2.st.scope o.1, o.2.st.evs, o.2.st.rooted⟩ } : Bs).st.evs = p.st.evs := by show o.2.st.evs = _; rw [o1]
  generalize ({ o.2 with st := ⟨o.2.st.open_, declaredB o.2.st.scope o.1, o.2.st.evs, o.2.st.rooted⟩ } : Bs) = p3 at *
  have n1 := (name_st wr false a p3).1
  generalize name wr false a p3 = nm at *
  obtain ⟨a1, _, _, a4⟩ := attrs_st o.1 [] nm.2
  generalize attrsB [] o.1 nm.2 = x at *
  have ex : x.2.st.evs = p.st.evs := by rw [a1, n1, e3]
  have hf : SmE N (putEv x.2.st.evs ⟨0, nm.1, x.1, []⟩) := smE_put (by rw [ex]; exact h) fun b hb => by
    obtain ⟨y, hy, e⟩ := a4 b hb
    rw [e]
    exact hl y (o4 y hy)
  split
  · exact smE_close (st := ⟨x.2.st.open_ ++ [⟨wr, nm.1, sc⟩], x.2.st.scope, putEv x.2.st.evs ⟨0, nm.1, x.1, []⟩, true⟩) hf
  · exact hf
theorem smE_start {N n : Nat} {p : Bs} (h : SmE N p.st.evs) (hl : p.l.length ≤ N) : SmE N (startB n p).st.evs := by
  have ht := tag_st p.at_ ((cutB n (cutB 1 p)).l.length + 1) [] (cutB n (cutB 1 p))
  obtain ⟨_, _, hv, _⟩ := len_tag p.at_ ((cutB n (cutB 1 p)).l.length + 1) [] (cutB n (cutB 1 p))
  have hll : (cutB n (cutB 1 p)).l.length ≤ N := by
    show ((p.l.drop 1).drop n).length ≤ N
    rw [List.length_drop, List.length_drop]; omega
  unfold startB
  dsimp only
  generalize tag p.at_ ((cutB n (cutB 1 p)).l.length + 1) [] (cutB n (cutB 1 p)) = t at *
  have e : t.2.2.st = p.st := ht
  split
  · show SmE N t.2.2.st.evs
    rw [e]; exact h
  split
  · show SmE N t.2.2.st.evs
    rw [e]; exact h
  · refine smE_begun (by rw [e]; exact h) fun x hx => ?_
    rcases hv x hx with h' | h'
    · cases h'
    · omega
theorem smE_says {N : Nat} {s : L} {a : Nat} {how : L → Nat → Bs → L × Bs} {p : Bs} (h : SmE N p.st.evs) (h1 : (how s a p).2.st = p.st) : SmE N (says s a how p).st.evs := by
  unfold says
  split
  · show SmE N (putEv (how s a p).2.st.evs (textEv (how s a p).1))
    rw [h1]
    exact smE_put h (fun a ha => by cases ha)
  split
  · exact h
  · exact h
theorem smE_piece {N : Nat} {p : Bs} (h : SmE N p.st.evs) (hl : p.l.length ≤ N) : SmE N (piece p).st.evs := by
  unfold piece
  split
  · exact smE_says h rfl
  split
  · rw [skip_st]; exact h
  split
  · rw [skip_st]; exact h
  split
  · exact smE_says (by rw [skip_st]; exact h) rfl
  split
  · rw [skip_st]; exact h
  split
  · exact smE_end h
  split
  · exact smE_start h hl
  · exact smE_says h rfl
theorem smE_go {N : Nat} : ∀ (f : Nat) (p : Bs), OkB N p → SmE N p.st.evs → SmE N (go f p).st.evs
  | 0, _, _, h => h
  | f + 1, p, ho, h => by
    rw [go]
    split
    · rename_i hc
      exact smE_go f _ (okB_piece ho hc.1).1 (smE_piece h (by have := ho.at_; omega))
    · exact h
/-- What is given has short values. -/
theorem parse_smE {s : L} {evs : List Ev} {rs : List Rsn} (h : parse s = .ok (evs, rs)) : SmE s.length evs := by
  have hf := smE_go (s.length + 1) (b0 s) (okB0 s) (fun e he => by cases he)
  unfold parse fin at h
  generalize go (s.length + 1) (b0 s) = p at *
  split at h
  · cases h
  split at h
  · cases h
  dsimp only at h
  have eq : (if p.st.open_ = [] then behind (p.l.length + 1) p else p).st = p.st := by
    split
    · exact (behind_st _ _).1
    · rfl
  generalize (if p.st.open_ = [] then behind (p.l.length + 1) p else p) = q at *
  have hq := smE_closeN (N := s.length) s.length q.st.open_.length q (by rw [eq]; exact hf)
  generalize closeN s.length q.st.open_.length q = r at *
  simp only [Except.ok.injEq, Prod.mk.injEq] at h
  obtain ⟨rfl, rfl⟩ := h
  exact hq
end Bz
end Go.Proofs.Ytaickkaoglohgaa
namespace Go.Proofs.Ytaickkaoglohgaa
open Go.RowKit Tk Sx

theorem own_belowB {w w' : World} {B e size n : Nat} {v : Value} {xs : List Value} (h : w.ownsRow B e size v n xs) (hb : Below w.heap.size w w') : w'.ownsRow B e size v n xs := by
  refine ⟨h.1, ?_⟩
  rcases h.2 with hn | ⟨g, cap, cur, rfl, hg, hgg, rest⟩
  · exact .inl hn
  · exact .inr ⟨g, cap, cur, rfl, hg, by rw [hb.block g (Array.getElem?_eq_some_iff.1 hgg).1]; exact hgg, rest⟩
def nmCells (n : Nm) : List Value := [.string (bstr n.ns), .string (bstr n.loc)]
def nms (l : List Nm) : List Value := l.flatMap nmCells
theorem nm_len (n : Nm) : (nmCells n).length = 2 := rfl
theorem nm_one (n : Nm) : ∀ u ∈ nmCells n, u.oneCell' = true := by
  intro u hu
  simp only [nmCells, List.mem_cons, List.not_mem_nil, or_false] at hu
  rcases hu with rfl | rfl <;> rfl
theorem nms_snoc (l : List Nm) (n : Nm) : nms (l ++ [n]) = nms l ++ nmCells n := by simp [nms]
theorem info_nm : (Try.prog.info? 36).map (fun i => (i.zero, i.size, i.bytes)) = some (some (.agg #[.string ⟨#[]⟩, .string ⟨#[]⟩]), 2, 32) := by kernel_rfl
theorem own_below9 {B e size n : Nat} {v : Value} {xs : List Value} {w w' : World} {o : Obj} (h : w.ownsRow B e size v n xs) (hg : (w.alloc o).grownBy w' v.ownBlock) (hB : B ≤ w.heap.size) : Below B w w' := by
  have h1 : Below B w (w.alloc o) := (below_alloc w o).mono hB
  refine ⟨hg.os.trans h1.os, hg.tape.trans h1.tape, hg.output.trans h1.output, Nat.le_trans h1.size hg.size, fun k hk => ?_⟩
  have := h1.size
  exact (hg.block k (by omega) fun e => by have := (h.lt k e.symm).1; omega).trans (h1.block k hk)
theorem opn_le : ∀ (l : List Ev) (o : List Nm), (opn o l).length ≤ o.length + l.length
  | [], o => by simp [opn]
  | e :: l, o => by
    have := opn_le l (opnS o e)
    have h2 : (opnS o e).length ≤ o.length + 1 := by
      unfold opnS
      split
      · simp
      · split
        · rw [List.length_dropLast]; omega
        · omega
    rw [opn, List.length_cons]
    omega
theorem opnS_at {evs : List Ev} {k : Nat} {e : Ev} (h : evs[k]? = some e) : opn [] (evs.take (k + 1)) = opnS (opn [] (evs.take k)) e := by
  rw [List.take_add_one, h]
  exact opn_snoc _ _ _


set_option maxRecDepth 100000 in
set_option maxHeartbeats 64000000 in
theorem lawBBalance_any (s : L) (w : World) (hg : Gm w) :
    Calls Try.prog 4 #[.string (bstr s)] w fun e w' => e = .returned (.bool true) ∧ Below w.heap.size w w' := by
  have HWk := hide (fun W (h : Below w.heap.size w W) => wakes17_any W (hg.below h))
  obtain ⟨n, hn⟩ : ∃ n, (bstr s).size = n := ⟨_, rfl⟩
  have hnl : n = s.length := by rw [← hn, bstr_size]
  by_cases hbig : 3000 < n
  · clear hnl
    go_enter Try.func4, Try.ntmps4
    go_wp2_with fail
    refine (HWk.out _ (Below.refl _ _)).mono ?_
    rintro e w1 ⟨rfl, b1⟩
    go_wp2
    go_ret
    exact ⟨rfl, b1⟩
  have HPa := hide (bparse_any s w hg (by omega))
  obtain ⟨r, hr⟩ : ∃ r, Bz.parse s = r := ⟨_, rfl⟩
  rw [hr] at HPa
  cases r with
  | error x =>
    have ht := Bz.parse_errs hr
    clear hr hg hnl
    rcases ht with rfl | rfl | rfl
    all_goals
      go_enter Try.func4, Try.ntmps4
      go_wp2_with fail
      refine HPa.out.mono ?_
      rintro e w1 ⟨b1, rfl⟩
      have B1 := hide b1
      clear b1
      go_wp2_with fail
      refine (HWk.out _ B1.out).mono ?_
      rintro e w2 ⟨rfl, b2⟩
      go_wp2
      go_ret
      exact ⟨rfl, B1.out.trans (b2.mono B1.out.size)⟩
  | ok y =>
    obtain ⟨evs, rs⟩ := y
    obtain ⟨hbal, hop, h2, hfe, hr8⟩ := Bz.parse_balance hr
    obtain ⟨_, hle, htx⟩ := Bz.parse_fewB hr
    have hsm := Bz.parse_smE hr
    have hle2 : evs.length ≤ 130000 := by omega
    have Hle := hide hle2
    have HBal := hide hbal
    have Hop := hide hop
    have H2 := hide h2
    have Htx := hide (show ∀ e ∈ evs, e.text.length ≤ 36000 from fun e he => by have := htx e he; omega)
    have Hvl := hide (show ∀ e ∈ evs, ∀ a ∈ e.attrs, fine a.val = true ∧ a.val.length ≤ 36000 from fun e he a ha => ⟨hfe e he a ha, by have := hsm e he a ha; omega⟩)
    have Hfw := hide (show ∀ e ∈ evs, e.attrs.length ≤ 16 from ‹Few evs›)
    obtain ⟨nr, hnr⟩ : ∃ nr, rs.length = nr := ⟨_, rfl⟩
    rw [hnr] at hr8
    have Hnr := hide hnr
    clear hr hg hnl hbal hop h2 htx hle hle2 hfe hsm hnr
    rename_i hfew
    clear hfew
    go_enter Try.func4, Try.ntmps4
    go_wp2_with fail
    refine HPa.out.mono ?_
    rintro e w1 ⟨b1, xs, A, c, Ar, cr, hx, rfl, hxc, hrc, hr, -, -, hi, -⟩
    have B1 := hide b1
    have HE := hide (EvL.of hr hi)
    obtain ⟨N, hN⟩ : ∃ N, xs.length = N := ⟨_, rfl⟩
    have HN := hide hN
    have Hx := hide hx
    have hN2 : 2 ≤ N := by have := H2.out; rw [← hx, List.length_map, hN] at this; exact this
    have hN9 : N ≤ 130000 := by have := Hle.out; rw [← hx, List.length_map, hN] at this; exact this
    rw [Hnr.out] at hrc ⊢
    rw [hN] at hxc ⊢
    have Hxc := hide hxc
    clear b1 hr hi hN hx hxc HPa hrc
    go_wp2
    obtain ⟨Z, hZ⟩ : ∃ Z, w1.heap.size = Z := ⟨_, rfl⟩
    have HZ := hide hZ
    have HZw := hide (show w.heap.size ≤ Z by rw [← hZ]; exact B1.out.size)
    rw [hZ] at HE
    clear hZ
    go_loopg [48, 6] N (fun gk vk vo wr => ∃ (k : Nat) (A2 : Option Addr) (c2 : Nat), gk = N - k ∧ k ≤ N ∧ vk = .int .i64 (k : Int) ∧ vo = .slice A2 (opn [] (evs.take k)).length c2 ∧
      wr.ownsRow Z 36 2 (.slice A2 (opn [] (evs.take k)).length c2) (opn [] (evs.take k)).length (nms (opn [] (evs.take k))) ∧ Below Z w1 wr)
    case atStart => exact ⟨0, none, 0, rfl, by omega, rfl, rfl, World.ownsRow_nil _ _ _ _, by exact Below.refl _ _⟩
    case round =>
      obtain ⟨k, A2, c2, hgk, hk, rfl, rfl, ho, hb⟩ := hrel
      have Hg := hide hgk
      have HB := hide hb
      have hZr : Z ≤ wr.heap.size := by rw [← HZ.out]; exact hb.size
      have HZr := hide hZr
      have HBw := hide (B1.out.trans (hb.mono HZw.out))
      by_cases hlt : k < N
      · obtain ⟨x, hx⟩ : ∃ x, xs[k]? = some x := ⟨_, List.getElem?_eq_getElem (by rw [HN.out]; exact hlt)⟩
        have hek : evs[k]? = some x.e := by rw [← Hx.out, List.getElem?_map, hx]; rfl
        have hem := List.mem_of_getElem? hek
        have HGd := hide (HBal.out k x.e hek)
        have hnx := opnS_at hek
        have HTx := hide (Htx.out x.e hem)
        have HVl := hide (Hvl.out x.e hem)
        have hna16 := Hfw.out x.e hem
        have HSub := hide ((HE.out.sub x (List.mem_of_getElem? hx)).below HB.out)
        obtain ⟨op, hop⟩ : ∃ op, opn [] (evs.take k) = op := ⟨_, rfl⟩
        rw [hop] at HGd hnx ho ⊢
        obtain ⟨b, off, rfl, hbl, hat⟩ := HE.out.at_ hx
        have y0 := (HB.out.cell (p := ⟨b, off + k * 5, none⟩) hbl).trans hat.c0
        have y1 := (HB.out.cell (p := ⟨b, off + k * 5 + 1, none⟩) hbl).trans hat.c1
        have y2 := (HB.out.cell (p := ⟨b, off + k * 5 + 2, none⟩) hbl).trans hat.c2
        have y3 := (HB.out.cell (p := ⟨b, off + k * 5 + 3, none⟩) hbl).trans hat.c3
        have y4 := (HB.out.cell (p := ⟨b, off + k * 5 + 4, none⟩) hbl).trans hat.c4
        have HO := hide ho
        have HNx := hide hnx
        have HOp := hide hop
        have HXk := hide hx
        have hbw : b < wr.heap.size := Nat.lt_of_lt_of_le hbl hZr
        clear hgk hb hat hek hnx hop ho hx hem hbl
        obtain ⟨m, hm⟩ : ∃ m, op.length = m := ⟨_, rfl⟩
        have Hm := hide hm
        rw [hm] at HO ⊢
        have hmk9 : m ≤ 130000 := by
          have h1 := opn_le (evs.take k) []
          rw [HOp.out, hm, List.length_take] at h1
          simp at h1
          omega
        clear hm
        obtain ⟨as_, has⟩ : ∃ as_, x.e.attrs = as_ := ⟨_, rfl⟩
        rw [has] at y3 hna16 HVl HSub
        obtain ⟨na, hna⟩ : ∃ na, as_.length = na := ⟨_, rfl⟩
        rw [hna] at y3 hna16 HSub
        have Hna := hide hna
        have Has := hide has
        obtain ⟨kd, hkd⟩ : ∃ kd, x.e.kind = kd := ⟨_, rfl⟩
        have Hkd := hide hkd
        rw [hkd] at y0
        obtain ⟨s1, hs1⟩ : ∃ q, bstr x.e.name.ns = q := ⟨_, rfl⟩
        obtain ⟨s2, hs2⟩ : ∃ q, bstr x.e.name.loc = q := ⟨_, rfl⟩
        obtain ⟨s4, hs4⟩ : ∃ q, bstr x.e.text = q := ⟨_, rfl⟩
        rw [hs1] at y1
        rw [hs2] at y2
        rw [hs4] at y4
        have Hs1 := hide hs1
        have Hs2 := hide hs2
        have Hs4 := hide hs4
        clear hna has hkd hs1 hs2 hs4
        generalize x.A = xA at *
        generalize x.c = xc at *
        go_wp2
        generalize hE : (Obj.cells #[.int .i8 (kd : Int), .string s1, .string s2, .slice xA na xc, .string s4] 39) = E
        have HEo := hide hE
        clear hE
        rename World => wo
        go_loopg [56] na (fun gk2 vj wq => ∃ j : Nat, gk2 = na - j ∧ j ≤ na ∧ vj = .int .i64 (j : Int) ∧ Below (wo.heap.size + 1) (wo.alloc E) wq)
        case atStart => exact ⟨0, rfl, by omega, rfl, .refl _ _⟩
        case round =>
          obtain ⟨j, hgk2, hj, rfl, hb2⟩ := hrel
          have Hg2 := hide hgk2
          have Hb2 := hide hb2
          have hqs : wo.heap.size + 1 ≤ wr.heap.size := by have := hb2.size; rwa [World.size_alloc] at this
          have HQ := hide (show Below wo.heap.size wo wr from (below_alloc wo E).trans (hb2.mono (Nat.le_succ _)))
          clear hgk2 hb2
          by_cases hlj : j < na
          · obtain ⟨a, ha⟩ : ∃ a, as_[j]? = some a := ⟨_, List.getElem?_eq_getElem (by rw [Hna.out]; exact hlj)⟩
            obtain ⟨hva, hvl⟩ := HVl.out a (List.mem_of_getElem? ha)
            have r1 := HSub.out.below (HQ.out.mono HZr.out)
            rw [← Hna.out] at r1
            obtain ⟨ab, ao, rfl, _, ta⟩ := atts_at r1 ha
            obtain ⟨u0, u1, u2⟩ := ta
            have HBd := hide (fun W => refBad_any (bstr a.val) W (by rw [bstr_size]; omega))
            rw [bstr_list] at HBd
            have hbd := bad_fine a.val
            rw [hva] at hbd
            generalize bad a.val = bd at *
            generalize bstr a.name.ns = t1 at *
            generalize bstr a.name.loc = t2 at *
            generalize bstr a.val = t3 at *
            clear ha r1 hva hvl
            go_wp2_with fail
            refine (HBd.out _).mono ?_
            rintro e w2 ⟨rfl, hw2⟩
            subst w2
            go_wp2
            go_roundg (na - (j + 1))
            case measure => have := Hg2.out; omega
            case rel => exact ⟨j + 1, rfl, by omega, by first | rfl | go_num, Hb2.out.trans ((below_alloc _ _).mono hqs)⟩
          · have hjn : j = na := by omega
            subst hjn
            clear hlj
            have HO2 := hide (own_belowB HO.out HQ.out)
            have HB2 := hide (HB.out.trans (HQ.out.mono HZr.out))
            have HZr2 := hide (Nat.le_trans HZr.out HQ.out.size)
            have heE := HEo.out
            subst heE
            have hbk := (Blk.new wo 39 #[.int .i8 (kd : Int), .string s1, .string s2, .slice xA j xc, .string s4]).below Hb2.out (Nat.lt_succ_self _)
            have z0 : wr.cell? ⟨wo.heap.size, 0, none⟩ = some (.int .i8 (kd : Int)) := hbk.cell 0
            have z1 : wr.cell? ⟨wo.heap.size, 1, none⟩ = some (.string s1) := hbk.cell 1
            have z2 : wr.cell? ⟨wo.heap.size, 2, none⟩ = some (.string s2) := hbk.cell 2
            have z3 : wr.cell? ⟨wo.heap.size, 3, none⟩ = some (.slice xA j xc) := hbk.cell 3
            have z4 : wr.cell? ⟨wo.heap.size, 4, none⟩ = some (.string s4) := hbk.cell 4
            have hg := HGd.out
            clear hbk y0 y1 y2 y3 y4
            rcases hg with ⟨h1, h2, h3, h4, h5⟩ | ⟨h1, h2⟩ | ⟨h1, h2, h3, h4, p, h5, h6⟩
            · rw [Hkd.out] at h1
              subst h1
              have q1 : (s2.toList == ([] : L)) = false := by rw [← Hs2.out, show ((bstr x.e.name.loc).toList == ([] : L)) = decide (x.e.name.loc = []) from lit_eq (bstr x.e.name.loc) []]; exact decide_eq_false h5
              have q2 : s2.toList.isEmpty = false := by rw [← Hs2.out, isE]; exact decide_eq_false h5
              have m1 : ¬ 16 ≤ m := by have := Hm.out; omega
              have m2 : ¬ 16 < j := by omega
              have HR1 := hide (show opn [] (evs.take (k + 1)) = op ++ [x.e.name] by rw [HNx.out]; unfold opnS; rw [if_pos Hkd.out])
              have hmk : m = 0 → k = 0 := fun e => h2 (List.eq_nil_of_length_eq_zero (by rw [Hm.out]; exact e))
              have HC := hide (show nmCells x.e.name = [.string s1, .string s2] by rw [← Hs1.out, ← Hs2.out]; rfl)
              have hn1 : ∀ u ∈ [Value.string s1, Value.string s2], u.oneCell' = true := by rw [← HC.out]; exact nm_one _
              have HN1 := hide hn1
              clear h2 h3 h4 h5 hn1
              by_cases hm0 : m = 0
              · have hk0 : k = 0 := hmk hm0
                have m3 : ((m : Int) == 0) = true := by rw [beq_iff_eq]; omega
                have k3 : ¬ 0 < k := by omega
                clear hm0 hk0
                clear hmk
                go_wp2_with (at_builtin; go_loud (refine wpList_append_elem_at (wr.alloc (.cells #[.string s1, .string s2] 36)) rfl (.tmp 116) (.tmp 119) 33 rfl Z 36 _ 2 32 Try.underlying33 info_nm rfl (by omega) (.slice A2 m c2) m (nms op) rfl (HO2.out.alloc _) [.string s1, .string s2] rfl HN1.out wr.heap.size (Blk.new _ _ _) rfl (by unfold maxLen; omega) (by omega) (by have := HZr2.out; simp; omega) ?_); intro g8 cap8 w8 hown8 hgrow8 hlt8; have HO8 := hide hown8; have HG8 := hide hgrow8; clear hown8 hgrow8 hlt8)
                go_roundg (N - (k + 1))
                case measure => have := Hg.out; omega
                case rel =>
                  have e2 : (opn [] (evs.take (k + 1))).length = m + 1 := by rw [HR1.out, List.length_append, Hm.out]; rfl
                  exact ⟨k + 1, _, _, rfl, by omega, by first | rfl | go_num, by rw [e2], by rw [e2, HR1.out, nms_snoc, HC.out]; exact HO8.out, HB2.out.trans (own_below9 HO2.out HG8.out HZr2.out)⟩
              · have m3 : ((m : Int) == 0) = false := by rw [beq_eq_false_iff_ne]; omega
                clear hmk
                go_wp2_with (at_builtin; go_loud (refine wpList_append_elem_at (wr.alloc (.cells #[.string s1, .string s2] 36)) rfl (.tmp 116) (.tmp 119) 33 rfl Z 36 _ 2 32 Try.underlying33 info_nm rfl (by omega) (.slice A2 m c2) m (nms op) rfl (HO2.out.alloc _) [.string s1, .string s2] rfl HN1.out wr.heap.size (Blk.new _ _ _) rfl (by unfold maxLen; omega) (by omega) (by have := HZr2.out; simp; omega) ?_); intro g8 cap8 w8 hown8 hgrow8 hlt8; have HO8 := hide hown8; have HG8 := hide hgrow8; clear hown8 hgrow8 hlt8)
                go_roundg (N - (k + 1))
                case measure => have := Hg.out; omega
                case rel =>
                  have e2 : (opn [] (evs.take (k + 1))).length = m + 1 := by rw [HR1.out, List.length_append, Hm.out]; rfl
                  exact ⟨k + 1, _, _, rfl, by omega, by first | rfl | go_num, by rw [e2], by rw [e2, HR1.out, nms_snoc, HC.out]; exact HO8.out, HB2.out.trans (own_below9 HO2.out HG8.out HZr2.out)⟩
            · rw [Hkd.out] at h1
              subst h1
              rcases List.eq_nil_or_concat op with he | ⟨ys, y, he⟩
              · rw [he] at h2; cases h2
              rw [List.concat_eq_append] at he
              have hyn : y = x.e.name := by rw [he] at h2; simpa using h2
              subst hyn
              obtain ⟨m', hm'⟩ : ∃ m', ys.length = m' := ⟨_, rfl⟩
              have hmm : m = m' + 1 := by rw [← Hm.out, he, List.length_append, hm']; rfl
              obtain ⟨g, cap, hv, hgb, hgl⟩ := HO2.out.form (by omega)
              have hA2 : A2 = some ⟨g, 0, none⟩ := by injection hv
              subst hA2
              have hc2 := own_cap HO2.out
              have hcl : ∀ j, j < 2 → wr.cell? ⟨g, m' * 2 + j, none⟩ = (nmCells x.e.name)[j]? := fun j hj => by
                rw [HO2.out.cellAt (m' * 2 + j) (by omega)]
                unfold nms
                rw [fm_at nm_len op m' (by rw [Hm.out]; omega) j hj]
                congr 2
                simp only [he]
                rw [List.getElem_append_right (by omega)]
                simp [hm']
              have z0' : wr.cell? ⟨g, m' * 2, none⟩ = some (.string s1) := by rw [← Hs1.out]; exact hcl 0 (by omega)
              have z1' : wr.cell? ⟨g, m' * 2 + 1, none⟩ = some (.string s2) := by rw [← Hs2.out]; exact hcl 1 (by omega)
              have hw1 : IntKind.i64.wrap ((m : Int) - 1) = (m' : Int) := by rw [IntWalk.i64_in _ (by omega)]; omega
              have hmn : m' < m := by omega
              have m3 : ((m : Int) == 0) = false := by rw [beq_eq_false_iff_ne]; omega
              have m0 : m ≠ 0 := by omega
              have hbd : (0 : Int) ≤ (m' : Int) ∧ (m' : Int) ≤ (c2 : Int) := by omega
              have HR1 := hide (show opn [] (evs.take (k + 1)) = ys by rw [HNx.out]; unfold opnS; rw [if_neg (by rw [Hkd.out]; omega), if_pos Hkd.out, he]; simp)
              have HO3 := hide (show wr.ownsRow Z 36 2 (.slice (some ⟨g, 0, none⟩) m' c2) m' (nms ys) by
                have := own_take HO2.out (k := m') (by omega)
                have e3 : (nms op).take (m' * 2) = nms ys := by
                  unfold nms
                  rw [← fm_take nm_len, he, ← hm', List.take_left]
                rwa [e3] at this)
              have Hm' := hide hm'
              clear h2 he hcl hv hgl hm' hmm
              go_wp2
              go_quiet (fail)
              go_wp2
              go_roundg (N - (k + 1))
              case measure => have := Hg.out; omega
              case rel =>
                have e2 : (opn [] (evs.take (k + 1))).length = m' := by rw [HR1.out, Hm'.out]
                exact ⟨k + 1, _, _, rfl, by omega, by first | rfl | go_num, by rw [e2], by rw [e2, HR1.out]; exact HO3.out, below_drewN HB2.out _⟩
            · rw [Hkd.out] at h1
              subst h1
              have m3 : ((m : Int) == 0) = false := by rw [beq_eq_false_iff_ne]; intro e; exact h2 (List.eq_nil_of_length_eq_zero (by have := Hm.out; omega))
              have q1 : (s4.toList == ([] : L)) = false := by rw [← Hs4.out, show ((bstr x.e.text).toList == ([] : L)) = decide (x.e.text = []) from lit_eq (bstr x.e.text) []]; exact decide_eq_false h3
              have q2 : s4.toList.isEmpty = false := by rw [← Hs4.out, isE]; exact decide_eq_false h3
              have HBd := hide (fun W => refBad_any (bstr x.e.text) W (by rw [bstr_size]; have := HTx.out; omega))
              rw [bstr_list, Hs4.out] at HBd
              have hbd := bad_fine x.e.text
              rw [h4] at hbd
              have hk0 : k ≠ 0 := fun e => by
                rw [e, List.take_zero] at HOp
                exact h2 HOp.out.symm
              obtain ⟨k', rfl⟩ : ∃ k', k = k' + 1 := ⟨k - 1, by omega⟩
              rw [Nat.add_sub_cancel] at h5
              obtain ⟨px, hpx, hpe⟩ : ∃ px, xs[k']? = some px ∧ px.e = p := by
                rw [← Hx.out, List.getElem?_map] at h5
                exact Option.map_eq_some_iff.1 h5
              obtain ⟨b2, off2, eA, hbl2, hat2⟩ := HE.out.at_ hpx
              cases eA
              have z0' : wr.cell? ⟨b, off + k' * 5, none⟩ = some (.int .i8 (px.e.kind : Int)) := (HB2.out.cell (p := ⟨b, off + k' * 5, none⟩) hbl2).trans hat2.c0
              rw [hpe] at z0'
              have p2 : ((p.kind : Int) == 2) = false := by rw [beq_eq_false_iff_ne]; omega
              have hw1 : IntKind.i64.wrap (((k' + 1 : Nat) : Int) - 1) = (k' : Int) := by rw [IntWalk.i64_in _ (by omega)]; omega
              have hk'N : k' < N := by omega
              have HR1 := hide (show opn [] (evs.take (k' + 1 + 1)) = op by rw [HNx.out]; unfold opnS; rw [if_neg (by rw [Hkd.out]; omega), if_neg (by rw [Hkd.out]; omega)])
              obtain ⟨kk, hkk⟩ : ∃ kk, k' + 1 = kk := ⟨_, rfl⟩
              have Hkk := hide hkk
              rw [hkk] at hw1 HR1 hlt hk Hg ⊢
              generalize p.kind = pk at *
              generalize bad x.e.text = bd at *
              clear h2 h3 h4 h5 h6 hpx hpe hat2 HNx HOp HXk hk0 hkk HGd
              go_wp2_with fail
              refine (HBd.out _).mono ?_
              rintro e w2 ⟨rfl, hw2⟩
              subst w2
              go_wp2
              go_roundg (N - (kk + 1))
              case measure => have := Hg.out; omega
              case rel =>
                have e2 : (opn [] (evs.take (kk + 1))).length = m := by rw [HR1.out, Hm.out]
                exact ⟨kk + 1, _, _, rfl, by omega, by first | rfl | go_num, by rw [e2], by rw [e2, HR1.out]; exact HO2.out, HB2.out⟩
      · have hkN : k = N := by omega
        subst hkN
        have hall : evs.take k = evs := List.take_of_length_le (by rw [← Hx.out, List.length_map, HN.out]; exact Nat.le_refl _)
        rw [hall, Hop.out]
        have m0 : ((([] : List Nm).length : Nat) : Int) = 0 := rfl
        clear hall ho hb hgk
        go_wp2_with fail
        refine (HWk.out _ HBw.out).mono ?_
        rintro e w3 ⟨rfl, b3⟩
        go_wp2
        go_ret
        exact ⟨rfl, HBw.out.trans (b3.mono HBw.out.size)⟩
end Go.Proofs.Ytaickkaoglohgaa
namespace Go.Proofs.Ytaickkaoglohgaa
open Go.RowKit Tk Sx

set_option maxRecDepth 100000 in
set_option maxHeartbeats 32000000 in
theorem lawClean_any (s : L) (w : World) (hg : Gm w) :
    Calls Try.prog 5 #[.string (bstr s)] w fun e w' => e = .returned (.bool true) ∧ Below w.heap.size w w' := by
  have HWk := hide (fun W (h : Below w.heap.size w W) => wakes17_any W (hg.below h))
  obtain ⟨n, hn⟩ : ∃ n, (bstr s).size = n := ⟨_, rfl⟩
  have hnl : n = s.length := by rw [← hn, bstr_size]
  by_cases hbig : 3000 < n
  · clear hnl
    go_enter Try.func5, Try.ntmps5
    go_wp2_with fail
    refine (HWk.out _ (Below.refl _ _)).mono ?_
    rintro e w1 ⟨rfl, b1⟩
    go_wp2
    go_ret
    exact ⟨rfl, b1⟩
  have HC1 := hide (bclean_any s w (by omega))
  have hlen := Bz.clean_len s
  have hfi := Bz.clean_fine s
  have hno := Bz.clean_none (l := s)
  have hsa := Bz.clean_same (l := s)
  have hbs := bad_fine s
  obtain ⟨⟨t, k⟩, ht⟩ : ∃ r, Bz.clean s = r := ⟨_, rfl⟩
  rw [ht] at HC1 hlen hfi hno hsa
  dsimp only at HC1 hlen hfi hno hsa
  have HC2 := hide (fun W => bclean_any t W (by omega))
  rw [Bz.clean_id hfi] at HC2
  have hbt := bad_fine t
  rw [hfi] at hbt
  have HBt := hide (fun W => refBad_any (bstr t) W (by rw [bstr_size]; omega))
  have HBs := hide (fun W => refBad_any (bstr s) W (by rw [bstr_size]; omega))
  rw [bstr_list] at HBt HBs
  generalize bad t = x at *
  generalize bad s = y at *
  have hx : ¬ (0 ≤ x) := by simpa using hbt
  have hx1 : decide (x < 0) = true := decide_eq_true (by omega)
  have hx2 : x < 0 := by omega
  have hq : ((bstr t).toList == (bstr t).toList) = true := beq_self_eq_true _
  have hk3 : k ≤ 3000 := by omega
  clear hg hnl ht hlen hfi hbt
  by_cases hk : k = 0
  · have hts := hsa hk
    subst hts
    have hy : ¬ (0 ≤ y) := by
      have h := hno.1 hk
      rw [h] at hbs
      simpa using hbs
    have hy1 : decide (y < 0) = true := decide_eq_true (by omega)
    have hy2 : y < 0 := by omega
    clear hno hsa hbs
    subst hk
    go_enter Try.func5, Try.ntmps5
    go_wp2_with fail
    refine HC1.out.mono ?_
    rintro e w1 ⟨rfl, b1⟩
    have B1 := hide b1
    clear b1
    go_wp2_with fail
    refine (HC2.out _).mono ?_
    rintro e w2 ⟨rfl, b2⟩
    have B2 := hide (B1.out.trans (b2.mono B1.out.size))
    clear b2
    go_wp2_with fail
    refine cq (HBt.out _) ?_
    go_wp2_with fail
    refine cq (HBs.out _) ?_
    go_wp2_with fail
    refine (HWk.out _ B2.out).mono ?_
    rintro e w3 ⟨rfl, b3⟩
    go_wp2
    go_ret
    exact ⟨rfl, B2.out.trans (b3.mono B2.out.size)⟩
  · have hy : 0 ≤ y := by
      have h : fine s ≠ true := fun h => hk (hno.2 h)
      have h2 : fine s = false := by simpa using h
      rw [h2] at hbs
      simpa using hbs
    have hy1 : decide (y < 0) = false := decide_eq_false (by omega)
    have hy2 : ¬ y < 0 := by omega
    have hk1 : ((k : Int) == 0) = false := by rw [beq_eq_false_iff_ne]; omega
    have hk2 : decide ((0 : Int) < (k : Int)) = true := decide_eq_true (by omega)
    have hk4 : 0 < k := by omega
    clear hno hsa hbs
    go_enter Try.func5, Try.ntmps5
    go_wp2_with fail
    refine HC1.out.mono ?_
    rintro e w1 ⟨rfl, b1⟩
    have B1 := hide b1
    clear b1
    go_wp2_with fail
    refine (HC2.out _).mono ?_
    rintro e w2 ⟨rfl, b2⟩
    have B2 := hide (B1.out.trans (b2.mono B1.out.size))
    clear b2
    go_wp2_with fail
    refine cq (HBt.out _) ?_
    go_wp2_with fail
    refine cq (HBs.out _) ?_
    go_wp2_with fail
    refine (HWk.out _ B2.out).mono ?_
    rintro e w3 ⟨rfl, b3⟩
    go_wp2
    go_ret
    exact ⟨rfl, B2.out.trans (b3.mono B2.out.size)⟩
end Go.Proofs.Ytaickkaoglohgaa
