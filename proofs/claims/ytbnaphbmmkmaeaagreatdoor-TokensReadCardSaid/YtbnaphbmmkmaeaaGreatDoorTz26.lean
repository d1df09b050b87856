/- Tokens: lists that All has made, as lists that lie anywhere; what the laws' wake-up asks. · Tokens: the law's sameAt, where both rows hold the same. · Tokens: words for the laws: where tokens end; the first ones of a list. · Tokens: the law of reading: the walk. -/
import Derived.Test.YtbnaphbmmkmaeaaGreatDoorTz02
import Derived.Test.YtbnaphbmmkmaeaaGreatDoorTz23
import Derived.Test.YtbnaphbmmkmaeaaGreatDoorTz24
import Derived.Test.YtbnaphbmmkmaeaaGreatDoorTz25
set_option linter.unusedSimpArgs false
set_option linter.unusedVariables false
namespace Go.Proofs.YtbnaphbmmkmaeaaGreatDoor
open Go.RowKit Tk

def Tk.At.g (a : At) : Ga := ⟨bstr a.name, bstr a.value, (a.at_ : Int)⟩
def Tv.g (x : Tv) : Gt := ⟨x.t.kind, bstr x.t.name, x.t.attrs.map At.g, x.A, x.c, x.t.empty, bstr x.t.text, (x.t.at_ : Int), (x.t.end_ : Int)⟩
theorem attrVs_g (l : List At) : attrVs l = gas (l.map At.g) := by
  induction l with
  | nil => rfl
  | cons a l ih => unfold attrVs gas at ih ⊢; rw [List.flatMap_cons, List.map_cons, List.flatMap_cons, ih]; rfl
theorem row_g (x : Tv) : x.row = gtCells x.g := by
  unfold Tv.row tokCells gtCells Tv.g
  simp only [List.length_map]
theorem tvRows_g (xs : List Tv) : tvRows xs = gts (xs.map Tv.g) := by
  induction xs with
  | nil => rfl
  | cons a l ih => unfold tvRows gts at ih ⊢; rw [List.flatMap_cons, List.map_cons, List.flatMap_cons, ih, row_g]
theorem Tv.In.g {x : Tv} {B : Nat} {W : World} (h : x.In B W) : Reads W W.heap.size 3 x.g.A x.g.as_.length (gas x.g.as_) := by
  have := h.a
  rw [attrVs_g] at this
  unfold Tv.g
  simp only [List.length_map]
  exact this
/-- A list that All has made lies in memory. -/
theorem TkL.of {W : World} {A : Option Addr} {xs : List Tv} {B : Nat} (h : Reads W W.heap.size 7 A xs.length (tvRows xs)) (hi : ∀ x ∈ xs, x.In B W) : TkL W W.heap.size A (xs.map Tv.g) := by
  refine ⟨?_, fun x hx => ?_⟩
  · rw [List.length_map, ← tvRows_g]; exact h
  · obtain ⟨y, hy, rfl⟩ := List.mem_map.1 hx
    exact (hi y hy).g
theorem g_bare (x y : Tv) (h : x.t.bare = y.t.bare) : x.g.bare = y.g.bare := by
  have e : ∀ z : Tv, z.g.bare = ⟨z.t.bare.kind, bstr z.t.bare.name, z.t.bare.attrs.map (fun a => (bstr a.name, bstr a.value)), z.t.bare.empty, bstr z.t.bare.text⟩ := fun z => by
    unfold Tv.g Gt.bare Tok.bare
    simp only [List.map_map]
    rfl
  rw [e, e, h]
theorem gs_bare : ∀ (xs ys : List Tv), (xs.map (·.t)).map Tok.bare = (ys.map (·.t)).map Tok.bare → (xs.map Tv.g).map Gt.bare = (ys.map Tv.g).map Gt.bare
  | [], [], _ => rfl
  | [], _ :: _, h => by simp at h
  | _ :: _, [], h => by simp at h
  | x :: xs, y :: ys, h => by
    simp only [List.map_cons, List.cons.injEq] at h ⊢
    exact ⟨g_bare x y h.1, gs_bare xs ys h.2⟩
/-- The tokens that a right text has, by computing. -/
theorem Tk.AllP.comp {s : L} {ts : List Tok} {e : Nat} {ok : Bool} (h : AllP s ts e ok) (hv : Utf.valid s = true) : ts = toks s.length 0 s ∧ Chain 0 ts e ∧ ok = decide (e = s.length) := by
  have hl := h.len
  rw [hv, Bool.and_true] at hl
  refine ⟨?_, hl.2.1, hl.2.2⟩
  unfold AllP at h
  rw [if_pos hv] at h
  obtain ⟨w, rest, rfl, h1, h2, rfl, rfl⟩ := h
  exact (toks_row h1 (by rw [Nat.zero_add]; exact h2) (w ++ rest).length (Nat.le_refl _)).symm
theorem Tk.Chain.end_ : ∀ {ts : List Tok} {n e : Nat}, Chain n ts e → e = (ts.getLast?.map (·.end_)).getD n
  | [], n, e, h => h.symm
  | [t], n, e, h => h.2.2.symm
  | t :: u :: r, n, e, h => by
    have := Tk.Chain.end_ (ts := u :: r) h.2.2
    rw [this]
    simp [List.getLast?_cons]
def wk1 : L := [60, 97, 32, 98, 61, 39, 49, 39, 47, 62, 120]
def wk2 : L := [97, 32, 93, 93, 62]
theorem wk1_toks : toks wk1.length 0 wk1 = [⟨0, [97], [⟨[98], [49], 3⟩], true, [], 0, 10⟩, ⟨2, [], [], false, [120], 10, 11⟩] := by decide +kernel
theorem wk2_toks : toks wk2.length 0 wk2 = [] := by decide +kernel
theorem wk1_all {ts : List Tok} {e : Nat} {ok : Bool} (h : AllP wk1 ts e ok) : ts = [⟨0, [97], [⟨[98], [49], 3⟩], true, [], 0, 10⟩, ⟨2, [], [], false, [120], 10, 11⟩] ∧ e = 11 ∧ ok = true := by
  obtain ⟨h1, h2, h3⟩ := h.comp (by decide +kernel)
  rw [wk1_toks] at h1
  subst h1
  have he := h2.end_
  subst he
  exact ⟨rfl, rfl, h3⟩
theorem wk2_all {ts : List Tok} {e : Nat} {ok : Bool} (h : AllP wk2 ts e ok) : ts = [] ∧ e = 0 ∧ ok = false := by
  obtain ⟨h1, h2, h3⟩ := h.comp (by decide +kernel)
  rw [wk2_toks] at h1
  subst h1
  have he := h2.end_
  subst he
  exact ⟨rfl, rfl, h3⟩
theorem map_two {xs : List Tv} {t u : Tok} (h : xs.map (·.t) = [t, u]) : ∃ x y, xs = [x, y] ∧ x.t = t ∧ y.t = u := by
  match xs, h with
  | [x, y], h => simp only [List.map_cons, List.map_nil, List.cons.injEq, and_true] at h; exact ⟨x, y, rfl, h.1, h.2⟩
/-- The cells that the wake-up asks for. -/
theorem wk1_cells {W : World} {A : Option Addr} {xs : List Tv} {B : Nat} (h : Reads W W.heap.size 7 A xs.length (tvRows xs)) (hi : ∀ x ∈ xs, x.In B W)
    (hx : xs.map (·.t) = [⟨0, [97], [⟨[98], [49], 3⟩], true, [], 0, 10⟩, ⟨2, [], [], false, [120], 10, 11⟩]) :
    xs.length = 2 ∧ ∃ b off b' off' cc, A = some ⟨b, off, none⟩ ∧ b < W.heap.size ∧ b' < W.heap.size ∧ W.cell? ⟨b, off + 1, none⟩ = some (.string ⟨#[97]⟩) ∧ W.cell? ⟨b, off + 3, none⟩ = some (.bool true) ∧
      W.cell? ⟨b, off + 2, none⟩ = some (.slice (some ⟨b', off', none⟩) 1 cc) ∧ W.cell? ⟨b', off' + 1, none⟩ = some (.string ⟨#[49]⟩) ∧ W.cell? ⟨b, off + 7 + 4, none⟩ = some (.string ⟨#[120]⟩) := by
  obtain ⟨x, y, rfl, hx0, hy0⟩ := map_two hx
  have hT := TkL.of h hi
  obtain ⟨b, off, rfl, hb, h0⟩ := hT.row.gt (k := 0) (by simp)
  obtain ⟨b1, off1, e, hb1, h1⟩ := hT.row.gt (k := 1) (by simp)
  cases e
  have hs := hT.sub x.g (by simp)
  have ex : x.g.as_ = [⟨⟨#[98]⟩, ⟨#[49]⟩, 3⟩] := by show x.t.attrs.map At.g = _; rw [hx0]; rfl
  rw [ex] at hs
  obtain ⟨b', off', eA, hb', g0⟩ := hs.ga (k := 0) (by simp)
  have n0 : x.g.name = ⟨#[97]⟩ := by show bstr x.t.name = _; rw [hx0]; rfl
  have m0 : x.g.empty = true := by show x.t.empty = _; rw [hx0]
  have t1 : y.g.text = ⟨#[120]⟩ := by show bstr y.t.text = _; rw [hy0]; rfl
  refine ⟨rfl, b, off, b', off', x.g.c, rfl, hb, hb', ?_, ?_, ?_, ?_, ?_⟩
  · have := h0.c1; simp only [List.map_cons, List.getElem_cons_zero, n0, Nat.zero_mul, Nat.add_zero] at this; exact this
  · have := h0.c3; simp only [List.map_cons, List.getElem_cons_zero, m0, Nat.zero_mul, Nat.add_zero] at this; exact this
  · have := h0.c2; simp only [List.map_cons, List.getElem_cons_zero, ex, eA, Nat.zero_mul, Nat.add_zero] at this; exact this
  · have := g0.c1; simp only [List.getElem_cons_zero, Nat.zero_mul, Nat.add_zero] at this; exact this
  · have := h1.c4; simp only [List.map_cons, List.getElem_cons_succ, List.getElem_cons_zero, t1, Nat.one_mul] at this; exact this

set_option maxHeartbeats 8000000 in
theorem wakes_any (w : World) (hg : Gl w) (hw6 : 6 ≤ w.heap.size) : Calls Tryz.prog 10 #[] w fun e w' => e = .returned (.bool true) ∧ Below w.heap.size w w' := by
  have HG := hide hg
  have H1 := hide (tks_any w ⟨#[60, 97, 32, 98, 61, 39, 49, 39, 47, 62, 120]⟩ hg hw6 (by decide))
  clear hg
  go_enter Tryz.func10, Tryz.ntmps10
  go_wp2_with fail
  refine H1.out.mono ?_
  rintro e w1 ⟨xs, A, c, n, ok, hP, -, -, rfl, b1, hr, -, -, hi⟩
  obtain ⟨hx, rfl, rfl⟩ := wk1_all hP
  have H2 := hide (tks_any w1 ⟨#[97, 32, 93, 93, 62]⟩ (HG.out.below b1) (by have := b1.size; omega) (by decide))
  obtain ⟨hn, b, off, b', off', cc, rfl, hb, hb', q1, q3, q2, q5, q4⟩ := wk1_cells hr hi hx
  have B1 := hide b1
  rw [hn]
  clear hP hr hi hx b1 hn H1
  go_wp2_with fail
  refine H2.out.mono ?_
  rintro e w2 ⟨xs2, A2, c2, n2, ok2, hP2, -, -, rfl, b2, -, -, -, -⟩
  obtain ⟨hx2, rfl, rfl⟩ := wk2_all hP2
  replace q1 := cell_go b2 q1
  replace q2 := cell_go b2 q2
  replace q3 := cell_go b2 q3
  replace q4 := cell_go b2 q4
  replace q5 := cell_go b2 q5
  have B2 := hide (B1.out.trans (b2.mono B1.out.size))
  clear hP2 hx2 b2 B1 H2
  go_wp2
  go_ret
  exact ⟨rfl, B2.out⟩
end Go.Proofs.YtbnaphbmmkmaeaaGreatDoor
namespace Go.Proofs.YtbnaphbmmkmaeaaGreatDoor
open Go.RowKit Tk

/-- All of a token but where its attributes lie. -/
def Gt.face (x : Gt) : Gb × Int × Int × List Ga := (x.bare, x.at_, x.end_, x.as_)
theorem face_bare {l l' : List Gt} (h : l.map Gt.face = l'.map Gt.face) : l.map Gt.bare = l'.map Gt.bare := by
  have := congrArg (List.map Prod.fst) h
  simpa [List.map_map, Function.comp_def, Gt.face] using this

set_option maxHeartbeats 16000000 in
set_option maxRecDepth 20000 in
theorem sameAt_any (A A' : Option Addr) (c c' B : Nat) (l l' : List Gt) (w : World) (hA : TkL w B A l) (hA' : TkL w B A' l') (hB : B ≤ w.heap.size) (hl : l.length ≤ 1000000000) (hs : ∀ x ∈ l, x.as_.length ≤ 1000000000) (he : l.map Gt.face = l'.map Gt.face) :
    Calls Tryz.prog 15 #[.slice A l.length c, .slice A' l'.length c'] w fun e w' => e = .returned (.bool true) ∧ Below w.heap.size w w' := by
  have hlen : l'.length = l.length := by have := congrArg List.length he; simpa using this.symm
  have hf : ∀ k (h1 : k < l.length) (h2 : k < l'.length), l[k].face = l'[k].face := fun k h1 h2 => by
    have := congrArg (fun m => m[k]?) he
    simpa [List.getElem?_map, List.getElem?_eq_getElem h1, List.getElem?_eq_getElem h2] using this
  have hs' : ∀ x ∈ l', x.as_.length ≤ 1000000000 := fun x hx => by
    obtain ⟨k, hk, rfl⟩ := List.getElem_of_mem hx
    have e := hf k (by omega) hk
    have e2 : (l[k]'(by omega)).as_ = l'[k].as_ := congrArg (fun f => f.2.2.2) e
    rw [← e2]
    exact hs _ (List.getElem_mem _)
  have HS := hide (show Calls Tryz.prog 32 #[.slice A l.length c, .slice A' l'.length c'] w fun e w' => e = .returned (.bool true) ∧ Below w.heap.size w w' from by
    have h := refSame14_any A A' c c' B l l' w hA hA' hB hl (by omega) hs hs'
    rwa [decide_eq_true (face_bare he)] at h)
  have Hf := hide hf
  have HA := hide hA
  have HA' := hide hA'
  have Hs := hide hs
  obtain ⟨n, hn⟩ : ∃ n, l.length = n := ⟨_, rfl⟩
  rw [hlen, hn] at HS
  rw [hlen, hn]
  rw [hn] at hl hlen
  have Hn := hide hn
  have Hn' := hide hlen
  clear hn hlen hf hA hA' hs hs' he
  go_enter Tryz.func15, Tryz.ntmps15
  go_wp2_with fail
  refine HS.out.mono ?_
  rintro e w1 ⟨rfl, b1⟩
  have B1 := hide b1
  clear b1 HS
  go_wp2
  go_loopg [5] n (fun g vi wr => ∃ k : Nat, g = n - k ∧ k ≤ n ∧ vi = .int .i64 k ∧ Below w.heap.size w wr)
  case atStart => exact ⟨0, rfl, Nat.zero_le _, rfl, B1.out⟩
  case round =>
    obtain ⟨k, hg, hk, rfl, hb⟩ := hrel
    have Hg := hide hg
    have HB := hide hb
    clear hg hb B1
    by_cases hlt : k < n
    · have h1 : k < l.length := by rw [Hn.out]; exact hlt
      have h2 : k < l'.length := by rw [Hn'.out]; exact hlt
      obtain ⟨b, off, rfl, hb, hx⟩ := (HA.out.below (HB.out.mono hB)).row.gt h1
      obtain ⟨b', off', rfl, hb', hy⟩ := (HA'.out.below (HB.out.mono hB)).row.gt h2
      have Sx := hide ((HA.out.below (HB.out.mono hB)).sub _ (List.getElem_mem h1))
      have Sy := hide ((HA'.out.below (HB.out.mono hB)).sub _ (List.getElem_mem h2))
      have Lx := hide (Hs.out _ (List.getElem_mem h1))
      have e := Hf.out k h1 h2
      generalize l[k] = x at *
      generalize l'[k] = y at *
      obtain ⟨kx, nx, ax, Ax, cx, ex, tx, px, ox⟩ := x
      obtain ⟨ky, ny, ay, Ay, cy, ey, ty, py, oy⟩ := y
      simp only [Gt.face, Prod.mk.injEq] at e
      obtain ⟨-, rfl, rfl, rfl⟩ := e
      dsimp only at Sx Sy Lx
      have x2 : wr.cell? _ = some (.slice Ax ax.length cx) := hx.c2
      have x5 : wr.cell? _ = some (.int .i64 px) := hx.c5
      have x6 : wr.cell? _ = some (.int .i64 ox) := hx.c6
      have y2 : wr.cell? _ = some (.slice Ay ax.length cy) := hy.c2
      have y5 : wr.cell? _ = some (.int .i64 px) := hy.c5
      have y6 : wr.cell? _ = some (.int .i64 ox) := hy.c6
      have tp : (px != px) = false := by simp
      have to_ : (ox != ox) = false := by simp
      obtain ⟨na, hna⟩ : ∃ na, ax.length = na := ⟨_, rfl⟩
      rw [hna] at x2 y2
      have Hna := hide hna
      have hla : na ≤ 1000000000 := by rw [← hna]; exact Lx.out
      clear hx hy hna
      go_wp2
      go_quiet (fail)
      go_wp2
      go_loopg [6] na (fun g vi wr2 => ∃ j m : Nat, g = na - j ∧ j ≤ na ∧ vi = .int .i64 j ∧ wr2 = wr.drewN m)
      case atStart => exact ⟨0, _, rfl, Nat.zero_le _, rfl, rfl⟩
      case round =>
        obtain ⟨j, m, hgj, hj, rfl, rfl⟩ := hrel
        have Hgj := hide hgj
        clear hgj
        by_cases hltj : j < na
        · have g1 : j < ax.length := by rw [Hna.out]; exact hltj
          obtain ⟨d, od, rfl, hd, hx⟩ := Sx.out.ga g1
          obtain ⟨d', od', rfl, hd', hy⟩ := Sy.out.ga g1
          generalize ax[j] = z at *
          have z2 := hx.c2
          have u2 := hy.c2
          have tz : (z.at_ != z.at_) = false := by simp
          clear hx hy
          go_wp2
          go_quiet (fail)
          go_wp2
          go_roundg (na - (j + 1))
          case measure => have := Hgj.out; omega
          case rel => exact ⟨j + 1, _, rfl, by omega, by go_num, by first | rfl | exact World.drewN_drewN _ _ _⟩
        · go_wp2
          go_roundg (n - (k + 1))
          case measure => have := Hg.out; omega
          case rel => exact ⟨k + 1, rfl, by omega, by go_num, below_drewN HB.out _⟩
    · go_wp2
      go_ret
      exact ⟨rfl, HB.out⟩
end Go.Proofs.YtbnaphbmmkmaeaaGreatDoor
namespace Go.Proofs.YtbnaphbmmkmaeaaGreatDoor
open Go.RowKit Tk

/-- Where the first tokens end. -/
def ends (ts : List Tok) (j : Nat) : Nat := ((ts.take j).getLast?.map (·.end_)).getD 0
theorem ends_zero (ts : List Tok) : ends ts 0 = 0 := rfl
theorem ends_next {ts : List Tok} {j : Nat} {t : Tok} (h : ts[j]? = some t) : ends ts (j + 1) = t.end_ := by
  unfold ends
  rw [List.take_add_one, h]
  simp
theorem chain_at {ts : List Tok} {n e : Nat} (h : Chain n ts e) : ∀ j (hj : j < ts.length), ts[j].at_ = ((ts.take j).getLast?.map (·.end_)).getD n ∧ ts[j].at_ < ts[j].end_ ∧ ts[j].end_ ≤ e := by
  induction ts generalizing n with
  | nil => intro j hj; simp at hj
  | cons t ts ih =>
    obtain ⟨h1, h2, h3⟩ := h
    intro j hj
    have hle : ∀ {l : List Tok} {a b : Nat}, Chain a l b → a ≤ b := by
      intro l
      induction l with
      | nil => intro a b h; exact Nat.le_of_eq h
      | cons u l ih2 => intro a b h; exact Nat.le_trans (Nat.le_of_lt h.2.1) (ih2 h.2.2)
    cases j with
    | zero => exact ⟨h1, by simp only [List.getElem_cons_zero]; omega, hle h3⟩
    | succ j =>
      have := ih h3 j (by simpa using hj)
      refine ⟨?_, this.2⟩
      simp only [List.getElem_cons_succ, List.take_succ_cons]
      rw [this.1]
      cases hl : ts.take j with
      | nil => rfl
      | cons u l => simp [List.getLast?_cons]
theorem ends_at {ts : List Tok} {e : Nat} (h : Chain 0 ts e) {j : Nat} (hj : j < ts.length) : ts[j].at_ = ends ts j ∧ ends ts j < ends ts (j + 1) ∧ ends ts (j + 1) ≤ e ∧ ts[j].end_ = ends ts (j + 1) := by
  obtain ⟨h1, h2, h3⟩ := chain_at h j hj
  have h4 := ends_next (List.getElem?_eq_getElem hj)
  rw [h4]
  exact ⟨h1, by rw [show ends ts j = ts[j].at_ from h1.symm]; exact h2, h3, rfl⟩
theorem ends_all {ts : List Tok} {e : Nat} (h : Chain 0 ts e) : ends ts ts.length = e := by
  unfold ends
  rw [List.take_length]
  exact h.end_.symm
theorem gts_take : ∀ (l : List Gt) (q : Nat), q ≤ l.length → gts (l.take q) = (gts l).take (q * 7)
  | [], q, h => by
    have : q = 0 := by simpa using h
    subst this
    rfl
  | x :: l, 0, _ => by simp [gts]
  | x :: l, q + 1, h => by
    have ih := gts_take l q (by simpa using h)
    have hl : (gtCells x).length = 7 := rfl
    unfold gts at ih ⊢
    rw [List.take_succ_cons, List.flatMap_cons, List.flatMap_cons, ih, List.take_append, hl, List.take_of_length_le (l := gtCells x) (by omega), show (q + 1) * 7 - 7 = q * 7 by omega]
theorem TkL.take {w : World} {B : Nat} {A : Option Addr} {xs : List Gt} (h : TkL w B A xs) {q : Nat} (hq : q ≤ xs.length) : TkL w B A (xs.take q) := by
  refine ⟨⟨?_, fun hn => ?_⟩, fun x hx => h.sub x (List.mem_of_mem_take hx)⟩
  · rw [gts_length]
  · rw [List.length_take] at hn
    obtain ⟨b, off, hA, hb, hc⟩ := h.row.2 (by omega)
    refine ⟨b, off, hA, hb, fun j u hu => hc j u ?_⟩
    rw [gts_take _ _ hq, List.getElem?_take] at hu
    split at hu
    · exact hu
    · cases hu
/-- The list from a token on: the slice's address moves on. -/
theorem TkL.drop {w : World} {B b off : Nat} {xs : List Gt} (h : TkL w B (some ⟨b, off, none⟩) xs) {q : Nat} (hq : q < xs.length) : TkL w B (some ⟨b, off + q * 7, none⟩) (xs.drop q) := by
  refine ⟨⟨?_, fun hn => ?_⟩, fun x hx => h.sub x (List.mem_of_mem_drop hx)⟩
  · rw [gts_length]
  · obtain ⟨b', off', hA, hb, hc⟩ := h.row.2 (by omega)
    cases hA
    refine ⟨b, off + q * 7, rfl, hb, fun j u hu => ?_⟩
    have hd : gts xs = gts (xs.take q) ++ gts (xs.drop q) := by unfold gts; rw [← List.flatMap_append, List.take_append_drop]
    have hl : (gts (xs.take q)).length = q * 7 := by rw [gts_length, List.length_take, Nat.min_eq_left (by omega)]
    have := hc (q * 7 + j) u (by rw [hd, List.getElem?_append_right (by omega), hl, Nat.add_sub_cancel_left]; exact hu)
    rwa [← Nat.add_assoc] at this
theorem tv_ends {xs : List Tv} {e : Nat} (h : Chain 0 (xs.map (·.t)) e) {j : Nat} (hj : j < xs.length) : ∃ x, xs[j]? = some x ∧ x.t.at_ = ends (xs.map (·.t)) j ∧ ends (xs.map (·.t)) j < ends (xs.map (·.t)) (j + 1) ∧ ends (xs.map (·.t)) (j + 1) ≤ e ∧ x.t.end_ = ends (xs.map (·.t)) (j + 1) := by
  obtain ⟨h1, h2, h3, h4⟩ := ends_at h (j := j) (by rw [List.length_map]; exact hj)
  rw [List.getElem_map] at h1 h4
  exact ⟨xs[j], List.getElem?_eq_getElem hj, h1, h2, h3, h4⟩
theorem TkL.at_ {w : World} {B : Nat} {A : Option Addr} {xs : List Tv} (h : TkL w B A (xs.map Tv.g)) {j : Nat} {x : Tv} (hx : xs[j]? = some x) : ∃ b off, A = some ⟨b, off, none⟩ ∧ b < B ∧ GtAt w b (off + j * 7) x.g := by
  obtain ⟨hj, he⟩ := List.getElem?_eq_some_iff.1 hx
  obtain ⟨b, off, h1, h2, h3⟩ := h.row.gt (k := j) (by rw [List.length_map]; exact hj)
  rw [List.getElem_map, he] at h3
  exact ⟨b, off, h1, h2, h3⟩
theorem attrsW_len {off : Nat} {w : L} {as_ : List At} {e : Bool} (h : AttrsW off w as_ e) : as_.length ≤ w.length := by
  induction h with
  | two off b hb => simp
  | one off b hb => simp
  | more off b nm v x w as_ e hb h0 hn hn0 hv h60 hw ih =>
    have hbl : 0 < b.length := List.length_pos_iff.2 h0
    simp only [List.length_append, List.length_cons]
    omega
theorem tokW_len {at_ : Nat} {w : L} {t : Tok} (h : TokW at_ w t) : t.attrs.length ≤ w.length := by
  cases h with
  | start _ nm wa as_ e hn h0 ha =>
    have := attrsW_len ha
    simp only [List.length_append, List.length_cons]
    omega
  | _ => exact Nat.zero_le _
theorem row_attrs {at_ : Nat} {w rest : L} {ts : List Tok} (h : Row at_ w rest ts) : ∀ t ∈ ts, t.attrs.length ≤ w.length := by
  induction h with
  | nil => intro t ht; cases ht
  | cons at_ w t w2 rest ts hw hf hk _ ih =>
    intro u hu
    rw [List.length_append]
    rcases List.mem_cons.1 hu with rfl | hu
    · have := tokW_len hw; omega
    · have := ih u hu; omega
theorem allP_attrs {s : L} {ts : List Tok} {n : Nat} {ok : Bool} (h : AllP s ts n ok) : ∀ t ∈ ts, t.attrs.length ≤ s.length := by
  unfold AllP at h
  split at h
  · obtain ⟨w, rest, rfl, h1, _⟩ := h
    intro t ht
    have := row_attrs h1 t ht
    rw [List.length_append]
    omega
  · obtain ⟨rfl, _⟩ := h
    intro t ht
    cases ht
theorem attrs_small {s : L} {xs : List Tv} {n : Nat} {ok : Bool} (h : AllP s (xs.map (·.t)) n ok) {y : Gt} (hy : y ∈ xs.map Tv.g) : y.as_.length ≤ s.length := by
  obtain ⟨x, hx, rfl⟩ := List.mem_map.1 hy
  have := allP_attrs h x.t (List.mem_map_of_mem hx)
  show (x.t.attrs.map At.g).length ≤ _
  rw [List.length_map]
  exact this
/-- k, brought within a length. -/
theorem mod_in (k : Int) {n : Nat} (hn : 0 < n) : ∃ m : Int, Int.tmod k (n : Int) = m ∧ -(n : Int) < m ∧ m < n ∧ ∃ j : Nat, Int.tmod (m + n) (n : Int) = j ∧ j < n := by
  refine ⟨_, rfl, by have := Int.lt_tmod_of_pos k (show (0 : Int) < n by omega); omega, Int.tmod_lt_of_pos k (by omega), ?_⟩
  have h1 := Int.lt_tmod_of_pos k (show (0 : Int) < n by omega)
  have h2 := Int.tmod_nonneg (n : Int) (show 0 ≤ Int.tmod k n + n by omega)
  have h3 := Int.tmod_lt_of_pos (Int.tmod k n + n) (show (0 : Int) < n by omega)
  exact ⟨(Int.tmod (Int.tmod k n + n) (n : Int)).toNat, by omega, by omega⟩
end Go.Proofs.YtbnaphbmmkmaeaaGreatDoor
namespace Go.Proofs.YtbnaphbmmkmaeaaGreatDoor
open Go.RowKit Tk

theorem OneR.tv {w w' : World} {o : Option Tok} {e : Ending} (h : OneR w o e w') : ∃ x : Tv, x.t = o.getD noTok ∧ e = .returned (.tuple #[.agg #[.int .i8 x.t.kind, .string (bstr x.t.name), .slice x.A x.t.attrs.length x.c, .bool x.t.empty, .string (bstr x.t.text), .int .i64 (x.t.at_ : Int), .int .i64 (x.t.end_ : Int)], .bool o.isSome]) ∧ Below w.heap.size w w' ∧ x.In w.heap.size w' := by
  obtain ⟨hb, h⟩ := h
  cases o with
  | none =>
    subst h
    exact ⟨⟨noTok, none, 0⟩, rfl, rfl, hb, Reads.none_, (fun a ha => by cases ha), (fun a ha => by cases ha)⟩
  | some t =>
    obtain ⟨A, c, rfl, ho⟩ := h
    exact ⟨⟨t, A, c⟩, rfl, rfl, hb, Tv.In.of_own ho⟩
theorem reads_blk {W : World} {H : Nat} {x : Tv} (h : Blk W H 29 #[.int .i8 x.t.kind, .string (bstr x.t.name), .slice x.A x.t.attrs.length x.c, .bool x.t.empty, .string (bstr x.t.text), .int .i64 (x.t.at_ : Int), .int .i64 (x.t.end_ : Int)]) :
    Reads W W.heap.size 7 (some ⟨H, 0, none⟩) [x].length (tvRows [x]) := by
  have e : tvRows [x] = x.row := by simp [tvRows]
  rw [e]
  refine ⟨rfl, fun _ => ⟨H, 0, rfl, h.lt, fun j u hu => ?_⟩⟩
  rw [Nat.zero_add, h.cell]
  simpa [Tv.row, tokCells] using hu
theorem tv_face {x y : Tv} (h : x.t = y.t) : x.g.face = y.g.face := by
  obtain ⟨t, A, c⟩ := x
  obtain ⟨t', A', c'⟩ := y
  dsimp only at h
  subst h
  rfl
theorem tvs_face : ∀ {xs ys : List Tv}, xs.map (·.t) = ys.map (·.t) → (xs.map Tv.g).map Gt.face = (ys.map Tv.g).map Gt.face
  | [], [], _ => rfl
  | [], _ :: _, h => by simp at h
  | _ :: _, [], h => by simp at h
  | x :: xs, y :: ys, h => by
    simp only [List.map_cons, List.cons.injEq] at h ⊢
    exact ⟨tv_face h.1, tvs_face h.2⟩
/-- The attributes of the piece at a byte are no more than the text's bytes. -/
theorem one_attrs {D : L} {k : Int} : ((oneO D k).getD noTok).attrs.length ≤ D.length := by
  unfold oneO
  split
  · exact Nat.zero_le _
  · rename_i h
    split
    · cases ho : Tk.one k.toNat (D.drop k.toNat) with
      | none => exact Nat.zero_le _
      | some t =>
        have hne : D.drop k.toNat ≠ [] := fun e => by have := congrArg List.length e; rw [List.length_drop] at this; simp at this; omega
        obtain ⟨w, rest, e, hw, hf, hk⟩ := one_word hne ho
        have := tokW_len hw
        have h2 := congrArg List.length e
        rw [List.length_drop, List.length_append] at h2
        simp only [Option.getD_some]
        omega
    · exact Nat.zero_le _

set_option maxHeartbeats 16000000 in
set_option maxRecDepth 20000 in
theorem lawTokRead_any (s : ByteArray) (k : Int) (w : World) (hg : Gl w) (hw6 : 6 ≤ w.heap.size) :
    Calls Tryz.prog 3 #[.string s, .int .i64 k] w fun e w' => e = .returned (.bool true) ∧ Below w.heap.size w w' := by
  have HWk := hide (fun W (h : Below w.heap.size w W) => wakes_any W (hg.below h) (Nat.le_trans hw6 h.size))
  by_cases hbig : 3000 < s.size
  · have hd : decide ((3000 : Int) < (s.size : Int)) = true := decide_eq_true (by omega)
    go_enter Tryz.func3, Tryz.ntmps3
    go_wp2_with fail
    refine (HWk.out _ (Below.refl _ _)).mono ?_
    rintro e w1 ⟨rfl, b1⟩
    go_wp2
    go_ret
    exact ⟨rfl, b1⟩
  have hd : decide ((3000 : Int) < (s.size : Int)) = false := decide_eq_false (by omega)
  have hs3 : s.size ≤ 3000 := by omega
  obtain ⟨D, hD⟩ : ∃ D, s.data.toList = D := ⟨_, rfl⟩
  have HDl := hide (show D.length = s.size by rw [← hD, size_list])
  have HA := hide (tks_any w s hg hw6 (by omega))
  have HR := hide (fun W => refTks_any W s (by omega))
  have HO := hide (fun W (h : Below w.heap.size w W) => pOne_any s k W (hg.below h) (Nat.le_trans hw6 h.size) (by omega))
  have HP := hide (fun W => refOne_any s k W (by omega))
  rw [hD] at HA HR HO HP
  obtain ⟨o, ho⟩ : ∃ o, oneO D k = o := ⟨_, rfl⟩
  have Ho := hide (show (o.getD noTok).attrs.length ≤ 3000 by have := one_attrs (D := D) (k := k); rw [ho] at this; have := HDl.out; omega)
  rw [ho] at HO HP
  clear hD hg ho hbig
  go_enter Tryz.func3, Tryz.ntmps3
  go_wp2_with fail
  refine HA.out.mono ?_
  rintro e w1 ⟨xs, A, c, n, ok, hP, hxl, hxc, rfl, b1, hr, -, -, hi⟩
  have HP1 := hide hP
  have HT1 := hide (TkL.of hr hi)
  have HXl := hide hxl
  have B1 := hide b1
  clear hP hr hi b1 hxl hxc HA
  go_wp2_with fail
  refine (HR.out _).mono ?_
  rintro e w2 ⟨ys, A2, c2, n2, ok2, hP, hyl, hyc, rfl, b2, hr, -, -, hi⟩
  obtain ⟨e1, rfl, rfl⟩ := HP1.out.unique hP
  have HF := hide (tvs_face e1)
  have HLn := hide (show ys.length = xs.length by have := congrArg List.length e1; simpa using this.symm)
  have HT2 := hide (TkL.of hr hi)
  have HS1 := hide (HT1.out.below b2)
  have B2 := hide (B1.out.trans (b2.mono B1.out.size))
  have HAt := hide (fun y (hy : y ∈ xs.map Tv.g) => attrs_small HP1.out hy)
  have b2s := b2.size
  have HS1' := hide (HS1.out.more b2s)
  clear hP hr hi b2 hyl hyc HR e1 HT1 HS1 B1 b2s
  go_wp2_with fail
  refine (HO.out _ B2.out).mono ?_
  rintro e w3 h3
  obtain ⟨x, hx, rfl, b3, hxi⟩ := h3.tv
  have B3 := hide (B2.out.trans (b3.mono B2.out.size))
  have HX3 := hide (hxi.below (below_alloc w3 (.cells #[.int .i8 x.t.kind, .string (bstr x.t.name), .slice x.A x.t.attrs.length x.c, .bool x.t.empty, .string (bstr x.t.text), .int .i64 (x.t.at_ : Int), .int .i64 (x.t.end_ : Int)] 29)))
  have B4 := hide (B3.out.alloc B3.out.size (.cells #[.int .i8 x.t.kind, .string (bstr x.t.name), .slice x.A x.t.attrs.length x.c, .bool x.t.empty, .string (bstr x.t.text), .int .i64 (x.t.at_ : Int), .int .i64 (x.t.end_ : Int)] 29))
  have HB4 := hide (b3.alloc b3.size (.cells #[.int .i8 x.t.kind, .string (bstr x.t.name), .slice x.A x.t.attrs.length x.c, .bool x.t.empty, .string (bstr x.t.text), .int .i64 (x.t.at_ : Int), .int .i64 (x.t.end_ : Int)] 29))
  have K1 := hide (Blk.new w3 29 #[.int .i8 x.t.kind, .string (bstr x.t.name), .slice x.A x.t.attrs.length x.c, .bool x.t.empty, .string (bstr x.t.text), .int .i64 (x.t.at_ : Int), .int .i64 (x.t.end_ : Int)])
  have Hx := hide hx
  clear b3 hxi h3 B2 HO hx
  go_wp2_with fail
  generalize w3.alloc (.cells #[.int .i8 x.t.kind, .string (bstr x.t.name), .slice x.A x.t.attrs.length x.c, .bool x.t.empty, .string (bstr x.t.text), .int .i64 (x.t.at_ : Int), .int .i64 (x.t.end_ : Int)] 29) = W3 at *
  generalize w3.heap.size = T1 at *
  refine (HP.out _).mono ?_
  rintro e w4 h4
  obtain ⟨y, hy, rfl, b4, hyi⟩ := h4.tv
  have HX4 := hide ((HX3.out.below b4).below (below_alloc w4 (.cells #[.int .i8 y.t.kind, .string (bstr y.t.name), .slice y.A y.t.attrs.length y.c, .bool y.t.empty, .string (bstr y.t.text), .int .i64 (y.t.at_ : Int), .int .i64 (y.t.end_ : Int)] 29)))
  have HY4 := hide (hyi.below (below_alloc w4 (.cells #[.int .i8 y.t.kind, .string (bstr y.t.name), .slice y.A y.t.attrs.length y.c, .bool y.t.empty, .string (bstr y.t.text), .int .i64 (y.t.at_ : Int), .int .i64 (y.t.end_ : Int)] 29)))
  have K1' := hide (Blk.alloc (Blk.go K1.out b4) (.cells #[.int .i8 y.t.kind, .string (bstr y.t.name), .slice y.A y.t.attrs.length y.c, .bool y.t.empty, .string (bstr y.t.text), .int .i64 (y.t.at_ : Int), .int .i64 (y.t.end_ : Int)] 29))
  have K2 := hide (Blk.new w4 29 #[.int .i8 y.t.kind, .string (bstr y.t.name), .slice y.A y.t.attrs.length y.c, .bool y.t.empty, .string (bstr y.t.text), .int .i64 (y.t.at_ : Int), .int .i64 (y.t.end_ : Int)])
  have B5 := hide ((B4.out.trans (b4.mono B4.out.size)).alloc (by have := B4.out.size; have := b4.size; omega) (.cells #[.int .i8 y.t.kind, .string (bstr y.t.name), .slice y.A y.t.attrs.length y.c, .bool y.t.empty, .string (bstr y.t.text), .int .i64 (y.t.at_ : Int), .int .i64 (y.t.end_ : Int)] 29))
  have HB5 := hide ((HB4.out.trans (b4.mono HB4.out.size)).alloc (by have := HB4.out.size; have := b4.size; omega) (.cells #[.int .i8 y.t.kind, .string (bstr y.t.name), .slice y.A y.t.attrs.length y.c, .bool y.t.empty, .string (bstr y.t.text), .int .i64 (y.t.at_ : Int), .int .i64 (y.t.end_ : Int)] 29))
  have Hy := hide hy
  clear b4 hyi h4 HX3 K1 B4 HB4 HP hy
  go_wp2_with fail
  generalize w4.alloc (.cells #[.int .i8 y.t.kind, .string (bstr y.t.name), .slice y.A y.t.attrs.length y.c, .bool y.t.empty, .string (bstr y.t.text), .int .i64 (y.t.at_ : Int), .int .i64 (y.t.end_ : Int)] 29) = W4 at *
  generalize w4.heap.size = T2 at *
  have HSm := hide (show Calls Tryz.prog 15 #[.slice A xs.length c, .slice A2 ys.length c2] W4 fun e w' => e = .returned (.bool true) ∧ Below W4.heap.size W4 w' from by
    have h := sameAt_any A A2 c c2 W4.heap.size (xs.map Tv.g) (ys.map Tv.g) W4 ((HS1'.out.below HB5.out).more HB5.out.size) ((HT2.out.below HB5.out).more HB5.out.size) (Nat.le_refl _) (by rw [List.length_map]; have := HXl.out; have := HDl.out; omega) (fun z hz => by have := HAt.out z hz; have := HDl.out; omega) HF.out
    rwa [List.length_map, List.length_map] at h)
  refine HSm.out.mono ?_
  rintro e w5 ⟨rfl, b5⟩
  have HX5 := hide (HX4.out.below b5)
  have HY5 := hide (HY4.out.below b5)
  have K5 := hide (Blk.go K1'.out b5)
  have L5 := hide (Blk.go K2.out b5)
  have B6 := hide (B5.out.trans (b5.mono B5.out.size))
  clear b5 HSm HX4 HY4 K1' K2 HS1' HT2 HB5
  have p0 := Blk.cell K5.out 0
  have p1 := Blk.cell K5.out 1
  have p2 := Blk.cell K5.out 2
  have p3 := Blk.cell K5.out 3
  have p4 := Blk.cell K5.out 4
  have p5 := Blk.cell K5.out 5
  have p6 := Blk.cell K5.out 6
  have q0 := Blk.cell L5.out 0
  have q1 := Blk.cell L5.out 1
  have q2 := Blk.cell L5.out 2
  have q3 := Blk.cell L5.out 3
  have q4 := Blk.cell L5.out 4
  have q5 := Blk.cell L5.out 5
  have q6 := Blk.cell L5.out 6
  have qq0 := fun o => Blk.cell (Blk.alloc L5.out o) 0
  have qq1 := fun o => Blk.cell (Blk.alloc L5.out o) 1
  have qq2 := fun o => Blk.cell (Blk.alloc L5.out o) 2
  have qq3 := fun o => Blk.cell (Blk.alloc L5.out o) 3
  have qq4 := fun o => Blk.cell (Blk.alloc L5.out o) 4
  have qq5 := fun o => Blk.cell (Blk.alloc L5.out o) 5
  have qq6 := fun o => Blk.cell (Blk.alloc L5.out o) 6
  have H1 := hide (Blk.alloc (Blk.new w5 29 #[.int .i8 x.t.kind, .string (bstr x.t.name), .slice x.A x.t.attrs.length x.c, .bool x.t.empty, .string (bstr x.t.text), .int .i64 (x.t.at_ : Int), .int .i64 (x.t.end_ : Int)]) (.cells #[.int .i8 y.t.kind, .string (bstr y.t.name), .slice y.A y.t.attrs.length y.c, .bool y.t.empty, .string (bstr y.t.text), .int .i64 (y.t.at_ : Int), .int .i64 (y.t.end_ : Int)] 29))
  have H2 := hide (Blk.new (w5.alloc (.cells #[.int .i8 x.t.kind, .string (bstr x.t.name), .slice x.A x.t.attrs.length x.c, .bool x.t.empty, .string (bstr x.t.text), .int .i64 (x.t.at_ : Int), .int .i64 (x.t.end_ : Int)] 29)) 29 #[.int .i8 y.t.kind, .string (bstr y.t.name), .slice y.A y.t.attrs.length y.c, .bool y.t.empty, .string (bstr y.t.text), .int .i64 (y.t.at_ : Int), .int .i64 (y.t.end_ : Int)])
  have HX6 := hide ((HX5.out.below (below_alloc w5 (.cells #[.int .i8 x.t.kind, .string (bstr x.t.name), .slice x.A x.t.attrs.length x.c, .bool x.t.empty, .string (bstr x.t.text), .int .i64 (x.t.at_ : Int), .int .i64 (x.t.end_ : Int)] 29))).below (below_alloc (w5.alloc (.cells #[.int .i8 x.t.kind, .string (bstr x.t.name), .slice x.A x.t.attrs.length x.c, .bool x.t.empty, .string (bstr x.t.text), .int .i64 (x.t.at_ : Int), .int .i64 (x.t.end_ : Int)] 29)) (.cells #[.int .i8 y.t.kind, .string (bstr y.t.name), .slice y.A y.t.attrs.length y.c, .bool y.t.empty, .string (bstr y.t.text), .int .i64 (y.t.at_ : Int), .int .i64 (y.t.end_ : Int)] 29)))
  have HY6 := hide ((HY5.out.below (below_alloc w5 (.cells #[.int .i8 x.t.kind, .string (bstr x.t.name), .slice x.A x.t.attrs.length x.c, .bool x.t.empty, .string (bstr x.t.text), .int .i64 (x.t.at_ : Int), .int .i64 (x.t.end_ : Int)] 29))).below (below_alloc (w5.alloc (.cells #[.int .i8 x.t.kind, .string (bstr x.t.name), .slice x.A x.t.attrs.length x.c, .bool x.t.empty, .string (bstr x.t.text), .int .i64 (x.t.at_ : Int), .int .i64 (x.t.end_ : Int)] 29)) (.cells #[.int .i8 y.t.kind, .string (bstr y.t.name), .slice y.A y.t.attrs.length y.c, .bool y.t.empty, .string (bstr y.t.text), .int .i64 (y.t.at_ : Int), .int .i64 (y.t.end_ : Int)] 29)))
  have B7 := hide ((B6.out.alloc B6.out.size (.cells #[.int .i8 x.t.kind, .string (bstr x.t.name), .slice x.A x.t.attrs.length x.c, .bool x.t.empty, .string (bstr x.t.text), .int .i64 (x.t.at_ : Int), .int .i64 (x.t.end_ : Int)] 29)).alloc (B6.out.alloc B6.out.size (.cells #[.int .i8 x.t.kind, .string (bstr x.t.name), .slice x.A x.t.attrs.length x.c, .bool x.t.empty, .string (bstr x.t.text), .int .i64 (x.t.at_ : Int), .int .i64 (x.t.end_ : Int)] 29)).size (.cells #[.int .i8 y.t.kind, .string (bstr y.t.name), .slice y.A y.t.attrs.length y.c, .bool y.t.empty, .string (bstr y.t.text), .int .i64 (y.t.at_ : Int), .int .i64 (y.t.end_ : Int)] 29))
  have hz := World.size_alloc w5 (.cells #[.int .i8 x.t.kind, .string (bstr x.t.name), .slice x.A x.t.attrs.length x.c, .bool x.t.empty, .string (bstr x.t.text), .int .i64 (x.t.at_ : Int), .int .i64 (x.t.end_ : Int)] 29)
  go_wp2_with fail
  have HSm := hide (sameAt_any (some ⟨w5.heap.size, 0, none⟩) (some ⟨(w5.alloc (.cells #[.int .i8 x.t.kind, .string (bstr x.t.name), .slice x.A x.t.attrs.length x.c, .bool x.t.empty, .string (bstr x.t.text), .int .i64 (x.t.at_ : Int), .int .i64 (x.t.end_ : Int)] 29)).heap.size, 0, none⟩) 1 1 _ [x.g] [y.g] _ (TkL.of (xs := [x]) (reads_blk H1.out) (fun z hz => by simp only [List.mem_singleton] at hz; subst hz; exact HX6.out)) (TkL.of (xs := [y]) (reads_blk H2.out) (fun z hz => by simp only [List.mem_singleton] at hz; subst hz; exact HY6.out)) (Nat.le_refl _) (by simp)
    (fun z hz => by simp only [List.mem_singleton] at hz; subst hz; show (x.t.attrs.map At.g).length ≤ _; rw [List.length_map, Hx.out]; have := Ho.out; omega)
    (by rw [List.map_cons, List.map_cons, tv_face (Hx.out.trans Hy.out.symm)]))
  rw [hz] at HSm
  refine HSm.out.mono ?_
  rintro e w7 ⟨rfl, b7⟩
  have B8 := hide (B7.out.trans (b7.mono B7.out.size))
  go_wp2_with fail
  refine (HWk.out _ B8.out).mono ?_
  rintro e wz ⟨rfl, bz⟩
  go_wp2
  go_ret
  exact ⟨rfl, B8.out.trans (bz.mono B8.out.size)⟩
end Go.Proofs.YtbnaphbmmkmaeaaGreatDoor
