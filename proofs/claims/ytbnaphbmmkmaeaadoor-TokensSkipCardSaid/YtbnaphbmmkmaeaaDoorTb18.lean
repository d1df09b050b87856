/- Tokens in memory, wherever they lie: whether two rows are the same. · Tokens: lists that All has made, as lists that lie anywhere; what the laws' wake-up asks. · Tokens: words for the laws: where tokens end; the first ones of a list. · The document's Char and Bad. (Printed by wip/genTkZb.py.) · Tokens: words for the law on comments; no walk. -/
import Derived.Test.YtbnaphbmmkmaeaaDoorTb02
import Derived.Test.YtbnaphbmmkmaeaaDoorTb13
import Derived.Test.YtbnaphbmmkmaeaaDoorTb16
import Derived.Test.YtbnaphbmmkmaeaaDoorTb17
set_option linter.unusedSimpArgs false
set_option linter.unusedVariables false
namespace Go.Proofs.YtbnaphbmmkmaeaaDoor
open Go.RowKit Tk

set_option maxHeartbeats 4000000 in
theorem same_any (A A' : Option Addr) (c c' B : Nat) (l l' : List Gt) (w : World) (hA : TkL w B A l) (hA' : TkL w B A' l') (hB : B ≤ w.heap.size) (hl : l.length ≤ 1000000000) (hl' : l'.length ≤ 1000000000) (hs : ∀ x ∈ l, x.as_.length ≤ 1000000000) (hs' : ∀ x ∈ l', x.as_.length ≤ 1000000000) :
    Calls Tryd.prog 10 #[.slice A l.length c, .slice A' l'.length c'] w fun e w' => e = .returned (.bool (decide (l.map Gt.bare = l'.map Gt.bare))) ∧ Below w.heap.size w w' := by
  obtain ⟨n, hn⟩ : ∃ n, l.length = n := ⟨_, rfl⟩
  obtain ⟨n', hn'⟩ : ∃ n, l'.length = n := ⟨_, rfl⟩
  have HA := hide hA
  have HA' := hide hA'
  rw [hn] at hl ⊢
  rw [hn'] at hl' ⊢
  have Hn := hide hn
  have Hn' := hide hn'
  have Hs := hide hs
  have Hs' := hide hs'
  clear hn hn' hA hA' hs hs'
  obtain ⟨ml, hml⟩ : ∃ m, l.map Gt.bare = m := ⟨_, rfl⟩
  obtain ⟨ml', hml'⟩ : ∃ m, l'.map Gt.bare = m := ⟨_, rfl⟩
  have Hml := hide hml
  have Hml' := hide hml'
  rw [hml, hml']
  clear hml hml'
  have Hlm := hide (show ml.length = n by rw [← Hml.out, List.length_map, Hn.out])
  have Hlm' := hide (show ml'.length = n' by rw [← Hml'.out, List.length_map, Hn'.out])
  by_cases hne : n = n'
  · subst hne
    have ht : ((n : Int) != (n : Int)) = false := by simp
    go_enter Tryd.func10, Tryd.ntmps10
    go_wp2
    go_loopg [15] n (fun g vi wr => ∃ k : Nat, g = n - k ∧ k ≤ n ∧ vi = .int .i64 k ∧ ml.take k = ml'.take k ∧ Below w.heap.size w wr)
    case atStart => exact ⟨0, rfl, Nat.zero_le _, rfl, by simp, Below.refl _ _⟩
    case round =>
      obtain ⟨k, hg, hk, rfl, htk, hB1⟩ := hrel
      have Hg := hide hg
      have Htk := hide htk
      have HB1 := hide hB1
      clear hg htk hB1
      by_cases hlt : k < n
      · have h1 : k < l.length := by rw [Hn.out]; exact hlt
        have h2 : k < l'.length := by rw [Hn'.out]; exact hlt
        obtain ⟨b, off, rfl, hb, hx⟩ := (HA.out.below (HB1.out.mono hB)).row.gt h1
        obtain ⟨b', off', rfl, hb', hy⟩ := (HA'.out.below (HB1.out.mono hB)).row.gt h2
        have Ex := hide (show ml[k]'(by rw [Hlm.out]; exact hlt) = (l[k]).bare by simp only [← Hml.out, List.getElem_map])
        have Ey := hide (show ml'[k]'(by rw [Hlm'.out]; exact hlt) = (l'[k]).bare by simp only [← Hml'.out, List.getElem_map])
        have HSa := hide (fun W (hW : Below w.heap.size w W) => sameAttrs_any l[k].A l'[k].A l[k].c l'[k].c B l[k].as_ l'[k].as_ W ((HA.out.below (hW.mono hB)).sub _ (List.getElem_mem h1)) ((HA'.out.below (hW.mono hB)).sub _ (List.getElem_mem h2)) (Hs.out _ (List.getElem_mem h1)) (Hs'.out _ (List.getElem_mem h2)))
        generalize l[k] = x at *
        generalize l'[k] = y at *
        have x0 := hx.c0
        have x1 := hx.c1
        have x2 := hx.c2
        have x3 := hx.c3
        have x4 := hx.c4
        have x5 := hx.c5
        have x6 := hx.c6
        have y0 : ∀ o, (wr.alloc o).cell? _ = _ := fun o => cell_go (below_alloc _ _) hy.c0
        have y1 : ∀ o, (wr.alloc o).cell? _ = _ := fun o => cell_go (below_alloc _ _) hy.c1
        have y2 : ∀ o, (wr.alloc o).cell? _ = _ := fun o => cell_go (below_alloc _ _) hy.c2
        have y3 : ∀ o, (wr.alloc o).cell? _ = _ := fun o => cell_go (below_alloc _ _) hy.c3
        have y4 : ∀ o, (wr.alloc o).cell? _ = _ := fun o => cell_go (below_alloc _ _) hy.c4
        have y5 : ∀ o, (wr.alloc o).cell? _ = _ := fun o => cell_go (below_alloc _ _) hy.c5
        have y6 : ∀ o, (wr.alloc o).cell? _ = _ := fun o => cell_go (below_alloc _ _) hy.c6
        clear hx hy
        have V1 := (Blk.new wr 29 #[.int .i8 x.kind, .string x.name, .slice x.A x.as_.length x.c, .bool x.empty, .string x.text, .int .i64 x.at_, .int .i64 x.end_]).alloc (.cells #[.int .i8 y.kind, .string y.name, .slice y.A y.as_.length y.c, .bool y.empty, .string y.text, .int .i64 y.at_, .int .i64 y.end_] 29)
        have V2 := Blk.new (wr.alloc (.cells #[.int .i8 x.kind, .string x.name, .slice x.A x.as_.length x.c, .bool x.empty, .string x.text, .int .i64 x.at_, .int .i64 x.end_] 29)) 29 #[.int .i8 y.kind, .string y.name, .slice y.A y.as_.length y.c, .bool y.empty, .string y.text, .int .i64 y.at_, .int .i64 y.end_]
        rw [World.size_alloc] at V2
        have HB2 := hide ((HB1.out.alloc HB1.out.size (.cells #[.int .i8 x.kind, .string x.name, .slice x.A x.as_.length x.c, .bool x.empty, .string x.text, .int .i64 x.at_, .int .i64 x.end_] 29)).alloc (by have := HB1.out.size; simp; omega) (.cells #[.int .i8 y.kind, .string y.name, .slice y.A y.as_.length y.c, .bool y.empty, .string y.text, .int .i64 y.at_, .int .i64 y.end_] 29))
        have p0 := V1.cell 0
        have p1 := V1.cell 1
        have p2 := V1.cell 2
        have p3 := V1.cell 3
        have p4 := V1.cell 4
        have p5 := V1.cell 5
        have p6 := V1.cell 6
        have q0 := V2.cell 0
        have q1 := V2.cell 1
        have q2 := V2.cell 2
        have q3 := V2.cell 3
        have q4 := V2.cell 4
        have q5 := V2.cell 5
        have q6 := V2.cell 6
        clear V1 V2
        by_cases h0 : x.kind = y.kind
        · have t0 : (x.kind != y.kind) = false := by rw [h0]; simp
          by_cases h1' : x.name = y.name
          · have t1 : (x.name.toList == y.name.toList) = true := neq_str_dec _ _ h1'
            by_cases h2' : x.empty = y.empty
            · have t2 : (x.empty == y.empty) = true := by rw [h2']; simp
              by_cases h3' : x.text = y.text
              · have t3 : (x.text.toList == y.text.toList) = true := neq_str_dec _ _ h3'
                have HSc := HSa.out _ HB2.out
                by_cases hsm : x.as_.map Ga.bare = y.as_.map Ga.bare
                · have hd : decide (x.as_.map Ga.bare = y.as_.map Ga.bare) = true := decide_eq_true hsm
                  rw [hd] at HSc
                  have Hsc := hide HSc
                  have Hxy := hide (show x.bare = y.bare by unfold Gt.bare; rw [h0, h1', h2', h3', hsm])
                  clear hsm hd HSc HSa h0 h1' h2' h3'
                  go_wp2_with fail
                  refine Hsc.out.mono ?_
                  rintro e w5 ⟨rfl, m5, rfl⟩
                  go_wp2
                  go_roundg (n - (k + 1))
                  case measure => have := Hg.out; omega
                  case rel => exact ⟨k + 1, rfl, by omega, by go_num, eq_take (by rw [Hlm.out]; exact hlt) (by rw [Hlm'.out]; exact hlt) Htk.out (by rw [Ex.out, Ey.out, Hxy.out]), below_drewN HB2.out _⟩
                · have hd : decide (x.as_.map Ga.bare = y.as_.map Ga.bare) = false := decide_eq_false hsm
                  rw [hd] at HSc
                  have Hsc := hide HSc
                  have Hxy := hide (show x.bare ≠ y.bare from fun h => hsm (congrArg Gb.as_ h))
                  clear hsm hd HSc HSa h0 h1' h2' h3'
                  go_wp2_with fail
                  refine Hsc.out.mono ?_
                  rintro e w5 ⟨rfl, m5, rfl⟩
                  go_wp2
                  go_ret
                  exact ⟨ret_eq1 (bool_eq (by rw [eq_comm, decide_eq_false_iff_not]; exact ne_at (by rw [Hlm.out]; exact hlt) (by rw [Hlm'.out]; exact hlt) (by rw [Ex.out, Ey.out]; exact Hxy.out))), below_drewN HB2.out _⟩
              · have t3 : (x.text.toList == y.text.toList) = false := neq_str_dec' _ _ h3'
                have Hxy := hide (show x.bare ≠ y.bare from fun h => h3' (congrArg Gb.text h))
                clear h3' HSa h0 h1' h2'
                go_wp2
                go_ret
                exact ⟨ret_eq1 (bool_eq (by rw [eq_comm, decide_eq_false_iff_not]; exact ne_at (by rw [Hlm.out]; exact hlt) (by rw [Hlm'.out]; exact hlt) (by rw [Ex.out, Ey.out]; exact Hxy.out))), HB2.out⟩
            · have t2 : (x.empty == y.empty) = false := by simpa using h2'
              have Hxy := hide (show x.bare ≠ y.bare from fun h => h2' (congrArg Gb.empty h))
              clear h2' HSa h0 h1'
              go_wp2
              go_ret
              exact ⟨ret_eq1 (bool_eq (by rw [eq_comm, decide_eq_false_iff_not]; exact ne_at (by rw [Hlm.out]; exact hlt) (by rw [Hlm'.out]; exact hlt) (by rw [Ex.out, Ey.out]; exact Hxy.out))), HB2.out⟩
          · have t1 : (x.name.toList == y.name.toList) = false := neq_str_dec' _ _ h1'
            have Hxy := hide (show x.bare ≠ y.bare from fun h => h1' (congrArg Gb.name h))
            clear h1' HSa h0
            go_wp2
            go_ret
            exact ⟨ret_eq1 (bool_eq (by rw [eq_comm, decide_eq_false_iff_not]; exact ne_at (by rw [Hlm.out]; exact hlt) (by rw [Hlm'.out]; exact hlt) (by rw [Ex.out, Ey.out]; exact Hxy.out))), HB2.out⟩
        · have t0 : (x.kind != y.kind) = true := by simpa using h0
          have Hxy := hide (show x.bare ≠ y.bare from fun h => h0 (congrArg Gb.kind h))
          clear h0 HSa
          go_wp2
          go_ret
          exact ⟨ret_eq1 (bool_eq (by rw [eq_comm, decide_eq_false_iff_not]; exact ne_at (by rw [Hlm.out]; exact hlt) (by rw [Hlm'.out]; exact hlt) (by rw [Ex.out, Ey.out]; exact Hxy.out))), HB2.out⟩
      · go_wp2
        go_ret
        exact ⟨ret_eq1 (bool_eq (by rw [eq_comm, decide_eq_true_eq]; have := Htk.out; rwa [List.take_of_length_le (by rw [Hlm.out]; omega), List.take_of_length_le (by rw [Hlm'.out]; omega)] at this)), HB1.out⟩
  · have ht : ((n : Int) != (n' : Int)) = true := by simp; omega
    have Hne := hide hne
    clear hne
    go_enter Tryd.func10, Tryd.ntmps10
    go_wp2
    go_ret
    exact ⟨ret_eq1 (bool_eq (by rw [eq_comm, decide_eq_false_iff_not]; rintro rfl; exact Hne.out (Hlm.out.symm.trans Hlm'.out))), Below.refl _ _⟩
end Go.Proofs.YtbnaphbmmkmaeaaDoor
namespace Go.Proofs.YtbnaphbmmkmaeaaDoor
open Go.RowKit Tk

def Tk.At.g (a : At) : Ga := ⟨bstr a.name, bstr a.value, (a.at_ : Int)⟩
def Tv.g (x : Tv) : Gt := ⟨x.t.kind, bstr x.t.name, x.t.attrs.map At.g, x.A, x.c, x.t.empty, bstr x.t.text, (x.t.at_ : Int), (x.t.end_ : Int)⟩
theorem attrVs_g (l : List At) : attrVs l = gas (l.map At.g) := by
  induction l with
  | nil => rfl
  | cons a l ih => unfold attrVs gas at ih ⊢; rw [List.flatMap_cons, List.map_cons, List.flatMap_cons, ih]; rfl
theorem row_g (x : Tv) : x.row = gtCells x.g := by
  unfold Tv.row tokCells gtCells Tv.g
  simp only [List.length_map]
theorem tvRows_g (xs : List Tv) : tvRows xs = gts (xs.map Tv.g) := by
  induction xs with
  | nil => rfl
  | cons a l ih => unfold tvRows gts at ih ⊢; rw [List.flatMap_cons, List.map_cons, List.flatMap_cons, ih, row_g]
theorem Tv.In.g {x : Tv} {B : Nat} {W : World} (h : x.In B W) : Reads W W.heap.size 3 x.g.A x.g.as_.length (gas x.g.as_) := by
  have := h.a
  rw [attrVs_g] at this
  unfold Tv.g
  simp only [List.length_map]
  exact this
/-- A list that All has made lies in memory. -/
theorem TkL.of {W : World} {A : Option Addr} {xs : List Tv} {B : Nat} (h : Reads W W.heap.size 7 A xs.length (tvRows xs)) (hi : ∀ x ∈ xs, x.In B W) : TkL W W.heap.size A (xs.map Tv.g) := by
  refine ⟨?_, fun x hx => ?_⟩
  · rw [List.length_map, ← tvRows_g]; exact h
  · obtain ⟨y, hy, rfl⟩ := List.mem_map.1 hx
    exact (hi y hy).g
theorem g_bare (x y : Tv) (h : x.t.bare = y.t.bare) : x.g.bare = y.g.bare := by
  have e : ∀ z : Tv, z.g.bare = ⟨z.t.bare.kind, bstr z.t.bare.name, z.t.bare.attrs.map (fun a => (bstr a.name, bstr a.value)), z.t.bare.empty, bstr z.t.bare.text⟩ := fun z => by
    unfold Tv.g Gt.bare Tok.bare
    simp only [List.map_map]
    rfl
  rw [e, e, h]
theorem gs_bare : ∀ (xs ys : List Tv), (xs.map (·.t)).map Tok.bare = (ys.map (·.t)).map Tok.bare → (xs.map Tv.g).map Gt.bare = (ys.map Tv.g).map Gt.bare
  | [], [], _ => rfl
  | [], _ :: _, h => by simp at h
  | _ :: _, [], h => by simp at h
  | x :: xs, y :: ys, h => by
    simp only [List.map_cons, List.cons.injEq] at h ⊢
    exact ⟨g_bare x y h.1, gs_bare xs ys h.2⟩
/-- The tokens that a right text has, by computing. -/
theorem Tk.AllP.comp {s : L} {ts : List Tok} {e : Nat} {ok : Bool} (h : AllP s ts e ok) (hv : Utf.valid s = true) : ts = toks s.length 0 s ∧ Chain 0 ts e ∧ ok = decide (e = s.length) := by
  have hl := h.len
  rw [hv, Bool.and_true] at hl
  refine ⟨?_, hl.2.1, hl.2.2⟩
  unfold AllP at h
  rw [if_pos hv] at h
  obtain ⟨w, rest, rfl, h1, h2, rfl, rfl⟩ := h
  exact (toks_row h1 (by rw [Nat.zero_add]; exact h2) (w ++ rest).length (Nat.le_refl _)).symm
theorem Tk.Chain.end_ : ∀ {ts : List Tok} {n e : Nat}, Chain n ts e → e = (ts.getLast?.map (·.end_)).getD n
  | [], n, e, h => h.symm
  | [t], n, e, h => h.2.2.symm
  | t :: u :: r, n, e, h => by
    have := Tk.Chain.end_ (ts := u :: r) h.2.2
    rw [this]
    simp [List.getLast?_cons]
def wk1 : L := [60, 97, 32, 98, 61, 39, 49, 39, 47, 62, 120]
def wk2 : L := [97, 32, 93, 93, 62]
theorem wk1_toks : toks wk1.length 0 wk1 = [⟨0, [97], [⟨[98], [49], 3⟩], true, [], 0, 10⟩, ⟨2, [], [], false, [120], 10, 11⟩] := by decide +kernel
theorem wk2_toks : toks wk2.length 0 wk2 = [] := by decide +kernel
theorem wk1_all {ts : List Tok} {e : Nat} {ok : Bool} (h : AllP wk1 ts e ok) : ts = [⟨0, [97], [⟨[98], [49], 3⟩], true, [], 0, 10⟩, ⟨2, [], [], false, [120], 10, 11⟩] ∧ e = 11 ∧ ok = true := by
  obtain ⟨h1, h2, h3⟩ := h.comp (by decide +kernel)
  rw [wk1_toks] at h1
  subst h1
  have he := h2.end_
  subst he
  exact ⟨rfl, rfl, h3⟩
theorem wk2_all {ts : List Tok} {e : Nat} {ok : Bool} (h : AllP wk2 ts e ok) : ts = [] ∧ e = 0 ∧ ok = false := by
  obtain ⟨h1, h2, h3⟩ := h.comp (by decide +kernel)
  rw [wk2_toks] at h1
  subst h1
  have he := h2.end_
  subst he
  exact ⟨rfl, rfl, h3⟩
theorem map_two {xs : List Tv} {t u : Tok} (h : xs.map (·.t) = [t, u]) : ∃ x y, xs = [x, y] ∧ x.t = t ∧ y.t = u := by
  match xs, h with
  | [x, y], h => simp only [List.map_cons, List.map_nil, List.cons.injEq, and_true] at h; exact ⟨x, y, rfl, h.1, h.2⟩
/-- The cells that the wake-up asks for. -/
theorem wk1_cells {W : World} {A : Option Addr} {xs : List Tv} {B : Nat} (h : Reads W W.heap.size 7 A xs.length (tvRows xs)) (hi : ∀ x ∈ xs, x.In B W)
    (hx : xs.map (·.t) = [⟨0, [97], [⟨[98], [49], 3⟩], true, [], 0, 10⟩, ⟨2, [], [], false, [120], 10, 11⟩]) :
    xs.length = 2 ∧ ∃ b off b' off' cc, A = some ⟨b, off, none⟩ ∧ b < W.heap.size ∧ b' < W.heap.size ∧ W.cell? ⟨b, off + 1, none⟩ = some (.string ⟨#[97]⟩) ∧ W.cell? ⟨b, off + 3, none⟩ = some (.bool true) ∧
      W.cell? ⟨b, off + 2, none⟩ = some (.slice (some ⟨b', off', none⟩) 1 cc) ∧ W.cell? ⟨b', off' + 1, none⟩ = some (.string ⟨#[49]⟩) ∧ W.cell? ⟨b, off + 7 + 4, none⟩ = some (.string ⟨#[120]⟩) := by
  obtain ⟨x, y, rfl, hx0, hy0⟩ := map_two hx
  have hT := TkL.of h hi
  obtain ⟨b, off, rfl, hb, h0⟩ := hT.row.gt (k := 0) (by simp)
  obtain ⟨b1, off1, e, hb1, h1⟩ := hT.row.gt (k := 1) (by simp)
  cases e
  have hs := hT.sub x.g (by simp)
  have ex : x.g.as_ = [⟨⟨#[98]⟩, ⟨#[49]⟩, 3⟩] := by show x.t.attrs.map At.g = _; rw [hx0]; rfl
  rw [ex] at hs
  obtain ⟨b', off', eA, hb', g0⟩ := hs.ga (k := 0) (by simp)
  have n0 : x.g.name = ⟨#[97]⟩ := by show bstr x.t.name = _; rw [hx0]; rfl
  have m0 : x.g.empty = true := by show x.t.empty = _; rw [hx0]
  have t1 : y.g.text = ⟨#[120]⟩ := by show bstr y.t.text = _; rw [hy0]; rfl
  refine ⟨rfl, b, off, b', off', x.g.c, rfl, hb, hb', ?_, ?_, ?_, ?_, ?_⟩
  · have := h0.c1; simp only [List.map_cons, List.getElem_cons_zero, n0, Nat.zero_mul, Nat.add_zero] at this; exact this
  · have := h0.c3; simp only [List.map_cons, List.getElem_cons_zero, m0, Nat.zero_mul, Nat.add_zero] at this; exact this
  · have := h0.c2; simp only [List.map_cons, List.getElem_cons_zero, ex, eA, Nat.zero_mul, Nat.add_zero] at this; exact this
  · have := g0.c1; simp only [List.getElem_cons_zero, Nat.zero_mul, Nat.add_zero] at this; exact this
  · have := h1.c4; simp only [List.map_cons, List.getElem_cons_succ, List.getElem_cons_zero, t1, Nat.one_mul] at this; exact this

set_option maxHeartbeats 8000000 in
theorem wakes_any (w : World) (hg : Gl w) (hw6 : 6 ≤ w.heap.size) : Calls Tryd.prog 7 #[] w fun e w' => e = .returned (.bool true) ∧ Below w.heap.size w w' := by
  have HG := hide hg
  have H1 := hide (tks_any w ⟨#[60, 97, 32, 98, 61, 39, 49, 39, 47, 62, 120]⟩ hg hw6 (by decide))
  clear hg
  go_enter Tryd.func7, Tryd.ntmps7
  go_wp2_with fail
  refine H1.out.mono ?_
  rintro e w1 ⟨xs, A, c, n, ok, hP, -, -, rfl, b1, hr, -, -, hi⟩
  obtain ⟨hx, rfl, rfl⟩ := wk1_all hP
  have H2 := hide (tks_any w1 ⟨#[97, 32, 93, 93, 62]⟩ (HG.out.below b1) (by have := b1.size; omega) (by decide))
  obtain ⟨hn, b, off, b', off', cc, rfl, hb, hb', q1, q3, q2, q5, q4⟩ := wk1_cells hr hi hx
  have B1 := hide b1
  rw [hn]
  clear hP hr hi hx b1 hn H1
  go_wp2_with fail
  refine H2.out.mono ?_
  rintro e w2 ⟨xs2, A2, c2, n2, ok2, hP2, -, -, rfl, b2, -, -, -, -⟩
  obtain ⟨hx2, rfl, rfl⟩ := wk2_all hP2
  replace q1 := cell_go b2 q1
  replace q2 := cell_go b2 q2
  replace q3 := cell_go b2 q3
  replace q4 := cell_go b2 q4
  replace q5 := cell_go b2 q5
  have B2 := hide (B1.out.trans (b2.mono B1.out.size))
  clear hP2 hx2 b2 B1 H2
  go_wp2
  go_ret
  exact ⟨rfl, B2.out⟩
end Go.Proofs.YtbnaphbmmkmaeaaDoor
namespace Go.Proofs.YtbnaphbmmkmaeaaDoor
open Go.RowKit Tk

/-- Where the first tokens end. -/
def ends (ts : List Tok) (j : Nat) : Nat := ((ts.take j).getLast?.map (·.end_)).getD 0
theorem ends_zero (ts : List Tok) : ends ts 0 = 0 := rfl
theorem ends_next {ts : List Tok} {j : Nat} {t : Tok} (h : ts[j]? = some t) : ends ts (j + 1) = t.end_ := by
  unfold ends
  rw [List.take_add_one, h]
  simp
theorem chain_at {ts : List Tok} {n e : Nat} (h : Chain n ts e) : ∀ j (hj : j < ts.length), ts[j].at_ = ((ts.take j).getLast?.map (·.end_)).getD n ∧ ts[j].at_ < ts[j].end_ ∧ ts[j].end_ ≤ e := by
  induction ts generalizing n with
  | nil => intro j hj; simp at hj
  | cons t ts ih =>
    obtain ⟨h1, h2, h3⟩ := h
    intro j hj
    have hle : ∀ {l : List Tok} {a b : Nat}, Chain a l b → a ≤ b := by
      intro l
      induction l with
      | nil => intro a b h; exact Nat.le_of_eq h
      | cons u l ih2 => intro a b h; exact Nat.le_trans (Nat.le_of_lt h.2.1) (ih2 h.2.2)
    cases j with
    | zero => exact ⟨h1, by simp only [List.getElem_cons_zero]; omega, hle h3⟩
    | succ j =>
      have := ih h3 j (by simpa using hj)
      refine ⟨?_, this.2⟩
      simp only [List.getElem_cons_succ, List.take_succ_cons]
      rw [this.1]
      cases hl : ts.take j with
      | nil => rfl
      | cons u l => simp [List.getLast?_cons]
theorem ends_at {ts : List Tok} {e : Nat} (h : Chain 0 ts e) {j : Nat} (hj : j < ts.length) : ts[j].at_ = ends ts j ∧ ends ts j < ends ts (j + 1) ∧ ends ts (j + 1) ≤ e ∧ ts[j].end_ = ends ts (j + 1) := by
  obtain ⟨h1, h2, h3⟩ := chain_at h j hj
  have h4 := ends_next (List.getElem?_eq_getElem hj)
  rw [h4]
  exact ⟨h1, by rw [show ends ts j = ts[j].at_ from h1.symm]; exact h2, h3, rfl⟩
theorem ends_all {ts : List Tok} {e : Nat} (h : Chain 0 ts e) : ends ts ts.length = e := by
  unfold ends
  rw [List.take_length]
  exact h.end_.symm
theorem gts_take : ∀ (l : List Gt) (q : Nat), q ≤ l.length → gts (l.take q) = (gts l).take (q * 7)
  | [], q, h => by
    have : q = 0 := by simpa using h
    subst this
    rfl
  | x :: l, 0, _ => by simp [gts]
  | x :: l, q + 1, h => by
    have ih := gts_take l q (by simpa using h)
    have hl : (gtCells x).length = 7 := rfl
    unfold gts at ih ⊢
    rw [List.take_succ_cons, List.flatMap_cons, List.flatMap_cons, ih, List.take_append, hl, List.take_of_length_le (l := gtCells x) (by omega), show (q + 1) * 7 - 7 = q * 7 by omega]
theorem TkL.take {w : World} {B : Nat} {A : Option Addr} {xs : List Gt} (h : TkL w B A xs) {q : Nat} (hq : q ≤ xs.length) : TkL w B A (xs.take q) := by
  refine ⟨⟨?_, fun hn => ?_⟩, fun x hx => h.sub x (List.mem_of_mem_take hx)⟩
  · rw [gts_length]
  · rw [List.length_take] at hn
    obtain ⟨b, off, hA, hb, hc⟩ := h.row.2 (by omega)
    refine ⟨b, off, hA, hb, fun j u hu => hc j u ?_⟩
    rw [gts_take _ _ hq, List.getElem?_take] at hu
    split at hu
    · exact hu
    · cases hu
/-- The list from a token on: the slice's address moves on. -/
theorem TkL.drop {w : World} {B b off : Nat} {xs : List Gt} (h : TkL w B (some ⟨b, off, none⟩) xs) {q : Nat} (hq : q < xs.length) : TkL w B (some ⟨b, off + q * 7, none⟩) (xs.drop q) := by
  refine ⟨⟨?_, fun hn => ?_⟩, fun x hx => h.sub x (List.mem_of_mem_drop hx)⟩
  · rw [gts_length]
  · obtain ⟨b', off', hA, hb, hc⟩ := h.row.2 (by omega)
    cases hA
    refine ⟨b, off + q * 7, rfl, hb, fun j u hu => ?_⟩
    have hd : gts xs = gts (xs.take q) ++ gts (xs.drop q) := by unfold gts; rw [← List.flatMap_append, List.take_append_drop]
    have hl : (gts (xs.take q)).length = q * 7 := by rw [gts_length, List.length_take, Nat.min_eq_left (by omega)]
    have := hc (q * 7 + j) u (by rw [hd, List.getElem?_append_right (by omega), hl, Nat.add_sub_cancel_left]; exact hu)
    rwa [← Nat.add_assoc] at this
theorem tv_ends {xs : List Tv} {e : Nat} (h : Chain 0 (xs.map (·.t)) e) {j : Nat} (hj : j < xs.length) : ∃ x, xs[j]? = some x ∧ x.t.at_ = ends (xs.map (·.t)) j ∧ ends (xs.map (·.t)) j < ends (xs.map (·.t)) (j + 1) ∧ ends (xs.map (·.t)) (j + 1) ≤ e ∧ x.t.end_ = ends (xs.map (·.t)) (j + 1) := by
  obtain ⟨h1, h2, h3, h4⟩ := ends_at h (j := j) (by rw [List.length_map]; exact hj)
  rw [List.getElem_map] at h1 h4
  exact ⟨xs[j], List.getElem?_eq_getElem hj, h1, h2, h3, h4⟩
theorem TkL.at_ {w : World} {B : Nat} {A : Option Addr} {xs : List Tv} (h : TkL w B A (xs.map Tv.g)) {j : Nat} {x : Tv} (hx : xs[j]? = some x) : ∃ b off, A = some ⟨b, off, none⟩ ∧ b < B ∧ GtAt w b (off + j * 7) x.g := by
  obtain ⟨hj, he⟩ := List.getElem?_eq_some_iff.1 hx
  obtain ⟨b, off, h1, h2, h3⟩ := h.row.gt (k := j) (by rw [List.length_map]; exact hj)
  rw [List.getElem_map, he] at h3
  exact ⟨b, off, h1, h2, h3⟩
theorem attrsW_len {off : Nat} {w : L} {as_ : List At} {e : Bool} (h : AttrsW off w as_ e) : as_.length ≤ w.length := by
  induction h with
  | two off b hb => simp
  | one off b hb => simp
  | more off b nm v x w as_ e hb h0 hn hn0 hv h60 hw ih =>
    have hbl : 0 < b.length := List.length_pos_iff.2 h0
    simp only [List.length_append, List.length_cons]
    omega
theorem tokW_len {at_ : Nat} {w : L} {t : Tok} (h : TokW at_ w t) : t.attrs.length ≤ w.length := by
  cases h with
  | start _ nm wa as_ e hn h0 ha =>
    have := attrsW_len ha
    simp only [List.length_append, List.length_cons]
    omega
  | _ => exact Nat.zero_le _
theorem row_attrs {at_ : Nat} {w rest : L} {ts : List Tok} (h : Row at_ w rest ts) : ∀ t ∈ ts, t.attrs.length ≤ w.length := by
  induction h with
  | nil => intro t ht; cases ht
  | cons at_ w t w2 rest ts hw hf hk _ ih =>
    intro u hu
    rw [List.length_append]
    rcases List.mem_cons.1 hu with rfl | hu
    · have := tokW_len hw; omega
    · have := ih u hu; omega
theorem allP_attrs {s : L} {ts : List Tok} {n : Nat} {ok : Bool} (h : AllP s ts n ok) : ∀ t ∈ ts, t.attrs.length ≤ s.length := by
  unfold AllP at h
  split at h
  · obtain ⟨w, rest, rfl, h1, _⟩ := h
    intro t ht
    have := row_attrs h1 t ht
    rw [List.length_append]
    omega
  · obtain ⟨rfl, _⟩ := h
    intro t ht
    cases ht
theorem attrs_small {s : L} {xs : List Tv} {n : Nat} {ok : Bool} (h : AllP s (xs.map (·.t)) n ok) {y : Gt} (hy : y ∈ xs.map Tv.g) : y.as_.length ≤ s.length := by
  obtain ⟨x, hx, rfl⟩ := List.mem_map.1 hy
  have := allP_attrs h x.t (List.mem_map_of_mem hx)
  show (x.t.attrs.map At.g).length ≤ _
  rw [List.length_map]
  exact this
/-- k, brought within a length. -/
theorem mod_in (k : Int) {n : Nat} (hn : 0 < n) : ∃ m : Int, Int.tmod k (n : Int) = m ∧ -(n : Int) < m ∧ m < n ∧ ∃ j : Nat, Int.tmod (m + n) (n : Int) = j ∧ j < n := by
  refine ⟨_, rfl, by have := Int.lt_tmod_of_pos k (show (0 : Int) < n by omega); omega, Int.tmod_lt_of_pos k (by omega), ?_⟩
  have h1 := Int.lt_tmod_of_pos k (show (0 : Int) < n by omega)
  have h2 := Int.tmod_nonneg (n : Int) (show 0 ≤ Int.tmod k n + n by omega)
  have h3 := Int.tmod_lt_of_pos (Int.tmod k n + n) (show (0 : Int) < n by omega)
  exact ⟨(Int.tmod (Int.tmod k n + n) (n : Int)).toNat, by omega, by omega⟩
end Go.Proofs.YtbnaphbmmkmaeaaDoor
namespace Go.Proofs.YtbnaphbmmkmaeaaDoor
open Go.RowKit Tk

theorem refWithin_any (r a b : Int) (w : World) : Calls Tryd.prog 35 #[.int .i64 r, .int .i64 a, .int .i64 b] w fun e w' => e = .returned (.bool (Tk.within r a b)) ∧ w' = w := by
  unfold Tk.within
  by_cases h1 : a ≤ r
  · by_cases h2 : r ≤ b
    · go_enter Tryd.func35, Tryd.ntmps35
      go_wp2
      go_ret
      simp [h1, h2]
    · go_enter Tryd.func35, Tryd.ntmps35
      go_wp2
      go_ret
      simp [h1, h2]
  · go_enter Tryd.func35, Tryd.ntmps35
    go_wp2
    go_ret
    simp [h1]
    intro h
    omega
theorem charOk_is (r : Int) : charOk r = (decide (r = 9) || (decide (r = 10) || (decide (r = 13) || (Tk.within r 32 55295 || (Tk.within r 57344 65533 || Tk.within r 65536 1114111))))) := by
  have e : (Tk.within r 9 10 || Tk.within r 13 13) = (decide (r = 9) || (decide (r = 10) || decide (r = 13))) := by
    unfold Tk.within
    rw [Bool.eq_iff_iff]
    simp only [Bool.or_eq_true, Bool.and_eq_true, decide_eq_true_eq]
    omega
  unfold charOk
  rw [e]
  simp only [Bool.or_assoc]
set_option maxHeartbeats 4000000 in
theorem refChar_any (r : Int) (w : World) : Calls Tryd.prog 21 #[.int .i64 r] w fun e w' => e = .returned (.bool (charOk r)) ∧ w' = w := by
  rw [charOk_is]
  have HA := hide (refWithin_any r 32 55295)
  have HB := hide (refWithin_any r 57344 65533)
  have HC := hide (refWithin_any r 65536 1114111)
  generalize Tk.within r 32 55295 = a at *
  generalize Tk.within r 57344 65533 = b at *
  generalize Tk.within r 65536 1114111 = c at *
  by_cases h1 : r = 9
  · have th1 : (r == 9) = true := by simpa using h1
    go_enter Tryd.func21, Tryd.ntmps21
    go_wp2
    go_ret
    exact ⟨ret_eq1 (bool_eq (by simp [*])), rfl⟩
  have th1 : (r == 9) = false := by simpa using h1
  by_cases h2 : r = 10
  · have th2 : (r == 10) = true := by simpa using h2
    go_enter Tryd.func21, Tryd.ntmps21
    go_wp2
    go_ret
    exact ⟨ret_eq1 (bool_eq (by simp [*])), rfl⟩
  have th2 : (r == 10) = false := by simpa using h2
  by_cases h3 : r = 13
  · have th3 : (r == 13) = true := by simpa using h3
    go_enter Tryd.func21, Tryd.ntmps21
    go_wp2
    go_ret
    exact ⟨ret_eq1 (bool_eq (by simp [*])), rfl⟩
  have th3 : (r == 13) = false := by simpa using h3
  cases a with
  | true =>
    go_enter Tryd.func21, Tryd.ntmps21
    go_wp2_with fail
    refine (HA.out _).mono ?_
    rintro e w' ⟨rfl, rfl⟩
    go_wp2
    go_ret
    exact ⟨ret_eq1 (bool_eq (by simp [*])), rfl⟩
  | false =>
    cases b with
    | true =>
      go_enter Tryd.func21, Tryd.ntmps21
      go_wp2_with fail
      refine (HA.out _).mono ?_
      rintro e w' ⟨rfl, rfl⟩
      go_wp2_with fail
      refine (HB.out _).mono ?_
      rintro e w' ⟨rfl, rfl⟩
      go_wp2
      go_ret
      exact ⟨ret_eq1 (bool_eq (by simp [*])), rfl⟩
    | false =>
      cases c with
      | true =>
        go_enter Tryd.func21, Tryd.ntmps21
        go_wp2_with fail
        refine (HA.out _).mono ?_
        rintro e w' ⟨rfl, rfl⟩
        go_wp2_with fail
        refine (HB.out _).mono ?_
        rintro e w' ⟨rfl, rfl⟩
        go_wp2_with fail
        refine (HC.out _).mono ?_
        rintro e w' ⟨rfl, rfl⟩
        go_wp2
        go_ret
        exact ⟨ret_eq1 (bool_eq (by simp [*])), rfl⟩
      | false =>
        go_enter Tryd.func21, Tryd.ntmps21
        go_wp2_with fail
        refine (HA.out _).mono ?_
        rintro e w' ⟨rfl, rfl⟩
        go_wp2_with fail
        refine (HB.out _).mono ?_
        rintro e w' ⟨rfl, rfl⟩
        go_wp2_with fail
        refine (HC.out _).mono ?_
        rintro e w' ⟨rfl, rfl⟩
        go_wp2
        go_ret
        exact ⟨ret_eq1 (bool_eq (by simp [*])), rfl⟩

set_option maxHeartbeats 4000000 in
theorem refBad_any (s : ByteArray) (w : World) (hs : s.size ≤ 1000000000) :
    Calls Tryd.prog 11 #[.string s] w fun e w' => e = .returned (.int .i64 (bad s.data.toList)) ∧ w' = w := by
  obtain ⟨z, hz⟩ : ∃ z, bad s.data.toList = z := ⟨_, rfl⟩
  have Hz := hide (show (match ((Utf.from_ 0 (s.data.toList.drop 0)).find? (fun p => !charOk p.2)).map (·.1) with | some k => (k : Int) | none => -1) = z from by rw [← hz]; rfl)
  rw [hz]
  clear hz
  go_enter Tryd.func11, Tryd.ntmps11
  go_wp2
  go_loopg [3] s.size (fun g v wr => ∃ k : Nat, g = s.size - k ∧ k ≤ s.size ∧ v = .int .i64 (k : Int) ∧ (match ((Utf.from_ k (s.data.toList.drop k)).find? (fun p => !charOk p.2)).map (·.1) with | some k => (k : Int) | none => -1) = z ∧ wr = w)
  case atStart => exact ⟨0, rfl, by omega, rfl, Hz.out, rfl⟩
  case round =>
    obtain ⟨k, hg, hk, rfl, hz, rfl⟩ := hrel
    have Hg := hide hg
    by_cases hlt : k < s.size
    · have hN := next_any s (k : Int) wr (by omega) (by omega) hs
      rw [Int.toNat_natCast] at hN
      have hfr := from_at s k hlt
      have hp := piece_at' s k hlt
      rw [hfr, List.find?_cons] at hz
      obtain ⟨f, hf⟩ : ∃ f, Utf.piece (s.data.toList.drop k) = f := ⟨_, rfl⟩
      rw [hf] at hN hz hp
      have HC := hide (refChar_any f.1)
      have hneg := charOk_neg f.1
      dsimp only at hz
      cases hc : charOk f.1 with
      | false =>
        rw [hc] at hz HC
        have Hz2 := hide (show (k : Int) = z from hz)
        by_cases hn : f.1 < 0
        · have HN := hide (show Calls Tryd.prog 20 #[.string s, .int .i64 (k : Int)] wr fun e w' => e = .returned (.tuple #[.int .i64 0, .int .i64 0, .bool false]) ∧ wr = w' from by
            unfold nextT at hN; rw [if_pos hn] at hN; exact hN)
          clear hN hz hfr hf hg hc hneg hn
          go_wp2_with fail
          refine HN.out.mono ?_
          rintro e w' ⟨rfl, rfl⟩
          go_wp2
          go_ret
          exact ⟨ret_eq1 (int_eq Hz2.out), rfl⟩
        · have HN := hide (show Calls Tryd.prog 20 #[.string s, .int .i64 (k : Int)] wr fun e w' => e = .returned (.tuple #[.int .i64 f.1, .int .i64 f.2, .bool true]) ∧ wr = w' from by
            unfold nextT at hN; rw [if_neg hn] at hN; exact hN)
          clear hN hz hfr hf hg hc hneg hn
          go_wp2_with fail
          refine HN.out.mono ?_
          rintro e w' ⟨rfl, rfl⟩
          go_wp2_with fail
          refine (HC.out _).mono ?_
          rintro e w' ⟨rfl, rfl⟩
          go_wp2
          go_ret
          exact ⟨ret_eq1 (int_eq Hz2.out), rfl⟩
      | true =>
        rw [hc] at hz HC
        have hn : ¬ f.1 < 0 := fun h => by rw [hneg h] at hc; cases hc
        have Hz2 := hide hz
        have HN := hide (show Calls Tryd.prog 20 #[.string s, .int .i64 (k : Int)] wr fun e w' => e = .returned (.tuple #[.int .i64 f.1, .int .i64 f.2, .bool true]) ∧ wr = w' from by
            unfold nextT at hN; rw [if_neg hn] at hN; exact hN)
        obtain ⟨m, hm⟩ : ∃ m : Nat, f.2 = m := ⟨f.2.toNat, by omega⟩
        have e2 : f.2.toNat = m := by omega
        rw [e2] at Hz2
        rw [hm] at HN hp
        clear hN hz hfr hf hg hc hneg hn e2 hm
        go_wp2_with fail
        refine HN.out.mono ?_
        rintro e w' ⟨rfl, rfl⟩
        go_wp2_with fail
        refine (HC.out _).mono ?_
        rintro e w' ⟨rfl, rfl⟩
        go_wp2
        go_roundg (s.size - (k + m))
        case measure => have := Hg.out; omega
        case rel => exact ⟨k + m, rfl, by omega, by go_num, Hz2.out, rfl⟩
    · have hkz : k = s.size := by omega
      subst hkz
      have Hz2 := hide (show (-1 : Int) = z from by rw [← hz, List.drop_of_length_le (by rw [size_list]; exact Nat.le_refl _)]; rfl)
      clear hz
      go_wp2
      go_ret
      exact ⟨ret_eq1 (int_eq Hz2.out), rfl⟩
end Go.Proofs.YtbnaphbmmkmaeaaDoor
namespace Go.Proofs.YtbnaphbmmkmaeaaDoor
open Go.RowKit Tk

theorem TkL.drop' {w : World} {B b off : Nat} {xs : List Gt} (h : TkL w B (some ⟨b, off, none⟩) xs) {q : Nat} (hq : q ≤ xs.length) : TkL w B (some ⟨b, off + q * 7, none⟩) (xs.drop q) := by
  by_cases hlt : q < xs.length
  · exact h.drop hlt
  · have e : xs.drop q = [] := List.drop_of_length_le (by omega)
    rw [e]
    exact ⟨⟨rfl, fun hn => by simp at hn⟩, fun x hx => by cases hx⟩
theorem TkL.dropA {w : World} {B b off : Nat} {xs : List Gt} (h : TkL w B (some ⟨b, off, none⟩) xs) {q : Nat} (hq : q ≤ xs.length) {A : Option Addr} (hA : A = some ⟨b, off + q * 7, none⟩ ∨ xs.length = q) : TkL w B A (xs.drop q) := by
  rcases hA with rfl | hA
  · exact h.drop' hq
  · have e : xs.drop q = [] := List.drop_of_length_le (by omega)
    rw [e]
    exact ⟨⟨rfl, fun hn => by simp at hn⟩, fun x hx => by cases hx⟩
/-- Are there two dashes among the first pairs? -/
def pairs (c : L) (j : Nat) : Bool := (List.range j).any fun i => c[i]? == some 45 && c[i + 1]? == some 45
theorem pairs_zero (c : L) : pairs c 0 = false := rfl
theorem pairs_next (c : L) (j : Nat) : pairs c (j + 1) = (pairs c j || (c[j]? == some 45 && c[j + 1]? == some 45)) := by
  unfold pairs
  rw [List.range_succ, List.any_append]
  simp
theorem pairs_cons (a : UInt8) (c : L) (j : Nat) : pairs (a :: c) (j + 1) = ((a == 45 && c[0]? == some 45) || pairs c j) := by
  induction j with
  | zero => rw [pairs_next, pairs_zero, pairs_zero]; simp
  | succ j ih => rw [pairs_next, ih, pairs_next, Bool.or_assoc]; simp
theorem dashes_is : ∀ c : L, dashes c = ((c.getLast? == some 45) || pairs c (c.length - 1))
  | [] => rfl
  | [a] => by simp [dashes, pairs_zero]
  | a :: b :: r => by
    have ih := dashes_is (b :: r)
    have e : (a :: b :: r).length - 1 = (b :: r).length - 1 + 1 := by simp
    rw [e, pairs_cons]
    conv => lhs; unfold dashes
    rw [ih]
    have e2 : (a :: b :: r).getLast? = (b :: r).getLast? := by simp [List.getLast?_cons]
    rw [e2]
    have e3 : ((b :: r)[0]? == some (45 : UInt8)) = (b == 45) := by simp
    rw [e3]
    generalize (a == 45) = x
    generalize (b == 45) = y
    generalize ((b :: r).getLast? == some 45) = z
    generalize pairs (b :: r) ((b :: r).length - 1) = v
    cases x <;> cases y <;> cases z <;> cases v <;> rfl
theorem byte_is {d e : UInt8} {z : Int} (hz : (e.toNat : Int) = z) : ((d.toNat : Int) == z) = (d == e) := by
  subst hz
  rw [Bool.eq_iff_iff, beq_iff_eq, beq_iff_eq]
  constructor
  · intro h; exact UInt8.toNat.inj (by omega)
  · intro h; rw [h]
/-- The text with the comment. -/
theorem with_comment (s c : ByteArray) (e : Nat) : (s.extract 0 e ++ ⟨#[60, 33, 45, 45]⟩ ++ c ++ ⟨#[45, 45, 62]⟩ ++ s.extract e s.size).data.toList = s.data.toList.take e ++ (sComment ++ (c.data.toList ++ ([45, 45, 62] ++ s.data.toList.drop e))) := by
  rw [extract_bstr, extract_end, List.drop_zero, Nat.sub_zero]
  simp [ByteArray.data_append, bstr, sComment]
theorem skip_len {xs xs2 : List Tv} {j d : Nat} {cm : Tok} (hj : j < xs.length) (h : xs2.map (·.t) = (xs.map (·.t)).take (j + 1) ++ cm :: ((xs.map (·.t)).drop (j + 1)).map (Tok.shift d)) :
    xs2.length = xs.length + 1 ∧ (∃ x, xs2[j + 1]? = some x ∧ x.t = cm) ∧ (xs2.take (j + 1)).map (·.t) = (xs.take (j + 1)).map (·.t) ∧ (xs2.drop (j + 2)).map (·.t) = ((xs.drop (j + 1)).map (·.t)).map (Tok.shift d) := by
  have hl := congrArg List.length h
  simp only [List.length_map, List.length_append, List.length_take, List.length_cons, List.length_drop] at hl
  have ht : ((xs.map (·.t)).take (j + 1)).length = j + 1 := by rw [List.length_take, List.length_map]; omega
  refine ⟨by omega, ?_, ?_, ?_⟩
  · have h1 : (xs2.map (·.t))[j + 1]? = some cm := by
      rw [h, List.getElem?_append_right (by omega), ht, Nat.sub_self]; rfl
    rw [List.getElem?_map] at h1
    cases hx : xs2[j + 1]? with
    | none => rw [hx] at h1; cases h1
    | some x => rw [hx] at h1; exact ⟨x, rfl, Option.some.inj h1⟩
  · rw [List.map_take, h, List.take_append_of_le_length (by omega), List.take_of_length_le (by omega), List.map_take]
  · rw [List.map_drop, h, List.drop_append, ht, List.drop_of_length_le (by omega), List.nil_append, show j + 2 - (j + 1) = 1 by omega, List.drop_succ_cons, List.drop_zero, List.map_drop, List.map_drop, List.map_drop]
end Go.Proofs.YtbnaphbmmkmaeaaDoor
