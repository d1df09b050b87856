/- Tokens in memory, wherever they lie: whether two rows are the same. · Tokens: lists that All has made, as lists that lie anywhere; what the laws' wake-up asks. · Tokens: words for the laws: where tokens end; the first ones of a list. · strings.Builder's writers, at this dump. (Turned from the shelf's walks.) -/
import Derived.Test.YtbnaphbmmkmaeaaDoorTc02
import Derived.Test.YtbnaphbmmkmaeaaDoorTc03
import Derived.Test.YtbnaphbmmkmaeaaDoorTc04
import Derived.Test.YtbnaphbmmkmaeaaDoorTc16
import Derived.Test.YtbnaphbmmkmaeaaDoorTc17
import Derived.Lib.Builder
import Derived.Laws.Externs
set_option linter.unusedSimpArgs false
set_option linter.unusedVariables false
namespace Go.Proofs.YtbnaphbmmkmaeaaDoor
open Go.RowKit Tk

set_option maxHeartbeats 4000000 in
theorem same_any (A A' : Option Addr) (c c' B : Nat) (l l' : List Gt) (w : World) (hA : TkL w B A l) (hA' : TkL w B A' l') (hB : B ≤ w.heap.size) (hl : l.length ≤ 1000000000) (hl' : l'.length ≤ 1000000000) (hs : ∀ x ∈ l, x.as_.length ≤ 1000000000) (hs' : ∀ x ∈ l', x.as_.length ≤ 1000000000) :
    Calls Tryd.prog 10 #[.slice A l.length c, .slice A' l'.length c'] w fun e w' => e = .returned (.bool (decide (l.map Gt.bare = l'.map Gt.bare))) ∧ Below w.heap.size w w' := by
  obtain ⟨n, hn⟩ : ∃ n, l.length = n := ⟨_, rfl⟩
  obtain ⟨n', hn'⟩ : ∃ n, l'.length = n := ⟨_, rfl⟩
  have HA := hide hA
  have HA' := hide hA'
  rw [hn] at hl ⊢
  rw [hn'] at hl' ⊢
  have Hn := hide hn
  have Hn' := hide hn'
  have Hs := hide hs
  have Hs' := hide hs'
  clear hn hn' hA hA' hs hs'
  obtain ⟨ml, hml⟩ : ∃ m, l.map Gt.bare = m := ⟨_, rfl⟩
  obtain ⟨ml', hml'⟩ : ∃ m, l'.map Gt.bare = m := ⟨_, rfl⟩
  have Hml := hide hml
  have Hml' := hide hml'
  rw [hml, hml']
  clear hml hml'
  have Hlm := hide (show ml.length = n by rw [← Hml.out, List.length_map, Hn.out])
  have Hlm' := hide (show ml'.length = n' by rw [← Hml'.out, List.length_map, Hn'.out])
  by_cases hne : n = n'
  · subst hne
    have ht : ((n : Int) != (n : Int)) = false := by simp
    go_enter Tryd.func10, Tryd.ntmps10
    go_wp2
    go_loopg [15] n (fun g vi wr => ∃ k : Nat, g = n - k ∧ k ≤ n ∧ vi = .int .i64 k ∧ ml.take k = ml'.take k ∧ Below w.heap.size w wr)
    case atStart => exact ⟨0, rfl, Nat.zero_le _, rfl, by simp, Below.refl _ _⟩
    case round =>
      obtain ⟨k, hg, hk, rfl, htk, hB1⟩ := hrel
      have Hg := hide hg
      have Htk := hide htk
      have HB1 := hide hB1
      clear hg htk hB1
      by_cases hlt : k < n
      · have h1 : k < l.length := by rw [Hn.out]; exact hlt
        have h2 : k < l'.length := by rw [Hn'.out]; exact hlt
        obtain ⟨b, off, rfl, hb, hx⟩ := (HA.out.below (HB1.out.mono hB)).row.gt h1
        obtain ⟨b', off', rfl, hb', hy⟩ := (HA'.out.below (HB1.out.mono hB)).row.gt h2
        have Ex := hide (show ml[k]'(by rw [Hlm.out]; exact hlt) = (l[k]).bare by simp only [← Hml.out, List.getElem_map])
        have Ey := hide (show ml'[k]'(by rw [Hlm'.out]; exact hlt) = (l'[k]).bare by simp only [← Hml'.out, List.getElem_map])
        have HSa := hide (fun W (hW : Below w.heap.size w W) => sameAttrs_any l[k].A l'[k].A l[k].c l'[k].c B l[k].as_ l'[k].as_ W ((HA.out.below (hW.mono hB)).sub _ (List.getElem_mem h1)) ((HA'.out.below (hW.mono hB)).sub _ (List.getElem_mem h2)) (Hs.out _ (List.getElem_mem h1)) (Hs'.out _ (List.getElem_mem h2)))
        generalize l[k] = x at *
        generalize l'[k] = y at *
        have x0 := hx.c0
        have x1 := hx.c1
        have x2 := hx.c2
        have x3 := hx.c3
        have x4 := hx.c4
        have x5 := hx.c5
        have x6 := hx.c6
        have y0 : ∀ o, (wr.alloc o).cell? _ = _ := fun o => cell_go (below_alloc _ _) hy.c0
        have y1 : ∀ o, (wr.alloc o).cell? _ = _ := fun o => cell_go (below_alloc _ _) hy.c1
        have y2 : ∀ o, (wr.alloc o).cell? _ = _ := fun o => cell_go (below_alloc _ _) hy.c2
        have y3 : ∀ o, (wr.alloc o).cell? _ = _ := fun o => cell_go (below_alloc _ _) hy.c3
        have y4 : ∀ o, (wr.alloc o).cell? _ = _ := fun o => cell_go (below_alloc _ _) hy.c4
        have y5 : ∀ o, (wr.alloc o).cell? _ = _ := fun o => cell_go (below_alloc _ _) hy.c5
        have y6 : ∀ o, (wr.alloc o).cell? _ = _ := fun o => cell_go (below_alloc _ _) hy.c6
        clear hx hy
        have V1 := (Blk.new wr 29 #[.int .i8 x.kind, .string x.name, .slice x.A x.as_.length x.c, .bool x.empty, .string x.text, .int .i64 x.at_, .int .i64 x.end_]).alloc (.cells #[.int .i8 y.kind, .string y.name, .slice y.A y.as_.length y.c, .bool y.empty, .string y.text, .int .i64 y.at_, .int .i64 y.end_] 29)
        have V2 := Blk.new (wr.alloc (.cells #[.int .i8 x.kind, .string x.name, .slice x.A x.as_.length x.c, .bool x.empty, .string x.text, .int .i64 x.at_, .int .i64 x.end_] 29)) 29 #[.int .i8 y.kind, .string y.name, .slice y.A y.as_.length y.c, .bool y.empty, .string y.text, .int .i64 y.at_, .int .i64 y.end_]
        rw [World.size_alloc] at V2
        have HB2 := hide ((HB1.out.alloc HB1.out.size (.cells #[.int .i8 x.kind, .string x.name, .slice x.A x.as_.length x.c, .bool x.empty, .string x.text, .int .i64 x.at_, .int .i64 x.end_] 29)).alloc (by have := HB1.out.size; simp; omega) (.cells #[.int .i8 y.kind, .string y.name, .slice y.A y.as_.length y.c, .bool y.empty, .string y.text, .int .i64 y.at_, .int .i64 y.end_] 29))
        have p0 := V1.cell 0
        have p1 := V1.cell 1
        have p2 := V1.cell 2
        have p3 := V1.cell 3
        have p4 := V1.cell 4
        have p5 := V1.cell 5
        have p6 := V1.cell 6
        have q0 := V2.cell 0
        have q1 := V2.cell 1
        have q2 := V2.cell 2
        have q3 := V2.cell 3
        have q4 := V2.cell 4
        have q5 := V2.cell 5
        have q6 := V2.cell 6
        clear V1 V2
        by_cases h0 : x.kind = y.kind
        · have t0 : (x.kind != y.kind) = false := by rw [h0]; simp
          by_cases h1' : x.name = y.name
          · have t1 : (x.name.toList == y.name.toList) = true := neq_str_dec _ _ h1'
            by_cases h2' : x.empty = y.empty
            · have t2 : (x.empty == y.empty) = true := by rw [h2']; simp
              by_cases h3' : x.text = y.text
              · have t3 : (x.text.toList == y.text.toList) = true := neq_str_dec _ _ h3'
                have HSc := HSa.out _ HB2.out
                by_cases hsm : x.as_.map Ga.bare = y.as_.map Ga.bare
                · have hd : decide (x.as_.map Ga.bare = y.as_.map Ga.bare) = true := decide_eq_true hsm
                  rw [hd] at HSc
                  have Hsc := hide HSc
                  have Hxy := hide (show x.bare = y.bare by unfold Gt.bare; rw [h0, h1', h2', h3', hsm])
                  clear hsm hd HSc HSa h0 h1' h2' h3'
                  go_wp2_with fail
                  refine Hsc.out.mono ?_
                  rintro e w5 ⟨rfl, m5, rfl⟩
                  go_wp2
                  go_roundg (n - (k + 1))
                  case measure => have := Hg.out; omega
                  case rel => exact ⟨k + 1, rfl, by omega, by go_num, eq_take (by rw [Hlm.out]; exact hlt) (by rw [Hlm'.out]; exact hlt) Htk.out (by rw [Ex.out, Ey.out, Hxy.out]), below_drewN HB2.out _⟩
                · have hd : decide (x.as_.map Ga.bare = y.as_.map Ga.bare) = false := decide_eq_false hsm
                  rw [hd] at HSc
                  have Hsc := hide HSc
                  have Hxy := hide (show x.bare ≠ y.bare from fun h => hsm (congrArg Gb.as_ h))
                  clear hsm hd HSc HSa h0 h1' h2' h3'
                  go_wp2_with fail
                  refine Hsc.out.mono ?_
                  rintro e w5 ⟨rfl, m5, rfl⟩
                  go_wp2
                  go_ret
                  exact ⟨ret_eq1 (bool_eq (by rw [eq_comm, decide_eq_false_iff_not]; exact ne_at (by rw [Hlm.out]; exact hlt) (by rw [Hlm'.out]; exact hlt) (by rw [Ex.out, Ey.out]; exact Hxy.out))), below_drewN HB2.out _⟩
              · have t3 : (x.text.toList == y.text.toList) = false := neq_str_dec' _ _ h3'
                have Hxy := hide (show x.bare ≠ y.bare from fun h => h3' (congrArg Gb.text h))
                clear h3' HSa h0 h1' h2'
                go_wp2
                go_ret
                exact ⟨ret_eq1 (bool_eq (by rw [eq_comm, decide_eq_false_iff_not]; exact ne_at (by rw [Hlm.out]; exact hlt) (by rw [Hlm'.out]; exact hlt) (by rw [Ex.out, Ey.out]; exact Hxy.out))), HB2.out⟩
            · have t2 : (x.empty == y.empty) = false := by simpa using h2'
              have Hxy := hide (show x.bare ≠ y.bare from fun h => h2' (congrArg Gb.empty h))
              clear h2' HSa h0 h1'
              go_wp2
              go_ret
              exact ⟨ret_eq1 (bool_eq (by rw [eq_comm, decide_eq_false_iff_not]; exact ne_at (by rw [Hlm.out]; exact hlt) (by rw [Hlm'.out]; exact hlt) (by rw [Ex.out, Ey.out]; exact Hxy.out))), HB2.out⟩
          · have t1 : (x.name.toList == y.name.toList) = false := neq_str_dec' _ _ h1'
            have Hxy := hide (show x.bare ≠ y.bare from fun h => h1' (congrArg Gb.name h))
            clear h1' HSa h0
            go_wp2
            go_ret
            exact ⟨ret_eq1 (bool_eq (by rw [eq_comm, decide_eq_false_iff_not]; exact ne_at (by rw [Hlm.out]; exact hlt) (by rw [Hlm'.out]; exact hlt) (by rw [Ex.out, Ey.out]; exact Hxy.out))), HB2.out⟩
        · have t0 : (x.kind != y.kind) = true := by simpa using h0
          have Hxy := hide (show x.bare ≠ y.bare from fun h => h0 (congrArg Gb.kind h))
          clear h0 HSa
          go_wp2
          go_ret
          exact ⟨ret_eq1 (bool_eq (by rw [eq_comm, decide_eq_false_iff_not]; exact ne_at (by rw [Hlm.out]; exact hlt) (by rw [Hlm'.out]; exact hlt) (by rw [Ex.out, Ey.out]; exact Hxy.out))), HB2.out⟩
      · go_wp2
        go_ret
        exact ⟨ret_eq1 (bool_eq (by rw [eq_comm, decide_eq_true_eq]; have := Htk.out; rwa [List.take_of_length_le (by rw [Hlm.out]; omega), List.take_of_length_le (by rw [Hlm'.out]; omega)] at this)), HB1.out⟩
  · have ht : ((n : Int) != (n' : Int)) = true := by simp; omega
    have Hne := hide hne
    clear hne
    go_enter Tryd.func10, Tryd.ntmps10
    go_wp2
    go_ret
    exact ⟨ret_eq1 (bool_eq (by rw [eq_comm, decide_eq_false_iff_not]; rintro rfl; exact Hne.out (Hlm.out.symm.trans Hlm'.out))), Below.refl _ _⟩
end Go.Proofs.YtbnaphbmmkmaeaaDoor
namespace Go.Proofs.YtbnaphbmmkmaeaaDoor
open Go.RowKit Tk

def Tk.At.g (a : At) : Ga := ⟨bstr a.name, bstr a.value, (a.at_ : Int)⟩
def Tv.g (x : Tv) : Gt := ⟨x.t.kind, bstr x.t.name, x.t.attrs.map At.g, x.A, x.c, x.t.empty, bstr x.t.text, (x.t.at_ : Int), (x.t.end_ : Int)⟩
theorem attrVs_g (l : List At) : attrVs l = gas (l.map At.g) := by
  induction l with
  | nil => rfl
  | cons a l ih => unfold attrVs gas at ih ⊢; rw [List.flatMap_cons, List.map_cons, List.flatMap_cons, ih]; rfl
theorem row_g (x : Tv) : x.row = gtCells x.g := by
  unfold Tv.row tokCells gtCells Tv.g
  simp only [List.length_map]
theorem tvRows_g (xs : List Tv) : tvRows xs = gts (xs.map Tv.g) := by
  induction xs with
  | nil => rfl
  | cons a l ih => unfold tvRows gts at ih ⊢; rw [List.flatMap_cons, List.map_cons, List.flatMap_cons, ih, row_g]
theorem Tv.In.g {x : Tv} {B : Nat} {W : World} (h : x.In B W) : Reads W W.heap.size 3 x.g.A x.g.as_.length (gas x.g.as_) := by
  have := h.a
  rw [attrVs_g] at this
  unfold Tv.g
  simp only [List.length_map]
  exact this
/-- A list that All has made lies in memory. -/
theorem TkL.of {W : World} {A : Option Addr} {xs : List Tv} {B : Nat} (h : Reads W W.heap.size 7 A xs.length (tvRows xs)) (hi : ∀ x ∈ xs, x.In B W) : TkL W W.heap.size A (xs.map Tv.g) := by
  refine ⟨?_, fun x hx => ?_⟩
  · rw [List.length_map, ← tvRows_g]; exact h
  · obtain ⟨y, hy, rfl⟩ := List.mem_map.1 hx
    exact (hi y hy).g
theorem g_bare (x y : Tv) (h : x.t.bare = y.t.bare) : x.g.bare = y.g.bare := by
  have e : ∀ z : Tv, z.g.bare = ⟨z.t.bare.kind, bstr z.t.bare.name, z.t.bare.attrs.map (fun a => (bstr a.name, bstr a.value)), z.t.bare.empty, bstr z.t.bare.text⟩ := fun z => by
    unfold Tv.g Gt.bare Tok.bare
    simp only [List.map_map]
    rfl
  rw [e, e, h]
theorem gs_bare : ∀ (xs ys : List Tv), (xs.map (·.t)).map Tok.bare = (ys.map (·.t)).map Tok.bare → (xs.map Tv.g).map Gt.bare = (ys.map Tv.g).map Gt.bare
  | [], [], _ => rfl
  | [], _ :: _, h => by simp at h
  | _ :: _, [], h => by simp at h
  | x :: xs, y :: ys, h => by
    simp only [List.map_cons, List.cons.injEq] at h ⊢
    exact ⟨g_bare x y h.1, gs_bare xs ys h.2⟩
/-- The tokens that a right text has, by computing. -/
theorem Tk.AllP.comp {s : L} {ts : List Tok} {e : Nat} {ok : Bool} (h : AllP s ts e ok) (hv : Utf.valid s = true) : ts = toks s.length 0 s ∧ Chain 0 ts e ∧ ok = decide (e = s.length) := by
  have hl := h.len
  rw [hv, Bool.and_true] at hl
  refine ⟨?_, hl.2.1, hl.2.2⟩
  unfold AllP at h
  rw [if_pos hv] at h
  obtain ⟨w, rest, rfl, h1, h2, rfl, rfl⟩ := h
  exact (toks_row h1 (by rw [Nat.zero_add]; exact h2) (w ++ rest).length (Nat.le_refl _)).symm
theorem Tk.Chain.end_ : ∀ {ts : List Tok} {n e : Nat}, Chain n ts e → e = (ts.getLast?.map (·.end_)).getD n
  | [], n, e, h => h.symm
  | [t], n, e, h => h.2.2.symm
  | t :: u :: r, n, e, h => by
    have := Tk.Chain.end_ (ts := u :: r) h.2.2
    rw [this]
    simp [List.getLast?_cons]
def wk1 : L := [60, 97, 32, 98, 61, 39, 49, 39, 47, 62, 120]
def wk2 : L := [97, 32, 93, 93, 62]
theorem wk1_toks : toks wk1.length 0 wk1 = [⟨0, [97], [⟨[98], [49], 3⟩], true, [], 0, 10⟩, ⟨2, [], [], false, [120], 10, 11⟩] := by decide +kernel
theorem wk2_toks : toks wk2.length 0 wk2 = [] := by decide +kernel
theorem wk1_all {ts : List Tok} {e : Nat} {ok : Bool} (h : AllP wk1 ts e ok) : ts = [⟨0, [97], [⟨[98], [49], 3⟩], true, [], 0, 10⟩, ⟨2, [], [], false, [120], 10, 11⟩] ∧ e = 11 ∧ ok = true := by
  obtain ⟨h1, h2, h3⟩ := h.comp (by decide +kernel)
  rw [wk1_toks] at h1
  subst h1
  have he := h2.end_
  subst he
  exact ⟨rfl, rfl, h3⟩
theorem wk2_all {ts : List Tok} {e : Nat} {ok : Bool} (h : AllP wk2 ts e ok) : ts = [] ∧ e = 0 ∧ ok = false := by
  obtain ⟨h1, h2, h3⟩ := h.comp (by decide +kernel)
  rw [wk2_toks] at h1
  subst h1
  have he := h2.end_
  subst he
  exact ⟨rfl, rfl, h3⟩
theorem map_two {xs : List Tv} {t u : Tok} (h : xs.map (·.t) = [t, u]) : ∃ x y, xs = [x, y] ∧ x.t = t ∧ y.t = u := by
  match xs, h with
  | [x, y], h => simp only [List.map_cons, List.map_nil, List.cons.injEq, and_true] at h; exact ⟨x, y, rfl, h.1, h.2⟩
/-- The cells that the wake-up asks for. -/
theorem wk1_cells {W : World} {A : Option Addr} {xs : List Tv} {B : Nat} (h : Reads W W.heap.size 7 A xs.length (tvRows xs)) (hi : ∀ x ∈ xs, x.In B W)
    (hx : xs.map (·.t) = [⟨0, [97], [⟨[98], [49], 3⟩], true, [], 0, 10⟩, ⟨2, [], [], false, [120], 10, 11⟩]) :
    xs.length = 2 ∧ ∃ b off b' off' cc, A = some ⟨b, off, none⟩ ∧ b < W.heap.size ∧ b' < W.heap.size ∧ W.cell? ⟨b, off + 1, none⟩ = some (.string ⟨#[97]⟩) ∧ W.cell? ⟨b, off + 3, none⟩ = some (.bool true) ∧
      W.cell? ⟨b, off + 2, none⟩ = some (.slice (some ⟨b', off', none⟩) 1 cc) ∧ W.cell? ⟨b', off' + 1, none⟩ = some (.string ⟨#[49]⟩) ∧ W.cell? ⟨b, off + 7 + 4, none⟩ = some (.string ⟨#[120]⟩) := by
  obtain ⟨x, y, rfl, hx0, hy0⟩ := map_two hx
  have hT := TkL.of h hi
  obtain ⟨b, off, rfl, hb, h0⟩ := hT.row.gt (k := 0) (by simp)
  obtain ⟨b1, off1, e, hb1, h1⟩ := hT.row.gt (k := 1) (by simp)
  cases e
  have hs := hT.sub x.g (by simp)
  have ex : x.g.as_ = [⟨⟨#[98]⟩, ⟨#[49]⟩, 3⟩] := by show x.t.attrs.map At.g = _; rw [hx0]; rfl
  rw [ex] at hs
  obtain ⟨b', off', eA, hb', g0⟩ := hs.ga (k := 0) (by simp)
  have n0 : x.g.name = ⟨#[97]⟩ := by show bstr x.t.name = _; rw [hx0]; rfl
  have m0 : x.g.empty = true := by show x.t.empty = _; rw [hx0]
  have t1 : y.g.text = ⟨#[120]⟩ := by show bstr y.t.text = _; rw [hy0]; rfl
  refine ⟨rfl, b, off, b', off', x.g.c, rfl, hb, hb', ?_, ?_, ?_, ?_, ?_⟩
  · have := h0.c1; simp only [List.map_cons, List.getElem_cons_zero, n0, Nat.zero_mul, Nat.add_zero] at this; exact this
  · have := h0.c3; simp only [List.map_cons, List.getElem_cons_zero, m0, Nat.zero_mul, Nat.add_zero] at this; exact this
  · have := h0.c2; simp only [List.map_cons, List.getElem_cons_zero, ex, eA, Nat.zero_mul, Nat.add_zero] at this; exact this
  · have := g0.c1; simp only [List.getElem_cons_zero, Nat.zero_mul, Nat.add_zero] at this; exact this
  · have := h1.c4; simp only [List.map_cons, List.getElem_cons_succ, List.getElem_cons_zero, t1, Nat.one_mul] at this; exact this

set_option maxHeartbeats 8000000 in
theorem wakes_any (w : World) (hg : Gl w) (hw6 : 6 ≤ w.heap.size) : Calls Tryd.prog 7 #[] w fun e w' => e = .returned (.bool true) ∧ Below w.heap.size w w' := by
  have HG := hide hg
  have H1 := hide (tks_any w ⟨#[60, 97, 32, 98, 61, 39, 49, 39, 47, 62, 120]⟩ hg hw6 (by decide))
  clear hg
  go_enter Tryd.func7, Tryd.ntmps7
  go_wp2_with fail
  refine H1.out.mono ?_
  rintro e w1 ⟨xs, A, c, n, ok, hP, -, -, rfl, b1, hr, -, -, hi⟩
  obtain ⟨hx, rfl, rfl⟩ := wk1_all hP
  have H2 := hide (tks_any w1 ⟨#[97, 32, 93, 93, 62]⟩ (HG.out.below b1) (by have := b1.size; omega) (by decide))
  obtain ⟨hn, b, off, b', off', cc, rfl, hb, hb', q1, q3, q2, q5, q4⟩ := wk1_cells hr hi hx
  have B1 := hide b1
  rw [hn]
  clear hP hr hi hx b1 hn H1
  go_wp2_with fail
  refine H2.out.mono ?_
  rintro e w2 ⟨xs2, A2, c2, n2, ok2, hP2, -, -, rfl, b2, -, -, -, -⟩
  obtain ⟨hx2, rfl, rfl⟩ := wk2_all hP2
  replace q1 := cell_go b2 q1
  replace q2 := cell_go b2 q2
  replace q3 := cell_go b2 q3
  replace q4 := cell_go b2 q4
  replace q5 := cell_go b2 q5
  have B2 := hide (B1.out.trans (b2.mono B1.out.size))
  clear hP2 hx2 b2 B1 H2
  go_wp2
  go_ret
  exact ⟨rfl, B2.out⟩
end Go.Proofs.YtbnaphbmmkmaeaaDoor
namespace Go.Proofs.YtbnaphbmmkmaeaaDoor
open Go.RowKit Tk

/-- Where the first tokens end. -/
def ends (ts : List Tok) (j : Nat) : Nat := ((ts.take j).getLast?.map (·.end_)).getD 0
theorem ends_zero (ts : List Tok) : ends ts 0 = 0 := rfl
theorem ends_next {ts : List Tok} {j : Nat} {t : Tok} (h : ts[j]? = some t) : ends ts (j + 1) = t.end_ := by
  unfold ends
  rw [List.take_add_one, h]
  simp
theorem chain_at {ts : List Tok} {n e : Nat} (h : Chain n ts e) : ∀ j (hj : j < ts.length), ts[j].at_ = ((ts.take j).getLast?.map (·.end_)).getD n ∧ ts[j].at_ < ts[j].end_ ∧ ts[j].end_ ≤ e := by
  induction ts generalizing n with
  | nil => intro j hj; simp at hj
  | cons t ts ih =>
    obtain ⟨h1, h2, h3⟩ := h
    intro j hj
    have hle : ∀ {l : List Tok} {a b : Nat}, Chain a l b → a ≤ b := by
      intro l
      induction l with
      | nil => intro a b h; exact Nat.le_of_eq h
      | cons u l ih2 => intro a b h; exact Nat.le_trans (Nat.le_of_lt h.2.1) (ih2 h.2.2)
    cases j with
    | zero => exact ⟨h1, by simp only [List.getElem_cons_zero]; omega, hle h3⟩
    | succ j =>
      have := ih h3 j (by simpa using hj)
      refine ⟨?_, this.2⟩
      simp only [List.getElem_cons_succ, List.take_succ_cons]
      rw [this.1]
      cases hl : ts.take j with
      | nil => rfl
      | cons u l => simp [List.getLast?_cons]
theorem ends_at {ts : List Tok} {e : Nat} (h : Chain 0 ts e) {j : Nat} (hj : j < ts.length) : ts[j].at_ = ends ts j ∧ ends ts j < ends ts (j + 1) ∧ ends ts (j + 1) ≤ e ∧ ts[j].end_ = ends ts (j + 1) := by
  obtain ⟨h1, h2, h3⟩ := chain_at h j hj
  have h4 := ends_next (List.getElem?_eq_getElem hj)
  rw [h4]
  exact ⟨h1, by rw [show ends ts j = ts[j].at_ from h1.symm]; exact h2, h3, rfl⟩
theorem ends_all {ts : List Tok} {e : Nat} (h : Chain 0 ts e) : ends ts ts.length = e := by
  unfold ends
  rw [List.take_length]
  exact h.end_.symm
theorem gts_take : ∀ (l : List Gt) (q : Nat), q ≤ l.length → gts (l.take q) = (gts l).take (q * 7)
  | [], q, h => by
    have : q = 0 := by simpa using h
    subst this
    rfl
  | x :: l, 0, _ => by simp [gts]
  | x :: l, q + 1, h => by
    have ih := gts_take l q (by simpa using h)
    have hl : (gtCells x).length = 7 := rfl
    unfold gts at ih ⊢
    rw [List.take_succ_cons, List.flatMap_cons, List.flatMap_cons, ih, List.take_append, hl, List.take_of_length_le (l := gtCells x) (by omega), show (q + 1) * 7 - 7 = q * 7 by omega]
theorem TkL.take {w : World} {B : Nat} {A : Option Addr} {xs : List Gt} (h : TkL w B A xs) {q : Nat} (hq : q ≤ xs.length) : TkL w B A (xs.take q) := by
  refine ⟨⟨?_, fun hn => ?_⟩, fun x hx => h.sub x (List.mem_of_mem_take hx)⟩
  · rw [gts_length]
  · rw [List.length_take] at hn
    obtain ⟨b, off, hA, hb, hc⟩ := h.row.2 (by omega)
    refine ⟨b, off, hA, hb, fun j u hu => hc j u ?_⟩
    rw [gts_take _ _ hq, List.getElem?_take] at hu
    split at hu
    · exact hu
    · cases hu
/-- The list from a token on: the slice's address moves on. -/
theorem TkL.drop {w : World} {B b off : Nat} {xs : List Gt} (h : TkL w B (some ⟨b, off, none⟩) xs) {q : Nat} (hq : q < xs.length) : TkL w B (some ⟨b, off + q * 7, none⟩) (xs.drop q) := by
  refine ⟨⟨?_, fun hn => ?_⟩, fun x hx => h.sub x (List.mem_of_mem_drop hx)⟩
  · rw [gts_length]
  · obtain ⟨b', off', hA, hb, hc⟩ := h.row.2 (by omega)
    cases hA
    refine ⟨b, off + q * 7, rfl, hb, fun j u hu => ?_⟩
    have hd : gts xs = gts (xs.take q) ++ gts (xs.drop q) := by unfold gts; rw [← List.flatMap_append, List.take_append_drop]
    have hl : (gts (xs.take q)).length = q * 7 := by rw [gts_length, List.length_take, Nat.min_eq_left (by omega)]
    have := hc (q * 7 + j) u (by rw [hd, List.getElem?_append_right (by omega), hl, Nat.add_sub_cancel_left]; exact hu)
    rwa [← Nat.add_assoc] at this
theorem tv_ends {xs : List Tv} {e : Nat} (h : Chain 0 (xs.map (·.t)) e) {j : Nat} (hj : j < xs.length) : ∃ x, xs[j]? = some x ∧ x.t.at_ = ends (xs.map (·.t)) j ∧ ends (xs.map (·.t)) j < ends (xs.map (·.t)) (j + 1) ∧ ends (xs.map (·.t)) (j + 1) ≤ e ∧ x.t.end_ = ends (xs.map (·.t)) (j + 1) := by
  obtain ⟨h1, h2, h3, h4⟩ := ends_at h (j := j) (by rw [List.length_map]; exact hj)
  rw [List.getElem_map] at h1 h4
  exact ⟨xs[j], List.getElem?_eq_getElem hj, h1, h2, h3, h4⟩
theorem TkL.at_ {w : World} {B : Nat} {A : Option Addr} {xs : List Tv} (h : TkL w B A (xs.map Tv.g)) {j : Nat} {x : Tv} (hx : xs[j]? = some x) : ∃ b off, A = some ⟨b, off, none⟩ ∧ b < B ∧ GtAt w b (off + j * 7) x.g := by
  obtain ⟨hj, he⟩ := List.getElem?_eq_some_iff.1 hx
  obtain ⟨b, off, h1, h2, h3⟩ := h.row.gt (k := j) (by rw [List.length_map]; exact hj)
  rw [List.getElem_map, he] at h3
  exact ⟨b, off, h1, h2, h3⟩
theorem attrsW_len {off : Nat} {w : L} {as_ : List At} {e : Bool} (h : AttrsW off w as_ e) : as_.length ≤ w.length := by
  induction h with
  | two off b hb => simp
  | one off b hb => simp
  | more off b nm v x w as_ e hb h0 hn hn0 hv h60 hw ih =>
    have hbl : 0 < b.length := List.length_pos_iff.2 h0
    simp only [List.length_append, List.length_cons]
    omega
theorem tokW_len {at_ : Nat} {w : L} {t : Tok} (h : TokW at_ w t) : t.attrs.length ≤ w.length := by
  cases h with
  | start _ nm wa as_ e hn h0 ha =>
    have := attrsW_len ha
    simp only [List.length_append, List.length_cons]
    omega
  | _ => exact Nat.zero_le _
theorem row_attrs {at_ : Nat} {w rest : L} {ts : List Tok} (h : Row at_ w rest ts) : ∀ t ∈ ts, t.attrs.length ≤ w.length := by
  induction h with
  | nil => intro t ht; cases ht
  | cons at_ w t w2 rest ts hw hf hk _ ih =>
    intro u hu
    rw [List.length_append]
    rcases List.mem_cons.1 hu with rfl | hu
    · have := tokW_len hw; omega
    · have := ih u hu; omega
theorem allP_attrs {s : L} {ts : List Tok} {n : Nat} {ok : Bool} (h : AllP s ts n ok) : ∀ t ∈ ts, t.attrs.length ≤ s.length := by
  unfold AllP at h
  split at h
  · obtain ⟨w, rest, rfl, h1, _⟩ := h
    intro t ht
    have := row_attrs h1 t ht
    rw [List.length_append]
    omega
  · obtain ⟨rfl, _⟩ := h
    intro t ht
    cases ht
theorem attrs_small {s : L} {xs : List Tv} {n : Nat} {ok : Bool} (h : AllP s (xs.map (·.t)) n ok) {y : Gt} (hy : y ∈ xs.map Tv.g) : y.as_.length ≤ s.length := by
  obtain ⟨x, hx, rfl⟩ := List.mem_map.1 hy
  have := allP_attrs h x.t (List.mem_map_of_mem hx)
  show (x.t.attrs.map At.g).length ≤ _
  rw [List.length_map]
  exact this
/-- k, brought within a length. -/
theorem mod_in (k : Int) {n : Nat} (hn : 0 < n) : ∃ m : Int, Int.tmod k (n : Int) = m ∧ -(n : Int) < m ∧ m < n ∧ ∃ j : Nat, Int.tmod (m + n) (n : Int) = j ∧ j < n := by
  refine ⟨_, rfl, by have := Int.lt_tmod_of_pos k (show (0 : Int) < n by omega); omega, Int.tmod_lt_of_pos k (by omega), ?_⟩
  have h1 := Int.lt_tmod_of_pos k (show (0 : Int) < n by omega)
  have h2 := Int.tmod_nonneg (n : Int) (show 0 ≤ Int.tmod k n + n by omega)
  have h3 := Int.tmod_lt_of_pos (Int.tmod k n + n) (show (0 : Int) < n by omega)
  exact ⟨(Int.tmod (Int.tmod k n + n) (n : Int)).toNat, by omega, by omega⟩
end Go.Proofs.YtbnaphbmmkmaeaaDoor
namespace Go.Proofs.YtbnaphbmmkmaeaaDoor
open Go.RowKit

theorem info_bld : (Tryd.prog.info? 51).map (·.size) = some 2 := by kernel_rfl
theorem lies_bld : liesAt Tryd.prog Tryd.prog.depth 51 (2 / Tryd.prog.cellsOf 51) 0 51 1 = true := by kernel_rfl
theorem info_u8b : (Tryd.prog.info? 5).map (fun i => (i.zero, i.size, i.bytes)) = some (some (.int .u8 0), 1, 1) := by kernel_rfl
set_option maxHeartbeats 1000000 in
set_option maxRecDepth 100000 in
theorem cc_used (b : Nat) (w : World) (h0 : w.cell? ⟨b, 0, none⟩ = some (.pointer (some ⟨b, 0, none⟩))) :
    Calls Tryd.prog 36 #[.pointer (some ⟨b, 0, none⟩)] w fun e w' => e = .returned (.tuple #[]) ∧ w' = w := by
  obtain ⟨j, hj, _⟩ := Option.map_eq_some_iff.1 info_bld
  go_enter Tryd.func36, Tryd.ntmps36
  go_wp2
  rw [Lib.run_neq_ptr_same w _ Tryd.underlying48 hj]
  go_wp2
  go_end0
  exact ⟨rfl, rfl⟩
set_option maxHeartbeats 1000000 in
set_option maxRecDepth 100000 in
theorem cc_fresh (b : Nat) (w : World) (h0 : w.cell? ⟨b, 0, none⟩ = some (.pointer none)) (hsh : w.shape? b = some (51, 2)) (hfz : w.frozen? ⟨b, 0, none⟩ = false) :
    Calls Tryd.prog 36 #[.pointer (some ⟨b, 0, none⟩)] w fun e w' => e = .returned (.tuple #[]) ∧ w' = w.setCell ⟨b, 0, none⟩ (.pointer (some ⟨b, 0, none⟩)) := by
  obtain ⟨j, hj, hjs⟩ := Option.map_eq_some_iff.1 info_bld
  go_enter Tryd.func36, Tryd.ntmps36
  go_wp2
  rw [Lib.run_to_unsafe w ⟨b, 0, none⟩ Tryd.underlying48 Tryd.underlying84 hj (by rw [hjs]; decide) hsh (Nat.zero_lt_succ 1)]
  simp only [Result.andThen]
  rw [Oper.upon_value]
  go_wp2
  rw [run_callFunc_extern Tryd.func53 (by kernel_rfl) (by kernel_rfl) (by kernel_rfl) (e := Extern.AbiNoEscape.same) (by kernel_rfl)]
  rw [Lib.run_noEscape]
  simp only [Result.andThen]
  rw [Oper.upon_value]
  go_wp2
  rw [Lib.run_from_unsafe w ⟨b, 0, none⟩ Tryd.underlying84 Tryd.underlying48 hj hsh lies_bld]
  simp only [Result.andThen]
  rw [Oper.upon_value]
  go_wp2
  go_end0
  exact ⟨rfl, rfl⟩
theorem cc_any (B b : Nat) (bs : List Value) (w : World) (h : Lib.IsBuilder 51 5 B b bs w) :
    Calls Tryd.prog 36 #[.pointer (some ⟨b, 0, none⟩)] w fun e w' => e = .returned (.tuple #[]) ∧ (Lib.BuilderAt 51 5 B b (.pointer (some ⟨b, 0, none⟩)) bs w' ∧ Below B w w') := by
  rcases h with h | h
  · refine (cc_fresh b w h.cell0 h.shape h.frozen0).mono ?_
    rintro e w' ⟨rfl, rfl⟩
    exact ⟨rfl, h.used _, (Below.refl B w).setCell (p := ⟨b, 0, none⟩) h.1 _⟩
  · refine (cc_used b w h.cell0).mono ?_
    rintro e w' ⟨rfl, rfl⟩
    exact ⟨rfl, h, Below.refl B _⟩
/-- Nothing that was there has turned, but block b and, from B on, rows of bytes. -/
structure BlT (B b : Nat) (w w' : World) : Prop where
  os : w'.os = w.os
  tape : w'.tape = w.tape
  output : w'.output = w.output
  size : w.heap.size ≤ w'.heap.size
  block : ∀ k, k < w.heap.size → k ≠ b → (k < B ∨ ¬ IsT w k 5) → w'.heap[k]? = w.heap[k]?
theorem BlT.refl (B b : Nat) (w : World) : BlT B b w w := ⟨rfl, rfl, rfl, Nat.le_refl _, fun _ _ _ _ => rfl⟩
theorem BlT.trans {B b : Nat} {w w1 w' : World} (h : BlT B b w w1) (k : BlT B b w1 w') : BlT B b w w' :=
  ⟨k.os.trans h.os, k.tape.trans h.tape, k.output.trans h.output, Nat.le_trans h.size k.size, fun i hi hb ht => by
    have e1 := h.block i hi hb ht
    refine (k.block i (Nat.lt_of_lt_of_le hi h.size) hb (ht.imp id fun hn hT => hn ?_)).trans e1
    obtain ⟨cs, fr, hh⟩ := hT
    exact ⟨cs, fr, e1.symm.trans hh⟩⟩
theorem BlT.below {B b : Nat} {w w' : World} (h : BlT B b w w') (hb : B ≤ b) (hs : B ≤ w.heap.size) : Below B w w' := ⟨h.os, h.tape, h.output, h.size, fun k hk => h.block k (by omega) (by omega) (.inl hk)⟩
theorem BlT.blk {B b g t : Nat} {cs : Array Value} {w w' : World} (h : BlT B b w w') (hg : Blk w g t cs) (hb : g ≠ b) (ht : t ≠ 5) : Blk w' g t cs :=
  (h.block g hg.lt hb (.inr fun ⟨cs', fr, hh⟩ => by
    have := (show w.heap[g]? = some (.cells cs t (0, 0)) from hg).symm.trans hh
    injection this with this
    injection this with _ h3
    exact ht h3)).trans hg
theorem BlT.of_below {B b : Nat} {w w' : World} (h : Below w.heap.size w w') : BlT B b w w' := ⟨h.os, h.tape, h.output, h.size, fun k hk _ _ => h.block k hk⟩
theorem BlT.setCell {B b : Nat} {w w1 : World} (h : BlT B b w w1) (i : Nat) (u : Value) : BlT B b w (w1.setCell ⟨b, i, none⟩ u) :=
  ⟨h.os, h.tape, h.output, by simpa [World.setCell] using h.size, fun k hk hb ht => by
    rw [Below.heap_setCell _ _ _ _ (by exact hb)]
    exact h.block k hk hb ht⟩
theorem BlT.alloc {B b : Nat} {w w1 : World} (h : BlT B b w w1) (o : Obj) : BlT B b w (w1.alloc o) := h.trans (BlT.of_below (below_alloc w1 o))
theorem BlT.grown {B b : Nat} {w w1 w2 : World} {row : Option Nat} (h : BlT B b w w1) (hg : w1.grownBy w2 row) (hr : ∀ k, row = some k → B ≤ k ∧ IsT w1 k 5) : BlT B b w w2 :=
  h.trans ⟨hg.os, hg.tape, hg.output, hg.size, fun k hk _ ht => hg.block k hk fun e => by
    obtain ⟨h1, h2⟩ := hr k e.symm
    rcases ht with ht | ht
    · omega
    · exact ht h2⟩
theorem cc_blt (B b : Nat) (bs : List Value) (w : World) (h : Lib.IsBuilder 51 5 B b bs w) :
    Calls Tryd.prog 36 #[.pointer (some ⟨b, 0, none⟩)] w fun e w' => e = .returned (.tuple #[]) ∧ (Lib.BuilderAt 51 5 B b (.pointer (some ⟨b, 0, none⟩)) bs w' ∧ BlT B b w w') := by
  rcases h with h | h
  · refine (cc_fresh b w h.cell0 h.shape h.frozen0).mono ?_
    rintro e w' ⟨rfl, rfl⟩
    exact ⟨rfl, h.used _, (BlT.refl B b w).setCell 0 _⟩
  · refine (cc_used b w h.cell0).mono ?_
    rintro e w' ⟨rfl, rfl⟩
    exact ⟨rfl, h, BlT.refl B b _⟩
theorem neB5 : 51 ≠ 5 := by decide
set_option maxHeartbeats 2000000 in
set_option maxRecDepth 100000 in
theorem wb_any (B b : Nat) (bs : List Value) (c : Int) (w : World) (h : Lib.IsBuilder 51 5 B b bs w) (hlen : bs.length + 1 ≤ 140737488355328) (hBw : B ≤ w.heap.size) :
    Calls Tryd.prog 24 #[.pointer (some ⟨b, 0, none⟩), .int .u8 c] w fun e w' => e = .returned .nilIface ∧ (Lib.IsBuilder 51 5 B b (bs ++ [.int .u8 c]) w' ∧ BlT B b w w') := by
  obtain ⟨i0, hi, hz0, hz1, hz2⟩ := info_parts info_u8b
  go_enter Tryd.func24, Tryd.ntmps24
  go_wp2_with fail
  refine (cc_blt B b bs _ h).mono ?_
  rintro e w1 ⟨rfl, h1, hb1⟩
  obtain ⟨hB, v, hbk, hown, hne⟩ := h1
  have c0 : w1.cell? ⟨b, 0, none⟩ = some (.pointer (some ⟨b, 0, none⟩)) := by rw [Lib.cell_of_heap hbk]; rfl
  have c1 : w1.cell? ⟨b, 1, none⟩ = some v := by rw [Lib.cell_of_heap hbk]; rfl
  go_wp2_with (at_builtin; refine wpList_append_own _ rfl _ _ 49 rfl B 5 i0 (.int .u8 0) 1 1 Tryd.underlying49 hi hz0 hz1 hz2 rfl (by decide) _ _ _ rfl (hown.alloc _) ⟨w1.heap.size, 0, none⟩ 1 1 [.int .u8 c] rfl rfl ?c1 ?c2 ?c3 ?c4 ?c5 ?_)
  case c1 =>
    intro j u hj
    match j, hj with
    | 0, hj => simp at hj; subst hj; simp [Addr.add]
  case c2 => intro u hu; simp at hu; subst hu; rfl
  case c3 => unfold maxLen; omega
  case c4 => omega
  case c5 => have := hb1.size; simp; omega
  intro v' w2 hown' hgrow _
  have hlt : b < w1.heap.size := by
    rcases Nat.lt_or_ge b w1.heap.size with h' | h'
    · exact h'
    · simp [Array.getElem?_eq_none h'] at hbk
  have hb2 : w2.heap[b]? = some (.cells #[.pointer (some ⟨b, 0, none⟩), v] 51 (0, 0)) := by
    rw [hgrow.block b (by simp; omega) (fun e => hne e.symm), Below.heap_alloc _ _ _ hlt]
    exact hbk
  have d0 : w2.cell? ⟨b, 0, none⟩ = some (.pointer (some ⟨b, 0, none⟩)) := by rw [Lib.cell_of_heap hb2]; rfl
  have d1 : w2.cell? ⟨b, 1, none⟩ = some v := by rw [Lib.cell_of_heap hb2]; rfl
  have f1 : w2.frozen? ⟨b, 1, none⟩ = false := Lib.frozen_of_heap hb2 1
  obtain ⟨g, cap, rfl⟩ : ∃ g cap, v' = .slice (some ⟨g, 0, none⟩) (bs.length + 1) cap := by
    rcases hown'.2 with ⟨_, h0⟩ | ⟨g, cap, cur, hv, _⟩
    · omega
    · exact ⟨g, cap, hv⟩
  go_wp2
  go_ret
  refine ⟨rfl, .inr ?_, ?_⟩
  · exact Lib.BuilderAt.put (T := 51) (e := 5) hB hb2 (bs' := bs ++ [.int .u8 c]) (by simpa using hown') neB5
  · exact ((hb1.alloc _).grown hgrow (fun k hk => ⟨(hown.lt k hk).1, by obtain ⟨_, cs, fr, hh⟩ := own_isT hown k hk; exact ⟨cs, fr, (Below.heap_alloc _ _ _ (own_isT hown k hk).2.lt).trans hh⟩⟩)).setCell 1 _
set_option maxHeartbeats 2000000 in
set_option maxRecDepth 100000 in
theorem ws_any (B b : Nat) (bs : List Value) (s : ByteArray) (w : World) (h : Lib.IsBuilder 51 5 B b bs w) (hlen : bs.length + s.size ≤ 140737488355328) (hBw : B ≤ w.heap.size) :
    Calls Tryd.prog 22 #[.pointer (some ⟨b, 0, none⟩), .string s] w fun e w' => e = .returned (.tuple #[.int .i64 s.size, .nilIface]) ∧ (Lib.IsBuilder 51 5 B b (bs ++ Lib.strCells s) w' ∧ BlT B b w w') := by
  obtain ⟨i0, hi, hz0, hz1, hz2⟩ := info_parts info_u8b
  go_enter Tryd.func22, Tryd.ntmps22
  go_wp2_with fail
  refine (cc_blt B b bs _ h).mono ?_
  rintro e w1 ⟨rfl, h1, hb1⟩
  obtain ⟨hB, v, hbk, hown, hne⟩ := h1
  have c0 : w1.cell? ⟨b, 0, none⟩ = some (.pointer (some ⟨b, 0, none⟩)) := by rw [Lib.cell_of_heap hbk]; rfl
  have c1 : w1.cell? ⟨b, 1, none⟩ = some v := by rw [Lib.cell_of_heap hbk]; rfl
  go_wp2_with (at_builtin; refine Lib.wpList_append_own_string _ rfl _ _ 49 9 rfl B 5 i0 Tryd.underlying49 Tryd.underlying9 hi hz0 hz1 hz2 _ _ _ rfl hown s rfl ?c3 ?c4 ?c5 ?_)
  case c3 => unfold maxLen; omega
  case c4 => omega
  case c5 => have := hb1.size; omega
  intro v' w2 hown' hgrow _
  have hlt : b < w1.heap.size := by
    rcases Nat.lt_or_ge b w1.heap.size with h' | h'
    · exact h'
    · simp [Array.getElem?_eq_none h'] at hbk
  have hb2 : w2.heap[b]? = some (.cells #[.pointer (some ⟨b, 0, none⟩), v] 51 (0, 0)) := by
    rw [hgrow.block b hlt (fun e => hne e.symm)]
    exact hbk
  have d0 : w2.cell? ⟨b, 0, none⟩ = some (.pointer (some ⟨b, 0, none⟩)) := by rw [Lib.cell_of_heap hb2]; rfl
  have d1 : w2.cell? ⟨b, 1, none⟩ = some v := by rw [Lib.cell_of_heap hb2]; rfl
  have f1 : w2.frozen? ⟨b, 1, none⟩ = false := Lib.frozen_of_heap hb2 1
  obtain ⟨ao, n', cap, rfl⟩ : ∃ ao n' cap, v' = .slice ao n' cap := by
    rcases hown'.2 with ⟨hv, _⟩ | ⟨g, cap, cur, hv, _⟩
    · exact ⟨_, _, _, hv⟩
    · exact ⟨_, _, _, hv⟩
  go_wp2
  go_ret2
  refine ⟨rfl, .inr ?_, ?_⟩
  · exact Lib.BuilderAt.put (T := 51) (e := 5) hB hb2 (bs' := bs ++ Lib.strCells s) (by simpa [Lib.strCells_length] using hown') neB5
  · exact (hb1.grown hgrow (fun k hk => ⟨(hown.lt k hk).1, (own_isT hown k hk).2⟩)).setCell 1 _
end Go.Proofs.YtbnaphbmmkmaeaaDoor
