/- Tokens: All: a text's tokens. · Tokens: lists that All has made, as lists that lie anywhere; what the laws' wake-up asks. · Tokens: the law of writing: the walk. -/
import Derived.Test.YtbnaphbmmkmaeaaDoorTd16
import Derived.Test.YtbnaphbmmkmaeaaDoorTd18
import Derived.Test.YtbnaphbmmkmaeaaDoorTd19
import Derived.Test.YtbnaphbmmkmaeaaDoorTd22
set_option linter.unusedSimpArgs false
set_option linter.unusedVariables false
namespace Go.Proofs.YtbnaphbmmkmaeaaDoor
open Go.RowKit Tk

set_option maxHeartbeats 8000000 in
set_option maxRecDepth 20000 in
theorem tks_any (w : World) (s : ByteArray) (hg : Gl w) (hw6 : 6 ≤ w.heap.size) (hs : s.size ≤ 1000000) :
    Calls Tryd.prog 8 #[.string s] w (TksR w s.data.toList) := by
  have HV := hide (fun W => valid_any s W (by omega))
  obtain ⟨D, hD⟩ : ∃ D, s.data.toList = D := ⟨_, rfl⟩
  have HD := hide hD
  have HDl := hide (show D.length = s.size by rw [← hD, size_list])
  have HO := hide (fun W k (h1 : Gl W) (h2 : 6 ≤ W.heap.size) (h3 : k < s.size) => one_any W s k h1 h2 h3 (by omega))
  rw [hD] at HV HO ⊢
  clear hD
  have HG := hide hg
  clear hg
  cases hv : Utf.valid D with
  | false =>
    rw [hv] at HV
    have HP := hide (show AllP D (([] : List Tv).map (·.t)) 0 false by unfold AllP; rw [if_neg (by rw [hv]; simp)]; exact ⟨rfl, rfl, rfl⟩)
    clear hv HO
    go_enter Tryd.func8, Tryd.ntmps8
    go_wp2
    go_step3
    go_wp2_with fail
    refine (HV.out _).mono ?_
    rintro e w1 ⟨rfl, b1⟩
    have B1 := hide b1
    clear b1
    go_wp2
    rw [Exit.noGoto_ret]
    go_ret3
    exact ⟨[], none, 0, 0, false, HP.out, by simp, by simp, rfl, B1.out, Reads.none_, (fun a h => by cases h), (fun a h => by cases h), (fun x hx => by cases hx)⟩
  | true =>
    rw [hv] at HV
    have Hv := hide hv
    clear hv
    go_enter Tryd.func8, Tryd.ntmps8
    go_wp2
    go_step3
    go_wp2_with fail
    refine (HV.out _).mono ?_
    rintro e w1 ⟨rfl, b1⟩
    have B1 := hide b1
    clear b1 HV
    go_wp2
    go_step3
    go_wp2
    go_loopg [2, 3] s.size (fun g vl va wr => ∃ (p : Nat) (xs : List Tv) (A : Option Addr) (c : Nat), g = s.size - p ∧ p ≤ s.size ∧ va = .int .i64 (p : Int) ∧ vl = .slice A xs.length c ∧
      wr.ownsRow w.heap.size 29 7 (.slice A xs.length c) xs.length (tvRows xs) ∧ (∀ x ∈ xs, x.In w.heap.size wr) ∧ Below w.heap.size w wr ∧ Row 0 (D.take p) (D.drop p) (xs.map (·.t)))
    case atStart => exact ⟨0, [], none, 0, rfl, by omega, rfl, rfl, World.ownsRow_nil _ _ _ _, (fun x hx => by cases hx), B1.out, .nil _ _⟩
    case round =>
      obtain ⟨p, xs, A, c, hgg, hp, rfl, rfl, hrow, hi, hB, hR⟩ := hrel
      have Hg := hide hgg
      have Hrow := hide hrow
      have Hi := hide hi
      have HB := hide hB
      have HR := hide hR
      clear hgg hrow hi hB hR B1
      by_cases hlt : p < s.size
      · have hone := HO.out wr p (HG.out.below HB.out) (by have := HB.out.size; omega) hlt
        cases ho : Tk.one p (D.drop p) with
        | none =>
          rw [ho] at hone
          have HX := hide (show Calls Tryd.prog 17 #[.string s, .int .i64 (p : Int)] wr fun e w' => Below wr.heap.size wr w' ∧ e = .returned (.tuple #[.agg #[.int .i8 0, .string ⟨#[]⟩, .slice none 0 0, .bool false, .string ⟨#[]⟩, .int .i64 0, .int .i64 0], .bool false]) from hone)
          have HP := hide (show AllP D (xs.map (·.t)) p ((p : Int) == (s.size : Int)) by
            unfold AllP
            rw [if_pos Hv.out]
            have hl : (D.take p).length = p := by rw [List.length_take, HDl.out]; omega
            refine ⟨_, _, (List.take_append_drop p D).symm, HR.out, .inr (by rw [hl]; exact ho), hl.symm, ?_⟩
            have e1 : (D.drop p).isEmpty = false := by
              rw [Bool.eq_false_iff]
              intro e
              have := congrArg List.length (List.isEmpty_iff.1 e)
              rw [List.length_drop, HDl.out] at this
              simp at this
              omega
            rw [e1, beq_eq_false_iff_ne]
            omega)
          have Hlen := hide (show xs.length ≤ D.length by have := row_len HR.out; rw [List.length_map, List.length_take] at this; omega)
          clear hone ho HO HR
          go_wp2_with fail
          refine HX.out.mono ?_
          rintro e w2 ⟨b2, rfl⟩
          have B2 := hide (b2.alloc b2.size (.cells #[.int .i8 0, .string ⟨#[]⟩, .slice none 0 0, .bool false, .string ⟨#[]⟩, .int .i64 0, .int .i64 0] 29))
          clear b2
          have Own2 := hide (own_below Hrow.out B2.out)
          have In2 := hide (fun x hx => (Hi.out x hx).below B2.out)
          have HB2 := hide (HB.out.trans (B2.out.mono HB.out.size))
          go_wp2
          rw [Exit.noGoto_ret]
          go_ret3
          exact ⟨xs, A, c, p, _, HP.out, Hlen.out, own_cap Hrow.out, rfl, HB2.out, Reads.of_own Own2.out, above_own Own2.out, typed_own Own2.out, In2.out⟩
        | some t =>
          rw [ho] at hone
          have HX := hide (show Calls Tryd.prog 17 #[.string s, .int .i64 (p : Int)] wr fun e w' => Below wr.heap.size wr w' ∧ ∃ A c, e = .returned (.tuple #[.agg #[.int .i8 t.kind, .string (bstr t.name), .slice A t.attrs.length c, .bool t.empty, .string (bstr t.text), .int .i64 (t.at_ : Int), .int .i64 (t.end_ : Int)], .bool true]) ∧
            w'.ownsRow wr.heap.size 38 3 (.slice A t.attrs.length c) t.attrs.length (attrVs t.attrs) from hone)
          have HN := hide (row_next HR.out (by rw [HDl.out]; exact hlt) ho)
          have Hlen := hide (show xs.length ≤ D.length by have := row_len HR.out; rw [List.length_map, List.length_take] at this; omega)
          clear hone ho HO HR
          go_wp2_with fail
          refine HX.out.mono ?_
          rintro e w2 ⟨b2, A2, c2, rfl, o2⟩
          have B2 := hide b2
          have N2 := hide (Tv.In.of_own o2)
          have Own2 := hide (own_below Hrow.out b2)
          have In2 := hide (fun x hx => (Hi.out x hx).below b2)
          have HB2 := hide (HB.out.trans (b2.mono HB.out.size))
          have Own3 := hide (Own2.out.alloc (.cells #[.int .i8 t.kind, .string (bstr t.name), .slice A2 t.attrs.length c2, .bool t.empty, .string (bstr t.text), .int .i64 (t.at_ : Int), .int .i64 (t.end_ : Int)] 29))
          have In3 := hide (fun x hx => (In2.out x hx).below (below_alloc w2 (.cells #[.int .i8 t.kind, .string (bstr t.name), .slice A2 t.attrs.length c2, .bool t.empty, .string (bstr t.text), .int .i64 (t.at_ : Int), .int .i64 (t.end_ : Int)] 29)))
          have N3 := hide ((N2.out.below (below_alloc w2 (.cells #[.int .i8 t.kind, .string (bstr t.name), .slice A2 t.attrs.length c2, .bool t.empty, .string (bstr t.text), .int .i64 (t.at_ : Int), .int .i64 (t.end_ : Int)] 29))).more HB.out.size)
          have HB3 := hide (HB2.out.alloc HB2.out.size (.cells #[.int .i8 t.kind, .string (bstr t.name), .slice A2 t.attrs.length c2, .bool t.empty, .string (bstr t.text), .int .i64 (t.at_ : Int), .int .i64 (t.end_ : Int)] 29))
          have V3 := hide (Blk.new w2 29 #[.int .i8 t.kind, .string (bstr t.name), .slice A2 t.attrs.length c2, .bool t.empty, .string (bstr t.text), .int .i64 (t.at_ : Int), .int .i64 (t.end_ : Int)])
          have HVn := hide (show (Value.slice A xs.length c).ownBlock ≠ some w2.heap.size from fun e => by have := (Own2.out.lt _ e).2; omega)
          have Hxl := hide (show xs.length ≤ 1000000 by have := Hlen.out; have := HDl.out; omega)
          clear b2 o2 N2 Own2 In2 HB2 B2
          go_wp2
          generalize w2.alloc (.cells #[.int .i8 t.kind, .string (bstr t.name), .slice A2 t.attrs.length c2, .bool t.empty, .string (bstr t.text), .int .i64 (t.at_ : Int), .int .i64 (t.end_ : Int)] 29) = W3 at *
          generalize w2.heap.size = V at *
          have y0 := V3.out.cell 0
          have y1 := V3.out.cell 1
          have y2 := V3.out.cell 2
          have y3 := V3.out.cell 3
          have y4 := V3.out.cell 4
          have y5 := V3.out.cell 5
          have y6 := V3.out.cell 6
          have xa : ∀ o, (W3.alloc o).cell? ⟨V, 6, none⟩ = some (.int .i64 (t.end_ : Int)) := fun o => (V3.out.alloc o).cell 6
          go_region_law
            (show if Region.wanted (⟨some 25, _, _, _, _, _⟩ : Oper) _ = true then _ else _; refine step_append_elem _ (by rfl) _ _ _ (by rfl) w.heap.size 29 _ 7 88 Tryd.underlying23 info_tok (by rfl) (by omega) (.slice A xs.length c) xs.length (tvRows xs) (by rfl) (by first | exact Own3.out.alloc _ | exact (Own3.out.alloc _).drew) (Tv.row ⟨t, A2, c2⟩) rfl (tv_one ⟨t, A2, c2⟩) W3.heap.size (by first | exact Blk.new W3 29 _ | exact (Blk.new W3 29 _).drew) (by rfl) (by unfold maxLen; have := Hxl.out; omega) (by have := Hxl.out; omega) (by have := HB3.out.size; simp [World.drew]; omega) ?_; intro gg cap w8 hown8 hgrow8 hlt8; have V8 := hide (Blk.grown (Blk.drew (Blk.alloc V3.out (.cells (Tv.row ⟨t, A2, c2⟩).toArray 29))) hgrow8 HVn.out.symm); have z6 : w8.cell? ⟨V, 6, none⟩ = some (.int .i64 (t.end_ : Int)) := V8.out.cell 6; have Hgrow8 := hide hgrow8; have Hown8 := hide hown8; clear hown8 hgrow8 hlt8)
          all_goals go_wp2
          all_goals
            have HBA := hide ((HB3.out.alloc HB3.out.size (.cells (Tv.row ⟨t, A2, c2⟩).toArray 29)).drew)
            have HB8 := hide (HBA.out.grown Hgrow8.out HBA.out.size fun j e => (own_isT Own3.out j e).1)
            have In8 := hide (show ∀ x ∈ xs ++ [Tv.mk t A2 c2], x.In w.heap.size w8 from fun x hx => by
              rcases List.mem_append.1 hx with hx | hx
              · exact (In3.out x hx).grown Own3.out Hgrow8.out
              · simp only [List.mem_singleton] at hx
                subst hx
                exact N3.out.grown Own3.out Hgrow8.out)
            go_roundg (s.size - t.end_)
            case measure => have := Hg.out; have := HN.out.1; have := HN.out.2.1; have := HDl.out; omega
            case rel => exact ⟨t.end_, xs ++ [⟨t, A2, c2⟩], some ⟨gg, 0, none⟩, cap, rfl, by have := HN.out.2.1; have := HDl.out; omega, rfl, by rw [List.length_append]; rfl, by rw [List.length_append, tvRows_snoc]; exact Hown8.out, In8.out, HB8.out, by rw [List.map_append]; exact HN.out.2.2⟩
      · have hpe : p = s.size := by omega
        subst hpe
        have HP := hide (show AllP D (xs.map (·.t)) s.size true by
          unfold AllP
          rw [if_pos Hv.out]
          refine ⟨D, [], (List.append_nil _).symm, ?_, .inl rfl, HDl.out.symm, rfl⟩
          have h := HR.out
          rw [List.take_of_length_le (by rw [HDl.out]; exact Nat.le_refl _), List.drop_of_length_le (by rw [HDl.out]; exact Nat.le_refl _)] at h
          exact h)
        have Hlen := hide (show xs.length ≤ D.length by have := row_len HR.out; rw [List.length_map, List.length_take] at this; omega)
        go_wp2
        rw [Exit.noGoto_ret]
        go_ret3
        exact ⟨xs, A, c, s.size, _, HP.out, Hlen.out, own_cap Hrow.out, rfl, HB.out, Reads.of_own Hrow.out, above_own Hrow.out, typed_own Hrow.out, Hi.out⟩
end Go.Proofs.YtbnaphbmmkmaeaaDoor
namespace Go.Proofs.YtbnaphbmmkmaeaaDoor
open Go.RowKit Tk

def Tk.At.g (a : At) : Ga := ⟨bstr a.name, bstr a.value, (a.at_ : Int)⟩
def Tv.g (x : Tv) : Gt := ⟨x.t.kind, bstr x.t.name, x.t.attrs.map At.g, x.A, x.c, x.t.empty, bstr x.t.text, (x.t.at_ : Int), (x.t.end_ : Int)⟩
theorem attrVs_g (l : List At) : attrVs l = gas (l.map At.g) := by
  induction l with
  | nil => rfl
  | cons a l ih => unfold attrVs gas at ih ⊢; rw [List.flatMap_cons, List.map_cons, List.flatMap_cons, ih]; rfl
theorem row_g (x : Tv) : x.row = gtCells x.g := by
  unfold Tv.row tokCells gtCells Tv.g
  simp only [List.length_map]
theorem tvRows_g (xs : List Tv) : tvRows xs = gts (xs.map Tv.g) := by
  induction xs with
  | nil => rfl
  | cons a l ih => unfold tvRows gts at ih ⊢; rw [List.flatMap_cons, List.map_cons, List.flatMap_cons, ih, row_g]
theorem Tv.In.g {x : Tv} {B : Nat} {W : World} (h : x.In B W) : Reads W W.heap.size 3 x.g.A x.g.as_.length (gas x.g.as_) := by
  have := h.a
  rw [attrVs_g] at this
  unfold Tv.g
  simp only [List.length_map]
  exact this
/-- A list that All has made lies in memory. -/
theorem TkL.of {W : World} {A : Option Addr} {xs : List Tv} {B : Nat} (h : Reads W W.heap.size 7 A xs.length (tvRows xs)) (hi : ∀ x ∈ xs, x.In B W) : TkL W W.heap.size A (xs.map Tv.g) := by
  refine ⟨?_, fun x hx => ?_⟩
  · rw [List.length_map, ← tvRows_g]; exact h
  · obtain ⟨y, hy, rfl⟩ := List.mem_map.1 hx
    exact (hi y hy).g
theorem g_bare (x y : Tv) (h : x.t.bare = y.t.bare) : x.g.bare = y.g.bare := by
  have e : ∀ z : Tv, z.g.bare = ⟨z.t.bare.kind, bstr z.t.bare.name, z.t.bare.attrs.map (fun a => (bstr a.name, bstr a.value)), z.t.bare.empty, bstr z.t.bare.text⟩ := fun z => by
    unfold Tv.g Gt.bare Tok.bare
    simp only [List.map_map]
    rfl
  rw [e, e, h]
theorem gs_bare : ∀ (xs ys : List Tv), (xs.map (·.t)).map Tok.bare = (ys.map (·.t)).map Tok.bare → (xs.map Tv.g).map Gt.bare = (ys.map Tv.g).map Gt.bare
  | [], [], _ => rfl
  | [], _ :: _, h => by simp at h
  | _ :: _, [], h => by simp at h
  | x :: xs, y :: ys, h => by
    simp only [List.map_cons, List.cons.injEq] at h ⊢
    exact ⟨g_bare x y h.1, gs_bare xs ys h.2⟩
/-- The tokens that a right text has, by computing. -/
theorem Tk.AllP.comp {s : L} {ts : List Tok} {e : Nat} {ok : Bool} (h : AllP s ts e ok) (hv : Utf.valid s = true) : ts = toks s.length 0 s ∧ Chain 0 ts e ∧ ok = decide (e = s.length) := by
  have hl := h.len
  rw [hv, Bool.and_true] at hl
  refine ⟨?_, hl.2.1, hl.2.2⟩
  unfold AllP at h
  rw [if_pos hv] at h
  obtain ⟨w, rest, rfl, h1, h2, rfl, rfl⟩ := h
  exact (toks_row h1 (by rw [Nat.zero_add]; exact h2) (w ++ rest).length (Nat.le_refl _)).symm
theorem Tk.Chain.end_ : ∀ {ts : List Tok} {n e : Nat}, Chain n ts e → e = (ts.getLast?.map (·.end_)).getD n
  | [], n, e, h => h.symm
  | [t], n, e, h => h.2.2.symm
  | t :: u :: r, n, e, h => by
    have := Tk.Chain.end_ (ts := u :: r) h.2.2
    rw [this]
    simp [List.getLast?_cons]
def wk1 : L := [60, 97, 32, 98, 61, 39, 49, 39, 47, 62, 120]
def wk2 : L := [97, 32, 93, 93, 62]
theorem wk1_toks : toks wk1.length 0 wk1 = [⟨0, [97], [⟨[98], [49], 3⟩], true, [], 0, 10⟩, ⟨2, [], [], false, [120], 10, 11⟩] := by decide +kernel
theorem wk2_toks : toks wk2.length 0 wk2 = [] := by decide +kernel
theorem wk1_all {ts : List Tok} {e : Nat} {ok : Bool} (h : AllP wk1 ts e ok) : ts = [⟨0, [97], [⟨[98], [49], 3⟩], true, [], 0, 10⟩, ⟨2, [], [], false, [120], 10, 11⟩] ∧ e = 11 ∧ ok = true := by
  obtain ⟨h1, h2, h3⟩ := h.comp (by decide +kernel)
  rw [wk1_toks] at h1
  subst h1
  have he := h2.end_
  subst he
  exact ⟨rfl, rfl, h3⟩
theorem wk2_all {ts : List Tok} {e : Nat} {ok : Bool} (h : AllP wk2 ts e ok) : ts = [] ∧ e = 0 ∧ ok = false := by
  obtain ⟨h1, h2, h3⟩ := h.comp (by decide +kernel)
  rw [wk2_toks] at h1
  subst h1
  have he := h2.end_
  subst he
  exact ⟨rfl, rfl, h3⟩
theorem map_two {xs : List Tv} {t u : Tok} (h : xs.map (·.t) = [t, u]) : ∃ x y, xs = [x, y] ∧ x.t = t ∧ y.t = u := by
  match xs, h with
  | [x, y], h => simp only [List.map_cons, List.map_nil, List.cons.injEq, and_true] at h; exact ⟨x, y, rfl, h.1, h.2⟩
/-- The cells that the wake-up asks for. -/
theorem wk1_cells {W : World} {A : Option Addr} {xs : List Tv} {B : Nat} (h : Reads W W.heap.size 7 A xs.length (tvRows xs)) (hi : ∀ x ∈ xs, x.In B W)
    (hx : xs.map (·.t) = [⟨0, [97], [⟨[98], [49], 3⟩], true, [], 0, 10⟩, ⟨2, [], [], false, [120], 10, 11⟩]) :
    xs.length = 2 ∧ ∃ b off b' off' cc, A = some ⟨b, off, none⟩ ∧ b < W.heap.size ∧ b' < W.heap.size ∧ W.cell? ⟨b, off + 1, none⟩ = some (.string ⟨#[97]⟩) ∧ W.cell? ⟨b, off + 3, none⟩ = some (.bool true) ∧
      W.cell? ⟨b, off + 2, none⟩ = some (.slice (some ⟨b', off', none⟩) 1 cc) ∧ W.cell? ⟨b', off' + 1, none⟩ = some (.string ⟨#[49]⟩) ∧ W.cell? ⟨b, off + 7 + 4, none⟩ = some (.string ⟨#[120]⟩) := by
  obtain ⟨x, y, rfl, hx0, hy0⟩ := map_two hx
  have hT := TkL.of h hi
  obtain ⟨b, off, rfl, hb, h0⟩ := hT.row.gt (k := 0) (by simp)
  obtain ⟨b1, off1, e, hb1, h1⟩ := hT.row.gt (k := 1) (by simp)
  cases e
  have hs := hT.sub x.g (by simp)
  have ex : x.g.as_ = [⟨⟨#[98]⟩, ⟨#[49]⟩, 3⟩] := by show x.t.attrs.map At.g = _; rw [hx0]; rfl
  rw [ex] at hs
  obtain ⟨b', off', eA, hb', g0⟩ := hs.ga (k := 0) (by simp)
  have n0 : x.g.name = ⟨#[97]⟩ := by show bstr x.t.name = _; rw [hx0]; rfl
  have m0 : x.g.empty = true := by show x.t.empty = _; rw [hx0]
  have t1 : y.g.text = ⟨#[120]⟩ := by show bstr y.t.text = _; rw [hy0]; rfl
  refine ⟨rfl, b, off, b', off', x.g.c, rfl, hb, hb', ?_, ?_, ?_, ?_, ?_⟩
  · have := h0.c1; simp only [List.map_cons, List.getElem_cons_zero, n0, Nat.zero_mul, Nat.add_zero] at this; exact this
  · have := h0.c3; simp only [List.map_cons, List.getElem_cons_zero, m0, Nat.zero_mul, Nat.add_zero] at this; exact this
  · have := h0.c2; simp only [List.map_cons, List.getElem_cons_zero, ex, eA, Nat.zero_mul, Nat.add_zero] at this; exact this
  · have := g0.c1; simp only [List.getElem_cons_zero, Nat.zero_mul, Nat.add_zero] at this; exact this
  · have := h1.c4; simp only [List.map_cons, List.getElem_cons_succ, List.getElem_cons_zero, t1, Nat.one_mul] at this; exact this

set_option maxHeartbeats 8000000 in
theorem wakes_any (w : World) (hg : Gl w) (hw6 : 6 ≤ w.heap.size) : Calls Tryd.prog 7 #[] w fun e w' => e = .returned (.bool true) ∧ Below w.heap.size w w' := by
  have HG := hide hg
  have H1 := hide (tks_any w ⟨#[60, 97, 32, 98, 61, 39, 49, 39, 47, 62, 120]⟩ hg hw6 (by decide))
  clear hg
  go_enter Tryd.func7, Tryd.ntmps7
  go_wp2_with fail
  refine H1.out.mono ?_
  rintro e w1 ⟨xs, A, c, n, ok, hP, -, -, rfl, b1, hr, -, -, hi⟩
  obtain ⟨hx, rfl, rfl⟩ := wk1_all hP
  have H2 := hide (tks_any w1 ⟨#[97, 32, 93, 93, 62]⟩ (HG.out.below b1) (by have := b1.size; omega) (by decide))
  obtain ⟨hn, b, off, b', off', cc, rfl, hb, hb', q1, q3, q2, q5, q4⟩ := wk1_cells hr hi hx
  have B1 := hide b1
  rw [hn]
  clear hP hr hi hx b1 hn H1
  go_wp2_with fail
  refine H2.out.mono ?_
  rintro e w2 ⟨xs2, A2, c2, n2, ok2, hP2, -, -, rfl, b2, -, -, -, -⟩
  obtain ⟨hx2, rfl, rfl⟩ := wk2_all hP2
  replace q1 := cell_go b2 q1
  replace q2 := cell_go b2 q2
  replace q3 := cell_go b2 q3
  replace q4 := cell_go b2 q4
  replace q5 := cell_go b2 q5
  have B2 := hide (B1.out.trans (b2.mono B1.out.size))
  clear hP2 hx2 b2 B1 H2
  go_wp2
  go_ret
  exact ⟨rfl, B2.out⟩
end Go.Proofs.YtbnaphbmmkmaeaaDoor
namespace Go.Proofs.YtbnaphbmmkmaeaaDoor
open Go.RowKit Tk

set_option maxHeartbeats 16000000 in
set_option maxRecDepth 20000 in
theorem lawWrite_any (A A' : Option Addr) (c c' : Nat) (l l' : List Gt) (w : World) (hg : Gl w) (hw6 : 6 ≤ w.heap.size) (hA : TkL w w.heap.size A l) (hA' : TkL w w.heap.size A' l') (hl : l.length ≤ maxLen) (hl' : l'.length ≤ maxLen)
    (hs : ∀ x ∈ l, x.as_.length ≤ maxLen) (hs' : ∀ x ∈ l', x.as_.length ≤ maxLen) (hz : ∀ x ∈ l, x.name.size ≤ 140737488351232 ∧ x.text.size ≤ 140737488351232) :
    Calls Tryd.prog 5 #[.slice A l.length c, .slice A' l'.length c'] w fun e w' => e = .returned (.bool true) ∧ Below w.heap.size w w' := by
  have HWk := hide (fun W (h : Below w.heap.size w W) => wakes_any W (hg.below h) (Nat.le_trans hw6 h.size))
  have HG1 := hide (great14_any A c _ l w hA hl hs)
  have HG2 := hide (fun W (h : Below w.heap.size w W) => great14_any A' c' _ l' W (hA'.below h) hl' hs')
  have HJ := hide (fun W (h : Below w.heap.size w W) (hsm : Small l) => join_big A c w.heap.size l W (hA.below h) h.size (Nat.le_trans hsm.1 (by omega)) (fun x hx => Nat.le_trans (hsm.2.1 x hx) (by omega)) (small_join hsm hz))
  have HR := hide (fun W (h : Below w.heap.size w W) (hsm : Small l) => refJoin14_any A c w.heap.size l W (hA.below h) h.size (Nat.le_trans hsm.1 (by omega)) (fun x hx => Nat.le_trans (hsm.2.1 x hx) (by omega)) (small_join hsm hz))
  have HS := hide (fun W (h : Below w.heap.size w W) (hsm : Small l) (hsm' : Small l') => same_any A A' c c' w.heap.size l l' W (hA.below h) (hA'.below h) h.size (Nat.le_trans hsm.1 (by omega)) (Nat.le_trans hsm'.1 (by omega)) (fun x hx => Nat.le_trans (hsm.2.1 x hx) (by omega)) (fun x hx => Nat.le_trans (hsm'.2.1 x hx) (by omega)))
  have HT := hide (fun W (h : Below w.heap.size w W) (hsm : Small l) (hsm' : Small l') => refSame14_any A A' c c' w.heap.size l l' W (hA.below h) (hA'.below h) h.size (Nat.le_trans hsm.1 (by omega)) (Nat.le_trans hsm'.1 (by omega)) (fun x hx => Nat.le_trans (hsm.2.1 x hx) (by omega)) (fun x hx => Nat.le_trans (hsm'.2.1 x hx) (by omega)))
  obtain ⟨n, hn⟩ : ∃ n, l.length = n := ⟨_, rfl⟩
  obtain ⟨n', hn'⟩ : ∃ n, l'.length = n := ⟨_, rfl⟩
  obtain ⟨J, hJ⟩ : ∃ J, bstr (joinG l) = J := ⟨_, rfl⟩
  obtain ⟨d, hd⟩ : ∃ d, decide (l.map Gt.bare = l'.map Gt.bare) = d := ⟨_, rfl⟩
  rw [hn] at HG1 HJ HR HS HT hl ⊢
  rw [hn'] at HG2 HS HT hl' ⊢
  rw [hJ] at HJ HR
  rw [hd] at HS HT
  have hJJ : (J.toList == J.toList) = true := by simp
  clear hg hA hA' hs hs' hz hn hn' hJ hd
  go_enter Tryd.func5, Tryd.ntmps5
  go_wp2_with fail
  refine HG1.out.mono ?_
  rintro e w1 ⟨⟨b1, rfl, hs1⟩, m1, rfl⟩
  have B1 := hide (below_drewN (Below.refl w.heap.size w) m1)
  cases b1 with
  | true =>
    clear hs1
    go_wp2_with fail
    refine (HWk.out _ B1.out).mono ?_
    rintro e wz ⟨rfl, bz⟩
    go_wp2
    go_ret
    exact ⟨rfl, B1.out.trans (bz.mono B1.out.size)⟩
  | false =>
    have S1 := hide (hs1 rfl)
    clear hs1
    go_wp2_with fail
    refine (HG2.out _ B1.out).mono ?_
    rintro e w2 ⟨⟨b2, rfl, hs2⟩, m2, hw2⟩
    have B2 := hide (show Below w.heap.size w w2 by rw [hw2]; exact below_drewN B1.out m2)
    clear hw2
    cases b2 with
    | true =>
      clear hs2
      go_wp2_with fail
      refine (HWk.out _ B2.out).mono ?_
      rintro e wz ⟨rfl, bz⟩
      go_wp2
      go_ret
      exact ⟨rfl, B2.out.trans (bz.mono B2.out.size)⟩
    | false =>
      have S2 := hide (hs2 rfl)
      clear hs2
      have HJ' := hide (fun W h => HJ.out W h S1.out)
      have HR' := hide (fun W h => HR.out W h S1.out)
      have HS' := hide (fun W h => HS.out W h S1.out S2.out)
      have HT' := hide (fun W h => HT.out W h S1.out S2.out)
      clear HJ HR HS HT HG1 HG2
      go_wp2_with fail
      refine (HJ'.out _ B2.out).mono ?_
      rintro e w3 ⟨rfl, b3⟩
      have B3 := hide (B2.out.trans (b3.mono B2.out.size))
      clear b3
      go_wp2_with fail
      refine (HR'.out _ B3.out).mono ?_
      rintro e w4 ⟨rfl, b4⟩
      have B4 := hide (B3.out.trans (b4.mono B3.out.size))
      clear b4
      go_wp2_with fail
      refine (HS'.out _ B4.out).mono ?_
      rintro e w5 ⟨rfl, b5⟩
      have B5 := hide (B4.out.trans (b5.mono B4.out.size))
      clear b5
      go_wp2_with fail
      refine (HT'.out _ B5.out).mono ?_
      rintro e w6 ⟨rfl, b6⟩
      have B6 := hide (B5.out.trans (b6.mono B5.out.size))
      clear b6
      have hdd : (d == d) = true := by simp
      go_wp2_with fail
      refine (HWk.out _ B6.out).mono ?_
      rintro e wz ⟨rfl, bz⟩
      go_wp2
      go_ret
      exact ⟨rfl, B6.out.trans (bz.mono B6.out.size)⟩
end Go.Proofs.YtbnaphbmmkmaeaaDoor
