/- Events: the program's Put: an event behind others, in a row of its own. · Bozo: close; skip; what is known; Keep. · Bozo: skip; what is known; Keep. -/
import Derived.Test.YtaickkaoglohgaaBv13
import Derived.Test.YtaickkaoglohgaaBv23
import Derived.Deep.RegionLawGrows
set_option linter.unusedSimpArgs false
set_option linter.unusedVariables false
namespace Go.Proofs.Ytaickkaoglohgaa
open Go.RowKit Tk Sx

section
variable {P : Program} {ops : Array Oper} {o : Oper} {a : Act} {K : Act → World → Prop} {Q : Exit → Act → World → Prop} {E : Prop}
/-- append of one element to a row that is cut to its length: it must grow. -/
theorem step_append_full (W : World) (hgd : o.guard = none) (s x : Operand) (t : TypeId) (ho : o.op = .call { callee := .builtin .append, args := #[s, x], argTypes := #[t, t] })
    (base : Nat) (e : TypeId) (z : Value) (size bytes : Nat) (ht : P.underlying t = some (.slice e)) (hinfo : (P.info? e).map (fun i => (i.zero, i.size, i.bytes)) = some (some z, size, bytes))
    (hzs : z.cells.size = size) (hsz : 0 < size) (A : Option Addr) (m c : Nat) (xs : List Value) (hs : a.eval s = .slice A m m) (hown : W.ownsRow base e size (.slice A m c) m xs)
    (cs : List Value) (hcs : cs.length = size) (h1 : ∀ u ∈ cs, u.oneCell' = true) (H : Nat) (hH : Blk W H e cs.toArray) (hx : a.eval x = .slice (some ⟨H, 0, none⟩) 1 1)
    (h63 : m + 1 ≤ maxLen) (hbytes : (m + 1) * bytes ≤ 140737488355328)
    (h : ∀ g cap w', w'.ownsRow W.heap.size e size (.slice (some ⟨g, 0, none⟩) (m + 1) cap) (m + 1) (xs ++ cs) → W.grownBy w' none → g < w'.heap.size →
      K (a.put o.dst (.slice (some ⟨g, 0, none⟩) (m + 1) cap)) w') :
    if Region.wanted o (yielded ops a.tmps) = true then Oper.wp P o a W K Q else E := by
  obtain ⟨i, hi, hz, hsize, hby⟩ := info_parts hinfo
  refine step_append_grows hgd s x t ho e i z size bytes ht hi hz hsize hby hzs hsz A m m xs hs ?_ hown.1 ?_ ⟨H, 0, none⟩ 1 1 cs hx (by omega) ?_ h1 (by omega) h63 hbytes ?_
  · rintro rfl
    rcases hown.2 with ⟨h0, h2⟩ | ⟨g, cap, cur, h0, _⟩
    · exact ⟨h2, h2⟩
    · cases h0
  · rintro b rfl j u hj
    rcases hown.2 with ⟨h0, _⟩ | ⟨g, cap, cur, h0, _⟩
    · cases h0
    · have hjl : j < m * size := by
        have := (List.getElem?_eq_some_iff.1 hj).1
        rw [hown.1] at this
        exact this
      cases h0
      rw [Addr.add_lit, Nat.zero_add, hown.cellAt j hjl]
      exact hj
  · intro j u hu
    exact World.news_of_block hH j u (by simpa using hu)
  · intro v' w' hown' hgrow
    obtain ⟨g, cap, hv, _, hlt⟩ := hown'.form (by omega)
    subst hv
    exact h g cap w' hown' hgrow hlt
end
theorem own_base {w : World} {b b' e size n : Nat} {v : Value} {xs : List Value} (h : w.ownsRow b e size v n xs) (hb : b' ≤ b) : w.ownsRow b' e size v n xs := by
  refine ⟨h.1, ?_⟩
  rcases h.2 with h0 | ⟨g, cap, cur, h1, h2, h3⟩
  · exact .inl h0
  · exact .inr ⟨g, cap, cur, h1, by omega, h3⟩
theorem MovT.grownN {B t : Nat} {w w' : World} (hg : w.grownBy w' none) : MovT B t w w' := .grown hg fun k e => (by cases e)
theorem EPut.snoc {B n : Nat} {w W w8 : World} {xs : List Ew} {x : Ew} {g cap : Nat} (hB : B ≤ w.heap.size) (hn : xs.length = n) (hW : Below w.heap.size w W) (hown : w8.ownsRow W.heap.size 39 5 (.slice (some ⟨g, 0, none⟩) (n + 1) cap) (n + 1) (ews xs ++ ewCells x))
    (hgrow : W.grownBy w8 none) (hp : putEv (xs.map (·.e)) x.e = xs.map (·.e) ++ [x.e]) : PutE B w xs x (.returned (.slice (some ⟨g, 0, none⟩) (n + 1) cap)) w8 := by
  subst hn
  refine ⟨some ⟨g, 0, none⟩, cap, xs ++ [x], by rw [List.length_append]; rfl, by rw [List.length_append]; unfold ews at hown ⊢; rw [fm_snoc]; exact own_base hown (by have := hW.size; omega), by rw [hp, List.map_append]; rfl, fun y hy => ⟨y, hy, rfl, rfl⟩, ?_⟩
  exact (MovT.of_below hW).trans (.grownN hgrow)
set_option maxHeartbeats 8000000 in
theorem eput_any (B : Nat) (xs : List Ew) (x : Ew) (A : Option Addr) (c : Nat) (w : World) (h : w.ownsRow B 39 5 (.slice A xs.length c) xs.length (ews xs)) (hB : B ≤ w.heap.size) (hn : xs.length ≤ 1000000000)
    (ht : ∀ y ∈ xs, y.e.text.length + x.e.text.length ≤ 1000000000000000000) :
    Calls Try.prog 41 #[.slice A xs.length c, .agg #[.int .i8 (x.e.kind : Int), .string (bstr x.e.name.ns), .string (bstr x.e.name.loc), .slice x.A x.e.attrs.length x.c, .string (bstr x.e.text)]] w (PutE B w xs x) := by
  have H := hide h
  have hcap := own_cap h
  have HX := hide (show Blk ((w.alloc (.cells (ewCells x).toArray 39)).alloc (.cells (ewCells x).toArray 39)) (w.heap.size + 1) 39 (ewCells x).toArray by
    have := Blk.new (w.alloc (.cells (ewCells x).toArray 39)) 39 (ewCells x).toArray
    rwa [World.size_alloc] at this)
  have hempt : ((bstr x.e.text).toList == ([] : L)) = decide (x.e.text = []) := lit_eq (bstr x.e.text) []
  have hemp2 : (bstr x.e.text).toList.isEmpty = decide (x.e.text = []) := by rw [ByteArray.toList_eq, bstr_list]; cases x.e.text <;> simp
  obtain ⟨n, hnn⟩ : ∃ n, xs.length = n := ⟨_, rfl⟩
  rw [hnn] at H hcap ⊢
  have HN := hide hnn
  have Hn := hide (show n ≤ 1000000000 by omega)
  have HB := hide hB
  have hb1 : (0 : Int) ≤ (n : Int) ∧ (n : Int) ≤ (c : Int) := by omega
  have hb2 : (n : Int) ≤ (n : Int) := Int.le_refl _
  by_cases hk : x.e.kind = 2
  · have hk2 : ((x.e.kind : Int) != 2) = false := by rw [hk]; rfl
    cases he : decide (x.e.text = []) with
    | true =>
      have Hq := hide (show putEv (xs.map (·.e)) x.e = xs.map (·.e) by
        have he := of_decide_eq_true he
        rcases List.eq_nil_or_concat xs with hx | ⟨ys, y, hx⟩
        · subst hx; rw [List.map_nil, put_nil hk, if_pos he]
        · rw [List.concat_eq_append] at hx
          subst hx
          rw [List.map_append, List.map_cons, List.map_nil]
          by_cases hy : y.e.kind = 2
          · rw [put_text hk hy, he, List.append_nil, ← hy]
          · rw [put_behind hk hy, if_pos he])
      rw [he] at hempt hemp2
      clear hk h hB hn ht he hnn
      go_enter Try.func41, Try.ntmps41
      go_wp2
      go_ret
      exact ⟨A, c, xs, by rw [HN.out]; rfl, by rw [HN.out]; exact own_go H.out (below_alloc _ _), Hq.out.symm, (fun y hy => ⟨y, List.mem_append_left _ hy, rfl, rfl⟩), MovT.of_below (below_alloc _ _)⟩
    | false =>
      rw [he] at hempt hemp2
      rcases List.eq_nil_or_concat xs with hx | ⟨ys, y, hx⟩
      · have Hp := hide (show putEv (xs.map (·.e)) x.e = xs.map (·.e) ++ [x.e] by rw [hx, List.map_nil, put_nil hk, if_neg (of_decide_eq_false he)]; rfl)
        have hn0 : n = 0 := by rw [← hnn, hx]; rfl
        clear hk h hB hn ht he hnn hx
        subst hn0
        have hgt : decide (((0 : Nat) : Int) > 0) = false := rfl
        clear hb1 hb2
        have hb1 : (0 : Int) ≤ (c : Int) := by omega
        go_enter Try.func41, Try.ntmps41
        go_wp2
        go_region_law (refine step_append_full _ (by rfl) (.tmp 53) (.tmp 55) _ (by rfl) B 39 _ 5 80 Try.underlying29 info_ev (by rfl) (by omega) A 0 c (ews xs) (by rfl) ((H.out.alloc _).alloc _) (ewCells x) (by rfl) (ev_one x) (w.heap.size + 1) HX.out (by rfl) (by unfold maxLen; have := Hn.out; omega) (by have := Hn.out; omega) ?_; intro g8 cap8 w8 hown8 hgrow8 hlt8)
        all_goals
          go_wp2
          go_ret
          exact EPut.snoc HB.out HN.out (((Below.refl _ w).alloc (Nat.le_refl _) _).alloc (by simp) _).drew (by assumption) (by assumption) Hp.out
      · rw [List.concat_eq_append] at hx
        obtain ⟨m, hm⟩ : ∃ m, ys.length = m := ⟨_, rfl⟩
        have hl : xs.length = m + 1 := by rw [hx, ← hm]; simp
        have hnm : n = m + 1 := by omega
        obtain ⟨g, cap, hv, hgb, hlt⟩ := h.form (by omega)
        cases hv
        have hcl : ∀ j, j < 5 → w.cell? ⟨g, m * 5 + j, none⟩ = (ewCells y)[j]? := fun j hj => by
          rw [h.cellAt (m * 5 + j) (by omega)]
          unfold ews
          rw [fm_at ew_len xs m (by omega) j hj]
          congr 2
          simp only [hx]
          rw [List.getElem_append_right (by omega)]
          simp [hm]
        have c0 : w.cell? ⟨g, m * 5, none⟩ = some (.int .i8 (y.e.kind : Int)) := hcl 0 (by omega)
        have c1 : w.cell? ⟨g, m * 5 + 1, none⟩ = some (.string (bstr y.e.name.ns)) := hcl 1 (by omega)
        have c2 : w.cell? ⟨g, m * 5 + 2, none⟩ = some (.string (bstr y.e.name.loc)) := hcl 2 (by omega)
        have c3 : w.cell? ⟨g, m * 5 + 3, none⟩ = some (.slice y.A y.e.attrs.length y.c) := hcl 3 (by omega)
        have c4 : w.cell? ⟨g, m * 5 + 4, none⟩ = some (.string (bstr y.e.text)) := hcl 4 (by omega)
        have ht := ht y (by rw [hx]; simp)
        have hw1 : IntKind.i64.wrap ((n : Int) - 1) = (m : Int) := by rw [IntWalk.i64_in _ (by omega)]; omega
        have hmn : m < n := by omega
        have hgt : decide ((n : Int) > 0) = true := by rw [decide_eq_true_iff]; omega
        have HXs := hide hx
        have Hm := hide hm
        clear hn hB hl hnn hx hm hcl h hnm
        by_cases hy : y.e.kind = 2
        · have hy2 : ((y.e.kind : Int) == 2) = true := by rw [hy]; rfl
          have hb3 : (0 : Int) ≤ (m : Int) ∧ (m : Int) ≤ (c : Int) := by omega
          have hb4 : (m : Int) ≤ (m : Int) := Int.le_refl _
          have m1 : ¬ 9223372036854775807 < (bstr y.e.text).size + (bstr x.e.text).size := by rw [bstr_size, bstr_size]; omega
          have Hq := hide (show putEv (xs.map (·.e)) x.e = ys.map (·.e) ++ [⟨2, y.e.name, y.e.attrs, y.e.text ++ x.e.text⟩] by rw [HXs.out, List.map_append, List.map_cons, List.map_nil, put_text hk hy])
          have OT := hide (show w.ownsRow B 39 5 (.slice (some ⟨g, 0, none⟩) m c) m (ews ys) by
            have := own_take H.out (k := m) (by omega)
            rw [HXs.out] at this
            unfold ews at this ⊢
            rw [← fm_take (m := 5) ew_len, ← Hm.out, List.take_left] at this
            rw [← Hm.out]
            exact this)
          have Hy := hide hy
          clear hk hy ht he
          go_enter Try.func41, Try.ntmps41
          go_wp2
          have Hcs := hide (show ([.int .i8 (y.e.kind : Int), .string (bstr y.e.name.ns), .string (bstr y.e.name.loc), .slice y.A y.e.attrs.length y.c, .string (bstr y.e.text ++ bstr x.e.text)] : List Value) = ewCells ⟨⟨2, y.e.name, y.e.attrs, y.e.text ++ x.e.text⟩, y.A, y.c⟩ by unfold ewCells; rw [Hy.out, bstr_app])
          have k2 := Blk.new ((w.alloc (.cells #[.int .i8 (x.e.kind : Int), .string (bstr x.e.name.ns), .string (bstr x.e.name.loc), .slice x.A x.e.attrs.length x.c, .string (bstr x.e.text)] 39)).alloc (.cells #[.int .i8 (y.e.kind : Int), .string (bstr y.e.name.ns), .string (bstr y.e.name.loc), .slice y.A y.e.attrs.length y.c, .string (bstr y.e.text ++ bstr x.e.text)] 39)) 39 #[.int .i8 (y.e.kind : Int), .string (bstr y.e.name.ns), .string (bstr y.e.name.loc), .slice y.A y.e.attrs.length y.c, .string (bstr y.e.text ++ bstr x.e.text)]
          rw [World.size_alloc, World.size_alloc] at k2
          have K2 := hide k2
          clear k2 c0 c1 c2 c3 c4
          go_region_law (refine step_append_full _ (by rfl) (.tmp 46) (.tmp 48) _ (by rfl) B 39 _ 5 80 Try.underlying29 info_ev (by rfl) (by omega) (some ⟨g, 0, none⟩) m c (ews ys) (by rfl) (((OT.out.alloc _).alloc _).alloc _) [.int .i8 (y.e.kind : Int), .string (bstr y.e.name.ns), .string (bstr y.e.name.loc), .slice y.A y.e.attrs.length y.c, .string (bstr y.e.text ++ bstr x.e.text)] (by rfl) (fun u hu => ev_one _ u (by rw [← Hcs.out]; exact hu)) (w.heap.size + 1 + 1) K2.out (by rfl) (by unfold maxLen; have := Hn.out; omega) (by have := Hn.out; omega) ?_; intro g8 cap8 w8 hown8 hgrow8 hlt8)
          all_goals
            go_wp2
            go_ret
            have hW : Below w.heap.size w ((((w.alloc (.cells #[.int .i8 (x.e.kind : Int), .string (bstr x.e.name.ns), .string (bstr x.e.name.loc), .slice x.A x.e.attrs.length x.c, .string (bstr x.e.text)] 39)).alloc (.cells #[.int .i8 (y.e.kind : Int), .string (bstr y.e.name.ns), .string (bstr y.e.name.loc), .slice y.A y.e.attrs.length y.c, .string (bstr y.e.text ++ bstr x.e.text)] 39)).alloc (.cells #[.int .i8 (y.e.kind : Int), .string (bstr y.e.name.ns), .string (bstr y.e.name.loc), .slice y.A y.e.attrs.length y.c, .string (bstr y.e.text ++ bstr x.e.text)] 39)).drew) := ((((Below.refl _ w).alloc (Nat.le_refl _) _).alloc (by simp) _).alloc (by simp; omega) _).drew
            have hl9 : (ys ++ [(⟨⟨2, y.e.name, y.e.attrs, y.e.text ++ x.e.text⟩, y.A, y.c⟩ : Ew)]).length = m + 1 := by rw [List.length_append, Hm.out]; rfl
            refine ⟨some ⟨g8, 0, none⟩, cap8, ys ++ [⟨⟨2, y.e.name, y.e.attrs, y.e.text ++ x.e.text⟩, y.A, y.c⟩], ?_, ?_, ?_, ?_, ?_⟩
            · rw [hl9]; rfl
            · rw [hl9]
              unfold ews at hown8 ⊢
              rw [fm_snoc, ← Hcs.out]
              exact own_base hown8 (Nat.le_trans HB.out hW.size)
            · rw [Hq.out, List.map_append]; rfl
            · intro z hz
              rcases List.mem_append.1 hz with hz | hz
              · exact ⟨z, by rw [HXs.out]; simp [hz], rfl, rfl⟩
              · simp only [List.mem_singleton] at hz
                subst hz
                exact ⟨y, by rw [HXs.out]; simp, rfl, rfl⟩
            · exact (MovT.of_below hW).trans (.grownN hgrow8)
        · have hy2 : ((y.e.kind : Int) == 2) = false := by rw [beq_eq_false_iff_ne]; omega
          have Hp := hide (show putEv (xs.map (·.e)) x.e = xs.map (·.e) ++ [x.e] by rw [HXs.out, List.map_append, List.map_cons, List.map_nil, put_behind hk hy, if_neg (of_decide_eq_false he)])
          clear hk ht he hy c1 c2 c3 c4
          go_enter Try.func41, Try.ntmps41
          go_wp2
          go_region_law (refine step_append_full _ (by rfl) (.tmp 53) (.tmp 55) _ (by rfl) B 39 _ 5 80 Try.underlying29 info_ev (by rfl) (by omega) (some ⟨g, 0, none⟩) n c (ews xs) (by rfl) ((H.out.alloc _).alloc _) (ewCells x) (by rfl) (ev_one x) (w.heap.size + 1) HX.out (by rfl) (by unfold maxLen; have := Hn.out; omega) (by have := Hn.out; omega) ?_; intro g8 cap8 w8 hown8 hgrow8 hlt8)
          all_goals
            go_wp2
            go_ret
            exact EPut.snoc HB.out HN.out (((Below.refl _ w).alloc (Nat.le_refl _) _).alloc (by simp) _).drew (by assumption) (by assumption) Hp.out
  · have hk2 : ((x.e.kind : Int) != 2) = true := by rw [bne_iff_ne]; omega
    have Hp := hide (put_other (l := xs.map (·.e)) hk)
    clear hk h hempt hemp2 ht hn hB hnn
    go_enter Try.func41, Try.ntmps41
    go_wp2
    go_region_law (refine step_append_full _ (by rfl) (.tmp 53) (.tmp 55) _ (by rfl) B 39 _ 5 80 Try.underlying29 info_ev (by rfl) (by omega) A n c (ews xs) (by rfl) ((H.out.alloc _).alloc _) (ewCells x) (by rfl) (ev_one x) (w.heap.size + 1) HX.out (by rfl) (by unfold maxLen; have := Hn.out; omega) (by have := Hn.out; omega) ?_; intro g8 cap8 w8 hown8 hgrow8 hlt8)
    all_goals
      go_wp2
      go_ret
      exact EPut.snoc HB.out HN.out (((Below.refl _ w).alloc (Nat.le_refl _) _).alloc (by simp) _).drew (by assumption) (by assumption) Hp.out
end Go.Proofs.Ytaickkaoglohgaa
namespace Go.Proofs.Ytaickkaoglohgaa
open Go.RowKit Tk Sx

/-- What holds of a world ahead of every call: the parse's base lies in it; the library's variable is there. -/
structure Gd (B : Nat) (w : World) : Prop where
  hB : B ≤ w.heap.size
  h6 : 0 < B
  g : Gm w
theorem Gd.bmov {B P : Nat} {w w' : World} (h : Gd B w) (hm : BMov B P w w') (hP : B ≤ P) : Gd B w' := by
  have hb : Below B w w' := hm.below (Nat.le_refl _) hP h.hB
  exact ⟨Nat.le_trans h.hB hm.size, h.h6, h.g.keep fun g i v hg hv => (hb.cell (p := ⟨g, i, none⟩) (by have := h.h6; show g < B; omega)).trans hv⟩
theorem Gd.below {B : Nat} {w w' : World} (h : Gd B w) (hb : Below w.heap.size w w') : Gd B w' := ⟨Nat.le_trans h.hB hb.size, h.h6, h.g.below hb⟩
section
variable {B P : Nat} {w w1 : World} {p : Bs} {v : Bv}
theorem PB.tx {n M : Nat} (hP : PB B P w p v) (hk : Ok p.st n M) : ∀ y ∈ v.xs, y.e.text.length ≤ M := fun y hy => hk.tx _ (by rw [← hP.ev]; exact List.mem_map_of_mem hy)
theorem PB.events {x : Ew} {xs : List Ew} {A : Option Addr} {c : Nat} (h : PB B P w p v) (hm : MovT B 39 w w1) (ho : w1.ownsRow B 39 5 (.slice A xs.length c) xs.length (ews xs))
    (hx : xs.map (·.e) = putEv (v.xs.map (·.e)) x.e) (hi : ∀ y ∈ xs, ∃ z ∈ v.xs ++ [x], y.A = z.A ∧ y.e.attrs = z.e.attrs) (hin : x.In B w) :
    PB B P (w1.setCell ⟨P, 4, none⟩ (.slice A xs.length c)) { p with st := ⟨p.st.open_, p.st.scope, putEv p.st.evs x.e, p.st.rooted⟩ } ⟨v.Ao, v.co, v.As, v.cs, A, c, v.Ar, v.cr, xs⟩ := by
  refine h.setE hm ho (by rw [hx, h.ev]) fun y hy => ?_
  obtain ⟨z, hz, e1, e2⟩ := hi y hy
  have hzi : z.In B w := by
    rcases List.mem_append.1 hz with hz | hz
    · exact h.inn z hz
    · simp only [List.mem_singleton] at hz; rw [hz]; exact hin
  exact (hzi.as_ e1 e2).movt hm (by decide)
end
theorem el_cellsB {w : World} {B t g c n m : Nat} {l : List El} {x : El} (h : w.ownsRow B t 4 (.slice (some ⟨g, 0, none⟩) n c) n (els l)) (hn : l.length = n) (hx : l[m]? = some x) : ∀ j, j < 4 → w.cell? ⟨g, m * 4 + j, none⟩ = (elCells x)[j]? := fun j hj => by
  obtain ⟨h1, h2⟩ := List.getElem?_eq_some_iff.1 hx
  rw [h.cellAt (m * 4 + j) (by omega)]
  unfold els
  rw [fm_at (m := 4) (fun _ => rfl) l m h1 j hj, h2]

set_option maxHeartbeats 16000000 in
theorem bclose_any (B P : Nat) (w : World) (p : Bs) (v : Bv) (h : PB B P w p v) (hB : B ≤ w.heap.size) (hk : Ok p.st 1000000000 100000000000000000) (hne : p.st.open_ ≠ []) :
    Calls Try.prog 18 #[.pointer (some ⟨P, 0, none⟩)] w (BR B P w (Bz.close p) (.tuple #[])) := by
  obtain ⟨x, hx⟩ : ∃ x, p.st.open_.getLast? = some x := by
    cases hl : p.st.open_.getLast? with
    | none => exact absurd (List.getLast?_eq_none_iff.1 hl) hne
    | some x => exact ⟨x, rfl⟩
  obtain ⟨m, hm⟩ : ∃ m, p.st.open_.length = m + 1 := ⟨p.st.open_.length - 1, by have := List.length_pos_iff.2 hne; omega⟩
  have hxm : p.st.open_[m]? = some x := by rw [List.getLast?_eq_getElem?, hm] at hx; simpa using hx
  have hsc := hk.in_ x (List.mem_of_getElem? hxm)
  have Hr := hide (show closeSt p.st = ⟨p.st.open_.take m, p.st.scope.take x.scope, putEv p.st.evs ⟨1, x.name, [], []⟩, p.st.rooted⟩ by
    unfold closeSt; rw [hx]; dsimp only; rw [List.dropLast_eq_take, hm, Nat.add_sub_cancel])
  have H := hide h
  have HB := hide hB
  have ho := h.o
  rw [hm] at ho
  obtain ⟨g, cap, hv, hgb, hlt⟩ := ho.form (by omega)
  have hAo : v.Ao = some ⟨g, 0, none⟩ := by injection hv
  rw [hAo] at ho
  have hce := el_cellsB ho hm hxm
  have d0 : w.cell? ⟨g, m * 4, none⟩ = some (.string (bstr x.written)) := hce 0 (by omega)
  have d1 : w.cell? ⟨g, m * 4 + 1, none⟩ = some (.string (bstr x.name.ns)) := hce 1 (by omega)
  have d2 : w.cell? ⟨g, m * 4 + 2, none⟩ = some (.string (bstr x.name.loc)) := hce 2 (by omega)
  have d3 : w.cell? ⟨g, m * 4 + 3, none⟩ = some (.int .i64 (x.scope : Int)) := hce 3 (by omega)
  obtain ⟨-, -, c2, -⟩ := h.cell
  rw [hm, hAo] at c2
  have hPl := h.blk.lt
  have hco := own_cap ho
  have hcs := own_cap h.s
  obtain ⟨n, hn⟩ : ∃ n, m + 1 = n := ⟨_, rfl⟩
  rw [hn] at c2 hco
  have hw1 : IntKind.i64.wrap ((n : Int) - 1) = (m : Int) := by rw [IntWalk.i64_in _ (by have := hk.op; omega)]; omega
  have hmn : m < n := by omega
  have HN := hide hn
  have Hm := hide hm
  have Hk := hide hk
  have Hsc := hide hsc
  have HAo := hide hAo
  clear h hB hk hne hx hm hxm hsc ho hv hAo hce hn
  go_enter Try.func18, Try.ntmps18
  go_wp2
  have k := Blk.new w 77 #[.string (bstr x.written), .string (bstr x.name.ns), .string (bstr x.name.loc), .int .i64 (x.scope : Int)]
  have hba := below_alloc w (.cells #[.string (bstr x.written), .string (bstr x.name.ns), .string (bstr x.name.loc), .int .i64 (x.scope : Int)] 77)
  obtain ⟨W, hW⟩ : ∃ W, w.alloc (.cells #[.string (bstr x.written), .string (bstr x.name.ns), .string (bstr x.name.loc), .int .i64 (x.scope : Int)] 77) = W := ⟨_, rfl⟩
  obtain ⟨E, hE⟩ : ∃ E, w.heap.size = E := ⟨_, rfl⟩
  rw [hW] at k hba ⊢
  rw [hE] at k hPl ⊢
  have HW := hide (H.out.go hba)
  have K := hide k
  obtain ⟨-, -, c2', c3', -⟩ := HW.out.cell
  rw [Hm.out, HN.out, HAo.out] at c2'
  have f2' := HW.out.frz 2
  have f3' := HW.out.frz 3
  have e3 : W.cell? ⟨E, 3, none⟩ = some (.int .i64 (x.scope : Int)) := k.cell 3
  have hne : P ≠ E := by omega
  have BA := hide hba
  have HE := hide hE
  have hbd : (0 : Int) ≤ (m : Int) ∧ (m : Int) ≤ (v.co : Int) := by omega
  have hbs : (0 : Int) ≤ (x.scope : Int) ∧ (x.scope : Int) ≤ (v.cs : Int) := by have := Hsc.out; omega
  clear k hW c2 d0 d1 d2 d3 hE
  go_region
  have H2a := HW.out.cutO (k := m) (by rw [Hm.out]; omega)
  rw [HAo.out] at H2a
  have H2b := (H2a.cutS (k := x.scope) Hsc.out).go (Below.refl _ _).drew
  have M2a := (((BMov.of_below BA.out : BMov B P w W).setCell (p := ⟨P, 2, none⟩) (.inl rfl) (.slice (some ⟨g, 0, none⟩) m v.co)).setCell (p := ⟨P, 3, none⟩) (.inl rfl) (.slice v.As x.scope v.cs)).drew
  have K2 : Blk ((W.setCell ⟨P, 2, none⟩ (.slice (some ⟨g, 0, none⟩) m v.co)).setCell ⟨P, 3, none⟩ (.slice v.As x.scope v.cs)).drew E 77 _ := (K.out.far (p := ⟨P, 2, none⟩) hne.symm _).far (p := ⟨P, 3, none⟩) hne.symm _
  obtain ⟨W2, hW2⟩ : ∃ W2, ((W.setCell ⟨P, 2, none⟩ (.slice (some ⟨g, 0, none⟩) m v.co)).setCell ⟨P, 3, none⟩ (.slice v.As x.scope v.cs)).drew = W2 := ⟨_, rfl⟩
  rw [hW2] at H2b M2a K2 ⊢
  have H2 := hide H2b
  have M2 := hide M2a
  obtain ⟨-, -, -, -, c4, -⟩ := H2b.cell
  have x1 : W2.cell? ⟨E, 1, none⟩ = some (.string (bstr x.name.ns)) := K2.cell 1
  have x2 : W2.cell? ⟨E, 2, none⟩ = some (.string (bstr x.name.loc)) := K2.cell 2
  have HP := hide (eput_any B v.xs ⟨⟨1, x.name, [], []⟩, none, 0⟩ v.Ae v.ce W2.drew H2b.e (Nat.le_trans HB.out M2a.size) (by rw [H2b.len]; exact Hk.out.ev) (fun y hy => by have := HW.out.tx Hk.out y hy; show _ + 0 ≤ _; omega))
  have HK := hide (show Blk W2.drew P 52 _ from H2b.blk)
  clear H2a H2b M2a K2 hW2 hba c2' c3' f2' f3' e3 hbd hbs hw1 hmn hco hcs hlt
  go_wp2
  go_region_with (go_at_call 41; refine HP.out.mono ?_; rintro e w1 ⟨A, c, xs, rfl, ho, hx, hi, hm⟩; have q4 : w1.cell? ⟨P, 4, none⟩ = some _ := (hm.blk HK.out (by decide)).cell 4; have g4 := (hm.blk HK.out (by decide)).frozen 4)
  all_goals
    go_end0
    have hf := (H2.out.go (Below.refl _ _).drew).events hm ho hx hi (in_none _ rfl _)
    unfold BR Bz.close
    rw [Hr.out]
    exact ⟨rfl, ((M2.out.drew).trans (hm.bmov (.inr (.inr (.inl rfl))))).setCell (p := ⟨P, 4, none⟩) (.inl rfl) _, _, hf⟩
end Go.Proofs.Ytaickkaoglohgaa
namespace Go.Proofs.Ytaickkaoglohgaa
open Go.RowKit Tk Sx

theorem drop_min (op : Nat) (l : L) : l.drop (min op l.length) = l.drop op := by
  by_cases h : op ≤ l.length
  · rw [Nat.min_eq_left h]
  · rw [Nat.min_eq_right (by omega), List.drop_length, List.drop_of_length_le (by omega)]
theorem tak_mono {n : Nat} {p : Bs} (h : p.at_ + p.l.length ≤ 1000000000) (hn : n ≤ p.l.length) : (Bz.cutB n p).at_ + (Bz.cutB n p).l.length ≤ 1000000000 := by
  unfold Bz.cutB
  simp only [List.length_drop]
  omega
theorem Gd.till {B : Nat} {w : World} (h : Gd B w) (s q : L) (hs : s.length ≤ 1000000000) : Calls Try.prog 40 #[.string (bstr s), .string (bstr q)] w fun e w' => e = .returned (.int .i64 (Lib.index s q)) ∧ w' = w := by
  have := till_runm (bstr s) (bstr q) w h.g (by rw [bstr_size]; exact hs)
  rwa [bstr_list, bstr_list] at this
set_option maxHeartbeats 8000000 in
theorem bskip_any (B P : Nat) (w : World) (p : Bs) (v : Bv) (op : Nat) (e : L) (h : PB B P w p v) (hd : Gd B w) (hl : p.at_ + p.l.length ≤ 1000000000) (hn : p.rs.length ≤ 900000000) :
    Calls Try.prog 33 #[.pointer (some ⟨P, 0, none⟩), .int .i64 (op : Int), .string (bstr e)] w (BR B P w (Bz.skipB op e p).2 (.string (bstr (Bz.skipB op e p).1))) := by
  obtain ⟨c0, c1, -⟩ := h.cell
  have hs : (bstr p.l).size = p.l.length := bstr_size _
  have hes : (bstr e).size = e.length := bstr_size _
  have H := hide h
  have hT := btake_any B P w p v (min op p.l.length) h (Nat.min_le_right _ _) hl
  have hmin : min (op : Int) (p.l.length : Int) = ((min op p.l.length : Nat) : Int) := by omega
  obtain ⟨k, hk⟩ : ∃ k, min op p.l.length = k := ⟨_, rfl⟩
  have hkl : k ≤ p.l.length := by omega
  obtain ⟨p1, hp1⟩ : ∃ q, Bz.cutB k p = q := ⟨_, rfl⟩
  have e1 : p1.l = p.l.drop op := by rw [← hp1, ← hk]; exact drop_min op p.l
  have e2 : p1.rs = p.rs := by rw [← hp1]; rfl
  have e3 : p1.at_ + p1.l.length ≤ 1000000000 := by rw [← hp1]; exact tak_mono hl hkl
  obtain ⟨S, hS⟩ : ∃ r, Bz.skipB op e p = r := ⟨_, rfl⟩
  rw [hS]
  unfold Bz.skipB at hS
  rw [← e1, hk, hp1] at hS
  rw [hk, hp1] at hT
  rw [hk] at hmin
  have HT := hide hT
  have Hn := hide (show p1.rs.length ≤ 900000000 by rw [e2]; exact hn)
  have HD := hide hd
  have HbP := hide h.bp
  obtain ⟨D, hD⟩ : ∃ D, p1.l = D := ⟨_, rfl⟩
  rw [hD] at hS e3
  have HL := hide hD
  have Hl := hide e3
  obtain ⟨l0, hl0⟩ : ∃ x, p.l = x := ⟨_, rfl⟩
  rw [hl0] at c0 hs hmin
  cases ht : till e D with
  | none =>
    rw [ht] at hS
    dsimp only at hS
    have hx := till_none ht
    have HX := hide (fun W (h : Gd B W) => h.till D e (by omega))
    generalize Lib.index D e = x at *
    have hlt : decide (x < 0) = true := decide_eq_true hx
    have HS := hide hS
    clear h hl hn hd hT e1 e2 e3 hk hkl hp1 hS ht hx hl0 hD
    go_enter Try.func33, Try.ntmps33
    go_wp2_with fail
    refine (HT.out).mono ?_
    rintro e w1 ⟨rfl, m1, v1, p1⟩
    have M1 := hide m1; have P1 := hide p1; clear m1 p1
    obtain ⟨d0, -⟩ := P1.out.cell
    rw [HL.out] at d0
    have D1 := hide (HD.out.bmov M1.out HbP.out)
    go_wp2_with fail
    refine cq (HX.out _ D1.out) ?_
    go_wp2_with fail
    refine (bmend_any B P w1 p1 v1 14 p.at_ P1.out D1.out.hB (by have := Hn.out; omega)).mono ?_
    rintro e w2 ⟨rfl, m2, v2, p2⟩
    have M2 := hide m2; have P2 := hide p2; clear m2 p2
    obtain ⟨f0, -⟩ := P2.out.cell
    rw [show (Bz.mend 14 p.at_ p1).l = D from HL.out] at f0
    have hs2 : (bstr D).size = D.length := bstr_size _
    go_wp2_with fail
    refine (btake_any B P w2 _ v2 D.length P2.out (by rw [show (Bz.mend 14 p.at_ p1).l = D from HL.out]; exact Nat.le_refl _) (by rw [show (Bz.mend 14 p.at_ p1).l = D from HL.out]; exact Hl.out)).mono ?_
    rintro e w3 ⟨rfl, m3, v3, p3⟩
    have M3 := hide m3; have P3 := hide p3; clear m3 p3
    go_wp2
    go_ret
    rw [← HS.out]
    refine ⟨?_, (M1.out.trans M2.out).trans M3.out, v3, P3.out⟩
    rw [show (Bz.mend 14 p.at_ p1).l = D from HL.out, List.take_length]
    rfl
  | some n =>
    rw [ht] at hS
    dsimp only at hS
    obtain ⟨hx, hne⟩ := till_some ht
    have HX := hide (fun W (h : Gd B W) => h.till D e (by omega))
    rw [hx] at HX
    have hlt : decide ((n : Int) < 0) = false := decide_eq_false (by omega)
    have HS := hide hS
    have Hne := hide hne
    clear h hl hn hd hT e1 e2 e3 hk hkl hp1 hS ht hx hl0 hD hne
    go_enter Try.func33, Try.ntmps33
    go_wp2_with fail
    refine (HT.out).mono ?_
    rintro e w1 ⟨rfl, m1, v1, p1⟩
    have M1 := hide m1; have P1 := hide p1; clear m1 p1
    obtain ⟨d0, -⟩ := P1.out.cell
    rw [HL.out] at d0
    have D1 := hide (HD.out.bmov M1.out HbP.out)
    go_wp2_with fail
    refine cq (HX.out _ D1.out) ?_
    go_wp2_with fail
    refine (btake_any B P w1 p1 v1 n P1.out (by rw [HL.out]; have := Hne.out; omega) (by rw [HL.out]; exact Hl.out)).mono ?_
    rintro e w2 ⟨rfl, m2, v2, p2⟩
    have M2 := hide m2; have P2 := hide p2; clear m2 p2
    go_wp2_with fail
    refine (btake_any B P w2 _ v2 e.length P2.out (by show _ ≤ (p1.l.drop n).length; rw [HL.out, List.length_drop]; have := Hne.out; omega) (tak_mono (by rw [HL.out]; exact Hl.out) (by rw [HL.out]; have := Hne.out; omega))).mono ?_
    rintro e w3 ⟨rfl, m3, v3, p3⟩
    have M3 := hide m3; have P3 := hide p3; clear m3 p3
    go_wp2
    go_ret
    rw [← HS.out]
    refine ⟨?_, (M1.out.trans M2.out).trans M3.out, v3, P3.out⟩
    rw [HL.out]
    rfl
theorem bknown_any (q : L) (w : World) : Calls Try.prog 7 #[.string (bstr q)] w fun e w' => e = .returned (match Bz.known q with | some u => .tuple #[.string (bstr u), .bool true] | none => .tuple #[.string ⟨#[]⟩, .bool false]) ∧ w' = w := by
  have k1 : ((bstr q).toList == Bz.kAtom) = decide (q = Bz.kAtom) := lit_eq (bstr q) _
  have k2 : ((bstr q).toList == Bz.kContent) = decide (q = Bz.kContent) := lit_eq (bstr q) _
  have k3 : ((bstr q).toList == Bz.kDc) = decide (q = Bz.kDc) := lit_eq (bstr q) _
  have k4 : ((bstr q).toList == Bz.kRdf) = decide (q = Bz.kRdf) := lit_eq (bstr q) _
  have k5 : ((bstr q).toList == Bz.kRss) = decide (q = Bz.kRss) := lit_eq (bstr q) _
  unfold Bz.known
  cases h1 : decide (q = Bz.kAtom) with
  | true =>
    rw [h1] at k1
    rw [if_pos (of_decide_eq_true h1)]
    unfold Bz.kAtom at k1
    clear h1 k2 k3 k4 k5
    go_enter Try.func7, Try.ntmps7
    go_wp2
    go_ret2
    exact ⟨rfl, rfl⟩
  | false =>
  rw [h1] at k1
  rw [if_neg (of_decide_eq_false h1)]
  cases h2 : decide (q = Bz.kContent) with
  | true =>
    rw [h2] at k2
    rw [if_pos (of_decide_eq_true h2)]
    unfold Bz.kAtom at k1
    unfold Bz.kContent at k2
    clear h1 h2 k3 k4 k5
    go_enter Try.func7, Try.ntmps7
    go_wp2
    go_ret2
    exact ⟨rfl, rfl⟩
  | false =>
  rw [h2] at k2
  rw [if_neg (of_decide_eq_false h2)]
  cases h3 : decide (q = Bz.kDc) with
  | true =>
    rw [h3] at k3
    rw [if_pos (of_decide_eq_true h3)]
    unfold Bz.kAtom at k1
    unfold Bz.kContent at k2
    unfold Bz.kDc at k3
    clear h1 h2 h3 k4 k5
    go_enter Try.func7, Try.ntmps7
    go_wp2
    go_ret2
    exact ⟨rfl, rfl⟩
  | false =>
  rw [h3] at k3
  rw [if_neg (of_decide_eq_false h3)]
  cases h4 : decide (q = Bz.kRdf) with
  | true =>
    rw [h4] at k4
    rw [if_pos (of_decide_eq_true h4)]
    unfold Bz.kAtom at k1
    unfold Bz.kContent at k2
    unfold Bz.kDc at k3
    unfold Bz.kRdf at k4
    clear h1 h2 h3 h4 k5
    go_enter Try.func7, Try.ntmps7
    go_wp2
    go_ret2
    exact ⟨rfl, rfl⟩
  | false =>
  rw [h4] at k4
  rw [if_neg (of_decide_eq_false h4)]
  cases h5 : decide (q = Bz.kRss) with
  | true =>
    rw [h5] at k5
    rw [if_pos (of_decide_eq_true h5)]
    unfold Bz.kAtom at k1
    unfold Bz.kContent at k2
    unfold Bz.kDc at k3
    unfold Bz.kRdf at k4
    unfold Bz.kRss at k5
    clear h1 h2 h3 h4 h5
    go_enter Try.func7, Try.ntmps7
    go_wp2
    go_ret2
    exact ⟨rfl, rfl⟩
  | false =>
  rw [h5] at k5
  rw [if_neg (of_decide_eq_false h5)]
  unfold Bz.kAtom at k1
  unfold Bz.kContent at k2
  unfold Bz.kDc at k3
  unfold Bz.kRdf at k4
  unfold Bz.kRss at k5
  clear h1 h2 h3 h4 h5
  go_enter Try.func7, Try.ntmps7
  go_wp2
  go_ret2
  exact ⟨rfl, rfl⟩
theorem bkeep_any (A : Option Addr) (n c : Nat) (w : World) (hc : n ≤ c) (hn : n ≤ 1000000000) : Calls Try.prog 9 #[.slice A n c] w fun e w' => e = .returned (.slice A (min n 8) (min n 8)) ∧ w' = w := by
  have hmin : min (n : Int) 8 = ((min n 8 : Nat) : Int) := by omega
  generalize hm : min n 8 = m at *
  have hb1 : (0 : Int) ≤ (m : Int) ∧ (m : Int) ≤ (m : Int) := by omega
  have hb2 : (m : Int) ≤ (c : Int) := by omega
  clear hm
  go_enter Try.func9, Try.ntmps9
  go_wp2
  go_ret
  exact ⟨rfl, rfl⟩
end Go.Proofs.Ytaickkaoglohgaa
