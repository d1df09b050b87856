/- Bozo: a parse in memory; mend, take. · A call of a function value: it enters the function. · Bozo: what a byte is asked; bytes cut off up to the first that is as asked. -/
import Derived.Test.YtaickkaoglohgaaBv00
import Derived.Test.YtaickkaoglohgaaBv12
import Derived.Test.YtaickkaoglohgaaBv16
import Derived.Test.YtaickkaoglohgaaBv22
import Derived.Deep.RegionWith
import Derived.BigRegion
set_option linter.unusedSimpArgs false
set_option linter.unusedVariables false
namespace Go.Proofs.Ytaickkaoglohgaa
open Go.RowKit Tk Sx

theorem info_bel : (Try.prog.info? 77).map (fun i => (i.zero, i.size, i.bytes)) = some (some (.agg #[.string ⟨#[]⟩, .string ⟨#[]⟩, .string ⟨#[]⟩, .int .i64 0]), 4, 56) := by kernel_rfl
theorem info_rsn : (Try.prog.info? 47).map (fun i => (i.zero, i.size, i.bytes)) = some (some (.agg #[.int .i8 0, .int .i64 0]), 2, 16) := by kernel_rfl
def rsCells (r : Rsn) : List Value := [.int .i8 r.kind, .int .i64 (r.at_ : Int)]
def rss (l : List Rsn) : List Value := l.flatMap rsCells
theorem rs_len (r : Rsn) : (rsCells r).length = 2 := rfl
theorem rs_one (k : Int) (a : Int) : ∀ u ∈ ([.int .i8 k, .int .i64 a] : List Value), u.oneCell' = true := by
  intro u hu
  simp only [List.mem_cons, List.not_mem_nil, or_false] at hu
  rcases hu with rfl | rfl <;> rfl
theorem rss_snoc (l : List Rsn) (k : Int) (a : Nat) : rss (l ++ [⟨k, a⟩]) = rss l ++ [.int .i8 k, .int .i64 (a : Int)] := by simp [rss, rsCells]
/-- A parse's own rows. -/
def BMine (w : World) (k : Nat) : Prop := IsT w k 77 ∨ IsT w k 97 ∨ IsT w k 39 ∨ IsT w k 47
/-- What a step of a parse may have turned: of the blocks that were there, the parser's, and its rows. -/
structure BMov (B P : Nat) (w w' : World) : Prop where
  os : w'.os = w.os
  tape : w'.tape = w.tape
  output : w'.output = w.output
  size : w.heap.size ≤ w'.heap.size
  block : ∀ k, k < w.heap.size → k ≠ P → ¬ (B ≤ k ∧ BMine w k) → w'.heap[k]? = w.heap[k]?
theorem bmine_same {w w' : World} {k : Nat} (h : BMine w k) (e : w'.heap[k]? = w.heap[k]?) : BMine w' k := by
  rcases h with h | h | h | h
  · exact .inl (isT_same h e)
  · exact .inr (.inl (isT_same h e))
  · exact .inr (.inr (.inl (isT_same h e)))
  · exact .inr (.inr (.inr (isT_same h e)))
section
variable {B P : Nat} {w w1 w' : World}
theorem BMov.refl (B P : Nat) (w : World) : BMov B P w w := ⟨rfl, rfl, rfl, Nat.le_refl _, fun _ _ _ _ => rfl⟩
theorem BMov.trans (h : BMov B P w w1) (k : BMov B P w1 w') : BMov B P w w' := by
  refine ⟨k.os.trans h.os, k.tape.trans h.tape, k.output.trans h.output, Nat.le_trans h.size k.size, fun i hi hb hn => ?_⟩
  have e := h.block i hi hb hn
  rw [k.block i (Nat.lt_of_lt_of_le hi h.size) hb ?_, e]
  rintro ⟨h1, h2⟩
  exact hn ⟨h1, bmine_same h2 e.symm⟩
theorem BMov.of_below (h : Below w.heap.size w w') : BMov B P w w' := ⟨h.os, h.tape, h.output, h.size, fun k hk _ _ => h.block k hk⟩
theorem BMov.go (h : BMov B P w w1) (k : Below w1.heap.size w1 w') : BMov B P w w' := h.trans (.of_below k)
theorem BMov.below {C : Nat} (h : BMov B P w w') (hB : C ≤ B) (hP : C ≤ P) (hs : C ≤ w.heap.size) : Below C w w' := ⟨h.os, h.tape, h.output, h.size, fun k hk => h.block k (by omega) (by omega) (fun hh => by omega)⟩
theorem BMov.alloc (h : BMov B P w w1) (o : Obj) : BMov B P w (w1.alloc o) := h.go (below_alloc w1 o)
theorem BMov.drew (h : BMov B P w w1) : BMov B P w w1.drew := ⟨h.os, h.tape, h.output, h.size, h.block⟩
theorem BMov.setCell (h : BMov B P w w1) {p : Addr} (hp : p.block = P ∨ w.heap.size ≤ p.block) (u : Value) : BMov B P w (w1.setCell p u) := by
  refine ⟨h.os, h.tape, h.output, by simpa [World.setCell] using h.size, fun k hk hb hn => ?_⟩
  rw [Below.heap_setCell _ _ _ _ (by omega)]
  exact h.block k hk hb hn
theorem BMov.setMine (h : BMov B P w w1) {p : Addr} (hp : B ≤ p.block ∧ BMine w p.block) (u : Value) : BMov B P w (w1.setCell p u) := by
  refine ⟨h.os, h.tape, h.output, by simpa [World.setCell] using h.size, fun k hk hb hn => ?_⟩
  rw [Below.heap_setCell _ _ _ _ (by rintro rfl; exact hn hp)]
  exact h.block k hk hb hn
theorem BMov.grown {row : Option Nat} (hg : w.grownBy w' row) (hr : ∀ k, row = some k → B ≤ k ∧ BMine w k) : BMov B P w w' :=
  ⟨hg.os, hg.tape, hg.output, hg.size, fun k h1 _ hn => hg.block k h1 (fun e => hn (hr k e.symm))⟩
theorem not_bmine {k t : Nat} {cs : Array Value} (h : Blk w k t cs) (ht : t ≠ 77 ∧ t ≠ 97 ∧ t ≠ 39 ∧ t ≠ 47) : ¬ BMine w k := by
  rintro (h2 | h2 | h2 | h2)
  · exact isT_ne h.isT h2 ht.1
  · exact isT_ne h.isT h2 ht.2.1
  · exact isT_ne h.isT h2 ht.2.2.1
  · exact isT_ne h.isT h2 ht.2.2.2
theorem BMov.blk {g t : Nat} {cs : Array Value} (h : BMov B P w w') (hg : Blk w g t cs) (hP : g ≠ P) (ht : t ≠ 77 ∧ t ≠ 97 ∧ t ≠ 39 ∧ t ≠ 47) : Blk w' g t cs :=
  (h.block g hg.lt hP (fun hh => not_bmine hg ht hh.2)).trans hg
end
theorem BMov.of_but {B P : Nat} {w w' : World} (h : But P w w') : BMov B P w w' := ⟨h.os, h.tape, h.output, h.size, fun k hk hP _ => h.block k hk hP⟩
theorem Ew.In.bmov {x : Ew} {B P : Nat} {W W' : World} (h : x.In B W) (hm : BMov B P W W') (hP : ∀ a, x.A = some a → a.block ≠ P) : x.In B W' := by
  have sa : ∀ a, x.A = some a → W'.heap[a.block]? = W.heap[a.block]? := fun a ha => hm.block _ (h.ta a ha).lt (hP a ha) fun hh => by
    rcases hh.2 with h2 | h2 | h2 | h2 <;> exact isT_ne (h.ta a ha) h2 (by decide)
  exact ⟨h.a.same sa hm.size, h.va, h.ta.same sa⟩
theorem ew_notB {B P : Nat} {w : World} {x : Ew} {cs : Array Value} (h : x.In B w) (hP : Blk w P 52 cs) : ∀ a, x.A = some a → a.block ≠ P := fun a ha e => by
  subst e
  exact isT_ne (h.ta a ha) hP.isT (by decide)
/-- Where bozo's rows lie. -/
structure Bv where
  Ao : Option Addr
  co : Nat
  As : Option Addr
  cs : Nat
  Ae : Option Addr
  ce : Nat
  Ar : Option Addr
  cr : Nat
  xs : List Ew
def pbCells (p : Bs) (v : Bv) : Array Value := #[.string (bstr p.l), .int .i64 (p.at_ : Int), .slice v.Ao p.st.open_.length v.co, .slice v.As p.st.scope.length v.cs, .slice v.Ae v.xs.length v.ce, .slice v.Ar p.rs.length v.cr, .bool p.st.rooted, .bool p.junk, .int .i64 (p.e : Int)]
/-- Bozo's parse in memory. -/
structure PB (B P : Nat) (w : World) (p : Bs) (v : Bv) : Prop where
  blk : Blk w P 52 (pbCells p v)
  bp : B ≤ P
  o : w.ownsRow B 77 4 (.slice v.Ao p.st.open_.length v.co) p.st.open_.length (els p.st.open_)
  s : w.ownsRow B 97 2 (.slice v.As p.st.scope.length v.cs) p.st.scope.length (dcls p.st.scope)
  e : w.ownsRow B 39 5 (.slice v.Ae v.xs.length v.ce) v.xs.length (ews v.xs)
  r : w.ownsRow B 47 2 (.slice v.Ar p.rs.length v.cr) p.rs.length (rss p.rs)
  ev : v.xs.map (·.e) = p.st.evs
  inn : ∀ x ∈ v.xs, x.In B w
section
variable {B P : Nat} {w w' w1 : World} {p : Bs} {v : Bv}
theorem PB.go (h : PB B P w p v) (hb : Below w.heap.size w w') : PB B P w' p v :=
  ⟨h.blk.go hb, h.bp, own_go h.o hb, own_go h.s hb, own_go h.e hb, own_go h.r hb, h.ev, fun x hx => (h.inn x hx).bmov (.of_below hb) (ew_notB (h.inn x hx) h.blk)⟩
theorem PB.len (h : PB B P w p v) : v.xs.length = p.st.evs.length := by rw [← h.ev, List.length_map]
theorem PB.kept_ (h : ∀ x ∈ v.xs, x.In B w) {t : Nat} (hm : MovT B t w w1) (ht : t ≠ 41) {cs : Array Value} (hb : Blk w1 P 52 cs) (i : Nat) (u : Value) : ∀ x ∈ v.xs, x.In B (w1.setCell ⟨P, i, none⟩ u) := fun y hy => by
  have hy1 : y.In B w1 := (h y hy).movt hm ht
  exact hy1.bmov ((BMov.refl B P w1).setCell (p := ⟨P, i, none⟩) (.inl rfl) _) (ew_notB hy1 hb)
/-- A store into the parser: the parser's cells have turned, nothing else. -/
theorem PB.put (h : PB B P w p v) {q : Bs} (i : Nat) (u : Value) (hc : (pbCells p v).setIfInBounds i u = pbCells q v) (ho : q.st.open_ = p.st.open_) (hs : q.st.scope = p.st.scope) (he : q.st.evs = p.st.evs) (hr : q.rs = p.rs) : PB B P (w.setCell ⟨P, i, none⟩ u) q v := by
  refine ⟨by rw [← hc]; exact h.blk.set_ i u, h.bp, ?_, ?_, ?_, ?_, ?_, ?_⟩
  · rw [ho]; exact own_far (p := ⟨P, i, none⟩) h.o h.blk (by decide) u
  · rw [hs]; exact own_far (p := ⟨P, i, none⟩) h.s h.blk (by decide) u
  · exact own_far (p := ⟨P, i, none⟩) h.e h.blk (by decide) u
  · rw [hr]; exact own_far (p := ⟨P, i, none⟩) h.r h.blk (by decide) u
  · rw [he]; exact h.ev
  · exact PB.kept_ h.inn (.refl B 97 w) (by decide) h.blk i u
theorem PB.cell (h : PB B P w p v) : w.cell? ⟨P, 0, none⟩ = some (.string (bstr p.l)) ∧ w.cell? ⟨P, 1, none⟩ = some (.int .i64 (p.at_ : Int)) ∧ w.cell? ⟨P, 2, none⟩ = some (.slice v.Ao p.st.open_.length v.co) ∧ w.cell? ⟨P, 3, none⟩ = some (.slice v.As p.st.scope.length v.cs) ∧
    w.cell? ⟨P, 4, none⟩ = some (.slice v.Ae v.xs.length v.ce) ∧ w.cell? ⟨P, 5, none⟩ = some (.slice v.Ar p.rs.length v.cr) ∧ w.cell? ⟨P, 6, none⟩ = some (.bool p.st.rooted) ∧ w.cell? ⟨P, 7, none⟩ = some (.bool p.junk) ∧ w.cell? ⟨P, 8, none⟩ = some (.int .i64 (p.e : Int)) :=
  ⟨h.blk.cell 0, h.blk.cell 1, h.blk.cell 2, h.blk.cell 3, h.blk.cell 4, h.blk.cell 5, h.blk.cell 6, h.blk.cell 7, h.blk.cell 8⟩
theorem PB.frz (h : PB B P w p v) : ∀ i, w.frozen? ⟨P, i, none⟩ = false := fun i => h.blk.frozen i
end
theorem MovT.bmov {B P t : Nat} {w w' : World} (h : MovT B t w w') (ht : t = 77 ∨ t = 97 ∨ t = 39 ∨ t = 47) : BMov B P w w' := by
  refine ⟨h.os, h.tape, h.output, h.size, fun k hk _ hn => h.block k hk fun hh => hn ⟨hh.1, ?_⟩⟩
  rcases ht with rfl | rfl | rfl | rfl
  · exact .inl hh.2
  · exact .inr (.inl hh.2)
  · exact .inr (.inr (.inl hh.2))
  · exact .inr (.inr (.inr hh.2))
section
variable {B P : Nat} {w w1 : World} {p : Bs} {v : Bv} {A : Option Addr} {c : Nat}
/-- The row of open elements has turned, and the parser's word of it. -/
theorem PB.setO {op : List El} (h : PB B P w p v) (hm : MovT B 77 w w1) (ho : w1.ownsRow B 77 4 (.slice A op.length c) op.length (els op)) :
    PB B P (w1.setCell ⟨P, 2, none⟩ (.slice A op.length c)) { p with st := ⟨op, p.st.scope, p.st.evs, p.st.rooted⟩ } ⟨A, c, v.As, v.cs, v.Ae, v.ce, v.Ar, v.cr, v.xs⟩ := by
  have hb := hm.blk h.blk (by decide)
  exact ⟨hb.set_ 2 _, h.bp, own_far (p := ⟨P, 2, none⟩) ho hb (by decide) _, own_far (p := ⟨P, 2, none⟩) (hm.own h.s (by decide)) hb (by decide) _, own_far (p := ⟨P, 2, none⟩) (hm.own h.e (by decide)) hb (by decide) _, own_far (p := ⟨P, 2, none⟩) (hm.own h.r (by decide)) hb (by decide) _, h.ev, PB.kept_ h.inn hm (by decide) hb 2 _⟩
theorem PB.setS {sc : List Dcl} (h : PB B P w p v) (hm : MovT B 97 w w1) (ho : w1.ownsRow B 97 2 (.slice A sc.length c) sc.length (dcls sc)) :
    PB B P (w1.setCell ⟨P, 3, none⟩ (.slice A sc.length c)) { p with st := ⟨p.st.open_, sc, p.st.evs, p.st.rooted⟩ } ⟨v.Ao, v.co, A, c, v.Ae, v.ce, v.Ar, v.cr, v.xs⟩ := by
  have hb := hm.blk h.blk (by decide)
  exact ⟨hb.set_ 3 _, h.bp, own_far (p := ⟨P, 3, none⟩) (hm.own h.o (by decide)) hb (by decide) _, own_far (p := ⟨P, 3, none⟩) ho hb (by decide) _, own_far (p := ⟨P, 3, none⟩) (hm.own h.e (by decide)) hb (by decide) _, own_far (p := ⟨P, 3, none⟩) (hm.own h.r (by decide)) hb (by decide) _, h.ev, PB.kept_ h.inn hm (by decide) hb 3 _⟩
theorem PB.setR {rs : List Rsn} (h : PB B P w p v) (hm : MovT B 47 w w1) (ho : w1.ownsRow B 47 2 (.slice A rs.length c) rs.length (rss rs)) :
    PB B P (w1.setCell ⟨P, 5, none⟩ (.slice A rs.length c)) { p with rs := rs } ⟨v.Ao, v.co, v.As, v.cs, v.Ae, v.ce, A, c, v.xs⟩ := by
  have hb := hm.blk h.blk (by decide)
  exact ⟨hb.set_ 5 _, h.bp, own_far (p := ⟨P, 5, none⟩) (hm.own h.o (by decide)) hb (by decide) _, own_far (p := ⟨P, 5, none⟩) (hm.own h.s (by decide)) hb (by decide) _, own_far (p := ⟨P, 5, none⟩) (hm.own h.e (by decide)) hb (by decide) _, own_far (p := ⟨P, 5, none⟩) ho hb (by decide) _, h.ev, PB.kept_ h.inn hm (by decide) hb 5 _⟩
/-- The row of events has turned: what Put leaves. -/
theorem PB.setE {xs : List Ew} {evs : List Ev} (h : PB B P w p v) (hm : MovT B 39 w w1) (ho : w1.ownsRow B 39 5 (.slice A xs.length c) xs.length (ews xs)) (he : xs.map (·.e) = evs) (hi : ∀ x ∈ xs, x.In B w1) :
    PB B P (w1.setCell ⟨P, 4, none⟩ (.slice A xs.length c)) { p with st := ⟨p.st.open_, p.st.scope, evs, p.st.rooted⟩ } ⟨v.Ao, v.co, v.As, v.cs, A, c, v.Ar, v.cr, xs⟩ := by
  have hb := hm.blk h.blk (by decide)
  exact ⟨hb.set_ 4 _, h.bp, own_far (p := ⟨P, 4, none⟩) (hm.own h.o (by decide)) hb (by decide) _, own_far (p := ⟨P, 4, none⟩) (hm.own h.s (by decide)) hb (by decide) _, own_far (p := ⟨P, 4, none⟩) ho hb (by decide) _, own_far (p := ⟨P, 4, none⟩) (hm.own h.r (by decide)) hb (by decide) _, he,
    fun y hy => (hi y hy).bmov ((BMov.refl B P w1).setCell (p := ⟨P, 4, none⟩) (.inl rfl) _) (ew_notB (hi y hy) hb)⟩
theorem PB.cutO (h : PB B P w p v) {k : Nat} (hk : k ≤ p.st.open_.length) : PB B P (w.setCell ⟨P, 2, none⟩ (.slice v.Ao k v.co)) { p with st := ⟨p.st.open_.take k, p.st.scope, p.st.evs, p.st.rooted⟩ } v := by
  have hl : (p.st.open_.take k).length = k := by rw [List.length_take]; omega
  have ho : w.ownsRow B 77 4 (.slice v.Ao (p.st.open_.take k).length v.co) (p.st.open_.take k).length (els (p.st.open_.take k)) := by
    rw [hl]
    have := own_take h.o hk
    unfold els
    rw [fm_take (m := 4) (fun _ => rfl)]
    exact this
  have := h.setO (.refl _ _ _) ho
  rwa [hl] at this
theorem PB.cutS (h : PB B P w p v) {k : Nat} (hk : k ≤ p.st.scope.length) : PB B P (w.setCell ⟨P, 3, none⟩ (.slice v.As k v.cs)) { p with st := ⟨p.st.open_, p.st.scope.take k, p.st.evs, p.st.rooted⟩ } v := by
  have hl : (p.st.scope.take k).length = k := by rw [List.length_take]; omega
  have ho : w.ownsRow B 97 2 (.slice v.As (p.st.scope.take k).length v.cs) (p.st.scope.take k).length (dcls (p.st.scope.take k)) := by
    rw [hl]
    have := own_take h.s hk
    unfold dcls
    rw [fm_take (m := 2) (fun _ => rfl)]
    exact this
  have := h.setS (.refl _ _ _) ho
  rwa [hl] at this
end
/-- What a call of bozo's parser leaves. -/
def BR (B P : Nat) (w : World) (q : Bs) (r : Value) (e : Ending) (w' : World) : Prop := e = .returned r ∧ BMov B P w w' ∧ ∃ v, PB B P w' q v

/-- What a mend may have turned: the parser, and rows of reasons. -/
structure RMov (B P : Nat) (w w' : World) : Prop where
  os : w'.os = w.os
  tape : w'.tape = w.tape
  output : w'.output = w.output
  size : w.heap.size ≤ w'.heap.size
  block : ∀ k, k < w.heap.size → k ≠ P → ¬ (B ≤ k ∧ IsT w k 47) → w'.heap[k]? = w.heap[k]?
  keep : ∀ i c, 2 ≤ i → i ≤ 4 → w.cell? ⟨P, i, none⟩ = some c → w'.cell? ⟨P, i, none⟩ = some c
section
variable {B P : Nat} {w w1 w' : World}
theorem RMov.bmov (h : RMov B P w w') : BMov B P w w' := ⟨h.os, h.tape, h.output, h.size, fun k hk hP hn => h.block k hk hP fun hh => hn ⟨hh.1, .inr (.inr (.inr hh.2))⟩⟩
theorem RMov.refl (B P : Nat) (w : World) : RMov B P w w := ⟨rfl, rfl, rfl, Nat.le_refl _, fun _ _ _ _ => rfl, fun _ _ _ _ h => h⟩
theorem RMov.trans (h : RMov B P w w1) (k : RMov B P w1 w') : RMov B P w w' := by
  refine ⟨k.os.trans h.os, k.tape.trans h.tape, k.output.trans h.output, Nat.le_trans h.size k.size, fun i hi hb hn => ?_, fun i c h1 h2 hc => k.keep i c h1 h2 (h.keep i c h1 h2 hc)⟩
  have e := h.block i hi hb hn
  rw [k.block i (Nat.lt_of_lt_of_le hi h.size) hb ?_, e]
  rintro ⟨h1, h2⟩
  exact hn ⟨h1, isT_same h2 e.symm⟩
theorem RMov.of_below (h : Below w.heap.size w w') : RMov B P w w' := ⟨h.os, h.tape, h.output, h.size, fun k hk _ _ => h.block k hk, fun i c _ _ hc => (h.cell (p := ⟨P, i, none⟩) (lt_of_cell hc)).trans hc⟩
theorem RMov.go (h : RMov B P w w1) (k : Below w1.heap.size w1 w') : RMov B P w w' := h.trans (.of_below k)
theorem RMov.of_movt {t : Nat} {cs : Array Value} (h : MovT B 47 w w') (hP : Blk w P t cs) (ht : t ≠ 47) (i : Nat) (hi : i < 2 ∨ 4 < i) (u : Value) : RMov B P w (w'.setCell ⟨P, i, none⟩ u) :=
  ⟨h.os, h.tape, h.output, by simpa [World.setCell] using h.size, fun k hk hP hn => (Below.heap_setCell _ _ _ _ (by omega)).trans (h.block k hk fun hh => hn hh), fun j c h1 h2 hc => by
    rw [World.cell?_setCell_other _ _ _ _ (by intro e; injection e with _ e; omega)]
    exact (World.cell?_of_block (a := ⟨P, j, none⟩) (h.block P hP.lt fun hh => isT_ne hP.isT hh.2 ht)).trans hc⟩
theorem RMov.own {t b e size n : Nat} {v : Value} {xs : List Value} {cs : Array Value} (h : RMov B P w w') (ho : w.ownsRow b e size v n xs) (hP : Blk w P t cs) (h1 : e ≠ t) (h2 : e ≠ 47) : w'.ownsRow b e size v n xs := by
  refine ⟨ho.1, ?_⟩
  rcases ho.2 with h0 | ⟨g, cap, cur, q1, q2, hg, q3⟩
  · exact .inl h0
  · exact .inr ⟨g, cap, cur, q1, q2, (h.block g (Array.getElem?_eq_some_iff.1 hg).1 (fun e1 => by subst e1; exact isT_ne ⟨cur, _, hg⟩ hP.isT h1) (fun hh => isT_ne ⟨cur, _, hg⟩ hh.2 h2)).trans hg, q3⟩
end
section
variable {B P : Nat} {w w1 w' : World}
theorem RMov.alloc (h : RMov B P w w1) (o : Obj) : RMov B P w (w1.alloc o) := h.go (below_alloc w1 o)
theorem RMov.drew (h : RMov B P w w1) : RMov B P w w1.drew := ⟨h.os, h.tape, h.output, h.size, h.block, h.keep⟩
theorem RMov.setCell (h : RMov B P w w1) {p : Addr} (hp : (p.block = P ∧ (p.off < 2 ∨ 4 < p.off)) ∨ w.heap.size ≤ p.block) (u : Value) : RMov B P w (w1.setCell p u) := by
  refine ⟨h.os, h.tape, h.output, by simpa [World.setCell] using h.size, fun k hk hb hn => ?_, fun i c h1 h2 hc => ?_⟩
  · rw [Below.heap_setCell _ _ _ _ (by omega)]
    exact h.block k hk hb hn
  · have hl : P < w.heap.size := lt_of_cell hc
    rw [World.cell?_setCell_other _ _ _ _ (by rintro rfl; dsimp only at hp; omega)]
    exact h.keep i c h1 h2 hc
theorem RMov.blk {g t : Nat} {cs : Array Value} (h : RMov B P w w') (hg : Blk w g t cs) (hP : g ≠ P) (ht : t ≠ 47) : Blk w' g t cs :=
  (h.block g hg.lt hP (fun hh => isT_ne hg.isT hh.2 ht)).trans hg
theorem RMov.grownN {row : Option Nat} (h : RMov B P w w1) (hg : w1.grownBy w' row) (hr : ∀ k, row = some k → w.heap.size ≤ k) : RMov B P w w' :=
  ⟨hg.os.trans h.os, hg.tape.trans h.tape, hg.output.trans h.output, Nat.le_trans h.size hg.size, fun k hk hP hn => (hg.block k (Nat.lt_of_lt_of_le hk h.size) (fun e => by have := hr k e.symm; omega)).trans (h.block k hk hP hn), fun i c h1 h2 hc => (World.cell?_of_block (a := ⟨P, i, none⟩) (hg.block P (lt_of_cell (h.keep i c h1 h2 hc)) (fun e => by have := hr P e.symm; have hl : P < w.heap.size := lt_of_cell hc; omega))).trans (h.keep i c h1 h2 hc)⟩
/-- The rows of open elements, of scopes and of events lie where they lay. -/
theorem RMov.ao {p q : Bs} {v v' : Bv} (h : RMov B P w w') (hp : PB B P w p v) (hq : PB B P w' q v') : v'.Ao = v.Ao := by
  have h1 := h.keep 2 _ (by omega) (by omega) hp.cell.2.2.1
  rw [hq.cell.2.2.1] at h1
  simp only [Option.some.injEq, Value.slice.injEq] at h1
  exact h1.1
end
/-- What a call leaves that turns nothing but the parser and rows of reasons. -/
def BRm (B P : Nat) (w : World) (q : Bs) (r : Value) (e : Ending) (w' : World) : Prop := e = .returned r ∧ RMov B P w w' ∧ ∃ v, PB B P w' q v
theorem BRm.br {B P : Nat} {w w' : World} {q : Bs} {r : Value} {e : Ending} (h : BRm B P w q r e w') : BR B P w q r e w' := ⟨h.1, h.2.1.bmov, h.2.2⟩
/-- All rows but that of reasons lie where they lay. -/
structure Vr (v v' : Bv) : Prop where
  o : v'.Ao = v.Ao ∧ v'.co = v.co
  s : v'.As = v.As ∧ v'.cs = v.cs
  e : v'.Ae = v.Ae ∧ v'.ce = v.ce ∧ v'.xs = v.xs
theorem Vr.refl (v : Bv) : Vr v v := ⟨⟨rfl, rfl⟩, ⟨rfl, rfl⟩, ⟨rfl, rfl, rfl⟩⟩
theorem Vr.trans {v v1 v2 : Bv} (h : Vr v v1) (k : Vr v1 v2) : Vr v v2 := ⟨⟨k.o.1.trans h.o.1, k.o.2.trans h.o.2⟩, ⟨k.s.1.trans h.s.1, k.s.2.trans h.s.2⟩, ⟨k.e.1.trans h.e.1, k.e.2.1.trans h.e.2.1, k.e.2.2.trans h.e.2.2⟩⟩
/-- What a call that but mends leaves. -/
def BRr (B P : Nat) (w : World) (v : Bv) (q : Bs) (r : Value) (e : Ending) (w' : World) : Prop := e = .returned r ∧ RMov B P w w' ∧ ∃ v', PB B P w' q v' ∧ Vr v v'
theorem BRr.br {B P : Nat} {w w' : World} {v : Bv} {q : Bs} {r : Value} {e : Ending} (h : BRr B P w v q r e w') : BR B P w q r e w' := by
  obtain ⟨h1, h2, v', h3, _⟩ := h
  exact ⟨h1, h2.bmov, v', h3⟩
set_option maxHeartbeats 4000000 in
theorem bmend_r (B P : Nat) (w : World) (p : Bs) (v : Bv) (k : Int) (a : Nat) (h : PB B P w p v) (hB : B ≤ w.heap.size) (hn : p.rs.length ≤ 1000000000) :
    Calls Try.prog 17 #[.pointer (some ⟨P, 0, none⟩), .int .i8 k, .int .i64 (a : Int)] w (BRr B P w v (Bz.mend k a p) (.tuple #[])) := by
  have H := hide h
  have HB := hide hB
  obtain ⟨-, -, -, -, -, c5, -, -, -⟩ := h.cell
  have f5 := h.frz 5
  obtain ⟨n, hnn⟩ : ∃ n, p.rs.length = n := ⟨_, rfl⟩
  rw [hnn] at c5
  have HN := hide hnn
  have Hnl := hide (show n ≤ 1000000000 by omega)
  have OE := hide (show w.ownsRow B 47 2 (.slice v.Ar n v.cr) n (rss p.rs) by rw [← hnn]; exact h.r)
  have KX := hide (Blk.new w 47 #[.int .i8 k, .int .i64 (a : Int)])
  have hPl := h.blk.lt
  clear h hB hn hnn
  go_enter Try.func17, Try.ntmps17
  go_wp2_with (at_builtin; go_loud (refine wpList_append_elem_at (w.alloc (.cells #[.int .i8 k, .int .i64 (a : Int)] 47)) rfl (.tmp 10) (.tmp 14) 22 rfl B 47 _ 2 16 Try.underlying22 info_rsn rfl (by omega) (.slice _ n _) n _ rfl (OE.out.alloc _) [.int .i8 k, .int .i64 (a : Int)] rfl (rs_one _ _) w.heap.size KX.out rfl (by unfold maxLen; have := Hnl.out; omega) (by have := Hnl.out; omega) (by have := HB.out; simp; omega) ?_); intro g8 cap8 w8 hown8 hgrow8 hlt8; have HO8 := hide hown8; have HM8 := hide (show MovT B 47 w w8 from (MovT.of_below (below_alloc w _)).trans (.grown hgrow8 fun j hj => own_isT (OE.out.alloc _) j hj)); have f5' := (HM8.out.blk H.out.blk (by decide)).frozen 5; have c5' := (HM8.out.blk H.out.blk (by decide)).cell 5; clear hown8 hgrow8 hlt8)
  go_end0
  have ho : w8.ownsRow B 47 2 (.slice (some ⟨g8, 0, none⟩) (Bz.mend k a p).rs.length cap8) (Bz.mend k a p).rs.length (rss (Bz.mend k a p).rs) := by
    have e1 : (Bz.mend k a p).rs.length = n + 1 := by rw [Bz.mend_rs, HN.out]
    rw [e1, show (Bz.mend k a p).rs = p.rs ++ [⟨k, a⟩] from rfl, rss_snoc]
    exact HO8.out
  have hi := H.out.setR HM8.out ho
  rw [show (Bz.mend k a p).rs.length = n + 1 by rw [Bz.mend_rs, HN.out]] at hi
  exact ⟨rfl, RMov.of_movt HM8.out H.out.blk (by decide) 5 (by omega) _, _, hi, ⟨rfl, rfl⟩, ⟨rfl, rfl⟩, ⟨rfl, rfl, rfl⟩⟩
theorem bmend_any (B P : Nat) (w : World) (p : Bs) (v : Bv) (k : Int) (a : Nat) (h : PB B P w p v) (hB : B ≤ w.heap.size) (hn : p.rs.length ≤ 1000000000) :
    Calls Try.prog 17 #[.pointer (some ⟨P, 0, none⟩), .int .i8 k, .int .i64 (a : Int)] w (BR B P w (Bz.mend k a p) (.tuple #[])) := (bmend_r B P w p v k a h hB hn).mono fun _ _ h => h.br

theorem bmend_m (B P : Nat) (w : World) (p : Bs) (v : Bv) (k : Int) (a : Nat) (h : PB B P w p v) (hB : B ≤ w.heap.size) (hn : p.rs.length ≤ 1000000000) :
    Calls Try.prog 17 #[.pointer (some ⟨P, 0, none⟩), .int .i8 k, .int .i64 (a : Int)] w (BRm B P w (Bz.mend k a p) (.tuple #[])) := (bmend_r B P w p v k a h hB hn).mono fun _ _ h => ⟨h.1, h.2.1, h.2.2.elim fun v hv => ⟨v, hv.1⟩⟩

set_option maxHeartbeats 4000000 in
theorem btake_v (B P : Nat) (w : World) (p : Bs) (v : Bv) (n : Nat) (h : PB B P w p v) (hn : n ≤ p.l.length) (hl : p.at_ + p.l.length ≤ 1000000000) :
    Calls Try.prog 37 #[.pointer (some ⟨P, 0, none⟩), .int .i64 (n : Int)] w (fun e w' => e = .returned (.string (bstr (p.l.take n))) ∧ RMov B P w w' ∧ w'.heap.size = w.heap.size ∧ PB B P w' (Bz.cutB n p) v) := by
  have H := hide h
  obtain ⟨c0, c1, -⟩ := h.cell
  have f0 := h.frz 0
  have f1 := h.frz 1
  have hs : (bstr p.l).size = p.l.length := bstr_size _
  have hx1 : (bstr p.l).extract 0 n = bstr (p.l.take n) := by rw [extract_bstr, bstr_list, List.drop_zero, Nat.sub_zero]
  have hx2 : (bstr p.l).extract n p.l.length = bstr (p.l.drop n) := by rw [extract_bstr, bstr_list, ← List.length_drop, List.take_length]
  obtain ⟨m, hm⟩ : ∃ m, p.l.length = m := ⟨_, rfl⟩
  rw [hm] at hs hx2 hn hl
  obtain ⟨z, hz⟩ : ∃ z, p.at_ = z := ⟨_, rfl⟩
  rw [hz] at c1 hl
  have HZ := hide hz
  have hw1 : IntKind.i64.wrap ((z : Int) + (n : Int)) = ((z + n : Nat) : Int) := by rw [IntWalk.i64_in _ (by omega)]; omega
  have hb : 0 ≤ (n : Int) ∧ (n : Int) ≤ (m : Int) := by omega
  have hb2 : (m : Int) ≤ (m : Int) := Int.le_refl _
  clear h hz hm
  go_enter Try.func37, Try.ntmps37
  go_wp2
  go_region
  all_goals
    go_wp2
    go_ret
    refine ⟨rfl, ?_, (by simp [World.setCell, World.drew]), ?_⟩
    · exact (((RMov.refl B P w).drew.setCell (p := ⟨P, 0, none⟩) (.inl ⟨rfl, .inl (Nat.zero_lt_succ _)⟩) _).setCell (p := ⟨P, 1, none⟩) (.inl ⟨rfl, .inl (Nat.lt_succ_self _)⟩) _)
    · exact ((H.out.go (Below.refl _ _).drew).put (q := ⟨p.l.drop n, p.at_, p.st, p.rs, p.junk, p.e⟩) 0 _ rfl rfl rfl rfl rfl).put (q := Bz.cutB n p) 1 _ (by unfold Bz.cutB; rw [HZ.out]; rfl) rfl rfl rfl rfl
theorem btake_m (B P : Nat) (w : World) (p : Bs) (v : Bv) (n : Nat) (h : PB B P w p v) (hn : n ≤ p.l.length) (hl : p.at_ + p.l.length ≤ 1000000000) :
    Calls Try.prog 37 #[.pointer (some ⟨P, 0, none⟩), .int .i64 (n : Int)] w (BRm B P w (Bz.cutB n p) (.string (bstr (p.l.take n)))) := (btake_v B P w p v n h hn hl).mono fun _ _ h => ⟨h.1, h.2.1, v, h.2.2.2⟩
theorem btake_any (B P : Nat) (w : World) (p : Bs) (v : Bv) (n : Nat) (h : PB B P w p v) (hn : n ≤ p.l.length) (hl : p.at_ + p.l.length ≤ 1000000000) :
    Calls Try.prog 37 #[.pointer (some ⟨P, 0, none⟩), .int .i64 (n : Int)] w (BR B P w (Bz.cutB n p) (.string (bstr (p.l.take n)))) := (btake_m B P w p v n h hn hl).mono fun _ _ h => h.br
end Go.Proofs.Ytaickkaoglohgaa
namespace Go.Proofs.Ytaickkaoglohgaa
open Go Go.RowKit

theorem callFunc_body {P : Program} {f : FuncId} {fn : Func} (hf : P.funcs[f]? = some fn) (hname : (fn.name == "runtime.NumGoroutine") = false) (hb : fn.body.isSome = true) (args : Array Value) (w : World) : (callFunc f args).run P w = .ok (.enter f args) w := by
  have h1 : fn.name ≠ "runtime.NumGoroutine" := by simpa using hname
  obtain ⟨c, hc⟩ := Option.isSome_iff_exists.1 hb
  simp [callFunc, hf, h1, hc]
end Go.Proofs.Ytaickkaoglohgaa
namespace Go.Proofs.Ytaickkaoglohgaa
open Go.RowKit Tk Sx

theorem bsolid_any (c : UInt8) (w : World) : Calls Try.prog 39 #[.int .u8 (c.toNat : Nat)] w fun e w' => e = .returned (.bool (Bz.solid c)) ∧ w' = w := by
  have HS := hide (cspace_any c)
  have hcw : IntKind.i64.wrap (c.toNat : Int) = (c.toNat : Int) := IntWalk.i64_in _ (by have := c.toNat_lt; omega)
  unfold Bz.solid
  generalize sp c = b at *
  go_enter Try.func39, Try.ntmps39
  go_wp2_with fail
  refine cq (HS.out _) ?_
  go_wp2
  go_ret
  exact ⟨rfl, rfl⟩
theorem eq_u8 (c : UInt8) (n : UInt8) : ((c.toNat : Int) == (n.toNat : Int)) = (c == n) := by
  rw [Bool.eq_iff_iff]
  simp only [beq_iff_eq]
  constructor
  · intro h; exact UInt8.toNat_inj.1 (by omega)
  · rintro rfl; rfl
theorem bangle_any (c : UInt8) (w : World) : Calls Try.prog 54 #[.int .u8 (c.toNat : Nat)] w fun e w' => e = .returned (.bool (Bz.angle c)) ∧ w' = w := by
  have h1 : ((c.toNat : Int) == 60) = (c == 60) := eq_u8 c 60
  have h2 : ((c.toNat : Int) == 62) = (c == 62) := eq_u8 c 62
  unfold Bz.angle
  rw [← h1, ← h2]
  clear h1 h2
  cases h : ((c.toNat : Int) == 60) with
  | true =>
    go_enter Try.func54, Try.ntmps54
    go_wp2
    go_ret
    exact ⟨rfl, rfl⟩
  | false =>
    go_enter Try.func54, Try.ntmps54
    go_wp2
    go_ret
    exact ⟨by simp, rfl⟩
theorem bless_any (c : UInt8) (w : World) : Calls Try.prog 31 #[.int .u8 (c.toNat : Nat)] w fun e w' => e = .returned (.bool (Bz.isLt c)) ∧ w' = w := by
  have h1 : ((c.toNat : Int) == 60) = (c == 60) := eq_u8 c 60
  unfold Bz.isLt
  rw [← h1]
  clear h1
  go_enter Try.func31, Try.ntmps31
  go_wp2
  go_ret
  exact ⟨rfl, rfl⟩
theorem bvalS_any (c : UInt8) (w : World) : Calls Try.prog 99 #[.int .u8 (c.toNat : Nat)] w fun e w' => e = .returned (.bool (Bz.anglesp c)) ∧ w' = w := by
  have HA := hide (bangle_any c)
  have HS := hide (bsolid_any c)
  have e : Bz.anglesp c = (Bz.angle c || !Bz.solid c) := by unfold Bz.anglesp Bz.solid; simp
  rw [e]
  clear e
  generalize Bz.angle c = a at *
  generalize Bz.solid c = b at *
  cases a with
  | true =>
    go_enter Try.func99, Try.ntmps99
    go_wp2_with fail
    refine cq (HA.out _) ?_
    go_wp2
    go_ret
    exact ⟨rfl, rfl⟩
  | false =>
    go_enter Try.func99, Try.ntmps99
    go_wp2_with fail
    refine cq (HA.out _) ?_
    go_wp2_with fail
    refine cq (HS.out _) ?_
    go_wp2
    go_ret
    exact ⟨rfl, rfl⟩
theorem bsolid_enter (args : Array Value) (w : World) : (callFunc 39 args).run Try.prog w = .ok (.enter 39 args) w := callFunc_body Try.func39 (by kernel_rfl) (by kernel_rfl) _ _
theorem bangle_enter (args : Array Value) (w : World) : (callFunc 54 args).run Try.prog w = .ok (.enter 54 args) w := callFunc_body Try.func54 (by kernel_rfl) (by kernel_rfl) _ _
theorem bless_enter (args : Array Value) (w : World) : (callFunc 31 args).run Try.prog w = .ok (.enter 31 args) w := callFunc_body Try.func31 (by kernel_rfl) (by kernel_rfl) _ _
theorem bvalS_enter (args : Array Value) (w : World) : (callFunc 99 args).run Try.prog w = .ok (.enter 99 args) w := callFunc_body Try.func99 (by kernel_rfl) (by kernel_rfl) _ _
theorem span_le (f : UInt8 → Bool) (l : L) : Bz.span f l ≤ l.length := by
  unfold Bz.span
  exact (List.takeWhile_sublist _).length_le
theorem span_at {f : UInt8 → Bool} {l : L} {k : Nat} {c : UInt8} (hc : l[k]? = some c) : Bz.span f (l.drop k) = if f c then 0 else Bz.span f (l.drop (k + 1)) + 1 := by
  rw [drop_cons0 hc]
  unfold Bz.span
  rw [List.takeWhile_cons]
  cases f c <;> simp
set_option maxHeartbeats 4000000 in
theorem buntil_genM (F : FuncId) (f : UInt8 → Bool) (hcf : ∀ args w, (callFunc F args).run Try.prog w = .ok (.enter F args) w) (hC : ∀ (c : UInt8) (w : World), Calls Try.prog F #[.int .u8 (c.toNat : Nat)] w fun e w' => e = .returned (.bool (f c)) ∧ w' = w)
    (B P : Nat) (w : World) (p : Bs) (v : Bv) (h : PB B P w p v) (hl : p.at_ + p.l.length ≤ 1000000000) :
    Calls Try.prog 30 #[.pointer (some ⟨P, 0, none⟩), .func (.func F) #[] #[]] w (BRm B P w (Bz.untilB f p) (.string (bstr (p.l.take (Bz.span f p.l))))) := by
  obtain ⟨c0, -⟩ := h.cell
  have Hl := hide hl
  obtain ⟨D, hD⟩ : ∃ D, p.l = D := ⟨_, rfl⟩
  rw [hD] at c0
  have HD := hide hD
  have Hs : Hid ((bstr D).size = D.length) := hide (bstr_size D)
  have hT := fun n (hn : n ≤ p.l.length) => btake_m B P w p v n h hn hl
  have HT := hide hT
  have HI : Hid (∀ (k : Nat) (c : UInt8), D[k]? = some c → ∀ w, (Instr.index 9 (.string (bstr D)) (.int .i64 (k : Int))).run Try.prog w = .ok (.int .u8 (c.toNat : Nat)) w) := hide fun k c h => idx_run (bstr D) k c (by rw [bstr_list]; exact h)
  have HC := hide hC
  clear h hl hT hD hC
  go_enter Try.func30, Try.ntmps30
  go_wp2
  go_loopg [5] (bstr D).size (fun gk vk wr => ∃ k : Nat, gk = (bstr D).size - k ∧ k ≤ (bstr D).size ∧ vk = .int .i64 (k : Int) ∧ Bz.span f D = k + Bz.span f (D.drop k) ∧ wr = w)
  case atStart => exact ⟨0, rfl, by omega, rfl, by rw [List.drop_zero]; omega, rfl⟩
  case round =>
    obtain ⟨k, hgk, hk, rfl, hzk, rfl⟩ := hrel
    have Hg := hide hgk
    have Hzk := hide hzk
    clear hgk hzk
    by_cases hlt : k < (bstr D).size
    · obtain ⟨c, hc⟩ : ∃ c, D[k]? = some c := ⟨_, List.getElem?_eq_getElem (by rw [← Hs.out]; exact hlt)⟩
      have hix := HI.out k c hc
      have hwk : IntKind.i64.wrap ((k : Int) + 1) = (k : Int) + 1 := IntWalk.i64_in _ (by have := Hs.out; have := Hl.out; rw [HD.out] at this; omega)
      have HS := hide (HC.out c)
      have Hst := hide (span_at (f := f) hc)
      clear hc
      cases hsp : f c with
      | false =>
        rw [hsp] at HS Hst
        have Hn := hide (show Bz.span f D = (k + 1) + Bz.span f (D.drop (k + 1)) by have := Hzk.out; have h2 := Hst.out; rw [if_neg (by simp)] at h2; omega)
        clear hsp
        go_wp2_with fail
        refine cq (HS.out _) ?_
        go_wp2
        go_roundg ((bstr D).size - (k + 1))
        case measure => have := Hg.out; omega
        case rel => exact ⟨k + 1, rfl, by omega, by first | rfl | go_num, Hn.out, rfl⟩
      | true =>
        rw [hsp] at HS Hst
        have Hn := hide (show Bz.span f p.l = k by have := Hzk.out; have h2 := Hst.out; rw [if_pos rfl] at h2; rw [HD.out]; omega)
        clear hsp
        have HTk := hide (HT.out k (by rw [HD.out, ← Hs.out]; exact hk))
        go_wp2_with fail
        refine cq (HS.out _) ?_
        go_wp2_with fail
        refine (HTk.out).mono ?_
        rintro e w1 ⟨rfl, m1, v1, p1⟩
        have M1 := hide m1; have P1 := hide p1; clear m1 p1
        go_wp2
        go_ret
        rw [Hn.out]
        exact ⟨rfl, M1.out, v1, by unfold Bz.untilB; rw [Hn.out]; exact P1.out⟩
    · have Hn := hide (show Bz.span f p.l = k by have := Hzk.out; rw [List.drop_of_length_le (by rw [← Hs.out]; omega)] at this; rw [HD.out]; simpa [Bz.span] using this)
      have HTk := hide (HT.out k (by rw [HD.out, ← Hs.out]; exact hk))
      go_wp2_with fail
      refine (HTk.out).mono ?_
      rintro e w1 ⟨rfl, m1, v1, p1⟩
      have M1 := hide m1; have P1 := hide p1; clear m1 p1
      go_wp2
      go_ret
      rw [Hn.out]
      exact ⟨rfl, M1.out, v1, by unfold Bz.untilB; rw [Hn.out]; exact P1.out⟩
theorem buntil_gen (F : FuncId) (f : UInt8 → Bool) (hcf : ∀ args w, (callFunc F args).run Try.prog w = .ok (.enter F args) w) (hC : ∀ (c : UInt8) (w : World), Calls Try.prog F #[.int .u8 (c.toNat : Nat)] w fun e w' => e = .returned (.bool (f c)) ∧ w' = w)
    (B P : Nat) (w : World) (p : Bs) (v : Bv) (h : PB B P w p v) (hl : p.at_ + p.l.length ≤ 1000000000) :
    Calls Try.prog 30 #[.pointer (some ⟨P, 0, none⟩), .func (.func F) #[] #[]] w (BR B P w (Bz.untilB f p) (.string (bstr (p.l.take (Bz.span f p.l))))) := (buntil_genM F f hcf hC B P w p v h hl).mono fun _ _ h => h.br
end Go.Proofs.Ytaickkaoglohgaa
