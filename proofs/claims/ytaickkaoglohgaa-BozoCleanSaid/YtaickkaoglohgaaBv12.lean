/- One operation of a region that draws its order, taken by itself, inside a fence. · References: the program's Strict. · Strict: a value as written: the program's Value. · Strict: a parse's memory: words; the program's wrong. · Strict: an event behind others: the program's put. · The document's reading of tokens: white space, whether a piece stands there, quoted values. · Characters: Space and Blank, the program's and the document's. (Printed by wip/genSxK.py.) · Strict: the program's data, text, close, end. -/
import Derived.Test.YtaickkaoglohgaaBv04
import Derived.Test.YtaickkaoglohgaaBv05
import Derived.Test.YtaickkaoglohgaaBv10
import Derived.Test.YtaickkaoglohgaaBv11
import Derived.OrdersIn
import Derived.Deep.QuietTactic
import Derived.BigQuiet
import Derived.Deep.LoopGhost
import Derived.WalkSpells
import Derived.WalkLawsBesides
import Derived.Deep.RegionWith
set_option linter.unusedSimpArgs false
set_option linter.unusedVariables false
namespace Go.Proofs.Ytaickkaoglohgaa
open Go

section
variable {F : Fence} {n : Nat} {P : Program} {l : List Oper} {Q : Exit → Act → World → Prop} {md : Region.Mode}
theorem in_take {i d : Nat} {oi : Oper} {v : Value} {fuel : Nat} {listed : Array Bool} {a : Act} {w : World} (hro : F.round = none) (hi : l[i]? = some oi) (hd : oi.dst = some d)
    (hs : Region.noSelect l.toArray = true) (hf : Region.free md l.toArray listed i = true) (hr : (Region.ready md l.toArray listed).contains i = true)
    (hQ : ∀ c a w, Q (.panic c) (a.put oi.dst v) w → Q (.panic c) a w) (hw : Region.wanted oi (yielded l.toArray a.tmps) = true) (hy : ∀ w, (execOp a.eval oi).run P w = .ok (.value v) w)
    (hab : ∀ w, oi.about P w a.eval = none)
    (h : wpAnyIn F n P md l.toArray Q fuel (listed.setIfInBounds i true) { tmps := a.tmps.setIfInBounds d v, defers := a.defers } w) : wpAnyIn F n P md l.toArray Q (fuel + 1) listed a w :=
  wpAnyIn_take hro (by simpa using hi) hs hf hr hQ ⟨Or.inl ⟨hw, hy⟩, hab⟩ (by rw [put_some hd]; exact h)
theorem in_cons {i : Nat} {oi : Oper} {fuel : Nat} {listed : Array Bool} {a : Act} {w : World} {rs : List Nat} (hi : l[i]? = some oi) (hw : Region.wanted oi (yielded l.toArray a.tmps) = true)
    (h : ∀ K' : Act → World → Prop, (∀ a w, wpAnyIn F n P md l.toArray Q fuel (listed.setIfInBounds i true) a w → K' a w) → Oper.wpIn F n P oi a w K' Q)
    (hs : AllReadyIn F n P md l.toArray Q fuel listed a w rs) : AllReadyIn F n P md l.toArray Q fuel listed a w (i :: rs) :=
  AllReadyIn.cons (o := oi) (by simpa using hi) (fun K hK => by rw [if_pos hw]; exact h K hK) hs
theorem in_one {i : Nat} {oi : Oper} {fuel : Nat} {listed : Array Bool} {a : Act} {w : World} (hi : l[i]? = some oi) (hr : Region.ready md l.toArray listed = [i]) (hw : Region.wanted oi (yielded l.toArray a.tmps) = true)
    (h : ∀ K' : Act → World → Prop, (∀ a w, wpAnyIn F n P md l.toArray Q fuel (listed.setIfInBounds i true) a w → K' a w) → Oper.wpIn F n P oi a w K' Q) : wpAnyIn F n P md l.toArray Q (fuel + 1) listed a w :=
  wpAnyIn_ready hr (by simp) (in_cons hi hw h AllReadyIn.nil)
end
end Go.Proofs.Ytaickkaoglohgaa
namespace Go.Proofs.Ytaickkaoglohgaa
open Go.RowKit Go.Shelf Tk Sx

attribute [local go_sem] Oper.semAt_some

def noRow (X : World) (row : Option Nat) : Prop := ∀ r, row = some r → ∃ o : Obj, X.heap[r]? = some o ∧ o.isCells = false
theorem blk_row {X : World} {g t : Nat} {cs : Array Value} {row : Option Nat} (h : Blk X g t cs) (hr : noRow X row) : some g ≠ row := by
  intro e
  obtain ⟨o, ho, hc⟩ := hr _ e.symm
  rw [show X.heap[g]? = _ from h] at ho
  cases ho
  cases hc
theorem bld_grown {T B b : Nat} {bs : List Value} {X Y : World} {row : Option Nat} (h : Lib.IsBuilder T 5 B b bs X) (hg : X.grownBy Y row) (hr : noRow X row) : Lib.IsBuilder T 5 B b bs Y := by
  have one : ∀ p, Lib.BuilderAt T 5 B b p bs X → Lib.BuilderAt T 5 B b p bs Y := fun p hp => by
    obtain ⟨hB, v, hb, hown, hne⟩ := hp
    refine ⟨hB, v, Blk.grown (show Blk X b T #[p, v] from hb) hg (blk_row (show Blk X b T #[p, v] from hb) hr), hown.kept (row := row) hg ?_, hne⟩
    cases hv : v.ownBlock with
    | none => exact .inl rfl
    | some k =>
      refine .inr fun e => ?_
      obtain ⟨o, ho, hc⟩ := hr k e.symm
      obtain ⟨cs, fr, hh⟩ := (own_isT hown k hv).2
      rw [hh] at ho
      cases ho
      cases hc
  exact h.imp (one _) (one _)
def StrI (w : World) (s : ByteArray) (pre : List Pce) (W : World) : Prop :=
  (∀ x ∈ pre.map cutPce, (stepP x).isSome = true) ∧ Lib.IsBuilder 60 5 w.heap.size (w.heap.size + 1 + 1 + 1) (Lib.strCells (bstr (outAll (pre.map cutPce)))) W ∧
  Blk W w.heap.size 9 #[.string ⟨#[]⟩] ∧ Blk W (w.heap.size + 1) 3 #[.int .i64 0] ∧ Blk W (w.heap.size + 1 + 1) 30 #[.int .i64 0] ∧ Blk W (w.heap.size + 1 + 1 + 1 + 1) 9 #[.string s] ∧ Below w.heap.size w W
def StrX (w : World) (c : Code) (pre : List Pce) (W : World) : Prop :=
  c = .ret ∧ ∃ pre0 x, pre = pre0 ++ [x] ∧ (∀ y ∈ pre0.map cutPce, (stepP y).isSome = true) ∧ stepP (cutPce x) = none ∧
  Blk W w.heap.size 9 #[.string ⟨#[]⟩] ∧ Blk W (w.heap.size + 1) 3 #[.int .i64 (x.at_ : Int)] ∧ Blk W (w.heap.size + 1 + 1) 30 #[.int .i64 50] ∧ Below w.heap.size w W
theorem StrI_own (w : World) (s : ByteArray) (B : Nat) (hB : w.heap.size ≤ B) : OwnFrom B (StrI w s) := by
  rintro pre X Y row ⟨h1, h2, h3, h4, h5, h6, h7⟩ hg hrow
  have hr : noRow X row := fun r e => (hrow r e).2
  exact ⟨h1, bld_grown h2 hg hr, h3.grown hg (blk_row h3 hr), h4.grown hg (blk_row h4 hr), h5.grown hg (blk_row h5 hr), h6.grown hg (blk_row h6 hr), h7.grown hg h7.size (fun k e => by have := (hrow k e).1; omega)⟩
theorem StrX_own (w : World) (c : Code) (B : Nat) (hB : w.heap.size ≤ B) : OwnFrom B (StrX w c) := by
  rintro pre X Y row ⟨h1, p, x, h2, h3, h4, h5, h6, h7, h8⟩ hg hrow
  have hr : noRow X row := fun r e => (hrow r e).2
  exact ⟨h1, p, x, h2, h3, h4, h5.grown hg (blk_row h5 hr), h6.grown hg (blk_row h6 hr), h7.grown hg (blk_row h7 hr), h8.grown hg h8.size (fun k e => by have := (hrow k e).1; omega)⟩

theorem blt_pays {R : Nat} {W W' : World} {cs cs4 : Array Value} (h : BlT R (R + 1 + 1 + 1) W W') (hb : Blk W (R + 1 + 1 + 1) 60 cs) (h4 : Blk W (R + 1 + 1 + 1 + 1) 9 cs4) : KeepsOthers W W' ∧ PK (R + 1 + 1 + 1 + 1) W W' := by
  have nt : ∀ {k : Nat} {o : Obj}, W.heap[k]? = some o → (∀ c f, o ≠ .cells c 5 f) → ¬ IsT W k 5 := fun ho hn ⟨c, f, hh⟩ => by rw [hh] at ho; cases ho; exact hn _ _ rfl
  refine ⟨⟨h.size, fun k o hk ho => ?_⟩, h.size, fun g hg hk => ?_⟩
  · refine (h.block k (Array.getElem?_eq_some_iff.1 hk).1 (fun e => ?_) (.inr (nt hk fun c f e => by subst e; cases ho))).trans hk
    subst e
    rw [show W.heap[_]? = _ from hb] at hk
    cases hk
    cases ho
  · rcases hk with rfl | ⟨c, f, hk⟩
    · exact h.block _ hg (by omega) (.inr (nt h4 fun c f e => by injection e with _ e2; exact absurd e2 (by decide)))
    · refine h.block g hg (fun e => ?_) (.inr (nt hk fun c f e => by injection e with _ e2; exact absurd e2 (by decide)))
      subst e
      rw [show W.heap[_]? = _ from hb] at hk
      injection hk with hk
      injection hk with _ hk
      exact absurd hk (by decide)
theorem bld_blk {T B b : Nat} {bs : List Value} {W : World} (h : Lib.IsBuilder T 5 B b bs W) : ∃ cs, Blk W b T cs := by
  rcases h with ⟨_, v, hb, _⟩ | ⟨_, v, hb, _⟩ <;> exact ⟨_, hb⟩
theorem strCells_app (a b : L) : Lib.strCells (bstr a) ++ Lib.strCells (bstr b) = Lib.strCells (bstr (a ++ b)) := by simp [Lib.strCells, bstr]
theorem StrI_next {w : World} {s : ByteArray} {pre : List Pce} {x : Pce} {W W' : World} {t : L} (h : StrI w s pre W) (hx : stepP (cutPce x) = some t) (hb : BlT w.heap.size (w.heap.size + 1 + 1 + 1) W W')
    (hbu : Lib.IsBuilder 60 5 w.heap.size (w.heap.size + 1 + 1 + 1) (Lib.strCells (bstr (outAll (pre.map cutPce))) ++ Lib.strCells (bstr t)) W') :
    KeepsOthers W W' ∧ PK (w.heap.size + 1 + 1 + 1 + 1) W W' ∧ StrI w s (pre ++ [x]) W' := by
  obtain ⟨h1, h2, k0, k1, k2, k4, hB⟩ := h
  obtain ⟨cs, hcs⟩ := bld_blk h2
  obtain ⟨p1, p2⟩ := blt_pays hb hcs k4
  refine ⟨p1, p2, ?_, ?_, hb.blk k0 (by omega) (by decide), hb.blk k1 (by omega) (by decide), hb.blk k2 (by omega) (by decide), hb.blk k4 (by omega) (by decide), hB.trans (hb.below (by omega) hB.size)⟩
  · intro y hy
    rw [List.map_append, List.mem_append] at hy
    rcases hy with hy | hy
    · exact h1 y hy
    · simp only [List.map_cons, List.map_nil, List.mem_singleton] at hy
      subst hy
      rw [hx]
      rfl
  · rw [List.map_append, List.map_cons, List.map_nil, outAll_snoc, hx, Option.getD_some, ← strCells_app]
    exact hbu

/-- The way out: the three result cells, the piece's place, what was kept. -/
structure Thrs (w : World) (v0 v1 v2 : Value) (at_ H : Nat) (W0 W : World) : Prop where
  b0 : Blk W w.heap.size 9 #[v0]
  b1 : Blk W (w.heap.size + 1) 3 #[v1]
  b2 : Blk W (w.heap.size + 1 + 1) 30 #[v2]
  y0 : W.cell? ⟨H, 0, none⟩ = some (.int .i64 (at_ : Int))
  hH : w.heap.size + 1 + 1 < H
  hb : Below w.heap.size w W
  hk : KeepsOthers W0 W
abbrev Thr (w : World) := Thrs w (.string ⟨#[]⟩) (.int .i64 0) (.int .i64 0)
section
variable {w W0 W W1 : World} {v0 v1 v2 : Value} {at_ H : Nat}
theorem Thrs.c0 (h : Thrs w v0 v1 v2 at_ H W0 W) : W.cell? ⟨w.heap.size, 0, none⟩ = some v0 := h.b0.cell 0
theorem Thrs.c1 (h : Thrs w v0 v1 v2 at_ H W0 W) : W.cell? ⟨w.heap.size + 1, 0, none⟩ = some v1 := h.b1.cell 0
theorem Thrs.c2 (h : Thrs w v0 v1 v2 at_ H W0 W) : W.cell? ⟨w.heap.size + 1 + 1, 0, none⟩ = some v2 := h.b2.cell 0
theorem Thrs.f0 (h : Thrs w v0 v1 v2 at_ H W0 W) : W.frozen? ⟨w.heap.size, 0, none⟩ = false := h.b0.frozen 0
theorem Thrs.f1 (h : Thrs w v0 v1 v2 at_ H W0 W) : W.frozen? ⟨w.heap.size + 1, 0, none⟩ = false := h.b1.frozen 0
theorem Thrs.f2 (h : Thrs w v0 v1 v2 at_ H W0 W) : W.frozen? ⟨w.heap.size + 1 + 1, 0, none⟩ = false := h.b2.frozen 0
theorem Thrs.all (h : Thrs w v0 v1 v2 at_ H W0 W) : W.cell? ⟨H, 0, none⟩ = some (.int .i64 (at_ : Int)) ∧ W.cell? ⟨w.heap.size, 0, none⟩ = some v0 ∧ W.cell? ⟨w.heap.size + 1, 0, none⟩ = some v1 ∧ W.cell? ⟨w.heap.size + 1 + 1, 0, none⟩ = some v2 ∧
    W.frozen? ⟨w.heap.size, 0, none⟩ = false ∧ W.frozen? ⟨w.heap.size + 1, 0, none⟩ = false ∧ W.frozen? ⟨w.heap.size + 1 + 1, 0, none⟩ = false := ⟨h.y0, h.c0, h.c1, h.c2, h.f0, h.f1, h.f2⟩
theorem Thrs.go (h : Thrs w v0 v1 v2 at_ H W0 W) (b : Below W.heap.size W W1) : Thrs w v0 v1 v2 at_ H W0 W1 :=
  ⟨h.b0.go b, h.b1.go b, h.b2.go b, (b.cell (p := ⟨H, 0, none⟩) (lt_of_cell h.y0)).trans h.y0, h.hH, h.hb.trans (b.mono h.hb.size), h.hk.trans (others_below b)⟩
theorem Thrs.drew (h : Thrs w v0 v1 v2 at_ H W0 W) : Thrs w v0 v1 v2 at_ H W0 W.drew := h.go (Below.refl _ _).drew
theorem set_far {W : World} {p q : Addr} {u v : Value} (h : W.cell? p = some v) (hn : p.block ≠ q.block) : (W.setCell q u).cell? p = some v := (World.cell?_of_block (Below.heap_setCell W q u p.block hn)).trans h
theorem Thrs.s0 (h : Thrs w v0 v1 v2 at_ H W0 W) (u : Value) : Thrs w u v1 v2 at_ H W0 (W.setCell ⟨w.heap.size, 0, none⟩ u) :=
  ⟨h.b0.set_ 0 u, h.b1.far (by simp) _, h.b2.far (by simp; omega) _, set_far h.y0 (by have := h.hH; simp; omega), h.hH, h.hb.setCell (p := ⟨w.heap.size, 0, none⟩) (Nat.le_refl _) _, h.hk.trans (KeepsOthers.setCell _ _ _)⟩
theorem Thrs.s1 (h : Thrs w v0 v1 v2 at_ H W0 W) (u : Value) : Thrs w v0 u v2 at_ H W0 (W.setCell ⟨w.heap.size + 1, 0, none⟩ u) :=
  ⟨h.b0.far (by simp) _, h.b1.set_ 0 u, h.b2.far (by simp) _, set_far h.y0 (by have := h.hH; simp; omega), h.hH, h.hb.setCell (p := ⟨w.heap.size + 1, 0, none⟩) (by simp) _, h.hk.trans (KeepsOthers.setCell _ _ _)⟩
theorem Thrs.s2 (h : Thrs w v0 v1 v2 at_ H W0 W) (u : Value) : Thrs w v0 v1 u at_ H W0 (W.setCell ⟨w.heap.size + 1 + 1, 0, none⟩ u) :=
  ⟨h.b0.far (by simp; omega) _, h.b1.far (by simp) _, h.b2.set_ 0 u, set_far h.y0 (by have := h.hH; simp; omega), h.hH, h.hb.setCell (p := ⟨w.heap.size + 1 + 1, 0, none⟩) (by simp; omega) _, h.hk.trans (KeepsOthers.setCell _ _ _)⟩
theorem Thrs.leave {B : Nat} {pre : List Pce} {x : Pce} (h : Thrs w (.string ⟨#[]⟩) (.int .i64 (x.at_ : Int)) (.int .i64 50) x.at_ H W0 W) (hp : ∀ y ∈ pre.map cutPce, (stepP y).isSome = true) (hx : stepP (cutPce x) = none) : KeepsFrom B W0 W ∧ StrX w .ret (pre ++ [x]) W :=
  ⟨h.hk.from _, rfl, pre, x, rfl, hp, hx, h.b0, h.b1, h.b2, h.hb⟩
end

end Go.Proofs.Ytaickkaoglohgaa
namespace Go.Proofs.Ytaickkaoglohgaa
open Go.RowKit Tk Sx

theorem less_is : ∀ l : L, Lib.indexByte l 60 = match less l with | some k => (k : Int) | none => -1
  | [] => rfl
  | c :: r => by
    have ih := less_is r
    unfold less Lib.indexByte
    by_cases h : c = 60
    · rw [if_pos h]; simp [h]
    · rw [if_neg h, ih]
      cases less r with
      | none => simp [h]
      | some k => simp [h]
theorem less_le : ∀ {l : L} {k : Nat}, less l = some k → k < l.length
  | [], k, h => by cases h
  | c :: r, k, h => by
    unfold less at h
    by_cases h1 : c = 60
    · rw [if_pos h1] at h; cases h; simp
    · rw [if_neg h1] at h
      cases he : less r with
      | none => rw [he] at h; cases h
      | some m =>
        rw [he] at h
        simp only [Option.map_some, Option.some.injEq] at h
        have := less_le he
        simp only [List.length_cons]
        omega
/-- Bytes that a call has of its own. -/
structure ByAt (W : World) (g : Nat) (l : L) : Prop where
  c : ∀ (k : Nat) (c : UInt8), l[k]? = some c → W.cell? ⟨g, k, none⟩ = some (.int .u8 (c.toNat : Nat))
  f : ∀ k, k < l.length → W.frozen? ⟨g, k, none⟩ = false
theorem ByAt.set {W : World} {g : Nat} {l : L} (h : ByAt W g l) {k : Nat} (hk : k < l.length) (d : UInt8) : ByAt (W.setCell ⟨g, k, none⟩ (.int .u8 (d.toNat : Nat))) g (l.set k d) := by
  refine ⟨fun j c hj => ?_, fun j hj => ?_⟩
  · by_cases he : j = k
    · subst he
      rw [List.getElem?_set_self hk] at hj
      cases hj
      exact World.cell?_setCell_same _ _ _ (h.c j _ (List.getElem?_eq_getElem hk))
    · rw [List.getElem?_set_ne (fun e => he e.symm)] at hj
      rw [World.cell?_setCell_other _ _ _ _ (by intro e; injection e with _ e; exact he e.symm)]
      exact h.c j c hj
  · rw [World.frozen?_setCell]
    exact h.f j (by simpa using hj)
theorem bytes_mine (l : L) (w : World) : ∃ W g cap, (Go.convert 9 58 (.string (bstr l))).run Try.prog w = .ok (.slice (some ⟨g, 0, none⟩) (bstr l).size cap) W ∧ Below w.heap.size w W ∧ w.heap.size ≤ g ∧ g < W.heap.size ∧ ByAt W g l := by
  refine ⟨_, _, _, run_bytes_of_string (P := Try.prog) w 9 58 5 (bstr l) Try.underlying9 Try.underlying58 Try.underlying5, ?_, Nat.le_refl _, ?_, ?_, ?_⟩
  · exact (Below.refl _ w).drew.alloc (by simp) _
  · simp
  · intro k c hc
    obtain ⟨h1, h2⟩ := List.getElem?_eq_some_iff.1 hc
    have hk : k < (bstr l).data.size := by simpa [bstr] using h1
    have := bytesRow_at (bstr l) (grownCap w (bstr l).size 0 5) k hk
    have e : w.heap.size = w.drew.heap.size := rfl
    rw [e, World.cell?_alloc_mark, this]
    have h3 : (bstr l).data[k] = c := by simpa [bstr] using h2
    rw [h3]
  · intro k hk
    have hs : (bytesRow (bstr l) (grownCap w (bstr l).size 0 5)).size = (bstr l).size + (grownCap w (bstr l).size 0 5 - (bstr l).size) := by
      unfold bytesRow
      rw [Array.size_append, Array.size_map, Array.size_replicate]
      rfl
    have e : (w.drew.alloc (.cells (bytesRow (bstr l) (grownCap w (bstr l).size 0 5)) 5 ((bytesRow (bstr l) (grownCap w (bstr l).size 0 5)).size, (bytesRow (bstr l) (grownCap w (bstr l).size 0 5)).size + 1))).heap[w.heap.size]? = some (.cells (bytesRow (bstr l) (grownCap w (bstr l).size 0 5)) 5 ((bytesRow (bstr l) (grownCap w (bstr l).size 0 5)).size, (bytesRow (bstr l) (grownCap w (bstr l).size 0 5)).size + 1)) := heap_alloc_new w.drew _
    have hl := bstr_size l
    unfold World.frozen?
    rw [e]
    simp
    omega
/-- The first k bytes with blanks made alike. -/
def normTo (k : Nat) (l : L) : L := (l.take k).map norm ++ l.drop k
theorem normTo_len (k : Nat) (l : L) : (normTo k l).length = l.length := by unfold normTo; simp only [List.length_append, List.length_map, List.length_take, List.length_drop]; omega
theorem normTo_at {k : Nat} {l : L} {c : UInt8} (h : l[k]? = some c) : (normTo k l)[k]? = some c := by
  obtain ⟨h1, h2⟩ := List.getElem?_eq_some_iff.1 h
  unfold normTo
  rw [List.getElem?_append_right (by simp; omega)]
  simp
  rw [Nat.min_eq_left (by omega), Nat.sub_self, Nat.add_zero]
  exact h
theorem normTo_next {k : Nat} {l : L} {c : UInt8} (h : l[k]? = some c) : normTo (k + 1) l = (normTo k l).set k (norm c) := by
  obtain ⟨h1, h2⟩ := List.getElem?_eq_some_iff.1 h
  have hl : ((l.take k).map norm).length = k := by simp; omega
  unfold normTo
  rw [List.take_succ_eq_append_getElem h1, h2, List.map_append, List.set_append_right _ _ (by omega), hl, Nat.sub_self, List.drop_eq_getElem_cons h1]
  simp [List.set]
theorem normTo_same {k : Nat} {l : L} {c : UInt8} (h : l[k]? = some c) (hc : norm c = c) : normTo (k + 1) l = normTo k l := by
  rw [normTo_next h, hc]
  refine List.ext_getElem? fun j => ?_
  by_cases he : k = j
  · subst he
    rw [List.getElem?_set_self (by rw [normTo_len]; exact (List.getElem?_eq_some_iff.1 h).1), normTo_at h]
  · rw [List.getElem?_set_ne he]
end Go.Proofs.Ytaickkaoglohgaa
namespace Go.Proofs.Ytaickkaoglohgaa
open Go.RowKit Tk Sx

section
variable {α : Type} {f : α → List Value} {m : Nat}
theorem fm_length (h : ∀ x, (f x).length = m) : ∀ l : List α, (l.flatMap f).length = l.length * m
  | [] => by simp
  | x :: l => by rw [List.flatMap_cons, List.length_append, h, fm_length h l, List.length_cons, Nat.succ_mul]; omega
theorem fm_at (h : ∀ x, (f x).length = m) : ∀ (l : List α) (k : Nat) (hk : k < l.length) (j : Nat), j < m → (l.flatMap f)[k * m + j]? = (f l[k])[j]?
  | x :: l, 0, _, j, hj => by
    rw [List.flatMap_cons, List.getElem?_append_left (by rw [h]; omega)]
    simp
  | x :: l, k + 1, hk, j, hj => by
    have e : (k + 1) * m + j = m + (k * m + j) := by rw [Nat.succ_mul]; omega
    rw [List.flatMap_cons, List.getElem?_append_right (by rw [h]; omega), h, e, Nat.add_sub_cancel_left]
    exact fm_at h l k (by simpa using hk) j hj
theorem fm_snoc (l : List α) (x : α) : (l ++ [x]).flatMap f = l.flatMap f ++ f x := by simp
theorem fm_take (h : ∀ x, (f x).length = m) : ∀ (l : List α) (k : Nat), (l.take k).flatMap f = (l.flatMap f).take (k * m)
  | [], k => by simp
  | x :: l, 0 => by simp
  | x :: l, k + 1 => by
    have e : (k + 1) * m = m + k * m := by rw [Nat.succ_mul]; omega
    rw [List.take_succ_cons, List.flatMap_cons, List.flatMap_cons, List.take_append, h, e, List.take_of_length_le (l := f x) (by rw [h]; omega), fm_take h l k, Nat.add_sub_cancel_left]
end
def elCells (x : El) : List Value := [.string (bstr x.written), .string (bstr x.name.ns), .string (bstr x.name.loc), .int .i64 (x.scope : Int)]
def els (l : List El) : List Value := l.flatMap elCells
def attCells (a : Att) : List Value := [.string (bstr a.name.ns), .string (bstr a.name.loc), .string (bstr a.val)]
def atts (l : List Att) : List Value := l.flatMap attCells
def splCells (s : Spl) : List Value := [.string (bstr s.pre), .string (bstr s.loc), .string (bstr s.val), .int .i64 (s.at_ : Int)]
def spls (l : List Spl) : List Value := l.flatMap splCells
/-- An event and where its attributes lie. -/
structure Ew where
  e : Ev
  A : Option Addr
  c : Nat
def ewCells (x : Ew) : List Value := [.int .i8 (x.e.kind : Int), .string (bstr x.e.name.ns), .string (bstr x.e.name.loc), .slice x.A x.e.attrs.length x.c, .string (bstr x.e.text)]
def ews (l : List Ew) : List Value := l.flatMap ewCells
theorem info_dcl : (Try.prog.info? 97).map (fun i => (i.zero, i.size, i.bytes)) = some (some (.agg #[.string ⟨#[]⟩, .string ⟨#[]⟩]), 2, 32) := by kernel_rfl
theorem info_ev : (Try.prog.info? 39).map (fun i => (i.zero, i.size, i.bytes)) = some (some (.agg #[.int .i8 0, .string ⟨#[]⟩, .string ⟨#[]⟩, .slice none 0 0, .string ⟨#[]⟩]), 5, 80) := by kernel_rfl
theorem info_atr : (Try.prog.info? 41).map (fun i => (i.zero, i.size, i.bytes)) = some (some (.agg #[.string ⟨#[]⟩, .string ⟨#[]⟩, .string ⟨#[]⟩]), 3, 48) := by kernel_rfl
theorem isT_same {w w' : World} {k t : Nat} (h : IsT w k t) (e : w'.heap[k]? = w.heap[k]?) : IsT w' k t := by
  obtain ⟨cs, fr, h⟩ := h
  exact ⟨cs, fr, e.trans h⟩
section
variable {B P : Nat} {w w1 w' : World}
theorem own_go {b e size n : Nat} {v : Value} {xs : List Value} (h : w.ownsRow b e size v n xs) (hb : Below w.heap.size w w') : w'.ownsRow b e size v n xs := by
  refine ⟨h.1, ?_⟩
  rcases h.2 with hn | ⟨g, cap, cur, rfl, hbg, hgg, rest⟩
  · exact .inl hn
  · exact .inr ⟨g, cap, cur, rfl, hbg, (hb.block g (Array.getElem?_eq_some_iff.1 hgg).1).trans hgg, rest⟩
theorem own_far {b e size n t : Nat} {v : Value} {xs : List Value} {p : Addr} {cs : Array Value} (h : w.ownsRow b e size v n xs) (hp : Blk w p.block t cs) (ht : e ≠ t) (u : Value) : (w.setCell p u).ownsRow b e size v n xs := by
  refine ⟨h.1, ?_⟩
  rcases h.2 with hn | ⟨g, cap, cur, rfl, hbg, hgg, rest⟩
  · exact .inl hn
  · refine .inr ⟨g, cap, cur, rfl, hbg, (Below.heap_setCell _ _ _ _ (fun e1 => ?_)).trans hgg, rest⟩
    subst e1
    rw [show w.heap[p.block]? = _ from hp] at hgg
    injection hgg with hgg
    injection hgg with _ h2
    exact ht h2.symm
/-- A row that is kept where another one, of other elements, has grown. -/
theorem own_grown {b e size n e2 b2 s2 n2 : Nat} {v v2 : Value} {xs xs2 : List Value} (h : w.ownsRow b e size v n xs) (h2 : w.ownsRow b2 e2 s2 v2 n2 xs2) (hne : e ≠ e2) (hg : w.grownBy w' v2.ownBlock) : w'.ownsRow b e size v n xs := by
  refine h.kept hg ?_
  cases hv : v.ownBlock with
  | none => exact .inl rfl
  | some k =>
    refine .inr fun e1 => ?_
    exact isT_ne (own_isT h k hv).2 (own_isT h2 k e1.symm).2 hne
theorem own_take {b e size n c k : Nat} {A : Option Addr} {xs : List Value} (h : w.ownsRow b e size (.slice A n c) n xs) (hk : k ≤ n) : w.ownsRow b e size (.slice A k c) k (xs.take (k * size)) := by
  have hm : k * size ≤ n * size := Nat.mul_le_mul_right _ hk
  refine ⟨by rw [List.length_take, h.1]; omega, ?_⟩
  rcases h.2 with ⟨hn, h0⟩ | ⟨g, cap, cur, hv, hb, hh, h1, h2, h3, h4⟩
  · subst h0
    cases hn
    have : k = 0 := by omega
    subst this
    exact .inl ⟨rfl, rfl⟩
  · cases hv
    refine .inr ⟨g, c, cur, rfl, hb, hh, by omega, h2, h3, ?_⟩
    rw [← h4, List.take_take, Nat.min_eq_left hm]
end
/-- An event's attributes lie in a row of their own. -/
structure Ew.In (x : Ew) (B : Nat) (W : World) : Prop where
  a : Reads W W.heap.size 3 x.A x.e.attrs.length (atts x.e.attrs)
  va : Above B x.A
  ta : Typed W x.A 41
/-- Where a parse's rows lie. -/
structure Pv where
  Ao : Option Addr
  co : Nat
  As : Option Addr
  cs : Nat
  Ae : Option Addr
  ce : Nat
  vb : Value
  xs : List Ew
def prCells (st : St) (v : Pv) : Array Value := #[.slice v.Ao st.open_.length v.co, .slice v.As st.scope.length v.cs, .slice v.Ae v.xs.length v.ce, .bool st.rooted, v.vb]
section
variable {B P : Nat} {w w' : World} {st : St} {b : Bad} {v : Pv}
end
end Go.Proofs.Ytaickkaoglohgaa
namespace Go.Proofs.Ytaickkaoglohgaa
open Go.RowKit Tk Sx

/-- What a call may have turned: of the blocks that were there, rows of t from B on. -/
structure MovT (B t : Nat) (w w' : World) : Prop where
  os : w'.os = w.os
  tape : w'.tape = w.tape
  output : w'.output = w.output
  size : w.heap.size ≤ w'.heap.size
  block : ∀ k, k < w.heap.size → ¬ (B ≤ k ∧ IsT w k t) → w'.heap[k]? = w.heap[k]?
section
variable {B P t : Nat} {w w1 w' : World}
theorem MovT.refl (B t : Nat) (w : World) : MovT B t w w := ⟨rfl, rfl, rfl, Nat.le_refl _, fun _ _ _ => rfl⟩
theorem MovT.trans (h : MovT B t w w1) (k : MovT B t w1 w') : MovT B t w w' := by
  refine ⟨k.os.trans h.os, k.tape.trans h.tape, k.output.trans h.output, Nat.le_trans h.size k.size, fun i hi hn => ?_⟩
  have e := h.block i hi hn
  rw [k.block i (Nat.lt_of_lt_of_le hi h.size) ?_, e]
  rintro ⟨h1, h2⟩
  exact hn ⟨h1, isT_same h2 e.symm⟩
theorem MovT.of_below (h : Below w.heap.size w w') : MovT B t w w' := ⟨h.os, h.tape, h.output, h.size, fun k hk _ => h.block k hk⟩
theorem MovT.grown {row : Option Nat} (hg : w.grownBy w' row) (hr : ∀ k, row = some k → B ≤ k ∧ IsT w k t) : MovT B t w w' :=
  ⟨hg.os, hg.tape, hg.output, hg.size, fun k h1 hn => hg.block k h1 (fun e => hn (hr k e.symm))⟩
theorem MovT.set {p : Addr} (hp : B ≤ p.block ∧ IsT w p.block t) (u : Value) : MovT B t w (w.setCell p u) := by
  refine ⟨rfl, rfl, rfl, by simp [World.setCell], fun k hk hn => Below.heap_setCell _ _ _ _ (by rintro rfl; exact hn hp)⟩
theorem MovT.blk {g t' : Nat} {cs : Array Value} (h : MovT B t w w') (hg : Blk w g t' cs) (ht : t' ≠ t) : Blk w' g t' cs :=
  (h.block g hg.lt (fun hh => isT_ne hg.isT hh.2 ht)).trans hg
theorem MovT.own {b e size n : Nat} {v : Value} {xs : List Value} (h : MovT B t w w') (ho : w.ownsRow b e size v n xs) (ht : e ≠ t) : w'.ownsRow b e size v n xs := by
  refine ⟨ho.1, ?_⟩
  rcases ho.2 with hn | ⟨g, cap, cur, rfl, hbg, hgg, rest⟩
  · exact .inl hn
  · exact .inr ⟨g, cap, cur, rfl, hbg, (h.block g (Array.getElem?_eq_some_iff.1 hgg).1 (fun hh => isT_ne ⟨cur, _, hgg⟩ hh.2 ht)).trans hgg, rest⟩
theorem MovT.below {C : Nat} (h : MovT B t w w') (hB : C ≤ B) (hs : C ≤ w.heap.size) : Below C w w' := ⟨h.os, h.tape, h.output, h.size, fun k hk => h.block k (by omega) (fun hh => by omega)⟩
end
theorem Ew.In.movt {x : Ew} {B t : Nat} {W W' : World} (h : x.In B W) (hm : MovT B t W W') (ht : t ≠ 41) : x.In B W' := by
  have sa : ∀ a, x.A = some a → W'.heap[a.block]? = W.heap[a.block]? := fun a ha => hm.block _ (h.ta a ha).lt fun hh => isT_ne (h.ta a ha) hh.2 ht.symm
  exact ⟨h.a.same sa hm.size, h.va, h.ta.same sa⟩
theorem Ew.In.as_ {x y : Ew} {B : Nat} {W : World} (h : x.In B W) (hA : y.A = x.A) (ha : y.e.attrs = x.e.attrs) : y.In B W := ⟨by rw [hA, ha]; exact h.a, by rw [hA]; exact h.va, by rw [hA]; exact h.ta⟩
theorem bstr_app (a b : L) : bstr a ++ bstr b = bstr (a ++ b) := by
  apply ByteArray.ext
  apply Array.ext'
  rw [← Array.toList_append] <;> simp [bstr]
theorem MovT.drew {B t : Nat} {w w1 : World} (h : MovT B t w w1) : MovT B t w w1.drew := ⟨h.os, h.tape, h.output, h.size, h.block⟩
theorem ew_len (x : Ew) : (ewCells x).length = 5 := rfl
theorem ev_one (x : Ew) : ∀ u ∈ ewCells x, u.oneCell' = true := by
  intro u hu
  simp only [ewCells, List.mem_cons, List.not_mem_nil, or_false] at hu
  rcases hu with rfl | rfl | rfl | rfl | rfl <;> rfl
/-- What put leaves. -/
def PutE (B : Nat) (w : World) (xs : List Ew) (x : Ew) (e : Ending) (w' : World) : Prop :=
  ∃ A c xs', e = .returned (.slice A xs'.length c) ∧ w'.ownsRow B 39 5 (.slice A xs'.length c) xs'.length (ews xs') ∧ xs'.map (·.e) = putEv (xs.map (·.e)) x.e ∧ (∀ y ∈ xs', ∃ z ∈ xs ++ [x], y.A = z.A ∧ y.e.attrs = z.e.attrs) ∧ MovT B 39 w w'
theorem PutE.snoc {B : Nat} {w w8 : World} {xs : List Ew} {x : Ew} {g cap c : Nat} {A : Option Addr} {o o' : Obj} (hB : B ≤ w.heap.size) (h : w.ownsRow B 39 5 (.slice A xs.length c) xs.length (ews xs)) (hown : w8.ownsRow B 39 5 (.slice (some ⟨g, 0, none⟩) (xs.length + 1) cap) (xs.length + 1) (ews xs ++ ewCells x))
    (hgrow : ((w.alloc o).alloc o').grownBy w8 (Value.slice A xs.length c).ownBlock) (hp : putEv (xs.map (·.e)) x.e = xs.map (·.e) ++ [x.e]) : PutE B w xs x (.returned (.slice (some ⟨g, 0, none⟩) (xs.length + 1) cap)) w8 := by
  refine ⟨some ⟨g, 0, none⟩, cap, xs ++ [x], by rw [List.length_append]; rfl, by rw [List.length_append]; unfold ews at hown ⊢; rw [fm_snoc]; exact hown, by rw [hp, List.map_append]; rfl, fun y hy => ⟨y, hy, rfl, rfl⟩, ?_⟩
  have b2 : Below w.heap.size w ((w.alloc o).alloc o') := ((Below.refl _ _).alloc (Nat.le_refl _) o).alloc (by simp) o'
  exact (MovT.of_below b2).trans (.grown hgrow fun k hk => own_isT (own_go h b2) k hk)
theorem PutE.snoc' {B n : Nat} {w w8 : World} {xs : List Ew} {x : Ew} {g cap c : Nat} {A : Option Addr} {o o' : Obj} (hB : B ≤ w.heap.size) (h : w.ownsRow B 39 5 (.slice A n c) n (ews xs)) (hn : xs.length = n) (hown : w8.ownsRow B 39 5 (.slice (some ⟨g, 0, none⟩) (n + 1) cap) (n + 1) (ews xs ++ ewCells x))
    (hgrow : ((w.alloc o).alloc o').grownBy w8 (Value.slice A n c).ownBlock) (hp : putEv (xs.map (·.e)) x.e = xs.map (·.e) ++ [x.e]) : PutE B w xs x (.returned (.slice (some ⟨g, 0, none⟩) (n + 1) cap)) w8 := by
  subst hn
  exact PutE.snoc hB h hown hgrow hp
theorem put_other {l : List Ev} {x : Ev} (h : x.kind ≠ 2) : putEv l x = l ++ [x] := by unfold putEv; rw [if_pos h]
theorem put_nil {x : Ev} (h : x.kind = 2) : putEv [] x = if x.text = [] then [] else [x] := by unfold putEv; rw [if_neg (by simpa using h)]; rfl
theorem put_text {l : List Ev} {y x : Ev} (h : x.kind = 2) (hy : y.kind = 2) : putEv (l ++ [y]) x = l ++ [⟨2, y.name, y.attrs, y.text ++ x.text⟩] := by unfold putEv; rw [if_neg (by simpa using h)]; simp [hy]
theorem put_behind {l : List Ev} {y x : Ev} (h : x.kind = 2) (hy : y.kind ≠ 2) : putEv (l ++ [y]) x = if x.text = [] then l ++ [y] else l ++ [y] ++ [x] := by unfold putEv; rw [if_neg (by simpa using h)]; simp [hy]

end Go.Proofs.Ytaickkaoglohgaa
namespace Go.Proofs.Ytaickkaoglohgaa
open Go.RowKit Tk

end Go.Proofs.Ytaickkaoglohgaa
namespace Go.Proofs.Ytaickkaoglohgaa
open Go.RowKit Tk Sx

theorem cspace_any (c : UInt8) (w : World) : Calls Try.prog 60 #[.int .i64 (c.toNat : Nat)] w fun e w' => e = .returned (.bool (sp c)) ∧ w' = w := by
  have key : ∀ d : UInt8, ((c.toNat : Int) == (d.toNat : Int)) = (c == d) := fun d => by
    rw [Bool.eq_iff_iff, beq_iff_eq, beq_iff_eq]
    exact ⟨fun h => UInt8.toNat_inj.1 (by omega), fun h => by rw [h]⟩
  have e1 : ((c.toNat : Int) == 32) = (c == 32) := key 32
  have e2 : ((c.toNat : Int) == 9) = (c == 9) := key 9
  have e3 : ((c.toNat : Int) == 10) = (c == 10) := key 10
  have e4 : ((c.toNat : Int) == 13) = (c == 13) := key 13
  unfold sp
  clear key
  generalize (c == 32) = a32 at *
  generalize (c == 9) = a9 at *
  generalize (c == 10) = a10 at *
  generalize (c == 13) = a13 at *

  cases a32 with
  | true =>
    go_enter Try.func60, Try.ntmps60
    go_wp2
    go_ret
    exact ⟨ret_eq1 (bool_eq (by simp)), rfl⟩
  | false =>
    cases a9 with
    | true =>
      go_enter Try.func60, Try.ntmps60
      go_wp2
      go_ret
      exact ⟨ret_eq1 (bool_eq (by simp)), rfl⟩
    | false =>
      cases a10 with
      | true =>
        go_enter Try.func60, Try.ntmps60
        go_wp2
        go_ret
        exact ⟨ret_eq1 (bool_eq (by simp)), rfl⟩
      | false =>
        cases a13 with
        | true =>
          go_enter Try.func60, Try.ntmps60
          go_wp2
          go_ret
          exact ⟨ret_eq1 (bool_eq (by simp)), rfl⟩
        | false =>
          go_enter Try.func60, Try.ntmps60
          go_wp2
          go_ret
          exact ⟨ret_eq1 (bool_eq (by simp)), rfl⟩
set_option maxHeartbeats 4000000 in
theorem blank_any (D : L) (w : World) (hD : D.length ≤ 1000000000) : Calls Try.prog 52 #[.string (bstr D)] w fun e w' => e = .returned (.bool (D.all sp)) ∧ Below w.heap.size w w' := by
  have Hs := hide (bstr_size D)
  obtain ⟨W, g, cap, hconv, hb, hg, hat⟩ := bytes_of (bstr D) w
  rw [bstr_list] at hat
  have Hat := hide hat
  have HB := hide hb
  clear hat hb
  obtain ⟨z, hz⟩ : ∃ z, D.all sp = z := ⟨_, rfl⟩
  have Hz := hide (show (D.drop 0).all sp = z by rw [List.drop_zero, hz])
  rw [hz]
  clear hz
  go_enter Try.func52, Try.ntmps52
  go_wp2
  clear hconv
  go_loopg [8] (bstr D).size (fun gk v wr => ∃ k : Nat, gk = (bstr D).size - k ∧ k ≤ (bstr D).size ∧ v = .int .i64 (k : Int) ∧ (D.drop k).all sp = z ∧ wr = W)
  case atStart => exact ⟨0, rfl, by omega, rfl, Hz.out, rfl⟩
  case round =>
    obtain ⟨k, hgk, hk, rfl, hzk, rfl⟩ := hrel
    have Hg := hide hgk
    have Hzk := hide hzk
    clear hgk hzk Hz
    by_cases hlt : k < (bstr D).size
    · obtain ⟨c, hc⟩ : ∃ c, D[k]? = some c := ⟨_, List.getElem?_eq_getElem (by rw [← Hs.out]; exact hlt)⟩
      have hcell := Hat.out k c hc
      have hk0 : (0 : Int) ≤ (k : Int) := by omega
      have hcw : IntKind.i64.wrap (c.toNat : Int) = (c.toNat : Int) := IntWalk.i64_in _ (by have := c.toNat_lt; omega)
      have hwk : IntKind.i64.wrap ((k : Int) + 1) = (k : Int) + 1 := IntWalk.i64_in _ (by have := Hs.out; omega)
      have HS := hide (cspace_any c)
      have hst : z = (sp c && (D.drop (k + 1)).all sp) := by rw [← Hzk.out, drop_cons0 hc, List.all_cons]
      clear hc Hzk
      cases hsp : sp c with
      | true =>
        rw [hsp] at HS hst
        have Hn := hide (show (D.drop (k + 1)).all sp = z by rw [hst, Bool.true_and])
        clear hst hsp
        go_wp2_with fail
        refine cq (HS.out _) ?_
        go_wp2
        go_roundg ((bstr D).size - (k + 1))
        case measure => have := Hg.out; omega
        case rel => exact ⟨k + 1, rfl, by omega, by first | rfl | go_num, Hn.out, rfl⟩
      | false =>
        rw [hsp] at HS hst
        have Hr := hide (show false = z by rw [hst, Bool.false_and])
        clear hst hsp
        go_wp2_with fail
        refine cq (HS.out _) ?_
        go_wp2
        go_ret
        exact ⟨ret_eq1 (bool_eq Hr.out), HB.out⟩
    · have Hr := hide (show true = z by rw [← Hzk.out, List.drop_of_length_le (by rw [← Hs.out]; omega)]; rfl)
      clear Hzk
      go_wp2
      go_ret
      exact ⟨ret_eq1 (bool_eq Hr.out), HB.out⟩

end Go.Proofs.Ytaickkaoglohgaa
namespace Go.Proofs.Ytaickkaoglohgaa
open Go.RowKit Tk Sx

/-- A parse that is within bounds. -/
structure Ok (st : St) (n M : Nat) : Prop where
  op : st.open_.length ≤ 16
  sc : st.scope.length ≤ n
  ev : st.evs.length ≤ n
  tx : ∀ y ∈ st.evs, y.text.length ≤ M
  in_ : ∀ x ∈ st.open_, x.scope ≤ st.scope.length
  srt : st.open_.Pairwise fun a b => a.scope ≤ b.scope
theorem Above.none {B : Nat} : Above B none := fun a ha => by cases ha
theorem Typed.none {w : World} {t : Nat} : Typed w none t := fun a ha => by cases ha
theorem in_none {B : Nat} {W : World} (e : Ev) (h : e.attrs = []) (c : Nat) : (Ew.mk e none c).In B W := ⟨by rw [show (Ew.mk e none c).e.attrs = [] from h]; exact Reads.none_, .none, .none⟩
/-- A token that lies below. -/
structure TkB (B : Nat) (w : World) (b o : Nat) (t : Tok) : Prop where
  lt : b < B
  c1 : w.cell? ⟨b, o + 1, none⟩ = some (.string (bstr t.name))
  c3 : w.cell? ⟨b, o + 3, none⟩ = some (.bool t.empty)
  c4 : w.cell? ⟨b, o + 4, none⟩ = some (.string (bstr t.text))
  c5 : w.cell? ⟨b, o + 5, none⟩ = some (.int .i64 (t.at_ : Int))
theorem sref_len : ∀ (f k : Nat) (l out : L), sref f k l = .ok out → out.length ≤ 4 * l.length := by
  intro f
  induction f with
  | zero => intro k l out h; rw [sref] at h; cases h; simp
  | succ f ih =>
  intro k l out h
  cases l with
  | nil => rw [sref] at h; cases h; simp
  | cons c r =>
    by_cases hc : c = 38
    · subst hc
      cases he : ends r with
      | none => rw [sref_none he] at h; cases h
      | some n =>
        have hn := ends_le he
        cases hs : scalar (r.take n) with
        | none => rw [sref_bad he hs] at h; cases h
        | some v =>
          rw [sref_ref he hs] at h
          cases hy : sref f (k + n + 2) (r.drop (n + 1)) with
          | error a => rw [hy] at h; cases h
          | ok o =>
            rw [hy] at h
            simp only [glueE, Except.ok.injEq] at h
            subst h
            have := ih _ _ _ hy
            have hp := putL_short (v : Int)
            rw [List.length_drop] at this
            rw [List.length_append, List.length_cons]
            omega
    · rw [sref_byte hc] at h
      cases hy : sref f (k + 1) r with
      | error a => rw [hy] at h; cases h
      | ok o =>
        rw [hy] at h
        simp only [glueE, Except.ok.injEq] at h
        subst h
        have := ih _ _ _ hy
        rw [List.length_append, List.length_cons, List.length_cons]
        simp
        omega

end Go.Proofs.Ytaickkaoglohgaa
