/- The document's strict: a parse in memory; declares, may, wrong. · The document's strict: flush, close. (Printed by wip/genSuE.py.) -/
import Derived.Test.YtbbpkcddifmieaaGreatDoorSw23
import Derived.Test.YtbbpkcddifmieaaGreatDoorSw28
import Derived.Test.YtbbpkcddifmieaaGreatDoorSw29
import Derived.Test.YtbbpkcddifmieaaGreatDoorSw31
import Derived.Test.YtbbpkcddifmieaaGreatDoorSw32
import Derived.Deep.RegionWith
set_option linter.unusedSimpArgs false
set_option linter.unusedVariables false
namespace Go.Proofs.YtbbpkcddifmieaaGreatDoor
section
open Go.RowKit Tk Sx

theorem info_opn : (Tryz.prog.info? 111).map (fun i => (i.zero, i.size, i.bytes)) = some (some (.agg #[.string ⟨#[]⟩, .string ⟨#[]⟩, .string ⟨#[]⟩, .int .i64 0]), 4, 56) := by kernel_rfl
def DMine (w : World) (k : Nat) : Prop := IsT w k 111 ∨ IsT w k 24 ∨ IsT w k 43
structure DMov (B P : Nat) (w w' : World) : Prop where
 os : w'.os = w.os
 tape : w'.tape = w.tape
 output : w'.output = w.output
 size : w.heap.size ≤ w'.heap.size
 block : ∀ k, k < w.heap.size → k ≠ P → ¬ (B ≤ k ∧ DMine w k) → w'.heap[k]? = w.heap[k]?
theorem dmine_same {w w' : World} {k : Nat} (h : DMine w k) (e : w'.heap[k]? = w.heap[k]?) : DMine w' k := by
 rcases h with h | h | h
 ·exact .inl (isT_same h e)
 ·exact .inr (.inl (isT_same h e))
 exact .inr (.inr (isT_same h e))
section
variable {B P : Nat} {w w1 w' : World}
theorem DMov.refl (B P : Nat) (w : World) : DMov B P w w := ⟨rfl, rfl, rfl, Nat.le_refl _, fun _ _ _ _ => rfl⟩
theorem DMov.trans (h : DMov B P w w1) (k : DMov B P w1 w') : DMov B P w w' := by
 refine ⟨k.os.trans h.os, k.tape.trans h.tape, k.output.trans h.output, Nat.le_trans h.size k.size, fun i hi hb hn => ?_⟩;have e := h.block i hi hb hn;rw [k.block i (Nat.lt_of_lt_of_le hi h.size) hb ?_, e];rintro ⟨h1, h2⟩;exact hn ⟨h1, dmine_same h2 e.symm⟩
theorem DMov.of_below (h : Below w.heap.size w w') : DMov B P w w' := ⟨h.os, h.tape, h.output, h.size, fun k hk _ _ => h.block k hk⟩
theorem DMov.go (h : DMov B P w w1) (k : Below w1.heap.size w1 w') : DMov B P w w' := h.trans (.of_below k)
theorem DMov.below {C : Nat} (h : DMov B P w w') (hB : C ≤ B) (hP : C ≤ P) (hs : C ≤ w.heap.size) : Below C w w' := ⟨h.os, h.tape, h.output, h.size, fun k hk => h.block k (by omega) (by omega) (fun hh => by omega)⟩
theorem DMov.drew (h : DMov B P w w1) : DMov B P w w1.drew := ⟨h.os, h.tape, h.output, h.size, h.block⟩
theorem DMov.setCell (h : DMov B P w w1) {p : Addr} (hp : p.block = P ∨ w.heap.size ≤ p.block) (u : Value) : DMov B P w (w1.setCell p u) := by
 refine ⟨h.os, h.tape, h.output, by simpa [World.setCell] using h.size, fun k hk hb hn => ?_⟩;rw [Below.heap_setCell _ _ _ _ (by omega)];exact h.block k hk hb hn
theorem DMov.setDMine (h : DMov B P w w1) {p : Addr} (hp : B ≤ p.block ∧ DMine w p.block) (u : Value) : DMov B P w (w1.setCell p u) := by
 refine ⟨h.os, h.tape, h.output, by simpa [World.setCell] using h.size, fun k hk hb hn => ?_⟩;rw [Below.heap_setCell _ _ _ _ (by rintro rfl; exact hn hp)];exact h.block k hk hb hn
theorem not_dmine {k t : Nat} {cs : Array Value} (h : Blk w k t cs) (ht : t ≠ 111 ∧ t ≠ 24 ∧ t ≠ 43) : ¬ DMine w k := by
 rintro (h2 | h2 | h2)
 ·exact isT_ne h.isT h2 ht.1
 ·exact isT_ne h.isT h2 ht.2.1
 exact isT_ne h.isT h2 ht.2.2
theorem DMov.blk {g t : Nat} {cs : Array Value} (h : DMov B P w w') (hg : Blk w g t cs) (hP : g ≠ P) (ht : t ≠ 111 ∧ t ≠ 24 ∧ t ≠ 43) : Blk w' g t cs :=
 (h.block g hg.lt hP (fun hh => not_dmine hg ht hh.2)).trans hg
end
theorem DMov.of_but {B P : Nat} {w w' : World} (h : But P w w') : DMov B P w w' := ⟨h.os, h.tape, h.output, h.size, fun k hk hP _ => h.block k hk hP⟩
theorem Ew.In.dmov {x : Ew} {B P : Nat} {W W' : World} (h : x.In B W) (hm : DMov B P W W') (hP : ∀ a, x.A = some a → a.block ≠ P) : x.In B W' := by
 have sa : ∀ a, x.A = some a → W'.heap[a.block]? = W.heap[a.block]? := fun a ha => hm.block _ (h.ta a ha).lt (hP a ha) fun hh => by
  rcases hh.2 with h2 | h2 | h2
  ·exact isT_ne (h.ta a ha) h2 (by decide)
  ·exact isT_ne (h.ta a ha) h2 (by decide)
  exact isT_ne (h.ta a ha) h2 (by decide)
 exact ⟨h.a.same sa hm.size, h.va, h.ta.same sa⟩
theorem ew_notD {B P : Nat} {w : World} {x : Ew} {cs : Array Value} (h : x.In B w) (hP : Blk w P 71 cs) : ∀ a, x.A = some a → a.block ≠ P := fun a ha e => by
 subst e;exact isT_ne (h.ta a ha) hP.isT (by decide)
structure Dst where
 open_ : List El
 scope : List Dcl
 evs : List Ev
 text : L
 rooted : Bool
namespace Dst
def all (d : Dst) : List Ev := if d.text = [] then d.evs else d.evs ++ [textEv d.text]
def st (d : Dst) : St := ⟨d.open_, d.scope, d.all, d.rooted⟩
def Nt (d : Dst) : Prop := (∀ y, d.evs.getLast? = some y → y.kind ≠ 2) ∧ (d.open_ = [] → d.text = [])
end Dst
def badN (b : Bad) : Int := match b with
 | none => -1
 | some (a, _) => (a : Int)
def badE (b : Bad) : Int := match b with
 | none => 0
 | some (_, e) => (e : Int)
structure Dv where
 Ao : Option Addr
 co : Nat
 As : Option Addr
 cs : Nat
 Ae : Option Addr
 ce : Nat
 xs : List Ew
def pdCells (d : Dst) (b : Bad) (v : Dv) : Array Value := #[.slice v.Ao d.open_.length v.co, .slice v.As d.scope.length v.cs, .slice v.Ae v.xs.length v.ce, .string (bstr d.text), .bool d.rooted, .int .i64 (badN b), .int .i64 (badE b)]
structure PD (B P : Nat) (w : World) (d : Dst) (b : Bad) (v : Dv) : Prop where
 blk : Blk w P 71 (pdCells d b v)
 bp : B ≤ P
 o : w.ownsRow B 111 4 (.slice v.Ao d.open_.length v.co) d.open_.length (els d.open_)
 s : w.ownsRow B 24 2 (.slice v.As d.scope.length v.cs) d.scope.length (dcls d.scope)
 e : w.ownsRow B 43 5 (.slice v.Ae v.xs.length v.ce) v.xs.length (ews v.xs)
 ev : v.xs.map (·.e) = d.evs
 inn : ∀ x ∈ v.xs, x.In B w
section
variable {B P : Nat} {w w' : World} {d : Dst} {b : Bad} {v : Dv}
theorem PD.go (h : PD B P w d b v) (hb : Below w.heap.size w w') : PD B P w' d b v :=
 ⟨h.blk.go hb, h.bp, own_go h.o hb, own_go h.s hb, own_go h.e hb, h.ev, fun x hx => (h.inn x hx).dmov (.of_below hb) (ew_notD (h.inn x hx) h.blk)⟩
theorem PD.len (h : PD B P w d b v) : v.xs.length = d.evs.length := by rw [← h.ev, List.length_map]
theorem PD.put (h : PD B P w d b v) {d' : Dst} {b' : Bad} (i : Nat) (u : Value) (hc : (pdCells d b v).setIfInBounds i u = pdCells d' b' v) (ho : d'.open_ = d.open_) (hs : d'.scope = d.scope) (he : d'.evs = d.evs) : PD B P (w.setCell ⟨P, i, none⟩ u) d' b' v := by
 refine ⟨by rw [← hc]; exact h.blk.set_ i u, h.bp, ?_, ?_, ?_, ?_, ?_⟩
 ·rw [ho]; exact own_far (p := ⟨P, i, none⟩) h.o h.blk (by decide) u
 ·rw [hs]; exact own_far (p := ⟨P, i, none⟩) h.s h.blk (by decide) u
 ·exact own_far (p := ⟨P, i, none⟩) h.e h.blk (by decide) u
 ·rw [he]; exact h.ev
 exact fun x hx => (h.inn x hx).dmov ((DMov.refl B P w).setCell (p := ⟨P, i, none⟩) (.inl rfl) u) (ew_notD (h.inn x hx) h.blk)
theorem PD.cell (h : PD B P w d b v) : w.cell? ⟨P, 0, none⟩ = some (.slice v.Ao d.open_.length v.co) ∧ w.cell? ⟨P, 1, none⟩ = some (.slice v.As d.scope.length v.cs) ∧ w.cell? ⟨P, 2, none⟩ = some (.slice v.Ae v.xs.length v.ce) ∧ w.cell? ⟨P, 3, none⟩ = some (.string (bstr d.text)) ∧ w.cell? ⟨P, 4, none⟩ = some (.bool d.rooted) ∧ w.cell? ⟨P, 5, none⟩ = some (.int .i64 (badN b)) ∧ w.cell? ⟨P, 6, none⟩ = some (.int .i64 (badE b)) :=
 ⟨h.blk.cell 0, h.blk.cell 1, h.blk.cell 2, h.blk.cell 3, h.blk.cell 4, h.blk.cell 5, h.blk.cell 6⟩
theorem PD.frz (h : PD B P w d b v) : ∀ i, w.frozen? ⟨P, i, none⟩ = false := fun i => h.blk.frozen i
end
theorem MovT.dmov {B P t : Nat} {w w' : World} (h : MovT B t w w') (ht : t = 111 ∨ t = 24 ∨ t = 43) : DMov B P w w' := by
 refine ⟨h.os, h.tape, h.output, h.size, fun k hk _ hn => h.block k hk fun hh => hn ⟨hh.1, ?_⟩⟩
 rcases ht with rfl | rfl | rfl
 ·exact .inl hh.2
 ·exact .inr (.inl hh.2)
 exact .inr (.inr hh.2)
section
variable {B P : Nat} {w w1 : World} {d : Dst} {b : Bad} {v : Dv} {A : Option Addr} {c : Nat}
theorem ew_kept (h : ∀ x ∈ v.xs, x.In B w) {t : Nat} (hm : MovT B t w w1) (ht : t ≠ 49) {cs : Array Value} (hb : Blk w1 P 71 cs) (i : Nat) (u : Value) : ∀ x ∈ v.xs, x.In B (w1.setCell ⟨P, i, none⟩ u) := fun y hy => by
 have hy1 : y.In B w1 := (h y hy).movt hm ht;exact hy1.dmov ((DMov.refl B P w1).setCell (p := ⟨P, i, none⟩) (.inl rfl) _) (ew_notD hy1 hb)
theorem PD.setO {op : List El} (h : PD B P w d b v) (hm : MovT B 111 w w1) (ho : w1.ownsRow B 111 4 (.slice A op.length c) op.length (els op)) :
  PD B P (w1.setCell ⟨P, 0, none⟩ (.slice A op.length c)) ⟨op, d.scope, d.evs, d.text, d.rooted⟩ b ⟨A, c, v.As, v.cs, v.Ae, v.ce, v.xs⟩ := by
 have hb := hm.blk h.blk (by decide);exact ⟨hb.set_ 0 _, h.bp, own_far (p := ⟨P, 0, none⟩) ho hb (by decide) _, own_far (p := ⟨P, 0, none⟩) (hm.own h.s (by decide)) hb (by decide) _, own_far (p := ⟨P, 0, none⟩) (hm.own h.e (by decide)) hb (by decide) _, h.ev, ew_kept h.inn hm (by decide) hb 0 _⟩
theorem PD.setS {sc : List Dcl} (h : PD B P w d b v) (hm : MovT B 24 w w1) (ho : w1.ownsRow B 24 2 (.slice A sc.length c) sc.length (dcls sc)) :
  PD B P (w1.setCell ⟨P, 1, none⟩ (.slice A sc.length c)) ⟨d.open_, sc, d.evs, d.text, d.rooted⟩ b ⟨v.Ao, v.co, A, c, v.Ae, v.ce, v.xs⟩ := by
 have hb := hm.blk h.blk (by decide);exact ⟨hb.set_ 1 _, h.bp, own_far (p := ⟨P, 1, none⟩) (hm.own h.o (by decide)) hb (by decide) _, own_far (p := ⟨P, 1, none⟩) ho hb (by decide) _, own_far (p := ⟨P, 1, none⟩) (hm.own h.e (by decide)) hb (by decide) _, h.ev, ew_kept h.inn hm (by decide) hb 1 _⟩
theorem PD.setE {x : Ew} (h : PD B P w d b v) (hm : MovT B 43 w w1) (ho : w1.ownsRow B 43 5 (.slice A (v.xs.length + 1) c) (v.xs.length + 1) (ews v.xs ++ ewCells x)) (hx : x.In B w) :
  PD B P (w1.setCell ⟨P, 2, none⟩ (.slice A (v.xs.length + 1) c)) ⟨d.open_, d.scope, d.evs ++ [x.e], d.text, d.rooted⟩ b ⟨v.Ao, v.co, v.As, v.cs, A, c, v.xs ++ [x]⟩ := by
 have hb := hm.blk h.blk (by decide);have hl : (v.xs ++ [x]).length = v.xs.length + 1 := by rw [List.length_append]; rfl
 refine ⟨?_, h.bp, own_far (p := ⟨P, 2, none⟩) (hm.own h.o (by decide)) hb (by decide) _, own_far (p := ⟨P, 2, none⟩) (hm.own h.s (by decide)) hb (by decide) _, ?_, by rw [List.map_append, h.ev]; rfl, ?_⟩
 ·have := hb.set_ 2 (.slice A (v.xs.length + 1) c);unfold pdCells at this ⊢;dsimp only;rw [hl];exact this
 ·dsimp only;rw [hl];unfold ews at ho ⊢;rw [fm_snoc];exact own_far (p := ⟨P, 2, none⟩) ho hb (by decide) _
 intro y hy
 rcases List.mem_append.1 hy with hy | hy
 ·exact ew_kept h.inn hm (by decide) hb 2 _ y hy
 rw [List.mem_singleton.1 hy];have hy1 : x.In B w1 := hx.movt hm (by decide);exact hy1.dmov ((DMov.refl B P w1).setCell (p := ⟨P, 2, none⟩) (.inl rfl) _) (ew_notD hy1 hb)
theorem PD.cutO (h : PD B P w d b v) {k : Nat} (hk : k ≤ d.open_.length) : PD B P (w.setCell ⟨P, 0, none⟩ (.slice v.Ao k v.co)) ⟨d.open_.take k, d.scope, d.evs, d.text, d.rooted⟩ b v := by
 have hl : (d.open_.take k).length = k := by rw [List.length_take]; omega
 refine ⟨?_, h.bp, ?_, own_far (p := ⟨P, 0, none⟩) h.s h.blk (by decide) _, own_far (p := ⟨P, 0, none⟩) h.e h.blk (by decide) _, h.ev, ew_kept h.inn (.refl B 24 w) (by decide) h.blk 0 _⟩
 ·have := h.blk.set_ 0 (.slice v.Ao k v.co);unfold pdCells at this ⊢;dsimp only;rw [hl];exact this
 dsimp only;rw [hl];have := own_far (p := ⟨P, 0, none⟩) (own_take h.o hk) h.blk (by decide) (.slice v.Ao k v.co);unfold els;rw [fm_take (m := 4) (fun _ => rfl)];exact this
theorem PD.cutS (h : PD B P w d b v) {k : Nat} (hk : k ≤ d.scope.length) : PD B P (w.setCell ⟨P, 1, none⟩ (.slice v.As k v.cs)) ⟨d.open_, d.scope.take k, d.evs, d.text, d.rooted⟩ b v := by
 have hl : (d.scope.take k).length = k := by rw [List.length_take]; omega
 refine ⟨?_, h.bp, own_far (p := ⟨P, 1, none⟩) h.o h.blk (by decide) _, ?_, own_far (p := ⟨P, 1, none⟩) h.e h.blk (by decide) _, h.ev, ew_kept h.inn (.refl B 24 w) (by decide) h.blk 1 _⟩
 ·have := h.blk.set_ 1 (.slice v.As k v.cs);unfold pdCells at this ⊢;dsimp only;rw [hl];exact this
 dsimp only;rw [hl];have := own_far (p := ⟨P, 1, none⟩) (own_take h.s hk) h.blk (by decide) (.slice v.As k v.cs);unfold dcls;rw [fm_take (m := 2) (fun _ => rfl)];exact this
theorem PD.putT (h : PD B P w d b v) (t : L) : PD B P (w.setCell ⟨P, 3, none⟩ (.string (bstr t))) ⟨d.open_, d.scope, d.evs, t, d.rooted⟩ b v := h.put 3 _ rfl rfl rfl rfl
theorem PD.putR (h : PD B P w d b v) : PD B P (w.setCell ⟨P, 4, none⟩ (.bool true)) ⟨d.open_, d.scope, d.evs, d.text, true⟩ b v := h.put 4 _ rfl rfl rfl rfl
end
def DR (B P : Nat) (w : World) (d : Dst) (b : Bad) (e : Ending) (w' : World) : Prop := e = .returned (.tuple #[]) ∧ DMov B P w w' ∧ ∃ v, PD B P w' d b v

theorem dwrong_any (B P : Nat) (w : World) (d : Dst) (v : Dv) (at_ : Nat) (h : PD B P w d none v) :
  Calls Tryz.prog 59 #[.pointer (some ⟨P, 0, none⟩), .int .i64 (at_ : Int)] w fun e w' => e = .returned (.tuple #[]) ∧ PD B P w' d (some (at_, 50)) v ∧ But P w w' := by
 have f5 := h.frz 5;obtain ⟨-, -, -, -, -, c5, c6⟩ := h.cell;have g6 : (w.setCell ⟨P, 5, none⟩ (.int .i64 (at_ : Int))).frozen? ⟨P, 6, none⟩ = false := (h.blk.set_ 5 _).frozen 6;have d6 : (w.setCell ⟨P, 5, none⟩ (.int .i64 (at_ : Int))).cell? ⟨P, 6, none⟩ = some (.int .i64 (badE none)) := (h.blk.set_ 5 _).cell 6;have H := hide h;clear h
 go_enter Tryz.func59, Tryz.ntmps59
 go_wp2;go_end0;refine ⟨rfl, ?_, ((But.refl P w).setCell (p := ⟨P, 5, none⟩) (.inl rfl) _).setCell (p := ⟨P, 6, none⟩) (.inl rfl) _⟩;exact (H.out.put (d' := d) (b' := some (at_, 0)) 5 _ rfl rfl rfl rfl).put (d' := d) (b' := some (at_, 50)) 6 _ rfl rfl rfl rfl
end
section
open Go.RowKit Tk Sx

set_option maxHeartbeats 8000000 in
theorem flush_any (B P : Nat) (w : World) (d : Dst) (b : Bad) (v : Dv) (h : PD B P w d b v) (hB : B ≤ w.heap.size) (hn : d.evs.length ≤ 1000000000) :
  Calls Tryz.prog 88 #[.pointer (some ⟨P, 0, none⟩)] w (DR B P w ⟨d.open_, d.scope, d.all, [], d.rooted⟩ b) := by
 have H := hide h;have HB := hide hB;obtain ⟨-, -, c2, c3, -, -, -⟩ := h.cell;have f3 := h.frz 3;have hem := isE d.text;have hem2 := eqE d.text;have hl := h.len
 by_cases ht : d.text = []
 ·have Hr := hide (show d.all = d.evs by unfold Dst.all; rw [if_pos ht]);rw [decide_eq_true ht] at hem hem2;clear h hB hn ht hl
  go_enter Tryz.func88, Tryz.ntmps88
  go_wp2;go_end0;rw [Hr.out];exact ⟨rfl, (DMov.refl B P w).setCell (p := ⟨P, 3, none⟩) (.inl rfl) _, _, H.out.putT []⟩
 have Hr := hide (show d.all = d.evs ++ [textEv d.text] by unfold Dst.all; rw [if_neg ht]);rw [decide_eq_false ht] at hem hem2;obtain ⟨n, hnn⟩ : ∃ n, v.xs.length = n := ⟨_, rfl⟩;rw [hnn] at c2;have OE := hide (show w.ownsRow B 43 5 (.slice v.Ae n v.ce) n (ews v.xs) by rw [← hnn]; exact h.e);have HN := hide hnn;have Hnl := hide (show n ≤ 1000000000 by omega);have BX := hide (show Below w.heap.size w (w.drew.alloc (.cells (ewCells ⟨textEv d.text, none, 0⟩).toArray 43)) from (Below.refl _ _).drew.alloc (Nat.le_refl _) _);have KX := hide (show Blk (w.drew.alloc (.cells (ewCells ⟨textEv d.text, none, 0⟩).toArray 43)) w.heap.size 43 (ewCells ⟨textEv d.text, none, 0⟩).toArray from Blk.new w.drew 43 _);have C2 := hide c2;have C3 := hide c3;clear h hB hn ht hl hnn
 go_enter Tryz.func88, Tryz.ntmps88
 go_wp2;clear c2 c3 f3;refine wp_region_B 14 (fun W' => W'.cell? ⟨P, 2, none⟩ = some (.slice v.Ae n v.ce) ∧ W'.cell? ⟨P, 3, none⟩ = some (.string (bstr d.text))) (by kernel_rfl) ?_ (fun hHeld => ?_)
 ·(try dsimp only);exact ⟨C2.out, C3.out⟩
 change wpAnyB _ _ _ _ _ _ 15 #[false, false, false, false, false, false, false, false, false, false, false, false, false, false, false] _ _;iterate 4 (refine nbF (v := ?_) rfl rfl hHeld ?_ ?_; rotate_left; (· (intro w'; go_simp; try with_reducible rfl)); (try simp only [nx, List.set]))
 (refine nbT (v := ?_) rfl rfl hHeld ?_ ?_; rotate_left; (· (intro w' hSw; obtain ⟨z0, z1⟩ := hSw; go_simp; try with_reducible rfl)); (try simp only [nx, List.set]));iterate 3 (refine nbF (v := ?_) rfl rfl hHeld ?_ ?_; rotate_left; (· (intro w'; go_simp; try with_reducible rfl)); (try simp only [nx, List.set]))
 (refine nbT (v := ?_) rfl rfl hHeld ?_ ?_; rotate_left; (· (intro w' hSw; obtain ⟨z0, z1⟩ := hSw; go_simp; try with_reducible rfl)); (try simp only [nx, List.set]));(refine nbF (v := ?_) rfl rfl hHeld ?_ ?_; rotate_left; (· (intro w'; go_simp; try with_reducible rfl)); (try simp only [nx, List.set]));refine heldB_call (i := 10) rfl (by kernel_rfl) (by kernel_rfl) (fun K hK => ?_);go_simp;(try dsimp only);refine hK.out _ _ ?_ (fun hHeld' => ?_)
 ·(try dsimp only);exact ⟨(BX.out.cell (lt_of_cell C2.out)).trans C2.out, (BX.out.cell (lt_of_cell C3.out)).trans C3.out⟩
 clear hK K hHeld;have hHeld := hHeld';clear hHeld';(try simp only [Act.put, List.setIfInBounds_toArray, List.set_cons_zero, List.set_cons_succ]);refine heldB_call (i := 11) rfl (by kernel_rfl) (by kernel_rfl) (fun K hK => ?_);refine oper_append_elem _ (by rfl) _ _ _ (by rfl) B 43 _ 5 80 Tryz.underlying32 info_ev (by rfl) (by omega) (.slice v.Ae n v.ce) n (ews v.xs) (by rfl) (own_go OE.out BX.out) (ewCells ⟨textEv d.text, none, 0⟩) rfl (ev_one _) w.heap.size KX.out (by rfl) (by unfold maxLen; have := Hnl.out; omega) (by have := Hnl.out; omega) (Nat.le_trans HB.out BX.out.size) ?_;intro g8 cap8 w10 hown8 hgrow8 hlt8;have HO8 := hide hown8;have HG8 := hide hgrow8;have MT10 := hide (show MovT B 43 w w10 from (MovT.of_below BX.out).trans (.grown hgrow8 fun j hj => own_isT (own_go OE.out BX.out) j hj));clear hown8 hgrow8 hlt8;(try dsimp only);have PB10 := hide (MT10.out.blk H.out.blk (by decide));have c2' : w10.cell? ⟨P, 2, none⟩ = some (.slice v.Ae n v.ce) := by rw [← HN.out]; exact PB10.out.cell 2
 refine hK.out _ _ ?_ (fun hHeld' => ?_)
 ·(try dsimp only);exact ⟨c2', PB10.out.cell 3⟩
 clear hK K hHeld;have hHeld := hHeld';clear hHeld';(try simp only [Act.put, List.setIfInBounds_toArray, List.set_cons_zero, List.set_cons_succ]);iterate 2 (refine nbF (v := ?_) rfl rfl hHeld ?_ ?_; rotate_left; (· (intro w'; go_simp; try with_reducible rfl)); (try simp only [nx, List.set]))
 have f2 := PB10.out.frozen 2;refine heldB_last (i := 14) rfl (by kernel_rfl) (by kernel_rfl) (by kernel_rfl) (fun K hK => ?_);go_simp;(try dsimp only);refine hK.out _ _ ?_;clear hK K;(try simp only [Act.put, List.setIfInBounds_toArray, List.set_cons_zero, List.set_cons_succ]);refine heldB_done (by kernel_rfl) ?_ _;have i10 := H.out.setE (x := ⟨textEv d.text, none, 0⟩) MT10.out (by rw [HN.out]; exact HO8.out) (in_none _ rfl _);rw [HN.out] at i10;have I10 := hide i10;have q3 := i10.cell.2.2.2.1;have g3 := i10.frz 3;clear i10 c2' f2;go_wp2;go_end0;rw [Hr.out];exact ⟨rfl, ((MT10.out.dmov (.inr (.inr rfl))).setCell (p := ⟨P, 2, none⟩) (.inl rfl) _).setCell (p := ⟨P, 3, none⟩) (.inl rfl) _, _, I10.out.putT []⟩
def closeD (d : Dst) : Dst := match d.open_.getLast? with
 | none => d
 | some x => ⟨d.open_.dropLast, d.scope.take x.scope, d.all ++ [⟨1, x.name, [], []⟩], [], d.rooted⟩
theorem delt_cells {w : World} {B g c n m : Nat} {l : List El} {x : El} (h : w.ownsRow B 111 4 (.slice (some ⟨g, 0, none⟩) n c) n (els l)) (hn : l.length = n) (hx : l[m]? = some x) : ∀ j, j < 4 → w.cell? ⟨g, m * 4 + j, none⟩ = (elCells x)[j]? := fun j hj => by
 obtain ⟨h1, h2⟩ := List.getElem?_eq_some_iff.1 hx;rw [h.cellAt (m * 4 + j) (by omega)];unfold els;rw [fm_at (m := 4) (fun _ => rfl) l m h1 j hj, h2]

set_option maxHeartbeats 16000000 in
theorem dclose_any (B P : Nat) (w : World) (d : Dst) (bd : Bad) (v : Dv) (h : PD B P w d bd v) (hB : B ≤ w.heap.size) (hev : d.evs.length ≤ 100000000) (hop : d.open_.length ≤ 16) (hin : ∀ x ∈ d.open_, x.scope ≤ d.scope.length) (hne : d.open_ ≠ []) :
  Calls Tryz.prog 60 #[.pointer (some ⟨P, 0, none⟩)] w (DR B P w (closeD d) bd) := by
 obtain ⟨x, hx⟩ : ∃ x, d.open_.getLast? = some x := by
  cases hl : d.open_.getLast? with
  | none => exact absurd (List.getLast?_eq_none_iff.1 hl) hne
  | some x => exact ⟨x, rfl⟩
 obtain ⟨m, hm⟩ : ∃ m, d.open_.length = m + 1 := ⟨d.open_.length - 1, by have := List.length_pos_iff.2 hne; omega⟩;have hxm : d.open_[m]? = some x := by rw [List.getLast?_eq_getElem?, hm] at hx; simpa using hx
 have hsc := hin x (List.mem_of_getElem? hxm)
 have Hr := hide (show closeD d = ⟨d.open_.take m, d.scope.take x.scope, d.all ++ [⟨1, x.name, [], []⟩], [], d.rooted⟩ by
  unfold closeD; rw [hx]; dsimp only; rw [List.dropLast_eq_take, hm, Nat.add_sub_cancel])
 have hal : d.all.length ≤ 100000001 := by
  unfold Dst.all;split
  ·omega
  rw [List.length_append, List.length_singleton]; omega
 have HF := hide (flush_any B P w d bd v h hB (by omega));have HB := hide hB;have H := hide h;have Hxm := hide hxm;have Hm := hide hm;have Hsc := hide hsc;have Hal := hide hal;have Hop := hide hop;clear h hB hev hop hin hne hx hm hxm hsc hal
 go_enter Tryz.func60, Tryz.ntmps60
 go_wp2_with fail
 refine HF.out.mono ?_;rintro e w1 ⟨rfl, hm1, v1, h1⟩;have H1 := hide h1;have M1 := hide hm1;have HB1 := hide (Nat.le_trans HB.out hm1.size);have ho := h1.o;dsimp only at ho;rw [Hm.out] at ho;obtain ⟨g, cap, hv, hgb, hlt⟩ := ho.form (by omega);have hAo : v1.Ao = some ⟨g, 0, none⟩ := by injection hv
 rw [hAo] at ho;have hce := delt_cells ho Hm.out Hxm.out;have d0 : w1.cell? ⟨g, m * 4, none⟩ = some (.string (bstr x.written)) := hce 0 (by omega);have d1 : w1.cell? ⟨g, m * 4 + 1, none⟩ = some (.string (bstr x.name.ns)) := hce 1 (by omega);have d2 : w1.cell? ⟨g, m * 4 + 2, none⟩ = some (.string (bstr x.name.loc)) := hce 2 (by omega);have d3 : w1.cell? ⟨g, m * 4 + 3, none⟩ = some (.int .i64 (x.scope : Int)) := hce 3 (by omega);obtain ⟨c0, -, -, -, -, -, -⟩ := h1.cell;dsimp only at c0;rw [Hm.out, hAo] at c0;have hPl := h1.blk.lt;have hco := own_cap ho;have hcs := own_cap h1.s;obtain ⟨n, hn⟩ : ∃ n, m + 1 = n := ⟨_, rfl⟩;rw [hn] at c0 hco;have hw1 : IntKind.i64.wrap ((n : Int) - 1) = (m : Int) := by rw [IntWalk.i64_in _ (by have := Hop.out; have := Hm.out; omega)]; omega
 have hmn : m < n := by omega
 have HN := hide hn;have HAo := hide hAo;clear h1 hm1 ho hv hAo hce hn;have HK0 := hide (Blk.new w1 111 #[.string (bstr x.written), .string (bstr x.name.ns), .string (bstr x.name.loc), .int .i64 (x.scope : Int)]);have HBA := hide (below_alloc w1 (.cells #[.string (bstr x.written), .string (bstr x.name.ns), .string (bstr x.name.loc), .int .i64 (x.scope : Int)] 111));have HX1 := hide (H1.out.go HBA.out);have c0' := HX1.out.cell.1;dsimp only at c0';rw [Hm.out, HAo.out, HN.out] at c0';have f0' := HX1.out.frz 0;have hbd : (0 : Int) ≤ (m : Int) ∧ (m : Int) ≤ (v1.co : Int) := by omega
 go_wp2;have i3a := H1.out.cutO (k := m) (by dsimp only; rw [Hm.out]; omega);rw [HAo.out] at i3a;have hba := below_alloc (w1.setCell ⟨P, 0, none⟩ (.slice (some ⟨g, 0, none⟩) m v1.co)) (.cells #[.string (bstr x.written), .string (bstr x.name.ns), .string (bstr x.name.loc), .int .i64 (x.scope : Int)] 111);have i3 := i3a.go hba;have hne : P ≠ w1.heap.size := by omega
 have k3 := Blk.new (w1.setCell ⟨P, 0, none⟩ (.slice (some ⟨g, 0, none⟩) m v1.co)) 111 #[.string (bstr x.written), .string (bstr x.name.ns), .string (bstr x.name.loc), .int .i64 (x.scope : Int)];rw [show (w1.setCell ⟨P, 0, none⟩ (.slice (some ⟨g, 0, none⟩) m v1.co)).heap.size = w1.heap.size by simp [World.setCell]] at k3;have m3 := ((DMov.refl B P w1).setCell (p := ⟨P, 0, none⟩) (.inl rfl) (.slice (some ⟨g, 0, none⟩) m v1.co)).go hba;obtain ⟨W3, hW3⟩ : ∃ W3, (w1.setCell ⟨P, 0, none⟩ (.slice (some ⟨g, 0, none⟩) m v1.co)).alloc (.cells #[.string (bstr x.written), .string (bstr x.name.ns), .string (bstr x.name.loc), .int .i64 (x.scope : Int)] 111) = W3 := ⟨_, rfl⟩;rw [hW3] at i3 k3 m3 ⊢;obtain ⟨E, hE⟩ : ∃ E, w1.heap.size = E := ⟨_, rfl⟩;rw [hE] at k3 hPl hne ⊢;have I3 := hide i3;have K3 := hide k3;have M3 := hide m3;have c1 := i3.cell.2.1;dsimp only at c1;have f1 := i3.frz 1;have e3 : W3.cell? ⟨E, 3, none⟩ = some (.int .i64 (x.scope : Int)) := k3.cell 3;have hbs : (0 : Int) ≤ (x.scope : Int) ∧ (x.scope : Int) ≤ (v1.cs : Int) := by have := Hsc.out; omega
 have HNE := hide hne;clear hW3 hE i3a hba i3 k3 m3 c0 c0' f0' d0 d1 d2 d3 hbd hw1 hmn hco hcs hlt hne
 go_region
 have i4 := (I3.out.cutS (k := x.scope) Hsc.out).go (Below.refl _ _).drew;have k4 : Blk (W3.setCell ⟨P, 1, none⟩ (.slice v1.As x.scope v1.cs)).drew E 111 _ := K3.out.far (p := ⟨P, 1, none⟩) HNE.out.symm _;have m4 := (M3.out.setCell (p := ⟨P, 1, none⟩) (.inl rfl) (.slice v1.As x.scope v1.cs)).drew;obtain ⟨W4, hW4⟩ : ∃ W4, (W3.setCell ⟨P, 1, none⟩ (.slice v1.As x.scope v1.cs)).drew = W4 := ⟨_, rfl⟩;rw [hW4] at i4 k4 m4 ⊢;have I4 := hide i4;have K4 := hide k4;have M4 := hide m4;have hq := i4.cell.2.2.1;(try dsimp only at hq);obtain ⟨n5, hn5⟩ : ∃ n5, v1.xs.length = n5 := ⟨_, rfl⟩;rw [hn5] at hq;have HN5 := hide hn5;have Hnl := hide (show n5 ≤ 100000001 by rw [← hn5, i4.len]; exact Hal.out);have OE := hide (show W4.ownsRow B 43 5 (.slice v1.Ae n5 v1.ce) n5 (ews v1.xs) by rw [← hn5]; exact i4.e);have BX := hide (show Below W4.heap.size W4 (W4.drew.alloc (.cells (ewCells ⟨⟨1, x.name, [], []⟩, none, 0⟩).toArray 43)) from (Below.refl _ _).drew.alloc (Nat.le_refl _) _);have KX := hide (show Blk (W4.drew.alloc (.cells (ewCells ⟨⟨1, x.name, [], []⟩, none, 0⟩).toArray 43)) W4.heap.size 43 (ewCells ⟨⟨1, x.name, [], []⟩, none, 0⟩).toArray from Blk.new W4.drew 43 _);have C2 := hide hq;have Y1 : Hid (W4.cell? ⟨E, 1, none⟩ = some (.string (bstr x.name.ns))) := hide (k4.cell 1)
 have Y2 : Hid (W4.cell? ⟨E, 2, none⟩ = some (.string (bstr x.name.loc))) := hide (k4.cell 2);have HB4 := hide (Nat.le_trans HB1.out m4.size);clear hW4 i4 k4 m4 hq hn5 c1 f1 e3 hbs;go_wp2;refine wp_region_B 12 (fun W' => W'.cell? ⟨P, 2, none⟩ = some (.slice v1.Ae n5 v1.ce) ∧ W'.cell? ⟨E, 1, none⟩ = some (.string (bstr x.name.ns)) ∧ W'.cell? ⟨E, 2, none⟩ = some (.string (bstr x.name.loc))) (by kernel_rfl) ?_ (fun hHeld => ?_)
 ·(try dsimp only);exact ⟨C2.out, Y1.out, Y2.out⟩
 change wpAnyB _ _ _ _ _ _ 13 #[false, false, false, false, false, false, false, false, false, false, false, false, false] _ _;iterate 4 (refine nbF (v := ?_) rfl rfl hHeld ?_ ?_; rotate_left; (· (intro w'; go_simp; try with_reducible rfl)); (try simp only [nx, List.set]))
 (refine nbT (v := ?_) rfl rfl hHeld ?_ ?_; rotate_left; (· (intro w' hSw; obtain ⟨z0, z1, z2⟩ := hSw; go_simp; try with_reducible rfl)); (try simp only [nx, List.set]));(refine nbF (v := ?_) rfl rfl hHeld ?_ ?_; rotate_left; (· (intro w'; go_simp; try with_reducible rfl)); (try simp only [nx, List.set]));(refine nbT (v := ?_) rfl rfl hHeld ?_ ?_; rotate_left; (· (intro w' hSw; obtain ⟨z0, z1, z2⟩ := hSw; go_simp; try with_reducible rfl)); (try simp only [nx, List.set]));(refine nbF (v := ?_) rfl rfl hHeld ?_ ?_; rotate_left; (· (intro w'; go_simp; try with_reducible rfl)); (try simp only [nx, List.set]));refine heldB_call (i := 8) rfl (by kernel_rfl) (by kernel_rfl) (fun K hK => ?_);go_simp;(try dsimp only);refine hK.out _ _ ?_ (fun hHeld' => ?_)
 ·(try dsimp only);exact ⟨(BX.out.cell (lt_of_cell C2.out)).trans C2.out, (BX.out.cell (lt_of_cell Y1.out)).trans Y1.out, (BX.out.cell (lt_of_cell Y2.out)).trans Y2.out⟩
 clear hK K hHeld;have hHeld := hHeld';clear hHeld';(try simp only [Act.put, List.setIfInBounds_toArray, List.set_cons_zero, List.set_cons_succ]);refine heldB_call (i := 9) rfl (by kernel_rfl) (by kernel_rfl) (fun K hK => ?_);refine oper_append_elem _ (by rfl) _ _ _ (by rfl) B 43 _ 5 80 Tryz.underlying32 info_ev (by rfl) (by omega) (.slice v1.Ae n5 v1.ce) n5 (ews v1.xs) (by rfl) (own_go OE.out BX.out) (ewCells ⟨⟨1, x.name, [], []⟩, none, 0⟩) rfl (ev_one _) W4.heap.size KX.out (by rfl) (by unfold maxLen; have := Hnl.out; omega) (by have := Hnl.out; omega) (Nat.le_trans HB4.out BX.out.size) ?_;intro g8 cap8 w10 hown8 hgrow8 hlt8;have HO8 := hide hown8;have HG8 := hide hgrow8;have MT10 := hide (show MovT B 43 W4 w10 from (MovT.of_below BX.out).trans (.grown hgrow8 fun j hj => own_isT (own_go OE.out BX.out) j hj));clear hown8 hgrow8 hlt8;(try dsimp only);have PB10 := hide (MT10.out.blk I4.out.blk (by decide));have K10 := hide (MT10.out.blk K4.out (by decide));have c2' : w10.cell? ⟨P, 2, none⟩ = some (.slice v1.Ae n5 v1.ce) := by rw [← HN5.out]; exact PB10.out.cell 2
 refine hK.out _ _ ?_ (fun hHeld' => ?_)
 ·(try dsimp only);exact ⟨c2', K10.out.cell 1, K10.out.cell 2⟩
 clear hK K hHeld;have hHeld := hHeld';clear hHeld';(try simp only [Act.put, List.setIfInBounds_toArray, List.set_cons_zero, List.set_cons_succ]);iterate 2 (refine nbF (v := ?_) rfl rfl hHeld ?_ ?_; rotate_left; (· (intro w'; go_simp; try with_reducible rfl)); (try simp only [nx, List.set]))
 have f2 := PB10.out.frozen 2;refine heldB_last (i := 12) rfl (by kernel_rfl) (by kernel_rfl) (by kernel_rfl) (fun K hK => ?_);go_simp;(try dsimp only);refine hK.out _ _ ?_;clear hK K;(try simp only [Act.put, List.setIfInBounds_toArray, List.set_cons_zero, List.set_cons_succ]);refine heldB_done (by kernel_rfl) ?_ _;have i10 := I4.out.setE (x := ⟨⟨1, x.name, [], []⟩, none, 0⟩) MT10.out (by rw [HN5.out]; exact HO8.out) (in_none _ rfl _);rw [HN5.out] at i10;have I10 := hide i10;clear i10 c2' f2;go_wp2;go_end0;rw [Hr.out];exact ⟨rfl, ((M1.out.trans M4.out).trans (MT10.out.dmov (.inr (.inr rfl)))).setCell (p := ⟨P, 2, none⟩) (.inl rfl) _, _, I10.out⟩
end
end Go.Proofs.YtbbpkcddifmieaaGreatDoor
