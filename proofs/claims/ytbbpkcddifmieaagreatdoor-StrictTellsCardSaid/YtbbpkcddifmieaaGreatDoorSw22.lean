/- Strict: an event behind others: the program's put. · The document's reading of tokens: white space, whether a piece stands there, quoted values. · Characters: Space and Blank, the program's and the document's. (Printed by wip/genSxK.py.) -/
import Derived.Test.YtbbpkcddifmieaaGreatDoorSw05
import Derived.Test.YtbbpkcddifmieaaGreatDoorSw06
import Derived.Test.YtbbpkcddifmieaaGreatDoorSw09
import Derived.Test.YtbbpkcddifmieaaGreatDoorSw21
import Derived.Deep.QuietTactic
import Derived.BigQuiet
import Derived.Deep.LoopGhost
import Derived.WalkSpells
import Derived.WalkLawsBesides
set_option linter.unusedSimpArgs false
set_option linter.unusedVariables false
namespace Go.Proofs.YtbbpkcddifmieaaGreatDoor
section
open Go.RowKit Tk Sx

structure MovT (B t : Nat) (w w' : World) : Prop where
 os : w'.os = w.os
 tape : w'.tape = w.tape
 output : w'.output = w.output
 size : w.heap.size ≤ w'.heap.size
 block : ∀ k, k < w.heap.size → ¬ (B ≤ k ∧ IsT w k t) → w'.heap[k]? = w.heap[k]?
section
variable {B P t : Nat} {w w1 w' : World}
theorem MovT.refl (B t : Nat) (w : World) : MovT B t w w := ⟨rfl, rfl, rfl, Nat.le_refl _, fun _ _ _ => rfl⟩
theorem MovT.trans (h : MovT B t w w1) (k : MovT B t w1 w') : MovT B t w w' := by
 refine ⟨k.os.trans h.os, k.tape.trans h.tape, k.output.trans h.output, Nat.le_trans h.size k.size, fun i hi hn => ?_⟩;have e := h.block i hi hn;rw [k.block i (Nat.lt_of_lt_of_le hi h.size) ?_, e];rintro ⟨h1, h2⟩;exact hn ⟨h1, isT_same h2 e.symm⟩
theorem MovT.of_below (h : Below w.heap.size w w') : MovT B t w w' := ⟨h.os, h.tape, h.output, h.size, fun k hk _ => h.block k hk⟩
theorem MovT.grown {row : Option Nat} (hg : w.grownBy w' row) (hr : ∀ k, row = some k → B ≤ k ∧ IsT w k t) : MovT B t w w' :=
 ⟨hg.os, hg.tape, hg.output, hg.size, fun k h1 hn => hg.block k h1 (fun e => hn (hr k e.symm))⟩
theorem MovT.set {p : Addr} (hp : B ≤ p.block ∧ IsT w p.block t) (u : Value) : MovT B t w (w.setCell p u) := by
 refine ⟨rfl, rfl, rfl, by simp [World.setCell], fun k hk hn => Below.heap_setCell _ _ _ _ (by rintro rfl; exact hn hp)⟩
theorem MovT.blk {g t' : Nat} {cs : Array Value} (h : MovT B t w w') (hg : Blk w g t' cs) (ht : t' ≠ t) : Blk w' g t' cs :=
 (h.block g hg.lt (fun hh => isT_ne hg.isT hh.2 ht)).trans hg
theorem MovT.own {b e size n : Nat} {v : Value} {xs : List Value} (h : MovT B t w w') (ho : w.ownsRow b e size v n xs) (ht : e ≠ t) : w'.ownsRow b e size v n xs := by
 refine ⟨ho.1, ?_⟩
 rcases ho.2 with hn | ⟨g, cap, cur, rfl, hbg, hgg, rest⟩
 ·exact .inl hn
 exact .inr ⟨g, cap, cur, rfl, hbg, (h.block g (Array.getElem?_eq_some_iff.1 hgg).1 (fun hh => isT_ne ⟨cur, _, hgg⟩ hh.2 ht)).trans hgg, rest⟩
theorem MovT.below {C : Nat} (h : MovT B t w w') (hB : C ≤ B) (hs : C ≤ w.heap.size) : Below C w w' := ⟨h.os, h.tape, h.output, h.size, fun k hk => h.block k (by omega) (fun hh => by omega)⟩
theorem MovT.mov (h : MovT B t w w') (ht : t = 105 ∨ t = 24 ∨ t = 43) : Mov B P w w' := by
 refine ⟨h.os, h.tape, h.output, h.size, fun k hk _ hn => h.block k hk fun hh => hn ⟨hh.1, ?_⟩⟩
 rcases ht with rfl | rfl | rfl
 ·exact .inl hh.2
 ·exact .inr (.inl hh.2)
 exact .inr (.inr hh.2)
end
theorem Ew.In.movt {x : Ew} {B t : Nat} {W W' : World} (h : x.In B W) (hm : MovT B t W W') (ht : t ≠ 49) : x.In B W' := by
 have sa : ∀ a, x.A = some a → W'.heap[a.block]? = W.heap[a.block]? := fun a ha => hm.block _ (h.ta a ha).lt fun hh => isT_ne (h.ta a ha) hh.2 ht.symm;exact ⟨h.a.same sa hm.size, h.va, h.ta.same sa⟩
theorem Ew.In.as_ {x y : Ew} {B : Nat} {W : World} (h : x.In B W) (hA : y.A = x.A) (ha : y.e.attrs = x.e.attrs) : y.In B W := ⟨by rw [hA, ha]; exact h.a, by rw [hA]; exact h.va, by rw [hA]; exact h.ta⟩
theorem BadAt.movt {B t : Nat} {w w' : World} {b : Bad} {v : Value} (h : BadAt B w b v) (hm : MovT B t w w') (ht : 67 ≠ t) : BadAt B w' b v := by
 unfold BadAt at h ⊢
 cases b with
 | none => exact h
 | some x =>
  obtain ⟨F, h1, h2, h3⟩ := h;exact ⟨F, h1, h2, hm.blk h3 ht⟩
theorem bstr_app (a b : L) : bstr a ++ bstr b = bstr (a ++ b) := by
 apply ByteArray.ext
 apply Array.ext'
 rw [← Array.toList_append] <;> simp [bstr]
theorem MovT.drew {B t : Nat} {w w1 : World} (h : MovT B t w w1) : MovT B t w w1.drew := ⟨h.os, h.tape, h.output, h.size, h.block⟩
theorem ew_len (x : Ew) : (ewCells x).length = 5 := rfl
theorem ev_one (x : Ew) : ∀ u ∈ ewCells x, u.oneCell' = true := by
 intro u hu;simp only [ewCells, List.mem_cons, List.not_mem_nil, or_false] at hu
 rcases hu with rfl | rfl | rfl | rfl | rfl <;> rfl
def PutE (B : Nat) (w : World) (xs : List Ew) (x : Ew) (e : Ending) (w' : World) : Prop :=
 ∃ A c xs', e = .returned (.slice A xs'.length c) ∧ w'.ownsRow B 43 5 (.slice A xs'.length c) xs'.length (ews xs') ∧ xs'.map (·.e) = putEv (xs.map (·.e)) x.e ∧ (∀ y ∈ xs', ∃ z ∈ xs ++ [x], y.A = z.A ∧ y.e.attrs = z.e.attrs) ∧ MovT B 43 w w'
theorem PutE.snoc {B : Nat} {w w8 : World} {xs : List Ew} {x : Ew} {g cap c : Nat} {A : Option Addr} {o o' : Obj} (hB : B ≤ w.heap.size) (h : w.ownsRow B 43 5 (.slice A xs.length c) xs.length (ews xs)) (hown : w8.ownsRow B 43 5 (.slice (some ⟨g, 0, none⟩) (xs.length + 1) cap) (xs.length + 1) (ews xs ++ ewCells x))
  (hgrow : ((w.alloc o).alloc o').grownBy w8 (Value.slice A xs.length c).ownBlock) (hp : putEv (xs.map (·.e)) x.e = xs.map (·.e) ++ [x.e]) : PutE B w xs x (.returned (.slice (some ⟨g, 0, none⟩) (xs.length + 1) cap)) w8 := by
 refine ⟨some ⟨g, 0, none⟩, cap, xs ++ [x], by rw [List.length_append]; rfl, by rw [List.length_append]; unfold ews at hown ⊢; rw [fm_snoc]; exact hown, by rw [hp, List.map_append]; rfl, fun y hy => ⟨y, hy, rfl, rfl⟩, ?_⟩;have b2 : Below w.heap.size w ((w.alloc o).alloc o') := ((Below.refl _ _).alloc (Nat.le_refl _) o).alloc (by simp) o';exact (MovT.of_below b2).trans (.grown hgrow fun k hk => own_isT (own_go h b2) k hk)
theorem PutE.snoc' {B n : Nat} {w w8 : World} {xs : List Ew} {x : Ew} {g cap c : Nat} {A : Option Addr} {o o' : Obj} (hB : B ≤ w.heap.size) (h : w.ownsRow B 43 5 (.slice A n c) n (ews xs)) (hn : xs.length = n) (hown : w8.ownsRow B 43 5 (.slice (some ⟨g, 0, none⟩) (n + 1) cap) (n + 1) (ews xs ++ ewCells x))
  (hgrow : ((w.alloc o).alloc o').grownBy w8 (Value.slice A n c).ownBlock) (hp : putEv (xs.map (·.e)) x.e = xs.map (·.e) ++ [x.e]) : PutE B w xs x (.returned (.slice (some ⟨g, 0, none⟩) (n + 1) cap)) w8 := by
 subst hn;exact PutE.snoc hB h hown hgrow hp
theorem put_other {l : List Ev} {x : Ev} (h : x.kind ≠ 2) : putEv l x = l ++ [x] := by unfold putEv; rw [if_pos h]
theorem put_nil {x : Ev} (h : x.kind = 2) : putEv [] x = if x.text = [] then [] else [x] := by unfold putEv; rw [if_neg (by simpa using h)]; rfl
theorem put_text {l : List Ev} {y x : Ev} (h : x.kind = 2) (hy : y.kind = 2) : putEv (l ++ [y]) x = l ++ [⟨2, y.name, y.attrs, y.text ++ x.text⟩] := by unfold putEv; rw [if_neg (by simpa using h)]; simp [hy]
theorem put_behind {l : List Ev} {y x : Ev} (h : x.kind = 2) (hy : y.kind ≠ 2) : putEv (l ++ [y]) x = if x.text = [] then l ++ [y] else l ++ [y] ++ [x] := by unfold putEv; rw [if_neg (by simpa using h)]; simp [hy]

set_option maxHeartbeats 8000000 in
theorem put_any (B : Nat) (xs : List Ew) (x : Ew) (A : Option Addr) (c : Nat) (w : World) (h : w.ownsRow B 43 5 (.slice A xs.length c) xs.length (ews xs)) (hB : B ≤ w.heap.size) (hn : xs.length ≤ 1000000000)
  (ht : ∀ y ∈ xs, y.e.text.length + x.e.text.length ≤ 1000000000000000000) :
  Calls Tryz.prog 53 #[.slice A xs.length c, .agg #[.int .i8 (x.e.kind : Int), .string (bstr x.e.name.ns), .string (bstr x.e.name.loc), .slice x.A x.e.attrs.length x.c, .string (bstr x.e.text)]] w (PutE B w xs x) := by
 have H := hide h
 have HX := hide (show Blk ((w.alloc (.cells (ewCells x).toArray 43)).alloc (.cells (ewCells x).toArray 43)) (w.heap.size + 1) 43 (ewCells x).toArray by
  have := Blk.new (w.alloc (.cells (ewCells x).toArray 43)) 43 (ewCells x).toArray;rwa [World.size_alloc] at this)
 have hempt : ((bstr x.e.text).toList == ([] : L)) = decide (x.e.text = []) := lit_eq (bstr x.e.text) [];have hemp2 : (bstr x.e.text).toList.isEmpty = decide (x.e.text = []) := by rw [ByteArray.toList_eq, bstr_list]; cases x.e.text <;> simp
 by_cases hk : x.e.kind = 2
 ·have hk2 : ((x.e.kind : Int) != 2) = false := by rw [hk]; rfl
  rcases List.eq_nil_or_concat xs with hx | ⟨ys, y, hx⟩
  ·have Hp := hide (show putEv (xs.map (·.e)) x.e = if x.e.text = [] then [] else [x.e] by rw [hx]; exact put_nil hk);subst hx
   cases he : decide (x.e.text = []) with
   | true =>
    rw [he] at hempt hemp2;have Hq := hide (show putEv (([] : List Ew).map (·.e)) x.e = [] by rw [Hp.out, if_pos (of_decide_eq_true he)]);clear hk h ht he;have HBs := hide hB;clear hn hB
    go_enter Tryz.func53, Tryz.ntmps53
    go_wp2;go_ret;exact ⟨A, c, [], rfl, own_go H.out (below_alloc _ _), Hq.out.symm, (fun y hy => by cases hy), MovT.of_below (below_alloc _ _)⟩
   | false =>
    rw [he] at hempt hemp2;have Hq := hide (show putEv (([] : List Ew).map (·.e)) x.e = ([] : List Ew).map (·.e) ++ [x.e] by rw [Hp.out, if_neg (of_decide_eq_false he)]; rfl);clear hk h ht he;have HBs := hide hB;clear hn hB
    go_enter Tryz.func53, Tryz.ntmps53
    go_wp2_with (at_builtin; go_loud (refine wpList_append_elem_at ((w.alloc (.cells (ewCells x).toArray 43)).alloc (.cells (ewCells x).toArray 43)) rfl (.tmp 39) (.tmp 41) 32 rfl B 43 _ 5 80 Tryz.underlying32 info_ev rfl (by omega) (.slice A 0 c) 0 [] rfl ((H.out.alloc _).alloc _) (ewCells x) rfl (ev_one x) (w.heap.size + 1) HX.out rfl (by unfold maxLen; omega) (by omega) (by have := HBs.out; simp; omega) ?_); intro g cap w8 hown8 hgrow8 hlt8)
    go_ret;exact PutE.snoc HBs.out H.out (by assumption) (by assumption) Hq.out
  rw [List.concat_eq_append] at hx;obtain ⟨m, hm⟩ : ∃ m, ys.length = m := ⟨_, rfl⟩;have hl : xs.length = m + 1 := by rw [hx, ← hm]; simp
  obtain ⟨g, cap, hv, hgb, hlt⟩ := h.form (by omega);cases hv
  have hcl : ∀ j, j < 5 → w.cell? ⟨g, m * 5 + j, none⟩ = (ewCells y)[j]? := fun j hj => by
   rw [h.cellAt (m * 5 + j) (by omega)];unfold ews;rw [fm_at ew_len xs m (by omega) j hj];congr 2;simp only [hx];rw [List.getElem_append_right (by omega)];simp [hm]
  have c0 : w.cell? ⟨g, m * 5, none⟩ = some (.int .i8 (y.e.kind : Int)) := hcl 0 (by omega);have c4 : w.cell? ⟨g, m * 5 + 4, none⟩ = some (.string (bstr y.e.text)) := hcl 4 (by omega);have f4 := h.frozenAt (m * 5 + 4);have ht := ht y (by rw [hx]; simp);obtain ⟨n, hnn⟩ : ∃ n, xs.length = n := ⟨_, rfl⟩;have hw1 : IntKind.i64.wrap ((n : Int) - 1) = (m : Int) := by rw [IntWalk.i64_in _ (by omega)]; omega
  have hmn : m < n := by omega
  rw [hnn] at H ⊢;have HL := hide hnn;have HN := hide hnn;have HXs := hide hx;have Hm := hide hm;have Hn := hide (show n ≤ 1000000000 by omega);have HBs := hide hB;clear h hn hB hl hnn hx hm hcl
  by_cases hy : y.e.kind = 2
  ·have hy2 : ((y.e.kind : Int) == 2) = true := by rw [hy]; rfl
   have Ht := hide ht;have Hq := hide (show putEv (xs.map (·.e)) x.e = ys.map (·.e) ++ [⟨2, y.e.name, y.e.attrs, y.e.text ++ x.e.text⟩] by rw [HXs.out, List.map_append, List.map_cons, List.map_nil, put_text hk hy]);have Hk := hide hk;have Hy := hide hy;clear hk hy ht hempt hemp2
   go_enter Tryz.func53, Tryz.ntmps53
   go_wp2;obtain ⟨W, hW⟩ : ∃ W, w.alloc (.cells #[.int .i8 (x.e.kind : Int), .string (bstr x.e.name.ns), .string (bstr x.e.name.loc), .slice x.A x.e.attrs.length x.c, .string (bstr x.e.text)] 43) = W := ⟨_, rfl⟩;rw [hW];have hbW : Below w.heap.size w W := by rw [← hW]; exact below_alloc _ _
   have d4 : W.cell? ⟨w.heap.size, 4, none⟩ = some (.string (bstr x.e.text)) := by rw [← hW]; exact (Blk.new w 43 #[.int .i8 (x.e.kind : Int), .string (bstr x.e.name.ns), .string (bstr x.e.name.loc), .slice x.A x.e.attrs.length x.c, .string (bstr x.e.text)]).cell 4
   replace c4 : W.cell? ⟨g, m * 5 + 4, none⟩ = some (.string (bstr y.e.text)) := (hbW.cell (p := ⟨g, m * 5 + 4, none⟩) hlt).trans c4;replace f4 : W.frozen? ⟨g, m * 5 + 4, none⟩ = false := (hbW.frozen (p := ⟨g, m * 5 + 4, none⟩) hlt).trans f4;have m1 : ¬ 9223372036854775807 < (bstr y.e.text).size + (bstr x.e.text).size := by rw [bstr_size, bstr_size]; have := Ht.out; omega
   have OW := hide (own_go H.out hbW);have BW := hide hbW;clear hbW hW
   go_region
   all_goals
    go_wp2;go_ret;refine ⟨some ⟨g, 0, none⟩, c, ys ++ [⟨⟨2, y.e.name, y.e.attrs, y.e.text ++ x.e.text⟩, y.A, y.c⟩], ?_, ?_, ?_, ?_, ?_⟩
    ·rw [← HN.out, HXs.out, List.length_append, List.length_append]; rfl
    ·have h := (OW.out.stored (m * 5 + 4) (.string (bstr y.e.text ++ bstr x.e.text))).1
     have e1 : (ews xs).set (m * 5 + 4) (.string (bstr y.e.text ++ bstr x.e.text)) = ews (ys ++ [⟨⟨2, y.e.name, y.e.attrs, y.e.text ++ x.e.text⟩, y.A, y.c⟩]) := by
      rw [HXs.out];unfold ews;rw [fm_snoc, fm_snoc, List.set_append_right _ _ (by rw [fm_length ew_len, Hm.out]; omega), fm_length ew_len, Hm.out, Nat.add_sub_cancel_left, bstr_app];show _ ++ _ = _ ++ _;unfold ewCells;rw [Hy.out];rfl
     rw [e1] at h;have e2 : (ys ++ [(⟨⟨2, y.e.name, y.e.attrs, y.e.text ++ x.e.text⟩, y.A, y.c⟩ : Ew)]).length = n := by rw [← HN.out, HXs.out, List.length_append, List.length_append]; rfl
     rw [e2];exact h
    ·rw [Hq.out, List.map_append]; rfl
    ·intro z hz
     rcases List.mem_append.1 hz with hz | hz
     ·exact ⟨z, by rw [HXs.out]; simp [hz], rfl, rfl⟩
     simp only [List.mem_singleton] at hz;subst hz;exact ⟨y, by rw [HXs.out]; simp, rfl, rfl⟩
    exact ((MovT.of_below BW.out).trans (MovT.set (p := ⟨g, m * 5 + 4, none⟩) ⟨hgb, (own_isT OW.out g rfl).2⟩ _)).drew
  have hy2 : ((y.e.kind : Int) == 2) = false := by rw [beq_eq_false_iff_ne]; omega
  have Hp := hide (put_behind (l := ys.map (·.e)) hk hy)
  cases he : decide (x.e.text = []) with
  | true =>
   rw [he] at hempt hemp2;have Hq := hide (show putEv (xs.map (·.e)) x.e = xs.map (·.e) by rw [HXs.out, List.map_append, List.map_cons, List.map_nil, Hp.out, if_pos (of_decide_eq_true he)]);clear hk ht he hy
   go_enter Tryz.func53, Tryz.ntmps53
   go_wp2;go_ret;exact ⟨_, _, xs, by rw [HN.out]; rfl, by rw [HN.out]; exact own_go H.out (below_alloc _ _), Hq.out.symm, (fun z hz => ⟨z, List.mem_append_left _ hz, rfl, rfl⟩), MovT.of_below (below_alloc _ _)⟩
  | false =>
   rw [he] at hempt hemp2;have Hq := hide (show putEv (xs.map (·.e)) x.e = xs.map (·.e) ++ [x.e] by rw [HXs.out, List.map_append, List.map_cons, List.map_nil, Hp.out, if_neg (of_decide_eq_false he)]);clear hk ht he hy
   go_enter Tryz.func53, Tryz.ntmps53
   go_wp2_with (at_builtin; go_loud (refine wpList_append_elem_at ((w.alloc (.cells (ewCells x).toArray 43)).alloc (.cells (ewCells x).toArray 43)) rfl (.tmp 39) (.tmp 41) 32 rfl B 43 _ 5 80 Tryz.underlying32 info_ev rfl (by omega) (.slice (some ⟨g, 0, none⟩) n c) n (ews xs) rfl ((H.out.alloc _).alloc _) (ewCells x) rfl (ev_one x) (w.heap.size + 1) HX.out rfl (by unfold maxLen; have := Hn.out; omega) (by have := Hn.out; omega) (by have := HBs.out; simp; omega) ?_); intro g2 cap w8 hown8 hgrow8 hlt8)
   go_ret;exact PutE.snoc' HBs.out H.out HL.out (by assumption) (by assumption) Hq.out
 have hk2 : ((x.e.kind : Int) != 2) = true := by rw [bne_iff_ne]; omega
 have Hp := hide (put_other (l := xs.map (·.e)) hk);have Hn := hide hn;have HBs := hide hB;clear hk h hempt hemp2 ht hn hB
 go_enter Tryz.func53, Tryz.ntmps53
 go_wp2_with (at_builtin; go_loud (refine wpList_append_elem_at ((w.alloc (.cells (ewCells x).toArray 43)).alloc (.cells (ewCells x).toArray 43)) rfl (.tmp 9) (.tmp 11) 32 rfl B 43 _ 5 80 Tryz.underlying32 info_ev rfl (by omega) (.slice A xs.length c) xs.length (ews xs) rfl ((H.out.alloc _).alloc _) (ewCells x) rfl (ev_one x) (w.heap.size + 1) HX.out rfl (by unfold maxLen; have := Hn.out; omega) (by have := Hn.out; omega) (by have := HBs.out; simp; omega) ?_); intro g cap w8 hown8 hgrow8 hlt8)
 go_ret;exact PutE.snoc HBs.out H.out (by assumption) (by assumption) Hp.out
end
section
open Go.RowKit Tk

theorem refSpace_any (c : UInt8) (w : World) : Calls Tryz.prog 139 #[.int .u8 (c.toNat : Nat)] w fun e w' => e = .returned (.bool (sp c)) ∧ w' = w := by
 have key : ∀ d : UInt8, ((c.toNat : Int) == (d.toNat : Int)) = (c == d) := fun d => by
  rw [Bool.eq_iff_iff, beq_iff_eq, beq_iff_eq];exact ⟨fun h => UInt8.toNat_inj.1 (by omega), fun h => by rw [h]⟩
 have e1 : ((c.toNat : Int) == 32) = (c == 32) := key 32;have e2 : ((c.toNat : Int) == 9) = (c == 9) := key 9;have e3 : ((c.toNat : Int) == 10) = (c == 10) := key 10;have e4 : ((c.toNat : Int) == 13) = (c == 13) := key 13;unfold sp;clear key;generalize (c == 32) = a at *
 generalize (c == 9) = b at *
 generalize (c == 10) = d at *
 generalize (c == 13) = f at *
 cases a
 ·cases b
  ·cases d
   ·go_enter Tryz.func139, Tryz.ntmps139
    go_wp2;go_ret;exact ⟨ret_eq1 (bool_eq (by simp)), rfl⟩
   go_enter Tryz.func139, Tryz.ntmps139
   go_wp2;go_ret;exact ⟨ret_eq1 (bool_eq (by simp)), rfl⟩
  go_enter Tryz.func139, Tryz.ntmps139
  go_wp2;go_ret;exact ⟨ret_eq1 (bool_eq (by simp)), rfl⟩
 go_enter Tryz.func139, Tryz.ntmps139
 go_wp2;go_ret;exact ⟨ret_eq1 (bool_eq (by simp)), rfl⟩

set_option maxHeartbeats 4000000 in
theorem starts_any (s q : ByteArray) (at_ : Nat) (w : World) (ha : at_ ≤ 2000000000) (hs : s.size ≤ 2000000000) (hq : q.size ≤ 1000) :
  Calls Tryz.prog 114 #[.string s, .int .i64 (at_ : Int), .string q] w fun e w' => (q.size = 0 ∨ e = .returned (.bool (q.data.toList.isPrefixOf (s.data.toList.drop at_)))) ∧ w' = w := by
 obtain ⟨D, hD⟩ : ∃ D, s.data.toList = D := ⟨_, rfl⟩;obtain ⟨Q, hQ⟩ : ∃ Q, q.data.toList = Q := ⟨_, rfl⟩;have HDl := hide (show D.length = s.size by rw [← hD, size_list]);have HQl := hide (show Q.length = q.size by rw [← hQ, size_list])
 have HE := hide (show ((s.extract at_ (at_ + q.size)).toList == q.toList) = Q.isPrefixOf (D.drop at_) from by
  rw [ByteArray.toList_eq, ByteArray.toList_eq, extract_bstr, bstr_list, hD, hQ, Nat.add_sub_cancel_left, ← HQl.out, Bool.eq_iff_iff, beq_iff_eq, List.isPrefixOf_iff_prefix, List.prefix_iff_eq_take];exact eq_comm)
 rw [hD, hQ];clear hD hQ;have hw : IntKind.i64.wrap ((at_ : Int) + (q.size : Int)) = (at_ : Int) + (q.size : Int) := IntWalk.i64_in _ (by omega)
 by_cases hlt : at_ + q.size ≤ s.size
 ·have hd : decide ((at_ : Int) + (q.size : Int) ≤ (s.size : Int)) = true := decide_eq_true (by omega);have hb1 : 0 ≤ (at_ : Int) ∧ (at_ : Int) ≤ (at_ : Int) + (q.size : Int) ∧ (at_ : Int) + (q.size : Int) ≤ (s.size : Int) := by omega
  have tn : ((at_ : Int) + (q.size : Int)).toNat = at_ + q.size := by omega
  have hE := HE.out;generalize Q.isPrefixOf (D.drop at_) = b at *
  go_enter Tryz.func114, Tryz.ntmps114
  go_wp2;go_ret;exact ⟨Or.inr rfl, rfl⟩
 have hd : decide ((at_ : Int) + (q.size : Int) ≤ (s.size : Int)) = false := decide_eq_false (by omega)
 have Hp := hide (show q.size = 0 ∨ false = Q.isPrefixOf (D.drop at_) from by
  by_cases h0 : q.size = 0
  ·exact .inl h0
  right
  symm
  rw [Bool.eq_false_iff];intro h;have := (List.isPrefixOf_iff_prefix.1 h).length_le;rw [List.length_drop, HDl.out, HQl.out] at this
  omega)
 go_enter Tryz.func114, Tryz.ntmps114
 go_wp2;go_ret;exact ⟨Hp.out.imp_right fun h => ret_eq1 (bool_eq h), rfl⟩

set_option maxHeartbeats 4000000 in
theorem refBlanks_any (s : ByteArray) (at_ : Nat) (w : World) (ha : at_ ≤ s.size) (hs : s.size ≤ 1000000000) :
  Calls Tryz.prog 118 #[.string s, .int .i64 (at_ : Int)] w fun e w' => e = .returned (.int .i64 ((at_ + nsp (s.data.toList.drop at_) : Nat) : Int)) ∧ w' = w := by
 obtain ⟨N, hN⟩ : ∃ N, nsp (s.data.toList.drop at_) = N := ⟨_, rfl⟩
 have HL := hide (show at_ + N ≤ s.size from by
  have := nsp_le (s.data.toList.drop at_);rw [List.length_drop, size_list, hN] at this
  omega)
 have HI := hide fun j (hj : j < N) => (show ∃ c, s.data.toList[at_ + j]? = some c ∧ sp c = true from by
  obtain ⟨c, h1, h2⟩ := nsp_at (s.data.toList.drop at_) j (by rw [hN]; exact hj);exact ⟨c, by rwa [List.getElem?_drop] at h1, h2⟩)
 have HE := hide (show s.size = at_ + N ∨ ∃ c, s.data.toList[at_ + N]? = some c ∧ sp c = false from by
  rcases nsp_end (s.data.toList.drop at_) with h | ⟨c, h1, h2⟩
  ·left
   rw [List.length_drop, size_list, hN] at h;omega
  right
  rw [hN] at h1;exact ⟨c, by rwa [List.getElem?_drop] at h1, h2⟩)
 rw [hN];clear hN
 go_enter Tryz.func118, Tryz.ntmps118
 go_wp2
 go_loopg [1] N (fun g v wr => ∃ k : Nat, g = at_ + N - k ∧ at_ ≤ k ∧ k ≤ at_ + N ∧ v = .int .i64 (k : Int) ∧ wr = w)
 case atStart => exact ⟨at_, by omega, by omega, by omega, rfl, rfl⟩
 case round =>
  obtain ⟨k, hg, hk0, hk1, rfl, rfl⟩ := hrel;have Hg := hide hg;have hk2 : k ≤ s.size := by have := HL.out; omega
  clear hg
  by_cases hlt : k < at_ + N
  ·obtain ⟨c, hc, hsp⟩ := HI.out (k - at_) (by omega);rw [show at_ + (k - at_) = k by omega] at hc;have hks : k < s.size := by have := HL.out; omega
   have HSP := hide (refSpace_any c);rw [hsp] at HSP;have hix := idx_run s k c hc;clear hc hsp
   go_wp2_with fail
   refine cq (HSP.out _) ?_;go_wp2
   go_roundg (at_ + N - (k + 1))
   case measure => have := Hg.out; omega
   case rel => exact ⟨k + 1, by omega, by omega, by omega, by go_num, rfl⟩
  have hkN : k = at_ + N := by omega
  have HK := hide hkN
  rcases HE.out with he | ⟨c, hc, hsp⟩
  ·have hks : ¬ k < s.size := by omega
   go_wp2;go_ret;exact ⟨ret_eq1 (int_eq (congrArg Int.ofNat HK.out)), rfl⟩
  rw [← hkN] at hc;have hks : k < s.size := by have := (List.getElem?_eq_some_iff.1 hc).1; rwa [size_list] at this
  clear hkN;have HSP := hide (refSpace_any c);rw [hsp] at HSP;have hix := idx_run s k c hc;clear hc hsp
  go_wp2_with fail
  refine cq (HSP.out _) ?_;go_wp2;go_ret;exact ⟨ret_eq1 (int_eq (congrArg Int.ofNat HK.out)), rfl⟩
end
section
open Go.RowKit Tk Sx

theorem cspace_any (c : UInt8) (w : World) : Calls Tryz.prog 84 #[.int .i64 (c.toNat : Nat)] w fun e w' => e = .returned (.bool (sp c)) ∧ w' = w := by
 have key : ∀ d : UInt8, ((c.toNat : Int) == (d.toNat : Int)) = (c == d) := fun d => by
  rw [Bool.eq_iff_iff, beq_iff_eq, beq_iff_eq];exact ⟨fun h => UInt8.toNat_inj.1 (by omega), fun h => by rw [h]⟩
 have e1 : ((c.toNat : Int) == 32) = (c == 32) := key 32;have e2 : ((c.toNat : Int) == 9) = (c == 9) := key 9;have e3 : ((c.toNat : Int) == 10) = (c == 10) := key 10;have e4 : ((c.toNat : Int) == 13) = (c == 13) := key 13;unfold sp;clear key;generalize (c == 32) = a32 at *
 generalize (c == 9) = a9 at *
 generalize (c == 10) = a10 at *
 generalize (c == 13) = a13 at *

 cases a32 with
 | true =>
  go_enter Tryz.func84, Tryz.ntmps84
  go_wp2
  go_ret
  exact ⟨ret_eq1 (bool_eq (by simp)), rfl⟩
 | false =>
  cases a9 with
  | true =>
   go_enter Tryz.func84, Tryz.ntmps84
   go_wp2
   go_ret
   exact ⟨ret_eq1 (bool_eq (by simp)), rfl⟩
  | false =>
   cases a10 with
   | true =>
    go_enter Tryz.func84, Tryz.ntmps84
    go_wp2
    go_ret
    exact ⟨ret_eq1 (bool_eq (by simp)), rfl⟩
   | false =>
    cases a13 with
    | true =>
     go_enter Tryz.func84, Tryz.ntmps84
     go_wp2
     go_ret
     exact ⟨ret_eq1 (bool_eq (by simp)), rfl⟩
    | false =>
     go_enter Tryz.func84, Tryz.ntmps84
     go_wp2
     go_ret
     exact ⟨ret_eq1 (bool_eq (by simp)), rfl⟩
theorem rspace_any (c : UInt8) (w : World) : Calls Tryz.prog 93 #[.int .i64 (c.toNat : Nat)] w fun e w' => e = .returned (.bool (sp c)) ∧ w' = w := by
 have key : ∀ d : UInt8, ((c.toNat : Int) == (d.toNat : Int)) = (c == d) := fun d => by
  rw [Bool.eq_iff_iff, beq_iff_eq, beq_iff_eq];exact ⟨fun h => UInt8.toNat_inj.1 (by omega), fun h => by rw [h]⟩
 have e1 : ((c.toNat : Int) == 32) = (c == 32) := key 32;have e2 : ((c.toNat : Int) == 9) = (c == 9) := key 9;have e3 : ((c.toNat : Int) == 10) = (c == 10) := key 10;have e4 : ((c.toNat : Int) == 13) = (c == 13) := key 13;unfold sp;clear key;generalize (c == 32) = a32 at *
 generalize (c == 9) = a9 at *
 generalize (c == 10) = a10 at *
 generalize (c == 13) = a13 at *

 cases a9 with
 | true =>
  go_enter Tryz.func93, Tryz.ntmps93
  go_wp2
  go_ret
  exact ⟨ret_eq1 (bool_eq (by simp)), rfl⟩
 | false =>
  cases a10 with
  | true =>
   go_enter Tryz.func93, Tryz.ntmps93
   go_wp2
   go_ret
   exact ⟨ret_eq1 (bool_eq (by simp)), rfl⟩
  | false =>
   cases a13 with
   | true =>
    go_enter Tryz.func93, Tryz.ntmps93
    go_wp2
    go_ret
    exact ⟨ret_eq1 (bool_eq (by simp)), rfl⟩
   | false =>
    cases a32 with
    | true =>
     go_enter Tryz.func93, Tryz.ntmps93
     go_wp2
     go_ret
     exact ⟨ret_eq1 (bool_eq (by simp)), rfl⟩
    | false =>
     go_enter Tryz.func93, Tryz.ntmps93
     go_wp2
     go_ret
     exact ⟨ret_eq1 (bool_eq (by simp)), rfl⟩

set_option maxHeartbeats 4000000 in
theorem blank_any (D : L) (w : World) (hD : D.length ≤ 1000000000) : Calls Tryz.prog 55 #[.string (bstr D)] w fun e w' => e = .returned (.bool (D.all sp)) ∧ Below w.heap.size w w' := by
 have Hs := hide (bstr_size D);obtain ⟨W, g, cap, hconv, hb, hg, hat⟩ := bytes_of (bstr D) w;rw [bstr_list] at hat;have Hat := hide hat;have HB := hide hb;clear hat hb;obtain ⟨z, hz⟩ : ∃ z, D.all sp = z := ⟨_, rfl⟩;have Hz := hide (show (D.drop 0).all sp = z by rw [List.drop_zero, hz]);rw [hz];clear hz
 go_enter Tryz.func55, Tryz.ntmps55
 go_wp2;clear hconv
 go_loopg [8] (bstr D).size (fun gk v wr => ∃ k : Nat, gk = (bstr D).size - k ∧ k ≤ (bstr D).size ∧ v = .int .i64 (k : Int) ∧ (D.drop k).all sp = z ∧ wr = W)
 case atStart => exact ⟨0, rfl, by omega, rfl, Hz.out, rfl⟩
 case round =>
  obtain ⟨k, hgk, hk, rfl, hzk, rfl⟩ := hrel;have Hg := hide hgk;have Hzk := hide hzk;clear hgk hzk Hz
  by_cases hlt : k < (bstr D).size
  ·obtain ⟨c, hc⟩ : ∃ c, D[k]? = some c := ⟨_, List.getElem?_eq_getElem (by rw [← Hs.out]; exact hlt)⟩;have hcell := Hat.out k c hc;have hk0 : (0 : Int) ≤ (k : Int) := by omega
   have hcw : IntKind.i64.wrap (c.toNat : Int) = (c.toNat : Int) := IntWalk.i64_in _ (by have := c.toNat_lt; omega);have hwk : IntKind.i64.wrap ((k : Int) + 1) = (k : Int) + 1 := IntWalk.i64_in _ (by have := Hs.out; omega);have HS := hide (cspace_any c);have hst : z = (sp c && (D.drop (k + 1)).all sp) := by rw [← Hzk.out, drop_cons0 hc, List.all_cons]
   clear hc Hzk
   cases hsp : sp c with
   | true =>
    rw [hsp] at HS hst;have Hn := hide (show (D.drop (k + 1)).all sp = z by rw [hst, Bool.true_and]);clear hst hsp
    go_wp2_with fail
    refine cq (HS.out _) ?_
    go_wp2
    go_roundg ((bstr D).size - (k + 1))
    case measure => have := Hg.out; omega
    case rel => exact ⟨k + 1, rfl, by omega, by first | rfl | go_num, Hn.out, rfl⟩
   | false =>
    rw [hsp] at HS hst;have Hr := hide (show false = z by rw [hst, Bool.false_and]);clear hst hsp
    go_wp2_with fail
    refine cq (HS.out _) ?_
    go_wp2;go_ret;exact ⟨ret_eq1 (bool_eq Hr.out), HB.out⟩
  have Hr := hide (show true = z by rw [← Hzk.out, List.drop_of_length_le (by rw [← Hs.out]; omega)]; rfl);clear Hzk;go_wp2;go_ret;exact ⟨ret_eq1 (bool_eq Hr.out), HB.out⟩

set_option maxHeartbeats 4000000 in
theorem refBlank_any (D : L) (w : World) (hD : D.length ≤ 1000000000) : Calls Tryz.prog 61 #[.string (bstr D)] w fun e w' => e = .returned (.bool (D.all sp)) ∧ w' = w := by
 have Hs := hide (bstr_size D);have HI : Hid (∀ (k : Nat) (c : UInt8), D[k]? = some c → ∀ w, (Instr.index 9 (.string (bstr D)) (.int .i64 (k : Int))).run Tryz.prog w = .ok (.int .u8 (c.toNat : Nat)) w) := hide fun k c h => idx_run (bstr D) k c h;obtain ⟨z, hz⟩ : ∃ z, D.all sp = z := ⟨_, rfl⟩;have Hz := hide (show (D.drop 0).all sp = z by rw [List.drop_zero, hz]);rw [hz];clear hz
 go_enter Tryz.func61, Tryz.ntmps61
 go_wp2
 skip
 go_loopg [3] (bstr D).size (fun gk v wr => ∃ k : Nat, gk = (bstr D).size - k ∧ k ≤ (bstr D).size ∧ v = .int .i64 (k : Int) ∧ (D.drop k).all sp = z ∧ wr = w)
 case atStart => exact ⟨0, rfl, by omega, rfl, Hz.out, rfl⟩
 case round =>
  obtain ⟨k, hgk, hk, rfl, hzk, rfl⟩ := hrel;have Hg := hide hgk;have Hzk := hide hzk;clear hgk hzk Hz
  by_cases hlt : k < (bstr D).size
  ·obtain ⟨c, hc⟩ : ∃ c, D[k]? = some c := ⟨_, List.getElem?_eq_getElem (by rw [← Hs.out]; exact hlt)⟩;have hix := HI.out k c hc;have hcw : IntKind.i64.wrap (c.toNat : Int) = (c.toNat : Int) := IntWalk.i64_in _ (by have := c.toNat_lt; omega);have hwk : IntKind.i64.wrap ((k : Int) + 1) = (k : Int) + 1 := IntWalk.i64_in _ (by have := Hs.out; omega);have HS := hide (rspace_any c);have hst : z = (sp c && (D.drop (k + 1)).all sp) := by rw [← Hzk.out, drop_cons0 hc, List.all_cons]
   clear hc Hzk
   cases hsp : sp c with
   | true =>
    rw [hsp] at HS hst;have Hn := hide (show (D.drop (k + 1)).all sp = z by rw [hst, Bool.true_and]);clear hst hsp
    go_wp2_with fail
    refine cq (HS.out _) ?_
    go_wp2
    go_roundg ((bstr D).size - (k + 1))
    case measure => have := Hg.out; omega
    case rel => exact ⟨k + 1, rfl, by omega, by first | rfl | go_num, Hn.out, rfl⟩
   | false =>
    rw [hsp] at HS hst;have Hr := hide (show false = z by rw [hst, Bool.false_and]);clear hst hsp
    go_wp2_with fail
    refine cq (HS.out _) ?_
    go_wp2;go_ret;exact ⟨ret_eq1 (bool_eq Hr.out), rfl⟩
  have Hr := hide (show true = z by rw [← Hzk.out, List.drop_of_length_le (by rw [← Hs.out]; omega)]; rfl);clear Hzk;go_wp2;go_ret;exact ⟨ret_eq1 (bool_eq Hr.out), rfl⟩
end
end Go.Proofs.YtbbpkcddifmieaaGreatDoor
