/- The document's reading of tokens: comments and sections. · The document's reading of tokens: a start. (Printed by wip/genTkDm.py.) -/
import Derived.Test.YtbbpkcddifmieaaGreatDoorSw13
import Derived.Test.YtbbpkcddifmieaaGreatDoorSw40
set_option linter.unusedSimpArgs false
set_option linter.unusedVariables false
namespace Go.Proofs.YtbbpkcddifmieaaGreatDoor
section
open Go.RowKit Tk

def sCut : L := [93, 93, 62]
def markedO (at_ : Nat) (D : L) : Option (L × Nat × Int) :=
 if sComment.isPrefixOf (D.drop at_) then (Tk.till [45, 45] (D.drop (at_ + 4))).bind fun k => if [45, 45, 62].isPrefixOf (D.drop (at_ + 4 + k)) then some ([], at_ + 4 + k + 3, 4) else none
 else if sData.isPrefixOf (D.drop at_) then (Tk.till sCut (D.drop (at_ + 9))).map fun k => ((D.drop (at_ + 9)).take k, at_ + 9 + k + 3, 3)
 else none
def mv (o : Option (L × Nat × Int)) : Value := match o with
 | some x => .tuple #[.string (bstr x.1), .int .i64 (x.2.1 : Int), .int .i8 x.2.2]
 | none => .tuple #[.string ⟨#[]⟩, .int .i64 (-1), .int .i8 0]
theorem pfx_three {l : L} {k : Nat} (h : Tk.till [45, 45] l = some k) : ([45, 45, 62] : L).isPrefixOf (l.drop k) = [62].isPrefixOf (l.drop (k + 2)) := by
 have h1 := (index_first' (till_iff.1 h)).1;unfold Lib.occAt at h1;obtain ⟨r, hr⟩ := List.isPrefixOf_iff_prefix.1 h1;have e2 : l.drop (k + 2) = r := by rw [← List.drop_drop, ← hr]; rfl
 rw [e2, ← hr];simp [List.isPrefixOf]
theorem not_pfx {q q' l : L} (hl : q.length = q'.length) (hne : q ≠ q') (h : q.isPrefixOf l = true) : q'.isPrefixOf l = false := by
 rw [Bool.eq_false_iff];intro h';rw [List.isPrefixOf_iff_prefix, List.prefix_iff_eq_take] at h h';rw [hl] at h;exact hne (h.trans h'.symm)
theorem pfx_short {q r l : L} (h : (q ++ r).isPrefixOf l = true) : q.isPrefixOf l = true := by
 rw [List.isPrefixOf_iff_prefix] at h ⊢;exact (List.prefix_append q r).trans h
theorem not_long {q r l : L} (h : q.isPrefixOf l = false) : (q ++ r).isPrefixOf l = false := by
 rw [Bool.eq_false_iff] at h ⊢;exact fun h' => h (pfx_short h')
theorem skip_marked {at_ : Nat} {D : L} (h : ([60, 33] : L).isPrefixOf (D.drop at_) = true) : Tk.skip at_ (D.drop at_) = (markedO at_ D).map fun x => ⟨x.2.2, [], [], false, x.1, at_, x.2.1⟩ := by
 have h2 : ([60, 63] : L).isPrefixOf (D.drop at_) = false := not_pfx (q := [60, 33]) rfl (by decide) h;have h3 : sXml.isPrefixOf (D.drop at_) = false := not_long (q := [60, 63]) (r := [120, 109, 108]) h2;unfold Tk.skip markedO
 by_cases hc : sComment.isPrefixOf (D.drop at_) = true
 ·rw [if_pos hc, if_pos hc];unfold Tk.comment;rw [List.drop_drop]
  cases ht : Tk.till [45, 45] (D.drop (at_ + 4)) with
  | none => rfl
  | some k =>
   have e := pfx_three ht;rw [List.drop_drop, List.drop_drop] at e;simp only [Option.bind_some];rw [List.drop_drop, e]
   by_cases hk : ([62] : L).isPrefixOf (D.drop (at_ + 4 + (k + 2))) = true
   ·rw [if_pos hk, if_pos hk]; simp only [Option.map_some]; rw [Nat.add_assoc (at_ + 4)]
   rw [if_neg hk, if_neg hk]; rfl
 rw [if_neg hc, if_neg hc]
 by_cases hd : sData.isPrefixOf (D.drop at_) = true
 ·rw [if_pos hd, if_pos hd];unfold sCut;rw [List.drop_drop]
  cases ht : Tk.till [93, 93, 62] (D.drop (at_ + 9)) with
  | none => rfl
  | some k => rfl
 rw [if_neg hd, if_neg hd, if_neg (fun h => by have := h.2.1; rw [h3] at this; cases this), if_neg (by rw [h2]; simp)];rfl

set_option maxHeartbeats 16000000 in
theorem refMarked_any (s : ByteArray) (at_ : Nat) (w : World) (ha : at_ ≤ s.size) (hs : s.size ≤ 1000000000) :
  Calls Tryz.prog 115 #[.string s, .int .i64 (at_ : Int)] w fun e w' => e = .returned (mv (markedO at_ s.data.toList)) ∧ w' = w := by
 have HS1 := hide (fun W => starts_at s (bstr sComment) at_ W (by omega) (by omega) (by decide) (by decide));have HS2 := hide (fun W => starts_at s (bstr sData) at_ W (by omega) (by omega) (by decide) (by decide));have HS3 := fun (k : Nat) W (h : k ≤ s.size) => starts_at s (bstr [45, 45, 62]) k W (by omega) (by omega) (by decide) (by decide);have HL1 := fun W (h : at_ + 4 ≤ s.size) => refTill_any s (bstr [45, 45]) (at_ + 4) W h (by omega) (by decide) (by decide);have HL2 := fun W (h : at_ + 9 ≤ s.size) => refTill_any s (bstr sCut) (at_ + 9) W h (by omega) (by decide) (by decide);obtain ⟨D, hD⟩ : ∃ D, s.data.toList = D := ⟨_, rfl⟩;have hDl : D.length = s.size := by rw [← hD, size_list]
 rw [bstr_list] at HS1 HS2;rw [bstr_list, hD] at HL1 HL2;rw [hD] at HS1 HS2 ⊢;have hex : ∀ n : Nat, s.extract (at_ + 9) (at_ + 9 + n) = bstr ((D.drop (at_ + 9)).take n) := fun n => by rw [extract_bstr, hD, Nat.add_sub_cancel_left]
 have HS3' : ∀ (k : Nat) W, k ≤ s.size → Calls Tryz.prog 114 #[.string s, .int .i64 (k : Int), .string (bstr [45, 45, 62])] W fun e w' => e = .returned (.bool (([45, 45, 62] : L).isPrefixOf (D.drop k))) ∧ w' = W := fun k W h => by have := HS3 k W h; rwa [bstr_list, hD] at this
 obtain ⟨z, hz⟩ : ∃ z, markedO at_ D = z := ⟨_, rfl⟩;rw [hz];unfold markedO at hz;clear HS3
 cases hc : sComment.isPrefixOf (D.drop at_) with
 | true =>
  rw [hc] at HS1 hz;rw [if_pos rfl] at hz;have hl := (List.isPrefixOf_iff_prefix.1 hc).length_le;rw [List.length_drop, hDl, show sComment.length = 4 from rfl] at hl;have hw4 : IntKind.i64.wrap ((at_ : Int) + 4) = ((at_ + 4 : Nat) : Int) := by rw [IntWalk.i64_in _ (by omega)]; omega
  have HL := hide (fun W => HL1 W (by omega));unfold tillAt at HL
  cases ht : Tk.till [45, 45] (D.drop (at_ + 4)) with
  | none =>
   rw [ht] at hz HL;have Hr := hide (show none = z from hz);clear hz ht hl hc hD hDl hex HS3' HL1 HL2 HS2
   go_enter Tryz.func115, Tryz.ntmps115
   go_wp2_with fail
   refine cq (HS1.out _) ?_
   go_wp2_with fail
   refine cq (HL.out _) ?_
   go_wp2
   go_ret3
   rw [← Hr.out]
   exact ⟨rfl, rfl⟩
  | some n =>
   have htl := till_len ht;rw [List.length_drop, hDl] at htl;simp only [List.length_cons, List.length_nil] at htl;rw [ht] at hz HL;dsimp only [Option.bind_some] at hz HL;obtain ⟨k, hk⟩ : ∃ k, at_ + 4 + n = k := ⟨_, rfl⟩;rw [hk] at hz HL;have hks : k + 2 ≤ s.size := by omega
   have gk : ¬ (k : Int) < 0 := by omega
   have hw3 : IntKind.i64.wrap ((k : Int) + 3) = ((k + 3 : Nat) : Int) := by rw [IntWalk.i64_in _ (by omega)]; omega
   have HS := hide (fun W => HS3' k W (by omega))
   cases hp : ([45, 45, 62] : L).isPrefixOf (D.drop k) with
   | true =>
    rw [hp] at hz HS;have Hr := hide (show some ([], k + 3, 4) = z from hz);clear hz ht hl hc hD hDl hex HS3' HL1 HL2 HS2 hk htl hp
    go_enter Tryz.func115, Tryz.ntmps115
    go_wp2_with fail
    refine cq (HS1.out _) ?_
    go_wp2_with fail
    refine cq (HL.out _) ?_
    go_wp2_with fail
    refine cq (HS.out _) ?_
    go_wp2
    go_ret3
    rw [← Hr.out]
    exact ⟨rfl, rfl⟩
   | false =>
    rw [hp] at hz HS;have Hr := hide (show none = z from hz);clear hz ht hl hc hD hDl hex HS3' HL1 HL2 HS2 hk htl hp
    go_enter Tryz.func115, Tryz.ntmps115
    go_wp2_with fail
    refine cq (HS1.out _) ?_
    go_wp2_with fail
    refine cq (HL.out _) ?_
    go_wp2_with fail
    refine cq (HS.out _) ?_
    go_wp2
    go_ret3
    rw [← Hr.out]
    exact ⟨rfl, rfl⟩
 | false =>
  rw [hc] at HS1 hz;rw [if_neg (by simp)] at hz
  cases hd : sData.isPrefixOf (D.drop at_) with
  | true =>
   rw [hd] at HS2 hz;rw [if_pos rfl] at hz;have hl := (List.isPrefixOf_iff_prefix.1 hd).length_le;rw [List.length_drop, hDl, show sData.length = 9 from rfl] at hl;have hw4 : IntKind.i64.wrap ((at_ : Int) + 9) = ((at_ + 9 : Nat) : Int) := by rw [IntWalk.i64_in _ (by omega)]; omega
   have HL := hide (fun W => HL2 W (by omega));unfold tillAt at HL
   cases ht : Tk.till sCut (D.drop (at_ + 9)) with
   | none =>
    rw [ht] at hz HL;have Hr := hide (show none = z from hz);clear hz ht hl hc hd hD hDl hex HS3' HL1 HL2
    go_enter Tryz.func115, Tryz.ntmps115
    go_wp2_with fail
    refine cq (HS1.out _) ?_
    go_wp2_with fail
    refine cq (HS2.out _) ?_
    go_wp2_with fail
    refine cq (HL.out _) ?_
    go_wp2
    go_ret3
    rw [← Hr.out]
    exact ⟨rfl, rfl⟩
   | some n =>
    have htl := till_len ht;rw [List.length_drop, hDl, show sCut.length = 3 from rfl] at htl;rw [ht] at hz HL;dsimp only [Option.map_some] at hz HL;have hx := hex n;obtain ⟨V, hV⟩ : ∃ V, (D.drop (at_ + 9)).take n = V := ⟨_, rfl⟩;obtain ⟨k, hk⟩ : ∃ k, at_ + 9 + n = k := ⟨_, rfl⟩;rw [hk, hV] at hz;rw [hk] at HL hx;rw [hV] at hx;have hks : k + 3 ≤ s.size := by omega
    have gk : ¬ (k : Int) < 0 := by omega
    have hb : 0 ≤ ((at_ + 9 : Nat) : Int) ∧ ((at_ + 9 : Nat) : Int) ≤ (k : Int) ∧ (k : Int) ≤ (s.size : Int) := by omega
    have hw3 : IntKind.i64.wrap ((k : Int) + 3) = ((k + 3 : Nat) : Int) := by rw [IntWalk.i64_in _ (by omega)]; omega
    have Hr := hide (show some (V, k + 3, 3) = z from hz);have Hv := hide (show mv (some (V, k + 3, 3)) = .tuple #[.string (s.extract (at_ + 9) k), .int .i64 ((k : Int) + 3), .int .i8 3] from by rw [hx]; rfl);clear hz ht hl hc hd hD hDl hex HS3' HL1 HL2 hk htl hV hx
    go_enter Tryz.func115, Tryz.ntmps115
    go_wp2_with fail
    refine cq (HS1.out _) ?_
    go_wp2_with fail
    refine cq (HS2.out _) ?_
    go_wp2_with fail
    refine cq (HL.out _) ?_
    go_wp2
    go_ret3
    rw [← Hr.out, Hv.out]
    exact ⟨rfl, rfl⟩
  | false =>
   rw [hd] at HS2 hz;rw [if_neg (by simp)] at hz;have Hr := hide hz;clear hz hc hd hD hDl hex HS3' HL1 HL2
   go_enter Tryz.func115, Tryz.ntmps115
   go_wp2_with fail
   refine cq (HS1.out _) ?_
   go_wp2_with fail
   refine cq (HS2.out _) ?_
   go_wp2
   go_ret3
   rw [← Hr.out]
   exact ⟨rfl, rfl⟩
end
section
open Go.RowKit Tk

theorem tok_ret_start {Q : Ending → World → Prop} {a : Act} {W : World} {R : Nat} {v0 v1 v2 v3 v4 v5 v6 : Value} {b : Bool} (ha : a.tmps.getD 4 undef = .pointer (some ⟨R, 0, none⟩)) (h5 : a.tmps.getD 5 undef = .bool b) (hd : a.defers = []) (hK : Blk W R 64 #[v0, v1, v2, v3, v4, v5, v6])
  (hQ : Q (.returned (.tuple #[.agg #[v0, v1, v2, v3, v4, v5, v6], .bool b])) W) : bodyPost Tryz.prog Tryz.f119 Q .ret a W := by
 have p0 : W.cell? ⟨R, 0, none⟩ = some v0 := hK.cell 0;have p1 : W.cell? ⟨R, 1, none⟩ = some v1 := hK.cell 1;have p2 : W.cell? ⟨R, 2, none⟩ = some v2 := hK.cell 2;have p3 : W.cell? ⟨R, 3, none⟩ = some v3 := hK.cell 3;have p4 : W.cell? ⟨R, 4, none⟩ = some v4 := hK.cell 4;have p5 : W.cell? ⟨R, 5, none⟩ = some v5 := hK.cell 5;have p6 : W.cell? ⟨R, 6, none⟩ = some v6 := hK.cell 6;refine bodyPost_ret (v := .tuple #[.agg #[v0, v1, v2, v3, v4, v5, v6], .bool b]) ?_ hd hQ;obtain ⟨tm, df⟩ := a;dsimp only at ha h5 ⊢;have ha' : tm[4]?.getD undef = .pointer (some ⟨R, 0, none⟩) := by simpa using ha
 have hb' : tm[5]?.getD undef = .bool b := by simpa using h5
 simp [results, Tryz.results119, go_sem, p0, p1, p2, p3, p4, p5, p6, ha', hb']
theorem till_byteI (c : UInt8) (v : L) : (0 ≤ Lib.index v [c]) ↔ c ∈ v := by
 induction v with
 | nil => simp [Lib.index]
 | cons b l ih =>
  unfold Lib.index;have hp : ([c] : L).isPrefixOf (b :: l) = (c == b) := by simp [List.isPrefixOf]
  rw [hp]
  by_cases hb : c = b
  ·subst hb; simp
  have e : (c == b) = false := beq_eq_false_iff_ne.2 hb;rw [e];have h1 := Lib.index_ge l [c];have : c ∈ b :: l ↔ c ∈ l := by simp [hb]
  rw [this, ← ih];simp only [Bool.false_eq_true, if_false]
  by_cases h2 : Lib.index l [c] = -1
  ·rw [h2]; simp
  have h3 : (Lib.index l [c] == -1) = false := beq_eq_false_iff_ne.2 h2;rw [h3];simp only [Bool.false_eq_true, if_false];omega
theorem till_byteD (c : UInt8) (v : L) : (0 ≤ tillAt v [c] 0) ↔ c ∈ v := by
 rw [← till_byteI];unfold tillAt Tk.till;rw [List.drop_zero];have h1 := Lib.index_ge v [c]
 by_cases h : Lib.index v [c] < 0
 ·rw [if_pos h]
  constructor
  ·intro h2; dsimp only at h2; omega
  intro h2; omega
 rw [if_neg h];dsimp only
 constructor <;> intro <;> omega
structure StD (w W : World) (R T : Nat) (at_ : Nat) (nm : ByteArray) (Ls : List At) (A : Option Addr) (c : Nat) : Prop where
 res : Blk W R 64 #[.int .i8 0, .string ⟨#[]⟩, .slice none 0 0, .bool false, .string ⟨#[]⟩, .int .i64 0, .int .i64 0]
 tok : Tb W T 0 nm (.slice A Ls.length c) false ⟨#[]⟩ at_ 0
 own : W.ownsRow w.heap.size 135 3 (.slice A Ls.length c) Ls.length (attrVs Ls)
 below : Below w.heap.size w W
 rt : R ≠ T
 rs : w.heap.size ≤ R
 ts : w.heap.size ≤ T
theorem StD.app {w W W2 w8 : World} {R T at_ : Nat} {nm : ByteArray} {Ls : List At} {A : Option Addr} {c g cap : Nat} (h : StD w W R T at_ nm Ls A c) (a : At)
  (hg : ((W.alloc (.cells #[.string (bstr a.name), .string (bstr a.value), .int .i64 (a.at_ : Int)] 135)).drew).grownBy w8 (Value.slice A Ls.length c).ownBlock)
  (ho : w8.ownsRow w.heap.size 135 3 (.slice (some ⟨g, 0, none⟩) (Ls.length + 1) cap) (Ls.length + 1) (attrVs Ls ++ [.string (bstr a.name), .string (bstr a.value), .int .i64 (a.at_ : Int)])) (h2 : W2 = w8.setCell ⟨T, 2, none⟩ (.slice (some ⟨g, 0, none⟩) (Ls.length + 1) cap)) :
  StD w W2 R T at_ nm (Ls ++ [a]) (some ⟨g, 0, none⟩) cap := by
 subst h2;have hRo : some R ≠ (Value.slice A Ls.length c).ownBlock := (own_blk_ne h.own h.res (by decide)).symm;have hTo : some T ≠ (Value.slice A Ls.length c).ownBlock := (own_blk_ne h.own h.tok (by decide)).symm;have t8 : Tb w8 T 0 nm (.slice A Ls.length c) false ⟨#[]⟩ at_ 0 := Blk.grown (Blk.drew (Blk.alloc h.tok _)) hg hTo;have r8 := Blk.grown (Blk.drew (Blk.alloc h.res (.cells #[.string (bstr a.name), .string (bstr a.value), .int .i64 (a.at_ : Int)] 135))) hg hRo;have e : (Ls ++ [a]).length = Ls.length + 1 := by simp
 refine ⟨Blk.far r8 (p := ⟨T, 2, none⟩) h.rt _, ?_, ?_, ?_, h.rt, h.rs, h.ts⟩
 ·rw [e]; exact Tb.as__ t8 _
 ·rw [e, attrVs_snoc];exact ownsRow_setCell_other ho (a := ⟨T, 2, none⟩) (own_blk_ne ho t8 (by decide)) _
 have b1 := (h.below.alloc h.below.size (.cells #[.string (bstr a.name), .string (bstr a.value), .int .i64 (a.at_ : Int)] 135)).drew;exact (b1.grown hg b1.size fun j e => (own_isT h.own j e).1).setCell (p := ⟨T, 2, none⟩) h.ts _

set_option maxHeartbeats 16000000 in
set_option maxRecDepth 20000 in
theorem refStart_any (s : ByteArray) (at_ : Nat) (w : World) (ha : at_ + 1 ≤ s.size) (hs : s.size ≤ 1000000000) :
  Calls Tryz.prog 119 #[.string s, .int .i64 (at_ : Int)] w (OneR w (Tk.start at_ (s.data.toList.drop at_))) := by
 have HT0 := fun (k : Nat) W => refTake_any (s.extract k s.size) W (by rw [extract_end, bstr_size, List.length_drop, size_list]; omega);have HB0 := fun (k : Nat) W (h : k ≤ s.size) => refBlanks_any s k W h hs;have HS10 := fun (k : Nat) W (h : k ≤ s.size) => starts_at s (bstr [62]) k W (by omega) (by omega) (by decide) (by decide);have HS20 := fun (k : Nat) W (h : k ≤ s.size) => starts_at s (bstr [47, 62]) k W (by omega) (by omega) (by decide) (by decide);have HE0 := fun (k : Nat) W (h : k ≤ s.size) => refEquals_any s k W h hs;have hexA : ∀ k : Nat, s.extract k s.size = bstr (s.data.toList.drop k) := fun k => extract_end s k;have hex0 : ∀ k n : Nat, s.extract k (k + n) = bstr ((s.data.toList.drop k).take n) := fun k n => by rw [extract_bstr, Nat.add_sub_cancel_left]
 obtain ⟨D, hD⟩ : ∃ D, s.data.toList = D := ⟨_, rfl⟩;have hDl : D.length = s.size := by rw [← hD, size_list]
 rw [hD] at HB0 HE0 hex0 hexA ⊢;have HT1 : ∀ (k : Nat) W, Calls Tryz.prog 117 #[.string (bstr (D.drop k))] W fun e w' => e = .returned (.int .i64 ((Tk.take (D.drop k) : Nat) : Int)) ∧ w' = W := fun k W => by have h := HT0 k W; rw [hexA k, bstr_list] at h; exact h
 have HS11 : ∀ (k : Nat) W, k ≤ s.size → Calls Tryz.prog 114 #[.string s, .int .i64 (k : Int), .string (bstr [62])] W fun e w' => e = .returned (.bool (([62] : L).isPrefixOf (D.drop k))) ∧ w' = W := fun k W h => by have := HS10 k W h; rwa [bstr_list, hD] at this
 have HS21 : ∀ (k : Nat) W, k ≤ s.size → Calls Tryz.prog 114 #[.string s, .int .i64 (k : Int), .string (bstr [47, 62])] W fun e w' => e = .returned (.bool (([47, 62] : L).isPrefixOf (D.drop k))) ∧ w' = W := fun k W h => by have := HS20 k W h; rwa [bstr_list, hD] at this
 have HTl : ∀ (v : L) W, v.length ≤ s.size → Calls Tryz.prog 120 #[.string (bstr v), .int .i64 0, .string (bstr [60])] W fun e w' => e = .returned (.int .i64 (tillAt v [60] 0)) ∧ w' = W := fun v W h => refTill_any (bstr v) (bstr [60]) 0 W (by omega) (by rw [bstr_size]; omega) (by decide) (by decide);have HTA := hide HT1;have HBA := hide HB0;have HEA := hide HE0;have HSA := hide HS11;have HSB := hide HS21;have HTL := hide HTl;have HXA := hide hexA;have HX0 := hide hex0;obtain ⟨n, hn⟩ : ∃ n, Tk.take (D.drop (at_ + 1)) = n := ⟨_, rfl⟩;have hnl := take_spec (D.drop (at_ + 1));have hnl := hnl.1;rw [hn, List.length_drop, hDl] at hnl;obtain ⟨o, ho⟩ : ∃ o, Tk.start at_ (D.drop at_) = o := ⟨_, rfl⟩;rw [ho];unfold Tk.start at ho;rw [show (D.drop at_).tail = D.drop (at_ + 1) by rw [List.tail_drop], hn, List.length_drop, hDl, List.drop_drop] at ho;have HT := hide (fun W => by have h := HTA.out (at_ + 1) W; rw [hn] at h; exact h);have hx := HXA.out (at_ + 1);have hw1 : IntKind.i64.wrap ((at_ : Int) + 1) = (at_ : Int) + 1 := IntWalk.i64_in _ (by omega);have hb1 : 0 ≤ (at_ : Int) + 1 ∧ (at_ : Int) + 1 ≤ (s.size : Int) ∧ (s.size : Int) ≤ (s.size : Int) := by omega
 have tn1 : ((at_ : Int) + 1).toNat = at_ + 1 := by omega
 have HW1 := hide (Blk.new w 64 #[.int .i8 0, .string ⟨#[]⟩, .slice none 0 0, .bool false, .string ⟨#[]⟩, .int .i64 0, .int .i64 0]);have HB1 := hide (below_alloc w (.cells #[.int .i8 0, .string ⟨#[]⟩, .slice none 0 0, .bool false, .string ⟨#[]⟩, .int .i64 0, .int .i64 0] 64));have HZ1 := hide (World.size_alloc w (.cells #[.int .i8 0, .string ⟨#[]⟩, .slice none 0 0, .bool false, .string ⟨#[]⟩, .int .i64 0, .int .i64 0] 64));clear HT0 HB0 HS10 HS20 HE0 HT1 HS11 HS21 HTl hexA hex0 hD
 by_cases hn0 : n = 0
 ·have gn : ((n : Int) == 0) = true := by rw [beq_iff_eq]; omega
  have Hr := hide (show o = none by rw [← ho, if_pos hn0]);clear ho hn hnl hn0 hDl HTA HBA HEA HSA HSB HTL HXA HX0
  go_enter Tryz.func119, Tryz.ntmps119
  go_wp2_with fail
  refine cq (HT.out _) ?_;generalize w.alloc (.cells #[.int .i8 0, .string ⟨#[]⟩, .slice none 0 0, .bool false, .string ⟨#[]⟩, .int .i64 0, .int .i64 0] 64) = W1 at *
  generalize HR0 : w.heap.size = R at *
  have p0 := Blk.cell HW1.out 0;have p1 := Blk.cell HW1.out 1;have p2 := Blk.cell HW1.out 2;have p3 := Blk.cell HW1.out 3;have p4 := Blk.cell HW1.out 4;have p5 := Blk.cell HW1.out 5;have p6 := Blk.cell HW1.out 6;have r := fun i => Blk.frozen HW1.out i;go_wp2;refine tok_ret_start rfl rfl rfl (put7_blk HW1.out _ _ _ _ _ _ _) ?_;exact OneR.no' HR0 Hr.out (below_put7 HB1.out (Nat.le_refl R) _ _ _ _ _ _ _) rfl
 have gn : ((n : Int) == 0) = false := by rw [beq_eq_false_iff_ne]; omega
 rw [if_neg hn0] at ho;have hxn := HX0.out (at_ + 1) n;obtain ⟨nm, hnm⟩ : ∃ nm, (D.drop (at_ + 1)).take n = nm := ⟨_, rfl⟩;rw [hnm] at hxn ho;obtain ⟨p0, hp0⟩ : ∃ p0, at_ + 1 + n = p0 := ⟨_, rfl⟩;rw [show at_ + (1 + n) = at_ + 1 + n by omega, hp0] at ho;rw [hp0] at hxn;have hwn : IntKind.i64.wrap ((at_ : Int) + 1 + (n : Int)) = (p0 : Int) := by rw [IntWalk.i64_in _ (by omega)]; omega
 have hb2 : 0 ≤ (at_ : Int) + 1 ∧ (at_ : Int) + 1 ≤ (p0 : Int) ∧ (p0 : Int) ≤ (s.size : Int) := by omega
 have Hp0 := hide (show at_ < p0 ∧ p0 ≤ s.size by omega);have HDl := hide hDl
 have Ho := hide (show (glue [] (attrs (s.size - at_) p0 (D.drop p0))).map (fun x => (⟨0, nm, x.1, x.2.1, [], at_, x.2.2⟩ : Tok)) = o by
  rw [← ho]
  cases attrs (s.size - at_) p0 (D.drop p0) <;> simp [glue])
 clear ho hn hnl hn0 hDl hnm hp0
 go_enter Tryz.func119, Tryz.ntmps119
 go_wp2_with fail
 refine cq (HT.out _) ?_;generalize w.alloc (.cells #[.int .i8 0, .string ⟨#[]⟩, .slice none 0 0, .bool false, .string ⟨#[]⟩, .int .i64 0, .int .i64 0] 64) = W1 at *
 generalize HR0 : w.heap.size = R at *
 go_wp2
 try rw [hxn]
 have HSt := hide (show StD w (W1.alloc (.cells #[.int .i8 0, .string (bstr nm), .slice none 0 0, .bool false, .string ⟨#[]⟩, .int .i64 (at_ : Int), .int .i64 ((0 : Nat) : Int)] 64)) R W1.heap.size at_ (bstr nm) [] none 0 from
  ⟨Blk.alloc HW1.out _, Blk.new W1 _ _, World.ownsRow_nil _ _ _ _, by rw [HR0]; exact HB1.out.alloc (by have := HB1.out.size; omega) _, by have := HW1.out.lt; omega, by omega, by have := HW1.out.lt; omega⟩)
 generalize W1.heap.size = T at *
 clear HT hx hw1 hb1 tn1 HW1 HB1 HZ1 gn hxn hwn hb2
 go_loopg [1] (s.size - p0) (fun g v wr => ∃ (p f : Nat) (Ls : List At) (A : Option Addr) (c : Nat), g = s.size - p ∧ at_ < p ∧ p ≤ s.size ∧ v = .int .i64 (p : Int) ∧ StD w wr R T at_ (bstr nm) Ls A c ∧ s.size - p < f ∧ Ls.length ≤ p ∧ (glue Ls (attrs f p (D.drop p))).map (fun x => (⟨0, nm, x.1, x.2.1, [], at_, x.2.2⟩ : Tok)) = o)
 case atStart => exact ⟨p0, s.size - at_, [], none, 0, rfl, Hp0.out.1, Hp0.out.2, rfl, HSt.out, by have := Hp0.out; omega, by simp, Ho.out⟩
 case round =>
  obtain ⟨p, f, Ls, A, c, hg, hp1, hp2, rfl, hst, hf, hLs, hgl⟩ := hrel;have Hg := hide hg;have HSt := hide hst;have HLs := hide hLs;obtain ⟨f, rfl⟩ : ∃ f', f = f' + 1 := ⟨f - 1, by omega⟩;have hml : p + nsp (D.drop p) ≤ s.size := by have := nsp_le (D.drop p); rw [List.length_drop, HDl.out] at this; omega
  obtain ⟨m, hm⟩ : ∃ m, nsp (D.drop p) = m := ⟨_, rfl⟩;have HB := hide (fun W => by have h := HBA.out p W hp2; rw [hm] at h; exact h);rw [hm] at hml;have e1 := fun h h2 => attrs_end1 (f := f) (off := p) (l := D.drop p) h h2;have e2 := fun h => attrs_end2 (f := f) (off := p) (l := D.drop p) h;have e3 := fun h h2 h3 => attrs_tight (f := f) (off := p) (l := D.drop p) h h2 h3;have e4 := fun h h2 h3 => attrs_more (f := f) (off := p) (l := D.drop p) h h2 h3;rw [hm, List.drop_drop] at e1 e2 e3 e4;obtain ⟨k, hk⟩ : ∃ k, p + m = k := ⟨_, rfl⟩;rw [hk] at HB e1 e2 e3 e4 hml;have HS1 := hide (fun W => HSA.out k W hml);have HS2 := hide (fun W => HSB.out k W hml);have HG := hide hgl;have Hk := hide hk;have c0 := Tb.c0 HSt.out.tok;have c1 := Tb.c1 HSt.out.tok;have c2 := Tb.c2 HSt.out.tok;have c3 := Tb.c3 HSt.out.tok;have c4 := Tb.c4 HSt.out.tok;have c5 := Tb.c5 HSt.out.tok;have c6 := Tb.c6 HSt.out.tok;have fT := Tb.f HSt.out.tok;have q0 := Blk.cell HSt.out.res 0;have q1 := Blk.cell HSt.out.res 1;have q2 := Blk.cell HSt.out.res 2;have q3 := Blk.cell HSt.out.res 3;have q4 := Blk.cell HSt.out.res 4;have q5 := Blk.cell HSt.out.res 5;have q6 := Blk.cell HSt.out.res 6;have fR := fun i => Blk.frozen HSt.out.res i;have hRT := HSt.out.rt;have hTR := HSt.out.rt.symm;have hk0 : k ≤ s.size := hml;clear hg hst hLs hgl hm hk Ho
  cases h1 : ([62] : L).isPrefixOf (D.drop k) with
  | true =>
   rw [h1] at HS1
   have h2 : ([47, 62] : L).isPrefixOf (D.drop k) = false := by
    obtain ⟨t, ht⟩ := List.isPrefixOf_iff_prefix.1 h1;rw [← ht]; rfl
   have Hr := hide (show o = some (⟨0, nm, Ls, false, [], at_, k + 1⟩ : Tok) by rw [← HG.out, e1 h2 h1, glue_end]; rfl);have hw3 : IntKind.i64.wrap ((k : Int) + 1) = ((k + 1 : Nat) : Int) := by rw [IntWalk.i64_in _ (by omega)]; omega
   clear e1 e2 e3 e4 h1 h2 HG HS2
   go_wp2_with fail
   refine cq (HB.out _) ?_
   go_wp2_with fail
   refine cq (HS1.out _) ?_
   go_wp2;have Htb := hide (Tb.end__ HSt.out.tok (k + 1));have Hrs := hide (Blk.far HSt.out.res (p := ⟨T, 6, none⟩) hRT (.int .i64 ((k + 1 : Nat) : Int)));have How := hide (ownsRow_setCell_other HSt.out.own (a := ⟨T, 6, none⟩) (own_blk_ne HSt.out.own HSt.out.tok (by decide)) (.int .i64 ((k + 1 : Nat) : Int)));have Hbl := hide (HSt.out.below.setCell (p := ⟨T, 6, none⟩) HSt.out.ts (.int .i64 ((k + 1 : Nat) : Int)));refine tok_ret_start rfl rfl rfl (put7_blk Hrs.out _ _ _ _ _ _ _) ?_;exact OneR.yes Hr.out (below_put7 Hbl.out HSt.out.rs _ _ _ _ _ _ _) rfl (put7_own How.out (own_blk_ne How.out Hrs.out (by decide)) _ _ _ _ _ _ _)
  | false =>
   rw [h1] at HS1
   cases h2 : ([47, 62] : L).isPrefixOf (D.drop k) with
   | true =>
    rw [h2] at HS2;have Hr := hide (show o = some (⟨0, nm, Ls, true, [], at_, k + 2⟩ : Tok) by rw [← HG.out, e2 h2, glue_end]; rfl);have hw3 : IntKind.i64.wrap ((k : Int) + 2) = ((k + 2 : Nat) : Int) := by rw [IntWalk.i64_in _ (by omega)]; omega
    clear e1 e2 e3 e4 h1 h2 HG
    go_wp2_with fail
    refine cq (HB.out _) ?_
    go_wp2_with fail
    refine cq (HS1.out _) ?_
    go_wp2_with fail
    refine cq (HS2.out _) ?_
    go_wp2;have Htb := hide (Tb.end__ (Tb.empty_ HSt.out.tok true) (k + 2));have Hrs := hide (Blk.far (Blk.far HSt.out.res (p := ⟨T, 3, none⟩) hRT (.bool true)) (p := ⟨T, 6, none⟩) hRT (.int .i64 ((k + 2 : Nat) : Int)));have How1 := hide (ownsRow_setCell_other HSt.out.own (a := ⟨T, 3, none⟩) (own_blk_ne HSt.out.own HSt.out.tok (by decide)) (.bool true));have How := hide (ownsRow_setCell_other How1.out (a := ⟨T, 6, none⟩) (own_blk_ne HSt.out.own HSt.out.tok (by decide)) (.int .i64 ((k + 2 : Nat) : Int)));have Hbl := hide ((HSt.out.below.setCell (p := ⟨T, 3, none⟩) HSt.out.ts (.bool true)).setCell (p := ⟨T, 6, none⟩) HSt.out.ts (.int .i64 ((k + 2 : Nat) : Int)));refine tok_ret_start rfl rfl rfl (put7_blk Hrs.out _ _ _ _ _ _ _) ?_;exact OneR.yes Hr.out (below_put7 Hbl.out HSt.out.rs _ _ _ _ _ _ _) rfl (put7_own How.out (own_blk_ne How.out Hrs.out (by decide)) _ _ _ _ _ _ _)
   | false =>
    rw [h2] at HS2
    by_cases hkp : m = 0
    ·have gk : ((k : Int) == (p : Int)) = true := by rw [beq_iff_eq]; have := Hk.out; omega
     have Hr := hide (show o = none by rw [← HG.out, e3 h2 h1 hkp, glue_none]; rfl);clear e1 e2 e3 e4 h1 h2 HG hkp
     go_wp2_with fail
     refine cq (HB.out _) ?_
     go_wp2_with fail
     refine cq (HS1.out _) ?_
     go_wp2_with fail
     refine cq (HS2.out _) ?_
     go_wp2;refine tok_ret_start rfl rfl rfl (put7_blk HSt.out.res _ _ _ _ _ _ _) ?_;exact OneR.no Hr.out (below_put7 HSt.out.below HSt.out.rs _ _ _ _ _ _ _) rfl
    have gk : ((k : Int) == (p : Int)) = false := by rw [beq_eq_false_iff_ne]; have := Hk.out; omega
    have hpk : p < k := by have := Hk.out; omega
    have e5 := e4 h2 h1 hkp;clear e1 e2 e3 e4 h1 h2 hkp
    by_cases hks : k < s.size
    ·have gs : ¬ (s.size : Int) ≤ (k : Int) := by omega
     obtain ⟨j, hj⟩ : ∃ j, Tk.take (D.drop k) = j := ⟨_, rfl⟩;have hjl := (take_spec (D.drop k)).1;rw [hj, List.length_drop, HDl.out] at hjl;have HTk := hide (fun W => by have h := HTA.out k W; rw [hj] at h; exact h);have hxk := HXA.out k;have hbk : 0 ≤ (k : Int) ∧ (k : Int) ≤ (s.size : Int) ∧ (s.size : Int) ≤ (s.size : Int) := by omega
     have tnk : ((k : Int)).toNat = k := by omega
     rw [hj, List.drop_drop] at e5;obtain ⟨x, hx⟩ : ∃ x, k + j = x := ⟨_, rfl⟩;have hxs : x ≤ s.size := by omega
     have HEq := hide (fun W => HEA.out x W hxs);have hwx : IntKind.i64.wrap ((k : Int) + (j : Int)) = (x : Int) := by rw [IntWalk.i64_in _ (by omega)]; omega
     rw [hx] at e5;obtain ⟨r, hr⟩ : ∃ r, eqv (D.drop x) = r := ⟨_, rfl⟩;rw [hr] at e5 HEq;have Hjk := hide hx
     cases r with
     | none =>
      have Hr := hide (show o = none by rw [← HG.out, e5]; by_cases h : j = 0 <;> simp [h, glue])
      by_cases hj0 : j = 0
      ·have gj : ((j : Int) == 0) = true := by rw [beq_iff_eq]; omega
       clear e5 hr hx hj hjl HG hj0
       go_wp2_with fail
       refine cq (HB.out _) ?_
       go_wp2_with fail
       refine cq (HS1.out _) ?_
       go_wp2_with fail
       refine cq (HS2.out _) ?_
       go_wp2_with fail
       refine cq (HTk.out _) ?_
       go_wp2_with fail
       refine cq (HEq.out _) ?_
       unfold qv;go_wp2;refine tok_ret_start rfl rfl rfl (put7_blk HSt.out.res _ _ _ _ _ _ _) ?_;exact OneR.no Hr.out (below_put7 HSt.out.below HSt.out.rs _ _ _ _ _ _ _) rfl
      have gj : ((j : Int) == 0) = false := by rw [beq_eq_false_iff_ne]; omega
      clear e5 hr hx hj hjl HG hj0
      go_wp2_with fail
      refine cq (HB.out _) ?_
      go_wp2_with fail
      refine cq (HS1.out _) ?_
      go_wp2_with fail
      refine cq (HS2.out _) ?_
      go_wp2_with fail
      refine cq (HTk.out _) ?_
      go_wp2_with fail
      refine cq (HEq.out _) ?_
      unfold qv;go_wp2;refine tok_ret_start rfl rfl rfl (put7_blk HSt.out.res _ _ _ _ _ _ _) ?_;exact OneR.no Hr.out (below_put7 HSt.out.below HSt.out.rs _ _ _ _ _ _ _) rfl
     | some vn =>
      obtain ⟨v, q⟩ := vn;have hfit := eqv_fit hr;rw [List.length_drop, HDl.out] at hfit;obtain ⟨y, hy⟩ : ∃ y, x + q = y := ⟨_, rfl⟩;have HEq2 := hide (show ∀ W, Calls Tryz.prog 144 #[.string s, .int .i64 (x : Int)] W fun e w' => e = .returned (.tuple #[.string (bstr v), .int .i64 (y : Int), .bool true]) ∧ w' = W from fun W => by have h := HEq.out W; unfold qv at h; dsimp only at h; rw [hy] at h; exact h);clear HEq;simp only [Option.bind_some] at e5
      by_cases hj0 : j = 0
      ·have gj : ((j : Int) == 0) = true := by rw [beq_iff_eq]; omega
       have Hr := hide (show o = none by rw [← HG.out, e5, if_pos hj0, glue_none]; rfl);clear e5 hr hx hj hjl HG hj0 hfit hy
       go_wp2_with fail
       refine cq (HB.out _) ?_
       go_wp2_with fail
       refine cq (HS1.out _) ?_
       go_wp2_with fail
       refine cq (HS2.out _) ?_
       go_wp2_with fail
       refine cq (HTk.out _) ?_
       go_wp2_with fail
       refine cq (HEq2.out _) ?_
       go_wp2;refine tok_ret_start rfl rfl rfl (put7_blk HSt.out.res _ _ _ _ _ _ _) ?_;exact OneR.no Hr.out (below_put7 HSt.out.below HSt.out.rs _ _ _ _ _ _ _) rfl
      have gj : ((j : Int) == 0) = false := by rw [beq_eq_false_iff_ne]; omega
      rw [if_neg hj0] at e5;have HTi := hide (fun W => HTL.out v W (by omega));have hmem := till_byteD 60 v
      by_cases hlt : (60 : UInt8) ∈ v
      ·have gz : (0 : Int) ≤ tillAt v [60] 0 := hmem.2 hlt;have Hr := hide (show o = none by rw [← HG.out, e5, if_pos hlt, glue_none]; rfl);generalize tillAt v [60] 0 = z at *
       clear e5 hr hx hj hjl HG hj0 hfit hy hmem hlt
       go_wp2_with fail
       refine cq (HB.out _) ?_
       go_wp2_with fail
       refine cq (HS1.out _) ?_
       go_wp2_with fail
       refine cq (HS2.out _) ?_
       go_wp2_with fail
       refine cq (HTk.out _) ?_
       go_wp2_with fail
       refine cq (HEq2.out _) ?_
       go_wp2_with fail
       refine cq (HTi.out _) ?_
       go_wp2;refine tok_ret_start rfl rfl rfl (put7_blk HSt.out.res _ _ _ _ _ _ _) ?_;exact OneR.no Hr.out (below_put7 HSt.out.below HSt.out.rs _ _ _ _ _ _ _) rfl
      have gz : ¬ (0 : Int) ≤ tillAt v [60] 0 := fun h => hlt (hmem.1 h);rw [if_neg hlt] at e5;have hxj := HX0.out k j;obtain ⟨na, hna⟩ : ∃ na, (D.drop k).take j = na := ⟨_, rfl⟩;rw [hna] at hxj e5;rw [hx] at hxj;rw [hy, List.drop_drop, show k + (j + q) = y by omega] at e5;have HG2 := hide (show (glue (Ls ++ [⟨na, v, k⟩]) (attrs f y (D.drop y))).map (fun x => (⟨0, nm, x.1, x.2.1, [], at_, x.2.2⟩ : Tok)) = o by rw [← HG.out, e5, glue_more]);have Hys := hide (show p < y ∧ y ≤ s.size ∧ k < y by omega);have hbx : 0 ≤ (k : Int) ∧ (k : Int) ≤ (x : Int) ∧ (x : Int) ≤ (s.size : Int) := by omega
      have HL := hide (show Ls.length ≤ 1000000000 by have := HLs.out; omega);have xa : ∀ o, (wr.alloc o).cell? ⟨T, 2, none⟩ = some (.slice A Ls.length c) := fun o => Tb.c2 (Blk.alloc HSt.out.tok o);have HNE := hide (own_blk_ne HSt.out.own HSt.out.tok (by decide)).symm;have HBs := hide HSt.out.below.size;generalize tillAt v [60] 0 = z at *
      clear e5 hr hx hj hjl HG hj0 hfit hy hmem hlt hna
      go_wp2_with fail
      refine cq (HB.out _) ?_
      go_wp2_with fail
      refine cq (HS1.out _) ?_
      go_wp2_with fail
      refine cq (HS2.out _) ?_
      go_wp2_with fail
      refine cq (HTk.out _) ?_
      go_wp2_with fail
      refine cq (HEq2.out _) ?_
      go_wp2_with fail
      refine cq (HTi.out _) ?_
      go_wp2
      go_region_law
       (show if Region.wanted (⟨some 100, _, _, _, _, _⟩ : Oper) _ = true then _ else _; refine step_append_elem _ (by rfl) _ _ _ (by rfl) w.heap.size 135 _ 3 40 Tryz.underlying62 info_att (by rfl) (by omega) (.slice A Ls.length c) Ls.length (attrVs Ls) (by rfl) (by first | exact HSt.out.own.alloc _ | exact (HSt.out.own.alloc _).drew) [.string (bstr na), .string (bstr v), .int .i64 (k : Int)] rfl (att_one ⟨na, v, k⟩) wr.heap.size (by first | exact Blk.new wr 135 _ | exact (Blk.new wr 135 _).drew) (by rfl) (by unfold maxLen; have := HL.out; omega) (by have := HL.out; omega) (by have := HBs.out; simp [World.drew]; omega) ?_; intro gg cap w8 hown8 hgrow8 hlt8; have T8 := hide (show Blk w8 T 64 #[.int .i8 0, .string (bstr nm), .slice A Ls.length c, .bool false, .string ⟨#[]⟩, .int .i64 (at_ : Int), .int .i64 ((0 : Nat) : Int)] from Blk.grown (Blk.drew (Blk.alloc HSt.out.tok (.cells #[.string (bstr na), .string (bstr v), .int .i64 (k : Int)] 135))) hgrow8 HNE.out); have c2' : w8.cell? ⟨T, 2, none⟩ = some (.slice A Ls.length c) := T8.out.cell 2; have f2' := T8.out.frozen 2; have Hgrow8 := hide hgrow8; have Hown8 := hide hown8; clear hown8 hgrow8 hlt8)
      all_goals go_wp2
      all_goals
       have S8 := hide (HSt.out.app ⟨na, v, k⟩ Hgrow8.out Hown8.out rfl)
       go_roundg (s.size - y)
       case measure => have := Hg.out; have := Hys.out; omega
       case rel => exact ⟨y, f, Ls ++ [⟨na, v, k⟩], some ⟨gg, 0, none⟩, cap, rfl, by have := Hys.out; omega, Hys.out.2.1, rfl, S8.out, by have := Hys.out; omega, by have := HLs.out; have := Hys.out; simp; omega, HG2.out⟩
    have gs : (s.size : Int) ≤ (k : Int) := by omega
    have Hr := hide (show o = none by
     rw [← HG.out, e5, List.drop_of_length_le (by rw [HDl.out]; omega), if_pos (by rfl), glue_none]; rfl)
    clear e5 HG hks
    go_wp2_with fail
    refine cq (HB.out _) ?_
    go_wp2_with fail
    refine cq (HS1.out _) ?_
    go_wp2_with fail
    refine cq (HS2.out _) ?_
    go_wp2;refine tok_ret_start rfl rfl rfl (put7_blk HSt.out.res _ _ _ _ _ _ _) ?_;exact OneR.no Hr.out (below_put7 HSt.out.below HSt.out.rs _ _ _ _ _ _ _) rfl
end
end Go.Proofs.YtbbpkcddifmieaaGreatDoor
