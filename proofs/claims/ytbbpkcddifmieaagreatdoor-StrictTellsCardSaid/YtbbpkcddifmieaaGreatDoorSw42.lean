/- The document's reading of tokens: the piece that begins at a byte. (Printed by wip/genTkDn.py.) -/
import Derived.Test.YtbbpkcddifmieaaGreatDoorSw04
import Derived.Test.YtbbpkcddifmieaaGreatDoorSw41
set_option linter.unusedSimpArgs false
set_option linter.unusedVariables false
namespace Go.Proofs.YtbbpkcddifmieaaGreatDoor
section
open Go.RowKit Tk

theorem tok_ret_piece {Q : Ending → World → Prop} {a : Act} {W : World} {R : Nat} {v0 v1 v2 v3 v4 v5 v6 : Value} {b : Bool} (ha : a.tmps.getD 4 undef = .pointer (some ⟨R, 0, none⟩)) (h5 : a.tmps.getD 5 undef = .bool b) (hd : a.defers = []) (hK : Blk W R 64 #[v0, v1, v2, v3, v4, v5, v6])
  (hQ : Q (.returned (.tuple #[.agg #[v0, v1, v2, v3, v4, v5, v6], .bool b])) W) : bodyPost Tryz.prog Tryz.f86 Q .ret a W := by
 have p0 : W.cell? ⟨R, 0, none⟩ = some v0 := hK.cell 0;have p1 : W.cell? ⟨R, 1, none⟩ = some v1 := hK.cell 1;have p2 : W.cell? ⟨R, 2, none⟩ = some v2 := hK.cell 2;have p3 : W.cell? ⟨R, 3, none⟩ = some v3 := hK.cell 3;have p4 : W.cell? ⟨R, 4, none⟩ = some v4 := hK.cell 4;have p5 : W.cell? ⟨R, 5, none⟩ = some v5 := hK.cell 5;have p6 : W.cell? ⟨R, 6, none⟩ = some v6 := hK.cell 6;refine bodyPost_ret (v := .tuple #[.agg #[v0, v1, v2, v3, v4, v5, v6], .bool b]) ?_ hd hQ;obtain ⟨tm, df⟩ := a;dsimp only at ha h5 ⊢;have ha' : tm[4]?.getD undef = .pointer (some ⟨R, 0, none⟩) := by simpa using ha
 have hb' : tm[5]?.getD undef = .bool b := by simpa using h5
 simp [results, Tryz.results86, go_sem, p0, p1, p2, p3, p4, p5, p6, ha', hb']
def PcR (w : World) (o : Option Tok) (e : Ending) (w' : World) : Prop :=
 Below w.heap.size w w' ∧ match o with
  | none => ∃ (kd : Int) (nm : ByteArray) (em : Bool) (tx : ByteArray) (a0 e0 : Int), e = .returned (.tuple #[.agg #[.int .i8 kd, .string nm, .slice none 0 0, .bool em, .string tx, .int .i64 a0, .int .i64 e0], .bool false])
  | some t => ∃ A c, e = .returned (.tuple #[.agg (tokCells t (.slice A t.attrs.length c) t.end_).toArray, .bool true]) ∧ w'.ownsRow w.heap.size 135 3 (.slice A t.attrs.length c) t.attrs.length (attrVs t.attrs)
theorem PcR.no {R : Nat} {w : World} {o : Option Tok} {e : Ending} {w' : World} {kd : Int} {nm : ByteArray} {em : Bool} {tx : ByteArray} {a0 e0 : Int} (hR : w.heap.size = R) (ho : o = none) (hb : Below R w w')
  (he : e = .returned (.tuple #[.agg #[.int .i8 kd, .string nm, .slice none 0 0, .bool em, .string tx, .int .i64 a0, .int .i64 e0], .bool false])) : PcR w o e w' := by subst hR ho; exact ⟨hb, kd, nm, em, tx, a0, e0, he⟩
theorem PcR.yes {R : Nat} {w : World} {o : Option Tok} {t : Tok} {e : Ending} {w' : World} {A : Option Addr} {c : Nat} (hR : w.heap.size = R) (ho : o = some t) (hb : Below R w w') (he : e = .returned (.tuple #[.agg (tokCells t (.slice A t.attrs.length c) t.end_).toArray, .bool true]))
  (hr : w'.ownsRow R 135 3 (.slice A t.attrs.length c) t.attrs.length (attrVs t.attrs)) : PcR w o e w' := by subst hR ho; exact ⟨hb, A, c, he, hr⟩
theorem skip_instr {at_ : Nat} {D : L} (h : ([60, 63] : L).isPrefixOf (D.drop at_) = true) : Tk.skip at_ (D.drop at_) = if instrAt at_ D < 0 then none else some ⟨4, [], [], false, [], at_, (instrAt at_ D).toNat⟩ := by
 have h33 : ([60, 33] : L).isPrefixOf (D.drop at_) = false := not_pfx (q := [60, 63]) rfl (by decide) h;have hc : sComment.isPrefixOf (D.drop at_) = false := not_long (q := [60, 33]) (r := [45, 45]) h33;have hd : sData.isPrefixOf (D.drop at_) = false := not_long (q := [60, 33]) (r := [91, 67, 68, 65, 84, 65, 91]) h33;unfold Tk.skip;rw [if_neg (by rw [hc]; simp), if_neg (by rw [hd]; simp)]
 by_cases hx : at_ = 0 ∧ sXml.isPrefixOf (D.drop at_) = true ∧ (((D.drop at_).drop 5).head?.map sp).getD false = true
 ·rw [if_pos hx];obtain ⟨rfl, h1, h2⟩ := hx;rw [List.drop_zero] at h1 h2 ⊢;have e : instrAt 0 D = natOr (Tk.decl (D.drop 5)) := by unfold instrAt; rw [if_pos ⟨rfl, h1, h2⟩, declAt_is]
  rw [e]
  cases Tk.decl (D.drop 5) with
  | none => rfl
  | some n =>
   show _ = if ((5 + n : Nat) : Int) < 0 then none else some (⟨4, [], [], false, [], 0, ((5 + n : Nat) : Int).toNat⟩ : Tok)
   rw [if_neg (by omega), Int.toNat_natCast, Option.map_some, Nat.zero_add]
 rw [if_neg hx, if_pos h, List.drop_drop]
 have e : instrAt at_ D = atOr (at_ + 2) (Tk.instr (D.drop (at_ + 2))) := by
  unfold instrAt;rw [if_neg (fun h' => hx (by obtain ⟨rfl, h1, h2⟩ := h'; rw [List.drop_zero]; exact ⟨rfl, h1, h2⟩)), instr1_is]
 rw [e]
 cases Tk.instr (D.drop (at_ + 2)) with
 | none => rfl
 | some n =>
  show _ = if ((at_ + 2 + n : Nat) : Int) < 0 then none else some (⟨4, [], [], false, [], at_, ((at_ + 2 + n : Nat) : Int).toNat⟩ : Tok)
  rw [if_neg (by omega), Int.toNat_natCast, Option.map_some]
theorem piece_marked {at_ : Nat} {D : L} (h : ([60, 33] : L).isPrefixOf (D.drop at_) = true) : Tk.piece at_ (D.drop at_) = (markedO at_ D).map fun x => ⟨x.2.2, [], [], false, x.1, at_, x.2.1⟩ := by
 rw [← skip_marked h];unfold Tk.piece;rw [if_neg (by rw [not_pfx (q := [60, 33]) (q' := [60, 47]) rfl (by decide) h]; simp), if_pos (by rw [h]; rfl)]
theorem piece_instr {at_ : Nat} {D : L} (h : ([60, 63] : L).isPrefixOf (D.drop at_) = true) : Tk.piece at_ (D.drop at_) = if instrAt at_ D < 0 then none else some ⟨4, [], [], false, [], at_, (instrAt at_ D).toNat⟩ := by
 rw [← skip_instr h];unfold Tk.piece;rw [if_neg (by rw [not_pfx (q := [60, 63]) (q' := [60, 47]) rfl (by decide) h]; simp), if_pos (by rw [h]; simp)]
theorem piece_end {at_ : Nat} {D : L} (h : ([60, 47] : L).isPrefixOf (D.drop at_) = true) : Tk.piece at_ (D.drop at_) = Tk.end_ at_ (D.drop at_) := by
 unfold Tk.piece; rw [if_pos h]
theorem piece_start {at_ : Nat} {D : L} (h1 : ([60, 33] : L).isPrefixOf (D.drop at_) = false) (h2 : ([60, 63] : L).isPrefixOf (D.drop at_) = false) (h3 : ([60, 47] : L).isPrefixOf (D.drop at_) = false) (h : ([60] : L).isPrefixOf (D.drop at_) = true) :
  Tk.piece at_ (D.drop at_) = Tk.start at_ (D.drop at_) := by
 unfold Tk.piece; rw [if_neg (by rw [h3]; simp), if_neg (by rw [h1, h2]; simp), if_pos h]
theorem piece_text {at_ : Nat} {D : L} (h : ([60] : L).isPrefixOf (D.drop at_) = false) : Tk.piece at_ (D.drop at_) = Tk.text at_ (D.drop at_) := by
 have h47 : ([60, 47] : L).isPrefixOf (D.drop at_) = false := not_long (q := [60]) (r := [47]) h;have h33 : ([60, 33] : L).isPrefixOf (D.drop at_) = false := not_long (q := [60]) (r := [33]) h;have h63 : ([60, 63] : L).isPrefixOf (D.drop at_) = false := not_long (q := [60]) (r := [63]) h;unfold Tk.piece;rw [if_neg (by rw [h47]; simp), if_neg (by rw [h33, h63]; simp), if_neg (by rw [h]; simp)]
theorem end_at {at_ n m k : Nat} {D : L} (hn : Tk.take (D.drop (at_ + 2)) = n) (hm : nsp (D.drop (at_ + 2 + n)) = m) (hk : at_ + 2 + n + m = k) :
  Tk.end_ at_ (D.drop at_) = if n = 0 then none else if ([62] : L).isPrefixOf (D.drop k) = true then some ⟨1, (D.drop (at_ + 2)).take n, [], false, [], at_, k + 1⟩ else none := by
 unfold Tk.end_;simp only [List.drop_drop];rw [hn, hm, hk]
theorem tillAt_neg (v q : L) : (tillAt v q 0 < 0) ↔ Lib.index v q < 0 := by
 unfold tillAt Tk.till;rw [List.drop_zero]
 by_cases h : Lib.index v q < 0
 ·rw [if_pos h]; simp [h]
 rw [if_neg h]; constructor
 ·intro h'; dsimp only at h'; omega
 intro h'; exact absurd h' h

set_option maxHeartbeats 16000000 in
set_option maxRecDepth 20000 in
theorem refPiece_any (s : ByteArray) (at_ : Nat) (w : World) (ha : at_ < s.size) (hs : s.size ≤ 1000000000) :
  Calls Tryz.prog 86 #[.string s, .int .i64 (at_ : Int)] w (PcR w (Tk.piece at_ (s.data.toList.drop at_))) := by
 have HS1 := hide (fun W => starts_at s (bstr [60, 33]) at_ W (by omega) (by omega) (by decide) (by decide));have HS2 := hide (fun W => starts_at s (bstr [60, 63]) at_ W (by omega) (by omega) (by decide) (by decide));have HS3 := hide (fun W => starts_at s (bstr [60, 47]) at_ W (by omega) (by omega) (by decide) (by decide));have HS4 := hide (fun W => starts_at s (bstr [60]) at_ W (by omega) (by omega) (by decide) (by decide));have HS50 := fun (k : Nat) W (h : k ≤ s.size) => starts_at s (bstr [62]) k W (by omega) (by omega) (by decide) (by decide);have HM := hide (fun W => refMarked_any s at_ W (by omega) hs);have HI := hide (fun W (h : at_ + 2 ≤ s.size) => refInstr_any s at_ W h hs);have HT0 := fun (k : Nat) W => refTake_any (s.extract k s.size) W (by rw [extract_end, bstr_size, List.length_drop, size_list]; omega);have HB0 := hide (fun (k : Nat) W (h : k ≤ s.size) => refBlanks_any s k W h hs);have HSt := hide (fun W => refStart_any s at_ W (by omega) hs);have HTl := hide (fun W => refTill_any s (bstr [60]) at_ W (by omega) (by omega) (by decide) (by decide));have HTc : Hid (∀ (v : L) W, v.length ≤ s.size → Calls Tryz.prog 120 #[.string (bstr v), .int .i64 0, .string (bstr sCut)] W fun e w' => e = .returned (.int .i64 (tillAt v sCut 0)) ∧ w' = W) := hide fun v W h => refTill_any (bstr v) (bstr sCut) 0 W (by omega) (by rw [bstr_size]; omega) (by decide) (by decide)
 have hexA : ∀ k : Nat, s.extract k s.size = bstr (s.data.toList.drop k) := fun k => extract_end s k;have hex0 : ∀ k n : Nat, s.extract k (k + n) = bstr ((s.data.toList.drop k).take n) := fun k n => by rw [extract_bstr, Nat.add_sub_cancel_left]
 obtain ⟨D, hD⟩ : ∃ D, s.data.toList = D := ⟨_, rfl⟩;have hDl : D.length = s.size := by rw [← hD, size_list]
 rw [bstr_list] at HS1 HS2 HS3 HS4 HTl;rw [hD] at HS1 HS2 HS3 HS4 HM HI HB0 HSt HTl hex0 hexA ⊢;have HTA : Hid (∀ (k : Nat) W, Calls Tryz.prog 117 #[.string (bstr (D.drop k))] W fun e w' => e = .returned (.int .i64 ((Tk.take (D.drop k) : Nat) : Int)) ∧ w' = W) := hide fun k W => by have h := HT0 k W; rw [hexA k, bstr_list] at h; exact h
 have HS5 : Hid (∀ (k : Nat) W, k ≤ s.size → Calls Tryz.prog 114 #[.string s, .int .i64 (k : Int), .string (bstr [62])] W fun e w' => e = .returned (.bool (([62] : L).isPrefixOf (D.drop k))) ∧ w' = W) := hide fun k W h => by have := HS50 k W h; rwa [bstr_list, hD] at this
 have HXA := hide hexA;have HX0 := hide hex0;have HDl := hide hDl;obtain ⟨o, ho⟩ : ∃ o, Tk.piece at_ (D.drop at_) = o := ⟨_, rfl⟩;rw [ho];have HW1 := hide (Blk.new w 64 #[.int .i8 0, .string ⟨#[]⟩, .slice none 0 0, .bool false, .string ⟨#[]⟩, .int .i64 0, .int .i64 0]);have HB1 := hide (below_alloc w (.cells #[.int .i8 0, .string ⟨#[]⟩, .slice none 0 0, .bool false, .string ⟨#[]⟩, .int .i64 0, .int .i64 0] 64));clear HT0 HS50 hexA hex0 hD hDl

 cases h1 : ([60, 33] : L).isPrefixOf (D.drop at_) with
 | true =>
  rw [h1] at HS1;rw [piece_marked h1] at ho;obtain ⟨mo, hmo⟩ : ∃ mo, markedO at_ D = mo := ⟨_, rfl⟩;rw [hmo] at ho HM;clear HB0 HI HS5 HSt HTA HTc HTl HX0 HXA;clear h1 hmo HS2 HS3 HS4
  cases mo with
  | none =>
   have Hr := hide (show o = none from ho.symm);clear ho
   go_enter Tryz.func86, Tryz.ntmps86
   go_wp2_with fail
   refine cq (HS1.out _) ?_;generalize w.alloc (.cells #[.int .i8 0, .string ⟨#[]⟩, .slice none 0 0, .bool false, .string ⟨#[]⟩, .int .i64 0, .int .i64 0] 64) = W1 at *
   generalize HR0 : w.heap.size = R at *
   have p0 := Blk.cell HW1.out 0;have p1 := Blk.cell HW1.out 1;have p2 := Blk.cell HW1.out 2;have p3 := Blk.cell HW1.out 3;have p4 := Blk.cell HW1.out 4;have p5 := Blk.cell HW1.out 5;have p6 := Blk.cell HW1.out 6;have r := fun i => Blk.frozen HW1.out i
   go_wp2_with fail
   refine cq (HM.out _) ?_
   unfold mv;go_wp2;refine tok_ret_piece rfl rfl rfl (put7_blk HW1.out _ _ _ _ _ _ _) ?_;exact PcR.no HR0 Hr.out (below_put7 HB1.out (Nat.le_refl R) _ _ _ _ _ _ _) rfl
  | some x =>
   obtain ⟨v, en, kd⟩ := x;have Hr := hide (show o = some (⟨kd, [], [], false, v, at_, en⟩ : Tok) from ho.symm);have ge : (0 : Int) ≤ (en : Int) := by omega
   clear ho
   go_enter Tryz.func86, Tryz.ntmps86
   go_wp2_with fail
   refine cq (HS1.out _) ?_;generalize w.alloc (.cells #[.int .i8 0, .string ⟨#[]⟩, .slice none 0 0, .bool false, .string ⟨#[]⟩, .int .i64 0, .int .i64 0] 64) = W1 at *
   generalize HR0 : w.heap.size = R at *
   have p0 := Blk.cell HW1.out 0;have p1 := Blk.cell HW1.out 1;have p2 := Blk.cell HW1.out 2;have p3 := Blk.cell HW1.out 3;have p4 := Blk.cell HW1.out 4;have p5 := Blk.cell HW1.out 5;have p6 := Blk.cell HW1.out 6;have r := fun i => Blk.frozen HW1.out i
   go_wp2_with fail
   refine cq (HM.out _) ?_
   unfold mv;go_wp2;refine tok_ret_piece rfl rfl rfl (put7_blk HW1.out _ _ _ _ _ _ _) ?_;exact PcR.yes HR0 Hr.out (below_put7 HB1.out (Nat.le_refl R) _ _ _ _ _ _ _) rfl (World.ownsRow_nil _ _ _ _)
 | false =>
  rw [h1] at HS1
  cases h2 : ([60, 63] : L).isPrefixOf (D.drop at_) with
  | true =>
   rw [h2] at HS2;rw [piece_instr h2] at ho;obtain ⟨z, hz⟩ : ∃ z, instrAt at_ D = z := ⟨_, rfl⟩;rw [hz] at ho HI;have hl := (List.isPrefixOf_iff_prefix.1 h2).length_le;rw [List.length_drop, HDl.out] at hl;simp only [List.length_cons, List.length_nil] at hl;have HI' := hide (fun W => HI.out W (by omega));clear hl;clear HB0 HI HM HS5 HSt HTA HTc HTl HX0 HXA;clear h1 h2 hz HS3 HS4
   by_cases hz0 : z < 0
   ·have gz : ¬ (0 : Int) ≤ z := by omega
    have Hr := hide (show o = none by rw [← ho, if_pos hz0]);clear ho hz0
    go_enter Tryz.func86, Tryz.ntmps86
    go_wp2_with fail
    refine cq (HS1.out _) ?_;generalize w.alloc (.cells #[.int .i8 0, .string ⟨#[]⟩, .slice none 0 0, .bool false, .string ⟨#[]⟩, .int .i64 0, .int .i64 0] 64) = W1 at *
    generalize HR0 : w.heap.size = R at *
    have p0 := Blk.cell HW1.out 0;have p1 := Blk.cell HW1.out 1;have p2 := Blk.cell HW1.out 2;have p3 := Blk.cell HW1.out 3;have p4 := Blk.cell HW1.out 4;have p5 := Blk.cell HW1.out 5;have p6 := Blk.cell HW1.out 6;have r := fun i => Blk.frozen HW1.out i
    go_wp2_with fail
    refine cq (HS2.out _) ?_
    go_wp2_with fail
    refine cq (HI'.out _) ?_
    go_wp2;refine tok_ret_piece rfl rfl rfl (put7_blk HW1.out _ _ _ _ _ _ _) ?_;exact PcR.no HR0 Hr.out (below_put7 HB1.out (Nat.le_refl R) _ _ _ _ _ _ _) (by rw [decide_eq_false (by omega)])
   obtain ⟨en, rfl⟩ : ∃ en : Nat, z = en := ⟨z.toNat, by omega⟩;have ge : (0 : Int) ≤ (en : Int) := by omega
   have Hr := hide (show o = some (⟨4, [], [], false, [], at_, en⟩ : Tok) by rw [← ho, if_neg hz0, Int.toNat_natCast]);clear ho hz0
   go_enter Tryz.func86, Tryz.ntmps86
   go_wp2_with fail
   refine cq (HS1.out _) ?_;generalize w.alloc (.cells #[.int .i8 0, .string ⟨#[]⟩, .slice none 0 0, .bool false, .string ⟨#[]⟩, .int .i64 0, .int .i64 0] 64) = W1 at *
   generalize HR0 : w.heap.size = R at *
   have p0 := Blk.cell HW1.out 0;have p1 := Blk.cell HW1.out 1;have p2 := Blk.cell HW1.out 2;have p3 := Blk.cell HW1.out 3;have p4 := Blk.cell HW1.out 4;have p5 := Blk.cell HW1.out 5;have p6 := Blk.cell HW1.out 6;have r := fun i => Blk.frozen HW1.out i
   go_wp2_with fail
   refine cq (HS2.out _) ?_
   go_wp2_with fail
   refine cq (HI'.out _) ?_
   go_wp2;refine tok_ret_piece rfl rfl rfl (put7_blk HW1.out _ _ _ _ _ _ _) ?_;exact PcR.yes HR0 Hr.out (below_put7 HB1.out (Nat.le_refl R) _ _ _ _ _ _ _) rfl (World.ownsRow_nil _ _ _ _)
  | false =>
   rw [h2] at HS2
   cases h3 : ([60, 47] : L).isPrefixOf (D.drop at_) with
   | true =>
    rw [h3] at HS3;have hl := (List.isPrefixOf_iff_prefix.1 h3).length_le;rw [List.length_drop, HDl.out] at hl;simp only [List.length_cons, List.length_nil] at hl;obtain ⟨n, hn⟩ : ∃ n, Tk.take (D.drop (at_ + 2)) = n := ⟨_, rfl⟩;have hnl := (take_spec (D.drop (at_ + 2))).1;rw [hn, List.length_drop, HDl.out] at hnl;obtain ⟨m, hm⟩ : ∃ m, nsp (D.drop (at_ + 2 + n)) = m := ⟨_, rfl⟩;have hml := nsp_le (D.drop (at_ + 2 + n));rw [hm, List.length_drop, HDl.out] at hml;obtain ⟨k, hk⟩ : ∃ k, at_ + 2 + n + m = k := ⟨_, rfl⟩;rw [piece_end h3, end_at hn hm hk] at ho;obtain ⟨N, hN⟩ : ∃ N : Int, ((n : Nat) : Int) = N := ⟨_, rfl⟩;have HTk := hide (fun W => by have h := HTA.out (at_ + 2) W; rw [hn, hN] at h; exact h);have hx := HXA.out (at_ + 2);have hxn := HX0.out (at_ + 2) n;obtain ⟨nm, hnm⟩ : ∃ nm, (D.drop (at_ + 2)).take n = nm := ⟨_, rfl⟩;rw [hnm] at hxn ho;obtain ⟨x, hxx⟩ : ∃ x, at_ + 2 + n = x := ⟨_, rfl⟩;have HBl := hide (fun W => by have h := HB0.out (at_ + 2 + n) W (by omega); rw [hm, hk, hxx] at h; exact h);have HSk := hide (fun W => HS5.out k W (by omega));have hw1 : IntKind.i64.wrap ((at_ : Int) + 2) = (at_ : Int) + 2 := IntWalk.i64_in _ (by omega);have hw2 : IntKind.i64.wrap ((at_ : Int) + 2 + N) = (x : Int) := by rw [IntWalk.i64_in _ (by omega)]; omega
    have hw3 : IntKind.i64.wrap ((k : Int) + 1) = ((k + 1 : Nat) : Int) := by rw [IntWalk.i64_in _ (by omega)]; omega
    have hb1 : 0 ≤ (at_ : Int) + 2 ∧ (at_ : Int) + 2 ≤ (s.size : Int) ∧ (s.size : Int) ≤ (s.size : Int) := by omega
    have hb2 : 0 ≤ (at_ : Int) + 2 ∧ (at_ : Int) + 2 ≤ (x : Int) ∧ (x : Int) ≤ (s.size : Int) := by omega
    have tn1 : ((at_ : Int) + 2).toNat = at_ + 2 := by omega
    rw [hxx] at hxn;clear HB0 HM HS5 HSt HTA HTc HTl HX0 HXA;clear h1 h2 h3 hn hm hk hxx hnm hml hnl HI HS4
    by_cases hn0 : n = 0
    ·have gn : decide ((0 : Int) < N) = false := decide_eq_false (by omega);have Hr := hide (show o = none by rw [← ho, if_pos hn0]);clear ho hn0 hN
     go_enter Tryz.func86, Tryz.ntmps86
     go_wp2_with fail
     refine cq (HS1.out _) ?_;generalize w.alloc (.cells #[.int .i8 0, .string ⟨#[]⟩, .slice none 0 0, .bool false, .string ⟨#[]⟩, .int .i64 0, .int .i64 0] 64) = W1 at *
     generalize HR0 : w.heap.size = R at *
     have p0 := Blk.cell HW1.out 0;have p1 := Blk.cell HW1.out 1;have p2 := Blk.cell HW1.out 2;have p3 := Blk.cell HW1.out 3;have p4 := Blk.cell HW1.out 4;have p5 := Blk.cell HW1.out 5;have p6 := Blk.cell HW1.out 6;have r := fun i => Blk.frozen HW1.out i
     go_wp2_with fail
     refine cq (HS2.out _) ?_
     go_wp2_with fail
     refine cq (HS3.out _) ?_
     go_wp2_with fail
     refine cq (HTk.out _) ?_
     go_wp2_with fail
     refine cq (HBl.out _) ?_
     go_wp2;refine wp_region_held_drew (S := fun _ => True) (by kernel_rfl) ?_ (fun hHeld => ?_)
     ·(try dsimp only);(try trivial)
     change wpAnyH _ _ _ _ _ 21 #[false, false, false, false, false, false, false, false, false, false, false, false, false, false, false, false, false, false, false, false, false] _ _;iterate 15 (refine nxT (v := ?_) rfl rfl hHeld ?_ ?_; rotate_left; (· (intro w hSw; (try dsimp only at hSw); go_simp; try with_reducible rfl)); (try simp only [nx, List.set]))
     iterate 3 (refine nxK rfl rfl hHeld ?_; (try simp only [nx, List.set]))
     (refine nxT (v := ?_) rfl rfl hHeld ?_ ?_; rotate_left; (· (intro w hSw; (try dsimp only at hSw); go_simp; try with_reducible rfl)); (try simp only [nx, List.set]));have HW2 := hide (Blk.drew HW1.out);have HB2 := hide HB1.out.drew;clear HW1 HB1 p0 p1 p2 p3 p4 p5 p6 r;generalize W1.drew = W2 at *
     have p0 := Blk.cell HW2.out 0;have p1 := Blk.cell HW2.out 1;have p2 := Blk.cell HW2.out 2;have p3 := Blk.cell HW2.out 3;have p4 := Blk.cell HW2.out 4;have p5 := Blk.cell HW2.out 5;have p6 := Blk.cell HW2.out 6;have r := fun i => Blk.frozen HW2.out i;refine held_call (i := 19) rfl (by kernel_rfl) (by kernel_rfl) (fun K hK => ?_);go_simp;(try dsimp only);refine hK.out _ _ ?_ (fun hHeld' => ?_)
     ·(try trivial)
     clear hK K hHeld;have hHeld := hHeld';clear hHeld';(try simp only [Act.put, List.setIfInBounds_toArray, List.set_cons_zero, List.set_cons_succ]);(refine nxT (v := ?_) rfl rfl hHeld ?_ ?_; rotate_left; (· (intro w hSw; (try dsimp only at hSw); go_simp; try with_reducible rfl)); (try simp only [nx, List.set]));refine wpAnyH_done (by kernel_rfl) ?_ _;go_wp2;refine tok_ret_piece rfl rfl rfl (put7_blk HW2.out _ _ _ _ _ _ _) ?_;exact PcR.no HR0 Hr.out (below_put7 HB2.out (Nat.le_refl R) _ _ _ _ _ _ _) rfl
    have gn : decide ((0 : Int) < N) = true := decide_eq_true (by omega);rw [if_neg hn0] at ho;clear hn0 hN
    cases hp : ([62] : L).isPrefixOf (D.drop k) with
    | true =>
     rw [hp] at ho HSk;have Hr := hide (show o = some (⟨1, nm, [], false, [], at_, k + 1⟩ : Tok) by rw [← ho, if_pos rfl]);clear ho hp
     go_enter Tryz.func86, Tryz.ntmps86
     go_wp2_with fail
     refine cq (HS1.out _) ?_;generalize w.alloc (.cells #[.int .i8 0, .string ⟨#[]⟩, .slice none 0 0, .bool false, .string ⟨#[]⟩, .int .i64 0, .int .i64 0] 64) = W1 at *
     generalize HR0 : w.heap.size = R at *
     have p0 := Blk.cell HW1.out 0;have p1 := Blk.cell HW1.out 1;have p2 := Blk.cell HW1.out 2;have p3 := Blk.cell HW1.out 3;have p4 := Blk.cell HW1.out 4;have p5 := Blk.cell HW1.out 5;have p6 := Blk.cell HW1.out 6;have r := fun i => Blk.frozen HW1.out i
     go_wp2_with fail
     refine cq (HS2.out _) ?_
     go_wp2_with fail
     refine cq (HS3.out _) ?_
     go_wp2_with fail
     refine cq (HTk.out _) ?_
     go_wp2_with fail
     refine cq (HBl.out _) ?_
     go_wp2;refine wp_region_held_drew (S := fun _ => True) (by kernel_rfl) ?_ (fun hHeld => ?_)
     ·(try dsimp only);(try trivial)
     change wpAnyH _ _ _ _ _ 21 #[false, false, false, false, false, false, false, false, false, false, false, false, false, false, false, false, false, false, false, false, false] _ _;iterate 17 (refine nxT (v := ?_) rfl rfl hHeld ?_ ?_; rotate_left; (· (intro w hSw; (try dsimp only at hSw); go_simp; try with_reducible rfl)); (try simp only [nx, List.set]))
     refine held_call (i := 17) rfl (by kernel_rfl) (by kernel_rfl) (fun K hK => ?_);go_simp;refine cq (HSk.out _) ?_;(try go_simp);refine hK.out _ _ ?_ (fun hHeld' => ?_)
     ·(try dsimp only);(try trivial)
     clear hK K hHeld;have hHeld := hHeld';clear hHeld';(try simp only [Act.put, List.setIfInBounds_toArray, List.set_cons_zero, List.set_cons_succ]);(refine nxT (v := ?_) rfl rfl hHeld ?_ ?_; rotate_left; (· (intro w hSw; (try dsimp only at hSw); go_simp; try with_reducible rfl)); (try simp only [nx, List.set]));have HW2 := hide (Blk.drew HW1.out);have HB2 := hide HB1.out.drew;clear HW1 HB1 p0 p1 p2 p3 p4 p5 p6 r;generalize W1.drew = W2 at *
     have p0 := Blk.cell HW2.out 0;have p1 := Blk.cell HW2.out 1;have p2 := Blk.cell HW2.out 2;have p3 := Blk.cell HW2.out 3;have p4 := Blk.cell HW2.out 4;have p5 := Blk.cell HW2.out 5;have p6 := Blk.cell HW2.out 6;have r := fun i => Blk.frozen HW2.out i;refine held_call (i := 19) rfl (by kernel_rfl) (by kernel_rfl) (fun K hK => ?_);go_simp;(try dsimp only);refine hK.out _ _ ?_ (fun hHeld' => ?_)
     ·(try trivial)
     clear hK K hHeld;have hHeld := hHeld';clear hHeld';(try simp only [Act.put, List.setIfInBounds_toArray, List.set_cons_zero, List.set_cons_succ]);(refine nxT (v := ?_) rfl rfl hHeld ?_ ?_; rotate_left; (· (intro w hSw; (try dsimp only at hSw); go_simp; try with_reducible rfl)); (try simp only [nx, List.set]));refine wpAnyH_done (by kernel_rfl) ?_ _;go_wp2;refine tok_ret_piece rfl rfl rfl (put7_blk HW2.out _ _ _ _ _ _ _) ?_;exact PcR.yes HR0 Hr.out (below_put7 HB2.out (Nat.le_refl R) _ _ _ _ _ _ _) rfl (World.ownsRow_nil _ _ _ _)
    | false =>
     rw [hp] at ho HSk;have Hr := hide (show o = none by rw [← ho]; simp);clear ho hp
     go_enter Tryz.func86, Tryz.ntmps86
     go_wp2_with fail
     refine cq (HS1.out _) ?_;generalize w.alloc (.cells #[.int .i8 0, .string ⟨#[]⟩, .slice none 0 0, .bool false, .string ⟨#[]⟩, .int .i64 0, .int .i64 0] 64) = W1 at *
     generalize HR0 : w.heap.size = R at *
     have p0 := Blk.cell HW1.out 0;have p1 := Blk.cell HW1.out 1;have p2 := Blk.cell HW1.out 2;have p3 := Blk.cell HW1.out 3;have p4 := Blk.cell HW1.out 4;have p5 := Blk.cell HW1.out 5;have p6 := Blk.cell HW1.out 6;have r := fun i => Blk.frozen HW1.out i
     go_wp2_with fail
     refine cq (HS2.out _) ?_
     go_wp2_with fail
     refine cq (HS3.out _) ?_
     go_wp2_with fail
     refine cq (HTk.out _) ?_
     go_wp2_with fail
     refine cq (HBl.out _) ?_
     go_wp2;refine wp_region_held_drew (S := fun _ => True) (by kernel_rfl) ?_ (fun hHeld => ?_)
     ·(try dsimp only);(try trivial)
     change wpAnyH _ _ _ _ _ 21 #[false, false, false, false, false, false, false, false, false, false, false, false, false, false, false, false, false, false, false, false, false] _ _;iterate 17 (refine nxT (v := ?_) rfl rfl hHeld ?_ ?_; rotate_left; (· (intro w hSw; (try dsimp only at hSw); go_simp; try with_reducible rfl)); (try simp only [nx, List.set]))
     refine held_call (i := 17) rfl (by kernel_rfl) (by kernel_rfl) (fun K hK => ?_);go_simp;refine cq (HSk.out _) ?_;(try go_simp);refine hK.out _ _ ?_ (fun hHeld' => ?_)
     ·(try dsimp only);(try trivial)
     clear hK K hHeld;have hHeld := hHeld';clear hHeld';(try simp only [Act.put, List.setIfInBounds_toArray, List.set_cons_zero, List.set_cons_succ]);(refine nxT (v := ?_) rfl rfl hHeld ?_ ?_; rotate_left; (· (intro w hSw; (try dsimp only at hSw); go_simp; try with_reducible rfl)); (try simp only [nx, List.set]));have HW2 := hide (Blk.drew HW1.out);have HB2 := hide HB1.out.drew;clear HW1 HB1 p0 p1 p2 p3 p4 p5 p6 r;generalize W1.drew = W2 at *
     have p0 := Blk.cell HW2.out 0;have p1 := Blk.cell HW2.out 1;have p2 := Blk.cell HW2.out 2;have p3 := Blk.cell HW2.out 3;have p4 := Blk.cell HW2.out 4;have p5 := Blk.cell HW2.out 5;have p6 := Blk.cell HW2.out 6;have r := fun i => Blk.frozen HW2.out i;refine held_call (i := 19) rfl (by kernel_rfl) (by kernel_rfl) (fun K hK => ?_);go_simp;(try dsimp only);refine hK.out _ _ ?_ (fun hHeld' => ?_)
     ·(try trivial)
     clear hK K hHeld;have hHeld := hHeld';clear hHeld';(try simp only [Act.put, List.setIfInBounds_toArray, List.set_cons_zero, List.set_cons_succ]);(refine nxT (v := ?_) rfl rfl hHeld ?_ ?_; rotate_left; (· (intro w hSw; (try dsimp only at hSw); go_simp; try with_reducible rfl)); (try simp only [nx, List.set]));refine wpAnyH_done (by kernel_rfl) ?_ _;go_wp2;refine tok_ret_piece rfl rfl rfl (put7_blk HW2.out _ _ _ _ _ _ _) ?_;exact PcR.no HR0 Hr.out (below_put7 HB2.out (Nat.le_refl R) _ _ _ _ _ _ _) rfl
   | false =>
    rw [h3] at HS3
    cases h4 : ([60] : L).isPrefixOf (D.drop at_) with
    | true =>
     rw [h4] at HS4;rw [piece_start h1 h2 h3 h4] at ho;rw [ho] at HSt;clear HB0 HI HM HS5 HTA HTc HTl HX0 HXA;clear h1 h2 h3 h4 ho
     go_enter Tryz.func86, Tryz.ntmps86
     go_wp2_with fail
     refine cq (HS1.out _) ?_;generalize w.alloc (.cells #[.int .i8 0, .string ⟨#[]⟩, .slice none 0 0, .bool false, .string ⟨#[]⟩, .int .i64 0, .int .i64 0] 64) = W1 at *
     generalize HR0 : w.heap.size = R at *
     have p0 := Blk.cell HW1.out 0;have p1 := Blk.cell HW1.out 1;have p2 := Blk.cell HW1.out 2;have p3 := Blk.cell HW1.out 3;have p4 := Blk.cell HW1.out 4;have p5 := Blk.cell HW1.out 5;have p6 := Blk.cell HW1.out 6;have r := fun i => Blk.frozen HW1.out i
     go_wp2_with fail
     refine cq (HS2.out _) ?_
     go_wp2_with fail
     refine cq (HS3.out _) ?_
     go_wp2_with fail
     refine cq (HS4.out _) ?_
     have HBz := hide (show R ≤ W1.heap.size by have := HB1.out.size; omega)
     cases o with
     | none =>
      go_wp2_with fail
      refine (HSt.out _).mono ?_;rintro e w2 ⟨b2, rfl⟩;have HW2 := hide (Blk.go HW1.out b2);have HB2 := hide (HB1.out.trans (b2.mono HBz.out));clear HW1 HB1 p0 p1 p2 p3 p4 p5 p6 r b2;unfold zeroTok;have p0 := Blk.cell HW2.out 0;have p1 := Blk.cell HW2.out 1;have p2 := Blk.cell HW2.out 2;have p3 := Blk.cell HW2.out 3;have p4 := Blk.cell HW2.out 4;have p5 := Blk.cell HW2.out 5;have p6 := Blk.cell HW2.out 6;have r := fun i => Blk.frozen HW2.out i;go_wp2;refine tok_ret_piece rfl rfl rfl (put7_blk HW2.out _ _ _ _ _ _ _) ?_;exact PcR.no HR0 rfl (below_put7 HB2.out (Nat.le_refl R) _ _ _ _ _ _ _) rfl
     | some t =>
      go_wp2_with fail
      refine (HSt.out _).mono ?_;rintro e w2 ⟨b2, A, c, rfl, o2⟩;have HW2 := hide (Blk.go HW1.out b2);have HB2 := hide (HB1.out.trans (b2.mono HBz.out));have HO2 := hide (o2.mono (base' := R) HBz.out);clear HW1 HB1 p0 p1 p2 p3 p4 p5 p6 r b2 o2;unfold tokCells;have p0 := Blk.cell HW2.out 0;have p1 := Blk.cell HW2.out 1;have p2 := Blk.cell HW2.out 2;have p3 := Blk.cell HW2.out 3;have p4 := Blk.cell HW2.out 4;have p5 := Blk.cell HW2.out 5;have p6 := Blk.cell HW2.out 6;have r := fun i => Blk.frozen HW2.out i;go_wp2;refine tok_ret_piece rfl rfl rfl (put7_blk HW2.out _ _ _ _ _ _ _) ?_;exact PcR.yes HR0 rfl (below_put7 HB2.out (Nat.le_refl R) _ _ _ _ _ _ _) rfl (put7_own HO2.out (own_blk_ne HO2.out HW2.out (by decide)) _ _ _ _ _ _ _)
    | false =>
     rw [h4] at HS4;rw [piece_text h4] at ho;unfold Tk.text at ho;dsimp only at ho;unfold tillAt at HTl;have hcutl := fun v => tillAt_neg v sCut;have HX2 := HX0.out at_;obtain ⟨en, hen⟩ : ∃ en : Nat, (Tk.till [60] (D.drop at_)).getD (D.drop at_).length = en := ⟨_, rfl⟩;rw [hen] at ho;have hxe := HX0.out at_ en;obtain ⟨tx, htx⟩ : ∃ tx, (D.drop at_).take en = tx := ⟨_, rfl⟩;rw [htx] at ho hxe
     have hel : at_ + en ≤ s.size ∧ tx.length ≤ s.size := by
      have h0 : (D.drop at_).length = s.size - at_ := by rw [List.length_drop, HDl.out]
      have h1 : tx.length ≤ (D.drop at_).length := by rw [← htx, List.length_take]; omega
      have h2 : en ≤ (D.drop at_).length := by
       rw [← hen]
       cases ht : Tk.till [60] (D.drop at_) with
       | none => simp
       | some q => have := till_len ht; simp at this ⊢; omega
      omega
     obtain ⟨x, hx⟩ : ∃ x, at_ + en = x := ⟨_, rfl⟩;rw [hx] at hxe hel ho;have HTx := hide (fun W => HTc.out tx W hel.2);have htn := tillAt_neg tx sCut;have hb2 : 0 ≤ (at_ : Int) ∧ (at_ : Int) ≤ (x : Int) ∧ (x : Int) ≤ (s.size : Int) := by omega
     have gx : ¬ (x : Int) < 0 := by omega
     cases ht : Tk.till [60] (D.drop at_) with
     | none =>
      rw [ht] at HTl hen;dsimp only at HTl;have hxz : x = s.size := by rw [Option.getD_none, List.length_drop, HDl.out] at hen; omega
      subst hxz
      by_cases hcut : Lib.index tx [93, 93, 62] < 0
      ·have gz : tillAt tx sCut 0 < 0 := htn.2 hcut;have Hr := hide (show o = some (⟨2, [], [], false, tx, at_, s.size⟩ : Tok) by rw [← ho, if_pos hcut]);generalize tillAt tx sCut 0 = z at *
       clear ho hcut hen htx hx htn hcutl HX2 ht h1 h2 h3 h4 hel;clear HB0 HI HM HS5 HSt HTA HTc HX0 HXA
       go_enter Tryz.func86, Tryz.ntmps86
       go_wp2_with fail
       refine cq (HS1.out _) ?_;generalize w.alloc (.cells #[.int .i8 0, .string ⟨#[]⟩, .slice none 0 0, .bool false, .string ⟨#[]⟩, .int .i64 0, .int .i64 0] 64) = W1 at *
       generalize HR0 : w.heap.size = R at *
       have p0 := Blk.cell HW1.out 0;have p1 := Blk.cell HW1.out 1;have p2 := Blk.cell HW1.out 2;have p3 := Blk.cell HW1.out 3;have p4 := Blk.cell HW1.out 4;have p5 := Blk.cell HW1.out 5;have p6 := Blk.cell HW1.out 6;have r := fun i => Blk.frozen HW1.out i
       go_wp2_with fail
       refine cq (HS2.out _) ?_
       go_wp2_with fail
       refine cq (HS3.out _) ?_
       go_wp2_with fail
       refine cq (HS4.out _) ?_
       go_wp2_with fail
       refine cq (HTl.out _) ?_
       go_wp2;refine wp_region_held_drew (S := fun _ => True) (by kernel_rfl) ?_ (fun hHeld => ?_)
       ·(try dsimp only);(try trivial)
       change wpAnyH _ _ _ _ _ 15 #[false, false, false, false, false, false, false, false, false, false, false, false, false, false, false] _ _;iterate 11 (refine nxT (v := ?_) rfl rfl hHeld ?_ ?_; rotate_left; (· (intro w hSw; (try dsimp only at hSw); go_simp; try with_reducible rfl)); (try simp only [nx, List.set]))
       refine held_call (i := 11) rfl (by kernel_rfl) (by kernel_rfl) (fun K hK => ?_);go_simp;refine cq (HTx.out _) ?_;(try go_simp);refine hK.out _ _ ?_ (fun hHeld' => ?_)
       ·(try dsimp only);(try trivial)
       clear hK K hHeld;have hHeld := hHeld';clear hHeld';(try simp only [Act.put, List.setIfInBounds_toArray, List.set_cons_zero, List.set_cons_succ]);(refine nxT (v := ?_) rfl rfl hHeld ?_ ?_; rotate_left; (· (intro w hSw; (try dsimp only at hSw); go_simp; try with_reducible rfl)); (try simp only [nx, List.set]));have HW2 := hide (Blk.drew HW1.out);have HB2 := hide HB1.out.drew;clear HW1 HB1 p0 p1 p2 p3 p4 p5 p6 r;generalize W1.drew = W2 at *
       have p0 := Blk.cell HW2.out 0;have p1 := Blk.cell HW2.out 1;have p2 := Blk.cell HW2.out 2;have p3 := Blk.cell HW2.out 3;have p4 := Blk.cell HW2.out 4;have p5 := Blk.cell HW2.out 5;have p6 := Blk.cell HW2.out 6;have r := fun i => Blk.frozen HW2.out i;refine held_call (i := 13) rfl (by kernel_rfl) (by kernel_rfl) (fun K hK => ?_);go_simp;(try dsimp only);refine hK.out _ _ ?_ (fun hHeld' => ?_)
       ·(try trivial)
       clear hK K hHeld;have hHeld := hHeld';clear hHeld';(try simp only [Act.put, List.setIfInBounds_toArray, List.set_cons_zero, List.set_cons_succ]);(refine nxT (v := ?_) rfl rfl hHeld ?_ ?_; rotate_left; (· (intro w hSw; (try dsimp only at hSw); go_simp; try with_reducible rfl)); (try simp only [nx, List.set]));refine wpAnyH_done (by kernel_rfl) ?_ _;go_wp2;refine tok_ret_piece rfl rfl rfl (put7_blk HW2.out _ _ _ _ _ _ _) ?_;exact PcR.yes HR0 Hr.out (below_put7 HB2.out (Nat.le_refl R) _ _ _ _ _ _ _) rfl (World.ownsRow_nil _ _ _ _)
      have gz : ¬ tillAt tx sCut 0 < 0 := fun h => hcut (htn.1 h);have Hr := hide (show o = none by rw [← ho, if_neg hcut]);generalize tillAt tx sCut 0 = z at *
      clear ho hcut hen htx hx htn hcutl HX2 ht h1 h2 h3 h4 hel;clear HB0 HI HM HS5 HSt HTA HTc HX0 HXA
      go_enter Tryz.func86, Tryz.ntmps86
      go_wp2_with fail
      refine cq (HS1.out _) ?_;generalize w.alloc (.cells #[.int .i8 0, .string ⟨#[]⟩, .slice none 0 0, .bool false, .string ⟨#[]⟩, .int .i64 0, .int .i64 0] 64) = W1 at *
      generalize HR0 : w.heap.size = R at *
      have p0 := Blk.cell HW1.out 0;have p1 := Blk.cell HW1.out 1;have p2 := Blk.cell HW1.out 2;have p3 := Blk.cell HW1.out 3;have p4 := Blk.cell HW1.out 4;have p5 := Blk.cell HW1.out 5;have p6 := Blk.cell HW1.out 6;have r := fun i => Blk.frozen HW1.out i
      go_wp2_with fail
      refine cq (HS2.out _) ?_
      go_wp2_with fail
      refine cq (HS3.out _) ?_
      go_wp2_with fail
      refine cq (HS4.out _) ?_
      go_wp2_with fail
      refine cq (HTl.out _) ?_
      go_wp2;refine wp_region_held_drew (S := fun _ => True) (by kernel_rfl) ?_ (fun hHeld => ?_)
      ·(try dsimp only);(try trivial)
      change wpAnyH _ _ _ _ _ 15 #[false, false, false, false, false, false, false, false, false, false, false, false, false, false, false] _ _;iterate 11 (refine nxT (v := ?_) rfl rfl hHeld ?_ ?_; rotate_left; (· (intro w hSw; (try dsimp only at hSw); go_simp; try with_reducible rfl)); (try simp only [nx, List.set]))
      refine held_call (i := 11) rfl (by kernel_rfl) (by kernel_rfl) (fun K hK => ?_);go_simp;refine cq (HTx.out _) ?_;(try go_simp);refine hK.out _ _ ?_ (fun hHeld' => ?_)
      ·(try dsimp only);(try trivial)
      clear hK K hHeld;have hHeld := hHeld';clear hHeld';(try simp only [Act.put, List.setIfInBounds_toArray, List.set_cons_zero, List.set_cons_succ]);(refine nxT (v := ?_) rfl rfl hHeld ?_ ?_; rotate_left; (· (intro w hSw; (try dsimp only at hSw); go_simp; try with_reducible rfl)); (try simp only [nx, List.set]));have HW2 := hide (Blk.drew HW1.out);have HB2 := hide HB1.out.drew;clear HW1 HB1 p0 p1 p2 p3 p4 p5 p6 r;generalize W1.drew = W2 at *
      have p0 := Blk.cell HW2.out 0;have p1 := Blk.cell HW2.out 1;have p2 := Blk.cell HW2.out 2;have p3 := Blk.cell HW2.out 3;have p4 := Blk.cell HW2.out 4;have p5 := Blk.cell HW2.out 5;have p6 := Blk.cell HW2.out 6;have r := fun i => Blk.frozen HW2.out i;refine held_call (i := 13) rfl (by kernel_rfl) (by kernel_rfl) (fun K hK => ?_);go_simp;(try dsimp only);refine hK.out _ _ ?_ (fun hHeld' => ?_)
      ·(try trivial)
      clear hK K hHeld;have hHeld := hHeld';clear hHeld';(try simp only [Act.put, List.setIfInBounds_toArray, List.set_cons_zero, List.set_cons_succ]);(refine nxT (v := ?_) rfl rfl hHeld ?_ ?_; rotate_left; (· (intro w hSw; (try dsimp only at hSw); go_simp; try with_reducible rfl)); (try simp only [nx, List.set]));refine wpAnyH_done (by kernel_rfl) ?_ _;go_wp2;refine tok_ret_piece rfl rfl rfl (put7_blk HW2.out _ _ _ _ _ _ _) ?_;exact PcR.no HR0 Hr.out (below_put7 HB2.out (Nat.le_refl R) _ _ _ _ _ _ _) (by rw [decide_eq_false (by omega)])
     | some q =>
      rw [ht] at HTl hen;dsimp only at HTl;rw [Option.getD_some] at hen;rw [show at_ + q = x by omega] at HTl
      by_cases hcut : Lib.index tx [93, 93, 62] < 0
      ·have gz : tillAt tx sCut 0 < 0 := htn.2 hcut;have Hr := hide (show o = some (⟨2, [], [], false, tx, at_, x⟩ : Tok) by rw [← ho, if_pos hcut]);generalize tillAt tx sCut 0 = z at *
       clear ho hcut hen htx hx htn hcutl HX2 ht h1 h2 h3 h4 hel;clear HB0 HI HM HS5 HSt HTA HTc HX0 HXA
       go_enter Tryz.func86, Tryz.ntmps86
       go_wp2_with fail
       refine cq (HS1.out _) ?_;generalize w.alloc (.cells #[.int .i8 0, .string ⟨#[]⟩, .slice none 0 0, .bool false, .string ⟨#[]⟩, .int .i64 0, .int .i64 0] 64) = W1 at *
       generalize HR0 : w.heap.size = R at *
       have p0 := Blk.cell HW1.out 0;have p1 := Blk.cell HW1.out 1;have p2 := Blk.cell HW1.out 2;have p3 := Blk.cell HW1.out 3;have p4 := Blk.cell HW1.out 4;have p5 := Blk.cell HW1.out 5;have p6 := Blk.cell HW1.out 6;have r := fun i => Blk.frozen HW1.out i
       go_wp2_with fail
       refine cq (HS2.out _) ?_
       go_wp2_with fail
       refine cq (HS3.out _) ?_
       go_wp2_with fail
       refine cq (HS4.out _) ?_
       go_wp2_with fail
       refine cq (HTl.out _) ?_
       go_wp2;refine wp_region_held_drew (S := fun _ => True) (by kernel_rfl) ?_ (fun hHeld => ?_)
       ·(try dsimp only);(try trivial)
       change wpAnyH _ _ _ _ _ 15 #[false, false, false, false, false, false, false, false, false, false, false, false, false, false, false] _ _;iterate 11 (refine nxT (v := ?_) rfl rfl hHeld ?_ ?_; rotate_left; (· (intro w hSw; (try dsimp only at hSw); go_simp; try with_reducible rfl)); (try simp only [nx, List.set]))
       refine held_call (i := 11) rfl (by kernel_rfl) (by kernel_rfl) (fun K hK => ?_);go_simp;refine cq (HTx.out _) ?_;(try go_simp);refine hK.out _ _ ?_ (fun hHeld' => ?_)
       ·(try dsimp only);(try trivial)
       clear hK K hHeld;have hHeld := hHeld';clear hHeld';(try simp only [Act.put, List.setIfInBounds_toArray, List.set_cons_zero, List.set_cons_succ]);(refine nxT (v := ?_) rfl rfl hHeld ?_ ?_; rotate_left; (· (intro w hSw; (try dsimp only at hSw); go_simp; try with_reducible rfl)); (try simp only [nx, List.set]));have HW2 := hide (Blk.drew HW1.out);have HB2 := hide HB1.out.drew;clear HW1 HB1 p0 p1 p2 p3 p4 p5 p6 r;generalize W1.drew = W2 at *
       have p0 := Blk.cell HW2.out 0;have p1 := Blk.cell HW2.out 1;have p2 := Blk.cell HW2.out 2;have p3 := Blk.cell HW2.out 3;have p4 := Blk.cell HW2.out 4;have p5 := Blk.cell HW2.out 5;have p6 := Blk.cell HW2.out 6;have r := fun i => Blk.frozen HW2.out i;refine held_call (i := 13) rfl (by kernel_rfl) (by kernel_rfl) (fun K hK => ?_);go_simp;(try dsimp only);refine hK.out _ _ ?_ (fun hHeld' => ?_)
       ·(try trivial)
       clear hK K hHeld;have hHeld := hHeld';clear hHeld';(try simp only [Act.put, List.setIfInBounds_toArray, List.set_cons_zero, List.set_cons_succ]);(refine nxT (v := ?_) rfl rfl hHeld ?_ ?_; rotate_left; (· (intro w hSw; (try dsimp only at hSw); go_simp; try with_reducible rfl)); (try simp only [nx, List.set]));refine wpAnyH_done (by kernel_rfl) ?_ _;go_wp2;refine tok_ret_piece rfl rfl rfl (put7_blk HW2.out _ _ _ _ _ _ _) ?_;exact PcR.yes HR0 Hr.out (below_put7 HB2.out (Nat.le_refl R) _ _ _ _ _ _ _) rfl (World.ownsRow_nil _ _ _ _)
      have gz : ¬ tillAt tx sCut 0 < 0 := fun h => hcut (htn.1 h);have Hr := hide (show o = none by rw [← ho, if_neg hcut]);generalize tillAt tx sCut 0 = z at *
      clear ho hcut hen htx hx htn hcutl HX2 ht h1 h2 h3 h4 hel;clear HB0 HI HM HS5 HSt HTA HTc HX0 HXA
      go_enter Tryz.func86, Tryz.ntmps86
      go_wp2_with fail
      refine cq (HS1.out _) ?_;generalize w.alloc (.cells #[.int .i8 0, .string ⟨#[]⟩, .slice none 0 0, .bool false, .string ⟨#[]⟩, .int .i64 0, .int .i64 0] 64) = W1 at *
      generalize HR0 : w.heap.size = R at *
      have p0 := Blk.cell HW1.out 0;have p1 := Blk.cell HW1.out 1;have p2 := Blk.cell HW1.out 2;have p3 := Blk.cell HW1.out 3;have p4 := Blk.cell HW1.out 4;have p5 := Blk.cell HW1.out 5;have p6 := Blk.cell HW1.out 6;have r := fun i => Blk.frozen HW1.out i
      go_wp2_with fail
      refine cq (HS2.out _) ?_
      go_wp2_with fail
      refine cq (HS3.out _) ?_
      go_wp2_with fail
      refine cq (HS4.out _) ?_
      go_wp2_with fail
      refine cq (HTl.out _) ?_
      go_wp2;refine wp_region_held_drew (S := fun _ => True) (by kernel_rfl) ?_ (fun hHeld => ?_)
      ·(try dsimp only);(try trivial)
      change wpAnyH _ _ _ _ _ 15 #[false, false, false, false, false, false, false, false, false, false, false, false, false, false, false] _ _;iterate 11 (refine nxT (v := ?_) rfl rfl hHeld ?_ ?_; rotate_left; (· (intro w hSw; (try dsimp only at hSw); go_simp; try with_reducible rfl)); (try simp only [nx, List.set]))
      refine held_call (i := 11) rfl (by kernel_rfl) (by kernel_rfl) (fun K hK => ?_);go_simp;refine cq (HTx.out _) ?_;(try go_simp);refine hK.out _ _ ?_ (fun hHeld' => ?_)
      ·(try dsimp only);(try trivial)
      clear hK K hHeld;have hHeld := hHeld';clear hHeld';(try simp only [Act.put, List.setIfInBounds_toArray, List.set_cons_zero, List.set_cons_succ]);(refine nxT (v := ?_) rfl rfl hHeld ?_ ?_; rotate_left; (· (intro w hSw; (try dsimp only at hSw); go_simp; try with_reducible rfl)); (try simp only [nx, List.set]));have HW2 := hide (Blk.drew HW1.out);have HB2 := hide HB1.out.drew;clear HW1 HB1 p0 p1 p2 p3 p4 p5 p6 r;generalize W1.drew = W2 at *
      have p0 := Blk.cell HW2.out 0;have p1 := Blk.cell HW2.out 1;have p2 := Blk.cell HW2.out 2;have p3 := Blk.cell HW2.out 3;have p4 := Blk.cell HW2.out 4;have p5 := Blk.cell HW2.out 5;have p6 := Blk.cell HW2.out 6;have r := fun i => Blk.frozen HW2.out i;refine held_call (i := 13) rfl (by kernel_rfl) (by kernel_rfl) (fun K hK => ?_);go_simp;(try dsimp only);refine hK.out _ _ ?_ (fun hHeld' => ?_)
      ·(try trivial)
      clear hK K hHeld;have hHeld := hHeld';clear hHeld';(try simp only [Act.put, List.setIfInBounds_toArray, List.set_cons_zero, List.set_cons_succ]);(refine nxT (v := ?_) rfl rfl hHeld ?_ ?_; rotate_left; (· (intro w hSw; (try dsimp only at hSw); go_simp; try with_reducible rfl)); (try simp only [nx, List.set]));refine wpAnyH_done (by kernel_rfl) ?_ _;go_wp2;refine tok_ret_piece rfl rfl rfl (put7_blk HW2.out _ _ _ _ _ _ _) ?_;exact PcR.no HR0 Hr.out (below_put7 HB2.out (Nat.le_refl R) _ _ _ _ _ _ _) (by rw [decide_eq_false (by omega)])
end
end Go.Proofs.YtbbpkcddifmieaaGreatDoor
