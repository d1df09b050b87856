/- The piece at a byte: the document's One, and the program's: plain words, and the document's. · The piece at a byte: the document's One, and the program's. (Printed by wip/genTkDp.py.) · Tokens: the document's All: a text's tokens. -/
import Derived.Test.YtbbpkcddifmieaaGreatDoorSw14
import Derived.Test.YtbbpkcddifmieaaGreatDoorSw18
import Derived.Test.YtbbpkcddifmieaaGreatDoorSw42
set_option linter.unusedSimpArgs false
set_option linter.unusedVariables false
namespace Go.Proofs.YtbbpkcddifmieaaGreatDoor
section
open Go.RowKit Tk

namespace Utf
theorem cont_low : ∀ (l : List UInt8) (k : Nat) (r n lo hi : Int), hi ≤ 191 → 0 ≤ (cont l k r n lo hi).1 → ∀ i, i < k → ∃ c, l[i]? = some c ∧ c.toNat ≤ 191
 | l, 0, _, _, _, _, _, _, i, hi' => by omega
 | [], k + 1, _, _, _, _, _, h, _, _ => by simp [cont] at h
 | c :: l, k + 1, r, n, lo, hi, hlo, h, i, hi' => by
  simp only [cont] at h
  split at h
  ·simp at h
  rename_i hb
  cases i with
  | zero => exact ⟨c, rfl, by omega⟩
  | succ i =>
   obtain ⟨d, h1, h2⟩ := cont_low l k _ _ 128 191 (by omega) h i (by omega);exact ⟨d, by simpa using h1, h2⟩
theorem follow_hi (c : Int) : (follow c).2.2.2 ≤ 191 := by
 unfold follow;split
 ·exact Int.le_refl _
 split
 ·exact Int.le_refl _
 split
 ·exact Int.le_refl _
 split
 ·dsimp only; split <;> omega
 dsimp only; split <;> omega
theorem piece_low {l : List UInt8} (h : 0 ≤ (piece l).1) (i : Nat) (h1 : 0 < i) (h2 : i < (piece l).2.toNat) : ∃ c, l[i]? = some c ∧ c.toNat ≤ 191 := by
 cases l with
 | nil => simp [piece] at h
 | cons c l =>
  have hb := byte_lt c;rw [piece_cons] at h h2
  by_cases hn : (follow c.toNat).1 < 0
  ·rw [if_pos hn] at h; simp at h
  rw [if_neg hn] at h h2;have h3 := cont_neg l (follow c.toNat).1.toNat (follow c.toNat).2.1 1 (follow c.toNat).2.2.1 (follow c.toNat).2.2.2 (follow_nonneg c)
  rcases h3 with h3 | ⟨_, h3⟩
  ·omega
  rw [h3] at h2
  cases i with
  | zero => omega
  | succ i =>
   obtain ⟨d, e1, e2⟩ := cont_low l _ _ _ _ _ (follow_hi _) h i (by omega);exact ⟨d, by simpa using e1, e2⟩
def goes (c : UInt8) : Bool := decide (128 ≤ c.toNat) && decide (c.toNat ≤ 191)
theorem goes_neg {c : UInt8} {l : List UInt8} (h : goes c = true) : (piece (c :: l)).1 < 0 := by
 unfold goes at h;simp only [Bool.and_eq_true, decide_eq_true_eq] at h
 have e : (follow (c.toNat : Int)).1 = -1 := by
  unfold follow;rw [if_neg (by omega), if_pos (by omega)]
 rw [piece_cons, if_pos (by omega)]
 decide
theorem valid_at_n (n : Nat) : ∀ (l : List UInt8), l.length ≤ n → valid l = true → ∀ (k : Nat) (c : UInt8), l[k]? = some c → goes c = false → 0 ≤ (piece (l.drop k)).1 := by
 induction n with
 | zero =>
  intro l hl hv k c hk hg;have := (List.getElem?_eq_some_iff.1 hk).1;omega
 | succ n ih =>
  intro l hl hv k c hk hg
  cases l with
  | nil => simp at hk
  | cons d l =>
   obtain ⟨h0, h1⟩ := valid_step hv;have hp := piece_n d l;have hhi := fun i => piece_high h0 i;have hlo := fun i => piece_low h0 i;obtain ⟨m, hm⟩ : ∃ m, (piece (d :: l)).2.toNat = m := ⟨_, rfl⟩;rw [hm] at hp h1;simp only [hm] at hhi hlo
   by_cases hkm : m ≤ k
   ·have hk2 : ((d :: l).drop m)[k - m]? = some c := by rw [List.getElem?_drop, show m + (k - m) = k by omega]; exact hk
    have := ih ((d :: l).drop m) (by rw [List.length_drop]; omega) h1 (k - m) c hk2 hg;rwa [List.drop_drop, show m + (k - m) = k by omega] at this
   by_cases hk0 : k = 0
   ·subst hk0; exact h0
   obtain ⟨a, ha, ha1⟩ := hhi k (by omega) (by omega);obtain ⟨b, hb, hb1⟩ := hlo k (by omega) (by omega);rw [hk] at ha hb;cases ha;cases hb;unfold goes at hg;simp [ha1, hb1] at hg
theorem valid_at {l : List UInt8} (hv : valid l = true) {k : Nat} {c : UInt8} (h : l[k]? = some c) : ((piece (l.drop k)).1 < 0) ↔ goes c = true := by
 obtain ⟨h1, h2⟩ := List.getElem?_eq_some_iff.1 h
 constructor
 ·intro hn;rw [← Bool.not_eq_false];intro hg;have := valid_at_n _ l (Nat.le_refl _) hv k c h hg;omega
 intro hg;rw [List.drop_eq_getElem_cons h1, h2];exact goes_neg hg
theorem goes_bits (c : UInt8) : (bits BinOp.and IntKind.u8 (c.toNat : Int) 192 == 128) = goes c := by
 have h : ∀ n : Fin 256, (bits BinOp.and IntKind.u8 ((UInt8.ofNat n.val).toNat : Int) 192 == 128) = goes (UInt8.ofNat n.val) := by decide +kernel
 have := h ⟨c.toNat, c.toNat_lt⟩
 simpa using this
end Utf
def oneO (D : L) (k : Int) : Option Tok :=
 if k < 0 ∨ (D.length : Int) ≤ k then none
 else if Utf.valid D = true ∧ ((D[k.toNat]?).map Utf.goes).getD true = false then Tk.one k.toNat (D.drop k.toNat) else none
theorem oneO_out {D : L} {k : Int} (h : k < 0 ∨ (D.length : Int) ≤ k) : oneO D k = none := by unfold oneO; rw [if_pos h]
theorem oneO_bad {D : L} {k : Int} (h : Utf.valid D = false) : oneO D k = none := by
 unfold oneO;split
 ·rfl
 rw [if_neg (fun h' => by rw [h] at h'; cases h'.1)]
theorem oneO_mid {D : L} {k : Nat} {c : UInt8} (hc : D[k]? = some c) (h : Utf.goes c = true) : oneO D k = none := by
 unfold oneO;split
 ·rfl
 rw [if_neg (fun h' => by have h2 := h'.2; rw [Int.toNat_natCast, hc, Option.map_some, Option.getD_some, h] at h2; cases h2)]
theorem oneO_at {D : L} {k : Nat} {c : UInt8} (hv : Utf.valid D = true) (hc : D[k]? = some c) (h : Utf.goes c = false) : oneO D k = Tk.one k (D.drop k) := by
 have := (List.getElem?_eq_some_iff.1 hc).1;unfold oneO;rw [if_neg (by omega), Int.toNat_natCast, if_pos ⟨hv, by rw [hc, Option.map_some, Option.getD_some, h]⟩]
theorem one_piece {D : L} {k : Nat} : Tk.one k (D.drop k) = (Tk.piece k (D.drop k)).bind fun t => if fine ((D.drop k).take (t.end_ - k)) then some t else none := rfl
end
section
open Go.RowKit Tk

theorem tok_ret_One14 {Q : Ending → World → Prop} {a : Act} {W : World} {R : Nat} {v0 v1 v2 v3 v4 v5 v6 : Value} {b : Bool} (ha : a.tmps.getD 4 undef = .pointer (some ⟨R, 0, none⟩)) (h5 : a.tmps.getD 5 undef = .bool b) (hd : a.defers = []) (hK : Blk W R 64 #[v0, v1, v2, v3, v4, v5, v6])
  (hQ : Q (.returned (.tuple #[.agg #[v0, v1, v2, v3, v4, v5, v6], .bool b])) W) : bodyPost Tryz.prog Tryz.f57 Q .ret a W := by
 have p0 : W.cell? ⟨R, 0, none⟩ = some v0 := hK.cell 0;have p1 : W.cell? ⟨R, 1, none⟩ = some v1 := hK.cell 1;have p2 : W.cell? ⟨R, 2, none⟩ = some v2 := hK.cell 2;have p3 : W.cell? ⟨R, 3, none⟩ = some v3 := hK.cell 3;have p4 : W.cell? ⟨R, 4, none⟩ = some v4 := hK.cell 4;have p5 : W.cell? ⟨R, 5, none⟩ = some v5 := hK.cell 5;have p6 : W.cell? ⟨R, 6, none⟩ = some v6 := hK.cell 6;refine bodyPost_ret (v := .tuple #[.agg #[v0, v1, v2, v3, v4, v5, v6], .bool b]) ?_ hd hQ;obtain ⟨tm, df⟩ := a;dsimp only at ha h5 ⊢;have ha' : tm[4]?.getD undef = .pointer (some ⟨R, 0, none⟩) := by simpa using ha
 have hb' : tm[5]?.getD undef = .bool b := by simpa using h5
 simp [results, Tryz.results57, go_sem, p0, p1, p2, p3, p4, p5, p6, ha', hb']
set_option maxHeartbeats 16000000 in
set_option maxRecDepth 20000 in
theorem refOne_any (s : ByteArray) (k : Int) (w : World) (hs : s.size ≤ 1000000000) :
  Calls Tryz.prog 57 #[.string s, .int .i64 k] w (OneR w (oneO s.data.toList k)) := by
 have HV := hide (fun W => refValid_any s W hs);have HPc := fun (n : Nat) W (h : n < s.size) => refPiece_any s n W h hs
 have hbadS : ∀ (a b : Nat) W, Calls Tryz.prog 19 #[.string (s.extract a b)] W fun e w' => e = .returned (.int .i64 (bad ((s.data.toList.drop a).take (b - a)))) ∧ w' = W := fun a b W => by
  have h := refBad_any (s.extract a b) W (by rw [extract_bstr, bstr_size, List.length_take, List.length_drop, size_list]; omega);rw [extract_bstr, bstr_list, ← extract_bstr] at h;exact h
 obtain ⟨D, hD⟩ : ∃ D, s.data.toList = D := ⟨_, rfl⟩;have hDl : D.length = s.size := by rw [← hD, size_list]
 have hidx : ∀ (k : Nat) (c : UInt8), D[k]? = some c → ∀ w, (Instr.index 9 (.string s) (.int .i64 (k : Int))).run Tryz.prog w = .ok (.int .u8 (c.toNat : Nat)) w := fun k c h => idx_run s k c (by rw [hD]; exact h);rw [hD] at HV HPc hbadS ⊢;obtain ⟨o, ho⟩ : ∃ o, oneO D k = o := ⟨_, rfl⟩;rw [ho];have HW1 := hide (Blk.new w 64 #[.int .i8 0, .string ⟨#[]⟩, .slice none 0 0, .bool false, .string ⟨#[]⟩, .int .i64 0, .int .i64 0]);have HB1 := hide (below_alloc w (.cells #[.int .i8 0, .string ⟨#[]⟩, .slice none 0 0, .bool false, .string ⟨#[]⟩, .int .i64 0, .int .i64 0] 64));clear hD

 by_cases hk0 : k < 0
 ·have Hr := hide (show o = none by rw [← ho, oneO_out (.inl hk0)]);have hd : decide (k < 0) = true := decide_eq_true hk0;clear ho hDl hidx HV HPc hbadS hk0
  go_enter Tryz.func57, Tryz.ntmps57
  iterate 14 go_step
  generalize w.alloc (.cells #[.int .i8 0, .string ⟨#[]⟩, .slice none 0 0, .bool false, .string ⟨#[]⟩, .int .i64 0, .int .i64 0] 64) = W1 at *
  generalize HR0 : w.heap.size = R at *
  have p0 := Blk.cell HW1.out 0;have p1 := Blk.cell HW1.out 1;have p2 := Blk.cell HW1.out 2;have p3 := Blk.cell HW1.out 3;have p4 := Blk.cell HW1.out 4;have p5 := Blk.cell HW1.out 5;have p6 := Blk.cell HW1.out 6;have r := fun i => Blk.frozen HW1.out i;go_wp2;refine tok_ret_One14 rfl rfl rfl (put7_blk HW1.out _ _ _ _ _ _ _) ?_;exact OneR.no' HR0 Hr.out (below_put7 HB1.out (Nat.le_refl R) _ _ _ _ _ _ _) rfl
 have hd : decide (k < 0) = false := decide_eq_false hk0
 by_cases hkl : (s.size : Int) ≤ k
 ·have Hr := hide (show o = none by rw [← ho, oneO_out (.inr (by omega))]);clear ho hDl hidx HV HPc hbadS hk0
  go_enter Tryz.func57, Tryz.ntmps57
  iterate 14 go_step
  generalize w.alloc (.cells #[.int .i8 0, .string ⟨#[]⟩, .slice none 0 0, .bool false, .string ⟨#[]⟩, .int .i64 0, .int .i64 0] 64) = W1 at *
  generalize HR0 : w.heap.size = R at *
  have p0 := Blk.cell HW1.out 0;have p1 := Blk.cell HW1.out 1;have p2 := Blk.cell HW1.out 2;have p3 := Blk.cell HW1.out 3;have p4 := Blk.cell HW1.out 4;have p5 := Blk.cell HW1.out 5;have p6 := Blk.cell HW1.out 6;have r := fun i => Blk.frozen HW1.out i;go_wp2;refine tok_ret_One14 rfl rfl rfl (put7_blk HW1.out _ _ _ _ _ _ _) ?_;exact OneR.no' HR0 Hr.out (below_put7 HB1.out (Nat.le_refl R) _ _ _ _ _ _ _) rfl
 obtain ⟨n, rfl⟩ : ∃ n : Nat, k = n := ⟨k.toNat, by omega⟩;have hn : n < s.size := by omega
 have hn1 : n + 1 ≤ s.size := by omega
 obtain ⟨c, hc⟩ : ∃ c, D[n]? = some c := ⟨_, List.getElem?_eq_getElem (by rw [hDl]; exact hn)⟩;have hix := hidx n c hc;have hgb := Utf.goes_bits c;have HP := hide (fun W => HPc n W hn);clear hidx HPc hk0
 cases hv : Utf.valid D with
 | false =>
  rw [hv] at HV;have Hr := hide (show o = none by rw [← ho, oneO_bad hv]);clear ho hDl hv hc HP hbadS hix hgb
  go_enter Tryz.func57, Tryz.ntmps57
  go_wp2_with fail
  refine (HV.out _).mono ?_;rintro e w1 ⟨rfl, b1⟩;have HW2 := hide (Blk.go HW1.out b1);have HB2 := hide (HB1.out.trans (b1.mono HB1.out.size));clear HW1 HB1 b1;generalize HR0 : w.heap.size = R at *
  have p0 := Blk.cell HW2.out 0;have p1 := Blk.cell HW2.out 1;have p2 := Blk.cell HW2.out 2;have p3 := Blk.cell HW2.out 3;have p4 := Blk.cell HW2.out 4;have p5 := Blk.cell HW2.out 5;have p6 := Blk.cell HW2.out 6;have r := fun i => Blk.frozen HW2.out i;go_wp2;refine tok_ret_One14 rfl rfl rfl (put7_blk HW2.out _ _ _ _ _ _ _) ?_;exact OneR.no' HR0 Hr.out (below_put7 HB2.out (Nat.le_refl R) _ _ _ _ _ _ _) rfl
 | true =>
  rw [hv] at HV
  cases hg : Utf.goes c with
  | true =>
   rw [hg] at hgb;have Hr := hide (show o = none by rw [← ho, oneO_mid hc hg]);clear ho hDl hv hc HP hbadS hg
   go_enter Tryz.func57, Tryz.ntmps57
   go_wp2_with fail
   refine (HV.out _).mono ?_;rintro e w1 ⟨rfl, b1⟩;have HW2 := hide (Blk.go HW1.out b1);have HB2 := hide (HB1.out.trans (b1.mono HB1.out.size));clear HW1 HB1 b1;generalize HR0 : w.heap.size = R at *
   have p0 := Blk.cell HW2.out 0;have p1 := Blk.cell HW2.out 1;have p2 := Blk.cell HW2.out 2;have p3 := Blk.cell HW2.out 3;have p4 := Blk.cell HW2.out 4;have p5 := Blk.cell HW2.out 5;have p6 := Blk.cell HW2.out 6;have r := fun i => Blk.frozen HW2.out i;go_wp2;refine tok_ret_One14 rfl rfl rfl (put7_blk HW2.out _ _ _ _ _ _ _) ?_;exact OneR.no' HR0 Hr.out (below_put7 HB2.out (Nat.le_refl R) _ _ _ _ _ _ _) rfl
  | false =>
   rw [hg] at hgb;rw [oneO_at hv hc hg, one_piece] at ho;obtain ⟨q, hq⟩ : ∃ q, Tk.piece n (D.drop n) = q := ⟨_, rfl⟩;rw [hq] at ho HP;have hdn : D.drop n ≠ [] := fun e => by have := congrArg List.length e; rw [List.length_drop, hDl] at this; simp at this; omega
   have HDl := hide hDl;clear hv hg hc hDl
   go_enter Tryz.func57, Tryz.ntmps57
   go_wp2_with fail
   refine (HV.out _).mono ?_;rintro e w1 ⟨rfl, b1⟩;have HW2 := hide (Blk.go HW1.out b1);have HB2 := hide (HB1.out.trans (b1.mono HB1.out.size));clear HW1 HB1 b1;generalize HR0 : w.heap.size = R at *
   cases q with
   | none =>
    have Hr := hide (show o = none by rw [← ho]; rfl);clear ho hq hbadS hdn
    go_wp2_with fail
    refine (HP.out _).mono ?_;rintro e w3 ⟨b3, kd, nm, em, tx, a0, e0, rfl⟩;have HW3 := hide (Blk.go HW2.out b3);have HB3 := hide (HB2.out.trans (b3.mono (by have := HB2.out.size; omega)));clear HW2 HB2 b3 HP;have HW4 := hide (Blk.alloc HW3.out (.cells #[.int .i8 kd, .string nm, .slice none 0 0, .bool em, .string tx, .int .i64 a0, .int .i64 e0] 64));have HB4 := hide (HB3.out.alloc (by have := HB3.out.size; omega) (.cells #[.int .i8 kd, .string nm, .slice none 0 0, .bool em, .string tx, .int .i64 a0, .int .i64 e0] 64))
    skip
    have p0 := Blk.cell HW3.out 0;have p1 := Blk.cell HW3.out 1;have p2 := Blk.cell HW3.out 2;have p3 := Blk.cell HW3.out 3;have p4 := Blk.cell HW3.out 4;have p5 := Blk.cell HW3.out 5;have p6 := Blk.cell HW3.out 6;have r := fun i => Blk.frozen HW3.out i;have hRlt := HW3.out.lt;go_wp2;refine tok_ret_One14 rfl rfl rfl (Blk.alloc (put7_blk HW3.out _ _ _ _ _ _ _) _) ?_;have HB5 := hide (below_put7 HB3.out (Nat.le_refl R) (.int .i8 0) (.string ⟨#[]⟩) (.slice none 0 0) (.bool false) (.string ⟨#[]⟩) (.int .i64 0) (.int .i64 0));exact OneR.no' HR0 Hr.out (HB5.out.alloc (by have := HB5.out.size; omega) _) rfl
   | some t =>
    obtain ⟨wd, rest, hwr, hwd, -⟩ := piece_word hdn hq;have hte := hwd.end_eq;have hwp := List.length_pos_iff.2 hwd.ne;have hlen := congrArg List.length hwr;rw [List.length_drop, HDl.out, List.length_append] at hlen;have hts : t.end_ ≤ s.size := by omega
    have htn : n ≤ t.end_ := by omega
    have hb : 0 ≤ (n : Int) ∧ (n : Int) ≤ (t.end_ : Int) ∧ (t.end_ : Int) ≤ (s.size : Int) := by omega
    have HBa := hide (fun W => hbadS n t.end_ W);obtain ⟨tx, htx⟩ : ∃ tx, (D.drop n).take (t.end_ - n) = tx := ⟨_, rfl⟩;have hbf := bad_fine tx;rw [htx] at HBa;have ho2 : (if fine tx = true then some t else none) = o := by rw [← ho, ← htx]; rfl
    obtain ⟨z, hz⟩ : ∃ z, bad tx = z := ⟨_, rfl⟩;rw [hz] at HBa hbf;clear ho hq hbadS hdn hwr hwd hte hwp hlen htx hz
    go_wp2_with fail
    refine (HP.out _).mono ?_;rintro e w3 ⟨b3, A, cc, rfl, o3⟩;have HW3 := hide (Blk.go HW2.out b3);have HB3 := hide (HB2.out.trans (b3.mono (by have := HB2.out.size; omega)));have HO3 := hide (o3.mono (base' := R) (by have := HB2.out.size; omega));clear HW2 HB2 b3 o3 HP;unfold tokCells;have HW4 := hide (Blk.alloc HW3.out (.cells #[.int .i8 t.kind, .string (bstr t.name), .slice A t.attrs.length cc, .bool t.empty, .string (bstr t.text), .int .i64 (t.at_ : Int), .int .i64 (t.end_ : Int)] 64));have HB4 := hide (HB3.out.alloc (by have := HB3.out.size; omega) (.cells #[.int .i8 t.kind, .string (bstr t.name), .slice A t.attrs.length cc, .bool t.empty, .string (bstr t.text), .int .i64 (t.at_ : Int), .int .i64 (t.end_ : Int)] 64));have HO4 := hide (HO3.out.alloc (.cells #[.int .i8 t.kind, .string (bstr t.name), .slice A t.attrs.length cc, .bool t.empty, .string (bstr t.text), .int .i64 (t.at_ : Int), .int .i64 (t.end_ : Int)] 64));have HT4 := hide (Blk.new w3 64 #[.int .i8 t.kind, .string (bstr t.name), .slice A t.attrs.length cc, .bool t.empty, .string (bstr t.text), .int .i64 (t.at_ : Int), .int .i64 (t.end_ : Int)]);have y6 := Blk.cell HT4.out 6;have p0 := Blk.cell HW4.out 0;have p1 := Blk.cell HW4.out 1;have p2 := Blk.cell HW4.out 2;have p3 := Blk.cell HW4.out 3;have p4 := Blk.cell HW4.out 4;have p5 := Blk.cell HW4.out 5;have p6 := Blk.cell HW4.out 6
    have r := fun i => Blk.frozen HW4.out i
    go_wp2_with fail
    refine cq (HBa.out _) ?_;generalize w3.alloc (.cells #[.int .i8 t.kind, .string (bstr t.name), .slice A t.attrs.length cc, .bool t.empty, .string (bstr t.text), .int .i64 (t.at_ : Int), .int .i64 (t.end_ : Int)] 64) = W4 at *
    generalize w3.heap.size = T at *
    have y0 := Blk.cell HT4.out 0;have y1 := Blk.cell HT4.out 1;have y2 := Blk.cell HT4.out 2;have y3 := Blk.cell HT4.out 3;have y4 := Blk.cell HT4.out 4;have y5 := Blk.cell HT4.out 5
    cases hf : fine tx with
    | false =>
     rw [hf] at hbf ho2;have Hr := hide (show o = none by rw [← ho2]; rfl);clear hf ho2;go_wp2;refine tok_ret_One14 rfl rfl rfl (put7_blk HW4.out _ _ _ _ _ _ _) ?_;exact OneR.no' HR0 Hr.out (below_put7 HB4.out (Nat.le_refl R) _ _ _ _ _ _ _) rfl
    | true =>
     rw [hf] at hbf ho2;have Hr := hide (show o = some t by rw [← ho2]; rfl);clear hf ho2;go_wp2;refine tok_ret_One14 rfl rfl rfl (put7_blk HW4.out _ _ _ _ _ _ _) ?_;subst HR0;exact OneR.yes Hr.out (below_put7 HB4.out (Nat.le_refl _) _ _ _ _ _ _ _) rfl (put7_own HO4.out (own_blk_ne HO4.out HW4.out (by decide)) _ _ _ _ _ _ _)

end
section
open Go.RowKit Tk

theorem one_row {D : L} {p : Nat} {ts : List Tok} (hv : Utf.valid D = true) (h : Row 0 (D.take p) (D.drop p) ts) (hp : p < D.length) : oneO D p = Tk.one p (D.drop p) := by
 obtain ⟨c, hc⟩ : ∃ c, D[p]? = some c := ⟨_, List.getElem?_eq_getElem hp⟩
 have hvd : Utf.valid (D.drop p) = true := by
  have e := Utf.valid_app h.valid (D.drop p);rw [List.take_append_drop] at e;rw [← e]; exact hv
 have hdc : D.drop p = c :: D.drop (p + 1) := drop_cons1 hc;rw [hdc] at hvd;have h0 := (Utf.valid_step hvd).1;rw [← hdc] at h0;refine oneO_at hv hc ?_;rw [Bool.eq_false_iff];intro hg;have := (Utf.valid_at hv hc).2 hg;omega

theorem grown_in {x : Tv} {B base n c : Nat} {A : Option Addr} {W w8 : World} {cs : List Value} {o : Obj} (h : x.In B W) (hr : W.ownsRow base 64 7 (.slice A n c) n cs) (hg : (W.alloc o).grownBy w8 (Value.slice A n c).ownBlock) : x.In B w8 := by
 refine (h.below (below_alloc W o)).turn (fun k _ hk hT => ?_) hg.size;refine (hg.block k hk fun e => ?_);obtain ⟨cs, fr, hh⟩ := (own_isT hr k e.symm).2;have hlt := (own_isT hr k e.symm).2.lt;exact hT ⟨cs, fr, (Below.heap_alloc _ _ _ hlt).trans hh⟩

set_option maxHeartbeats 8000000 in
set_option maxRecDepth 20000 in
theorem refTks_any (w : World) (s : ByteArray) (hs : s.size ≤ 1000000) :
  Calls Tryz.prog 30 #[.string s] w (TksR w s.data.toList) := by
 have HV := hide (fun W => refValid_any s W (by omega));obtain ⟨D, hD⟩ : ∃ D, s.data.toList = D := ⟨_, rfl⟩;have HD := hide hD;have HDl := hide (show D.length = s.size by rw [← hD, size_list]);have HO := hide (fun W k => refOne_any s k W (by omega));rw [hD] at HV HO ⊢;clear hD
 cases hv : Utf.valid D with
 | false =>
  rw [hv] at HV;have HP := hide (show AllP D (([] : List Tv).map (·.t)) 0 false by unfold AllP; rw [if_neg (by rw [hv]; simp)]; exact ⟨rfl, rfl, rfl⟩);clear hv HO
  go_enter Tryz.func30, Tryz.ntmps30
  go_wp2_with fail
  refine (HV.out _).mono ?_;rintro e w1 ⟨rfl, b1⟩;have B1 := hide b1;clear b1;go_wp2;go_ret3;exact ⟨[], none, 0, 0, false, HP.out, by simp, by simp, rfl, B1.out, Reads.none_, (fun a h => by cases h), (fun a h => by cases h), (fun x hx => by cases hx)⟩
 | true =>
  rw [hv] at HV;have Hv := hide hv;clear hv
  go_enter Tryz.func30, Tryz.ntmps30
  go_wp2_with fail
  refine (HV.out _).mono ?_;rintro e w1 ⟨rfl, b1⟩;have B1 := hide b1;clear b1 HV;go_wp2
  go_loopg [5, 6] s.size (fun g vl va wr => ∃ (p : Nat) (xs : List Tv) (A : Option Addr) (c : Nat), g = s.size - p ∧ p ≤ s.size ∧ va = .int .i64 (p : Int) ∧ vl = .slice A xs.length c ∧
   wr.ownsRow w.heap.size 64 7 (.slice A xs.length c) xs.length (tvRows xs) ∧ (∀ x ∈ xs, x.In w.heap.size wr) ∧ Below w.heap.size w wr ∧ Row 0 (D.take p) (D.drop p) (xs.map (·.t)))
  case atStart => exact ⟨0, [], none, 0, rfl, by omega, rfl, rfl, World.ownsRow_nil _ _ _ _, (fun x hx => by cases hx), B1.out, .nil _ _⟩
  case round =>
   obtain ⟨p, xs, A, c, hgg, hp, rfl, rfl, hrow, hi, hB, hR⟩ := hrel;have Hg := hide hgg;have Hrow := hide hrow;have Hi := hide hi;have HB := hide hB;have HR := hide hR;clear hgg hrow hi hB hR B1
   by_cases hlt : p < s.size
   ·have hone := HO.out wr (p : Int);rw [one_row Hv.out HR.out (by rw [HDl.out]; exact hlt)] at hone
    cases ho : Tk.one p (D.drop p) with
    | none =>
     rw [ho] at hone;have HX := hide (show Calls Tryz.prog 57 #[.string s, .int .i64 (p : Int)] wr fun e w' => Below wr.heap.size wr w' ∧ e = .returned (.tuple #[.agg #[.int .i8 0, .string ⟨#[]⟩, .slice none 0 0, .bool false, .string ⟨#[]⟩, .int .i64 0, .int .i64 0], .bool false]) from hone)
     have HP := hide (show AllP D (xs.map (·.t)) p false by
      unfold AllP;rw [if_pos Hv.out];have hl : (D.take p).length = p := by rw [List.length_take, HDl.out]; omega
      refine ⟨_, _, (List.take_append_drop p D).symm, HR.out, .inr (by rw [hl]; exact ho), hl.symm, ?_⟩
      have e1 : (D.drop p).isEmpty = false := by
       rw [Bool.eq_false_iff];intro e;have := congrArg List.length (List.isEmpty_iff.1 e);rw [List.length_drop, HDl.out] at this;simp at this;omega
      exact e1.symm)
     have Hlen := hide (show xs.length ≤ D.length by have := row_len HR.out; rw [List.length_map, List.length_take] at this; omega);clear hone ho HO HR
     go_wp2_with fail
     refine HX.out.mono ?_;rintro e w2 ⟨b2, rfl⟩;have B2 := hide (b2.alloc b2.size (.cells #[.int .i8 0, .string ⟨#[]⟩, .slice none 0 0, .bool false, .string ⟨#[]⟩, .int .i64 0, .int .i64 0] 64));clear b2;have Own2 := hide (own_below Hrow.out B2.out);have In2 := hide (fun x hx => (Hi.out x hx).below B2.out);have HB2 := hide (HB.out.trans (B2.out.mono HB.out.size));go_wp2;go_ret3;exact ⟨xs, A, c, p, _, HP.out, Hlen.out, own_cap Hrow.out, rfl, HB2.out, Reads.of_own Own2.out, above_own Own2.out, typed_own Own2.out, In2.out⟩
    | some t =>
     rw [ho] at hone
     have HX := hide (show Calls Tryz.prog 57 #[.string s, .int .i64 (p : Int)] wr fun e w' => Below wr.heap.size wr w' ∧ ∃ A c, e = .returned (.tuple #[.agg #[.int .i8 t.kind, .string (bstr t.name), .slice A t.attrs.length c, .bool t.empty, .string (bstr t.text), .int .i64 (t.at_ : Int), .int .i64 (t.end_ : Int)], .bool true]) ∧
      w'.ownsRow wr.heap.size 135 3 (.slice A t.attrs.length c) t.attrs.length (attrVs t.attrs) from hone)
     have HN := hide (row_next HR.out (by rw [HDl.out]; exact hlt) ho);have Hlen := hide (show xs.length ≤ D.length by have := row_len HR.out; rw [List.length_map, List.length_take] at this; omega);clear hone ho HO HR
     go_wp2_with fail
     refine HX.out.mono ?_;rintro e w2 ⟨b2, A2, c2, rfl, o2⟩;have N2 := hide (Tv.In.of_own o2);have Own2 := hide (own_below Hrow.out b2);have In2 := hide (fun x hx => (Hi.out x hx).below b2);have HB2 := hide (HB.out.trans (b2.mono HB.out.size));obtain ⟨O, hO⟩ : ∃ O, (Obj.cells #[.int .i8 t.kind, .string (bstr t.name), .slice A2 t.attrs.length c2, .bool t.empty, .string (bstr t.text), .int .i64 (t.at_ : Int), .int .i64 (t.end_ : Int)] 64) = O := ⟨_, rfl⟩;have Own3 := hide (Own2.out.alloc O);have In3 := hide (fun x hx => (In2.out x hx).below (below_alloc w2 O));have N3 := hide ((N2.out.below (below_alloc w2 O)).more HB.out.size);have HB3 := hide (HB2.out.alloc HB2.out.size O);have V3 := hide (show Blk (w2.alloc O) w2.heap.size 64 #[.int .i8 t.kind, .string (bstr t.name), .slice A2 t.attrs.length c2, .bool t.empty, .string (bstr t.text), .int .i64 (t.at_ : Int), .int .i64 (t.end_ : Int)] from by rw [← hO]; exact Blk.new _ _ _);have HVn := hide (show (Value.slice A xs.length c).ownBlock ≠ some w2.heap.size from fun e => by have := (Own2.out.lt _ e).2; omega);have Hxl := hide (show xs.length ≤ 1000000 by have := Hlen.out; have := HDl.out; omega);clear b2 o2 N2 Own2 In2 HB2;go_simp
     iterate 18 go_step
     try rw [hO]
     generalize w2.alloc O = W3 at *
     generalize w2.heap.size = V at *
     clear hO;have y0 := V3.out.cell 0;have y1 := V3.out.cell 1;have y2 := V3.out.cell 2;have y3 := V3.out.cell 3;have y4 := V3.out.cell 4;have y5 := V3.out.cell 5;have y6 := V3.out.cell 6
     go_wp2_with (at_builtin; go_loud (refine wpList_append_elem_at (W3.alloc (.cells (Tv.row ⟨t, A2, c2⟩).toArray 64)) rfl (.tmp 26) (.tmp 28) 52 rfl w.heap.size 64 _ 7 88 Tryz.underlying52 info_tok rfl (by omega) (.slice A xs.length c) xs.length (tvRows xs) rfl (Own3.out.alloc _) (Tv.row ⟨t, A2, c2⟩) rfl (tv_one ⟨t, A2, c2⟩) W3.heap.size (Blk.new W3 64 _) rfl (by unfold maxLen; have := Hxl.out; omega) (by have := Hxl.out; omega) (by have := HB3.out.size; simp; omega) ?_); intro gg cap w8 hown8 hgrow8 hlt8; have V8 := hide (Blk.grown (Blk.alloc V3.out (.cells (Tv.row ⟨t, A2, c2⟩).toArray 64)) hgrow8 HVn.out.symm); have z6 : w8.cell? ⟨V, 6, none⟩ = some (.int .i64 (t.end_ : Int)) := V8.out.cell 6; have Hgrow8 := hide hgrow8; have Hown8 := hide hown8; clear hown8 hgrow8 hlt8)
     have HBA := hide (HB3.out.alloc HB3.out.size (.cells (Tv.row ⟨t, A2, c2⟩).toArray 64));have HB8 := hide (HBA.out.grown Hgrow8.out HBA.out.size fun j e => (own_isT Own3.out j e).1);have Hgd := hide (show (W3.alloc (.cells (Tv.row ⟨t, A2, c2⟩).toArray 64)).grownBy w8 (Value.slice A xs.length c).ownBlock from Hgrow8.out)
     have In8 := hide (show ∀ x ∈ xs ++ [Tv.mk t A2 c2], x.In w.heap.size w8 from fun x hx => by
      rcases List.mem_append.1 hx with hx | hx
      ·exact grown_in (In3.out x hx) Own3.out Hgd.out
      simp only [List.mem_singleton] at hx;subst hx;exact grown_in N3.out Own3.out Hgd.out)
     go_roundg (s.size - t.end_)
     case measure => have := Hg.out; have := HN.out.1; have := HN.out.2.1; have := HDl.out; omega
     case rel => exact ⟨t.end_, xs ++ [⟨t, A2, c2⟩], some ⟨gg, 0, none⟩, cap, rfl, by have := HN.out.2.1; have := HDl.out; omega, rfl, by rw [List.length_append]; rfl, by rw [List.length_append, tvRows_snoc]; exact Hown8.out, In8.out, HB8.out, by rw [List.map_append]; exact HN.out.2.2⟩
   have hpe : p = s.size := by omega
   subst hpe
   have HP := hide (show AllP D (xs.map (·.t)) s.size true by
    unfold AllP;rw [if_pos Hv.out];refine ⟨D, [], (List.append_nil _).symm, ?_, .inl rfl, HDl.out.symm, rfl⟩;have h := HR.out;rw [List.take_of_length_le (by rw [HDl.out]; exact Nat.le_refl _), List.drop_of_length_le (by rw [HDl.out]; exact Nat.le_refl _)] at h;exact h)
   have Hlen := hide (show xs.length ≤ D.length by have := row_len HR.out; rw [List.length_map, List.length_take] at this; omega);go_wp2;go_ret3;exact ⟨xs, A, c, s.size, _, HP.out, Hlen.out, own_cap Hrow.out, rfl, HB.out, Reads.of_own Hrow.out, above_own Hrow.out, typed_own Hrow.out, Hi.out⟩
end
end Go.Proofs.YtbbpkcddifmieaaGreatDoor
