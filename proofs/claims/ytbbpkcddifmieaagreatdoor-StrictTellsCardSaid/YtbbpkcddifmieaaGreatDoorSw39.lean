/- The document's reading of tokens: an encoding's name. · The document's reading of tokens: the declaration. (Printed by wip/genTkDg.py.) · The document's Take: how many bytes a name at the front has. -/
import Derived.Test.YtbbpkcddifmieaaGreatDoorSw06
import Derived.Test.YtbbpkcddifmieaaGreatDoorSw31
import Derived.Test.YtbbpkcddifmieaaGreatDoorSw38
set_option linter.unusedSimpArgs false
set_option linter.unusedVariables false
namespace Go.Proofs.YtbbpkcddifmieaaGreatDoor
section
open Go.RowKit Tk

def encFrom (k : Nat) (l : L) : Bool := if k = 0 then Tk.encoding l else l.all encTail
theorem encFrom_yes {k : Nat} {c : UInt8} {r : L} (h : (if k = 0 then letter c else encTail c) = true) : encFrom k (c :: r) = encFrom (k + 1) r := by
 unfold encFrom;rw [if_neg (by omega : ¬ k + 1 = 0)]
 by_cases h0 : k = 0
 ·rw [if_pos h0] at h ⊢; show (letter c && r.all encTail) = _; rw [h, Bool.true_and]
 rw [if_neg h0] at h ⊢; rw [List.all_cons, h, Bool.true_and]
theorem encFrom_no {k : Nat} {c : UInt8} {r : L} (h : (if k = 0 then letter c else encTail c) = false) : encFrom k (c :: r) = false := by
 unfold encFrom
 by_cases h0 : k = 0
 ·rw [if_pos h0] at h ⊢; show (letter c && r.all encTail) = _; rw [h, Bool.false_and]
 rw [if_neg h0] at h ⊢; rw [List.all_cons, h, Bool.false_and]
theorem enc_let {k : Nat} {c : UInt8} (h : letter c = true) : (if k = 0 then letter c else encTail c) = true := by
 unfold encTail; rw [h]; simp
theorem enc_zero {k : Nat} {c : UInt8} (h : letter c = false) (hk : k = 0) : (if k = 0 then letter c else encTail c) = false := by rw [if_pos hk, h]
theorem enc_pos {k : Nat} {c : UInt8} (h : letter c = false) (hk : k ≠ 0) : (if k = 0 then letter c else encTail c) = (digit c || (c == 46 || (c == 95 || c == 45))) := by
 rw [if_neg hk]; unfold encTail; rw [h, Bool.false_or]; simp only [Bool.or_assoc]

set_option maxHeartbeats 4000000 in
theorem refEncoding_any (s : ByteArray) (w : World) (hs : s.size ≤ 1000000000) :
  Calls Tryz.prog 154 #[.string s] w fun e w' => e = .returned (.bool (Tk.encoding s.data.toList)) ∧ w' = w := by
 obtain ⟨D, hD⟩ : ∃ D, s.data.toList = D := ⟨_, rfl⟩;have hDl : D.length = s.size := by rw [← hD, size_list]
 have HD := hide hD;have HDl := hide hDl;obtain ⟨z, hz⟩ : ∃ z, Tk.encoding D = z := ⟨_, rfl⟩;have Hz := hide (show encFrom 0 (D.drop 0) = z from by rw [← hz]; rfl)
 have He := hide (show encFrom s.size [] = (!s.toList.isEmpty) from by
  have e1 : (!s.toList.isEmpty) = !decide (s.size = 0) := by
   rw [ByteArray.toList_eq, hD, ← hDl]
   cases D <;> simp
  rw [e1];unfold encFrom
  by_cases h0 : s.size = 0
  ·rw [if_pos h0]; simp [h0, Tk.encoding]
  rw [if_neg h0]; simp [h0])
 rw [hD, hz];clear hD hDl hz
 go_enter Tryz.func154, Tryz.ntmps154
 go_wp2
 go_loopg [3] s.size (fun g v wr => ∃ k : Nat, g = s.size - k ∧ k ≤ s.size ∧ v = .int .i64 (k : Int) ∧ encFrom k (D.drop k) = z ∧ wr = w)
 case atStart => exact ⟨0, rfl, by omega, rfl, Hz.out, rfl⟩
 case round =>
  obtain ⟨k, hg, hk, rfl, hzk, rfl⟩ := hrel;have Hg := hide hg;have Hzk := hide hzk;clear hg hzk Hz
  by_cases hlt : k < s.size
  ·obtain ⟨c, hc⟩ : ∃ c, D[k]? = some c := ⟨_, List.getElem?_eq_getElem (by rw [HDl.out]; exact hlt)⟩;have hix := idx_run s k c (by rw [HD.out]; exact hc);have Hl := hide (refLetter_any c);have Hd := hide (refDigit_any c);have Hy := hide (fun (h : (if k = 0 then letter c else encTail c) = true) => (show encFrom (k + 1) (D.drop (k + 1)) = z by rw [← Hzk.out, drop_cons1 hc, encFrom_yes h]));have Hn := hide (fun (h : (if k = 0 then letter c else encTail c) = false) => (show false = z by rw [← Hzk.out, drop_cons1 hc, encFrom_no h]));clear hc Hzk
   have key : ∀ d : UInt8, ((c.toNat : Int) != (d.toNat : Int)) = !(c == d) := fun d => by
    rw [Bool.eq_iff_iff, bne_iff_ne, Bool.not_eq_true', beq_eq_false_iff_ne];exact ⟨fun h h' => h (by rw [h']), fun h h' => h (UInt8.toNat_inj.1 (by omega))⟩
   have e1 : ((c.toNat : Int) != 46) = !(c == 46) := key 46;have e2 : ((c.toNat : Int) != 95) = !(c == 95) := key 95;have e3 : ((c.toNat : Int) != 45) = !(c == 45) := key 45;clear key
   cases hlt' : letter c with
   | true =>
    rw [hlt'] at Hl;have Hnx := hide (Hy.out (enc_let hlt'));clear hlt' Hy Hn e1 e2 e3
    go_wp2_with fail
    refine cq (Hl.out _) ?_
    go_wp2
    go_roundg (s.size - (k + 1))
    case measure => have := Hg.out; omega
    case rel => exact ⟨k + 1, rfl, by omega, by go_num, Hnx.out, rfl⟩
   | false =>
    rw [hlt'] at Hl
    by_cases h0 : k = 0
    ·have Hr := hide (Hn.out (enc_zero hlt' h0));have g0 : ((k : Int) == 0) = true := by rw [beq_iff_eq]; omega
     clear hlt' Hy Hn e1 e2 e3 h0
     go_wp2_with fail
     refine cq (Hl.out _) ?_
     go_wp2
     go_ret
     exact ⟨ret_eq1 (bool_eq (Hr.out)), rfl⟩
    have g0 : ((k : Int) == 0) = false := by rw [beq_eq_false_iff_ne]; omega
    have hp := enc_pos hlt' h0;clear h0 hlt'
    cases hdg : digit c with
    | true =>
     rw [hdg] at hp Hd;have Hnx := hide (Hy.out hp);clear hdg hp Hy Hn e1 e2 e3
     go_wp2_with fail
     refine cq (Hl.out _) ?_
     go_wp2_with fail
     refine cq (Hd.out _) ?_
     go_wp2
     go_roundg (s.size - (k + 1))
     case measure => have := Hg.out; omega
     case rel => exact ⟨k + 1, rfl, by omega, by go_num, Hnx.out, rfl⟩
    | false =>
     rw [hdg] at hp Hd;clear hdg;generalize (c == 46) = b1 at *
     generalize (c == 95) = b2 at *
     generalize (c == 45) = b3 at *
     have HP := hide hp;clear hp;cases b1
     ·cases b2
      ·cases b3
       ·have Hr := hide (Hn.out HP.out);clear HP Hy Hn
        go_wp2_with fail
        refine cq (Hl.out _) ?_
        go_wp2_with fail
        refine cq (Hd.out _) ?_
        go_wp2
        go_ret
        exact ⟨ret_eq1 (bool_eq (Hr.out)), rfl⟩
       have Hnx := hide (Hy.out HP.out);clear HP Hy Hn
       go_wp2_with fail
       refine cq (Hl.out _) ?_
       go_wp2_with fail
       refine cq (Hd.out _) ?_
       go_wp2
       go_roundg (s.size - (k + 1))
       case measure => have := Hg.out; omega
       case rel => exact ⟨k + 1, rfl, by omega, by go_num, Hnx.out, rfl⟩
      have Hnx := hide (Hy.out HP.out);clear HP Hy Hn
      go_wp2_with fail
      refine cq (Hl.out _) ?_
      go_wp2_with fail
      refine cq (Hd.out _) ?_
      go_wp2
      go_roundg (s.size - (k + 1))
      case measure => have := Hg.out; omega
      case rel => exact ⟨k + 1, rfl, by omega, by go_num, Hnx.out, rfl⟩
     have Hnx := hide (Hy.out HP.out);clear HP Hy Hn
     go_wp2_with fail
     refine cq (Hl.out _) ?_
     go_wp2_with fail
     refine cq (Hd.out _) ?_
     go_wp2
     go_roundg (s.size - (k + 1))
     case measure => have := Hg.out; omega
     case rel => exact ⟨k + 1, rfl, by omega, by go_num, Hnx.out, rfl⟩
  have hks : k = s.size := by omega
  have Hr := hide (show (!s.toList.isEmpty) = z by rw [← He.out, ← Hzk.out, List.drop_of_length_le (by rw [HDl.out]; omega), hks]);clear Hzk He hks
  go_wp2
  go_ret
  exact ⟨ret_eq1 (bool_eq (Hr.out)), rfl⟩
end
section
open Go.RowKit Tk

def decl4 (D : L) (a : Nat) : Int := if [63, 62].isPrefixOf (D.drop (a + nsp (D.drop a))) then ((a + nsp (D.drop a) + 2 : Nat) : Int) else -1
def decl3 (D : L) (a : Nat) : Int := match Tk.part sAlone (D.drop a) with
 | none => decl4 D a
 | some x => if alone x.1 then decl4 D (a + x.2) else -1
def decl2 (D : L) (a : Nat) : Int := match Tk.part sEncoding (D.drop a) with
 | none => decl3 D a
 | some x => if encoding x.1 then decl3 D (a + x.2) else -1
def declAt (D : L) : Int := match Tk.part sVersion (D.drop 5) with
 | none => -1
 | some x => if version x.1 then decl2 D (5 + x.2) else -1
def natOr (o : Option Nat) : Int := match o with
 | some n => ((5 + n : Nat) : Int)
 | none => -1
theorem declAt_is (D : L) : declAt D = natOr (Tk.decl (D.drop 5)) := by
 unfold declAt Tk.decl
 cases h1 : Tk.part sVersion (D.drop 5) with
 | none => rfl
 | some x =>
  obtain ⟨v, n⟩ := x;simp only [Option.bind_some]
  cases hv : version v with
  | false => rfl
  | true =>
   simp only [if_true]
   have last : ∀ a : Nat, decl4 D (5 + a) = natOr (if [63, 62].isPrefixOf (((D.drop 5).drop a).drop (nsp ((D.drop 5).drop a))) = true then some (a + nsp ((D.drop 5).drop a) + 2) else none) := fun a => by
    unfold decl4;rw [show (D.drop 5).drop a = D.drop (5 + a) from List.drop_drop .., List.drop_drop]
    by_cases h : [63, 62].isPrefixOf (D.drop (5 + a + nsp (D.drop (5 + a)))) = true
    ·rw [if_pos h, if_pos h]; unfold natOr; dsimp only; congr 1; omega
    rw [if_neg h, if_neg h]; rfl
   have third : ∀ a : Nat, decl3 D (5 + a) = natOr ((opt sAlone alone ((D.drop 5).drop a)).bind fun b => if [63, 62].isPrefixOf (((D.drop 5).drop (a + b)).drop (nsp ((D.drop 5).drop (a + b)))) = true then some (a + b + nsp ((D.drop 5).drop (a + b)) + 2) else none) := fun a => by
    unfold decl3 opt;rw [List.drop_drop]
    cases h3 : Tk.part sAlone (D.drop (5 + a)) with
    | none => dsimp only [Option.bind_some]; rw [Nat.add_zero]; exact last a
    | some y =>
     dsimp only
     cases ha : alone y.1 with
     | false => rfl
     | true => simp only [if_true, Option.bind_some]; rw [show 5 + a + y.2 = 5 + (a + y.2) by omega]; exact last (a + y.2)
   unfold decl2 opt;rw [List.drop_drop]
   cases h2 : Tk.part sEncoding (D.drop (5 + n)) with
   | none => dsimp only [Option.bind_some]; rw [Nat.add_zero]; exact third n
   | some y =>
    dsimp only
    cases he : encoding y.1 with
    | false => rfl
    | true => simp only [if_true, Option.bind_some]; rw [show 5 + n + y.2 = 5 + (n + y.2) by omega]; exact third (n + y.2)
theorem quoted_fit : ∀ {l v : L} {n : Nat}, Tk.quoted l = some (v, n) → v.length ≤ l.length ∧ n ≤ l.length
 | [], _, _, h => by cases h
 | q :: r, v, n, h => by
  unfold Tk.quoted at h;dsimp only at h
  by_cases hq : q = 34 ∨ q = 39
  ·rw [if_pos hq] at h
   cases ht : Tk.till [q] r with
   | none => rw [ht] at h; cases h
   | some k =>
    rw [ht] at h;simp only [Option.map_some, Option.some.injEq, Prod.mk.injEq] at h;have := till_len ht;simp only [List.length_cons, List.length_nil] at this ⊢;rw [← h.1, ← h.2, List.length_take];omega
  rw [if_neg hq] at h; cases h
theorem eqv_fit {l v : L} {n : Nat} (h : eqv l = some (v, n)) : v.length ≤ l.length ∧ n ≤ l.length := by
 unfold eqv at h;have hl := nsp_le l;have hdl : (l.drop (nsp l)).length = l.length - nsp l := List.length_drop ..
 cases hd : l.drop (nsp l) with
 | nil => rw [hd] at h; cases h
 | cons c r =>
  rw [hd] at h hdl;rw [List.length_cons] at hdl;dsimp only at h
  by_cases hc : c = 61
  ·rw [if_pos hc] at h
   cases hq : Tk.quoted (r.drop (nsp r)) with
   | none => rw [hq] at h; cases h
   | some x =>
    rw [hq] at h;obtain ⟨a, b⟩ := x;simp only [Option.map_some, Option.some.injEq, Prod.mk.injEq] at h;have := quoted_fit hq;rw [List.length_drop] at this;have := nsp_le r;rw [← h.1, ← h.2];omega
  rw [if_neg hc] at h; cases h
theorem part_fit {q l v : L} {n : Nat} (h : Tk.part q l = some (v, n)) : v.length ≤ l.length ∧ n ≤ l.length := by
 unfold Tk.part at h
 by_cases h0 : nsp l = 0
 ·rw [if_pos h0] at h; cases h
 rw [if_neg h0] at h
 by_cases hp : q.isPrefixOf (l.drop (nsp l)) = true
 ·rw [if_pos hp] at h
  cases he : eqv (l.drop (nsp l + q.length)) with
  | none => rw [he] at h; cases h
  | some x =>
   rw [he] at h;obtain ⟨a, b⟩ := x;simp only [Option.map_some, Option.some.injEq, Prod.mk.injEq] at h;have h2 := eqv_fit he;rw [List.length_drop] at h2;have := (List.isPrefixOf_iff_prefix.1 hp).length_le;rw [List.length_drop] at this;have := nsp_le l;rw [← h.1, ← h.2];omega
 rw [if_neg hp] at h; cases h
theorem part_len {q l v : L} {n : Nat} (h : Tk.part q l = some (v, n)) : n ≤ l.length := (part_fit h).2
theorem part_val {q l v : L} {n : Nat} (h : Tk.part q l = some (v, n)) : v.length ≤ l.length := (part_fit h).1
theorem starts_at (s q : ByteArray) (at_ : Nat) (w : World) (ha : at_ ≤ 2000000000) (hs : s.size ≤ 2000000000) (hq : q.size ≤ 1000) (h0 : q.size ≠ 0) :
  Calls Tryz.prog 114 #[.string s, .int .i64 (at_ : Int), .string q] w fun e w' => e = .returned (.bool (q.data.toList.isPrefixOf (s.data.toList.drop at_))) ∧ w' = w :=
 (starts_any s q at_ w ha hs hq).mono fun _ _ h => ⟨h.1.resolve_left h0, h.2⟩

set_option maxHeartbeats 16000000 in
theorem refDecl_any (s : ByteArray) (w : World) (h5 : 5 ≤ s.size) (hs : s.size ≤ 1000000000) :
  Calls Tryz.prog 140 #[.string s] w fun e w' => e = .returned (.int .i64 (declAt s.data.toList)) ∧ w' = w := by
 have HP := fun (q : ByteArray) (k : Nat) W (h : k ≤ s.size) (h1 : q.size ≤ 1000) (h2 : 0 < q.size) => refPart_any s q k W h hs h1 h2;have HB0 := fun (k : Nat) W (h : k ≤ s.size) => refBlanks_any s k W h hs;have HS0 := fun (k : Nat) W (h : k ≤ s.size) => starts_at s (bstr [63, 62]) k W (by omega) (by omega) (by decide) (by decide);obtain ⟨D, hD⟩ : ∃ D, s.data.toList = D := ⟨_, rfl⟩;have hDl : D.length = s.size := by rw [← hD, size_list]
 rw [hD] at HP HB0 HS0 ⊢;obtain ⟨z, hz⟩ : ∃ z, declAt D = z := ⟨_, rfl⟩;have Hz := hide hz;rw [hz];unfold declAt at hz;have H1 := hide (fun W => HP (bstr sVersion) 5 W h5 (by decide) (by decide));have H2 := hide (fun (k : Nat) W (h : k ≤ s.size) => HP (bstr sEncoding) k W h (by decide) (by decide));have H3 := hide (fun (k : Nat) W (h : k ≤ s.size) => HP (bstr sAlone) k W h (by decide) (by decide));have HB := hide HB0;have HS := hide HS0;rw [bstr_list] at H1;have H2' : Hid (∀ (k : Nat) W, k ≤ s.size → Calls Tryz.prog 152 #[.string s, .int .i64 (k : Int), .string (bstr sEncoding)] W fun e w' => e = .returned (qv (Tk.part sEncoding (D.drop k)) k) ∧ w' = W) := H2;have H3' : Hid (∀ (k : Nat) W, k ≤ s.size → Calls Tryz.prog 152 #[.string s, .int .i64 (k : Int), .string (bstr sAlone)] W fun e w' => e = .returned (qv (Tk.part sAlone (D.drop k)) k) ∧ w' = W) := H3;have HS' : Hid (∀ (k : Nat) W, k ≤ s.size → Calls Tryz.prog 114 #[.string s, .int .i64 (k : Int), .string (bstr [63, 62])] W fun e w' => e = .returned (.bool ([63, 62].isPrefixOf (D.drop k))) ∧ w' = W) := HS;clear HP HB0 HS0 H2 H3 HS hD Hz
 cases h1 : Tk.part sVersion (D.drop 5) with
 | none =>
  rw [h1] at hz H1;have Hr := hide (show (-1 : Int) = z from hz);clear hz h1 H2' H3' HS' HB hDl
  go_enter Tryz.func140, Tryz.ntmps140
  go_wp2_with fail
  refine cq (H1.out _) ?_
  unfold qv
  go_wp2
  go_ret
  exact ⟨ret_eq1 (int_eq (Hr.out)), rfl⟩
 | some x1 =>
  obtain ⟨v1, n1⟩ := x1;have hn1 := part_len h1;rw [List.length_drop] at hn1;have Hv := hide (fun W => refVersion_any (bstr v1) W (by have := part_val h1; rw [bstr_size]; rw [List.length_drop] at this; omega));rw [bstr_list] at Hv;rw [h1] at hz H1;dsimp only at hz;clear h1;obtain ⟨b1, hb1⟩ : ∃ b1, 5 + n1 = b1 := ⟨_, rfl⟩;have H1b := hide (show ∀ W, Calls Tryz.prog 152 #[.string s, .int .i64 5, .string (bstr sVersion)] W fun e w' => e = .returned (.tuple #[.string (bstr v1), .int .i64 (b1 : Int), .bool true]) ∧ w' = W from fun W => by have h := H1.out W; unfold qv at h; dsimp only at h; rw [hb1] at h; exact h);rw [hb1] at hz;have hab1 : b1 ≤ s.size := by omega
  clear hb1 hn1 H1;generalize version v1 = ve at *
  cases ve
  ·have Hr := hide (show (-1 : Int) = z from hz.symm ▸ rfl);clear hz H2' H3' HS' HB hDl
   go_enter Tryz.func140, Tryz.ntmps140
   go_wp2_with fail
   refine cq (H1b.out _) ?_
   go_wp2_with fail
   refine cq (Hv.out _) ?_
   go_wp2
   go_ret
   exact ⟨ret_eq1 (int_eq (Hr.out)), rfl⟩
  have hz : decl2 D b1 = z := hz;unfold decl2 at hz;have H2a := hide (fun W => H2'.out b1 W hab1)
  cases h2 : Tk.part sEncoding (D.drop b1) with
  | none =>
   rw [h2] at hz H2a;dsimp only at hz;clear h2;unfold decl3 at hz;have H3a := hide (fun W => H3'.out b1 W hab1)
   cases h3 : Tk.part sAlone (D.drop b1) with
   | none =>
    rw [h3] at hz H3a;dsimp only at hz;clear h3;have hk0 : b1 + nsp (D.drop b1) ≤ s.size := by have := nsp_le (D.drop b1); rw [List.length_drop] at this; omega
    have HBa := hide (fun W => HB.out b1 W hab1);obtain ⟨k, hk⟩ : ∃ k, b1 + nsp (D.drop b1) = k := ⟨_, rfl⟩;unfold decl4 at hz;rw [hk] at hz hk0 HBa;have HSk := hide (fun W => HS'.out k W hk0);have hwr : IntKind.i64.wrap ((k : Int) + 2) = (k : Int) + 2 := IntWalk.i64_in _ (by omega)
    cases hp : ([63, 62] : L).isPrefixOf (D.drop k) with
    | false =>
     rw [hp] at hz HSk;have Hr := hide (show (-1 : Int) = z from by rw [← hz]; simp);clear hz hk hp H2' H3' HS' HB hDl hk0
     go_enter Tryz.func140, Tryz.ntmps140
     go_wp2_with fail
     refine cq (H1b.out _) ?_
     go_wp2_with fail
     refine cq (Hv.out _) ?_
     go_wp2_with fail
     refine cq (H2a.out _) ?_
     unfold qv
     go_wp2_with fail
     refine cq (H3a.out _) ?_
     unfold qv
     go_wp2_with fail
     refine cq (HBa.out _) ?_
     go_wp2_with fail
     refine cq (HSk.out _) ?_
     go_wp2
     go_ret
     exact ⟨ret_eq1 (int_eq (Hr.out)), rfl⟩
    | true =>
     rw [hp] at hz HSk;have Hr := hide (show (k : Int) + 2 = z from by rw [← hz]; simp);clear hz hk hp H2' H3' HS' HB hDl hk0
     go_enter Tryz.func140, Tryz.ntmps140
     go_wp2_with fail
     refine cq (H1b.out _) ?_
     go_wp2_with fail
     refine cq (Hv.out _) ?_
     go_wp2_with fail
     refine cq (H2a.out _) ?_
     unfold qv
     go_wp2_with fail
     refine cq (H3a.out _) ?_
     unfold qv
     go_wp2_with fail
     refine cq (HBa.out _) ?_
     go_wp2_with fail
     refine cq (HSk.out _) ?_
     go_wp2
     go_ret
     exact ⟨ret_eq1 (int_eq (Hr.out)), rfl⟩
   | some x3 =>
    obtain ⟨v3, n3⟩ := x3;have hn3 := part_len h3;rw [List.length_drop] at hn3;rw [h3] at hz H3a;dsimp only at hz;clear h3;obtain ⟨b3, hb3⟩ : ∃ b3, b1 + n3 = b3 := ⟨_, rfl⟩;have H3b := hide (show ∀ W, Calls Tryz.prog 152 #[.string s, .int .i64 (b1 : Int), .string (bstr sAlone)] W fun e w' => e = .returned (.tuple #[.string (bstr v3), .int .i64 (b3 : Int), .bool true]) ∧ w' = W from fun W => by have h := H3a.out W; unfold qv at h; dsimp only at h; rw [hb3] at h; exact h);rw [hb3] at hz;have hab3 : b3 ≤ s.size := by omega
    clear hb3 hn3 H3a;have hy : ((bstr v3).toList == [121, 101, 115]) = decide (v3 = [121, 101, 115]) := by rw [ByteArray.toList_eq, bstr_list, Bool.eq_iff_iff, beq_iff_eq, decide_eq_true_iff]
    have hn : ((bstr v3).toList == [110, 111]) = decide (v3 = [110, 111]) := by rw [ByteArray.toList_eq, bstr_list, Bool.eq_iff_iff, beq_iff_eq, decide_eq_true_iff]
    have hal : alone v3 = (decide (v3 = [121, 101, 115]) || decide (v3 = [110, 111])) := rfl;rw [hal] at hz;clear hal;generalize decide (v3 = [121, 101, 115]) = by_ at *
    generalize decide (v3 = [110, 111]) = bn_ at *
    cases by_
    ·cases bn_
     ·have Hr := hide (show (-1 : Int) = z from hz.symm ▸ rfl);clear hz H2' H3' HS' HB hDl
      go_enter Tryz.func140, Tryz.ntmps140
      go_wp2_with fail
      refine cq (H1b.out _) ?_
      go_wp2_with fail
      refine cq (Hv.out _) ?_
      go_wp2_with fail
      refine cq (H2a.out _) ?_
      unfold qv
      go_wp2_with fail
      refine cq (H3b.out _) ?_
      go_wp2
      go_ret
      exact ⟨ret_eq1 (int_eq (Hr.out)), rfl⟩
     have hz : decl4 D b3 = z := hz;have hk0 : b3 + nsp (D.drop b3) ≤ s.size := by have := nsp_le (D.drop b3); rw [List.length_drop] at this; omega
     have HBa := hide (fun W => HB.out b3 W hab3);obtain ⟨k, hk⟩ : ∃ k, b3 + nsp (D.drop b3) = k := ⟨_, rfl⟩;unfold decl4 at hz;rw [hk] at hz hk0 HBa;have HSk := hide (fun W => HS'.out k W hk0);have hwr : IntKind.i64.wrap ((k : Int) + 2) = (k : Int) + 2 := IntWalk.i64_in _ (by omega)
     cases hp : ([63, 62] : L).isPrefixOf (D.drop k) with
     | false =>
      rw [hp] at hz HSk;have Hr := hide (show (-1 : Int) = z from by rw [← hz]; simp);clear hz hk hp H2' H3' HS' HB hDl hk0
      go_enter Tryz.func140, Tryz.ntmps140
      go_wp2_with fail
      refine cq (H1b.out _) ?_
      go_wp2_with fail
      refine cq (Hv.out _) ?_
      go_wp2_with fail
      refine cq (H2a.out _) ?_
      unfold qv
      go_wp2_with fail
      refine cq (H3b.out _) ?_
      go_wp2_with fail
      refine cq (HBa.out _) ?_
      go_wp2_with fail
      refine cq (HSk.out _) ?_
      go_wp2
      go_ret
      exact ⟨ret_eq1 (int_eq (Hr.out)), rfl⟩
     | true =>
      rw [hp] at hz HSk;have Hr := hide (show (k : Int) + 2 = z from by rw [← hz]; simp);clear hz hk hp H2' H3' HS' HB hDl hk0
      go_enter Tryz.func140, Tryz.ntmps140
      go_wp2_with fail
      refine cq (H1b.out _) ?_
      go_wp2_with fail
      refine cq (Hv.out _) ?_
      go_wp2_with fail
      refine cq (H2a.out _) ?_
      unfold qv
      go_wp2_with fail
      refine cq (H3b.out _) ?_
      go_wp2_with fail
      refine cq (HBa.out _) ?_
      go_wp2_with fail
      refine cq (HSk.out _) ?_
      go_wp2
      go_ret
      exact ⟨ret_eq1 (int_eq (Hr.out)), rfl⟩
    have hz : decl4 D b3 = z := hz;have hk0 : b3 + nsp (D.drop b3) ≤ s.size := by have := nsp_le (D.drop b3); rw [List.length_drop] at this; omega
    have HBa := hide (fun W => HB.out b3 W hab3);obtain ⟨k, hk⟩ : ∃ k, b3 + nsp (D.drop b3) = k := ⟨_, rfl⟩;unfold decl4 at hz;rw [hk] at hz hk0 HBa;have HSk := hide (fun W => HS'.out k W hk0);have hwr : IntKind.i64.wrap ((k : Int) + 2) = (k : Int) + 2 := IntWalk.i64_in _ (by omega)
    cases hp : ([63, 62] : L).isPrefixOf (D.drop k) with
    | false =>
     rw [hp] at hz HSk;have Hr := hide (show (-1 : Int) = z from by rw [← hz]; simp);clear hz hk hp H2' H3' HS' HB hDl hk0
     go_enter Tryz.func140, Tryz.ntmps140
     go_wp2_with fail
     refine cq (H1b.out _) ?_
     go_wp2_with fail
     refine cq (Hv.out _) ?_
     go_wp2_with fail
     refine cq (H2a.out _) ?_
     unfold qv
     go_wp2_with fail
     refine cq (H3b.out _) ?_
     go_wp2_with fail
     refine cq (HBa.out _) ?_
     go_wp2_with fail
     refine cq (HSk.out _) ?_
     go_wp2
     go_ret
     exact ⟨ret_eq1 (int_eq (Hr.out)), rfl⟩
    | true =>
     rw [hp] at hz HSk;have Hr := hide (show (k : Int) + 2 = z from by rw [← hz]; simp);clear hz hk hp H2' H3' HS' HB hDl hk0
     go_enter Tryz.func140, Tryz.ntmps140
     go_wp2_with fail
     refine cq (H1b.out _) ?_
     go_wp2_with fail
     refine cq (Hv.out _) ?_
     go_wp2_with fail
     refine cq (H2a.out _) ?_
     unfold qv
     go_wp2_with fail
     refine cq (H3b.out _) ?_
     go_wp2_with fail
     refine cq (HBa.out _) ?_
     go_wp2_with fail
     refine cq (HSk.out _) ?_
     go_wp2
     go_ret
     exact ⟨ret_eq1 (int_eq (Hr.out)), rfl⟩
  | some x2 =>
   obtain ⟨v2, n2⟩ := x2;have hn2 := part_len h2;rw [List.length_drop] at hn2;have He := hide (fun W => refEncoding_any (bstr v2) W (by have := part_val h2; rw [bstr_size]; rw [List.length_drop] at this; omega));rw [bstr_list] at He;rw [h2] at hz H2a;dsimp only at hz;clear h2;obtain ⟨b2, hb2⟩ : ∃ b2, b1 + n2 = b2 := ⟨_, rfl⟩;have H2b := hide (show ∀ W, Calls Tryz.prog 152 #[.string s, .int .i64 (b1 : Int), .string (bstr sEncoding)] W fun e w' => e = .returned (.tuple #[.string (bstr v2), .int .i64 (b2 : Int), .bool true]) ∧ w' = W from fun W => by have h := H2a.out W; unfold qv at h; dsimp only at h; rw [hb2] at h; exact h);rw [hb2] at hz;have hab2 : b2 ≤ s.size := by omega
   clear hb2 hn2 H2a;generalize encoding v2 = en at *
   cases en
   ·have Hr := hide (show (-1 : Int) = z from hz.symm ▸ rfl);clear hz H2' H3' HS' HB hDl
    go_enter Tryz.func140, Tryz.ntmps140
    go_wp2_with fail
    refine cq (H1b.out _) ?_
    go_wp2_with fail
    refine cq (Hv.out _) ?_
    go_wp2_with fail
    refine cq (H2b.out _) ?_
    go_wp2_with fail
    refine cq (He.out _) ?_
    go_wp2
    go_ret
    exact ⟨ret_eq1 (int_eq (Hr.out)), rfl⟩
   have hz : decl3 D b2 = z := hz;unfold decl3 at hz;have H3a := hide (fun W => H3'.out b2 W hab2)
   cases h3 : Tk.part sAlone (D.drop b2) with
   | none =>
    rw [h3] at hz H3a;dsimp only at hz;clear h3;have hk0 : b2 + nsp (D.drop b2) ≤ s.size := by have := nsp_le (D.drop b2); rw [List.length_drop] at this; omega
    have HBa := hide (fun W => HB.out b2 W hab2);obtain ⟨k, hk⟩ : ∃ k, b2 + nsp (D.drop b2) = k := ⟨_, rfl⟩;unfold decl4 at hz;rw [hk] at hz hk0 HBa;have HSk := hide (fun W => HS'.out k W hk0);have hwr : IntKind.i64.wrap ((k : Int) + 2) = (k : Int) + 2 := IntWalk.i64_in _ (by omega)
    cases hp : ([63, 62] : L).isPrefixOf (D.drop k) with
    | false =>
     rw [hp] at hz HSk;have Hr := hide (show (-1 : Int) = z from by rw [← hz]; simp);clear hz hk hp H2' H3' HS' HB hDl hk0
     go_enter Tryz.func140, Tryz.ntmps140
     go_wp2_with fail
     refine cq (H1b.out _) ?_
     go_wp2_with fail
     refine cq (Hv.out _) ?_
     go_wp2_with fail
     refine cq (H2b.out _) ?_
     go_wp2_with fail
     refine cq (He.out _) ?_
     go_wp2_with fail
     refine cq (H3a.out _) ?_
     unfold qv
     go_wp2_with fail
     refine cq (HBa.out _) ?_
     go_wp2_with fail
     refine cq (HSk.out _) ?_
     go_wp2
     go_ret
     exact ⟨ret_eq1 (int_eq (Hr.out)), rfl⟩
    | true =>
     rw [hp] at hz HSk;have Hr := hide (show (k : Int) + 2 = z from by rw [← hz]; simp);clear hz hk hp H2' H3' HS' HB hDl hk0
     go_enter Tryz.func140, Tryz.ntmps140
     go_wp2_with fail
     refine cq (H1b.out _) ?_
     go_wp2_with fail
     refine cq (Hv.out _) ?_
     go_wp2_with fail
     refine cq (H2b.out _) ?_
     go_wp2_with fail
     refine cq (He.out _) ?_
     go_wp2_with fail
     refine cq (H3a.out _) ?_
     unfold qv
     go_wp2_with fail
     refine cq (HBa.out _) ?_
     go_wp2_with fail
     refine cq (HSk.out _) ?_
     go_wp2
     go_ret
     exact ⟨ret_eq1 (int_eq (Hr.out)), rfl⟩
   | some x3 =>
    obtain ⟨v3, n3⟩ := x3;have hn3 := part_len h3;rw [List.length_drop] at hn3;rw [h3] at hz H3a;dsimp only at hz;clear h3;obtain ⟨b3, hb3⟩ : ∃ b3, b2 + n3 = b3 := ⟨_, rfl⟩;have H3b := hide (show ∀ W, Calls Tryz.prog 152 #[.string s, .int .i64 (b2 : Int), .string (bstr sAlone)] W fun e w' => e = .returned (.tuple #[.string (bstr v3), .int .i64 (b3 : Int), .bool true]) ∧ w' = W from fun W => by have h := H3a.out W; unfold qv at h; dsimp only at h; rw [hb3] at h; exact h);rw [hb3] at hz;have hab3 : b3 ≤ s.size := by omega
    clear hb3 hn3 H3a;have hy : ((bstr v3).toList == [121, 101, 115]) = decide (v3 = [121, 101, 115]) := by rw [ByteArray.toList_eq, bstr_list, Bool.eq_iff_iff, beq_iff_eq, decide_eq_true_iff]
    have hn : ((bstr v3).toList == [110, 111]) = decide (v3 = [110, 111]) := by rw [ByteArray.toList_eq, bstr_list, Bool.eq_iff_iff, beq_iff_eq, decide_eq_true_iff]
    have hal : alone v3 = (decide (v3 = [121, 101, 115]) || decide (v3 = [110, 111])) := rfl;rw [hal] at hz;clear hal;generalize decide (v3 = [121, 101, 115]) = by_ at *
    generalize decide (v3 = [110, 111]) = bn_ at *
    cases by_
    ·cases bn_
     ·have Hr := hide (show (-1 : Int) = z from hz.symm ▸ rfl);clear hz H2' H3' HS' HB hDl
      go_enter Tryz.func140, Tryz.ntmps140
      go_wp2_with fail
      refine cq (H1b.out _) ?_
      go_wp2_with fail
      refine cq (Hv.out _) ?_
      go_wp2_with fail
      refine cq (H2b.out _) ?_
      go_wp2_with fail
      refine cq (He.out _) ?_
      go_wp2_with fail
      refine cq (H3b.out _) ?_
      go_wp2
      go_ret
      exact ⟨ret_eq1 (int_eq (Hr.out)), rfl⟩
     have hz : decl4 D b3 = z := hz;have hk0 : b3 + nsp (D.drop b3) ≤ s.size := by have := nsp_le (D.drop b3); rw [List.length_drop] at this; omega
     have HBa := hide (fun W => HB.out b3 W hab3);obtain ⟨k, hk⟩ : ∃ k, b3 + nsp (D.drop b3) = k := ⟨_, rfl⟩;unfold decl4 at hz;rw [hk] at hz hk0 HBa;have HSk := hide (fun W => HS'.out k W hk0);have hwr : IntKind.i64.wrap ((k : Int) + 2) = (k : Int) + 2 := IntWalk.i64_in _ (by omega)
     cases hp : ([63, 62] : L).isPrefixOf (D.drop k) with
     | false =>
      rw [hp] at hz HSk;have Hr := hide (show (-1 : Int) = z from by rw [← hz]; simp);clear hz hk hp H2' H3' HS' HB hDl hk0
      go_enter Tryz.func140, Tryz.ntmps140
      go_wp2_with fail
      refine cq (H1b.out _) ?_
      go_wp2_with fail
      refine cq (Hv.out _) ?_
      go_wp2_with fail
      refine cq (H2b.out _) ?_
      go_wp2_with fail
      refine cq (He.out _) ?_
      go_wp2_with fail
      refine cq (H3b.out _) ?_
      go_wp2_with fail
      refine cq (HBa.out _) ?_
      go_wp2_with fail
      refine cq (HSk.out _) ?_
      go_wp2
      go_ret
      exact ⟨ret_eq1 (int_eq (Hr.out)), rfl⟩
     | true =>
      rw [hp] at hz HSk;have Hr := hide (show (k : Int) + 2 = z from by rw [← hz]; simp);clear hz hk hp H2' H3' HS' HB hDl hk0
      go_enter Tryz.func140, Tryz.ntmps140
      go_wp2_with fail
      refine cq (H1b.out _) ?_
      go_wp2_with fail
      refine cq (Hv.out _) ?_
      go_wp2_with fail
      refine cq (H2b.out _) ?_
      go_wp2_with fail
      refine cq (He.out _) ?_
      go_wp2_with fail
      refine cq (H3b.out _) ?_
      go_wp2_with fail
      refine cq (HBa.out _) ?_
      go_wp2_with fail
      refine cq (HSk.out _) ?_
      go_wp2
      go_ret
      exact ⟨ret_eq1 (int_eq (Hr.out)), rfl⟩
    have hz : decl4 D b3 = z := hz;have hk0 : b3 + nsp (D.drop b3) ≤ s.size := by have := nsp_le (D.drop b3); rw [List.length_drop] at this; omega
    have HBa := hide (fun W => HB.out b3 W hab3);obtain ⟨k, hk⟩ : ∃ k, b3 + nsp (D.drop b3) = k := ⟨_, rfl⟩;unfold decl4 at hz;rw [hk] at hz hk0 HBa;have HSk := hide (fun W => HS'.out k W hk0);have hwr : IntKind.i64.wrap ((k : Int) + 2) = (k : Int) + 2 := IntWalk.i64_in _ (by omega)
    cases hp : ([63, 62] : L).isPrefixOf (D.drop k) with
    | false =>
     rw [hp] at hz HSk;have Hr := hide (show (-1 : Int) = z from by rw [← hz]; simp);clear hz hk hp H2' H3' HS' HB hDl hk0
     go_enter Tryz.func140, Tryz.ntmps140
     go_wp2_with fail
     refine cq (H1b.out _) ?_
     go_wp2_with fail
     refine cq (Hv.out _) ?_
     go_wp2_with fail
     refine cq (H2b.out _) ?_
     go_wp2_with fail
     refine cq (He.out _) ?_
     go_wp2_with fail
     refine cq (H3b.out _) ?_
     go_wp2_with fail
     refine cq (HBa.out _) ?_
     go_wp2_with fail
     refine cq (HSk.out _) ?_
     go_wp2
     go_ret
     exact ⟨ret_eq1 (int_eq (Hr.out)), rfl⟩
    | true =>
     rw [hp] at hz HSk;have Hr := hide (show (k : Int) + 2 = z from by rw [← hz]; simp);clear hz hk hp H2' H3' HS' HB hDl hk0
     go_enter Tryz.func140, Tryz.ntmps140
     go_wp2_with fail
     refine cq (H1b.out _) ?_
     go_wp2_with fail
     refine cq (Hv.out _) ?_
     go_wp2_with fail
     refine cq (H2b.out _) ?_
     go_wp2_with fail
     refine cq (He.out _) ?_
     go_wp2_with fail
     refine cq (H3b.out _) ?_
     go_wp2_with fail
     refine cq (HBa.out _) ?_
     go_wp2_with fail
     refine cq (HSk.out _) ?_
     go_wp2
     go_ret
     exact ⟨ret_eq1 (int_eq (Hr.out)), rfl⟩
end
section
open Go.RowKit Tk

def takeFrom (k : Nat) (D : L) : Nat := (((Utf.from_ k (D.drop k)).find? fun p => !nameOk p.1 p.2).map (·.1)).getD D.length
theorem takeFrom_zero (D : L) : takeFrom 0 D = Tk.take D := by unfold takeFrom Tk.take stop Utf.pieces; rw [List.drop_zero]; rfl
theorem nameOk_zero {k : Nat} {r : Int} (h : k = 0) : nameOk k r = firstOk r := by unfold nameOk; rw [if_pos h]
theorem nameOk_pos {k : Nat} {r : Int} (h : k ≠ 0) : nameOk k r = (furtherOk r || decide (r = 58)) := by unfold nameOk; rw [if_neg h]

set_option maxHeartbeats 8000000 in
theorem refTake_any (s : ByteArray) (w : World) (hs : s.size ≤ 1000000000) :
  Calls Tryz.prog 117 #[.string s] w fun e w' => e = .returned (.int .i64 ((Tk.take s.data.toList : Nat) : Int)) ∧ w' = w := by
 obtain ⟨z, hz⟩ : ∃ z, Tk.take s.data.toList = z := ⟨_, rfl⟩;have Hz := hide (show takeFrom 0 s.data.toList = z from by rw [← hz, takeFrom_zero]);rw [hz];clear hz
 go_enter Tryz.func117, Tryz.ntmps117
 go_wp2
 go_loopg [3] s.size (fun g v wr => ∃ k : Nat, g = s.size - k ∧ k ≤ s.size ∧ v = .int .i64 (k : Int) ∧ takeFrom k s.data.toList = z ∧ wr = w)
 case atStart => exact ⟨0, rfl, by omega, rfl, Hz.out, rfl⟩
 case round =>
  obtain ⟨k, hg, hk, rfl, hz, rfl⟩ := hrel;have Hg := hide hg
  by_cases hlt : k < s.size
  ·have hN := next_any s (k : Int) wr (by omega) (by omega) hs;rw [Int.toNat_natCast] at hN;have hfr := from_at s k hlt;have hp := piece_at' s k hlt;unfold takeFrom at hz;rw [hfr, List.find?_cons] at hz;obtain ⟨f, hf⟩ : ∃ f, Utf.piece (s.data.toList.drop k) = f := ⟨_, rfl⟩;rw [hf] at hN hz hp;dsimp only at hz
   by_cases hn : f.1 < 0
   ·have HN := hide (show Calls Tryz.prog 32 #[.string s, .int .i64 (k : Int)] wr fun e w' => e = .returned (.tuple #[.int .i64 0, .int .i64 0, .bool false]) ∧ wr = w' from by
      unfold nextT at hN; rw [if_pos hn] at hN; exact hN)
    rw [nameOk_neg' k f.1 hn] at hz;have Hr := hide (show k = z from hz);clear hN hz hfr hf hp hg hn Hz
    go_wp2_with fail
    refine HN.out.mono ?_;rintro e w' ⟨rfl, rfl⟩
    go_wp2
    go_ret
    exact ⟨ret_eq1 (int_eq (congrArg Int.ofNat Hr.out)), rfl⟩
   have HN := hide (show Calls Tryz.prog 32 #[.string s, .int .i64 (k : Int)] wr fun e w' => e = .returned (.tuple #[.int .i64 f.1, .int .i64 f.2, .bool true]) ∧ wr = w' from by
      unfold nextT at hN; rw [if_neg hn] at hN; exact hN)
   obtain ⟨m, hm⟩ : ∃ m : Nat, f.2 = m := ⟨f.2.toNat, by omega⟩;have e2 : f.2.toNat = m := by omega
   rw [e2] at hz;rw [hm] at HN hp;obtain ⟨r, hr⟩ : ∃ r, f.1 = r := ⟨_, rfl⟩;rw [hr] at HN hz;have Hno := hide (fun (h : nameOk k r = false) => (show (k : Int) = (z : Int) by rw [h] at hz; exact congrArg Int.ofNat hz));have Hyes := hide (fun (h : nameOk k r = true) => (show takeFrom (k + m) s.data.toList = z by rw [h] at hz; exact hz));clear hN hz hfr hf hg hn Hz hm e2 hr
   by_cases h0 : k = 0
   ·have HF := hide (refFirst_any r);have g0 : ((k : Int) == 0) = true := by rw [beq_iff_eq]; omega
    have g1 : ¬ (0 : Int) < (k : Int) := by omega
    have he := nameOk_zero (r := r) h0;rw [← he] at HF;clear he h0
    cases hc : nameOk k r with
    | false =>
     rw [hc] at HF;have Hr := hide (Hno.out hc);clear hc Hno Hyes
     go_wp2_with fail
     refine HN.out.mono ?_;rintro e w' ⟨rfl, rfl⟩
     go_wp2_with fail
     refine cq (HF.out _) ?_
     go_wp2
     go_ret
     exact ⟨ret_eq1 (int_eq (Hr.out)), rfl⟩
    | true =>
     rw [hc] at HF;have Hr := hide (Hyes.out hc);clear hc Hno Hyes
     go_wp2_with fail
     refine HN.out.mono ?_;rintro e w' ⟨rfl, rfl⟩
     go_wp2_with fail
     refine cq (HF.out _) ?_
     go_wp2
     go_roundg (s.size - (k + m))
     case measure => have := Hg.out; omega
     case rel => exact ⟨k + m, rfl, by omega, by go_num, Hr.out, rfl⟩
   have HF := hide (refFurther_any r);have g0 : ((k : Int) == 0) = false := by rw [beq_eq_false_iff_ne]; omega
   have g1 : (0 : Int) < (k : Int) := by omega
   have hc := nameOk_pos (r := r) h0;have e3 : ((r : Int) != 58) = !decide (r = 58) := by rw [Bool.eq_iff_iff, bne_iff_ne, Bool.not_eq_true', decide_eq_false_iff_not]
   clear h0;generalize furtherOk r = a at *
   generalize decide (r = 58) = b at *
   cases a with
   | true =>
    have Hr := hide (Hyes.out hc);clear hc Hno Hyes
    go_wp2_with fail
    refine HN.out.mono ?_;rintro e w' ⟨rfl, rfl⟩
    go_wp2_with fail
    refine cq (HF.out _) ?_
    go_wp2
    go_roundg (s.size - (k + m))
    case measure => have := Hg.out; omega
    case rel => exact ⟨k + m, rfl, by omega, by go_num, Hr.out, rfl⟩
   | false =>
    cases b with
    | true =>
     have Hr := hide (Hyes.out hc);clear hc Hno Hyes
     go_wp2_with fail
     refine HN.out.mono ?_;rintro e w' ⟨rfl, rfl⟩
     go_wp2_with fail
     refine cq (HF.out _) ?_
     go_wp2
     go_roundg (s.size - (k + m))
     case measure => have := Hg.out; omega
     case rel => exact ⟨k + m, rfl, by omega, by go_num, Hr.out, rfl⟩
    | false =>
     have Hr := hide (Hno.out hc);clear hc Hno Hyes
     go_wp2_with fail
     refine HN.out.mono ?_;rintro e w' ⟨rfl, rfl⟩
     go_wp2_with fail
     refine cq (HF.out _) ?_
     go_wp2
     go_ret
     exact ⟨ret_eq1 (int_eq (Hr.out)), rfl⟩
  have hkz : k = s.size := by omega
  have Hr := hide (show (k : Int) = (z : Int) from by
   rw [← hz];unfold takeFrom;rw [List.drop_of_length_le (by rw [size_list]; omega), size_list];exact congrArg Int.ofNat hkz)
  clear hz hkz Hz
  go_wp2
  go_ret
  exact ⟨ret_eq1 (int_eq (Hr.out)), rfl⟩
end
end Go.Proofs.YtbbpkcddifmieaaGreatDoor
