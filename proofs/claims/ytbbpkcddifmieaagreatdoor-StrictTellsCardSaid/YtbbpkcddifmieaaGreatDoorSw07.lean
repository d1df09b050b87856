/- Tokens: the scan's value. · Tokens: what a part of the declaration may hold. · Tokens: an encoding's name. -/
import Derived.Test.YtbbpkcddifmieaaGreatDoorSw05
set_option linter.unusedSimpArgs false
set_option linter.unusedVariables false
namespace Go.Proofs.YtbbpkcddifmieaaGreatDoor
section
open Go.RowKit Tk

theorem pfx_one {c : UInt8} {l : L} (h : [c].isPrefixOf l = true) : ∃ r, l = c :: r := by
 cases l with
 | nil => simp at h
 | cons d r =>
  have : c = d := by simpa using h
  exact ⟨r, by rw [this]⟩
theorem pfx_one_no {c : UInt8} {l : L} (h : [c].isPrefixOf l = false) : ∀ r, l ≠ c :: r := by
 intro r e;rw [e] at h;simp at h
theorem drop_add (s : ByteArray) (a b : Nat) : s.data.toList.drop (a + b) = (s.data.toList.drop a).drop b := by rw [List.drop_drop]
theorem pfx_len {p l : L} (h : p.isPrefixOf l = true) : p.length ≤ l.length := List.IsPrefix.length_le (List.isPrefixOf_iff_prefix.1 h)

def ValR (w : World) (X : Nat) (s : ByteArray) (k : Nat) (o : Option (L × Nat)) (e : Ending) (w' : World) : Prop :=
 But X w w' ∧ match o with
  | none => e = .returned (.tuple #[.string ⟨#[]⟩, .bool false]) ∧ ∃ k', k ≤ k' ∧ k' ≤ s.size ∧ Sc w' X s k'
  | some x => e = .returned (.tuple #[.string (bstr x.1), .bool true]) ∧ k + x.2 ≤ s.size ∧ Sc w' X s (k + x.2)
theorem eqv_no {d : L} (h : [61].isPrefixOf (d.drop (nsp d)) = false) : eqv d = none := by
 unfold eqv;split
 ·rfl
 rename_i c r e
 rw [if_neg];intro hc;subst hc;exact pfx_one_no h r e
theorem eqv_yes {d r : L} (h : d.drop (nsp d) = 61 :: r) : eqv d = (Tk.quoted (r.drop (nsp r))).map fun x => (x.1, nsp d + 1 + nsp r + x.2) := by
 unfold eqv;rw [h];simp

theorem quoted_yes {q : UInt8} {r : L} (h : q = 34 ∨ q = 39) : Tk.quoted (q :: r) = (till [q] r).map fun k => (r.take k, k + 2) := by
 show (if q = 34 ∨ q = 39 then _ else none) = _;rw [if_pos h]
theorem quoted_no {t : L} (h1 : [34].isPrefixOf t = false) (h2 : [39].isPrefixOf t = false) : Tk.quoted t = none := by
 cases t with
 | nil => rfl
 | cons q r =>
  show (if q = 34 ∨ q = 39 then _ else none) = _;rw [if_neg];rintro (rfl | rfl)
  ·exact pfx_one_no h1 r rfl
  exact pfx_one_no h2 r rfl
theorem qi0 (w : World) : (Instr.index 24 (.agg #[.string ⟨#[34]⟩, .string ⟨#[39]⟩]) (.int .i64 0)).run Tryz.prog w = .ok (.string ⟨#[34]⟩) w := by kernel_rfl
theorem qi1 (w : World) : (Instr.index 24 (.agg #[.string ⟨#[34]⟩, .string ⟨#[39]⟩]) (.int .i64 1)).run Tryz.prog w = .ok (.string ⟨#[39]⟩) w := by kernel_rfl
theorem size1 (q : UInt8) : (⟨#[q]⟩ : ByteArray).size ≤ 1000 := by
 have : (⟨#[q]⟩ : ByteArray).size = 1 := rfl;omega
theorem quote_any (X : Nat) (s : ByteArray) (m : Nat) (q : UInt8) (r : L) (hX6 : 6 ≤ X) (hs : s.size ≤ 1000000000) (hm : m + 1 ≤ s.size) (hr : s.data.toList.drop (m + 1) = r) (hq : q = 34 ∨ q = 39) (w W : World) (hW : Sc W X s (m + 1)) (hb : But X w W) (hg : Gl w) :
  Calls Tryz.prog 106 #[.pointer (some ⟨X, 0, none⟩), .string ⟨#[q]⟩] W (ValR w X s m (Tk.quoted (q :: r))) := by
 rw [quoted_yes hq]
 cases h : till [q] r with
 | none =>
  refine (till_no W X s ⟨#[q]⟩ (m + 1) (by rw [hr]; exact h) hW hX6 (hg.but hb hX6) hm hs (size1 q)).mono ?_;rintro e w' ⟨rfl, h1, h2⟩;exact ⟨hb.trans h2, rfl, m + 1, by omega, hm, h1⟩
 | some n =>
  have hn := (till_some h).2;have hl : r.length = s.size - (m + 1) := by rw [← hr, List.length_drop, size_list]
  simp at hn;refine (till_yes W X s ⟨#[q]⟩ (m + 1) n (by rw [hr]; exact h) hW hX6 (hg.but hb hX6) hm hs (size1 q)).mono ?_;rintro e w' ⟨rfl, h1, h2⟩;refine ⟨hb.trans h2, ?_, by dsimp only; omega, ?_⟩
  ·rw [extract_bstr, hr, show m + 1 + n - (m + 1) = n by omega]
  have e : (⟨#[q]⟩ : ByteArray).size = 1 := rfl;rw [e, show m + 1 + n + 1 = m + (n + 2) by omega] at h1;exact h1
theorem ValR.more {w : World} {X : Nat} {s : ByteArray} {k m c : Nat} {o : Option (L × Nat)} {e : Ending} {w' : World} (h : ValR w X s m o e w') (hm : k + c = m) : ValR w X s k (o.map fun x => (x.1, c + x.2)) e w' := by
 cases o with
 | none =>
  obtain ⟨h1, h2, k', h3, h4, h5⟩ := h;exact ⟨h1, h2, k', by omega, h4, h5⟩
 | some x =>
  obtain ⟨h1, h2, h3, h4⟩ := h;refine ⟨h1, h2, by dsimp only; omega, ?_⟩;rw [show k + (c + x.2) = m + x.2 by omega];exact h4

set_option maxHeartbeats 8000000 in
set_option maxRecDepth 20000 in
theorem value_any (w : World) (X : Nat) (s : ByteArray) (k : Nat) (hX : Sc w X s k) (hX6 : 6 ≤ X) (hg : Gl w) (ha : k ≤ s.size) (hs : s.size ≤ 1000000000) :
  Calls Tryz.prog 105 #[.pointer (some ⟨X, 0, none⟩)] w (ValR w X s k (eqv (s.data.toList.drop k))) := by
 obtain ⟨d, hd⟩ : ∃ d, s.data.toList.drop k = d := ⟨_, rfl⟩;have hdl : d.length = s.size - k := by rw [← hd, List.length_drop, size_list]
 obtain ⟨a, hak⟩ : ∃ a, nsp d = a := ⟨_, rfl⟩;have hal : a ≤ s.size - k := by have := nsp_le d; omega
 have HB1 := hide (blanks_any w X s k hX ha hs);have hd1 : s.data.toList.drop (k + a) = d.drop a := by rw [drop_add, hd]
 have HI := hide fun W (hW : Sc W X s (k + a)) => isp_any W X s ⟨#[61]⟩ (k + a) hW (by omega) hs (by decide);rw [hd, hak] at HB1;rw [hd1] at HI;rw [hd]
 cases hp : [61].isPrefixOf (d.drop a) with
 | false =>
  rw [eqv_no (by rw [hak]; exact hp)]
  replace HI := hide fun W hW => (show Calls Tryz.prog 104 #[.pointer (some ⟨X, 0, none⟩), .string ⟨#[61]⟩] W fun e w' => e = .returned (.bool false) ∧ Sc w' X s (k + a) ∧ But X W w' from by
   have := HI.out W hW;rw [show ((⟨#[61]⟩ : ByteArray).data.toList.isPrefixOf (d.drop a)) = false from hp] at this
   simpa using this)
  have HL := hide (show k + a ≤ s.size by omega);clear hp hd hdl hd1 hak hal;unfold ValR
  go_enter Tryz.func105, Tryz.ntmps105
  go_wp2_with fail
  refine HB1.out.mono ?_;rintro e w1 ⟨rfl, h1, b1⟩;have B1 := hide b1;have S1 := hide h1;clear b1 h1
  go_wp2_with fail
  refine (HI.out _ S1.out).mono ?_;rintro e w2 ⟨rfl, h2, b2⟩;have B2 := hide (B1.out.trans b2);have S2 := hide h2;clear b2 h2;go_wp2;go_ret2;exact ⟨B2.out, rfl, k + a, by omega, HL.out, S2.out⟩
 | true =>
  obtain ⟨r, hr⟩ := pfx_one hp;rw [eqv_yes (by rw [hak]; exact hr), hak]
  replace HI := hide fun W hW => (show Calls Tryz.prog 104 #[.pointer (some ⟨X, 0, none⟩), .string ⟨#[61]⟩] W fun e w' => e = .returned (.bool true) ∧ Sc w' X s (k + a + 1) ∧ But X W w' from by
   have := HI.out W hW;rw [show ((⟨#[61]⟩ : ByteArray).data.toList.isPrefixOf (d.drop a)) = true from hp] at this
   simpa [ByteArray.size] using this)
  have hlr : a + 1 + r.length = d.length := by
   have := congrArg List.length hr;rw [List.length_drop, List.length_cons] at this;omega
  have hd2 : s.data.toList.drop (k + a + 1) = r := by rw [drop_add, hd1, hr]; rfl
  obtain ⟨b, hbk⟩ : ∃ b, nsp r = b := ⟨_, rfl⟩;have hbl : b ≤ r.length := by have := nsp_le r; omega
  have HB2 := hide fun W (hW : Sc W X s (k + a + 1)) => blanks_any W X s (k + a + 1) hW (by omega) hs;rw [hd2, hbk] at HB2;rw [hbk];obtain ⟨m, hm⟩ : ∃ m, k + a + 1 + b = m := ⟨_, rfl⟩;rw [hm] at HB2;have hdm : s.data.toList.drop m = r.drop b := by rw [← hm, drop_add, hd2]
  obtain ⟨t, ht⟩ : ∃ t, r.drop b = t := ⟨_, rfl⟩;rw [ht] at hdm ⊢;have hmt : m + t.length = s.size := by rw [← ht, List.length_drop]; omega
  have HQ := hide fun (q : UInt8) W (hW : Sc W X s m) => (show Calls Tryz.prog 104 #[.pointer (some ⟨X, 0, none⟩), .string ⟨#[q]⟩] W fun e w' => e = .returned (.bool ([q].isPrefixOf t)) ∧ Sc w' X s (if [q].isPrefixOf t = true then m + 1 else m) ∧ But X W w' from by
   have := isp_any W X s ⟨#[q]⟩ m hW (by omega) hs (size1 q);rw [hdm] at this;exact this)
  have HT := hide fun (q : UInt8) (hq : q = 34 ∨ q = 39) (h : [q].isPrefixOf t = true) W (hW : Sc W X s (m + 1)) (hb : But X w W) => (show Calls Tryz.prog 106 #[.pointer (some ⟨X, 0, none⟩), .string ⟨#[q]⟩] W (ValR w X s m (Tk.quoted t)) from by
   obtain ⟨r2, hr2⟩ := pfx_one h;rw [hr2] at hmt ⊢;rw [List.length_cons] at hmt;exact quote_any X s m q r2 hX6 hs (by omega) (by rw [drop_add, hdm, hr2]; rfl) hq w W hW hb hg)
  have HN := hide fun (h1 : [34].isPrefixOf t = false) (h2 : [39].isPrefixOf t = false) => (show Tk.quoted t = none from quoted_no h1 h2);have HM := hide fun (e : Ending) (w' : World) (h : ValR w X s m (Tk.quoted t) e w') => (show ValR w X s k ((Tk.quoted t).map fun x => (x.1, a + 1 + b + x.2)) e w' from h.more (by omega));have HL := hide (show m ≤ s.size by omega);generalize Tk.quoted t = o at *
  obtain ⟨o', ho'⟩ : ∃ o', (o.map fun x : L × Nat => (x.1, a + 1 + b + x.2)) = o' := ⟨_, rfl⟩;rw [ho'] at HM ⊢;clear hp hd hdl hd1 hak hal hr hlr hd2 hbk hbl hm hdm ht hmt ho'
  go_enter Tryz.func105, Tryz.ntmps105
  go_wp2_with fail
  refine HB1.out.mono ?_;rintro e w1 ⟨rfl, h1, b1⟩;have B1 := hide b1;have S1 := hide h1;clear b1 h1
  go_wp2_with fail
  refine (HI.out _ S1.out).mono ?_;rintro e w2 ⟨rfl, h2, b2⟩;have B2 := hide (B1.out.trans b2);have S2 := hide h2;clear b2 h2 B1 S1
  go_wp2_with fail
  refine (HB2.out _ S2.out).mono ?_;rintro e w3 ⟨rfl, h3, b3⟩;have B3 := hide (B2.out.trans b3);have S3 := hide h3;clear b3 h3 B2 S2;go_wp2
  go_loopg [14] 2 (fun g v wr => ∃ j : Nat, g = 2 - j ∧ j ≤ 2 ∧ v = .int .i64 (j : Int) ∧ (1 ≤ j → [34].isPrefixOf t = false) ∧ (2 ≤ j → [39].isPrefixOf t = false) ∧ Sc wr X s m ∧ But X w wr)
  case atStart => exact ⟨0, rfl, by omega, rfl, fun h => absurd h (by omega), fun h => absurd h (by omega), S3.out, B3.out⟩
  case round =>
   obtain ⟨j, hg, hj, rfl, h1, h2, hS, hB⟩ := hrel;have Hg := hide hg;have H1 := hide h1;have H2 := hide h2;have HS := hide hS;have HB := hide hB;clear hg h1 h2 hS hB;have qx0 := qi0 wr;have qx1 := qi1 wr
   rcases (show j = 0 ∨ j = 1 ∨ j = 2 by omega) with rfl | rfl | rfl
   ·cases hc : [(34 : UInt8)].isPrefixOf t with
    | true =>
     have HQ1 := hide (HQ.out 34 _ HS.out);rw [hc, if_pos rfl] at HQ1;have HT1 := hide (HT.out 34 (.inl rfl) hc);clear hc HQ HT
     go_wp2_with fail
     refine HQ1.out.mono ?_;rintro e w4 ⟨rfl, h4, b4⟩;have B4 := hide (HB.out.trans b4);have S4 := hide h4;clear b4 h4
     go_wp2_with fail
     refine (HT1.out _ S4.out B4.out).mono ?_;rintro e w5 hv
     cases o with
     | none =>
      obtain ⟨g1, rfl, g2⟩ := hv;have G := hide (HM.out _ _ ⟨g1, rfl, g2⟩);clear g1 g2 HM HT1 HQ1;go_wp2;go_ret2;exact G.out
     | some x =>
      obtain ⟨g1, rfl, g2⟩ := hv;have G := hide (HM.out _ _ ⟨g1, rfl, g2⟩);clear g1 g2 HM HT1 HQ1;go_wp2;go_ret2;exact G.out
    | false =>
     have HQ1 := hide (HQ.out 34 _ HS.out);rw [hc, if_neg (by simp)] at HQ1;have Hc := hide hc;clear hc HQ HT
     go_wp2_with fail
     refine HQ1.out.mono ?_;rintro e w4 ⟨rfl, h4, b4⟩;have B4 := hide (HB.out.trans b4);have S4 := hide h4;clear b4 h4 HQ1;go_wp2
     go_roundg 1
     case measure => have := Hg.out; omega
     case rel => exact ⟨1, rfl, by omega, rfl, fun _ => Hc.out, fun h => absurd h (by omega), S4.out, B4.out⟩
   ·cases hc : [(39 : UInt8)].isPrefixOf t with
    | true =>
     have HQ1 := hide (HQ.out 39 _ HS.out);rw [hc, if_pos rfl] at HQ1;have HT1 := hide (HT.out 39 (.inr rfl) hc);clear hc HQ HT
     go_wp2_with fail
     refine HQ1.out.mono ?_;rintro e w4 ⟨rfl, h4, b4⟩;have B4 := hide (HB.out.trans b4);have S4 := hide h4;clear b4 h4
     go_wp2_with fail
     refine (HT1.out _ S4.out B4.out).mono ?_;rintro e w5 hv
     cases o with
     | none =>
      obtain ⟨g1, rfl, g2⟩ := hv;have G := hide (HM.out _ _ ⟨g1, rfl, g2⟩);clear g1 g2 HM HT1 HQ1;go_wp2;go_ret2;exact G.out
     | some x =>
      obtain ⟨g1, rfl, g2⟩ := hv;have G := hide (HM.out _ _ ⟨g1, rfl, g2⟩);clear g1 g2 HM HT1 HQ1;go_wp2;go_ret2;exact G.out
    | false =>
     have HQ1 := hide (HQ.out 39 _ HS.out);rw [hc, if_neg (by simp)] at HQ1;have Hc := hide hc;clear hc HQ HT
     go_wp2_with fail
     refine HQ1.out.mono ?_;rintro e w4 ⟨rfl, h4, b4⟩;have B4 := hide (HB.out.trans b4);have S4 := hide h4;clear b4 h4 HQ1;go_wp2
     go_roundg 0
     case measure => have := Hg.out; omega
     case rel => exact ⟨2, rfl, by omega, rfl, fun _ => H1.out (by omega), fun _ => Hc.out, S4.out, B4.out⟩
   have ho := HN.out (H1.out (by omega)) (H2.out (by omega));subst ho;have G := hide (HM.out (.returned (.tuple #[.string ⟨#[]⟩, .bool false])) wr ⟨HB.out, rfl, m, by omega, HL.out, HS.out⟩);clear HM HQ HT HN;go_wp2;go_ret2;exact G.out
end
section
open Go.RowKit Tk

theorem dropWhile_nil {α : Type} {f : α → Bool} : ∀ {l : List α}, l.dropWhile f = [] ↔ ∀ x ∈ l, f x = true
 | [] => by simp
 | a :: l => by
  rw [List.dropWhile_cons];split
  ·rename_i h
   rw [dropWhile_nil]
   constructor
   ·intro g x hx
    rcases List.mem_cons.1 hx with rfl | hx
    ·exact h
    exact g x hx
   exact fun g x hx => g x (List.mem_cons_of_mem _ hx)
  rename_i h
  constructor
  ·intro e; cases e
  intro g;exact absurd (g a (List.mem_cons_self ..)) h
theorem dropWhile_head {α : Type} {f : α → Bool} {l : List α} {a : α} {r : List α} (h : l.dropWhile f = a :: r) : f a = false := by
 induction l with
 | nil => simp at h
 | cons b l ih =>
  rw [List.dropWhile_cons] at h
  split at h
  ·exact ih h
  rename_i hb
  cases h
  simpa using hb
theorem trimS_nil (l cs : L) : Lib.trimS l cs = [] ↔ l.all (cs.contains ·) = true := by
 unfold Lib.trimS Lib.trimLeftS Lib.trimRightS;rw [dropWhile_nil, List.all_eq_true]
 constructor
 ·intro h
  cases hd : l.reverse.dropWhile (cs.contains ·) with
  | nil =>
   rw [dropWhile_nil] at hd;exact fun x hx => hd x (by simpa using hx)
  | cons a r =>
   have h1 := dropWhile_head hd;have h2 := h a (by rw [hd]; simp);rw [h1] at h2;cases h2
 intro h;have : l.reverse.dropWhile (cs.contains ·) = [] := dropWhile_nil.2 (fun x hx => h x (by simpa using hx));rw [this];intro x hx;cases hx
theorem digit_set (c : UInt8) : ([48, 49, 50, 51, 52, 53, 54, 55, 56, 57] : L).contains c = digit c := by
 have : ∀ n : Fin 256, ([48, 49, 50, 51, 52, 53, 54, 55, 56, 57] : L).contains (UInt8.ofNat n.val) = digit (UInt8.ofNat n.val) := by decide +kernel
 have h := this ⟨c.toNat, c.toNat_lt⟩;rwa [show UInt8.ofNat c.toNat = c from UInt8.ofNat_toNat] at h
theorem str_list (s : ByteArray) : s.toList = s.data.toList := ByteArray.toList_eq ..
theorem str_emp (s : ByteArray) : (s.toList == ([] : L)) = s.data.toList.isEmpty := by
 rw [str_list]
 cases s.data.toList <;> rfl

def digits (l : L) : Bool := !l.isEmpty && l.all digit
set_option maxRecDepth 20000 in
theorem digits_any (s : ByteArray) (w : World) (hs : s.size ≤ 1000000000) : Calls Tryz.prog 147 #[.string s] w fun e w' => e = .returned (.bool (digits s.data.toList)) ∧ Below w.heap.size w w' := by
 have hE := str_emp s;have HT := hide (Any.strings_Trim_laid Tryz.lays160 (by kernel_rfl) s ⟨#[48, 49, 50, 51, 52, 53, 54, 55, 56, 57]⟩ w (by omega) (by decide) (ascii_of_all (by decide)));have hA := trimS_nil s.data.toList [48, 49, 50, 51, 52, 53, 54, 55, 56, 57]
 have hB : s.data.toList.all (([48, 49, 50, 51, 52, 53, 54, 55, 56, 57] : L).contains ·) = s.data.toList.all digit := by
  congr 1
  funext c
  exact digit_set c
 rw [hB] at hA;have hD : digits s.data.toList = (!s.data.toList.isEmpty && s.data.toList.all digit) := rfl;generalize digits s.data.toList = b at *
 generalize s.data.toList.all digit = q at *
 cases he : s.data.toList.isEmpty with
 | true =>
  rw [he] at hE hD;have HD := hide hD;clear hA hB hD he HT
  go_enter Tryz.func147, Tryz.ntmps147
  go_wp2;go_ret;exact ⟨ret_eq1 (bool_eq (by rw [HD.out]; rfl)), Below.refl _ _⟩
 | false =>
  rw [he] at hE hD;obtain ⟨t, ht⟩ : ∃ t : ByteArray, (⟨(Lib.trimS s.data.toList [48, 49, 50, 51, 52, 53, 54, 55, 56, 57]).toArray⟩ : ByteArray) = t := ⟨_, rfl⟩
  have hT : (t.toList == ([] : L)) = q := by
   rw [str_emp, ← ht];show (Lib.trimS s.data.toList [48, 49, 50, 51, 52, 53, 54, 55, 56, 57]).isEmpty = q;rw [Bool.eq_iff_iff, List.isEmpty_iff, hA]
  replace HT := hide (show Calls Tryz.prog 159 #[.string s, .string ⟨#[48, 49, 50, 51, 52, 53, 54, 55, 56, 57]⟩] w fun e w' => e = .returned (.string t) ∧ Below w.heap.size w w' from by rw [← ht]; exact HT.out);have HD := hide hD;clear hA hB hD he ht
  go_enter Tryz.func147, Tryz.ntmps147
  go_wp2_with fail
  refine HT.out.mono ?_;rintro e w1 ⟨rfl, hb⟩;go_wp2;go_ret;exact ⟨ret_eq1 (bool_eq (by rw [HD.out]; rfl)), hb⟩
theorem alone_any (s : ByteArray) (w : World) : Calls Tryz.prog 132 #[.string s] w fun e w' => e = .returned (.bool (alone s.data.toList)) ∧ Below w.heap.size w w' := by
 have h1 : (s.toList == ([121, 101, 115] : L)) = decide (s.data.toList = [121, 101, 115]) := by rw [str_list, Bool.eq_iff_iff]; simp
 have h2 : (s.toList == ([110, 111] : L)) = decide (s.data.toList = [110, 111]) := by rw [str_list, Bool.eq_iff_iff]; simp
 unfold alone;generalize decide (s.data.toList = [121, 101, 115]) = a at *
 generalize decide (s.data.toList = [110, 111]) = b at *
 cases a with
 | true =>
  go_enter Tryz.func132, Tryz.ntmps132
  go_wp2;go_ret;exact ⟨ret_eq1 (bool_eq (by simp)), Below.refl _ _⟩
 | false =>
  go_enter Tryz.func132, Tryz.ntmps132
  go_wp2;go_ret;exact ⟨ret_eq1 (bool_eq (by simp)), Below.refl _ _⟩
theorem version_any (s : ByteArray) (w : World) (hs : s.size ≤ 1000000000) : Calls Tryz.prog 130 #[.string s] w fun e w' => e = .returned (.bool (version s.data.toList)) ∧ Below w.heap.size w w' := by
 have HP := hide (show Calls Tryz.prog 111 #[.string s, .string ⟨#[49, 46]⟩] w fun e w' => e = .returned (.bool ([49, 46].isPrefixOf s.data.toList)) ∧ w' = w from Tryz.strings_HasPrefix s ⟨#[49, 46]⟩ w)
 have hv : version s.data.toList = ([49, 46].isPrefixOf s.data.toList && digits (s.data.toList.drop 2)) := by
  unfold version digits;rw [Bool.and_assoc]
 rw [hv]
 cases hp : ([49, 46] : L).isPrefixOf s.data.toList with
 | false =>
  rw [hp] at HP;clear hv hp
  go_enter Tryz.func130, Tryz.ntmps130
  go_wp2_with (go_at_call 111; refine HP.out.mono ?_; rintro e w' ⟨rfl, rfl⟩)
  go_ret;exact ⟨ret_eq1 (bool_eq (by simp)), Below.refl _ _⟩
 | true =>
  have h2 : 2 ≤ s.size := by have := pfx_len hp; rw [size_list] at this; exact this
  have hns : ¬ ((s.size : Int) < 2) := by omega
  have HD := hide (show Calls Tryz.prog 147 #[.string (s.extract 2 s.size)] w fun e w' => e = .returned (.bool (digits (s.data.toList.drop 2))) ∧ Below w.heap.size w w' from by
   have h := digits_any (s.extract 2 s.size) w (by rw [ByteArray.size_extract]; omega);rw [extract_end, bstr_list] at h;rw [extract_end];exact h)
  rw [hp] at HP;clear hv hp;generalize digits (s.data.toList.drop 2) = b at *
  go_enter Tryz.func130, Tryz.ntmps130
  go_wp2_with fail
  refine HP.out.mono ?_;rintro e w1 ⟨rfl, rfl⟩
  go_wp2_with fail
  refine HD.out.mono ?_;rintro e w2 ⟨rfl, hb⟩;go_wp2;go_ret;exact ⟨ret_eq1 (bool_eq (by simp)), hb⟩
end
section
open Go.RowKit Tk

def encSet : L := [48, 49, 50, 51, 52, 53, 54, 55, 56, 57, 46, 95, 45]
theorem enc_bits (c : UInt8) : (decide (97 ≤ bits BinOp.or IntKind.u8 (c.toNat : Int) 32) && decide (bits BinOp.or IntKind.u8 (c.toNat : Int) 32 ≤ 122)) = letter c := by
 have : ∀ n : Fin 256, (decide (97 ≤ bits BinOp.or IntKind.u8 (n.val : Int) 32) && decide (bits BinOp.or IntKind.u8 (n.val : Int) 32 ≤ 122)) = letter (UInt8.ofNat n.val) := by decide +kernel
 have h := this ⟨c.toNat, c.toNat_lt⟩;rwa [show UInt8.ofNat c.toNat = c from UInt8.ofNat_toNat] at h
theorem enc_set (c : UInt8) : decide (Lib.indexByte encSet c < 0) = !(digit c || c == 46 || c == 95 || c == 45) := by
 have : ∀ n : Fin 256, decide (Lib.indexByte encSet (UInt8.ofNat n.val) < 0) = !(digit (UInt8.ofNat n.val) || UInt8.ofNat n.val == 46 || UInt8.ofNat n.val == 95 || UInt8.ofNat n.val == 45) := by decide +kernel
 have h := this ⟨c.toNat, c.toNat_lt⟩;rwa [show UInt8.ofNat c.toNat = c from UInt8.ofNat_toNat] at h
def encRest (l : L) (k : Nat) : Bool := if k = 0 then encoding l else (l.drop k).all encTail
theorem encRest_next {l : L} {k : Nat} {c : UInt8} (h : l[k]? = some c) : encRest l k = ((letter c || (decide (0 < k) && (digit c || c == 46 || c == 95 || c == 45))) && encRest l (k + 1)) := by
 obtain ⟨hk, hc⟩ := List.getElem?_eq_some_iff.1 h;unfold encRest;rw [if_neg (by omega : ¬ k + 1 = 0)]
 by_cases h0 : k = 0
 ·subst h0
  cases l with
  | nil => simp at hk
  | cons d r =>
   have : d = c := hc;subst this;rw [if_pos rfl];simp [encoding]
 rw [if_neg h0, List.drop_eq_getElem_cons hk, hc, List.all_cons, decide_eq_true (show 0 < k by omega), Bool.true_and];congr 1;unfold encTail;simp only [Bool.or_assoc]

set_option maxRecDepth 20000 in
set_option maxHeartbeats 4000000 in
theorem encoding_any (s : ByteArray) (w : World) (hs : s.size ≤ 1000000000) : Calls Tryz.prog 131 #[.string s] w fun e w' => e = .returned (.bool (encoding s.data.toList)) ∧ Below w.heap.size w w' := by
 have HE := hide (str_emp s)
 have HR0 := hide (show encRest s.data.toList s.size = !s.data.toList.isEmpty from by
  unfold encRest
  by_cases h : s.size = 0
  ·have hl : s.data.toList = [] := List.eq_nil_of_length_eq_zero (by rw [size_list]; exact h);rw [if_pos h, hl];rfl
  rw [if_neg h, List.drop_of_length_le (by rw [size_list]; exact Nat.le_refl _)]
  cases hl : s.data.toList with
  | nil => rw [← size_list, hl] at h; exact absurd rfl h
  | cons c r => rfl)
 obtain ⟨b, hb⟩ : ∃ b, encoding s.data.toList = b := ⟨_, rfl⟩;have H0 := hide (show encRest s.data.toList 0 = b from hb);rw [hb];clear hb
 go_enter Tryz.func131, Tryz.ntmps131
 go_wp2
 go_loopg [8] s.size (fun g v wr => ∃ k : Nat, g = s.size - k ∧ k ≤ s.size ∧ v = .int .i64 (k : Int) ∧ encRest s.data.toList k = b ∧ wr = w)
 case atStart => exact ⟨0, rfl, by omega, rfl, H0.out, rfl⟩
 case round =>
  obtain ⟨k, hg, hk, rfl, hr, rfl⟩ := hrel;have Hg := hide hg;have Hr := hide hr;clear hg hr
  by_cases hlt : k < s.size
  ·obtain ⟨c, hc⟩ : ∃ c, s.data.toList[k]? = some c := ⟨_, List.getElem?_eq_getElem (by rw [size_list]; exact hlt)⟩;have hix := idx_run s k c hc;have HN := hide (encRest_next hc);have hl := enc_bits c;have hu := enc_set c
   have HIX := hide (show Calls Tryz.prog 20 #[.string ⟨#[48, 49, 50, 51, 52, 53, 54, 55, 56, 57, 46, 95, 45]⟩, .int .u8 (c.toNat : Nat)] wr fun e w' => e = .returned (.int .i64 (Lib.indexByte encSet c)) ∧ w' = wr from by
    have h := Tryz.strings_IndexByte ⟨#[48, 49, 50, 51, 52, 53, 54, 55, 56, 57, 46, 95, 45]⟩ (c.toNat : Int) wr;rw [Int.toNat_natCast, show c.toNat.toUInt8 = c from UInt8.ofNat_toNat] at h;exact h)
   obtain ⟨z, hz⟩ : ∃ z, Lib.indexByte encSet c = z := ⟨_, rfl⟩;rw [hz] at hu HIX;obtain ⟨u, hu2⟩ : ∃ u, (digit c || c == 46 || c == 95 || c == 45) = u := ⟨_, rfl⟩;rw [hu2] at hu HN;obtain ⟨lt, hlt2⟩ : ∃ u, letter c = u := ⟨_, rfl⟩;rw [hlt2] at hl HN;obtain ⟨d, hd⟩ : ∃ d, bits BinOp.or IntKind.u8 (c.toNat : Int) 32 = d := ⟨_, rfl⟩;rw [hd] at hl;clear hc hz hu2 hlt2
   have hl1 : (97 ≤ d ∧ d ≤ 122 ∧ lt = true) ∨ (97 ≤ d ∧ ¬ d ≤ 122 ∧ lt = false) ∨ (¬ 97 ≤ d ∧ lt = false) := by
    by_cases h1 : 97 ≤ d
    ·by_cases h2 : d ≤ 122
     ·left; exact ⟨h1, h2, by rw [← hl]; simp [h1, h2]⟩
     right; left; exact ⟨h1, h2, by rw [← hl]; simp [h1, h2]⟩
    right; right; exact ⟨h1, by rw [← hl]; simp [h1]⟩
   clear hl
   have hu1 : (z < 0 ∧ u = false) ∨ (¬ z < 0 ∧ u = true) := by
    by_cases h : z < 0
    ·left; exact ⟨h, by simpa [h] using hu⟩
    right; exact ⟨h, by simpa [h] using hu⟩
   clear hu
   rcases hl1 with ⟨g1, g2, rfl⟩ | hrest
   ·go_wp2
    go_roundg (s.size - (k + 1))
    case measure => have := Hg.out; omega
    case rel => exact ⟨k + 1, rfl, by omega, by go_num, by rw [← Hr.out, HN.out]; simp, rfl⟩
   have hlf : lt = false := by rcases hrest with ⟨-, -, h⟩ | ⟨-, h⟩ <;> exact h
   subst hlf
   by_cases h0 : k = 0
   ·have h0' : ((k : Int) == 0) = true := by simp [h0]
    have HF := hide (show b = false by rw [← Hr.out, HN.out]; simp [h0]);clear HN h0 HIX hu1
    rcases hrest with ⟨g1, g2, -⟩ | ⟨g1, -⟩
    all_goals
     go_wp2;go_ret;exact ⟨ret_eq1 (bool_eq HF.out.symm), Below.refl _ _⟩
   have h0' : ((k : Int) == 0) = false := by rw [beq_eq_false_iff_ne]; omega
   rcases hu1 with ⟨hz, rfl⟩ | ⟨hz, rfl⟩
   ·have HF := hide (show b = false by rw [← Hr.out, HN.out]; simp);clear HN h0
    rcases hrest with ⟨g1, g2, -⟩ | ⟨g1, -⟩
    all_goals
     go_wp2_with (go_at_call 20; refine HIX.out.mono ?_; rintro e w' ⟨rfl, rfl⟩)
     go_ret;exact ⟨ret_eq1 (bool_eq HF.out.symm), Below.refl _ _⟩
   have HT := hide (show encRest s.data.toList (k + 1) = b by rw [← Hr.out, HN.out]; simp; intro h; omega);clear HN h0
   rcases hrest with ⟨g1, g2, -⟩ | ⟨g1, -⟩
   all_goals
    go_wp2_with (go_at_call 20; refine HIX.out.mono ?_; rintro e w' ⟨rfl, rfl⟩)
    go_roundg (s.size - (k + 1))
    case measure => have := Hg.out; omega
    case rel => exact ⟨k + 1, rfl, by omega, by go_num, HT.out, rfl⟩
  have hke : k = s.size := by omega
  have HB := hide (show b = !s.data.toList.isEmpty by rw [← Hr.out, hke, HR0.out]);have hE := HE.out;generalize s.data.toList.isEmpty = em at *
  clear hke HR0
  cases em with
  | true =>
   go_wp2;go_ret;exact ⟨ret_eq1 (bool_eq (by rw [HB.out]; rfl)), Below.refl _ _⟩
  | false =>
   go_wp2;go_ret;exact ⟨ret_eq1 (bool_eq (by rw [HB.out]; rfl)), Below.refl _ _⟩
end
end Go.Proofs.YtbbpkcddifmieaaGreatDoor
