/- Tokens: one: the piece that begins at a byte, of Chars alone. · Tokens in plain data: which words are read as what; no program in sight. -/
import Derived.Test.YtaickkaoglohgaaGreatDoorBw05
import Derived.Test.YtaickkaoglohgaaGreatDoorBw11
import Derived.Laws.EntriesVeiled
set_option linter.unusedSimpArgs false
set_option linter.unusedVariables false
namespace Go.Proofs.YtaickkaoglohgaaGreatDoor
section
open Go.RowKit Tk

set_option maxHeartbeats 8000000 in
set_option maxRecDepth 20000 in
theorem one_any (w : World) (s : ByteArray) (k : Nat) (hg : Gl w) (hw6 : 6 ≤ w.heap.size) (hk : k < s.size) (hs : s.size ≤ 1000000000) :
  Calls Tryz.prog 24 #[.string s, .int .i64 (k : Int)] w (OneR w (Tk.one k (s.data.toList.drop k))) := by
 obtain ⟨l, hl⟩ : ∃ l, s.data.toList.drop k = l := ⟨_, rfl⟩;have hkc := kind_cases l;have HKi := hide (fun W => kind_any (s.extract k s.size) W (by rw [extract_end, bstr_size, List.length_drop, size_list]; omega));rw [extract_end, hl, bstr_list] at HKi;have HPc := hide (fun W X T (hX : Sc W X s k) (hT : T0 W T k) (hne : X ≠ T) (hX6 : 6 ≤ X) (hT6 : 6 ≤ T) (hg : Gl W) => piece_call W X T s k hX hT hne hX6 hT6 hg hk hs);rw [hl] at HPc;have HPc' : Hid (∀ o W X T (hX : Sc W X s k) (hT : T0 W T k) (hne : X ≠ T) (hX6 : 6 ≤ X) (hT6 : 6 ≤ T) (hg : Gl W), o = Tk.piece k l → Calls Tryz.prog (fnOf l) #[.pointer (some ⟨X, 0, none⟩), .pointer (some ⟨T, 0, none⟩)] W (PieceR W W.heap.size X T s k o)) := hide fun o W X T hX hT hne hX6 hT6 hg h => by subst h; exact HPc.out W X T hX hT hne hX6 hT6 hg
 have HL := hide hl;rw [hl];have hes : s.extract k s.size = bstr l := by rw [extract_end, hl]
 obtain ⟨o, ho⟩ : ∃ o, Tk.piece k l = o := ⟨_, rfl⟩;obtain ⟨res, hres⟩ : ∃ r, Tk.one k l = r := ⟨_, rfl⟩;have HR := hide (show res = o.bind fun t => if fine (l.take (t.end_ - k)) then some t else none by rw [← hres, ← ho]; rfl);rw [hres];have Ho := hide ho;have HG := hide hg;clear HPc hl ho hres hg;generalize fnOf l = fn at *
 generalize kindOf l = kd at *
 obtain ⟨L0, hL0⟩ : ∃ L0, bstr l = L0 := ⟨_, rfl⟩;rw [hL0] at HKi hes;clear hL0;have HW := hide (oneW_is w s k);obtain ⟨C, hC⟩ : ∃ C, oneW w s k = C := ⟨_, rfl⟩;rw [hC] at HW
 rcases hkc with ⟨rfl, rfl⟩ | ⟨rfl, rfl⟩ | ⟨rfl, rfl⟩ | ⟨rfl, rfl⟩
 all_goals
  go_enter Tryz.func24, Tryz.ntmps24
  go_wp2_with fail
  show Calls Tryz.prog 59 _ (oneW w s k) _;rw [hC];clear hC;refine (HKi.out _).mono ?_;rintro e w1 ⟨rfl, rfl⟩;generalize w.heap.size + 1 + 1 + 1 = T at *
  generalize w.heap.size + 1 + 1 = X at *
  generalize w.heap.size + 1 = Y at *
  have c0 := Blk.cell HW.out.fns 0;have c1 := Blk.cell HW.out.fns 1;have c2 := Blk.cell HW.out.fns 2;have c3 := Blk.cell HW.out.fns 3;have HRX := hide HW.out.rX;have HRT := hide HW.out.rT
  go_wp2_with fail
  refine (HPc'.out o w1 X T HW.out.sc HW.out.tok HW.out.xT (by have := HW.out.xs; omega) (by have := HW.out.ts; omega) (HG.out.below HW.out.below) Ho.out.symm).mono ?_;rintro e w2 h2;clear c0 c1 c2 c3 HPc' HKi
  cases o with
  | none =>
   obtain ⟨b2, rfl, ⟨k', hk', s2⟩, kd, nm, as_, em, tx, at0, en, t2⟩ := h2;have HRr := hide (show res = none by rw [HR.out]; rfl);have d1 := Sc.c1 s2;have c6 := Tb.c6 t2;have f6 := Tb.f t2 6;have HB2 := hide (show Below w.heap.size w w2 from HW.out.below.trans (b2.below HW.out.xs HW.out.ts HW.out.base));have HK2 := hide (b2.blk HW.out.res HRX.out HRT.out);have HTs := hide HW.out.ts;clear b2 hk' s2 t2 HR HW;generalize HR0 : w.heap.size = R at *
   have p0 := Blk.cell HK2.out 0;have p1 := Blk.cell HK2.out 1;have p2 := Blk.cell HK2.out 2;have p3 := Blk.cell HK2.out 3;have p4 := Blk.cell HK2.out 4;have p5 := Blk.cell HK2.out 5;have p6 := Blk.cell HK2.out 6;have r := fun i => Blk.frozen HK2.out i;have hRT := HRT.out;have hTR := HRT.out.symm;go_wp2;have HBe := hide (below_put7 (HB2.out.setCell (p := ⟨T, 6, none⟩) HTs.out (.int .i64 (k' : Int))) (Nat.le_refl R) (.int .i8 0) (.string ⟨#[]⟩) (.slice none 0 0) (.bool false) (.string ⟨#[]⟩) (.int .i64 0) (.int .i64 0));refine one_ret rfl rfl rfl (put7_blk (Blk.far HK2.out (p := ⟨T, 6, none⟩) hRT (.int .i64 (k' : Int))) _ _ _ _ _ _ _) ?_;exact OneR.no' HR0 HRr.out HBe.out rfl
  | some t =>
   obtain ⟨b2, rfl, hte, hkt, s2, A, c, t2, o2⟩ := h2;have HR1 := hide (show res = if fine (l.take (t.end_ - k)) then some t else none by rw [HR.out]; rfl);have d1 := Sc.c1 s2;have c6 := Tb.c6 t2;have f6 := Tb.f t2 6;have HB2 := hide (show Below w.heap.size w w2 from HW.out.below.trans (b2.below HW.out.xs HW.out.ts HW.out.base));have HK2 := hide (b2.blk HW.out.res HRX.out HRT.out);have HT2 := hide t2;have HO2 := hide o2;have HOs := hide (show (Value.slice A t.attrs.length c).ownBlock ≠ some w.heap.size from fun e => by have := (o2.lt _ e).1; have := HW.out.size; have := HW.out.ts; omega);have HOt := hide (show (Value.slice A t.attrs.length c).ownBlock ≠ some T from fun e => by have := (o2.lt _ e).1; have := HW.out.size; omega);have HO3 := hide (o2.mono (base' := w.heap.size) HW.out.base);have HTs := hide HW.out.ts;clear b2 s2 t2 o2 HR HW HO2;generalize HR0 : w.heap.size = R at *
   have hex : s.extract k t.end_ = bstr (l.take (t.end_ - k)) := by rw [extract_bstr, HL.out]
   obtain ⟨tx, htx⟩ : ∃ tx, l.take (t.end_ - k) = tx := ⟨_, rfl⟩;rw [htx] at hex HR1;have HBa := hide (fun W => bad_any (bstr tx) W (by rw [bstr_size, ← htx, List.length_take]; omega));rw [bstr_list] at HBa;have hbf := bad_fine tx;have Hte := hide hte;clear htx
   go_wp2_with fail
   have HT3 := hide (Tb.end__ HT2.out t.end_);have HK3 := hide (Blk.far HK2.out (p := ⟨T, 6, none⟩) HRT.out (.int .i64 (t.end_ : Int)));have HO4 := hide (ownsRow_setCell_other HO3.out (a := ⟨T, 6, none⟩) HOt.out (.int .i64 (t.end_ : Int)));have HB3 := hide (HB2.out.setCell (p := ⟨T, 6, none⟩) HTs.out (.int .i64 (t.end_ : Int)));clear HT2 HK2 HO3 HB2 d1 c6 f6;generalize w2.setCell ⟨T, 6, none⟩ (.int .i64 (t.end_ : Int)) = W3 at *
   refine (HBa.out _).mono ?_;rintro e w4 ⟨rfl, b4⟩;have HT4 := hide (Blk.go HT3.out b4);have HK4 := hide (Blk.go HK3.out b4);have HO5 := hide (own_below HO4.out b4);have HB4 := hide (HB3.out.trans (b4.mono (by have := HB3.out.size; omega)));clear b4 HT3 HK3 HO4 HB3 HBa;have p0 := Blk.cell HK4.out 0;have p1 := Blk.cell HK4.out 1;have p2 := Blk.cell HK4.out 2;have p3 := Blk.cell HK4.out 3;have p4 := Blk.cell HK4.out 4;have p5 := Blk.cell HK4.out 5;have p6 := Blk.cell HK4.out 6;have r := fun i => Blk.frozen HK4.out i;have q0 := Tb.c0 HT4.out;have q1 := Tb.c1 HT4.out;have q2 := Tb.c2 HT4.out;have q3 := Tb.c3 HT4.out;have q4 := Tb.c4 HT4.out;have q5 := Tb.c5 HT4.out;have q6 := Tb.c6 HT4.out;generalize bad tx = z at *
   cases hf : fine tx with
   | false =>
    rw [hf] at hbf;have HRr := hide (show res = none by rw [HR1.out, hf]; rfl);clear hf HR1;go_wp2;refine one_ret rfl rfl rfl (put7_blk HK4.out _ _ _ _ _ _ _) ?_;exact OneR.no' HR0 HRr.out (below_put7 HB4.out (Nat.le_refl R) _ _ _ _ _ _ _) rfl
   | true =>
    rw [hf] at hbf;have HRr := hide (show res = some t by rw [HR1.out, hf]; rfl);clear hf HR1;go_wp2;refine one_ret rfl rfl rfl (put7_blk HK4.out _ _ _ _ _ _ _) ?_;subst HR0;exact OneR.yes HRr.out (below_put7 HB4.out (Nat.le_refl _) _ _ _ _ _ _ _) rfl (put7_own HO5.out HOs.out _ _ _ _ _ _ _)
end
section
namespace Tk

def Sps (b : L) : Prop := b.all sp = true
theorem nsp_word (l : L) : ∃ b r, l = b ++ r ∧ Sps b ∧ nsp l = b.length ∧ (∀ c t, r = c :: t → sp c = false) := by
 refine ⟨l.takeWhile sp, l.dropWhile sp, (List.takeWhile_append_dropWhile).symm, ?_, rfl, ?_⟩
 ·unfold Sps
  exact List.all_eq_true.2 fun x hx => by
   induction l with
   | nil => cases hx
   | cons c l ih =>
    rw [List.takeWhile_cons] at hx
    split at hx
    ·rename_i hc
     rcases List.mem_cons.1 hx with rfl | hx
     ·exact hc
     exact ih hx
    cases hx
 intro c t h
 induction l with
 | nil => cases h
 | cons d l ih =>
  rw [List.dropWhile_cons] at h
  split at h
  ·exact ih h
  rename_i hd
  cases h
  simpa using hd
theorem nsp_of {b r : L} (hb : Sps b) (hr : ∀ c t, r = c :: t → sp c = false) : nsp (b ++ r) = b.length := by
 unfold nsp
 induction b with
 | nil =>
  cases r with
  | nil => rfl
  | cons c t => rw [List.nil_append, List.takeWhile_cons, hr c t rfl]; rfl
 | cons c b ih =>
  unfold Sps at hb;rw [List.all_cons, Bool.and_eq_true] at hb;rw [List.cons_append, List.takeWhile_cons, hb.1];show (c :: (b ++ r).takeWhile sp).length = _;rw [List.length_cons, List.length_cons, ih hb.2]
theorem till_one {q : UInt8} {r : L} {k : Nat} (h : till [q] r = some k) : ∃ x rest, r = x ++ q :: rest ∧ q ∉ x ∧ k = x.length := by
 rw [till_iff] at h;obtain ⟨h1, h2, h3⟩ := index_first' h;have h4 := Lib.occAt_head (t := []) rfl h1;obtain ⟨h5, h6⟩ := List.getElem?_eq_some_iff.1 h4;refine ⟨r.take k, r.drop (k + 1), ?_, ?_, ?_⟩
 ·rw [← h6, ← List.drop_eq_getElem_cons, List.take_append_drop]
 ·intro hm;obtain ⟨j, hj, e⟩ := List.getElem_of_mem hm;rw [List.length_take] at hj;have h7 := h3 j (by omega);rw [List.getElem_take] at e;unfold Lib.occAt at h7;rw [List.drop_eq_getElem_cons (by omega), e] at h7;simp at h7
 rw [List.length_take]; omega
theorem till_one_of {q : UInt8} {x : L} (hq : q ∉ x) (rest : L) : till [q] (x ++ q :: rest) = some x.length := by
 rw [till_iff];refine Lib.index_first (by simp) ?_ fun j hj => ?_
 ·unfold Lib.occAt; rw [List.drop_left]; simp
 unfold Lib.occAt;rw [List.drop_append_of_le_length (by omega), List.drop_eq_getElem_cons hj, List.cons_append];have : x[j] ≠ q := fun e => hq (e ▸ List.getElem_mem hj);rw [Bool.eq_false_iff];intro h;obtain ⟨r, h⟩ := List.isPrefixOf_iff_prefix.1 h;exact this (List.cons.inj h).1.symm
theorem till_one_none {q : UInt8} {r : L} (h : till [q] r = none) : q ∉ r := by
 intro hm;obtain ⟨s, t, e, hs⟩ := List.eq_append_cons_of_mem hm;rw [e, till_one_of hs] at h;cases h
def EqW (w x : L) : Prop := ∃ b1 b2 q, Sps b1 ∧ Sps b2 ∧ (q = 34 ∨ q = 39) ∧ q ∉ x ∧ w = b1 ++ 61 :: (b2 ++ q :: (x ++ [q]))
theorem quoted_word {l x : L} {n : Nat} (h : quoted l = some (x, n)) : ∃ q rest, (q = 34 ∨ q = 39) ∧ q ∉ x ∧ l = q :: (x ++ q :: rest) ∧ n = x.length + 2 := by
 cases l with
 | nil => cases h
 | cons q r =>
  simp only [quoted] at h
  split at h
  ·rename_i hq
   cases ht : till [q] r with
   | none => rw [ht] at h; cases h
   | some k =>
    rw [ht] at h;simp only [Option.map_some, Option.some.injEq, Prod.mk.injEq] at h;obtain ⟨y, rest, rfl, h2, rfl⟩ := till_one ht;rw [List.take_left] at h;obtain ⟨rfl, rfl⟩ := h;exact ⟨q, rest, hq, h2, rfl, rfl⟩
  cases h
theorem quoted_of {q : UInt8} {x : L} (hq : q = 34 ∨ q = 39) (hx : q ∉ x) (rest : L) : quoted (q :: (x ++ q :: rest)) = some (x, x.length + 2) := by
 simp only [quoted];rw [if_pos hq, till_one_of hx, Option.map_some, List.take_left]
theorem eqv_word {l x : L} {n : Nat} (h : eqv l = some (x, n)) : ∃ w rest, l = w ++ rest ∧ n = w.length ∧ EqW w x := by
 obtain ⟨b1, r1, rfl, hb1, hn1, -⟩ := nsp_word l;unfold eqv at h;rw [hn1, List.drop_left] at h
 cases r1 with
 | nil => cases h
 | cons c r =>
  simp only at h
  split at h
  ·rename_i hc
   subst hc;obtain ⟨b2, r2, rfl, hb2, hn2, -⟩ := nsp_word r;rw [hn2, List.drop_left] at h
   cases hq : quoted r2 with
   | none => rw [hq] at h; cases h
   | some y =>
    obtain ⟨y, m⟩ := y;rw [hq] at h;simp only [Option.map_some, Option.some.injEq, Prod.mk.injEq] at h;obtain ⟨rfl, rfl⟩ := h;obtain ⟨q, rest, h1, h2, rfl, rfl⟩ := quoted_word hq;refine ⟨b1 ++ 61 :: (b2 ++ q :: (y ++ [q])), rest, by simp, ?_, b1, b2, q, hb1, hb2, h1, h2, rfl⟩;simp only [List.length_append, List.length_cons, List.length_nil];omega
  cases h
theorem q_nsp {q : UInt8} (h : q = 34 ∨ q = 39) : sp q = false := by rcases h with rfl | rfl <;> rfl
theorem head_eq {α : Type} {c d : α} {s t : List α} (h : c :: s = d :: t) : c = d := by cases h; rfl
theorem eqv_of {w x : L} (h : EqW w x) (rest : L) : eqv (w ++ rest) = some (x, w.length) := by
 obtain ⟨b1, b2, q, hb1, hb2, hq, hx, rfl⟩ := h;have e : b1 ++ 61 :: (b2 ++ q :: (x ++ [q])) ++ rest = b1 ++ 61 :: (b2 ++ q :: (x ++ q :: rest)) := by simp
 rw [e];unfold eqv;rw [nsp_of hb1 (fun c t h => by rw [← head_eq h]; rfl), List.drop_left];simp only [if_true];rw [nsp_of hb2 (fun c t h => by rw [← head_eq h]; exact q_nsp hq), List.drop_left, quoted_of hq hx];simp only [Option.map_some, List.length_append, List.length_cons, List.length_nil];congr 2;omega
def PartW (name w x : L) : Prop := ∃ b v, Sps b ∧ b ≠ [] ∧ EqW v x ∧ w = b ++ name ++ v
theorem pfx_iff {p l : L} : p.isPrefixOf l = true ↔ ∃ r, l = p ++ r := by
 rw [List.isPrefixOf_iff_prefix];exact ⟨fun ⟨r, h⟩ => ⟨r, h.symm⟩, fun ⟨r, h⟩ => ⟨r, h.symm⟩⟩
theorem part_word {name l x : L} {n : Nat} (h : part name l = some (x, n)) : ∃ w rest, l = w ++ rest ∧ n = w.length ∧ PartW name w x := by
 obtain ⟨b, r, rfl, hb, hn, -⟩ := nsp_word l;unfold part at h;rw [hn, List.drop_left] at h
 split at h
 ·cases h
 rename_i h0
 split at h
 ·rename_i hp
  obtain ⟨r, rfl⟩ := pfx_iff.1 hp;rw [show (b ++ (name ++ r)).drop (b.length + name.length) = r by rw [← List.append_assoc, ← List.length_append, List.drop_left]] at h
  cases he : eqv r with
  | none => rw [he] at h; cases h
  | some y =>
   obtain ⟨y, m⟩ := y;rw [he] at h;simp only [Option.map_some, Option.some.injEq, Prod.mk.injEq] at h;obtain ⟨rfl, rfl⟩ := h;obtain ⟨v, rest, rfl, rfl, hv⟩ := eqv_word he;exact ⟨b ++ name ++ v, rest, by simp, by simp; omega, b, v, hb, by rintro rfl; exact h0 rfl, hv, rfl⟩
 cases h
theorem part_of {name w x : L} {d : UInt8} {t : L} (hn : name = d :: t) (hd : sp d = false) (h : PartW name w x) (rest : L) : part name (w ++ rest) = some (x, w.length) := by
 obtain ⟨b, v, hb, h0, hv, rfl⟩ := h;have e : b ++ name ++ v ++ rest = b ++ (name ++ (v ++ rest)) := by simp
 rw [e];unfold part;rw [nsp_of hb (fun c s h => by rw [hn] at h; rw [← head_eq h]; exact hd), List.drop_left, if_neg (by intro h; exact h0 (List.eq_nil_of_length_eq_zero h)), if_pos (pfx_iff.2 ⟨_, rfl⟩)];rw [show (b ++ (name ++ (v ++ rest))).drop (b.length + name.length) = v ++ rest by rw [← List.append_assoc, ← List.length_append, List.drop_left], eqv_of hv];simp only [Option.map_some, List.length_append]
theorem part_off {name b r : L} {c d : UInt8} {t : L} (hn : name = d :: t) (hb : Sps b) (hc : sp c = false) (hcd : d ≠ c) : part name (b ++ c :: r) = none := by
 unfold part;rw [nsp_of hb (fun e s h => by rw [← head_eq h]; exact hc), List.drop_left];split
 ·rfl
 rw [if_neg];rw [hn];simp;exact fun e => absurd e hcd
def OptW (name : L) (may : L → Bool) (w : L) : Prop := w = [] ∨ ∃ x, PartW name w x ∧ may x = true
theorem opt_word {name l : L} {may : L → Bool} {n : Nat} (h : opt name may l = some n) : ∃ w rest, l = w ++ rest ∧ n = w.length ∧ OptW name may w := by
 unfold opt at h
 cases hp : part name l with
 | none => rw [hp] at h; cases h; exact ⟨[], l, rfl, rfl, .inl rfl⟩
 | some x =>
  rw [hp] at h;simp only at h
  split at h
  ·rename_i hm
   obtain ⟨w, rest, h1, h2, h3⟩ := part_word (x := x.1) (n := x.2) hp;cases h;exact ⟨w, rest, h1, h2, .inr ⟨_, h3, hm⟩⟩
  cases h
theorem opt_of {name w : L} {may : L → Bool} {d : UInt8} {t : L} (hn : name = d :: t) (hd : sp d = false) (h : OptW name may w) {rest b r : L} {c : UInt8} (hr : rest = b ++ c :: r) (hb : Sps b) (hc : sp c = false) (hcd : d ≠ c) :
  opt name may (w ++ rest) = some w.length := by
 unfold opt
 rcases h with rfl | ⟨x, hp, hm⟩
 ·rw [List.nil_append, hr, part_off hn hb hc hcd];rfl
 rw [part_of hn hd hp];simp only;rw [if_pos hm]
def DeclW (w : L) : Prop := ∃ v x e a b, PartW sVersion v x ∧ version x = true ∧ OptW sEncoding encoding e ∧ OptW sAlone alone a ∧ Sps b ∧ w = v ++ (e ++ (a ++ (b ++ [63, 62])))
theorem decl_word {l : L} {n : Nat} (h : decl l = some n) : ∃ w rest, l = w ++ rest ∧ n = w.length ∧ DeclW w := by
 unfold decl at h
 cases hv : part sVersion l with
 | none => rw [hv] at h; cases h
 | some x =>
  obtain ⟨x, m⟩ := x;obtain ⟨v, r1, rfl, rfl, hpv⟩ := part_word hv;rw [hv] at h;simp only [Option.bind_some] at h
  split at h
  ·rename_i hx
   rw [List.drop_left] at h
   cases he : opt sEncoding encoding r1 with
   | none => rw [he] at h; cases h
   | some m =>
    obtain ⟨e, r2, rfl, rfl, hoe⟩ := opt_word he;rw [he] at h;simp only [Option.bind_some] at h;rw [show (v ++ (e ++ r2)).drop (v.length + e.length) = r2 by rw [← List.append_assoc, ← List.length_append, List.drop_left]] at h
    cases ha : opt sAlone alone r2 with
    | none => rw [ha] at h; cases h
    | some m =>
     obtain ⟨a, r3, rfl, rfl, hoa⟩ := opt_word ha;rw [ha] at h;simp only [Option.bind_some] at h;rw [show (v ++ (e ++ (a ++ r3))).drop (v.length + e.length + a.length) = r3 by rw [← List.append_assoc, ← List.append_assoc, ← List.length_append, ← List.length_append, List.drop_left]] at h;obtain ⟨b, r4, rfl, hb, hn, -⟩ := nsp_word r3;rw [hn, List.drop_left] at h
     split at h
     ·rename_i hp
      obtain ⟨r5, rfl⟩ := pfx_iff.1 hp;cases h;refine ⟨v ++ (e ++ (a ++ (b ++ [63, 62]))), r5, by simp, ?_, v, x, e, a, b, hpv, hx, hoe, hoa, hb, rfl⟩;simp only [List.length_append, List.length_cons, List.length_nil];omega
     cases h
  cases h
theorem opt_front {name w : L} {may : L → Bool} {d : UInt8} {t : L} (hn : name = d :: t) (hd : sp d = false) (h : OptW name may w) {b r : L} {c : UInt8} (hb : Sps b) (hc : sp c = false) :
  ∃ b' c' r', w ++ (b ++ c :: r) = b' ++ c' :: r' ∧ Sps b' ∧ sp c' = false ∧ (c' = c ∨ c' = d) := by
 rcases h with rfl | ⟨x, ⟨b', v, h1, h2, h3, rfl⟩, _⟩
 ·exact ⟨b, c, r, rfl, hb, hc, .inl rfl⟩
 exact ⟨b', d, t ++ v ++ (b ++ c :: r), by rw [hn]; simp, h1, hd, .inr rfl⟩
theorem decl_of {w : L} (h : DeclW w) (rest : L) : decl (w ++ rest) = some w.length := by
 obtain ⟨v, x, e, a, b, hpv, hx, hoe, hoa, hb, rfl⟩ := h;have e0 : v ++ (e ++ (a ++ (b ++ [63, 62]))) ++ rest = v ++ (e ++ (a ++ (b ++ 63 :: (62 :: rest)))) := by simp
 rw [e0];obtain ⟨b', c', r', h1, h2, h3, h4⟩ := opt_front (r := 62 :: rest) (show sAlone = 115 :: [116, 97, 110, 100, 97, 108, 111, 110, 101] from rfl) rfl hoa hb (c := 63) rfl;unfold decl;rw [part_of (show sVersion = 118 :: [101, 114, 115, 105, 111, 110] from rfl) rfl hpv, Option.bind_some];simp only;rw [if_pos hx, List.drop_left, opt_of (show sEncoding = 101 :: [110, 99, 111, 100, 105, 110, 103] from rfl) rfl hoe h1 h2 h3 (by rcases h4 with rfl | rfl <;> decide), Option.bind_some];rw [show (v ++ (e ++ (a ++ (b ++ 63 :: (62 :: rest))))).drop (v.length + e.length) = a ++ (b ++ 63 :: (62 :: rest)) by rw [← List.append_assoc, ← List.length_append, List.drop_left]];rw [opt_of (show sAlone = 115 :: [116, 97, 110, 100, 97, 108, 111, 110, 101] from rfl) rfl hoa rfl hb (c := 63) rfl (by decide), Option.bind_some];rw [show (v ++ (e ++ (a ++ (b ++ 63 :: (62 :: rest))))).drop (v.length + e.length + a.length) = b ++ 63 :: (62 :: rest) by rw [← List.append_assoc, ← List.append_assoc, ← List.length_append, ← List.length_append, List.drop_left]];rw [nsp_of hb (fun c s h => by rw [← head_eq h]; rfl), List.drop_left, if_pos (by simp)];simp only [List.length_append, List.length_cons, List.length_nil];congr 1;omega
theorem name_head {p t : L} {c : UInt8} (h : Name p) (hp : p = c :: t) (hc : c.toNat < 128) : firstOk (c.toNat : Int) = true := by
 have := h.2 (0, (c.toNat : Int)) (by rw [hp, Utf.from_ascii hc]; exact List.mem_cons_self ..);exact this
theorem name_not {p t : L} {c d : UInt8} (h : Name p) (hp : p = c :: t) (hd : d.toNat < 128) (hf : firstOk (d.toNat : Int) = false) : c ≠ d := by
 rintro rfl;rw [name_head h hp hd] at hf;cases hf
theorem name_nsp {p t : L} {c : UInt8} (h : Name p) (hp : p = c :: t) : sp c = false := by
 unfold sp;have e : ∀ d : UInt8, d.toNat < 128 → firstOk (d.toNat : Int) = false → (c == d) = false := fun d h1 h2 => by rw [beq_eq_false_iff_ne]; exact name_not h hp h1 h2
 rw [e 32 (by decide) (by decide), e 9 (by decide) (by decide), e 10 (by decide) (by decide), e 13 (by decide) (by decide)];rfl
def Stops (c : UInt8) : Prop := c.toNat < 128 ∧ ∀ n, n ≠ 0 → nameOk n (c.toNat : Int) = false
theorem stops_of {c : UInt8} (h : c.toNat < 128) (h2 : (furtherOk (c.toNat : Int) || decide ((c.toNat : Int) = 58)) = false) : Stops c := ⟨h, fun n hn => by unfold nameOk; rw [if_neg hn]; exact h2⟩
theorem stops_sp {c : UInt8} (h : sp c = true) : Stops c := by
 unfold sp at h;simp only [Bool.or_eq_true, beq_iff_eq] at h
 rcases h with ((rfl | rfl) | rfl) | rfl <;> exact stops_of (by decide) (by decide)
theorem stops61 : Stops 61 := stops_of (by decide) (by decide)
theorem stops62 : Stops 62 := stops_of (by decide) (by decide)
theorem stops47 : Stops 47 := stops_of (by decide) (by decide)
theorem stops63 : Stops 63 := stops_of (by decide) (by decide)
theorem take_word {p q : L} {c : UInt8} (h : Name p) (h0 : p ≠ []) (hc : Stops c) : take (p ++ c :: q) = p.length :=
 take_of h (.inr (by rw [Utf.piece_ascii hc.1]; exact hc.2 _ fun e => h0 (List.eq_nil_of_length_eq_zero e)))
theorem sps_front {b r : L} {c : UInt8} (hb : Sps b) (hc : Stops c) : ∃ d t, b ++ c :: r = d :: t ∧ Stops d := by
 cases b with
 | nil => exact ⟨c, r, rfl, hc⟩
 | cons d b =>
  unfold Sps at hb;rw [List.all_cons, Bool.and_eq_true] at hb;exact ⟨d, b ++ c :: r, rfl, stops_sp hb.1⟩
theorem eqw_front {w x : L} (h : EqW w x) (rest : L) : ∃ d t, w ++ rest = d :: t ∧ Stops d := by
 obtain ⟨b1, b2, q, hb1, _, _, _, rfl⟩ := h;have := sps_front (r := b2 ++ q :: (x ++ [q]) ++ rest) hb1 stops61
 simpa using this
inductive AttrsW : Nat → L → List At → Bool → Prop
 | two (off : Nat) (b : L) : Sps b → AttrsW off (b ++ [47, 62]) [] true
 | one (off : Nat) (b : L) : Sps b → AttrsW off (b ++ [62]) [] false
 | more (off : Nat) (b nm v x w : L) (as_ : List At) (e : Bool) : Sps b → b ≠ [] → Name nm → nm ≠ [] → EqW v x → (60 : UInt8) ∉ x → AttrsW (off + b.length + nm.length + v.length) w as_ e →
   AttrsW off (b ++ (nm ++ (v ++ w))) (⟨nm, x, off + b.length⟩ :: as_) e
theorem attrs_word : ∀ (k off : Nat) (l : L) (as_ : List At) (e : Bool) (off' : Nat), attrs k off l = some (as_, e, off') → ∃ w rest, l = w ++ rest ∧ off' = off + w.length ∧ AttrsW off w as_ e
 | 0, _, _, _, _, _, h => by cases h
 | k + 1, off, l, as_, e, off', h => by
  obtain ⟨b, r, rfl, hb, hn, hr⟩ := nsp_word l;unfold attrs at h;rw [hn, List.drop_left] at h
  split at h
  ·rename_i hp
   obtain ⟨r, rfl⟩ := pfx_iff.1 hp;cases h;exact ⟨b ++ [47, 62], r, by simp, by simp; omega, .two off b hb⟩
  split at h
  ·rename_i hp
   obtain ⟨r, rfl⟩ := pfx_iff.1 hp;cases h;exact ⟨b ++ [62], r, by simp, by simp; omega, .one off b hb⟩
  split at h
  ·cases h
  rename_i h0
  simp only at h
  split at h
  ·cases h
  rename_i hm
  obtain ⟨t1, t2, -⟩ := take_spec r
  cases he : eqv (r.drop (take r)) with
  | none => rw [he] at h; cases h
  | some x =>
   obtain ⟨x, m⟩ := x;rw [he] at h;simp only [Option.bind_some] at h
   split at h
   ·cases h
   rename_i h60
   obtain ⟨v, rest, h1, rfl, hv⟩ := eqv_word he;have e1 : r = r.take (take r) ++ (v ++ rest) := by rw [← h1, List.take_append_drop]
   have e2 : r.drop (take r + v.length) = rest := by rw [← List.drop_drop, h1, List.drop_left]
   rw [e2] at h
   cases ha : attrs k (off + b.length + take r + v.length) rest with
   | none => rw [ha] at h; cases h
   | some y =>
    obtain ⟨as2, eb, o2⟩ := y;rw [ha] at h;simp only [Option.map_some, Option.some.injEq, Prod.mk.injEq] at h;obtain ⟨rfl, rfl, rfl⟩ := h;obtain ⟨w, rest2, rfl, rfl, hw⟩ := attrs_word k _ _ _ _ _ ha;have hl : (r.take (take r)).length = take r := by rw [List.length_take]; omega
    refine ⟨b ++ (r.take (take r) ++ (v ++ w)), rest2, ?_, ?_, ?_⟩
    ·conv => lhs; rw [e1]
     simp
    ·simp only [List.length_append, hl]; omega
    refine .more off b _ v x w as2 eb hb (by rintro rfl; exact h0 rfl) t2 ?_ hv h60 ?_
    ·intro e; rw [e] at hl; exact hm hl.symm
    rw [hl]; exact hw
theorem attrs_front {off : Nat} {w : L} {as_ : List At} {e : Bool} (h : AttrsW off w as_ e) (rest : L) : ∃ d t, w ++ rest = d :: t ∧ Stops d := by
 cases h with
 | two _ b hb => have := sps_front (r := 62 :: rest) hb stops47; simpa using this
 | one _ b hb => have := sps_front (r := rest) hb stops62; simpa using this
 | more _ b nm v x w as_ e hb h0 _ _ _ _ _ =>
  cases b with
  | nil => exact absurd rfl h0
  | cons d b =>
   unfold Sps at hb;rw [List.all_cons, Bool.and_eq_true] at hb;exact ⟨d, _, rfl, stops_sp hb.1⟩
theorem attrs_of {off : Nat} {w : L} {as_ : List At} {e : Bool} (h : AttrsW off w as_ e) : ∀ (k : Nat) (rest : L), w.length ≤ k → attrs k off (w ++ rest) = some (as_, e, off + w.length) := by
 induction h with
 | two off b hb =>
  intro k rest hk;obtain ⟨k, rfl⟩ : ∃ j, k = j + 1 := ⟨k - 1, by simp at hk; omega⟩;have e0 : b ++ [47, 62] ++ rest = b ++ (47 :: 62 :: rest) := by simp
  rw [e0];unfold attrs;rw [nsp_of hb (fun c t h => by rw [← head_eq h]; rfl), List.drop_left, if_pos (by simp)];simp;omega
 | one off b hb =>
  intro k rest hk;obtain ⟨k, rfl⟩ : ∃ j, k = j + 1 := ⟨k - 1, by simp at hk; omega⟩;have e0 : b ++ [62] ++ rest = b ++ (62 :: rest) := by simp
  rw [e0];unfold attrs;rw [nsp_of hb (fun c t h => by rw [← head_eq h]; rfl), List.drop_left, if_neg (by simp), if_pos (by simp)];simp;omega
 | more off b nm v x w as_ e hb h0 hn hn0 hv h60 hw ih =>
  intro k rest hk;simp only [List.length_append] at hk;have hbl : 0 < b.length := List.length_pos_iff.2 h0;have hnl : 0 < nm.length := List.length_pos_iff.2 hn0;obtain ⟨k, rfl⟩ : ∃ j, k = j + 1 := ⟨k - 1, by omega⟩;have e0 : b ++ (nm ++ (v ++ w)) ++ rest = b ++ (nm ++ (v ++ (w ++ rest))) := by simp
  rw [e0]
  obtain ⟨c, nt, hc⟩ : ∃ c t, nm = c :: t := by cases nm with
   | nil => exact absurd rfl hn0
   | cons c t => exact ⟨c, t, rfl⟩
  have n47 : c ≠ 47 := name_not hn hc (by decide) (by decide);have n62 : c ≠ 62 := name_not hn hc (by decide) (by decide);unfold attrs;rw [nsp_of hb (fun d t h => by rw [hc] at h; rw [← head_eq h]; exact name_nsp hn hc), List.drop_left];rw [if_neg (by rw [hc]; simp; exact fun h => absurd h.symm n47), if_neg (by rw [hc]; simp; exact fun h => absurd h.symm n62), if_neg (by omega)];obtain ⟨d, t, hd, hst⟩ := eqw_front hv (w ++ rest);have htk : take (nm ++ (v ++ (w ++ rest))) = nm.length := by rw [hd]; exact take_word hn hn0 hst
  simp only;rw [htk, if_neg (by omega), List.drop_left, eqv_of hv, Option.bind_some];simp only;rw [if_neg h60, show (nm ++ (v ++ (w ++ rest))).drop (nm.length + v.length) = w ++ rest by rw [← List.append_assoc, ← List.length_append, List.drop_left], ih k rest (by omega), List.take_left];simp only [Option.map_some, List.length_append];congr 3;omega
end Tk
end
end Go.Proofs.YtaickkaoglohgaaGreatDoor
