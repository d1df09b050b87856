/- Tokens: one: the piece that begins at a byte, of Chars alone. · The document's reading of tokens: a start. (Printed by wip/genTkDm.py.) -/
import Derived.Test.YtbnaphbmmkmaeaaGreatDoorTz16
import Derived.Test.YtbnaphbmmkmaeaaGreatDoorTz17
import Derived.Laws.EntriesVeiled
set_option linter.unusedSimpArgs false
set_option linter.unusedVariables false
namespace Go.Proofs.YtbnaphbmmkmaeaaGreatDoor
open Go.RowKit Tk

set_option maxHeartbeats 8000000 in
set_option maxRecDepth 20000 in
theorem one_any (w : World) (s : ByteArray) (k : Nat) (hg : Gl w) (hw6 : 6 ≤ w.heap.size) (hk : k < s.size) (hs : s.size ≤ 1000000000) :
    Calls Tryz.prog 28 #[.string s, .int .i64 (k : Int)] w (OneR w (Tk.one k (s.data.toList.drop k))) := by
  obtain ⟨l, hl⟩ : ∃ l, s.data.toList.drop k = l := ⟨_, rfl⟩
  have hkc := kind_cases l
  have HKi := hide (fun W => kind_any (s.extract k s.size) W (by rw [extract_end, bstr_size, List.length_drop, size_list]; omega))
  rw [extract_end, hl, bstr_list] at HKi
  have HPc := hide (fun W X T (hX : Sc W X s k) (hT : T0 W T k) (hne : X ≠ T) (hX6 : 6 ≤ X) (hT6 : 6 ≤ T) (hg : Gl W) => piece_call W X T s k hX hT hne hX6 hT6 hg hk hs)
  rw [hl] at HPc
  have HPc' : Hid (∀ o W X T (hX : Sc W X s k) (hT : T0 W T k) (hne : X ≠ T) (hX6 : 6 ≤ X) (hT6 : 6 ≤ T) (hg : Gl W), o = Tk.piece k l → Calls Tryz.prog (fnOf l) #[.pointer (some ⟨X, 0, none⟩), .pointer (some ⟨T, 0, none⟩)] W (PieceR W W.heap.size X T s k o)) := hide fun o W X T hX hT hne hX6 hT6 hg h => by subst h; exact HPc.out W X T hX hT hne hX6 hT6 hg
  have HL := hide hl
  rw [hl]
  have hes : s.extract k s.size = bstr l := by rw [extract_end, hl]
  obtain ⟨o, ho⟩ : ∃ o, Tk.piece k l = o := ⟨_, rfl⟩
  obtain ⟨res, hres⟩ : ∃ r, Tk.one k l = r := ⟨_, rfl⟩
  have HR := hide (show res = o.bind fun t => if fine (l.take (t.end_ - k)) then some t else none by rw [← hres, ← ho]; rfl)
  rw [hres]
  have Ho := hide ho
  have HG := hide hg
  clear HPc hl ho hres hg
  generalize fnOf l = fn at *
  generalize kindOf l = kd at *
  obtain ⟨L0, hL0⟩ : ∃ L0, bstr l = L0 := ⟨_, rfl⟩
  rw [hL0] at HKi hes
  clear hL0
  have HW := hide (oneW_is w s k)
  obtain ⟨C, hC⟩ : ∃ C, oneW w s k = C := ⟨_, rfl⟩
  rw [hC] at HW
  rcases hkc with ⟨rfl, rfl⟩ | ⟨rfl, rfl⟩ | ⟨rfl, rfl⟩ | ⟨rfl, rfl⟩
  all_goals
    go_enter Tryz.func28, Tryz.ntmps28
    go_wp2_with fail
    show Calls Tryz.prog 50 _ (oneW w s k) _
    rw [hC]
    clear hC
    refine (HKi.out _).mono ?_
    rintro e w1 ⟨rfl, rfl⟩
    generalize w.heap.size + 1 + 1 + 1 = T at *
    generalize w.heap.size + 1 + 1 = X at *
    generalize w.heap.size + 1 = Y at *
    have c0 := Blk.cell HW.out.fns 0
    have c1 := Blk.cell HW.out.fns 1
    have c2 := Blk.cell HW.out.fns 2
    have c3 := Blk.cell HW.out.fns 3
    have HRX := hide HW.out.rX
    have HRT := hide HW.out.rT
    go_wp2_with fail
    refine (HPc'.out o w1 X T HW.out.sc HW.out.tok HW.out.xT (by have := HW.out.xs; omega) (by have := HW.out.ts; omega) (HG.out.below HW.out.below) Ho.out.symm).mono ?_
    rintro e w2 h2
    clear c0 c1 c2 c3 HPc' HKi
    cases o with
    | none =>
      obtain ⟨b2, rfl, ⟨k', hk', s2⟩, kd, nm, as_, em, tx, at0, en, t2⟩ := h2
      have HRr := hide (show res = none by rw [HR.out]; rfl)
      have d1 := Sc.c1 s2
      have c6 := Tb.c6 t2
      have f6 := Tb.f t2 6
      have HB2 := hide (show Below w.heap.size w w2 from HW.out.below.trans (b2.below HW.out.xs HW.out.ts HW.out.base))
      have HK2 := hide (b2.blk HW.out.res HRX.out HRT.out)
      have HTs := hide HW.out.ts
      clear b2 hk' s2 t2 HR HW
      generalize HR0 : w.heap.size = R at *
      have p0 := Blk.cell HK2.out 0
      have p1 := Blk.cell HK2.out 1
      have p2 := Blk.cell HK2.out 2
      have p3 := Blk.cell HK2.out 3
      have p4 := Blk.cell HK2.out 4
      have p5 := Blk.cell HK2.out 5
      have p6 := Blk.cell HK2.out 6
      have r := fun i => Blk.frozen HK2.out i
      have hRT := HRT.out
      have hTR := HRT.out.symm
      go_wp2
      have HBe := hide (below_put7 (HB2.out.setCell (p := ⟨T, 6, none⟩) HTs.out (.int .i64 (k' : Int))) (Nat.le_refl R) (.int .i8 0) (.string ⟨#[]⟩) (.slice none 0 0) (.bool false) (.string ⟨#[]⟩) (.int .i64 0) (.int .i64 0))
      refine one_ret rfl rfl rfl (put7_blk (Blk.far HK2.out (p := ⟨T, 6, none⟩) hRT (.int .i64 (k' : Int))) _ _ _ _ _ _ _) ?_
      exact OneR.no' HR0 HRr.out HBe.out rfl
    | some t =>
      obtain ⟨b2, rfl, hte, hkt, s2, A, c, t2, o2⟩ := h2
      have HR1 := hide (show res = if fine (l.take (t.end_ - k)) then some t else none by rw [HR.out]; rfl)
      have d1 := Sc.c1 s2
      have c6 := Tb.c6 t2
      have f6 := Tb.f t2 6
      have HB2 := hide (show Below w.heap.size w w2 from HW.out.below.trans (b2.below HW.out.xs HW.out.ts HW.out.base))
      have HK2 := hide (b2.blk HW.out.res HRX.out HRT.out)
      have HT2 := hide t2
      have HO2 := hide o2
      have HOs := hide (show (Value.slice A t.attrs.length c).ownBlock ≠ some w.heap.size from fun e => by have := (o2.lt _ e).1; have := HW.out.size; have := HW.out.ts; omega)
      have HOt := hide (show (Value.slice A t.attrs.length c).ownBlock ≠ some T from fun e => by have := (o2.lt _ e).1; have := HW.out.size; omega)
      have HO3 := hide (o2.mono (base' := w.heap.size) HW.out.base)
      have HTs := hide HW.out.ts
      clear b2 s2 t2 o2 HR HW HO2
      generalize HR0 : w.heap.size = R at *
      have hex : s.extract k t.end_ = bstr (l.take (t.end_ - k)) := by rw [extract_bstr, HL.out]
      obtain ⟨tx, htx⟩ : ∃ tx, l.take (t.end_ - k) = tx := ⟨_, rfl⟩
      rw [htx] at hex HR1
      have HBa := hide (fun W => bad_any (bstr tx) W (by rw [bstr_size, ← htx, List.length_take]; omega))
      rw [bstr_list] at HBa
      have hbf := bad_fine tx
      have Hte := hide hte
      clear htx
      go_wp2_with fail
      have HT3 := hide (Tb.end__ HT2.out t.end_)
      have HK3 := hide (Blk.far HK2.out (p := ⟨T, 6, none⟩) HRT.out (.int .i64 (t.end_ : Int)))
      have HO4 := hide (ownsRow_setCell_other HO3.out (a := ⟨T, 6, none⟩) HOt.out (.int .i64 (t.end_ : Int)))
      have HB3 := hide (HB2.out.setCell (p := ⟨T, 6, none⟩) HTs.out (.int .i64 (t.end_ : Int)))
      clear HT2 HK2 HO3 HB2 d1 c6 f6
      generalize w2.setCell ⟨T, 6, none⟩ (.int .i64 (t.end_ : Int)) = W3 at *
      refine (HBa.out _).mono ?_
      rintro e w4 ⟨rfl, b4⟩
      have HT4 := hide (Blk.go HT3.out b4)
      have HK4 := hide (Blk.go HK3.out b4)
      have HO5 := hide (own_below HO4.out b4)
      have HB4 := hide (HB3.out.trans (b4.mono (by have := HB3.out.size; omega)))
      clear b4 HT3 HK3 HO4 HB3 HBa
      have p0 := Blk.cell HK4.out 0
      have p1 := Blk.cell HK4.out 1
      have p2 := Blk.cell HK4.out 2
      have p3 := Blk.cell HK4.out 3
      have p4 := Blk.cell HK4.out 4
      have p5 := Blk.cell HK4.out 5
      have p6 := Blk.cell HK4.out 6
      have r := fun i => Blk.frozen HK4.out i
      have q0 := Tb.c0 HT4.out
      have q1 := Tb.c1 HT4.out
      have q2 := Tb.c2 HT4.out
      have q3 := Tb.c3 HT4.out
      have q4 := Tb.c4 HT4.out
      have q5 := Tb.c5 HT4.out
      have q6 := Tb.c6 HT4.out
      generalize bad tx = z at *
      cases hf : fine tx with
      | false =>
        rw [hf] at hbf
        have HRr := hide (show res = none by rw [HR1.out, hf]; rfl)
        clear hf HR1
        go_wp2
        refine one_ret rfl rfl rfl (put7_blk HK4.out _ _ _ _ _ _ _) ?_
        exact OneR.no' HR0 HRr.out (below_put7 HB4.out (Nat.le_refl R) _ _ _ _ _ _ _) rfl
      | true =>
        rw [hf] at hbf
        have HRr := hide (show res = some t by rw [HR1.out, hf]; rfl)
        clear hf HR1
        go_wp2
        refine one_ret rfl rfl rfl (put7_blk HK4.out _ _ _ _ _ _ _) ?_
        subst HR0
        exact OneR.yes HRr.out (below_put7 HB4.out (Nat.le_refl _) _ _ _ _ _ _ _) rfl (put7_own HO5.out HOs.out _ _ _ _ _ _ _)
end Go.Proofs.YtbnaphbmmkmaeaaGreatDoor
namespace Go.Proofs.YtbnaphbmmkmaeaaGreatDoor
open Go.RowKit Tk

theorem tok_ret_start {Q : Ending → World → Prop} {a : Act} {W : World} {R : Nat} {v0 v1 v2 v3 v4 v5 v6 : Value} {b : Bool} (ha : a.tmps.getD 4 undef = .pointer (some ⟨R, 0, none⟩)) (h5 : a.tmps.getD 5 undef = .bool b) (hd : a.defers = []) (hK : Blk W R 29 #[v0, v1, v2, v3, v4, v5, v6])
    (hQ : Q (.returned (.tuple #[.agg #[v0, v1, v2, v3, v4, v5, v6], .bool b])) W) : bodyPost Tryz.prog Tryz.f58 Q .ret a W := by
  have p0 : W.cell? ⟨R, 0, none⟩ = some v0 := hK.cell 0
  have p1 : W.cell? ⟨R, 1, none⟩ = some v1 := hK.cell 1
  have p2 : W.cell? ⟨R, 2, none⟩ = some v2 := hK.cell 2
  have p3 : W.cell? ⟨R, 3, none⟩ = some v3 := hK.cell 3
  have p4 : W.cell? ⟨R, 4, none⟩ = some v4 := hK.cell 4
  have p5 : W.cell? ⟨R, 5, none⟩ = some v5 := hK.cell 5
  have p6 : W.cell? ⟨R, 6, none⟩ = some v6 := hK.cell 6
  refine bodyPost_ret (v := .tuple #[.agg #[v0, v1, v2, v3, v4, v5, v6], .bool b]) ?_ hd hQ
  obtain ⟨tm, df⟩ := a
  dsimp only at ha h5 ⊢
  have ha' : tm[4]?.getD undef = .pointer (some ⟨R, 0, none⟩) := by simpa using ha
  have hb' : tm[5]?.getD undef = .bool b := by simpa using h5
  simp [results, Tryz.results58, go_sem, p0, p1, p2, p3, p4, p5, p6, ha', hb']
theorem till_byteI (c : UInt8) (v : L) : (0 ≤ Lib.index v [c]) ↔ c ∈ v := by
  induction v with
  | nil => simp [Lib.index]
  | cons b l ih =>
    unfold Lib.index
    have hp : ([c] : L).isPrefixOf (b :: l) = (c == b) := by simp [List.isPrefixOf]
    rw [hp]
    by_cases hb : c = b
    · subst hb; simp
    · have e : (c == b) = false := beq_eq_false_iff_ne.2 hb
      rw [e]
      have h1 := Lib.index_ge l [c]
      have : c ∈ b :: l ↔ c ∈ l := by simp [hb]
      rw [this, ← ih]
      simp only [Bool.false_eq_true, if_false]
      by_cases h2 : Lib.index l [c] = -1
      · rw [h2]; simp
      · have h3 : (Lib.index l [c] == -1) = false := beq_eq_false_iff_ne.2 h2
        rw [h3]
        simp only [Bool.false_eq_true, if_false]
        omega
theorem till_byteD (c : UInt8) (v : L) : (0 ≤ tillAt v [c] 0) ↔ c ∈ v := by
  rw [← till_byteI]
  unfold tillAt Tk.till
  rw [List.drop_zero]
  have h1 := Lib.index_ge v [c]
  by_cases h : Lib.index v [c] < 0
  · rw [if_pos h]
    constructor
    · intro h2; dsimp only at h2; omega
    · intro h2; omega
  · rw [if_neg h]
    dsimp only
    constructor <;> intro <;> omega
/-- What stands when a round of the attributes begins. -/
structure StD (w W : World) (R T : Nat) (at_ : Nat) (nm : ByteArray) (Ls : List At) (A : Option Addr) (c : Nat) : Prop where
  res : Blk W R 29 #[.int .i8 0, .string ⟨#[]⟩, .slice none 0 0, .bool false, .string ⟨#[]⟩, .int .i64 0, .int .i64 0]
  tok : Tb W T 0 nm (.slice A Ls.length c) false ⟨#[]⟩ at_ 0
  own : W.ownsRow w.heap.size 58 3 (.slice A Ls.length c) Ls.length (attrVs Ls)
  below : Below w.heap.size w W
  rt : R ≠ T
  rs : w.heap.size ≤ R
  ts : w.heap.size ≤ T
theorem StD.app {w W W2 w8 : World} {R T at_ : Nat} {nm : ByteArray} {Ls : List At} {A : Option Addr} {c g cap : Nat} (h : StD w W R T at_ nm Ls A c) (a : At)
    (hg : ((W.alloc (.cells #[.string (bstr a.name), .string (bstr a.value), .int .i64 (a.at_ : Int)] 58)).drew).grownBy w8 (Value.slice A Ls.length c).ownBlock)
    (ho : w8.ownsRow w.heap.size 58 3 (.slice (some ⟨g, 0, none⟩) (Ls.length + 1) cap) (Ls.length + 1) (attrVs Ls ++ [.string (bstr a.name), .string (bstr a.value), .int .i64 (a.at_ : Int)])) (h2 : W2 = w8.setCell ⟨T, 2, none⟩ (.slice (some ⟨g, 0, none⟩) (Ls.length + 1) cap)) :
    StD w W2 R T at_ nm (Ls ++ [a]) (some ⟨g, 0, none⟩) cap := by
  subst h2
  have hRo : some R ≠ (Value.slice A Ls.length c).ownBlock := (own_blk_ne h.own h.res (by decide)).symm
  have hTo : some T ≠ (Value.slice A Ls.length c).ownBlock := (own_blk_ne h.own h.tok (by decide)).symm
  have t8 : Tb w8 T 0 nm (.slice A Ls.length c) false ⟨#[]⟩ at_ 0 := Blk.grown (Blk.drew (Blk.alloc h.tok _)) hg hTo
  have r8 := Blk.grown (Blk.drew (Blk.alloc h.res (.cells #[.string (bstr a.name), .string (bstr a.value), .int .i64 (a.at_ : Int)] 58))) hg hRo
  have e : (Ls ++ [a]).length = Ls.length + 1 := by simp
  refine ⟨Blk.far r8 (p := ⟨T, 2, none⟩) h.rt _, ?_, ?_, ?_, h.rt, h.rs, h.ts⟩
  · rw [e]; exact Tb.as__ t8 _
  · rw [e, attrVs_snoc]
    exact ownsRow_setCell_other ho (a := ⟨T, 2, none⟩) (own_blk_ne ho t8 (by decide)) _
  · have b1 := (h.below.alloc h.below.size (.cells #[.string (bstr a.name), .string (bstr a.value), .int .i64 (a.at_ : Int)] 58)).drew
    exact (b1.grown hg b1.size fun j e => (own_isT h.own j e).1).setCell (p := ⟨T, 2, none⟩) h.ts _

set_option maxHeartbeats 16000000 in
set_option maxRecDepth 20000 in
theorem refStart_any (s : ByteArray) (at_ : Nat) (w : World) (ha : at_ + 1 ≤ s.size) (hs : s.size ≤ 1000000000) :
    Calls Tryz.prog 58 #[.string s, .int .i64 (at_ : Int)] w (OneR w (Tk.start at_ (s.data.toList.drop at_))) := by
  have HT0 := fun (k : Nat) W => refTake_any (s.extract k s.size) W (by rw [extract_end, bstr_size, List.length_drop, size_list]; omega)
  have HB0 := fun (k : Nat) W (h : k ≤ s.size) => refBlanks_any s k W h hs
  have HS10 := fun (k : Nat) W (h : k ≤ s.size) => starts_at s (bstr [62]) k W (by omega) (by omega) (by decide) (by decide)
  have HS20 := fun (k : Nat) W (h : k ≤ s.size) => starts_at s (bstr [47, 62]) k W (by omega) (by omega) (by decide) (by decide)
  have HE0 := fun (k : Nat) W (h : k ≤ s.size) => refEquals_any s k W h hs
  have hexA : ∀ k : Nat, s.extract k s.size = bstr (s.data.toList.drop k) := fun k => extract_end s k
  have hex0 : ∀ k n : Nat, s.extract k (k + n) = bstr ((s.data.toList.drop k).take n) := fun k n => by rw [extract_bstr, Nat.add_sub_cancel_left]
  obtain ⟨D, hD⟩ : ∃ D, s.data.toList = D := ⟨_, rfl⟩
  have hDl : D.length = s.size := by rw [← hD, size_list]
  rw [hD] at HB0 HE0 hex0 hexA ⊢
  have HT1 : ∀ (k : Nat) W, Calls Tryz.prog 56 #[.string (bstr (D.drop k))] W fun e w' => e = .returned (.int .i64 ((Tk.take (D.drop k) : Nat) : Int)) ∧ w' = W := fun k W => by have h := HT0 k W; rw [hexA k, bstr_list] at h; exact h
  have HS11 : ∀ (k : Nat) W, k ≤ s.size → Calls Tryz.prog 53 #[.string s, .int .i64 (k : Int), .string (bstr [62])] W fun e w' => e = .returned (.bool (([62] : L).isPrefixOf (D.drop k))) ∧ w' = W := fun k W h => by have := HS10 k W h; rwa [bstr_list, hD] at this
  have HS21 : ∀ (k : Nat) W, k ≤ s.size → Calls Tryz.prog 53 #[.string s, .int .i64 (k : Int), .string (bstr [47, 62])] W fun e w' => e = .returned (.bool (([47, 62] : L).isPrefixOf (D.drop k))) ∧ w' = W := fun k W h => by have := HS20 k W h; rwa [bstr_list, hD] at this
  have HTl : ∀ (v : L) W, v.length ≤ s.size → Calls Tryz.prog 59 #[.string (bstr v), .int .i64 0, .string (bstr [60])] W fun e w' => e = .returned (.int .i64 (tillAt v [60] 0)) ∧ w' = W := fun v W h => refTill_any (bstr v) (bstr [60]) 0 W (by omega) (by rw [bstr_size]; omega) (by decide) (by decide)
  have HTA := hide HT1
  have HBA := hide HB0
  have HEA := hide HE0
  have HSA := hide HS11
  have HSB := hide HS21
  have HTL := hide HTl
  have HXA := hide hexA
  have HX0 := hide hex0
  obtain ⟨n, hn⟩ : ∃ n, Tk.take (D.drop (at_ + 1)) = n := ⟨_, rfl⟩
  have hnl := take_spec (D.drop (at_ + 1))
  have hnl := hnl.1
  rw [hn, List.length_drop, hDl] at hnl
  obtain ⟨o, ho⟩ : ∃ o, Tk.start at_ (D.drop at_) = o := ⟨_, rfl⟩
  rw [ho]
  unfold Tk.start at ho
  rw [show (D.drop at_).tail = D.drop (at_ + 1) by rw [List.tail_drop], hn, List.length_drop, hDl, List.drop_drop] at ho
  have HT := hide (fun W => by have h := HTA.out (at_ + 1) W; rw [hn] at h; exact h)
  have hx := HXA.out (at_ + 1)
  have hw1 : IntKind.i64.wrap ((at_ : Int) + 1) = (at_ : Int) + 1 := IntWalk.i64_in _ (by omega)
  have hb1 : 0 ≤ (at_ : Int) + 1 ∧ (at_ : Int) + 1 ≤ (s.size : Int) ∧ (s.size : Int) ≤ (s.size : Int) := by omega
  have tn1 : ((at_ : Int) + 1).toNat = at_ + 1 := by omega
  have HW1 := hide (Blk.new w 29 #[.int .i8 0, .string ⟨#[]⟩, .slice none 0 0, .bool false, .string ⟨#[]⟩, .int .i64 0, .int .i64 0])
  have HB1 := hide (below_alloc w (.cells #[.int .i8 0, .string ⟨#[]⟩, .slice none 0 0, .bool false, .string ⟨#[]⟩, .int .i64 0, .int .i64 0] 29))
  have HZ1 := hide (World.size_alloc w (.cells #[.int .i8 0, .string ⟨#[]⟩, .slice none 0 0, .bool false, .string ⟨#[]⟩, .int .i64 0, .int .i64 0] 29))
  clear HT0 HB0 HS10 HS20 HE0 HT1 HS11 HS21 HTl hexA hex0 hD
  by_cases hn0 : n = 0
  · have gn : ((n : Int) == 0) = true := by rw [beq_iff_eq]; omega
    have Hr := hide (show o = none by rw [← ho, if_pos hn0])
    clear ho hn hnl hn0 hDl HTA HBA HEA HSA HSB HTL HXA HX0
    go_enter Tryz.func58, Tryz.ntmps58
    go_wp2_with fail
    refine (HT.out _).mono ?_
    rintro e w1 ⟨rfl, hw1⟩
    subst w1
    generalize w.alloc (.cells #[.int .i8 0, .string ⟨#[]⟩, .slice none 0 0, .bool false, .string ⟨#[]⟩, .int .i64 0, .int .i64 0] 29) = W1 at *
    generalize HR0 : w.heap.size = R at *
    have p0 := Blk.cell HW1.out 0
    have p1 := Blk.cell HW1.out 1
    have p2 := Blk.cell HW1.out 2
    have p3 := Blk.cell HW1.out 3
    have p4 := Blk.cell HW1.out 4
    have p5 := Blk.cell HW1.out 5
    have p6 := Blk.cell HW1.out 6
    have r := fun i => Blk.frozen HW1.out i
    go_wp2
    refine tok_ret_start rfl rfl rfl (put7_blk HW1.out _ _ _ _ _ _ _) ?_
    exact OneR.no' HR0 Hr.out (below_put7 HB1.out (Nat.le_refl R) _ _ _ _ _ _ _) rfl
  have gn : ((n : Int) == 0) = false := by rw [beq_eq_false_iff_ne]; omega
  rw [if_neg hn0] at ho
  have hxn := HX0.out (at_ + 1) n
  obtain ⟨nm, hnm⟩ : ∃ nm, (D.drop (at_ + 1)).take n = nm := ⟨_, rfl⟩
  rw [hnm] at hxn ho
  obtain ⟨p0, hp0⟩ : ∃ p0, at_ + 1 + n = p0 := ⟨_, rfl⟩
  rw [show at_ + (1 + n) = at_ + 1 + n by omega, hp0] at ho
  rw [hp0] at hxn
  have hwn : IntKind.i64.wrap ((at_ : Int) + 1 + (n : Int)) = (p0 : Int) := by rw [IntWalk.i64_in _ (by omega)]; omega
  have hb2 : 0 ≤ (at_ : Int) + 1 ∧ (at_ : Int) + 1 ≤ (p0 : Int) ∧ (p0 : Int) ≤ (s.size : Int) := by omega
  have Hp0 := hide (show at_ < p0 ∧ p0 ≤ s.size by omega)
  have HDl := hide hDl
  have Ho := hide (show (glue [] (attrs (s.size - at_) p0 (D.drop p0))).map (fun x => (⟨0, nm, x.1, x.2.1, [], at_, x.2.2⟩ : Tok)) = o by
    rw [← ho]
    cases attrs (s.size - at_) p0 (D.drop p0) <;> simp [glue])
  clear ho hn hnl hn0 hDl hnm hp0
  go_enter Tryz.func58, Tryz.ntmps58
  go_wp2_with fail
  refine (HT.out _).mono ?_
  rintro e w1 ⟨rfl, hw1⟩
  subst w1
  generalize w.alloc (.cells #[.int .i8 0, .string ⟨#[]⟩, .slice none 0 0, .bool false, .string ⟨#[]⟩, .int .i64 0, .int .i64 0] 29) = W1 at *
  generalize HR0 : w.heap.size = R at *
  go_wp2
  try rw [hxn]
  have HSt := hide (show StD w (W1.alloc (.cells #[.int .i8 0, .string (bstr nm), .slice none 0 0, .bool false, .string ⟨#[]⟩, .int .i64 (at_ : Int), .int .i64 ((0 : Nat) : Int)] 29)) R W1.heap.size at_ (bstr nm) [] none 0 from
    ⟨Blk.alloc HW1.out _, Blk.new W1 _ _, World.ownsRow_nil _ _ _ _, by rw [HR0]; exact HB1.out.alloc (by have := HB1.out.size; omega) _, by have := HW1.out.lt; omega, by omega, by have := HW1.out.lt; omega⟩)
  generalize W1.heap.size = T at *
  clear HT hx hw1 hb1 tn1 HW1 HB1 HZ1 gn hxn hwn hb2
  go_loopg [1] (s.size - p0) (fun g v wr => ∃ (p f : Nat) (Ls : List At) (A : Option Addr) (c : Nat), g = s.size - p ∧ at_ < p ∧ p ≤ s.size ∧ v = .int .i64 (p : Int) ∧ StD w wr R T at_ (bstr nm) Ls A c ∧ s.size - p < f ∧ Ls.length ≤ p ∧ (glue Ls (attrs f p (D.drop p))).map (fun x => (⟨0, nm, x.1, x.2.1, [], at_, x.2.2⟩ : Tok)) = o)
  case atStart => exact ⟨p0, s.size - at_, [], none, 0, rfl, Hp0.out.1, Hp0.out.2, rfl, HSt.out, by have := Hp0.out; omega, by simp, Ho.out⟩
  case round =>
    obtain ⟨p, f, Ls, A, c, hg, hp1, hp2, rfl, hst, hf, hLs, hgl⟩ := hrel
    have Hg := hide hg
    have HSt := hide hst
    have HLs := hide hLs
    obtain ⟨f, rfl⟩ : ∃ f', f = f' + 1 := ⟨f - 1, by omega⟩
    have hml : p + nsp (D.drop p) ≤ s.size := by have := nsp_le (D.drop p); rw [List.length_drop, HDl.out] at this; omega
    obtain ⟨m, hm⟩ : ∃ m, nsp (D.drop p) = m := ⟨_, rfl⟩
    have HB := hide (fun W => by have h := HBA.out p W hp2; rw [hm] at h; exact h)
    rw [hm] at hml
    have e1 := fun h h2 => attrs_end1 (f := f) (off := p) (l := D.drop p) h h2
    have e2 := fun h => attrs_end2 (f := f) (off := p) (l := D.drop p) h
    have e3 := fun h h2 h3 => attrs_tight (f := f) (off := p) (l := D.drop p) h h2 h3
    have e4 := fun h h2 h3 => attrs_more (f := f) (off := p) (l := D.drop p) h h2 h3
    rw [hm, List.drop_drop] at e1 e2 e3 e4
    obtain ⟨k, hk⟩ : ∃ k, p + m = k := ⟨_, rfl⟩
    rw [hk] at HB e1 e2 e3 e4 hml
    have HS1 := hide (fun W => HSA.out k W hml)
    have HS2 := hide (fun W => HSB.out k W hml)
    have HG := hide hgl
    have Hk := hide hk
    have c0 := Tb.c0 HSt.out.tok
    have c1 := Tb.c1 HSt.out.tok
    have c2 := Tb.c2 HSt.out.tok
    have c3 := Tb.c3 HSt.out.tok
    have c4 := Tb.c4 HSt.out.tok
    have c5 := Tb.c5 HSt.out.tok
    have c6 := Tb.c6 HSt.out.tok
    have fT := Tb.f HSt.out.tok
    have q0 := Blk.cell HSt.out.res 0
    have q1 := Blk.cell HSt.out.res 1
    have q2 := Blk.cell HSt.out.res 2
    have q3 := Blk.cell HSt.out.res 3
    have q4 := Blk.cell HSt.out.res 4
    have q5 := Blk.cell HSt.out.res 5
    have q6 := Blk.cell HSt.out.res 6
    have fR := fun i => Blk.frozen HSt.out.res i
    have hRT := HSt.out.rt
    have hTR := HSt.out.rt.symm
    have hk0 : k ≤ s.size := hml
    clear hg hst hLs hgl hm hk Ho
    cases h1 : ([62] : L).isPrefixOf (D.drop k) with
    | true =>
      rw [h1] at HS1
      have h2 : ([47, 62] : L).isPrefixOf (D.drop k) = false := by
        obtain ⟨t, ht⟩ := List.isPrefixOf_iff_prefix.1 h1
        rw [← ht]; rfl
      have Hr := hide (show o = some (⟨0, nm, Ls, false, [], at_, k + 1⟩ : Tok) by rw [← HG.out, e1 h2 h1, glue_end]; rfl)
      have hw3 : IntKind.i64.wrap ((k : Int) + 1) = ((k + 1 : Nat) : Int) := by rw [IntWalk.i64_in _ (by omega)]; omega
      clear e1 e2 e3 e4 h1 h2 HG HS2
      go_wp2_with fail
      refine (HB.out _).mono ?_
      rintro e w1 ⟨rfl, hw1⟩
      subst w1
      go_wp2_with fail
      refine (HS1.out _).mono ?_
      rintro e w1 ⟨rfl, hw1⟩
      subst w1
      go_wp2
      have Htb := hide (Tb.end__ HSt.out.tok (k + 1))
      have Hrs := hide (Blk.far HSt.out.res (p := ⟨T, 6, none⟩) hRT (.int .i64 ((k + 1 : Nat) : Int)))
      have How := hide (ownsRow_setCell_other HSt.out.own (a := ⟨T, 6, none⟩) (own_blk_ne HSt.out.own HSt.out.tok (by decide)) (.int .i64 ((k + 1 : Nat) : Int)))
      have Hbl := hide (HSt.out.below.setCell (p := ⟨T, 6, none⟩) HSt.out.ts (.int .i64 ((k + 1 : Nat) : Int)))
      refine tok_ret_start rfl rfl rfl (put7_blk Hrs.out _ _ _ _ _ _ _) ?_
      exact OneR.yes Hr.out (below_put7 Hbl.out HSt.out.rs _ _ _ _ _ _ _) rfl (put7_own How.out (own_blk_ne How.out Hrs.out (by decide)) _ _ _ _ _ _ _)
    | false =>
      rw [h1] at HS1
      cases h2 : ([47, 62] : L).isPrefixOf (D.drop k) with
      | true =>
        rw [h2] at HS2
        have Hr := hide (show o = some (⟨0, nm, Ls, true, [], at_, k + 2⟩ : Tok) by rw [← HG.out, e2 h2, glue_end]; rfl)
        have hw3 : IntKind.i64.wrap ((k : Int) + 2) = ((k + 2 : Nat) : Int) := by rw [IntWalk.i64_in _ (by omega)]; omega
        clear e1 e2 e3 e4 h1 h2 HG
        go_wp2_with fail
        refine (HB.out _).mono ?_
        rintro e w1 ⟨rfl, hw1⟩
        subst w1
        go_wp2_with fail
        refine (HS1.out _).mono ?_
        rintro e w1 ⟨rfl, hw1⟩
        subst w1
        go_wp2_with fail
        refine (HS2.out _).mono ?_
        rintro e w1 ⟨rfl, hw1⟩
        subst w1
        go_wp2
        have Htb := hide (Tb.end__ (Tb.empty_ HSt.out.tok true) (k + 2))
        have Hrs := hide (Blk.far (Blk.far HSt.out.res (p := ⟨T, 3, none⟩) hRT (.bool true)) (p := ⟨T, 6, none⟩) hRT (.int .i64 ((k + 2 : Nat) : Int)))
        have How1 := hide (ownsRow_setCell_other HSt.out.own (a := ⟨T, 3, none⟩) (own_blk_ne HSt.out.own HSt.out.tok (by decide)) (.bool true))
        have How := hide (ownsRow_setCell_other How1.out (a := ⟨T, 6, none⟩) (own_blk_ne HSt.out.own HSt.out.tok (by decide)) (.int .i64 ((k + 2 : Nat) : Int)))
        have Hbl := hide ((HSt.out.below.setCell (p := ⟨T, 3, none⟩) HSt.out.ts (.bool true)).setCell (p := ⟨T, 6, none⟩) HSt.out.ts (.int .i64 ((k + 2 : Nat) : Int)))
        refine tok_ret_start rfl rfl rfl (put7_blk Hrs.out _ _ _ _ _ _ _) ?_
        exact OneR.yes Hr.out (below_put7 Hbl.out HSt.out.rs _ _ _ _ _ _ _) rfl (put7_own How.out (own_blk_ne How.out Hrs.out (by decide)) _ _ _ _ _ _ _)
      | false =>
        rw [h2] at HS2
        by_cases hkp : m = 0
        · have gk : ((k : Int) == (p : Int)) = true := by rw [beq_iff_eq]; have := Hk.out; omega
          have Hr := hide (show o = none by rw [← HG.out, e3 h2 h1 hkp, glue_none]; rfl)
          clear e1 e2 e3 e4 h1 h2 HG hkp
          go_wp2_with fail
          refine (HB.out _).mono ?_
          rintro e w1 ⟨rfl, hw1⟩
          subst w1
          go_wp2_with fail
          refine (HS1.out _).mono ?_
          rintro e w1 ⟨rfl, hw1⟩
          subst w1
          go_wp2_with fail
          refine (HS2.out _).mono ?_
          rintro e w1 ⟨rfl, hw1⟩
          subst w1
          go_wp2
          refine tok_ret_start rfl rfl rfl (put7_blk HSt.out.res _ _ _ _ _ _ _) ?_
          exact OneR.no Hr.out (below_put7 HSt.out.below HSt.out.rs _ _ _ _ _ _ _) rfl
        have gk : ((k : Int) == (p : Int)) = false := by rw [beq_eq_false_iff_ne]; have := Hk.out; omega
        have hpk : p < k := by have := Hk.out; omega
        have e5 := e4 h2 h1 hkp
        clear e1 e2 e3 e4 h1 h2 hkp
        by_cases hks : k < s.size
        · have gs : ¬ (s.size : Int) ≤ (k : Int) := by omega
          obtain ⟨j, hj⟩ : ∃ j, Tk.take (D.drop k) = j := ⟨_, rfl⟩
          have hjl := (take_spec (D.drop k)).1
          rw [hj, List.length_drop, HDl.out] at hjl
          have HTk := hide (fun W => by have h := HTA.out k W; rw [hj] at h; exact h)
          have hxk := HXA.out k
          have hbk : 0 ≤ (k : Int) ∧ (k : Int) ≤ (s.size : Int) ∧ (s.size : Int) ≤ (s.size : Int) := by omega
          have tnk : ((k : Int)).toNat = k := by omega
          rw [hj, List.drop_drop] at e5
          obtain ⟨x, hx⟩ : ∃ x, k + j = x := ⟨_, rfl⟩
          have hxs : x ≤ s.size := by omega
          have HEq := hide (fun W => HEA.out x W hxs)
          have hwx : IntKind.i64.wrap ((k : Int) + (j : Int)) = (x : Int) := by rw [IntWalk.i64_in _ (by omega)]; omega
          rw [hx] at e5
          obtain ⟨r, hr⟩ : ∃ r, eqv (D.drop x) = r := ⟨_, rfl⟩
          rw [hr] at e5 HEq
          have Hjk := hide hx
          cases r with
          | none =>
            have Hr := hide (show o = none by rw [← HG.out, e5]; by_cases h : j = 0 <;> simp [h, glue])
            by_cases hj0 : j = 0
            · have gj : ((j : Int) == 0) = true := by rw [beq_iff_eq]; omega
              clear e5 hr hx hj hjl HG hj0
              go_wp2_with fail
              refine (HB.out _).mono ?_
              rintro e w1 ⟨rfl, hw1⟩
              subst w1
              go_wp2_with fail
              refine (HS1.out _).mono ?_
              rintro e w1 ⟨rfl, hw1⟩
              subst w1
              go_wp2_with fail
              refine (HS2.out _).mono ?_
              rintro e w1 ⟨rfl, hw1⟩
              subst w1
              go_wp2_with fail
              refine (HTk.out _).mono ?_
              rintro e w1 ⟨rfl, hw1⟩
              subst w1
              go_wp2_with fail
              refine (HEq.out _).mono ?_
              rintro e w1 ⟨rfl, hw1⟩
              subst w1
              unfold qv
              go_wp2
              refine tok_ret_start rfl rfl rfl (put7_blk HSt.out.res _ _ _ _ _ _ _) ?_
              exact OneR.no Hr.out (below_put7 HSt.out.below HSt.out.rs _ _ _ _ _ _ _) rfl
            · have gj : ((j : Int) == 0) = false := by rw [beq_eq_false_iff_ne]; omega
              clear e5 hr hx hj hjl HG hj0
              go_wp2_with fail
              refine (HB.out _).mono ?_
              rintro e w1 ⟨rfl, hw1⟩
              subst w1
              go_wp2_with fail
              refine (HS1.out _).mono ?_
              rintro e w1 ⟨rfl, hw1⟩
              subst w1
              go_wp2_with fail
              refine (HS2.out _).mono ?_
              rintro e w1 ⟨rfl, hw1⟩
              subst w1
              go_wp2_with fail
              refine (HTk.out _).mono ?_
              rintro e w1 ⟨rfl, hw1⟩
              subst w1
              go_wp2_with fail
              refine (HEq.out _).mono ?_
              rintro e w1 ⟨rfl, hw1⟩
              subst w1
              unfold qv
              go_wp2
              refine tok_ret_start rfl rfl rfl (put7_blk HSt.out.res _ _ _ _ _ _ _) ?_
              exact OneR.no Hr.out (below_put7 HSt.out.below HSt.out.rs _ _ _ _ _ _ _) rfl
          | some vn =>
            obtain ⟨v, q⟩ := vn
            have hfit := eqv_fit hr
            rw [List.length_drop, HDl.out] at hfit
            obtain ⟨y, hy⟩ : ∃ y, x + q = y := ⟨_, rfl⟩
            have HEq2 := hide (show ∀ W, Calls Tryz.prog 103 #[.string s, .int .i64 (x : Int)] W fun e w' => e = .returned (.tuple #[.string (bstr v), .int .i64 (y : Int), .bool true]) ∧ w' = W from fun W => by have h := HEq.out W; unfold qv at h; dsimp only at h; rw [hy] at h; exact h)
            clear HEq
            simp only [Option.bind_some] at e5
            by_cases hj0 : j = 0
            · have gj : ((j : Int) == 0) = true := by rw [beq_iff_eq]; omega
              have Hr := hide (show o = none by rw [← HG.out, e5, if_pos hj0, glue_none]; rfl)
              clear e5 hr hx hj hjl HG hj0 hfit hy
              go_wp2_with fail
              refine (HB.out _).mono ?_
              rintro e w1 ⟨rfl, hw1⟩
              subst w1
              go_wp2_with fail
              refine (HS1.out _).mono ?_
              rintro e w1 ⟨rfl, hw1⟩
              subst w1
              go_wp2_with fail
              refine (HS2.out _).mono ?_
              rintro e w1 ⟨rfl, hw1⟩
              subst w1
              go_wp2_with fail
              refine (HTk.out _).mono ?_
              rintro e w1 ⟨rfl, hw1⟩
              subst w1
              go_wp2_with fail
              refine (HEq2.out _).mono ?_
              rintro e w1 ⟨rfl, hw1⟩
              subst w1
              go_wp2
              refine tok_ret_start rfl rfl rfl (put7_blk HSt.out.res _ _ _ _ _ _ _) ?_
              exact OneR.no Hr.out (below_put7 HSt.out.below HSt.out.rs _ _ _ _ _ _ _) rfl
            have gj : ((j : Int) == 0) = false := by rw [beq_eq_false_iff_ne]; omega
            rw [if_neg hj0] at e5
            have HTi := hide (fun W => HTL.out v W (by omega))
            have hmem := till_byteD 60 v
            by_cases hlt : (60 : UInt8) ∈ v
            · have gz : (0 : Int) ≤ tillAt v [60] 0 := hmem.2 hlt
              have Hr := hide (show o = none by rw [← HG.out, e5, if_pos hlt, glue_none]; rfl)
              generalize tillAt v [60] 0 = z at *
              clear e5 hr hx hj hjl HG hj0 hfit hy hmem hlt
              go_wp2_with fail
              refine (HB.out _).mono ?_
              rintro e w1 ⟨rfl, hw1⟩
              subst w1
              go_wp2_with fail
              refine (HS1.out _).mono ?_
              rintro e w1 ⟨rfl, hw1⟩
              subst w1
              go_wp2_with fail
              refine (HS2.out _).mono ?_
              rintro e w1 ⟨rfl, hw1⟩
              subst w1
              go_wp2_with fail
              refine (HTk.out _).mono ?_
              rintro e w1 ⟨rfl, hw1⟩
              subst w1
              go_wp2_with fail
              refine (HEq2.out _).mono ?_
              rintro e w1 ⟨rfl, hw1⟩
              subst w1
              go_wp2_with fail
              refine (HTi.out _).mono ?_
              rintro e w1 ⟨rfl, hw1⟩
              subst w1
              go_wp2
              refine tok_ret_start rfl rfl rfl (put7_blk HSt.out.res _ _ _ _ _ _ _) ?_
              exact OneR.no Hr.out (below_put7 HSt.out.below HSt.out.rs _ _ _ _ _ _ _) rfl
            · have gz : ¬ (0 : Int) ≤ tillAt v [60] 0 := fun h => hlt (hmem.1 h)
              rw [if_neg hlt] at e5
              have hxj := HX0.out k j
              obtain ⟨na, hna⟩ : ∃ na, (D.drop k).take j = na := ⟨_, rfl⟩
              rw [hna] at hxj e5
              rw [hx] at hxj
              rw [hy, List.drop_drop, show k + (j + q) = y by omega] at e5
              have HG2 := hide (show (glue (Ls ++ [⟨na, v, k⟩]) (attrs f y (D.drop y))).map (fun x => (⟨0, nm, x.1, x.2.1, [], at_, x.2.2⟩ : Tok)) = o by rw [← HG.out, e5, glue_more])
              have Hys := hide (show p < y ∧ y ≤ s.size ∧ k < y by omega)
              have hbx : 0 ≤ (k : Int) ∧ (k : Int) ≤ (x : Int) ∧ (x : Int) ≤ (s.size : Int) := by omega
              have HL := hide (show Ls.length ≤ 1000000000 by have := HLs.out; omega)
              have xa : ∀ o, (wr.alloc o).cell? ⟨T, 2, none⟩ = some (.slice A Ls.length c) := fun o => Tb.c2 (Blk.alloc HSt.out.tok o)
              have HNE := hide (own_blk_ne HSt.out.own HSt.out.tok (by decide)).symm
              have HBs := hide HSt.out.below.size
              generalize tillAt v [60] 0 = z at *
              clear e5 hr hx hj hjl HG hj0 hfit hy hmem hlt hna
              go_wp2_with fail
              refine (HB.out _).mono ?_
              rintro e w1 ⟨rfl, hw1⟩
              subst w1
              go_wp2_with fail
              refine (HS1.out _).mono ?_
              rintro e w1 ⟨rfl, hw1⟩
              subst w1
              go_wp2_with fail
              refine (HS2.out _).mono ?_
              rintro e w1 ⟨rfl, hw1⟩
              subst w1
              go_wp2_with fail
              refine (HTk.out _).mono ?_
              rintro e w1 ⟨rfl, hw1⟩
              subst w1
              go_wp2_with fail
              refine (HEq2.out _).mono ?_
              rintro e w1 ⟨rfl, hw1⟩
              subst w1
              go_wp2_with fail
              refine (HTi.out _).mono ?_
              rintro e w1 ⟨rfl, hw1⟩
              subst w1
              go_wp2
              go_region_law
                (show if Region.wanted (⟨some 100, _, _, _, _, _⟩ : Oper) _ = true then _ else _; refine step_append_elem _ (by rfl) _ _ _ (by rfl) w.heap.size 58 _ 3 40 Tryz.underlying27 info_att (by rfl) (by omega) (.slice A Ls.length c) Ls.length (attrVs Ls) (by rfl) (by first | exact HSt.out.own.alloc _ | exact (HSt.out.own.alloc _).drew) [.string (bstr na), .string (bstr v), .int .i64 (k : Int)] rfl (att_one ⟨na, v, k⟩) wr.heap.size (by first | exact Blk.new wr 58 _ | exact (Blk.new wr 58 _).drew) (by rfl) (by unfold maxLen; have := HL.out; omega) (by have := HL.out; omega) (by have := HBs.out; simp [World.drew]; omega) ?_; intro gg cap w8 hown8 hgrow8 hlt8; have T8 := hide (show Blk w8 T 29 #[.int .i8 0, .string (bstr nm), .slice A Ls.length c, .bool false, .string ⟨#[]⟩, .int .i64 (at_ : Int), .int .i64 ((0 : Nat) : Int)] from Blk.grown (Blk.drew (Blk.alloc HSt.out.tok (.cells #[.string (bstr na), .string (bstr v), .int .i64 (k : Int)] 58))) hgrow8 HNE.out); have c2' : w8.cell? ⟨T, 2, none⟩ = some (.slice A Ls.length c) := T8.out.cell 2; have f2' := T8.out.frozen 2; have Hgrow8 := hide hgrow8; have Hown8 := hide hown8; clear hown8 hgrow8 hlt8)
              all_goals go_wp2
              all_goals
                have S8 := hide (HSt.out.app ⟨na, v, k⟩ Hgrow8.out Hown8.out rfl)
                go_roundg (s.size - y)
                case measure => have := Hg.out; have := Hys.out; omega
                case rel => exact ⟨y, f, Ls ++ [⟨na, v, k⟩], some ⟨gg, 0, none⟩, cap, rfl, by have := Hys.out; omega, Hys.out.2.1, rfl, S8.out, by have := Hys.out; omega, by have := HLs.out; have := Hys.out; simp; omega, HG2.out⟩
        · have gs : (s.size : Int) ≤ (k : Int) := by omega
          have Hr := hide (show o = none by
            rw [← HG.out, e5, List.drop_of_length_le (by rw [HDl.out]; omega), if_pos (by rfl), glue_none]; rfl)
          clear e5 HG hks
          go_wp2_with fail
          refine (HB.out _).mono ?_
          rintro e w1 ⟨rfl, hw1⟩
          subst w1
          go_wp2_with fail
          refine (HS1.out _).mono ?_
          rintro e w1 ⟨rfl, hw1⟩
          subst w1
          go_wp2_with fail
          refine (HS2.out _).mono ?_
          rintro e w1 ⟨rfl, hw1⟩
          subst w1
          go_wp2
          refine tok_ret_start rfl rfl rfl (put7_blk HSt.out.res _ _ _ _ _ _ _) ?_
          exact OneR.no Hr.out (below_put7 HSt.out.below HSt.out.rs _ _ _ _ _ _ _) rfl
end Go.Proofs.YtbnaphbmmkmaeaaGreatDoor
