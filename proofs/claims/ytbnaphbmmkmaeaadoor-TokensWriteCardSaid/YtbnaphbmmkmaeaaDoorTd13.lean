/- Tokens: words for one: which reading a piece calls, and whether it is of Chars alone. · Tokens: one: the piece that begins at a byte, of Chars alone. · UTF-8 and tokens in plain data: what stands at the front of a text is told by its own bytes; no program in sight. -/
import Derived.Test.YtbnaphbmmkmaeaaDoorTd01
import Derived.Test.YtbnaphbmmkmaeaaDoorTd05
import Derived.Test.YtbnaphbmmkmaeaaDoorTd12
import Derived.Deep.Onto
import Derived.Laws.EntriesVeiled
set_option linter.unusedSimpArgs false
set_option linter.unusedVariables false
namespace Go.Proofs.YtbnaphbmmkmaeaaDoor
open Go.RowKit Tk

theorem bad_fine (l : L) : decide (0 ≤ bad l) = !fine l := by
  unfold bad fine stop
  cases h : (Utf.pieces l).find? (fun p => !charOk p.2) with
  | none =>
    have : (Utf.pieces l).all (fun p => charOk p.2) = true := List.all_eq_true.2 fun p hp => by
      have := List.find?_eq_none.1 h p hp
      simpa using this
    simp [this]
  | some p =>
    have h1 := List.find?_some h
    have h2 := List.mem_of_find?_eq_some h
    have : (Utf.pieces l).all (fun p => charOk p.2) = false := by
      rw [Bool.eq_false_iff]
      intro ha
      have := List.all_eq_true.1 ha p h2
      rw [this] at h1
      cases h1
    simp [this]
def tokCells (t : Tok) (v : Value) (e : Nat) : List Value := [.int .i8 t.kind, .string (bstr t.name), v, .bool t.empty, .string (bstr t.text), .int .i64 (t.at_ : Int), .int .i64 (e : Int)]
def zeroTok : List Value := [.int .i8 0, .string ⟨#[]⟩, .slice none 0 0, .bool false, .string ⟨#[]⟩, .int .i64 0, .int .i64 0]
/-- What one leaves. -/
def OneR (w : World) (o : Option Tok) (e : Ending) (w' : World) : Prop :=
  Below w.heap.size w w' ∧ match o with
    | none => e = .returned (.tuple #[.agg zeroTok.toArray, .bool false])
    | some t => ∃ A c, e = .returned (.tuple #[.agg (tokCells t (.slice A t.attrs.length c) t.end_).toArray, .bool true]) ∧ w'.ownsRow w.heap.size 38 3 (.slice A t.attrs.length c) t.attrs.length (attrVs t.attrs)
theorem OneR.no {w : World} {o : Option Tok} {e : Ending} {w' : World} (ho : o = none) (hb : Below w.heap.size w w') (he : e = .returned (.tuple #[.agg zeroTok.toArray, .bool false])) : OneR w o e w' := by subst ho; exact ⟨hb, he⟩
theorem OneR.no' {R : Nat} {w : World} {o : Option Tok} {e : Ending} {w' : World} (hR : w.heap.size = R) (ho : o = none) (hb : Below R w w') (he : e = .returned (.tuple #[.agg zeroTok.toArray, .bool false])) : OneR w o e w' := by subst hR; exact OneR.no ho hb he
theorem OneR.yes {w : World} {o : Option Tok} {t : Tok} {e : Ending} {w' : World} {A : Option Addr} {c : Nat} (ho : o = some t) (hb : Below w.heap.size w w') (he : e = .returned (.tuple #[.agg (tokCells t (.slice A t.attrs.length c) t.end_).toArray, .bool true]))
    (hr : w'.ownsRow w.heap.size 38 3 (.slice A t.attrs.length c) t.attrs.length (attrVs t.attrs)) : OneR w o e w' := by subst ho; exact ⟨hb, A, c, he, hr⟩
/-- The function that reads the piece. -/
def fnOf (l : L) : Nat := if ([60, 47] : L).isPrefixOf l then 29 else if ([60, 33] : L).isPrefixOf l || ([60, 63] : L).isPrefixOf l then 30 else if ([60] : L).isPrefixOf l then 28 else 31
theorem kind_cases (l : L) : (kindOf l = 0 ∧ fnOf l = 28) ∨ (kindOf l = 1 ∧ fnOf l = 29) ∨ (kindOf l = 2 ∧ fnOf l = 30) ∨ (kindOf l = 3 ∧ fnOf l = 31) := by
  unfold kindOf fnOf
  cases ([60, 47] : L).isPrefixOf l <;> cases (([60, 33] : L).isPrefixOf l || ([60, 63] : L).isPrefixOf l) <;> cases ([60] : L).isPrefixOf l <;> simp
theorem piece_call (w : World) (X T : Nat) (s : ByteArray) (k : Nat) (hX : Sc w X s k) (hT : T0 w T k) (hne : X ≠ T) (hX6 : 6 ≤ X) (hT6 : 6 ≤ T) (hg : Gl w) (hk : k < s.size) (hs : s.size ≤ 1000000000) :
    Calls Tryd.prog (fnOf (s.data.toList.drop k)) #[.pointer (some ⟨X, 0, none⟩), .pointer (some ⟨T, 0, none⟩)] w (PieceR w w.heap.size X T s k (Tk.piece k (s.data.toList.drop k))) := by
  unfold fnOf Tk.piece
  split
  · rename_i hp
    have := pfx_len hp
    rw [List.length_drop, size_list] at this
    exact end_any w _ X T s k hX hT hne (by have e : ([60, 47] : L).length = 2 := rfl; omega) hs
  split
  · exact skip_any w _ X T s k hX hT hne hX6 hT6 hg (by omega) hs
  split
  · exact start_any w _ X T s k hX hT hne hX6 hT6 hg rfl hk hs
  · rename_i hp
    exact text_any w _ X T s k hX hT hne hX6 hT6 hg hk hs (Bool.eq_false_iff.2 hp)
/-- The world in which the piece is read: the result, the readings, the text and the token. -/
def oneW (w : World) (s : ByteArray) (k : Nat) : World :=
  (((w.alloc (.cells #[.int .i8 0, .string ⟨#[]⟩, .slice none 0 0, .bool false, .string ⟨#[]⟩, .int .i64 0, .int .i64 0] 29)).alloc
    (.cells #[.func (.func 28) #[] #[], .func (.func 29) #[] #[], .func (.func 30) #[] #[], .func (.func 31) #[] #[]] 65)).alloc
    (.cells #[.string s, .int .i64 (k : Int)] 67)).alloc (.cells #[.int .i8 0, .string ⟨#[]⟩, .slice none 0 0, .bool false, .string ⟨#[]⟩, .int .i64 (k : Int), .int .i64 0] 29)
structure OneW (w C : World) (s : ByteArray) (k R Y X T : Nat) : Prop where
  res : Blk C R 29 #[.int .i8 0, .string ⟨#[]⟩, .slice none 0 0, .bool false, .string ⟨#[]⟩, .int .i64 0, .int .i64 0]
  fns : Blk C Y 65 #[.func (.func 28) #[] #[], .func (.func 29) #[] #[], .func (.func 30) #[] #[], .func (.func 31) #[] #[]]
  sc : Sc C X s k
  tok : T0 C T k
  below : Below w.heap.size w C
  size : T < C.heap.size
  base : w.heap.size ≤ C.heap.size
  rX : R ≠ X
  rT : R ≠ T
  xT : X ≠ T
  xs : w.heap.size ≤ X
  ts : w.heap.size ≤ T
  rs : w.heap.size ≤ R
theorem oneW_is (w : World) (s : ByteArray) (k : Nat) : OneW w (oneW w s k) s k w.heap.size (w.heap.size + 1) (w.heap.size + 1 + 1) (w.heap.size + 1 + 1 + 1) := by
  have b0 := Blk.new w 29 #[.int .i8 0, .string ⟨#[]⟩, .slice none 0 0, .bool false, .string ⟨#[]⟩, .int .i64 0, .int .i64 0]
  have b1 := Blk.new (w.alloc (.cells #[.int .i8 0, .string ⟨#[]⟩, .slice none 0 0, .bool false, .string ⟨#[]⟩, .int .i64 0, .int .i64 0] 29)) 65 #[.func (.func 28) #[] #[], .func (.func 29) #[] #[], .func (.func 30) #[] #[], .func (.func 31) #[] #[]]
  rw [World.size_alloc] at b1
  have b2 := Blk.new ((w.alloc (.cells #[.int .i8 0, .string ⟨#[]⟩, .slice none 0 0, .bool false, .string ⟨#[]⟩, .int .i64 0, .int .i64 0] 29)).alloc (.cells #[.func (.func 28) #[] #[], .func (.func 29) #[] #[], .func (.func 30) #[] #[], .func (.func 31) #[] #[]] 65)) 67 #[.string s, .int .i64 (k : Int)]
  rw [World.size_alloc, World.size_alloc] at b2
  have b3 := Blk.new (((w.alloc (.cells #[.int .i8 0, .string ⟨#[]⟩, .slice none 0 0, .bool false, .string ⟨#[]⟩, .int .i64 0, .int .i64 0] 29)).alloc (.cells #[.func (.func 28) #[] #[], .func (.func 29) #[] #[], .func (.func 30) #[] #[], .func (.func 31) #[] #[]] 65)).alloc (.cells #[.string s, .int .i64 (k : Int)] 67)) 29 #[.int .i8 0, .string ⟨#[]⟩, .slice none 0 0, .bool false, .string ⟨#[]⟩, .int .i64 (k : Int), .int .i64 0]
  rw [World.size_alloc, World.size_alloc, World.size_alloc] at b3
  refine ⟨((b0.alloc _).alloc _).alloc _, (b1.alloc _).alloc _, b2.alloc _, b3, ?_, b3.lt, ?_, by omega, by omega, by omega, by omega, by omega, by omega⟩
  · exact (((((Below.refl _ w).alloc (Nat.le_refl _) _).alloc (by simp) _).alloc (by simp; omega) _).alloc (by simp; omega) _)
  · have := b3.lt
    unfold oneW
    omega
/-- Seven cells stored, one by one. -/
def put7 (w : World) (X : Nat) (v0 v1 v2 v3 v4 v5 v6 : Value) : World := (((((((w.setCell ⟨X, 0, none⟩ v0).setCell ⟨X, 1, none⟩ v1).setCell ⟨X, 2, none⟩ v2).setCell ⟨X, 3, none⟩ v3).setCell ⟨X, 4, none⟩ v4).setCell ⟨X, 5, none⟩ v5).setCell ⟨X, 6, none⟩ v6)
theorem below_put7 {B X : Nat} {w w1 : World} (h : Below B w w1) (hX : B ≤ X) (v0 v1 v2 v3 v4 v5 v6 : Value) : Below B w (put7 w1 X v0 v1 v2 v3 v4 v5 v6) :=
  ((((((h.setCell (p := ⟨X, 0, none⟩) hX v0).setCell (p := ⟨X, 1, none⟩) hX v1).setCell (p := ⟨X, 2, none⟩) hX v2).setCell (p := ⟨X, 3, none⟩) hX v3).setCell (p := ⟨X, 4, none⟩) hX v4).setCell (p := ⟨X, 5, none⟩) hX v5).setCell (p := ⟨X, 6, none⟩) hX v6
theorem put7_blk {w : World} {X t : Nat} {u0 u1 u2 u3 u4 u5 u6 : Value} (h : Blk w X t #[u0, u1, u2, u3, u4, u5, u6]) (v0 v1 v2 v3 v4 v5 v6 : Value) : Blk (put7 w X v0 v1 v2 v3 v4 v5 v6) X t #[v0, v1, v2, v3, v4, v5, v6] := by
  have := ((((((h.set_ 0 v0).set_ 1 v1).set_ 2 v2).set_ 3 v3).set_ 4 v4).set_ 5 v5).set_ 6 v6
  simpa [Go.Proofs.YtbnaphbmmkmaeaaDoor.put7] using this
theorem put7_own {w : World} {base e size n X : Nat} {v : Value} {xs : List Value} (h : w.ownsRow base e size v n xs) (hX : v.ownBlock ≠ some X) (v0 v1 v2 v3 v4 v5 v6 : Value) : (put7 w X v0 v1 v2 v3 v4 v5 v6).ownsRow base e size v n xs :=
  ownsRow_setCell_other (ownsRow_setCell_other (ownsRow_setCell_other (ownsRow_setCell_other (ownsRow_setCell_other (ownsRow_setCell_other (ownsRow_setCell_other h (a := ⟨X, 0, none⟩) hX _) (a := ⟨X, 1, none⟩) hX _) (a := ⟨X, 2, none⟩) hX _) (a := ⟨X, 3, none⟩) hX _) (a := ⟨X, 4, none⟩) hX _) (a := ⟨X, 5, none⟩) hX _) (a := ⟨X, 6, none⟩) hX _
theorem one_ret {Q : Ending → World → Prop} {a : Act} {W : World} {R : Nat} {v0 v1 v2 v3 v4 v5 v6 : Value} {b : Bool} (ha : a.tmps.getD 4 undef = .pointer (some ⟨R, 0, none⟩)) (h5 : a.tmps.getD 5 undef = .bool b) (hd : a.defers = []) (hK : Blk W R 29 #[v0, v1, v2, v3, v4, v5, v6])
    (hQ : Q (.returned (.tuple #[.agg #[v0, v1, v2, v3, v4, v5, v6], .bool b])) W) : bodyPost Tryd.prog Tryd.f17 Q .ret a W := by
  have p0 : W.cell? ⟨R, 0, none⟩ = some v0 := hK.cell 0
  have p1 : W.cell? ⟨R, 1, none⟩ = some v1 := hK.cell 1
  have p2 : W.cell? ⟨R, 2, none⟩ = some v2 := hK.cell 2
  have p3 : W.cell? ⟨R, 3, none⟩ = some v3 := hK.cell 3
  have p4 : W.cell? ⟨R, 4, none⟩ = some v4 := hK.cell 4
  have p5 : W.cell? ⟨R, 5, none⟩ = some v5 := hK.cell 5
  have p6 : W.cell? ⟨R, 6, none⟩ = some v6 := hK.cell 6
  refine bodyPost_ret (v := .tuple #[.agg #[v0, v1, v2, v3, v4, v5, v6], .bool b]) ?_ hd hQ
  obtain ⟨tm, df⟩ := a
  dsimp only at ha h5 ⊢
  have ha' : tm[4]?.getD undef = .pointer (some ⟨R, 0, none⟩) := by simpa using ha
  have hb' : tm[5]?.getD undef = .bool b := by simpa using h5
  simp [results, Tryd.results17, go_sem, p0, p1, p2, p3, p4, p5, p6, ha', hb']
theorem own_below {w w' : World} {base e size n : Nat} {v : Value} {xs : List Value} (h : w.ownsRow base e size v n xs) (hb : Below w.heap.size w w') : w'.ownsRow base e size v n xs :=
  h.kept (row := some w.heap.size) ⟨hb.os, hb.tape, hb.output, hb.size, fun i hi _ => hb.block i hi⟩ (.inr fun e => by have := (h.lt _ e).2; omega)
theorem But2.blk {X T g t : Nat} {cs : Array Value} {w w' : World} (h : But2 X T w w') (hg : Blk w g t cs) (hX : g ≠ X) (hT : g ≠ T) : Blk w' g t cs := (h.block g hg.lt hX hT).trans hg
end Go.Proofs.YtbnaphbmmkmaeaaDoor
namespace Go.Proofs.YtbnaphbmmkmaeaaDoor
open Go.RowKit Tk

set_option maxHeartbeats 8000000 in
set_option maxRecDepth 20000 in
theorem one_any (w : World) (s : ByteArray) (k : Nat) (hg : Gl w) (hw6 : 6 ≤ w.heap.size) (hk : k < s.size) (hs : s.size ≤ 1000000000) :
    Calls Tryd.prog 17 #[.string s, .int .i64 (k : Int)] w (OneR w (Tk.one k (s.data.toList.drop k))) := by
  obtain ⟨l, hl⟩ : ∃ l, s.data.toList.drop k = l := ⟨_, rfl⟩
  have hkc := kind_cases l
  have HKi := hide (fun W => kind_any (s.extract k s.size) W (by rw [extract_end, bstr_size, List.length_drop, size_list]; omega))
  rw [extract_end, hl, bstr_list] at HKi
  have HPc := hide (fun W X T (hX : Sc W X s k) (hT : T0 W T k) (hne : X ≠ T) (hX6 : 6 ≤ X) (hT6 : 6 ≤ T) (hg : Gl W) => piece_call W X T s k hX hT hne hX6 hT6 hg hk hs)
  rw [hl] at HPc
  have HPc' : Hid (∀ o W X T (hX : Sc W X s k) (hT : T0 W T k) (hne : X ≠ T) (hX6 : 6 ≤ X) (hT6 : 6 ≤ T) (hg : Gl W), o = Tk.piece k l → Calls Tryd.prog (fnOf l) #[.pointer (some ⟨X, 0, none⟩), .pointer (some ⟨T, 0, none⟩)] W (PieceR W W.heap.size X T s k o)) := hide fun o W X T hX hT hne hX6 hT6 hg h => by subst h; exact HPc.out W X T hX hT hne hX6 hT6 hg
  have HL := hide hl
  rw [hl]
  have hes : s.extract k s.size = bstr l := by rw [extract_end, hl]
  obtain ⟨o, ho⟩ : ∃ o, Tk.piece k l = o := ⟨_, rfl⟩
  obtain ⟨res, hres⟩ : ∃ r, Tk.one k l = r := ⟨_, rfl⟩
  have HR := hide (show res = o.bind fun t => if fine (l.take (t.end_ - k)) then some t else none by rw [← hres, ← ho]; rfl)
  rw [hres]
  have Ho := hide ho
  have HG := hide hg
  clear HPc hl ho hres hg
  generalize fnOf l = fn at *
  generalize kindOf l = kd at *
  obtain ⟨L0, hL0⟩ : ∃ L0, bstr l = L0 := ⟨_, rfl⟩
  rw [hL0] at HKi hes
  clear hL0
  have HW := hide (oneW_is w s k)
  obtain ⟨C, hC⟩ : ∃ C, oneW w s k = C := ⟨_, rfl⟩
  rw [hC] at HW
  rcases hkc with ⟨rfl, rfl⟩ | ⟨rfl, rfl⟩ | ⟨rfl, rfl⟩ | ⟨rfl, rfl⟩
  all_goals
    go_enter Tryd.func17, Tryd.ntmps17
    go_wp2_with fail
    show Calls Tryd.prog 32 _ (oneW w s k) _
    rw [hC]
    clear hC
    refine (HKi.out _).mono ?_
    rintro e w1 ⟨rfl, rfl⟩
    generalize w.heap.size + 1 + 1 + 1 = T at *
    generalize w.heap.size + 1 + 1 = X at *
    generalize w.heap.size + 1 = Y at *
    have c0 := Blk.cell HW.out.fns 0
    have c1 := Blk.cell HW.out.fns 1
    have c2 := Blk.cell HW.out.fns 2
    have c3 := Blk.cell HW.out.fns 3
    have HRX := hide HW.out.rX
    have HRT := hide HW.out.rT
    go_wp2_with fail
    refine (HPc'.out o w1 X T HW.out.sc HW.out.tok HW.out.xT (by have := HW.out.xs; omega) (by have := HW.out.ts; omega) (HG.out.below HW.out.below) Ho.out.symm).mono ?_
    rintro e w2 h2
    clear c0 c1 c2 c3 HPc' HKi
    cases o with
    | none =>
      obtain ⟨b2, rfl, ⟨k', hk', s2⟩, kd, nm, as_, em, tx, at0, en, t2⟩ := h2
      have HRr := hide (show res = none by rw [HR.out]; rfl)
      have d1 := Sc.c1 s2
      have c6 := Tb.c6 t2
      have f6 := Tb.f t2 6
      have HB2 := hide (show Below w.heap.size w w2 from HW.out.below.trans (b2.below HW.out.xs HW.out.ts HW.out.base))
      have HK2 := hide (b2.blk HW.out.res HRX.out HRT.out)
      have HTs := hide HW.out.ts
      clear b2 hk' s2 t2 HR HW
      generalize HR0 : w.heap.size = R at *
      have p0 := Blk.cell HK2.out 0
      have p1 := Blk.cell HK2.out 1
      have p2 := Blk.cell HK2.out 2
      have p3 := Blk.cell HK2.out 3
      have p4 := Blk.cell HK2.out 4
      have p5 := Blk.cell HK2.out 5
      have p6 := Blk.cell HK2.out 6
      have r := fun i => Blk.frozen HK2.out i
      have hRT := HRT.out
      have hTR := HRT.out.symm
      go_wp2
      have HBe := hide (below_put7 (HB2.out.setCell (p := ⟨T, 6, none⟩) HTs.out (.int .i64 (k' : Int))) (Nat.le_refl R) (.int .i8 0) (.string ⟨#[]⟩) (.slice none 0 0) (.bool false) (.string ⟨#[]⟩) (.int .i64 0) (.int .i64 0))
      refine one_ret rfl rfl rfl (put7_blk (Blk.far HK2.out (p := ⟨T, 6, none⟩) hRT (.int .i64 (k' : Int))) _ _ _ _ _ _ _) ?_
      exact OneR.no' HR0 HRr.out HBe.out rfl
    | some t =>
      obtain ⟨b2, rfl, hte, hkt, s2, A, c, t2, o2⟩ := h2
      have HR1 := hide (show res = if fine (l.take (t.end_ - k)) then some t else none by rw [HR.out]; rfl)
      have d1 := Sc.c1 s2
      have c6 := Tb.c6 t2
      have f6 := Tb.f t2 6
      have HB2 := hide (show Below w.heap.size w w2 from HW.out.below.trans (b2.below HW.out.xs HW.out.ts HW.out.base))
      have HK2 := hide (b2.blk HW.out.res HRX.out HRT.out)
      have HT2 := hide t2
      have HO2 := hide o2
      have HOs := hide (show (Value.slice A t.attrs.length c).ownBlock ≠ some w.heap.size from fun e => by have := (o2.lt _ e).1; have := HW.out.size; have := HW.out.ts; omega)
      have HOt := hide (show (Value.slice A t.attrs.length c).ownBlock ≠ some T from fun e => by have := (o2.lt _ e).1; have := HW.out.size; omega)
      have HO3 := hide (o2.mono (base' := w.heap.size) HW.out.base)
      have HTs := hide HW.out.ts
      clear b2 s2 t2 o2 HR HW HO2
      generalize HR0 : w.heap.size = R at *
      have hex : s.extract k t.end_ = bstr (l.take (t.end_ - k)) := by rw [extract_bstr, HL.out]
      obtain ⟨tx, htx⟩ : ∃ tx, l.take (t.end_ - k) = tx := ⟨_, rfl⟩
      rw [htx] at hex HR1
      have HBa := hide (fun W => bad_any (bstr tx) W (by rw [bstr_size, ← htx, List.length_take]; omega))
      rw [bstr_list] at HBa
      have hbf := bad_fine tx
      have Hte := hide hte
      clear htx
      go_wp2_with fail
      have HT3 := hide (Tb.end__ HT2.out t.end_)
      have HK3 := hide (Blk.far HK2.out (p := ⟨T, 6, none⟩) HRT.out (.int .i64 (t.end_ : Int)))
      have HO4 := hide (ownsRow_setCell_other HO3.out (a := ⟨T, 6, none⟩) HOt.out (.int .i64 (t.end_ : Int)))
      have HB3 := hide (HB2.out.setCell (p := ⟨T, 6, none⟩) HTs.out (.int .i64 (t.end_ : Int)))
      clear HT2 HK2 HO3 HB2 d1 c6 f6
      generalize w2.setCell ⟨T, 6, none⟩ (.int .i64 (t.end_ : Int)) = W3 at *
      refine (HBa.out _).mono ?_
      rintro e w4 ⟨rfl, b4⟩
      have HT4 := hide (Blk.go HT3.out b4)
      have HK4 := hide (Blk.go HK3.out b4)
      have HO5 := hide (own_below HO4.out b4)
      have HB4 := hide (HB3.out.trans (b4.mono (by have := HB3.out.size; omega)))
      clear b4 HT3 HK3 HO4 HB3 HBa
      have p0 := Blk.cell HK4.out 0
      have p1 := Blk.cell HK4.out 1
      have p2 := Blk.cell HK4.out 2
      have p3 := Blk.cell HK4.out 3
      have p4 := Blk.cell HK4.out 4
      have p5 := Blk.cell HK4.out 5
      have p6 := Blk.cell HK4.out 6
      have r := fun i => Blk.frozen HK4.out i
      have q0 := Tb.c0 HT4.out
      have q1 := Tb.c1 HT4.out
      have q2 := Tb.c2 HT4.out
      have q3 := Tb.c3 HT4.out
      have q4 := Tb.c4 HT4.out
      have q5 := Tb.c5 HT4.out
      have q6 := Tb.c6 HT4.out
      generalize bad tx = z at *
      cases hf : fine tx with
      | false =>
        rw [hf] at hbf
        have HRr := hide (show res = none by rw [HR1.out, hf]; rfl)
        clear hf HR1
        go_wp2
        refine one_ret rfl rfl rfl (put7_blk HK4.out _ _ _ _ _ _ _) ?_
        exact OneR.no' HR0 HRr.out (below_put7 HB4.out (Nat.le_refl R) _ _ _ _ _ _ _) rfl
      | true =>
        rw [hf] at hbf
        have HRr := hide (show res = some t by rw [HR1.out, hf]; rfl)
        clear hf HR1
        go_wp2
        refine one_ret rfl rfl rfl (put7_blk HK4.out _ _ _ _ _ _ _) ?_
        subst HR0
        exact OneR.yes HRr.out (below_put7 HB4.out (Nat.le_refl _) _ _ _ _ _ _ _) rfl (put7_own HO5.out HOs.out _ _ _ _ _ _ _)
end Go.Proofs.YtbnaphbmmkmaeaaDoor
namespace Go.Proofs.YtbnaphbmmkmaeaaDoor
namespace Utf

theorem cont_zero (l : List UInt8) (r n lo hi : Int) : cont l 0 r n lo hi = (r, n) := by cases l <;> simp [cont]
theorem cont_take : ∀ (l : List UInt8) (k : Nat) (r n lo hi : Int), 0 ≤ (cont l k r n lo hi).1 → ∀ y, cont (l.take k ++ y) k r n lo hi = cont l k r n lo hi
  | l, 0, r, n, lo, hi, _, y => by simp only [cont_zero]
  | [], k + 1, r, n, lo, hi, h, _ => by simp [cont] at h
  | c :: l, k + 1, r, n, lo, hi, h, y => by
    rw [List.take_succ_cons, List.cons_append]
    simp only [cont] at h ⊢
    split
    · rfl
    · rename_i hb; rw [if_neg hb] at h; exact cont_take l k _ _ _ _ h y
theorem follow_nonneg (c : UInt8) : 0 ≤ (follow c.toNat).2.1 := by
  have hb := byte_lt c
  have := follow_cases c.toNat (by omega) (by omega)
  omega
/-- A right piece is told by its own bytes. -/
theorem piece_take {l : List UInt8} (h : 0 ≤ (piece l).1) (y : List UInt8) : piece (l.take (piece l).2.toNat ++ y) = piece l := by
  cases l with
  | nil => simp [piece] at h
  | cons c l =>
    have hb := follow_nonneg c
    rw [piece_cons] at h ⊢
    by_cases hn : (follow c.toNat).1 < 0
    · rw [if_pos hn] at h; simp at h
    rw [if_neg hn] at h ⊢
    have h2 := cont_neg l (follow c.toNat).1.toNat (follow c.toNat).2.1 1 (follow c.toNat).2.2.1 (follow c.toNat).2.2.2 hb
    rcases h2 with h2 | ⟨_, h2⟩
    · omega
    have e : (cont l (follow c.toNat).1.toNat (follow c.toNat).2.1 1 (follow c.toNat).2.2.1 (follow c.toNat).2.2.2).2.toNat = (follow c.toNat).1.toNat + 1 := by rw [h2]; omega
    rw [e, List.take_succ_cons, List.cons_append, piece_cons, if_neg hn]
    exact cont_take _ _ _ _ _ _ h y
theorem piece_app {p : List UInt8} (h : 0 ≤ (piece p).1) (q : List UInt8) : piece (p ++ q) = piece p := by
  have := piece_take h (p.drop (piece p).2.toNat ++ q)
  rwa [← List.append_assoc, List.take_append_drop] at this
/-- An ASCII byte is a piece of its own. -/
theorem piece_ascii {c : UInt8} (h : c.toNat < 128) (l : List UInt8) : piece (c :: l) = ((c.toNat : Int), 1) := by
  have e : follow (c.toNat : Int) = (0, (c.toNat : Int), 128, 191) := by unfold follow; rw [if_pos (by omega)]
  rw [piece_cons, e]
  simp [cont_zero]
theorem piece_n (c : UInt8) (l : List UInt8) : 1 ≤ (piece (c :: l)).2.toNat ∧ (piece (c :: l)).2.toNat ≤ (c :: l).length := by
  have := piece_len c l
  omega
theorem valid_step {c : UInt8} {l : List UInt8} (h : valid (c :: l) = true) : 0 ≤ (piece (c :: l)).1 ∧ valid ((c :: l).drop (piece (c :: l)).2.toNat) = true := by
  rw [valid_cons] at h
  split at h
  · cases h
  · exact ⟨by omega, h⟩
theorem app_step {c : UInt8} {l : List UInt8} (h : 0 ≤ (piece (c :: l)).1) (q : List UInt8) : (c :: l ++ q).drop (piece (c :: l ++ q)).2.toNat = (c :: l).drop (piece (c :: l)).2.toNat ++ q := by
  rw [piece_app h, List.drop_append_of_le_length (piece_n c l).2]
theorem from_app_n : ∀ (k : Nat) (p q : List UInt8) (at_ : Nat), p.length ≤ k → valid p = true → from_ at_ (p ++ q) = from_ at_ p ++ from_ (at_ + p.length) q := by
  intro k
  induction k with
  | zero => intro p q at_ hk _; cases p with
    | nil => simp [from_nil]
    | cons c l => simp at hk
  | succ k ih =>
    intro p q at_ hk hv
    cases p with
    | nil => simp [from_nil]
    | cons c l =>
      obtain ⟨h1, h2⟩ := valid_step hv
      have hn := piece_n c l
      rw [List.cons_append, from_cons, from_cons, ← List.cons_append, app_step h1, piece_app h1, ih _ q _ (by rw [List.length_drop]; omega) h2, List.cons_append, List.length_drop]
      generalize (piece (c :: l)).2.toNat = m at *
      rw [show at_ + m + ((c :: l).length - m) = at_ + (c :: l).length by omega]
theorem from_app {p : List UInt8} (h : valid p = true) (q : List UInt8) (at_ : Nat) : from_ at_ (p ++ q) = from_ at_ p ++ from_ (at_ + p.length) q := from_app_n _ p q at_ (Nat.le_refl _) h
theorem valid_app_n : ∀ (k : Nat) (p q : List UInt8), p.length ≤ k → valid p = true → valid (p ++ q) = valid q := by
  intro k
  induction k with
  | zero => intro p q hk _; cases p with
    | nil => rfl
    | cons c l => simp at hk
  | succ k ih =>
    intro p q hk hv
    cases p with
    | nil => rfl
    | cons c l =>
      obtain ⟨h1, h2⟩ := valid_step hv
      have hn := piece_n c l
      rw [List.cons_append, valid_cons, ← List.cons_append, piece_app h1, if_neg (by omega)]
      have := app_step h1 q
      rw [piece_app h1] at this
      rw [this, ih _ q (by rw [List.length_drop]; omega) h2]
theorem valid_app {p : List UInt8} (h : valid p = true) (q : List UInt8) : valid (p ++ q) = valid q := valid_app_n _ p q (Nat.le_refl _) h
/-- The bytes behind the first of a right piece are none of ASCII. -/
theorem cont_high : ∀ (l : List UInt8) (k : Nat) (r n lo hi : Int), 128 ≤ lo → 0 ≤ (cont l k r n lo hi).1 → ∀ i, i < k → ∃ c, l[i]? = some c ∧ 128 ≤ c.toNat
  | l, 0, _, _, _, _, _, _, i, hi' => by omega
  | [], k + 1, _, _, _, _, _, h, _, _ => by simp [cont] at h
  | c :: l, k + 1, r, n, lo, hi, hlo, h, i, hi' => by
    simp only [cont] at h
    split at h
    · simp at h
    · rename_i hb
      cases i with
      | zero => exact ⟨c, rfl, by omega⟩
      | succ i =>
        obtain ⟨d, h1, h2⟩ := cont_high l k _ _ 128 191 (by omega) h i (by omega)
        exact ⟨d, by simpa using h1, h2⟩
theorem piece_high {l : List UInt8} (h : 0 ≤ (piece l).1) (i : Nat) (h1 : 0 < i) (h2 : i < (piece l).2.toNat) : ∃ c, l[i]? = some c ∧ 128 ≤ c.toNat := by
  cases l with
  | nil => simp [piece] at h
  | cons c l =>
    have hb := byte_lt c
    have hc := follow_cases c.toNat (by omega) (by omega)
    rw [piece_cons] at h h2
    by_cases hn : (follow c.toNat).1 < 0
    · rw [if_pos hn] at h; simp at h
    rw [if_neg hn] at h h2
    have h3 := cont_neg l (follow c.toNat).1.toNat (follow c.toNat).2.1 1 (follow c.toNat).2.2.1 (follow c.toNat).2.2.2 (follow_nonneg c)
    rcases h3 with h3 | ⟨_, h3⟩
    · omega
    rw [h3] at h2
    cases i with
    | zero => omega
    | succ i =>
      obtain ⟨d, e1, e2⟩ := cont_high l _ _ _ _ _ (by
        rcases hc with hc | hc | hc | hc | hc
        · have e : follow (c.toNat : Int) = (0, (c.toNat : Int), 128, 191) := by unfold follow; rw [if_pos hc.2.2]
          rw [e]
          exact Int.le_refl 128
        all_goals omega) h i (by omega)
      exact ⟨d, by simpa using e1, e2⟩
/-- A right text that holds an ASCII byte is right ahead of it, and from it on. -/
theorem valid_split_n : ∀ (k : Nat) (p : List UInt8) (c : UInt8) (q : List UInt8), p.length ≤ k → c.toNat < 128 → valid (p ++ c :: q) = true → valid p = true := by
  intro k
  induction k with
  | zero => intro p c q hk _ _; cases p with
    | nil => rfl
    | cons d l => simp at hk
  | succ k ih =>
    intro p c q hk hc hv
    cases p with
    | nil => rfl
    | cons d l =>
      obtain ⟨h1, h2⟩ := valid_step (c := d) (l := l ++ c :: q) hv
      have hn := piece_n d (l ++ c :: q)
      have hle : (piece (d :: (l ++ c :: q))).2.toNat ≤ (d :: l).length := by
        apply Nat.le_of_not_lt
        intro hlt
        obtain ⟨e, e1, e2⟩ := piece_high h1 (d :: l).length (by simp) hlt
        rw [← List.cons_append, List.getElem?_append_right (Nat.le_refl _), Nat.sub_self] at e1
        simp only [List.getElem?_cons_zero, Option.some.injEq] at e1
        subst e1
        omega
      have h3 := piece_take h1 ((d :: l).drop (piece (d :: (l ++ c :: q))).2.toNat)
      rw [← List.cons_append, List.take_append_of_le_length (by rw [List.cons_append]; exact hle), List.cons_append, List.take_append_drop] at h3
      rw [valid_cons, h3, if_neg (by omega)]
      rw [← List.cons_append, List.drop_append_of_le_length (by rw [List.cons_append]; exact hle), List.cons_append] at h2
      exact ih _ c q (by rw [List.length_drop]; omega) hc h2
theorem valid_split {p : List UInt8} {c : UInt8} {q : List UInt8} (hc : c.toNat < 128) (hv : valid (p ++ c :: q) = true) : valid p = true := valid_split_n _ p c q (Nat.le_refl _) hc hv
theorem valid_ascii {c : UInt8} (hc : c.toNat < 128) (q : List UInt8) : valid (c :: q) = valid q := by
  rw [valid_cons, piece_ascii hc, if_neg (by simp)]
  rfl
theorem valid_behind {p : List UInt8} {c : UInt8} {q : List UInt8} (hc : c.toNat < 128) (hv : valid (p ++ c :: q) = true) : valid q = true := by
  rw [valid_app (valid_split hc hv), valid_ascii hc] at hv
  exact hv
theorem from_ascii {c : UInt8} (hc : c.toNat < 128) (q : List UInt8) (at_ : Nat) : from_ at_ (c :: q) = (at_, (c.toNat : Int)) :: from_ (at_ + 1) q := by
  rw [from_cons, piece_ascii hc]
  rfl
/-- Where the first piece stands that is not as asked: all ahead of it is right. -/
theorem stop_split {ok : Nat → Int → Bool} (hok : ∀ k r, r < 0 → ok k r = false) : ∀ (k : Nat) (l : List UInt8) (at_ : Nat), l.length ≤ k → ∃ n, ((((from_ at_ l).find? fun p => !ok p.1 p.2).map (·.1)).getD (at_ + l.length)) = at_ + n ∧ n ≤ l.length ∧
    valid (l.take n) = true ∧ (∀ p ∈ from_ at_ (l.take n), ok p.1 p.2 = true) ∧ (n < l.length → ok (at_ + n) (piece (l.drop n)).1 = false) := by
  intro k
  induction k with
  | zero => intro l at_ hk; cases l with
    | nil => exact ⟨0, rfl, Nat.le_refl _, rfl, (fun p hp => nomatch hp), (fun h => nomatch h)⟩
    | cons c l => simp at hk
  | succ k ih =>
    intro l at_ hk
    cases l with
    | nil => exact ⟨0, rfl, Nat.le_refl _, rfl, (fun p hp => nomatch hp), (fun h => nomatch h)⟩
    | cons c l =>
      have hn := piece_n c l
      rw [from_cons, List.find?_cons]
      dsimp only
      cases ho : ok at_ (piece (c :: l)).1 with
      | false => exact ⟨0, rfl, by simp, rfl, (fun p hp => nomatch hp), (fun _ => by simpa using ho)⟩
      | true =>
        have h0 : 0 ≤ (piece (c :: l)).1 := Int.not_lt.1 fun h => by rw [hok _ _ h] at ho; cases ho
        obtain ⟨n, h1, h2, h3, h4, h5⟩ := ih ((c :: l).drop (piece (c :: l)).2.toNat) (at_ + (piece (c :: l)).2.toNat) (by rw [List.length_drop]; omega)
        generalize hm : (piece (c :: l)).2.toNat = m at *
        rw [List.length_drop] at h1 h2 h5
        have e : at_ + m + ((c :: l).length - m) = at_ + (c :: l).length := by omega
        rw [e] at h1
        have ht : (c :: l).take (m + n) = (c :: l).take m ++ ((c :: l).drop m).take n := List.take_add
        have hp := piece_take h0 []
        rw [hm, List.append_nil] at hp
        obtain ⟨m', rfl⟩ : ∃ m', m = m' + 1 := ⟨m - 1, by omega⟩
        have hv1 : valid ((c :: l).take (m' + 1)) = true := by
          rw [List.take_succ_cons] at hp ⊢
          rw [valid_cons, hp, if_neg (by omega), hm, List.drop_of_length_le (by simp; omega)]
          rfl
        refine ⟨m' + 1 + n, by simp only [Bool.not_true]; rw [h1]; omega, by omega, ?_, ?_, ?_⟩
        · rw [ht, valid_app hv1, h3]
        · rw [ht, from_app hv1]
          intro p hp'
          rcases List.mem_append.1 hp' with hp' | hp'
          · rw [List.take_succ_cons] at hp hp'
            rw [from_cons, hp, hm, List.drop_of_length_le (by simp; omega), from_nil] at hp'
            simp only [List.mem_singleton] at hp'
            have e1 : p.1 = at_ := by rw [hp']
            have e2 : p.2 = (piece (c :: l)).1 := by rw [hp']
            rw [e1, e2]
            exact ho
          · rw [List.length_take, Nat.min_eq_left hn.2] at hp'
            exact h4 p hp'
        · intro hlt
          have := h5 (by omega)
          rwa [List.drop_drop, Nat.add_assoc] at this
theorem from_shift_n : ∀ (k : Nat) (l : List UInt8) (at_ d : Nat), l.length ≤ k → from_ (at_ + d) l = (from_ at_ l).map fun p => (p.1 + d, p.2) := by
  intro k
  induction k with
  | zero => intro l at_ d hk; cases l with
    | nil => rfl
    | cons c l => simp at hk
  | succ k ih =>
    intro l at_ d hk
    cases l with
    | nil => rfl
    | cons c l =>
      have hn := piece_n c l
      rw [from_cons, from_cons, List.map_cons, ← ih _ _ _ (by rw [List.length_drop]; omega), Nat.add_right_comm]
theorem from_shift (l : List UInt8) (at_ d : Nat) : from_ (at_ + d) l = (from_ at_ l).map fun p => (p.1 + d, p.2) := from_shift_n _ l at_ d (Nat.le_refl _)
end Utf
namespace Tk
/-- A name, whole. -/
def Name (p : L) : Prop := Utf.valid p = true ∧ ∀ q ∈ Utf.from_ 0 p, nameOk q.1 q.2 = true
theorem within_neg {r a b : Int} (h : r < 0) (ha : 0 ≤ a) : within r a b = false := by
  unfold within
  rw [decide_eq_false (by omega)]
  rfl
theorem firstOk_neg' {r : Int} (h : r < 0) : firstOk r = false := by
  unfold firstOk
  simp only [within_neg h (by decide : (0 : Int) ≤ 97), within_neg h (by decide : (0 : Int) ≤ 65), within_neg h (by decide : (0 : Int) ≤ 95), within_neg h (by decide : (0 : Int) ≤ 192), within_neg h (by decide : (0 : Int) ≤ 216), within_neg h (by decide : (0 : Int) ≤ 248), within_neg h (by decide : (0 : Int) ≤ 880), within_neg h (by decide : (0 : Int) ≤ 895), within_neg h (by decide : (0 : Int) ≤ 8204), within_neg h (by decide : (0 : Int) ≤ 8304), within_neg h (by decide : (0 : Int) ≤ 11264), within_neg h (by decide : (0 : Int) ≤ 12289), within_neg h (by decide : (0 : Int) ≤ 63744), within_neg h (by decide : (0 : Int) ≤ 65008), within_neg h (by decide : (0 : Int) ≤ 65536)]
  rfl
theorem nameOk_neg' (k : Nat) (r : Int) (h : r < 0) : nameOk k r = false := by
  unfold nameOk furtherOk
  rw [firstOk_neg' h]
  simp only [within_neg h (by decide : (0 : Int) ≤ 45), within_neg h (by decide : (0 : Int) ≤ 48), within_neg h (by decide : (0 : Int) ≤ 183), within_neg h (by decide : (0 : Int) ≤ 768), within_neg h (by decide : (0 : Int) ≤ 8255), decide_eq_false (show ¬ r = 58 by omega)]
  simp
theorem charOk_neg' (r : Int) (h : r < 0) : charOk r = false := by
  unfold charOk
  simp only [within_neg h (by decide : (0 : Int) ≤ 9), within_neg h (by decide : (0 : Int) ≤ 13), within_neg h (by decide : (0 : Int) ≤ 32), within_neg h (by decide : (0 : Int) ≤ 57344), within_neg h (by decide : (0 : Int) ≤ 65536)]
  rfl
/-- What stands at the front is a name, and ends where no more can follow. -/
theorem take_spec (l : L) : take l ≤ l.length ∧ Name (l.take (take l)) ∧ (take l < l.length → nameOk (take l) (Utf.piece (l.drop (take l))).1 = false) := by
  obtain ⟨n, h1, h2, h3, h4, h5⟩ := Utf.stop_split nameOk_neg' l.length l 0 (Nat.le_refl _)
  have e : take l = n := by
    unfold take stop
    rw [Nat.zero_add, Nat.zero_add] at h1
    exact h1
  rw [e]
  rw [Nat.zero_add] at h5
  exact ⟨h2, ⟨h3, h4⟩, h5⟩
theorem take_of {p q : L} (h : Name p) (hq : q = [] ∨ nameOk p.length (Utf.piece q).1 = false) : take (p ++ q) = p.length := by
  unfold take stop
  have e : Utf.pieces (p ++ q) = Utf.from_ 0 p ++ Utf.from_ (0 + p.length) q := Utf.from_app h.1 q 0
  have hn : (Utf.from_ 0 p).find? (fun p => !nameOk p.1 p.2) = none := List.find?_eq_none.2 fun x hx => by rw [h.2 x hx]; simp
  rw [e, List.find?_append, hn, Option.none_or, Nat.zero_add]
  rcases hq with rfl | hq
  · simp [Utf.from_nil]
  · cases q with
    | nil => simp [Utf.from_nil]
    | cons c q =>
      rw [Utf.from_cons, List.find?_cons]
      dsimp only
      rw [hq]
      rfl
/-- A name's end is told by the byte that stands there, if that is one of ASCII. -/
theorem take_ascii {a r r' : L} {c : UInt8} (h : take (a ++ r) < a.length) (hc : a[take (a ++ r)]? = some c) (h7 : c.toNat < 128) : take (a ++ r') = take (a ++ r) := by
  obtain ⟨h1, h2, h3⟩ := take_spec (a ++ r)
  generalize take (a ++ r) = n at *
  have e : a = a.take n ++ c :: a.drop (n + 1) := by
    obtain ⟨_, e2⟩ := List.getElem?_eq_some_iff.1 hc
    rw [← e2, ← List.drop_eq_getElem_cons, List.take_append_drop]
  have hl : (a.take n).length = n := by rw [List.length_take]; omega
  rw [List.take_append_of_le_length (by omega)] at h2
  have h4 := h3 (by rw [List.length_append]; omega)
  rw [List.drop_append_of_le_length (by omega)] at h4
  have e3 : a.drop n = c :: a.drop (n + 1) := by
    obtain ⟨_, e2⟩ := List.getElem?_eq_some_iff.1 hc
    rw [← e2, ← List.drop_eq_getElem_cons]
  rw [e3, List.cons_append, Utf.piece_ascii h7] at h4
  have := take_of (p := a.take n) (q := c :: (a.drop (n + 1) ++ r')) h2 (.inr (by rw [Utf.piece_ascii h7, hl]; exact h4))
  rw [hl] at this
  rw [← this]
  conv => lhs; rw [e]
  simp
theorem nsp_app {a r r' : L} (h : nsp (a ++ r) < a.length) : nsp (a ++ r') = nsp (a ++ r) := by
  unfold nsp at *
  rw [List.takeWhile_append] at h ⊢
  rw [List.takeWhile_append]
  split at h
  · rw [List.length_append] at h; omega
  · rename_i hn
    rw [if_neg hn, if_neg hn]
theorem pfx_app {p a r : L} (h : p.length ≤ a.length) : p.isPrefixOf (a ++ r) = p.isPrefixOf a := by
  rw [Bool.eq_iff_iff, List.isPrefixOf_iff_prefix, List.isPrefixOf_iff_prefix]
  exact ⟨fun hp => List.prefix_of_prefix_length_le hp (List.prefix_append _ _) h, fun hp => hp.trans (List.prefix_append _ _)⟩
theorem index_first' {s p : L} {n : Nat} (h : Lib.index s p = n) : Lib.occAt s p n = true ∧ n ≤ s.length ∧ ∀ j, j < n → Lib.occAt s p j = false := by
  induction s generalizing n with
  | nil =>
    unfold Lib.index at h
    split at h
    · rename_i he
      have : n = 0 := by omega
      subst this
      refine ⟨?_, Nat.le_refl _, fun j hj => by omega⟩
      cases p with
      | nil => rfl
      | cons a t => cases he
    · omega
  | cons b l ih =>
    unfold Lib.index at h
    split at h
    · rename_i he
      have : n = 0 := by omega
      subst this
      exact ⟨by simpa [Lib.occAt] using he, by simp, fun j hj => by omega⟩
    · rename_i he
      split at h
      · omega
      · rename_i he2
        have he2 : Lib.index l p ≠ -1 := by simpa using he2
        have hg := Lib.index_ge l p
        obtain ⟨n', rfl⟩ : ∃ n', n = n' + 1 := ⟨n - 1, by omega⟩
        obtain ⟨h1, h2, h3⟩ := ih (n := n') (by omega)
        refine ⟨by simpa [Lib.occAt] using h1, by simpa using h2, fun j hj => ?_⟩
        cases j with
        | zero => exact Bool.eq_false_iff.2 he
        | succ j => simpa [Lib.occAt] using h3 j (by omega)
theorem till_iff {p l : L} {n : Nat} : till p l = some n ↔ Lib.index l p = n := by
  unfold till
  constructor
  · intro h
    split at h
    · cases h
    · rename_i hn
      have := Option.some.inj h
      omega
  · intro h
    rw [if_neg (by omega), h]
    simp
theorem occ_app {p a r : L} {i : Nat} (h : i + p.length ≤ a.length) : Lib.occAt (a ++ r) p i = Lib.occAt a p i := by
  unfold Lib.occAt
  rw [List.drop_append_of_le_length (by omega), pfx_app (by rw [List.length_drop]; omega)]
theorem till_app {p a r r' : L} {n : Nat} (h : till p (a ++ r) = some n) (hn : n + p.length ≤ a.length) : till p (a ++ r') = some n := by
  rw [till_iff] at h ⊢
  obtain ⟨h1, h2, h3⟩ := index_first' h
  refine Lib.index_first (by rw [List.length_append]; omega) ?_ fun j hj => ?_
  · rw [occ_app hn] at h1 ⊢; exact h1
  · have := h3 j hj
    rw [occ_app (by omega)] at this ⊢
    exact this
theorem till_len {p l : L} {n : Nat} (h : till p l = some n) : n + p.length ≤ l.length := by
  rw [till_iff] at h
  obtain ⟨h1, h2, h3⟩ := index_first' h
  rcases Lib.occAt_room h1 with h4 | rfl
  · exact h4
  · simpa using h2
end Tk
end Go.Proofs.YtbnaphbmmkmaeaaDoor
