/- Tokens: words for one: which reading a piece calls, and whether it is of Chars alone. · The document's Char and Bad. (Printed by wip/genTkZb.py.) · The document's First and Further: what may stand in a name. (Printed by wip/genTkDh.py.) · The document's Take: how many bytes a name at the front has. · The document's xml: is a name xml, in any case? (Printed by wip/genTkDj.py.) -/
import Derived.Test.YtbnaphbmmkmaeaaGreatDoorTz02
import Derived.Test.YtbnaphbmmkmaeaaGreatDoorTz04
import Derived.Test.YtbnaphbmmkmaeaaGreatDoorTz08
import Derived.Test.YtbnaphbmmkmaeaaGreatDoorTz15
import Derived.Deep.Onto
set_option linter.unusedSimpArgs false
set_option linter.unusedVariables false
namespace Go.Proofs.YtbnaphbmmkmaeaaGreatDoor
open Go.RowKit Tk

theorem bad_fine (l : L) : decide (0 ≤ bad l) = !fine l := by
  unfold bad fine stop
  cases h : (Utf.pieces l).find? (fun p => !charOk p.2) with
  | none =>
    have : (Utf.pieces l).all (fun p => charOk p.2) = true := List.all_eq_true.2 fun p hp => by
      have := List.find?_eq_none.1 h p hp
      simpa using this
    simp [this]
  | some p =>
    have h1 := List.find?_some h
    have h2 := List.mem_of_find?_eq_some h
    have : (Utf.pieces l).all (fun p => charOk p.2) = false := by
      rw [Bool.eq_false_iff]
      intro ha
      have := List.all_eq_true.1 ha p h2
      rw [this] at h1
      cases h1
    simp [this]
def tokCells (t : Tok) (v : Value) (e : Nat) : List Value := [.int .i8 t.kind, .string (bstr t.name), v, .bool t.empty, .string (bstr t.text), .int .i64 (t.at_ : Int), .int .i64 (e : Int)]
def zeroTok : List Value := [.int .i8 0, .string ⟨#[]⟩, .slice none 0 0, .bool false, .string ⟨#[]⟩, .int .i64 0, .int .i64 0]
/-- What one leaves. -/
def OneR (w : World) (o : Option Tok) (e : Ending) (w' : World) : Prop :=
  Below w.heap.size w w' ∧ match o with
    | none => e = .returned (.tuple #[.agg zeroTok.toArray, .bool false])
    | some t => ∃ A c, e = .returned (.tuple #[.agg (tokCells t (.slice A t.attrs.length c) t.end_).toArray, .bool true]) ∧ w'.ownsRow w.heap.size 58 3 (.slice A t.attrs.length c) t.attrs.length (attrVs t.attrs)
theorem OneR.no {w : World} {o : Option Tok} {e : Ending} {w' : World} (ho : o = none) (hb : Below w.heap.size w w') (he : e = .returned (.tuple #[.agg zeroTok.toArray, .bool false])) : OneR w o e w' := by subst ho; exact ⟨hb, he⟩
theorem OneR.no' {R : Nat} {w : World} {o : Option Tok} {e : Ending} {w' : World} (hR : w.heap.size = R) (ho : o = none) (hb : Below R w w') (he : e = .returned (.tuple #[.agg zeroTok.toArray, .bool false])) : OneR w o e w' := by subst hR; exact OneR.no ho hb he
theorem OneR.yes {w : World} {o : Option Tok} {t : Tok} {e : Ending} {w' : World} {A : Option Addr} {c : Nat} (ho : o = some t) (hb : Below w.heap.size w w') (he : e = .returned (.tuple #[.agg (tokCells t (.slice A t.attrs.length c) t.end_).toArray, .bool true]))
    (hr : w'.ownsRow w.heap.size 58 3 (.slice A t.attrs.length c) t.attrs.length (attrVs t.attrs)) : OneR w o e w' := by subst ho; exact ⟨hb, A, c, he, hr⟩
/-- The function that reads the piece. -/
def fnOf (l : L) : Nat := if ([60, 47] : L).isPrefixOf l then 47 else if ([60, 33] : L).isPrefixOf l || ([60, 63] : L).isPrefixOf l then 48 else if ([60] : L).isPrefixOf l then 46 else 49
theorem kind_cases (l : L) : (kindOf l = 0 ∧ fnOf l = 46) ∨ (kindOf l = 1 ∧ fnOf l = 47) ∨ (kindOf l = 2 ∧ fnOf l = 48) ∨ (kindOf l = 3 ∧ fnOf l = 49) := by
  unfold kindOf fnOf
  cases ([60, 47] : L).isPrefixOf l <;> cases (([60, 33] : L).isPrefixOf l || ([60, 63] : L).isPrefixOf l) <;> cases ([60] : L).isPrefixOf l <;> simp
theorem piece_call (w : World) (X T : Nat) (s : ByteArray) (k : Nat) (hX : Sc w X s k) (hT : T0 w T k) (hne : X ≠ T) (hX6 : 6 ≤ X) (hT6 : 6 ≤ T) (hg : Gl w) (hk : k < s.size) (hs : s.size ≤ 1000000000) :
    Calls Tryz.prog (fnOf (s.data.toList.drop k)) #[.pointer (some ⟨X, 0, none⟩), .pointer (some ⟨T, 0, none⟩)] w (PieceR w w.heap.size X T s k (Tk.piece k (s.data.toList.drop k))) := by
  unfold fnOf Tk.piece
  split
  · rename_i hp
    have := pfx_len hp
    rw [List.length_drop, size_list] at this
    exact end_any w _ X T s k hX hT hne (by have e : ([60, 47] : L).length = 2 := rfl; omega) hs
  split
  · exact skip_any w _ X T s k hX hT hne hX6 hT6 hg (by omega) hs
  split
  · exact start_any w _ X T s k hX hT hne hX6 hT6 hg rfl hk hs
  · rename_i hp
    exact text_any w _ X T s k hX hT hne hX6 hT6 hg hk hs (Bool.eq_false_iff.2 hp)
/-- The world in which the piece is read: the result, the readings, the text and the token. -/
def oneW (w : World) (s : ByteArray) (k : Nat) : World :=
  (((w.alloc (.cells #[.int .i8 0, .string ⟨#[]⟩, .slice none 0 0, .bool false, .string ⟨#[]⟩, .int .i64 0, .int .i64 0] 29)).alloc
    (.cells #[.func (.func 46) #[] #[], .func (.func 47) #[] #[], .func (.func 48) #[] #[], .func (.func 49) #[] #[]] 86)).alloc
    (.cells #[.string s, .int .i64 (k : Int)] 88)).alloc (.cells #[.int .i8 0, .string ⟨#[]⟩, .slice none 0 0, .bool false, .string ⟨#[]⟩, .int .i64 (k : Int), .int .i64 0] 29)
structure OneW (w C : World) (s : ByteArray) (k R Y X T : Nat) : Prop where
  res : Blk C R 29 #[.int .i8 0, .string ⟨#[]⟩, .slice none 0 0, .bool false, .string ⟨#[]⟩, .int .i64 0, .int .i64 0]
  fns : Blk C Y 86 #[.func (.func 46) #[] #[], .func (.func 47) #[] #[], .func (.func 48) #[] #[], .func (.func 49) #[] #[]]
  sc : Sc C X s k
  tok : T0 C T k
  below : Below w.heap.size w C
  size : T < C.heap.size
  base : w.heap.size ≤ C.heap.size
  rX : R ≠ X
  rT : R ≠ T
  xT : X ≠ T
  xs : w.heap.size ≤ X
  ts : w.heap.size ≤ T
  rs : w.heap.size ≤ R
theorem oneW_is (w : World) (s : ByteArray) (k : Nat) : OneW w (oneW w s k) s k w.heap.size (w.heap.size + 1) (w.heap.size + 1 + 1) (w.heap.size + 1 + 1 + 1) := by
  have b0 := Blk.new w 29 #[.int .i8 0, .string ⟨#[]⟩, .slice none 0 0, .bool false, .string ⟨#[]⟩, .int .i64 0, .int .i64 0]
  have b1 := Blk.new (w.alloc (.cells #[.int .i8 0, .string ⟨#[]⟩, .slice none 0 0, .bool false, .string ⟨#[]⟩, .int .i64 0, .int .i64 0] 29)) 86 #[.func (.func 46) #[] #[], .func (.func 47) #[] #[], .func (.func 48) #[] #[], .func (.func 49) #[] #[]]
  rw [World.size_alloc] at b1
  have b2 := Blk.new ((w.alloc (.cells #[.int .i8 0, .string ⟨#[]⟩, .slice none 0 0, .bool false, .string ⟨#[]⟩, .int .i64 0, .int .i64 0] 29)).alloc (.cells #[.func (.func 46) #[] #[], .func (.func 47) #[] #[], .func (.func 48) #[] #[], .func (.func 49) #[] #[]] 86)) 88 #[.string s, .int .i64 (k : Int)]
  rw [World.size_alloc, World.size_alloc] at b2
  have b3 := Blk.new (((w.alloc (.cells #[.int .i8 0, .string ⟨#[]⟩, .slice none 0 0, .bool false, .string ⟨#[]⟩, .int .i64 0, .int .i64 0] 29)).alloc (.cells #[.func (.func 46) #[] #[], .func (.func 47) #[] #[], .func (.func 48) #[] #[], .func (.func 49) #[] #[]] 86)).alloc (.cells #[.string s, .int .i64 (k : Int)] 88)) 29 #[.int .i8 0, .string ⟨#[]⟩, .slice none 0 0, .bool false, .string ⟨#[]⟩, .int .i64 (k : Int), .int .i64 0]
  rw [World.size_alloc, World.size_alloc, World.size_alloc] at b3
  refine ⟨((b0.alloc _).alloc _).alloc _, (b1.alloc _).alloc _, b2.alloc _, b3, ?_, b3.lt, ?_, by omega, by omega, by omega, by omega, by omega, by omega⟩
  · exact (((((Below.refl _ w).alloc (Nat.le_refl _) _).alloc (by simp) _).alloc (by simp; omega) _).alloc (by simp; omega) _)
  · have := b3.lt
    unfold oneW
    omega
/-- Seven cells stored, one by one. -/
def put7 (w : World) (X : Nat) (v0 v1 v2 v3 v4 v5 v6 : Value) : World := (((((((w.setCell ⟨X, 0, none⟩ v0).setCell ⟨X, 1, none⟩ v1).setCell ⟨X, 2, none⟩ v2).setCell ⟨X, 3, none⟩ v3).setCell ⟨X, 4, none⟩ v4).setCell ⟨X, 5, none⟩ v5).setCell ⟨X, 6, none⟩ v6)
theorem below_put7 {B X : Nat} {w w1 : World} (h : Below B w w1) (hX : B ≤ X) (v0 v1 v2 v3 v4 v5 v6 : Value) : Below B w (put7 w1 X v0 v1 v2 v3 v4 v5 v6) :=
  ((((((h.setCell (p := ⟨X, 0, none⟩) hX v0).setCell (p := ⟨X, 1, none⟩) hX v1).setCell (p := ⟨X, 2, none⟩) hX v2).setCell (p := ⟨X, 3, none⟩) hX v3).setCell (p := ⟨X, 4, none⟩) hX v4).setCell (p := ⟨X, 5, none⟩) hX v5).setCell (p := ⟨X, 6, none⟩) hX v6
theorem put7_blk {w : World} {X t : Nat} {u0 u1 u2 u3 u4 u5 u6 : Value} (h : Blk w X t #[u0, u1, u2, u3, u4, u5, u6]) (v0 v1 v2 v3 v4 v5 v6 : Value) : Blk (put7 w X v0 v1 v2 v3 v4 v5 v6) X t #[v0, v1, v2, v3, v4, v5, v6] := by
  have := ((((((h.set_ 0 v0).set_ 1 v1).set_ 2 v2).set_ 3 v3).set_ 4 v4).set_ 5 v5).set_ 6 v6
  simpa [Go.Proofs.YtbnaphbmmkmaeaaGreatDoor.put7] using this
theorem put7_own {w : World} {base e size n X : Nat} {v : Value} {xs : List Value} (h : w.ownsRow base e size v n xs) (hX : v.ownBlock ≠ some X) (v0 v1 v2 v3 v4 v5 v6 : Value) : (put7 w X v0 v1 v2 v3 v4 v5 v6).ownsRow base e size v n xs :=
  ownsRow_setCell_other (ownsRow_setCell_other (ownsRow_setCell_other (ownsRow_setCell_other (ownsRow_setCell_other (ownsRow_setCell_other (ownsRow_setCell_other h (a := ⟨X, 0, none⟩) hX _) (a := ⟨X, 1, none⟩) hX _) (a := ⟨X, 2, none⟩) hX _) (a := ⟨X, 3, none⟩) hX _) (a := ⟨X, 4, none⟩) hX _) (a := ⟨X, 5, none⟩) hX _) (a := ⟨X, 6, none⟩) hX _
theorem one_ret {Q : Ending → World → Prop} {a : Act} {W : World} {R : Nat} {v0 v1 v2 v3 v4 v5 v6 : Value} {b : Bool} (ha : a.tmps.getD 4 undef = .pointer (some ⟨R, 0, none⟩)) (h5 : a.tmps.getD 5 undef = .bool b) (hd : a.defers = []) (hK : Blk W R 29 #[v0, v1, v2, v3, v4, v5, v6])
    (hQ : Q (.returned (.tuple #[.agg #[v0, v1, v2, v3, v4, v5, v6], .bool b])) W) : bodyPost Tryz.prog Tryz.f28 Q .ret a W := by
  have p0 : W.cell? ⟨R, 0, none⟩ = some v0 := hK.cell 0
  have p1 : W.cell? ⟨R, 1, none⟩ = some v1 := hK.cell 1
  have p2 : W.cell? ⟨R, 2, none⟩ = some v2 := hK.cell 2
  have p3 : W.cell? ⟨R, 3, none⟩ = some v3 := hK.cell 3
  have p4 : W.cell? ⟨R, 4, none⟩ = some v4 := hK.cell 4
  have p5 : W.cell? ⟨R, 5, none⟩ = some v5 := hK.cell 5
  have p6 : W.cell? ⟨R, 6, none⟩ = some v6 := hK.cell 6
  refine bodyPost_ret (v := .tuple #[.agg #[v0, v1, v2, v3, v4, v5, v6], .bool b]) ?_ hd hQ
  obtain ⟨tm, df⟩ := a
  dsimp only at ha h5 ⊢
  have ha' : tm[4]?.getD undef = .pointer (some ⟨R, 0, none⟩) := by simpa using ha
  have hb' : tm[5]?.getD undef = .bool b := by simpa using h5
  simp [results, Tryz.results28, go_sem, p0, p1, p2, p3, p4, p5, p6, ha', hb']
theorem own_below {w w' : World} {base e size n : Nat} {v : Value} {xs : List Value} (h : w.ownsRow base e size v n xs) (hb : Below w.heap.size w w') : w'.ownsRow base e size v n xs :=
  h.kept (row := some w.heap.size) ⟨hb.os, hb.tape, hb.output, hb.size, fun i hi _ => hb.block i hi⟩ (.inr fun e => by have := (h.lt _ e).2; omega)
theorem But2.blk {X T g t : Nat} {cs : Array Value} {w w' : World} (h : But2 X T w w') (hg : Blk w g t cs) (hX : g ≠ X) (hT : g ≠ T) : Blk w' g t cs := (h.block g hg.lt hX hT).trans hg
end Go.Proofs.YtbnaphbmmkmaeaaGreatDoor
namespace Go.Proofs.YtbnaphbmmkmaeaaGreatDoor
open Go.RowKit Tk

theorem refWithin_any (r a b : Int) (w : World) : Calls Tryz.prog 85 #[.int .i64 r, .int .i64 a, .int .i64 b] w fun e w' => e = .returned (.bool (Tk.within r a b)) ∧ w' = w := by
  unfold Tk.within
  by_cases h1 : a ≤ r
  · by_cases h2 : r ≤ b
    · go_enter Tryz.func85, Tryz.ntmps85
      go_wp2
      go_ret
      simp [h1, h2]
    · go_enter Tryz.func85, Tryz.ntmps85
      go_wp2
      go_ret
      simp [h1, h2]
  · go_enter Tryz.func85, Tryz.ntmps85
    go_wp2
    go_ret
    simp [h1]
    intro h
    omega
theorem charOk_is (r : Int) : charOk r = (decide (r = 9) || (decide (r = 10) || (decide (r = 13) || (Tk.within r 32 55295 || (Tk.within r 57344 65533 || Tk.within r 65536 1114111))))) := by
  have e : (Tk.within r 9 10 || Tk.within r 13 13) = (decide (r = 9) || (decide (r = 10) || decide (r = 13))) := by
    unfold Tk.within
    rw [Bool.eq_iff_iff]
    simp only [Bool.or_eq_true, Bool.and_eq_true, decide_eq_true_eq]
    omega
  unfold charOk
  rw [e]
  simp only [Bool.or_assoc]
set_option maxHeartbeats 4000000 in
theorem refChar_any (r : Int) (w : World) : Calls Tryz.prog 44 #[.int .i64 r] w fun e w' => e = .returned (.bool (charOk r)) ∧ w' = w := by
  rw [charOk_is]
  have HA := hide (refWithin_any r 32 55295)
  have HB := hide (refWithin_any r 57344 65533)
  have HC := hide (refWithin_any r 65536 1114111)
  generalize Tk.within r 32 55295 = a at *
  generalize Tk.within r 57344 65533 = b at *
  generalize Tk.within r 65536 1114111 = c at *
  by_cases h1 : r = 9
  · have th1 : (r == 9) = true := by simpa using h1
    go_enter Tryz.func44, Tryz.ntmps44
    go_wp2
    go_ret
    exact ⟨ret_eq1 (bool_eq (by simp [*])), rfl⟩
  have th1 : (r == 9) = false := by simpa using h1
  by_cases h2 : r = 10
  · have th2 : (r == 10) = true := by simpa using h2
    go_enter Tryz.func44, Tryz.ntmps44
    go_wp2
    go_ret
    exact ⟨ret_eq1 (bool_eq (by simp [*])), rfl⟩
  have th2 : (r == 10) = false := by simpa using h2
  by_cases h3 : r = 13
  · have th3 : (r == 13) = true := by simpa using h3
    go_enter Tryz.func44, Tryz.ntmps44
    go_wp2
    go_ret
    exact ⟨ret_eq1 (bool_eq (by simp [*])), rfl⟩
  have th3 : (r == 13) = false := by simpa using h3
  cases a with
  | true =>
    go_enter Tryz.func44, Tryz.ntmps44
    go_wp2_with fail
    refine (HA.out _).mono ?_
    rintro e w' ⟨rfl, rfl⟩
    go_wp2
    go_ret
    exact ⟨ret_eq1 (bool_eq (by simp [*])), rfl⟩
  | false =>
    cases b with
    | true =>
      go_enter Tryz.func44, Tryz.ntmps44
      go_wp2_with fail
      refine (HA.out _).mono ?_
      rintro e w' ⟨rfl, rfl⟩
      go_wp2_with fail
      refine (HB.out _).mono ?_
      rintro e w' ⟨rfl, rfl⟩
      go_wp2
      go_ret
      exact ⟨ret_eq1 (bool_eq (by simp [*])), rfl⟩
    | false =>
      cases c with
      | true =>
        go_enter Tryz.func44, Tryz.ntmps44
        go_wp2_with fail
        refine (HA.out _).mono ?_
        rintro e w' ⟨rfl, rfl⟩
        go_wp2_with fail
        refine (HB.out _).mono ?_
        rintro e w' ⟨rfl, rfl⟩
        go_wp2_with fail
        refine (HC.out _).mono ?_
        rintro e w' ⟨rfl, rfl⟩
        go_wp2
        go_ret
        exact ⟨ret_eq1 (bool_eq (by simp [*])), rfl⟩
      | false =>
        go_enter Tryz.func44, Tryz.ntmps44
        go_wp2_with fail
        refine (HA.out _).mono ?_
        rintro e w' ⟨rfl, rfl⟩
        go_wp2_with fail
        refine (HB.out _).mono ?_
        rintro e w' ⟨rfl, rfl⟩
        go_wp2_with fail
        refine (HC.out _).mono ?_
        rintro e w' ⟨rfl, rfl⟩
        go_wp2
        go_ret
        exact ⟨ret_eq1 (bool_eq (by simp [*])), rfl⟩

set_option maxHeartbeats 4000000 in
theorem refBad_any (s : ByteArray) (w : World) (hs : s.size ≤ 1000000000) :
    Calls Tryz.prog 26 #[.string s] w fun e w' => e = .returned (.int .i64 (bad s.data.toList)) ∧ w' = w := by
  obtain ⟨z, hz⟩ : ∃ z, bad s.data.toList = z := ⟨_, rfl⟩
  have Hz := hide (show (match ((Utf.from_ 0 (s.data.toList.drop 0)).find? (fun p => !charOk p.2)).map (·.1) with | some k => (k : Int) | none => -1) = z from by rw [← hz]; rfl)
  rw [hz]
  clear hz
  go_enter Tryz.func26, Tryz.ntmps26
  go_wp2
  go_loopg [3] s.size (fun g v wr => ∃ k : Nat, g = s.size - k ∧ k ≤ s.size ∧ v = .int .i64 (k : Int) ∧ (match ((Utf.from_ k (s.data.toList.drop k)).find? (fun p => !charOk p.2)).map (·.1) with | some k => (k : Int) | none => -1) = z ∧ wr = w)
  case atStart => exact ⟨0, rfl, by omega, rfl, Hz.out, rfl⟩
  case round =>
    obtain ⟨k, hg, hk, rfl, hz, rfl⟩ := hrel
    have Hg := hide hg
    by_cases hlt : k < s.size
    · have hN := next_any s (k : Int) wr (by omega) (by omega) hs
      rw [Int.toNat_natCast] at hN
      have hfr := from_at s k hlt
      have hp := piece_at' s k hlt
      rw [hfr, List.find?_cons] at hz
      obtain ⟨f, hf⟩ : ∃ f, Utf.piece (s.data.toList.drop k) = f := ⟨_, rfl⟩
      rw [hf] at hN hz hp
      have HC := hide (refChar_any f.1)
      have hneg := charOk_neg f.1
      dsimp only at hz
      cases hc : charOk f.1 with
      | false =>
        rw [hc] at hz HC
        have Hz2 := hide (show (k : Int) = z from hz)
        by_cases hn : f.1 < 0
        · have HN := hide (show Calls Tryz.prog 43 #[.string s, .int .i64 (k : Int)] wr fun e w' => e = .returned (.tuple #[.int .i64 0, .int .i64 0, .bool false]) ∧ wr = w' from by
            unfold nextT at hN; rw [if_pos hn] at hN; exact hN)
          clear hN hz hfr hf hg hc hneg hn
          go_wp2_with fail
          refine HN.out.mono ?_
          rintro e w' ⟨rfl, rfl⟩
          go_wp2
          go_ret
          exact ⟨ret_eq1 (int_eq Hz2.out), rfl⟩
        · have HN := hide (show Calls Tryz.prog 43 #[.string s, .int .i64 (k : Int)] wr fun e w' => e = .returned (.tuple #[.int .i64 f.1, .int .i64 f.2, .bool true]) ∧ wr = w' from by
            unfold nextT at hN; rw [if_neg hn] at hN; exact hN)
          clear hN hz hfr hf hg hc hneg hn
          go_wp2_with fail
          refine HN.out.mono ?_
          rintro e w' ⟨rfl, rfl⟩
          go_wp2_with fail
          refine (HC.out _).mono ?_
          rintro e w' ⟨rfl, rfl⟩
          go_wp2
          go_ret
          exact ⟨ret_eq1 (int_eq Hz2.out), rfl⟩
      | true =>
        rw [hc] at hz HC
        have hn : ¬ f.1 < 0 := fun h => by rw [hneg h] at hc; cases hc
        have Hz2 := hide hz
        have HN := hide (show Calls Tryz.prog 43 #[.string s, .int .i64 (k : Int)] wr fun e w' => e = .returned (.tuple #[.int .i64 f.1, .int .i64 f.2, .bool true]) ∧ wr = w' from by
            unfold nextT at hN; rw [if_neg hn] at hN; exact hN)
        obtain ⟨m, hm⟩ : ∃ m : Nat, f.2 = m := ⟨f.2.toNat, by omega⟩
        have e2 : f.2.toNat = m := by omega
        rw [e2] at Hz2
        rw [hm] at HN hp
        clear hN hz hfr hf hg hc hneg hn e2 hm
        go_wp2_with fail
        refine HN.out.mono ?_
        rintro e w' ⟨rfl, rfl⟩
        go_wp2_with fail
        refine (HC.out _).mono ?_
        rintro e w' ⟨rfl, rfl⟩
        go_wp2
        go_roundg (s.size - (k + m))
        case measure => have := Hg.out; omega
        case rel => exact ⟨k + m, rfl, by omega, by go_num, Hz2.out, rfl⟩
    · have hkz : k = s.size := by omega
      subst hkz
      have Hz2 := hide (show (-1 : Int) = z from by rw [← hz, List.drop_of_length_le (by rw [size_list]; exact Nat.le_refl _)]; rfl)
      clear hz
      go_wp2
      go_ret
      exact ⟨ret_eq1 (int_eq Hz2.out), rfl⟩
end Go.Proofs.YtbnaphbmmkmaeaaGreatDoor
namespace Go.Proofs.YtbnaphbmmkmaeaaGreatDoor
open Go.RowKit Tk

theorem firstOk_is (r : Int) : firstOk r = (Tk.within r 65 90 || (Tk.within r 97 122 || (decide (r = 95) || (Tk.within r 192 214 || (Tk.within r 216 246 || (Tk.within r 248 767 || (Tk.within r 880 893 || (Tk.within r 895 8191 || (decide (r = 8204) || (decide (r = 8205) || (Tk.within r 8304 8591 || (Tk.within r 11264 12271 || (Tk.within r 12289 55295 || (Tk.within r 63744 64975 || (Tk.within r 65008 65533 || Tk.within r 65536 983039))))))))))))))) := by
  unfold firstOk Tk.within
  rw [Bool.eq_iff_iff]
  simp only [Bool.or_eq_true, Bool.and_eq_true, decide_eq_true_eq]
  omega
theorem furtherOk_is (r : Int) : furtherOk r = (firstOk r || (decide (r = 45) || (decide (r = 46) || (Tk.within r 48 57 || (decide (r = 183) || (Tk.within r 768 879 || (decide (r = 8255) || decide (r = 8256)))))))) := by
  unfold furtherOk
  generalize firstOk r = f
  cases f with
  | true => simp
  | false =>
    simp only [Bool.false_or]
    unfold Tk.within
    rw [Bool.eq_iff_iff]
    simp only [Bool.or_eq_true, Bool.and_eq_true, decide_eq_true_eq]
    omega
set_option maxHeartbeats 8000000 in
theorem refFirst_any (r : Int) (w : World) : Calls Tryz.prog 101 #[.int .i64 r] w fun e w' => e = .returned (.bool (firstOk r)) ∧ w' = w := by
  obtain ⟨z, hz⟩ : ∃ z, firstOk r = z := ⟨_, rfl⟩
  rw [hz]
  rw [firstOk_is] at hz
  have H0 := hide (refWithin_any r 65 90)
  generalize Tk.within r 65 90 = a0 at *
  have H1 := hide (refWithin_any r 97 122)
  generalize Tk.within r 97 122 = a1 at *
  have e2 : (r == 95) = decide (r = 95) := by rw [Bool.eq_iff_iff, beq_iff_eq, decide_eq_true_iff]
  generalize decide (r = 95) = a2 at *
  have H3 := hide (refWithin_any r 192 214)
  generalize Tk.within r 192 214 = a3 at *
  have H4 := hide (refWithin_any r 216 246)
  generalize Tk.within r 216 246 = a4 at *
  have H5 := hide (refWithin_any r 248 767)
  generalize Tk.within r 248 767 = a5 at *
  have H6 := hide (refWithin_any r 880 893)
  generalize Tk.within r 880 893 = a6 at *
  have H7 := hide (refWithin_any r 895 8191)
  generalize Tk.within r 895 8191 = a7 at *
  have e8 : (r == 8204) = decide (r = 8204) := by rw [Bool.eq_iff_iff, beq_iff_eq, decide_eq_true_iff]
  generalize decide (r = 8204) = a8 at *
  have e9 : (r == 8205) = decide (r = 8205) := by rw [Bool.eq_iff_iff, beq_iff_eq, decide_eq_true_iff]
  generalize decide (r = 8205) = a9 at *
  have H10 := hide (refWithin_any r 8304 8591)
  generalize Tk.within r 8304 8591 = a10 at *
  have H11 := hide (refWithin_any r 11264 12271)
  generalize Tk.within r 11264 12271 = a11 at *
  have H12 := hide (refWithin_any r 12289 55295)
  generalize Tk.within r 12289 55295 = a12 at *
  have H13 := hide (refWithin_any r 63744 64975)
  generalize Tk.within r 63744 64975 = a13 at *
  have H14 := hide (refWithin_any r 65008 65533)
  generalize Tk.within r 65008 65533 = a14 at *
  have H15 := hide (refWithin_any r 65536 983039)
  generalize Tk.within r 65536 983039 = a15 at *
  have Hr := hide hz.symm
  clear hz
  go_enter Tryz.func101, Tryz.ntmps101
  go_wp2_with fail
  refine (H0.out _).mono ?_
  rintro e w1 ⟨rfl, hw1⟩
  subst w1
  cases a0
  · skip
    go_wp2_with fail
    refine (H1.out _).mono ?_
    rintro e w1 ⟨rfl, hw1⟩
    subst w1
    cases a1
    · skip
      cases a2
      · skip
        go_wp2_with fail
        refine (H3.out _).mono ?_
        rintro e w1 ⟨rfl, hw1⟩
        subst w1
        cases a3
        · skip
          go_wp2_with fail
          refine (H4.out _).mono ?_
          rintro e w1 ⟨rfl, hw1⟩
          subst w1
          cases a4
          · skip
            go_wp2_with fail
            refine (H5.out _).mono ?_
            rintro e w1 ⟨rfl, hw1⟩
            subst w1
            cases a5
            · skip
              go_wp2_with fail
              refine (H6.out _).mono ?_
              rintro e w1 ⟨rfl, hw1⟩
              subst w1
              cases a6
              · skip
                go_wp2_with fail
                refine (H7.out _).mono ?_
                rintro e w1 ⟨rfl, hw1⟩
                subst w1
                cases a7
                · skip
                  cases a8
                  · skip
                    cases a9
                    · skip
                      go_wp2_with fail
                      refine (H10.out _).mono ?_
                      rintro e w1 ⟨rfl, hw1⟩
                      subst w1
                      cases a10
                      · skip
                        go_wp2_with fail
                        refine (H11.out _).mono ?_
                        rintro e w1 ⟨rfl, hw1⟩
                        subst w1
                        cases a11
                        · skip
                          go_wp2_with fail
                          refine (H12.out _).mono ?_
                          rintro e w1 ⟨rfl, hw1⟩
                          subst w1
                          cases a12
                          · skip
                            go_wp2_with fail
                            refine (H13.out _).mono ?_
                            rintro e w1 ⟨rfl, hw1⟩
                            subst w1
                            cases a13
                            · skip
                              go_wp2_with fail
                              refine (H14.out _).mono ?_
                              rintro e w1 ⟨rfl, hw1⟩
                              subst w1
                              cases a14
                              · skip
                                go_wp2_with fail
                                refine (H15.out _).mono ?_
                                rintro e w1 ⟨rfl, hw1⟩
                                subst w1
                                cases a15
                                · go_wp2
                                  go_ret
                                  exact ⟨ret_eq1 (bool_eq (by have h := Hr.out; simpa using h.symm)), rfl⟩
                                · go_wp2
                                  go_ret
                                  exact ⟨ret_eq1 (bool_eq (by have h := Hr.out; simpa using h.symm)), rfl⟩
                              · go_wp2
                                go_ret
                                exact ⟨ret_eq1 (bool_eq (by have h := Hr.out; simpa using h.symm)), rfl⟩
                            · go_wp2
                              go_ret
                              exact ⟨ret_eq1 (bool_eq (by have h := Hr.out; simpa using h.symm)), rfl⟩
                          · go_wp2
                            go_ret
                            exact ⟨ret_eq1 (bool_eq (by have h := Hr.out; simpa using h.symm)), rfl⟩
                        · go_wp2
                          go_ret
                          exact ⟨ret_eq1 (bool_eq (by have h := Hr.out; simpa using h.symm)), rfl⟩
                      · go_wp2
                        go_ret
                        exact ⟨ret_eq1 (bool_eq (by have h := Hr.out; simpa using h.symm)), rfl⟩
                    · go_wp2
                      go_ret
                      exact ⟨ret_eq1 (bool_eq (by have h := Hr.out; simpa using h.symm)), rfl⟩
                  · go_wp2
                    go_ret
                    exact ⟨ret_eq1 (bool_eq (by have h := Hr.out; simpa using h.symm)), rfl⟩
                · go_wp2
                  go_ret
                  exact ⟨ret_eq1 (bool_eq (by have h := Hr.out; simpa using h.symm)), rfl⟩
              · go_wp2
                go_ret
                exact ⟨ret_eq1 (bool_eq (by have h := Hr.out; simpa using h.symm)), rfl⟩
            · go_wp2
              go_ret
              exact ⟨ret_eq1 (bool_eq (by have h := Hr.out; simpa using h.symm)), rfl⟩
          · go_wp2
            go_ret
            exact ⟨ret_eq1 (bool_eq (by have h := Hr.out; simpa using h.symm)), rfl⟩
        · go_wp2
          go_ret
          exact ⟨ret_eq1 (bool_eq (by have h := Hr.out; simpa using h.symm)), rfl⟩
      · go_wp2
        go_ret
        exact ⟨ret_eq1 (bool_eq (by have h := Hr.out; simpa using h.symm)), rfl⟩
    · go_wp2
      go_ret
      exact ⟨ret_eq1 (bool_eq (by have h := Hr.out; simpa using h.symm)), rfl⟩
  · go_wp2
    go_ret
    exact ⟨ret_eq1 (bool_eq (by have h := Hr.out; simpa using h.symm)), rfl⟩
set_option maxHeartbeats 8000000 in
theorem refFurther_any (r : Int) (w : World) : Calls Tryz.prog 102 #[.int .i64 r] w fun e w' => e = .returned (.bool (furtherOk r)) ∧ w' = w := by
  obtain ⟨z, hz⟩ : ∃ z, furtherOk r = z := ⟨_, rfl⟩
  rw [hz]
  rw [furtherOk_is] at hz
  have H0 := hide (refFirst_any r)
  generalize firstOk r = a0 at *
  have e1 : (r == 45) = decide (r = 45) := by rw [Bool.eq_iff_iff, beq_iff_eq, decide_eq_true_iff]
  generalize decide (r = 45) = a1 at *
  have e2 : (r == 46) = decide (r = 46) := by rw [Bool.eq_iff_iff, beq_iff_eq, decide_eq_true_iff]
  generalize decide (r = 46) = a2 at *
  have H3 := hide (refWithin_any r 48 57)
  generalize Tk.within r 48 57 = a3 at *
  have e4 : (r == 183) = decide (r = 183) := by rw [Bool.eq_iff_iff, beq_iff_eq, decide_eq_true_iff]
  generalize decide (r = 183) = a4 at *
  have H5 := hide (refWithin_any r 768 879)
  generalize Tk.within r 768 879 = a5 at *
  have e6 : (r == 8255) = decide (r = 8255) := by rw [Bool.eq_iff_iff, beq_iff_eq, decide_eq_true_iff]
  generalize decide (r = 8255) = a6 at *
  have e7 : (r == 8256) = decide (r = 8256) := by rw [Bool.eq_iff_iff, beq_iff_eq, decide_eq_true_iff]
  generalize decide (r = 8256) = a7 at *
  have Hr := hide hz.symm
  clear hz
  go_enter Tryz.func102, Tryz.ntmps102
  go_wp2_with fail
  refine (H0.out _).mono ?_
  rintro e w1 ⟨rfl, hw1⟩
  subst w1
  cases a0
  · skip
    cases a1
    · skip
      cases a2
      · skip
        go_wp2_with fail
        refine (H3.out _).mono ?_
        rintro e w1 ⟨rfl, hw1⟩
        subst w1
        cases a3
        · skip
          cases a4
          · skip
            go_wp2_with fail
            refine (H5.out _).mono ?_
            rintro e w1 ⟨rfl, hw1⟩
            subst w1
            cases a5
            · skip
              cases a6
              · skip
                cases a7
                · go_wp2
                  go_ret
                  exact ⟨ret_eq1 (bool_eq (by have h := Hr.out; simpa using h.symm)), rfl⟩
                · go_wp2
                  go_ret
                  exact ⟨ret_eq1 (bool_eq (by have h := Hr.out; simpa using h.symm)), rfl⟩
              · go_wp2
                go_ret
                exact ⟨ret_eq1 (bool_eq (by have h := Hr.out; simpa using h.symm)), rfl⟩
            · go_wp2
              go_ret
              exact ⟨ret_eq1 (bool_eq (by have h := Hr.out; simpa using h.symm)), rfl⟩
          · go_wp2
            go_ret
            exact ⟨ret_eq1 (bool_eq (by have h := Hr.out; simpa using h.symm)), rfl⟩
        · go_wp2
          go_ret
          exact ⟨ret_eq1 (bool_eq (by have h := Hr.out; simpa using h.symm)), rfl⟩
      · go_wp2
        go_ret
        exact ⟨ret_eq1 (bool_eq (by have h := Hr.out; simpa using h.symm)), rfl⟩
    · go_wp2
      go_ret
      exact ⟨ret_eq1 (bool_eq (by have h := Hr.out; simpa using h.symm)), rfl⟩
  · go_wp2
    go_ret
    exact ⟨ret_eq1 (bool_eq (by have h := Hr.out; simpa using h.symm)), rfl⟩
end Go.Proofs.YtbnaphbmmkmaeaaGreatDoor
namespace Go.Proofs.YtbnaphbmmkmaeaaGreatDoor
open Go.RowKit Tk

/-- Where a name ends, seen from byte k on. -/
def takeFrom (k : Nat) (D : L) : Nat := (((Utf.from_ k (D.drop k)).find? fun p => !nameOk p.1 p.2).map (·.1)).getD D.length
theorem takeFrom_zero (D : L) : takeFrom 0 D = Tk.take D := by unfold takeFrom Tk.take stop Utf.pieces; rw [List.drop_zero]; rfl
theorem nameOk_zero {k : Nat} {r : Int} (h : k = 0) : nameOk k r = firstOk r := by unfold nameOk; rw [if_pos h]
theorem nameOk_pos {k : Nat} {r : Int} (h : k ≠ 0) : nameOk k r = (furtherOk r || decide (r = 58)) := by unfold nameOk; rw [if_neg h]

set_option maxHeartbeats 8000000 in
theorem refTake_any (s : ByteArray) (w : World) (hs : s.size ≤ 1000000000) :
    Calls Tryz.prog 56 #[.string s] w fun e w' => e = .returned (.int .i64 ((Tk.take s.data.toList : Nat) : Int)) ∧ w' = w := by
  obtain ⟨z, hz⟩ : ∃ z, Tk.take s.data.toList = z := ⟨_, rfl⟩
  have Hz := hide (show takeFrom 0 s.data.toList = z from by rw [← hz, takeFrom_zero])
  rw [hz]
  clear hz
  go_enter Tryz.func56, Tryz.ntmps56
  go_wp2
  go_loopg [3] s.size (fun g v wr => ∃ k : Nat, g = s.size - k ∧ k ≤ s.size ∧ v = .int .i64 (k : Int) ∧ takeFrom k s.data.toList = z ∧ wr = w)
  case atStart => exact ⟨0, rfl, by omega, rfl, Hz.out, rfl⟩
  case round =>
    obtain ⟨k, hg, hk, rfl, hz, rfl⟩ := hrel
    have Hg := hide hg
    by_cases hlt : k < s.size
    · have hN := next_any s (k : Int) wr (by omega) (by omega) hs
      rw [Int.toNat_natCast] at hN
      have hfr := from_at s k hlt
      have hp := piece_at' s k hlt
      unfold takeFrom at hz
      rw [hfr, List.find?_cons] at hz
      obtain ⟨f, hf⟩ : ∃ f, Utf.piece (s.data.toList.drop k) = f := ⟨_, rfl⟩
      rw [hf] at hN hz hp
      dsimp only at hz
      by_cases hn : f.1 < 0
      · have HN := hide (show Calls Tryz.prog 43 #[.string s, .int .i64 (k : Int)] wr fun e w' => e = .returned (.tuple #[.int .i64 0, .int .i64 0, .bool false]) ∧ wr = w' from by
            unfold nextT at hN; rw [if_pos hn] at hN; exact hN)
        rw [nameOk_neg' k f.1 hn] at hz
        have Hr := hide (show k = z from hz)
        clear hN hz hfr hf hp hg hn Hz
        go_wp2_with fail
        refine HN.out.mono ?_
        rintro e w' ⟨rfl, rfl⟩
        go_wp2
        go_ret
        exact ⟨ret_eq1 (int_eq (congrArg Int.ofNat Hr.out)), rfl⟩
      have HN := hide (show Calls Tryz.prog 43 #[.string s, .int .i64 (k : Int)] wr fun e w' => e = .returned (.tuple #[.int .i64 f.1, .int .i64 f.2, .bool true]) ∧ wr = w' from by
            unfold nextT at hN; rw [if_neg hn] at hN; exact hN)
      obtain ⟨m, hm⟩ : ∃ m : Nat, f.2 = m := ⟨f.2.toNat, by omega⟩
      have e2 : f.2.toNat = m := by omega
      rw [e2] at hz
      rw [hm] at HN hp
      obtain ⟨r, hr⟩ : ∃ r, f.1 = r := ⟨_, rfl⟩
      rw [hr] at HN hz
      have Hno := hide (fun (h : nameOk k r = false) => (show (k : Int) = (z : Int) by rw [h] at hz; exact congrArg Int.ofNat hz))
      have Hyes := hide (fun (h : nameOk k r = true) => (show takeFrom (k + m) s.data.toList = z by rw [h] at hz; exact hz))
      clear hN hz hfr hf hg hn Hz hm e2 hr
      by_cases h0 : k = 0
      · have HF := hide (refFirst_any r)
        have g0 : ((k : Int) == 0) = true := by rw [beq_iff_eq]; omega
        have g1 : ¬ (0 : Int) < (k : Int) := by omega
        have he := nameOk_zero (r := r) h0
        rw [← he] at HF
        clear he h0
        cases hc : nameOk k r with
        | false =>
          rw [hc] at HF
          have Hr := hide (Hno.out hc)
          clear hc Hno Hyes
          go_wp2_with fail
          refine HN.out.mono ?_
          rintro e w' ⟨rfl, rfl⟩
          go_wp2_with fail
          refine (HF.out _).mono ?_
          rintro e w1 ⟨rfl, hw1⟩
          subst w1
          go_wp2
          go_ret
          exact ⟨ret_eq1 (int_eq (Hr.out)), rfl⟩
        | true =>
          rw [hc] at HF
          have Hr := hide (Hyes.out hc)
          clear hc Hno Hyes
          go_wp2_with fail
          refine HN.out.mono ?_
          rintro e w' ⟨rfl, rfl⟩
          go_wp2_with fail
          refine (HF.out _).mono ?_
          rintro e w1 ⟨rfl, hw1⟩
          subst w1
          go_wp2
          go_roundg (s.size - (k + m))
          case measure => have := Hg.out; omega
          case rel => exact ⟨k + m, rfl, by omega, by go_num, Hr.out, rfl⟩
      · have HF := hide (refFurther_any r)
        have g0 : ((k : Int) == 0) = false := by rw [beq_eq_false_iff_ne]; omega
        have g1 : (0 : Int) < (k : Int) := by omega
        have hc := nameOk_pos (r := r) h0
        have e3 : ((r : Int) != 58) = !decide (r = 58) := by rw [Bool.eq_iff_iff, bne_iff_ne, Bool.not_eq_true', decide_eq_false_iff_not]
        clear h0
        generalize furtherOk r = a at *
        generalize decide (r = 58) = b at *
        cases a with
        | true =>
          have Hr := hide (Hyes.out hc)
          clear hc Hno Hyes
          go_wp2_with fail
          refine HN.out.mono ?_
          rintro e w' ⟨rfl, rfl⟩
          go_wp2_with fail
          refine (HF.out _).mono ?_
          rintro e w1 ⟨rfl, hw1⟩
          subst w1
          go_wp2
          go_roundg (s.size - (k + m))
          case measure => have := Hg.out; omega
          case rel => exact ⟨k + m, rfl, by omega, by go_num, Hr.out, rfl⟩
        | false =>
          cases b with
          | true =>
            have Hr := hide (Hyes.out hc)
            clear hc Hno Hyes
            go_wp2_with fail
            refine HN.out.mono ?_
            rintro e w' ⟨rfl, rfl⟩
            go_wp2_with fail
            refine (HF.out _).mono ?_
            rintro e w1 ⟨rfl, hw1⟩
            subst w1
            go_wp2
            go_roundg (s.size - (k + m))
            case measure => have := Hg.out; omega
            case rel => exact ⟨k + m, rfl, by omega, by go_num, Hr.out, rfl⟩
          | false =>
            have Hr := hide (Hno.out hc)
            clear hc Hno Hyes
            go_wp2_with fail
            refine HN.out.mono ?_
            rintro e w' ⟨rfl, rfl⟩
            go_wp2_with fail
            refine (HF.out _).mono ?_
            rintro e w1 ⟨rfl, hw1⟩
            subst w1
            go_wp2
            go_ret
            exact ⟨ret_eq1 (int_eq (Hr.out)), rfl⟩
    · have hkz : k = s.size := by omega
      have Hr := hide (show (k : Int) = (z : Int) from by
        rw [← hz]
        unfold takeFrom
        rw [List.drop_of_length_le (by rw [size_list]; omega), size_list]
        exact congrArg Int.ofNat hkz)
      clear hz hkz Hz
      go_wp2
      go_ret
      exact ⟨ret_eq1 (int_eq (Hr.out)), rfl⟩
end Go.Proofs.YtbnaphbmmkmaeaaGreatDoor
namespace Go.Proofs.YtbnaphbmmkmaeaaGreatDoor
open Go.RowKit Tk

theorem lower_x (a : UInt8) : decide (lower a = 120) = (a == 120 || a == 88) := by
  have h : ∀ n : Fin 256, decide (lower (UInt8.ofNat n.val) = 120) = (UInt8.ofNat n.val == 120 || UInt8.ofNat n.val == 88) := by decide +kernel
  have := h ⟨a.toNat, a.toNat_lt⟩
  simpa using this
theorem lower_m (a : UInt8) : decide (lower a = 109) = (a == 109 || a == 77) := by
  have h : ∀ n : Fin 256, decide (lower (UInt8.ofNat n.val) = 109) = (UInt8.ofNat n.val == 109 || UInt8.ofNat n.val == 77) := by decide +kernel
  have := h ⟨a.toNat, a.toNat_lt⟩
  simpa using this
theorem lower_l (a : UInt8) : decide (lower a = 108) = (a == 108 || a == 76) := by
  have h : ∀ n : Fin 256, decide (lower (UInt8.ofNat n.val) = 108) = (UInt8.ofNat n.val == 108 || UInt8.ofNat n.val == 76) := by decide +kernel
  have := h ⟨a.toNat, a.toNat_lt⟩
  simpa using this
theorem xml_three (a b c : UInt8) : Tk.xml [a, b, c] = ((a == 120 || a == 88) && ((b == 109 || b == 77) && (c == 108 || c == 76))) := by
  rw [← lower_x, ← lower_m, ← lower_l]
  unfold Tk.xml
  rw [Bool.eq_iff_iff]
  simp
theorem xml_not {D : L} (h : D.length ≠ 3) : Tk.xml D = false := by
  unfold Tk.xml
  rw [decide_eq_false_iff_not]
  intro e
  have := congrArg List.length e
  simp at this
  omega

set_option maxHeartbeats 8000000 in
theorem refXml_any (s : ByteArray) (w : World) (hs : s.size ≤ 1000000000) :
    Calls Tryz.prog 100 #[.string s] w fun e w' => e = .returned (.bool (Tk.xml s.data.toList)) ∧ w' = w := by
  obtain ⟨D, hD⟩ : ∃ D, s.data.toList = D := ⟨_, rfl⟩
  have hDl : D.length = s.size := by rw [← hD, size_list]
  rw [hD]
  by_cases h3 : s.size = 3
  · have g3 : ((s.size : Int) == 3) = true := by rw [beq_iff_eq]; omega
    rw [h3] at hDl
    obtain ⟨a, b, c, rfl⟩ : ∃ a b c, D = [a, b, c] := by
      match D, hDl with
      | [a, b, c], _ => exact ⟨a, b, c, rfl⟩
    have i0 : ∀ w, (Instr.index 9 (.string s) (.int .i64 0)).run Tryz.prog w = .ok (.int .u8 (a.toNat : Nat)) w := idx_run s 0 a (by rw [hD]; rfl)
    have i1 : ∀ w, (Instr.index 9 (.string s) (.int .i64 1)).run Tryz.prog w = .ok (.int .u8 (b.toNat : Nat)) w := idx_run s 1 b (by rw [hD]; rfl)
    have i2 : ∀ w, (Instr.index 9 (.string s) (.int .i64 2)).run Tryz.prog w = .ok (.int .u8 (c.toNat : Nat)) w := idx_run s 2 c (by rw [hD]; rfl)
    have key : ∀ x d : UInt8, ((x.toNat : Int) == (d.toNat : Int)) = (x == d) := fun x d => by
      rw [Bool.eq_iff_iff, beq_iff_eq, beq_iff_eq]
      exact ⟨fun h => UInt8.toNat_inj.1 (by omega), fun h => by rw [h]⟩
    have e1 : ((a.toNat : Int) == 120) = (a == 120) := key a 120
    have e2 : ((a.toNat : Int) == 88) = (a == 88) := key a 88
    have e3 : ((b.toNat : Int) == 109) = (b == 109) := key b 109
    have e4 : ((b.toNat : Int) == 77) = (b == 77) := key b 77
    have e5 : ((c.toNat : Int) == 108) = (c == 108) := key c 108
    have e6 : ((c.toNat : Int) == 76) = (c == 76) := key c 76
    rw [xml_three]
    clear key hD hDl h3
    generalize (a == 120) = p1 at *
    generalize (a == 88) = q1 at *
    generalize (b == 109) = p2 at *
    generalize (b == 77) = q2 at *
    generalize (c == 108) = p3 at *
    generalize (c == 76) = q3 at *
    cases p1
    · cases q1
      · skip
        go_enter Tryz.func100, Tryz.ntmps100
        go_wp2
        go_ret
        exact ⟨ret_eq1 (bool_eq (by simp)), rfl⟩
      · skip
        cases p2
        · cases q2
          · skip
            go_enter Tryz.func100, Tryz.ntmps100
            go_wp2
            go_ret
            exact ⟨ret_eq1 (bool_eq (by simp)), rfl⟩
          · skip
            cases p3
            · cases q3
              · skip
                go_enter Tryz.func100, Tryz.ntmps100
                go_wp2
                go_ret
                exact ⟨ret_eq1 (bool_eq (by simp)), rfl⟩
              · skip
                go_enter Tryz.func100, Tryz.ntmps100
                go_wp2
                go_ret
                exact ⟨ret_eq1 (bool_eq (by simp)), rfl⟩
            · skip
              go_enter Tryz.func100, Tryz.ntmps100
              go_wp2
              go_ret
              exact ⟨ret_eq1 (bool_eq (by simp)), rfl⟩
        · skip
          cases p3
          · cases q3
            · skip
              go_enter Tryz.func100, Tryz.ntmps100
              go_wp2
              go_ret
              exact ⟨ret_eq1 (bool_eq (by simp)), rfl⟩
            · skip
              go_enter Tryz.func100, Tryz.ntmps100
              go_wp2
              go_ret
              exact ⟨ret_eq1 (bool_eq (by simp)), rfl⟩
          · skip
            go_enter Tryz.func100, Tryz.ntmps100
            go_wp2
            go_ret
            exact ⟨ret_eq1 (bool_eq (by simp)), rfl⟩
    · skip
      cases p2
      · cases q2
        · skip
          go_enter Tryz.func100, Tryz.ntmps100
          go_wp2
          go_ret
          exact ⟨ret_eq1 (bool_eq (by simp)), rfl⟩
        · skip
          cases p3
          · cases q3
            · skip
              go_enter Tryz.func100, Tryz.ntmps100
              go_wp2
              go_ret
              exact ⟨ret_eq1 (bool_eq (by simp)), rfl⟩
            · skip
              go_enter Tryz.func100, Tryz.ntmps100
              go_wp2
              go_ret
              exact ⟨ret_eq1 (bool_eq (by simp)), rfl⟩
          · skip
            go_enter Tryz.func100, Tryz.ntmps100
            go_wp2
            go_ret
            exact ⟨ret_eq1 (bool_eq (by simp)), rfl⟩
      · skip
        cases p3
        · cases q3
          · skip
            go_enter Tryz.func100, Tryz.ntmps100
            go_wp2
            go_ret
            exact ⟨ret_eq1 (bool_eq (by simp)), rfl⟩
          · skip
            go_enter Tryz.func100, Tryz.ntmps100
            go_wp2
            go_ret
            exact ⟨ret_eq1 (bool_eq (by simp)), rfl⟩
        · skip
          go_enter Tryz.func100, Tryz.ntmps100
          go_wp2
          go_ret
          exact ⟨ret_eq1 (bool_eq (by simp)), rfl⟩
  · have g3 : ((s.size : Int) == 3) = false := by rw [beq_eq_false_iff_ne]; omega
    have Hr := hide (show false = Tk.xml D from (xml_not (by omega)).symm)
    clear hD hDl h3
    go_enter Tryz.func100, Tryz.ntmps100
    go_wp2
    go_ret
    exact ⟨ret_eq1 (bool_eq (Hr.out)), rfl⟩
end Go.Proofs.YtbnaphbmmkmaeaaGreatDoor
