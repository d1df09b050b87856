/- The document's strict: a text's scalars, as a row. · The document's First and Further: what may stand in a name. (Printed by wip/genTkDh.py.) · Plain: a Char's bytes are fine; a text with references, if it is fine, stands for a fine one; no program in sight. · The document's strict: names that are plain. · The document's strict: a name, cut at its colon. -/
import Derived.Test.YtbbpkcddifmieaaGreatDoorSw15
import Derived.Test.YtbbpkcddifmieaaGreatDoorSw30
set_option linter.unusedSimpArgs false
set_option linter.unusedVariables false
namespace Go.Proofs.YtbbpkcddifmieaaGreatDoor
section
open Go.RowKit Tk Sx

def intRow (l : List Int) : List Value := l.map fun k => .int .i64 k
def scals (l : L) : List Int := (Utf.pieces l).map (·.2)
theorem pieces_from (l : L) : Utf.pieces l = Utf.from_ 0 l := rfl
set_option maxHeartbeats 2000000 in
theorem scalarsV_any (s : ByteArray) (w : World) (hs : s.size ≤ 1000000000) (hv : Utf.valid s.data.toList = true) :
  Calls Tryz.prog 85 #[.string s] w fun e w' => ∃ A c, e = .returned (.tuple #[.slice A (scals s.data.toList).length c, .bool true]) ∧ Below w.heap.size w w' ∧ Reads w' w'.heap.size 1 A (scals s.data.toList).length (intRow (scals s.data.toList)) := by
 have Hv0 := hide hv;clear hv
 go_enter Tryz.func85, Tryz.ntmps85
 go_wp2
 go_loopg [4, 5] s.size (fun g vo va wr => ∃ (k : Nat) (A : Option Addr) (c : Nat) (pre : List Int), g = s.size - k ∧ k ≤ s.size ∧ pre.length ≤ k ∧ va = .int .i64 k ∧ vo = .slice A pre.length c ∧ Utf.valid (s.data.toList.drop k) = true ∧
  scals s.data.toList = pre ++ (Utf.from_ k (s.data.toList.drop k)).map (·.2) ∧ wr.ownsRow w.heap.size 3 1 (.slice A pre.length c) pre.length (intRow pre) ∧ Below w.heap.size w wr)
 case atStart => exact ⟨0, none, 0, [], rfl, by omega, by simp, rfl, rfl, Hv0.out, rfl, World.ownsRow_nil _ _ _ _, Below.refl _ _⟩
 case round =>
  obtain ⟨k, A, c, pre, hg, hk, hn, rfl, rfl, hv, hsc, hown, hb⟩ := hrel;have Hv := hide hv;have Hg := hide hg;have Hsc := hide hsc;clear hv hg hsc
  by_cases hlt : k < s.size
  ·have hp := piece_at s k hlt;have hval := valid_at s k hlt;have hfr := from_at s k hlt;have HN := hide (next_any s k wr (by omega) (by omega) hs);rw [Int.toNat_natCast] at HN;obtain ⟨f, hf⟩ : ∃ f, Utf.piece (s.data.toList.drop k) = f := ⟨_, rfl⟩;rw [hf] at hp hval HN hfr;rw [Hv.out] at hval;have hneg : ¬ f.1 < 0 := fun h => by rw [if_pos h] at hval; cases hval
   rw [if_neg hneg] at hval;have Hval := hide hval;have Hfr := hide hfr;have e1 : Hid (nextT f = .tuple #[.int .i64 f.1, .int .i64 f.2, .bool true]) := by show nextT f = _; unfold nextT; rw [if_neg hneg]
   obtain ⟨m, hm⟩ : ∃ m, pre.length = m := ⟨_, rfl⟩;have Hm := hide hm;rw [hm] at hown hn ⊢;clear hf hval hfr hm
   go_wp2_with fail
   refine HN.out.mono ?_; rintro e w' ⟨rfl, rfl⟩; rw [e1.out]
   go_wp2_with (first
    | (at_builtin; go_loud (refine wpList_append_elem wr rfl (.tmp 22) (.tmp 24) 31 rfl w.heap.size (.int .i64 0) 1 8 Tryz.underlying31 info_int rfl (by omega) (.slice A m c) m (intRow pre) rfl hown (cs := [.int .i64 f.1]) rfl (by simp [Value.oneCell']) rfl (by unfold maxLen; omega) (by omega) hb.size ?_); intro g' cap' w1 hown1 hgrow1 hat1 hlt1 hb1))
   go_roundg (s.size - (k + f.2.toNat))
   case measure => have := Hg.out; omega
   case rel =>
    have e2 : (pre ++ [f.1]).length = m + 1 := by rw [List.length_append, Hm.out]; rfl
    refine ⟨k + f.2.toNat, some ⟨g', 0, none⟩, cap', pre ++ [f.1], rfl, by omega, by rw [e2]; omega, int_eq (by omega), by rw [e2], Hval.out.symm, ?_, ?_, hb.grown hgrow1 hb.size (fun j hj => (own_isT hown j hj).1)⟩
    ·rw [Hsc.out, Hfr.out]; simp
    rw [e2, show intRow (pre ++ [f.1]) = intRow pre ++ [.int .i64 f.1] by simp [intRow]];exact hown1
  have hall : (Utf.from_ k (s.data.toList.drop k)).map (·.2) = [] := by rw [List.drop_of_length_le (by rw [size_list]; omega), Utf.from_nil]; rfl
  have hsc := Hsc.out;rw [hall, List.append_nil] at hsc;have HSc := hide hsc;clear hall hsc;go_wp2;go_ret2;exact ⟨A, c, by rw [HSc.out]; rfl, hb, by rw [HSc.out]; exact Reads.of_own hown⟩
end
section
open Go.RowKit Tk

theorem firstOk_is (r : Int) : firstOk r = (Tk.within r 65 90 || (Tk.within r 97 122 || (decide (r = 95) || (Tk.within r 192 214 || (Tk.within r 216 246 || (Tk.within r 248 767 || (Tk.within r 880 893 || (Tk.within r 895 8191 || (decide (r = 8204) || (decide (r = 8205) || (Tk.within r 8304 8591 || (Tk.within r 11264 12271 || (Tk.within r 12289 55295 || (Tk.within r 63744 64975 || (Tk.within r 65008 65533 || Tk.within r 65536 983039))))))))))))))) := by
 unfold firstOk Tk.within;rw [Bool.eq_iff_iff];simp only [Bool.or_eq_true, Bool.and_eq_true, decide_eq_true_eq];omega
theorem furtherOk_is (r : Int) : furtherOk r = (firstOk r || (decide (r = 45) || (decide (r = 46) || (Tk.within r 48 57 || (decide (r = 183) || (Tk.within r 768 879 || (decide (r = 8255) || decide (r = 8256)))))))) := by
 unfold furtherOk;generalize firstOk r = f
 cases f with
 | true => simp
 | false =>
  simp only [Bool.false_or];unfold Tk.within;rw [Bool.eq_iff_iff];simp only [Bool.or_eq_true, Bool.and_eq_true, decide_eq_true_eq];omega
set_option maxHeartbeats 8000000 in
theorem refFirst_any (r : Int) (w : World) : Calls Tryz.prog 142 #[.int .i64 r] w fun e w' => e = .returned (.bool (firstOk r)) ∧ w' = w := by
 obtain ⟨z, hz⟩ : ∃ z, firstOk r = z := ⟨_, rfl⟩;rw [hz];rw [firstOk_is] at hz;have H0 := hide (refWithin_any r 65 90);generalize Tk.within r 65 90 = a0 at *
 have H1 := hide (refWithin_any r 97 122);generalize Tk.within r 97 122 = a1 at *
 have e2 : (r == 95) = decide (r = 95) := by rw [Bool.eq_iff_iff, beq_iff_eq, decide_eq_true_iff]
 generalize decide (r = 95) = a2 at *
 have H3 := hide (refWithin_any r 192 214);generalize Tk.within r 192 214 = a3 at *
 have H4 := hide (refWithin_any r 216 246);generalize Tk.within r 216 246 = a4 at *
 have H5 := hide (refWithin_any r 248 767);generalize Tk.within r 248 767 = a5 at *
 have H6 := hide (refWithin_any r 880 893);generalize Tk.within r 880 893 = a6 at *
 have H7 := hide (refWithin_any r 895 8191);generalize Tk.within r 895 8191 = a7 at *
 have e8 : (r == 8204) = decide (r = 8204) := by rw [Bool.eq_iff_iff, beq_iff_eq, decide_eq_true_iff]
 generalize decide (r = 8204) = a8 at *
 have e9 : (r == 8205) = decide (r = 8205) := by rw [Bool.eq_iff_iff, beq_iff_eq, decide_eq_true_iff]
 generalize decide (r = 8205) = a9 at *
 have H10 := hide (refWithin_any r 8304 8591);generalize Tk.within r 8304 8591 = a10 at *
 have H11 := hide (refWithin_any r 11264 12271);generalize Tk.within r 11264 12271 = a11 at *
 have H12 := hide (refWithin_any r 12289 55295);generalize Tk.within r 12289 55295 = a12 at *
 have H13 := hide (refWithin_any r 63744 64975);generalize Tk.within r 63744 64975 = a13 at *
 have H14 := hide (refWithin_any r 65008 65533);generalize Tk.within r 65008 65533 = a14 at *
 have H15 := hide (refWithin_any r 65536 983039);generalize Tk.within r 65536 983039 = a15 at *
 have Hr := hide hz.symm;clear hz
 go_enter Tryz.func142, Tryz.ntmps142
 go_wp2_with fail
 refine cq (H0.out _) ?_
 cases a0
 ·skip
  go_wp2_with fail
  refine cq (H1.out _) ?_
  cases a1
  ·skip
   cases a2
   ·skip
    go_wp2_with fail
    refine cq (H3.out _) ?_
    cases a3
    ·skip
     go_wp2_with fail
     refine cq (H4.out _) ?_
     cases a4
     ·skip
      go_wp2_with fail
      refine cq (H5.out _) ?_
      cases a5
      ·skip
       go_wp2_with fail
       refine cq (H6.out _) ?_
       cases a6
       ·skip
        go_wp2_with fail
        refine cq (H7.out _) ?_
        cases a7
        ·skip
         cases a8
         ·skip
          cases a9
          ·skip
           go_wp2_with fail
           refine cq (H10.out _) ?_
           cases a10
           ·skip
            go_wp2_with fail
            refine cq (H11.out _) ?_
            cases a11
            ·skip
             go_wp2_with fail
             refine cq (H12.out _) ?_
             cases a12
             ·skip
              go_wp2_with fail
              refine cq (H13.out _) ?_
              cases a13
              ·skip
               go_wp2_with fail
               refine cq (H14.out _) ?_
               cases a14
               ·skip
                go_wp2_with fail
                refine cq (H15.out _) ?_
                cases a15
                ·go_wp2
                 go_ret
                 exact ⟨ret_eq1 (bool_eq (by have h := Hr.out; simpa using h.symm)), rfl⟩
                go_wp2
                go_ret
                exact ⟨ret_eq1 (bool_eq (by have h := Hr.out; simpa using h.symm)), rfl⟩
               go_wp2
               go_ret
               exact ⟨ret_eq1 (bool_eq (by have h := Hr.out; simpa using h.symm)), rfl⟩
              go_wp2
              go_ret
              exact ⟨ret_eq1 (bool_eq (by have h := Hr.out; simpa using h.symm)), rfl⟩
             go_wp2
             go_ret
             exact ⟨ret_eq1 (bool_eq (by have h := Hr.out; simpa using h.symm)), rfl⟩
            go_wp2
            go_ret
            exact ⟨ret_eq1 (bool_eq (by have h := Hr.out; simpa using h.symm)), rfl⟩
           go_wp2
           go_ret
           exact ⟨ret_eq1 (bool_eq (by have h := Hr.out; simpa using h.symm)), rfl⟩
          go_wp2
          go_ret
          exact ⟨ret_eq1 (bool_eq (by have h := Hr.out; simpa using h.symm)), rfl⟩
         go_wp2
         go_ret
         exact ⟨ret_eq1 (bool_eq (by have h := Hr.out; simpa using h.symm)), rfl⟩
        go_wp2
        go_ret
        exact ⟨ret_eq1 (bool_eq (by have h := Hr.out; simpa using h.symm)), rfl⟩
       go_wp2
       go_ret
       exact ⟨ret_eq1 (bool_eq (by have h := Hr.out; simpa using h.symm)), rfl⟩
      go_wp2
      go_ret
      exact ⟨ret_eq1 (bool_eq (by have h := Hr.out; simpa using h.symm)), rfl⟩
     go_wp2
     go_ret
     exact ⟨ret_eq1 (bool_eq (by have h := Hr.out; simpa using h.symm)), rfl⟩
    go_wp2
    go_ret
    exact ⟨ret_eq1 (bool_eq (by have h := Hr.out; simpa using h.symm)), rfl⟩
   go_wp2
   go_ret
   exact ⟨ret_eq1 (bool_eq (by have h := Hr.out; simpa using h.symm)), rfl⟩
  go_wp2
  go_ret
  exact ⟨ret_eq1 (bool_eq (by have h := Hr.out; simpa using h.symm)), rfl⟩
 go_wp2
 go_ret
 exact ⟨ret_eq1 (bool_eq (by have h := Hr.out; simpa using h.symm)), rfl⟩
set_option maxHeartbeats 8000000 in
theorem refFurther_any (r : Int) (w : World) : Calls Tryz.prog 143 #[.int .i64 r] w fun e w' => e = .returned (.bool (furtherOk r)) ∧ w' = w := by
 obtain ⟨z, hz⟩ : ∃ z, furtherOk r = z := ⟨_, rfl⟩;rw [hz];rw [furtherOk_is] at hz;have H0 := hide (refFirst_any r);generalize firstOk r = a0 at *
 have e1 : (r == 45) = decide (r = 45) := by rw [Bool.eq_iff_iff, beq_iff_eq, decide_eq_true_iff]
 generalize decide (r = 45) = a1 at *
 have e2 : (r == 46) = decide (r = 46) := by rw [Bool.eq_iff_iff, beq_iff_eq, decide_eq_true_iff]
 generalize decide (r = 46) = a2 at *
 have H3 := hide (refWithin_any r 48 57);generalize Tk.within r 48 57 = a3 at *
 have e4 : (r == 183) = decide (r = 183) := by rw [Bool.eq_iff_iff, beq_iff_eq, decide_eq_true_iff]
 generalize decide (r = 183) = a4 at *
 have H5 := hide (refWithin_any r 768 879);generalize Tk.within r 768 879 = a5 at *
 have e6 : (r == 8255) = decide (r = 8255) := by rw [Bool.eq_iff_iff, beq_iff_eq, decide_eq_true_iff]
 generalize decide (r = 8255) = a6 at *
 have e7 : (r == 8256) = decide (r = 8256) := by rw [Bool.eq_iff_iff, beq_iff_eq, decide_eq_true_iff]
 generalize decide (r = 8256) = a7 at *
 have Hr := hide hz.symm;clear hz
 go_enter Tryz.func143, Tryz.ntmps143
 go_wp2_with fail
 refine cq (H0.out _) ?_
 cases a0
 ·skip
  cases a1
  ·skip
   cases a2
   ·skip
    go_wp2_with fail
    refine cq (H3.out _) ?_
    cases a3
    ·skip
     cases a4
     ·skip
      go_wp2_with fail
      refine cq (H5.out _) ?_
      cases a5
      ·skip
       cases a6
       ·skip
        cases a7
        ·go_wp2
         go_ret
         exact ⟨ret_eq1 (bool_eq (by have h := Hr.out; simpa using h.symm)), rfl⟩
        go_wp2
        go_ret
        exact ⟨ret_eq1 (bool_eq (by have h := Hr.out; simpa using h.symm)), rfl⟩
       go_wp2
       go_ret
       exact ⟨ret_eq1 (bool_eq (by have h := Hr.out; simpa using h.symm)), rfl⟩
      go_wp2
      go_ret
      exact ⟨ret_eq1 (bool_eq (by have h := Hr.out; simpa using h.symm)), rfl⟩
     go_wp2
     go_ret
     exact ⟨ret_eq1 (bool_eq (by have h := Hr.out; simpa using h.symm)), rfl⟩
    go_wp2
    go_ret
    exact ⟨ret_eq1 (bool_eq (by have h := Hr.out; simpa using h.symm)), rfl⟩
   go_wp2
   go_ret
   exact ⟨ret_eq1 (bool_eq (by have h := Hr.out; simpa using h.symm)), rfl⟩
  go_wp2
  go_ret
  exact ⟨ret_eq1 (bool_eq (by have h := Hr.out; simpa using h.symm)), rfl⟩
 go_wp2
 go_ret
 exact ⟨ret_eq1 (bool_eq (by have h := Hr.out; simpa using h.symm)), rfl⟩
end
section
open Tk Sx

theorem sref_app : ∀ (a : L) (f k : Nat) (l : L), (38 : UInt8) ∉ a → sref (a.length + f) k (a ++ l) = glueE a (sref f (k + a.length) l)
 | [], f, k, l, _ => by rw [List.length_nil, Nat.zero_add, List.nil_append, Nat.add_zero]; cases sref f k l <;> rfl
 | c :: a, f, k, l, h => by
  rw [List.length_cons, show a.length + 1 + f = (a.length + f) + 1 by omega, List.cons_append, sref_byte (fun e => h (by rw [e]; exact List.mem_cons_self ..)),
   sref_app a f (k + 1) l (fun hm => h (List.mem_cons_of_mem _ hm)), glueE_glue, show k + 1 + a.length = k + (a.length + 1) by omega]
  rfl
theorem sref_plain {l : L} {f k : Nat} (h : (38 : UInt8) ∉ l) (hf : l.length ≤ f) : sref f k l = .ok l := by
 have := sref_app l (f - l.length) k [] h;rw [List.append_nil, show l.length + (f - l.length) = f by omega, sref_nil] at this;rw [this];simp [glueE]
end
section
open Go.RowKit Tk Sx

def okS : List Int → Bool
 | [] => true
 | r :: t => firstOk r && t.all furtherOk
theorem okS_cons (r : Int) (t : List Int) : okS (r :: t) = (firstOk r && t.all furtherOk) := rfl
theorem from_len : ∀ (n : Nat) (l : L) (at_ : Nat), l.length ≤ n → (Utf.from_ at_ l).length ≤ l.length
 | _, [], _, _ => by rw [Utf.from_nil]; exact Nat.le_refl _
 | 0, c :: l, _, h => by simp at h
 | n + 1, c :: l, at_, h => by
  have hn := Utf.piece_n c l;rw [Utf.from_cons];have := from_len n ((c :: l).drop (Utf.piece (c :: l)).2.toNat) (at_ + (Utf.piece (c :: l)).2.toNat) (by rw [List.length_drop]; simp only [List.length_cons] at h ⊢; omega);rw [List.length_drop] at this;rw [List.length_cons];omega
theorem from_ge : ∀ (n : Nat) (l : L) (at_ : Nat), l.length ≤ n → ∀ p ∈ Utf.from_ at_ l, at_ ≤ p.1
 | _, [], _, _, p, hp => by rw [Utf.from_nil] at hp; cases hp
 | 0, c :: l, _, h, _, _ => by simp at h
 | n + 1, c :: l, at_, h, p, hp => by
  have hn := Utf.piece_n c l;rw [Utf.from_cons] at hp
  rcases List.mem_cons.1 hp with rfl | hp
  ·exact Nat.le_refl _
  have := from_ge n _ _ (by rw [List.length_drop]; simp only [List.length_cons] at h ⊢; omega) p hp;omega
theorem valid_neg (n : Nat) : ∀ (l : L) (at_ : Nat), l.length ≤ n → Utf.valid l = false → ∃ p ∈ Utf.from_ at_ l, p.2 < 0 := by
 induction n with
 | zero =>
  intro l at_ h hv;have : l = [] := List.eq_nil_of_length_eq_zero (by omega);subst this;rw [Utf.valid_nil] at hv;cases hv
 | succ n ih =>
  intro l at_ h hv
  cases l with
  | nil => rw [Utf.valid_nil] at hv; cases hv
  | cons c l =>
   have hn := Utf.piece_n c l;rw [Utf.from_cons];rw [Utf.valid_cons] at hv;generalize Utf.piece (c :: l) = q at *
   obtain ⟨q1, q2⟩ := q;dsimp only at hv hn ⊢
   by_cases hneg : q1 < 0
   ·exact ⟨(at_, q1), List.mem_cons_self .., hneg⟩
   rw [if_neg hneg] at hv;have hd : ((c :: l).drop q2.toNat).length ≤ n := by rw [List.length_drop]; simp only [List.length_cons] at h ⊢; omega
   obtain ⟨p, h1, h2⟩ := ih _ (at_ + q2.toNat) hd hv;exact ⟨p, List.mem_cons_of_mem _ h1, h2⟩
theorem plainOk_scals (l : L) : plainOk l = (!l.isEmpty && (Utf.valid l && okS (scals l))) := by
 unfold plainOk;congr 1
 cases hv : Utf.valid l with
 | false =>
  obtain ⟨p, h1, h2⟩ := valid_neg l.length l 0 (Nat.le_refl _) hv;rw [Bool.false_and];unfold stop;rw [Option.isNone_map]
  cases hf : (Utf.pieces l).find? fun p => !plainAt p.1 p.2 with
  | some q => rfl
  | none =>
   have := List.find?_eq_none.1 hf p h1;rw [plainAt_neg _ _ h2] at this;simp at this
 | true =>
  rw [Bool.true_and];unfold stop scals;rw [Option.isNone_map, pieces_from]
  cases l with
  | nil => rfl
  | cons c l =>
   have hn := Utf.piece_n c l;rw [Utf.from_cons]
   have hrest : ∀ p ∈ Utf.from_ (0 + (Utf.piece (c :: l)).2.toNat) ((c :: l).drop (Utf.piece (c :: l)).2.toNat), plainAt p.1 p.2 = furtherOk p.2 := fun p hp => by
    have := from_ge _ _ _ (Nat.le_refl _) p hp;unfold plainAt;rw [if_neg (by omega)]
   generalize Utf.from_ (0 + (Utf.piece (c :: l)).2.toNat) ((c :: l).drop (Utf.piece (c :: l)).2.toNat) = ps at *
   rw [List.find?_cons, List.map_cons];have h0 : plainAt 0 (Utf.piece (c :: l)).1 = firstOk (Utf.piece (c :: l)).1 := by unfold plainAt; rw [if_pos rfl]
   dsimp only;rw [h0];rw [okS_cons]
   cases hf : firstOk (Utf.piece (c :: l)).1 with
   | false => simp
   | true =>
    simp only [Bool.not_true, Bool.true_and];rw [Bool.eq_iff_iff, Option.isNone_iff_eq_none, List.find?_eq_none, List.all_eq_true]
    constructor
    ·intro h x hx;obtain ⟨p, hp, rfl⟩ := List.mem_map.1 hx;have := h p hp;rw [hrest p hp] at this
     simpa using this
    intro h p hp;rw [hrest p hp, h p.2 (List.mem_map_of_mem hp)];simp
theorem first_further' {r : Int} (h : firstOk r = true) : furtherOk r = true := by unfold furtherOk; rw [h]; rfl
theorem okS_take {l : List Int} (h : ∀ j r, l[j]? = some r → (if j = 0 then firstOk r else furtherOk r) = true) : okS l = true := by
 cases l with
 | nil => rfl
 | cons r t =>
  rw [okS_cons, show firstOk r = true from h 0 r rfl, Bool.true_and, List.all_eq_true];intro x hx;obtain ⟨j, hj⟩ := List.getElem?_of_mem hx;have := h (j + 1) x hj;rwa [if_neg (by omega)] at this
theorem okS_at {l : List Int} (h : okS l = true) {j : Nat} {r : Int} (hj : l[j]? = some r) : (if j = 0 then firstOk r else furtherOk r) = true := by
 cases l with
 | nil => cases hj
 | cons x t =>
  rw [okS_cons, Bool.and_eq_true, List.all_eq_true] at h
  cases j with
  | zero =>
   simp only [List.getElem?_cons_zero, Option.some.injEq] at hj;subst hj;exact h.1
  | succ j =>
   rw [if_neg (by omega)];rw [List.getElem?_cons_succ] at hj;exact h.2 r (List.mem_of_getElem? hj)
theorem scal_at {w : World} {B : Nat} {A : Option Addr} {l : List Int} (h : Reads w B 1 A l.length (intRow l)) {k : Nat} {x : Int} (hx : l[k]? = some x) : ∃ b off, A = some ⟨b, off, none⟩ ∧ b < B ∧ w.cell? ⟨b, off + k, none⟩ = some (.int .i64 x) := by
 obtain ⟨hk, he⟩ := List.getElem?_eq_some_iff.1 hx;obtain ⟨b, off, hA, hb, hc⟩ := h.2 (by omega);exact ⟨b, off, hA, hb, hc k _ (by unfold intRow; rw [List.getElem?_map, hx]; rfl)⟩

set_option maxHeartbeats 8000000 in
theorem refPlain_any (l : L) (w : World) (hl : l.length ≤ 1000000000) : Calls Tryz.prog 123 #[.string (bstr l)] w fun e w' => e = .returned (.bool (plainOk l)) ∧ Below w.heap.size w w' := by
 have hem : (bstr l).toList.isEmpty = decide (l = []) := by rw [ByteArray.toList_eq, bstr_list]; cases l <;> simp
 have hem2 : ((bstr l).toList == ([] : L)) = decide (l = []) := lit_eq (bstr l) [];have HV := hide (fun W => refValid_any (bstr l) W (by rw [bstr_size]; exact hl));rw [bstr_list] at HV;have HPl := hide (plainOk_scals l);obtain ⟨b, hb⟩ : ∃ b, plainOk l = b := ⟨_, rfl⟩;rw [hb] at HPl ⊢;clear hb
 by_cases h : l = []
 ·rw [decide_eq_true h] at hem hem2;have Hr := hide (show false = b by rw [HPl.out, h]; rfl);clear h
  go_enter Tryz.func123, Tryz.ntmps123
  go_wp2;go_ret;exact ⟨ret_eq1 (bool_eq Hr.out), Below.refl _ _⟩
 rw [decide_eq_false h] at hem hem2
 have hne : (!l.isEmpty) = true := by cases l with
  | nil => exact absurd rfl h
  | cons => rfl
 cases hv : Utf.valid l with
 | false =>
  rw [hv] at HV;have Hr := hide (show false = b by rw [HPl.out, hv]; simp);clear h hne hv
  go_enter Tryz.func123, Tryz.ntmps123
  go_wp2_with fail
  refine (HV.out _).mono ?_
  rintro e w1 ⟨rfl, b1⟩
  go_wp2;go_ret;exact ⟨ret_eq1 (bool_eq Hr.out), b1⟩
 | true =>
  rw [hv] at HV;have HS := hide (fun W => scalarsV_any (bstr l) W (by rw [bstr_size]; exact hl) (by rw [bstr_list]; exact hv));rw [bstr_list] at HS;have Hb := hide (show b = okS (scals l) by rw [HPl.out, hne, hv]; rfl);obtain ⟨rs, hrs⟩ : ∃ rs, scals l = rs := ⟨_, rfl⟩
  have hrl : rs.length ≤ 1000000000 := by
   have h1 := from_len l.length l 0 (Nat.le_refl _);rw [← hrs];unfold scals;rw [List.length_map, pieces_from];omega
  rw [hrs] at HS Hb;have HF := hide (fun r W => refFirst_any r W);have HU := hide (fun r W => refFurther_any r W);clear h hne hv hrs HPl
  go_enter Tryz.func123, Tryz.ntmps123
  go_wp2_with fail
  refine (HV.out _).mono ?_
  rintro e w1 ⟨rfl, b1⟩
  have B1 := hide b1;clear b1
  go_wp2_with fail
  refine (HS.out _).mono ?_;rintro e w2 ⟨A, c, rfl, b2, hrd⟩;have B2 := hide (B1.out.trans (b2.mono B1.out.size));have HRd := hide hrd;obtain ⟨n, hn⟩ : ∃ n, rs.length = n := ⟨_, rfl⟩;have Hn := hide hn;rw [hn] at HRd hrl ⊢;clear b2 hrd hn;go_wp2
  go_loopg [5] n (fun gk vk wr => ∃ i : Nat, gk = n - i ∧ i ≤ n ∧ vk = .int .i64 (i : Int) ∧ wr = w2 ∧ ∀ j r, j < i → rs[j]? = some r → (if j = 0 then firstOk r else furtherOk r) = true)
  case atStart => exact ⟨0, rfl, Nat.zero_le _, rfl, rfl, fun j r hj => by omega⟩
  case round =>
   obtain ⟨i, hgi, hi, rfl, rfl, hok⟩ := hrel;have Hgi := hide hgi;have Hok := hide hok;clear hgi hok
   by_cases hlt : i < n
   ·obtain ⟨r, hr⟩ : ∃ r, rs[i]? = some r := ⟨_, List.getElem?_eq_getElem (by rw [Hn.out]; exact hlt)⟩;have hrd := HRd.out;rw [← Hn.out] at hrd;obtain ⟨b', off, rfl, hbl, y0⟩ := scal_at hrd hr;have HR := hide hr;have hFi := HF.out r wr;have hFu := HU.out r wr;have Hf1 := hide (fun (h : firstOk r = true) => first_further' h);have HFi := hide hFi;have HFu := hide hFu
    have hbad : Hid ((if i = 0 then firstOk r else furtherOk r) = false → false = b) := hide fun h => by
     rw [Hb.out]
     cases ho : okS rs with
     | false => rfl
     | true => rw [okS_at ho HR.out] at h; cases h
    have hgood : Hid ((if i = 0 then firstOk r else furtherOk r) = true → ∀ j r', j < i + 1 → rs[j]? = some r' → (if j = 0 then firstOk r' else furtherOk r') = true) := hide fun h j r' hj hjr => by
     by_cases he : j = i
     ·subst he;rw [HR.out] at hjr;rw [← Option.some.inj hjr];exact h
     exact Hok.out j r' (by omega) hjr
    obtain ⟨f1, hf1⟩ : ∃ f, firstOk r = f := ⟨_, rfl⟩;obtain ⟨f2, hf2⟩ : ∃ f, furtherOk r = f := ⟨_, rfl⟩;rw [hf1] at HFi hbad hgood Hf1;rw [hf2] at HFu hbad hgood Hf1;clear hr hrd hFi hFu hf1 hf2
    by_cases hi0 : i = 0
    ·have e0 : ((i : Int) == 0) = true := by rw [beq_iff_eq]; omega
     rw [if_pos hi0] at hbad hgood
     cases f1 with
     | false =>
      clear hi0
      go_wp2_with fail
      refine cq HFi.out ?_;go_wp2;go_ret;exact ⟨ret_eq1 (bool_eq (hbad.out (by trivial))), B2.out⟩
     | true =>
      have h2 : f2 = true := Hf1.out rfl;subst h2;clear hi0
      go_wp2_with fail
      refine cq HFi.out ?_
      go_wp2_with fail
      refine cq HFu.out ?_;go_wp2
      go_roundg (n - (i + 1))
      case measure => have := Hgi.out; omega
      case rel => exact ⟨i + 1, rfl, by omega, by first | rfl | go_num, rfl, hgood.out (by trivial)⟩
    have e0 : ((i : Int) == 0) = false := by rw [beq_eq_false_iff_ne]; omega
    rw [if_neg hi0] at hbad hgood
    cases f2 with
    | false =>
     clear hi0
     go_wp2_with fail
     refine cq HFu.out ?_;go_wp2;go_ret;exact ⟨ret_eq1 (bool_eq (hbad.out (by trivial))), B2.out⟩
    | true =>
     clear hi0
     go_wp2_with fail
     refine cq HFu.out ?_;go_wp2
     go_roundg (n - (i + 1))
     case measure => have := Hgi.out; omega
     case rel => exact ⟨i + 1, rfl, by omega, by first | rfl | go_num, rfl, hgood.out (by trivial)⟩
   have Hr := hide (show true = b by
    rw [Hb.out];exact (okS_take fun j r hjr => Hok.out j r (by have := (List.getElem?_eq_some_iff.1 hjr).1; rw [Hn.out] at this; omega) hjr).symm)
   go_wp2;go_ret;exact ⟨ret_eq1 (bool_eq Hr.out), B2.out⟩
end
section
open Go.RowKit Tk Sx

theorem plain_colon {l : L} (h : plainOk l = true) : (58 : UInt8) ∉ l := fun hm => by
 obtain ⟨a, b, rfl⟩ := List.append_of_mem hm;rw [plainOk_scals] at h;simp only [Bool.and_eq_true] at h;obtain ⟨_, hv, ho⟩ := h;have hva := Utf.valid_split (by decide) hv
 have hs : scals (a ++ 58 :: b) = (Utf.from_ 0 a).map (·.2) ++ 58 :: (Utf.from_ (0 + a.length + 1) b).map (·.2) := by
  unfold scals;rw [pieces_from, Utf.from_app hva, List.map_append, Utf.from_cons, Utf.piece_ascii (by decide)];rfl
 rw [hs] at ho;have := okS_at ho (j := ((Utf.from_ 0 a).map (·.2)).length) (r := 58) (by rw [List.getElem?_append_right (Nat.le_refl _), Nat.sub_self]; rfl)
 split at this
 ·exact absurd this (by decide)
 exact absurd this (by decide)
theorem index_colon : ∀ {a : L} (b : L), (58 : UInt8) ∉ a → Lib.index (a ++ 58 :: b) [58] = (a.length : Int)
 | [], b, _ => by
  unfold Lib.index;rfl
 | c :: a, b, h => by
  have ih := index_colon (a := a) b (fun hm => h (List.mem_cons_of_mem _ hm));have hc : c ≠ 58 := fun e => h (by rw [e]; exact List.mem_cons_self ..)
  rw [List.cons_append, Lib.index, if_neg (by
   simp only [List.isPrefixOf, Bool.and_eq_true, beq_iff_eq];exact fun hh => hc hh.1.symm), ih, if_neg (by
   rw [beq_iff_eq]; omega), List.length_cons]
  omega
theorem index_colon_none : ∀ {a : L}, (58 : UInt8) ∉ a → Lib.index a [58] = -1
 | [], _ => rfl
 | c :: a, h => by
  have ih := index_colon_none (a := a) (fun hm => h (List.mem_cons_of_mem _ hm));have hc : c ≠ 58 := fun e => h (by rw [e]; exact List.mem_cons_self ..)
  rw [Lib.index, if_neg (by
   simp only [List.isPrefixOf, Bool.and_eq_true, beq_iff_eq];exact fun hh => hc hh.1.symm), ih]
  rfl
def goodAt (l : L) (j : Nat) : Prop := l[j]? = some 58 ∧ plainOk (l.take j) = true ∧ plainOk (l.drop (j + 1)) = true
theorem at_split {l : L} {j : Nat} {c : UInt8} (h : l[j]? = some c) : l = l.take j ++ c :: l.drop (j + 1) := by
 obtain ⟨h1, h2⟩ := List.getElem?_eq_some_iff.1 h;rw [← h2, ← List.drop_eq_getElem_cons h1, List.take_append_drop]
theorem cut_colon {a b : L} (h : (58 : UInt8) ∉ a) : Lib.cut (a ++ 58 :: b) [58] = (a, b, true) := by
 have hi := index_colon b h;unfold Lib.cut;rw [hi];rw [if_pos (by omega)];simp
theorem cut_colon_none {l : L} (h : (58 : UInt8) ∉ l) : Lib.cut l [58] = (l, [], false) := by
 have hi := index_colon_none h;unfold Lib.cut;rw [hi];rfl
theorem split_plain {l : L} (h : plainOk l = true) : split l = some ([], l) := by
 unfold split;rw [cut_colon_none (plain_colon h)];simp [h]
theorem split_good {l : L} {j : Nat} (h : goodAt l j) : split l = some (l.take j, l.drop (j + 1)) := by
 obtain ⟨h1, h2, h3⟩ := h;have hc := cut_colon (b := l.drop (j + 1)) (plain_colon h2);rw [← at_split h1] at hc;unfold split;rw [hc];simp [h2, h3]
theorem split_none {l : L} (h : plainOk l = false) (hg : ∀ j, ¬ goodAt l j) : split l = none := by
 by_cases hm : (58 : UInt8) ∈ l
 ·obtain ⟨j, hj, hmin⟩ : ∃ j, l[j]? = some 58 ∧ (58 : UInt8) ∉ l.take j := by
   obtain ⟨a, b, hab, hna⟩ := List.eq_append_cons_of_mem hm;exact ⟨a.length, by rw [hab, List.getElem?_append_right (Nat.le_refl _), Nat.sub_self]; rfl, by rw [hab, List.take_left]; exact hna⟩
  have hc := cut_colon (b := l.drop (j + 1)) hmin;rw [← at_split hj] at hc;unfold split;rw [hc];dsimp only;rw [if_pos rfl, if_neg];intro hh;rw [Bool.and_eq_true] at hh;exact hg j ⟨hj, hh.1, hh.2⟩
 unfold split;rw [cut_colon_none hm];simp [h]

set_option maxHeartbeats 8000000 in
theorem refSplit_any (l : L) (w : World) (hl : l.length ≤ 1000000000) : Calls Tryz.prog 91 #[.string (bstr l)] w fun e w' => e = .returned (splV (split l)) ∧ Below w.heap.size w w' := by
 have HP := hide (fun (x : L) W (hx : x.length ≤ 1000000000) => refPlain_any x W hx);have HI : Hid (∀ (k : Nat) (c : UInt8), l[k]? = some c → ∀ w, (Instr.index 9 (.string (bstr l)) (.int .i64 (k : Int))).run Tryz.prog w = .ok (.int .u8 (c.toNat : Nat)) w) := hide fun k c h => idx_run (bstr l) k c (by rw [bstr_list]; exact h);have HEx := hide (show ∀ a b : Nat, (bstr l).extract a b = bstr ((l.drop a).take (b - a)) from fun a b => by rw [extract_bstr, bstr_list]);obtain ⟨n, hn⟩ : ∃ n, (bstr l).size = n := ⟨_, rfl⟩;have hnl : n = l.length := by rw [← hn, bstr_size]
 have Hnl := hide hnl;have HP0 := hide (HP.out l w hl);obtain ⟨b, hb⟩ : ∃ b, plainOk l = b := ⟨_, rfl⟩;rw [hb] at HP0
 cases b with
 | true =>
  have Hr := hide (split_plain hb);clear hb hnl
  go_enter Tryz.func91, Tryz.ntmps91
  go_wp2_with fail
  refine (HP0.out).mono ?_
  rintro e w1 ⟨rfl, b1⟩
  go_wp2;go_ret3;rw [Hr.out];exact ⟨rfl, b1⟩
 | false =>
  have Hb := hide hb;have hl2 : n ≤ 1000000000 := by rw [hnl]; exact hl
  clear hb hnl
  go_enter Tryz.func91, Tryz.ntmps91
  go_wp2_with fail
  refine (HP0.out).mono ?_
  rintro e w1 ⟨rfl, b1⟩
  have B1 := hide b1;clear b1 HP0;go_wp2
  go_loopg [5] n (fun gk vk wr => ∃ i : Nat, gk = n - i ∧ i ≤ n ∧ vk = .int .i64 (i : Int) ∧ Below w.heap.size w wr ∧ ∀ j, j < i → ¬ goodAt l j)
  case atStart => exact ⟨0, rfl, Nat.zero_le _, rfl, B1.out, fun j hj => by omega⟩
  case round =>
   obtain ⟨i, hgi, hi, rfl, hw, hno⟩ := hrel;have Hgi := hide hgi;have Hno := hide hno;have HW := hide hw;clear hgi hno hw
   by_cases hlt : i < n
   ·obtain ⟨c, hc⟩ : ∃ c, l[i]? = some c := ⟨_, List.getElem?_eq_getElem (by rw [← Hnl.out]; exact hlt)⟩;have hix := HI.out i c hc;have HC := hide hc
    have e1 : ((c.toNat : Int) == 58) = (c == 58) := by
     rw [Bool.eq_iff_iff, beq_iff_eq, beq_iff_eq];exact ⟨fun h => UInt8.toNat_inj.1 (by have : (58 : UInt8).toNat = 58 := rfl; omega), fun h => by rw [h]; rfl⟩
    have next : ¬ goodAt l i → ∀ j, j < i + 1 → ¬ goodAt l j := fun h j hj => by
     by_cases he : j = i
     ·rw [he]; exact h
     exact Hno.out j (by omega)
    have Next := hide next;clear hc next
    by_cases h58 : c = 58
    ·rw [show (c == 58) = true by rw [h58]; rfl] at e1;have H58 := hide (show l[i]? = some 58 by rw [HC.out, h58]);have hwi : IntKind.i64.wrap ((i : Int) + 1) = ((i + 1 : Nat) : Int) := by rw [IntWalk.i64_in _ (by omega)]; omega
     have hex1 := HEx.out 0 i;rw [List.drop_zero, Nat.sub_zero] at hex1
     have hex2 : (bstr l).extract (i + 1) n = bstr (l.drop (i + 1)) := by
      rw [HEx.out, List.take_of_length_le (by rw [List.length_drop, ← Hnl.out]; exact Nat.le_refl _)]
     have hP1 := HP.out (l.take i) wr (by rw [List.length_take, ← Hnl.out]; omega);have HP1 := hide hP1;have HP2 := hide (fun W => HP.out (l.drop (i + 1)) W (by rw [List.length_drop, ← Hnl.out]; omega));obtain ⟨p1, hp1⟩ : ∃ p, plainOk (l.take i) = p := ⟨_, rfl⟩;obtain ⟨p2, hp2⟩ : ∃ p, plainOk (l.drop (i + 1)) = p := ⟨_, rfl⟩;rw [hp1] at HP1;rw [hp2] at HP2;have Hp1 := hide hp1;have Hp2 := hide hp2;have hin : i + 1 ≤ n := by omega
     clear h58 hP1 hp1 hp2;generalize c.toNat = q at *
     cases p1 with
     | false =>
      have HN := hide (show ¬ goodAt l i from fun h => by rw [h.2.1] at Hp1; cases Hp1.out)
      go_wp2_with fail
      refine HP1.out.mono ?_;rintro e w2 ⟨rfl, b2⟩;have B2 := hide (HW.out.trans (b2.mono HW.out.size));clear b2;go_wp2
      go_roundg (n - (i + 1))
      case measure => have := Hgi.out; omega
      case rel => exact ⟨i + 1, rfl, by omega, by first | rfl | go_num, B2.out, Next.out HN.out⟩
     | true =>
      go_wp2_with fail
      refine HP1.out.mono ?_;rintro e w2 ⟨rfl, b2⟩;have B2 := hide (HW.out.trans (b2.mono HW.out.size));clear b2
      go_wp2_with fail
      refine (HP2.out _).mono ?_;rintro e w3 ⟨rfl, b3⟩;have B3 := hide (B2.out.trans (b3.mono B2.out.size));clear b3
      cases p2 with
      | false =>
       have HN := hide (show ¬ goodAt l i from fun h => by rw [h.2.2] at Hp2; cases Hp2.out);go_wp2
       go_roundg (n - (i + 1))
       case measure => have := Hgi.out; omega
       case rel => exact ⟨i + 1, rfl, by omega, by first | rfl | go_num, B3.out, Next.out HN.out⟩
      | true =>
       have Hr := hide (split_good (l := l) (j := i) ⟨H58.out, Hp1.out, Hp2.out⟩);go_wp2
       go_quiet (fail)
       go_wp2;go_ret3;rw [Hr.out];exact ⟨rfl, below_drewN B3.out _⟩
    rw [show (c == 58) = false by rw [beq_eq_false_iff_ne]; exact h58] at e1
    have HN := hide (show ¬ goodAt l i from fun h => by
     have h1 := h.1;rw [HC.out] at h1;exact h58 (Option.some.inj h1))
    clear h58;generalize c.toNat = q at *
    go_wp2
    go_roundg (n - (i + 1))
    case measure => have := Hgi.out; omega
    case rel => exact ⟨i + 1, rfl, by omega, by first | rfl | go_num, HW.out, Next.out HN.out⟩
   have Hr := hide (split_none Hb.out (fun j hg => by
    have hj := (List.getElem?_eq_some_iff.1 hg.1).1;exact Hno.out j (by have := Hnl.out; omega) hg))
   go_wp2;go_ret3;rw [Hr.out];exact ⟨rfl, HW.out⟩
end
end Go.Proofs.YtbbpkcddifmieaaGreatDoor
