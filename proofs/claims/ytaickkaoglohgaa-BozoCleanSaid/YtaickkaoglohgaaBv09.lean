/- Strict: the program's Space. · The document's Char and Bad. (Printed by wip/genTkZb.py.) · References: what a name names; a number's scalar. (Printed by wip/genSxB.py.) · References: a number's scalar. · References: a number's scalar: the walk. · References: the document's names, digits, where a reference ends. (Printed by wip/genSxG.py.) · References: the document's Number. (Printed by wip/genSxH.py.) · The document's Put: a scalar's bytes. · References: the document's Strict: the text that a text with references stands for. -/
import Derived.Test.YtaickkaoglohgaaBv01
import Derived.Test.YtaickkaoglohgaaBv02
import Derived.Test.YtaickkaoglohgaaBv04
import Derived.Test.YtaickkaoglohgaaBv05
import Derived.Test.YtaickkaoglohgaaBv06
import Derived.Test.YtaickkaoglohgaaBv08
import Derived.Test.YtaickkaoglohgaaShelf
set_option linter.unusedSimpArgs false
set_option linter.unusedVariables false
namespace Go.Proofs.Ytaickkaoglohgaa
open Go.RowKit Tk Sx

set_option maxHeartbeats 8000000 in
theorem space15_any (A : Option Addr) (c B : Nat) (l : List Dcl) (p : L) (w : World) (h : Reads w B 2 A l.length (dcls l)) (hB : B ≤ w.heap.size) (hl : l.length ≤ 1000000000) :
    Calls Try.prog 75 #[.slice A l.length c, .string (bstr p)] w fun e w' => e = .returned (spV (spaceOf l p)) ∧ Below w.heap.size w w' := by
  have hx : ((bstr p).toList == [120, 109, 108]) = decide (p = pXml) := by rw [ByteArray.toList_eq, bstr_list, Bool.eq_iff_iff, beq_iff_eq, decide_eq_true_iff]; exact Iff.rfl
  have hem : (bstr p).toList.isEmpty = decide (p = []) := by rw [ByteArray.toList_eq, bstr_list]; cases p <;> simp
  obtain ⟨z, hz⟩ : ∃ z, spaceOf l p = z := ⟨_, rfl⟩
  rw [hz]
  unfold spaceOf at hz
  have HR := hide h
  obtain ⟨n, hn⟩ : ∃ n, l.length = n := ⟨_, rfl⟩
  have Hn := hide hn
  rw [hn] at hz hl ⊢
  clear h hn
  by_cases hp : p = pXml
  · rw [decide_eq_true hp] at hx
    have Hr := hide (show spV z = .tuple #[.string (bstr xmlNs), .bool true] by rw [← hz, if_pos hp]; rfl)
    clear hz hp
    go_enter Try.func75, Try.ntmps75
    go_wp2
    go_ret2
    rw [Hr.out]
    exact ⟨rfl, Below.refl _ _⟩
  rw [decide_eq_false hp] at hx
  rw [if_neg hp] at hz
  have Hz := hide hz
  clear hz hp
  go_enter Try.func75, Try.ntmps75
  go_wp2
  go_loopg [12] n (fun g v wr => ∃ i m : Nat, g = m ∧ i + m = n ∧ v = .int .i64 (i : Int) ∧ spaceAt l p m = z ∧ Below w.heap.size w wr)
  case atStart => exact ⟨0, n, rfl, by omega, rfl, Hz.out, Below.refl _ _⟩
  case round =>
    obtain ⟨i, m, hg, him, rfl, hzm, hbl⟩ := hrel
    have Hg := hide hg
    have Hzm := hide hzm
    have HB := hide hbl
    clear hg hzm Hz hbl
    cases m with
    | zero =>
      have Hr := hide (show spV z = .tuple #[.string ⟨#[]⟩, .bool (decide (p = []))] by rw [← Hzm.out, spaceAt_zero]; rfl)
      have g0 : ¬ i < n := by omega
      clear him
      go_wp2
      go_ret2
      rw [Hr.out]
      exact ⟨rfl, HB.out⟩
    | succ m =>
      have h1 : m < l.length := by rw [Hn.out]; omega
      obtain ⟨b, off, rfl, hb, c0, c1⟩ := Reads.dcl (HR.out.below (HB.out.mono hB)) h1
      have hst := spaceAt_step (p := p) h1
      have hq := beq_bstr l[m].pre p
      obtain ⟨d, hd⟩ : ∃ d, l[m] = d := ⟨_, rfl⟩
      rw [hd] at c0 c1 hst hq
      have hin : i < n := by omega
      have hmn : m < n := by omega
      have hw1 : IntKind.i64.wrap ((n : Int) - 1) = (n : Int) - 1 := IntWalk.i64_in _ (by omega)
      have hw2 : IntKind.i64.wrap ((n : Int) - 1 - (i : Int)) = (m : Int) := by rw [IntWalk.i64_in _ (by omega)]; omega
      have Him := hide him
      have HT := hide (Blk.new wr 97 #[.string (bstr d.pre), .string (bstr d.ns)])
      have HB2 := hide (HB.out.alloc HB.out.size (.cells #[.string (bstr d.pre), .string (bstr d.ns)] 97))
      have y0 := Blk.cell HT.out 0
      have y1 := Blk.cell HT.out 1
      clear him
      by_cases he : d.pre = p
      · rw [decide_eq_true he] at hq
        have Hr := hide (show spV z = .tuple #[.string (bstr d.ns), .bool true] by rw [← Hzm.out, hst, if_pos he]; rfl)
        clear hst he hd
        go_wp2
        go_ret2
        rw [Hr.out]
        exact ⟨rfl, HB2.out⟩
      · rw [decide_eq_false he] at hq
        have Hn2 := hide (show spaceAt l p m = z by rw [← Hzm.out, hst, if_neg he])
        clear hst he hd
        go_wp2
        go_roundg m
        case measure => have := Hg.out; omega
        case rel => exact ⟨i + 1, m, rfl, by have := Him.out; omega, by first | rfl | go_num, Hn2.out, HB2.out⟩
end Go.Proofs.Ytaickkaoglohgaa
namespace Go.Proofs.Ytaickkaoglohgaa
open Go.RowKit Tk

theorem refWithin_any (r a b : Int) (w : World) : Calls Try.prog 43 #[.int .i64 r, .int .i64 a, .int .i64 b] w fun e w' => e = .returned (.bool (Tk.within r a b)) ∧ w' = w := by
  unfold Tk.within
  by_cases h1 : a ≤ r
  · by_cases h2 : r ≤ b
    · go_enter Try.func43, Try.ntmps43
      go_wp2
      go_ret
      simp [h1, h2]
    · go_enter Try.func43, Try.ntmps43
      go_wp2
      go_ret
      simp [h1, h2]
  · go_enter Try.func43, Try.ntmps43
    go_wp2
    go_ret
    simp [h1]
    intro h
    omega
theorem charOk_is (r : Int) : charOk r = (decide (r = 9) || (decide (r = 10) || (decide (r = 13) || (Tk.within r 32 55295 || (Tk.within r 57344 65533 || Tk.within r 65536 1114111))))) := by
  have e : (Tk.within r 9 10 || Tk.within r 13 13) = (decide (r = 9) || (decide (r = 10) || decide (r = 13))) := by
    unfold Tk.within
    rw [Bool.eq_iff_iff]
    simp only [Bool.or_eq_true, Bool.and_eq_true, decide_eq_true_eq]
    omega
  unfold charOk
  rw [e]
  simp only [Bool.or_assoc]
set_option maxHeartbeats 4000000 in
theorem refChar_any (r : Int) (w : World) : Calls Try.prog 20 #[.int .i64 r] w fun e w' => e = .returned (.bool (charOk r)) ∧ w' = w := by
  rw [charOk_is]
  have HA := hide (refWithin_any r 32 55295)
  have HB := hide (refWithin_any r 57344 65533)
  have HC := hide (refWithin_any r 65536 1114111)
  generalize Tk.within r 32 55295 = a at *
  generalize Tk.within r 57344 65533 = b at *
  generalize Tk.within r 65536 1114111 = c at *
  by_cases h1 : r = 9
  · have th1 : (r == 9) = true := by simpa using h1
    go_enter Try.func20, Try.ntmps20
    go_wp2
    go_ret
    exact ⟨ret_eq1 (bool_eq (by simp [*])), rfl⟩
  have th1 : (r == 9) = false := by simpa using h1
  by_cases h2 : r = 10
  · have th2 : (r == 10) = true := by simpa using h2
    go_enter Try.func20, Try.ntmps20
    go_wp2
    go_ret
    exact ⟨ret_eq1 (bool_eq (by simp [*])), rfl⟩
  have th2 : (r == 10) = false := by simpa using h2
  by_cases h3 : r = 13
  · have th3 : (r == 13) = true := by simpa using h3
    go_enter Try.func20, Try.ntmps20
    go_wp2
    go_ret
    exact ⟨ret_eq1 (bool_eq (by simp [*])), rfl⟩
  have th3 : (r == 13) = false := by simpa using h3
  cases a with
  | true =>
    go_enter Try.func20, Try.ntmps20
    go_wp2_with fail
    refine (HA.out _).mono ?_
    rintro e w' ⟨rfl, rfl⟩
    go_wp2
    go_ret
    exact ⟨ret_eq1 (bool_eq (by simp [*])), rfl⟩
  | false =>
    cases b with
    | true =>
      go_enter Try.func20, Try.ntmps20
      go_wp2_with fail
      refine (HA.out _).mono ?_
      rintro e w' ⟨rfl, rfl⟩
      go_wp2_with fail
      refine (HB.out _).mono ?_
      rintro e w' ⟨rfl, rfl⟩
      go_wp2
      go_ret
      exact ⟨ret_eq1 (bool_eq (by simp [*])), rfl⟩
    | false =>
      cases c with
      | true =>
        go_enter Try.func20, Try.ntmps20
        go_wp2_with fail
        refine (HA.out _).mono ?_
        rintro e w' ⟨rfl, rfl⟩
        go_wp2_with fail
        refine (HB.out _).mono ?_
        rintro e w' ⟨rfl, rfl⟩
        go_wp2_with fail
        refine (HC.out _).mono ?_
        rintro e w' ⟨rfl, rfl⟩
        go_wp2
        go_ret
        exact ⟨ret_eq1 (bool_eq (by simp [*])), rfl⟩
      | false =>
        go_enter Try.func20, Try.ntmps20
        go_wp2_with fail
        refine (HA.out _).mono ?_
        rintro e w' ⟨rfl, rfl⟩
        go_wp2_with fail
        refine (HB.out _).mono ?_
        rintro e w' ⟨rfl, rfl⟩
        go_wp2_with fail
        refine (HC.out _).mono ?_
        rintro e w' ⟨rfl, rfl⟩
        go_wp2
        go_ret
        exact ⟨ret_eq1 (bool_eq (by simp [*])), rfl⟩

set_option maxHeartbeats 4000000 in
theorem refBad_any (s : ByteArray) (w : World) (hs : s.size ≤ 1000000000) :
    Calls Try.prog 13 #[.string s] w fun e w' => e = .returned (.int .i64 (bad s.data.toList)) ∧ w' = w := by
  obtain ⟨z, hz⟩ : ∃ z, bad s.data.toList = z := ⟨_, rfl⟩
  have Hz := hide (show (match ((Utf.from_ 0 (s.data.toList.drop 0)).find? (fun p => !charOk p.2)).map (·.1) with | some k => (k : Int) | none => -1) = z from by rw [← hz]; rfl)
  rw [hz]
  clear hz
  go_enter Try.func13, Try.ntmps13
  go_wp2
  go_loopg [3] s.size (fun g v wr => ∃ k : Nat, g = s.size - k ∧ k ≤ s.size ∧ v = .int .i64 (k : Int) ∧ (match ((Utf.from_ k (s.data.toList.drop k)).find? (fun p => !charOk p.2)).map (·.1) with | some k => (k : Int) | none => -1) = z ∧ wr = w)
  case atStart => exact ⟨0, rfl, by omega, rfl, Hz.out, rfl⟩
  case round =>
    obtain ⟨k, hg, hk, rfl, hz, rfl⟩ := hrel
    have Hg := hide hg
    by_cases hlt : k < s.size
    · have hN := next_any s (k : Int) wr (by omega) (by omega) hs
      rw [Int.toNat_natCast] at hN
      have hfr := from_at s k hlt
      have hp := piece_at' s k hlt
      rw [hfr, List.find?_cons] at hz
      obtain ⟨f, hf⟩ : ∃ f, Utf.piece (s.data.toList.drop k) = f := ⟨_, rfl⟩
      rw [hf] at hN hz hp
      have HC := hide (refChar_any f.1)
      have hneg := charOk_neg f.1
      dsimp only at hz
      cases hc : charOk f.1 with
      | false =>
        rw [hc] at hz HC
        have Hz2 := hide (show (k : Int) = z from hz)
        by_cases hn : f.1 < 0
        · have HN := hide (show Calls Try.prog 19 #[.string s, .int .i64 (k : Int)] wr fun e w' => e = .returned (.tuple #[.int .i64 0, .int .i64 0, .bool false]) ∧ wr = w' from by
            unfold nextT at hN; rw [if_pos hn] at hN; exact hN)
          clear hN hz hfr hf hg hc hneg hn
          go_wp2_with fail
          refine HN.out.mono ?_
          rintro e w' ⟨rfl, rfl⟩
          go_wp2
          go_ret
          exact ⟨ret_eq1 (int_eq Hz2.out), rfl⟩
        · have HN := hide (show Calls Try.prog 19 #[.string s, .int .i64 (k : Int)] wr fun e w' => e = .returned (.tuple #[.int .i64 f.1, .int .i64 f.2, .bool true]) ∧ wr = w' from by
            unfold nextT at hN; rw [if_neg hn] at hN; exact hN)
          clear hN hz hfr hf hg hc hneg hn
          go_wp2_with fail
          refine HN.out.mono ?_
          rintro e w' ⟨rfl, rfl⟩
          go_wp2_with fail
          refine (HC.out _).mono ?_
          rintro e w' ⟨rfl, rfl⟩
          go_wp2
          go_ret
          exact ⟨ret_eq1 (int_eq Hz2.out), rfl⟩
      | true =>
        rw [hc] at hz HC
        have hn : ¬ f.1 < 0 := fun h => by rw [hneg h] at hc; cases hc
        have Hz2 := hide hz
        have HN := hide (show Calls Try.prog 19 #[.string s, .int .i64 (k : Int)] wr fun e w' => e = .returned (.tuple #[.int .i64 f.1, .int .i64 f.2, .bool true]) ∧ wr = w' from by
            unfold nextT at hN; rw [if_neg hn] at hN; exact hN)
        obtain ⟨m, hm⟩ : ∃ m : Nat, f.2 = m := ⟨f.2.toNat, by omega⟩
        have e2 : f.2.toNat = m := by omega
        rw [e2] at Hz2
        rw [hm] at HN hp
        clear hN hz hfr hf hg hc hneg hn e2 hm
        go_wp2_with fail
        refine HN.out.mono ?_
        rintro e w' ⟨rfl, rfl⟩
        go_wp2_with fail
        refine (HC.out _).mono ?_
        rintro e w' ⟨rfl, rfl⟩
        go_wp2
        go_roundg (s.size - (k + m))
        case measure => have := Hg.out; omega
        case rel => exact ⟨k + m, rfl, by omega, by go_num, Hz2.out, rfl⟩
    · have hkz : k = s.size := by omega
      subst hkz
      have Hz2 := hide (show (-1 : Int) = z from by rw [← hz, List.drop_of_length_le (by rw [size_list]; exact Nat.le_refl _)]; rfl)
      clear hz
      go_wp2
      go_ret
      exact ⟨ret_eq1 (int_eq Hz2.out), rfl⟩
end Go.Proofs.Ytaickkaoglohgaa
namespace Go.Proofs.Ytaickkaoglohgaa
open Go.RowKit Tk Sx

def optV (o : Option Nat) : Value := match o with
  | some v => .tuple #[.int .i64 (v : Int), .bool true]
  | none => .tuple #[.int .i64 0, .bool false]
theorem lit_eq (s : ByteArray) (q : L) : (s.toList == q) = decide (s.data.toList = q) := by
  rw [ByteArray.toList_eq, Bool.eq_iff_iff, beq_iff_eq, decide_eq_true_iff]
set_option maxHeartbeats 4000000 in
theorem named_any (s : ByteArray) (w : World) : Calls Try.prog 83 #[.string s] w fun e w' => e = .returned (optV (named s.data.toList)) ∧ w' = w := by
  have h1 : (s.toList == [108, 116]) = decide (s.data.toList = sLt) := lit_eq s sLt
  have h2 : (s.toList == [103, 116]) = decide (s.data.toList = sGt) := lit_eq s sGt
  have h3 : (s.toList == [97, 109, 112]) = decide (s.data.toList = sAmp) := lit_eq s sAmp
  have h4 : (s.toList == [97, 112, 111, 115]) = decide (s.data.toList = sApos) := lit_eq s sApos
  have h5 : (s.toList == [113, 117, 111, 116]) = decide (s.data.toList = sQuot) := lit_eq s sQuot
  obtain ⟨z, hz⟩ : ∃ z, named s.data.toList = z := ⟨_, rfl⟩
  rw [hz]
  have hz' : (if decide (s.data.toList = sLt) = true then some 60 else if decide (s.data.toList = sGt) = true then some 62 else if decide (s.data.toList = sAmp) = true then some 38 else if decide (s.data.toList = sApos) = true then some 39 else if decide (s.data.toList = sQuot) = true then some 34 else none) = z := by
    rw [← hz]; unfold named; simp only [decide_eq_true_eq]
  clear hz
  generalize decide (s.data.toList = sLt) = b1 at *
  generalize decide (s.data.toList = sGt) = b2 at *
  generalize decide (s.data.toList = sAmp) = b3 at *
  generalize decide (s.data.toList = sApos) = b4 at *
  generalize decide (s.data.toList = sQuot) = b5 at *

  cases b1 with
  | true =>
    have Hr := hide (show some 60 = z from hz')
    clear hz'
    go_enter Try.func83, Try.ntmps83
    go_wp2
    go_ret2
    rw [← Hr.out]
    exact ⟨rfl, rfl⟩
  | false =>
    cases b2 with
    | true =>
      have Hr := hide (show some 62 = z from hz')
      clear hz'
      go_enter Try.func83, Try.ntmps83
      go_wp2
      go_ret2
      rw [← Hr.out]
      exact ⟨rfl, rfl⟩
    | false =>
      cases b3 with
      | true =>
        have Hr := hide (show some 38 = z from hz')
        clear hz'
        go_enter Try.func83, Try.ntmps83
        go_wp2
        go_ret2
        rw [← Hr.out]
        exact ⟨rfl, rfl⟩
      | false =>
        cases b4 with
        | true =>
          have Hr := hide (show some 39 = z from hz')
          clear hz'
          go_enter Try.func83, Try.ntmps83
          go_wp2
          go_ret2
          rw [← Hr.out]
          exact ⟨rfl, rfl⟩
        | false =>
          cases b5 with
          | true =>
            have Hr := hide (show some 34 = z from hz')
            clear hz'
            go_enter Try.func83, Try.ntmps83
            go_wp2
            go_ret2
            rw [← Hr.out]
            exact ⟨rfl, rfl⟩
          | false =>
            have Hr := hide (show none = z from hz')
            clear hz'
            go_enter Try.func83, Try.ntmps83
            go_wp2
            go_ret2
            rw [← Hr.out]
            exact ⟨rfl, rfl⟩

def hpre (q s : L) : Bool := q.isPrefixOf s
set_option maxHeartbeats 4000000 in
theorem scalar_any (s : ByteArray) (w : World) (HN : ∀ W, Calls Try.prog 70 #[.string s] W fun e w' => e = .returned (match number s.data.toList with | none => .tuple #[.int .i64 0, .bool false, .bool false] | some none => .tuple #[.int .i64 0, .bool true, .bool false] | some (some v) => .tuple #[.int .i64 ((v : Nat) : Int), .bool true, .bool true]) ∧ Below W.heap.size W w') :
    Calls Try.prog 69 #[.string s] w fun e w' => e = .returned (optV (scalar s.data.toList)) ∧ Below w.heap.size w w' := by
  have HNm := hide (fun W => named_any s W)
  have HN' := hide HN
  obtain ⟨D, hD⟩ : ∃ D, s.data.toList = D := ⟨_, rfl⟩
  rw [hD] at HNm HN' ⊢
  have hz : scalar D = match number D with | some (some v) => some v | _ => named D := rfl
  clear HN hD
  obtain ⟨z, hzz⟩ : ∃ z, scalar D = z := ⟨_, rfl⟩
  rw [hzz] at hz ⊢
  clear hzz
  generalize named D = nm at *
  cases hn : number D with
  | none =>
    rw [hn] at HN' hz
    have Hr := hide hz
    clear hz hn
    cases nm with
    | none =>
      go_enter Try.func69, Try.ntmps69
      go_wp2_with fail
      refine (HN'.out _).mono ?_
      rintro e w1 ⟨rfl, b1⟩
      go_wp2_with fail
      refine cq (HNm.out _) ?_
      unfold optV
      go_wp2
      go_ret2
      rw [Hr.out]
      exact ⟨rfl, b1⟩
    | some v =>
      go_enter Try.func69, Try.ntmps69
      go_wp2_with fail
      refine (HN'.out _).mono ?_
      rintro e w1 ⟨rfl, b1⟩
      go_wp2_with fail
      refine cq (HNm.out _) ?_
      unfold optV
      go_wp2
      go_ret2
      rw [Hr.out]
      exact ⟨rfl, b1⟩
  | some x =>
    cases x with
    | none =>
      rw [hn] at HN' hz
      have Hr := hide hz
      clear hz hn
      cases nm with
      | none =>
        go_enter Try.func69, Try.ntmps69
        go_wp2_with fail
        refine (HN'.out _).mono ?_
        rintro e w1 ⟨rfl, b1⟩
        go_wp2_with fail
        refine cq (HNm.out _) ?_
        unfold optV
        go_wp2
        go_ret2
        rw [Hr.out]
        exact ⟨rfl, b1⟩
      | some v =>
        go_enter Try.func69, Try.ntmps69
        go_wp2_with fail
        refine (HN'.out _).mono ?_
        rintro e w1 ⟨rfl, b1⟩
        go_wp2_with fail
        refine cq (HNm.out _) ?_
        unfold optV
        go_wp2
        go_ret2
        rw [Hr.out]
        exact ⟨rfl, b1⟩
    | some v =>
      rw [hn] at HN' hz
      have Hr := hide hz
      clear hz hn
      go_enter Try.func69, Try.ntmps69
      go_wp2_with fail
      refine (HN'.out _).mono ?_
      rintro e w1 ⟨rfl, b1⟩
      go_wp2
      go_ret2
      rw [Hr.out]
      exact ⟨rfl, b1⟩
end Go.Proofs.Ytaickkaoglohgaa
namespace Go.Proofs.Ytaickkaoglohgaa
open Go.RowKit Tk Sx

def cutP (q D : L) : L × Bool := if q.isPrefixOf D then (D.drop q.length, true) else (D, false)
def cutV (x : L × Bool) : Value := .tuple #[.string (bstr x.1), .bool x.2]
theorem cut0_any (D q : L) (w : World) (hD : D.length ≤ 1000000000) : Calls Try.prog 94 #[.string (bstr D), .string (bstr q)] w fun e w' => e = .returned (cutV (cutP q D)) ∧ w' = w := by
  have HP := hide (show ∀ W, Calls Try.prog 48 #[.string (bstr D), .string (bstr q)] W fun e w' => e = .returned (.bool (q.isPrefixOf D)) ∧ w' = W from fun W => Try.stringslite_HasPrefix (bstr D) (bstr q) W)
  cases hp : q.isPrefixOf D with
  | false =>
    rw [hp] at HP
    have Hr := hide (show cutP q D = (D, false) by unfold cutP; rw [hp]; rfl)
    clear hp
    go_enter Try.func94, Try.ntmps94
    go_wp2_with fail
    refine cq (HP.out _) ?_
    go_wp2
    go_ret2
    rw [Hr.out]
    exact ⟨rfl, rfl⟩
  | true =>
    rw [hp] at HP
    have hl := (List.isPrefixOf_iff_prefix.1 hp).length_le
    have hb : 0 ≤ ((bstr q).size : Int) ∧ ((bstr q).size : Int) ≤ ((bstr D).size : Int) ∧ ((bstr D).size : Int) ≤ ((bstr D).size : Int) := by rw [bstr_size, bstr_size]; omega
    have hx : (bstr D).extract (bstr q).size (bstr D).size = bstr (D.drop q.length) := by rw [extract_end, bstr_list, bstr_size]
    have Hr := hide (show cutV (cutP q D) = .tuple #[.string ((bstr D).extract (bstr q).size (bstr D).size), .bool true] by unfold cutP cutV; rw [hp, hx]; rfl)
    clear hp hl hx
    go_enter Try.func94, Try.ntmps94
    go_wp2_with fail
    refine cq (HP.out _) ?_
    go_wp2
    go_ret2
    rw [Hr.out]
    exact ⟨rfl, rfl⟩
theorem cut_any (D q : L) (w : World) (hD : D.length ≤ 1000000000) : Calls Try.prog 84 #[.string (bstr D), .string (bstr q)] w fun e w' => e = .returned (cutV (cutP q D)) ∧ w' = w := by
  have HP := hide (fun W => cut0_any D q W hD)
  obtain ⟨x, hx⟩ : ∃ x, cutP q D = x := ⟨_, rfl⟩
  rw [hx] at HP ⊢
  obtain ⟨a, b⟩ := x
  unfold cutV at HP ⊢
  clear hx
  go_enter Try.func84, Try.ntmps84
  go_wp2_with fail
  refine cq (HP.out _) ?_
  go_wp2
  go_ret2
  exact ⟨rfl, rfl⟩
/-- The digits of a number, and their base. -/
def digs (D : L) : L × Nat := if (cutP [120] (cutP [35] D).1).2 then ((cutP [120] (cutP [35] D).1).1, 16) else ((cutP [35] D).1, 10)
theorem pfx1 (c : UInt8) (D : L) : ([c] : L).isPrefixOf D = decide (D.head? = some c) := by
  cases D with
  | nil => simp [List.isPrefixOf]
  | cons d r =>
    rw [Bool.eq_iff_iff, decide_eq_true_iff]
    simp [List.isPrefixOf]
    exact eq_comm
theorem number_is (D : L) : number D = if (cutP [35] D).2 = true ∧ (digs D).1 ≠ [] then (numVal (digs D).2 0 (digs D).1).map chk else none := by
  unfold number digs cutP
  simp only [pfx1]
  by_cases h : D.head? = some 35
  · simp only [h, decide_true, if_true, if_pos, List.length_cons, List.length_nil, Nat.zero_add, List.drop_one]
    by_cases h2 : D.tail.head? = some 120
    · simp only [h2, decide_true, if_true, if_pos, List.length_cons, List.length_nil, Nat.zero_add, List.drop_one]
      by_cases h3 : D.tail.tail = []
      · simp [h3]
      · simp [h3]
    · simp only [h2, decide_false, Bool.false_eq_true, if_false, if_neg]
      by_cases h3 : D.tail = []
      · simp [h3]
      · simp [h3]
  · simp [h]
theorem char_sat (v : Nat) : charOk ((min v 1073741824 : Nat) : Int) = charOk (v : Int) := by
  by_cases h : v ≤ 1073741824
  · rw [Nat.min_eq_left h]
  · rw [Nat.min_eq_right (by omega)]
    have h1 : charOk ((1073741824 : Nat) : Int) = false := by decide
    rw [h1]
    symm
    unfold charOk Tk.within
    rw [Bool.eq_false_iff]
    intro hc
    simp only [Bool.or_eq_true, Bool.and_eq_true, decide_eq_true_eq] at hc
    omega
end Go.Proofs.Ytaickkaoglohgaa
namespace Go.Proofs.Ytaickkaoglohgaa
open Go.RowKit Tk Sx

def numV (o : Option (Option Nat)) : Value := match o with
  | none => .tuple #[.int .i64 0, .bool false, .bool false]
  | some none => .tuple #[.int .i64 0, .bool true, .bool false]
  | some (some v) => .tuple #[.int .i64 ((v : Nat) : Int), .bool true, .bool true]
theorem worth_le (c : UInt8) : worth c ≤ 16 := by
  unfold worth
  split
  · omega
  · split
    · omega
    · split <;> omega
theorem sat_next (v base d : Nat) (hb : 1 ≤ base) : min (min v 1073741824 * base + d) 1073741824 = min (v * base + d) 1073741824 := by
  by_cases h : v ≤ 1073741824
  · rw [Nat.min_eq_left h]
  · rw [Nat.min_eq_right (by omega : 1073741824 ≤ v)]
    have h1 : 1073741824 ≤ 1073741824 * base := Nat.le_mul_of_pos_right _ hb
    have h2 : 1073741824 * base ≤ v * base := Nat.mul_le_mul_right _ (by omega)
    rw [Nat.min_eq_right (by omega), Nat.min_eq_right (by omega)]

set_option maxHeartbeats 16000000 in
set_option maxRecDepth 20000 in
theorem number_any (D : L) (w : World) (hD : D.length ≤ 1000000000) :
    Calls Try.prog 70 #[.string (bstr D)] w fun e w' => e = .returned (numV (number D)) ∧ Below w.heap.size w w' := by
  have H1 := hide (fun W => cut_any D [35] W hD)
  have hAl : (cutP [35] D).1.length ≤ D.length := by unfold cutP; split <;> simp
  have H2 := hide (fun W => cut_any (cutP [35] D).1 [120] W (by omega))
  have hn := number_is D
  unfold digs at hn
  obtain ⟨x1, hx1⟩ : ∃ x, cutP [35] D = x := ⟨_, rfl⟩
  rw [hx1] at H1 H2 hn hAl
  obtain ⟨A, is⟩ := x1
  dsimp only at H2 hn hAl
  have hBl : (cutP [120] A).1.length ≤ A.length := by unfold cutP; split <;> simp
  obtain ⟨x2, hx2⟩ : ∃ x, cutP [120] A = x := ⟨_, rfl⟩
  rw [hx2] at H2 hn hBl
  obtain ⟨B, hex⟩ := x2
  dsimp only at hn hBl
  unfold cutV at H1 H2
  dsimp only at H1 H2
  obtain ⟨z, hz⟩ : ∃ z, number D = z := ⟨_, rfl⟩
  rw [hz] at hn ⊢
  obtain ⟨E, hE⟩ : ∃ E, (if hex = true then (B, 16) else (A, 10)).1 = E := ⟨_, rfl⟩
  obtain ⟨base, hbs⟩ : ∃ b, (if hex = true then (B, 16) else (A, 10)).2 = b := ⟨_, rfl⟩
  rw [hE, hbs] at hn
  have hEl : E.length ≤ D.length := by rw [← hE]; split <;> (dsimp only; omega)
  have hb : base = 10 ∨ base = 16 := by rw [← hbs]; split <;> simp
  have Hn := hide hn
  have hEe : (bstr E).toList.isEmpty = decide (E = []) := by rw [ByteArray.toList_eq, bstr_list]; cases E <;> simp
  have hEq : ((bstr E).toList == ([] : L)) = decide (E = []) := by rw [ByteArray.toList_eq, bstr_list]; cases E <;> simp
  clear hn hz hx1 hx2 hBl hAl
  cases is with
  | false =>
    have Hr := hide (show numV z = .tuple #[.int .i64 0, .bool false, .bool false] by rw [Hn.out, if_neg (by simp)]; rfl)
    clear Hn
    cases hex
    · clear hE hbs hEe hEq hb hEl
      go_enter Try.func70, Try.ntmps70
      go_wp2_with fail
      refine cq (H1.out _) ?_
      go_wp2_with fail
      refine cq (H2.out _) ?_
      go_wp2
      go_ret3
      rw [Hr.out]
      exact ⟨rfl, Below.refl _ _⟩
    · clear hE hbs hEe hEq hb hEl
      go_enter Try.func70, Try.ntmps70
      go_wp2_with fail
      refine cq (H1.out _) ?_
      go_wp2_with fail
      refine cq (H2.out _) ?_
      go_wp2
      go_ret3
      rw [Hr.out]
      exact ⟨rfl, Below.refl _ _⟩
  | true =>
    by_cases h0 : E = []
    · have Hr := hide (show numV z = .tuple #[.int .i64 0, .bool false, .bool false] by rw [Hn.out, if_neg (by simp [h0])]; rfl)
      rw [decide_eq_true h0] at hEe hEq
      clear Hn h0
      cases hex
      · obtain rfl : A = E := hE
        clear hbs hb hEl
        go_enter Try.func70, Try.ntmps70
        go_wp2_with fail
        refine cq (H1.out _) ?_
        go_wp2_with fail
        refine cq (H2.out _) ?_
        go_wp2
        go_ret3
        rw [Hr.out]
        exact ⟨rfl, Below.refl _ _⟩
      · obtain rfl : B = E := hE
        clear hbs hb hEl
        go_enter Try.func70, Try.ntmps70
        go_wp2_with fail
        refine cq (H1.out _) ?_
        go_wp2_with fail
        refine cq (H2.out _) ?_
        go_wp2
        go_ret3
        rw [Hr.out]
        exact ⟨rfl, Below.refl _ _⟩
    · rw [decide_eq_false h0] at hEe hEq
      have Hz := hide (show z = (numVal base 0 E).map chk by rw [Hn.out, if_pos ⟨rfl, h0⟩])
      obtain ⟨W, g, cap, hconv, hbl, hg, hat⟩ := bytes_of (bstr E) w
      have Hat := hide hat
      have HB := hide hbl
      rw [bstr_list] at Hat
      have HEl := hide hEl
      have Hs := hide (bstr_size E)
      have hsz : (bstr E).size ≤ 1000000000 := by rw [bstr_size]; omega
      clear Hn h0 hat hbl hEl
      have Hb := hide hb
      cases hex
      · obtain rfl : A = E := hE
        obtain rfl : 10 = base := hbs
        clear hb
        go_enter Try.func70, Try.ntmps70
        go_wp2_with fail
        refine cq (H1.out _) ?_
        go_wp2_with fail
        refine cq (H2.out _) ?_
        go_wp2
        clear hconv
        go_loopg [2, 33] (bstr A).size (fun gk vr vi wr => ∃ k v : Nat, gk = (bstr A).size - k ∧ k ≤ (bstr A).size ∧ vi = .int .i64 (k : Int) ∧ vr = .int .i64 ((min v 1073741824 : Nat) : Int) ∧ numVal 10 0 A = numVal 10 v (A.drop k) ∧ wr = W)
        case atStart => exact ⟨0, 0, rfl, by omega, rfl, rfl, rfl, rfl⟩
        case round =>
          obtain ⟨k, v, hgk, hk, rfl, rfl, hv, rfl⟩ := hrel
          have Hg := hide hgk
          have Hv := hide hv
          clear hgk hv
          obtain ⟨rr, hrr⟩ : ∃ rr, min v 1073741824 = rr := ⟨_, rfl⟩
          have Hrr := hide hrr
          have hrl : rr ≤ 1073741824 := by rw [← hrr]; exact Nat.min_le_right _ _
          rw [hrr]
          clear hrr
          by_cases hlt : k < (bstr A).size
          · obtain ⟨c, hc⟩ : ∃ c, A[k]? = some c := ⟨_, List.getElem?_eq_getElem (by rw [← Hs.out]; exact hlt)⟩
            have hcell := Hat.out k c hc
            have hk0 : (0 : Int) ≤ (k : Int) := by omega
            have HW := hide (fun W => worth_any c W)
            have hdr := drop_cons0 hc
            have hstep : numVal 10 v (A.drop k) = if 10 ≤ worth c then none else numVal 10 (v * 10 + worth c) (A.drop (k + 1)) := by rw [hdr]; rfl
            have hwl := worth_le c
            generalize worth c = d at *
            have Hst := hide hstep
            clear hstep hdr hc
            by_cases hd : 10 ≤ d
            · have gd : (10 : Int) ≤ (d : Int) := by omega
              have Hr := hide (show numV z = .tuple #[.int .i64 0, .bool false, .bool false] by rw [Hz.out, Hv.out, Hst.out, if_pos hd]; rfl)
              clear hd Hst
              go_wp2_with fail
              refine cq (HW.out _) ?_
              go_wp2
              go_ret3
              rw [Hr.out]
              exact ⟨rfl, HB.out⟩
            · have gd : ¬ (10 : Int) ≤ (d : Int) := by omega
              have Hv2 := hide (show numVal 10 0 A = numVal 10 (v * 10 + d) (A.drop (k + 1)) by rw [Hv.out, Hst.out, if_neg hd])
              have hw1 : IntKind.i64.wrap ((rr : Int) * 10) = (rr : Int) * 10 := IntWalk.i64_in _ (by omega)
              have hw2 : IntKind.i64.wrap ((rr : Int) * 10 + (d : Int)) = (rr : Int) * 10 + (d : Int) := IntWalk.i64_in _ (by omega)
              have hmin : min ((rr : Int) * 10 + (d : Int)) 1073741824 = ((min (v * 10 + d) 1073741824 : Nat) : Int) := by
                rw [← sat_next v 10 d (by omega), Hrr.out]
                omega
              clear hd Hst
              go_wp2_with fail
              refine cq (HW.out _) ?_
              go_wp2
              go_roundg ((bstr A).size - (k + 1))
              case measure => have := Hg.out; omega
              case rel => exact ⟨k + 1, v * 10 + d, rfl, by omega, by go_num, rfl, Hv2.out, rfl⟩
          · have hfin : numVal 10 v (A.drop k) = some v := by rw [List.drop_of_length_le (by rw [← Hs.out]; omega)]; rfl
            have Hfin := hide hfin
            have HCh := hide (fun W => char_any (rr : Int) W)
            have hcs : charOk (rr : Int) = charOk (v : Int) := by rw [← char_sat v, Hrr.out]
            rw [hcs] at HCh
            clear hcs hfin
            cases hco : charOk (v : Int) with
            | false =>
              rw [hco] at HCh
              have Hr := hide (show numV z = .tuple #[.int .i64 0, .bool true, .bool false] by rw [Hz.out, Hv.out, Hfin.out, Option.map_some]; unfold chk; rw [hco]; rfl)
              clear hco
              go_wp2_with fail
              refine (HCh.out _).mono ?_
              rintro e w5 ⟨rfl, b5⟩
              go_wp2
              go_ret3
              rw [Hr.out]
              exact ⟨rfl, HB.out.trans (b5.mono HB.out.size)⟩
            | true =>
              rw [hco] at HCh
              have hvs : rr = v := by
                rw [← Hrr.out]
                refine Nat.min_eq_left ?_
                rw [← Nat.not_lt]
                intro h
                have := char_sat v
                rw [hco, Nat.min_eq_right (by omega)] at this
                revert this
                decide
              have Hr := hide (show numV z = .tuple #[.int .i64 (rr : Int), .bool true, .bool true] by rw [Hz.out, Hv.out, Hfin.out, Option.map_some]; unfold chk; rw [hco, hvs]; rfl)
              clear hco hvs
              go_wp2_with fail
              refine (HCh.out _).mono ?_
              rintro e w5 ⟨rfl, b5⟩
              go_wp2
              go_ret3
              rw [Hr.out]
              exact ⟨rfl, HB.out.trans (b5.mono HB.out.size)⟩
      · obtain rfl : B = E := hE
        obtain rfl : 16 = base := hbs
        clear hb
        go_enter Try.func70, Try.ntmps70
        go_wp2_with fail
        refine cq (H1.out _) ?_
        go_wp2_with fail
        refine cq (H2.out _) ?_
        go_wp2
        clear hconv
        go_loopg [2, 33] (bstr B).size (fun gk vr vi wr => ∃ k v : Nat, gk = (bstr B).size - k ∧ k ≤ (bstr B).size ∧ vi = .int .i64 (k : Int) ∧ vr = .int .i64 ((min v 1073741824 : Nat) : Int) ∧ numVal 16 0 B = numVal 16 v (B.drop k) ∧ wr = W)
        case atStart => exact ⟨0, 0, rfl, by omega, rfl, rfl, rfl, rfl⟩
        case round =>
          obtain ⟨k, v, hgk, hk, rfl, rfl, hv, rfl⟩ := hrel
          have Hg := hide hgk
          have Hv := hide hv
          clear hgk hv
          obtain ⟨rr, hrr⟩ : ∃ rr, min v 1073741824 = rr := ⟨_, rfl⟩
          have Hrr := hide hrr
          have hrl : rr ≤ 1073741824 := by rw [← hrr]; exact Nat.min_le_right _ _
          rw [hrr]
          clear hrr
          by_cases hlt : k < (bstr B).size
          · obtain ⟨c, hc⟩ : ∃ c, B[k]? = some c := ⟨_, List.getElem?_eq_getElem (by rw [← Hs.out]; exact hlt)⟩
            have hcell := Hat.out k c hc
            have hk0 : (0 : Int) ≤ (k : Int) := by omega
            have HW := hide (fun W => worth_any c W)
            have hdr := drop_cons0 hc
            have hstep : numVal 16 v (B.drop k) = if 16 ≤ worth c then none else numVal 16 (v * 16 + worth c) (B.drop (k + 1)) := by rw [hdr]; rfl
            have hwl := worth_le c
            generalize worth c = d at *
            have Hst := hide hstep
            clear hstep hdr hc
            by_cases hd : 16 ≤ d
            · have gd : (16 : Int) ≤ (d : Int) := by omega
              have Hr := hide (show numV z = .tuple #[.int .i64 0, .bool false, .bool false] by rw [Hz.out, Hv.out, Hst.out, if_pos hd]; rfl)
              clear hd Hst
              go_wp2_with fail
              refine cq (HW.out _) ?_
              go_wp2
              go_ret3
              rw [Hr.out]
              exact ⟨rfl, HB.out⟩
            · have gd : ¬ (16 : Int) ≤ (d : Int) := by omega
              have Hv2 := hide (show numVal 16 0 B = numVal 16 (v * 16 + d) (B.drop (k + 1)) by rw [Hv.out, Hst.out, if_neg hd])
              have hw1 : IntKind.i64.wrap ((rr : Int) * 16) = (rr : Int) * 16 := IntWalk.i64_in _ (by omega)
              have hw2 : IntKind.i64.wrap ((rr : Int) * 16 + (d : Int)) = (rr : Int) * 16 + (d : Int) := IntWalk.i64_in _ (by omega)
              have hmin : min ((rr : Int) * 16 + (d : Int)) 1073741824 = ((min (v * 16 + d) 1073741824 : Nat) : Int) := by
                rw [← sat_next v 16 d (by omega), Hrr.out]
                omega
              clear hd Hst
              go_wp2_with fail
              refine cq (HW.out _) ?_
              go_wp2
              go_roundg ((bstr B).size - (k + 1))
              case measure => have := Hg.out; omega
              case rel => exact ⟨k + 1, v * 16 + d, rfl, by omega, by go_num, rfl, Hv2.out, rfl⟩
          · have hfin : numVal 16 v (B.drop k) = some v := by rw [List.drop_of_length_le (by rw [← Hs.out]; omega)]; rfl
            have Hfin := hide hfin
            have HCh := hide (fun W => char_any (rr : Int) W)
            have hcs : charOk (rr : Int) = charOk (v : Int) := by rw [← char_sat v, Hrr.out]
            rw [hcs] at HCh
            clear hcs hfin
            cases hco : charOk (v : Int) with
            | false =>
              rw [hco] at HCh
              have Hr := hide (show numV z = .tuple #[.int .i64 0, .bool true, .bool false] by rw [Hz.out, Hv.out, Hfin.out, Option.map_some]; unfold chk; rw [hco]; rfl)
              clear hco
              go_wp2_with fail
              refine (HCh.out _).mono ?_
              rintro e w5 ⟨rfl, b5⟩
              go_wp2
              go_ret3
              rw [Hr.out]
              exact ⟨rfl, HB.out.trans (b5.mono HB.out.size)⟩
            | true =>
              rw [hco] at HCh
              have hvs : rr = v := by
                rw [← Hrr.out]
                refine Nat.min_eq_left ?_
                rw [← Nat.not_lt]
                intro h
                have := char_sat v
                rw [hco, Nat.min_eq_right (by omega)] at this
                revert this
                decide
              have Hr := hide (show numV z = .tuple #[.int .i64 (rr : Int), .bool true, .bool true] by rw [Hz.out, Hv.out, Hfin.out, Option.map_some]; unfold chk; rw [hco, hvs]; rfl)
              clear hco hvs
              go_wp2_with fail
              refine (HCh.out _).mono ?_
              rintro e w5 ⟨rfl, b5⟩
              go_wp2
              go_ret3
              rw [Hr.out]
              exact ⟨rfl, HB.out.trans (b5.mono HB.out.size)⟩
/-- What a reference names. -/
theorem scal_any (D : L) (w : World) (hD : D.length ≤ 1000000000) : Calls Try.prog 69 #[.string (bstr D)] w fun e w' => e = .returned (optV (scalar D)) ∧ Below w.heap.size w w' :=
  scalar_any (bstr D) w fun W => number_any D W hD
end Go.Proofs.Ytaickkaoglohgaa
namespace Go.Proofs.Ytaickkaoglohgaa
open Go.RowKit Tk Sx

theorem u8_small (x : Int) (h : 0 ≤ x ∧ x < 256) : IntKind.u8.wrap x = x := IntWalk.u8_in x (by omega)
/-- A digit's worth in a base; -1: it is none. -/
def digI (c : UInt8) (base : Nat) : Int := if base ≤ worth c then -1 else (worth c : Int)
end Go.Proofs.Ytaickkaoglohgaa
namespace Go.Proofs.Ytaickkaoglohgaa
open Go.RowKit Tk Sx

theorem sat_next24 (v base d : Nat) (hb : 1 ≤ base) : min (min v 16777216 * base + d) 16777216 = min (v * base + d) 16777216 := by
  by_cases h : v ≤ 16777216
  · rw [Nat.min_eq_left h]
  · rw [Nat.min_eq_right (by omega : 16777216 ≤ v)]
    have h1 : 16777216 ≤ 16777216 * base := Nat.le_mul_of_pos_right _ hb
    have h2 : 16777216 * base ≤ v * base := Nat.mul_le_mul_right _ (by omega)
    rw [Nat.min_eq_right (by omega), Nat.min_eq_right (by omega)]
theorem char_sat24 (v : Nat) : charOk ((min v 16777216 : Nat) : Int) = charOk (v : Int) := by
  by_cases h : v ≤ 16777216
  · rw [Nat.min_eq_left h]
  · rw [Nat.min_eq_right (by omega)]
    have h1 : charOk ((16777216 : Nat) : Int) = false := by decide
    rw [h1]
    symm
    unfold charOk Tk.within
    rw [Bool.eq_false_iff]
    intro hc
    simp only [Bool.or_eq_true, Bool.and_eq_true, decide_eq_true_eq] at hc
    omega
theorem number_short {D : L} (h : D.length < 2) : number D = none := by
  match D, h with
  | [], _ => rfl
  | [c], _ => unfold number; by_cases hc : c = 35 <;> simp [hc]
theorem number_no {a : UInt8} {r : L} (h : a ≠ 35) : number (a :: r) = none := by unfold number; simp [h]
theorem number_hex {r : L} : number (35 :: 120 :: r) = if r = [] then none else (numVal 16 0 r).map chk := by
  unfold number
  by_cases hr : r = [] <;> simp [hr]
theorem number_dec {b : UInt8} {r : L} (h : b ≠ 120) : number (35 :: b :: r) = (numVal 10 0 (b :: r)).map chk := by unfold number; simp [h]

end Go.Proofs.Ytaickkaoglohgaa
namespace Go.Proofs.Ytaickkaoglohgaa
open Go.RowKit Tk Sx

theorem i64_or_of (x y : Int) (k : Nat) (h0 : 0 ≤ x) (hy : 0 ≤ y) (hk : y < 2 ^ k) (hx : x * 2 ^ k + y < 9223372036854775808) (z : Int) (hz : z = x * 2 ^ k) : bits .or .i64 z y = z + y := by
  subst hz; exact i64_or_add x y k h0 hy hk hx
theorem low6 (x : Int) (h0 : 0 ≤ x) (h1 : x < 9223372036854775808) : bits .and .i64 x 63 = x % 64 := i64_mask x 6 h0 h1 (by omega) _ rfl
theorem or128 (x : Int) : bits .or .i64 128 (x % 64) = 128 + x % 64 := i64_or_of 2 _ 6 (by omega) (by omega) (by omega) (by omega) _ rfl
/-- A scalar's bytes. -/
def putL (r : Int) : L := (Utf.put r).map bv
def PutR (r : Int) (w : World) (e : Ending) (w' : World) : Prop := e = .returned (.tuple #[.string (bstr (putL r)), .bool true]) ∧ Below w.heap.size w w'
theorem PutR.of {r : Int} {w w' : World} {t : ByteArray} {e : Ending} (he : e = .returned (.tuple #[.string t, .bool true])) (ht : StrIs t (putL r)) (hb : Below w.heap.size w w') : PutR r w e w' := by
  unfold StrIs at ht
  have : t = bstr (putL r) := by rw [← ht, bstr_of]
  subst this
  exact ⟨he, hb⟩
theorem pPut_any (r : Int) (w : World) (h : Utf.isScalar r = true) : Calls Try.prog 72 #[.int .i64 r] w (PutR r w) :=
  (put_yes r w h).mono fun _ _ ⟨⟨_, he, ht⟩, hb⟩ => PutR.of he ht hb
theorem putL_short (r : Int) : (putL r).length ≤ 4 := by unfold putL; rw [List.length_map]; exact put_short r
end Go.Proofs.Ytaickkaoglohgaa
namespace Go.Proofs.Ytaickkaoglohgaa
open Go.RowKit Tk Sx

namespace Sx
def glueE (out : L) : Except Nat L → Except Nat L
  | .ok l => .ok (out ++ l)
  | .error a => .error a
/-- What a text with references stands for, or where the first is wrong. -/
def sref : Nat → Nat → L → Except Nat L
  | 0, _, _ => .ok []
  | _ + 1, _, [] => .ok []
  | f + 1, at_, c :: r => if c ≠ 38 then glueE [c] (sref f (at_ + 1) r) else match ends r with
    | none => .error at_
    | some n => match scalar (r.take n) with
      | none => .error at_
      | some v => glueE (putL v) (sref f (at_ + n + 2) (r.drop (n + 1)))
theorem glueE_glue (a b : L) (e : Except Nat L) : glueE a (glueE b e) = glueE (a ++ b) e := by cases e <;> simp [glueE]
theorem sref_nil {f at_ : Nat} : sref f at_ [] = .ok [] := by cases f <;> rfl
theorem sref_byte {f k : Nat} {c : UInt8} {r : L} (h : c ≠ 38) : sref (f + 1) k (c :: r) = glueE [c] (sref f (k + 1) r) := by rw [sref, if_pos h]
theorem sref_none {f k : Nat} {r : L} (h : ends r = none) : sref (f + 1) k (38 :: r) = .error k := by rw [sref, if_neg (by simp), h]
theorem sref_bad {f k n : Nat} {r : L} (h : ends r = some n) (hs : scalar (r.take n) = none) : sref (f + 1) k (38 :: r) = .error k := by rw [sref, if_neg (by simp), h]; simp only [hs]
theorem sref_ref {f k n v : Nat} {r : L} (h : ends r = some n) (hs : scalar (r.take n) = some v) : sref (f + 1) k (38 :: r) = glueE (putL v) (sref f (k + n + 2) (r.drop (n + 1))) := by rw [sref, if_neg (by simp), h]; simp only [hs]
theorem char_scalar {v : Int} (h : charOk v = true) : Utf.isScalar v = true := by
  unfold charOk Tk.within at h
  simp only [Bool.or_eq_true, Bool.and_eq_true, decide_eq_true_eq] at h
  simp [Utf.isScalar]
  omega
theorem scalar_is {s : L} {v : Nat} (h : scalar s = some v) : Utf.isScalar (v : Int) = true := by
  unfold scalar at h
  have hn : ∀ {v : Nat}, named s = some v → Utf.isScalar (v : Int) = true := fun {v} h => by
    unfold named at h
    repeat' (split at h)
    all_goals first | (cases h; done) | (simp only [Option.some.injEq] at h; subst h; decide)
  cases hm : number s with
  | none => rw [hm] at h; exact hn h
  | some x =>
    cases x with
    | none => rw [hm] at h; exact hn h
    | some u =>
      rw [hm] at h
      simp only [Option.some.injEq] at h
      subst h
      refine char_scalar ?_
      rw [number_is] at hm
      split at hm
      · cases hv : numVal (digs s).2 0 (digs s).1 with
        | none => rw [hv] at hm; cases hm
        | some y =>
          rw [hv, Option.map_some] at hm
          unfold chk at hm
          by_cases hc : charOk (y : Int) = true
          · rw [if_pos hc] at hm; cases hm; exact hc
          · rw [if_neg hc] at hm; cases hm
      · cases hm
end Sx
def strV (z : Except Nat L) : Value := match z with
  | .ok out => .tuple #[.string (bstr out), .int .i64 (-1), .int .i64 0]
  | .error a => .tuple #[.string ⟨#[]⟩, .int .i64 (a : Int), .int .i64 50]
theorem app_list (a b : ByteArray) : (a ++ b).data.toList = a.data.toList ++ b.data.toList := by simp
theorem app_size (a b : ByteArray) : (a ++ b).size = a.size + b.size := by rw [← size_list, app_list, List.length_append, size_list, size_list]

end Go.Proofs.Ytaickkaoglohgaa
