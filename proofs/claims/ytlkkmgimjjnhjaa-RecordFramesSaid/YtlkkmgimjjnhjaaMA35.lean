/- The law RecordBack, walked. (Printed by wip/genLawRec.py.) · A slice of records from its reading; its reading stays. -/
import Derived.Test.YtlkkmgimjjnhjaaMA31
import Derived.Test.YtlkkmgimjjnhjaaMA33
set_option linter.unusedSimpArgs false
set_option linter.unusedVariables false
namespace Go.Proofs.Ytlkkmgimjjnhjaa
open Go.RowKit Rec

theorem may_in {r : Rcd} {W : World} {A A' : Option Addr} (h : mayAll r = true) (ha : Reads W W.heap.size 7 A r.entries.length (ents r.entries)) (hk : Reads W W.heap.size 8 A' r.kept.length (kpts r.kept)) : RcdIn W r A A' := by
  have hf := may_fine (mayAll_may h)
  have h1 := hf.na
  have h2 := hf.nk
  have h3 := hf.su
  have h4 := hf.si
  refine ⟨ha, hk, by omega, by omega, fun j hj k hk => ?_, fun j hj k hk => ?_, by omega, by omega⟩
  · have := (hf.pa _ (List.getElem_mem hj)).1 k hk; omega
  · have hj' : j < r.kept.length := by simpa using hj
    have := (hf.pk _ (List.getElem_mem hj')).1 k hk
    rw [List.getElem_map]; omega
theorem bytes_pos (r : Rcd) : 1 ≤ (Rec.bytes r).length := by unfold Rec.bytes; simp
theorem str_ne {s : ByteArray} (h : 1 ≤ s.size) : (s.toList == ([] : List UInt8)) = false := by
  rw [beq_eq_false_iff_ne]
  intro e
  rw [toList_nil] at e
  omega
/-- Read's two answers. -/
theorem read_some {b : ByteArray} {x : Rcd} (hs : b.size ≤ 1000000000) (h : readOut b = some x) (w : World) : Calls Try.prog 21 #[.string b] w fun e w' =>
    ∃ (A : Option Addr) (c : Nat) (A' : Option Addr) (c' : Nat), e = .returned (.tuple #[.agg (rcdCells x A c A' c'), .int .i64 0]) ∧ Below w.heap.size w w' ∧ Reads w' w'.heap.size 7 A x.entries.length (ents x.entries) ∧ Reads w' w'.heap.size 8 A' x.kept.length (kpts x.kept) := by
  have := record_read b w hs
  rw [h] at this
  refine this.mono ?_
  rintro e w' ⟨A, c, A', c', h1, h2, h3, h4, -⟩
  exact ⟨A, c, A', c', h1, h2, h3, h4⟩
theorem read_none {b : ByteArray} (hs : b.size ≤ 1000000000) (h : readOut b = none) (w : World) : Calls Try.prog 21 #[.string b] w fun e w' =>
    ∃ (A : Option Addr) (c : Nat) (A' : Option Addr) (c' : Nat), e = .returned (.tuple #[.agg #[.int .i8 0, .int .i64 0, .string ⟨#[]⟩, .string ⟨#[]⟩, .bool false, .slice A 0 c, .string ⟨#[]⟩, .slice A' 0 c'], .int .i64 70]) ∧ Below w.heap.size w w' := by
  have := record_read b w hs
  rw [h] at this
  refine this.mono ?_
  rintro e w' ⟨A, c, A', c', h1, h2, -⟩
  exact ⟨A, c, A', c', h1, h2⟩

set_option maxHeartbeats 8000000 in
theorem lawBack_any (r : Rcd) (A A' : Option Addr) (c c' : Nat) (raw : ByteArray) (cut : Int) (w : World) (hr : RcdGot w r A A') (_ : raw.size ≤ maxLen) (hcut : (Lit.int .i64 cut).wf = true) :
    Calls Try.prog 6 #[.agg (rcdCells r A c A' c'), .string raw, .int .i64 cut] w fun e w' => e = .returned (.bool true) ∧ Below w.heap.size w w' := by
  have HG := hide (great_one r A A' c c' w hr)
  obtain ⟨gr, hgr⟩ : ∃ b, great [r] = b := ⟨_, rfl⟩
  rw [hgr] at HG
  have HX := hide fun (h : gr = false) => (show RcdIn w r A A' from by
    rw [h] at hgr
    exact hr.rcdIn (rSize_of_great hgr (by simp)))
  clear hgr hr
  unfold rcdCells at HG ⊢
  go_enter Try.func6, Try.ntmps6
  go_wp2_with fail
  have KA := hide ((Blk.new w 28 #[.int .i8 r.kind, .int .i64 r.gen, .string r.url, .string r.id, .bool r.read, .slice A r.entries.length c, .string r.surl, .slice A' r.kept.length c']).alloc (.cells #[.int .i8 r.kind, .int .i64 r.gen, .string r.url, .string r.id, .bool r.read, .slice A r.entries.length c, .string r.surl, .slice A' r.kept.length c'] 28))
  have KR := hide (Blk.new (w.alloc (.cells #[.int .i8 r.kind, .int .i64 r.gen, .string r.url, .string r.id, .bool r.read, .slice A r.entries.length c, .string r.surl, .slice A' r.kept.length c'] 28)) 28 #[.int .i8 r.kind, .int .i64 r.gen, .string r.url, .string r.id, .bool r.read, .slice A r.entries.length c, .string r.surl, .slice A' r.kept.length c'])
  have WB := hide (below2 w (.cells #[.int .i8 r.kind, .int .i64 r.gen, .string r.url, .string r.id, .bool r.read, .slice A r.entries.length c, .string r.surl, .slice A' r.kept.length c'] 28) (.cells #[.int .i8 r.kind, .int .i64 r.gen, .string r.url, .string r.id, .bool r.read, .slice A r.entries.length c, .string r.surl, .slice A' r.kept.length c'] 28))
  simp only [World.size_alloc] at KR
  obtain ⟨W1, hW1⟩ : ∃ W1, (w.alloc (.cells #[.int .i8 r.kind, .int .i64 r.gen, .string r.url, .string r.id, .bool r.read, .slice A r.entries.length c, .string r.surl, .slice A' r.kept.length c'] 28)).alloc (.cells #[.int .i8 r.kind, .int .i64 r.gen, .string r.url, .string r.id, .bool r.read, .slice A r.entries.length c, .string r.surl, .slice A' r.kept.length c'] 28) = W1 := ⟨_, rfl⟩
  rw [hW1] at KA KR WB ⊢
  clear hW1
  refine (HG.out W1 _ WB.out KR.out).mono ?_
  rintro e w1 ⟨rfl, hb⟩
  have HB := hide hb
  clear hb HG KR
  cases gr with
  | true =>
    clear HX KA
    go_wp2_with fail
    refine (wakes_any _).mono ?_
    rintro e w2 ⟨rfl, hb⟩
    replace HB := hide (HB.out.trans (hb.mono HB.out.size))
    clear hb
    go_wp2
    go_ret
    exact ⟨rfl, WB.out.trans (HB.out.mono WB.out.size)⟩
  | false =>
    by_cases hs : raw.size ≤ 20000
    rotate_left
    · have hd : decide ((20000 : Int) < raw.size) = true := by simp; omega
      clear HX KA hs
      go_wp2_with fail
      refine (wakes_any _).mono ?_
      rintro e w2 ⟨rfl, hb⟩
      replace HB := hide (HB.out.trans (hb.mono HB.out.size))
      clear hb
      go_wp2
      go_ret
      exact ⟨rfl, WB.out.trans (HB.out.mono WB.out.size)⟩
    · have hd : decide ((20000 : Int) < raw.size) = false := by simp; omega
      have h0 := HX.out rfl
      have HA := hide fun W (hb : Below W1.heap.size W1 W) => (h0.ans c c').bytes W (WB.out.trans (hb.mono WB.out.size))
      have HM := hide fun W (hb : Below W1.heap.size W1 W) => (h0.ans c c').may W (WB.out.trans (hb.mono WB.out.size))
      have HS := hide fun W (hb : Below W1.heap.size W1 W) (A2 A2' : Option Addr) (c2 c2' : Nat) (ha : Reads W W.heap.size 7 A2 r.entries.length (ents r.entries)) (hk : Reads W W.heap.size 8 A2' r.kept.length (kpts r.kept)) => (show Calls Try.prog 18 #[.agg (rcdCells r A2 c2 A2' c2'), .agg (rcdCells r A c A' c')] W fun e w' => e = .returned (.bool true) ∧ Below W.heap.size W w' from by
        have hb' := h0.later (WB.out.trans (hb.mono WB.out.size))
        have := refSame_any r r A2 A2' A A' c2 c2' c c' W ha hk hb'.a hb'.k hb'.na hb'.na hb'.nk hb'.nk
        rwa [show decide (r = r) = true by simp] at this)
      have HO := hide fun (h : mayAll r = false) => (show bytesOut r = ⟨#[]⟩ ∧ codeOut r = 2 from ⟨by unfold bytesOut; rw [h]; rfl, code_no h⟩)
      have HY := hide fun (h : mayAll r = true) => (show (bytesOut r).size ≤ 65536 ∧ 1 ≤ (bytesOut r).size ∧ True ∧ codeOut r = 0 from by
        rw [bytes_yes h, bstr_size]; exact ⟨(mayAll_iff.1 h).2, bytes_pos r, trivial, code_yes h⟩)
      have HT := hide fun (h : mayAll r = true) => And.intro (fun W => read_some (b := bytesOut r) (by have := (HY.out h).1; omega) (by rw [bytes_yes h]; exact readOut_bytes h) W)
        (And.intro (fun k (hk : k < (bytesOut r).size) W => read_none (b := (bytesOut r).extract 0 k) (by rw [ByteArray.size_extract]; have := (HY.out h).1; omega) (by
          rw [bytes_yes h] at hk ⊢
          have e : (bstr (Rec.bytes r)).extract 0 k = bstr ((Rec.bytes r).take k) := by
            apply ByteArray.ext
            apply Array.ext'
            rw [ByteArray.data_extract, Array.toList_extract]
            show (List.drop 0 (Rec.bytes r)).take (k - 0) = _
            rfl
          rw [e]
          exact readOut_cut (mayAll_iff.1 h).1 (by rwa [bstr_size] at hk)) W)
          (fun W => read_none (b := bytesOut r ++ ⟨#[0]⟩) (by rw [ByteArray.size_append]; have := (HY.out h).1; have e : (⟨#[0]⟩ : ByteArray).size = 1 := rfl; omega) (by
            rw [bytes_yes h]
            exact readOut_more (mayAll_iff.1 h).1 [0] (by simp)) W))
      have HN := hide (show True from trivial)
      clear HX h0
      unfold rcdCells at HA HM HS HT
      cases ho : readOut raw with
      | none =>
        have HR := hide fun W => read_none (b := raw) (by omega) ho W
        clear ho
        go_wp2_with fail
        refine (HR.out _).mono ?_
        rintro e w2 ⟨A3, c3, A3', c3', rfl, hb⟩
        replace HB := hide ((HB.out.trans (hb.mono HB.out.size)).alloc (Nat.le_trans HB.out.size hb.size) (.cells #[.int .i8 0, .int .i64 0, .string ⟨#[]⟩, .string ⟨#[]⟩, .bool false, .slice A3 0 c3, .string ⟨#[]⟩, .slice A3' 0 c3'] 28))
        clear hb
        obtain ⟨p0, p1, p2, p3, p4, p5, p6, p7⟩ := (KA.out.below HB.out KA.out.lt).rcd
        go_wp2_with fail
        clear p0 p1 p2 p3 p4 p5 p6 p7
        refine (HA.out _ HB.out).mono ?_
        rintro e w4 ⟨rfl, hb⟩
        replace HB := hide (HB.out.trans (hb.mono HB.out.size))
        clear hb
        rcases Bool.eq_false_or_eq_true (mayAll r) with hm | hm
        rotate_left
        · have hx := HO.out hm
          obtain ⟨hx1, hx2⟩ := hx
          rw [hx1, hx2]
          rw [hm] at HM
          clear HA HS HT HY HN HO hx1 hx2
          obtain ⟨p0, p1, p2, p3, p4, p5, p6, p7⟩ := (KA.out.below HB.out KA.out.lt).rcd
          go_wp2_with fail
          clear p0 p1 p2 p3 p4 p5 p6 p7
          refine (HM.out _ HB.out).mono ?_
          rintro e w5 ⟨rfl, hb⟩
          replace HB := hide (HB.out.trans (hb.mono HB.out.size))
          clear hb
          go_wp2_with fail
          refine (wakes_any _).mono ?_
          rintro e w6 ⟨rfl, hb⟩
          replace HB := hide (HB.out.trans (hb.mono HB.out.size))
          clear hb
          go_wp2
          go_ret
          exact ⟨rfl, WB.out.trans (HB.out.mono WB.out.size)⟩
        · obtain ⟨h1, h2, h3, h4⟩ := HY.out hm
          have HT1 := HT.out hm
          rw [h4]
          clear HA HM HO HN HY
          generalize bytesOut r = x at *
          have hxe : (x.toList == ([] : List UInt8)) = false := str_ne h2
          obtain ⟨m, hm1, hm2, hm3⟩ : ∃ m, Int.tmod cut (x.size : Int) = m ∧ -(x.size : Int) < m ∧ m < x.size := ⟨_, rfl, by have := Int.lt_tmod_of_pos cut (show (0 : Int) < x.size by omega); omega, Int.tmod_lt_of_pos cut (by omega)⟩
          obtain ⟨k, hk1, hk2⟩ : ∃ k : Nat, Int.tmod (m + x.size) (x.size : Int) = k ∧ k < x.size := ⟨(Int.tmod (m + x.size) (x.size : Int)).toNat, by have := Int.tmod_nonneg (x.size : Int) (show 0 ≤ m + x.size by omega); omega, by have := Int.tmod_lt_of_pos (m + x.size) (show (0 : Int) < x.size by omega); omega⟩
          obtain ⟨hr1, hr2, hr3⟩ := HT1
          have HP := hide fun W => hr1 W
          have HQ := hide fun W => hr2 k hk2 W
          have HV := hide fun W => hr3 W
          clear hr1 hr2 hr3 hm HT
          go_wp2_with fail
          refine (HP.out _).mono ?_
          rintro e w5 ⟨A2, c2, A2', c2', rfl, hb, ha, hk⟩
          have KB := hide (Blk.new w5 28 #[.int .i8 r.kind, .int .i64 r.gen, .string r.url, .string r.id, .bool r.read, .slice A2 r.entries.length c2, .string r.surl, .slice A2' r.kept.length c2'])
          have RR := hide (ha.below ((Below.refl w5.heap.size w5).alloc (Nat.le_refl _) (.cells #[.int .i8 r.kind, .int .i64 r.gen, .string r.url, .string r.id, .bool r.read, .slice A2 r.entries.length c2, .string r.surl, .slice A2' r.kept.length c2'] 28)))
          have RK := hide (hk.below ((Below.refl w5.heap.size w5).alloc (Nat.le_refl _) (.cells #[.int .i8 r.kind, .int .i64 r.gen, .string r.url, .string r.id, .bool r.read, .slice A2 r.entries.length c2, .string r.surl, .slice A2' r.kept.length c2'] 28)))
          have HC := hide ((HB.out.trans (hb.mono HB.out.size)).alloc (Nat.le_trans HB.out.size hb.size) (.cells #[.int .i8 r.kind, .int .i64 r.gen, .string r.url, .string r.id, .bool r.read, .slice A2 r.entries.length c2, .string r.surl, .slice A2' r.kept.length c2'] 28))
          have HD := hide (Below.refl (w5.alloc (.cells #[.int .i8 r.kind, .int .i64 r.gen, .string r.url, .string r.id, .bool r.read, .slice A2 r.entries.length c2, .string r.surl, .slice A2' r.kept.length c2'] 28)).heap.size (w5.alloc (.cells #[.int .i8 r.kind, .int .i64 r.gen, .string r.url, .string r.id, .bool r.read, .slice A2 r.entries.length c2, .string r.surl, .slice A2' r.kept.length c2'] 28)))
          have HZ := hide (show w5.heap.size ≤ (w5.alloc (.cells #[.int .i8 r.kind, .int .i64 r.gen, .string r.url, .string r.id, .bool r.read, .slice A2 r.entries.length c2, .string r.surl, .slice A2' r.kept.length c2'] 28)).heap.size by simp)
          clear hb ha hk
          obtain ⟨p0, p1, p2, p3, p4, p5, p6, p7⟩ := (KA.out.below HC.out KA.out.lt).rcd
          obtain ⟨q0, q1, q2, q3, q4, q5, q6, q7⟩ := KB.out.rcd
          go_wp2_with fail
          clear p0 p1 p2 p3 p4 p5 p6 p7 q0 q1 q2 q3 q4 q5 q6 q7
          refine (HS.out _ HC.out _ _ _ _ (RR.out.more HZ.out) (RK.out.more HZ.out)).mono ?_
          rintro e w6 ⟨rfl, hb⟩
          replace HB := hide (HC.out.trans (hb.mono HC.out.size))
          clear hb HC HD RR RK HZ KB
          go_wp2_with fail
          refine (HQ.out _).mono ?_
          rintro e w7 ⟨A3, c3, A3', c3', rfl, hb⟩
          replace HB := hide ((HB.out.trans (hb.mono HB.out.size)).alloc (Nat.le_trans HB.out.size hb.size) (.cells #[.int .i8 0, .int .i64 0, .string ⟨#[]⟩, .string ⟨#[]⟩, .bool false, .slice A3 0 c3, .string ⟨#[]⟩, .slice A3' 0 c3'] 28))
          clear hb
          go_wp2_with fail
          refine (HV.out _).mono ?_
          rintro e w8 ⟨A4, c4, A4', c4', rfl, hb⟩
          replace HB := hide ((HB.out.trans (hb.mono HB.out.size)).alloc (Nat.le_trans HB.out.size hb.size) (.cells #[.int .i8 0, .int .i64 0, .string ⟨#[]⟩, .string ⟨#[]⟩, .bool false, .slice A4 0 c4, .string ⟨#[]⟩, .slice A4' 0 c4'] 28))
          clear hb
          go_wp2_with fail
          refine (wakes_any _).mono ?_
          rintro e w9 ⟨rfl, hb⟩
          replace HB := hide (HB.out.trans (hb.mono HB.out.size))
          clear hb
          go_wp2
          go_ret
          exact ⟨rfl, WB.out.trans (HB.out.mono WB.out.size)⟩

      | some x =>
        have HR := hide fun W => read_some (b := raw) (by omega) ho W
        obtain ⟨hxr, hxm⟩ := readOut_back ho
        have hxb : bytesOut x = raw := by rw [bytes_yes hxm, hxr]
        have HI := hide fun (W W' : World) (A2 A2' : Option Addr) (c2 c2' : Nat) (ha : Reads W W.heap.size 7 A2 x.entries.length (ents x.entries)) (hk : Reads W W.heap.size 8 A2' x.kept.length (kpts x.kept)) (hb : Below W.heap.size W W') => (show (Calls Try.prog 11 #[.agg (rcdCells x A2 c2 A2' c2')] W' fun e w' => e = .returned (.tuple #[.string raw, .int .i64 0]) ∧ Below W'.heap.size W' w') ∧ (Calls Try.prog 15 #[.agg (rcdCells x A2 c2 A2' c2')] W' fun e w' => e = .returned (.bool true) ∧ Below W'.heap.size W' w') from by
          have h := (may_in hxm ha hk).ans c2 c2'
          have h1 := h.bytes W' hb
          have h2 := h.may W' hb
          rw [hxb, code_yes hxm] at h1
          rw [hxm] at h2
          exact ⟨h1, h2⟩)
        clear ho hxr hxm hxb
        unfold rcdCells at HR HI
        have hraw : (raw.toList == raw.toList) = true := by simp
        go_wp2_with fail
        refine (HR.out _).mono ?_
        rintro e w2 ⟨A3, c3, A3', c3', rfl, hb, ha, hk⟩
        have KB := hide (Blk.new w2 28 #[.int .i8 x.kind, .int .i64 x.gen, .string x.url, .string x.id, .bool x.read, .slice A3 x.entries.length c3, .string x.surl, .slice A3' x.kept.length c3'])
        have RR := hide (ha.below ((Below.refl w2.heap.size w2).alloc (Nat.le_refl _) (.cells #[.int .i8 x.kind, .int .i64 x.gen, .string x.url, .string x.id, .bool x.read, .slice A3 x.entries.length c3, .string x.surl, .slice A3' x.kept.length c3'] 28)))
        have RK := hide (hk.below ((Below.refl w2.heap.size w2).alloc (Nat.le_refl _) (.cells #[.int .i8 x.kind, .int .i64 x.gen, .string x.url, .string x.id, .bool x.read, .slice A3 x.entries.length c3, .string x.surl, .slice A3' x.kept.length c3'] 28)))
        have HC := hide ((HB.out.trans (hb.mono HB.out.size)).alloc (Nat.le_trans HB.out.size hb.size) (.cells #[.int .i8 x.kind, .int .i64 x.gen, .string x.url, .string x.id, .bool x.read, .slice A3 x.entries.length c3, .string x.surl, .slice A3' x.kept.length c3'] 28))
        have HD := hide (Below.refl (w2.alloc (.cells #[.int .i8 x.kind, .int .i64 x.gen, .string x.url, .string x.id, .bool x.read, .slice A3 x.entries.length c3, .string x.surl, .slice A3' x.kept.length c3'] 28)).heap.size (w2.alloc (.cells #[.int .i8 x.kind, .int .i64 x.gen, .string x.url, .string x.id, .bool x.read, .slice A3 x.entries.length c3, .string x.surl, .slice A3' x.kept.length c3'] 28)))
        have HZ := hide (show w2.heap.size ≤ (w2.alloc (.cells #[.int .i8 x.kind, .int .i64 x.gen, .string x.url, .string x.id, .bool x.read, .slice A3 x.entries.length c3, .string x.surl, .slice A3' x.kept.length c3'] 28)).heap.size by simp)
        clear hb ha hk
        obtain ⟨q0, q1, q2, q3, q4, q5, q6, q7⟩ := KB.out.rcd
        go_wp2_with fail
        clear q0 q1 q2 q3 q4 q5 q6 q7
        refine (HI.out _ _ A3 A3' c3 c3' (RR.out.more HZ.out) (RK.out.more HZ.out) HD.out).1.mono ?_
        rintro e w3 ⟨rfl, hb⟩
        have HE := hide (HD.out.trans (hb.mono HD.out.size))
        replace HB := hide (HC.out.trans (hb.mono HC.out.size))
        clear hb
        obtain ⟨q0, q1, q2, q3, q4, q5, q6, q7⟩ := (KB.out.below HE.out KB.out.lt).rcd
        go_wp2_with fail
        clear q0 q1 q2 q3 q4 q5 q6 q7
        refine (HI.out _ _ A3 A3' c3 c3' (RR.out.more HZ.out) (RK.out.more HZ.out) HE.out).2.mono ?_
        rintro e w3b ⟨rfl, hb⟩
        replace HB := hide (HB.out.trans (hb.mono HB.out.size))
        clear hb HC HD HE RR RK HZ KB HI
        obtain ⟨p0, p1, p2, p3, p4, p5, p6, p7⟩ := (KA.out.below HB.out KA.out.lt).rcd
        go_wp2_with fail
        clear p0 p1 p2 p3 p4 p5 p6 p7
        refine (HA.out _ HB.out).mono ?_
        rintro e w4 ⟨rfl, hb⟩
        replace HB := hide (HB.out.trans (hb.mono HB.out.size))
        clear hb
        rcases Bool.eq_false_or_eq_true (mayAll r) with hm | hm
        rotate_left
        · have hx := HO.out hm
          obtain ⟨hx1, hx2⟩ := hx
          rw [hx1, hx2]
          rw [hm] at HM
          clear HA HS HT HY HN HO hx1 hx2
          obtain ⟨p0, p1, p2, p3, p4, p5, p6, p7⟩ := (KA.out.below HB.out KA.out.lt).rcd
          go_wp2_with fail
          clear p0 p1 p2 p3 p4 p5 p6 p7
          refine (HM.out _ HB.out).mono ?_
          rintro e w5 ⟨rfl, hb⟩
          replace HB := hide (HB.out.trans (hb.mono HB.out.size))
          clear hb
          go_wp2_with fail
          refine (wakes_any _).mono ?_
          rintro e w6 ⟨rfl, hb⟩
          replace HB := hide (HB.out.trans (hb.mono HB.out.size))
          clear hb
          go_wp2
          go_ret
          exact ⟨rfl, WB.out.trans (HB.out.mono WB.out.size)⟩
        · obtain ⟨h1, h2, h3, h4⟩ := HY.out hm
          have HT1 := HT.out hm
          rw [h4]
          clear HA HM HO HN HY
          generalize bytesOut r = x at *
          have hxe : (x.toList == ([] : List UInt8)) = false := str_ne h2
          obtain ⟨m, hm1, hm2, hm3⟩ : ∃ m, Int.tmod cut (x.size : Int) = m ∧ -(x.size : Int) < m ∧ m < x.size := ⟨_, rfl, by have := Int.lt_tmod_of_pos cut (show (0 : Int) < x.size by omega); omega, Int.tmod_lt_of_pos cut (by omega)⟩
          obtain ⟨k, hk1, hk2⟩ : ∃ k : Nat, Int.tmod (m + x.size) (x.size : Int) = k ∧ k < x.size := ⟨(Int.tmod (m + x.size) (x.size : Int)).toNat, by have := Int.tmod_nonneg (x.size : Int) (show 0 ≤ m + x.size by omega); omega, by have := Int.tmod_lt_of_pos (m + x.size) (show (0 : Int) < x.size by omega); omega⟩
          obtain ⟨hr1, hr2, hr3⟩ := HT1
          have HP := hide fun W => hr1 W
          have HQ := hide fun W => hr2 k hk2 W
          have HV := hide fun W => hr3 W
          clear hr1 hr2 hr3 hm HT
          go_wp2_with fail
          refine (HP.out _).mono ?_
          rintro e w5 ⟨A2, c2, A2', c2', rfl, hb, ha, hk⟩
          have KB := hide (Blk.new w5 28 #[.int .i8 r.kind, .int .i64 r.gen, .string r.url, .string r.id, .bool r.read, .slice A2 r.entries.length c2, .string r.surl, .slice A2' r.kept.length c2'])
          have RR := hide (ha.below ((Below.refl w5.heap.size w5).alloc (Nat.le_refl _) (.cells #[.int .i8 r.kind, .int .i64 r.gen, .string r.url, .string r.id, .bool r.read, .slice A2 r.entries.length c2, .string r.surl, .slice A2' r.kept.length c2'] 28)))
          have RK := hide (hk.below ((Below.refl w5.heap.size w5).alloc (Nat.le_refl _) (.cells #[.int .i8 r.kind, .int .i64 r.gen, .string r.url, .string r.id, .bool r.read, .slice A2 r.entries.length c2, .string r.surl, .slice A2' r.kept.length c2'] 28)))
          have HC := hide ((HB.out.trans (hb.mono HB.out.size)).alloc (Nat.le_trans HB.out.size hb.size) (.cells #[.int .i8 r.kind, .int .i64 r.gen, .string r.url, .string r.id, .bool r.read, .slice A2 r.entries.length c2, .string r.surl, .slice A2' r.kept.length c2'] 28))
          have HD := hide (Below.refl (w5.alloc (.cells #[.int .i8 r.kind, .int .i64 r.gen, .string r.url, .string r.id, .bool r.read, .slice A2 r.entries.length c2, .string r.surl, .slice A2' r.kept.length c2'] 28)).heap.size (w5.alloc (.cells #[.int .i8 r.kind, .int .i64 r.gen, .string r.url, .string r.id, .bool r.read, .slice A2 r.entries.length c2, .string r.surl, .slice A2' r.kept.length c2'] 28)))
          have HZ := hide (show w5.heap.size ≤ (w5.alloc (.cells #[.int .i8 r.kind, .int .i64 r.gen, .string r.url, .string r.id, .bool r.read, .slice A2 r.entries.length c2, .string r.surl, .slice A2' r.kept.length c2'] 28)).heap.size by simp)
          clear hb ha hk
          obtain ⟨p0, p1, p2, p3, p4, p5, p6, p7⟩ := (KA.out.below HC.out KA.out.lt).rcd
          obtain ⟨q0, q1, q2, q3, q4, q5, q6, q7⟩ := KB.out.rcd
          go_wp2_with fail
          clear p0 p1 p2 p3 p4 p5 p6 p7 q0 q1 q2 q3 q4 q5 q6 q7
          refine (HS.out _ HC.out _ _ _ _ (RR.out.more HZ.out) (RK.out.more HZ.out)).mono ?_
          rintro e w6 ⟨rfl, hb⟩
          replace HB := hide (HC.out.trans (hb.mono HC.out.size))
          clear hb HC HD RR RK HZ KB
          go_wp2_with fail
          refine (HQ.out _).mono ?_
          rintro e w7 ⟨A3, c3, A3', c3', rfl, hb⟩
          replace HB := hide ((HB.out.trans (hb.mono HB.out.size)).alloc (Nat.le_trans HB.out.size hb.size) (.cells #[.int .i8 0, .int .i64 0, .string ⟨#[]⟩, .string ⟨#[]⟩, .bool false, .slice A3 0 c3, .string ⟨#[]⟩, .slice A3' 0 c3'] 28))
          clear hb
          go_wp2_with fail
          refine (HV.out _).mono ?_
          rintro e w8 ⟨A4, c4, A4', c4', rfl, hb⟩
          replace HB := hide ((HB.out.trans (hb.mono HB.out.size)).alloc (Nat.le_trans HB.out.size hb.size) (.cells #[.int .i8 0, .int .i64 0, .string ⟨#[]⟩, .string ⟨#[]⟩, .bool false, .slice A4 0 c4, .string ⟨#[]⟩, .slice A4' 0 c4'] 28))
          clear hb
          go_wp2_with fail
          refine (wakes_any _).mono ?_
          rintro e w9 ⟨rfl, hb⟩
          replace HB := hide (HB.out.trans (hb.mono HB.out.size))
          clear hb
          go_wp2
          go_ret
          exact ⟨rfl, WB.out.trans (HB.out.mono WB.out.size)⟩

end Go.Proofs.Ytlkkmgimjjnhjaa
namespace Go.Proofs.Ytlkkmgimjjnhjaa
open Go.ChangeShapes Go.WideShapes Go.ChangeAt Go.RowKit Rec

instance : Inhabited Rcd := ⟨zeroRcd⟩
instance : Inhabited Fr := ⟨⟨0, default, none, 0, none, 0⟩⟩
/-- What a slice of records tells. -/
structure RowsGot (w : World) (A : Option Addr) (c : Nat) (xs : List Fr) : Prop where
  a : Reads w w.heap.size 8 A xs.length (frows xs)
  len : xs.length ≤ maxLen
  cap : xs.length ≤ c
  most : c ≤ maxLen
  recs : ∀ x ∈ xs, RcdGot w x.r x.A x.A'
section
variable {H : Type} {enc : TypeId × Value → H} {w : World}
set_option maxRecDepth 100000 in
theorem open_rcds {r : Reach} {b0 : Nat} {v : Value} {d : DataW H} {ps : List MemPlace} (hval : Value.okWide Try.prog w r b0 30 v) (h : DataW.Trod enc Try.prog w 0 (fun _ => true) true 30 v d ps) :
    ∃ (A : Option Addr) (c : Nat) (xs : List Fr), v = .slice A xs.length c ∧ RowsGot w A c xs := by
  obtain ⟨fuel, hf⟩ := h
  obtain ⟨A, l, c, e, hA, hl, hx⟩ := open_rows (s := 8) (f := Fr.row) (R := fun x => RcdGot w x.r x.A x.A') (fun _ => rfl) (by omega) Try.underlying30 (by kernel_rfl)
    (fun n cs y hy => by
      obtain ⟨x, A, A', c, c', ex, hg⟩ := open_rcd hy
      exact ⟨⟨0, x, A, c, A', c'⟩, ex, hg⟩) hf
  have hc : l.length ≤ c ∧ c ≤ maxLen := by
    rcases Go.Deep.open_slice Try.underlying30 hf with ⟨e', -⟩ | ⟨a, len, cap, m, n, D, Pl, e', _, h1, h2, -⟩
    · rw [e] at e'
      simp at e'
      obtain ⟨-, h1, h2⟩ := e'
      rw [h1, h2]
      simp [maxLen]
    · rw [e] at e'
      simp at e'
      obtain ⟨-, rfl, rfl⟩ := e'
      exact ⟨h1, h2⟩
  have hv : v = .slice A l.length c := by
    obtain ⟨a, len, cap, rfl⟩ := okWide_slice Try.underlying30 hval
    simpa [Value.cells] using e
  exact ⟨A, c, l, hv, hA, hl, hc.1, hc.2, hx⟩
set_option maxRecDepth 100000 in
theorem stays_rcds {W W' : World} {sp' : Nat → Bool} {v : Value} {d : DataW H} {ps : List MemPlace} (h : DataW.Trod enc Try.prog W 0 (fun _ => true) true 30 v d ps) (hsame : ∀ p ∈ ps, W.sameAt W' p) (hs : ∀ p ∈ ps, sp' p.block = true) :
    DataW.Trod enc Try.prog W' 0 sp' true 30 v d ps :=
  WideElems.Trod_stays (by kernel_rfl) (by kernel_rfl) (of_decide_eq_true (by kernel_rfl)) h hsame hs
end
end Go.Proofs.Ytlkkmgimjjnhjaa
