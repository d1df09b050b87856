/- The law RecordOnce, walked. (Printed by wip/genLawRec.py.) · The row's last step, where of the world behind the call 'Below' alone is known; a record's reading stays. -/
import Derived.Test.YtlkkmgimjjnhjaaChecked
import Derived.Test.YtlkkmgimjjnhjaaMA31
import Derived.Test.YtlkkmgimjjnhjaaMA32
import Derived.ProofKit
import Derived.OpenShut
set_option linter.unusedSimpArgs false
set_option linter.unusedVariables false
namespace Go.Proofs.Ytlkkmgimjjnhjaa
open Go.RowKit Rec

theorem code_no {r : Rcd} (h : mayAll r = false) : codeOut r = 2 := by unfold codeOut; rw [h]; rfl
theorem code_yes {r : Rcd} (h : mayAll r = true) : codeOut r = 0 := by unfold codeOut; rw [h]; rfl
theorem bytes_yes {r : Rcd} (h : mayAll r = true) : bytesOut r = bstr (Rec.bytes r) := by unfold bytesOut; rw [h]; rfl
theorem frame_yes {r : Rcd} (h : mayAll r = true) : frameOut r = bstr (frameB r) := by unfold frameOut; rw [h]; rfl
theorem bytes_same {r q : Rcd} (h : mayAll r = true) (h' : mayAll q = true) : ((bytesOut r).toList == (bytesOut q).toList) = decide (r = q) := by
  rw [bytes_yes h, bytes_yes h', str_beq]
  refine decide_eq_decide.2 ⟨fun e => ?_, fun e => by rw [e]⟩
  have e' : Rec.bytes r = Rec.bytes q := congrArg (fun b : ByteArray => b.data.toList) e
  exact (bytes_inj (mayAll_iff.1 h).1 (mayAll_iff.1 h').1 [] [] (by rw [e'])).1
theorem frame_size {r : Rcd} (h : mayAll r = true) : (frameOut r).size = (bytesOut r).size + 4 := by
  rw [frame_yes h, bytes_yes h, bstr_size, bstr_size, frameB_length]
theorem frame_from4 {r : Rcd} (h : mayAll r = true) : (frameOut r).extract 4 (frameOut r).size = bytesOut r := by
  rw [frame_yes h, bytes_yes h, bstr_size]
  apply ByteArray.ext
  apply Array.ext'
  rw [ByteArray.data_extract, Array.toList_extract]
  show (List.drop 4 (frameB r)).take ((frameB r).length - 4) = Rec.bytes r
  rw [List.take_of_length_le (by simp)]
  rfl

set_option maxHeartbeats 8000000 in
theorem lawOnce_any (r q : Rcd) (A A' B B' : Option Addr) (c c' d d' : Nat) (w : World) (hr : RcdGot w r A A') (hq : RcdGot w q B B') :
    Calls Try.prog 8 #[.agg (rcdCells r A c A' c'), .agg (rcdCells q B d B' d')] w fun e w' => e = .returned (.bool true) ∧ Below w.heap.size w w' := by
  have HG := hide (great_two r q A A' B B' c c' d d' w hr hq)
  obtain ⟨gr, hgr⟩ : ∃ b, great [r, q] = b := ⟨_, rfl⟩
  rw [hgr] at HG
  have HX := hide fun (h : gr = false) => (show RcdIn w r A A' ∧ RcdIn w q B B' from by
    rw [h] at hgr
    exact ⟨hr.rcdIn (rSize_of_great hgr (by simp)), hq.rcdIn (rSize_of_great hgr (by simp))⟩)
  clear hgr hr hq
  unfold rcdCells at HG ⊢
  go_enter Try.func8, Try.ntmps8
  go_wp2_with fail
  have KA := hide (((Blk.new w 28 #[.int .i8 r.kind, .int .i64 r.gen, .string r.url, .string r.id, .bool r.read, .slice A r.entries.length c, .string r.surl, .slice A' r.kept.length c']).alloc (.cells #[.int .i8 q.kind, .int .i64 q.gen, .string q.url, .string q.id, .bool q.read, .slice B q.entries.length d, .string q.surl, .slice B' q.kept.length d'] 28)).alloc (.cells (#[.int .i8 r.kind, .int .i64 r.gen, .string r.url, .string r.id, .bool r.read, .slice A r.entries.length c, .string r.surl, .slice A' r.kept.length c'] ++ #[.int .i8 q.kind, .int .i64 q.gen, .string q.url, .string q.id, .bool q.read, .slice B q.entries.length d, .string q.surl, .slice B' q.kept.length d']) 28))
  have KQ := hide ((Blk.new (w.alloc (.cells #[.int .i8 r.kind, .int .i64 r.gen, .string r.url, .string r.id, .bool r.read, .slice A r.entries.length c, .string r.surl, .slice A' r.kept.length c'] 28)) 28 #[.int .i8 q.kind, .int .i64 q.gen, .string q.url, .string q.id, .bool q.read, .slice B q.entries.length d, .string q.surl, .slice B' q.kept.length d']).alloc (.cells (#[.int .i8 r.kind, .int .i64 r.gen, .string r.url, .string r.id, .bool r.read, .slice A r.entries.length c, .string r.surl, .slice A' r.kept.length c'] ++ #[.int .i8 q.kind, .int .i64 q.gen, .string q.url, .string q.id, .bool q.read, .slice B q.entries.length d, .string q.surl, .slice B' q.kept.length d']) 28))
  have KR := hide (Blk.new ((w.alloc (.cells #[.int .i8 r.kind, .int .i64 r.gen, .string r.url, .string r.id, .bool r.read, .slice A r.entries.length c, .string r.surl, .slice A' r.kept.length c'] 28)).alloc (.cells #[.int .i8 q.kind, .int .i64 q.gen, .string q.url, .string q.id, .bool q.read, .slice B q.entries.length d, .string q.surl, .slice B' q.kept.length d'] 28)) 28 (#[.int .i8 r.kind, .int .i64 r.gen, .string r.url, .string r.id, .bool r.read, .slice A r.entries.length c, .string r.surl, .slice A' r.kept.length c'] ++ #[.int .i8 q.kind, .int .i64 q.gen, .string q.url, .string q.id, .bool q.read, .slice B q.entries.length d, .string q.surl, .slice B' q.kept.length d']))
  have WB := hide ((below2 w (.cells #[.int .i8 r.kind, .int .i64 r.gen, .string r.url, .string r.id, .bool r.read, .slice A r.entries.length c, .string r.surl, .slice A' r.kept.length c'] 28) (.cells #[.int .i8 q.kind, .int .i64 q.gen, .string q.url, .string q.id, .bool q.read, .slice B q.entries.length d, .string q.surl, .slice B' q.kept.length d'] 28)).alloc (by simp; omega) (.cells (#[.int .i8 r.kind, .int .i64 r.gen, .string r.url, .string r.id, .bool r.read, .slice A r.entries.length c, .string r.surl, .slice A' r.kept.length c'] ++ #[.int .i8 q.kind, .int .i64 q.gen, .string q.url, .string q.id, .bool q.read, .slice B q.entries.length d, .string q.surl, .slice B' q.kept.length d']) 28))
  simp only [World.size_alloc] at KQ KR
  simp only [List.append_toArray, List.cons_append, List.nil_append] at KA KQ KR WB
  obtain ⟨W1, hW1⟩ : ∃ W1, ((w.alloc (.cells #[.int .i8 r.kind, .int .i64 r.gen, .string r.url, .string r.id, .bool r.read, .slice A r.entries.length c, .string r.surl, .slice A' r.kept.length c'] 28)).alloc (.cells #[.int .i8 q.kind, .int .i64 q.gen, .string q.url, .string q.id, .bool q.read, .slice B q.entries.length d, .string q.surl, .slice B' q.kept.length d'] 28)).alloc (.cells #[.int .i8 r.kind, .int .i64 r.gen, .string r.url, .string r.id, .bool r.read, .slice A r.entries.length c, .string r.surl, .slice A' r.kept.length c', .int .i8 q.kind, .int .i64 q.gen, .string q.url, .string q.id, .bool q.read, .slice B q.entries.length d, .string q.surl, .slice B' q.kept.length d'] 28) = W1 := ⟨_, rfl⟩
  rw [hW1] at KA KQ KR WB ⊢
  clear hW1
  refine (HG.out W1 _ WB.out KR.out).mono ?_
  rintro e w1 ⟨rfl, hb⟩
  have HB := hide hb
  clear hb HG KR
  cases gr with
  | true =>
    clear HX KA KQ
    go_wp2_with fail
    refine (wakes_any _).mono ?_
    rintro e w2 ⟨rfl, hb⟩
    replace HB := hide (HB.out.trans (hb.mono HB.out.size))
    clear hb
    go_wp2
    go_ret
    exact ⟨rfl, WB.out.trans (HB.out.mono WB.out.size)⟩
  | false =>
    have h0 := HX.out rfl
    have HA := hide fun W (hb : Below W1.heap.size W1 W) => (h0.1.ans c c').bytes W (WB.out.trans (hb.mono WB.out.size))
    have HF := hide fun W (hb : Below W1.heap.size W1 W) => (h0.1.ans c c').frame W (WB.out.trans (hb.mono WB.out.size))
    have HQ := hide fun W (hb : Below W1.heap.size W1 W) => (h0.2.ans d d').bytes W (WB.out.trans (hb.mono WB.out.size))
    have HS := hide fun W (hb : Below W1.heap.size W1 W) => same_in r q A A' B B' c c' d d' w W h0.1 h0.2 (WB.out.trans (hb.mono WB.out.size))
    clear h0 HX
    unfold rcdCells at HA HF HQ HS
    rcases Bool.eq_false_or_eq_true (mayAll r) with hm | hm
    · rcases Bool.eq_false_or_eq_true (mayAll q) with hn | hn
      · have hss := bytes_same hm hn
        have hzz := frame_size hm
        have hz4 := frame_from4 hm
        have hsz : (bytesOut r).size ≤ 65536 := by rw [bytes_yes hm, bstr_size]; exact (mayAll_iff.1 hm).2
        rw [code_yes hm] at HA HF
        rw [code_yes hn] at HQ
        generalize bytesOut r = x at *
        generalize bytesOut q = y at *
        generalize frameOut r = z at *
        generalize decide (r = q) = s at *
        clear hm hn
        have hzl : ((z.size : Int) == (x.size : Int) + 4) = true := by simp; omega
        have h4 : ¬ (z.size : Int) < 4 := by omega
        have hzx : (z.extract 4 z.size).toList = x.toList := by rw [hz4]
        clear hz4 hzz
        obtain ⟨p0, p1, p2, p3, p4, p5, p6, p7⟩ := (KA.out.below HB.out KA.out.lt).rcd
        go_wp2_with fail
        clear p0 p1 p2 p3 p4 p5 p6 p7
        refine (HA.out _ HB.out).mono ?_
        rintro e w2 ⟨rfl, hb⟩
        replace HB := hide (HB.out.trans (hb.mono HB.out.size))
        clear hb
        obtain ⟨q0, q1, q2, q3, q4, q5, q6, q7⟩ := (KQ.out.below HB.out KQ.out.lt).rcd
        go_wp2_with fail
        clear q0 q1 q2 q3 q4 q5 q6 q7
        refine (HQ.out _ HB.out).mono ?_
        rintro e w3 ⟨rfl, hb⟩
        replace HB := hide (HB.out.trans (hb.mono HB.out.size))
        clear hb
        obtain ⟨p0, p1, p2, p3, p4, p5, p6, p7⟩ := (KA.out.below HB.out KA.out.lt).rcd
        go_wp2_with fail
        clear p0 p1 p2 p3 p4 p5 p6 p7
        refine (HF.out _ HB.out).mono ?_
        rintro e w4 ⟨rfl, hb⟩
        replace HB := hide (HB.out.trans (hb.mono HB.out.size))
        clear hb
        obtain ⟨p0, p1, p2, p3, p4, p5, p6, p7⟩ := (KA.out.below HB.out KA.out.lt).rcd
        obtain ⟨q0, q1, q2, q3, q4, q5, q6, q7⟩ := (KQ.out.below HB.out KQ.out.lt).rcd
        go_wp2_with fail
        clear p0 p1 p2 p3 p4 p5 p6 p7
        clear q0 q1 q2 q3 q4 q5 q6 q7
        refine (HS.out _ HB.out).mono ?_
        rintro e w5 ⟨rfl, hb⟩
        replace HB := hide (HB.out.trans (hb.mono HB.out.size))
        clear hb
        go_wp2_with fail
        refine (wakes_any _).mono ?_
        rintro e w6 ⟨rfl, hb⟩
        replace HB := hide (HB.out.trans (hb.mono HB.out.size))
        clear hb
        go_wp2
        go_ret
        exact ⟨rfl, WB.out.trans (HB.out.mono WB.out.size)⟩
      · rw [code_yes hm] at HA
        rw [code_no hn] at HQ
        clear hm hn HS HF
        generalize bytesOut r = x at *
        generalize bytesOut q = y at *
        obtain ⟨p0, p1, p2, p3, p4, p5, p6, p7⟩ := (KA.out.below HB.out KA.out.lt).rcd
        go_wp2_with fail
        clear p0 p1 p2 p3 p4 p5 p6 p7
        refine (HA.out _ HB.out).mono ?_
        rintro e w2 ⟨rfl, hb⟩
        replace HB := hide (HB.out.trans (hb.mono HB.out.size))
        clear hb
        obtain ⟨q0, q1, q2, q3, q4, q5, q6, q7⟩ := (KQ.out.below HB.out KQ.out.lt).rcd
        go_wp2_with fail
        clear q0 q1 q2 q3 q4 q5 q6 q7
        refine (HQ.out _ HB.out).mono ?_
        rintro e w3 ⟨rfl, hb⟩
        replace HB := hide (HB.out.trans (hb.mono HB.out.size))
        clear hb
        go_wp2_with fail
        refine (wakes_any _).mono ?_
        rintro e w4 ⟨rfl, hb⟩
        replace HB := hide (HB.out.trans (hb.mono HB.out.size))
        clear hb
        go_wp2
        go_ret
        exact ⟨rfl, WB.out.trans (HB.out.mono WB.out.size)⟩
    · rw [code_no hm] at HA
      clear hm HS HF
      generalize bytesOut r = x at *
      generalize bytesOut q = y at *
      generalize codeOut q = z at *
      obtain ⟨p0, p1, p2, p3, p4, p5, p6, p7⟩ := (KA.out.below HB.out KA.out.lt).rcd
      go_wp2_with fail
      clear p0 p1 p2 p3 p4 p5 p6 p7
      refine (HA.out _ HB.out).mono ?_
      rintro e w2 ⟨rfl, hb⟩
      replace HB := hide (HB.out.trans (hb.mono HB.out.size))
      clear hb
      obtain ⟨q0, q1, q2, q3, q4, q5, q6, q7⟩ := (KQ.out.below HB.out KQ.out.lt).rcd
      go_wp2_with fail
      clear q0 q1 q2 q3 q4 q5 q6 q7
      refine (HQ.out _ HB.out).mono ?_
      rintro e w3 ⟨rfl, hb⟩
      replace HB := hide (HB.out.trans (hb.mono HB.out.size))
      clear hb
      go_wp2_with fail
      refine (wakes_any _).mono ?_
      rintro e w4 ⟨rfl, hb⟩
      replace HB := hide (HB.out.trans (hb.mono HB.out.size))
      clear hb
      go_wp2
      go_ret
      exact ⟨rfl, WB.out.trans (HB.out.mono WB.out.size)⟩
end Go.Proofs.Ytlkkmgimjjnhjaa
namespace Go.Proofs.Ytlkkmgimjjnhjaa
open Go.ChangeShapes Go.WideShapes Go.ChangeAt Go.RowKit Rec

theorem Try.own : ownKnob Try.prog.godebug = none := by kernel_rfl
section
variable {H : Type} {enc : TypeId × Value → H} {P : Program}
/-- The row's last step, where of the world behind the call 'Below' alone is known. -/
theorem shut_below {f : Func} {s : ChangeSpec} {apart fresh handsOn again : Bool} {W W' : World} {args : Array Value} {v : Value} {ds gs : List (DataW H)} {before pa pv : List MemPlace}
    (hW : DataW.Whole enc P f.params.toList s.vars apart W args.toList ds gs before)
    (hres : ∀ (b : Nat) (sp : Nat → Bool) (hd : Bool), DataW.TrodAll enc P W' b sp hd f.resultTypes.toList (v.resultList f.resultTypes.size) (s.fn H (ds ++ gs)).results [])
    (hargs : ∀ sp : Nat → Bool, (∀ p ∈ before, sp p.block = true) → DataW.TrodAll enc P W' 0 sp true f.params.toList args.toList (s.fn H (ds ++ gs)).args pa)
    (hvars : ∀ sp : Nat → Bool, (∀ p ∈ before, sp p.block = true) → DataW.TrodVars enc P W' sp s.vars (s.fn H (ds ++ gs)).vars pv)
    (hps : before = pa ++ pv) (hb : Below W.heap.size W W')
    (hok : ∀ (j : Nat) (t : TypeId) (r : Value), f.resultTypes[j]? = some t → (v.resultList f.resultTypes.size)[j]? = some r → Value.okWide P W' .any 0 t r) :
    s.post enc P f apart fresh handsOn again W args v W' := by
  have hlt : ∀ p ∈ before, p.block < W.heap.size := fun p hp => hW.lt p hp
  have hold : ∀ p ∈ before, (fun b => decide (b < W.heap.size)) p.block = true := fun p hp => by simpa using hlt p hp
  refine ⟨ds, gs, before, [], pa, pv, hW, hres _ _ _, hargs _ hold, hvars _ hold, World.keptBut_mono (fun p hp => ⟨hp, ?_⟩) (hb.frame (· ∈ before)), fun _ => ?_⟩
  · rw [hps, List.mem_append] at hp
    exact Or.inr hp
  · obtain ⟨_, _, _, _, _, hz, hn⟩ := hW
    refine ⟨hok, _, _, ([] ++ pa) ++ pv, ⟨[] ++ pa, pv, trodAll_append (hargs _ (fun _ _ => rfl)) (hres _ _ _), hvars _ (fun _ _ => rfl), rfl, ?_, ?_⟩, ?_⟩
    · intro b off hp
      have hin : MemPlace.cell b off ∈ before := by rw [hps]; simpa using hp
      rw [hb.frozen (hlt _ hin)]
      exact hz b off hin
    · intro ha
      have := hn ha
      rw [hps] at this
      simpa using this
    · intro p hp _
      rw [hps]
      simpa using hp
end
section
variable {H : Type} {enc : TypeId × Value → H}
set_option maxRecDepth 100000 in
theorem stays_rcd {W W' : World} {sp' : Nat → Bool} {v : Value} {d : DataW H} {ps : List MemPlace} (h : DataW.Trod enc Try.prog W 0 (fun _ => true) true 28 v d ps) (hsame : ∀ p ∈ ps, W.sameAt W' p) (hs : ∀ p ∈ ps, sp' p.block = true) :
    DataW.Trod enc Try.prog W' 0 sp' true 28 v d ps :=
  WideElems.Trod_stays (by kernel_rfl) (by kernel_rfl) (of_decide_eq_true (by kernel_rfl)) h hsame hs
end
end Go.Proofs.Ytlkkmgimjjnhjaa
