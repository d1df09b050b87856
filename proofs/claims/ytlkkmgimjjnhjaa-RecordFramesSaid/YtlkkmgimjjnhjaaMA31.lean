/- The law RecordReads, walked. · Whether an entry may be kept, its texts of whatever size. (Printed by wip/genKeeps.py.) · The law RecordKeeps, walked. (Printed by wip/genLawKeeps.py.) · Arguments opened: an entry from its cells' reading. · Arguments opened: a slice of rows; a kept entry, a record from their cells' reading. -/
import Derived.Test.YtlkkmgimjjnhjaaMA02
import Derived.Test.YtlkkmgimjjnhjaaMA04
import Derived.Test.YtlkkmgimjjnhjaaMA05
import Derived.Test.YtlkkmgimjjnhjaaMA30
import Derived.ProofKit
import Derived.OpenShut
import Derived.Deep.Slices
set_option linter.unusedSimpArgs false
set_option linter.unusedVariables false
namespace Go.Proofs.Ytlkkmgimjjnhjaa
open Go.RowKit Rec

theorem mayAll_may {r : Rcd} (h : mayAll r = true) : may r = true := by
  unfold mayAll at h
  simp at h
  exact h.1
theorem recOf_fine (b : ByteArray) : (recOf (readOut b)).entries.length ≤ 1000000000 ∧ (recOf (readOut b)).kept.length ≤ 1000000000 := by
  cases h : readOut b with
  | none => simp [recOf, zeroRcd]
  | some x =>
    have hf := may_fine (mayAll_may (readOut_may h))
    have h1 := hf.na
    have h2 := hf.nk
    simp only [recOf, Option.getD_some]
    omega
theorem Fr.In.same {x : Fr} {B : Nat} {w : World} (h : x.In B w) : SameIn w x := by
  have hf := may_fine (mayAll_may h.may)
  have h1 := hf.na
  have h2 := hf.nk
  exact ⟨h.a, h.k, by omega, by omega⟩
theorem plain_recs {xs ys : List Fr} (h : xs.map Fr.plain = ys.map Fr.plain) : xs.map (·.r) = ys.map (·.r) := by
  have := congrArg (fun l : List (Nat × Rcd) => l.map (·.2)) h
  simpa [Fr.plain, Function.comp_def] using this
theorem framesN_length (z : Nat) : ∀ (n : Nat) (l : List UInt8), (framesN z n l).length ≤ n := by
  intro n
  induction n with
  | zero => intro l; simp [framesN]
  | succ n ih =>
    intro l
    cases h : nextF l with
    | none => rw [framesN_succ z n l none h]; simp
    | some y =>
      rw [framesN_succ z n l _ h]
      have := ih y.2
      simpa using this

set_option maxHeartbeats 4000000 in
theorem reads_any (b : ByteArray) (w : World) : Calls Try.prog 4 #[.string b] w fun e w' => e = .returned (.bool true) ∧ Below w.heap.size w w' := by
  by_cases hs : b.size ≤ 20000
  · have hd : decide ((20000 : Int) < b.size) = false := by simp; omega
    have HR := hide fun (W : World) => record_read b W (by omega)
    have HQ := hide fun (W : World) => ref_read b W (by omega)
    have HA := hide fun (W : World) => all_any b W (by omega)
    have HZ := hide fun (W : World) => refall_any b W (by omega)
    have Hfl := hide (show (framesOf b).length ≤ 20000 from Nat.le_trans (framesN_length b.size b.size b.data.toList) hs)
    have Hre := hide (recOf_fine b)
    clear hs
    unfold ReadR at HR HQ
    unfold AllR at HA HZ
    obtain ⟨o, ho⟩ : ∃ o, readOut b = o := ⟨_, rfl⟩
    rw [ho] at HR HQ Hre
    obtain ⟨r, hr⟩ : ∃ r, recOf o = r := ⟨_, rfl⟩
    obtain ⟨cd, hcd⟩ : ∃ r, codeR o = r := ⟨_, rfl⟩
    rw [hr] at HR HQ Hre
    rw [hcd] at HR HQ
    obtain ⟨F, hF⟩ : ∃ F, framesOf b = F := ⟨_, rfl⟩
    rw [hF] at HA HZ Hfl
    obtain ⟨le, hle⟩ : ∃ z : Int, (b.size : Int) - lastEnd F = z := ⟨_, rfl⟩
    rw [hle] at HA HZ
    clear ho hr hcd hF hle
    go_enter Try.func4, Try.ntmps4
    go_wp2_with fail
    refine (HR.out _).mono ?_
    rintro e w1 ⟨A, c, A', c', rfl, hb1, ha, hk, -, -, -, -⟩
    unfold rcdCells
    have Ha := hide ha
    have Hk := hide hk
    have B1 := hide (hb1.alloc hb1.size (.cells (rcdCells r A c A' c') 28))
    have K1 := hide (Blk.new w1 28 (rcdCells r A c A' c'))
    have L1 := hide ((Below.refl w1.heap.size w1).alloc (Nat.le_refl _) (.cells (rcdCells r A c A' c') 28))
    clear hb1 ha hk
    go_wp2_with fail
    refine (HQ.out _).mono ?_
    rintro e w2 ⟨E, f, E', f', rfl, hb2, he, hf, -, -, -, -⟩
    unfold rcdCells
    have He := hide he
    have Hf := hide hf
    have B2 := hide ((B1.out.trans (hb2.mono B1.out.size)).alloc (Nat.le_trans B1.out.size hb2.size) (.cells (rcdCells r E f E' f') 28))
    have K2 := hide (Blk.new w2 28 (rcdCells r E f E' f'))
    have L2 := hide ((L1.out.trans (hb2.mono (by simp))).alloc (by have := hb2.size; simp at this; omega) (.cells (rcdCells r E f E' f') 28))
    have M2 := hide ((Below.refl w2.heap.size w2).alloc (Nat.le_refl _) (.cells (rcdCells r E f E' f') 28))
    replace K1 := hide ((K1.out.below hb2 (by simp)).alloc (.cells (rcdCells r E f E' f') 28))
    have Hs12 := hide (show w1.heap.size < w2.heap.size by have := hb2.size; simp at this; omega)
    clear hb2 he hf L1 B1
    go_wp2_with fail
    refine (HA.out _).mono ?_
    rintro e w3 ⟨xs, X, cx, hx, rfl, hb3, hxr, hxi⟩
    have Hx := hide hx
    have Hxr := hide hxr
    have Hxi := hide hxi
    have B3 := hide (B2.out.trans (hb3.mono B2.out.size))
    have L3 := hide (L2.out.trans (hb3.mono (by have := Hs12.out; simp; omega)))
    have M3 := hide (M2.out.trans (hb3.mono (by simp)))
    replace K1 := hide (K1.out.below hb3 (by have := Hs12.out; simp; omega))
    replace K2 := hide (K2.out.below hb3 (by simp))
    have Hs23 := hide (show w2.heap.size < w3.heap.size by have := hb3.size; simp at this; omega)
    clear hx hxr hxi hb3 B2 L2 M2
    go_wp2_with fail
    refine (HZ.out _).mono ?_
    rintro e w4 ⟨ys, Y, cy, hy, rfl, hb4, hyr, hyi⟩
    have Hy := hide hy
    have Hyr := hide hyr
    have Hyi := hide hyi
    have B4 := hide (B3.out.trans (hb4.mono B3.out.size))
    have L4 := hide (L3.out.trans (hb4.mono (by have := Hs12.out; have := Hs23.out; omega)))
    have M4 := hide (M3.out.trans (hb4.mono (by have := Hs23.out; omega)))
    have N4 := hide hb4
    replace K1 := hide (K1.out.below hb4 (by have := Hs12.out; have := Hs23.out; omega))
    replace K2 := hide (K2.out.below hb4 Hs23.out)
    clear hy hyr hyi hb4 B3 L3 M3
    have Hlx := hide (show xs.length ≤ 20000 by have := congrArg List.length Hx.out; rw [List.length_map] at this; rw [this]; exact Hfl.out)
    have Hly := hide (show ys.length ≤ 20000 by have := congrArg List.length Hy.out; rw [List.length_map] at this; rw [this]; exact Hfl.out)
    have HS := hide (refSame_any r r A A' E E' c c' f f' w4 ((Ha.out.below L4.out).more L4.out.size) ((Hk.out.below L4.out).more L4.out.size) ((He.out.below M4.out).more M4.out.size) ((Hf.out.below M4.out).more M4.out.size) Hre.out.1 Hre.out.1 Hre.out.2 Hre.out.2)
    have HSA := hide fun (W : World) (hW : Below w4.heap.size w4 W) => sameAll_any X Y cx cy xs ys W ((Hxr.out.below (N4.out.trans (hW.mono N4.out.size))).more (N4.out.trans (hW.mono N4.out.size)).size) ((Hyr.out.below hW).more hW.size)
      (fun x hx => ((Hxi.out x hx).same).below (N4.out.trans (hW.mono N4.out.size))) (fun x hx => ((Hyi.out x hx).same).below hW) (by have := Hlx.out; omega) (by have := Hly.out; omega)
    have hdd : decide (xs.map (·.r) = ys.map (·.r)) = true := by simpa using plain_recs (Hx.out.trans Hy.out.symm)
    have hrr : decide (r = r) = true := by simp
    rw [hdd] at HSA
    rw [hrr] at HS
    unfold rcdCells at HS
    clear hdd hrr
    have x0 : w4.cell? ⟨w1.heap.size, 0, none⟩ = some (.int .i8 r.kind) := K1.out.cell 0
    have x1 : w4.cell? ⟨w1.heap.size, 1, none⟩ = some (.int .i64 r.gen) := K1.out.cell 1
    have x2 : w4.cell? ⟨w1.heap.size, 2, none⟩ = some (.string r.url) := K1.out.cell 2
    have x3 : w4.cell? ⟨w1.heap.size, 3, none⟩ = some (.string r.id) := K1.out.cell 3
    have x4 : w4.cell? ⟨w1.heap.size, 4, none⟩ = some (.bool r.read) := K1.out.cell 4
    have x5 : w4.cell? ⟨w1.heap.size, 5, none⟩ = some (.slice A r.entries.length c) := K1.out.cell 5
    have x6 : w4.cell? ⟨w1.heap.size, 6, none⟩ = some (.string r.surl) := K1.out.cell 6
    have x7 : w4.cell? ⟨w1.heap.size, 7, none⟩ = some (.slice A' r.kept.length c') := K1.out.cell 7
    have y0 : w4.cell? ⟨w2.heap.size, 0, none⟩ = some (.int .i8 r.kind) := K2.out.cell 0
    have y1 : w4.cell? ⟨w2.heap.size, 1, none⟩ = some (.int .i64 r.gen) := K2.out.cell 1
    have y2 : w4.cell? ⟨w2.heap.size, 2, none⟩ = some (.string r.url) := K2.out.cell 2
    have y3 : w4.cell? ⟨w2.heap.size, 3, none⟩ = some (.string r.id) := K2.out.cell 3
    have y4 : w4.cell? ⟨w2.heap.size, 4, none⟩ = some (.bool r.read) := K2.out.cell 4
    have y5 : w4.cell? ⟨w2.heap.size, 5, none⟩ = some (.slice E r.entries.length f) := K2.out.cell 5
    have y6 : w4.cell? ⟨w2.heap.size, 6, none⟩ = some (.string r.surl) := K2.out.cell 6
    have y7 : w4.cell? ⟨w2.heap.size, 7, none⟩ = some (.slice E' r.kept.length f') := K2.out.cell 7
    go_wp2_with fail
    refine HS.out.mono ?_
    rintro e w5 ⟨rfl, hb5⟩
    have H5 := hide hb5
    clear hb5
    go_wp2_with fail
    refine (HSA.out _ H5.out).mono ?_
    rintro e w6 ⟨rfl, hb6⟩
    have H6 := hide (H5.out.trans (hb6.mono H5.out.size))
    clear hb6
    go_wp2_with fail
    refine (wakes_any _).mono ?_
    rintro e w7 ⟨rfl, hb7⟩
    have H7 := hide (H6.out.trans (hb7.mono H6.out.size))
    clear hb7
    go_wp2
    go_ret
    exact ⟨rfl, B4.out.trans (H7.out.mono B4.out.size)⟩
  · have hd : decide ((20000 : Int) < b.size) = true := by simp; omega
    clear hs
    go_enter Try.func4, Try.ntmps4
    go_wp2_with fail
    refine (wakes_any _).mono ?_
    rintro e w1 ⟨rfl, hb1⟩
    go_wp2
    go_ret
    exact ⟨rfl, hb1⟩
end Go.Proofs.Ytlkkmgimjjnhjaa
namespace Go.Proofs.Ytlkkmgimjjnhjaa
open Go.RowKit Rec

set_option maxHeartbeats 1000000 in
theorem keeps_free (x : Ent) (w : World) :
    Calls Try.prog 27 #[.agg (entCells x).toArray] w fun e w' => e = .returned (.bool (keeps x)) ∧ Below w.heap.size w w' := by
  have hi := hide (five_index x)
  have h5 := hide (@sumTo.eq_2 x)
  unfold entCells
  go_enter Try.func27, Try.ntmps27
  go_wp2
  have k0 := Blk.new w 47 #[.string x.id, .string x.title, .string x.link, .string x.author, .string x.content, .bool x.has, .int .i64 x.sec]
  have kb := below_alloc w (.cells #[.string x.id, .string x.title, .string x.link, .string x.author, .string x.content, .bool x.has, .int .i64 x.sec] 47)
  obtain ⟨W0, hW0⟩ : ∃ W0, (w.alloc (.cells #[.string x.id, .string x.title, .string x.link, .string x.author, .string x.content, .bool x.has, .int .i64 x.sec] 47)) = W0 := ⟨_, rfl⟩
  rw [hW0] at k0 kb ⊢
  clear hW0
  have HK := hide k0
  have HB := hide kb
  clear k0 kb
  go_loopg [3, 17] 5 (fun g vn vi wr => ∃ k : Nat, g = 5 - k ∧ k ≤ 5 ∧ (∃ n : Nat, vn = .int .i64 n ∧ n ≤ 30000 * k ∧ sumTo x k = n) ∧ vi = .int .i64 k ∧ (∀ j, j < k → okText (five x j) = true) ∧ Blk wr w.heap.size 47 #[.string x.id, .string x.title, .string x.link, .string x.author, .string x.content, .bool x.has, .int .i64 x.sec] ∧ Below w.heap.size w wr)
  case atStart => exact ⟨0, rfl, by omega, ⟨0, rfl, by omega, rfl⟩, rfl, fun j hj => absurd hj (by omega), HK.out, HB.out⟩
  case round =>
    obtain ⟨k, hg, hk, ⟨n, rfl, hn, hsn⟩, rfl, hok, k0, kb⟩ := hrel
    clear HK HB
    have Hg := hide hg
    have Hn := hide hsn
    have Hok := hide hok
    have K0 := hide k0
    have Kb := hide kb
    clear hg hsn hok
    by_cases hlt : k < 5
    · have ix := hi.out k hlt
      by_cases hz : (five x k).size ≤ 30000
      · obtain ⟨s, hs⟩ : ∃ s, five x k = s := ⟨_, rfl⟩
        rw [hs] at ix hz
        have hv := valid_any s
        obtain ⟨v, hv1⟩ : ∃ v, Utf.valid s.data.toList = v := ⟨_, rfl⟩
        rw [hv1] at hv
        have V := hide fun W => hv W (by omega)
        have Hs := hide hs
        have Hv := hide hv1
        clear hs hv hv1 hz
        go_wp2_with (go_at_call 47; refine (V.out _).mono ?_; rintro e w' ⟨rfl, hb⟩; replace K0 := hide (K0.out.below hb K0.out.lt); replace Kb := hide (Kb.out.trans (hb.mono Kb.out.size)); clear hb)
        · go_ret
          exact ⟨ret_eq1 (bool_eq (keeps_no hlt (by rw [Hs.out]; exact okText_no rfl Hv.out (by assumption)))), Kb.out⟩
        · go_roundg (5 - (k + 1))
          case measure => have := Hg.out; omega
          case rel => exact ⟨k + 1, rfl, by omega, ⟨n + s.size, by go_num, by omega, by rw [h5.out, Hn.out, Hs.out]⟩, by go_num, ok_next Hok.out (by rw [Hs.out]; exact okText_yes rfl Hv.out (by assumption) (And.right (by assumption))), K0.out, Kb.out⟩
        · go_ret
          exact ⟨ret_eq1 (bool_eq (keeps_no hlt (by rw [Hs.out]; exact okText_no rfl Hv.out (.inl (by assumption))))), Kb.out⟩
      · obtain ⟨s, hs⟩ : ∃ s, five x k = s := ⟨_, rfl⟩
        rw [hs] at ix hz
        have hg3 : (30000 : Int) < s.size := by omega
        have Hs := hide hs
        obtain ⟨v, hv1⟩ : ∃ v, Utf.valid s.data.toList = v := ⟨_, rfl⟩
        have Hv := hide hv1
        clear hs hz hv1
        go_wp2
        go_ret
        exact ⟨ret_eq1 (bool_eq (keeps_no hlt (by rw [Hs.out]; exact okText_no rfl Hv.out (.inl hg3)))), Kb.out⟩
    · have hk5 : k = 5 := by omega
      have hkk := keeps_yes (x := x) (hk5 ▸ Hok.out)
      rw [← hk5, Hn.out] at hkk
      have Hkk := hide hkk
      have q0 := k0.cell 0
      have q5 := k0.cell 5
      have q6 := k0.cell 6
      clear hkk hk5
      rcases Bool.eq_false_or_eq_true x.has with hh | hh
      · rw [hh] at q5
        have Hh := hide hh
        clear hh
        go_wp2
        all_goals go_ret
        all_goals first
          | exact ⟨ret_eq1 (bool_eq (fin_e Hkk.out (by assumption))), Kb.out⟩
          | exact ⟨ret_eq1 (bool_eq (fin_y Hkk.out (okTime_t Hh.out (by assumption)))), Kb.out⟩
          | exact ⟨ret_eq1 (bool_eq (fin_t Hkk.out (okTime_tn Hh.out (by first | assumption | exact .inl (by assumption))))), Kb.out⟩
      · rw [hh] at q5
        have Hh := hide hh
        clear hh
        go_wp2
        all_goals go_ret
        all_goals first
          | exact ⟨ret_eq1 (bool_eq (fin_e Hkk.out (by assumption))), Kb.out⟩
          | exact ⟨ret_eq1 (bool_eq (fin_y Hkk.out (okTime_f Hh.out (by assumption)))), Kb.out⟩
          | exact ⟨ret_eq1 (bool_eq (fin_t Hkk.out (okTime_fn Hh.out (by first | assumption | exact .inl (by assumption))))), Kb.out⟩
set_option maxHeartbeats 1000000 in
theorem refKeeps_free (x : Ent) (w : World) :
    Calls Try.prog 28 #[.agg (entCells x).toArray] w fun e w' => e = .returned (.bool (keeps x)) ∧ Below w.heap.size w w' := by
  have h5 := hide (@sumTo.eq_2 x)
  have HW := hide fun (W : World) => when_any x.has x.sec W
  obtain ⟨ok, hok0⟩ : ∃ b, okTime x.has x.sec = b := ⟨_, rfl⟩
  rw [hok0] at HW
  have Hok0 := hide hok0
  clear hok0
  unfold entCells
  go_enter Try.func28, Try.ntmps28
  go_wp2
  have k0 := (Blk.new w 47 #[.string x.id, .string x.title, .string x.link, .string x.author, .string x.content, .bool x.has, .int .i64 x.sec]).alloc (.cells #[.string x.id, .string x.title, .string x.link, .string x.author, .string x.content] 9)
  have k1 := Blk.new (w.alloc (.cells #[.string x.id, .string x.title, .string x.link, .string x.author, .string x.content, .bool x.has, .int .i64 x.sec] 47)) 9 #[.string x.id, .string x.title, .string x.link, .string x.author, .string x.content]
  rw [World.size_alloc] at k1
  have kb := below2 w (.cells #[.string x.id, .string x.title, .string x.link, .string x.author, .string x.content, .bool x.has, .int .i64 x.sec] 47) (.cells #[.string x.id, .string x.title, .string x.link, .string x.author, .string x.content] 9)
  obtain ⟨W0, hW0⟩ : ∃ W0, ((w.alloc (.cells #[.string x.id, .string x.title, .string x.link, .string x.author, .string x.content, .bool x.has, .int .i64 x.sec] 47)).alloc (.cells #[.string x.id, .string x.title, .string x.link, .string x.author, .string x.content] 9)) = W0 := ⟨_, rfl⟩
  rw [hW0] at k0 k1 kb ⊢
  clear hW0
  have HK := hide k0
  have HK1 := hide k1
  have HB := hide kb
  clear k0 kb k1
  go_loopg [4, 5] 5 (fun g vn vi wr => ∃ k : Nat, g = 5 - k ∧ k ≤ 5 ∧ (∃ n : Nat, vn = .int .i64 n ∧ n ≤ 30000 * k ∧ sumTo x k = n) ∧ vi = .int .i64 k ∧ (∀ j, j < k → okText (five x j) = true) ∧ Blk wr w.heap.size 47 #[.string x.id, .string x.title, .string x.link, .string x.author, .string x.content, .bool x.has, .int .i64 x.sec] ∧
    Blk wr (w.heap.size + 1) 9 #[.string x.id, .string x.title, .string x.link, .string x.author, .string x.content] ∧ Below w.heap.size w wr)
  case atStart => exact ⟨0, rfl, by omega, ⟨0, rfl, by omega, rfl⟩, rfl, fun j hj => absurd hj (by omega), HK.out, HK1.out, HB.out⟩
  case round =>
    obtain ⟨k, hg, hk, ⟨n, rfl, hn, hsn⟩, rfl, hok, k0, k1, kb⟩ := hrel
    clear HK HB HK1
    have Hg := hide hg
    have Hn := hide hsn
    have Hok := hide hok
    have K0 := hide k0
    have K1 := hide k1
    have Kb := hide kb
    clear hg hsn hok
    by_cases hlt : k < 5
    · have ix := (k1.cell k).trans (five_cell x k hlt)
      by_cases hz : (five x k).size ≤ 30000
      · obtain ⟨s, hs⟩ : ∃ s, five x k = s := ⟨_, rfl⟩
        rw [hs] at ix hz
        have hv := refValid_any s
        obtain ⟨v, hv1⟩ : ∃ v, Utf.valid s.data.toList = v := ⟨_, rfl⟩
        rw [hv1] at hv
        have V := hide fun W => hv W (by omega)
        have Hs := hide hs
        have Hv := hide hv1
        clear hs hv hv1 hz k0 k1 kb
        go_wp2_with (go_at_call 48; refine (V.out _).mono ?_; rintro e w' ⟨rfl, hb⟩; replace ix := (hb.cell (show (⟨w.heap.size + 1, k, none⟩ : Addr).block < _ from K1.out.lt)).trans ix; replace K0 := hide (K0.out.below hb K0.out.lt); replace K1 := hide (K1.out.below hb K1.out.lt); replace Kb := hide (Kb.out.trans (hb.mono Kb.out.size)); clear hb)
        · go_ret
          exact ⟨ret_eq1 (bool_eq (keeps_no hlt (by rw [Hs.out]; exact okText_no rfl Hv.out (by assumption)))), Kb.out⟩
        · go_roundg (5 - (k + 1))
          case measure => have := Hg.out; omega
          case rel => exact ⟨k + 1, rfl, by omega, ⟨n + s.size, by go_num, by omega, by rw [h5.out, Hn.out, Hs.out]⟩, by go_num, ok_next Hok.out (by rw [Hs.out]; exact okText_yes rfl Hv.out (by assumption) (And.right (by assumption))), K0.out, K1.out, Kb.out⟩
        · go_ret
          exact ⟨ret_eq1 (bool_eq (keeps_no hlt (by rw [Hs.out]; exact okText_no rfl Hv.out (.inl (by assumption))))), Kb.out⟩
      · obtain ⟨s, hs⟩ : ∃ s, five x k = s := ⟨_, rfl⟩
        rw [hs] at ix hz
        have hg3 : (30000 : Int) < s.size := by omega
        have Hs := hide hs
        obtain ⟨v, hv1⟩ : ∃ v, Utf.valid s.data.toList = v := ⟨_, rfl⟩
        have Hv := hide hv1
        clear hs hz hv1 k0 k1 kb
        go_wp2
        go_ret
        exact ⟨ret_eq1 (bool_eq (keeps_no hlt (by rw [Hs.out]; exact okText_no rfl Hv.out (.inl hg3)))), Kb.out⟩
    · have hk5 : k = 5 := by omega
      have hkk := keeps_yes (x := x) (hk5 ▸ Hok.out)
      rw [← hk5, Hn.out] at hkk
      have Hkk := hide hkk
      have q0 := k0.cell 0
      have q5 := k0.cell 5
      have q6 := k0.cell 6
      clear hkk hk5 k0 k1 kb
      go_wp2_with (go_at_call 49; refine (HW.out _).mono ?_; rintro e w' ⟨rfl, hb⟩; replace Kb := hide (Kb.out.trans (hb.mono Kb.out.size)); clear hb)
      all_goals go_ret
      all_goals first
          | exact ⟨ret_eq1 (bool_eq (fin_e Hkk.out (by assumption))), Kb.out⟩
          | exact ⟨ret_eq1 (bool_eq (rfin Hkk.out (by assumption) (by assumption) Hok0.out)), Kb.out⟩
          | exact ⟨ret_eq1 (bool_eq (rfin_n Hkk.out (by assumption))), Kb.out⟩
end Go.Proofs.Ytlkkmgimjjnhjaa
namespace Go.Proofs.Ytlkkmgimjjnhjaa
open Go.RowKit Rec

def oneRcd (x : Ent) : Rcd := { zeroRcd with entries := [x] }

theorem oneIn {x : Ent} {w : World} {g : Nat} (h : Blk w g 47 (entCells x).toArray) : SizeIn w (oneRcd x) (some ⟨g, 0, none⟩) none where
  a := ⟨by simp [oneRcd, ents, entCells], fun _ => ⟨g, 0, rfl, h.lt, fun j u hj => by
    rw [Nat.zero_add, h.cell j, ← hj]
    simp [oneRcd, ents]⟩⟩
  k := Reads.none_
  na := by simp [oneRcd, maxLen]
  nk := by simp [oneRcd, zeroRcd, maxLen]

set_option maxHeartbeats 4000000 in
theorem lawKeeps_any (x : Ent) (w : World) : Calls Try.prog 5 #[.agg (entCells x).toArray] w fun e w' => e = .returned (.bool true) ∧ Below w.heap.size w w' := by
  have HZ := hide (Size_any (oneRcd x))
  have HP := hide (keeps_free x)
  have HQ := hide (refKeeps_free x)
  obtain ⟨kp, hkp⟩ : ∃ b, keeps x = b := ⟨_, rfl⟩
  rw [hkp] at HP HQ
  obtain ⟨z, hz⟩ : ∃ z, rSize (oneRcd x) = z := ⟨_, rfl⟩
  rw [hz] at HZ
  clear hkp hz
  unfold entCells at HP HQ ⊢
  go_enter Try.func5, Try.ntmps5
  go_wp2_with fail
  have k0 := (Blk.new w 47 #[.string x.id, .string x.title, .string x.link, .string x.author, .string x.content, .bool x.has, .int .i64 x.sec]).alloc (.cells #[.string x.id, .string x.title, .string x.link, .string x.author, .string x.content, .bool x.has, .int .i64 x.sec] 47)
  have k1 := Blk.new (w.alloc (.cells #[.string x.id, .string x.title, .string x.link, .string x.author, .string x.content, .bool x.has, .int .i64 x.sec] 47)) 47 #[.string x.id, .string x.title, .string x.link, .string x.author, .string x.content, .bool x.has, .int .i64 x.sec]
  have kb := (below_alloc w (.cells #[.string x.id, .string x.title, .string x.link, .string x.author, .string x.content, .bool x.has, .int .i64 x.sec] 47)).alloc (by simp) (.cells #[.string x.id, .string x.title, .string x.link, .string x.author, .string x.content, .bool x.has, .int .i64 x.sec] 47)
  simp only [World.size_alloc] at k1
  obtain ⟨W0, hW0⟩ : ∃ W0, (w.alloc (.cells #[.string x.id, .string x.title, .string x.link, .string x.author, .string x.content, .bool x.has, .int .i64 x.sec] 47)).alloc (.cells #[.string x.id, .string x.title, .string x.link, .string x.author, .string x.content, .bool x.has, .int .i64 x.sec] 47) = W0 := ⟨_, rfl⟩
  rw [hW0] at k0 k1 kb ⊢
  clear hW0
  have hin := oneIn (x := x) (w := W0) (g := w.heap.size + 1) k1
  have HI := hide hin
  have K0 := hide k0
  have K1 := hide k1
  have KB := hide kb
  clear hin k0 k1 kb
  refine (HZ.out (some ⟨w.heap.size + 1, 0, none⟩) none 1 0 W0 HI.out).mono ?_
  rintro e w1 ⟨rfl, hb1⟩
  have HB1 := hide hb1
  clear hb1
  by_cases hz : 100000 < z
  · have hd : decide ((100000 : Int) < (z : Int)) = true := by simp; omega
    clear hz
    go_wp2_with fail
    refine (wakes_any _).mono ?_
    rintro e w2 ⟨rfl, hb2⟩
    have HB2 := hide (KB.out.trans ((HB1.out.trans (hb2.mono HB1.out.size)).mono KB.out.size))
    clear hb2
    go_wp2
    go_ret
    exact ⟨rfl, HB2.out⟩
  · have hd : decide ((100000 : Int) < (z : Int)) = false := by simp; omega
    clear hz
    have KK := hide (K0.out.below HB1.out K0.out.lt)
    have B1 := hide (KB.out.trans (HB1.out.mono KB.out.size))
    have x0 : w1.cell? ⟨w.heap.size, 0, none⟩ = some (.string x.id) := KK.out.cell 0
    have x1 : w1.cell? ⟨w.heap.size, 1, none⟩ = some (.string x.title) := KK.out.cell 1
    have x2 : w1.cell? ⟨w.heap.size, 2, none⟩ = some (.string x.link) := KK.out.cell 2
    have x3 : w1.cell? ⟨w.heap.size, 3, none⟩ = some (.string x.author) := KK.out.cell 3
    have x4 : w1.cell? ⟨w.heap.size, 4, none⟩ = some (.string x.content) := KK.out.cell 4
    have x5 : w1.cell? ⟨w.heap.size, 5, none⟩ = some (.bool x.has) := KK.out.cell 5
    have x6 : w1.cell? ⟨w.heap.size, 6, none⟩ = some (.int .i64 x.sec) := KK.out.cell 6
    have y0 : Below w1.heap.size w1 w1 := Below.refl _ _
    go_wp2
    refine wp_region_held_drew (S := fun w' => w'.cell? ⟨w.heap.size, 0, none⟩ = some (.string x.id) ∧ w'.cell? ⟨w.heap.size, 1, none⟩ = some (.string x.title) ∧ w'.cell? ⟨w.heap.size, 2, none⟩ = some (.string x.link) ∧ w'.cell? ⟨w.heap.size, 3, none⟩ = some (.string x.author) ∧ w'.cell? ⟨w.heap.size, 4, none⟩ = some (.string x.content) ∧ w'.cell? ⟨w.heap.size, 5, none⟩ = some (.bool x.has) ∧ w'.cell? ⟨w.heap.size, 6, none⟩ = some (.int .i64 x.sec) ∧ Below w1.heap.size w1 w') (by kernel_rfl) ?_ (fun hHeld => ?_)
    · (try dsimp only)
      go_split_ands
      refine ⟨?_, ?_, ?_, ?_, ?_, ?_, ?_, ?_⟩ <;> first | assumption | exact Below.drew (by assumption) | exact cell_go (by assumption) (by assumption) | exact below_go (by assumption) (by assumption) (Nat.le_refl _)
    change wpAnyH _ _ _ _ _ 9 #[false, false, false, false, false, false, false, false, false] _ _
    refine held_take (i := 0) (d := 9) (v := ?_) rfl rfl (by kernel_rfl) (by kernel_rfl) (by kernel_rfl) (fun _ _ _ h => h) (by kernel_rfl) hHeld ?_ ?_
    rotate_left
    · intro w hSw
      (try dsimp only at hSw)
      go_simp
      first | done | with_reducible rfl
    (try simp only [Act.put, List.setIfInBounds_toArray, List.set_cons_zero, List.set_cons_succ])
    refine held_take (i := 2) (d := 11) (v := ?_) rfl rfl (by kernel_rfl) (by kernel_rfl) (by kernel_rfl) (fun _ _ _ h => h) (by kernel_rfl) hHeld ?_ ?_
    rotate_left
    · intro w hSw
      (try dsimp only at hSw)
      go_simp
      first | done | with_reducible rfl
    (try simp only [Act.put, List.setIfInBounds_toArray, List.set_cons_zero, List.set_cons_succ])
    refine held_call (i := 1) rfl (by kernel_rfl) (by kernel_rfl) (fun K hK => ?_)
    go_simp
    go_at_call 27
    refine (HP.out _).mono ?_
    rintro e w' ⟨rfl, hb⟩
    (try dsimp only)
    refine hK.out _ _ ?_ (fun hHeld' => ?_)
    · (try dsimp only)
      go_split_ands
      refine ⟨?_, ?_, ?_, ?_, ?_, ?_, ?_, ?_⟩ <;> first | assumption | exact Below.drew (by assumption) | exact cell_go (by assumption) (by assumption) | exact below_go (by assumption) (by assumption) (Nat.le_refl _)
    clear hK K hHeld
    have hHeld := hHeld'
    clear hHeld'
    (try simp only [Act.put, List.setIfInBounds_toArray, List.set_cons_zero, List.set_cons_succ])
    refine held_call (i := 3) rfl (by kernel_rfl) (by kernel_rfl) (fun K hK => ?_)
    go_simp
    go_at_call 28
    refine (HQ.out _).mono ?_
    rintro e w' ⟨rfl, hb⟩
    (try dsimp only)
    refine hK.out _ _ ?_ (fun hHeld' => ?_)
    · (try dsimp only)
      go_split_ands
      refine ⟨?_, ?_, ?_, ?_, ?_, ?_, ?_, ?_⟩ <;> first | assumption | exact Below.drew (by assumption) | exact cell_go (by assumption) (by assumption) | exact below_go (by assumption) (by assumption) (Nat.le_refl _)
    clear hK K hHeld
    have hHeld := hHeld'
    clear hHeld'
    (try simp only [Act.put, List.setIfInBounds_toArray, List.set_cons_zero, List.set_cons_succ])
    refine held_take (i := 4) (d := 13) (v := ?_) rfl rfl (by kernel_rfl) (by kernel_rfl) (by kernel_rfl) (fun _ _ _ h => h) (by kernel_rfl) hHeld ?_ ?_
    rotate_left
    · intro w hSw
      (try dsimp only at hSw)
      go_simp
      first | done | with_reducible rfl
    (try simp only [Act.put, List.setIfInBounds_toArray, List.set_cons_zero, List.set_cons_succ])
    refine held_take (i := 5) (d := 14) (v := ?_) rfl rfl (by kernel_rfl) (by kernel_rfl) (by kernel_rfl) (fun _ _ _ h => h) (by kernel_rfl) hHeld ?_ ?_
    rotate_left
    · intro w hSw
      (try dsimp only at hSw)
      go_simp
      first | done | with_reducible rfl
    (try simp only [Act.put, List.setIfInBounds_toArray, List.set_cons_zero, List.set_cons_succ])
    refine held_call (i := 6) rfl (by kernel_rfl) (by kernel_rfl) (fun K hK => ?_)
    go_simp
    go_at_call 10
    refine (wakes_any _).mono ?_
    rintro e w' ⟨rfl, hb⟩
    (try dsimp only)
    refine hK.out _ _ ?_ (fun hHeld' => ?_)
    · (try dsimp only)
      go_split_ands
      refine ⟨?_, ?_, ?_, ?_, ?_, ?_, ?_, ?_⟩ <;> first | assumption | exact Below.drew (by assumption) | exact cell_go (by assumption) (by assumption) | exact below_go (by assumption) (by assumption) (Nat.le_refl _)
    clear hK K hHeld
    have hHeld := hHeld'
    clear hHeld'
    (try simp only [Act.put, List.setIfInBounds_toArray, List.set_cons_zero, List.set_cons_succ])
    refine held_take (i := 7) (d := 16) (v := ?_) rfl rfl (by kernel_rfl) (by kernel_rfl) (by kernel_rfl) (fun _ _ _ h => h) (by kernel_rfl) hHeld ?_ ?_
    rotate_left
    · intro w hSw
      (try dsimp only at hSw)
      go_simp
      first | done | with_reducible rfl
    (try simp only [Act.put, List.setIfInBounds_toArray, List.set_cons_zero, List.set_cons_succ])
    refine held_take (i := 8) (d := 2) (v := ?_) rfl rfl (by kernel_rfl) (by kernel_rfl) (by kernel_rfl) (fun _ _ _ h => h) (by kernel_rfl) hHeld ?_ ?_
    rotate_left
    · intro w hSw
      (try dsimp only at hSw)
      go_simp
      first | done | with_reducible rfl
    (try simp only [Act.put, List.setIfInBounds_toArray, List.set_cons_zero, List.set_cons_succ])
    refine wpAnyH_done (by kernel_rfl) ?_ _
    go_wp2
    go_ret
    exact ⟨rfl, B1.out.trans (Below.mono hHeld.2.2.2.2.2.2.2 B1.out.size)⟩
end Go.Proofs.Ytlkkmgimjjnhjaa
namespace Go.Proofs.Ytlkkmgimjjnhjaa
open Go.RowKit Go.ChangeShapes Go.WideShapes Rec

section
variable {H : Type} {enc : TypeId × Value → H} {w : World} {base : Nat} {sp : Nat → Bool} {held : Bool}
/-- What an entry reads as. -/
def entData (x : Ent) : DataW H := .agg [.lit (.string x.id.data.toList), .lit (.string x.title.data.toList), .lit (.string x.link.data.toList), .lit (.string x.author.data.toList), .lit (.string x.content.data.toList), .agg [.lit (.bool x.has), .lit (.int .i64 x.sec)]]
set_option maxRecDepth 100000 in
theorem open_ent {fuel : Nat} {cs : List Value} {y : DataW H × List MemPlace} (h : DataW.trod enc Try.prog w base sp held fuel 47 cs = some y) :
    ∃ x : Ent, cs = entCells x ∧ y = (entData x, []) ∧ (∀ k, k < 5 → (five x k).size ≤ maxLen) ∧ (Lit.int .i64 x.sec).wf = true := by
  have hc7 : Try.prog.cellsOf 47 = 7 := by kernel_rfl
  have hcs : Try.prog.cellsOf 9 = 1 := by kernel_rfl
  have hct : Try.prog.cellsOf 45 = 2 := by kernel_rfl
  have hcb : Try.prog.cellsOf 4 = 1 := by kernel_rfl
  have hci : Try.prog.cellsOf 3 = 1 := by kernel_rfl
  obtain ⟨ys, m, _, rfl, hlen, hl, hf⟩ := DataW.trod_struct Try.underlying47 h
  rw [hc7] at hlen
  match cs, hlen, ys, hl with
  | [c0, c1, c2, c3, c4, c5, c6], _, [y0, y1, y2, y3, y4, y5], _ =>
    have h0 := hf 0 _ rfl
    have h1 := hf 1 _ rfl
    have h2 := hf 2 _ rfl
    have h3 := hf 3 _ rfl
    have h4 := hf 4 _ rfl
    have h5 := hf 5 _ rfl
    simp [hcs, hct] at h0 h1 h2 h3 h4 h5
    obtain ⟨a0, e0, rfl, s0⟩ := DataW.trod_string Try.underlying9 h0
    obtain ⟨a1, e1, rfl, s1⟩ := DataW.trod_string Try.underlying9 h1
    obtain ⟨a2, e2, rfl, s2⟩ := DataW.trod_string Try.underlying9 h2
    obtain ⟨a3, e3, rfl, s3⟩ := DataW.trod_string Try.underlying9 h3
    obtain ⟨a4, e4, rfl, s4⟩ := DataW.trod_string Try.underlying9 h4
    obtain ⟨zs, m', _, rfl, _, hzl, hzf⟩ := DataW.trod_struct Try.underlying45 h5
    match zs, hzl with
    | [z0, z1], _ =>
      have g0 := hzf 0 _ rfl
      have g1 := hzf 1 _ rfl
      simp [hcb, hci] at g0 g1
      obtain ⟨b, f0, rfl⟩ := DataW.trod_bool Try.underlying4 g0
      obtain ⟨n, f1, rfl, hn⟩ := DataW.trod_int Try.underlying3 g1
      simp at e0 e1 e2 e3 e4 f0 f1
      subst e0 e1 e2 e3 e4 f0 f1
      refine ⟨⟨a0, a1, a2, a3, a4, b, n⟩, rfl, by simp [entData], fun k hk => ?_, hn⟩
      match k, hk with
      | 0, _ => exact s0
      | 1, _ => exact s1
      | 2, _ => exact s2
      | 3, _ => exact s3
      | 4, _ => exact s4
end
end Go.Proofs.Ytlkkmgimjjnhjaa
namespace Go.Proofs.Ytlkkmgimjjnhjaa
open Go.RowKit Go.ChangeShapes Go.WideShapes Rec

theorem flat_length {α : Type} {f : α → List Value} {s : Nat} (hf : ∀ x, (f x).length = s) : ∀ l : List α, (l.flatMap f).length = l.length * s
  | [] => by simp
  | x :: l => by rw [List.flatMap_cons, List.length_append, hf, flat_length hf l, List.length_cons, Nat.succ_mul]; omega
theorem flat_at {α : Type} {f : α → List Value} {s : Nat} (hf : ∀ x, (f x).length = s) : ∀ (l : List α) (k : Nat) (hk : k < l.length) (j : Nat), j < s → (l.flatMap f)[k * s + j]? = (f l[k])[j]?
  | [], k, hk, _, _ => absurd hk (by simp)
  | x :: l, 0, _, j, hj => by rw [List.flatMap_cons, List.getElem?_append_left (by rw [hf]; omega)]; simp
  | x :: l, k + 1, hk, j, hj => by
    have hk' : k < l.length := by simpa using hk
    rw [List.flatMap_cons, List.getElem?_append_right (by rw [hf, Nat.succ_mul]; omega), hf, show (k + 1) * s + j - s = k * s + j from by rw [Nat.succ_mul]; omega]
    exact flat_at hf l k hk' j hj

section
variable {H : Type} {enc : TypeId × Value → H} {w : World} {sp : Nat → Bool} {held : Bool}
set_option maxRecDepth 100000 in
theorem open_rows {α : Type} [Inhabited α] {t e : TypeId} {s : Nat} {f : α → List Value} {R : α → Prop} {fuel : Nat} {cs : List Value} {y : DataW H × List MemPlace} (hf : ∀ x, (f x).length = s) (hs : 0 < s)
    (ht : Try.prog.underlying t = some (.slice e)) (hC : Try.prog.cellsOf e = s) (ho : ∀ (n : Nat) (cs : List Value) (y : DataW H × List MemPlace), DataW.trod enc Try.prog w 0 sp held n e cs = some y → ∃ x, cs = f x ∧ R x)
    (h : DataW.trod enc Try.prog w 0 sp held fuel t cs = some y) :
    ∃ (A : Option Addr) (l : List α) (c : Nat), cs = [.slice A l.length c] ∧ Reads w w.heap.size s A l.length (l.flatMap f) ∧ l.length ≤ maxLen ∧ ∀ x ∈ l, R x := by
  rcases Go.Deep.open_slice ht h with ⟨rfl, -⟩ | ⟨a, len, cap, m, n, D, Pl, rfl, _, hl, hm, hmm, -, hx⟩
  · exact ⟨none, [], 0, rfl, Reads.none_, by simp, by simp⟩
  · rw [hC] at hx
    have hlm : len ≤ m := by rw [hmm]; split <;> omega
    obtain ⟨g, hg⟩ := Go.Deep.choose_lt (α := α) (n := len) (p := fun i x => w.cells? 0 (a.add (i * s)) s = some (f x) ∧ R x) (fun i hi => by
      obtain ⟨cs', h1, h2⟩ := hx i (by omega)
      obtain ⟨x, rfl, hr⟩ := ho _ _ _ h2
      exact ⟨x, h1, hr⟩)
    have hlen : ((List.range len).map g).length = len := by simp
    refine ⟨some a, (List.range len).map g, cap, by rw [hlen], ⟨flat_length hf _, fun h0 => ?_⟩, by rw [hlen]; omega, fun x hx => ?_⟩
    · rw [hlen] at h0
      have hcell : ∀ i j, i < len → j < s → w.cell? ((a.add (i * s)).add j) = (f (g i))[j]? := fun i j hi hj => (World.cells?_some (hg i hi).1).2.2 j hj
      have h00 : w.cell? a = (f (g 0))[0]? := by have := hcell 0 0 h0 hs; simpa [Addr.add] using this
      have hv : (f (g 0))[0]? = some ((f (g 0))[0]'(by rw [hf]; exact hs)) := List.getElem?_eq_getElem _
      rw [hv] at h00
      have hsp := World.cell?_spot h00
      have hblt := cell_lt h00
      obtain ⟨b, off, spot⟩ := a
      simp only at hsp hblt
      subst hsp
      refine ⟨b, off, rfl, hblt, fun j u hu => ?_⟩
      have hj : j < len * s := by
        have := (List.getElem?_eq_some_iff.1 hu).1
        rwa [flat_length hf, hlen] at this
      have hi : j / s < len := Nat.div_lt_of_lt_mul (by rw [Nat.mul_comm]; exact hj)
      have hjs : j % s < s := Nat.mod_lt _ hs
      have ej : j / s * s + j % s = j := by rw [Nat.mul_comm]; exact Nat.div_add_mod j s
      have hc := hcell (j / s) (j % s) hi hjs
      rw [Go.Deep.add_add, ej] at hc
      have hat := flat_at hf ((List.range len).map g) (j / s) (by rw [hlen]; exact hi) (j % s) hjs
      rw [ej, hu] at hat
      simp only [List.getElem_map, List.getElem_range] at hat
      rw [← hat] at hc
      have ea : (Addr.add ⟨b, off, none⟩ j : Addr) = ⟨b, off + j, none⟩ := by
        unfold Addr.add
        split
        · subst_vars; rfl
        · rfl
      rwa [ea] at hc
    · obtain ⟨i, hi, rfl⟩ := List.mem_map.1 hx
      exact (hg i (by simpa using hi)).2

/-- What an entry's reading tells beside its cells. -/
def EntGot (x : Ent) : Prop := (∀ k, k < 5 → (five x k).size ≤ maxLen) ∧ (Lit.int .i64 x.sec).wf = true
set_option maxRecDepth 100000 in
theorem open_kpt {base fuel : Nat} {cs : List Value} {y : DataW H × List MemPlace} (h : DataW.trod enc Try.prog w base sp held fuel 64 cs = some y) :
    ∃ x : Kpt, cs = kptCells x ∧ EntGot x.e := by
  have hc8 : Try.prog.cellsOf 64 = 8 := by kernel_rfl
  have hc7 : Try.prog.cellsOf 47 = 7 := by kernel_rfl
  have hcb : Try.prog.cellsOf 4 = 1 := by kernel_rfl
  obtain ⟨ys, m, _, rfl, hlen, hl, hf⟩ := DataW.trod_struct Try.underlying64 h
  rw [hc8] at hlen
  match cs, hlen, ys, hl with
  | [c0, c1, c2, c3, c4, c5, c6, c7], _, [y0, y1], _ =>
    have h0 := hf 0 _ rfl
    have h1 := hf 1 _ rfl
    simp [hc7, hcb] at h0 h1
    obtain ⟨x, ex, -, hs, hw⟩ := open_ent h0
    obtain ⟨b, e1, rfl⟩ := DataW.trod_bool Try.underlying4 h1
    simp at e1
    subst e1
    refine ⟨⟨x, b⟩, ?_, hs, hw⟩
    show _ = entCells x ++ [.bool b]
    rw [← ex]
    rfl
instance : Inhabited Ent := ⟨⟨⟨#[]⟩, ⟨#[]⟩, ⟨#[]⟩, ⟨#[]⟩, ⟨#[]⟩, false, 0⟩⟩
instance : Inhabited Kpt := ⟨⟨default, false⟩⟩
/-- What a record's reading tells. -/
structure RcdGot (w : World) (r : Rcd) (A A' : Option Addr) : Prop where
  a : Reads w w.heap.size 7 A r.entries.length (ents r.entries)
  k : Reads w w.heap.size 8 A' r.kept.length (kpts r.kept)
  na : r.entries.length ≤ maxLen
  nk : r.kept.length ≤ maxLen
  ea : ∀ x ∈ r.entries, EntGot x
  ek : ∀ x ∈ r.kept, EntGot x.e
  url : r.url.size ≤ maxLen
  id : r.id.size ≤ maxLen
  surl : r.surl.size ≤ maxLen
  kind : (Lit.int .i8 r.kind).wf = true
  gen : (Lit.int .i64 r.gen).wf = true
set_option maxRecDepth 100000 in
theorem open_rcd {fuel : Nat} {cs : List Value} {y : DataW H × List MemPlace} (h : DataW.trod enc Try.prog w 0 sp held fuel 28 cs = some y) :
    ∃ (r : Rcd) (A A' : Option Addr) (c c' : Nat), cs = (rcdCells r A c A' c').toList ∧ RcdGot w r A A' := by
  have hc8 : Try.prog.cellsOf 28 = 8 := by kernel_rfl
  have hc2 : Try.prog.cellsOf 26 = 2 := by kernel_rfl
  have hcn : Try.prog.cellsOf 22 = 1 := by kernel_rfl
  have hci : Try.prog.cellsOf 3 = 1 := by kernel_rfl
  have hcs : Try.prog.cellsOf 9 = 1 := by kernel_rfl
  have hcb : Try.prog.cellsOf 4 = 1 := by kernel_rfl
  have hce : Try.prog.cellsOf 23 = 1 := by kernel_rfl
  have hck : Try.prog.cellsOf 24 = 1 := by kernel_rfl
  obtain ⟨ys, m, _, rfl, hlen, hl, hf⟩ := DataW.trod_struct Try.underlying28 h
  rw [hc8] at hlen
  match cs, hlen, ys, hl with
  | [c0, c1, c2, c3, c4, c5, c6, c7], _, [y0, y1, y2, y3, y4, y5, y6], _ =>
    have h0 := hf 0 _ rfl
    have h1 := hf 1 _ rfl
    have h2 := hf 2 _ rfl
    have h3 := hf 3 _ rfl
    have h4 := hf 4 _ rfl
    have h5 := hf 5 _ rfl
    have h6 := hf 6 _ rfl
    simp [hc2, hcn, hci, hcs, hcb, hce] at h0 h1 h2 h3 h4 h5 h6
    obtain ⟨kind, e0, rfl, w0⟩ := DataW.trod_int Try.underlying22 h0
    obtain ⟨gen, e1, rfl, w1⟩ := DataW.trod_int Try.underlying3 h1
    obtain ⟨url, e2, rfl, s2⟩ := DataW.trod_string Try.underlying9 h2
    obtain ⟨id, e3, rfl, s3⟩ := DataW.trod_string Try.underlying9 h3
    obtain ⟨rd, e4, rfl⟩ := DataW.trod_bool Try.underlying4 h4
    obtain ⟨A, l, c, e5, hA, hl, hx⟩ := open_rows (s := 7) (f := entCells) (R := EntGot) (fun _ => rfl) (by omega) Try.underlying23 (by kernel_rfl)
      (fun n cs y hy => by obtain ⟨x, ex, -, hs, hw⟩ := open_ent hy; exact ⟨x, ex, hs, hw⟩) h5
    obtain ⟨zs, m', _, rfl, _, hzl, hzf⟩ := DataW.trod_struct Try.underlying26 h6
    match zs, hzl with
    | [z0, z1], _ =>
      have g0 := hzf 0 _ rfl
      have g1 := hzf 1 _ rfl
      simp [hcs, hck] at g0 g1
      obtain ⟨surl, e6, rfl, s6⟩ := DataW.trod_string Try.underlying9 g0
      obtain ⟨A', l', c', e7, hA', hl', hx'⟩ := open_rows (s := 8) (f := kptCells) (R := fun x => EntGot x.e) (fun _ => rfl) (by omega) Try.underlying24 (by kernel_rfl)
        (fun n cs y hy => open_kpt hy) g1
      simp at e0 e1 e2 e3 e4 e5 e6 e7
      subst e0 e1 e2 e3 e4 e5 e6 e7
      exact ⟨⟨kind, gen, url, id, rd, l, surl, l'⟩, A, A', c, c', rfl, ⟨hA, hA', hl, hl', hx, hx', s2, s3, s6, w0, w1⟩⟩
end
end Go.Proofs.Ytlkkmgimjjnhjaa
