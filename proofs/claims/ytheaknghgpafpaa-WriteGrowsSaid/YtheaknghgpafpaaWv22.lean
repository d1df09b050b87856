/- The laws' wakes; WriteOnce. · The law WriteGrows, walked. -/
import Derived.Test.YtheaknghgpafpaaWv03
import Derived.Test.YtheaknghgpafpaaWv21
set_option linter.unusedSimpArgs false
set_option linter.unusedVariables false
namespace Go.Proofs.Ytheaknghgpafpaa
open Go.RowKit Go.WideShapes

/-- The feed that wakes asks about. -/
def wakeF : Fd := ⟨[97, 38, 98], [], [], false, 0, []⟩
def wakeD : List UInt8 := [60, 63, 120, 109, 108, 32, 118, 101, 114, 115, 105, 111, 110, 61, 34, 49, 46, 48, 34, 32, 101, 110, 99, 111, 100, 105, 110, 103, 61, 34, 117, 116, 102, 45, 56, 34, 63, 62, 10, 60, 102, 101, 101, 100, 32, 120, 109, 108, 110, 115, 61, 34, 104, 116, 116, 112, 58, 47, 47, 119, 119, 119, 46, 119, 51, 46, 111, 114, 103, 47, 50, 48, 48, 53, 47, 65, 116, 111, 109, 34, 62, 10, 60, 105, 100, 62, 97, 38, 97, 109, 112, 59, 98, 60, 47, 105, 100, 62, 10, 60, 116, 105, 116, 108, 101, 62, 60, 47, 116, 105, 116, 108, 101, 62, 10, 60, 47, 102, 101, 101, 100, 62, 10]
theorem wake_may : Wr.may wakeF = true := by decide +kernel
theorem wake_doc : Wr.doc wakeF = wakeD := by decide +kernel
theorem wake_ok : wakeF.Ok := ⟨by decide, by decide, by decide, by decide, by intro x hx; cases hx⟩
theorem wake_size : Wr.size wakeF = 123 := by unfold Wr.size; rw [wake_may, wake_doc]; rfl
set_option maxHeartbeats 4000000 in
set_option maxRecDepth 100000 in
theorem wakes26_any (w : World) : Calls Try.prog 6 #[] w fun e w' => e = .returned (.bool true) ∧ Below w.heap.size w w' := by
  have HA := hide (fun W => Atom_any wakeF none 0 0 0 W Reads.none_ rfl (Nat.zero_le _) (by decide) wake_ok)
  have HS := hide (fun W => Size_any wakeF none 0 0 0 W Reads.none_ rfl (Nat.zero_le _) (by decide) wake_ok)
  rw [wake_size] at HS
  unfold Wr.atomV at HA
  rw [wake_may, wake_doc, if_pos rfl] at HA
  unfold wakeF Fd.cells at HA HS
  dsimp only at HA HS
  have hsz : (bstr wakeD).size = 123 := by decide
  have hbl : ((bstr wakeD).toList == [60, 63, 120, 109, 108, 32, 118, 101, 114, 115, 105, 111, 110, 61, 34, 49, 46, 48, 34, 32, 101, 110, 99, 111, 100, 105, 110, 103, 61, 34, 117, 116, 102, 45, 56, 34, 63, 62, 10, 60, 102, 101, 101, 100, 32, 120, 109, 108, 110, 115, 61, 34, 104, 116, 116, 112, 58, 47, 47, 119, 119, 119, 46, 119, 51, 46, 111, 114, 103, 47, 50, 48, 48, 53, 47, 65, 116, 111, 109, 34, 62, 10, 60, 105, 100, 62, 97, 38, 97, 109, 112, 59, 98, 60, 47, 105, 100, 62, 10, 60, 116, 105, 116, 108, 101, 62, 60, 47, 116, 105, 116, 108, 101, 62, 10, 60, 47, 102, 101, 101, 100, 62, 10]) = true := by rw [ByteArray.toList_eq, bstr_list]; decide
  obtain ⟨D, hD⟩ : ∃ D, bstr wakeD = D := ⟨_, rfl⟩
  rw [hD] at HA hsz hbl
  have HD := hide hD
  clear hD
  go_enter Try.func6, Try.ntmps6
  go_wp2_with fail
  refine (HA.out _).mono ?_
  rintro e w1 ⟨rfl, hb1⟩
  have HB1 := hide hb1
  clear hb1
  dsimp only
  go_wp2_with fail
  refine (HS.out _).mono ?_
  rintro e w2 ⟨rfl, hb2⟩
  have HB2 := hide (HB1.out.trans (hb2.mono HB1.out.size))
  clear hb2
  go_wp2
  go_ret
  exact ⟨rfl, HB2.out⟩
/-- What a feed that is not too great is. -/
structure Fd.Wf (f : Fd) : Prop where
  s : (Lit.int .i64 f.s).wf = true
  es : ∀ x ∈ f.es, (Lit.int .i64 x.s).wf = true
theorem wEnts_mem : ∀ (es : List Ent) (x : Ent), x ∈ es → wEnt x ≤ wEnts es
  | y :: l, x, h => by
    unfold wEnts
    rw [List.map_cons, List.sum_cons]
    rcases List.mem_cons.1 h with rfl | h
    · omega
    · have := wEnts_mem l x h
      unfold wEnts at this
      omega
theorem m20_small {l : List UInt8} (h : m20 l ≤ 6000) : l.length ≤ 20000 := by unfold m20 at h; omega
theorem ok_of_small {f : Fd} (h : greatP f = false) (hw : f.Wf) : f.Ok ∧ f.es.length ≤ 40 := by
  unfold greatP at h
  rw [Bool.or_eq_false_iff, decide_eq_false_iff_not, decide_eq_false_iff_not] at h
  obtain ⟨h1, h2⟩ := h
  unfold wFd at h2
  refine ⟨⟨m20_small (by omega), m20_small (by omega), m20_small (by omega), hw.s, fun x hx => ?_⟩, by omega⟩
  have := wEnts_mem f.es x hx
  unfold wEnt at this
  exact ⟨m20_small (by omega), m20_small (by omega), m20_small (by omega), m20_small (by omega), m20_small (by omega), hw.es x hx⟩
set_option maxHeartbeats 8000000 in
set_option maxRecDepth 100000 in
theorem lawOnce_any (f g : Fd) (A A' : Option Addr) (n c n' c' B : Nat) (w : World) (hR : Reads w B 7 A n (entVs f.es)) (hn : f.es.length = n) (hR' : Reads w B 7 A' n' (entVs g.es)) (hn' : g.es.length = n') (hB : B ≤ w.heap.size) (hm : n ≤ maxLen) (hm' : n' ≤ maxLen) (hf : f.Wf) (hg : g.Wf) :
    Calls Try.prog 3 #[.agg (f.cells A n c), .agg (g.cells A' n' c')] w fun e w' => e = .returned (.bool true) ∧ Below w.heap.size w w' := by
  have hO := (below_alloc w (.cells (f.cells A n c) 26)).trans ((below_alloc _ (.cells (g.cells A' n' c') 26)).mono (by simp))
  have hT := (Blk.new w 26 (f.cells A n c)).alloc (.cells (g.cells A' n' c') 26)
  have hU := Blk.new (w.alloc (.cells (f.cells A n c) 26)) 26 (g.cells A' n' c')
  rw [World.size_alloc] at hU
  have hz2 : ((w.alloc (.cells (f.cells A n c) 26)).alloc (.cells (g.cells A' n' c') 26)).heap.size = w.heap.size + 2 := by simp
  obtain ⟨W2, hW2⟩ : ∃ W2, (w.alloc (.cells (f.cells A n c) 26)).alloc (.cells (g.cells A' n' c') 26) = W2 := ⟨_, rfl⟩
  rw [hW2] at hO hT hU hz2
  have hrow : ∀ W, Below W2.heap.size W2 W → Reads W B 7 A n (entVs f.es) ∧ Reads W B 7 A' n' (entVs g.es) ∧ B ≤ W.heap.size := fun W hb => by
    have hk : ∀ p : Addr, p.block < B → W.cell? p = w.cell? p := fun p hp => World.cell?_of_block ((hb.block _ (by omega)).trans (hO.block _ (by omega)))
    exact ⟨hR.keep hk, hR'.keep hk, by have := hb.size; omega⟩
  have HO := hide hO
  have HT := hide hT
  have HU := hide hU
  have HG := hide (fun W (hb : Below W2.heap.size W2 W) => Great_any f A n c B W (hrow W hb).1 hn (hrow W hb).2.2 hm)
  have HG' := hide (fun W (hb : Below W2.heap.size W2 W) => Great_any g A' n' c' B W (hrow W hb).2.1 hn' (hrow W hb).2.2 hm')
  have HWk := hide (fun W => wakes26_any W)
  obtain ⟨gf, hgf⟩ : ∃ v, greatP f = v := ⟨_, rfl⟩
  obtain ⟨gg, hgg⟩ : ∃ v, greatP g = v := ⟨_, rfl⟩
  rw [hgf] at HG
  rw [hgg] at HG'
  have HRow := hide hrow
  have Hok := hide (fun h : gf = false => ok_of_small (hgf.trans h) hf)
  have Hok' := hide (fun h : gg = false => ok_of_small (hgg.trans h) hg)
  have Hn := hide hn
  have Hn' := hide hn'
  clear hrow hO hT hU hR hR' hgf hgg hf hg hn hn'
  unfold Fd.cells at HT HU HG HG' hW2 ⊢
  have t0 := HT.out.cell 0
  have t1 := HT.out.cell 1
  have t2 := HT.out.cell 2
  have t3 := HT.out.cell 3
  have t4 := HT.out.cell 4
  have t5 := HT.out.cell 5
  have u0 := HU.out.cell 0
  have u1 := HU.out.cell 1
  have u2 := HU.out.cell 2
  have u3 := HU.out.cell 3
  have u4 := HU.out.cell 4
  have u5 := HU.out.cell 5
  go_enter Try.func3, Try.ntmps3
  go_wp2_with fail
  refine (HG.out _ (Below.refl _ _)).mono ?_
  rintro e w1 ⟨rfl, hb1⟩
  have HB1 := hide hb1
  have HT1 := hide (HT.out.go hb1)
  have HU1 := hide (HU.out.go hb1)
  clear hb1 hW2 t0 t1 t2 t3 t4 t5 u0 u1 u2 u3 u4 u5
  have t0 := HT1.out.cell 0
  have t1 := HT1.out.cell 1
  have t2 := HT1.out.cell 2
  have t3 := HT1.out.cell 3
  have t4 := HT1.out.cell 4
  have t5 := HT1.out.cell 5
  have u0 := HU1.out.cell 0
  have u1 := HU1.out.cell 1
  have u2 := HU1.out.cell 2
  have u3 := HU1.out.cell 3
  have u4 := HU1.out.cell 4
  have u5 := HU1.out.cell 5
  have hz2' := hz2
  clear hz2
  cases gf with
  | true =>
    go_wp2_with fail
    refine (HWk.out _).mono ?_
    rintro e w2 ⟨rfl, hb2⟩
    have HB2 := hide (HB1.out.trans (hb2.mono HB1.out.size))
    clear hb2
    go_wp2
    go_ret
    exact ⟨rfl, HO.out.trans (HB2.out.mono HO.out.size)⟩
  | false =>
  go_wp2_with fail
  refine (HG'.out _ HB1.out).mono ?_
  rintro e w2 ⟨rfl, hb2⟩
  have HB2 := hide (HB1.out.trans (hb2.mono HB1.out.size))
  have HT2 := hide (HT1.out.go hb2)
  have HU2 := hide (HU1.out.go hb2)
  clear hb2 t0 t1 t2 t3 t4 t5 u0 u1 u2 u3 u4 u5
  have t0 := HT2.out.cell 0
  have t1 := HT2.out.cell 1
  have t2 := HT2.out.cell 2
  have t3 := HT2.out.cell 3
  have t4 := HT2.out.cell 4
  have t5 := HT2.out.cell 5
  have u0 := HU2.out.cell 0
  have u1 := HU2.out.cell 1
  have u2 := HU2.out.cell 2
  have u3 := HU2.out.cell 3
  have u4 := HU2.out.cell 4
  have u5 := HU2.out.cell 5
  cases gg with
  | true =>
    go_wp2_with fail
    refine (HWk.out _).mono ?_
    rintro e w3 ⟨rfl, hb3⟩
    have HB3 := hide (HB2.out.trans (hb3.mono HB2.out.size))
    clear hb3
    go_wp2
    go_ret
    exact ⟨rfl, HO.out.trans (HB3.out.mono HO.out.size)⟩
  | false =>
  obtain ⟨hokf, hlf⟩ := Hok.out (by trivial)
  obtain ⟨hokg, hlg⟩ := Hok'.out (by trivial)
  have hn40 : n ≤ 40 := by rw [← Hn.out]; exact hlf
  have hn40' : n' ≤ 40 := by rw [← Hn'.out]; exact hlg
  have HA := hide (fun W (hb : Below W2.heap.size W2 W) => Atom_any f A n c B W (HRow.out W hb).1 Hn.out (HRow.out W hb).2.2 hm hokf)
  have HA' := hide (fun W (hb : Below W2.heap.size W2 W) => Atom_any g A' n' c' B W (HRow.out W hb).2.1 Hn'.out (HRow.out W hb).2.2 hm' hokg)
  have HSz := hide (fun W (hb : Below W2.heap.size W2 W) => Size_any f A n c B W (HRow.out W hb).1 Hn.out (HRow.out W hb).2.2 hm hokf)
  have HSm := hide (fun W (hb : Below W2.heap.size W2 W) => refSame26_any f g A A' n c n' c' B W (HRow.out W hb).1 Hn.out (HRow.out W hb).2.1 Hn'.out (HRow.out W hb).2.2 (by omega))
  have HEq := hide (show Wr.may f = true → Wr.may g = true → ((bstr (Wr.doc f)).toList == (bstr (Wr.doc g)).toList) = sameP f g from fun h1 h2 => by
    by_cases he : f = g
    · rw [sameP_yes he, he]; simp
    · rw [sameP_no he]
      exact bstr_beq (fun h => he (Wr.doc_inj h1 h2 h)))
  have HSi := hide (show Wr.may f = true → Wr.size f = (bstr (Wr.doc f)).size from fun h => by unfold Wr.size; rw [h, if_pos rfl, bstr_size])
  unfold Wr.atomV at HA HA'
  unfold Fd.cells at HA HA' HSz HSm
  obtain ⟨mf, hmf⟩ : ∃ v, Wr.may f = v := ⟨_, rfl⟩
  obtain ⟨mg, hmg⟩ : ∃ v, Wr.may g = v := ⟨_, rfl⟩
  rw [hmf] at HA HEq HSi
  rw [hmg] at HA' HEq
  obtain ⟨D, hD⟩ : ∃ v, bstr (Wr.doc f) = v := ⟨_, rfl⟩
  obtain ⟨D', hD'⟩ : ∃ v, bstr (Wr.doc g) = v := ⟨_, rfl⟩
  rw [hD] at HA HEq HSi
  rw [hD'] at HA' HEq
  obtain ⟨q, hq⟩ : ∃ v, sameP f g = v := ⟨_, rfl⟩
  rw [hq] at HEq HSm
  obtain ⟨z, hz⟩ : ∃ v, Wr.size f = v := ⟨_, rfl⟩
  rw [hz] at HSi HSz
  clear hmf hmg hD hD' hq hz hokf hokg hlf hlg
  cases mf with
  | false =>
    rw [if_neg (by decide)] at HA
    go_wp2_with fail
    refine (HA.out _ HB2.out).mono ?_
    rintro e w3 ⟨rfl, hb3⟩
    have HB3 := hide (HB2.out.trans (hb3.mono HB2.out.size))
    have HU3 := hide (HU2.out.go hb3)
    clear hb3 t0 t1 t2 t3 t4 t5 u0 u1 u2 u3 u4 u5
    have u0 := HU3.out.cell 0
    have u1 := HU3.out.cell 1
    have u2 := HU3.out.cell 2
    have u3 := HU3.out.cell 3
    have u4 := HU3.out.cell 4
    have u5 := HU3.out.cell 5
    dsimp only
    cases mg with
    | false =>
      rw [if_neg (by decide)] at HA'
      go_wp2_with fail
      refine (HA'.out _ HB3.out).mono ?_
      rintro e w4 ⟨rfl, hb4⟩
      have HB4 := hide (HB3.out.trans (hb4.mono HB3.out.size))
      clear hb4 u0 u1 u2 u3 u4 u5
      dsimp only
      go_wp2_with fail
      refine (HWk.out _).mono ?_
      rintro e w5 ⟨rfl, hb5⟩
      have HB5 := hide (HB4.out.trans (hb5.mono HB4.out.size))
      clear hb5
      go_wp2
      go_ret
      exact ⟨rfl, HO.out.trans (HB5.out.mono HO.out.size)⟩
    | true =>
      rw [if_pos rfl] at HA'
      go_wp2_with fail
      refine (HA'.out _ HB3.out).mono ?_
      rintro e w4 ⟨rfl, hb4⟩
      have HB4 := hide (HB3.out.trans (hb4.mono HB3.out.size))
      clear hb4 u0 u1 u2 u3 u4 u5
      dsimp only
      go_wp2_with fail
      refine (HWk.out _).mono ?_
      rintro e w5 ⟨rfl, hb5⟩
      have HB5 := hide (HB4.out.trans (hb5.mono HB4.out.size))
      clear hb5
      go_wp2
      go_ret
      exact ⟨rfl, HO.out.trans (HB5.out.mono HO.out.size)⟩
  | true =>
  rw [if_pos rfl] at HA
  go_wp2_with fail
  refine (HA.out _ HB2.out).mono ?_
  rintro e w3 ⟨rfl, hb3⟩
  have HB3 := hide (HB2.out.trans (hb3.mono HB2.out.size))
  have HT3 := hide (HT2.out.go hb3)
  have HU3 := hide (HU2.out.go hb3)
  clear hb3 t0 t1 t2 t3 t4 t5 u0 u1 u2 u3 u4 u5
  have u0 := HU3.out.cell 0
  have u1 := HU3.out.cell 1
  have u2 := HU3.out.cell 2
  have u3 := HU3.out.cell 3
  have u4 := HU3.out.cell 4
  have u5 := HU3.out.cell 5
  dsimp only
  cases mg with
  | false =>
    rw [if_neg (by decide)] at HA'
    go_wp2_with fail
    refine (HA'.out _ HB3.out).mono ?_
    rintro e w4 ⟨rfl, hb4⟩
    have HB4 := hide (HB3.out.trans (hb4.mono HB3.out.size))
    clear hb4 u0 u1 u2 u3 u4 u5
    dsimp only
    go_wp2_with fail
    refine (HWk.out _).mono ?_
    rintro e w5 ⟨rfl, hb5⟩
    have HB5 := hide (HB4.out.trans (hb5.mono HB4.out.size))
    clear hb5
    go_wp2
    go_ret
    exact ⟨rfl, HO.out.trans (HB5.out.mono HO.out.size)⟩
  | true =>
  rw [if_pos rfl] at HA'
  go_wp2_with fail
  refine (HA'.out _ HB3.out).mono ?_
  rintro e w4 ⟨rfl, hb4⟩
  have HB4 := hide (HB3.out.trans (hb4.mono HB3.out.size))
  have HT4 := hide (HT3.out.go hb4)
  have HU4 := hide (HU3.out.go hb4)
  clear hb4 u0 u1 u2 u3 u4 u5
  have t0 := HT4.out.cell 0
  have t1 := HT4.out.cell 1
  have t2 := HT4.out.cell 2
  have t3 := HT4.out.cell 3
  have t4 := HT4.out.cell 4
  have t5 := HT4.out.cell 5
  have u0 := HU4.out.cell 0
  have u1 := HU4.out.cell 1
  have u2 := HU4.out.cell 2
  have u3 := HU4.out.cell 3
  have u4 := HU4.out.cell 4
  have u5 := HU4.out.cell 5
  have hbe := HEq.out (by trivial) (by trivial)
  have hse := HSi.out (by trivial)
  subst hse
  dsimp only
  go_wp2_with fail
  refine (HSm.out _ HB4.out).mono ?_
  rintro e w5 ⟨rfl, hb5⟩
  have HB5 := hide (HB4.out.trans (hb5.mono HB4.out.size))
  have HT5 := hide (HT4.out.go hb5)
  clear hb5 t0 t1 t2 t3 t4 t5 u0 u1 u2 u3 u4 u5
  have t0 := HT5.out.cell 0
  have t1 := HT5.out.cell 1
  have t2 := HT5.out.cell 2
  have t3 := HT5.out.cell 3
  have t4 := HT5.out.cell 4
  have t5 := HT5.out.cell 5
  go_wp2_with fail
  refine (HSz.out _ HB5.out).mono ?_
  rintro e w6 ⟨rfl, hb6⟩
  have HB6 := hide (HB5.out.trans (hb6.mono HB5.out.size))
  clear hb6 t0 t1 t2 t3 t4 t5
  go_wp2_with fail
  refine (HWk.out _).mono ?_
  rintro e w7 ⟨rfl, hb7⟩
  have HB7 := hide (HB6.out.trans (hb7.mono HB6.out.size))
  clear hb7
  go_wp2
  go_ret
  exact ⟨rfl, HO.out.trans (HB7.out.mono HO.out.size)⟩
end Go.Proofs.Ytheaknghgpafpaa
namespace Go.Proofs.Ytheaknghgpafpaa
open Go.RowKit Go.WideShapes

theorem entVs_app (a b : List Ent) : entVs (a ++ b) = entVs a ++ entVs b := by unfold entVs; rw [List.flatMap_append]
theorem reads_front {w : World} {B n k : Nat} {A : Option Addr} {es : List Ent} (h : Reads w B 7 A n (entVs es)) (hn : es.length = n) (hk : k ≤ n) : Reads w B 7 A k (entVs (es.take k)) := by
  refine ⟨by rw [entVs_length, List.length_take]; congr 1; omega, fun h0 => ?_⟩
  obtain ⟨b, off, hA, hb, hc⟩ := h.2 (by omega)
  refine ⟨b, off, hA, hb, fun j u hu => hc j u ?_⟩
  have hl := (List.getElem?_eq_some_iff.1 hu).1
  rw [← List.take_append_drop k es, entVs_app, List.getElem?_append_left hl]
  exact hu
set_option maxHeartbeats 8000000 in
set_option maxRecDepth 100000 in
theorem lawGrows_any (f : Fd) (A : Option Addr) (n c B : Nat) (w : World) (hR : Reads w B 7 A n (entVs f.es)) (hn : f.es.length = n) (hB : B ≤ w.heap.size) (hm : n ≤ maxLen) (hnc : n ≤ c) (hf : f.Wf) :
    Calls Try.prog 4 #[.agg (f.cells A n c)] w fun e w' => e = .returned (.bool true) ∧ Below w.heap.size w w' := by
  have hO := below_alloc w (.cells (f.cells A n c) 26)
  have hT := Blk.new w 26 (f.cells A n c)
  have hz2 : (w.alloc (.cells (f.cells A n c) 26)).heap.size = w.heap.size + 1 := by simp
  obtain ⟨W2, hW2⟩ : ∃ W2, w.alloc (.cells (f.cells A n c) 26) = W2 := ⟨_, rfl⟩
  rw [hW2] at hO hT hz2
  have hrow : ∀ W, Below w.heap.size w W → Reads W B 7 A n (entVs f.es) ∧ B ≤ W.heap.size := fun W hb =>
    ⟨hR.keep fun p hp => World.cell?_of_block (hb.block _ (by omega)), by have := hb.size; omega⟩
  have HO := hide hO
  have HT := hide hT
  have HG := hide (fun W (hb : Below w.heap.size w W) => Great_any f A n c B W (hrow W hb).1 hn (hrow W hb).2 hm)
  have HWk := hide (fun W => wakes26_any W)
  obtain ⟨gf, hgf⟩ : ∃ v, greatP f = v := ⟨_, rfl⟩
  rw [hgf] at HG
  have HRow := hide hrow
  have Hok := hide (fun h : gf = false => ok_of_small (hgf.trans h) hf)
  have Hn := hide hn
  have Hwf := hide hf
  clear hrow hO hT hR hgf hf hn
  unfold Fd.cells at HT HG hW2 ⊢
  have t0 := HT.out.cell 0
  have t1 := HT.out.cell 1
  have t2 := HT.out.cell 2
  have t3 := HT.out.cell 3
  have t4 := HT.out.cell 4
  have t5 := HT.out.cell 5
  go_enter Try.func4, Try.ntmps4
  go_wp2_with fail
  refine (HG.out _ HO.out).mono ?_
  rintro e w1 ⟨rfl, hb1⟩
  have HB1 := hide (HO.out.trans (hb1.mono HO.out.size))
  have HT1 := hide (HT.out.go hb1)
  clear hb1 hW2 t0 t1 t2 t3 t4 t5
  have t0 := HT1.out.cell 0
  have t1 := HT1.out.cell 1
  have t2 := HT1.out.cell 2
  have t3 := HT1.out.cell 3
  have t4 := HT1.out.cell 4
  have t5 := HT1.out.cell 5
  cases gf with
  | true =>
    go_wp2_with fail
    refine (HWk.out _).mono ?_
    rintro e w2 ⟨rfl, hb2⟩
    have HB2 := hide (HB1.out.trans (hb2.mono HB1.out.size))
    clear hb2
    go_wp2
    go_ret
    exact ⟨rfl, HB2.out⟩
  | false =>
  cases n with
  | zero =>
    go_wp2_with fail
    refine (HWk.out _).mono ?_
    rintro e w2 ⟨rfl, hb2⟩
    have HB2 := hide (HB1.out.trans (hb2.mono HB1.out.size))
    clear hb2
    go_wp2
    go_ret
    exact ⟨rfl, HB2.out⟩
  | succ n =>
  obtain ⟨hokf, hlf⟩ := Hok.out (by trivial)
  have hn40 : n + 1 ≤ 40 := by rw [← Hn.out]; exact hlf
  have HA := hide (fun W (hb : Below w.heap.size w W) => Atom_any f A (n + 1) c B W (HRow.out W hb).1 Hn.out (HRow.out W hb).2 hm hokf)
  have hokg : (Wr.front f n).Ok := ⟨hokf.id, hokf.title, hokf.link, hokf.s, fun x hx => hokf.es x (List.mem_of_mem_take hx)⟩
  have hng : (Wr.front f n).es.length = n := by unfold Wr.front; dsimp only; rw [List.length_take, Hn.out]; omega
  have HA' := hide (fun W (hb : Below w.heap.size w W) => Atom_any (Wr.front f n) A n c B W (by
    have := reads_front (k := n) (HRow.out W hb).1 Hn.out (by omega)
    unfold Wr.front
    exact this) hng (HRow.out W hb).2 (by omega) hokg)
  have Hgd := hide (fun (h : Wr.may f = true) => Wr.may_front n h)
  have Hdl := hide (fun (h : Wr.may f = true) => doc_len f h hokf)
  obtain ⟨P, E, hD1, hD2, hE⟩ := Wr.doc_front f n Hn.out
  have HD1 := hide hD1
  have HD2 := hide hD2
  have HE := hide hE
  obtain ⟨ab, ao, hA0, _, _⟩ := (HRow.out w (Below.refl _ _)).1.2 (by omega)
  subst hA0
  unfold Wr.atomV at HA HA'
  unfold Fd.cells at HA HA'
  obtain ⟨mf, hmf⟩ : ∃ v, Wr.may f = v := ⟨_, rfl⟩
  rw [hmf] at HA Hgd Hdl
  clear hmf hokf hokg hlf hng hD1 hD2 hE
  cases mf with
  | false =>
    rw [if_neg (by decide)] at HA
    go_wp2_with fail
    refine (HA.out _ HB1.out).mono ?_
    rintro e w3 ⟨rfl, hb3⟩
    have HB3 := hide (HB1.out.trans (hb3.mono HB1.out.size))
    clear hb3 t0 t1 t2 t3 t4 t5
    dsimp only
    go_wp2_with fail
    refine (HWk.out _).mono ?_
    rintro e w5 ⟨rfl, hb5⟩
    have HB5 := hide (HB3.out.trans (hb5.mono HB3.out.size))
    clear hb5
    go_wp2
    go_ret
    exact ⟨rfl, HB5.out⟩
  | true =>
  rw [if_pos rfl] at HA
  rw [Hgd.out rfl, if_pos rfl] at HA'
  rw [HD2.out] at HA
  rw [HD1.out] at HA'
  obtain ⟨p, hp⟩ : ∃ p, P.length = p := ⟨_, rfl⟩
  obtain ⟨x, hx⟩ : ∃ x, E.length = x := ⟨_, rfl⟩
  have hx0 : 0 < x := by
    rcases E with _ | ⟨a, l⟩
    · exact absurd rfl HE.out
    · rw [← hx, List.length_cons]; omega
  have hbig : p + x + 8 ≤ 30000000 := by
    have h := Hdl.out rfl
    rw [HD2.out, List.length_append, List.length_append, hp, hx] at h
    exact h
  have hS : (bstr (P ++ E ++ Wr.line [Wr.feedEnd])).size = p + x + 8 := by rw [bstr_size, List.length_append, List.length_append, hp, hx]; rfl
  have hT : (bstr (P ++ Wr.line [Wr.feedEnd])).size = p + 8 := by rw [bstr_size, List.length_append, hp]; rfl
  obtain ⟨S, hSe⟩ : ∃ S, bstr (P ++ E ++ Wr.line [Wr.feedEnd]) = S := ⟨_, rfl⟩
  obtain ⟨T, hTe⟩ : ∃ S, bstr (P ++ Wr.line [Wr.feedEnd]) = S := ⟨_, rfl⟩
  rw [hSe] at HA hS
  rw [hTe] at HA' hT
  have HSe := hide hSe
  have HTe := hide hTe
  have HS := hide hS
  have HT' := hide hT
  have Hp := hide hp
  have Hx := hide hx
  clear hSe hTe hS hT hp hx
  go_wp2_with fail
  refine (HA.out _ HB1.out).mono ?_
  rintro e w3 ⟨rfl, hb3⟩
  have HB3 := hide (HB1.out.trans (hb3.mono HB1.out.size))
  have HT3 := hide (HT1.out.go hb3)
  clear hb3 t0 t1 t2 t3 t4 t5
  have t0 := HT3.out.cell 0
  have t1 := HT3.out.cell 1
  have t2 := HT3.out.cell 2
  have t3 := HT3.out.cell 3
  have t4 := HT3.out.cell 4
  have t5 := HT3.out.cell 5
  have f5 := HT3.out.frozen 5
  have HT4 := hide (HT3.out.set_ 5 (.slice (some ⟨ab, ao, none⟩) n c))
  have u0 := HT4.out.cell 0
  have u1 := HT4.out.cell 1
  have u2 := HT4.out.cell 2
  have u3 := HT4.out.cell 3
  have u4 := HT4.out.cell 4
  have u5 := HT4.out.cell 5
  simp only [List.setIfInBounds_toArray, List.set_cons_succ, List.set_cons_zero] at u0 u1 u2 u3 u4 u5
  have z1 : IntKind.i64.wrap (((n + 1 : Nat) : Int) - 1) = ((n : Nat) : Int) := by rw [IntWalk.i64_in _ (by omega)]; omega
  have hb1 : 0 ≤ (n : Int) ∧ (n : Int) ≤ ((n + 1 : Nat) : Int) ∧ (n : Int) ≤ (c : Int) := by omega
  dsimp only
  go_wp2_with fail
  refine (HA'.out _ (HB3.out.setCell (Nat.le_refl _) _)).mono ?_
  rintro e w5 ⟨rfl, hb5⟩
  have HB5 := hide (HB3.out.trans ((Below.setCell (Below.refl _ _) (Nat.le_refl _) _).trans (hb5.mono (by have := HB3.out.size; simpa [World.setCell] using this))))
  clear hb5 t0 t1 t2 t3 t4 t5 u0 u1 u2 u3 u4 u5 z1 f5 hb1
  obtain ⟨q, hq⟩ : ∃ q, p + x = q := ⟨_, rfl⟩
  have hpq : p < q := by omega
  have hs1 : (S.size : Int) = (q : Int) + 8 := by rw [HS.out]; omega
  have ht1 : (T.size : Int) = (p : Int) + 8 := by rw [HT'.out]; omega
  have hd1 : decide ((q : Int) ≤ (p : Int)) = false := by simp; omega
  have hd2 : decide ((p : Int) + 8 < 8) = false := by simp; omega
  have z1 : IntKind.i64.wrap ((p : Int) + 8 - 8) = ((p : Nat) : Int) := by rw [IntWalk.i64_in _ (by omega)]; omega
  have e1 : S.extract 0 p = bstr P := by rw [← HSe.out, bstr_ext, List.drop_zero, Nat.sub_zero, List.append_assoc, ← Hp.out, List.take_left]
  have e2 : T.extract 0 p = bstr P := by rw [← HTe.out, bstr_ext, List.drop_zero, Nat.sub_zero, ← Hp.out, List.take_left]
  have e3 : T.extract p T.size = bstr (Wr.line [Wr.feedEnd]) := by rw [HT'.out, ← HTe.out, bstr_ext, ← Hp.out, List.drop_left, Nat.add_sub_cancel_left]; rfl
  have e4 : S.extract q S.size = bstr (Wr.line [Wr.feedEnd]) := by
    rw [HS.out, ← HSe.out, bstr_ext, ← hq]
    have h : (P ++ E ++ Wr.line [Wr.feedEnd]).drop (p + x) = Wr.line [Wr.feedEnd] := by rw [← Hp.out, ← Hx.out, ← List.length_append, List.drop_left]
    rw [h, Nat.add_sub_cancel_left]; rfl
  have k1 : (p : Int) ≤ (q : Int) + 8 := by omega
  have k2 : (p : Int) ≤ (p : Int) + 8 := by omega
  have k3 : (q : Int) ≤ (q : Int) + 8 := by omega
  have z2 : IntKind.i64.wrap (q : Int) = ((q : Nat) : Int) := IntWalk.i64_in _ (by omega)
  have e5 : (bstr (Wr.line [Wr.feedEnd])).toList = [60, 47, 102, 101, 101, 100, 62, 10] := by rw [ByteArray.toList_eq, bstr_list]; rfl
  have Hq := hide hq
  have Hpq := hide hpq
  clear hq hpq
  dsimp only
  go_wp2_with fail
  refine wp_region_held_drew (S := fun W => Below w5.heap.size w5 W) (by kernel_rfl) ?_ (fun hHeld => ?_)
  · (try dsimp only)
    first | done | exact (Below.refl _ _).drew | exact hHeld | exact hHeld.drew
  change wpAnyH _ _ _ _ _ 25 #[false, false, false, false, false, false, false, false, false, false, false, false, false, false, false, false, false, false, false, false, false, false, false, false, false] _ _
  refine held_take (i := 0) (d := 55) (v := ?_) rfl rfl (by kernel_rfl) (by kernel_rfl) (by kernel_rfl) (fun _ _ _ h => h) (by kernel_rfl) hHeld ?_ ?_
  rotate_left
  · intro w hSw
    (try dsimp only at hSw)
    go_simp
    first | done | with_reducible rfl
  (try simp only [Act.put, List.setIfInBounds_toArray, List.set_cons_zero, List.set_cons_succ])
  refine held_take (i := 1) (d := 56) (v := ?_) rfl rfl (by kernel_rfl) (by kernel_rfl) (by kernel_rfl) (fun _ _ _ h => h) (by kernel_rfl) hHeld ?_ ?_
  rotate_left
  · intro w hSw
    (try dsimp only at hSw)
    go_simp
    first | done | with_reducible rfl
  (try simp only [Act.put, List.setIfInBounds_toArray, List.set_cons_zero, List.set_cons_succ])
  refine held_take (i := 2) (d := 57) (v := ?_) rfl rfl (by kernel_rfl) (by kernel_rfl) (by kernel_rfl) (fun _ _ _ h => h) (by kernel_rfl) hHeld ?_ ?_
  rotate_left
  · intro w hSw
    (try dsimp only at hSw)
    go_simp
    first | done | with_reducible rfl
  (try simp only [Act.put, List.setIfInBounds_toArray, List.set_cons_zero, List.set_cons_succ])
  refine held_take (i := 3) (d := 58) (v := ?_) rfl rfl (by kernel_rfl) (by kernel_rfl) (by kernel_rfl) (fun _ _ _ h => h) (by kernel_rfl) hHeld ?_ ?_
  rotate_left
  · intro w hSw
    (try dsimp only at hSw)
    go_simp
    first | done | with_reducible rfl
  (try simp only [Act.put, List.setIfInBounds_toArray, List.set_cons_zero, List.set_cons_succ])
  refine held_take (i := 4) (d := 59) (v := ?_) rfl rfl (by kernel_rfl) (by kernel_rfl) (by kernel_rfl) (fun _ _ _ h => h) (by kernel_rfl) hHeld ?_ ?_
  rotate_left
  · intro w hSw
    (try dsimp only at hSw)
    go_simp
    first | done | with_reducible rfl
  (try simp only [Act.put, List.setIfInBounds_toArray, List.set_cons_zero, List.set_cons_succ])
  refine held_take (i := 5) (d := 60) (v := ?_) rfl rfl (by kernel_rfl) (by kernel_rfl) (by kernel_rfl) (fun _ _ _ h => h) (by kernel_rfl) hHeld ?_ ?_
  rotate_left
  · intro w hSw
    (try dsimp only at hSw)
    go_simp
    first | done | with_reducible rfl
  (try simp only [Act.put, List.setIfInBounds_toArray, List.set_cons_zero, List.set_cons_succ])
  refine held_take (i := 6) (d := 61) (v := ?_) rfl rfl (by kernel_rfl) (by kernel_rfl) (by kernel_rfl) (fun _ _ _ h => h) (by kernel_rfl) hHeld ?_ ?_
  rotate_left
  · intro w hSw
    (try dsimp only at hSw)
    go_simp
    first | done | with_reducible rfl
  (try simp only [Act.put, List.setIfInBounds_toArray, List.set_cons_zero, List.set_cons_succ])
  refine held_take (i := 7) (d := 62) (v := ?_) rfl rfl (by kernel_rfl) (by kernel_rfl) (by kernel_rfl) (fun _ _ _ h => h) (by kernel_rfl) hHeld ?_ ?_
  rotate_left
  · intro w hSw
    (try dsimp only at hSw)
    go_simp
    first | done | with_reducible rfl
  (try simp only [Act.put, List.setIfInBounds_toArray, List.set_cons_zero, List.set_cons_succ])
  refine held_take (i := 8) (d := 63) (v := ?_) rfl rfl (by kernel_rfl) (by kernel_rfl) (by kernel_rfl) (fun _ _ _ h => h) (by kernel_rfl) hHeld ?_ ?_
  rotate_left
  · intro w hSw
    (try dsimp only at hSw)
    go_simp
    first | done | with_reducible rfl
  (try simp only [Act.put, List.setIfInBounds_toArray, List.set_cons_zero, List.set_cons_succ])
  refine held_take (i := 9) (d := 64) (v := ?_) rfl rfl (by kernel_rfl) (by kernel_rfl) (by kernel_rfl) (fun _ _ _ h => h) (by kernel_rfl) hHeld ?_ ?_
  rotate_left
  · intro w hSw
    (try dsimp only at hSw)
    go_simp
    first | done | with_reducible rfl
  (try simp only [Act.put, List.setIfInBounds_toArray, List.set_cons_zero, List.set_cons_succ])
  refine held_take (i := 10) (d := 65) (v := ?_) rfl rfl (by kernel_rfl) (by kernel_rfl) (by kernel_rfl) (fun _ _ _ h => h) (by kernel_rfl) hHeld ?_ ?_
  rotate_left
  · intro w hSw
    (try dsimp only at hSw)
    go_simp
    first | done | with_reducible rfl
  (try simp only [Act.put, List.setIfInBounds_toArray, List.set_cons_zero, List.set_cons_succ])
  refine held_take (i := 11) (d := 66) (v := ?_) rfl rfl (by kernel_rfl) (by kernel_rfl) (by kernel_rfl) (fun _ _ _ h => h) (by kernel_rfl) hHeld ?_ ?_
  rotate_left
  · intro w hSw
    (try dsimp only at hSw)
    go_simp
    first | done | with_reducible rfl
  (try simp only [Act.put, List.setIfInBounds_toArray, List.set_cons_zero, List.set_cons_succ])
  refine held_take (i := 12) (d := 67) (v := ?_) rfl rfl (by kernel_rfl) (by kernel_rfl) (by kernel_rfl) (fun _ _ _ h => h) (by kernel_rfl) hHeld ?_ ?_
  rotate_left
  · intro w hSw
    (try dsimp only at hSw)
    go_simp
    first | done | with_reducible rfl
  (try simp only [Act.put, List.setIfInBounds_toArray, List.set_cons_zero, List.set_cons_succ])
  refine held_take (i := 13) (d := 68) (v := ?_) rfl rfl (by kernel_rfl) (by kernel_rfl) (by kernel_rfl) (fun _ _ _ h => h) (by kernel_rfl) hHeld ?_ ?_
  rotate_left
  · intro w hSw
    (try dsimp only at hSw)
    go_simp
    first | done | with_reducible rfl
  (try simp only [Act.put, List.setIfInBounds_toArray, List.set_cons_zero, List.set_cons_succ])
  refine held_take (i := 14) (d := 69) (v := ?_) rfl rfl (by kernel_rfl) (by kernel_rfl) (by kernel_rfl) (fun _ _ _ h => h) (by kernel_rfl) hHeld ?_ ?_
  rotate_left
  · intro w hSw
    (try dsimp only at hSw)
    go_simp
    first | done | with_reducible rfl
  (try simp only [Act.put, List.setIfInBounds_toArray, List.set_cons_zero, List.set_cons_succ])
  refine held_take (i := 15) (d := 70) (v := ?_) rfl rfl (by kernel_rfl) (by kernel_rfl) (by kernel_rfl) (fun _ _ _ h => h) (by kernel_rfl) hHeld ?_ ?_
  rotate_left
  · intro w hSw
    (try dsimp only at hSw)
    go_simp
    first | done | with_reducible rfl
  (try simp only [Act.put, List.setIfInBounds_toArray, List.set_cons_zero, List.set_cons_succ])
  refine held_take (i := 16) (d := 71) (v := ?_) rfl rfl (by kernel_rfl) (by kernel_rfl) (by kernel_rfl) (fun _ _ _ h => h) (by kernel_rfl) hHeld ?_ ?_
  rotate_left
  · intro w hSw
    (try dsimp only at hSw)
    go_simp
    first | done | with_reducible rfl
  (try simp only [Act.put, List.setIfInBounds_toArray, List.set_cons_zero, List.set_cons_succ])
  refine held_take (i := 17) (d := 72) (v := ?_) rfl rfl (by kernel_rfl) (by kernel_rfl) (by kernel_rfl) (fun _ _ _ h => h) (by kernel_rfl) hHeld ?_ ?_
  rotate_left
  · intro w hSw
    (try dsimp only at hSw)
    go_simp
    first | done | with_reducible rfl
  (try simp only [Act.put, List.setIfInBounds_toArray, List.set_cons_zero, List.set_cons_succ])
  refine held_take (i := 18) (d := 73) (v := ?_) rfl rfl (by kernel_rfl) (by kernel_rfl) (by kernel_rfl) (fun _ _ _ h => h) (by kernel_rfl) hHeld ?_ ?_
  rotate_left
  · intro w hSw
    (try dsimp only at hSw)
    go_simp
    first | done | with_reducible rfl
  (try simp only [Act.put, List.setIfInBounds_toArray, List.set_cons_zero, List.set_cons_succ])
  refine held_take (i := 19) (d := 74) (v := ?_) rfl rfl (by kernel_rfl) (by kernel_rfl) (by kernel_rfl) (fun _ _ _ h => h) (by kernel_rfl) hHeld ?_ ?_
  rotate_left
  · intro w hSw
    (try dsimp only at hSw)
    go_simp
    first | done | with_reducible rfl
  (try simp only [Act.put, List.setIfInBounds_toArray, List.set_cons_zero, List.set_cons_succ])
  refine held_take (i := 20) (d := 75) (v := ?_) rfl rfl (by kernel_rfl) (by kernel_rfl) (by kernel_rfl) (fun _ _ _ h => h) (by kernel_rfl) hHeld ?_ ?_
  rotate_left
  · intro w hSw
    (try dsimp only at hSw)
    go_simp
    first | done | with_reducible rfl
  (try simp only [Act.put, List.setIfInBounds_toArray, List.set_cons_zero, List.set_cons_succ])
  refine held_take (i := 21) (d := 76) (v := ?_) rfl rfl (by kernel_rfl) (by kernel_rfl) (by kernel_rfl) (fun _ _ _ h => h) (by kernel_rfl) hHeld ?_ ?_
  rotate_left
  · intro w hSw
    (try dsimp only at hSw)
    go_simp
    first | done | with_reducible rfl
  (try simp only [Act.put, List.setIfInBounds_toArray, List.set_cons_zero, List.set_cons_succ])
  refine held_call (i := 22) rfl (by kernel_rfl) (by kernel_rfl) (fun K hK => ?_)
  go_simp
  go_at_call 6
  refine (HWk.out _).mono ?_
  rintro e w' ⟨rfl, hb⟩
  replace hHeld := hHeld.trans (hb.mono hHeld.size)
  (try dsimp only)
  refine hK.out _ _ ?_ (fun hHeld' => ?_)
  · (try dsimp only)
    first | done | exact (Below.refl _ _).drew | exact hHeld | exact hHeld.drew
  clear hK K hHeld
  have hHeld := hHeld'
  clear hHeld'
  (try simp only [Act.put, List.setIfInBounds_toArray, List.set_cons_zero, List.set_cons_succ])
  refine held_take (i := 23) (d := 78) (v := ?_) rfl rfl (by kernel_rfl) (by kernel_rfl) (by kernel_rfl) (fun _ _ _ h => h) (by kernel_rfl) hHeld ?_ ?_
  rotate_left
  · intro w hSw
    (try dsimp only at hSw)
    go_simp
    first | done | with_reducible rfl
  (try simp only [Act.put, List.setIfInBounds_toArray, List.set_cons_zero, List.set_cons_succ])
  refine held_take (i := 24) (d := 2) (v := ?_) rfl rfl (by kernel_rfl) (by kernel_rfl) (by kernel_rfl) (fun _ _ _ h => h) (by kernel_rfl) hHeld ?_ ?_
  rotate_left
  · intro w hSw
    (try dsimp only at hSw)
    go_simp
    first | done | with_reducible rfl
  (try simp only [Act.put, List.setIfInBounds_toArray, List.set_cons_zero, List.set_cons_succ])
  refine wpAnyH_done (by kernel_rfl) ?_ _
  go_wp2
  all_goals
    go_ret
    exact ⟨rfl, HB5.out.trans (hHeld.mono HB5.out.size)⟩
end Go.Proofs.Ytheaknghgpafpaa
