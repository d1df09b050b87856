/- Strict: the law of what stands about the root: the walk. -/
import Derived.Test.YtbbpkcddifmieaaGreatDoorSw39
set_option linter.unusedSimpArgs false
set_option linter.unusedVariables false
namespace Go.Proofs.YtbbpkcddifmieaaGreatDoor
open Go.RowKit Tk Sx

theorem and3 (x : Int) : ∃ j : Nat, j < 4 ∧ bits .and .i64 x 3 = (j : Int) := by
 refine ⟨(BitVec.ofInt 64 x).toNat &&& 3, ?_, ?_⟩
 ·have := Nat.and_le_right (n := (BitVec.ofInt 64 x).toNat) (m := 3)
  omega
 ·have h3 : (BitVec.ofInt 64 (3 : Int)).toNat = 3 := by decide
  have h4 := Nat.and_le_right (n := (BitVec.ofInt 64 x).toNat) (m := 3)
  show IntKind.i64.wrap ((BitVec.ofInt 64 x &&& BitVec.ofInt 64 3).toNat : Int) = _
  rw [BitVec.toNat_and, h3, IntKind.wrap_i64]
  omega
def intVs (l : List Int) : List Value := l.map fun k => .int .i64 k
theorem ints_at {w : World} {B : Nat} {A : Option Addr} {l : List Int} (h : Reads w B 1 A l.length (intVs l)) {k : Nat} {x : Int} (hx : l[k]? = some x) : ∃ b off, A = some ⟨b, off, none⟩ ∧ b < B ∧ w.cell? ⟨b, off + k, none⟩ = some (.int .i64 x) := by
 obtain ⟨hk, he⟩ := List.getElem?_eq_some_iff.1 hx
 obtain ⟨b, off, hA, hb, hc⟩ := h.2 (by omega)
 exact ⟨b, off, hA, hb, hc k _ (by unfold intVs; rw [List.getElem?_map, hx]; rfl)⟩
theorem flat_le {ps : List L} (h : ∀ p ∈ ps, Piece0 p) : ps.flatten.length ≤ 14 * ps.length := by
 induction ps with
 | nil => simp
 | cons p ps ih =>
  have h1 := ih (fun q hq => h q (List.mem_cons_of_mem _ hq))
  have h2 : p.length ≤ 14 := by
   rcases h p (List.mem_cons_self ..) with e | e | e | e <;> rw [e] <;> decide
  rw [List.flatten_cons, List.length_append, List.length_cons]
  omega
theorem flat_snoc (ps : List L) (p : L) : (ps ++ [p]).flatten = ps.flatten ++ p := by simp
theorem snoc_piece {ps : List L} {p : L} (h : ∀ q ∈ ps, Piece0 q) (hp : Piece0 p) : ∀ q ∈ ps ++ [p], Piece0 q := fun q hq => by
 rcases List.mem_append.1 hq with hq | hq
 ·exact h q hq
 ·rw [List.mem_singleton.1 hq]; exact hp

set_option maxRecDepth 100000 in
set_option maxHeartbeats 64000000 in
theorem lawAbout_any (s : L) (A : Option Addr) (c : Nat) (ks : List Int) (w : World) (hg : Gl w) (hw6 : 6 ≤ w.heap.size) (hr : Reads w w.heap.size 1 A ks.length (intVs ks)) :
  Calls Tryz.prog 4 #[.string (bstr s), .slice A ks.length c] w fun e w' => e = .returned (.bool true) ∧ Below w.heap.size w w' := by
 have HWk := hide (fun W (h : Below w.heap.size w W) => wakes15_any W (hg.below h) (Nat.le_trans hw6 h.size))
 have HK := hide hr
 obtain ⟨n, hn⟩ : ∃ n, (bstr s).size = n := ⟨_, rfl⟩
 have hnl : n = s.length := by rw [← hn, bstr_size]
 obtain ⟨nk, hnk⟩ : ∃ nk, ks.length = nk := ⟨_, rfl⟩
 have Hnk := hide hnk
 rw [hnk] at HK ⊢
 clear hr hnk
 by_cases hbig : 3000 < n
 ·clear hnl
  go_enter Tryz.func4, Tryz.ntmps4
  go_wp2_with fail
  refine (HWk.out _ (Below.refl _ _)).mono ?_
  rintro e w1 ⟨rfl, b1⟩
  go_wp2
  go_ret
  exact ⟨rfl, b1⟩
 by_cases hbig2 : 20 < nk
 ·clear hnl
  go_enter Tryz.func4, Tryz.ntmps4
  go_wp2_with fail
  refine (HWk.out _ (Below.refl _ _)).mono ?_
  rintro e w1 ⟨rfl, b1⟩
  go_wp2
  go_ret
  exact ⟨rfl, b1⟩
 have HPa := hide (parse_any (bstr s) w hg hw6 (by rw [bstr_size]; omega))
 have HPb := hide (fun (x : L) W (h : Below w.heap.size w W) (hx : x.length ≤ 10000) => parse_any (bstr x) W (hg.below h) (Nat.le_trans hw6 h.size) (by rw [bstr_size]; omega))
 rw [bstr_list] at HPa
 obtain ⟨r, hr⟩ : ∃ r, Sx.parse s = r := ⟨_, rfl⟩
 rw [hr] at HPa
 cases r with
 | error x =>
  obtain ⟨x1, x2⟩ := x
  have ht := parse_told hr
  obtain ⟨t1, t2⟩ := ht
  dsimp only at t1 t2
  clear HPb hr hg hw6 hnl t1
  rcases t2 with rfl | rfl | rfl
  all_goals
   go_enter Tryz.func4, Tryz.ntmps4
   go_wp2_with fail
   refine HPa.out.mono ?_
   rintro e w1 ⟨b1, rfl⟩
   have B1 := hide b1
   clear b1
   go_wp2_with fail
   refine (HWk.out _ B1.out).mono ?_
   rintro e w2 ⟨rfl, b2⟩
   go_wp2
   go_ret
   exact ⟨rfl, B1.out.trans (b2.mono B1.out.size)⟩
 | ok evs =>
  have hlong := parse_long hr
  obtain ⟨c0, c1, rest, hs⟩ := two_of hlong
  have i0 : ∀ W, (Instr.index 9 (.string (bstr s)) (.int .i64 0)).run Tryz.prog W = .ok (.int .u8 (c0.toNat : Nat)) W := fun W => by
   have h := idx_run (bstr s) 0 c0 (by rw [bstr_list, hs]; rfl) W
   rwa [show ((0 : Nat) : Int) = 0 from rfl] at h
  have i1 : ∀ W, (Instr.index 9 (.string (bstr s)) (.int .i64 1)).run Tryz.prog W = .ok (.int .u8 (c1.toNat : Nat)) W := fun W => by
   have h := idx_run (bstr s) 1 c1 (by rw [bstr_list, hs]; rfl) W
   rwa [show ((1 : Nat) : Int) = 1 from rfl] at h
  have key : ∀ c d : UInt8, ((c.toNat : Int) == (d.toNat : Int)) = (c == d) := fun c d => by
   rw [Bool.eq_iff_iff, beq_iff_eq, beq_iff_eq]
   exact ⟨fun h => UInt8.toNat_inj.1 (by omega), fun h => by rw [h]⟩
  have e0 : ((c0.toNat : Int) != 60) = !(c0 == 60) := by rw [bne, ← key c0 60]; rfl
  have e1 : ((c1.toNat : Int) == 63) = (c1 == 63) := key c1 63
  have hln : 1 < n := by omega
  have Hfew := hide (parse_few hr)
  obtain ⟨hle, -⟩ := parse_small (N := 3000) hr (by omega)
  have Hs := hide hs
  have Hr := hide hr
  have Hle := hide hle
  have Hnl := hide hnl
  clear key hlong hs hr hle hnl hg hw6
  by_cases h60 : c0 = 60
  ·have e0' : (!(c0 == 60)) = false := by rw [h60]; rfl
   rw [e0'] at e0
   by_cases h63 : c1 = 63
   ·rw [show (c1 == 63) = true by rw [h63]; rfl] at e1
    clear e0' HPb
    generalize c0.toNat = q0 at *
    generalize c1.toNat = q1 at *
    go_enter Tryz.func4, Tryz.ntmps4
    go_wp2_with fail
    refine HPa.out.mono ?_
    rintro e w1 ⟨b1, xs, A', c', hx, rfl, hxc, hr, -, -, hi⟩
    have B1 := hide b1
    clear b1 hx hr hi
    go_wp2_with fail
    refine (HWk.out _ B1.out).mono ?_
    rintro e w2 ⟨rfl, b2⟩
    go_wp2
    go_ret
    exact ⟨rfl, B1.out.trans (b2.mono B1.out.size)⟩
   rw [show (c1 == 63) = false by rw [beq_eq_false_iff_ne]; exact h63] at e1
   have Hlaw := hide (fun (pa pb : List L) (ha : ∀ p ∈ pa, Piece0 p) (hb : ∀ p ∈ pb, Piece0 p) => about_law Hr.out (c := c1) (r := rest) (by rw [Hs.out, h60]) h63 ha hb)
   clear e0' h63 h60
   generalize c0.toNat = q0 at *
   generalize c1.toNat = q1 at *
   go_enter Tryz.func4, Tryz.ntmps4
   go_wp2_with fail
   refine HPa.out.mono ?_
   rintro e w1 ⟨b1, xs, A', c', hx, rfl, hxc, hr, -, -, hi⟩
   have B1 := hide b1
   have E1 := hide (EvL.of hr hi)
   have Hx := hide hx
   obtain ⟨N, hN⟩ : ∃ N, xs.length = N := ⟨_, rfl⟩
   have HN := hide hN
   rw [hN] at hxc ⊢
   have hNe : evs.length = N := by rw [← hx, List.length_map, hN]
   have HNe := hide hNe
   have hN9 : N ≤ 54000 := by rw [← hNe]; exact Hle.out
   clear b1 hx hr hi hN hNe HPa
   go_wp2
   clear i0 i1 e0 e1
   go_loopg [51, 8, 9] nk (fun gk vk v8 v9 wr => ∃ (i : Nat) (pa pb : List L), gk = nk - i ∧ i ≤ nk ∧ vk = .int .i64 (i : Int) ∧ v8 = .string (bstr pa.flatten) ∧ v9 = .string (bstr pb.flatten) ∧ pa.length + pb.length = i ∧
    (∀ p ∈ pa, Piece0 p) ∧ (∀ p ∈ pb, Piece0 p) ∧ Below w1.heap.size w1 wr)
   case atStart => exact ⟨0, [], [], rfl, by omega, rfl, rfl, rfl, rfl, by simp, by simp, Below.refl _ _⟩
   case round =>
    obtain ⟨i, pa, pb, hgk, hi, rfl, rfl, rfl, hab, ha, hb, hw⟩ := hrel
    have Hg := hide hgk
    have Ha := hide ha
    have Hb := hide hb
    have HW := hide hw
    have Hab := hide hab
    have BW := hide (B1.out.trans (hw.mono B1.out.size))
    clear hgk ha hb hw hab
    by_cases hlt : i < nk
    ·obtain ⟨kv, hkv⟩ : ∃ kv, ks[i]? = some kv := ⟨_, List.getElem?_eq_getElem (by rw [Hnk.out]; exact hlt)⟩
     have hrd := HK.out.below BW.out
     rw [← Hnk.out] at hrd
     obtain ⟨b, off, rfl, hbl, y0⟩ := ints_at hrd hkv
     obtain ⟨j, hj4, hj⟩ := and3 kv
     have Hj4 := hide hj4
     clear hrd hkv hj4
     go_upto_region 10 with fail
     go_cut [12] (fun s12 wx => ∃ p, Piece0 p ∧ s12 = .string (bstr p) ∧ Below wr.heap.size wr wx)
     case first =>
      have hjc : j = 0 ∨ j = 1 ∨ j = 2 ∨ j = 3 := by have := Hj4.out; omega
      rcases hjc with rfl | rfl | rfl | rfl
      ·go_wp2
       (try simp only [Exit.then])
       (try refine Met.intro ?_)
       first
        | (rename_i hJ hM; refine hM _ _ (Met.intro ?_); refine hJ _ _ ?_)
        | (rename_i hJ; refine hJ _ _ ?_)
        | (rename_i hJ hT; refine hJ _ _ ?_)
        | (rename_i hJ hT hT2; refine hJ _ _ ?_)
        | (rename_i hJ hT hT2 hT3; refine hJ _ _ ?_)
       (repeat apply Exists.intro)
       exact ⟨⟨pWs1, .inl rfl, rfl, below_alloc _ _⟩, rfl⟩
      ·go_wp2
       (try simp only [Exit.then])
       (try refine Met.intro ?_)
       first
        | (rename_i hJ hM; refine hM _ _ (Met.intro ?_); refine hJ _ _ ?_)
        | (rename_i hJ; refine hJ _ _ ?_)
        | (rename_i hJ hT; refine hJ _ _ ?_)
        | (rename_i hJ hT hT2; refine hJ _ _ ?_)
        | (rename_i hJ hT hT2 hT3; refine hJ _ _ ?_)
       (repeat apply Exists.intro)
       exact ⟨⟨pCom, .inr (.inl rfl), rfl, below_alloc _ _⟩, rfl⟩
      ·go_wp2
       (try simp only [Exit.then])
       (try refine Met.intro ?_)
       first
        | (rename_i hJ hM; refine hM _ _ (Met.intro ?_); refine hJ _ _ ?_)
        | (rename_i hJ; refine hJ _ _ ?_)
        | (rename_i hJ hT; refine hJ _ _ ?_)
        | (rename_i hJ hT hT2; refine hJ _ _ ?_)
        | (rename_i hJ hT hT2 hT3; refine hJ _ _ ?_)
       (repeat apply Exists.intro)
       exact ⟨⟨pIns, .inr (.inr (.inl rfl)), rfl, below_alloc _ _⟩, rfl⟩
      ·go_wp2
       (try simp only [Exit.then])
       (try refine Met.intro ?_)
       first
        | (rename_i hJ hM; refine hM _ _ (Met.intro ?_); refine hJ _ _ ?_)
        | (rename_i hJ; refine hJ _ _ ?_)
        | (rename_i hJ hT; refine hJ _ _ ?_)
        | (rename_i hJ hT hT2; refine hJ _ _ ?_)
        | (rename_i hJ hT hT2 hT3; refine hJ _ _ ?_)
       (repeat apply Exists.intro)
       exact ⟨⟨pWs2, .inr (.inr (.inr rfl)), rfl, below_alloc _ _⟩, rfl⟩
     case rest =>
      obtain ⟨p, hp, rfl, hbw⟩ := hcut
      have HP := hide hp
      have HW2 := hide (HW.out.trans (hbw.mono HW.out.size))
      have hab := Hab.out
      have la := flat_le Ha.out
      have lb := flat_le Hb.out
      have lp : p.length ≤ 14 := by
       rcases hp with e | e | e | e <;> rw [e] <;> decide
      have s1 : ¬ 9223372036854775807 < (bstr pa.flatten).size + (bstr p).size := by rw [bstr_size, bstr_size]; omega
      have s2 : ¬ 9223372036854775807 < (bstr pb.flatten).size + (bstr p).size := by rw [bstr_size, bstr_size]; omega
      have t1 : bstr pa.flatten ++ bstr p = bstr (pa ++ [p]).flatten := by rw [bstr_app, flat_snoc]
      have t2 : bstr pb.flatten ++ bstr p = bstr (pb ++ [p]).flatten := by rw [bstr_app, flat_snoc]
      have hpar : Int.tmod (i : Int) 2 = 0 ∨ Int.tmod (i : Int) 2 = 1 := by
       rw [Int.tmod_eq_emod_of_nonneg (by omega)]
       omega
      clear hp hbw la lb lp hj y0
      rcases hpar with hpar | hpar
      ·go_wp2
       go_roundg (nk - (i + 1))
       case measure => have := Hg.out; omega
       case rel => exact ⟨i + 1, pa ++ [p], pb, rfl, by omega, by first | rfl | go_num, by rw [flat_snoc], rfl, by rw [List.length_append, List.length_singleton]; have := Hab.out; omega, snoc_piece Ha.out HP.out, Hb.out, HW2.out⟩
      ·go_wp2
       go_roundg (nk - (i + 1))
       case measure => have := Hg.out; omega
       case rel => exact ⟨i + 1, pa, pb ++ [p], rfl, by omega, by first | rfl | go_num, rfl, by rw [flat_snoc], by rw [List.length_append, List.length_singleton]; have := Hab.out; omega, Ha.out, snoc_piece Hb.out HP.out, HW2.out⟩
    ·have la := flat_le Ha.out
     have lb := flat_le Hb.out
     have hab := Hab.out
     have hSl : s.length ≤ 3000 := by rw [← Hnl.out]; omega
     have s1 : ¬ 9223372036854775807 < (bstr pa.flatten).size + (bstr s).size := by rw [bstr_size, bstr_size]; omega
     have s2 : ¬ 9223372036854775807 < (bstr (pa.flatten ++ s)).size + (bstr pb.flatten).size := by rw [bstr_size, bstr_size, List.length_append]; omega
     have t1 : bstr pa.flatten ++ bstr s = bstr (pa.flatten ++ s) := bstr_app _ _
     have t2 : bstr (pa.flatten ++ s) ++ bstr pb.flatten = bstr (pa.flatten ++ (s ++ pb.flatten)) := by rw [bstr_app, List.append_assoc]
     have hlaw := Hlaw.out pa pb Ha.out Hb.out
     have hpb := HPb.out (pa.flatten ++ (s ++ pb.flatten)) wr BW.out (by rw [List.length_append, List.length_append]; omega)
     rw [bstr_list, hlaw] at hpb
     have HPB := hide hpb
     obtain ⟨S1, hS1⟩ : ∃ S1, bstr (pa.flatten ++ s) = S1 := ⟨_, rfl⟩
     obtain ⟨S2, hS2⟩ : ∃ S2, bstr (pa.flatten ++ (s ++ pb.flatten)) = S2 := ⟨_, rfl⟩
     rw [hS1] at t1 t2 s2
     rw [hS2] at t2 HPB
     clear hS1 hS2 hlaw hpb la lb hab hSl
     have E1' := hide ((E1.out.below HW.out).more HW.out.size)
     go_wp2_with fail
     refine HPB.out.mono ?_
     rintro e w2 ⟨b2, ys, A2, c2, hy, rfl, hyc, hr, -, -, hi2⟩
     have B2 := hide (BW.out.trans (b2.mono BW.out.size))
     have E2 := hide (EvL.of hr hi2)
     have E1'' := hide ((E1'.out.below b2).more b2.size)
     have hM : ys.length = N := by
      have := congrArg List.length hy
      rw [List.length_map] at this
      rw [this, HNe.out]
     have hSE := sameEvents_any w2 w2.heap.size A' A2 c' c2 xs ys E1''.out E2.out (by rw [Hx.out, hy]) (by rw [HN.out]; omega) (fun x hx => by
      have hm : x.e ∈ xs.map (·.e) := List.mem_map_of_mem hx
      rw [Hx.out] at hm
      exact Nat.le_trans (Hfew.out _ hm) (by decide)) (Nat.le_refl _)
     rw [HN.out, hM] at hSE
     have HSE := hide hSE
     rw [hM]
     clear b2 hr hi2 hy hSE hM hyc
     go_wp2_with fail
     refine HSE.out.mono ?_
     rintro e w3 ⟨rfl, b3⟩
     have B3 := hide (B2.out.trans (b3.mono B2.out.size))
     clear b3
     go_wp2_with fail
     refine (HWk.out _ B3.out).mono ?_
     rintro e w4 ⟨rfl, b4⟩
     go_wp2
     go_ret
     exact ⟨rfl, B3.out.trans (b4.mono B3.out.size)⟩
  ·have e0' : (!(c0 == 60)) = true := by rw [show (c0 == 60) = false by rw [beq_eq_false_iff_ne]; exact h60]; rfl
   rw [e0'] at e0
   clear e0' e1 HPb i1
   generalize c0.toNat = q0 at *
   go_enter Tryz.func4, Tryz.ntmps4
   go_wp2_with fail
   refine HPa.out.mono ?_
   rintro e w1 ⟨b1, xs, A', c', hx, rfl, hxc, hr, -, -, hi⟩
   have B1 := hide b1
   clear b1 hx hr hi
   go_wp2_with fail
   refine (HWk.out _ B1.out).mono ?_
   rintro e w2 ⟨rfl, b2⟩
   go_wp2
   go_ret
   exact ⟨rfl, B1.out.trans (b2.mono B1.out.size)⟩
end Go.Proofs.YtbbpkcddifmieaaGreatDoor
