/- Strict: the law that events balance: the walk. -/
import Derived.Test.YtbbpkcddifmieaaGreatDoorSw17
import Derived.Test.YtbbpkcddifmieaaGreatDoorSw34
import Derived.Test.YtbbpkcddifmieaaGreatDoorSw35
set_option linter.unusedSimpArgs false
set_option linter.unusedVariables false
namespace Go.Proofs.YtbbpkcddifmieaaGreatDoor
open Go.RowKit Tk Sx

def nmCells (n : Nm) : List Value := [.string (bstr n.ns), .string (bstr n.loc)]
def nms (l : List Nm) : List Value := l.flatMap nmCells
theorem nm_len (n : Nm) : (nmCells n).length = 2 := rfl
theorem nm_one (n : Nm) : ∀ u ∈ nmCells n, u.oneCell' = true := by
 intro u hu
 simp only [nmCells, List.mem_cons, List.not_mem_nil, or_false] at hu
 rcases hu with rfl | rfl <;> rfl
theorem nms_snoc (l : List Nm) (n : Nm) : nms (l ++ [n]) = nms l ++ nmCells n := by simp [nms]
theorem info_nm : (Tryz.prog.info? 39).map (fun i => (i.zero, i.size, i.bytes)) = some (some (.agg #[.string ⟨#[]⟩, .string ⟨#[]⟩]), 2, 32) := by kernel_rfl
theorem own_below9 {B e size n : Nat} {v : Value} {xs : List Value} {w w' : World} {o : Obj} (h : w.ownsRow B e size v n xs) (hg : (w.alloc o).grownBy w' v.ownBlock) (hB : B ≤ w.heap.size) : Below B w w' := by
 have h1 : Below B w (w.alloc o) := (below_alloc w o).mono hB
 refine ⟨hg.os.trans h1.os, hg.tape.trans h1.tape, hg.output.trans h1.output, Nat.le_trans h1.size hg.size, fun k hk => ?_⟩
 have := h1.size
 exact (hg.block k (by omega) fun e => by have := (h.lt k e.symm).1; omega).trans (h1.block k hk)
theorem parse_lenN {evs : List Ev} {xs : List Ew} {N : Nat} (_ : 2 ≤ evs.length) (hN : xs.length = N) (hx : xs.map (·.e) = evs) (h : evs.length ≤ 54000) : N ≤ 54000 := by
 rw [← hN, ← List.length_map (f := (·.e)), hx]
 exact h
theorem opn_le : ∀ (l : List Ev) (o : List Nm), (opn o l).length ≤ o.length + l.length
 | [], o => by simp [opn]
 | e :: l, o => by
  have := opn_le l (opnS o e)
  have h2 : (opnS o e).length ≤ o.length + 1 := by
   unfold opnS
   split
   ·simp
   ·split
    ·rw [List.length_dropLast]; omega
    ·omega
  rw [opn, List.length_cons]
  omega
theorem opnS_at {evs : List Ev} {k : Nat} {e : Ev} (h : evs[k]? = some e) : opn [] (evs.take (k + 1)) = opnS (opn [] (evs.take k)) e := by
 rw [List.take_add_one, h]
 exact opn_snoc _ _ _

set_option maxRecDepth 100000 in
set_option maxHeartbeats 64000000 in
theorem lawBalance_any (s : L) (w : World) (hg : Gl w) (hw6 : 6 ≤ w.heap.size) :
  Calls Tryz.prog 8 #[.string (bstr s)] w fun e w' => e = .returned (.bool true) ∧ Below w.heap.size w w' := by
 have HWk := hide (fun W (h : Below w.heap.size w W) => wakes15_any W (hg.below h) (Nat.le_trans hw6 h.size))
 obtain ⟨n, hn⟩ : ∃ n, (bstr s).size = n := ⟨_, rfl⟩
 have hnl : n = s.length := by rw [← hn, bstr_size]
 have Hnl := hide hnl
 by_cases hbig : 3000 < n
 ·clear hnl
  go_enter Tryz.func8, Tryz.ntmps8
  go_wp2_with fail
  refine (HWk.out _ (Below.refl _ _)).mono ?_
  rintro e w1 ⟨rfl, b1⟩
  go_wp2
  go_ret
  exact ⟨rfl, b1⟩
 have HPa := hide (parse_any (bstr s) w hg hw6 (by rw [bstr_size]; omega))
 have HWl := hide (fun W (h : Below w.heap.size w W) (hc : ∀ x, Sx.parse s = .error x → x.2 ≠ 0) => well_any (bstr s) W (hg.below h) (Nat.le_trans hw6 h.size) (by rw [bstr_size]; omega) (by rw [bstr_list]; exact hc))
 rw [bstr_list] at HPa HWl
 obtain ⟨r, hr⟩ : ∃ r, Sx.parse s = r := ⟨_, rfl⟩
 rw [hr] at HPa
 cases r with
 | error x =>
  obtain ⟨x1, x2⟩ := x
  have ht := parse_told hr
  obtain ⟨t1, t2⟩ := ht
  dsimp only at t1 t2
  have t1' : ¬ n < x1 := by omega
  clear HWl hr hg hw6 hnl
  rcases t2 with rfl | rfl | rfl
  all_goals
   go_enter Tryz.func8, Tryz.ntmps8
   go_wp2_with fail
   refine HPa.out.mono ?_
   rintro e w1 ⟨b1, rfl⟩
   have B1 := hide b1
   clear b1
   go_wp2_with fail
   refine (HWk.out _ B1.out).mono ?_
   rintro e w2 ⟨rfl, b2⟩
   go_wp2
   go_ret
   exact ⟨rfl, B1.out.trans (b2.mono B1.out.size)⟩
 | ok evs =>
  obtain ⟨hbal, hop, h2⟩ := parse_balance hr
  obtain ⟨hle, htx⟩ := parse_small (N := 3000) hr (by omega)
  have Hle := hide hle
  have HBal := hide hbal
  have Hop := hide hop
  have H2 := hide h2
  have Htx := hide htx
  have HWl2 := hide (fun W (h : Below w.heap.size w W) => (HWl.out W h (fun x hx => by rw [hr] at hx; cases hx)))
  rw [hr] at HWl2
  clear HWl hr hg hw6 hnl hbal hop h2 htx hle
  go_enter Tryz.func8, Tryz.ntmps8
  go_wp2_with fail
  refine HPa.out.mono ?_
  rintro e w1 ⟨b1, xs, A, c, hx, rfl, hxc, hr, -, -, hi⟩
  have B1 := hide b1
  have HE := hide (EvL.of hr hi)
  obtain ⟨N, hN⟩ : ∃ N, xs.length = N := ⟨_, rfl⟩
  have HN := hide hN
  have Hx := hide hx
  have hN2 : 2 ≤ N := by have := H2.out; rw [← hx, List.length_map, hN] at this; exact this
  rw [hN] at hxc ⊢
  have Hxc := hide hxc
  clear b1 hr hi hN hx hxc HPa
  go_wp2
  obtain ⟨Z, hZ⟩ : ∃ Z, w1.heap.size = Z := ⟨_, rfl⟩
  have HZ := hide hZ
  have HZw := hide (show w.heap.size ≤ Z by rw [← hZ]; exact B1.out.size)
  rw [hZ] at HE
  clear hZ
  have hN9 : N ≤ 60000 := by
   have := (parse_lenN H2.out HN.out Hx.out Hle.out)
   omega
  go_loopg [51, 6] N (fun gk vk vo wr => ∃ (k : Nat) (A2 : Option Addr) (c2 : Nat), gk = N - k ∧ k ≤ N ∧ vk = .int .i64 (k : Int) ∧ vo = .slice A2 (opn [] (evs.take k)).length c2 ∧
   wr.ownsRow Z 39 2 (.slice A2 (opn [] (evs.take k)).length c2) (opn [] (evs.take k)).length (nms (opn [] (evs.take k))) ∧ Below Z w1 wr)
  case atStart => exact ⟨0, none, 0, rfl, by omega, rfl, rfl, World.ownsRow_nil _ _ _ _, by exact Below.refl _ _⟩
  case round =>
   obtain ⟨k, A2, c2, hgk, hk, rfl, rfl, ho, hb⟩ := hrel
   have Hg := hide hgk
   have HB := hide hb
   have hZr : Z ≤ wr.heap.size := by rw [← HZ.out]; exact hb.size
   have HZr := hide hZr
   have HBw := hide (B1.out.trans (hb.mono HZw.out))
   by_cases hlt : k < N
   ·obtain ⟨x, hx⟩ : ∃ x, xs[k]? = some x := ⟨_, List.getElem?_eq_getElem (by rw [HN.out]; exact hlt)⟩
    have hek : evs[k]? = some x.e := by rw [← Hx.out, List.getElem?_map, hx]; rfl
    have hg := HBal.out k x.e hek
    have hnx := opnS_at hek
    have htx := Htx.out x.e (List.mem_of_getElem? hek)
    obtain ⟨op, hop⟩ : ∃ op, opn [] (evs.take k) = op := ⟨_, rfl⟩
    rw [hop] at hg hnx ho ⊢
    obtain ⟨b, off, rfl, hbl, hat⟩ := HE.out.at_ hx
    have y0 := (HB.out.cell (p := ⟨b, off + k * 5, none⟩) hbl).trans hat.c0
    have y1 := (HB.out.cell (p := ⟨b, off + k * 5 + 1, none⟩) hbl).trans hat.c1
    have y2 := (HB.out.cell (p := ⟨b, off + k * 5 + 2, none⟩) hbl).trans hat.c2
    have y3 := (HB.out.cell (p := ⟨b, off + k * 5 + 3, none⟩) hbl).trans hat.c3
    have y4 := (HB.out.cell (p := ⟨b, off + k * 5 + 4, none⟩) hbl).trans hat.c4
    have HO := hide ho
    have HNx := hide hnx
    have HOp := hide hop
    have HXk := hide hx
    clear hgk hb hat hek hnx hop ho hx
    obtain ⟨m, hm⟩ : ∃ m, op.length = m := ⟨_, rfl⟩
    have Hm := hide hm
    rw [hm] at HO ⊢
    have hmk9 : m ≤ 60000 := by
     have h1 := opn_le (evs.take k) []
     rw [HOp.out, hm, List.length_take] at h1
     simp at h1
     omega
    obtain ⟨na, hna⟩ : ∃ na, x.e.attrs.length = na := ⟨_, rfl⟩
    rw [hna] at y3
    rcases hg with ⟨h1, h2, h3, h4, h5⟩ | ⟨h1, h2⟩ | ⟨h1, h2, h3, h4, p, h5, h6⟩
    ·rw [h1] at y0
     have q1 : ((bstr x.e.name.loc).toList == ([] : L)) = false := by rw [show ((bstr x.e.name.loc).toList == ([] : L)) = decide (x.e.name.loc = []) from lit_eq (bstr x.e.name.loc) []]; exact decide_eq_false h5
     have q2 : (bstr x.e.name.loc).toList.isEmpty = false := by rw [isE]; exact decide_eq_false h5
     have m1 : ¬ 16 ≤ m := by omega
     have m2 : ¬ 16 < na := by omega
     have HX := hide (show Blk ((wr.alloc (.cells #[.int .i8 0, .string (bstr x.e.name.ns), .string (bstr x.e.name.loc), .slice x.A na x.c, .string (bstr x.e.text)] 43)).alloc (.cells (nmCells x.e.name).toArray 39)) (wr.heap.size + 1) 39 (nmCells x.e.name).toArray by
      have := Blk.new (wr.alloc (.cells #[.int .i8 0, .string (bstr x.e.name.ns), .string (bstr x.e.name.loc), .slice x.A na x.c, .string (bstr x.e.text)] 43)) 39 (nmCells x.e.name).toArray
      rwa [World.size_alloc] at this)
     have HR1 := hide (show opn [] (evs.take (k + 1)) = op ++ [x.e.name] by rw [HNx.out]; unfold opnS; rw [if_pos h1])
     have hmk : m = 0 → k = 0 := fun e => h2 (List.eq_nil_of_length_eq_zero (by rw [hm]; exact e))
     clear h1 h2 h3 h4 h5 hm hna htx
     by_cases hm0 : m = 0
     ·have hk0 : k = 0 := hmk hm0
      have m3 : ((m : Int) == 0) = true := by rw [beq_iff_eq]; omega
      have k3 : ¬ 0 < k := by omega
      clear hm0 hk0
      clear hmk
      go_wp2_with (at_builtin; go_loud (refine wpList_append_elem_at ((wr.alloc (.cells #[.int .i8 0, .string (bstr x.e.name.ns), .string (bstr x.e.name.loc), .slice x.A na x.c, .string (bstr x.e.text)] 43)).alloc (.cells (nmCells x.e.name).toArray 39)) rfl (.tmp 84) (.tmp 87) 46 rfl Z 39 _ 2 32 Tryz.underlying46 info_nm rfl (by omega) (.slice A2 m c2) m (nms op) rfl ((HO.out.alloc _).alloc _) (nmCells x.e.name) rfl (nm_one _) (wr.heap.size + 1) HX.out rfl (by unfold maxLen; omega) (by omega) (by have := HZr.out; simp; omega) ?_); intro g8 cap8 w8 hown8 hgrow8 hlt8; have HO8 := hide hown8; have HG8 := hide hgrow8; clear hown8 hgrow8 hlt8)
      go_roundg (N - (k + 1))
      case measure => have := Hg.out; omega
      case rel =>
       have e2 : (opn [] (evs.take (k + 1))).length = m + 1 := by rw [HR1.out, List.length_append, Hm.out]; rfl
       exact ⟨k + 1, _, _, rfl, by omega, by first | rfl | go_num, by rw [e2], by rw [e2, HR1.out, nms_snoc]; exact HO8.out, HB.out.trans (((below_alloc _ _).mono HZr.out).trans (own_below9 (HO.out.alloc _) HG8.out (by have := HZr.out; simp; omega)))⟩
     ·have m3 : ((m : Int) == 0) = false := by rw [beq_eq_false_iff_ne]; omega
      clear hmk
      go_wp2_with (at_builtin; go_loud (refine wpList_append_elem_at ((wr.alloc (.cells #[.int .i8 0, .string (bstr x.e.name.ns), .string (bstr x.e.name.loc), .slice x.A na x.c, .string (bstr x.e.text)] 43)).alloc (.cells (nmCells x.e.name).toArray 39)) rfl (.tmp 84) (.tmp 87) 46 rfl Z 39 _ 2 32 Tryz.underlying46 info_nm rfl (by omega) (.slice A2 m c2) m (nms op) rfl ((HO.out.alloc _).alloc _) (nmCells x.e.name) rfl (nm_one _) (wr.heap.size + 1) HX.out rfl (by unfold maxLen; omega) (by omega) (by have := HZr.out; simp; omega) ?_); intro g8 cap8 w8 hown8 hgrow8 hlt8; have HO8 := hide hown8; have HG8 := hide hgrow8; clear hown8 hgrow8 hlt8)
      go_roundg (N - (k + 1))
      case measure => have := Hg.out; omega
      case rel =>
       have e2 : (opn [] (evs.take (k + 1))).length = m + 1 := by rw [HR1.out, List.length_append, Hm.out]; rfl
       exact ⟨k + 1, _, _, rfl, by omega, by first | rfl | go_num, by rw [e2], by rw [e2, HR1.out, nms_snoc]; exact HO8.out, HB.out.trans (((below_alloc _ _).mono HZr.out).trans (own_below9 (HO.out.alloc _) HG8.out (by have := HZr.out; simp; omega)))⟩
    ·rcases List.eq_nil_or_concat op with he | ⟨ys, y, he⟩
     ·rw [he] at h2; cases h2
     rw [List.concat_eq_append] at he
     have hyn : y = x.e.name := by rw [he] at h2; simpa using h2
     subst hyn
     rw [h1] at y0
     obtain ⟨m', hm'⟩ : ∃ m', ys.length = m' := ⟨_, rfl⟩
     have hmm : m = m' + 1 := by rw [← hm, he, List.length_append, hm']; rfl
     obtain ⟨g, cap, hv, hgb, hgl⟩ := HO.out.form (by omega)
     have hA2 : A2 = some ⟨g, 0, none⟩ := by injection hv
     subst hA2
     have hc2 := own_cap HO.out
     have hcl : ∀ j, j < 2 → wr.cell? ⟨g, m' * 2 + j, none⟩ = (nmCells x.e.name)[j]? := fun j hj => by
      rw [HO.out.cellAt (m' * 2 + j) (by omega)]
      unfold nms
      rw [fm_at nm_len op m' (by rw [hm]; omega) j hj]
      congr 2
      simp only [he]
      rw [List.getElem_append_right (by omega)]
      simp [hm']
     have z0 : wr.cell? ⟨g, m' * 2, none⟩ = some (.string (bstr x.e.name.ns)) := hcl 0 (by omega)
     have z1 : wr.cell? ⟨g, m' * 2 + 1, none⟩ = some (.string (bstr x.e.name.loc)) := hcl 1 (by omega)
     have hba := below_alloc wr (.cells #[.int .i8 1, .string (bstr x.e.name.ns), .string (bstr x.e.name.loc), .slice x.A na x.c, .string (bstr x.e.text)] 43)
     have z0' := (hba.cell (p := ⟨g, m' * 2, none⟩) hgl).trans z0
     have z1' := (hba.cell (p := ⟨g, m' * 2 + 1, none⟩) hgl).trans z1
     have hw1 : IntKind.i64.wrap ((m : Int) - 1) = (m' : Int) := by rw [IntWalk.i64_in _ (by omega)]; omega
     have hmn : m' < m := by omega
     have m3 : ((m : Int) == 0) = false := by rw [beq_eq_false_iff_ne]; omega
     have m0 : m ≠ 0 := by omega
     have hbd : (0 : Int) ≤ (m' : Int) ∧ (m' : Int) ≤ (c2 : Int) := by omega
     have HR1 := hide (show opn [] (evs.take (k + 1)) = ys by rw [HNx.out]; unfold opnS; rw [if_neg (by omega), if_pos h1, he]; simp)
     have HO3 := hide (show (wr.alloc (.cells #[.int .i8 1, .string (bstr x.e.name.ns), .string (bstr x.e.name.loc), .slice x.A na x.c, .string (bstr x.e.text)] 43)).ownsRow Z 39 2 (.slice (some ⟨g, 0, none⟩) m' c2) m' (nms ys) by
      have := own_take (HO.out.alloc (.cells #[.int .i8 1, .string (bstr x.e.name.ns), .string (bstr x.e.name.loc), .slice x.A na x.c, .string (bstr x.e.text)] 43)) (k := m') (by omega)
      have e3 : (nms op).take (m' * 2) = nms ys := by
       unfold nms
       rw [← fm_take nm_len, he, ← hm', List.take_left]
      rwa [e3] at this)
     have HBA := hide hba
     have Hm' := hide hm'
     clear h1 h2 hm hna htx he hcl hv hba z0 z1 hgl hm' hmm
     go_wp2
     go_quiet (fail)
     go_wp2
     go_roundg (N - (k + 1))
     case measure => have := Hg.out; omega
     case rel =>
      have e2 : (opn [] (evs.take (k + 1))).length = m' := by rw [HR1.out, Hm'.out]
      exact ⟨k + 1, _, _, rfl, by omega, by first | rfl | go_num, by rw [e2], by rw [e2, HR1.out]; exact HO3.out, below_drewN (HB.out.trans (HBA.out.mono HZr.out)) _⟩
    ·rw [h1] at y0
     have m3 : ((m : Int) == 0) = false := by rw [beq_eq_false_iff_ne]; intro e; exact h2 (List.eq_nil_of_length_eq_zero (by omega))
     have q1 : ((bstr x.e.text).toList == ([] : L)) = false := by rw [show ((bstr x.e.text).toList == ([] : L)) = decide (x.e.text = []) from lit_eq (bstr x.e.text) []]; exact decide_eq_false h3
     have q2 : (bstr x.e.text).toList.isEmpty = false := by rw [isE]; exact decide_eq_false h3
     have HBd := hide (fun W => refBad_any (bstr x.e.text) W (by rw [bstr_size]; omega))
     rw [bstr_list] at HBd
     have hbd := bad_fine x.e.text
     rw [h4] at hbd
     have hk0 : k ≠ 0 := fun e => by
      rw [e, List.take_zero] at HOp
      exact h2 HOp.out.symm
     obtain ⟨k', rfl⟩ : ∃ k', k = k' + 1 := ⟨k - 1, by omega⟩
     rw [Nat.add_sub_cancel] at h5
     obtain ⟨px, hpx, hpe⟩ : ∃ px, xs[k']? = some px ∧ px.e = p := by
      rw [← Hx.out, List.getElem?_map] at h5
      exact Option.map_eq_some_iff.1 h5
     obtain ⟨b2, off2, eA, hbl2, hat2⟩ := HE.out.at_ hpx
     cases eA
     have z0 := (HB.out.cell (p := ⟨b, off + k' * 5, none⟩) hbl).trans hat2.c0
     rw [hpe] at z0
     have hba := below_alloc wr (.cells #[.int .i8 2, .string (bstr x.e.name.ns), .string (bstr x.e.name.loc), .slice x.A na x.c, .string (bstr x.e.text)] 43)
     have z0' := (hba.cell (p := ⟨b, off + k' * 5, none⟩) (by show b < wr.heap.size; omega)).trans z0
     have p2 : ((p.kind : Int) == 2) = false := by rw [beq_eq_false_iff_ne]; omega
     have hw1 : IntKind.i64.wrap (((k' + 1 : Nat) : Int) - 1) = (k' : Int) := by rw [IntWalk.i64_in _ (by omega)]; omega
     have hk'N : k' < N := by omega
     have HR1 := hide (show opn [] (evs.take (k' + 1 + 1)) = op by rw [HNx.out]; unfold opnS; rw [if_neg (by omega), if_neg (by omega)])
     have HBA := hide hba
     obtain ⟨kk, hkk⟩ : ∃ kk, k' + 1 = kk := ⟨_, rfl⟩
     have Hkk := hide hkk
     rw [hkk] at y0 y1 y2 y3 y4 hw1 HR1 hlt hk Hg ⊢
     generalize p.kind = pk at *
     generalize bad x.e.text = bd at *
     clear h1 h2 h3 h4 h5 h6 hm hna htx hpx hpe hat2 hba z0 HNx HOp HXk hk0 hkk
     go_wp2_with fail
     refine (HBd.out _).mono ?_
     rintro e w2 ⟨rfl, hw2⟩
     subst w2
     go_wp2
     go_roundg (N - (kk + 1))
     case measure => have := Hg.out; omega
     case rel =>
      have e2 : (opn [] (evs.take (kk + 1))).length = m := by rw [HR1.out, Hm.out]
      exact ⟨kk + 1, _, _, rfl, by omega, by first | rfl | go_num, by rw [e2], by rw [e2, HR1.out]; exact HO.out.alloc _, HB.out.trans (HBA.out.mono HZr.out)⟩
   ·have hkN : k = N := by omega
    subst hkN
    have hall : evs.take k = evs := List.take_of_length_le (by rw [← Hx.out, List.length_map, HN.out]; exact Nat.le_refl _)
    rw [hall, Hop.out]
    have m0 : ((([] : List Nm).length : Nat) : Int) = 0 := rfl
    have HWl3 := hide (HWl2.out wr HBw.out)
    unfold isOk at HWl3
    clear hall ho hb hgk
    go_wp2_with fail
    refine HWl3.out.mono ?_
    rintro e w2 ⟨rfl, b2⟩
    have B2 := hide (HBw.out.trans (b2.mono HBw.out.size))
    clear b2
    go_wp2_with fail
    refine (HWk.out _ B2.out).mono ?_
    rintro e w3 ⟨rfl, b3⟩
    go_wp2
    go_ret
    exact ⟨rfl, B2.out.trans (b3.mono B2.out.size)⟩
end Go.Proofs.YtbbpkcddifmieaaGreatDoor
