/- Strict: the law of a text within another element: the walk. · Plain: white space, comments and instructions about the root make no difference; no program in sight. -/
import Derived.Test.YtbbpkcddifmieaaGreatDoorSw38
set_option linter.unusedSimpArgs false
set_option linter.unusedVariables false
namespace Go.Proofs.YtbbpkcddifmieaaGreatDoor
open Go.RowKit Tk Sx

theorem ews_drop (l : List Ew) (k : Nat) : ews (l.drop k) = (ews l).drop (k * 5) := by
 have h : ews l = ews (l.take k) ++ ews (l.drop k) := by unfold ews; rw [← List.flatMap_append, List.take_append_drop]
 by_cases hk : k ≤ l.length
 ·have hl : (ews (l.take k)).length = k * 5 := by unfold ews; rw [fm_length ew_len, List.length_take, Nat.min_eq_left hk]
  rw [h, List.drop_left' hl]
 ·have hl : (ews l).length = l.length * 5 := by unfold ews; rw [fm_length ew_len]
  rw [List.drop_of_length_le (by omega), List.drop_of_length_le (by omega)]
  rfl
theorem two_of {s : L} (h : 1 < s.length) : ∃ c0 c1 rest, s = c0 :: c1 :: rest := by
 match s, h with
 | c0 :: c1 :: rest, _ => exact ⟨c0, c1, rest, rfl⟩
/-- A part of a list of events. -/
theorem EvL.part {w : World} {B b off : Nat} {xs : List Ew} (h : EvL w B (some ⟨b, off, none⟩) xs) {q m : Nat} (hq : q + m ≤ xs.length) : EvL w B (some ⟨b, off + q * 5, none⟩) ((xs.drop q).take m) := by
 refine ⟨⟨?_, fun hn => ?_⟩, fun x hx => h.sub x (List.mem_of_mem_drop (List.mem_of_mem_take hx))⟩
 ·unfold ews; rw [fm_length ew_len]
 ·have hl : ((xs.drop q).take m).length = m := by rw [List.length_take, List.length_drop]; omega
  rw [hl] at hn
  obtain ⟨b', off', hA, hb, hc⟩ := h.row.2 (by omega)
  cases hA
  refine ⟨b, off + q * 5, rfl, hb, fun j u hu => ?_⟩
  have e : ews ((xs.drop q).take m) = ((ews xs).drop (q * 5)).take (m * 5) := by
   rw [← ews_drop]
   unfold ews
   rw [fm_take ew_len]
  rw [e, List.getElem?_take] at hu
  split at hu
  ·rw [List.getElem?_drop] at hu
   have := hc (q * 5 + j) u hu
   rwa [← Nat.add_assoc] at this
  ·cases hu

set_option maxRecDepth 100000 in
set_option maxHeartbeats 64000000 in
theorem lawWithin_any (s : L) (w : World) (hg : Gl w) (hw6 : 6 ≤ w.heap.size) :
  Calls Tryz.prog 5 #[.string (bstr s)] w fun e w' => e = .returned (.bool true) ∧ Below w.heap.size w w' := by
 have HWk := hide (fun W (h : Below w.heap.size w W) => wakes15_any W (hg.below h) (Nat.le_trans hw6 h.size))
 obtain ⟨n, hn⟩ : ∃ n, (bstr s).size = n := ⟨_, rfl⟩
 have hnl : n = s.length := by rw [← hn, bstr_size]
 by_cases hbig : 3000 < n
 ·clear hnl
  go_enter Tryz.func5, Tryz.ntmps5
  go_wp2_with fail
  refine (HWk.out _ (Below.refl _ _)).mono ?_
  rintro e w1 ⟨rfl, b1⟩
  go_wp2
  go_ret
  exact ⟨rfl, b1⟩
 have HPa := hide (parse_any (bstr s) w hg hw6 (by rw [bstr_size]; omega))
 have HPb := hide (fun W (h : Below w.heap.size w W) => parse_any (bstr ([60, 119, 62] ++ (s ++ [60, 47, 119, 62]))) W (hg.below h) (Nat.le_trans hw6 h.size) (by rw [bstr_size]; simp; omega))
 rw [bstr_list] at HPa HPb
 obtain ⟨r, hr⟩ : ∃ r, Sx.parse s = r := ⟨_, rfl⟩
 rw [hr] at HPa
 cases r with
 | error x =>
  obtain ⟨x1, x2⟩ := x
  have ht := parse_told hr
  obtain ⟨t1, t2⟩ := ht
  dsimp only at t1 t2
  clear HPb hr hg hw6 hnl t1
  rcases t2 with rfl | rfl | rfl
  all_goals
   go_enter Tryz.func5, Tryz.ntmps5
   go_wp2_with fail
   refine HPa.out.mono ?_
   rintro e w1 ⟨b1, rfl⟩
   have B1 := hide b1
   clear b1
   go_wp2_with fail
   refine (HWk.out _ B1.out).mono ?_
   rintro e w2 ⟨rfl, b2⟩
   go_wp2
   go_ret
   exact ⟨rfl, B1.out.trans (b2.mono B1.out.size)⟩
 | ok evs =>
  have hlong := parse_long hr
  obtain ⟨c0, c1, rest, hs⟩ := two_of hlong
  have i0 : ∀ W, (Instr.index 9 (.string (bstr s)) (.int .i64 0)).run Tryz.prog W = .ok (.int .u8 (c0.toNat : Nat)) W := fun W => by
   have h := idx_run (bstr s) 0 c0 (by rw [bstr_list, hs]; rfl) W
   rwa [show ((0 : Nat) : Int) = 0 from rfl] at h
  have i1 : ∀ W, (Instr.index 9 (.string (bstr s)) (.int .i64 1)).run Tryz.prog W = .ok (.int .u8 (c1.toNat : Nat)) W := fun W => by
   have h := idx_run (bstr s) 1 c1 (by rw [bstr_list, hs]; rfl) W
   rwa [show ((1 : Nat) : Int) = 1 from rfl] at h
  have key : ∀ c d : UInt8, ((c.toNat : Int) == (d.toNat : Int)) = (c == d) := fun c d => by
   rw [Bool.eq_iff_iff, beq_iff_eq, beq_iff_eq]
   exact ⟨fun h => UInt8.toNat_inj.1 (by omega), fun h => by rw [h]⟩
  have e0 : ((c0.toNat : Int) != 60) = !(c0 == 60) := by rw [bne, ← key c0 60]; rfl
  have e1 : ((c1.toNat : Int) == 63) = (c1 == 63) := key c1 63
  have e2 : ((c1.toNat : Int) == 33) = (c1 == 33) := key c1 33
  have hln : 1 < n := by omega
  obtain ⟨hbal, hop, h2⟩ := parse_balance hr
  obtain ⟨hle, htx⟩ := parse_small (N := 3000) hr (by omega)
  have Hs := hide hs
  have Hr := hide hr
  have Hle := hide hle
  have Hfew := hide (parse_few hr)
  clear key hlong hs hr hbal hop h2 htx hle hnl hg hw6
  by_cases h60 : c0 = 60
  ·have e0' : (!(c0 == 60)) = false := by rw [h60]; rfl
   rw [e0'] at e0
   by_cases h63 : c1 = 63
   ·rw [show (c1 == 63) = true by rw [h63]; rfl] at e1
    clear e0' e2 HPb
    generalize c0.toNat = q0 at *
    generalize c1.toNat = q1 at *
    go_enter Tryz.func5, Tryz.ntmps5
    go_wp2_with fail
    refine HPa.out.mono ?_
    rintro e w1 ⟨b1, xs, A, c, hx, rfl, hxc, hr, -, -, hi⟩
    have B1 := hide b1
    clear b1 hx hr hi
    go_wp2_with fail
    refine (HWk.out _ B1.out).mono ?_
    rintro e w2 ⟨rfl, b2⟩
    go_wp2
    go_ret
    exact ⟨rfl, B1.out.trans (b2.mono B1.out.size)⟩
   rw [show (c1 == 63) = false by rw [beq_eq_false_iff_ne]; exact h63] at e1
   by_cases h33 : c1 = 33
   ·rw [show (c1 == 33) = true by rw [h33]; rfl] at e2
    clear e0' HPb h63
    generalize c0.toNat = q0 at *
    generalize c1.toNat = q1 at *
    go_enter Tryz.func5, Tryz.ntmps5
    go_wp2_with fail
    refine HPa.out.mono ?_
    rintro e w1 ⟨b1, xs, A, c, hx, rfl, hxc, hr, -, -, hi⟩
    have B1 := hide b1
    clear b1 hx hr hi
    go_wp2_with fail
    refine (HWk.out _ B1.out).mono ?_
    rintro e w2 ⟨rfl, b2⟩
    go_wp2
    go_ret
    exact ⟨rfl, B1.out.trans (b2.mono B1.out.size)⟩
   rw [show (c1 == 33) = false by rw [beq_eq_false_iff_ne]; exact h33] at e2
   have hlaw := within_law Hr.out (c := c1) (r := rest) (by rw [Hs.out, h60]) h63 h33
   have hS : (⟨#[60, 119, 62]⟩ : ByteArray) ++ bstr s = bstr ([60, 119, 62] ++ s) := bstr_app [60, 119, 62] s
   have hS2 : bstr ([60, 119, 62] ++ s) ++ (⟨#[60, 47, 119, 62]⟩ : ByteArray) = bstr ([60, 119, 62] ++ (s ++ [60, 47, 119, 62])) := by rw [← List.append_assoc]; exact bstr_app ([60, 119, 62] ++ s) [60, 47, 119, 62]
   have z1 : ¬ 9223372036854775807 < (⟨#[60, 119, 62]⟩ : ByteArray).size + (bstr s).size := by rw [hn]; show ¬ _ < 3 + n; omega
   have z2 : ¬ 9223372036854775807 < (bstr ([60, 119, 62] ++ s)).size + (⟨#[60, 47, 119, 62]⟩ : ByteArray).size := by
    rw [bstr_size, List.length_append, ← bstr_size s, hn]
    show ¬ _ < 3 + n + 4
    omega
   obtain ⟨S1, hS1e⟩ : ∃ S1, bstr ([60, 119, 62] ++ s) = S1 := ⟨_, rfl⟩
   obtain ⟨S2, hS2e⟩ : ∃ S2, bstr ([60, 119, 62] ++ (s ++ [60, 47, 119, 62])) = S2 := ⟨_, rfl⟩
   rw [hS1e] at hS hS2 z2
   rw [hS2e] at hS2 HPb
   have Hlaw := hide hlaw
   clear e0' h63 h33 hlaw hS1e hS2e h60
   generalize c0.toNat = q0 at *
   generalize c1.toNat = q1 at *
   rcases Hlaw.out with ⟨⟨y1, y2⟩, hy, hy2⟩ | ⟨tl, hy⟩
   ·rw [hy] at HPb
    dsimp only at hy2
    subst hy2
    clear hy Hlaw
    go_enter Tryz.func5, Tryz.ntmps5
    go_wp2_with fail
    refine HPa.out.mono ?_
    rintro e w1 ⟨b1, xs, A, c, hx, rfl, hxc, hr, -, -, hi⟩
    have B1 := hide b1
    clear b1 hx hr hi
    go_wp2_with fail
    refine (HPb.out _ B1.out).mono ?_
    rintro e w2 ⟨b2, rfl⟩
    have B2 := hide (B1.out.trans (b2.mono B1.out.size))
    clear b2
    go_wp2_with fail
    refine (HWk.out _ B2.out).mono ?_
    rintro e w3 ⟨rfl, b3⟩
    go_wp2
    go_ret
    exact ⟨rfl, B2.out.trans (b3.mono B2.out.size)⟩
   ·rw [hy] at HPb
    clear hy Hlaw
    go_enter Tryz.func5, Tryz.ntmps5
    go_wp2_with fail
    refine HPa.out.mono ?_
    rintro e w1 ⟨b1, xs, A, c, hx, rfl, hxc, hr, -, -, hi⟩
    have B1 := hide b1
    have E1 := hide (EvL.of hr hi)
    have Hx := hide hx
    obtain ⟨N, hN⟩ : ∃ N, xs.length = N := ⟨_, rfl⟩
    have HN := hide hN
    rw [hN] at hxc ⊢
    have hNe : evs.length = N := by rw [← hx, List.length_map, hN]
    have HNe := hide hNe
    have hN9 : N ≤ 54000 := by rw [← hNe]; exact Hle.out
    clear hNe
    clear b1 hx hr hi hN
    go_wp2_with fail
    refine (HPb.out _ B1.out).mono ?_
    rintro e w2 ⟨b2, ys, A2, c2, hy, rfl, hyc, hr, -, -, hi⟩
    have B2 := hide (B1.out.trans (b2.mono B1.out.size))
    have E2 := hide (EvL.of hr hi)
    have E1' := hide ((E1.out.below b2).more b2.size)
    have Hy := hide hy
    have hM : ys.length = N + tl.length + 2 := by
     have := congrArg List.length hy
     rw [List.length_map] at this
     rw [this, List.length_append, List.length_cons, List.length_append, HNe.out]
     simp only [List.length_singleton]
    obtain ⟨x0, hx0⟩ : ∃ x0, ys[0]? = some x0 := ⟨_, List.getElem?_eq_getElem (by omega)⟩
    have hx0e : x0.e = evW := by
     have : (ys.map (·.e))[0]? = some x0.e := by rw [List.getElem?_map, hx0]; rfl
     rw [hy] at this
     exact (Option.some.inj this).symm
    obtain ⟨b, off, rfl, hbl, hat⟩ := E2.out.at_ hx0
    have y2 := hat.c2
    rw [hx0e, Nat.zero_mul, Nat.add_zero] at y2
    replace y2 : w2.cell? ⟨b, off + 2, none⟩ = some (.string ⟨#[119]⟩) := y2
    obtain ⟨M, hMM⟩ : ∃ M, ys.length = M := ⟨_, rfl⟩
    rw [hMM] at hM hyc ⊢
    have HMM := hide hMM
    have hseq : ((ys.drop 1).take N).map (·.e) = xs.map (·.e) := by
     rw [List.map_take, List.map_drop, Hy.out, Hx.out]
     show (((evs ++ tl) ++ [evW1]).take N) = evs
     rw [List.append_assoc, List.take_left' HNe.out]
    have hlen : ((ys.drop 1).take N).length = N := by rw [List.length_take, List.length_drop, hMM]; omega
    have hSE := sameEvents_any w2 w2.heap.size (some ⟨b, off + 1 * 5, none⟩) A (c2 - 1) c ((ys.drop 1).take N) xs (E2.out.part (by rw [hMM]; omega)) E1'.out hseq (by rw [hlen]; omega) (fun x hx => by
      have hm : x.e ∈ ((ys.drop 1).take N).map (·.e) := List.mem_map_of_mem hx
      rw [hseq, Hx.out] at hm
      exact Nat.le_trans (Hfew.out _ hm) (by decide)) (Nat.le_refl _)
    rw [hlen, HN.out] at hSE
    have HSE := hide hSE
    have hN0 : (0 : Int) ≤ 1 ∧ (1 : Int) ≤ (N : Int) + 1 ∧ (N : Int) + 1 ≤ (c2 : Int) := by omega
    have hw1 : IntKind.i64.wrap ((N : Int) + 1) = (N : Int) + 1 := IntWalk.i64_in _ (by omega)
    have hw2 : IntKind.i64.wrap ((N : Int) + 2) = (N : Int) + 2 := IntWalk.i64_in _ (by omega)
    have hlt : ¬ M < N + 2 := by omega
    clear b2 hr hi hy hx0 hx0e hat hseq hlen hSE hMM
    go_wp2_with fail
    refine HSE.out.mono ?_
    rintro e w3 ⟨rfl, b3⟩
    have B3 := hide (B2.out.trans (b3.mono B2.out.size))
    clear b3
    go_wp2_with fail
    refine (HWk.out _ B3.out).mono ?_
    rintro e w4 ⟨rfl, b4⟩
    go_wp2
    go_ret
    exact ⟨rfl, B3.out.trans (b4.mono B3.out.size)⟩
  ·have e0' : (!(c0 == 60)) = true := by rw [show (c0 == 60) = false by rw [beq_eq_false_iff_ne]; exact h60]; rfl
   rw [e0'] at e0
   clear e0' e1 e2 HPb i1
   generalize c0.toNat = q0 at *
   go_enter Tryz.func5, Tryz.ntmps5
   go_wp2_with fail
   refine HPa.out.mono ?_
   rintro e w1 ⟨b1, xs, A, c, hx, rfl, hxc, hr, -, -, hi⟩
   have B1 := hide b1
   clear b1 hx hr hi
   go_wp2_with fail
   refine (HWk.out _ B1.out).mono ?_
   rintro e w2 ⟨rfl, b2⟩
   go_wp2
   go_ret
   exact ⟨rfl, B1.out.trans (b2.mono B1.out.size)⟩
end Go.Proofs.YtbbpkcddifmieaaGreatDoor
namespace Go.Proofs.YtbbpkcddifmieaaGreatDoor
open Tk Sx

theorem index_none : ∀ {l : L}, (93 : UInt8) ∉ l → Lib.index l [93, 93, 62] < 0
 | [], _ => by decide
 | c :: l, h => by
  have ih := index_none (l := l) (fun hm => h (List.mem_cons_of_mem _ hm))
  have hc : c ≠ 93 := fun e => h (by rw [e]; exact List.mem_cons_self ..)
  unfold Lib.index
  rw [if_neg (by
   simp only [List.isPrefixOf, Bool.and_eq_true, beq_iff_eq]
   exact fun hh => hc hh.1.symm)]
  split
  ·omega
  ·rename_i h1
   have := Lib.index_ge l [93, 93, 62]
   have h2 : Lib.index l [93, 93, 62] = -1 := by omega
   rw [h2] at h1
   exact absurd rfl h1
theorem all_sp_not {t : L} {c : UInt8} (h : t.all sp = true) (hc : sp c = false) : c ∉ t := fun hm => by
 have := List.all_eq_true.1 h c hm
 rw [hc] at this
 cases this
def pWs1 : L := [32, 10]
def pWs2 : L := [9]
def pCom : L := [60, 33, 45, 45, 32, 97, 32, 38, 32, 60, 32, 45, 45, 62]
def pIns : L := [60, 63, 98, 32, 99, 63, 62]
def Piece0 (p : L) : Prop := p = pWs1 ∨ p = pCom ∨ p = pIns ∨ p = pWs2
/-- A token that does nothing outside the root. -/
def Blk0 (t : Tok) : Prop := t.kind = 4 ∨ (t.kind = 2 ∧ t.text.all sp = true)
theorem com_tok (at_ : Nat) : TokW at_ pCom ⟨4, [], [], false, [], at_, at_ + 14⟩ := TokW.comment at_ [32, 97, 32, 38, 32, 60, 32] (by decide)
theorem ins_tok (at_ : Nat) : TokW at_ pIns ⟨4, [], [], false, [], at_, at_ + 7⟩ :=
 TokW.instr at_ [98] [32, 99] ⟨⟨by decide, by decide⟩, by simp, by decide, .inr ⟨32, [99], rfl, by decide⟩, by decide⟩ (fun _ rest hh => by
  have := hh.1
  simp [sXml] at this)
theorem ws_tok (at_ : Nat) {x : L} (hx : x ≠ []) (hs : x.all sp = true) : TokW at_ x ⟨2, [], [], false, x, at_, at_ + x.length⟩ :=
 TokW.text at_ x hx (all_sp_not hs (by decide)) (index_none (all_sp_not hs (by decide)))
theorem misc_row : ∀ (ps : List L), (∀ p ∈ ps, Piece0 p) → ∀ (x : L) (at_ : Nat) (rest : L), x.all sp = true → Lt rest → ∃ ts, Row at_ (x ++ ps.flatten) rest ts ∧ ∀ t ∈ ts, Blk0 t
 | [], _, x, at_, rest, hx, hr => by
  by_cases h0 : x = []
  ·subst h0
   exact ⟨[], .nil _ _, fun t ht => by cases ht⟩
  ·have := Row.cons at_ x _ [] rest [] (ws_tok at_ h0 hx) (sps_fine hx) (fun _ => hr) (.nil _ _)
   exact ⟨_, by simpa using this, fun t ht => by rw [List.mem_singleton.1 ht]; exact .inr ⟨rfl, hx⟩⟩
 | p :: ps, hp, x, at_, rest, hx, hr => by
  have hps : ∀ q ∈ ps, Piece0 q := fun q hq => hp q (List.mem_cons_of_mem _ hq)
  have ws : p.all sp = true → ∃ ts, Row at_ (x ++ (p :: ps).flatten) rest ts ∧ ∀ t ∈ ts, Blk0 t := fun hw => by
   obtain ⟨ts, h1, h2⟩ := misc_row ps hps (x ++ p) at_ rest (by rw [List.all_append, hx, hw]; rfl) hr
   exact ⟨ts, by rw [List.flatten_cons, ← List.append_assoc]; exact h1, h2⟩
  have tok : ∀ (t : Nat → Tok), (∀ a, TokW a p (t a) ∧ (t a).kind = 4) → fine p = true → (∃ r, p = 60 :: r) → ∃ ts, Row at_ (x ++ (p :: ps).flatten) rest ts ∧ ∀ t ∈ ts, Blk0 t := fun t ht hf hl => by
   have one : ∀ a, ∃ ts, Row a ((p :: ps).flatten) rest ts ∧ ∀ t ∈ ts, Blk0 t := fun a => by
    obtain ⟨ts, h1, h2⟩ := misc_row ps hps [] (a + p.length) rest rfl hr
    rw [List.nil_append] at h1
    refine ⟨t a :: ts, ?_, fun u hu => ?_⟩
    ·rw [List.flatten_cons]
     exact .cons a p (t a) _ rest ts (ht a).1 hf (fun e => by rw [(ht a).2] at e; cases e) h1
    ·rcases List.mem_cons.1 hu with rfl | hu
     ·exact .inl (ht a).2
     ·exact h2 u hu
   by_cases h0 : x = []
   ·subst h0
    exact one at_
   ·obtain ⟨ts, h1, h2⟩ := one (at_ + x.length)
    refine ⟨_ :: ts, .cons at_ x _ _ rest ts (ws_tok at_ h0 hx) (sps_fine hx) (fun _ => ?_) h1, fun u hu => ?_⟩
    ·obtain ⟨r, hr2⟩ := hl
     rw [List.flatten_cons, hr2]
     exact .inr ⟨_, rfl⟩
    ·rcases List.mem_cons.1 hu with rfl | hu
     ·exact .inr ⟨rfl, hx⟩
     ·exact h2 u hu
  rcases hp p (List.mem_cons_self ..) with h | h | h | h
  ·exact ws (by rw [h]; decide)
  ·exact tok (fun a => ⟨4, [], [], false, [], a, a + 14⟩) (fun a => ⟨by rw [h]; exact com_tok a, rfl⟩) (by rw [h]; decide) ⟨_, by rw [h]; rfl⟩
  ·exact tok (fun a => ⟨4, [], [], false, [], a, a + 7⟩) (fun a => ⟨by rw [h]; exact ins_tok a, rfl⟩) (by rw [h]; decide) ⟨_, by rw [h]; rfl⟩
  ·exact ws (by rw [h]; decide)
theorem run_blank : ∀ {ts : List Tok} {st : St}, (∀ t ∈ ts, Blk0 t) → st.open_ = [] → run st ts = .ok st
 | [], _, _, _ => rfl
 | t :: ts, st, h, ho => by
  have hs : Sx.step st t = .ok st := by
   unfold Sx.step
   rcases h t (List.mem_cons_self ..) with hk | ⟨hk, hb⟩
   ·rw [if_neg (by omega), if_neg (by omega), if_neg (by omega), if_neg (by omega)]
   ·rw [if_neg (by omega), if_neg (by omega), if_pos hk]
    unfold Sx.text
    rw [if_pos ho, if_pos hb]
  rw [run, hs]
  exact run_blank (fun u hu => h u (List.mem_cons_of_mem _ hu)) ho
/-- A row whose last token is no text may stand ahead of anything. -/
theorem row_free {at_ : Nat} {w rest : L} {ts : List Tok} (h : Row at_ w rest ts) : (∀ t, ts.getLast? = some t → t.kind ≠ 2) → ∀ rest', Row at_ w rest' ts := by
 induction h with
 | nil => intro _ rest'; exact .nil _ _
 | cons at_ w t w2 rest ts hw hf hk hr ih =>
  intro hl rest'
  refine .cons _ _ _ _ _ _ hw hf (fun e => ?_) (ih (fun u hu => hl u (by
   cases ts with
   | nil => cases hu
   | cons v ts => rw [List.getLast?_cons_cons]; exact hu)) rest')
  cases hr with
  | nil => exact absurd e (hl t rfl)
  | cons _ w3 u w4 _ ts2 hw3 _ _ _ =>
   rcases hk e with h | ⟨s, h⟩
   ·have h1 := List.length_pos_iff.2 hw3.ne
    have h2 := congrArg List.length h
    simp only [List.length_append, List.length_nil] at h2
    omega
   ·obtain ⟨d, q, hd⟩ : ∃ d q, w3 = d :: q := by
     cases w3 with
     | nil => exact absurd rfl hw3.ne
     | cons d q => exact ⟨d, q, rfl⟩
    rw [hd, List.cons_append, List.cons_append, List.cons.injEq] at h
    rw [hd, h.1]
    exact .inr ⟨_, rfl⟩
/-- A well-formed text: its tokens up to the last that is no text; white space behind. -/
theorem tail_split {s : L} {evs : List Ev} (h : Sx.parse s = .ok evs) : ∃ s0 tx ts st, s = s0 ++ tx ∧ tx.all sp = true ∧ (∀ rest, Row 0 s0 rest ts) ∧ run st0 ts = .ok st ∧ st.open_ = [] ∧ st.rooted = true ∧ st.evs = evs := by
 obtain ⟨ts, st, hrow, hrun, ho, hro, hev⟩ := row_parse h
 rcases List.eq_nil_or_concat ts with he | ⟨ts0, t, he⟩
 ·subst he
  simp only [run, Except.ok.injEq] at hrun
  subst hrun
  cases hro
 rw [List.concat_eq_append] at he
 subst he
 by_cases hk : t.kind = 2
 ·obtain ⟨w1, w2, hw, r1, r2⟩ := hrow.split
  generalize hat : 0 + w1.length = at1 at r2
  cases r2 with
  | cons _ w _ w3 _ _ hwt hf hk2 hr3 =>
   generalize hat2 : at1 + w.length = at2 at hr3
   cases hr3
   rw [List.append_nil] at hw r1
   rw [run_snoc] at hrun
   cases hr0 : run st0 ts0 with
   | error x => rw [hr0] at hrun; cases hrun
   | ok st1 =>
    rw [hr0] at hrun
    dsimp only at hrun
    have htx : w = t.text := by
     cases hwt with
     | text => rfl
     | _ => cases hk
    unfold Sx.step at hrun
    rw [if_neg (by omega), if_neg (by omega), if_pos hk] at hrun
    unfold Sx.text at hrun
    by_cases ho1 : st1.open_ = []
    ·rw [if_pos ho1] at hrun
     by_cases hb : t.text.all sp = true
     ·rw [if_pos hb] at hrun
      simp only [Except.ok.injEq] at hrun
      subst hrun
      refine ⟨w1, w, ts0, st1, hw, by rw [htx]; exact hb, row_free r1 (fun u hu hu2 => ?_), hr0, ho, hro, hev⟩
      obtain ⟨ts1, hts1⟩ : ∃ ts1, ts0 = ts1 ++ [u] := by
       rcases List.eq_nil_or_concat ts0 with e | ⟨a, b, e⟩
       ·rw [e] at hu; cases hu
       ·rw [List.concat_eq_append] at e
        rw [e, List.getLast?_append, List.getLast?_singleton, Option.some_or, Option.some.injEq] at hu
        exact ⟨a, by rw [e, hu]⟩
      rw [hts1] at r1
      obtain ⟨w5, w6, _, _, r6⟩ := r1.split
      generalize hat3 : 0 + w5.length = at3 at r6
      cases r6 with
      | cons _ w7 _ w8 _ _ h7 _ hk7 hr8 =>
       generalize hat4 : at3 + w7.length = at4 at hr8
       cases hr8
       rw [List.nil_append, List.append_nil] at hk7
       have hb2 := hb
       rw [← htx] at hb2
       rcases hk7 hu2 with e | ⟨q, e⟩
       ·exact hwt.ne e
       ·rw [e] at hb2
        simp only [List.all_cons, Bool.and_eq_true] at hb2
        exact absurd hb2.1 (by decide)
     ·rw [if_neg hb] at hrun; cases hrun
    ·rw [if_neg ho1] at hrun
     cases hsr : sref t.text.length 0 t.text with
     | error a => rw [hsr] at hrun; cases hrun
     | ok x =>
      rw [hsr] at hrun
      simp only [Except.ok.injEq] at hrun
      subst hrun
      exact absurd ho ho1
 ·exact ⟨s, [], ts0 ++ [t], st, (List.append_nil s).symm, rfl, row_free hrow (fun u hu => by
   rw [List.getLast?_append, List.getLast?_singleton, Option.some_or, Option.some.injEq] at hu
   rw [← hu]; exact hk), hrun, ho, hro, hev⟩
theorem about_law {s : L} {evs : List Ev} {c : UInt8} {r : L} (h : Sx.parse s = .ok evs) (hs : s = 60 :: c :: r) (h63 : c ≠ 63) {pa pb : List L} (ha : ∀ p ∈ pa, Piece0 p) (hb : ∀ p ∈ pb, Piece0 p) :
  Sx.parse (pa.flatten ++ (s ++ pb.flatten)) = .ok evs := by
 obtain ⟨s0, tx, ts, st, hst, htx, hrow, hrun, ho, hro, hev⟩ := tail_split h
 obtain ⟨tA, rA, bA⟩ := misc_row pa ha [] 0 (s ++ pb.flatten) rfl (.inr ⟨c :: r ++ pb.flatten, by rw [hs]; rfl⟩)
 rw [List.nil_append] at rA
 obtain ⟨tB, rB, bB⟩ := misc_row pb hb tx (pa.flatten.length + s0.length) [] htx (.inl rfl)
 have hq : ∀ q, s0 ≠ 60 :: 63 :: q := fun q e => by
  rw [e] at hst
  rw [hs] at hst
  simp only [List.cons_append, List.cons.injEq] at hst
  exact h63 hst.2.1
 have rM := row_shift0 (hrow (tx ++ pb.flatten)) (.inr hq) pa.flatten.length
 rw [Nat.zero_add] at rM
 have r1 := Row.join (w1 := s0) (w2 := tx ++ pb.flatten) (rest := []) (by rw [List.append_nil]; exact rM) rB
 rw [← List.append_assoc, ← hst] at r1
 have r2 := Row.join (w1 := pa.flatten) (w2 := s ++ pb.flatten) (rest := []) (by rw [List.append_nil]; exact rA) (by rw [Nat.zero_add]; exact r1)
 rw [parse_row r2, run_app, run_blank bA rfl]
 dsimp only
 rw [run_app, run_shift, hrun]
 show (match run st tB with | .error x => Except.error x | .ok st => if st.open_ = [] ∧ st.rooted = true then Except.ok st.evs else Except.error (_, 50)) = _
 rw [run_blank bB ho]
 dsimp only
 rw [if_pos ⟨ho, hro⟩, hev]
end Go.Proofs.YtbbpkcddifmieaaGreatDoor
