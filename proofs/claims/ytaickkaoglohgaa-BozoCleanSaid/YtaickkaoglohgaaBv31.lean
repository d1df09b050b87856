/- Bozo: a start's attributes. · Bozo: attributes of which no two are written alike. -/
import Derived.Test.YtaickkaoglohgaaBv13
import Derived.Test.YtaickkaoglohgaaBv30
set_option linter.unusedSimpArgs false
set_option linter.unusedVariables false
namespace Go.Proofs.Ytaickkaoglohgaa
open Go.RowKit Tk Sx

def ats (l : List At) : List Value := l.flatMap atCells
theorem ats_snoc (l : List At) (a : At) : ats (l ++ [a]) = ats l ++ atCells a := by simp [ats]
theorem at_one (a : At) : ∀ u ∈ atCells a, u.oneCell' = true := by
  intro u hu
  simp only [atCells, List.mem_cons, List.not_mem_nil, or_false] at hu
  rcases hu with rfl | rfl | rfl <;> rfl
section
variable {B P : Nat} {w w1 w' : World} {p : Bs} {v : Bv}
/-- A row has grown that is none of the parse's. -/
theorem PB.kept {row : Option Nat} (h : PB B P w p v) (hg : w.grownBy w' row) (hr : ∀ k, row = some k → ∀ t ∈ [52, 77, 97, 39, 47, 41], ¬ IsT w k t) : PB B P w' p v := by
  have hb : ∀ {k t : Nat}, IsT w k t → t ∈ [52, 77, 97, 39, 47, 41] → w'.heap[k]? = w.heap[k]? := fun {k t} hk ht => hg.block k hk.lt fun e => hr k e.symm t ht hk
  have ho : ∀ {e size n : Nat} {u : Value} {xs : List Value}, w.ownsRow B e size u n xs → e ∈ [52, 77, 97, 39, 47, 41] → w'.ownsRow B e size u n xs := fun {e size n u xs} hw he => hw.kept hg (by
    cases hv : u.ownBlock with
    | none => exact .inl rfl
    | some k => exact .inr fun e1 => hr k e1.symm e he (own_isT hw k hv).2)
  refine ⟨(hb h.blk.isT (by simp)).trans h.blk, h.bp, ho h.o (by simp), ho h.s (by simp), ho h.e (by simp), ho h.r (by simp), h.ev, fun x hx => ?_⟩
  have hi := h.inn x hx
  have sa : ∀ a, x.A = some a → w'.heap[a.block]? = w.heap[a.block]? := fun a ha => hb (hi.ta a ha) (by simp)
  exact ⟨hi.a.same sa hg.size, hi.va, hi.ta.same sa⟩
theorem BMov.grownN {row : Option Nat} (h : BMov B P w w1) (hg : w1.grownBy w' row) (hr : ∀ k, row = some k → w.heap.size ≤ k) : BMov B P w w' :=
  ⟨hg.os.trans h.os, hg.tape.trans h.tape, hg.output.trans h.output, Nat.le_trans h.size hg.size, fun k hk hP hn => (hg.block k (Nat.lt_of_lt_of_le hk h.size) (fun e => by have := hr k e.symm; omega)).trans (h.block k hk hP hn)⟩
theorem BMov.own {t b e size n : Nat} {u : Value} {xs : List Value} {cs : Array Value} (h : BMov B P w w') (ho : w.ownsRow b e size u n xs) (hP : Blk w P t cs) (h1 : e ≠ t) (h2 : e ≠ 77 ∧ e ≠ 97 ∧ e ≠ 39 ∧ e ≠ 47) : w'.ownsRow b e size u n xs := by
  refine ⟨ho.1, ?_⟩
  rcases ho.2 with h0 | ⟨g, cap, cur, q1, q2, hg, q3⟩
  · exact .inl h0
  · exact .inr ⟨g, cap, cur, q1, q2, (h.block g (Array.getElem?_eq_some_iff.1 hg).1 (fun e1 => by subst e1; exact isT_ne ⟨cur, _, hg⟩ hP.isT h1) (fun hh => by
      rcases hh.2 with h3 | h3 | h3 | h3
      · exact isT_ne ⟨cur, _, hg⟩ h3 h2.1
      · exact isT_ne ⟨cur, _, hg⟩ h3 h2.2.1
      · exact isT_ne ⟨cur, _, hg⟩ h3 h2.2.2.1
      · exact isT_ne ⟨cur, _, hg⟩ h3 h2.2.2.2)).trans hg, q3⟩
end
/-- What tag leaves. -/
def TagR (B P : Nat) (w : World) (r : List At × Bool × Bs) (e : Ending) (w' : World) : Prop :=
  ∃ A c v, e = .returned (.tuple #[.slice A r.1.length c, .bool r.2.1]) ∧ RMov B P w w' ∧ PB B P w' r.2.2 v ∧ w'.ownsRow w.heap.size 96 3 (.slice A r.1.length c) r.1.length (ats r.1)
theorem tagR_end {B P n c : Nat} {w w' : World} {A : Option Addr} {acc : List At} {b : Bool} {q : Bs} {v : Bv} {R : List At × Bool × Bs} (hN : acc.length = n) (hm : RMov B P w w') (hp : PB B P w' q v) (ho : w'.ownsRow w.heap.size 96 3 (.slice A n c) n (ats acc)) (hR : (acc, b, q) = R) :
    TagR B P w R (.returned (.tuple #[.slice A n c, .bool b])) w' := by
  subst hN hR
  exact ⟨A, c, v, rfl, hm, hp, ho⟩
theorem tag_nil {a f : Nat} {acc : List At} {p : Bs} (h : (Bz.untilB Bz.solid p).l = []) : Bz.tag a (f + 1) acc p = (acc, false, Bz.mend 14 a (Bz.untilB Bz.solid p)) := by
  rw [Bz.tag]; simp only [h]
theorem tag_cons {a f : Nat} {acc : List At} {p : Bs} {c : UInt8} {r : L} (h : (Bz.untilB Bz.solid p).l = c :: r) : Bz.tag a (f + 1) acc p =
    if c = 60 then (acc, false, Bz.mend 14 a (Bz.untilB Bz.solid p)) else if c = 62 then (acc, false, Bz.cutB 1 (Bz.untilB Bz.solid p)) else if ([47, 62] : L).isPrefixOf (c :: r) then (acc, true, Bz.cutB 2 (Bz.untilB Bz.solid p))
    else if 0 < take (c :: r) then Bz.tag a f (acc ++ [(Bz.attrB (take (c :: r)) (Bz.untilB Bz.solid p)).1]) (Bz.attrB (take (c :: r)) (Bz.untilB Bz.solid p)).2
    else Bz.tag a f acc (Bz.cutB (Bz.oneB (c :: r)) (Bz.mend 8 (Bz.untilB Bz.solid p).at_ (Bz.untilB Bz.solid p))) := by
  rw [Bz.tag]; simp only [h]
set_option maxRecDepth 100000 in
set_option maxHeartbeats 16000000 in
theorem btag_any (B P : Nat) (w : World) (p : Bs) (v : Bv) (a : Nat) (h : PB B P w p v) (hd : Gd B w) (hl : p.at_ + p.l.length ≤ 90000) (hn : p.rs.length + 6 * p.l.length ≤ 500000000) :
    Calls Try.prog 55 #[.pointer (some ⟨P, 0, none⟩), .int .i64 (a : Int)] w (TagR B P w (Bz.tag a (p.l.length + 1) [] p)) := by
  have H := hide h
  have HD := hide hd
  obtain ⟨R, hR⟩ : ∃ R, Bz.tag a (p.l.length + 1) [] p = R := ⟨_, rfl⟩
  rw [hR]
  obtain ⟨L0, hL0⟩ : ∃ L0, p.l.length = L0 := ⟨_, rfl⟩
  rw [hL0] at hR hl hn
  have HR := hide hR
  have Hl := hide hl
  have Hn := hide hn
  have HL0 := hide hL0
  clear h hd hR hl hn hL0
  go_enter Try.func55, Try.ntmps55
  go_wp2
  go_loopg [4] (L0 + 1) (fun gk va wr => ∃ (f : Nat) (acc : List At) (q : Bs) (vq : Bv) (A : Option Addr) (c : Nat), gk = f ∧ va = .slice A acc.length c ∧ PB B P wr q vq ∧ RMov B P w wr ∧ wr.ownsRow w.heap.size 96 3 (.slice A acc.length c) acc.length (ats acc) ∧
    Bz.tag a f acc q = R ∧ q.l.length < f ∧ q.at_ + q.l.length = p.at_ + L0 ∧ q.rs.length + 6 * q.l.length ≤ p.rs.length + 6 * L0 ∧ acc.length + q.l.length ≤ L0)
  case atStart => exact ⟨L0 + 1, [], p, v, none, 0, rfl, rfl, H.out, .refl B P w, World.ownsRow_nil _ _ _ _, HR.out, by rw [HL0.out]; omega, by rw [HL0.out], by rw [HL0.out]; exact Nat.le_refl _, by rw [HL0.out]; simp⟩
  case round =>
    obtain ⟨f, acc, q, vq, A, c, hgk, rfl, hq, hm, ho, ht, hf, hat, hrs, hac⟩ := hrel
    have Hg := hide hgk
    have Hq := hide hq
    have Hm := hide hm
    have Ho := hide ho
    obtain ⟨f, rfl⟩ : ∃ g, f = g + 1 := ⟨f - 1, by omega⟩
    obtain ⟨u1, u2, u3⟩ := Bz.len_until Bz.solid q
    have HU := hide (buntil_solidM B P wr q vq hq (by have := Hl.out; omega))
    have Hcons := hide (fun c r => tag_cons (a := a) (f := f) (acc := acc) (p := q) (c := c) (r := r))
    have Hnil := hide (tag_nil (a := a) (f := f) (acc := acc) (p := q))
    obtain ⟨q1, hq1⟩ : ∃ x, Bz.untilB Bz.solid q = x := ⟨_, rfl⟩
    rw [hq1] at u1 u2 u3 HU Hcons Hnil
    have Hb := hide (show q1.at_ + q1.l.length = p.at_ + L0 ∧ q1.rs.length + 6 * q1.l.length ≤ p.rs.length + 6 * L0 ∧ acc.length + q1.l.length ≤ L0 ∧ q1.l.length < f + 1 by rw [u3]; omega)
    have Hl1 := hide (show q1.at_ + q1.l.length ≤ 1000000000 by have := Hl.out; omega)
    obtain ⟨n, hnn⟩ : ∃ n, acc.length = n := ⟨_, rfl⟩
    rw [hnn] at Ho
    rw [hnn]
    have HN := hide hnn
    clear hgk hq hm ho hf hat hrs hac u1 u2 u3 hq1 hnn
    obtain ⟨D, hD⟩ : ∃ D, q1.l = D := ⟨_, rfl⟩
    have HDD := hide hD
    have hDl : D.length ≤ 90000 := by rw [← hD]; have := Hb.out; have := Hl.out; omega
    have HTk := hide (fun W => take_any (bstr D) W (by rw [bstr_size]; omega))
    rw [bstr_list] at HTk
    have hs : (bstr D).size = D.length := bstr_size D
    have z0e : ∀ (W : World) (vx : Bv), PB B P W q1 vx → W.cell? ⟨P, 0, none⟩ = some (.string (bstr D)) := fun W vx hx => by rw [← hD]; exact hx.cell.1
    have HZ := hide z0e
    clear z0e
    cases D with
    | nil =>
      have hS := Hnil.out hD
      rw [ht] at hS
      have HS := hide hS.symm
      have hemp2 : (bstr ([] : L)).toList.isEmpty = true := by rw [ByteArray.toList_eq, bstr_list]; rfl
      have hempt : ((bstr ([] : L)).toList == ([] : L)) = true := lit_eq (bstr []) []
      generalize take ([] : L) = tn at *
      clear hS hD ht hs hDl
      go_wp2_with fail
      refine HU.out.mono ?_
      rintro e w1 ⟨rfl, m1, v1, p1⟩
      have M1 := hide m1; have P1 := hide p1; clear m1 p1
      have z0 := HZ.out _ _ P1.out
      go_wp2_with fail
      refine (HTk.out _).mono ?_
      rintro e w2 ⟨rfl, b2⟩
      have P2 := hide (P1.out.go b2)
      have M2 := hide ((Hm.out.trans M1.out).go b2)
      have B2 := hide b2
      clear b2
      have z2 := HZ.out _ _ P2.out
      go_wp2_with fail
      refine (bmend_m B P w2 q1 v1 14 a P2.out (Nat.le_trans HD.out.hB M2.out.size) (by have := Hb.out; have := Hn.out; omega)).mono ?_
      rintro e w3 ⟨rfl, m3, v3, p3⟩
      have M3 := hide m3; have P3 := hide p3; clear m3 p3
      have O3 := hide (M3.out.bmov.own (own_go (M1.out.bmov.own Ho.out Hq.out.blk (by decide) (by decide)) B2.out) P2.out.blk (by decide) (by decide))
      go_wp2
      go_ret2
      exact tagR_end HN.out (M2.out.trans M3.out) P3.out O3.out HS.out
    | cons ch r =>
      have hS := Hcons.out ch r hD
      rw [ht] at hS
      have hemp2 : (bstr (ch :: r : L)).toList.isEmpty = false := by rw [ByteArray.toList_eq, bstr_list]; rfl
      have hempt : ((bstr (ch :: r : L)).toList == ([] : L)) = false := lit_eq (bstr (ch :: r)) []
      have hix : ∀ w, (Instr.index 9 (.string (bstr (ch :: r))) (.int .i64 0)).run Try.prog w = .ok (.int .u8 (ch.toNat : Nat)) w := fun w => by have h := idx_run (bstr (ch :: r)) 0 ch (by rw [bstr_list]; rfl) w; exact h
      have HPx := hide (fun W => bpre_any (ch :: r) [47, 62] W)
      have HNx := hide (fun W => pnext_any (bstr (ch :: r)) 0 W (by rw [hs, List.length_cons]; omega) (by rw [hs]; omega))
      rw [bstr_list, List.drop_zero] at HNx
      have Hone := hide (Bz.one_le (l := ch :: r) (by simp))
      have htle := take_le (ch :: r)
      have Hlen := hide hDl
      have Htle := hide htle
      obtain ⟨tn, htn⟩ : ∃ tn, take (ch :: r : L) = tn := ⟨_, rfl⟩
      rw [htn] at HTk hS Htle
      have HS0 := hide hS
      clear ht hs htle hD htn hDl hS
      go_wp2_with fail
      refine HU.out.mono ?_
      rintro e w1 ⟨rfl, m1, v1, p1⟩
      have M1 := hide m1; have P1 := hide p1; clear m1 p1
      have z0 := HZ.out _ _ P1.out
      go_wp2_with fail
      refine (HTk.out _).mono ?_
      rintro e w2 ⟨rfl, b2⟩
      have P2 := hide (P1.out.go b2)
      have M2 := hide ((Hm.out.trans M1.out).go b2)
      have O2 := hide (own_go (M1.out.bmov.own Ho.out Hq.out.blk (by decide) (by decide)) b2)
      clear b2 z0
      have z2 := HZ.out _ _ P2.out
      have HBw := hide (Nat.le_trans HD.out.hB M2.out.size)
      have hS := HS0.out.symm
      have e60 : ((ch.toNat : Int) == 60) = decide (ch = 60) := by rw [show (60 : Int) = ((60 : UInt8).toNat : Int) from rfl, eq_u8, Bool.eq_iff_iff]; simp
      have e62 : ((ch.toNat : Int) == 62) = decide (ch = 62) := by rw [show (62 : Int) = ((62 : UInt8).toNat : Int) from rfl, eq_u8, Bool.eq_iff_iff]; simp
      by_cases h60 : ch = 60
      · rw [if_pos h60] at hS
        have HS := hide hS
        subst h60
        replace hix : ∀ w, (Instr.index 9 (.string (bstr (60 :: r))) (.int .i64 0)).run Try.prog w = .ok (.int .u8 60) w := hix
        clear e60 e62 hS
        go_wp2_with fail
        refine (bmend_m B P w2 q1 v1 14 a P2.out HBw.out (by have := Hb.out; have := Hn.out; omega)).mono ?_
        rintro e w3 ⟨rfl, m3, v3, p3⟩
        have M3 := hide m3; have P3 := hide p3; clear m3 p3
        have O3 := hide (M3.out.bmov.own O2.out P2.out.blk (by decide) (by decide))
        go_wp2
        go_ret2
        exact tagR_end HN.out (M2.out.trans M3.out) P3.out O3.out HS.out
      rw [if_neg h60] at hS
      rw [decide_eq_false h60] at e60
      have n60 : ¬ (ch.toNat : Int) = 60 := by simpa using e60
      have m60 : ¬ ch.toNat = 60 := by omega
      by_cases h62 : ch = 62
      · rw [if_pos h62] at hS
        have HS := hide hS
        subst h62
        replace hix : ∀ w, (Instr.index 9 (.string (bstr (62 :: r))) (.int .i64 0)).run Try.prog w = .ok (.int .u8 62) w := hix
        clear e60 e62 hS n60 m60 h60
        go_wp2_with fail
        refine (btake_m B P w2 q1 v1 1 P2.out (by rw [HDD.out, List.length_cons]; omega) Hl1.out).mono ?_
        rintro e w3 ⟨rfl, m3, v3, p3⟩
        have M3 := hide m3; have P3 := hide p3; clear m3 p3
        have O3 := hide (M3.out.bmov.own O2.out P2.out.blk (by decide) (by decide))
        go_wp2
        go_ret2
        exact tagR_end HN.out (M2.out.trans M3.out) P3.out O3.out HS.out
      rw [if_neg h62] at hS
      rw [decide_eq_false h62] at e62
      have n62 : ¬ (ch.toNat : Int) = 62 := by simpa using e62
      have m62 : ¬ ch.toNat = 62 := by omega
      obtain ⟨bx, hbx⟩ : ∃ bx, ([47, 62] : L).isPrefixOf (ch :: r) = bx := ⟨_, rfl⟩
      rw [hbx] at HPx hS
      have Hbx := hide hbx
      clear h60 h62 hbx
      cases bx with
      | true =>
        rw [if_pos rfl] at hS
        have HS := hide hS
        clear hS
        go_wp2_with fail
        refine cq (HPx.out _) ?_
        go_wp2_with fail
        refine (btake_m B P w2 q1 v1 2 P2.out (by rw [HDD.out]; exact (List.isPrefixOf_iff_prefix.1 Hbx.out).length_le) Hl1.out).mono ?_
        rintro e w3 ⟨rfl, m3, v3, p3⟩
        have M3 := hide m3; have P3 := hide p3; clear m3 p3
        have O3 := hide (M3.out.bmov.own O2.out P2.out.blk (by decide) (by decide))
        go_wp2
        go_ret2
        exact tagR_end HN.out (M2.out.trans M3.out) P3.out O3.out HS.out
      | false =>
        rw [if_neg (by simp)] at hS
        by_cases ht0 : 0 < tn
        · rw [if_pos ht0] at hS
          have HS := hide hS
          have hgt : decide ((0 : Int) < (tn : Int)) = true := decide_eq_true (by omega)
          have Ht0 := hide ht0
          have hla := Bz.len_attr (n := tn) (p := q1) (by rw [HDD.out]; exact Htle.out)
          have Hla := hide hla
          clear hS ht0 hla
          go_wp2_with fail
          refine cq (HPx.out _) ?_
          go_wp2_with fail
          refine (battr_m B P w2 q1 v1 tn P2.out (HD.out.bmov M2.out.bmov H.out.bp) (by have := Hb.out; have := Hl.out; omega) (by have := Hb.out; have := Hn.out; omega) (by rw [HDD.out]; exact Htle.out)).mono ?_
          rintro e w3 ⟨rfl, m3, v3, p3⟩
          have M3 := hide m3; have P3 := hide p3; clear m3 p3
          have O3 := hide (M3.out.bmov.own O2.out P2.out.blk (by decide) (by decide))
          have MM3 := hide (M2.out.trans M3.out)
          obtain ⟨y, hy⟩ : ∃ y, Bz.attrB tn q1 = y := ⟨_, rfl⟩
          rw [hy] at P3 HS Hla ⊢
          obtain ⟨x, q3⟩ := y
          unfold atV
          dsimp only at P3 HS Hla ⊢
          have KX := hide (Blk.new w3 96 (atCells x).toArray)
          have hn9 : n ≤ 90000 := by have := HN.out; have := Hb.out; have := Hl.out; omega
          clear hy z2
          go_wp2_with (at_builtin; go_loud (refine wpList_append_elem_at (w3.alloc (.cells (atCells x).toArray 96)) (by rfl) (.tmp 76) (.tmp 80) 91 (by rfl) w.heap.size 96 _ 3 40 Try.underlying91 info_batr (by rfl) (by omega) (.slice A n c) n (ats acc) (by rfl) (O3.out.alloc _) (atCells x) (by rfl) (at_one _) w3.heap.size KX.out (by rfl) (by unfold maxLen; omega) (by omega) (by have := MM3.out.size; simp; omega) ?_); intro g8 cap8 w8 hown8 hgrow8 hlt8; have HO8 := hide hown8; have HG8 := hide hgrow8; clear hown8 hgrow8 hlt8)
          go_roundg f
          case measure => have := Hg.out; omega
          case rel =>
            have hrow := fun j hj => own_isT (O3.out.alloc (.cells (atCells x).toArray 96)) j hj
            obtain ⟨l1, l2, l3, -, -⟩ := Hla.out
            have hb := Hb.out
            have ht1 := Ht0.out
            refine ⟨f, acc ++ [x], q3, v3, some ⟨g8, 0, none⟩, cap8, rfl, by rw [List.length_append, HN.out]; rfl, (P3.out.go (below_alloc _ _)).kept HG8.out (fun j hj t' ht' hT => isT_ne (hrow j hj).2 hT (by intro e; subst e; revert ht'; decide)), (MM3.out.alloc _).grownN HG8.out (fun j hj => (hrow j hj).1), ?_, HS.out, by omega, by omega, by omega, by rw [List.length_append]; simp; omega⟩
            rw [ats_snoc, List.length_append, HN.out]
            exact HO8.out
        · rw [if_neg ht0] at hS
          have HS := hide hS
          have hz0 : tn = 0 := by omega
          have x1 := P2.out.cell.2.1
          clear hS ht0
          subst hz0
          go_wp2_with fail
          refine cq (HPx.out _) ?_
          go_wp2_with fail
          refine (bmend_m B P w2 q1 v1 8 q1.at_ P2.out HBw.out (by have := Hb.out; have := Hn.out; omega)).mono ?_
          rintro e w3 ⟨rfl, m3, v3, p3⟩
          have M3 := hide m3; have P3 := hide p3; clear m3 p3
          have z3 : w3.cell? ⟨P, 0, none⟩ = some (.string (bstr (ch :: r))) := by rw [← HDD.out]; exact P3.out.cell.1
          have O3 := hide (M3.out.bmov.own O2.out P2.out.blk (by decide) (by decide))
          clear x1 z2
          unfold nextV at HNx
          unfold Bz.oneB at HS Hone
          generalize Utf.piece (ch :: r) = y at *
          obtain ⟨y1, y2⟩ := y
          dsimp only at HNx HS Hone
          by_cases hy : y1 < 0
          · rw [if_pos hy] at HNx
            rw [if_neg (by omega)] at HS
            clear hy
            go_wp2_with fail
            refine cq (HNx.out _) ?_
            go_wp2_with fail
            refine (btake_m B P w3 _ v3 1 P3.out (by show 1 ≤ q1.l.length; rw [HDD.out, List.length_cons]; omega) Hl1.out).mono ?_
            rintro e w4 ⟨rfl, m4, v4, p4⟩
            have M4 := hide m4; have P4 := hide p4; clear m4 p4
            have O4 := hide (M4.out.bmov.own O3.out P3.out.blk (by decide) (by decide))
            go_wp2
            go_roundg f
            case measure => have := Hg.out; omega
            case rel =>
              have hb := Hb.out
              have e1 : 1 ≤ q1.l.length := by rw [HDD.out, List.length_cons]; omega
              have hc := Bz.len_cut (n := 1) (p := Bz.mend 8 q1.at_ q1) e1
              have e2 : (Bz.cutB 1 (Bz.mend 8 q1.at_ q1)).rs.length = q1.rs.length + 1 := Bz.mend_rs _ _ _
              have e3 : (Bz.mend 8 q1.at_ q1).l.length = q1.l.length := rfl
              have e4 : (Bz.mend 8 q1.at_ q1).at_ = q1.at_ := rfl
              exact ⟨f, acc, _, v4, A, c, rfl, by rw [HN.out], P4.out, (M2.out.trans M3.out).trans M4.out, by rw [HN.out]; exact O4.out, HS.out, by omega, by omega, by omega, by omega⟩
          · rw [if_neg hy] at HNx
            rw [if_pos (by omega)] at HS Hone
            obtain ⟨yn, hyn⟩ : ∃ yn : Nat, max y2.toNat 1 = yn := ⟨_, rfl⟩
            rw [hyn] at HS Hone
            have hmx : max y2 1 = (yn : Int) := by omega
            clear hy hyn
            go_wp2_with fail
            refine cq (HNx.out _) ?_
            go_wp2_with fail
            refine (btake_m B P w3 _ v3 yn P3.out (by show yn ≤ q1.l.length; rw [HDD.out]; exact Hone.out.2) Hl1.out).mono ?_
            rintro e w4 ⟨rfl, m4, v4, p4⟩
            have M4 := hide m4; have P4 := hide p4; clear m4 p4
            have O4 := hide (M4.out.bmov.own O3.out P3.out.blk (by decide) (by decide))
            go_wp2
            go_roundg f
            case measure => have := Hg.out; omega
            case rel =>
              have hb := Hb.out
              have ho := Hone.out
              have e1 : yn ≤ q1.l.length := by rw [HDD.out]; exact ho.2
              have hc := Bz.len_cut (n := yn) (p := Bz.mend 8 q1.at_ q1) e1
              have e2 : (Bz.cutB yn (Bz.mend 8 q1.at_ q1)).rs.length = q1.rs.length + 1 := Bz.mend_rs _ _ _
              have e3 : (Bz.mend 8 q1.at_ q1).l.length = q1.l.length := rfl
              have e4 : (Bz.mend 8 q1.at_ q1).at_ = q1.at_ := rfl
              exact ⟨f, acc, _, v4, A, c, rfl, by rw [HN.out], P4.out, (M2.out.trans M3.out).trans M4.out, by rw [HN.out]; exact O4.out, HS.out, by omega, by omega, by omega, by omega⟩
end Go.Proofs.Ytaickkaoglohgaa
namespace Go.Proofs.Ytaickkaoglohgaa
open Go.RowKit Tk Sx

/-- Where once stands behind k attributes. -/
def OnceI (l : List At) (p : Bs) (k : Nat) (acc : List At) (q : Bs) : Prop :=
  Bz.once [] l p = (acc ++ (Bz.once (acc.map (·.name)) (l.drop k) q).1, (Bz.once (acc.map (·.name)) (l.drop k) q).2) ∧ (∀ nm, nm ∈ acc.map (·.name) ↔ nm ∈ (l.take k).map (·.name)) ∧ q.rs.length ≤ p.rs.length + k ∧ acc.length ≤ k ∧ q.st = p.st
theorem onceI_zero (l : List At) (p : Bs) : OnceI l p 0 [] p := ⟨by simp, by simp, Nat.le_refl _, Nat.le_refl _, rfl⟩
theorem onceI_dup {l : List At} {p q : Bs} {k : Nat} {acc : List At} {x : At} (h : OnceI l p k acc q) (hx : l[k]? = some x) (hm : x.name ∈ (l.take k).map (·.name)) : OnceI l p (k + 1) acc (Bz.mend 9 x.at_ q) := by
  obtain ⟨h1, h2, h3, h4, h5⟩ := h
  obtain ⟨hk, hxe⟩ := List.getElem?_eq_some_iff.1 hx
  have hts : l.take (k + 1) = l.take k ++ [x] := by rw [List.take_succ_eq_append_getElem hk, hxe]
  refine ⟨?_, fun nm => ?_, ?_, by omega, h5⟩
  · rw [h1, List.drop_eq_getElem_cons hk, hxe, Bz.once, if_pos ((h2 _).2 hm)]
  · rw [hts, List.map_append, List.mem_append, h2]
    constructor
    · exact .inl
    · rintro (h | h)
      · exact h
      · rw [List.map_singleton, List.mem_singleton] at h; rw [h]; exact hm
  · rw [Bz.mend_rs]; omega
theorem onceI_new {l : List At} {p q : Bs} {k : Nat} {acc : List At} {x : At} (h : OnceI l p k acc q) (hx : l[k]? = some x) (hm : x.name ∉ (l.take k).map (·.name)) : OnceI l p (k + 1) (acc ++ [x]) q := by
  obtain ⟨h1, h2, h3, h4, h5⟩ := h
  obtain ⟨hk, hxe⟩ := List.getElem?_eq_some_iff.1 hx
  have hts : l.take (k + 1) = l.take k ++ [x] := by rw [List.take_succ_eq_append_getElem hk, hxe]
  refine ⟨?_, fun nm => ?_, by omega, by rw [List.length_append]; simp; omega, h5⟩
  · rw [h1, List.drop_eq_getElem_cons hk, hxe, Bz.once, if_neg (fun h => hm ((h2 _).1 h)), List.map_append, List.append_assoc]
    rfl
  · rw [hts, List.map_append, List.map_append, List.mem_append, List.mem_append, h2]
theorem onceI_end {l : List At} {p q : Bs} {acc : List At} (h : OnceI l p l.length acc q) : Bz.once [] l p = (acc, q) := by
  rw [h.1, List.drop_length, Bz.once, List.append_nil]
theorem Cnt.bmov {B P t : Nat} {w w' : World} {b n : Nat} {seen : List L} {D : DataW Unit} {cs : Array Value} (h : Cnt w b n seen D) (hm : BMov B P w w') (hP : Blk w P t cs) : Cnt w' b n seen D := by
  obtain ⟨es, cl, hb⟩ := h.block
  refine ⟨map_same h.own (hm.block _ h.own.lt (fun e => not_isT_map hb (e ▸ hP.isT)) fun hh => ?_), h.is, h.at_⟩
  rcases hh.2 with h2 | h2 | h2 | h2 <;> exact not_isT_map hb h2
theorem at_cellsB {w : World} {B t g c n m : Nat} {l : List At} {x : At} (h : w.ownsRow B t 3 (.slice (some ⟨g, 0, none⟩) n c) n (ats l)) (hn : l.length = n) (hx : l[m]? = some x) : ∀ j, j < 3 → w.cell? ⟨g, m * 3 + j, none⟩ = (atCells x)[j]? := fun j hj => by
  obtain ⟨h1, h2⟩ := List.getElem?_eq_some_iff.1 hx
  rw [h.cellAt (m * 3 + j) (by omega)]
  unfold ats
  rw [fm_at (m := 3) (fun _ => rfl) l m h1 j hj, h2]
/-- What once leaves. -/
def OnceR (B P : Nat) (w : World) (r : List At × Bs) (e : Ending) (w' : World) : Prop :=
  ∃ A c v, e = .returned (.slice A r.1.length c) ∧ RMov B P w w' ∧ PB B P w' r.2 v ∧ w'.ownsRow w.heap.size 96 3 (.slice A r.1.length c) r.1.length (ats r.1)

set_option maxRecDepth 100000 in
set_option maxHeartbeats 32000000 in
theorem bonce_any (B P base : Nat) (w : World) (p : Bs) (v : Bv) (l : List At) (Al : Option Addr) (cl : Nat) (h : PB B P w p v) (hd : Gd B w) (hl : w.ownsRow base 96 3 (.slice Al l.length cl) l.length (ats l)) (hn : l.length ≤ 100000) (hr : p.rs.length ≤ 600000000) (hv : ∀ x ∈ l, x.name.length ≤ 1000000000) :
    Calls Try.prog 56 #[.pointer (some ⟨P, 0, none⟩), .slice Al l.length cl] w (OnceR B P w (Bz.once [] l p)) := by
  have H := hide h
  have HD := hide hd
  have Hl := hide hl
  have Hv := hide hv
  have Hr := hide hr
  obtain ⟨R, hR⟩ : ∃ R, Bz.once [] l p = R := ⟨_, rfl⟩
  rw [hR]
  have HR := hide hR
  obtain ⟨n, hnn⟩ : ∃ n, l.length = n := ⟨_, rfl⟩
  rw [hnn] at hn Hl ⊢
  have HN := hide hnn
  have hmm := @run_makeMap Try.prog
  have C0 := hide (cnt_nil w)
  have I1 := hide (h.go (below_alloc w (.map #[] 0)))
  have B1 := hide (RMov.of_below (B := B) (P := P) (below_alloc w (.map #[] 0)))
  obtain ⟨Mb, hMb⟩ : ∃ Mb, w.heap.size = Mb := ⟨_, rfl⟩
  have HMe := hide hMb
  rw [hMb] at C0
  clear h hd hl hnn hv hr hMb hR
  go_enter Try.func56, Try.ntmps56
  go_wp2
  rw [HMe.out]
  clear hmm
  go_loopg [11, 4] n (fun gk vk vl wr => ∃ (k : Nat) (acc : List At) (q : Bs) (vq : Bv) (A : Option Addr) (c : Nat) (D : DataW Unit), gk = n - k ∧ k ≤ n ∧ vk = .int .i64 (k : Int) ∧ vl = .slice A acc.length c ∧ PB B P wr q vq ∧ RMov B P w wr ∧
    wr.ownsRow w.heap.size 96 3 (.slice A acc.length c) acc.length (ats acc) ∧ Cnt wr Mb k ((l.take k).map (·.name)) D ∧ OnceI l p k acc q)
  case atStart => exact ⟨0, [], p, v, none, 0, _, rfl, by omega, rfl, rfl, I1.out, B1.out, World.ownsRow_nil _ _ _ _, C0.out, onceI_zero l p⟩
  case round =>
    obtain ⟨k, acc, q, vq, A, c, D, hgk, hk, rfl, rfl, h1, h2, h3, h4, h5⟩ := hrel
    have Hg := hide hgk
    have H1 := hide h1
    have H2 := hide h2
    have H3 := hide h3
    have H4 := hide h4
    have H5 := hide h5
    clear hgk h1 h2 h3 h4 h5 C0 I1 B1
    obtain ⟨m, hm⟩ : ∃ m, acc.length = m := ⟨_, rfl⟩
    rw [hm] at H3 ⊢
    have Hm := hide hm
    clear hm
    by_cases hlt : k < n
    · obtain ⟨x, hx⟩ : ∃ x, l[k]? = some x := ⟨_, List.getElem?_eq_getElem (by rw [HN.out]; exact hlt)⟩
      have Ol := H2.out.bmov.own Hl.out H.out.blk (by decide) (by decide)
      obtain ⟨lg, lc, hlv, hlb, hll⟩ := Ol.form (by omega)
      have hAl : Al = some ⟨lg, 0, none⟩ := by injection hlv
      subst hAl
      have hce := at_cellsB Ol HN.out hx
      have y0 : wr.cell? ⟨lg, k * 3, none⟩ = some (.string (bstr x.name)) := hce 0 (by omega)
      have y1 : wr.cell? ⟨lg, k * 3 + 1, none⟩ = some (.string (bstr x.value)) := hce 1 (by omega)
      have y2 : wr.cell? ⟨lg, k * 3 + 2, none⟩ = some (.int .i64 (x.at_ : Int)) := hce 2 (by omega)
      have hwk : IntKind.i64.wrap ((k : Int) + 1) = (k : Int) + 1 := IntWalk.i64_in _ (by omega)
      have Hdup := hide (fun hm => onceI_dup H5.out hx hm)
      have Hnew := hide (fun hm => onceI_new H5.out hx hm)
      have hts : (l.take (k + 1)).map (·.name) = (l.take k).map (·.name) ++ [x.name] := by
        obtain ⟨q1, q2⟩ := List.getElem?_eq_some_iff.1 hx
        rw [List.take_succ_eq_append_getElem q1, q2, List.map_append]; rfl
      have Hts := hide hts
      have HKn := hide (show x.name.length ≤ 1000000000 from Hv.out x (List.mem_of_getElem? hx))
      have hkey : keyOf Try.prog 9 (.string (bstr x.name)) = some (.string x.name) := WideMaps.keyOf_string_mk Try.underlying9 (by rw [bstr_size]; have := HKn.out; unfold maxLen; omega)
      have HK := hide hkey
      have Hq := hide (show ((l.take k).map (·.name)).count x.name ≤ k from Nat.le_trans List.count_le_length (by rw [List.length_map, List.length_take]; omega))
      have Hqm := hide (show ((l.take k).map (·.name)).count x.name = 0 ↔ x.name ∉ (l.take k).map (·.name) from List.count_eq_zero)
      have Hqs := hide (show (((l.take k).map (·.name)) ++ [x.name]).count x.name = ((l.take k).map (·.name)).count x.name + 1 by rw [List.count_append, List.count_singleton, beq_self_eq_true]; rfl)
      have Hrs := hide (show q.rs.length ≤ 600100000 by have := H5.out.2.2.1; have := Hr.out; omega)
      have Hml := hide (show m ≤ k by rw [← Hm.out]; exact H5.out.2.2.2.1)
      obtain ⟨seen, hseen⟩ : ∃ seen, (l.take k).map (·.name) = seen := ⟨_, rfl⟩
      rw [hseen] at Hdup Hnew Hts Hq Hqm Hqs H4
      obtain ⟨z, hz⟩ : ∃ z, seen.count x.name = z := ⟨_, rfl⟩
      rw [hz] at Hq Hqm Hqs
      have HZ := hide hz
      have hwz : IntKind.i64.wrap ((z : Int) + 1) = (z : Int) + 1 := IntWalk.i64_in _ (by have := Hq.out; omega)
      have HWF := hide (show (Lit.int .i64 ((z : Int) + 1)).wf = true from WalkArith.wf_i64 (by have := Hq.out; omega))
      have HkM := hide (show k < maxLen by unfold maxLen; omega)
      have ba := below_alloc wr (.cells #[.string (bstr x.name), .string (bstr x.value), .int .i64 (x.at_ : Int)] 96)
      have KX := Blk.new wr 96 #[.string (bstr x.name), .string (bstr x.value), .int .i64 (x.at_ : Int)]
      obtain ⟨W1, hW1⟩ : ∃ W1, wr.alloc (.cells #[.string (bstr x.name), .string (bstr x.value), .int .i64 (x.at_ : Int)] 96) = W1 := ⟨_, rfl⟩
      rw [hW1] at ba KX
      have hne : wr.heap.size ≠ Mb := by have := H4.out.own.lt; omega
      have HPX := hide (show P ≠ wr.heap.size by have := H1.out.blk.lt; omega)
      have C1 := hide (H4.out.go ba)
      have I1 := hide (H1.out.go ba)
      have M1 := hide (H2.out.go ba)
      have O1 := hide (own_go H3.out ba)
      have KX1 := hide KX
      have v0 := KX.cell 0
      have HwX := hide (show w.heap.size ≤ wr.heap.size from H2.out.size)
      have Hne := hide hne
      obtain ⟨X, hX⟩ : ∃ X, wr.heap.size = X := ⟨_, rfl⟩
      rw [hX] at KX1 v0 Hne HPX HwX
      clear ba KX hx hce Ol hlv hts hkey hseen hz hne
      by_cases hmem : x.name ∈ seen
      · have HI2 := hide (Hdup.out hmem)
        have hgt : decide ((1 : Int) < (z : Int) + 1) = true := by
          rw [decide_eq_true_iff]
          have : z ≠ 0 := fun e => Hqm.out.1 e hmem
          omega
        clear hmem
        go_wp2_with first
          | (at_lookup; refine wpList_lookup_wanted _ (by kernel_rfl) _ _ _ (by rfl) _ _ _ (by rfl) (by rfl) HRun.out ?_)
          | (at_lookup; refine wpList_lookup_own_int _ rfl _ _ 120 rfl 9 3 .i64 law_str Try.underlying120 Try.underlying3 (zero_int _) Mb k D rfl C1.out.own _ _ rfl HK.out ?_; intro c0 hat hwf0; clear hwf0; have hc0 := C1.out.is_r HZ.out hat; subst hc0; clear hat)
          | (at_mapUpdate; refine wpList_mapUpdate_own _ rfl _ _ _ 120 rfl 9 3 law_str Try.underlying120 _ Mb k D rfl C1.out.own HkM.out _ _ _ rfl rfl HK.out _ [] (plainElem_int Try.underlying3 HWF.out) ?_
             intro w5 hown5 hgrow5
             have C5 := hide (cnt_next C1.out HZ.out hown5)
             obtain ⟨es4, cl4, hes4⟩ := C1.out.block
             have I5 := hide (I1.out.kept hgrow5 (fun j hj t' _ => by cases hj; exact not_isT_map hes4))
             have O5 := hide (O1.out.kept hgrow5 (.inr (own_ne_map O1.out hes4)))
             have M5 := hide (M1.out.grownN hgrow5 (fun j hj => by cases hj; rw [HMe.out]; exact Nat.le_refl _))
             have KX5 := hide (KX1.out.grown hgrow5 (fun e => Hne.out (by injection e)))
             have v0' := KX5.out.cell 0
             have v1' := KX5.out.cell 1
             have v2' := KX5.out.cell 2
             obtain ⟨c1, hrun, hat, hwf1⟩ := C5.out.own.lookup_int law_str Try.underlying120 Try.underlying3 (zero_int _) HK.out
             have hc1 : c1 = ((z + 1 : Nat) : Int) := C5.out.is_r Hqs.out hat
             rw [show ((z + 1 : Nat) : Int) = (z : Int) + 1 by omega] at hc1
             subst hc1
             have HRun := hide hrun
             clear hwf1 hrun hat hown5 hgrow5 hes4 v0 hW1)
        refine (bmend_m B P w5 q vq 9 x.at_ I5.out (Nat.le_trans HD.out.hB M5.out.size) (by have := Hrs.out; omega)).mono ?_
        rintro e w6 ⟨rfl, m6, v6, p6⟩
        have M6 := hide m6
        have P6 := hide p6
        clear m6 p6
        have O6 := hide (M6.out.bmov.own O5.out I5.out.blk (by decide) (by decide))
        have C6 := hide (C5.out.bmov M6.out.bmov I5.out.blk)
        go_wp2
        go_roundg (n - (k + 1))
        case measure => have := Hg.out; omega
        case rel => exact ⟨k + 1, acc, _, v6, A, c, _, rfl, by omega, by first | rfl | go_num, by rw [Hm.out], P6.out, M5.out.trans M6.out, by rw [Hm.out]; exact O6.out, by rw [Hts.out]; exact C6.out, HI2.out⟩
      · have HI2 := hide (Hnew.out hmem)
        have hgt : decide ((1 : Int) < (z : Int) + 1) = false := by
          rw [decide_eq_false_iff_not]
          have := Hqm.out.2 hmem
          omega
        clear hmem
        go_wp2_with first
          | (at_lookup; refine wpList_lookup_wanted _ (by kernel_rfl) _ _ _ (by rfl) _ _ _ (by rfl) (by rfl) HRun.out ?_)
          | (at_lookup; refine wpList_lookup_own_int _ rfl _ _ 120 rfl 9 3 .i64 law_str Try.underlying120 Try.underlying3 (zero_int _) Mb k D rfl C1.out.own _ _ rfl HK.out ?_; intro c0 hat hwf0; clear hwf0; have hc0 := C1.out.is_r HZ.out hat; subst hc0; clear hat)
          | (at_mapUpdate; refine wpList_mapUpdate_own _ rfl _ _ _ 120 rfl 9 3 law_str Try.underlying120 _ Mb k D rfl C1.out.own HkM.out _ _ _ rfl rfl HK.out _ [] (plainElem_int Try.underlying3 HWF.out) ?_
             intro w5 hown5 hgrow5
             have C5 := hide (cnt_next C1.out HZ.out hown5)
             obtain ⟨es4, cl4, hes4⟩ := C1.out.block
             have I5 := hide (I1.out.kept hgrow5 (fun j hj t' _ => by cases hj; exact not_isT_map hes4))
             have O5 := hide (O1.out.kept hgrow5 (.inr (own_ne_map O1.out hes4)))
             have M5 := hide (M1.out.grownN hgrow5 (fun j hj => by cases hj; rw [HMe.out]; exact Nat.le_refl _))
             have KX5 := hide (KX1.out.grown hgrow5 (fun e => Hne.out (by injection e)))
             have v0' := KX5.out.cell 0
             have v1' := KX5.out.cell 1
             have v2' := KX5.out.cell 2
             obtain ⟨c1, hrun, hat, hwf1⟩ := C5.out.own.lookup_int law_str Try.underlying120 Try.underlying3 (zero_int _) HK.out
             have hc1 : c1 = ((z + 1 : Nat) : Int) := C5.out.is_r Hqs.out hat
             rw [show ((z + 1 : Nat) : Int) = (z : Int) + 1 by omega] at hc1
             subst hc1
             have HRun := hide hrun
             clear hwf1 hrun hat hown5 hgrow5 hes4 v0 hW1)
          | (at_builtin; go_loud (refine wpList_append_elem_at (w5.alloc (.cells (atCells x).toArray 96)) (by rfl) (.tmp 29) (.tmp 31) 91 (by rfl) w.heap.size 96 _ 3 40 Try.underlying91 info_batr (by rfl) (by omega) (.slice A m c) m (ats acc) (by rfl) (O5.out.alloc _) (atCells x) (by rfl) (at_one _) w5.heap.size (Blk.new w5 96 (atCells x).toArray) (by rfl) (by unfold maxLen; have := Hml.out; omega) (by have := Hml.out; omega) (by have := M5.out.size; simp; omega) ?_); intro g8 cap8 w8 hown8 hgrow8 hlt8; have HO8 := hide hown8; have HG8 := hide hgrow8; clear hown8 hgrow8 hlt8)
        go_roundg (n - (k + 1))
        case measure => have := Hg.out; omega
        case rel =>
          have BA := below_alloc w5 (.cells (atCells x).toArray 96)
          obtain ⟨es5, cl5, hes5⟩ := (Cnt.go C5.out BA).block
          have hrow := fun j hj => own_isT (O5.out.alloc (.cells (atCells x).toArray 96)) j hj
          refine ⟨k + 1, acc ++ [x], q, vq, some ⟨g8, 0, none⟩, cap8, D.put (.string x.name) (.lit (.int .i64 ((z : Int) + 1))), rfl, by omega, by first | rfl | go_num, by rw [List.length_append, Hm.out]; rfl, (I5.out.go BA).kept HG8.out (fun j hj t' ht' hT => isT_ne (hrow j hj).2 hT (by intro e; subst e; revert ht'; decide)), (M5.out.go BA).grownN HG8.out (fun j hj => (hrow j hj).1), ?_, ?_, HI2.out⟩
          · rw [ats_snoc, List.length_append, Hm.out]
            exact HO8.out
          · rw [Hts.out]
            exact (Cnt.go C5.out BA).kept HG8.out (fun e => not_isT_map hes5 (hrow Mb e.symm).2)
    · have hall : k = n := by omega
      subst hall
      have hE := H5.out
      rw [← HN.out] at hE
      have hE2 := onceI_end hE
      rw [HR.out] at hE2
      have HE := hide hE2
      clear hE hE2
      go_wp2
      go_ret
      rw [HE.out]
      exact ⟨A, c, vq, by rw [Hm.out]; rfl, H2.out, H1.out, by rw [Hm.out]; exact H3.out⟩
end Go.Proofs.Ytaickkaoglohgaa
