/- Bozo: Clean; the parser's clean. · References: a text's scalars, as the program's utf8.Scalars tells them. · References: what HTML calls so. -/
import Derived.Test.YtaickkaoglohgaaBv02
import Derived.Test.YtaickkaoglohgaaBv03
import Derived.Test.YtaickkaoglohgaaBv06
import Derived.Test.YtaickkaoglohgaaBv07
import Derived.Test.YtaickkaoglohgaaBv11
import Derived.Test.YtaickkaoglohgaaBv24
import Derived.Maps.OwnIn
set_option linter.unusedSimpArgs false
set_option linter.unusedVariables false
namespace Go.Proofs.Ytaickkaoglohgaa
open Go.RowKit Tk Sx

theorem bcells_app (a b : L) : Lib.byteCells (a ++ b) = Lib.byteCells a ++ Lib.byteCells b := by simp [Lib.byteCells]
/-- A builder that holds these bytes. -/
def Bw (B b : Nat) (l : L) (w : World) : Prop := Lib.IsBuilder 60 5 B b (Lib.byteCells l) w
section
variable {B b : Nat} {l : L} {w w1 : World}
theorem Bw.ws (h : Bw B b l w) (m : L) (hlen : l.length + m.length ≤ 140737488355328) (hBw : B ≤ w.heap.size) :
    Calls Try.prog 24 #[.pointer (some ⟨b, 0, none⟩), .string (bstr m)] w fun e w' => (∃ v, e = .returned v) ∧ Bw B b (l ++ m) w' ∧ BlT B b w w' := by
  have hs : (bstr m).size = m.length := bstr_size m
  refine (ws_any B b _ (bstr m) w h (by rw [Lib.byteCells_length]; omega) hBw).mono ?_
  rintro e w' ⟨rfl, h1, h2⟩
  refine ⟨⟨_, rfl⟩, ?_, h2⟩
  unfold Bw
  rw [bcells_app]
  exact h1
theorem Bw.go (h : Bw B b l w) (hb : Below w.heap.size w w1) : Bw B b l w1 := by
  have key : ∀ p, Lib.BuilderAt 60 5 B b p (Lib.byteCells l) w → Lib.BuilderAt 60 5 B b p (Lib.byteCells l) w1 := fun p hp => by
    have hlt := hp.lt
    obtain ⟨hB, v, hbk, hown, hne⟩ := hp
    exact ⟨hB, v, (hb.block _ hlt).trans hbk, own_go hown hb, hne⟩
  rcases h with h | h
  · exact .inl (key _ h)
  · exact .inr (key _ h)
theorem Bw.fresh (w : World) : Bw w.heap.size w.heap.size [] (w.alloc (.cells #[.pointer none, .slice none 0 0] 60)) :=
  .inl ⟨Nat.le_refl _, _, Blk.new w _ _, World.ownsRow_nil _ _ _ _, fun h => by cases h⟩
theorem Bw.str (h : Bw B b l w) (hBw : B ≤ w.heap.size) : Calls Try.prog 25 #[.pointer (some ⟨b, 0, none⟩)] w fun e w' => e = .returned (.string (bstr l)) ∧ Below B w w' := Try.Builder_String_any B b l w h hBw
end
namespace Bz
theorem cleanN_bad {f : Nat} {l : L} (hne : l ≠ []) (h : (Utf.piece l).1 < 0) : cleanN (f + 1) l = ([239, 191, 189] ++ (cleanN f (l.drop 1)).1, (cleanN f (l.drop 1)).2 + 1) := by
  cases l with
  | nil => exact absurd rfl hne
  | cons c r => rw [cleanN, if_neg (by omega)]; rfl
theorem cleanN_ok {f : Nat} {l : L} (hne : l ≠ []) (h : 0 ≤ (Utf.piece l).1) (hc : charOk (Utf.piece l).1 = true) : cleanN (f + 1) l = (l.take (Utf.piece l).2.toNat ++ (cleanN f (l.drop (Utf.piece l).2.toNat)).1, (cleanN f (l.drop (Utf.piece l).2.toNat)).2) := by
  cases l with
  | nil => exact absurd rfl hne
  | cons c r => rw [cleanN, if_pos h, if_pos hc]
theorem cleanN_no {f : Nat} {l : L} (hne : l ≠ []) (h : 0 ≤ (Utf.piece l).1) (hc : charOk (Utf.piece l).1 = false) : cleanN (f + 1) l = ((if (Utf.piece l).1 / 2 = 32767 then [239, 191, 189] else []) ++ (cleanN f (l.drop (Utf.piece l).2.toNat)).1, (cleanN f (l.drop (Utf.piece l).2.toNat)).2 + 1) := by
  cases l with
  | nil => exact absurd rfl hne
  | cons c r => rw [cleanN, if_pos h, if_neg (by rw [hc]; simp)]
theorem cleanN_nil (f : Nat) : cleanN f [] = ([], 0) := by cases f <;> rfl
end Bz
/-- Where Clean's loop stands: k bytes read, m mended, this written. -/
def ClI (D : L) (k m : Nat) (pre : L) : Prop := ∃ f, D.length ≤ k + f ∧ Bz.cleanN D.length D = (pre ++ (Bz.cleanN f (D.drop k)).1, m + (Bz.cleanN f (D.drop k)).2) ∧ pre.length ≤ 3 * k ∧ m ≤ k
set_option maxHeartbeats 8000000 in
theorem bclean_any (D : L) (w : World) (hD : D.length ≤ 100000000) :
    Calls Try.prog 14 #[.string (bstr D)] w fun e w' => e = .returned (.tuple #[.string (bstr (Bz.clean D).1), .int .i64 ((Bz.clean D).2 : Int)]) ∧ Below w.heap.size w w' := by
  have hs : (bstr D).size = D.length := bstr_size D
  have HBad := hide (bad_any (bstr D) w (by omega))
  have hbf : (bad D < 0) ↔ fine D = true := by
    have h := bad_fine D
    by_cases hb : 0 ≤ bad D
    · rw [decide_eq_true hb] at h
      constructor
      · intro h2; omega
      · intro h2; rw [h2] at h; cases h
    · rw [decide_eq_false hb] at h
      constructor
      · intro _; cases hf : fine D with
        | true => rfl
        | false => rw [hf] at h; cases h
      · intro _; omega
  rw [bstr_list] at HBad
  generalize bad D = x at *
  by_cases hx : x < 0
  · have hlt : decide (x < 0) = true := decide_eq_true hx
    have Hr := hide (show Bz.clean D = (D, 0) by unfold Bz.clean; rw [if_pos (hbf.1 hx)])
    clear hbf hx
    go_enter Try.func14, Try.ntmps14
    go_wp2_with fail
    refine (HBad.out).mono ?_
    rintro e w1 ⟨rfl, b1⟩
    go_wp2
    go_ret2
    rw [Hr.out]
    exact ⟨rfl, b1⟩
  · have hlt : decide (x < 0) = false := decide_eq_false hx
    have Hr := hide (show Bz.clean D = Bz.cleanN D.length D by unfold Bz.clean; rw [if_neg (fun h => hx (hbf.2 h))])
    clear hbf hx
    go_enter Try.func14, Try.ntmps14
    go_wp2_with fail
    refine (HBad.out).mono ?_
    rintro e w1 ⟨rfl, b1⟩
    have F0 := hide (Bw.fresh w1)
    have B1 := hide b1
    have C0 := hide (below_alloc w1 (.cells #[.pointer none, .slice none 0 0] 60))
    clear b1
    go_wp2
    obtain ⟨B, hB⟩ : ∃ B, w1.heap.size = B := ⟨_, rfl⟩
    rw [hB] at F0 C0 ⊢
    have HB := hide hB
    clear hB
    go_loopg [3, 5] D.length (fun gk v3 v5 wr => ∃ (k m : Nat) (pre : L), gk = D.length - k ∧ k ≤ D.length ∧ v3 = .int .i64 (m : Int) ∧ v5 = .int .i64 (k : Int) ∧ ClI D k m pre ∧ Bw B B pre wr ∧ Below B w1 wr)
    case atStart => exact ⟨0, 0, [], by omega, by omega, rfl, rfl, ⟨D.length, by omega, by simp, by simp, by omega⟩, F0.out, C0.out⟩
    case round =>
      obtain ⟨k, m, pre, hgk, hk, rfl, rfl, hcl, hbw, hbl⟩ := hrel
      have Hg := hide hgk
      have HBw := hide hbw
      have HBl := hide hbl
      obtain ⟨f, hf, hcl, hpl, hmk⟩ := hcl
      have Hpl := hide hpl
      have Hmk := hide hmk
      clear hgk hbw hbl hpl hmk F0 C0
      by_cases hlt2 : k < D.length
      · have hne : D.drop k ≠ [] := by intro h; have := congrArg List.length h; simp at this; omega
        obtain ⟨f', rfl⟩ : ∃ f', f = f' + 1 := ⟨f - 1, by omega⟩
        have HN := hide (fun W => pnext_any (bstr D) k W (by omega) (by omega))
        rw [bstr_list] at HN
        have hp := piece_at' (bstr D) k (by omega)
        rw [bstr_list, hs] at hp
        have hwm : IntKind.i64.wrap ((m : Int) + 1) = ((m + 1 : Nat) : Int) := by rw [IntWalk.i64_in _ (by have := Hmk.out; omega)]; omega
        have hk0 : (0 : Int) ≤ (k : Int) := by omega
        by_cases hn : (Utf.piece (D.drop k)).1 < 0
        · have hcn := Bz.cleanN_bad (f := f') hne hn
          rw [hcn] at hcl
          have Hcl := hide (show ClI D (k + 1) (m + 1) (pre ++ [239, 191, 189]) from ⟨f', by omega, by rw [hcl, List.drop_drop, List.append_assoc, Nat.add_assoc, Nat.add_comm 1 _], by rw [List.length_append]; have := Hpl.out; simp; omega, by have := Hmk.out; omega⟩)
          have hv : nextV (Utf.piece (D.drop k)) = .tuple #[.int .i64 0, .int .i64 0, .bool false] := by unfold nextV; rw [if_pos hn]
          rw [hv] at HN
          have hwk : IntKind.i64.wrap ((k : Int) + 1) = ((k + 1 : Nat) : Int) := by rw [IntWalk.i64_in _ (by omega)]; omega
          clear hcn hcl hv hn hp hne hf
          go_wp2_with fail
          refine cq (HN.out _) ?_
          go_wp2_with fail
          refine (HBw.out.ws [239, 191, 189] (by have := Hpl.out; simp; omega) (by have := HBl.out.size; have := HB.out; omega)).mono ?_
          rintro e w2 ⟨⟨vv, rfl⟩, hb2, ht2⟩
          have HB2 := hide hb2
          have HT2 := hide ht2
          clear hb2 ht2
          go_wp2
          go_roundg (D.length - (k + 1))
          case measure => have := Hg.out; omega
          case rel => exact ⟨k + 1, m + 1, pre ++ [239, 191, 189], rfl, by omega, by first | rfl | go_num, by first | rfl | go_num, Hcl.out, HB2.out, HBl.out.trans (HT2.out.below (Nat.le_refl _) (by have := HBl.out.size; have := HB.out; omega))⟩
        · have hv : nextV (Utf.piece (D.drop k)) = .tuple #[.int .i64 (Utf.piece (D.drop k)).1, .int .i64 (Utf.piece (D.drop k)).2, .bool true] := by unfold nextV; rw [if_neg hn]
          rw [hv] at HN
          have hok := fun hc => Bz.cleanN_ok (f := f') hne (by omega) hc
          have hno := fun hc => Bz.cleanN_no (f := f') hne (by omega) hc
          have hr21 : 0 ≤ (Utf.piece (D.drop k)).1 → (Utf.piece (D.drop k)).1 ≤ 1114111 := fun h => by have := Utf.piece_scalar (D.drop k) h; simp [Utf.isScalar] at this; omega
          generalize Utf.piece (D.drop k) = q at *
          obtain ⟨r, kq⟩ := q
          dsimp only at hok hno hp HN hn hr21
          obtain ⟨kk, rfl⟩ : ∃ kk : Nat, kq = (kk : Int) := ⟨kq.toNat, by omega⟩
          rw [Int.toNat_natCast] at hok hno
          have hmax : max (kk : Int) 1 = (kk : Int) := by omega
          have hwk : IntKind.i64.wrap ((k : Int) + (kk : Int)) = ((k + kk : Nat) : Int) := by rw [IntWalk.i64_in _ (by omega)]; omega
          have hkk : 1 ≤ kk ∧ k + kk ≤ D.length := by omega
          have HC := hide (fun W => char_any r W)
          have Hkk := hide hkk
          cases hc : charOk r with
          | true =>
            rw [hc] at HC
            rw [hok hc] at hcl
            have Hcl := hide (show ClI D (k + kk) m (pre ++ (D.drop k).take kk) from ⟨f', by omega, by rw [hcl, List.drop_drop, List.append_assoc], by rw [List.length_append, List.length_take]; have := Hpl.out; omega, by have := Hmk.out; omega⟩)
            have hsb : (0 : Int) ≤ (k : Int) ∧ (k : Int) ≤ ((k + kk : Nat) : Int) := by omega
            have hsc : ((k + kk : Nat) : Int) ≤ ((bstr D).size : Int) := by omega
            have hex : (bstr D).extract k (k + kk) = bstr ((D.drop k).take kk) := by rw [extract_bstr, bstr_list, Nat.add_sub_cancel_left]
            clear hok hno hv hn hp hne hf hcl hc hr21 hkk
            go_wp2_with fail
            refine cq (HN.out _) ?_
            go_wp2_with fail
            refine (HC.out _).mono ?_
            rintro e w2 ⟨rfl, b2⟩
            have B2 := hide b2
            clear b2
            go_wp2_with fail
            refine ((HBw.out.go B2.out).ws ((D.drop k).take kk) (by have := Hpl.out; rw [List.length_take]; omega) (by have := HBl.out.size; have := HB.out; have := B2.out.size; omega)).mono ?_
            rintro e w3 ⟨⟨vv, rfl⟩, hb3, ht3⟩
            have HB3 := hide hb3
            have HT3 := hide ht3
            clear hb3 ht3
            go_wp2
            go_roundg (D.length - (k + kk))
            case measure => have := Hg.out; have := Hkk.out; omega
            case rel => exact ⟨k + kk, m, _, rfl, Hkk.out.2, by first | rfl | go_num, by first | rfl | go_num, Hcl.out, HB3.out, (HBl.out.trans (B2.out.mono (by have := HBl.out.size; have := HB.out; omega))).trans (HT3.out.below (Nat.le_refl _) (by have := HBl.out.size; have := HB.out; have := B2.out.size; omega))⟩
          | false =>
            rw [hc] at HC
            rw [hno hc] at hcl
            by_cases h7 : r / 2 = 32767
            · rw [if_pos h7] at hcl
              have Hcl := hide (show ClI D (k + kk) (m + 1) (pre ++ [239, 191, 189]) from ⟨f', by omega, by rw [hcl, List.drop_drop, List.append_assoc, Nat.add_assoc, Nat.add_comm 1 _], by rw [List.length_append]; have := Hpl.out; simp; omega, by have := Hmk.out; omega⟩)
              clear hok hno hv hn hp hne hf hcl hc hkk
              go_wp2_with fail
              refine cq (HN.out _) ?_
              go_wp2_with fail
              refine (HC.out _).mono ?_
              rintro e w2 ⟨rfl, b2⟩
              have B2 := hide b2
              clear b2
              go_wp2_with fail
              refine ((HBw.out.go B2.out).ws [239, 191, 189] (by have := Hpl.out; simp; omega) (by have := HBl.out.size; have := HB.out; have := B2.out.size; omega)).mono ?_
              rintro e w3 ⟨⟨vv, rfl⟩, hb3, ht3⟩
              have HB3 := hide hb3
              have HT3 := hide ht3
              clear hb3 ht3
              go_wp2
              go_roundg (D.length - (k + kk))
              case measure => have := Hg.out; have := Hkk.out; omega
              case rel => exact ⟨k + kk, m + 1, _, rfl, Hkk.out.2, by first | rfl | go_num, by first | rfl | go_num, Hcl.out, HB3.out, (HBl.out.trans (B2.out.mono (by have := HBl.out.size; have := HB.out; omega))).trans (HT3.out.below (Nat.le_refl _) (by have := HBl.out.size; have := HB.out; have := B2.out.size; omega))⟩
            · rw [if_neg h7, List.nil_append] at hcl
              have Hcl := hide (show ClI D (k + kk) (m + 1) pre from ⟨f', by omega, by rw [hcl, List.drop_drop, Nat.add_assoc, Nat.add_comm 1 _], by have := Hpl.out; omega, by have := Hmk.out; omega⟩)
              have h7b : (r / 2 == 32767) = false := by rw [beq_eq_false_iff_ne]; exact h7
              clear hok hno hv hn hp hne hf hcl hc hkk h7
              go_wp2_with fail
              refine cq (HN.out _) ?_
              go_wp2_with fail
              refine (HC.out _).mono ?_
              rintro e w2 ⟨rfl, b2⟩
              have B2 := hide b2
              clear b2
              go_wp2
              go_roundg (D.length - (k + kk))
              case measure => have := Hg.out; have := Hkk.out; omega
              case rel => exact ⟨k + kk, m + 1, _, rfl, Hkk.out.2, by first | rfl | go_num, by first | rfl | go_num, Hcl.out, HBw.out.go B2.out, HBl.out.trans (B2.out.mono (by have := HBl.out.size; have := HB.out; omega))⟩
      · have hk' : k = D.length := by omega
        subst hk'
        rw [List.drop_length, Bz.cleanN_nil, List.append_nil, Nat.add_zero] at hcl
        have Hcl := hide hcl
        have HSt := hide (HBw.out.str (by have := HBl.out.size; have := HB.out; omega))
        clear hcl hf
        go_wp2_with fail
        refine HSt.out.mono ?_
        rintro e w2 ⟨rfl, hb2⟩
        have B2 := hide hb2
        clear hb2
        go_wp2
        go_ret2
        rw [Hr.out, Hcl.out]
        exact ⟨rfl, B1.out.trans ((HBl.out.trans B2.out).mono (by have := B1.out.size; have := HB.out; omega))⟩
theorem mendN_succ (n : Nat) (k : Int) (a : Nat) (p : Bs) : Bz.mendN (n + 1) k a p = Bz.mend k a (Bz.mendN n k a p) := by
  unfold Bz.mendN Bz.mend
  dsimp only
  rw [List.replicate_succ', List.append_assoc]
theorem mendN_zero (k : Int) (a : Nat) (p : Bs) : Bz.mendN 0 k a p = p := by
  unfold Bz.mendN
  simp
set_option maxHeartbeats 8000000 in
theorem bpclean_r (B P : Nat) (w : World) (p : Bs) (v : Bv) (D : L) (a : Nat) (h : PB B P w p v) (hd : Gd B w) (hD : D.length ≤ 100000000) (hn : p.rs.length ≤ 800000000) :
    Calls Try.prog 34 #[.pointer (some ⟨P, 0, none⟩), .string (bstr D), .int .i64 (a : Int)] w (BRr B P w v (Bz.pclean D a p).2 (.string (bstr (Bz.pclean D a p).1))) := by
  have H := hide h
  have HD := hide hd
  have HC := hide (bclean_any D w hD)
  have hcl := Bz.clean_len D
  obtain ⟨S, hS⟩ : ∃ S, Bz.pclean D a p = S := ⟨_, rfl⟩
  rw [hS]
  unfold Bz.pclean at hS
  generalize Bz.clean D = y at *
  obtain ⟨t, n⟩ := y
  dsimp only at hS HC hcl
  have HS := hide hS
  have Hn := hide (show p.rs.length + n ≤ 900000000 by omega)
  clear h hd hn hS hcl
  go_enter Try.func34, Try.ntmps34
  go_wp2_with fail
  refine (HC.out).mono ?_
  rintro e w1 ⟨rfl, b1⟩
  have H1 := hide (H.out.go b1)
  have B1 := hide b1
  have D1 := hide (HD.out.below b1)
  clear b1
  go_wp2
  go_loopg [15] n (fun gk vk wr => ∃ (k : Nat) (vr : Bv), gk = n - k ∧ k ≤ n ∧ vk = .int .i64 (k : Int) ∧ PB B P wr (Bz.mendN k 4 a p) vr ∧ RMov B P w1 wr ∧ Vr v vr)
  case atStart => exact ⟨0, v, by omega, by omega, rfl, by rw [mendN_zero]; exact H1.out, .refl B P w1, .refl v⟩
  case round =>
    obtain ⟨k, vr, hgk, hk, rfl, hp, hm, hvr⟩ := hrel
    have Hvr := hide hvr
    have Hg := hide hgk
    have Hp := hide hp
    have Hm := hide hm
    clear hgk hp hm hvr H1
    by_cases hlt : k < n
    · have hwk : IntKind.i64.wrap ((k : Int) + 1) = ((k + 1 : Nat) : Int) := by rw [IntWalk.i64_in _ (by have := Hn.out; omega)]; omega
      have HM := hide (bmend_r B P wr _ vr 4 a Hp.out (Nat.le_trans D1.out.hB Hm.out.size) (by rw [Bz.mendN_rs]; have := Hn.out; omega))
      rw [← mendN_succ] at HM
      go_wp2_with fail
      refine HM.out.mono ?_
      rintro e w2 ⟨rfl, m2, v2, p2, x2⟩
      have X2 := hide x2
      have M2 := hide m2
      have P2 := hide p2
      clear m2 p2 x2
      go_wp2
      go_roundg (n - (k + 1))
      case measure => have := Hg.out; omega
      case rel => exact ⟨k + 1, v2, rfl, by omega, by first | rfl | go_num, P2.out, Hm.out.trans M2.out, Hvr.out.trans X2.out⟩
    · have hkn : k = n := by omega
      subst hkn
      go_wp2
      go_ret
      rw [← HS.out]
      exact ⟨rfl, (RMov.of_below B1.out).trans Hm.out, vr, Hp.out, Hvr.out⟩
theorem bpclean_any (B P : Nat) (w : World) (p : Bs) (v : Bv) (D : L) (a : Nat) (h : PB B P w p v) (hd : Gd B w) (hD : D.length ≤ 100000000) (hn : p.rs.length ≤ 800000000) :
    Calls Try.prog 34 #[.pointer (some ⟨P, 0, none⟩), .string (bstr D), .int .i64 (a : Int)] w (BR B P w (Bz.pclean D a p).2 (.string (bstr (Bz.pclean D a p).1))) := (bpclean_r B P w p v D a h hd hD hn).mono fun _ _ h => h.br
end Go.Proofs.Ytaickkaoglohgaa
namespace Go.Proofs.Ytaickkaoglohgaa
open Go.RowKit Go.Shelf Tk Sx

attribute [local go_sem] Oper.semAt_some

theorem info_intB : (Try.prog.info? 3).map (fun i => (i.zero, i.size, i.bytes)) = some (some (.int .i64 0), 1, 8) := by kernel_rfl
def intRowB (l : List Int) : List Value := l.map fun k => .int .i64 k
def scalsB (l : L) : List Int := (Utf.pieces l).map (·.2)
/-- What the loop's variables hold when so much has come. -/
def ScI (w : World) (pre : List Pc) (W : World) : Prop :=
  (∀ x ∈ pre, 0 ≤ x.1.2) ∧ (∃ v, Boxed W w.heap.size 130 v ∧ W.ownsRow w.heap.size 3 1 v pre.length (intRowB (pre.map (·.1.2)))) ∧ (∃ u, Boxed W (w.heap.size + 1) 4 u) ∧ (∃ u, Boxed W (w.heap.size + 1 + 1) 9 u) ∧ Below w.heap.size w W
def ScX (c : Code) (pre : List Pc) (_ : World) : Prop := c = .ret ∧ ∃ x ∈ pre, x.1.2 < 0
theorem ScI_own (w : World) : OwnFrom (w.heap.size + 1 + 1 + 1) (ScI w) := by
  rintro s X Y row ⟨h0, ⟨v, hv, hr⟩, ⟨u, hu⟩, ⟨u2, hu2⟩, h3⟩ hg hrow
  have hne : ∀ {B : Nat} {t : TypeId} {u : Value}, Boxed X B t u → some B ≠ row := fun h e => by
    obtain ⟨_, o, ho, hc⟩ := hrow _ e.symm
    rw [show X.heap[_]? = _ from h] at ho; cases ho; cases hc
  refine ⟨h0, ⟨v, hv.kept hg (hne hv), hr.kept hg ?_⟩, ⟨u, hu.kept hg (hne hu)⟩, ⟨u2, hu2.kept hg (hne hu2)⟩, h3.grown hg h3.size (fun k e => by have := (hrow k e).1; omega)⟩
  rcases hr.2 with ⟨rfl, _⟩ | ⟨g, cap, cur, rfl, _, hgb, _⟩
  · exact .inl rfl
  · refine .inr fun e' => ?_
    obtain ⟨_, o, ho, hc⟩ := hrow g (by simpa [Value.ownBlock] using e'.symm)
    rw [hgb] at ho; cases ho; cases hc
/-- A round's end: behind the append and the store. -/
theorem sc_step {w W W2 w1 : World} {pre : List Pc} {x : Pc} {v v' : Value} (h : ScI w pre W) (hx : 0 ≤ x.1.2) (hW : Below W.heap.size W W2) (hv : Boxed W w.heap.size 130 v) (hrow : W.ownsRow w.heap.size 3 1 v pre.length (intRowB (pre.map (·.1.2))))
    (hown : w1.ownsRow w.heap.size 3 1 v' (pre.length + 1) (intRowB (pre.map (·.1.2)) ++ [.int .i64 x.1.2])) (hgrow : W2.grownBy w1 v.ownBlock) :
    Boxed w1 w.heap.size 130 v ∧ KeepsOthers W (w1.setCell ⟨w.heap.size, 0, none⟩ v') ∧ SameBlk (w.heap.size + 1 + 1) W (w1.setCell ⟨w.heap.size, 0, none⟩ v') ∧ ScI w (pre ++ [x]) (w1.setCell ⟨w.heap.size, 0, none⟩ v') := by
  obtain ⟨h0, -, ⟨u, hu⟩, ⟨u2, hu2⟩, h3⟩ := h
  have hv2 : Boxed W2 w.heap.size 130 v := hv.kept (grown_below hW none) (by simp)
  have hu' : Boxed W2 (w.heap.size + 1) 4 u := hu.kept (grown_below hW none) (by simp)
  have hu2' : Boxed W2 (w.heap.size + 1 + 1) 9 u2 := hu2.kept (grown_below hW none) (by simp)
  have hrow2 : W2.ownsRow w.heap.size 3 1 v pre.length (intRowB (pre.map (·.1.2))) := own_go hrow hW
  have hv1 : Boxed w1 w.heap.size 130 v := hv2.kept hgrow (hv2.not_row (by decide) hrow2)
  have hu1 : Boxed w1 (w.heap.size + 1) 4 u := hu'.kept hgrow (hu'.not_row (by decide) hrow2)
  have hu21 : Boxed w1 (w.heap.size + 1 + 1) 9 u2 := hu2'.kept hgrow (hu2'.not_row (by decide) hrow2)
  have hlen : (pre ++ [x]).length = pre.length + 1 := by simp
  refine ⟨hv1, ?_, ?_, ?_, ⟨v', hv1.set v', ?_⟩, ⟨u, ?_⟩, ⟨u2, ?_⟩, ?_⟩
  · refine ((others_below hW).trans (KeepsOthers.of_grownBy hgrow fun j o ej hj => ?_)).trans (KeepsOthers.setCell _ _ _)
    obtain ⟨_, cs, fr, h⟩ := own_isT hrow2 j ej
    rw [h] at hj; cases hj; rfl
  · exact (Below.heap_setCell _ _ _ _ (by simp; omega)).trans (hu21.trans hu2.symm)
  · intro y hy
    rcases List.mem_append.1 hy with hy | hy
    · exact h0 y hy
    · simp only [List.mem_singleton] at hy
      rw [hy]
      exact hx
  · rw [hlen, show intRowB ((pre ++ [x]).map (·.1.2)) = intRowB (pre.map (·.1.2)) ++ [.int .i64 x.1.2] by simp [intRowB]]
    exact hown.kept (grownBy_setCell' w1 _ v') (.inr (hv1.not_row (by decide) hown).symm)
  · exact hu1.kept (grownBy_setCell' w1 _ v') (by simp)
  · exact hu21.kept (grownBy_setCell' w1 _ v') (by simp; omega)
  · exact ((h3.trans (hW.mono h3.size)).grown hgrow (Nat.le_trans h3.size hW.size) fun j ej => (own_isT hrow2 j ej).1).setCell (p := ⟨w.heap.size, 0, none⟩) (Nat.le_refl _) v'
set_option maxRecDepth 100000 in
set_option maxHeartbeats 4000000 in
theorem pscalars_any (b : ByteArray) (w : World) (hs : b.size ≤ 1000000000) (hvd : ∀ p ∈ Utf.pieces b.data.toList, 0 ≤ p.2) :
    Calls Try.prog 86 #[.string b] w fun e w' => ∃ A c, e = .returned (.tuple #[.slice A (scalsB b.data.toList).length c, .bool true]) ∧ Below w.heap.size w w' ∧ Reads w' w'.heap.size 1 A (scalsB b.data.toList).length (intRowB (scalsB b.data.toList)) := by
  refine (callsIn_wide (n := 5)).1 ?_
  refine callsIn_of_wp_marks Try.func86 rfl trivial ?_ rfl
  simp only [Try.ntmps86, List.size_toArray, List.length_cons, List.length_nil, Nat.reduceAdd, Nat.reduceSub, Array.replicate_succ, Array.replicate_zero, List.push_toArray, List.append_toArray, List.nil_append, List.cons_append]
  gi_wp2_with (refine ⟨trivial, ?_⟩; gi_at_call 95; refine (callsIn_wide.2 (pieces_any _ _)).mono ?_; rintro e w' ⟨rfl, rfl⟩)
  have b0 := Boxed.new w 130 (.slice none 0 0)
  have b1 := Boxed.new (w.alloc (.cells #[.slice none 0 0] 130)) 4 (.bool false)
  rw [World.size_alloc] at b1
  have b2 := Boxed.new ((w.alloc (.cells #[.slice none 0 0] 130)).alloc (.cells #[.bool false] 4)) 9 (.string b)
  rw [World.size_alloc, World.size_alloc] at b2
  have hB0 : Below w.heap.size w (((w.alloc (.cells #[.slice none 0 0] 130)).alloc (.cells #[.bool false] 4)).alloc (.cells #[.string b] 9)) :=
    (((Below.refl _ w).alloc (Nat.le_refl _) _).alloc (by simp) _).alloc (by simp; omega) _
  refine wpIn_rangeFunc_ownG rfl (by omega) (gf := 101) (lb := #[.pointer (some ⟨w.heap.size + 1 + 1, 0, none⟩)]) rfl trivial (enters_of Try.func101 (by kernel_rfl) rfl)
    (pieces_stops (5 - 1) (by omega) (w.heap.size + 1 + 1) b hs _ (by simp) b2.cell) SameBlk.trans (sameBlk_b (by simp)) (Below.refl _ _) (fun _ => rfl)
    (ScI w) ScX (by simpa using ScI_own w) (fun _ _ _ _ _ hs _ _ => hs)
    ⟨fun x hx => (by cases hx), ⟨_, (b0.alloc _).alloc _, World.ownsRow_nil _ _ _ _⟩, ⟨_, b1.alloc _⟩, ⟨_, b2⟩, hB0⟩
    (fun x => { tmps := #[.string b, undef, .pointer (some ⟨w.heap.size, 0, none⟩), .pointer (some ⟨w.heap.size + 1, 0, none⟩), undef, .int .i64 x.1.2, .string b, .func (.func 101) #[] #[.pointer (some ⟨w.heap.size + 1 + 1, 0, none⟩)], .int .i64 (x.1.1 : Int), .int .i64 x.1.2, undef, undef, undef, undef, undef, undef, undef], defers := [] }) ?assign ?body ?done ?stop
  case assign =>
    intro l x W K hK
    gi_wp2
    exact hK
  case body =>
    rintro l pre x W hI hlen
    have HI := hide hI
    obtain ⟨-, ⟨v, hv, hrow⟩, ⟨u, hu⟩, -, hB⟩ := hI
    obtain ⟨A, c, rfl⟩ := own_form hrow
    have hc0 := hv.cell
    have hf0 := hv.frozen
    have hf1 := hu.frozen
    have hc1 := hu.cell
    have hBs := hB.size
    by_cases hr : x.1.2 < 0
    · have hd : decide (x.1.2 < 0) = true := decide_eq_true hr
      have Hr := hide hr
      clear hr hB hrow
      gi_wp2
      exact ⟨((KeepsOthers.setCell _ _ _).trans (KeepsOthers.setCell _ _ _)).from _, rfl, x, by simp, Hr.out⟩
    · have hd : decide (x.1.2 < 0) = false := decide_eq_false hr
      have Hr := hide (show 0 ≤ x.1.2 by omega)
      obtain ⟨i, hi, hz, hsize, hby⟩ := info_parts info_intB
      have HV := hide hv
      have HR := hide hrow
      obtain ⟨m, hm⟩ : ∃ m, pre.length = m := ⟨_, rfl⟩
      have Hm := hide hm
      rw [hm] at hrow hc0 hlen
      have hK := Blk.new W 3 #[.int .i64 x.1.2]
      have hnb := below_alloc W (.cells #[.int .i64 x.1.2] 3)
      clear hr hm
      gi_wp2_with (gi_at_builtin; go_must (refine wpListIn_append_own_at _ rfl (.tmp 12) (.tmp 14) 130 rfl w.heap.size 3 i (.int .i64 0) 1 8 Try.underlying130 hi hz hsize hby rfl (by omega) (.slice A m c) m (intRowB (pre.map (·.1.2))) rfl (hrow.alloc _) ⟨W.heap.size, 0, none⟩ 1 1 [.int .i64 x.1.2] rfl rfl (fun j u hj => World.news_of_block hK j u (by simpa using hj)) (by intro u hu; simp only [List.mem_singleton] at hu; rw [hu]; rfl) (by unfold maxLen; omega) (by omega) (by simp; omega) ?_); intro v8 w8 hown8 hgrow8 _ _; obtain ⟨A8, c8, rfl⟩ := own_form hown8; have hk8 := (HV.out.kept (grown_below hnb none) (by simp)).kept hgrow8 (by have h9 := (HV.out.kept (grown_below hnb none) (by simp)).not_row (by decide) (own_go HR.out hnb); rw [Hm.out] at h9; exact h9); have hc8 := hk8.cell; have hf8 := hk8.frozen)
      have hown9 := hown8
      have hgrow9 := hgrow8
      rw [← Hm.out] at hown9 hgrow9
      obtain ⟨-, s2, s3, s4⟩ := sc_step HI.out Hr.out hnb HV.out HR.out hown9 hgrow9
      rw [Hm.out] at s2 s3 s4
      exact ⟨s2.from _, s3, s4⟩
  case done =>
    rintro D ys W hD hys ⟨h0, ⟨v, hv, hrow⟩, ⟨u, hu⟩, -, hB⟩ hK
    obtain ⟨A, c, rfl⟩ := own_form hrow
    have hc0 := hv.cell
    have hf0 := hv.frozen
    have hf1 := hu.frozen
    have hc1 := hu.cell
    have hys2 : ys.map (·.1) = Utf.pieces b.data.toList := hys
    have Hsc := hide (show ys.map (·.1.2) = scalsB b.data.toList by unfold scalsB; rw [← hys2, List.map_map]; rfl)
    have Hln := hide (show ys.length = (scalsB b.data.toList).length by rw [← Hsc.out, List.length_map])
    obtain ⟨n, hn⟩ : ∃ n, ys.length = n := ⟨_, rfl⟩
    rw [hn] at hrow hv hc0 Hln
    rw [Hsc.out] at hrow
    clear hys hys2 hn h0
    gi_wp2
    have k0 : Blk W w.heap.size 130 #[.slice A n c] := hv
    have k1 : Blk W (w.heap.size + 1) 4 #[u] := hu
    obtain ⟨W2, hW2⟩ : ∃ W2, (W.setCell ⟨w.heap.size, 0, none⟩ (.slice A n c)).setCell ⟨w.heap.size + 1, 0, none⟩ (.bool true) = W2 := ⟨_, rfl⟩
    have r0 : Blk W2 w.heap.size 130 #[.slice A n c] := by rw [← hW2]; exact (k0.set_ 0 _).far (p := ⟨w.heap.size + 1, 0, none⟩) (by simp) _
    have r1 : Blk W2 (w.heap.size + 1) 4 #[.bool true] := by rw [← hW2]; exact (k1.far (p := ⟨w.heap.size, 0, none⟩) (by simp) _).set_ 0 _
    have rD : W2.heap[D]? = some (.deferred (some [])) := by rw [← hW2]; exact (Below.heap_setCell _ _ _ _ (by simp at hD ⊢; omega)).trans ((Below.heap_setCell _ _ _ _ (by simp at hD ⊢; omega)).trans hK)
    have rB : Below w.heap.size w W2 := by rw [← hW2]; exact (hB.setCell (p := ⟨w.heap.size, 0, none⟩) (Nat.le_refl _) _).setCell (p := ⟨w.heap.size + 1, 0, none⟩) (by simp) _
    have rR : W2.ownsRow w.heap.size 3 1 (.slice A n c) n (intRowB (scalsB b.data.toList)) := by rw [← hW2]; exact own_far (p := ⟨w.heap.size + 1, 0, none⟩) (own_far (p := ⟨w.heap.size, 0, none⟩) hrow k0 (by decide) _) (k1.far (p := ⟨w.heap.size, 0, none⟩) (by simp) _) (by decide) _
    rw [hW2]
    refine ⟨by simp, .inl ⟨_, _, rfl, run_takeDeferred rD, ?_⟩⟩
    have q0 := cell_kept (r0.cell 0) (grownBy_putObj' _ D (.deferred none)) (fun r e => by cases e; exact ⟨_, rD, rfl⟩)
    have q1 := cell_kept (r1.cell 0) (grownBy_putObj' _ D (.deferred none)) (fun r e => by cases e; exact ⟨_, rD, rfl⟩)
    have qR : (W2.putObj D (.deferred none)).ownsRow w.heap.size 3 1 (.slice A n c) n (intRowB (scalsB b.data.toList)) := rR.kept (grownBy_putObj' _ D (.deferred none)) (by
      rcases rR.2 with ⟨hv, _⟩ | ⟨g, cap, cur, hv, _, hgb, _⟩
      · cases hv; exact .inl rfl
      · cases hv
        refine .inr fun e => ?_
        injection e with e
        subst e
        rw [rD] at hgb
        cases hgb)
    refine ⟨.tuple #[.slice A n c, .bool true], ?_, ?_⟩
    · simp [results, Try.results86, go_sem, q0, q1]
    · rw [← Hln.out]
      exact ⟨A, c, rfl, rB.trans (belowK_b (w := w) (Nat.le_refl _) _ D _ _ (by simp at hD; omega) rD rfl rfl), Reads.of_own qR⟩
  case stop =>
    rintro D c pre W hD ⟨rest, hsp⟩ ⟨rfl, x, hx, hxn⟩ hK
    have := hvd x.1 (by rw [← hsp]; exact List.mem_append_left _ (List.mem_map_of_mem hx))
    omega
end Go.Proofs.Ytaickkaoglohgaa
namespace Go.Proofs.Ytaickkaoglohgaa
open Go.RowKit Tk Sx

def htmlV : Option Nat → Value
  | some v => .tuple #[.int .i64 (v : Int), .bool true]
  | none => .tuple #[.int .i64 0, .bool false]
theorem in_byteB (c : UInt8) (v : L) : (0 ≤ Lib.indexByte v c) ↔ c ∈ v := by
  induction v with
  | nil => simp [Lib.indexByte]
  | cons b l ih =>
    unfold Lib.indexByte
    by_cases hb : b = c
    · subst hb; simp
    · rw [if_neg (by simpa using hb)]
      have h1 := Lib.indexByte_ge l c
      have : c ∈ b :: l ↔ c ∈ l := by simp [Ne.symm hb]
      rw [this, ← ih]
      (try dsimp only)
      split
      · rename_i h2
        have : Lib.indexByte l c = -1 := by simpa using h2
        omega
      · rename_i h2
        have : Lib.indexByte l c ≠ -1 := by simpa using h2
        omega
namespace Bz
def htmlS : L := [194, 160, 194, 161, 194, 162, 194, 163, 194, 165, 194, 167, 194, 169, 194, 171, 194, 174, 194, 176, 194, 177, 194, 182, 194, 183, 194, 187, 194, 189, 194, 191, 195, 128, 195, 129, 195, 132, 195, 133, 195, 134, 195, 135, 195, 137, 195, 145, 195, 150, 195, 151, 195, 152, 195, 156, 195, 159, 195, 160, 195, 161, 195, 164, 195, 167, 195, 169, 195, 177, 195, 182, 195, 188, 226, 128, 147, 226, 128, 148, 226, 128, 166]
end Bz
theorem html_scals : scalsB Bz.htmlS = Bz.htmlVals.map Int.ofNat := by decide +kernel
theorem html_valid : ∀ p ∈ Utf.pieces (bstr Bz.htmlS).data.toList, 0 ≤ p.2 := by
  intro p hp
  rw [bstr_list] at hp
  have h : p.2 ∈ scalsB Bz.htmlS := List.mem_map_of_mem hp
  rw [html_scals] at h
  obtain ⟨k, _, hk⟩ := List.mem_map.1 h
  rw [← hk]
  exact Int.natCast_nonneg k
theorem html_count {n : L} {k : Nat} (h : till (32 :: (n ++ [32])) Bz.htmlNames = some k) : (Bz.htmlNames.take k).count 32 < 40 := by
  obtain ⟨x, rest, hl, hk, -⟩ := till_word h
  have ht : Bz.htmlNames.take k = x := by rw [hl, hk]; exact List.take_left
  have hc : Bz.htmlNames.count 32 = 41 := by decide +kernel
  rw [hl] at hc
  simp only [List.count_append, List.count_cons, List.count_nil, List.cons_append] at hc
  rw [ht]
  simp at hc
  omega
set_option maxRecDepth 100000 in
set_option maxHeartbeats 4000000 in
theorem bhtml_any (n : L) (w : World) (hg : Gm w) (hn : n.length ≤ 1000000) :
    Calls Try.prog 71 #[.string (bstr n)] w fun e w' => e = .returned (htmlV (Bz.html n)) ∧ Below w.heap.size w w' := by
  have hm1 : ¬ 9223372036854775807 < 1 + (bstr n).size := by rw [bstr_size]; omega
  have hm2 : ¬ 9223372036854775807 < 1 + (bstr n).size + 1 := by rw [bstr_size]; omega
  have hX := till_runm (bstr Bz.htmlNames) ((⟨#[32]⟩ : ByteArray) ++ bstr n ++ (⟨#[32]⟩ : ByteArray)) w hg (by decide +kernel)
  have eq1 : ((⟨#[32]⟩ : ByteArray) ++ bstr n ++ (⟨#[32]⟩ : ByteArray)).data.toList = 32 :: (n ++ [32]) := by
    have h1 : (⟨#[32]⟩ : ByteArray) = bstr [32] := rfl
    rw [h1, bstr_app, bstr_app, bstr_list]
    simp
  rw [eq1, bstr_list] at hX
  have HX := hide hX
  have hempt : ((bstr n).toList == ([] : L)) = decide (n = []) := lit_eq (bstr n) []
  have hemp2 : (bstr n).toList.isEmpty = decide (n = []) := by rw [ByteArray.toList_eq, bstr_list]; cases n <;> simp
  have hIB := fun W => Try.strings_IndexByte (bstr n) 32 W
  have hib : (0 ≤ Lib.indexByte n 32) ↔ (32 : UInt8) ∈ n := in_byteB 32 n
  rw [bstr_list] at hIB
  have e32 : ((32 : Int).toNat.toUInt8) = (32 : UInt8) := rfl
  rw [e32] at hIB
  have HIB := hide hIB
  clear hX hIB e32 eq1 hg
  cases ht : till (32 :: (n ++ [32])) Bz.htmlNames with
  | none =>
    have hx := till_none ht
    have Hr := hide (show Bz.html n = none by unfold Bz.html; rw [ht]; split <;> rfl)
    generalize Lib.index Bz.htmlNames (32 :: (n ++ [32])) = x at *
    have hlt : decide (x < 0) = true := decide_eq_true hx
    clear hx ht hempt hemp2 hib HIB
    go_enter Try.func71, Try.ntmps71
    go_wp2_with fail
    refine cq (HX.out) ?_
    go_wp2
    go_ret2
    rw [Hr.out]
    exact ⟨rfl, Below.refl _ _⟩
  | some k =>
    have hx := (till_some ht).1
    have hcn := html_count ht
    have hkl := (till_some ht).2
    rw [hx] at HX
    have hlt : decide ((k : Int) < 0) = false := decide_eq_false (by omega)
    cases he : decide (n = []) with
    | true =>
      rw [he] at hempt hemp2
      have Hr := hide (show Bz.html n = none by unfold Bz.html; rw [if_pos (.inl (of_decide_eq_true he))])
      clear hx ht he hib HIB
      go_enter Try.func71, Try.ntmps71
      go_wp2_with fail
      refine cq (HX.out) ?_
      go_wp2
      go_ret2
      rw [Hr.out]
      exact ⟨rfl, Below.refl _ _⟩
    | false =>
      rw [he] at hempt hemp2
      by_cases h32 : (32 : UInt8) ∈ n
      · have hge : decide (0 ≤ Lib.indexByte n 32) = true := decide_eq_true (hib.2 h32)
        have Hr := hide (show Bz.html n = none by unfold Bz.html; rw [if_pos (.inr h32)])
        generalize Lib.indexByte n 32 = y at *
        have hge2 : decide (y ≥ 0) = true := hge
        clear hx ht he hib
        go_enter Try.func71, Try.ntmps71
        go_wp2_with fail
        refine cq (HX.out) ?_
        go_wp2_with fail
        refine cq (HIB.out _) ?_
        go_wp2
        go_ret2
        rw [Hr.out]
        exact ⟨rfl, Below.refl _ _⟩
      · have hge : decide (0 ≤ Lib.indexByte n 32) = false := decide_eq_false (fun h => h32 (hib.1 h))
        obtain ⟨c, hc⟩ : ∃ c, (Bz.htmlNames.take k).count 32 = c := ⟨_, rfl⟩
        have hvl : Bz.htmlVals.length = 40 := rfl
        have hcl : c < Bz.htmlVals.length := by rw [hvl]; omega
        have Hr := hide (show Bz.html n = some Bz.htmlVals[c] by
          unfold Bz.html
          rw [if_neg (by rintro (h | h); exact absurd h (of_decide_eq_false he); exact h32 h), ht]
          show Bz.htmlVals[((Bz.htmlNames.take k).filter (· == 32)).length]? = _
          rw [← List.countP_eq_length_filter]
          have : List.countP (· == 32) (Bz.htmlNames.take k) = c := hc
          rw [this]
          exact List.getElem?_eq_getElem hcl)
        generalize Lib.indexByte n 32 = y at *
        have hge2 : decide (y ≥ 0) = false := hge
        have HSc := hide (fun W => pscalars_any (bstr Bz.htmlS) W (by decide +kernel) html_valid)
        rw [bstr_list, html_scals] at HSc
        have HCt := hide (fun W => Try.strings_Count_one ((bstr Bz.htmlNames).extract 0 k) 32 W)
        have hex : ((bstr Bz.htmlNames).extract 0 k).data.toList = Bz.htmlNames.take k := by rw [extract_bstr, bstr_list, bstr_list, List.drop_zero, Nat.sub_zero]
        have ect : Lib.countByte (Bz.htmlNames.take k) 32 = c := hc
        rw [hex, ect] at HCt
        have hkb : (0 : Int) ≤ (k : Int) ∧ (k : Int) ≤ 240 := by
          have : Bz.htmlNames.length = 240 := by decide +kernel
          omega
        clear hx ht he hib hc ect hex h32 hcn hkl
        go_enter Try.func71, Try.ntmps71
        go_wp2_with fail
        refine cq (HX.out) ?_
        go_wp2_with fail
        refine cq (HIB.out _) ?_
        go_wp2_with fail
        refine (HSc.out _).mono ?_
        rintro e w1 ⟨A, cp, rfl, b1, hrd⟩
        obtain ⟨b, off, rfl, hb, hcell⟩ := hrd.2 (by rw [List.length_map, hvl]; omega)
        have hcl1 := hcell c (.int .i64 (Bz.htmlVals[c] : Int)) (by unfold intRowB; rw [List.map_map, List.getElem?_map, List.getElem?_eq_getElem hcl]; rfl)
        have B1 := hide b1
        have hln : (Bz.htmlVals.map Int.ofNat).length = 40 := rfl
        rw [hln]
        have hc40 : c < 40 := by omega
        generalize Bz.htmlVals[c] = val at *
        clear hrd hcell b1 hln
        go_wp2_with fail
        refine cq (HCt.out _) ?_
        go_wp2
        go_ret2
        rw [Hr.out]
        exact ⟨rfl, B1.out⟩
end Go.Proofs.Ytaickkaoglohgaa
