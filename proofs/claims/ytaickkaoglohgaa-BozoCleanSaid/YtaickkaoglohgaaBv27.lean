/- References: the program's Loose. -/
import Derived.Test.YtaickkaoglohgaaBv26
import Derived.Laws.AppendOwnNone
set_option linter.unusedSimpArgs false
set_option linter.unusedVariables false
namespace Go.Proofs.Ytaickkaoglohgaa
open Go.RowKit Go.Shelf Tk Sx

attribute [local go_sem] Oper.semAt_some

theorem own_othersK {w w2 : World} {u b B e size n tb : Nat} {v : Value} {xs : List Value} {cs : Array Value} (ho : Lib.OthersKept u (some b) w w2) (h : w.ownsRow B e size v n xs) (hb : Blk w b tb cs) (ht : e ≠ tb) (he : e ≠ u) : w2.ownsRow B e size v n xs := by
  refine ⟨h.1, ?_⟩
  rcases h.2 with h0 | ⟨g, cap, cur, h1, h2, hg, h3⟩
  · exact .inl h0
  · refine .inr ⟨g, cap, cur, h1, h2, ho g _ hg (fun e1 => ?_) (fun c fz e1 => ?_), h3⟩
    · injection e1 with e1
      subst e1
      rw [show w.heap[g]? = _ from hb] at hg
      injection hg with hg
      injection hg with _ hg
      exact ht hg.symm
    · injection e1 with _ e1
      exact he e1
/-- What Loose leaves. -/
def LooseR (w : World) (t : L) (rs : List Rsn) (e : Ending) (w' : World) : Prop :=
  ∃ A c, e = .returned (.tuple #[.string (bstr t), .slice A rs.length c]) ∧ Below w.heap.size w w' ∧ (rs = [] → A = none ∧ c = 0) ∧ w'.ownsRow w.heap.size 47 2 (.slice A rs.length c) rs.length (rss rs)
theorem loEnd_D {w W w2 : World} {D : Nat} (hD : w.heap.size + 1 < D) (ho2 : Lib.OthersKept 5 (some (w.heap.size + 1)) W.drew w2) (hK : W.heap[D]? = some (.deferred (some []))) : w2.heap[D]? = some (.deferred (some [])) :=
  ho2 D _ hK (fun e => by injection e with e; omega) (fun c fz e => by cases e)
theorem loEnd {w W w2 : World} {D c : Nat} {A : Option Addr} {out : L} {rs : List Rsn} (hD : w.heap.size + 1 < D) (hbel : Below w.heap.size w W) (hb2 : Below w.heap.size W.drew w2) (ho2 : Lib.OthersKept 5 (some (w.heap.size + 1)) W.drew w2) (hK : W.heap[D]? = some (.deferred (some [])))
    (hbw : Bw w.heap.size (w.heap.size + 1) out W) (hAc : rs = [] → A = none ∧ c = 0) (hown : W.ownsRow w.heap.size 47 2 (.slice A rs.length c) rs.length (rss rs)) :
    LooseR w out rs (.returned (.tuple #[.string ⟨out.toArray⟩, .slice A rs.length c])) (w2.putObj D (.deferred none)) := by
  have hD2 := loEnd_D hD ho2 hK
  obtain ⟨cs, hbk⟩ := bw_blk hbw
  have hown2 : w2.ownsRow w.heap.size 47 2 (.slice A rs.length c) rs.length (rss rs) := own_othersK ho2 hown.drew (show Blk W.drew _ _ cs from hbk) (by decide) (by decide)
  refine ⟨A, c, rfl, ?_, hAc, ?_⟩
  · exact (hbel.drew.trans hb2).trans (belowK_b (w := w) (Nat.le_refl _) _ D _ _ (by omega) hD2 rfl rfl)
  · exact own_row (row := some D) hown2 (grownBy_putObj' _ D (.deferred none)) (fun r e => by cases e; exact ⟨_, hD2, rfl⟩)
set_option maxRecDepth 100000 in
set_option maxHeartbeats 16000000 in
theorem bloose_gen (s : ByteArray) (a : Nat) (w : World) (hs : s.size ≤ 1000000) (ha : a ≤ 200000000) (hg : Gm w)
    (hR : ∀ x ∈ rps s.size 0 s.data.toList, x.ref = true → ∀ (a' : Nat) (W : World), a' ≤ a + 1000001 → Gm W → Calls Try.prog 53 #[.string (bstr (x.text ++ [59])), .int .i64 (a' : Int)] W fun e w' => e = .returned (.tuple #[.string (bstr (x.text ++ [59])), .slice none 0 0]) ∧ Below W.heap.size W w') :
    Calls Try.prog 53 #[.string s, .int .i64 (a : Int)] w (LooseR w (Bz.outL a (rps s.size 0 s.data.toList)) (Bz.rsL a (rps s.size 0 s.data.toList))) := by
  obtain ⟨ps, hps⟩ : ∃ ps, rps s.size 0 s.data.toList = ps := ⟨_, rfl⟩
  rw [hps]
  have HPs := hide hps
  obtain ⟨out, hout⟩ : ∃ out, Bz.outL a ps = out := ⟨_, rfl⟩
  obtain ⟨rs, hrs⟩ : ∃ rs, Bz.rsL a ps = rs := ⟨_, rfl⟩
  rw [hout, hrs]
  have HOut := hide hout
  have HRs := hide hrs
  have HG := hide hg
  clear hps hout hrs hg
  refine (callsIn_wide (n := 5)).1 ?_
  refine callsIn_of_wp_marks Try.func53 rfl trivial ?_ rfl
  simp only [Try.ntmps53, List.size_toArray, List.length_cons, List.length_nil, Nat.reduceAdd, Nat.reduceSub, Array.replicate_succ, Array.replicate_zero, List.push_toArray, List.append_toArray, List.nil_append, List.cons_append]
  gi_wp2_with (refine ⟨trivial, ?_⟩; gi_at_call 68; refine (callsIn_wide.2 (rpieces_mk _ _)).mono ?_; rintro e w' ⟨rfl, rfl⟩)
  have hI0 : LoJ w s a [] (((((w.alloc (.cells #[.int .i64 (a : Int)] 3)).alloc (.cells #[.pointer none, .slice none 0 0] 60)).alloc (.cells #[.slice none 0 0] 22)).alloc (.cells #[.func (.func 67) #[] #[.pointer (some ⟨w.heap.size + 1 + 1, 0, none⟩), .pointer (some ⟨w.heap.size, 0, none⟩)]] 110)).alloc (.cells #[.string s] 9)) := by
    have b0 := ((((Blk.new w 3 #[.int .i64 (a : Int)]).alloc (.cells #[.pointer none, .slice none 0 0] 60)).alloc (.cells #[.slice none 0 0] 22)).alloc (.cells #[.func (.func 67) #[] #[.pointer (some ⟨w.heap.size + 1 + 1, 0, none⟩), .pointer (some ⟨w.heap.size, 0, none⟩)]] 110)).alloc (.cells #[.string s] 9)
    have b1 := (((Blk.new (w.alloc (.cells #[.int .i64 (a : Int)] 3)) 60 #[.pointer none, .slice none 0 0]).alloc (.cells #[.slice none 0 0] 22)).alloc (.cells #[.func (.func 67) #[] #[.pointer (some ⟨w.heap.size + 1 + 1, 0, none⟩), .pointer (some ⟨w.heap.size, 0, none⟩)]] 110)).alloc (.cells #[.string s] 9)
    have b2 := ((Blk.new ((w.alloc (.cells #[.int .i64 (a : Int)] 3)).alloc (.cells #[.pointer none, .slice none 0 0] 60)) 22 #[.slice none 0 0]).alloc (.cells #[.func (.func 67) #[] #[.pointer (some ⟨w.heap.size + 1 + 1, 0, none⟩), .pointer (some ⟨w.heap.size, 0, none⟩)]] 110)).alloc (.cells #[.string s] 9)
    have b3 := (Blk.new (((w.alloc (.cells #[.int .i64 (a : Int)] 3)).alloc (.cells #[.pointer none, .slice none 0 0] 60)).alloc (.cells #[.slice none 0 0] 22)) 110 #[.func (.func 67) #[] #[.pointer (some ⟨w.heap.size + 1 + 1, 0, none⟩), .pointer (some ⟨w.heap.size, 0, none⟩)]]).alloc (.cells #[.string s] 9)
    have b4 := Blk.new ((((w.alloc (.cells #[.int .i64 (a : Int)] 3)).alloc (.cells #[.pointer none, .slice none 0 0] 60)).alloc (.cells #[.slice none 0 0] 22)).alloc (.cells #[.func (.func 67) #[] #[.pointer (some ⟨w.heap.size + 1 + 1, 0, none⟩), .pointer (some ⟨w.heap.size, 0, none⟩)]] 110)) 9 #[.string s]
    simp only [World.size_alloc] at b1 b2 b3 b4
    refine ⟨.inl ⟨by omega, .slice none 0 0, b1, World.ownsRow_nil _ _ _ _, by simp [Value.ownBlock]⟩, b0, ⟨none, 0, fun _ => ⟨rfl, rfl⟩, b2, World.ownsRow_nil _ _ _ _⟩, b3, b4, ?_⟩
    exact (((((Below.refl _ w).alloc (Nat.le_refl _) _).alloc (by simp) _).alloc (by simp; omega) _).alloc (by simp; omega) _).alloc (by simp; omega) _
  refine range_own rfl (by omega) (gf := 80) (lb := #[.pointer (some ⟨w.heap.size + 1 + 1 + 1 + 1, 0, none⟩)]) rfl trivial (enters_of Try.func80 (by kernel_rfl) rfl)
    (rpieces_stopsM (5 - 1) (by omega) (w.heap.size + 1 + 1 + 1 + 1) s (by omega) _ (by simp) (hI0.kS.cell 0)) PK.trans (pk_b (by simp)) (fun W o => pk_below (below_alloc W o)) (fun _ => rfl)
    (LoJ w s a) (fun _ _ _ => False) (LoJ_own w s a _ (by simp; omega)) (fun _ _ _ _ _ hs _ _ => hs) hI0
    (fun x => .cells #[.int .i64 (x.1.at_ : Int), .bool x.1.ref, .string (bstr x.1.text)] 109)
    (fun x H => { tmps := #[.string s, .int .i64 (a : Int), undef, .pointer (some ⟨w.heap.size, 0, none⟩), .string ⟨#[]⟩, .slice none 0 0, .pointer (some ⟨w.heap.size + 1, 0, none⟩), .pointer (some ⟨w.heap.size + 1 + 1, 0, none⟩), .pointer (some ⟨w.heap.size + 1 + 1 + 1, 0, none⟩), .pointer (some ⟨H, 0, none⟩), undef, undef, undef, undef, undef, undef, undef, undef, undef, undef, undef, .func (.func 67) #[] #[.pointer (some ⟨w.heap.size + 1 + 1, 0, none⟩), .pointer (some ⟨w.heap.size, 0, none⟩)], .string s, .func (.func 80) #[] #[.pointer (some ⟨w.heap.size + 1 + 1 + 1 + 1, 0, none⟩)], .agg #[.int .i64 (x.1.at_ : Int), .bool x.1.ref, .string (bstr x.1.text)], undef, undef, undef, undef, undef, undef, undef, undef, undef, undef, undef, undef, undef, undef, undef, undef, undef, undef, undef, undef, undef, undef, undef, undef, undef, undef, undef, undef, undef, undef, undef, undef, undef, undef, undef, undef, undef, undef, undef, undef, undef, undef, undef, undef, undef, undef, undef, undef, undef, undef, undef, undef, undef, undef, undef, undef, undef, undef, undef, undef, undef, undef, undef, undef, undef, undef, undef, undef, undef, undef, undef, undef, undef, undef, undef, undef, undef, undef, undef, undef, undef, undef, undef, undef, undef, undef, undef, undef, undef, undef], defers := [] }) ?assign ?body ?done ?stop
  case assign =>
    intro l x W K hK
    simp only [pcE]
    gi_wp2
    exact hK
  case body =>
    rintro l pre ⟨x, hxm⟩ H W hI hlen hH hHx hHs
    dsimp only at hHx ⊢
    obtain ⟨pm, hpm⟩ : ∃ pm, pre.map (·.1) = pm := ⟨_, rfl⟩
    have hmap : (pre ++ [(⟨x, hxm⟩ : PcM s)]).map (fun y : PcM s => y.1) = pm ++ [x] := by rw [List.map_append, hpm]; rfl
    have hI2 : LoI w s a [] pm W := by rw [← hpm]; exact hI
    have HPost := hide (fun (W' : World) (h : KeepsOthers W W' ∧ PK (w.heap.size + 1 + 1 + 1 + 1) W W' ∧ LoI w s a [] (pm ++ [x]) W') => (show KeepsFrom (((((w.alloc (.cells #[.int .i64 (a : Int)] 3)).alloc (.cells #[.pointer none, .slice none 0 0] 60)).alloc (.cells #[.slice none 0 0] 22)).alloc (.cells #[.func (.func 67) #[] #[.pointer (some ⟨w.heap.size + 1 + 1, 0, none⟩), .pointer (some ⟨w.heap.size, 0, none⟩)]] 110)).alloc (.cells #[.string s] 9)).heap.size W W' ∧ PK (w.heap.size + 1 + 1 + 1 + 1) W W' ∧ LoJ w s a (pre ++ [⟨x, hxm⟩]) W' from ⟨h.1.from _, h.2.1, by unfold LoJ; rw [hmap]; exact h.2.2⟩))
    have hle := outL_le a s pm (by rw [← hpm]; intro y hy; obtain ⟨z, _, rfl⟩ := List.mem_map.1 hy; exact z.2)
    have hpl : pm.length ≤ 1000000 := by rw [← hpm, List.length_map]; omega
    have hmul : pm.length * (s.size + 4) ≤ 1000000 * 1000004 := Nat.mul_le_mul hpl (by omega)
    obtain ⟨hx1, hx2, -, hx4⟩ := Bz.rps_in _ _ _ x hxm
    have hsl : s.data.toList.length = s.size := size_list s
    rw [hsl] at hx1 hx2 hx4
    have hRx := hide (hR x hxm)
    have HOl := hide (show (Bz.outL a pm).length ≤ 2000000000000 ∧ (Bz.rsL a pm).length ≤ 1000000 by omega)
    obtain ⟨at_, ref, t⟩ := x
    dsimp only at hx1 hx2 hx4 hHx hRx ⊢
    have kH : Blk W H 109 #[.int .i64 (at_ : Int), .bool ref, .string (bstr t)] := hHx
    have y0 := kH.cell 0
    have y1 := kH.cell 1
    have y2 := kH.cell 2
    have hq : ((bstr t).toList == [38]) = decide (t = [38]) := lit_eq (bstr t) [38]
    have HN := hide (fun W => number_any t W (by omega))
    have HT := hide (fun W (h : Gm W) => bhtml_any t W h (by omega))
    obtain ⟨rn, on, hnv⟩ := numV_form (number t)
    rw [hnv] at HN
    obtain ⟨rh, hhv, hh2⟩ := htmlV_form (Bz.html t)
    rw [hhv] at HT
    have HG1 := hide (HG.out.below (hI2.bel.mono (Nat.le_refl _)))
    have HI := hide hI2
    have Htl := hide (show t.length ≤ 1000000 ∧ at_ ≤ 1000000 by omega)
    have HS := hide (show w.heap.size ≤ W.heap.size from hI2.bel.size)
    have HKH := hide kH
    have hcf := bloose_enter
    obtain ⟨A0, cc0, -, kT0, oT0⟩ := hI2.kT
    have HBad := hide (fun (k : Int) (W1 : World) (hb : Below W.heap.size W W1) => blad_any w.heap.size (w.heap.size + 1 + 1) w.heap.size A0 cc0 (Bz.rsL a pm) k a ⟨at_, ref, t⟩ W1 (kT0.go hb) (hI2.kX.go hb) (own_go oT0 hb) (Nat.le_trans hI2.bel.size hb.size) (by omega) (by dsimp only; omega))
    have KT := hide kT0
    clear kT0 oT0
    clear hmap hle hpl hmul hI hHx hsl hI0 hR hI2 hpm
    cases ref with
    | false =>
      by_cases h38 : t = [38]
      · have hst := hide (show Bz.stepL a ⟨at_, false, t⟩ = (putL 38, [⟨6, a + at_⟩]) by unfold Bz.stepL; rw [if_neg (fun h => h.2 h38), if_neg (by simp)]; rfl)
        rw [decide_eq_true h38] at hq
        have HPut := hide (fun W1 => pPut_any 38 W1 (by decide))
        have Hpl := hide (putL_short 38)
        clear h38 hx1 hx2 hx4 hhv hh2 hnv
        gi_wp2_with first
          | (refine ⟨trivial, ?_⟩; gi_at_call 70; refine (CallsIn.inRound l (callsIn_wide.2 (HN.out _))).mono ?_; rintro e w1 ⟨rfl, b1⟩; have C1 := hide (b1); have K1 := hide (HKH.out.go C1.out); have y10 := K1.out.cell 0; have y11 := K1.out.cell 1; have y12 := K1.out.cell 2)
          | (refine ⟨trivial, ?_⟩; gi_at_call 71; refine (CallsIn.inRound l (callsIn_wide.2 (HT.out _ (HG1.out.below C1.out)))).mono ?_; rintro e w2 ⟨rfl, b2⟩; have C2 := hide (C1.out.trans (b2.mono C1.out.size)); have K2 := hide (HKH.out.go C2.out); have y20 := K2.out.cell 0; have y21 := K2.out.cell 1; have y22 := K2.out.cell 2; have g2 := (HI.out.kG.go C2.out).cell 0)
          | (refine ⟨trivial, ?_⟩; gi_at_call 67; refine (CallsIn.inRound l (callsIn_wide.2 (HBad.out 6 w2 C2.out))).mono ?_; rintro e w3 ⟨rfl, A3, cp3, k3, o3, l3⟩; have BW3 := hide (l3.bw (HI.out.bw.go C2.out) (KT.out.go C2.out) (by omega)); have S3 := hide (show w.heap.size ≤ w3.heap.size by have := HS.out; have := C2.out.size; have := l3.size; omega))
          | (refine ⟨trivial, ?_⟩; gi_at_call 72; refine (CallsIn.inRound l (callsIn_wide.2 (HPut.out _))).mono ?_; rintro e w4 ⟨rfl, b4⟩; skip)
          | (refine ⟨trivial, ?_⟩; gi_at_call 24; refine (CallsIn.inRound l (callsIn_wide.2 ((BW3.out.go b4).ws (putL 38) (by have := HOl.out; have := Htl.out; have := Hpl.out; (try simp only [List.length_append, List.length_cons, List.length_nil]); omega) (by have := S3.out; have := b4.size; omega)))).mono ?_; rintro e w5 ⟨⟨vv, rfl⟩, hb5, ht5⟩)
        exact HPost.out _ (HI.out.step1 hst.out C2.out l3 ⟨A3, cp3, k3, o3⟩ b4 ht5 hb5)
      · have hst := hide (show Bz.stepL a ⟨at_, false, t⟩ = (t, []) by unfold Bz.stepL; rw [if_pos ⟨rfl, h38⟩])
        rw [decide_eq_false h38] at hq
        have Hpl := hide (show True from trivial)
        clear h38 hx1 hx2 hx4 hhv hh2 hnv
        gi_wp2_with first
          | (refine ⟨trivial, ?_⟩; gi_at_call 70; refine (CallsIn.inRound l (callsIn_wide.2 (HN.out _))).mono ?_; rintro e w1 ⟨rfl, b1⟩; have C1 := hide (b1); have K1 := hide (HKH.out.go C1.out); have y10 := K1.out.cell 0; have y11 := K1.out.cell 1; have y12 := K1.out.cell 2)
          | (refine ⟨trivial, ?_⟩; gi_at_call 71; refine (CallsIn.inRound l (callsIn_wide.2 (HT.out _ (HG1.out.below C1.out)))).mono ?_; rintro e w2 ⟨rfl, b2⟩; have C2 := hide (C1.out.trans (b2.mono C1.out.size)); have K2 := hide (HKH.out.go C2.out); have y20 := K2.out.cell 0; have y21 := K2.out.cell 1; have y22 := K2.out.cell 2; have g2 := (HI.out.kG.go C2.out).cell 0)
          | (refine ⟨trivial, ?_⟩; gi_at_call 24; refine (CallsIn.inRound l (callsIn_wide.2 ((HI.out.bw.go C2.out).ws (t) (by have := HOl.out; have := Htl.out; have := Hpl.out; (try simp only [List.length_append, List.length_cons, List.length_nil]); omega) (by have := HS.out; have := C2.out.size; omega)))).mono ?_; rintro e w5 ⟨⟨vv, rfl⟩, hb5, ht5⟩)
        exact HPost.out _ (HI.out.step0 hst.out C2.out ht5 hb5)
    | true =>
      have HSc := hide (fun W => scal_any t W (by omega))
      cases hs1 : scalar t with
      | some v =>
        rw [hs1] at HSc
        have hst := hide (show Bz.stepL a ⟨at_, true, t⟩ = (putL v, []) by unfold Bz.stepL; rw [if_neg (by simp), if_pos rfl]; dsimp only; rw [hs1])
        have HPut := hide (fun W1 => pPut_any (v : Int) W1 (scalar_is hs1))
        have Hpl := hide (putL_short (v : Int))
        unfold optV at HSc
        clear hs1 hx1 hx2 hx4 hhv hh2 hnv hq
        gi_wp2_with first
          | (refine ⟨trivial, ?_⟩; gi_at_call 69; refine (CallsIn.inRound l (callsIn_wide.2 (HSc.out _))).mono ?_; rintro e w0 ⟨rfl, b0⟩; have C0 := hide (b0); have K0 := hide (HKH.out.go C0.out); have y00 := K0.out.cell 0; have y01 := K0.out.cell 1; have y02 := K0.out.cell 2)
          | (refine ⟨trivial, ?_⟩; gi_at_call 70; refine (CallsIn.inRound l (callsIn_wide.2 (HN.out _))).mono ?_; rintro e w1 ⟨rfl, b1⟩; have C1 := hide (C0.out.trans (b1.mono C0.out.size)); have K1 := hide (HKH.out.go C1.out); have y10 := K1.out.cell 0; have y11 := K1.out.cell 1; have y12 := K1.out.cell 2)
          | (refine ⟨trivial, ?_⟩; gi_at_call 71; refine (CallsIn.inRound l (callsIn_wide.2 (HT.out _ (HG1.out.below C1.out)))).mono ?_; rintro e w2 ⟨rfl, b2⟩; have C2 := hide (C1.out.trans (b2.mono C1.out.size)); have K2 := hide (HKH.out.go C2.out); have y20 := K2.out.cell 0; have y21 := K2.out.cell 1; have y22 := K2.out.cell 2; have g2 := (HI.out.kG.go C2.out).cell 0)
          | (refine ⟨trivial, ?_⟩; gi_at_call 72; refine (CallsIn.inRound l (callsIn_wide.2 (HPut.out _))).mono ?_; rintro e w4 ⟨rfl, b4⟩; skip)
          | (refine ⟨trivial, ?_⟩; gi_at_call 24; refine (CallsIn.inRound l (callsIn_wide.2 (((HI.out.bw.go C2.out).go b4).ws (putL v) (by have := HOl.out; have := Htl.out; have := Hpl.out; (try simp only [List.length_append, List.length_cons, List.length_nil]); omega) (by have := HS.out; have := C2.out.size; have := b4.size; omega)))).mono ?_; rintro e w5 ⟨⟨vv, rfl⟩, hb5, ht5⟩)
        exact HPost.out _ (HI.out.step0 hst.out (C2.out.trans (b4.mono C2.out.size)) ht5 hb5)
      | none =>
        rw [hs1] at HSc
        unfold optV at HSc
        cases hn1 : (number t).isSome with
        | true =>
          rw [hn1] at HN
          have hst := hide (show Bz.stepL a ⟨at_, true, t⟩ = (putL 65533, [⟨4, a + at_⟩]) by unfold Bz.stepL; rw [if_neg (by simp), if_pos rfl]; dsimp only; rw [hs1]; dsimp only; rw [if_pos hn1])
          have HPut := hide (fun W1 => pPut_any 65533 W1 (by decide))
          have Hpl := hide (putL_short 65533)
          clear hs1 hn1 hx1 hx2 hx4 hhv hh2 hnv hq
          gi_wp2_with first
            | (refine ⟨trivial, ?_⟩; gi_at_call 69; refine (CallsIn.inRound l (callsIn_wide.2 (HSc.out _))).mono ?_; rintro e w0 ⟨rfl, b0⟩; have C0 := hide (b0); have K0 := hide (HKH.out.go C0.out); have y00 := K0.out.cell 0; have y01 := K0.out.cell 1; have y02 := K0.out.cell 2)
            | (refine ⟨trivial, ?_⟩; gi_at_call 70; refine (CallsIn.inRound l (callsIn_wide.2 (HN.out _))).mono ?_; rintro e w1 ⟨rfl, b1⟩; have C1 := hide (C0.out.trans (b1.mono C0.out.size)); have K1 := hide (HKH.out.go C1.out); have y10 := K1.out.cell 0; have y11 := K1.out.cell 1; have y12 := K1.out.cell 2)
            | (refine ⟨trivial, ?_⟩; gi_at_call 71; refine (CallsIn.inRound l (callsIn_wide.2 (HT.out _ (HG1.out.below C1.out)))).mono ?_; rintro e w2 ⟨rfl, b2⟩; have C2 := hide (C1.out.trans (b2.mono C1.out.size)); have K2 := hide (HKH.out.go C2.out); have y20 := K2.out.cell 0; have y21 := K2.out.cell 1; have y22 := K2.out.cell 2; have g2 := (HI.out.kG.go C2.out).cell 0)
            | (refine ⟨trivial, ?_⟩; gi_at_call 67; refine (CallsIn.inRound l (callsIn_wide.2 (HBad.out 4 w2 C2.out))).mono ?_; rintro e w3 ⟨rfl, A3, cp3, k3, o3, l3⟩; have BW3 := hide (l3.bw (HI.out.bw.go C2.out) (KT.out.go C2.out) (by omega)); have S3 := hide (show w.heap.size ≤ w3.heap.size by have := HS.out; have := C2.out.size; have := l3.size; omega))
            | (refine ⟨trivial, ?_⟩; gi_at_call 72; refine (CallsIn.inRound l (callsIn_wide.2 (HPut.out _))).mono ?_; rintro e w4 ⟨rfl, b4⟩; skip)
            | (refine ⟨trivial, ?_⟩; gi_at_call 24; refine (CallsIn.inRound l (callsIn_wide.2 ((BW3.out.go b4).ws (putL 65533) (by have := HOl.out; have := Htl.out; have := Hpl.out; (try simp only [List.length_append, List.length_cons, List.length_nil]); omega) (by have := S3.out; have := b4.size; omega)))).mono ?_; rintro e w5 ⟨⟨vv, rfl⟩, hb5, ht5⟩)
          exact HPost.out _ (HI.out.step1 hst.out C2.out l3 ⟨A3, cp3, k3, o3⟩ b4 ht5 hb5)
        | false =>
          rw [hn1] at HN
          cases hm1 : Bz.html t with
          | some v =>
            rw [hm1] at HT hh2
            have hrh : rh = (v : Int) := hh2 v rfl
            subst hrh
            dsimp only [Option.isSome] at HT
            have hst := hide (show Bz.stepL a ⟨at_, true, t⟩ = (putL v, [⟨7, a + at_⟩]) by unfold Bz.stepL; rw [if_neg (by simp), if_pos rfl]; dsimp only; rw [hs1]; dsimp only; rw [if_neg (by rw [hn1]; simp), hm1])
            have HPut := hide (fun W1 => pPut_any (v : Int) W1 (html_scalar hm1))
            have Hpl := hide (putL_short (v : Int))
            clear hs1 hn1 hm1 hx1 hx2 hx4 hhv hh2 hnv hq
            gi_wp2_with first
              | (refine ⟨trivial, ?_⟩; gi_at_call 69; refine (CallsIn.inRound l (callsIn_wide.2 (HSc.out _))).mono ?_; rintro e w0 ⟨rfl, b0⟩; have C0 := hide (b0); have K0 := hide (HKH.out.go C0.out); have y00 := K0.out.cell 0; have y01 := K0.out.cell 1; have y02 := K0.out.cell 2)
              | (refine ⟨trivial, ?_⟩; gi_at_call 70; refine (CallsIn.inRound l (callsIn_wide.2 (HN.out _))).mono ?_; rintro e w1 ⟨rfl, b1⟩; have C1 := hide (C0.out.trans (b1.mono C0.out.size)); have K1 := hide (HKH.out.go C1.out); have y10 := K1.out.cell 0; have y11 := K1.out.cell 1; have y12 := K1.out.cell 2)
              | (refine ⟨trivial, ?_⟩; gi_at_call 71; refine (CallsIn.inRound l (callsIn_wide.2 (HT.out _ (HG1.out.below C1.out)))).mono ?_; rintro e w2 ⟨rfl, b2⟩; have C2 := hide (C1.out.trans (b2.mono C1.out.size)); have K2 := hide (HKH.out.go C2.out); have y20 := K2.out.cell 0; have y21 := K2.out.cell 1; have y22 := K2.out.cell 2; have g2 := (HI.out.kG.go C2.out).cell 0)
              | (refine ⟨trivial, ?_⟩; gi_at_call 67; refine (CallsIn.inRound l (callsIn_wide.2 (HBad.out 7 w2 C2.out))).mono ?_; rintro e w3 ⟨rfl, A3, cp3, k3, o3, l3⟩; have BW3 := hide (l3.bw (HI.out.bw.go C2.out) (KT.out.go C2.out) (by omega)); have S3 := hide (show w.heap.size ≤ w3.heap.size by have := HS.out; have := C2.out.size; have := l3.size; omega))
              | (refine ⟨trivial, ?_⟩; gi_at_call 72; refine (CallsIn.inRound l (callsIn_wide.2 (HPut.out _))).mono ?_; rintro e w4 ⟨rfl, b4⟩; skip)
              | (refine ⟨trivial, ?_⟩; gi_at_call 24; refine (CallsIn.inRound l (callsIn_wide.2 ((BW3.out.go b4).ws (putL v) (by have := HOl.out; have := Htl.out; have := Hpl.out; (try simp only [List.length_append, List.length_cons, List.length_nil]); omega) (by have := S3.out; have := b4.size; omega)))).mono ?_; rintro e w5 ⟨⟨vv, rfl⟩, hb5, ht5⟩)
            exact HPost.out _ (HI.out.step1 hst.out C2.out l3 ⟨A3, cp3, k3, o3⟩ b4 ht5 hb5)
          | none =>
            rw [hm1] at HT
            dsimp only [Option.isSome] at HT
            have hst := hide (show Bz.stepL a ⟨at_, true, t⟩ = (38 :: (t ++ [59]), [⟨6, a + at_⟩]) by unfold Bz.stepL; rw [if_neg (by simp), if_pos rfl]; dsimp only; rw [hs1]; dsimp only; rw [if_neg (by rw [hn1]; simp), hm1])
            have hr := hRx.out rfl (a + at_ + 1)
            rw [show ((a + at_ + 1 : Nat) : Int) = (a : Int) + (at_ : Int) + 1 by omega] at hr
            have HRec := hide hr
            have hwa : IntKind.i64.wrap ((a : Int) + (at_ : Int)) = (a : Int) + (at_ : Int) := IntWalk.i64_in _ (by have := Htl.out; omega)
            have hwb : IntKind.i64.wrap ((a : Int) + (at_ : Int) + 1) = (a : Int) + (at_ : Int) + 1 := IntWalk.i64_in _ (by have := Htl.out; omega)
            have hcat1 : bstr t ++ (⟨#[59]⟩ : ByteArray) = bstr (t ++ [59]) := bstr_app t [59]
            have hcat2 : (⟨#[38]⟩ : ByteArray) ++ bstr (t ++ [59]) = bstr (38 :: (t ++ [59])) := bstr_app [38] (t ++ [59])
            have hm1' : ¬ 9223372036854775807 < (bstr t).size + 1 := by rw [bstr_size]; have := Htl.out; omega
            have hm2' : ¬ 9223372036854775807 < 1 + (bstr (t ++ [59])).size := by rw [bstr_size, List.length_append]; have := Htl.out; simp; omega
            obtain ⟨i, hi, -, -, -⟩ := info_parts info_rsn
            have HHn := hide (show H ≠ w.heap.size + 1 + 1 by simp at hH; omega)
            have Hpl := hide (show True from trivial)
            clear hs1 hn1 hm1 hx1 hx2 hx4 hhv hh2 hnv hq hr hRx
            gi_wp2_with first
              | (refine ⟨trivial, ?_⟩; gi_at_call 69; refine (CallsIn.inRound l (callsIn_wide.2 (HSc.out _))).mono ?_; rintro e w0 ⟨rfl, b0⟩; have C0 := hide (b0); have K0 := hide (HKH.out.go C0.out); have y00 := K0.out.cell 0; have y01 := K0.out.cell 1; have y02 := K0.out.cell 2)
              | (refine ⟨trivial, ?_⟩; gi_at_call 70; refine (CallsIn.inRound l (callsIn_wide.2 (HN.out _))).mono ?_; rintro e w1 ⟨rfl, b1⟩; have C1 := hide (C0.out.trans (b1.mono C0.out.size)); have K1 := hide (HKH.out.go C1.out); have y10 := K1.out.cell 0; have y11 := K1.out.cell 1; have y12 := K1.out.cell 2)
              | (refine ⟨trivial, ?_⟩; gi_at_call 71; refine (CallsIn.inRound l (callsIn_wide.2 (HT.out _ (HG1.out.below C1.out)))).mono ?_; rintro e w2 ⟨rfl, b2⟩; have C2 := hide (C1.out.trans (b2.mono C1.out.size)); have K2 := hide (HKH.out.go C2.out); have y20 := K2.out.cell 0; have y21 := K2.out.cell 1; have y22 := K2.out.cell 2; have g2 := (HI.out.kG.go C2.out).cell 0)
              | (refine ⟨trivial, ?_⟩; gi_at_call 67; refine (CallsIn.inRound l (callsIn_wide.2 (HBad.out 6 w2 C2.out))).mono ?_; rintro e w3 ⟨rfl, A3, cp3, k3, o3, l3⟩; have BW3 := hide (l3.bw (HI.out.bw.go C2.out) (KT.out.go C2.out) (by omega)); have S3 := hide (show w.heap.size ≤ w3.heap.size by have := HS.out; have := C2.out.size; have := l3.size; omega); obtain ⟨n3, hn3⟩ : ∃ n, (Bz.rsL a pm ++ [(⟨6, a + at_⟩ : Rsn)]).length = n := ⟨_, rfl⟩; rw [hn3] at k3 o3; have HN3 := hide hn3; have HK3 := hide k3; have HO3 := hide o3; clear hn3 k3 o3; have K3 := hide (l3.blk K2.out HHn.out (by decide)); have y30 := K3.out.cell 0; have y31 := K3.out.cell 1; have y32 := K3.out.cell 2; have x3 := (l3.blk (HI.out.kX.go C2.out) (by omega) (by decide)).cell 0; have G3 := hide (HG.out.below (((HI.out.bel.trans (C2.out.mono HI.out.bel.size)).trans ((l3.lom (w.heap.size + 1)).below (Nat.le_refl _) (by omega) (by omega) (by have := HS.out; have := C2.out.size; omega))))))
              | (refine ⟨trivial, ?_⟩; gi_at_call 53; refine (CallsIn.inRound l (callsIn_wide.2 (HRec.out w3 (by have := Htl.out; omega) G3.out))).mono ?_; rintro e w4 ⟨rfl, b4⟩; skip)
              | (refine ⟨trivial, ?_⟩; gi_at_call 24; refine (CallsIn.inRound l (callsIn_wide.2 ((BW3.out.go b4).ws (38 :: (t ++ [59])) (by have := HOl.out; have := Htl.out; have := Hpl.out; (try simp only [List.length_append, List.length_cons, List.length_nil]); omega) (by have := S3.out; have := b4.size; omega)))).mono ?_; rintro e w5 ⟨⟨vv, rfl⟩, hb5, ht5⟩; obtain ⟨cs5, hbb5⟩ := bw_blk (BW3.out.go b4); have K5 := hide (ht5.blk (HK3.out.go b4) (by omega) (by decide)); have z5 := K5.out.cell 0; have f5 := K5.out.frozen 0; have O5 := hide (ht5.ownR (own_go HO3.out b4) hbb5 (by decide) (by decide)))
              | (gi_at_builtin; go_must (refine wpListIn_append_nil rfl (.tmp 103) (.tmp 104) 22 rfl w.heap.size 47 i 2 Try.underlying22 hi (.slice A3 n3 cp3) n3 _ rfl O5.out rfl ?_))
            exact HPost.out _ (HI.out.step2 hst.out C2.out l3 (by rw [HN3.out]; exact HK3.out) (by rw [HN3.out]; exact HO3.out) b4 ht5 hb5 n3 HN3.out)
  case done =>
    rintro D ys W hD hys hI hK
    have hys2 : ys.map (·.1) = rps s.size 0 s.data.toList := hys
    have hI2 : LoI w s a [] ps W := by rw [← HPs.out, ← hys2]; exact hI
    clear hI hys hys2 hR
    obtain ⟨hbw, -, ⟨A, c, hAc, kT, hown⟩, -, -, hbel⟩ := hI2
    rw [HOut.out] at hbw
    rw [HRs.out] at hAc kT hown
    have hst := fun W1 (h : Lib.IsBuilder 60 5 w.heap.size (w.heap.size + 1) (Lib.byteCells out) W1) (hs : w.heap.size ≤ W1.heap.size) => Try.Builder_String_any_k w.heap.size (w.heap.size + 1) out W1 (Lib.IsBuilderF.of h) hs
    have HSt := hide hst
    have HBw := hide hbw
    have HT := hide kT
    have HO := hide hown
    have HBe := hide hbel
    have HK := hide hK
    have HAc := hide hAc
    have HDl := hide (show w.heap.size + 1 < D by simp at hD; omega)
    have hcT := kT.cell 0
    clear hst hbw kT hown hbel hK hAc hI0
    gi_wp2
    refine wpIn_region_any (by kernel_rfl) ?_
    change wpAnyIn _ _ _ _ _ _ 4 #[false, false, false, false] _ (World.drew _)
    refine wpAnyIn_ready (rs := [0, 1]) (by kernel_rfl) (by simp) (in_cons rfl (by kernel_rfl) (fun K hK => ?_) (in_cons rfl (by kernel_rfl) (fun K hK => ?_) AllReadyIn.nil))
    · gi_wp2_with (refine ⟨trivial, ?_⟩; gi_at_call 25; refine (callsIn_wide.2 (HSt.out _ (HBw.out.go (Below.refl _ _).drew) HBe.out.size)).mono ?_; rintro e w2 ⟨rfl, -, hb2, ho2⟩; have k2 : Blk w2 (w.heap.size + 1 + 1) 22 #[.slice A rs.length c] := ho2 _ _ HT.out (fun e => by injection e with e; omega) (by intro c fz e; cases e); have hc2 := k2.cell 0)
      refine wpAnyIn_ready (rs := [1, 2]) (by kernel_rfl) (by simp) (in_cons rfl (by kernel_rfl) (fun K hK => ?_) (in_cons rfl (by kernel_rfl) (fun K hK => ?_) AllReadyIn.nil))
      · skip
        go_simp
        refine hK _ _ ?_
        (try simp only [Act.put, List.setIfInBounds_toArray, List.set_cons_zero, List.set_cons_succ])
        refine in_one (i := 2) rfl (by kernel_rfl) (by kernel_rfl) (fun K hK => ?_)
        go_simp
        refine hK _ _ ?_
        (try simp only [Act.put, List.setIfInBounds_toArray, List.set_cons_zero, List.set_cons_succ])
        refine in_one (i := 3) rfl (by kernel_rfl) (by kernel_rfl) (fun K hK => ?_)
        go_simp
        refine hK _ _ ?_
        (try simp only [Act.put, List.setIfInBounds_toArray, List.set_cons_zero, List.set_cons_succ])
        refine ⟨by kernel_rfl, ?_⟩
        gi_wp2
        refine ⟨by simp, .inl ⟨_, _, rfl, run_takeDeferred (loEnd_D HDl.out ho2 HK.out), ?_⟩⟩
        refine ⟨_, results_tmp2 rfl _ _ _, ?_⟩
        exact loEnd HDl.out HBe.out hb2 ho2 HK.out HBw.out HAc.out HO.out
      · skip
        go_simp
        refine hK _ _ ?_
        (try simp only [Act.put, List.setIfInBounds_toArray, List.set_cons_zero, List.set_cons_succ])
        refine in_one (i := 1) rfl (by kernel_rfl) (by kernel_rfl) (fun K hK => ?_)
        go_simp
        refine hK _ _ ?_
        (try simp only [Act.put, List.setIfInBounds_toArray, List.set_cons_zero, List.set_cons_succ])
        refine in_one (i := 3) rfl (by kernel_rfl) (by kernel_rfl) (fun K hK => ?_)
        go_simp
        refine hK _ _ ?_
        (try simp only [Act.put, List.setIfInBounds_toArray, List.set_cons_zero, List.set_cons_succ])
        refine ⟨by kernel_rfl, ?_⟩
        gi_wp2
        refine ⟨by simp, .inl ⟨_, _, rfl, run_takeDeferred (loEnd_D HDl.out ho2 HK.out), ?_⟩⟩
        refine ⟨_, results_tmp2 rfl _ _ _, ?_⟩
        exact loEnd HDl.out HBe.out hb2 ho2 HK.out HBw.out HAc.out HO.out
    · have hc1 : W.drew.cell? ⟨w.heap.size + 1 + 1, 0, none⟩ = some (.slice A rs.length c) := hcT
      go_simp
      refine hK _ _ ?_
      (try simp only [Act.put, List.setIfInBounds_toArray, List.set_cons_zero, List.set_cons_succ])
      refine in_one (i := 0) rfl (by kernel_rfl) (by kernel_rfl) (fun K hK => ?_)
      gi_wp2_with (refine ⟨trivial, ?_⟩; gi_at_call 25; refine (callsIn_wide.2 (HSt.out _ (HBw.out.go (Below.refl _ _).drew) HBe.out.size)).mono ?_; rintro e w2 ⟨rfl, -, hb2, ho2⟩; have k2 : Blk w2 (w.heap.size + 1 + 1) 22 #[.slice A rs.length c] := ho2 _ _ HT.out (fun e => by injection e with e; omega) (by intro c fz e; cases e); have hc2 := k2.cell 0)
      refine in_one (i := 2) rfl (by kernel_rfl) (by kernel_rfl) (fun K hK => ?_)
      go_simp
      refine hK _ _ ?_
      (try simp only [Act.put, List.setIfInBounds_toArray, List.set_cons_zero, List.set_cons_succ])
      refine in_one (i := 3) rfl (by kernel_rfl) (by kernel_rfl) (fun K hK => ?_)
      go_simp
      refine hK _ _ ?_
      (try simp only [Act.put, List.setIfInBounds_toArray, List.set_cons_zero, List.set_cons_succ])
      refine ⟨by kernel_rfl, ?_⟩
      gi_wp2
      refine ⟨by simp, .inl ⟨_, _, rfl, run_takeDeferred (loEnd_D HDl.out ho2 HK.out), ?_⟩⟩
      refine ⟨_, results_tmp2 rfl _ _ _, ?_⟩
      exact loEnd HDl.out HBe.out hb2 ho2 HK.out HBw.out HAc.out HO.out
  case stop =>
    rintro D c pre W _ _ h _
    exact h.elim
end Go.Proofs.Ytaickkaoglohgaa
