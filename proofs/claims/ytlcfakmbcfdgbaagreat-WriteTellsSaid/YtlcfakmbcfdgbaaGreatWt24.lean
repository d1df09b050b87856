/- NFC: the document's compose (ref12). (Printed by genTdS.py.) · NFC, plain: what is ASCII stays; the document's form is the program's; no program in sight. · NFC: the document's Decomposed, Composed, Nfc (ref12). · Tokens: a start. · Tokens: strings.EqualFold with "xml". · Tokens: strings.EqualFold with "xml": the walk. · Tokens: words for what begins with <? or <!. · Tokens: what begins with <? or <!. (Printed by wip/genTkW.py.) · Tokens: words for one: which reading a piece calls, and whether it is of Chars alone. · The document's Char and Bad. (Printed by wip/genTkZb.py.) -/
import Derived.Test.YtlcfakmbcfdgbaaGreatWt01
import Derived.Test.YtlcfakmbcfdgbaaGreatWt04
import Derived.Test.YtlcfakmbcfdgbaaGreatWt05
import Derived.Test.YtlcfakmbcfdgbaaGreatWt11
import Derived.Test.YtlcfakmbcfdgbaaGreatWt12
import Derived.Test.YtlcfakmbcfdgbaaGreatWt14
import Derived.Test.YtlcfakmbcfdgbaaGreatWt17
import Derived.Test.YtlcfakmbcfdgbaaGreatWt19
import Derived.Test.YtlcfakmbcfdgbaaGreatWt23
import Derived.ScopeJumps
import Derived.WalkMore
import Derived.Laws.RangeString
import Derived.Laws.RangeAny
import Derived.Deep.DeepCutAuto
import Derived.Deep.Onto
set_option linter.unusedSimpArgs false
set_option linter.unusedVariables false
namespace Go.Proofs.YtlcfakmbcfdgbaaGreat
open Go.RowKit Go.WideShapes

namespace Nf
def dstAt (l : List Int) (j : Nat) : List Int × Int := (l.take j).foldl dstep ([], -1)
theorem dstAt_next {l : List Int} {j : Nat} {r : Int} (h : l[j]? = some r) : dstAt l (j + 1) = dstep (dstAt l j) r := by
  unfold dstAt
  rw [List.take_add_one, h, List.foldl_append]; rfl
theorem dstAt_like (l : List Int) (j : Nat) : Like (csAt l j) (dstAt l j) := by
  unfold csAt dstAt
  exact like_fold _ _ _ ⟨rfl, rfl, by simp, by simp, fun h => by simp at h, fun h => by simp at h⟩
theorem dstep_app {out : List Int} {st r : Int} (h : blockedP out st (cls r) = true ∨ whole (out.getD st.toNat 0) r = none) : dstep (out, st) r = (out ++ [r], if cls r = 0 then (out.length : Int) else st) := by
  unfold dstep
  dsimp only
  rcases h with h | h
  · rw [if_pos h]
  · by_cases hb : blockedP out st (cls r) = true
    · rw [if_pos hb]
    · rw [if_neg hb, h]
theorem dstep_set {out : List Int} {st r v : Int} (hb : blockedP out st (cls r) = false) (h : whole (out.getD st.toNat 0) r = some v) : dstep (out, st) r = (out.set st.toNat v, st) := by
  unfold dstep
  dsimp only
  rw [hb, if_neg (by simp), h]
def tst (c x : Int) : Bool := decide (cls x = 0) || decide (c ≤ cls x)
theorem blockedP_nat (out : List Int) (k : Nat) (c : Int) : blockedP out (k : Int) c = (out.drop (k + 1)).any (tst c) := by
  unfold blockedP
  have : decide ((k : Int) < 0) = false := decide_eq_false (by omega)
  rw [this, Bool.false_or]
  rfl
theorem blockedP_neg {out : List Int} {st : Int} (h : st < 0) (c : Int) : blockedP out st c = true := by
  unfold blockedP
  rw [decide_eq_true h, Bool.true_or]
end Nf
set_option maxRecDepth 100000 in
set_option maxHeartbeats 16000000 in
theorem refCompose_any (l : List Int) (A : Option Addr) (c : Nat) (w : World) (hr : Reads w w.heap.size 1 A l.length (intVs l)) (hok : ∀ x ∈ l, Nf.Ok x) (hs : l.length ≤ 20000000) :
    Calls Tryz.prog 94 #[.slice A l.length c] w (IntsR w (Nf.compose l)) := by
  rw [← Nf.dcompose_is]
  have HEnd := hide (show (Nf.dstAt l l.length).1 = Nf.dcompose l by unfold Nf.dstAt Nf.dcompose; rw [List.take_length])
  obtain ⟨L, hL⟩ : ∃ L, l.length = L := ⟨_, rfl⟩
  have HL := hide hL
  rw [hL] at hr hs HEnd
  rw [hL]
  have HR := hide hr
  have HOk := hide hok
  have HCs := hide (Nf.csAt_ok hok)
  have HLk := hide (Nf.dstAt_like l)
  have HCl := hide (fun r W => refClass_any r W)
  clear hL hr hok
  obtain ⟨D, hD⟩ : ∃ D, Nf.dcompose l = D := ⟨_, rfl⟩
  rw [hD] at HEnd ⊢
  clear hD
  go_enter Tryz.func94, Tryz.ntmps94
  go_wp2
  go_loopg [3, 4, 5, 6, 7, 8, 9, 10, 11, 12] L (fun gk v3 v4 v5 v6 v7 v8 v9 v10 v11 v12 wr => ∃ (j m : Nat) (A' : Option Addr) (c' : Nat), gk = L - j ∧ j ≤ L ∧ v5 = .int .i64 (j : Int) ∧ v3 = .slice A' m c' ∧ (Nf.dstAt l j).1.length = m ∧ v4 = .int .i64 (Nf.dstAt l j).2 ∧
    wr.ownsRow w.heap.size 3 1 (.slice A' m c') m (intVs (Nf.dstAt l j).1) ∧ Below w.heap.size w wr)
  case atStart => exact ⟨0, 0, none, 0, rfl, by omega, rfl, rfl, rfl, rfl, World.ownsRow_nil _ _ _ _, Below.refl _ _⟩
  case round =>
    obtain ⟨j, m, A', c', hgk, hj, rfl, rfl, hm, rfl, ho, hb⟩ := hrel
    have Hg := hide hgk
    have HB := hide hb
    have hbs : w.heap.size ≤ wr.heap.size := hb.size
    clear hgk hb
    by_cases hlt : j < L
    · obtain ⟨r, hrj⟩ : ∃ r, l[j]? = some r := ⟨_, List.getElem?_eq_getElem (by rw [HL.out]; exact hlt)⟩
      obtain ⟨gb, off, rfl, hgl, hcell⟩ := HR.out.2 (by omega)
      have y0 : wr.cell? ⟨gb, off + j, none⟩ = some (.int .i64 r) := (HB.out.cell hgl).trans (hcell j _ (by unfold intVs; rw [List.getElem?_map, hrj]; rfl))
      have hnx := Nf.dstAt_next hrj
      have hlk := HLk.out j
      obtain ⟨hcs, hcl⟩ := HCs.out j
      have Hro := hide (HOk.out r (List.mem_of_getElem? hrj))
      obtain ⟨⟨out, st⟩, hs0⟩ : ∃ s, Nf.dstAt l j = s := ⟨_, rfl⟩
      rw [hs0] at hm ho hlk hnx ⊢
      dsimp only at hm ho hlk ⊢
      have hst0 : -1 ≤ st := by have := hcs.st0; rw [hlk.st] at this; exact this
      have hst1 : st < (m : Int) := by have := hcs.st1; rw [hlk.st, hlk.out, hm] at this; exact this
      have hmj : m ≤ j := by rw [hlk.out, hm] at hcl; exact hcl
      have HOut := hide (show ∀ x ∈ out, Nf.Ok x by have := hcs.ok; rw [hlk.out] at this; exact this)
      have HO := hide ho
      have Hm := hide hm
      have Hcr := hide (Nf.cls_le r)
      have Happ := hide (show (Nf.blockedP out st (Nf.cls r) = true ∨ Nf.whole (out.getD st.toNat 0) r = none) → Nf.dstAt l (j + 1) = (out ++ [r], if Nf.cls r = 0 then (m : Int) else st) from fun h => by rw [hnx, Nf.dstep_app h, hm])
      have Hset := hide (show ∀ v, Nf.blockedP out st (Nf.cls r) = false → Nf.whole (out.getD st.toNat 0) r = some v → Nf.dstAt l (j + 1) = (out.set st.toNat v, st) from fun v hb h => by rw [hnx, Nf.dstep_set hb h])
      obtain ⟨cr, hcr⟩ : ∃ cr, Nf.cls r = cr := ⟨_, rfl⟩
      have HC1 := hide (fun W => HCl.out r W)
      rw [hcr] at HC1 Happ Hset Hcr
      have hcr0 := Hcr.out.1
      have zA : IntKind.i64.wrap ((m : Int) + 1 - 1) = (m : Int) := by rw [IntWalk.i64_in _ (by omega)]; omega
      have zB : IntKind.i64.wrap (((m + 1 : Nat) : Int) - 1) = (m : Int) := by rw [IntWalk.i64_in _ (by omega)]; omega
      have hlr : (out ++ [r]).length = m + 1 := by rw [List.length_append, hm]; rfl
      have Hlr := hide hlr
      clear hcell hrj hs0 hcs ho hm hcr hcl hlk hnx hlr
      by_cases hneg : st < 0
      · have dn : decide (st < 0) = true := decide_eq_true hneg
        have dn2 : decide (0 ≤ st) = false := decide_eq_false (by omega)
        have Hap := hide (Happ.out (.inl (Nf.blockedP_neg hneg cr)))
        clear hneg
        go_wp2_with fail
        go_wp2_with fail
        refine cq (HC1.out _) ?_
        by_cases hc0 : cr = 0
        · have ec : (cr == 0) = true := by simpa using hc0
          have Hap2 := hide (show Nf.dstAt l (j + 1) = (out ++ [r], (m : Int)) by rw [Hap.out, if_pos hc0])
          clear hc0
          go_wp2_with (at_builtin; go_loud (refine wpList_append_elem wr rfl (.tmp 65) (.tmp 67) 93 rfl w.heap.size (.int .i64 0) 1 8 Tryz.underlying93 info_int rfl (by omega) _ m (intVs out) rfl HO.out (cs := [.int .i64 r]) rfl (by simp [Value.oneCell']) rfl (by unfold maxLen; omega) (by omega) hbs ?_); intro g8 cap8 w8 hown8 hgrow8 hat8 hlt8 hb8; have HO8 := hide hown8; have HB8 := hide (HB.out.grown hgrow8 HB.out.size (fun j' e => (own_isT HO.out j' e).1)); clear hown8 hgrow8 hat8 hlt8 hb8)
          go_roundg (L - (j + 1))
          case measure => have := Hg.out; omega
          case rel =>
            refine ⟨j + 1, m + 1, some ⟨g8, 0, none⟩, cap8, rfl, by omega, by first | rfl | go_num, rfl, by rw [Hap2.out]; exact Hlr.out, by rw [Hap2.out], ?_, HB8.out⟩
            rw [Hap2.out, intVs_app]
            exact HO8.out
        · have ec : (cr == 0) = false := by simpa using hc0
          have Hap2 := hide (show Nf.dstAt l (j + 1) = (out ++ [r], st) by rw [Hap.out, if_neg hc0])
          clear hc0
          go_wp2_with (at_builtin; go_loud (refine wpList_append_elem wr rfl (.tmp 65) (.tmp 67) 93 rfl w.heap.size (.int .i64 0) 1 8 Tryz.underlying93 info_int rfl (by omega) _ m (intVs out) rfl HO.out (cs := [.int .i64 r]) rfl (by simp [Value.oneCell']) rfl (by unfold maxLen; omega) (by omega) hbs ?_); intro g8 cap8 w8 hown8 hgrow8 hat8 hlt8 hb8; have HO8 := hide hown8; have HB8 := hide (HB.out.grown hgrow8 HB.out.size (fun j' e => (own_isT HO.out j' e).1)); clear hown8 hgrow8 hat8 hlt8 hb8)
          go_roundg (L - (j + 1))
          case measure => have := Hg.out; omega
          case rel =>
            refine ⟨j + 1, m + 1, some ⟨g8, 0, none⟩, cap8, rfl, by omega, by first | rfl | go_num, rfl, by rw [Hap2.out]; exact Hlr.out, by rw [Hap2.out], ?_, HB8.out⟩
            rw [Hap2.out, intVs_app]
            exact HO8.out
      · obtain ⟨k0, hk0⟩ : ∃ k0 : Nat, st = (k0 : Int) := ⟨st.toNat, by omega⟩
        subst hk0
        have hk0m : k0 < m := by omega
        obtain ⟨g, rfl, hgb, hgl2⟩ := own_some HO.out (by omega)
        have Hbl := hide (Nf.blockedP_nat out k0 cr)
        obtain ⟨tot, htot⟩ : ∃ t, Nf.blockedP out (k0 : Int) cr = t := ⟨_, rfl⟩
        rw [htot] at Hbl Happ Hset
        rw [Int.toNat_natCast] at Happ Hset
        have dn : decide ((k0 : Int) < 0) = false := decide_eq_false (by omega)
        have dn2 : decide (0 ≤ (k0 : Int)) = true := decide_eq_true (by omega)
        have zk : IntKind.i64.wrap ((k0 : Int) + 1) = ((k0 + 1 : Nat) : Int) := by rw [IntWalk.i64_in _ (by omega)]; omega
        clear htot hneg
        go_wp2_with fail
        go_wp2_with fail
        refine cq (HC1.out _) ?_
        go_wp2
        rename World => wo
        go_loopg [8, 9, 10] (m - (k0 + 1)) (fun gq v8 v9 v10 wr => ∃ (k : Nat) (B : Bool), gq = m - k ∧ k ≤ m ∧ v9 = .int .i64 (k : Int) ∧ v8 = .bool B ∧ (B || (out.drop k).any (Nf.tst cr)) = tot ∧ wr = wo)
        case atStart => exact ⟨k0 + 1, false, rfl, by omega, by first | rfl | go_num, rfl, by rw [Bool.false_or]; exact Hbl.out.symm, rfl⟩
        case round =>
          obtain ⟨k, B, hgq, hk, rfl, rfl, hB, hww⟩ := hrel
          subst hww
          have Hg2 := hide hgq
          have HBt := hide hB
          clear hgq hB
          by_cases hkm : k < m
          · obtain ⟨x, hx⟩ : ∃ x, out[k]? = some x := ⟨_, List.getElem?_eq_getElem (by rw [Hm.out]; exact hkm)⟩
            have hd := Nf.gdrop hx
            obtain ⟨y1, f1⟩ := own_at HO.out (i := k) (u := .int .i64 x) (Nf.intVs_at hx)
            have HBt2 := hide (show (B || (Nf.tst cr x || (out.drop (k + 1)).any (Nf.tst cr))) = tot by have := HBt.out; rw [hd, List.any_cons] at this; exact this)
            have hkk : (0 : Int) ≤ k ∧ (k : Int) < m := by omega
            have HCx := hide (fun W => HCl.out x W)
            unfold Nf.tst at HBt2
            obtain ⟨kx, hkx⟩ : ∃ q, Nf.cls x = q := ⟨_, rfl⟩
            rw [hkx] at HCx HBt2
            clear hx hd hkx
            go_wp2_with fail
            go_wp2_with fail
            refine cq (HCx.out _) ?_
            by_cases hx0 : kx = 0
            · have e1 : (kx == 0) = true := by simpa using hx0
              have h1 := HBt2.out
              rw [decide_eq_true hx0, Bool.true_or, Bool.true_or, Bool.or_true] at h1
              subst h1
              clear hx0
              go_wp2
              go_roundg (m - (k + 1))
              case measure => have := Hg2.out; omega
              case rel => exact ⟨k + 1, true, rfl, by omega, by first | rfl | go_num, rfl, by rw [Bool.true_or], rfl⟩
            · have e1 : (kx == 0) = false := by simpa using hx0
              have h1 := HBt2.out
              rw [decide_eq_false hx0, Bool.false_or] at h1
              clear hx0
              by_cases hxc : cr ≤ kx
              · have e2 : decide (cr ≤ kx) = true := decide_eq_true hxc
                rw [e2, Bool.true_or, Bool.or_true] at h1
                subst h1
                clear hxc
                go_wp2
                go_roundg (m - (k + 1))
                case measure => have := Hg2.out; omega
                case rel => exact ⟨k + 1, true, rfl, by omega, by first | rfl | go_num, rfl, by rw [Bool.true_or], rfl⟩
              · have e2 : decide (cr ≤ kx) = false := decide_eq_false hxc
                have h2 := hide (show (B || (out.drop (k + 1)).any (Nf.tst cr)) = tot by rw [decide_eq_false hxc, Bool.false_or] at h1; exact h1)
                clear hxc h1
                go_wp2
                go_roundg (m - (k + 1))
                case measure => have := Hg2.out; omega
                case rel => exact ⟨k + 1, B, rfl, by omega, by first | rfl | go_num, rfl, h2.out, rfl⟩
          · have hBt : B = tot := by
              have := HBt.out
              rw [List.drop_of_length_le (by rw [Hm.out]; omega), List.any_nil, Bool.or_false] at this
              exact this
            subst hBt
            cases B with
            | true =>
              have Hap := hide (Happ.out (.inl rfl))
              by_cases hc0 : cr = 0
              · have ec : (cr == 0) = true := by simpa using hc0
                have Hap2 := hide (show Nf.dstAt l (j + 1) = (out ++ [r], (m : Int)) by rw [Hap.out, if_pos hc0])
                clear hc0
                go_wp2_with (at_builtin; go_loud (refine wpList_append_elem wr rfl (.tmp 65) (.tmp 67) 93 rfl w.heap.size (.int .i64 0) 1 8 Tryz.underlying93 info_int rfl (by omega) _ m (intVs out) rfl HO.out (cs := [.int .i64 r]) rfl (by simp [Value.oneCell']) rfl (by unfold maxLen; omega) (by omega) hbs ?_); intro g8 cap8 w8 hown8 hgrow8 hat8 hlt8 hb8; have HO8 := hide hown8; have HB8 := hide (HB.out.grown hgrow8 HB.out.size (fun j' e => (own_isT HO.out j' e).1)); clear hown8 hgrow8 hat8 hlt8 hb8)
                go_roundg (L - (j + 1))
                case measure => have := Hg.out; omega
                case rel =>
                  refine ⟨j + 1, m + 1, some ⟨g8, 0, none⟩, cap8, rfl, by omega, by first | rfl | go_num, rfl, by rw [Hap2.out]; exact Hlr.out, by rw [Hap2.out], ?_, HB8.out⟩
                  rw [Hap2.out, intVs_app]
                  exact HO8.out
              · have ec : (cr == 0) = false := by simpa using hc0
                have Hap2 := hide (show Nf.dstAt l (j + 1) = (out ++ [r], (k0 : Int)) by rw [Hap.out, if_neg hc0])
                clear hc0
                go_wp2_with (at_builtin; go_loud (refine wpList_append_elem wr rfl (.tmp 65) (.tmp 67) 93 rfl w.heap.size (.int .i64 0) 1 8 Tryz.underlying93 info_int rfl (by omega) _ m (intVs out) rfl HO.out (cs := [.int .i64 r]) rfl (by simp [Value.oneCell']) rfl (by unfold maxLen; omega) (by omega) hbs ?_); intro g8 cap8 w8 hown8 hgrow8 hat8 hlt8 hb8; have HO8 := hide hown8; have HB8 := hide (HB.out.grown hgrow8 HB.out.size (fun j' e => (own_isT HO.out j' e).1)); clear hown8 hgrow8 hat8 hlt8 hb8)
                go_roundg (L - (j + 1))
                case measure => have := Hg.out; omega
                case rel =>
                  refine ⟨j + 1, m + 1, some ⟨g8, 0, none⟩, cap8, rfl, by omega, by first | rfl | go_num, rfl, by rw [Hap2.out]; exact Hlr.out, by rw [Hap2.out], ?_, HB8.out⟩
                  rw [Hap2.out, intVs_app]
                  exact HO8.out
            | false =>
              obtain ⟨x, hx⟩ : ∃ x, out[k0]? = some x := ⟨_, List.getElem?_eq_getElem (by rw [Hm.out]; exact hk0m)⟩
              obtain ⟨y1, f1⟩ := own_at HO.out (i := k0) (u := .int .i64 x) (Nf.intVs_at hx)
              have hgd : out.getD k0 0 = x := by rw [List.getD_eq_getElem?_getD, hx]; rfl
              rw [hgd] at Happ Hset
              have hxo := HOut.out x (List.mem_of_getElem? hx)
              have HWh := hide (fun W => refWhole_any x r W hxo.1 hxo.2 Hro.out.1 Hro.out.2)
              have hkk : (0 : Int) ≤ k0 ∧ (k0 : Int) < m := by omega
              unfold wholeV at HWh
              have Hx := hide hx
              clear hx hgd hxo
              cases hw : Nf.whole x r with
              | some v =>
                rw [hw] at HWh
                have Hs2 := hide (Hset.out v rfl hw)
                clear hw
                dsimp only at HWh
                go_wp2_with fail
                refine (HWh.out _).mono ?_
                rintro e w2 ⟨rfl, hb2⟩
                have HO2 := hide (own_gD HO.out hb2)
                have HB2 := hide (HB.out.trans (hb2.mono HB.out.size))
                obtain ⟨y2, f2⟩ := own_at HO2.out (i := k0) (u := .int .i64 x) (Nf.intVs_at Hx.out)
                dsimp only
                have HS2 := hide (own_store HO2.out (i := k0) (.int .i64 v))
                clear hb2
                go_wp2
                go_roundg (L - (j + 1))
                case measure => have := Hg.out; omega
                case rel =>
                  refine ⟨j + 1, m, some ⟨g, 0, none⟩, c', rfl, by omega, by first | rfl | go_num, rfl, by rw [Hs2.out]; simp [Hm.out], by rw [Hs2.out], ?_, HB2.out.setCell (p := ⟨g, k0, none⟩) hgb _⟩
                  rw [Hs2.out]
                  have := HS2.out
                  rw [show (intVs out).set k0 (.int .i64 v) = intVs (out.set k0 v) by unfold intVs; rw [List.map_set]] at this
                  exact this
              | none =>
                rw [hw] at HWh
                have Hap := hide (Happ.out (.inr hw))
                clear hw
                dsimp only at HWh
                go_wp2_with fail
                refine (HWh.out _).mono ?_
                rintro e w2 ⟨rfl, hb2⟩
                have HO2 := hide (own_gD HO.out hb2)
                have HB2 := hide (HB.out.trans (hb2.mono HB.out.size))
                have hbs2 := HB2.out.size
                clear hb2
                dsimp only
                by_cases hc0 : cr = 0
                · have ec : (cr == 0) = true := by simpa using hc0
                  have Hap2 := hide (show Nf.dstAt l (j + 1) = (out ++ [r], (m : Int)) by rw [Hap.out, if_pos hc0])
                  clear hc0
                  go_wp2_with (at_builtin; go_loud (refine wpList_append_elem w2 rfl (.tmp 65) (.tmp 67) 93 rfl w.heap.size (.int .i64 0) 1 8 Tryz.underlying93 info_int rfl (by omega) _ m (intVs out) rfl HO2.out (cs := [.int .i64 r]) rfl (by simp [Value.oneCell']) rfl (by unfold maxLen; omega) (by omega) hbs2 ?_); intro g8 cap8 w8 hown8 hgrow8 hat8 hlt8 hb8; have HO8 := hide hown8; have HB8 := hide (HB2.out.grown hgrow8 HB2.out.size (fun j' e => (own_isT HO2.out j' e).1)); clear hown8 hgrow8 hat8 hlt8 hb8)
                  go_roundg (L - (j + 1))
                  case measure => have := Hg.out; omega
                  case rel =>
                    refine ⟨j + 1, m + 1, some ⟨g8, 0, none⟩, cap8, rfl, by omega, by first | rfl | go_num, rfl, by rw [Hap2.out]; exact Hlr.out, by rw [Hap2.out], ?_, HB8.out⟩
                    rw [Hap2.out, intVs_app]
                    exact HO8.out
                · have ec : (cr == 0) = false := by simpa using hc0
                  have Hap2 := hide (show Nf.dstAt l (j + 1) = (out ++ [r], (k0 : Int)) by rw [Hap.out, if_neg hc0])
                  clear hc0
                  go_wp2_with (at_builtin; go_loud (refine wpList_append_elem w2 rfl (.tmp 65) (.tmp 67) 93 rfl w.heap.size (.int .i64 0) 1 8 Tryz.underlying93 info_int rfl (by omega) _ m (intVs out) rfl HO2.out (cs := [.int .i64 r]) rfl (by simp [Value.oneCell']) rfl (by unfold maxLen; omega) (by omega) hbs2 ?_); intro g8 cap8 w8 hown8 hgrow8 hat8 hlt8 hb8; have HO8 := hide hown8; have HB8 := hide (HB2.out.grown hgrow8 HB2.out.size (fun j' e => (own_isT HO2.out j' e).1)); clear hown8 hgrow8 hat8 hlt8 hb8)
                  go_roundg (L - (j + 1))
                  case measure => have := Hg.out; omega
                  case rel =>
                    refine ⟨j + 1, m + 1, some ⟨g8, 0, none⟩, cap8, rfl, by omega, by first | rfl | go_num, rfl, by rw [Hap2.out]; exact Hlr.out, by rw [Hap2.out], ?_, HB8.out⟩
                    rw [Hap2.out, intVs_app]
                    exact HO8.out
    · have hjL : j = L := by omega
      subst hjL
      have ho2 := ho
      rw [HEnd.out] at ho2 hm
      have HO2 := hide ho2
      have Hm2 := hide hm
      clear ho ho2 hm
      go_wp2
      go_ret
      exact ⟨⟨A', c', by rw [Hm2.out]; rfl, by rw [Hm2.out]; exact HO2.out⟩, HB.out⟩
end Go.Proofs.YtlcfakmbcfdgbaaGreat
namespace Go.Proofs.YtlcfakmbcfdgbaaGreat
namespace Nf
def Low (l : List Int) : Prop := ∀ r ∈ l, 0 ≤ r ∧ r < 128
theorem table_high : ∀ x ∈ table, 128 ≤ x.2 ∧ 128 ≤ x.1.2 := by decide +kernel
theorem doubles_high : ∀ x ∈ doubles, 128 ≤ x.1 := by decide +kernel
theorem made_low {r : Int} (h : r < 128) : made r = none := by
  unfold made hangul
  rw [if_neg (by simp; omega), lookM_none (fun x hx => by have := (table_high x hx).1; omega)]
  dsimp only
  rw [lookD_none (fun x hx => by have := doubles_high x hx; omega)]
  rfl
theorem parts_low {r : Int} (h : r < 128) : parts r = [r] := by
  unfold parts apart
  rw [made_low h]
  rfl
theorem cls_low {r : Int} (h : r < 128) : cls r = 0 := by
  unfold cls
  rw [if_pos (by omega)]
theorem lookW_none {p : Int × Int} : ∀ {l : List ((Int × Int) × Int)}, (∀ x ∈ l, x.1 ≠ p) → lookW p l = none
  | [], _ => rfl
  | x :: l, h => by
    unfold lookW
    rw [if_neg (h x (by simp)), lookW_none (fun y hy => h y (by simp [hy]))]
theorem whole_low {a b : Int} (hb : b < 128) : whole a b = none := by
  unfold whole
  rw [if_neg (by omega), if_neg (by omega), lookW_none (fun x hx e => by have := (table_high x hx).2; rw [e] at this; dsimp only at this; omega)]
theorem bd_low : ∀ (l ctx : List Int), Low l → Bd 0 ctx l
  | [], _, _ => trivial
  | b :: l, ctx, h => by
    have h0 := cls_low (h b (by simp)).2
    unfold Bd
    rw [if_pos h0]
    exact ⟨.inl h0, bd_low l [] (fun r hr => h r (by simp [hr]))⟩
theorem sort_low {l : List Int} (h : Low l) : sort l = l := by
  unfold sort
  exact sortF_of_bd _ _ (by omega) (bd_low l [] h)
theorem comp_low : ∀ (l : List Int) (s : Cs), Low l → (l.foldl cstep s).out = s.out ++ l
  | [], s, _ => by simp
  | r :: l, s, h => by
    have hr := (h r (by simp)).2
    have e : cstep s r = ⟨s.out ++ [r], s.out.length, -1⟩ := cstep_app0 (fun _ => whole_low hr) (cls_low hr)
    rw [List.foldl_cons, comp_low l _ (fun x hx => h x (by simp [hx])), e]
    simp
theorem compose_low {l : List Int} (h : Low l) : compose l = l := by
  unfold compose
  rw [comp_low l _ h]
  rfl
theorem decomp_low : ∀ {l : List Int}, Low l → decomp l = l
  | [], _ => rfl
  | r :: l, h => by
    have := decomp_low (l := l) (fun x hx => h x (by simp [hx]))
    unfold decomp at this ⊢
    rw [List.flatMap_cons, this, parts_low (h r (by simp)).2]
    rfl
theorem dec_low {l : List Int} (h : Low l) : dec l = l := by
  unfold dec
  rw [decomp_low h, sort_low h]
/-- Bytes that are all ASCII. -/
def Asc (s : List UInt8) : Prop := ∀ c ∈ s, c.toNat < 128
def ofAsc (s : List UInt8) : List Int := s.map fun c => (c.toNat : Int)
theorem low_asc {s : List UInt8} (h : Asc s) : Low (ofAsc s) := by
  intro r hr
  obtain ⟨c, hc, rfl⟩ := List.mem_map.1 hr
  have := h c hc
  omega
theorem pieces_asc : ∀ (s : List UInt8) (k at_ : Nat), s.length ≤ k → Asc s → (Utf.piecesN k at_ s).map (·.2) = ofAsc s
  | [], k, at_, _, _ => by cases k <;> rfl
  | c :: s, 0, _, h, _ => by simp at h
  | c :: s, k + 1, at_, h, ha => by
    have e := Utf.piece_ascii (ha c (by simp)) s
    unfold Utf.piecesN
    rw [e]
    dsimp only
    rw [List.map_cons]
    have := pieces_asc s k (at_ + 1) (by simpa using h) (fun x hx => ha x (by simp [hx]))
    show _ :: (Utf.piecesN k (at_ + 1) s).map (·.2) = _
    rw [this]
    rfl
theorem uscals_asc {s : List UInt8} (h : Asc s) : uscals s = ofAsc s := pieces_asc s _ 0 (Nat.le_refl _) h
theorem right_asc {s : List UInt8} (h : Asc s) : Right s := by
  intro p hp
  have hm : p.2 ∈ uscals s := List.mem_map.2 ⟨p, hp, rfl⟩
  rw [uscals_asc h] at hm
  exact (low_asc h _ hm).1
theorem bytes_asc : ∀ (s : List UInt8), Asc s → bytesOf (ofAsc s) = s
  | [], _ => rfl
  | c :: s, h => by
    have hc := h c (by simp)
    have e : Utf.put (c.toNat : Int) = [(c.toNat : Int)] := by
      unfold Utf.put
      rw [if_pos (by omega)]
    have eb : bv (c.toNat : Int) = c := by
      unfold bv
      rw [Int.toNat_natCast]
      exact UInt8.ofNat_toNat
    have := bytes_asc s (fun x hx => h x (by simp [hx]))
    unfold bytesOf ofAsc at this ⊢
    rw [List.map_cons, List.flatMap_cons, this, e]
    simp [eb]
theorem text_asc {s : List UInt8} (h : Asc s) : textOf (ofAsc s) = some s := by
  unfold textOf
  rw [bytes_asc s h, if_pos]
  rw [List.all_eq_true]
  intro r hr
  have := low_asc h r hr
  unfold Utf.isScalar
  simp
  omega
theorem via_asc {f : List Int → List Int} (hf : ∀ l, Low l → f l = l) {s : List UInt8} (h : Asc s) : via f s = s := by
  unfold via
  rw [if_pos (right_asc h), uscals_asc h, hf _ (low_asc h), text_asc h]
  rfl
/-- The document's form. -/
theorem nfc_is (s : List UInt8) : nfc s = composed (decomposed s) := by
  unfold nfc
  split
  · rfl
  · rename_i h
    have ha : Asc s := by
      intro c hc
      simp only [List.any_eq_true, decide_eq_true_eq, not_exists, not_and] at h
      have := h c hc
      omega
    have e1 : decomposed s = s := via_asc (fun l hl => dec_low hl) ha
    rw [e1]
    exact (via_asc (fun l hl => compose_low hl) ha).symm
end Nf
end Go.Proofs.YtlcfakmbcfdgbaaGreat
namespace Go.Proofs.YtlcfakmbcfdgbaaGreat
open Go.RowKit Go.WideShapes

theorem firstBad_iff : ∀ l : List (Nat × Int), Utf.firstBad l < 0 ↔ ∀ p ∈ l, 0 ≤ p.2
  | [] => by simp [Utf.firstBad]
  | p :: l => by
    by_cases h : p.2 < 0
    · rw [Utf.firstBad_neg l h]
      constructor
      · intro h2; omega
      · intro h2; have := h2 p (List.mem_cons_self ..); omega
    · rw [Utf.firstBad_pos l h, firstBad_iff l]
      constructor
      · intro h2 q hq
        rcases List.mem_cons.1 hq with rfl | hq
        · omega
        · exact h2 q hq
      · exact fun h2 q hq => h2 q (List.mem_cons_of_mem _ hq)
theorem right_valid (l : List UInt8) : Utf.valid l = true ↔ Right l := by
  rw [Utf.valid_pieces, decide_eq_true_iff]
  exact firstBad_iff _
/-- The document's scalars of a text, right or wrong. -/
theorem refScals_any (s : ByteArray) (w : World) (hs : s.size ≤ 1000000000) : Calls Tryz.prog 70 #[.string s] w fun e w' => Below w.heap.size w w' ∧ ((Right s.data.toList ∧ ∃ A c, e = .returned (.tuple #[.slice A (uscals s.data.toList).length c, .bool true]) ∧ Reads w' w'.heap.size 1 A (uscals s.data.toList).length (intVs (uscals s.data.toList))) ∨ (¬ Right s.data.toList ∧ ∃ v, e = .returned (.tuple #[v, .bool false]))) := by
  by_cases hR : Right s.data.toList
  · exact (refScal_any s w hs ((right_valid _).2 hR)).mono (by rintro e w' ⟨A, c, he, hb, hr⟩; exact ⟨hb, .inl ⟨hR, A, c, he, hr⟩⟩)
  · have hv : Utf.valid s.data.toList = false := by
      cases h : Utf.valid s.data.toList with
      | false => rfl
      | true => exact absurd ((right_valid _).1 h) hR
    refine (scalars_any s w hs).mono ?_
    rintro e w' ⟨v, he, hb⟩
    rw [hv] at he
    exact ⟨hb, .inr ⟨hR, v, he⟩⟩
theorem sort_len (l : List Int) : (Nf.sort l).length = l.length := Nf.runs_len _ _ (Nat.lt_succ_self _)
set_option maxRecDepth 100000 in
set_option maxHeartbeats 8000000 in
theorem refDecomposed_any (s : ByteArray) (w : World) (hs : s.size ≤ 250000) :
    Calls Tryz.prog 74 #[.string s] w fun e w' => e = .returned (.string (bstr (Nf.decomposed s.data.toList))) ∧ Below w.heap.size w w' := by
  have HSc := hide (refScals_any s w (by omega))
  have hl := uscals_len s.data.toList
  rw [size_list] at hl
  by_cases hR : Right s.data.toList
  · have HV := hide (show Nf.decomposed s.data.toList = (Nf.textOf (Nf.dec (uscals s.data.toList))).getD [] by unfold Nf.decomposed Nf.via; rw [if_pos hR])
    have HOk := hide (uscals_ok hR)
    have HR := hide hR
    have hdl := Nf.decomp_len (uscals s.data.toList)
    have hsl := sort_len (Nf.decomp (uscals s.data.toList))
    have HD := hide (fun A c W h => refDecompose_any (uscals s.data.toList) A c W h HOk.out (by omega))
    have HSo := hide (fun A c W h => refSort_any (Nf.decomp (uscals s.data.toList)) A c W h (by omega))
    have HT := hide (fun A c W h => refText_any (Nf.sort (Nf.decomp (uscals s.data.toList))) A c W h (by omega))
    obtain ⟨bb, hbb⟩ := textV_string (Nf.dec (uscals s.data.toList))
    unfold Nf.dec at hbb
    have HBb := hide hbb
    clear hR hl hdl hsl hbb
    rw [HV.out]
    unfold Nf.dec
    unfold IntsR at HD HSo
    generalize uscals s.data.toList = l at *
    go_enter Tryz.func74, Tryz.ntmps74
    go_wp2_with fail
    refine HSc.out.mono ?_
    rintro e w1 ⟨hb1, ⟨_, A, c, rfl, hr⟩ | ⟨hn, _⟩⟩
    · have HB1 := hide hb1
      have HR1 := hide hr
      clear hb1 hr
      dsimp only
      go_wp2_with fail
      refine (HD.out A c w1 HR1.out).mono ?_
      rintro e w2 ⟨⟨A2, c2, rfl, ho2⟩, hb2⟩
      have HO2 := hide ho2
      have HB2 := hide (HB1.out.trans (hb2.mono HB1.out.size))
      clear ho2 hb2
      dsimp only
      go_wp2_with fail
      refine (HSo.out A2 c2 w2 (Reads.of_own HO2.out)).mono ?_
      rintro e w3 ⟨⟨A3, c3, rfl, ho3⟩, hb3⟩
      have HO3 := hide ho3
      have HB3 := hide (HB2.out.trans (hb3.mono HB2.out.size))
      clear ho3 hb3
      dsimp only
      go_wp2_with fail
      refine (HT.out A3 c3 w3 (Reads.of_own HO3.out)).mono ?_
      rintro e w4 ⟨rfl, hb4⟩
      have HB4 := hide (HB3.out.trans (hb4.mono HB3.out.size))
      clear hb4
      rw [HBb.out]
      dsimp only
      go_wp2
      go_ret
      exact ⟨rfl, HB4.out⟩
    · exact absurd HR.out hn
  · have HV := hide (show Nf.decomposed s.data.toList = s.data.toList by unfold Nf.decomposed Nf.via; rw [if_neg hR])
    have HR := hide hR
    clear hR hl
    rw [HV.out]
    go_enter Tryz.func74, Tryz.ntmps74
    go_wp2_with fail
    refine HSc.out.mono ?_
    rintro e w1 ⟨hb1, ⟨h1, _⟩ | ⟨_, v, rfl⟩⟩
    · exact absurd h1 HR.out
    · have HB1 := hide hb1
      clear hb1
      dsimp only
      go_wp2
      go_ret
      exact ⟨rfl, HB1.out⟩
set_option maxRecDepth 100000 in
set_option maxHeartbeats 8000000 in
theorem refComposed_any (s : ByteArray) (w : World) (hs : s.size ≤ 16000000) :
    Calls Tryz.prog 73 #[.string s] w fun e w' => e = .returned (.string (bstr (Nf.composed s.data.toList))) ∧ Below w.heap.size w w' := by
  have HSc := hide (refScals_any s w (by omega))
  have hl := uscals_len s.data.toList
  rw [size_list] at hl
  by_cases hR : Right s.data.toList
  · have HV := hide (show Nf.composed s.data.toList = (Nf.textOf (Nf.compose (uscals s.data.toList))).getD [] by unfold Nf.composed Nf.via; rw [if_pos hR])
    have HOk := hide (uscals_ok hR)
    have HR := hide hR
    have hdl := Nf.comp_len (uscals s.data.toList)
    have HD := hide (fun A c W h => refCompose_any (uscals s.data.toList) A c W h HOk.out (by omega))
    have HT := hide (fun A c W h => refText_any (Nf.compose (uscals s.data.toList)) A c W h (by omega))
    obtain ⟨bb, hbb⟩ := textV_string (Nf.compose (uscals s.data.toList))
    have HBb := hide hbb
    clear hR hl hdl hbb
    rw [HV.out]
    unfold IntsR at HD
    generalize uscals s.data.toList = l at *
    go_enter Tryz.func73, Tryz.ntmps73
    go_wp2_with fail
    refine HSc.out.mono ?_
    rintro e w1 ⟨hb1, ⟨_, A, c, rfl, hr⟩ | ⟨hn, _⟩⟩
    · have HB1 := hide hb1
      have HR1 := hide hr
      clear hb1 hr
      dsimp only
      go_wp2_with fail
      refine (HD.out A c w1 HR1.out).mono ?_
      rintro e w2 ⟨⟨A2, c2, rfl, ho2⟩, hb2⟩
      have HO2 := hide ho2
      have HB2 := hide (HB1.out.trans (hb2.mono HB1.out.size))
      clear ho2 hb2
      dsimp only
      go_wp2_with fail
      refine (HT.out A2 c2 w2 (Reads.of_own HO2.out)).mono ?_
      rintro e w4 ⟨rfl, hb4⟩
      have HB4 := hide (HB2.out.trans (hb4.mono HB2.out.size))
      clear hb4
      rw [HBb.out]
      dsimp only
      go_wp2
      go_ret
      exact ⟨rfl, HB4.out⟩
    · exact absurd HR.out hn
  · have HV := hide (show Nf.composed s.data.toList = s.data.toList by unfold Nf.composed Nf.via; rw [if_neg hR])
    have HR := hide hR
    clear hR hl
    rw [HV.out]
    go_enter Tryz.func73, Tryz.ntmps73
    go_wp2_with fail
    refine HSc.out.mono ?_
    rintro e w1 ⟨hb1, ⟨h1, _⟩ | ⟨_, v, rfl⟩⟩
    · exact absurd h1 HR.out
    · have HB1 := hide hb1
      clear hb1
      dsimp only
      go_wp2
      go_ret
      exact ⟨rfl, HB1.out⟩
theorem refNfc_any (s : ByteArray) (w : World) (hs : s.size ≤ 250000) :
    Calls Tryz.prog 56 #[.string s] w fun e w' => e = .returned (.string (bstr (Nf.nfc s.data.toList))) ∧ Below w.heap.size w w' := by
  rw [Nf.nfc_is]
  have H1 := hide (refDecomposed_any s w hs)
  have hl := Nf.decomposed_len s.data.toList
  rw [size_list] at hl
  have H2 := hide (fun W => refComposed_any (bstr (Nf.decomposed s.data.toList)) W (by rw [bstr_size]; omega))
  rw [bstr_list] at H2
  clear hl hs
  go_enter Tryz.func56, Tryz.ntmps56
  go_wp2_with fail
  refine H1.out.mono ?_
  rintro e w1 ⟨rfl, hb1⟩
  have HB1 := hide hb1
  clear hb1
  dsimp only
  go_wp2_with fail
  refine (H2.out _).mono ?_
  rintro e w2 ⟨rfl, hb2⟩
  have HB2 := hide (HB1.out.trans (hb2.mono HB1.out.size))
  clear hb2
  dsimp only
  go_wp2
  go_ret
  exact ⟨rfl, HB2.out⟩
end Go.Proofs.YtlcfakmbcfdgbaaGreat
namespace Go.Proofs.YtlcfakmbcfdgbaaGreat
open Go.RowKit Tk

end Go.Proofs.YtlcfakmbcfdgbaaGreat
namespace Go.Proofs.YtlcfakmbcfdgbaaGreat
open Go.RowKit Tk

end Go.Proofs.YtlcfakmbcfdgbaaGreat
namespace Go.Proofs.YtlcfakmbcfdgbaaGreat
open Go.RowKit Tk

end Go.Proofs.YtlcfakmbcfdgbaaGreat
namespace Go.Proofs.YtlcfakmbcfdgbaaGreat
open Go.RowKit Tk

section
variable {w W W' : World} {base X T : Nat} {s : ByteArray} {k k' j : Nat} {kd : Int} {tx : L} {o : Option Tok} {e : Ending}
end
end Go.Proofs.YtlcfakmbcfdgbaaGreat
namespace Go.Proofs.YtlcfakmbcfdgbaaGreat
open Go.RowKit Tk

end Go.Proofs.YtlcfakmbcfdgbaaGreat
namespace Go.Proofs.YtlcfakmbcfdgbaaGreat
open Go.RowKit Tk

end Go.Proofs.YtlcfakmbcfdgbaaGreat
namespace Go.Proofs.YtlcfakmbcfdgbaaGreat
open Go.RowKit Tk

theorem refWithin_any (r a b : Int) (w : World) : Calls Tryz.prog 92 #[.int .i64 r, .int .i64 a, .int .i64 b] w fun e w' => e = .returned (.bool (Tk.within r a b)) ∧ w' = w := by
  unfold Tk.within
  by_cases h1 : a ≤ r
  · by_cases h2 : r ≤ b
    · go_enter Tryz.func92, Tryz.ntmps92
      go_wp2
      go_ret
      simp [h1, h2]
    · go_enter Tryz.func92, Tryz.ntmps92
      go_wp2
      go_ret
      simp [h1, h2]
  · go_enter Tryz.func92, Tryz.ntmps92
    go_wp2
    go_ret
    simp [h1]
    intro h
    omega
theorem charOk_is (r : Int) : charOk r = (decide (r = 9) || (decide (r = 10) || (decide (r = 13) || (Tk.within r 32 55295 || (Tk.within r 57344 65533 || Tk.within r 65536 1114111))))) := by
  have e : (Tk.within r 9 10 || Tk.within r 13 13) = (decide (r = 9) || (decide (r = 10) || decide (r = 13))) := by
    unfold Tk.within
    rw [Bool.eq_iff_iff]
    simp only [Bool.or_eq_true, Bool.and_eq_true, decide_eq_true_eq]
    omega
  unfold charOk
  rw [e]
  simp only [Bool.or_assoc]
set_option maxHeartbeats 4000000 in
theorem refChar_any (r : Int) (w : World) : Calls Tryz.prog 72 #[.int .i64 r] w fun e w' => e = .returned (.bool (charOk r)) ∧ w' = w := by
  rw [charOk_is]
  have HA := hide (refWithin_any r 32 55295)
  have HB := hide (refWithin_any r 57344 65533)
  have HC := hide (refWithin_any r 65536 1114111)
  generalize Tk.within r 32 55295 = a at *
  generalize Tk.within r 57344 65533 = b at *
  generalize Tk.within r 65536 1114111 = c at *
  by_cases h1 : r = 9
  · have th1 : (r == 9) = true := by simpa using h1
    go_enter Tryz.func72, Tryz.ntmps72
    go_wp2
    go_ret
    exact ⟨ret_eq1 (bool_eq (by simp [*])), rfl⟩
  have th1 : (r == 9) = false := by simpa using h1
  by_cases h2 : r = 10
  · have th2 : (r == 10) = true := by simpa using h2
    go_enter Tryz.func72, Tryz.ntmps72
    go_wp2
    go_ret
    exact ⟨ret_eq1 (bool_eq (by simp [*])), rfl⟩
  have th2 : (r == 10) = false := by simpa using h2
  by_cases h3 : r = 13
  · have th3 : (r == 13) = true := by simpa using h3
    go_enter Tryz.func72, Tryz.ntmps72
    go_wp2
    go_ret
    exact ⟨ret_eq1 (bool_eq (by simp [*])), rfl⟩
  have th3 : (r == 13) = false := by simpa using h3
  cases a with
  | true =>
    go_enter Tryz.func72, Tryz.ntmps72
    go_wp2_with fail
    refine (HA.out _).mono ?_
    rintro e w' ⟨rfl, rfl⟩
    go_wp2
    go_ret
    exact ⟨ret_eq1 (bool_eq (by simp [*])), rfl⟩
  | false =>
    cases b with
    | true =>
      go_enter Tryz.func72, Tryz.ntmps72
      go_wp2_with fail
      refine (HA.out _).mono ?_
      rintro e w' ⟨rfl, rfl⟩
      go_wp2_with fail
      refine (HB.out _).mono ?_
      rintro e w' ⟨rfl, rfl⟩
      go_wp2
      go_ret
      exact ⟨ret_eq1 (bool_eq (by simp [*])), rfl⟩
    | false =>
      cases c with
      | true =>
        go_enter Tryz.func72, Tryz.ntmps72
        go_wp2_with fail
        refine (HA.out _).mono ?_
        rintro e w' ⟨rfl, rfl⟩
        go_wp2_with fail
        refine (HB.out _).mono ?_
        rintro e w' ⟨rfl, rfl⟩
        go_wp2_with fail
        refine (HC.out _).mono ?_
        rintro e w' ⟨rfl, rfl⟩
        go_wp2
        go_ret
        exact ⟨ret_eq1 (bool_eq (by simp [*])), rfl⟩
      | false =>
        go_enter Tryz.func72, Tryz.ntmps72
        go_wp2_with fail
        refine (HA.out _).mono ?_
        rintro e w' ⟨rfl, rfl⟩
        go_wp2_with fail
        refine (HB.out _).mono ?_
        rintro e w' ⟨rfl, rfl⟩
        go_wp2_with fail
        refine (HC.out _).mono ?_
        rintro e w' ⟨rfl, rfl⟩
        go_wp2
        go_ret
        exact ⟨ret_eq1 (bool_eq (by simp [*])), rfl⟩

set_option maxHeartbeats 4000000 in
theorem refBad_any (s : ByteArray) (w : World) (hs : s.size ≤ 1000000000) :
    Calls Tryz.prog 55 #[.string s] w fun e w' => e = .returned (.int .i64 (bad s.data.toList)) ∧ w' = w := by
  obtain ⟨z, hz⟩ : ∃ z, bad s.data.toList = z := ⟨_, rfl⟩
  have Hz := hide (show (match ((Utf.from_ 0 (s.data.toList.drop 0)).find? (fun p => !charOk p.2)).map (·.1) with | some k => (k : Int) | none => -1) = z from by rw [← hz]; rfl)
  rw [hz]
  clear hz
  go_enter Tryz.func55, Tryz.ntmps55
  go_wp2
  go_loopg [3] s.size (fun g v wr => ∃ k : Nat, g = s.size - k ∧ k ≤ s.size ∧ v = .int .i64 (k : Int) ∧ (match ((Utf.from_ k (s.data.toList.drop k)).find? (fun p => !charOk p.2)).map (·.1) with | some k => (k : Int) | none => -1) = z ∧ wr = w)
  case atStart => exact ⟨0, rfl, by omega, rfl, Hz.out, rfl⟩
  case round =>
    obtain ⟨k, hg, hk, rfl, hz, rfl⟩ := hrel
    have Hg := hide hg
    by_cases hlt : k < s.size
    · have hN := next_any s (k : Int) wr (by omega) (by omega) hs
      rw [Int.toNat_natCast] at hN
      have hfr := from_at s k hlt
      have hp := piece_at' s k hlt
      rw [hfr, List.find?_cons] at hz
      obtain ⟨f, hf⟩ : ∃ f, Utf.piece (s.data.toList.drop k) = f := ⟨_, rfl⟩
      rw [hf] at hN hz hp
      have HC := hide (refChar_any f.1)
      have hneg := charOk_neg f.1
      dsimp only at hz
      cases hc : charOk f.1 with
      | false =>
        rw [hc] at hz HC
        have Hz2 := hide (show (k : Int) = z from hz)
        by_cases hn : f.1 < 0
        · have HN := hide (show Calls Tryz.prog 71 #[.string s, .int .i64 (k : Int)] wr fun e w' => e = .returned (.tuple #[.int .i64 0, .int .i64 0, .bool false]) ∧ wr = w' from by
            unfold nextT at hN; rw [if_pos hn] at hN; exact hN)
          clear hN hz hfr hf hg hc hneg hn
          go_wp2_with fail
          refine HN.out.mono ?_
          rintro e w' ⟨rfl, rfl⟩
          go_wp2
          go_ret
          exact ⟨ret_eq1 (int_eq Hz2.out), rfl⟩
        · have HN := hide (show Calls Tryz.prog 71 #[.string s, .int .i64 (k : Int)] wr fun e w' => e = .returned (.tuple #[.int .i64 f.1, .int .i64 f.2, .bool true]) ∧ wr = w' from by
            unfold nextT at hN; rw [if_neg hn] at hN; exact hN)
          clear hN hz hfr hf hg hc hneg hn
          go_wp2_with fail
          refine HN.out.mono ?_
          rintro e w' ⟨rfl, rfl⟩
          go_wp2_with fail
          refine (HC.out _).mono ?_
          rintro e w' ⟨rfl, rfl⟩
          go_wp2
          go_ret
          exact ⟨ret_eq1 (int_eq Hz2.out), rfl⟩
      | true =>
        rw [hc] at hz HC
        have hn : ¬ f.1 < 0 := fun h => by rw [hneg h] at hc; cases hc
        have Hz2 := hide hz
        have HN := hide (show Calls Tryz.prog 71 #[.string s, .int .i64 (k : Int)] wr fun e w' => e = .returned (.tuple #[.int .i64 f.1, .int .i64 f.2, .bool true]) ∧ wr = w' from by
            unfold nextT at hN; rw [if_neg hn] at hN; exact hN)
        obtain ⟨m, hm⟩ : ∃ m : Nat, f.2 = m := ⟨f.2.toNat, by omega⟩
        have e2 : f.2.toNat = m := by omega
        rw [e2] at Hz2
        rw [hm] at HN hp
        clear hN hz hfr hf hg hc hneg hn e2 hm
        go_wp2_with fail
        refine HN.out.mono ?_
        rintro e w' ⟨rfl, rfl⟩
        go_wp2_with fail
        refine (HC.out _).mono ?_
        rintro e w' ⟨rfl, rfl⟩
        go_wp2
        go_roundg (s.size - (k + m))
        case measure => have := Hg.out; omega
        case rel => exact ⟨k + m, rfl, by omega, by go_num, Hz2.out, rfl⟩
    · have hkz : k = s.size := by omega
      subst hkz
      have Hz2 := hide (show (-1 : Int) = z from by rw [← hz, List.drop_of_length_le (by rw [size_list]; exact Nat.le_refl _)]; rfl)
      clear hz
      go_wp2
      go_ret
      exact ⟨ret_eq1 (int_eq Hz2.out), rfl⟩
end Go.Proofs.YtlcfakmbcfdgbaaGreat
