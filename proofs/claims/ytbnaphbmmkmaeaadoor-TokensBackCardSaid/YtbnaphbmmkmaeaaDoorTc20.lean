/- Tokens: the law of writing and reading again: the walk. (Printed by wip/genTkYl.py.) · Tokens: what a row's condition on the listed variables gives a walk; the wrap that keeps the condition and the world's shape; a row's last step. -/
import Derived.Test.YtbnaphbmmkmaeaaDoorRows
import Derived.Test.YtbnaphbmmkmaeaaDoorTc03
import Derived.Test.YtbnaphbmmkmaeaaDoorTc19
import Derived.ProofKit
import Derived.OpenShut
import Derived.LaidMore
import Derived.Lay
import Derived.HandedShaped
import Derived.Shelf.Vars
import Derived.SevenTiedAt
import Derived.Stop.Joined
set_option linter.unusedSimpArgs false
set_option linter.unusedVariables false
namespace Go.Proofs.YtbnaphbmmkmaeaaDoor
open Go.RowKit Tk

set_option maxHeartbeats 32000000 in
set_option maxRecDepth 20000 in
theorem lawBack_any (s : ByteArray) (w : World) (hg : Gl w) (hw6 : 6 ≤ w.heap.size) :
    Calls Tryd.prog 6 #[.string s] w fun e w' => e = .returned (.bool true) ∧ Below w.heap.size w w' := by
  have HWk := hide (fun W (h : Below w.heap.size w W) => wakes_any W (hg.below h) (Nat.le_trans hw6 h.size))
  by_cases hbig : 3000 < s.size
  · have hd : decide ((3000 : Int) < (s.size : Int)) = true := decide_eq_true (by omega)
    go_enter Tryd.func6, Tryd.ntmps6
    go_wp2_with fail
    refine (HWk.out _ (Below.refl w.heap.size w)).mono ?_
    rintro e wz ⟨rfl, bz⟩
    go_wp2
    go_ret
    exact ⟨rfl, (Below.refl w.heap.size w).trans (bz.mono (Below.refl w.heap.size w).size)⟩
  have hd : decide ((3000 : Int) < (s.size : Int)) = false := decide_eq_false (by omega)
  have hs3 : s.size ≤ 3000 := by omega
  obtain ⟨D, hD⟩ : ∃ D, s.data.toList = D := ⟨_, rfl⟩
  have HDl := hide (show D.length = s.size by rw [← hD, size_list])
  have HA := hide (tks_any w s hg hw6 (by omega))
  have HA2 := hide (fun W (t : ByteArray) (h : Below w.heap.size w W) (ht : t.size ≤ 1000000) => tks_any W t (hg.below h) (Nat.le_trans hw6 h.size) ht)
  rw [hD] at HA
  clear hD hg
  go_enter Tryd.func6, Tryd.ntmps6
  go_wp2_with fail
  refine HA.out.mono ?_
  rintro e w1 ⟨xs, A, c, n, ok, hP, hxl, hxc, rfl, b1, hr, -, -, hi⟩
  have HP := hide hP
  have HT := hide (TkL.of hr hi)
  have Hi := hide hi
  have B1 := hide b1
  obtain ⟨N, hN⟩ : ∃ N, xs.length = N := ⟨_, rfl⟩
  have HN := hide hN
  rw [hN] at hxl hxc ⊢
  have hN3 : N ≤ 3000 := by have := HDl.out; omega
  clear hP hr hi b1 hN HA hd hbig hxl hxc
  go_wp2
  go_loopg [6, 7] N (fun g vm vi wr => ∃ (j : Nat) (A2 : Option Addr) (c2 : Nat), g = N - j ∧ j ≤ N ∧ vi = .int .i64 (j : Int) ∧ vm = .slice A2 (kept (xs.take j)).length c2 ∧ wr.ownsRow w1.heap.size 29 7 (.slice A2 (kept (xs.take j)).length c2) (kept (xs.take j)).length (tvRows (kept (xs.take j))) ∧
    Below w1.heap.size w1 wr ∧ Apart ((kept (xs.take j)).map (·.t)))
  case atStart => exact ⟨0, none, 0, rfl, Nat.zero_le _, rfl, rfl, World.ownsRow_nil _ _ _ _, Below.refl _ _, trivial⟩
  case round =>
    obtain ⟨j, A2, c2, hgg, hj, rfl, rfl, hrow, hb, hap⟩ := hrel
    have Hg := hide hgg
    have Hrow := hide hrow
    have Hb := hide hb
    have Hap := hide hap
    have HB := hide (B1.out.trans (hb.mono B1.out.size))
    have hkl : (kept (xs.take j)).length ≤ 3000 := by have := kept_len xs j; have := HN.out; omega
    clear hgg hrow hb hap
    by_cases hlt : j < N
    · obtain ⟨x, hx⟩ : ∃ x, xs[j]? = some x := ⟨_, List.getElem?_eq_getElem (by rw [HN.out]; exact hlt)⟩
      obtain ⟨b, off, rfl, hbb, hat⟩ := HT.out.at_ hx
      have hat := (show GtAt wr b (off + j * 7) x.g from ⟨(Hb.out.cell hbb).trans hat.c0, (Hb.out.cell hbb).trans hat.c1, (Hb.out.cell hbb).trans hat.c2, (Hb.out.cell hbb).trans hat.c3, (Hb.out.cell hbb).trans hat.c4, (Hb.out.cell hbb).trans hat.c5, (Hb.out.cell hbb).trans hat.c6⟩)
      have x0 : wr.cell? ⟨b, off + j * 7, none⟩ = some (.int .i8 x.t.kind) := hat.c0
      have x1 : wr.cell? ⟨b, off + j * 7 + 1, none⟩ = some (.string (bstr x.t.name)) := hat.c1
      have x2 : wr.cell? ⟨b, off + j * 7 + 2, none⟩ = some (.slice x.A x.t.attrs.length x.c) := by have := hat.c2; rw [show x.g.as_.length = x.t.attrs.length from List.length_map ..] at this; exact this
      have x3 : wr.cell? ⟨b, off + j * 7 + 3, none⟩ = some (.bool x.t.empty) := hat.c3
      have x4 : wr.cell? ⟨b, off + j * 7 + 4, none⟩ = some (.string (bstr x.t.text)) := hat.c4
      have x5 : wr.cell? ⟨b, off + j * 7 + 5, none⟩ = some (.int .i64 (x.t.at_ : Int)) := hat.c5
      have x6 : wr.cell? ⟨b, off + j * 7 + 6, none⟩ = some (.int .i64 (x.t.end_ : Int)) := hat.c6
      have Hkt := hide (kept_take hx)
      have Hkx := hide (show x.row = [.int .i8 x.t.kind, .string (bstr x.t.name), .slice x.A x.t.attrs.length x.c, .bool x.t.empty, .string (bstr x.t.text), .int .i64 (x.t.at_ : Int), .int .i64 (x.t.end_ : Int)] from rfl)
      clear hat hx
      obtain ⟨ms, hms⟩ : ∃ ms, kept (xs.take j) = ms := ⟨_, rfl⟩
      rw [hms] at Hrow Hap Hkt hkl ⊢
      clear hms
      by_cases h4 : x.t.kind = 4
      · have hk : kept (xs.take (j + 1)) = ms := by rw [Hkt.out, if_pos h4]
        have Hk := hide hk
        have t4 : (x.t.kind == 4) = true := by simpa using h4
        clear hk Hkt h4
        go_wp2
        go_roundg (N - (j + 1))
        case measure => have := Hg.out; omega
        case rel => exact ⟨j + 1, A2, c2, rfl, by omega, by go_num, by rw [Hk.out], by rw [Hk.out]; exact Hrow.out, Hb.out, by rw [Hk.out]; exact Hap.out⟩
      · have hk : kept (xs.take (j + 1)) = ms ++ [x] := by rw [Hkt.out, if_neg h4]
        have Hk := hide hk
        have t4 : (x.t.kind == 4) = false := by simpa using h4
        clear hk Hkt h4
        by_cases h2 : x.t.kind = 2
        · have t2 : (x.t.kind == 2) = true := by simpa using h2
          have hcs : ms = [] ∨ ∃ ys y, ms = ys ++ [y] := by
            rcases List.eq_nil_or_concat ms with h | ⟨ys, y, h⟩
            · exact .inl h
            · exact .inr ⟨ys, y, by rw [h, List.concat_eq_append]⟩
          rcases hcs with hms0 | ⟨ys, y, hys⟩
          · have hm0 : ms.length = 0 := by rw [hms0]; rfl
            have hlm : decide (0 < ms.length) = false := decide_eq_false (by omega)
            have hlm0 : decide ((0 : Int) < (ms.length : Int)) = false := decide_eq_false (by omega)
            have HM0 := hide hms0
            clear hms0 hm0
            have Hrw := hide (show x.row = [.int .i8 2, .string (bstr x.t.name), .slice x.A x.t.attrs.length x.c, .bool x.t.empty, .string (bstr x.t.text), .int .i64 (x.t.at_ : Int), .int .i64 (x.t.end_ : Int)] from by have := Hkx.out; rw [h2] at this; exact this)
            have Hap2 := hide (show Apart ((ms ++ [x]).map (·.t)) from by rw [List.map_append]; exact apart_snoc Hap.out (fun u hu => by rw [HM0.out] at hu; cases hu))
            go_wp2_with (at_builtin; refine wpList_append_elem_at _ rfl _ _ 23 rfl w1.heap.size 29 _ 7 88 Tryd.underlying23 info_tok rfl (by omega) (.slice A2 ms.length c2) ms.length (tvRows ms) rfl (Hrow.out.alloc _) [.int .i8 2, .string (bstr x.t.name), .slice x.A x.t.attrs.length x.c, .bool x.t.empty, .string (bstr x.t.text), .int .i64 (x.t.at_ : Int), .int .i64 (x.t.end_ : Int)] rfl (fun u hu => tv_one x u (by rw [Hrw.out]; exact hu)) wr.heap.size (Blk.new wr 29 _) rfl (by unfold maxLen; omega) (by omega) (by have := Hb.out.size; simp; omega) ?_)
            intro gg cap w8 hown8 hgrow8 hlt8
            have Hb8 := hide ((Hb.out.alloc Hb.out.size (.cells #[.int .i8 2, .string (bstr x.t.name), .slice x.A x.t.attrs.length x.c, .bool x.t.empty, .string (bstr x.t.text), .int .i64 (x.t.at_ : Int), .int .i64 (x.t.end_ : Int)] 29)).grown hgrow8 (by have := Hb.out.size; simp; omega) fun q e => (own_isT Hrow.out q e).1)
            have Ho8 := hide (show w8.ownsRow w1.heap.size 29 7 (.slice (some ⟨gg, 0, none⟩) (ms ++ [x]).length cap) (ms ++ [x]).length (tvRows (ms ++ [x])) from by rw [List.length_append, tvRows_snoc, Hrw.out]; exact hown8)
            clear hown8 hgrow8
            go_wp2
            go_roundg (N - (j + 1))
            case measure => have := Hg.out; omega
            case rel => exact ⟨j + 1, some ⟨gg, 0, none⟩, cap, rfl, by omega, by go_num, by rw [Hk.out, List.length_append]; rfl, by rw [Hk.out]; exact Ho8.out, Hb8.out, by rw [Hk.out]; exact Hap2.out⟩
          · have hml : ms.length = ys.length + 1 := by rw [hys, List.length_append]; rfl
            have hyl : ms[ys.length]? = some y := by rw [hys, List.getElem?_append_right (Nat.le_refl _), Nat.sub_self]; rfl
            have HTm := hide (Reads.of_own Hrow.out)
            have hgl := gts_at (ms.map Tv.g) ys.length (by rw [List.length_map]; omega) 0 (by omega)
            obtain ⟨bm, offm, rfl, hbm, hcm⟩ := HTm.out.2 (by omega)
            have y0 : wr.cell? ⟨bm, offm + ys.length * 7, none⟩ = some (.int .i8 y.t.kind) := by
              rw [List.getElem_map] at hgl
              have hyy : ms[ys.length]'(by omega) = y := by
                have := List.getElem?_eq_some_iff.1 hyl
                obtain ⟨_, h⟩ := this
                exact h
              rw [hyy] at hgl
              have := hcm (ys.length * 7 + 0) _ (by rw [tvRows_g]; exact hgl)
              exact this
            have hlm : decide ((0 : Int) < (ms.length : Int)) = true := decide_eq_true (by omega)
            have hlm' : decide (0 < ms.length) = true := decide_eq_true (by omega)
            have hwl : IntKind.i64.wrap ((ms.length : Int) - 1) = (ys.length : Int) := by rw [IntWalk.i64_in _ (by omega)]; omega
            have hyb : ys.length < ms.length := by omega
            have Hys := hide hys
            clear hyl hgl hcm hys hml
            by_cases hy2 : y.t.kind = 2
            · have u2 : (y.t.kind == 2) = true := by simpa using hy2
              clear hy2
              go_wp2_with fail
              refine (HWk.out _ (HB.out)).mono ?_
              rintro e wz ⟨rfl, bz⟩
              go_wp2
              go_ret
              exact ⟨rfl, (HB.out).trans (bz.mono (HB.out).size)⟩
            · have u2 : (y.t.kind == 2) = false := by simpa using hy2
              have Hrw := hide (show x.row = [.int .i8 2, .string (bstr x.t.name), .slice x.A x.t.attrs.length x.c, .bool x.t.empty, .string (bstr x.t.text), .int .i64 (x.t.at_ : Int), .int .i64 (x.t.end_ : Int)] from by have := Hkx.out; rw [h2] at this; exact this)
              have Hap2 := hide (show Apart ((ms ++ [x]).map (·.t)) from by rw [List.map_append]; exact apart_snoc Hap.out (fun u hu => by rw [Hys.out, List.map_append] at hu; simp at hu; subst hu; exact fun h => hy2 h.1))
              go_wp2_with (at_builtin; refine wpList_append_elem_at _ rfl _ _ 23 rfl w1.heap.size 29 _ 7 88 Tryd.underlying23 info_tok rfl (by omega) (.slice (some ⟨bm, offm, none⟩) ms.length c2) ms.length (tvRows ms) rfl (Hrow.out.alloc _) [.int .i8 2, .string (bstr x.t.name), .slice x.A x.t.attrs.length x.c, .bool x.t.empty, .string (bstr x.t.text), .int .i64 (x.t.at_ : Int), .int .i64 (x.t.end_ : Int)] rfl (fun u hu => tv_one x u (by rw [Hrw.out]; exact hu)) wr.heap.size (Blk.new wr 29 _) rfl (by unfold maxLen; omega) (by omega) (by have := Hb.out.size; simp; omega) ?_)
              intro gg cap w8 hown8 hgrow8 hlt8
              have Hb8 := hide ((Hb.out.alloc Hb.out.size (.cells #[.int .i8 2, .string (bstr x.t.name), .slice x.A x.t.attrs.length x.c, .bool x.t.empty, .string (bstr x.t.text), .int .i64 (x.t.at_ : Int), .int .i64 (x.t.end_ : Int)] 29)).grown hgrow8 (by have := Hb.out.size; simp; omega) fun q e => (own_isT Hrow.out q e).1)
              have Ho8 := hide (show w8.ownsRow w1.heap.size 29 7 (.slice (some ⟨gg, 0, none⟩) (ms ++ [x]).length cap) (ms ++ [x]).length (tvRows (ms ++ [x])) from by rw [List.length_append, tvRows_snoc, Hrw.out]; exact hown8)
              clear hown8 hgrow8
              go_wp2
              go_roundg (N - (j + 1))
              case measure => have := Hg.out; omega
              case rel => exact ⟨j + 1, some ⟨gg, 0, none⟩, cap, rfl, by omega, by go_num, by rw [Hk.out, List.length_append]; rfl, by rw [Hk.out]; exact Ho8.out, Hb8.out, by rw [Hk.out]; exact Hap2.out⟩
        · have t2 : (x.t.kind == 2) = false := by simpa using h2
          have Hrw := hide (show x.row = [.int .i8 x.t.kind, .string (bstr x.t.name), .slice x.A x.t.attrs.length x.c, .bool x.t.empty, .string (bstr x.t.text), .int .i64 (x.t.at_ : Int), .int .i64 (x.t.end_ : Int)] from Hkx.out)
          have Hap2 := hide (show Apart ((ms ++ [x]).map (·.t)) from by rw [List.map_append]; exact apart_snoc Hap.out (fun u hu h => h2 h.2))
          go_wp2_with (at_builtin; refine wpList_append_elem_at _ rfl _ _ 23 rfl w1.heap.size 29 _ 7 88 Tryd.underlying23 info_tok rfl (by omega) (.slice A2 ms.length c2) ms.length (tvRows ms) rfl (Hrow.out.alloc _) [.int .i8 x.t.kind, .string (bstr x.t.name), .slice x.A x.t.attrs.length x.c, .bool x.t.empty, .string (bstr x.t.text), .int .i64 (x.t.at_ : Int), .int .i64 (x.t.end_ : Int)] rfl (fun u hu => tv_one x u (by rw [Hrw.out]; exact hu)) wr.heap.size (Blk.new wr 29 _) rfl (by unfold maxLen; omega) (by omega) (by have := Hb.out.size; simp; omega) ?_)
          intro gg cap w8 hown8 hgrow8 hlt8
          have Hb8 := hide ((Hb.out.alloc Hb.out.size (.cells #[.int .i8 x.t.kind, .string (bstr x.t.name), .slice x.A x.t.attrs.length x.c, .bool x.t.empty, .string (bstr x.t.text), .int .i64 (x.t.at_ : Int), .int .i64 (x.t.end_ : Int)] 29)).grown hgrow8 (by have := Hb.out.size; simp; omega) fun q e => (own_isT Hrow.out q e).1)
          have Ho8 := hide (show w8.ownsRow w1.heap.size 29 7 (.slice (some ⟨gg, 0, none⟩) (ms ++ [x]).length cap) (ms ++ [x]).length (tvRows (ms ++ [x])) from by rw [List.length_append, tvRows_snoc, Hrw.out]; exact hown8)
          clear hown8 hgrow8
          go_wp2
          go_roundg (N - (j + 1))
          case measure => have := Hg.out; omega
          case rel => exact ⟨j + 1, some ⟨gg, 0, none⟩, cap, rfl, by omega, by go_num, by rw [Hk.out, List.length_append]; rfl, by rw [Hk.out]; exact Ho8.out, Hb8.out, by rw [Hk.out]; exact Hap2.out⟩
    · have hjN : j = N := by omega
      subst hjN
      rw [List.take_of_length_le (by rw [HN.out]; exact Nat.le_refl _)] at Hrow Hap hkl ⊢
      have HIm := hide (show ∀ x ∈ kept xs, x.In w.heap.size wr from fun x hx => ((Hi.out x (List.mem_filter.1 hx).1).below Hb.out))
      have HTm := hide (TkL.of (Reads.of_own Hrow.out) HIm.out)
      have HRd := hide (kept_read HP.out)
      have hjl := allP_join HP.out fun t => !(t.kind == 4)
      rw [← kept_map] at hjl
      have Hjl := hide (show (Tk.join ((kept xs).map (·.t))).length ≤ 3000 by have := HDl.out; omega)
      have Hsm := hide (show ∀ y ∈ (kept xs).map Tv.g, y.as_.length ≤ 3000 from fun y hy => by
        obtain ⟨z, hz, rfl⟩ := List.mem_map.1 hy
        have := attrs_small HP.out (List.mem_map_of_mem (f := Tv.g) (List.mem_filter.1 hz).1)
        have := HDl.out
        omega)
      have HJ := hide (show Calls Tryd.prog 13 #[.slice A2 (kept xs).length c2] wr fun e w' => e = .returned (.string (bstr (Tk.join ((kept xs).map (·.t))))) ∧ Below wr.heap.size wr w' from by
        have h := join_any A2 c2 wr.heap.size ((kept xs).map Tv.g) wr HTm.out (Nat.le_refl _) (by rw [List.length_map]; omega) (fun x hx => by have := Hsm.out x hx; omega) (by rw [joinG_g]; have := Hjl.out; omega)
        rw [List.length_map, joinG_g] at h
        exact h)
      obtain ⟨ms, hms⟩ : ∃ ms, kept xs = ms := ⟨_, rfl⟩
      rw [hms] at Hrow Hap HTm HRd Hjl Hsm HJ hkl ⊢
      obtain ⟨J, hJ⟩ : ∃ J, Tk.join (ms.map (·.t)) = J := ⟨_, rfl⟩
      rw [hJ] at Hjl HJ
      have HJe := hide hJ
      clear hjl hms HIm hJ
      go_wp2_with fail
      refine HJ.out.mono ?_
      rintro e w3 ⟨rfl, b3⟩
      have B3 := hide (HB.out.trans (b3.mono HB.out.size))
      have HT3 := hide ((HTm.out.below b3).more b3.size)
      clear b3 HJ
      go_wp2_with fail
      refine (HA2.out _ (bstr J) B3.out (by rw [bstr_size]; have := Hjl.out; omega)).mono ?_
      rintro e w4 ⟨xs2, A3, c3, n2, ok2, hP2, hxl2, hxc2, rfl, b4, hr2, -, -, hi2⟩
      rw [bstr_list] at hP2 hxl2
      have hbl := back_law (m := ms.map (·.t)) HRd.out Hap.out (by rw [HJe.out]; exact hP2)
      rw [HJe.out] at hbl
      obtain ⟨rfl, rfl, hsame⟩ := hbl
      have B4 := hide (B3.out.trans (b4.mono B3.out.size))
      have HS := hide (show Calls Tryd.prog 10 #[.slice A2 ms.length c2, .slice A3 xs2.length c3] w4 fun e w' => e = .returned (.bool true) ∧ Below w4.heap.size w4 w' from by
        have h := same_any A2 A3 c2 c3 w4.heap.size (ms.map Tv.g) (xs2.map Tv.g) w4 ((HT3.out.below b4).more b4.size) (TkL.of hr2 hi2) (Nat.le_refl _) (by rw [List.length_map]; omega) (by rw [List.length_map]; have := Hjl.out; omega) (fun y hy => by have := Hsm.out y hy; omega) (fun y hy => by have := attrs_small hP2 hy; have := Hjl.out; omega)
        rw [List.length_map, List.length_map, decide_eq_true (gs_bare ms xs2 (of_decide_eq_true hsame))] at h
        exact h)
      have hbs : (bstr J).size = J.length := bstr_size J
      clear hP2 hxl2 hxc2 hr2 hi2 b4 hsame
      go_wp2_with fail
      refine HS.out.mono ?_
      rintro e w5 ⟨rfl, b5⟩
      have B5 := hide (B4.out.trans (b5.mono B4.out.size))
      clear b5
      go_wp2_with fail
      refine (HWk.out _ (B5.out)).mono ?_
      rintro e wz ⟨rfl, bz⟩
      go_wp2
      go_ret
      exact ⟨rfl, (B5.out).trans (bz.mono (B5.out).size)⟩
end Go.Proofs.YtbnaphbmmkmaeaaDoor
namespace Go.Proofs.YtbnaphbmmkmaeaaDoor
open Go.ChangeShapes Go.WideShapes Go.ChangeAt Go.RowKit

theorem own0 : ownKnob Tryd.prog.godebug = none := by kernel_rfl
section
variable {H : Type} {enc : TypeId × Value → H}
/-- The wrap: the condition X and the world's shape are handed to the contract. -/
theorem returnsInHanded_of_both {a : Assume} {C : Checked} {os : Os} {f : FuncId} {fn : Func} {s : ChangeSpec} {conds : List PathCond} {apart fresh handsOn again : Bool} {X : World → Array Value → Prop}
    (hX : ∀ (w w' : World) (args : Array Value), w.heap = w'.heap → X w args → X w' args)
    (own : ownKnob C.prog.godebug = none) (started : os.Started) (noInit : C.prog.inits.idxOf? f = none) (hfn : C.prog.funcs[f]? = some fn)
    (witness : ∃ (w : World) (tape : Tape) (i : Input), w.os = os ∧ (w.forCall tape i).Shaped C.prog ∧ i.vars = [] ∧ Input.okWide C.prog (w.forCall tape i) .any w.heap.size f i ∧
      ((s.pre enc C.prog fn conds apart (w.forCall tape i).memory i.args ∧ X (w.forCall tape i).memory i.args) ∧ sizedMet enc C.prog fn (OpenSpec.ofChange s) apart (w.forCall tape i).memory i.args) ∧ a.holds C.prog (lone (Frame.enter C.prog f i.args .normal) [] (w.forCall tape i)))
    (contract : ∀ (W : World) (base : Nat) (args : Array Value) (ds gs : List (DataW H)) (before : List MemPlace),
      (∀ (j : Nat) t v, fn.params[j]? = some t → args[j]? = some v → Value.okWide C.prog W .any base t v) →
      DataW.Whole enc C.prog fn.params.toList s.vars apart W args.toList ds gs before →
      conds.all (PathCond.test C.prog ⟨fn.params.toList, ds, s.plain.varTypes C.prog, gs⟩) = true →
      (DataW.weightsEach C.prog (fn.params.toList ++ s.plain.varTypes C.prog) (ds ++ gs)).all (· ≤ reachBytes) = true → X W args → W.ShapedOpen C.prog →
      Calls C.prog f args W fun e W' => ∃ v, e = .returned v ∧ s.post enc C.prog fn apart fresh handsOn again W args v W') :
    ReturnsInHanded a C os f .any (fun w args => (s.pre enc C.prog fn conds apart w args ∧ X w args) ∧ sizedMet enc C.prog fn (OpenSpec.ofChange s) apart w args) (s.post enc C.prog fn apart fresh handsOn again) := by
  refine returnsInHanded_of_calls own started noInit witness ?_
  intro w tape i _ hsh _ hok hpre _
  obtain ⟨_, _, _, fn', hfn', _, _, _, _, hval⟩ := hok
  have e : fn' = fn := Option.some.inj (hfn'.symm.trans hfn)
  subst e
  obtain ⟨⟨⟨ds, gs, before, hw, hc⟩, hx⟩, hz⟩ := hpre
  have hw' := DataW.Whole.of_heap (w' := w.forCall tape i) (by rfl) hw
  refine (contract (w.forCall tape i) w.heap.size i.args ds gs before hval hw' hc (hz.weights hw) (hX _ _ _ (by rfl) hx) hsh).mono fun e W' ⟨v, he, hp⟩ => ?_
  subst he
  exact ChangeSpec.post_blind hp
/-- The row's last step, where of the world behind the call 'Below' alone is known. -/
theorem shut_below {P : Program} {f : Func} {s : ChangeSpec} {apart fresh handsOn again : Bool} {W W' : World} {args : Array Value} {v : Value} {ds gs : List (DataW H)} {before pa pv : List MemPlace}
    (hW : DataW.Whole enc P f.params.toList s.vars apart W args.toList ds gs before)
    (hres : ∀ (b : Nat) (sp : Nat → Bool) (hd : Bool), DataW.TrodAll enc P W' b sp hd f.resultTypes.toList (v.resultList f.resultTypes.size) (s.fn H (ds ++ gs)).results [])
    (hargs : ∀ sp : Nat → Bool, (∀ p ∈ before, sp p.block = true) → DataW.TrodAll enc P W' 0 sp true f.params.toList args.toList (s.fn H (ds ++ gs)).args pa)
    (hvars : ∀ sp : Nat → Bool, (∀ p ∈ before, sp p.block = true) → DataW.TrodVars enc P W' sp s.vars (s.fn H (ds ++ gs)).vars pv)
    (hps : before = pa ++ pv) (hb : Below W.heap.size W W')
    (hok : ∀ (j : Nat) (t : TypeId) (r : Value), f.resultTypes[j]? = some t → (v.resultList f.resultTypes.size)[j]? = some r → Value.okWide P W' .any 0 t r) :
    s.post enc P f apart fresh handsOn again W args v W' := by
  have hlt : ∀ p ∈ before, p.block < W.heap.size := fun p hp => hW.lt p hp
  have hold : ∀ p ∈ before, (fun b => decide (b < W.heap.size)) p.block = true := fun p hp => by simpa using hlt p hp
  refine ⟨ds, gs, before, [], pa, pv, hW, hres _ _ _, hargs _ hold, hvars _ hold, World.keptBut_mono (fun p hp => ⟨hp, ?_⟩) (hb.frame (· ∈ before)), fun _ => ?_⟩
  · rw [hps, List.mem_append] at hp
    exact Or.inr hp
  · obtain ⟨_, _, _, _, _, hz, hn⟩ := hW
    refine ⟨hok, _, _, ([] ++ pa) ++ pv, ⟨[] ++ pa, pv, trodAll_append (hargs _ (fun _ _ => rfl)) (hres _ _ _), hvars _ (fun _ _ => rfl), rfl, ?_, ?_⟩, ?_⟩
    · intro b off hp
      have hin : MemPlace.cell b off ∈ before := by rw [hps]; simpa using hp
      rw [hb.frozen (hlt _ hin)]
      exact hz b off hin
    · intro ha
      have := hn ha
      rw [hps] at this
      simpa using this
    · intro p hp _
      rw [hps]
      simpa using hp
end
/-- A cell of a listed table of integers, out of its reading. -/
theorem table_cell {W : World} {name : String} {d : DataW Unit} {parts : List (DataW Unit)} {g t e n : Nat} {k : IntKind} {cs : Array Value} {fuel : Nat} {p : List MemPlace} (hd : d = .agg parts)
    (hg : Tryd.prog.globalNamed name = some g) (hv : W.var? Tryd.prog name = some cs) (hu : Tryd.prog.underlying t = some (.array n e)) (hue : Tryd.prog.underlying e = some (.int k)) (hce : Tryd.prog.cellsOf e = 1)
    (h : DataW.trod (fun x : TypeId × Value => ()) Tryd.prog W 0 (fun _ => true) false fuel t cs.toList = some (d, p)) {r : Nat} {z : Int} (hr : r < n) (hz : parts[r]? = some (.lit (.int k z))) : W.cell? ⟨g, r, none⟩ = some (.int k z) := by
  subst hd
  obtain ⟨xs, m, _, ex, _, hl, hel⟩ := DataW.trod_array hu h
  have hE := hel r hr
  rw [hce, Nat.mul_one, List.getElem?_eq_getElem (by omega)] at hE
  obtain ⟨z', e1, e2, _⟩ := DataW.trod_int hue hE
  have e3 : (xs.map (·.1)) = parts := (DataW.agg.inj (Prod.mk.inj ex).1).symm
  rw [← e3, List.getElem?_map, List.getElem?_eq_getElem (by omega : r < xs.length), Option.map_some, e2] at hz
  have hzz : z' = z := by
    simp only [Option.some.injEq, DataW.lit.injEq, Lit.int.injEq, true_and] at hz
    exact hz
  subst hzz
  rw [World.var?_cell hg hv r]
  have : cs.toList[r]? = some (.int k z') := by
    have h0 : ((cs.toList.drop r).take 1)[0]? = some (.int k z') := by rw [e1]; rfl
    simpa using h0
  simpa using this
theorem most_shape {W : World} (h : W.ShapedOpen Tryd.prog) : ∃ m, W.cell? ⟨0, 0, none⟩ = some (.int .i64 m) :=
  Go.Proofs.cell_of_shapedOpen_int (P := Tryd.prog) (t := 3) (zero := #[.int .i64 0]) h (of_decide_eq_true (by kernel_rfl)) (by kernel_rfl) (by kernel_rfl) (by kernel_rfl) (by kernel_rfl) Tryd.underlying3
theorem g_accept : Tryd.prog.globalNamed "unicode/utf8.acceptRanges" = some 5 := by kernel_rfl
theorem g_fold : Tryd.prog.globalNamed "unicode.asciiFold" = some 1 := by kernel_rfl
theorem t_fold : (Tryd.prog.globals[1]?).map (·.type) = some 105 := by kernel_rfl
def foldParts : List (DataW Unit) := match (Rows.laid_unicode_asciiFold : DataW Unit) with
  | .agg l => l
  | _ => []
theorem foldParts_is : (Rows.laid_unicode_asciiFold : DataW Unit) = .agg foldParts := rfl
theorem c16 : Tryd.prog.cellsOf 104 = 1 := by kernel_rfl
theorem laid_plain : (Rows.tokensCoverRow.laid.all fun x => x.2.handleName?.isNone) = true := by kernel_rfl
theorem size_shape {W : World} (h : W.ShapedOpen Tryd.prog) : 6 ≤ W.heap.size := by
  obtain ⟨m, hm⟩ := most_shape h
  have := lt_of_cell hm
  exact Nat.le_of_not_lt fun hlt => by
    have hb : (((begin Tryd.prog (fun _ _ => 0) default).world.heap[5]?).bind Obj.row?).isSome = true := by kernel_rfl
    obtain ⟨⟨zero, t⟩, h0⟩ := Option.isSome_iff_exists.1 hb
    obtain ⟨cs, hh, _⟩ := h.1 5 zero t (of_decide_eq_true (by kernel_rfl)) h0
    have := (Array.getElem?_eq_some_iff.1 hh).1
    omega
theorem gl_laid {W : World} (h : laidMetH Tryd.prog Rows.tokensCoverRow.laid W) (hs : W.ShapedOpen Tryd.prog) : Gl W := by
  rw [MakeChecks.laidMetH_plain _ _ _ laid_plain] at h
  obtain ⟨ps, ⟨g0, t0, cs0, f0, p0, q0, hg0, ht0, hv0, hd0, ⟨g1, t1, cs1, f1, p1, q1, hg1, ht1, hv1, hd1, _, _⟩, _⟩, _, _⟩ := h
  obtain rfl := Option.some.inj (g_fold.symm.trans hg1)
  obtain rfl := Option.some.inj (t_fold.symm.trans ht1)
  refine ⟨most_shape hs, fun p hp => ?_⟩
  have hc : ∀ (r : Nat) (z : Int), r < 128 → foldParts[r]? = some (.lit (.int .u16 z)) → W.cell? ⟨1, r, none⟩ = some (.int .u16 z) := fun r z hr hz =>
    table_cell foldParts_is g_fold hv1 Tryd.underlying105 Tryd.underlying104 c16 hd1 hr hz
  simp only [List.mem_cons, List.not_mem_nil, or_false] at hp
  rcases hp with rfl | rfl | rfl | rfl | rfl | rfl
  all_goals exact hc _ _ (by decide) (by kernel_rfl)
end Go.Proofs.YtbnaphbmmkmaeaaDoor
