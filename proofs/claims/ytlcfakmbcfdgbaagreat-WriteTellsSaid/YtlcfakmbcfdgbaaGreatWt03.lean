/- NFC: the table. Printed by genNfE.py. · NFC: the doubles; what a scalar is made of. · NFC: the whole of two: tables.Whole. Printed by genNfG.py. -/
import Derived.Test.YtlcfakmbcfdgbaaGreatWt02
set_option linter.unusedSimpArgs false
set_option linter.unusedVariables false
namespace Go.Proofs.YtlcfakmbcfdgbaaGreat
open Go.RowKit Go.WideShapes

theorem reads_newI (w : World) (ws : List Int) : Reads (w.alloc (.cells (intVs ws).toArray 3)) (w.alloc (.cells (intVs ws).toArray 3)).heap.size 1 (some ⟨w.heap.size, 0, none⟩) ws.length (intVs ws) := by
  refine ⟨by simp [intVs], fun _ => ⟨w.heap.size, 0, rfl, by simp, fun j u hu => ?_⟩⟩
  rw [Nat.zero_add, (Blk.new w 3 (intVs ws).toArray).cell j]
  simpa using hu
theorem row_new (b n : Nat) (mark : Int) (s : ByteArray) (ls ws : List Int) (l : List ((Int × Int) × Int)) (hs : Runes s 0 ls) (hlw : ls.length ≤ ws.length)
    (hnd : ls.Nodup) (hfr : ∀ a ∈ ls, Nf.lookW (a, mark) l = none) (hwf : ∀ a ∈ ls, Wf2 (a, mark)) (hwv : ∀ v ∈ ws, (Lit.int .i64 v).wf = true) (hn : n + ls.length ≤ 1000000) (D : DataW Unit) (W : World) (h : PM W b n l D) :
    Calls Tryz.prog 130 #[.map (some b), .int .i64 mark, .string s, .slice (some ⟨W.heap.size, 0, none⟩) ws.length ws.length] (W.alloc (.cells (intVs ws).toArray 3)) fun e w' => ∃ D', e = .returned (.tuple #[]) ∧ PM w' b (n + ls.length) (l ++ Nf.rowOf mark ls ws) D' ∧ But b W w' := by
  refine (row_any b n mark s ls ws _ _ l D _ (h.go (Below.heap_alloc W _ b h.own.lt)) hs (reads_newI W ws) hlw hnd hfr hwf hwv hn).mono ?_
  rintro e w' ⟨D', he, hp, hb⟩
  exact ⟨D', he, hp, ((But.refl b W).alloc _).trans hb⟩
theorem runes_300 : Runes ⟨#[65, 69, 73, 79, 85, 97, 101, 105, 111, 117]⟩ 0 Nf.l300 := by
  unfold Nf.l300
  repeat (refine .cons _ _ _ (by decide) (by decide) ?_)
  exact .nil _ (by decide)
theorem row_300 (b : Nat) (D : DataW Unit) (W : World) (h : PM W b 0 ([]) D) :
    Calls Tryz.prog 130 #[.map (some b), .int .i64 768, .string ⟨#[65, 69, 73, 79, 85, 97, 101, 105, 111, 117]⟩, .slice (some ⟨W.heap.size, 0, none⟩) 10 10] (W.alloc (.cells #[.int .i64 192, .int .i64 200, .int .i64 204, .int .i64 210, .int .i64 217, .int .i64 224, .int .i64 232, .int .i64 236, .int .i64 242, .int .i64 249] 3)) fun e w' => ∃ D', e = .returned (.tuple #[]) ∧ PM w' b 10 (Nf.rowOf 0x300 Nf.l300 Nf.w300) D' ∧ But b W w' :=
  row_new b 0 0x300 ⟨#[65, 69, 73, 79, 85, 97, 101, 105, 111, 117]⟩ Nf.l300 Nf.w300 ([]) runes_300 (by decide) (by decide) (by decide +kernel) (by unfold Wf2; decide +kernel) (by decide +kernel) (by decide) D W h
theorem runes_301 : Runes ⟨#[65, 69, 73, 79, 85, 89, 97, 101, 105, 111, 117, 121, 195, 170, 195, 188]⟩ 0 Nf.l301 := by
  unfold Nf.l301
  repeat (refine .cons _ _ _ (by decide) (by decide) ?_)
  exact .nil _ (by decide)
theorem row_301 (b : Nat) (D : DataW Unit) (W : World) (h : PM W b 10 (Nf.rowOf 0x300 Nf.l300 Nf.w300) D) :
    Calls Tryz.prog 130 #[.map (some b), .int .i64 769, .string ⟨#[65, 69, 73, 79, 85, 89, 97, 101, 105, 111, 117, 121, 195, 170, 195, 188]⟩, .slice (some ⟨W.heap.size, 0, none⟩) 14 14] (W.alloc (.cells #[.int .i64 193, .int .i64 201, .int .i64 205, .int .i64 211, .int .i64 218, .int .i64 221, .int .i64 225, .int .i64 233, .int .i64 237, .int .i64 243, .int .i64 250, .int .i64 253, .int .i64 7871, .int .i64 472] 3)) fun e w' => ∃ D', e = .returned (.tuple #[]) ∧ PM w' b 24 (Nf.rowOf 0x300 Nf.l300 Nf.w300 ++ Nf.rowOf 0x301 Nf.l301 Nf.w301) D' ∧ But b W w' :=
  row_new b 10 0x301 ⟨#[65, 69, 73, 79, 85, 89, 97, 101, 105, 111, 117, 121, 195, 170, 195, 188]⟩ Nf.l301 Nf.w301 (Nf.rowOf 0x300 Nf.l300 Nf.w300) runes_301 (by decide) (by decide) (by decide +kernel) (by unfold Wf2; decide +kernel) (by decide +kernel) (by decide) D W h
theorem runes_302 : Runes ⟨#[65, 69, 73, 79, 85, 97, 101, 105, 111, 117, 225, 186, 185]⟩ 0 Nf.l302 := by
  unfold Nf.l302
  repeat (refine .cons _ _ _ (by decide) (by decide) ?_)
  exact .nil _ (by decide)
theorem row_302 (b : Nat) (D : DataW Unit) (W : World) (h : PM W b 24 (Nf.rowOf 0x300 Nf.l300 Nf.w300 ++ Nf.rowOf 0x301 Nf.l301 Nf.w301) D) :
    Calls Tryz.prog 130 #[.map (some b), .int .i64 770, .string ⟨#[65, 69, 73, 79, 85, 97, 101, 105, 111, 117, 225, 186, 185]⟩, .slice (some ⟨W.heap.size, 0, none⟩) 11 11] (W.alloc (.cells #[.int .i64 194, .int .i64 202, .int .i64 206, .int .i64 212, .int .i64 219, .int .i64 226, .int .i64 234, .int .i64 238, .int .i64 244, .int .i64 251, .int .i64 7879] 3)) fun e w' => ∃ D', e = .returned (.tuple #[]) ∧ PM w' b 35 (Nf.rowOf 0x300 Nf.l300 Nf.w300 ++ Nf.rowOf 0x301 Nf.l301 Nf.w301 ++ Nf.rowOf 0x302 Nf.l302 Nf.w302) D' ∧ But b W w' :=
  row_new b 24 0x302 ⟨#[65, 69, 73, 79, 85, 97, 101, 105, 111, 117, 225, 186, 185]⟩ Nf.l302 Nf.w302 (Nf.rowOf 0x300 Nf.l300 Nf.w300 ++ Nf.rowOf 0x301 Nf.l301 Nf.w301) runes_302 (by decide) (by decide) (by decide +kernel) (by unfold Wf2; decide +kernel) (by decide +kernel) (by decide) D W h
theorem runes_303 : Runes ⟨#[65, 78, 79, 97, 110, 111]⟩ 0 Nf.l303 := by
  unfold Nf.l303
  repeat (refine .cons _ _ _ (by decide) (by decide) ?_)
  exact .nil _ (by decide)
theorem row_303 (b : Nat) (D : DataW Unit) (W : World) (h : PM W b 35 (Nf.rowOf 0x300 Nf.l300 Nf.w300 ++ Nf.rowOf 0x301 Nf.l301 Nf.w301 ++ Nf.rowOf 0x302 Nf.l302 Nf.w302) D) :
    Calls Tryz.prog 130 #[.map (some b), .int .i64 771, .string ⟨#[65, 78, 79, 97, 110, 111]⟩, .slice (some ⟨W.heap.size, 0, none⟩) 6 6] (W.alloc (.cells #[.int .i64 195, .int .i64 209, .int .i64 213, .int .i64 227, .int .i64 241, .int .i64 245] 3)) fun e w' => ∃ D', e = .returned (.tuple #[]) ∧ PM w' b 41 (Nf.rowOf 0x300 Nf.l300 Nf.w300 ++ Nf.rowOf 0x301 Nf.l301 Nf.w301 ++ Nf.rowOf 0x302 Nf.l302 Nf.w302 ++ Nf.rowOf 0x303 Nf.l303 Nf.w303) D' ∧ But b W w' :=
  row_new b 35 0x303 ⟨#[65, 78, 79, 97, 110, 111]⟩ Nf.l303 Nf.w303 (Nf.rowOf 0x300 Nf.l300 Nf.w300 ++ Nf.rowOf 0x301 Nf.l301 Nf.w301 ++ Nf.rowOf 0x302 Nf.l302 Nf.w302) runes_303 (by decide) (by decide) (by decide +kernel) (by unfold Wf2; decide +kernel) (by decide +kernel) (by decide) D W h
theorem runes_304 : Runes ⟨#[195, 188]⟩ 0 Nf.l304 := by
  unfold Nf.l304
  repeat (refine .cons _ _ _ (by decide) (by decide) ?_)
  exact .nil _ (by decide)
theorem row_304 (b : Nat) (D : DataW Unit) (W : World) (h : PM W b 41 (Nf.rowOf 0x300 Nf.l300 Nf.w300 ++ Nf.rowOf 0x301 Nf.l301 Nf.w301 ++ Nf.rowOf 0x302 Nf.l302 Nf.w302 ++ Nf.rowOf 0x303 Nf.l303 Nf.w303) D) :
    Calls Tryz.prog 130 #[.map (some b), .int .i64 772, .string ⟨#[195, 188]⟩, .slice (some ⟨W.heap.size, 0, none⟩) 1 1] (W.alloc (.cells #[.int .i64 470] 3)) fun e w' => ∃ D', e = .returned (.tuple #[]) ∧ PM w' b 42 (Nf.rowOf 0x300 Nf.l300 Nf.w300 ++ Nf.rowOf 0x301 Nf.l301 Nf.w301 ++ Nf.rowOf 0x302 Nf.l302 Nf.w302 ++ Nf.rowOf 0x303 Nf.l303 Nf.w303 ++ Nf.rowOf 0x304 Nf.l304 Nf.w304) D' ∧ But b W w' :=
  row_new b 41 0x304 ⟨#[195, 188]⟩ Nf.l304 Nf.w304 (Nf.rowOf 0x300 Nf.l300 Nf.w300 ++ Nf.rowOf 0x301 Nf.l301 Nf.w301 ++ Nf.rowOf 0x302 Nf.l302 Nf.w302 ++ Nf.rowOf 0x303 Nf.l303 Nf.w303) runes_304 (by decide) (by decide) (by decide +kernel) (by unfold Wf2; decide +kernel) (by decide +kernel) (by decide) D W h
theorem runes_306 : Runes ⟨#[208, 152, 208, 184]⟩ 0 Nf.l306 := by
  unfold Nf.l306
  repeat (refine .cons _ _ _ (by decide) (by decide) ?_)
  exact .nil _ (by decide)
theorem row_306 (b : Nat) (D : DataW Unit) (W : World) (h : PM W b 42 (Nf.rowOf 0x300 Nf.l300 Nf.w300 ++ Nf.rowOf 0x301 Nf.l301 Nf.w301 ++ Nf.rowOf 0x302 Nf.l302 Nf.w302 ++ Nf.rowOf 0x303 Nf.l303 Nf.w303 ++ Nf.rowOf 0x304 Nf.l304 Nf.w304) D) :
    Calls Tryz.prog 130 #[.map (some b), .int .i64 774, .string ⟨#[208, 152, 208, 184]⟩, .slice (some ⟨W.heap.size, 0, none⟩) 2 2] (W.alloc (.cells #[.int .i64 1049, .int .i64 1081] 3)) fun e w' => ∃ D', e = .returned (.tuple #[]) ∧ PM w' b 44 (Nf.rowOf 0x300 Nf.l300 Nf.w300 ++ Nf.rowOf 0x301 Nf.l301 Nf.w301 ++ Nf.rowOf 0x302 Nf.l302 Nf.w302 ++ Nf.rowOf 0x303 Nf.l303 Nf.w303 ++ Nf.rowOf 0x304 Nf.l304 Nf.w304 ++ Nf.rowOf 0x306 Nf.l306 Nf.w306) D' ∧ But b W w' :=
  row_new b 42 0x306 ⟨#[208, 152, 208, 184]⟩ Nf.l306 Nf.w306 (Nf.rowOf 0x300 Nf.l300 Nf.w300 ++ Nf.rowOf 0x301 Nf.l301 Nf.w301 ++ Nf.rowOf 0x302 Nf.l302 Nf.w302 ++ Nf.rowOf 0x303 Nf.l303 Nf.w303 ++ Nf.rowOf 0x304 Nf.l304 Nf.w304) runes_306 (by decide) (by decide) (by decide +kernel) (by unfold Wf2; decide +kernel) (by decide +kernel) (by decide) D W h
theorem runes_308 : Runes ⟨#[65, 69, 73, 79, 85, 97, 101, 105, 111, 117, 121, 208, 149, 208, 181]⟩ 0 Nf.l308 := by
  unfold Nf.l308
  repeat (refine .cons _ _ _ (by decide) (by decide) ?_)
  exact .nil _ (by decide)
theorem row_308 (b : Nat) (D : DataW Unit) (W : World) (h : PM W b 44 (Nf.rowOf 0x300 Nf.l300 Nf.w300 ++ Nf.rowOf 0x301 Nf.l301 Nf.w301 ++ Nf.rowOf 0x302 Nf.l302 Nf.w302 ++ Nf.rowOf 0x303 Nf.l303 Nf.w303 ++ Nf.rowOf 0x304 Nf.l304 Nf.w304 ++ Nf.rowOf 0x306 Nf.l306 Nf.w306) D) :
    Calls Tryz.prog 130 #[.map (some b), .int .i64 776, .string ⟨#[65, 69, 73, 79, 85, 97, 101, 105, 111, 117, 121, 208, 149, 208, 181]⟩, .slice (some ⟨W.heap.size, 0, none⟩) 13 13] (W.alloc (.cells #[.int .i64 196, .int .i64 203, .int .i64 207, .int .i64 214, .int .i64 220, .int .i64 228, .int .i64 235, .int .i64 239, .int .i64 246, .int .i64 252, .int .i64 255, .int .i64 1025, .int .i64 1105] 3)) fun e w' => ∃ D', e = .returned (.tuple #[]) ∧ PM w' b 57 (Nf.rowOf 0x300 Nf.l300 Nf.w300 ++ Nf.rowOf 0x301 Nf.l301 Nf.w301 ++ Nf.rowOf 0x302 Nf.l302 Nf.w302 ++ Nf.rowOf 0x303 Nf.l303 Nf.w303 ++ Nf.rowOf 0x304 Nf.l304 Nf.w304 ++ Nf.rowOf 0x306 Nf.l306 Nf.w306 ++ Nf.rowOf 0x308 Nf.l308 Nf.w308) D' ∧ But b W w' :=
  row_new b 44 0x308 ⟨#[65, 69, 73, 79, 85, 97, 101, 105, 111, 117, 121, 208, 149, 208, 181]⟩ Nf.l308 Nf.w308 (Nf.rowOf 0x300 Nf.l300 Nf.w300 ++ Nf.rowOf 0x301 Nf.l301 Nf.w301 ++ Nf.rowOf 0x302 Nf.l302 Nf.w302 ++ Nf.rowOf 0x303 Nf.l303 Nf.w303 ++ Nf.rowOf 0x304 Nf.l304 Nf.w304 ++ Nf.rowOf 0x306 Nf.l306 Nf.w306) runes_308 (by decide) (by decide) (by decide +kernel) (by unfold Wf2; decide +kernel) (by decide +kernel) (by decide) D W h
theorem runes_30A : Runes ⟨#[65, 97]⟩ 0 Nf.l30A := by
  unfold Nf.l30A
  repeat (refine .cons _ _ _ (by decide) (by decide) ?_)
  exact .nil _ (by decide)
theorem row_30A (b : Nat) (D : DataW Unit) (W : World) (h : PM W b 57 (Nf.rowOf 0x300 Nf.l300 Nf.w300 ++ Nf.rowOf 0x301 Nf.l301 Nf.w301 ++ Nf.rowOf 0x302 Nf.l302 Nf.w302 ++ Nf.rowOf 0x303 Nf.l303 Nf.w303 ++ Nf.rowOf 0x304 Nf.l304 Nf.w304 ++ Nf.rowOf 0x306 Nf.l306 Nf.w306 ++ Nf.rowOf 0x308 Nf.l308 Nf.w308) D) :
    Calls Tryz.prog 130 #[.map (some b), .int .i64 778, .string ⟨#[65, 97]⟩, .slice (some ⟨W.heap.size, 0, none⟩) 2 2] (W.alloc (.cells #[.int .i64 197, .int .i64 229] 3)) fun e w' => ∃ D', e = .returned (.tuple #[]) ∧ PM w' b 59 (Nf.rowOf 0x300 Nf.l300 Nf.w300 ++ Nf.rowOf 0x301 Nf.l301 Nf.w301 ++ Nf.rowOf 0x302 Nf.l302 Nf.w302 ++ Nf.rowOf 0x303 Nf.l303 Nf.w303 ++ Nf.rowOf 0x304 Nf.l304 Nf.w304 ++ Nf.rowOf 0x306 Nf.l306 Nf.w306 ++ Nf.rowOf 0x308 Nf.l308 Nf.w308 ++ Nf.rowOf 0x30A Nf.l30A Nf.w30A) D' ∧ But b W w' :=
  row_new b 57 0x30A ⟨#[65, 97]⟩ Nf.l30A Nf.w30A (Nf.rowOf 0x300 Nf.l300 Nf.w300 ++ Nf.rowOf 0x301 Nf.l301 Nf.w301 ++ Nf.rowOf 0x302 Nf.l302 Nf.w302 ++ Nf.rowOf 0x303 Nf.l303 Nf.w303 ++ Nf.rowOf 0x304 Nf.l304 Nf.w304 ++ Nf.rowOf 0x306 Nf.l306 Nf.w306 ++ Nf.rowOf 0x308 Nf.l308 Nf.w308) runes_30A (by decide) (by decide) (by decide +kernel) (by unfold Wf2; decide +kernel) (by decide +kernel) (by decide) D W h
theorem runes_30C : Runes ⟨#[67, 83, 90, 99, 115, 122]⟩ 0 Nf.l30C := by
  unfold Nf.l30C
  repeat (refine .cons _ _ _ (by decide) (by decide) ?_)
  exact .nil _ (by decide)
theorem row_30C (b : Nat) (D : DataW Unit) (W : World) (h : PM W b 59 (Nf.rowOf 0x300 Nf.l300 Nf.w300 ++ Nf.rowOf 0x301 Nf.l301 Nf.w301 ++ Nf.rowOf 0x302 Nf.l302 Nf.w302 ++ Nf.rowOf 0x303 Nf.l303 Nf.w303 ++ Nf.rowOf 0x304 Nf.l304 Nf.w304 ++ Nf.rowOf 0x306 Nf.l306 Nf.w306 ++ Nf.rowOf 0x308 Nf.l308 Nf.w308 ++ Nf.rowOf 0x30A Nf.l30A Nf.w30A) D) :
    Calls Tryz.prog 130 #[.map (some b), .int .i64 780, .string ⟨#[67, 83, 90, 99, 115, 122]⟩, .slice (some ⟨W.heap.size, 0, none⟩) 6 6] (W.alloc (.cells #[.int .i64 268, .int .i64 352, .int .i64 381, .int .i64 269, .int .i64 353, .int .i64 382] 3)) fun e w' => ∃ D', e = .returned (.tuple #[]) ∧ PM w' b 65 (Nf.rowOf 0x300 Nf.l300 Nf.w300 ++ Nf.rowOf 0x301 Nf.l301 Nf.w301 ++ Nf.rowOf 0x302 Nf.l302 Nf.w302 ++ Nf.rowOf 0x303 Nf.l303 Nf.w303 ++ Nf.rowOf 0x304 Nf.l304 Nf.w304 ++ Nf.rowOf 0x306 Nf.l306 Nf.w306 ++ Nf.rowOf 0x308 Nf.l308 Nf.w308 ++ Nf.rowOf 0x30A Nf.l30A Nf.w30A ++ Nf.rowOf 0x30C Nf.l30C Nf.w30C) D' ∧ But b W w' :=
  row_new b 59 0x30C ⟨#[67, 83, 90, 99, 115, 122]⟩ Nf.l30C Nf.w30C (Nf.rowOf 0x300 Nf.l300 Nf.w300 ++ Nf.rowOf 0x301 Nf.l301 Nf.w301 ++ Nf.rowOf 0x302 Nf.l302 Nf.w302 ++ Nf.rowOf 0x303 Nf.l303 Nf.w303 ++ Nf.rowOf 0x304 Nf.l304 Nf.w304 ++ Nf.rowOf 0x306 Nf.l306 Nf.w306 ++ Nf.rowOf 0x308 Nf.l308 Nf.w308 ++ Nf.rowOf 0x30A Nf.l30A Nf.w30A) runes_30C (by decide) (by decide) (by decide +kernel) (by unfold Wf2; decide +kernel) (by decide +kernel) (by decide) D W h
theorem runes_323 : Runes ⟨#[101]⟩ 0 Nf.l323 := by
  unfold Nf.l323
  repeat (refine .cons _ _ _ (by decide) (by decide) ?_)
  exact .nil _ (by decide)
theorem row_323 (b : Nat) (D : DataW Unit) (W : World) (h : PM W b 65 (Nf.rowOf 0x300 Nf.l300 Nf.w300 ++ Nf.rowOf 0x301 Nf.l301 Nf.w301 ++ Nf.rowOf 0x302 Nf.l302 Nf.w302 ++ Nf.rowOf 0x303 Nf.l303 Nf.w303 ++ Nf.rowOf 0x304 Nf.l304 Nf.w304 ++ Nf.rowOf 0x306 Nf.l306 Nf.w306 ++ Nf.rowOf 0x308 Nf.l308 Nf.w308 ++ Nf.rowOf 0x30A Nf.l30A Nf.w30A ++ Nf.rowOf 0x30C Nf.l30C Nf.w30C) D) :
    Calls Tryz.prog 130 #[.map (some b), .int .i64 803, .string ⟨#[101]⟩, .slice (some ⟨W.heap.size, 0, none⟩) 1 1] (W.alloc (.cells #[.int .i64 7865] 3)) fun e w' => ∃ D', e = .returned (.tuple #[]) ∧ PM w' b 66 (Nf.rowOf 0x300 Nf.l300 Nf.w300 ++ Nf.rowOf 0x301 Nf.l301 Nf.w301 ++ Nf.rowOf 0x302 Nf.l302 Nf.w302 ++ Nf.rowOf 0x303 Nf.l303 Nf.w303 ++ Nf.rowOf 0x304 Nf.l304 Nf.w304 ++ Nf.rowOf 0x306 Nf.l306 Nf.w306 ++ Nf.rowOf 0x308 Nf.l308 Nf.w308 ++ Nf.rowOf 0x30A Nf.l30A Nf.w30A ++ Nf.rowOf 0x30C Nf.l30C Nf.w30C ++ Nf.rowOf 0x323 Nf.l323 Nf.w323) D' ∧ But b W w' :=
  row_new b 65 0x323 ⟨#[101]⟩ Nf.l323 Nf.w323 (Nf.rowOf 0x300 Nf.l300 Nf.w300 ++ Nf.rowOf 0x301 Nf.l301 Nf.w301 ++ Nf.rowOf 0x302 Nf.l302 Nf.w302 ++ Nf.rowOf 0x303 Nf.l303 Nf.w303 ++ Nf.rowOf 0x304 Nf.l304 Nf.w304 ++ Nf.rowOf 0x306 Nf.l306 Nf.w306 ++ Nf.rowOf 0x308 Nf.l308 Nf.w308 ++ Nf.rowOf 0x30A Nf.l30A Nf.w30A ++ Nf.rowOf 0x30C Nf.l30C Nf.w30C) runes_323 (by decide) (by decide) (by decide +kernel) (by unfold Wf2; decide +kernel) (by decide +kernel) (by decide) D W h
theorem runes_327 : Runes ⟨#[67, 99]⟩ 0 Nf.l327 := by
  unfold Nf.l327
  repeat (refine .cons _ _ _ (by decide) (by decide) ?_)
  exact .nil _ (by decide)
theorem row_327 (b : Nat) (D : DataW Unit) (W : World) (h : PM W b 66 (Nf.rowOf 0x300 Nf.l300 Nf.w300 ++ Nf.rowOf 0x301 Nf.l301 Nf.w301 ++ Nf.rowOf 0x302 Nf.l302 Nf.w302 ++ Nf.rowOf 0x303 Nf.l303 Nf.w303 ++ Nf.rowOf 0x304 Nf.l304 Nf.w304 ++ Nf.rowOf 0x306 Nf.l306 Nf.w306 ++ Nf.rowOf 0x308 Nf.l308 Nf.w308 ++ Nf.rowOf 0x30A Nf.l30A Nf.w30A ++ Nf.rowOf 0x30C Nf.l30C Nf.w30C ++ Nf.rowOf 0x323 Nf.l323 Nf.w323) D) :
    Calls Tryz.prog 130 #[.map (some b), .int .i64 807, .string ⟨#[67, 99]⟩, .slice (some ⟨W.heap.size, 0, none⟩) 2 2] (W.alloc (.cells #[.int .i64 199, .int .i64 231] 3)) fun e w' => ∃ D', e = .returned (.tuple #[]) ∧ PM w' b 68 (Nf.rowOf 0x300 Nf.l300 Nf.w300 ++ Nf.rowOf 0x301 Nf.l301 Nf.w301 ++ Nf.rowOf 0x302 Nf.l302 Nf.w302 ++ Nf.rowOf 0x303 Nf.l303 Nf.w303 ++ Nf.rowOf 0x304 Nf.l304 Nf.w304 ++ Nf.rowOf 0x306 Nf.l306 Nf.w306 ++ Nf.rowOf 0x308 Nf.l308 Nf.w308 ++ Nf.rowOf 0x30A Nf.l30A Nf.w30A ++ Nf.rowOf 0x30C Nf.l30C Nf.w30C ++ Nf.rowOf 0x323 Nf.l323 Nf.w323 ++ Nf.rowOf 0x327 Nf.l327 Nf.w327) D' ∧ But b W w' :=
  row_new b 66 0x327 ⟨#[67, 99]⟩ Nf.l327 Nf.w327 (Nf.rowOf 0x300 Nf.l300 Nf.w300 ++ Nf.rowOf 0x301 Nf.l301 Nf.w301 ++ Nf.rowOf 0x302 Nf.l302 Nf.w302 ++ Nf.rowOf 0x303 Nf.l303 Nf.w303 ++ Nf.rowOf 0x304 Nf.l304 Nf.w304 ++ Nf.rowOf 0x306 Nf.l306 Nf.w306 ++ Nf.rowOf 0x308 Nf.l308 Nf.w308 ++ Nf.rowOf 0x30A Nf.l30A Nf.w30A ++ Nf.rowOf 0x30C Nf.l30C Nf.w30C ++ Nf.rowOf 0x323 Nf.l323 Nf.w323) runes_327 (by decide) (by decide) (by decide +kernel) (by unfold Wf2; decide +kernel) (by decide +kernel) (by decide) D W h

theorem table_ret {a : Act} {W : World} {N : Nat} {v0 v1 : Value} {Q : Ending → World → Prop} (ha : a.tmps.getD 0 undef = .pointer (some ⟨N, 0, none⟩)) (hd : a.defers = []) (hK : Blk W N 136 #[v0, v1]) (hQ : Q (.returned (.agg #[v0, v1])) W) : bodyPost Tryz.prog Tryz.f122 Q Exit.ret a W :=
  bodyPost_ret (results_cell_row (fn := Tryz.f122) rfl a.tmps W N 136 #[v0, v1] (0, 0) _ ha hK Tryz.underlying136 rfl (by kernel_rfl)) hd hQ
theorem table_wf : ∀ p ∈ Nf.table, Wf2 p.1 := by unfold Wf2; decide +kernel
set_option maxRecDepth 100000 in
set_option maxHeartbeats 8000000 in
theorem table_any (w : World) :
    Calls Tryz.prog 122 #[] w fun e w' => ∃ m q n n' D D', e = .returned (.agg #[.map (some m), .map (some q)]) ∧ PM w' m n Nf.table D ∧ QM w' q n' Nf.table D' ∧ Below w.heap.size w w' := by
  have hmm := @run_makeMap Tryz.prog
  obtain ⟨W0, hW0⟩ : ∃ W0, (w.alloc (.cells #[.map none, .map none] 136)).alloc (.map #[] 0) = W0 := ⟨_, rfl⟩
  have P0 := hide (show PM W0 (w.heap.size + 1) 0 [] (.map []) by
    have := PM.nil (w.alloc (.cells #[.map none, .map none] 136))
    rw [World.size_alloc, hW0] at this
    exact this)
  have B0 := hide (But.refl (w.heap.size + 1) W0)
  have S0 := hide (show W0.heap.size = w.heap.size + 2 by rw [← hW0]; simp)
  go_enter Tryz.func122, Tryz.ntmps122
  go_wp2_with fail
  refine (row_300 (w.heap.size + 1) _ W0 P0.out).mono ?_
  rintro e w1 ⟨D1, rfl, hp, hb⟩
  have P1 := hide hp
  have B1 := hide (B0.out.trans hb)
  clear hp hb
  go_wp2_with fail
  refine (row_301 (w.heap.size + 1) _ w1 P1.out).mono ?_
  rintro e w2 ⟨D2, rfl, hp, hb⟩
  have P2 := hide hp
  have B2 := hide (B1.out.trans hb)
  clear hp hb
  go_wp2_with fail
  refine (row_302 (w.heap.size + 1) _ w2 P2.out).mono ?_
  rintro e w3 ⟨D3, rfl, hp, hb⟩
  have P3 := hide hp
  have B3 := hide (B2.out.trans hb)
  clear hp hb
  go_wp2_with fail
  refine (row_303 (w.heap.size + 1) _ w3 P3.out).mono ?_
  rintro e w4 ⟨D4, rfl, hp, hb⟩
  have P4 := hide hp
  have B4 := hide (B3.out.trans hb)
  clear hp hb
  go_wp2_with fail
  refine (row_304 (w.heap.size + 1) _ w4 P4.out).mono ?_
  rintro e w5 ⟨D5, rfl, hp, hb⟩
  have P5 := hide hp
  have B5 := hide (B4.out.trans hb)
  clear hp hb
  go_wp2_with fail
  refine (row_306 (w.heap.size + 1) _ w5 P5.out).mono ?_
  rintro e w6 ⟨D6, rfl, hp, hb⟩
  have P6 := hide hp
  have B6 := hide (B5.out.trans hb)
  clear hp hb
  go_wp2_with fail
  refine (row_308 (w.heap.size + 1) _ w6 P6.out).mono ?_
  rintro e w7 ⟨D7, rfl, hp, hb⟩
  have P7 := hide hp
  have B7 := hide (B6.out.trans hb)
  clear hp hb
  go_wp2_with fail
  refine (row_30A (w.heap.size + 1) _ w7 P7.out).mono ?_
  rintro e w8 ⟨D8, rfl, hp, hb⟩
  have P8 := hide hp
  have B8 := hide (B7.out.trans hb)
  clear hp hb
  go_wp2_with fail
  refine (row_30C (w.heap.size + 1) _ w8 P8.out).mono ?_
  rintro e w9 ⟨D9, rfl, hp, hb⟩
  have P9 := hide hp
  have B9 := hide (B8.out.trans hb)
  clear hp hb
  go_wp2_with fail
  refine (row_323 (w.heap.size + 1) _ w9 P9.out).mono ?_
  rintro e w10 ⟨D10, rfl, hp, hb⟩
  have P10 := hide hp
  have B10 := hide (B9.out.trans hb)
  clear hp hb
  go_wp2_with fail
  refine (row_327 (w.heap.size + 1) _ w10 P10.out).mono ?_
  rintro e w11 ⟨D11, rfl, hp, hb⟩
  have P11 := hide hp
  have B11 := hide (B10.out.trans hb)
  clear hp hb
  go_wp2_with fail
  refine (flip_any (w.heap.size + 1) _ Nf.table _ w11 P11.out Nf.table_keys Nf.table_vals table_wf (by decide)).mono ?_
  rintro e w12 ⟨n', D', rfl, hq, hn', hb⟩
  have HQ := hide hq
  have HP := hide (P11.out.go (hb.block _ P11.out.own.lt))
  have hbt := B11.out.go hb
  have hbk : Blk w12 w.heap.size 136 #[.map none, .map none] := hbt.blk (by rw [← hW0]; exact (Blk.new w _ _).alloc _) (by omega)
  have c0 := hbk.cell 0
  have c1 := hbk.cell 1
  have f0 := hbk.frozen 0
  have f1 := hbk.frozen 1
  have HB := hide (show Below w.heap.size w w12 from by
    have h0 : Below w.heap.size w W0 := by rw [← hW0]; exact (below_alloc w _).trans ((below_alloc _ _).mono (by simp))
    exact h0.trans (hbt.below (by omega) h0.size))
  have HK := hide hbk
  have hqb := hq.own.lt
  clear hq hb hbt hbk
  go_wp2
  have h2 := ((HK.out.set_ 0 (.map (some (w.heap.size + 1)))).set_ 1 (.map (some w11.heap.size)))
  refine table_ret rfl rfl h2 ?_
  have hs11 : w.heap.size + 2 ≤ w11.heap.size := by rw [← S0.out]; exact B11.out.size
  exact ⟨w.heap.size + 1, w11.heap.size, _, n', _, D', rfl, HP.out.go (by rw [Below.heap_setCell _ _ _ _ (by simp), Below.heap_setCell _ _ _ _ (by simp)]), ⟨map_sameN HQ.out.own (by rw [Below.heap_setCell _ _ _ _ (by show w11.heap.size ≠ w.heap.size; omega), Below.heap_setCell _ _ _ _ (by show w11.heap.size ≠ w.heap.size; omega)]), HQ.out.at_, HQ.out.has⟩, (HB.out.setCell (Nat.le_refl _) _).setCell (Nat.le_refl _) _⟩
end Go.Proofs.YtlcfakmbcfdgbaaGreat
namespace Go.Proofs.YtlcfakmbcfdgbaaGreat
open Go.RowKit Go.WideShapes

/-- The store of a map's literal. -/
theorem wpList_insert_own {H : Type} {P : Program} (w : World) {ops : Array Oper} {rest : List Oper} {o : Oper} {a : Act} {Q : Exit → Act → World → Prop}
    (hg : o.guard = none) (m x v : Operand) (t : TypeId) (hop : o.op = Op.insert t m x v)
    (k e : TypeId) (K : Maps.Keyed P k) (ht : P.underlying t = some (.map k e)) (R : Value → Option (DataW H × List MemPlace)) (b n : Nat) (D : DataW H)
    (hm : a.eval m = .map (some b)) (hown : w.ownsMap P k R b n D) (hn : n < maxLen) (key val : Value) (kl : Lit) (hx : a.eval x = key) (hv : a.eval v = val) (hkey : keyOf P k key = some kl)
    (d : DataW H) (ps : List MemPlace) (hval : R val = some (d, ps))
    (hK : ∀ w', w'.ownsMap P k R b (n + 1) (D.put kl d) → w.grownBy w' (some b) → wpList P ops Q rest (a.put o.dst undef) w') :
    wpList P ops Q (o :: rest) a w := by
  refine wpList_plain hg fun K' hK' => ?_
  obtain ⟨w', hrun, r1, r2⟩ := hown.update K ht hn hkey hval
  unfold Oper.wp
  simp [execOp, hop, hm, hx, hv, hrun, Result.andThen]
  exact hK' _ _ (hK w' r1 r2)
/-- A map of numbers. -/
structure DM (w : World) (b n : Nat) (l : List (Int × Int)) (D : DataW Unit) : Prop where
  own : w.ownsMap Tryz.prog 3 (plainElem Tryz.prog 3) b n D
  at_ : ∀ r, D.atKey (.int .i64 r) (.lit (.int .i64 0)) = .lit (.int .i64 ((Nf.lookD r l).getD 0))
  has : ∀ r, Maps.has D (.int .i64 r) = (Nf.lookD r l).isSome
def dblD : DataW Unit := (((((DataW.map []).put (.int .i64 832) (.lit (.int .i64 768))).put (.int .i64 833) (.lit (.int .i64 769))).put (.int .i64 8486) (.lit (.int .i64 937))).put (.int .i64 8490) (.lit (.int .i64 75))).put (.int .i64 8491) (.lit (.int .i64 197))
theorem dbl_at (r : Int) : dblD.atKey (.int .i64 r) (.lit (.int .i64 0)) = .lit (.int .i64 ((Nf.lookD r Nf.doubles).getD 0)) := by
  have hi : Maps.IsMap (H := Unit) (.map []) := Maps.isMap_empty
  unfold dblD Nf.doubles
  simp only [Nf.lookD]
  by_cases h5 : r = 8491
  · subst h5; rw [Maps.atKey_put_same ((((hi.put _ _).put _ _).put _ _).put _ _) (by simp [WideAt.IsKeyLit])]; rfl
  rw [Maps.atKey_put_other (by simpa using h5)]
  by_cases h4 : r = 8490
  · subst h4; rw [Maps.atKey_put_same (((hi.put _ _).put _ _).put _ _) (by simp [WideAt.IsKeyLit])]; rfl
  rw [Maps.atKey_put_other (by simpa using h4)]
  by_cases h3 : r = 8486
  · subst h3; rw [Maps.atKey_put_same ((hi.put _ _).put _ _) (by simp [WideAt.IsKeyLit])]; rfl
  rw [Maps.atKey_put_other (by simpa using h3)]
  by_cases h2 : r = 833
  · subst h2; rw [Maps.atKey_put_same (hi.put _ _) (by simp [WideAt.IsKeyLit])]; rfl
  rw [Maps.atKey_put_other (by simpa using h2)]
  by_cases h1 : r = 832
  · subst h1; rw [Maps.atKey_put_same hi (by simp [WideAt.IsKeyLit])]; rfl
  rw [Maps.atKey_put_other (by simpa using h1)]
  rw [if_neg (fun e => h1 e.symm), if_neg (fun e => h2 e.symm), if_neg (fun e => h3 e.symm), if_neg (fun e => h4 e.symm), if_neg (fun e => h5 e.symm)]
  rfl
theorem dbl_has (r : Int) : Maps.has dblD (.int .i64 r) = (Nf.lookD r Nf.doubles).isSome := by
  have hi : Maps.IsMap (H := Unit) (.map []) := Maps.isMap_empty
  unfold dblD Nf.doubles
  simp only [Nf.lookD]
  by_cases h5 : r = 8491
  · subst h5; rw [Maps.has_put_same ((((hi.put _ _).put _ _).put _ _).put _ _) (by simp [WideAt.IsKeyLit])]; rfl
  rw [Maps.has_put_other (by simpa using h5)]
  by_cases h4 : r = 8490
  · subst h4; rw [Maps.has_put_same (((hi.put _ _).put _ _).put _ _) (by simp [WideAt.IsKeyLit])]; rfl
  rw [Maps.has_put_other (by simpa using h4)]
  by_cases h3 : r = 8486
  · subst h3; rw [Maps.has_put_same ((hi.put _ _).put _ _) (by simp [WideAt.IsKeyLit])]; rfl
  rw [Maps.has_put_other (by simpa using h3)]
  by_cases h2 : r = 833
  · subst h2; rw [Maps.has_put_same (hi.put _ _) (by simp [WideAt.IsKeyLit])]; rfl
  rw [Maps.has_put_other (by simpa using h2)]
  by_cases h1 : r = 832
  · subst h1; rw [Maps.has_put_same hi (by simp [WideAt.IsKeyLit])]; rfl
  rw [Maps.has_put_other (by simpa using h1)]
  rw [if_neg (fun e => h1 e.symm), if_neg (fun e => h2 e.symm), if_neg (fun e => h3 e.symm), if_neg (fun e => h4 e.symm), if_neg (fun e => h5 e.symm)]
  rfl
set_option maxHeartbeats 4000000 in
theorem doubles_any (w : World) :
    Calls Tryz.prog 141 #[] w fun e w' => ∃ b n D, e = .returned (.map (some b)) ∧ DM w' b n Nf.doubles D ∧ Below w.heap.size w w' := by
  have hmm := @run_makeMap Tryz.prog
  have HO := hide (World.ownsMap_made (H := Unit) w Tryz.prog 3 (plainElem Tryz.prog 3))
  have HB := hide (below_alloc w (.map #[] 0))
  go_enter Tryz.func141, Tryz.ntmps141
  go_wp2_with (refine (wpList_insert_own _ rfl _ _ _ 161 rfl 3 3 law_int Tryz.underlying161 _ w.heap.size _ _ rfl HO.out (by decide) _ _ _ (by rfl) (by rfl) (Maps.keyOf_int_mk Tryz.underlying3 (by decide)) _ [] (plainElem_int Tryz.underlying3 (by decide)) ?_); clear HO; intro w1 hown hg; have HO := hide hown; have HB1 := hide (HB.out.grown hg HB.out.size (fun j hj => by cases hj; exact Nat.le_refl _)); clear HB hg hown; have HB := HB1; clear HB1)
  go_ret
  exact ⟨w.heap.size, _, dblD, rfl, ⟨HO.out, dbl_at, dbl_has⟩, HB.out⟩
def madeV (r : Int) : Value := match Nf.made r with
  | some (a, b) => .tuple #[.int .i64 a, .int .i64 b, .bool true]
  | none => .tuple #[.int .i64 0, .int .i64 0, .bool false]
theorem field_made (x y : Value) (w : World) : (Instr.field 136 (.agg #[x, y]) 1).run Tryz.prog w = .ok y w := by kernel_rfl
theorem prD_inj {x y : Int × Int} (h : prD x = prD y) : x = y := by
  unfold prD at h
  simp only [DataW.agg.injEq, List.cons.injEq, DataW.lit.injEq, Lit.int.injEq, true_and, and_true] at h
  exact Prod.ext h.1 h.2
theorem pair_of {v : Value} {ps : List MemPlace} {o : Option (Int × Int)} (hv : pairElem v = some ((o.map prD).getD (prD (0, 0)), ps)) : v = .agg #[.int .i64 (o.getD (0, 0)).1, .int .i64 (o.getD (0, 0)).2] := by
  obtain ⟨y, rfl, he⟩ := pairElem_inv hv
  have h1 := congrArg Prod.fst he
  have h2 : o.getD (0, 0) = y := by
    cases o with
    | none => exact prD_inj h1
    | some p => exact prD_inj h1
  rw [h2]
  rfl
theorem zero_pr (w : World) : (zeroValue 138).run Tryz.prog w = .ok (.agg #[.int .i64 0, .int .i64 0]) w := by kernel_rfl
theorem zero_int (w : World) : (zeroValue 3).run Tryz.prog w = .ok (.int .i64 0) w := by kernel_rfl
set_option maxRecDepth 100000 in
set_option maxHeartbeats 4000000 in
theorem made_any (r : Int) (w : World) (h0 : 0 ≤ r) (h1 : r ≤ 1114111) :
    Calls Tryz.prog 139 #[.int .i64 r] w fun e w' => e = .returned (madeV r) ∧ Below w.heap.size w w' := by
  have HH := hide (fun W => hangul_any r W)
  unfold madeV Nf.made
  cases hg : Nf.hangul r with
  | true =>
    rw [hg] at HH
    rw [if_pos rfl]
    have hr := of_decide_eq_true hg
    obtain ⟨n, hn⟩ : ∃ n : Nat, r = 44032 + n := ⟨(r - 44032).toNat, by omega⟩
    subst hn
    have hw : IntKind.i64.wrap (44032 + (n : Int) - 44032) = (n : Int) := by rw [IntWalk.i64_in _ (by omega)]; omega
    have hm : Int.tmod (n : Int) 28 = ((n % 28 : Nat) : Int) := by rw [Int.tmod_eq_emod_of_nonneg (by omega)]; omega
    have e1 : (44032 + (n : Int) - 0xAC00) % 28 = ((n % 28 : Nat) : Int) := by omega
    have e2 : (44032 + (n : Int) - 0xAC00) / 28 = ((n / 28 : Nat) : Int) := by omega
    rw [e1, e2]
    obtain ⟨t, ht⟩ : ∃ t, n % 28 = t := ⟨_, rfl⟩
    rw [ht] at hm ⊢
    have htl : t < 28 := by omega
    by_cases hp : 0 < t
    · rw [if_pos (by omega)]
      have hp2 : (0 : Int) < (t : Int) := by omega
      have hq := hr
      clear hg hr e1 e2 ht
      go_enter Tryz.func139, Tryz.ntmps139
      go_wp2_with fail
      refine cq (HH.out _) ?_
      go_wp2
      go_ret3
      exact ⟨rfl, Below.refl _ _⟩
    · have ht0 : t = 0 := by omega
      subst ht0
      rw [if_neg (by omega)]
      have hd : Int.tdiv (n : Int) 28 = ((n / 28 : Nat) : Int) := by rw [Int.tdiv_eq_ediv_of_nonneg (by omega)]; omega
      obtain ⟨k, hk⟩ : ∃ k, n / 28 = k := ⟨_, rfl⟩
      rw [hk] at hd ⊢
      have hkl : k < 400 := by omega
      have hd2 : Int.tdiv (k : Int) 21 = ((k / 21 : Nat) : Int) := by rw [Int.tdiv_eq_ediv_of_nonneg (by omega)]; omega
      have hm2 : Int.tmod (k : Int) 21 = ((k % 21 : Nat) : Int) := by rw [Int.tmod_eq_emod_of_nonneg (by omega)]; omega
      have e3 : (k : Int) / 21 = ((k / 21 : Nat) : Int) := by omega
      have e4 : (k : Int) % 21 = ((k % 21 : Nat) : Int) := by omega
      rw [e3, e4]
      obtain ⟨a, ha⟩ : ∃ a, k / 21 = a := ⟨_, rfl⟩
      obtain ⟨b, hb⟩ : ∃ b, k % 21 = b := ⟨_, rfl⟩
      rw [ha] at hd2 ⊢
      rw [hb] at hm2 ⊢
      have hal : a < 20 := by omega
      have hbl : b < 21 := by omega
      clear hg hr e1 e2 e3 e4 ht hk ha hb
      go_enter Tryz.func139, Tryz.ntmps139
      go_wp2_with fail
      refine cq (HH.out _) ?_
      go_wp2
      go_ret3
      exact ⟨rfl, Below.refl _ _⟩
  | false =>
    rw [hg] at HH
    rw [if_neg (by simp)]
    have HT := hide (fun W => table_any W)
    have HD := hide (fun W => doubles_any W)
    have hwr : (Lit.int .i64 r).wf = true := WalkArith.wf_i64 (by omega)
    cases hm : Nf.lookM r Nf.table with
    | some p =>
      obtain ⟨pa, pb⟩ := p
      clear hg
      go_enter Tryz.func139, Tryz.ntmps139
      go_wp2_with fail
      refine cq (HH.out _) ?_
      go_wp2_with fail
      refine (HT.out _).mono ?_
      rintro e w1 ⟨m, q, n, n', D, D', rfl, hp, hq, b1⟩
      have HQ := hide hq
      have B1 := hide b1
      have hfl := field_made (.map (some m)) (.map (some q)) w1
      clear hp hq b1
      go_wp2_with (at_lookup; go_loud (refine wpList_lookup_own_ok _ rfl _ _ 134 rfl 3 138 law_int Tryz.underlying134 pairElem (zero_pr _) (prD (0, 0)) [] (pairElem_mk (0, 0)) q n' D' rfl HQ.out.own _ _ (by rfl) (Maps.keyOf_int_mk Tryz.underlying3 hwr) ?_); intro v ps hv; rw [HQ.out.at_, hm] at hv; have hv2 := pair_of (o := some (pa, pb)) hv; clear hv; subst hv2; rw [HQ.out.has, hm]; dsimp only [Option.getD_some, Option.isSome_some])
      go_wp2_with fail
      have B2 := hide (B1.out.trans ((below_alloc w1 (.cells #[.int .i64 pa, .int .i64 pb] 138)).mono B1.out.size))
      have hk := Blk.new w1 138 #[.int .i64 pa, .int .i64 pb]
      have c0 := hk.cell 0
      have c1 := hk.cell 1
      simp only [List.getElem?_toArray, List.getElem?_cons_zero, List.getElem?_cons_succ] at c0 c1
      clear hk
      generalize w1.alloc (.cells #[.int .i64 pa, .int .i64 pb] 138) = W at B2 c0 c1 ⊢
      go_region
      go_wp2
      go_ret3
      exact ⟨rfl, B2.out.drew⟩
    | none =>
      clear hg
      go_enter Tryz.func139, Tryz.ntmps139
      go_wp2_with fail
      refine cq (HH.out _) ?_
      go_wp2_with fail
      refine (HT.out _).mono ?_
      rintro e w1 ⟨m, q, n, n', D, D', rfl, hp, hq, b1⟩
      have HQ := hide hq
      have B1 := hide b1
      have hfl := field_made (.map (some m)) (.map (some q)) w1
      clear hp hq b1
      go_wp2_with (at_lookup; go_loud (refine wpList_lookup_own_ok _ rfl _ _ 134 rfl 3 138 law_int Tryz.underlying134 pairElem (zero_pr _) (prD (0, 0)) [] (pairElem_mk (0, 0)) q n' D' rfl HQ.out.own _ _ (by rfl) (Maps.keyOf_int_mk Tryz.underlying3 hwr) ?_); intro v ps hv; rw [HQ.out.at_, hm] at hv; have hv2 := pair_of (o := none) hv; clear hv; subst hv2; rw [HQ.out.has, hm]; dsimp only [Option.getD_none, Option.isSome_none])
      go_wp2_with fail
      refine (HD.out _).mono ?_
      rintro e w2 ⟨b, nb, Db, rfl, hd, b2⟩
      have HDm := hide hd
      have B2 := hide ((B1.out.trans ((below_alloc w1 (.cells #[.int .i64 0, .int .i64 0] 138)).mono B1.out.size)).trans (b2.mono (by rw [World.size_alloc]; exact Nat.le_succ_of_le B1.out.size)))
      clear hd b2
      cases hdl : Nf.lookD r Nf.doubles with
      | some a0 =>
        go_wp2_with (at_lookup; refine wpList_lookup_own_ok_int _ rfl _ _ 161 rfl 3 3 .i64 law_int Tryz.underlying161 Tryz.underlying3 (zero_int _) b nb Db rfl HDm.out.own _ _ (by rfl) (Maps.keyOf_int_mk Tryz.underlying3 hwr) ?_; intro cv hv _; rw [HDm.out.at_, hdl] at hv; injection hv with hv; injection hv with _ hv; subst hv; rw [HDm.out.has, hdl]; dsimp only [Option.getD_some, Option.isSome_some])
        go_ret3
        exact ⟨rfl, B2.out⟩
      | none =>
        go_wp2_with (at_lookup; refine wpList_lookup_own_ok_int _ rfl _ _ 161 rfl 3 3 .i64 law_int Tryz.underlying161 Tryz.underlying3 (zero_int _) b nb Db rfl HDm.out.own _ _ (by rfl) (Maps.keyOf_int_mk Tryz.underlying3 hwr) ?_; intro cv hv _; rw [HDm.out.at_, hdl] at hv; injection hv with hv; injection hv with _ hv; subst hv; rw [HDm.out.has, hdl]; dsimp only [Option.getD_none, Option.isSome_none])
        go_ret3
        exact ⟨rfl, B2.out⟩
end Go.Proofs.YtlcfakmbcfdgbaaGreat
namespace Go.Proofs.YtlcfakmbcfdgbaaGreat
open Go.RowKit Go.WideShapes

def wholeV (a b : Int) : Value := match Nf.whole a b with
  | some v => .tuple #[.int .i64 v, .bool true]
  | none => .tuple #[.int .i64 0, .bool false]
theorem field_whole (x y : Value) (w : World) : (Instr.field 136 (.agg #[x, y]) 0).run Tryz.prog w = .ok x w := by kernel_rfl
set_option maxRecDepth 100000 in
set_option maxHeartbeats 4000000 in
theorem whole_any (a b : Int) (w : World) (a0 : 0 ≤ a) (a1 : a ≤ 1114111) (b0 : 0 ≤ b) (b1 : b ≤ 1114111) :
    Calls Tryz.prog 106 #[.int .i64 a, .int .i64 b] w fun e w' => e = .returned (wholeV a b) ∧ Below w.heap.size w w' := by
  have HH := hide (fun W => hangul_any a W)
  have H1 := hide (fun W => in_any a 4352 19 W (by decide))
  have H2 := hide (fun W => in_any b 4449 21 W (by decide))
  have H3 := hide (fun W => in_any b 4520 27 W (by decide))
  have HT := hide (fun W => table_any W)
  have hwa : (Lit.int .i64 a).wf = true := WalkArith.wf_i64 (by omega)
  have hwb : (Lit.int .i64 b).wf = true := WalkArith.wf_i64 (by omega)
  have hw1 : IntKind.i64.wrap (a - 44032) = a - 44032 := IntWalk.i64_in _ (by omega)
  unfold wholeV Nf.whole
  cases p1 : decide ((4352 : Int) ≤ a ∧ a < 4352 + 19) with
  | true =>
    rw [p1] at H1
    have q1 := of_decide_eq_true p1
    have hgf : Nf.hangul a = false := decide_eq_false (by omega)
    rw [hgf] at HH
    cases p2 : decide ((4449 : Int) ≤ b ∧ b < 4449 + 21) with
    | true =>
      rw [p2] at H2
      have q2 := of_decide_eq_true p2
      rw [if_pos ⟨q1, q2⟩]
      have e1 : IntKind.i64.wrap (a - 4352) = a - 4352 := IntWalk.i64_in _ (by omega)
      have e2 : IntKind.i64.wrap ((a - 4352) * 21) = (a - 4352) * 21 := IntWalk.i64_in _ (by omega)
      have e3 : IntKind.i64.wrap ((a - 4352) * 21 + b) = (a - 4352) * 21 + b := IntWalk.i64_in _ (by omega)
      have e4 : IntKind.i64.wrap ((a - 4352) * 21 + b - 4449) = (a - 4352) * 21 + b - 4449 := IntWalk.i64_in _ (by omega)
      have e5 : IntKind.i64.wrap (((a - 4352) * 21 + b - 4449) * 28) = ((a - 4352) * 21 + b - 4449) * 28 := IntWalk.i64_in _ (by omega)
      have e6 : IntKind.i64.wrap (44032 + ((a - 4352) * 21 + b - 4449) * 28) = 44032 + ((a - 4352) * 21 + b - 4449) * 28 := IntWalk.i64_in _ (by omega)
      clear q1 q2 p1 p2
      go_enter Tryz.func106, Tryz.ntmps106
      go_wp2_with fail
      refine cq (H1.out _) ?_
      go_wp2_with fail
      refine cq (H2.out _) ?_
      go_wp2
      go_ret2
      exact ⟨rfl, Below.refl _ _⟩
    | false =>
      rw [p2] at H2
      have q2 := of_decide_eq_false p2
      rw [if_neg (fun h => q2 h.2), if_neg (by rw [hgf]; simp)]
      clear q1 q2 p1 p2 hgf
      go_enter Tryz.func106, Tryz.ntmps106
      go_wp2_with fail
      refine cq (H1.out _) ?_
      go_wp2_with fail
      refine cq (H2.out _) ?_
      go_wp2_with fail
      refine cq (HH.out _) ?_
      go_wp2_with fail
      refine (HT.out _).mono ?_
      rintro e w1 ⟨m, q, n, n', D, D', rfl, hp, hq, b1⟩
      have HP := hide hp
      have B1 := hide b1
      have hfl := field_whole (.map (some m)) (.map (some q)) w1
      clear hp hq b1
      cases hl : Nf.lookW (a, b) Nf.table with
      | some v =>
        go_wp2_with (at_lookup; refine wpList_lookup_own_ok_int _ rfl _ _ 133 rfl 138 3 .i64 law_pr Tryz.underlying133 Tryz.underlying3 (zero_int _) m n D rfl HP.out.own _ _ (by rfl) (keyOf_pr (x := (a, b)) ⟨hwa, hwb⟩) ?_; intro cv hv _; rw [HP.out.at_ _ ⟨hwa, hwb⟩, hl] at hv; injection hv with hv; injection hv with _ hv; subst hv; rw [HP.out.has _ ⟨hwa, hwb⟩, hl]; dsimp only [Option.getD_some, Option.isSome_some])
        go_ret2
        exact ⟨rfl, B1.out⟩
      | none =>
        go_wp2_with (at_lookup; refine wpList_lookup_own_ok_int _ rfl _ _ 133 rfl 138 3 .i64 law_pr Tryz.underlying133 Tryz.underlying3 (zero_int _) m n D rfl HP.out.own _ _ (by rfl) (keyOf_pr (x := (a, b)) ⟨hwa, hwb⟩) ?_; intro cv hv _; rw [HP.out.at_ _ ⟨hwa, hwb⟩, hl] at hv; injection hv with hv; injection hv with _ hv; subst hv; rw [HP.out.has _ ⟨hwa, hwb⟩, hl]; dsimp only [Option.getD_none, Option.isSome_none])
        go_ret2
        exact ⟨rfl, B1.out⟩
  | false =>
    rw [p1] at H1
    have q1 := of_decide_eq_false p1
    rw [if_neg (fun h => q1 h.1)]
    cases hg : Nf.hangul a with
    | false =>
      rw [hg] at HH
      rw [if_neg (by simp)]
      clear q1 p1 hg
      go_enter Tryz.func106, Tryz.ntmps106
      go_wp2_with fail
      refine cq (H1.out _) ?_
      go_wp2_with fail
      refine cq (HH.out _) ?_
      go_wp2_with fail
      refine (HT.out _).mono ?_
      rintro e w1 ⟨m, q, n, n', D, D', rfl, hp, hq, b1⟩
      have HP := hide hp
      have B1 := hide b1
      have hfl := field_whole (.map (some m)) (.map (some q)) w1
      clear hp hq b1
      cases hl : Nf.lookW (a, b) Nf.table with
      | some v =>
        go_wp2_with (at_lookup; refine wpList_lookup_own_ok_int _ rfl _ _ 133 rfl 138 3 .i64 law_pr Tryz.underlying133 Tryz.underlying3 (zero_int _) m n D rfl HP.out.own _ _ (by rfl) (keyOf_pr (x := (a, b)) ⟨hwa, hwb⟩) ?_; intro cv hv _; rw [HP.out.at_ _ ⟨hwa, hwb⟩, hl] at hv; injection hv with hv; injection hv with _ hv; subst hv; rw [HP.out.has _ ⟨hwa, hwb⟩, hl]; dsimp only [Option.getD_some, Option.isSome_some])
        go_ret2
        exact ⟨rfl, B1.out⟩
      | none =>
        go_wp2_with (at_lookup; refine wpList_lookup_own_ok_int _ rfl _ _ 133 rfl 138 3 .i64 law_pr Tryz.underlying133 Tryz.underlying3 (zero_int _) m n D rfl HP.out.own _ _ (by rfl) (keyOf_pr (x := (a, b)) ⟨hwa, hwb⟩) ?_; intro cv hv _; rw [HP.out.at_ _ ⟨hwa, hwb⟩, hl] at hv; injection hv with hv; injection hv with _ hv; subst hv; rw [HP.out.has _ ⟨hwa, hwb⟩, hl]; dsimp only [Option.getD_none, Option.isSome_none])
        go_ret2
        exact ⟨rfl, B1.out⟩
    | true =>
      rw [hg] at HH
      have hr := of_decide_eq_true hg
      have hm : Int.tmod (a - 44032) 28 = (a - 44032) % 28 := Int.tmod_eq_emod_of_nonneg (by omega)
      cases p2 : decide ((a - 44032) % 28 = 0) with
      | false =>
        have q2 := of_decide_eq_false p2
        rw [if_neg (fun h => q2 h.2.1)]
        obtain ⟨t, ht⟩ : ∃ t, (a - 44032) % 28 = t := ⟨_, rfl⟩
        rw [ht] at hm q2
        have ht2 : 0 ≤ t ∧ t < 28 := by omega
        clear q1 p1 hg hr p2 ht
        go_enter Tryz.func106, Tryz.ntmps106
        go_wp2_with fail
        refine cq (H1.out _) ?_
        go_wp2_with fail
        refine cq (HH.out _) ?_
        go_wp2_with fail
        refine (HT.out _).mono ?_
        rintro e w1 ⟨m, q, n, n', D, D', rfl, hp, hq, b1⟩
        have HP := hide hp
        have B1 := hide b1
        have hfl := field_whole (.map (some m)) (.map (some q)) w1
        clear hp hq b1
        cases hl : Nf.lookW (a, b) Nf.table with
        | some v =>
          go_wp2_with (at_lookup; refine wpList_lookup_own_ok_int _ rfl _ _ 133 rfl 138 3 .i64 law_pr Tryz.underlying133 Tryz.underlying3 (zero_int _) m n D rfl HP.out.own _ _ (by rfl) (keyOf_pr (x := (a, b)) ⟨hwa, hwb⟩) ?_; intro cv hv _; rw [HP.out.at_ _ ⟨hwa, hwb⟩, hl] at hv; injection hv with hv; injection hv with _ hv; subst hv; rw [HP.out.has _ ⟨hwa, hwb⟩, hl]; dsimp only [Option.getD_some, Option.isSome_some])
          go_ret2
          exact ⟨rfl, B1.out⟩
        | none =>
          go_wp2_with (at_lookup; refine wpList_lookup_own_ok_int _ rfl _ _ 133 rfl 138 3 .i64 law_pr Tryz.underlying133 Tryz.underlying3 (zero_int _) m n D rfl HP.out.own _ _ (by rfl) (keyOf_pr (x := (a, b)) ⟨hwa, hwb⟩) ?_; intro cv hv _; rw [HP.out.at_ _ ⟨hwa, hwb⟩, hl] at hv; injection hv with hv; injection hv with _ hv; subst hv; rw [HP.out.has _ ⟨hwa, hwb⟩, hl]; dsimp only [Option.getD_none, Option.isSome_none])
          go_ret2
          exact ⟨rfl, B1.out⟩
      | true =>
        have q2 := of_decide_eq_true p2
        rw [q2] at hm
        cases p3 : decide ((4520 : Int) ≤ b ∧ b < 4520 + 27) with
        | true =>
          rw [p3] at H3
          have q3 := of_decide_eq_true p3
          rw [if_pos ⟨rfl, q2, q3⟩]
          have e1 : IntKind.i64.wrap (a + b) = a + b := IntWalk.i64_in _ (by omega)
          have e2 : IntKind.i64.wrap (a + b - 4519) = a + b - 4519 := IntWalk.i64_in _ (by omega)
          clear q1 p1 hg hr p2 q2 q3 p3
          go_enter Tryz.func106, Tryz.ntmps106
          go_wp2_with fail
          refine cq (H1.out _) ?_
          go_wp2_with fail
          refine cq (HH.out _) ?_
          go_wp2_with fail
          refine cq (H3.out _) ?_
          go_wp2
          go_ret2
          exact ⟨rfl, Below.refl _ _⟩
        | false =>
          rw [p3] at H3
          have q3 := of_decide_eq_false p3
          rw [if_neg (fun h => q3 h.2.2)]
          clear q1 p1 hg hr p2 q2 q3 p3
          go_enter Tryz.func106, Tryz.ntmps106
          go_wp2_with fail
          refine cq (H1.out _) ?_
          go_wp2_with fail
          refine cq (HH.out _) ?_
          go_wp2_with fail
          refine cq (H3.out _) ?_
          go_wp2_with fail
          refine (HT.out _).mono ?_
          rintro e w1 ⟨m, q, n, n', D, D', rfl, hp, hq, b1⟩
          have HP := hide hp
          have B1 := hide b1
          have hfl := field_whole (.map (some m)) (.map (some q)) w1
          clear hp hq b1
          cases hl : Nf.lookW (a, b) Nf.table with
          | some v =>
            go_wp2_with (at_lookup; refine wpList_lookup_own_ok_int _ rfl _ _ 133 rfl 138 3 .i64 law_pr Tryz.underlying133 Tryz.underlying3 (zero_int _) m n D rfl HP.out.own _ _ (by rfl) (keyOf_pr (x := (a, b)) ⟨hwa, hwb⟩) ?_; intro cv hv _; rw [HP.out.at_ _ ⟨hwa, hwb⟩, hl] at hv; injection hv with hv; injection hv with _ hv; subst hv; rw [HP.out.has _ ⟨hwa, hwb⟩, hl]; dsimp only [Option.getD_some, Option.isSome_some])
            go_ret2
            exact ⟨rfl, B1.out⟩
          | none =>
            go_wp2_with (at_lookup; refine wpList_lookup_own_ok_int _ rfl _ _ 133 rfl 138 3 .i64 law_pr Tryz.underlying133 Tryz.underlying3 (zero_int _) m n D rfl HP.out.own _ _ (by rfl) (keyOf_pr (x := (a, b)) ⟨hwa, hwb⟩) ?_; intro cv hv _; rw [HP.out.at_ _ ⟨hwa, hwb⟩, hl] at hv; injection hv with hv; injection hv with _ hv; subst hv; rw [HP.out.has _ ⟨hwa, hwb⟩, hl]; dsimp only [Option.getD_none, Option.isSome_none])
            go_ret2
            exact ⟨rfl, B1.out⟩
end Go.Proofs.YtlcfakmbcfdgbaaGreat
