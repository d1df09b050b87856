/- write.out: a strings.Builder in a block of type write.out (printed by genWrA.py out of XTxE). · Texts: IsLine, IsBlock. · References in plain data: what a reference names, the text that a text with references stands for; no program in sight. · UTF-8 and tokens in plain data: what stands at the front of a text is told by its own bytes; no program in sight. · The document's till: where the first such piece stands, from a byte on. · References: a digit's worth, where a reference ends, what a name names. · References: text escaped (refs.Escape). Printed by genTxF.py. · write.*: lines, when, put, field. -/
import Derived.Test.YtlcfakmbcfdgbaaGreatWt04
import Derived.Test.YtlcfakmbcfdgbaaGreatWt13
import Derived.Lib.UnsafeStr
import Derived.Deep.QuietTactic
import Derived.BigQuiet
import Derived.Deep.LoopGhost
import Derived.WalkSpells
import Derived.WalkLawsBesides
import Derived.Laws.IdiomStrings
set_option linter.unusedSimpArgs false
set_option linter.unusedVariables false
namespace Go.Proofs.YtlcfakmbcfdgbaaGreat
open Go.RowKit Go.WideShapes

theorem lies_out : liesAt Tryz.prog Tryz.prog.depth 44 (2 / Tryz.prog.cellsOf 44) 0 42 1 = true := by kernel_rfl
set_option maxHeartbeats 1000000 in
set_option maxRecDepth 100000 in
theorem cc_freshW (b : Nat) (w : World) (h0 : w.cell? ⟨b, 0, none⟩ = some (.pointer none)) (hsh : w.shape? b = some (44, 2)) (hfz : w.frozen? ⟨b, 0, none⟩ = false) :
    Calls Tryz.prog 44 #[.pointer (some ⟨b, 0, none⟩)] w fun e w' => e = .returned (.tuple #[]) ∧ w' = w.setCell ⟨b, 0, none⟩ (.pointer (some ⟨b, 0, none⟩)) := by
  obtain ⟨j, hj, hjs⟩ := Option.map_eq_some_iff.1 info_bld
  go_enter Tryz.func44, Tryz.ntmps44
  go_wp2
  rw [Lib.run_to_unsafe w ⟨b, 0, none⟩ Tryz.underlying39 Tryz.underlying80 hj (by rw [hjs]; decide) hsh (Nat.zero_lt_succ 1)]
  simp only [Result.andThen]
  rw [Oper.upon_value]
  go_wp2
  rw [run_callFunc_extern Tryz.func59 (by kernel_rfl) (by kernel_rfl) (by kernel_rfl) (e := Extern.AbiNoEscape.same) (by kernel_rfl)]
  rw [Lib.run_noEscape]
  simp only [Result.andThen]
  rw [Oper.upon_value]
  go_wp2
  rw [Lib.run_from_unsafe w ⟨b, 0, none⟩ Tryz.underlying80 Tryz.underlying39 hj hsh lies_out]
  simp only [Result.andThen]
  rw [Oper.upon_value]
  go_wp2
  go_end0
  exact ⟨rfl, rfl⟩
/-- A builder whose buffer lies in block r. -/
def Wf (B b : Nat) (l : List UInt8) (r : Option Nat) (w : World) : Prop :=
  B ≤ b ∧ ∃ p v, (p = .pointer none ∨ p = .pointer (some ⟨b, 0, none⟩)) ∧ Blk w b 44 #[p, v] ∧ w.ownsRow B 5 1 v l.length (Lib.byteCells l) ∧ v.ownBlock = r
theorem Wf.fresh (w : World) : Wf w.heap.size w.heap.size [] none (w.alloc (.cells #[.pointer none, .slice none 0 0] 44)) :=
  ⟨Nat.le_refl _, _, _, .inl rfl, Blk.new w _ _, World.ownsRow_nil _ _ _ _, rfl⟩
/-- So far: the row is the first one, or a new one. -/
def Wg (W0 : World) (B b : Nat) (r0 : Option Nat) (l : List UInt8) (W : World) : Prop := ∃ r, Wf B b l r W ∧ (r = r0 ∨ ∃ k, r = some k ∧ W0.heap.size ≤ k) ∧ Fz b r0 W0 W
theorem Wg.step {W0 W W' : World} {B b : Nat} {r0 r : Option Nat} {l' : List UInt8} (h0 : r = r0 ∨ ∃ k, r = some k ∧ W0.heap.size ≤ k) (hz : Fz b r0 W0 W) (h : Wg W B b r l' W') : Wg W0 B b r0 l' W' := by
  obtain ⟨r', hb, hr, hf⟩ := h
  refine ⟨r', hb, ?_, ⟨hf.os.trans hz.os, hf.tape.trans hz.tape, hf.output.trans hz.output, Nat.le_trans hz.size hf.size, fun k hk hne hkr => (hf.block k (Nat.lt_of_lt_of_le hk hz.size) hne ?_).trans (hz.block k hk hne hkr)⟩⟩
  · rcases hr with rfl | ⟨k, rfl, hk⟩
    · exact h0
    · exact .inr ⟨k, rfl, Nat.le_trans hz.size hk⟩
  · rcases h0 with rfl | ⟨k0, rfl, hk0⟩
    · exact hkr
    · intro e; injection e with e; omega
theorem wf_lt {B b : Nat} {l : List UInt8} {r : Option Nat} {w : World} (h : Wf B b l r w) : b < w.heap.size := by
  obtain ⟨_, p, v, _, hk, _⟩ := h
  exact hk.lt
/-- copyCheck: the address is there. -/
theorem cc_w {B b : Nat} {l : List UInt8} {r : Option Nat} {w : World} (h : Wf B b l r w) :
    Calls Tryz.prog 44 #[.pointer (some ⟨b, 0, none⟩)] w fun e w' => e = .returned (.tuple #[]) ∧ ∃ v, Blk w' b 44 #[.pointer (some ⟨b, 0, none⟩), v] ∧ w'.ownsRow B 5 1 v l.length (Lib.byteCells l) ∧ v.ownBlock = r ∧ Fz b r w w' := by
  obtain ⟨hB, p, v, hp, hk, ho, hr⟩ := h
  have hne := own_blk_ne ho hk (by decide)
  rcases hp with rfl | rfl
  · refine (cc_freshW b w (hk.cell 0) (by unfold Blk at hk; simp [World.shape?, hk]) (hk.frozen 0)).mono ?_
    rintro e w' ⟨rfl, rfl⟩
    refine ⟨rfl, v, by simpa using hk.set_ 0 (.pointer (some ⟨b, 0, none⟩)), ownsRow_setCell_other ho hne _, hr, ⟨rfl, rfl, rfl, by simp [World.setCell], fun k hk2 h1 h2 => Below.heap_setCell _ _ _ _ (by exact h1)⟩⟩
  · refine (cc_used b w (hk.cell 0)).mono ?_
    rintro e w' ⟨rfl, rfl⟩
    exact ⟨rfl, v, hk, ho, hr, Fz.refl _ _ _⟩
theorem wz_end {B b : Nat} {r : Option Nat} {l' : List UInt8} {w w1 w2 : World} {v v' : Value} (hB : B ≤ b) (hf : Fz b r w w1) (hk : Blk w1 b 44 #[.pointer (some ⟨b, 0, none⟩), v]) (hr : v.ownBlock = r) (hne : v.ownBlock ≠ some b)
    (ho : w2.ownsRow B 5 1 v' l'.length (Lib.byteCells l')) (hg : w1.grownBy w2 v.ownBlock) (hat : v'.ownBlock = v.ownBlock ∨ ∃ k, v'.ownBlock = some k ∧ w1.heap.size ≤ k) : Wg w B b r l' (w2.setCell ⟨b, 1, none⟩ v') := by
  have hk2 : Blk w2 b 44 #[.pointer (some ⟨b, 0, none⟩), v] := hk.grown hg (fun e => hne e.symm)
  have hne2 := own_blk_ne ho hk2 (by decide)
  refine ⟨v'.ownBlock, ⟨hB, _, v', .inr rfl, by simpa using hk2.set_ 1 v', ownsRow_setCell_other ho hne2 _, rfl⟩, ?_, ⟨hg.os.trans hf.os, hg.tape.trans hf.tape, hg.output.trans hf.output, ?_, fun k h1 h2 h3 => ?_⟩⟩
  · rcases hat with h | ⟨k, h, hk3⟩
    · exact .inl (h.trans hr)
    · exact .inr ⟨k, h, Nat.le_trans hf.size hk3⟩
  · have := hf.size; have := hg.size; simp only [World.setCell, Array.size_modify]; omega
  · rw [Below.heap_setCell _ _ _ _ (by exact h2), hg.block k (Nat.lt_of_lt_of_le h1 hf.size) (by rw [hr]; exact h3)]
    exact hf.block k h1 h2 h3
set_option maxHeartbeats 2000000 in
set_option maxRecDepth 100000 in
theorem ws_w {B b : Nat} {l : List UInt8} {r : Option Nat} {w : World} (m : List UInt8) (h : Wf B b l r w) (hlen : l.length + m.length ≤ 140737488355328) (hBw : B ≤ w.heap.size) :
    Calls Tryz.prog 31 #[.pointer (some ⟨b, 0, none⟩), .string (bstr m)] w fun e w' => (∃ v, e = .returned v) ∧ Wg w B b r (l ++ m) w' := by
  have hB := h.1
  have HC := hide (cc_w h)
  have hms : (bstr m).size = m.length := bstr_size m
  have HM := hide hms
  clear h
  go_enter Tryz.func31, Tryz.ntmps31
  go_wp2_with fail
  refine HC.out.mono ?_
  rintro e w1 ⟨rfl, v, hk, ho, hr, hf⟩
  have hne := own_blk_ne ho hk (by decide)
  have HK := hide hk
  have HO := hide ho
  have HF := hide hf
  have Hr := hide hr
  have HN := hide hne
  have c0 := hk.cell 0
  have c1 := hk.cell 1
  have hsz := hf.size
  have HB := hide hB
  have hbw1 : B ≤ w1.heap.size := Nat.le_trans hBw hsz
  clear hk ho hr hf hne hms hB
  dsimp only
  go_wp2_with (at_builtin; go_loud (refine wpList_append_string_at w1 rfl _ _ 40 9 rfl B 5 Tryz.underlying40 Tryz.underlying9 info_u8b _ _ _ rfl HO.out (bstr m) rfl (by rw [HM.out]; exact hlen) hbw1 ?_); intro v' w2 ho2 hg2 hat2; have hk2 := HK.out.grown hg2 (fun e => HN.out e.symm); have d0 := hk2.cell 0; have d1 := hk2.cell 1; have f1 := hk2.frozen 1; have HO2 := hide ho2; have HG2 := hide hg2; have HA2 := hide hat2; obtain ⟨ao, cap, rfl⟩ := own_form ho2; clear ho2 hg2 hat2 hk2)
  go_ret2
  refine ⟨⟨_, rfl⟩, ?_⟩
  refine wz_end HB.out HF.out HK.out Hr.out HN.out ?_ HG2.out (HA2.out.imp id fun h => ⟨_, h, Nat.le_refl _⟩)
  have h := HO2.out
  rw [HM.out] at h
  rw [List.length_append, bxcells_app]
  exact h
set_option maxHeartbeats 2000000 in
set_option maxRecDepth 100000 in
theorem wb_w {B b : Nat} {l : List UInt8} {r : Option Nat} {w : World} (c : UInt8) (h : Wf B b l r w) (hlen : l.length + 1 ≤ 140737488355328) (hBw : B ≤ w.heap.size) :
    Calls Tryz.prog 32 #[.pointer (some ⟨b, 0, none⟩), .int .u8 (c.toNat : Nat)] w fun e w' => e = .returned .nilIface ∧ Wg w B b r (l ++ [c]) w' := by
  have hB := h.1
  have HC := hide (cc_w h)
  obtain ⟨i0, hi, hz0, hz1, hz2⟩ := info_parts info_u8b
  clear h
  go_enter Tryz.func32, Tryz.ntmps32
  go_wp2_with fail
  refine HC.out.mono ?_
  rintro e w1 ⟨rfl, v, hk, ho, hr, hf⟩
  have hne := own_blk_ne ho hk (by decide)
  have HK := hide hk
  have HO := hide ho
  have HF := hide hf
  have Hr := hide hr
  have HN := hide hne
  have c0 := hk.cell 0
  have c1 := hk.cell 1
  have hsz := hf.size
  have HB := hide hB
  have hbw1 : B ≤ w1.heap.size := Nat.le_trans hBw hsz
  clear hk ho hr hf hne hB
  dsimp only
  go_wp2_with (at_builtin; refine wpList_append_own_at _ rfl _ _ 40 rfl B 5 i0 (.int .u8 0) 1 1 Tryz.underlying40 hi hz0 hz1 hz2 rfl (by decide) _ _ _ rfl (HO.out.alloc _) ⟨w1.heap.size, 0, none⟩ 1 1 [.int .u8 (c.toNat : Nat)] rfl rfl ?c1 ?c2 ?c3 ?c4 ?c5 ?_)
  case c1 =>
    intro j u hj
    match j, hj with
    | 0, hj => simp at hj; subst hj; simp [Addr.add]
  case c2 => intro u hu; simp at hu; subst hu; rfl
  case c3 => unfold maxLen; omega
  case c4 => omega
  case c5 => simp; omega
  intro v' w2 ho2 hg2 _ hat2
  have hg3 : w1.grownBy w2 v.ownBlock := ⟨hg2.os, hg2.tape, hg2.output, Nat.le_trans (by simp) hg2.size, fun k hk hne => (hg2.block k (by simp; omega) hne).trans (Below.heap_alloc w1 _ k hk)⟩
  have hat3 : v'.ownBlock = v.ownBlock ∨ ∃ k, v'.ownBlock = some k ∧ w1.heap.size ≤ k := by
    rcases hat2 with h | h
    · exact .inl h
    · exact .inr ⟨_, h, by simp⟩
  have hk2 := HK.out.grown hg3 (fun e => HN.out e.symm)
  have d0 := hk2.cell 0
  have d1 := hk2.cell 1
  have f1 := hk2.frozen 1
  have HO2 := hide ho2
  have HG2 := hide hg3
  have HA2 := hide hat3
  obtain ⟨ao, cap, rfl⟩ := own_form ho2
  clear ho2 hg2 hg3 hat2 hat3 hk2
  go_wp2
  go_ret
  refine ⟨rfl, ?_⟩
  refine wz_end HB.out HF.out HK.out Hr.out HN.out ?_ HG2.out HA2.out
  rw [List.length_append, bxcells_app]
  exact HO2.out
end Go.Proofs.YtlcfakmbcfdgbaaGreat
namespace Go.Proofs.YtlcfakmbcfdgbaaGreat
open Go.RowKit Go.WideShapes

theorem bstr_ne {a b : List UInt8} (h : a ≠ b) : bstr a ≠ bstr b := fun e => h (str_inj e)
theorem bstr_beq {a b : List UInt8} (h : a ≠ b) : ((bstr a).toList == (bstr b).toList) = false := by
  rw [ByteArray.toList_eq, ByteArray.toList_eq, bstr_list, bstr_list]
  exact beq_eq_false_iff_ne.2 h
set_option maxHeartbeats 4000000 in
theorem isLine_any (l : List UInt8) (w : World) (hs : l.length ≤ 200000) :
    Calls Tryz.prog 38 #[.string (bstr l)] w fun e w' => e = .returned (.bool (Tx.isLine l)) ∧ Below w.heap.size w w' := by
  have H1 := hide (right_any l w hs)
  have H2 := hide (fun W => line_any l W hs)
  unfold Tx.isLine
  cases hv : Tx.right l with
  | false =>
    rw [hv] at H1
    clear hv
    go_enter Tryz.func38, Tryz.ntmps38
    go_wp2_with fail
    refine H1.out.mono ?_
    rintro e w1 ⟨rfl, hb⟩
    have HB := hide hb
    clear hb
    dsimp only
    go_wp2
    go_ret
    exact ⟨rfl, HB.out⟩
  | true =>
    rw [hv] at H1
    clear hv
    by_cases he : Tx.line l = l
    · rw [decide_eq_true he]
      rw [he] at H2
      clear he
      go_enter Tryz.func38, Tryz.ntmps38
      go_wp2_with fail
      refine H1.out.mono ?_
      rintro e w1 ⟨rfl, hb⟩
      have HB := hide hb
      clear hb
      dsimp only
      go_wp2_with fail
      refine (H2.out w1).mono ?_
      rintro e w2 ⟨rfl, hb⟩
      have HB2 := hide (HB.out.trans (hb.mono HB.out.size))
      clear hb
      dsimp only
      go_wp2
      go_ret
      exact ⟨rfl, HB2.out⟩
    · rw [decide_eq_false he]
      have hne := bstr_ne he
      have hbq := bstr_beq he
      clear he
      generalize Tx.line l = m at *
      go_enter Tryz.func38, Tryz.ntmps38
      go_wp2_with fail
      refine H1.out.mono ?_
      rintro e w1 ⟨rfl, hb⟩
      have HB := hide hb
      clear hb
      dsimp only
      go_wp2_with fail
      refine (H2.out w1).mono ?_
      rintro e w2 ⟨rfl, hb⟩
      have HB2 := hide (HB.out.trans (hb.mono HB.out.size))
      clear hb
      dsimp only
      go_wp2
      go_ret
      exact ⟨rfl, HB2.out⟩
set_option maxHeartbeats 4000000 in
theorem isBlock_any (l : List UInt8) (w : World) (hs : l.length ≤ 200000) :
    Calls Tryz.prog 26 #[.string (bstr l)] w fun e w' => e = .returned (.bool (Tx.isBlock l)) ∧ Below w.heap.size w w' := by
  have H1 := hide (right_any l w hs)
  have H2 := hide (fun W => block_any l W hs)
  unfold Tx.isBlock
  cases hv : Tx.right l with
  | false =>
    rw [hv] at H1
    clear hv
    go_enter Tryz.func26, Tryz.ntmps26
    go_wp2_with fail
    refine H1.out.mono ?_
    rintro e w1 ⟨rfl, hb⟩
    have HB := hide hb
    clear hb
    dsimp only
    go_wp2
    go_ret
    exact ⟨rfl, HB.out⟩
  | true =>
    rw [hv] at H1
    clear hv
    by_cases he : Tx.block l = l
    · rw [decide_eq_true he]
      rw [he] at H2
      clear he
      go_enter Tryz.func26, Tryz.ntmps26
      go_wp2_with fail
      refine H1.out.mono ?_
      rintro e w1 ⟨rfl, hb⟩
      have HB := hide hb
      clear hb
      dsimp only
      go_wp2_with fail
      refine (H2.out w1).mono ?_
      rintro e w2 ⟨rfl, hb⟩
      have HB2 := hide (HB.out.trans (hb.mono HB.out.size))
      clear hb
      dsimp only
      go_wp2
      go_ret
      exact ⟨rfl, HB2.out⟩
    · rw [decide_eq_false he]
      have hne := bstr_ne he
      have hbq := bstr_beq he
      clear he
      generalize Tx.block l = m at *
      go_enter Tryz.func26, Tryz.ntmps26
      go_wp2_with fail
      refine H1.out.mono ?_
      rintro e w1 ⟨rfl, hb⟩
      have HB := hide hb
      clear hb
      dsimp only
      go_wp2_with fail
      refine (H2.out w1).mono ?_
      rintro e w2 ⟨rfl, hb⟩
      have HB2 := hide (HB.out.trans (hb.mono HB.out.size))
      clear hb
      dsimp only
      go_wp2
      go_ret
      exact ⟨rfl, HB2.out⟩
end Go.Proofs.YtlcfakmbcfdgbaaGreat
namespace Go.Proofs.YtlcfakmbcfdgbaaGreat
open Go Tk
namespace Sx
end Sx
end Go.Proofs.YtlcfakmbcfdgbaaGreat
namespace Go.Proofs.YtlcfakmbcfdgbaaGreat
namespace Utf

theorem cont_zero (l : List UInt8) (r n lo hi : Int) : cont l 0 r n lo hi = (r, n) := by cases l <;> simp [cont]
/-- An ASCII byte is a piece of its own. -/
theorem piece_ascii {c : UInt8} (h : c.toNat < 128) (l : List UInt8) : piece (c :: l) = ((c.toNat : Int), 1) := by
  have e : follow (c.toNat : Int) = (0, (c.toNat : Int), 128, 191) := by unfold follow; rw [if_pos (by omega)]
  rw [piece_cons, e]
  simp [cont_zero]
end Utf
namespace Tk
end Tk
end Go.Proofs.YtlcfakmbcfdgbaaGreat
namespace Go.Proofs.YtlcfakmbcfdgbaaGreat
open Go.RowKit Tk

end Go.Proofs.YtlcfakmbcfdgbaaGreat
namespace Go.Proofs.YtlcfakmbcfdgbaaGreat
open Go.RowKit Tk Sx

/-- '[]byte(s)': a new row of the string's bytes. -/
theorem bytes_of (s : ByteArray) (w : World) : ∃ W g cap, (Go.convert 9 40 (.string s)).run Tryz.prog w = .ok (.slice (some ⟨g, 0, none⟩) s.size cap) W ∧ Below w.heap.size w W ∧ g < W.heap.size ∧
    ∀ (k : Nat) (c : UInt8), s.data.toList[k]? = some c → W.cell? ⟨g, k, none⟩ = some (.int .u8 (c.toNat : Nat)) := by
  refine ⟨_, _, _, run_bytes_of_string (P := Tryz.prog) w 9 40 5 s Tryz.underlying9 Tryz.underlying40 Tryz.underlying5, ?_, ?_, ?_⟩
  · exact (Below.refl _ w).drew.alloc (by simp) _
  · simp
  · intro k c hc
    obtain ⟨h1, h2⟩ := List.getElem?_eq_some_iff.1 hc
    have hk : k < s.data.size := by simpa using h1
    have := bytesRow_at s (grownCap w s.size 0 5) k hk
    have e : w.heap.size = w.drew.heap.size := rfl
    rw [e, World.cell?_alloc_mark, this]
    have h3 : s.data[k] = c := by simpa using h2
    rw [h3]

end Go.Proofs.YtlcfakmbcfdgbaaGreat
namespace Go.Proofs.YtlcfakmbcfdgbaaGreat
open Go.RowKit Go.WideShapes

namespace Tx
/-- A byte as it is written. -/
def esc (q : Bool) (c : UInt8) : List UInt8 :=
  if c = 38 then [38, 97, 109, 112, 59] else if c = 60 then [38, 108, 116, 59] else if c = 62 then [38, 103, 116, 59] else if c = 13 then [38, 35, 49, 51, 59]
  else if q = true ∧ c = 34 then [38, 113, 117, 111, 116, 59] else if q = true ∧ c = 9 then [38, 35, 57, 59] else if q = true ∧ c = 10 then [38, 35, 49, 48, 59] else [c]
def escape (q : Bool) (l : List UInt8) : List UInt8 := l.flatMap (esc q)
theorem esc_len (q : Bool) (c : UInt8) : (esc q c).length ≤ 6 := by
  unfold esc
  repeat' split
  all_goals simp
theorem escape_len (q : Bool) (l : List UInt8) : (escape q l).length ≤ 6 * l.length := by
  unfold escape
  induction l with
  | nil => simp
  | cons c l ih => rw [List.flatMap_cons, List.length_append, List.length_cons]; have := esc_len q c; omega
theorem escape_next {q : Bool} {l : List UInt8} {j : Nat} {c : UInt8} (h : l[j]? = some c) : escape q (l.take (j + 1)) = escape q (l.take j) ++ esc q c := by
  unfold escape
  rw [List.take_add_one, h, List.flatMap_append]
  simp
end Tx
theorem Bf.go {B b : Nat} {l : List UInt8} {r : Option Nat} {w w' : World} (h : Bf B b l r w) (hb : Below w.heap.size w w') : Bf B b l r w' := by
  obtain ⟨hB, p, v, hp, hk, ho, hr⟩ := h
  exact ⟨hB, p, v, hp, hk.go hb, uown_go ho hb, hr⟩
theorem bf_cell {B b g j : Nat} {l : List UInt8} {r : Option Nat} {w : World} {k : IntKind} {z : Int} (h : Bf B b l r w) (hc : w.cell? ⟨g, j, none⟩ = some (.int k z)) : g ≠ b := by
  rintro rfl
  obtain ⟨_, p, v, hp, hk, ho, _⟩ := h
  rw [hk.cell] at hc
  obtain ⟨A, c, rfl⟩ := own_form ho
  match j, hc with
  | 0, hc => rcases hp with rfl | rfl <;> simp at hc
  | 1, hc => simp at hc
  | j + 2, hc => simp at hc
theorem Bg.below {W0 W : World} {B b : Nat} {l : List UInt8} {w : World} (h : Bg W0 B b none l W) (hb : Below B w W0) (hB : B ≤ b) (hs : B ≤ W0.heap.size) : Below B w W := by
  obtain ⟨r, _, _, hz⟩ := h
  exact ⟨hz.os.trans hb.os, hz.tape.trans hb.tape, hz.output.trans hb.output, Nat.le_trans hb.size hz.size, fun k hk => (hz.block k (by omega) (by omega) (by simp)).trans (hb.block k hk)⟩
set_option maxRecDepth 100000 in
set_option maxHeartbeats 16000000 in
theorem escape_any (q : Bool) (l : List UInt8) (w : World) (hs : l.length ≤ 1000000000) :
    Calls Tryz.prog 34 #[.string (bstr l), .bool q] w fun e w' => e = .returned (.string (bstr (Tx.escape q l))) ∧ Below w.heap.size w w' := by
  obtain ⟨W0, g, cap, hconv, hb, hg, hat⟩ := bytes_of (bstr l) (w.alloc (.cells #[.pointer none, .slice none 0 0] 42))
  have HF0 := hide ((Bf.fresh w).go hb)
  have HB0 := hide ((below_alloc w (.cells #[.pointer none, .slice none 0 0] 42)).trans (hb.mono (by simp)))
  have hw0 : w.heap.size < W0.heap.size := Nat.lt_of_lt_of_le (by simp) hb.size
  have HAt := hide hat
  obtain ⟨N, hN⟩ : ∃ N, l.length = N := ⟨_, rfl⟩
  have hsz : (bstr l).size = N := by rw [bstr_size, hN]
  rw [hsz] at hconv
  rw [hN] at hs
  have HN := hide hN
  have HSz := hide hsz
  clear hb hat hN hsz
  go_enter Tryz.func34, Tryz.ntmps34
  go_wp2
  go_loopg [11] N (fun gk v11 wr => ∃ j : Nat, gk = N - j ∧ j ≤ N ∧ v11 = .int .i64 (j : Int) ∧ Bg W0 w.heap.size w.heap.size none (Tx.escape q (l.take j)) wr)
  case atStart => exact ⟨0, rfl, by omega, rfl, ⟨none, HF0.out, .inl rfl, Fz.refl _ _ _⟩⟩
  case round =>
    obtain ⟨j, hgk, hj, rfl, hbg⟩ := hrel
    have Hg := hide hgk
    have HBg := hide hbg
    clear hgk hbg
    by_cases hlt : j < N
    · obtain ⟨c, hc⟩ : ∃ c, l[j]? = some c := ⟨_, List.getElem?_eq_getElem (by rw [HN.out]; exact hlt)⟩
      have hc0 := HAt.out j c (by rw [bstr_list]; exact hc)
      have hgb := bf_cell HF0.out hc0
      obtain ⟨r, hbf, hr, hz⟩ := HBg.out
      have y0 : wr.cell? ⟨g, j, none⟩ = some (.int .u8 (c.toNat : Nat)) := by
        have e := hz.block g hg hgb (by simp)
        unfold World.cell? at hc0 ⊢
        dsimp only at hc0 ⊢
        rwa [e]
      have HBf := hide hbf
      have Hr := hide hr
      have HZ := hide hz
      have HE := hide (Tx.escape_next (q := q) hc)
      have hol := Tx.escape_len q (l.take j)
      have hol2 : (Tx.escape q (l.take j)).length ≤ 6000000000 := Nat.le_trans hol (by rw [List.length_take]; omega)
      have hbw : w.heap.size ≤ wr.heap.size := Nat.le_trans (Nat.le_of_lt hw0) hz.size
      have HWs := hide (fun m (h : m.length ≤ 10) => ws_f m HBf.out (by omega) hbw)
      have HWb := hide (wb_f c HBf.out (by omega) hbw)
      clear hc hc0 hbf hr hz hol hol2
      have key : ∀ w2, Bg wr w.heap.size w.heap.size r (Tx.escape q (l.take j) ++ Tx.esc q c) w2 → Bg W0 w.heap.size w.heap.size none (Tx.escape q (l.take (j + 1))) w2 := fun w2 h => by
        rw [HE.out]
        exact Bg.step Hr.out HZ.out h
      have Key := hide key
      clear key

      cases q with
      | true =>
        by_cases hcc : c = 38
        · subst hcc
          have HE2 := hide (show Tx.esc true 38 = [38, 97, 109, 112, 59] by unfold Tx.esc; simp)
          rw [HE2.out] at Key
          clear HWb
          have HW := hide (HWs.out [38, 97, 109, 112, 59] (by decide))
          go_wp2_with fail
          refine HW.out.mono ?_
          rintro e w2 ⟨⟨v, rfl⟩, hb2⟩
          have HB2 := hide hb2
          clear hb2
          dsimp only
          go_wp2
          go_roundg (N - (j + 1))
          case measure => have := Hg.out; omega
          case rel => exact ⟨j + 1, rfl, by omega, by first | rfl | go_num, Key.out _ HB2.out⟩
        have h38 : ((c.toNat : Int) == 38) = false := by
          have : c.toNat ≠ 38 := fun e => hcc (UInt8.toNat_inj.1 e)
          simpa using (show ¬ (c.toNat : Int) = 38 by omega)
        have H38 := hide hcc
        clear hcc
        by_cases hcc : c = 60
        · subst hcc
          have HE2 := hide (show Tx.esc true 60 = [38, 108, 116, 59] by unfold Tx.esc; simp)
          rw [HE2.out] at Key
          clear HWb
          have HW := hide (HWs.out [38, 108, 116, 59] (by decide))
          go_wp2_with fail
          refine HW.out.mono ?_
          rintro e w2 ⟨⟨v, rfl⟩, hb2⟩
          have HB2 := hide hb2
          clear hb2
          dsimp only
          go_wp2
          go_roundg (N - (j + 1))
          case measure => have := Hg.out; omega
          case rel => exact ⟨j + 1, rfl, by omega, by first | rfl | go_num, Key.out _ HB2.out⟩
        have h60 : ((c.toNat : Int) == 60) = false := by
          have : c.toNat ≠ 60 := fun e => hcc (UInt8.toNat_inj.1 e)
          simpa using (show ¬ (c.toNat : Int) = 60 by omega)
        have H60 := hide hcc
        clear hcc
        by_cases hcc : c = 62
        · subst hcc
          have HE2 := hide (show Tx.esc true 62 = [38, 103, 116, 59] by unfold Tx.esc; simp)
          rw [HE2.out] at Key
          clear HWb
          have HW := hide (HWs.out [38, 103, 116, 59] (by decide))
          go_wp2_with fail
          refine HW.out.mono ?_
          rintro e w2 ⟨⟨v, rfl⟩, hb2⟩
          have HB2 := hide hb2
          clear hb2
          dsimp only
          go_wp2
          go_roundg (N - (j + 1))
          case measure => have := Hg.out; omega
          case rel => exact ⟨j + 1, rfl, by omega, by first | rfl | go_num, Key.out _ HB2.out⟩
        have h62 : ((c.toNat : Int) == 62) = false := by
          have : c.toNat ≠ 62 := fun e => hcc (UInt8.toNat_inj.1 e)
          simpa using (show ¬ (c.toNat : Int) = 62 by omega)
        have H62 := hide hcc
        clear hcc
        by_cases hcc : c = 13
        · subst hcc
          have HE2 := hide (show Tx.esc true 13 = [38, 35, 49, 51, 59] by unfold Tx.esc; simp)
          rw [HE2.out] at Key
          clear HWb
          have HW := hide (HWs.out [38, 35, 49, 51, 59] (by decide))
          go_wp2_with fail
          refine HW.out.mono ?_
          rintro e w2 ⟨⟨v, rfl⟩, hb2⟩
          have HB2 := hide hb2
          clear hb2
          dsimp only
          go_wp2
          go_roundg (N - (j + 1))
          case measure => have := Hg.out; omega
          case rel => exact ⟨j + 1, rfl, by omega, by first | rfl | go_num, Key.out _ HB2.out⟩
        have h13 : ((c.toNat : Int) == 13) = false := by
          have : c.toNat ≠ 13 := fun e => hcc (UInt8.toNat_inj.1 e)
          simpa using (show ¬ (c.toNat : Int) = 13 by omega)
        have H13 := hide hcc
        clear hcc
        by_cases hcc : c = 34
        · subst hcc
          have HE2 := hide (show Tx.esc true 34 = [38, 113, 117, 111, 116, 59] by decide)
          rw [HE2.out] at Key
          clear HWb
          have HW := hide (HWs.out [38, 113, 117, 111, 116, 59] (by decide))
          go_wp2_with fail
          refine HW.out.mono ?_
          rintro e w2 ⟨⟨v, rfl⟩, hb2⟩
          have HB2 := hide hb2
          clear hb2
          dsimp only
          go_wp2
          go_roundg (N - (j + 1))
          case measure => have := Hg.out; omega
          case rel => exact ⟨j + 1, rfl, by omega, by first | rfl | go_num, Key.out _ HB2.out⟩
        have h34 : ((c.toNat : Int) == 34) = false := by
          have : c.toNat ≠ 34 := fun e => hcc (UInt8.toNat_inj.1 e)
          simpa using (show ¬ (c.toNat : Int) = 34 by omega)
        have H34 := hide hcc
        clear hcc
        by_cases hcc : c = 9
        · subst hcc
          have HE2 := hide (show Tx.esc true 9 = [38, 35, 57, 59] by decide)
          rw [HE2.out] at Key
          clear HWb
          have HW := hide (HWs.out [38, 35, 57, 59] (by decide))
          go_wp2_with fail
          refine HW.out.mono ?_
          rintro e w2 ⟨⟨v, rfl⟩, hb2⟩
          have HB2 := hide hb2
          clear hb2
          dsimp only
          go_wp2
          go_roundg (N - (j + 1))
          case measure => have := Hg.out; omega
          case rel => exact ⟨j + 1, rfl, by omega, by first | rfl | go_num, Key.out _ HB2.out⟩
        have h9 : ((c.toNat : Int) == 9) = false := by
          have : c.toNat ≠ 9 := fun e => hcc (UInt8.toNat_inj.1 e)
          simpa using (show ¬ (c.toNat : Int) = 9 by omega)
        have H9 := hide hcc
        clear hcc
        by_cases hcc : c = 10
        · subst hcc
          have HE2 := hide (show Tx.esc true 10 = [38, 35, 49, 48, 59] by decide)
          rw [HE2.out] at Key
          clear HWb
          have HW := hide (HWs.out [38, 35, 49, 48, 59] (by decide))
          go_wp2_with fail
          refine HW.out.mono ?_
          rintro e w2 ⟨⟨v, rfl⟩, hb2⟩
          have HB2 := hide hb2
          clear hb2
          dsimp only
          go_wp2
          go_roundg (N - (j + 1))
          case measure => have := Hg.out; omega
          case rel => exact ⟨j + 1, rfl, by omega, by first | rfl | go_num, Key.out _ HB2.out⟩
        have h10 : ((c.toNat : Int) == 10) = false := by
          have : c.toNat ≠ 10 := fun e => hcc (UInt8.toNat_inj.1 e)
          simpa using (show ¬ (c.toNat : Int) = 10 by omega)
        have H10 := hide hcc
        clear hcc
        have HE2 := hide (show Tx.esc true c = [c] by
          unfold Tx.esc
          rw [if_neg H38.out, if_neg H60.out, if_neg H62.out, if_neg H13.out, if_neg (fun h => H34.out h.2), if_neg (fun h => H9.out h.2), if_neg (fun h => H10.out h.2)])
        rw [HE2.out] at Key
        clear HWs
        have HW := hide HWb.out
        go_wp2_with fail
        refine HW.out.mono ?_
        rintro e w2 ⟨rfl, hb2⟩
        have HB2 := hide hb2
        clear hb2
        dsimp only
        go_wp2
        go_roundg (N - (j + 1))
        case measure => have := Hg.out; omega
        case rel => exact ⟨j + 1, rfl, by omega, by first | rfl | go_num, Key.out _ HB2.out⟩
      | false =>
        by_cases hcc : c = 38
        · subst hcc
          have HE2 := hide (show Tx.esc false 38 = [38, 97, 109, 112, 59] by unfold Tx.esc; simp)
          rw [HE2.out] at Key
          clear HWb
          have HW := hide (HWs.out [38, 97, 109, 112, 59] (by decide))
          go_wp2_with fail
          refine HW.out.mono ?_
          rintro e w2 ⟨⟨v, rfl⟩, hb2⟩
          have HB2 := hide hb2
          clear hb2
          dsimp only
          go_wp2
          go_roundg (N - (j + 1))
          case measure => have := Hg.out; omega
          case rel => exact ⟨j + 1, rfl, by omega, by first | rfl | go_num, Key.out _ HB2.out⟩
        have h38 : ((c.toNat : Int) == 38) = false := by
          have : c.toNat ≠ 38 := fun e => hcc (UInt8.toNat_inj.1 e)
          simpa using (show ¬ (c.toNat : Int) = 38 by omega)
        have H38 := hide hcc
        clear hcc
        by_cases hcc : c = 60
        · subst hcc
          have HE2 := hide (show Tx.esc false 60 = [38, 108, 116, 59] by unfold Tx.esc; simp)
          rw [HE2.out] at Key
          clear HWb
          have HW := hide (HWs.out [38, 108, 116, 59] (by decide))
          go_wp2_with fail
          refine HW.out.mono ?_
          rintro e w2 ⟨⟨v, rfl⟩, hb2⟩
          have HB2 := hide hb2
          clear hb2
          dsimp only
          go_wp2
          go_roundg (N - (j + 1))
          case measure => have := Hg.out; omega
          case rel => exact ⟨j + 1, rfl, by omega, by first | rfl | go_num, Key.out _ HB2.out⟩
        have h60 : ((c.toNat : Int) == 60) = false := by
          have : c.toNat ≠ 60 := fun e => hcc (UInt8.toNat_inj.1 e)
          simpa using (show ¬ (c.toNat : Int) = 60 by omega)
        have H60 := hide hcc
        clear hcc
        by_cases hcc : c = 62
        · subst hcc
          have HE2 := hide (show Tx.esc false 62 = [38, 103, 116, 59] by unfold Tx.esc; simp)
          rw [HE2.out] at Key
          clear HWb
          have HW := hide (HWs.out [38, 103, 116, 59] (by decide))
          go_wp2_with fail
          refine HW.out.mono ?_
          rintro e w2 ⟨⟨v, rfl⟩, hb2⟩
          have HB2 := hide hb2
          clear hb2
          dsimp only
          go_wp2
          go_roundg (N - (j + 1))
          case measure => have := Hg.out; omega
          case rel => exact ⟨j + 1, rfl, by omega, by first | rfl | go_num, Key.out _ HB2.out⟩
        have h62 : ((c.toNat : Int) == 62) = false := by
          have : c.toNat ≠ 62 := fun e => hcc (UInt8.toNat_inj.1 e)
          simpa using (show ¬ (c.toNat : Int) = 62 by omega)
        have H62 := hide hcc
        clear hcc
        by_cases hcc : c = 13
        · subst hcc
          have HE2 := hide (show Tx.esc false 13 = [38, 35, 49, 51, 59] by unfold Tx.esc; simp)
          rw [HE2.out] at Key
          clear HWb
          have HW := hide (HWs.out [38, 35, 49, 51, 59] (by decide))
          go_wp2_with fail
          refine HW.out.mono ?_
          rintro e w2 ⟨⟨v, rfl⟩, hb2⟩
          have HB2 := hide hb2
          clear hb2
          dsimp only
          go_wp2
          go_roundg (N - (j + 1))
          case measure => have := Hg.out; omega
          case rel => exact ⟨j + 1, rfl, by omega, by first | rfl | go_num, Key.out _ HB2.out⟩
        have h13 : ((c.toNat : Int) == 13) = false := by
          have : c.toNat ≠ 13 := fun e => hcc (UInt8.toNat_inj.1 e)
          simpa using (show ¬ (c.toNat : Int) = 13 by omega)
        have H13 := hide hcc
        clear hcc
        have HE2 := hide (show Tx.esc false c = [c] by
          unfold Tx.esc
          rw [if_neg H38.out, if_neg H60.out, if_neg H62.out, if_neg H13.out, if_neg (fun h => by cases h.1), if_neg (fun h => by cases h.1), if_neg (fun h => by cases h.1)])
        rw [HE2.out] at Key
        clear HWs
        have HW := hide HWb.out
        go_wp2_with fail
        refine HW.out.mono ?_
        rintro e w2 ⟨rfl, hb2⟩
        have HB2 := hide hb2
        clear hb2
        dsimp only
        go_wp2
        go_roundg (N - (j + 1))
        case measure => have := Hg.out; omega
        case rel => exact ⟨j + 1, rfl, by omega, by first | rfl | go_num, Key.out _ HB2.out⟩
    · have hjN : j = N := by omega
      subst hjN
      obtain ⟨r, hbf, hr, hz⟩ := HBg.out
      have hbw : w.heap.size ≤ wr.heap.size := Nat.le_trans (Nat.le_of_lt hw0) hz.size
      have HS := hide (hbf.bx.str hbw)
      have HBl := hide (HBg.out.below HB0.out (Nat.le_refl _) (Nat.le_of_lt hw0))
      clear hbf hr hz
      rw [List.take_of_length_le (by rw [HN.out]; exact Nat.le_refl _)] at HS
      go_wp2_with fail
      refine HS.out.mono ?_
      rintro e w2 ⟨rfl, hb2⟩
      have HB2 := hide (HBl.out.trans hb2)
      clear hb2
      dsimp only
      go_wp2
      go_ret
      exact ⟨rfl, HB2.out⟩
end Go.Proofs.YtlcfakmbcfdgbaaGreat
namespace Go.Proofs.YtlcfakmbcfdgbaaGreat
open Go.RowKit Go.WideShapes

theorem own_go2 {w w' : World} {base size n : Nat} {e : TypeId} {v : Value} {xs : List Value} (h : w.ownsRow base e size v n xs) (hb : Below w.heap.size w w') : w'.ownsRow base e size v n xs := by
  refine ⟨h.1, ?_⟩
  rcases h.2 with hn | ⟨g, cap, cur, rfl, hbg, hg, rest⟩
  · exact .inl hn
  · exact .inr ⟨g, cap, cur, rfl, hbg, (hb.block g (Blk.lt (t := e) hg)).trans hg, rest⟩
theorem Wf.go {B b : Nat} {l : List UInt8} {r : Option Nat} {w w' : World} (h : Wf B b l r w) (hb : Below w.heap.size w w') : Wf B b l r w' := by
  obtain ⟨hB, p, v, hp, hk, ho, hr⟩ := h
  exact ⟨hB, p, v, hp, hk.go hb, own_go2 ho hb, hr⟩
theorem Fz.of_below {b : Nat} {r : Option Nat} {w w' : World} (hb : Below w.heap.size w w') : Fz b r w w' := ⟨hb.os, hb.tape, hb.output, hb.size, fun k hk _ _ => hb.block k hk⟩
/-- From a world on, after calls that left all alone. -/
theorem Wg.after {B b : Nat} {r : Option Nat} {l : List UInt8} {w w' w2 : World} (hb : Below w.heap.size w w') (h : Wg w' B b r l w2) : Wg w B b r l w2 := Wg.step (.inl rfl) (Fz.of_below hb) h
theorem Wg.go {B b : Nat} {r : Option Nat} {l : List UInt8} {w w1 w2 : World} (h : Wg w B b r l w1) (hb : Below w1.heap.size w1 w2) : Wg w B b r l w2 := by
  obtain ⟨r', hf, hr, hz⟩ := h
  exact ⟨r', hf.go hb, hr, ⟨hb.os.trans hz.os, hb.tape.trans hz.tape, hb.output.trans hz.output, Nat.le_trans hz.size hb.size, fun k hk h1 h2 => (hb.block k (Nat.lt_of_lt_of_le hk hz.size)).trans (hz.block k hk h1 h2)⟩⟩
theorem Wf.ne {B b g t : Nat} {l : List UInt8} {r : Option Nat} {w : World} {cs : Array Value} (h : Wf B b l r w) (hg : Blk w g t cs) (h1 : t ≠ 44) (h2 : t ≠ 5) : g ≠ b ∧ some g ≠ r := by
  obtain ⟨hB, p, v, hp, hk, ho, rfl⟩ := h
  exact ⟨hg.ne_ hk h1, (own_blk_ne ho hg (Ne.symm h2)).symm⟩
/-- A row of strings. -/
def strVs (ls : List (List UInt8)) : Array Value := (ls.map fun l => Value.string (bstr l)).toArray
theorem strVs_at {ls : List (List UInt8)} {i : Nat} (h : i < ls.length) : (strVs ls)[i]? = some (.string (bstr ls[i])) := by
  unfold strVs
  rw [List.getElem?_toArray, List.getElem?_map, List.getElem?_eq_getElem h]
  rfl
set_option maxHeartbeats 4000000 in
set_option maxRecDepth 100000 in
theorem lines_any (ls : List (List UInt8)) (g n c : Nat) (w : World) (hg : Blk w g 9 (strVs ls)) (hn : ls.length = n) (hn2 : n ≤ 100) (hl : ∀ l ∈ ls, l.length ≤ 200000) :
    Calls Tryz.prog 24 #[.slice (some ⟨g, 0, none⟩) n c] w fun e w' => e = .returned (.bool (ls.all Tx.isLine)) ∧ Below w.heap.size w w' := by
  have HG := hide hg
  have HL := hide hl
  have Hn := hide hn
  clear hg hl hn
  go_enter Tryz.func24, Tryz.ntmps24
  go_wp2
  go_loopg [4, 7] n (fun gk v4 v7 wr => ∃ i : Nat, v7 = .int .i64 (i : Int) ∧ gk = n - i ∧ i ≤ n ∧ (ls.take i).all Tx.isLine = true ∧ Below w.heap.size w wr)
  case atStart => exact ⟨0, rfl, rfl, by omega, rfl, Below.refl _ _⟩
  case round =>
    obtain ⟨i, rfl, hgk, hin, hall, hb⟩ := hrel
    have HB := hide hb
    have HAll := hide hall
    have Hgk := hide hgk
    clear hb hall hgk
    by_cases hlt : i < n
    · have hil : i < ls.length := by rw [Hn.out]; exact hlt
      obtain ⟨x, hx⟩ : ∃ x, ls[i] = x := ⟨_, rfl⟩
      have cx := (HG.out.below HB.out HG.out.lt).cell i
      rw [strVs_at hil, hx] at cx
      have HX := hide (isLine_any x wr (HL.out x (by rw [← hx]; exact List.getElem_mem _)))
      have HT := hide (show (ls.take (i + 1)).all Tx.isLine = Tx.isLine x by rw [List.take_succ_eq_append_getElem hil, List.all_append, HAll.out, hx]; simp)
      have HF := hide (show Tx.isLine x = false → ls.all Tx.isLine = false by
        intro h
        rw [Bool.eq_false_iff]
        intro h2
        rw [List.all_eq_true] at h2
        have := h2 x (by rw [← hx]; exact List.getElem_mem _)
        rw [h] at this
        cases this)
      clear hx
      go_wp2_with fail
      refine HX.out.mono ?_
      rintro e w2 ⟨rfl, hb2⟩
      have HB2 := hide (HB.out.trans (hb2.mono HB.out.size))
      clear hb2
      cases hq : Tx.isLine x with
      | true =>
        rw [hq] at HT
        clear hq
        dsimp only
        go_wp2
        go_roundg (n - (i + 1))
        case measure => have := Hgk.out; omega
        case rel => exact ⟨i + 1, by first | rfl | go_num, rfl, by omega, HT.out, HB2.out⟩
      | false =>
        have HR := hide (HF.out hq)
        clear hq
        dsimp only
        go_wp2
        go_ret
        rw [HR.out]
        exact ⟨rfl, HB2.out⟩
    · have hi : i = n := by omega
      subst hi
      go_wp2
      go_ret
      have h := HAll.out
      rw [List.take_of_length_le (by rw [Hn.out]; exact Nat.le_refl _)] at h
      rw [h]
      exact ⟨rfl, HB.out⟩
def whenP (k : Bool) (n : Int) : Bool := if k then decide (-62135596800 ≤ n) && decide (n ≤ 253402300799) else n == 0
set_option maxHeartbeats 4000000 in
set_option maxRecDepth 100000 in
theorem when_any (k : Bool) (n : Int) (w : World) (hn : (Lit.int .i64 n).wf = true) :
    Calls Tryz.prog 25 #[.agg #[.bool k, .int .i64 n]] w fun e w' => e = .returned (.bool (whenP k n)) ∧ Below w.heap.size w w' := by
  have hnb := wf_i64r hn
  have HO := hide (below_alloc w (.cells #[.bool k, .int .i64 n] 23))
  cases k with
  | true =>
    by_cases h1 : -62135596800 ≤ n
    · by_cases h2 : n ≤ 253402300799
      · have HV := hide (show whenP true n = true by unfold whenP; rw [if_pos rfl, decide_eq_true h1, decide_eq_true h2]; rfl)
        go_enter Tryz.func25, Tryz.ntmps25
        go_wp2
        go_ret
        rw [HV.out]
        exact ⟨rfl, HO.out⟩
      · have HV := hide (show whenP true n = false by unfold whenP; rw [if_pos rfl, decide_eq_false h2]; simp)
        go_enter Tryz.func25, Tryz.ntmps25
        go_wp2
        go_ret
        rw [HV.out]
        exact ⟨rfl, HO.out⟩
    · have HV := hide (show whenP true n = false by unfold whenP; rw [if_pos rfl, decide_eq_false h1]; rfl)
      go_enter Tryz.func25, Tryz.ntmps25
      go_wp2
      go_ret
      rw [HV.out]
      exact ⟨rfl, HO.out⟩
  | false =>
    have HV := hide (show whenP false n = (n == 0) by unfold whenP; rfl)
    go_enter Tryz.func25, Tryz.ntmps25
    go_wp2
    go_ret
    rw [HV.out]
    exact ⟨rfl, HO.out⟩
set_option maxHeartbeats 4000000 in
set_option maxRecDepth 100000 in
theorem put_any {B b : Nat} {l : List UInt8} {r : Option Nat} (ls : List (List UInt8)) (g n c : Nat) (w : World) (h : Wf B b l r w) (hg : Blk w g 9 (strVs ls)) (hn : ls.length = n) (hn2 : n ≤ 100) (hl : l.length + ls.flatten.length + 1 ≤ 140737488355328) (hBw : B ≤ w.heap.size) :
    Calls Tryz.prog 16 #[.pointer (some ⟨b, 0, none⟩), .slice (some ⟨g, 0, none⟩) n c] w fun e w' => e = .returned (.tuple #[]) ∧ Wg w B b r (l ++ (ls.flatten ++ [10])) w' := by
  obtain ⟨N, hN⟩ : ∃ N, ls.flatten.length = N := ⟨_, rfl⟩
  have HGn := hide (h.ne hg (by decide) (by decide))
  have HH := hide h
  have HG := hide hg
  have HN := hide hN
  have Hn := hide hn
  rw [hN] at hl
  clear h hg hn hN
  go_enter Tryz.func16, Tryz.ntmps16
  go_wp2
  go_loopg [5, 8] n (fun gk v5 v8 wr => ∃ i : Nat, v8 = .int .i64 (i : Int) ∧ gk = n - i ∧ i ≤ n ∧ Wg w B b r (l ++ (ls.take i).flatten) wr)
  case atStart => exact ⟨0, rfl, rfl, by omega, r, by simpa using HH.out, .inl rfl, Fz.refl _ _ _⟩
  case round =>
    obtain ⟨i, rfl, hgk, hin, r', hf, hr, hz⟩ := hrel
    have HF := hide hf
    have HR := hide hr
    have HZ := hide hz
    have Hgk := hide hgk
    have hlen : (ls.take i).flatten.length ≤ N := by
      rw [← HN.out]
      conv => rhs; rw [← List.take_append_drop i ls, List.flatten_append, List.length_append]
      omega
    have hBr : B ≤ wr.heap.size := Nat.le_trans hBw hz.size
    clear hf hr hz hgk
    by_cases hlt : i < n
    · have hil : i < ls.length := by rw [Hn.out]; exact hlt
      obtain ⟨x, hx⟩ : ∃ x, ls[i] = x := ⟨_, rfl⟩
      have kx : Blk wr g 9 (strVs ls) := (HZ.out.block g HG.out.lt HGn.out.1 HGn.out.2).trans HG.out
      have cx := kx.cell i
      rw [strVs_at hil, hx] at cx
      have HT := hide (show (ls.take (i + 1)).flatten = (ls.take i).flatten ++ x by rw [List.take_succ_eq_append_getElem hil, List.flatten_append, hx]; simp)
      have hlen2 : (ls.take i).flatten.length + x.length ≤ N := by
        rw [← List.length_append, ← HT.out, ← HN.out]
        conv => rhs; rw [← List.take_append_drop (i + 1) ls, List.flatten_append, List.length_append]
        omega
      have HX := hide (ws_w x HF.out (by rw [List.length_append]; omega) hBr)
      clear hx kx
      go_wp2_with fail
      refine HX.out.mono ?_
      rintro e w2 ⟨⟨v, rfl⟩, hg2⟩
      have HG2 := hide (Wg.step HR.out HZ.out hg2)
      clear hg2
      dsimp only
      go_wp2
      go_roundg (n - (i + 1))
      case measure => have := Hgk.out; omega
      case rel => exact ⟨i + 1, by first | rfl | go_num, rfl, by omega, by rw [HT.out, ← List.append_assoc]; exact HG2.out⟩
    · have hi : i = n := by omega
      subst hi
      have HX := hide (wb_w 10 HF.out (by rw [List.length_append]; omega) hBr)
      go_wp2_with fail
      refine HX.out.mono ?_
      rintro e w2 ⟨rfl, hg2⟩
      have HG2 := hide (Wg.step HR.out HZ.out hg2)
      clear hg2
      dsimp only
      go_wp2
      go_end0
      refine ⟨rfl, ?_⟩
      have h := HG2.out
      rwa [List.take_of_length_le (by rw [Hn.out]; exact Nat.le_refl _), List.append_assoc] at h
end Go.Proofs.YtlcfakmbcfdgbaaGreat
