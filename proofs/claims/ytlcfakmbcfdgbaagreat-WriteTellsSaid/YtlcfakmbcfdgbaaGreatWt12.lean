/- NFC: nfc.whole, Decomposed, Composed, Nfc. · Texts: white space, trimming. · strings.Builder's writers, at this dump. (Turned from the shelf's walks.) · Tokens: strings.Builder's WriteByte at this dump. -/
import Derived.Test.YtlcfakmbcfdgbaaGreatWt04
import Derived.Test.YtlcfakmbcfdgbaaGreatWt05
import Derived.Test.YtlcfakmbcfdgbaaGreatWt11
import Derived.Laws.RangeAny
import Derived.Lib.Builder
import Derived.Laws.Externs
set_option linter.unusedSimpArgs false
set_option linter.unusedVariables false
namespace Go.Proofs.YtlcfakmbcfdgbaaGreat
open Go.RowKit Go.WideShapes

theorem piecesN_sc : ∀ (k at_ : Nat) (l : List UInt8), ∀ p ∈ Utf.piecesN k at_ l, p.2 < 0 ∨ Utf.isScalar p.2 = true
  | k, at_, [], p, h => by cases k <;> simp [Utf.piecesN] at h
  | 0, _, c :: l, p, h => by unfold Utf.piecesN at h; cases h
  | k + 1, at_, c :: l, p, h => by
    unfold Utf.piecesN at h
    rcases List.mem_cons.1 h with rfl | h
    · have := piece_pc ⟨(c :: l).toArray⟩ 0
      simpa using this
    · exact piecesN_sc k _ _ p h
theorem piecesN_len : ∀ (k at_ : Nat) (l : List UInt8), (Utf.piecesN k at_ l).length ≤ k
  | k, at_, [] => by cases k <;> simp [Utf.piecesN]
  | 0, _, c :: l => by simp [Utf.piecesN]
  | k + 1, at_, c :: l => by
    unfold Utf.piecesN
    rw [List.length_cons]
    have := piecesN_len k (at_ + (Utf.piece (c :: l)).2.toNat) ((c :: l).drop (Utf.piece (c :: l)).2.toNat)
    omega
theorem uscals_len (l : List UInt8) : (uscals l).length ≤ l.length := by
  unfold uscals Utf.pieces
  rw [List.length_map]
  exact piecesN_len _ _ _
theorem uscals_ok {l : List UInt8} (h : Right l) : ∀ x ∈ uscals l, Nf.Ok x := by
  intro x hx
  unfold uscals at hx
  obtain ⟨p, hp, rfl⟩ := List.mem_map.1 hx
  have h1 := h p hp
  rcases piecesN_sc _ _ _ p hp with h2 | h2
  · omega
  · simp [Utf.isScalar] at h2
    exact ⟨by omega, by omega⟩
instance (l : List UInt8) : Decidable (Right l) := by unfold Right; infer_instance
namespace Nf
/-- From a text to scalars and back again. -/
def via (f : List Int → List Int) (s : List UInt8) : List UInt8 := if Right s then (textOf (f (uscals s))).getD [] else s
def decomposed (s : List UInt8) : List UInt8 := via dec s
def composed (s : List UInt8) : List UInt8 := via compose s
def nfc (s : List UInt8) : List UInt8 := if s.any (fun c => decide (128 ≤ c.toNat)) then composed (decomposed s) else s
theorem textOf_len {l : List Int} : ((textOf l).getD []).length ≤ 4 * l.length := by
  unfold textOf
  split
  · exact bytesOf_len l
  · simp
theorem runs_len : ∀ (n : Nat) (l : List Int), l.length < n → ((runs n l).flatMap sortR).length = l.length
  | 0, _, h => by omega
  | n + 1, [], _ => rfl
  | n + 1, r :: l, h => by
    rw [runs, List.flatMap_cons, List.length_append, sortR_len, runs_len n _ (by rw [List.length_drop]; simp at h; omega), List.length_drop, List.length_cons, List.length_cons]
    have := marks_le l
    omega
theorem dec_len (l : List Int) : (dec l).length ≤ 16 * l.length := by
  unfold dec sort
  rw [runs_len _ _ (Nat.lt_succ_self _)]
  exact decomp_len l
theorem comp_len (l : List Int) : (compose l).length ≤ l.length := by
  have hl : ∀ (l : List Int) (s : Cs), (l.foldl cstep s).out.length ≤ s.out.length + l.length := fun l => by
    induction l with
    | nil => intro s; simp
    | cons x l ih => intro s; rw [List.foldl_cons]; have := ih (cstep s x); have := cstep_len s x; rw [List.length_cons]; omega
  have := hl l ⟨[], -1, -1⟩
  simpa [compose] using this
theorem decomposed_len (s : List UInt8) : (decomposed s).length ≤ 64 * s.length := by
  unfold decomposed via
  split
  · refine Nat.le_trans textOf_len ?_
    have := dec_len (uscals s)
    have := uscals_len s
    omega
  · omega
end Nf
theorem textV_string (l : List Int) : ∃ b, textV l = .tuple #[.string (bstr ((Nf.textOf l).getD [])), .bool b] := by
  unfold textV
  cases Nf.textOf l with
  | some x => exact ⟨true, rfl⟩
  | none => exact ⟨false, rfl⟩
set_option maxRecDepth 100000 in
set_option maxHeartbeats 8000000 in
theorem whole_dec (s : ByteArray) (w : World) (hs : s.size ≤ 250000) :
    Calls Tryz.prog 86 #[.string s, .func (.func 88) #[] #[]] w fun e w' => e = .returned (.string (bstr (Nf.decomposed s.data.toList))) ∧ Below w.heap.size w w' := by
  have HSc := hide (uscal_any s w (by omega))
  have hl := uscals_len s.data.toList
  rw [size_list] at hl
  by_cases hR : Right s.data.toList
  · have HV := hide (show Nf.decomposed s.data.toList = (Nf.textOf (Nf.dec (uscals s.data.toList))).getD [] by unfold Nf.decomposed Nf.via; rw [if_pos hR])
    have HOk := hide (uscals_ok hR)
    have HR := hide hR
    have hdl := Nf.dec_len (uscals s.data.toList)
    have HD := hide (fun A c W h => dec_any (uscals s.data.toList) A c W h HOk.out (by omega))
    have HT := hide (fun A c W h => utext_any (Nf.dec (uscals s.data.toList)) A c W h (by omega))
    obtain ⟨bb, hbb⟩ := textV_string (Nf.dec (uscals s.data.toList))
    have HBb := hide hbb
    clear hR hl hdl hbb
    rw [HV.out]
    generalize uscals s.data.toList = l at *
    go_enter Tryz.func86, Tryz.ntmps86
    go_wp2_with fail
    refine HSc.out.mono ?_
    rintro e w1 ⟨hb1, ⟨_, A, c, rfl, hr⟩ | ⟨hn, _⟩⟩
    · have HB1 := hide hb1
      have HR1 := hide hr
      clear hb1 hr
      dsimp only
      go_wp2_with fail
      refine (HD.out A c w1 HR1.out).mono ?_
      rintro e w2 ⟨A2, c2, rfl, ho2, hb2⟩
      have HO2 := hide ho2
      have HB2 := hide (HB1.out.trans (hb2.mono HB1.out.size))
      clear ho2 hb2
      dsimp only
      go_wp2_with fail
      refine (HT.out A2 c2 w2 (Reads.of_own HO2.out)).mono ?_
      rintro e w3 ⟨rfl, hb3⟩
      have HB3 := hide (HB2.out.trans (hb3.mono HB2.out.size))
      clear hb3
      rw [HBb.out]
      dsimp only
      go_wp2
      go_ret
      exact ⟨rfl, HB3.out⟩
    · exact absurd HR.out hn
  · have HV := hide (show Nf.decomposed s.data.toList = s.data.toList by unfold Nf.decomposed Nf.via; rw [if_neg hR])
    have HR := hide hR
    clear hR hl
    rw [HV.out]
    go_enter Tryz.func86, Tryz.ntmps86
    go_wp2_with fail
    refine HSc.out.mono ?_
    rintro e w1 ⟨hb1, ⟨h1, _⟩ | ⟨_, rfl⟩⟩
    · exact absurd h1 HR.out
    · have HB1 := hide hb1
      clear hb1
      dsimp only
      go_wp2
      go_ret
      exact ⟨rfl, HB1.out⟩
set_option maxRecDepth 100000 in
set_option maxHeartbeats 8000000 in
theorem whole_comp (s : ByteArray) (w : World) (hs : s.size ≤ 16000000) :
    Calls Tryz.prog 86 #[.string s, .func (.func 87) #[] #[]] w fun e w' => e = .returned (.string (bstr (Nf.composed s.data.toList))) ∧ Below w.heap.size w w' := by
  have HSc := hide (uscal_any s w (by omega))
  have hl := uscals_len s.data.toList
  rw [size_list] at hl
  by_cases hR : Right s.data.toList
  · have HV := hide (show Nf.composed s.data.toList = (Nf.textOf (Nf.compose (uscals s.data.toList))).getD [] by unfold Nf.composed Nf.via; rw [if_pos hR])
    have HOk := hide (uscals_ok hR)
    have HR := hide hR
    have hdl := Nf.comp_len (uscals s.data.toList)
    have HD := hide (fun A c W h => compose_any (uscals s.data.toList) A c W h HOk.out (by omega))
    have HT := hide (fun A c W h => utext_any (Nf.compose (uscals s.data.toList)) A c W h (by omega))
    obtain ⟨bb, hbb⟩ := textV_string (Nf.compose (uscals s.data.toList))
    have HBb := hide hbb
    clear hR hl hdl hbb
    rw [HV.out]
    generalize uscals s.data.toList = l at *
    go_enter Tryz.func86, Tryz.ntmps86
    go_wp2_with fail
    refine HSc.out.mono ?_
    rintro e w1 ⟨hb1, ⟨_, A, c, rfl, hr⟩ | ⟨hn, _⟩⟩
    · have HB1 := hide hb1
      have HR1 := hide hr
      clear hb1 hr
      dsimp only
      go_wp2_with fail
      refine (HD.out A c w1 HR1.out).mono ?_
      rintro e w2 ⟨A2, c2, rfl, ho2, hb2⟩
      have HO2 := hide ho2
      have HB2 := hide (HB1.out.trans (hb2.mono HB1.out.size))
      clear ho2 hb2
      dsimp only
      go_wp2_with fail
      refine (HT.out A2 c2 w2 (Reads.of_own HO2.out)).mono ?_
      rintro e w3 ⟨rfl, hb3⟩
      have HB3 := hide (HB2.out.trans (hb3.mono HB2.out.size))
      clear hb3
      rw [HBb.out]
      dsimp only
      go_wp2
      go_ret
      exact ⟨rfl, HB3.out⟩
    · exact absurd HR.out hn
  · have HV := hide (show Nf.composed s.data.toList = s.data.toList by unfold Nf.composed Nf.via; rw [if_neg hR])
    have HR := hide hR
    clear hR hl
    rw [HV.out]
    go_enter Tryz.func86, Tryz.ntmps86
    go_wp2_with fail
    refine HSc.out.mono ?_
    rintro e w1 ⟨hb1, ⟨h1, _⟩ | ⟨_, rfl⟩⟩
    · exact absurd h1 HR.out
    · have HB1 := hide hb1
      clear hb1
      dsimp only
      go_wp2
      go_ret
      exact ⟨rfl, HB1.out⟩
set_option maxHeartbeats 4000000 in
theorem decomposed_any (s : ByteArray) (w : World) (hs : s.size ≤ 250000) :
    Calls Tryz.prog 68 #[.string s] w fun e w' => e = .returned (.string (bstr (Nf.decomposed s.data.toList))) ∧ Below w.heap.size w w' := by
  have H := hide (whole_dec s w hs)
  go_enter Tryz.func68, Tryz.ntmps68
  go_wp2_with fail
  refine H.out.mono ?_
  rintro e w1 ⟨rfl, hb⟩
  have HB := hide hb
  clear hb
  dsimp only
  go_wp2
  go_ret
  exact ⟨rfl, HB.out⟩
set_option maxHeartbeats 4000000 in
theorem composed_any (s : ByteArray) (w : World) (hs : s.size ≤ 16000000) :
    Calls Tryz.prog 67 #[.string s] w fun e w' => e = .returned (.string (bstr (Nf.composed s.data.toList))) ∧ Below w.heap.size w w' := by
  have H := hide (whole_comp s w hs)
  go_enter Tryz.func67, Tryz.ntmps67
  go_wp2_with fail
  refine H.out.mono ?_
  rintro e w1 ⟨rfl, hb⟩
  have HB := hide hb
  clear hb
  dsimp only
  go_wp2
  go_ret
  exact ⟨rfl, HB.out⟩
theorem get_at (s : ByteArray) (i : Nat) (c : UInt8) (h : s.data.toList[i]? = some c) : s.get! (i + 0) = c ∧ i < s.size := by
  obtain ⟨h1, h2⟩ := List.getElem?_eq_some_iff.1 h
  rw [size_list] at h1
  refine ⟨?_, h1⟩
  have e : s.get! (i + 0) = s[i]'h1 := by
    show s.get! i = _
    simp [ByteArray.get!, getElem!_pos, h1]
    rfl
  rw [e, ← h2]
  exact (Array.getElem_toList ..).symm
theorem decode_lo (s : ByteArray) (i : Nat) (c : UInt8) (h : s.data.toList[i]? = some c) (hb : c.toNat < 128) : Utf8.decode s i = (c.toNat, 1) := by
  obtain ⟨e, _⟩ := get_at s i c h
  unfold Utf8.decode
  simp only [e]
  rw [if_pos hb]
theorem decode_hi (s : ByteArray) (i : Nat) (c : UInt8) (h : s.data.toList[i]? = some c) (hb : ¬ c.toNat < 128) : 128 ≤ (Utf8.decode s i).1 := by
  obtain ⟨e, _⟩ := get_at s i c h
  unfold Utf8.decode
  simp only [e]
  rw [if_neg hb]
  have hE : 128 ≤ Utf8.runeError := by decide
  repeat' split
  all_goals (try simp only [Bool.and_eq_true, decide_eq_true_eq] at *)
  all_goals (try simp only)
  all_goals omega
theorem decode_le (s : ByteArray) (i : Nat) (c : UInt8) (h : s.data.toList[i]? = some c) : (Utf8.decode s i).1 ≤ 10000000 := by
  obtain ⟨e, _⟩ := get_at s i c h
  have hc := c.toNat_lt
  unfold Utf8.decode
  simp only [e]
  have hE : Utf8.runeError ≤ 10000000 := by decide
  repeat' split
  all_goals (try simp only)
  all_goals omega
theorem Below.iterAtN {w wr : World} (h : Below w.heap.size w wr) (s : ByteArray) (q : Nat) : Below w.heap.size w (wr.iterAt w.heap.size s q) :=
  ⟨h.os, h.tape, h.output, by rw [Lib.iterAt_size]; exact h.size, fun k hk => (Lib.iterAt_other _ _ _ _ _ (by omega)).trans (h.block k hk)⟩
set_option maxRecDepth 100000 in
set_option maxHeartbeats 8000000 in
theorem nfc_any (s : ByteArray) (w : World) (hs : s.size ≤ 250000) :
    Calls Tryz.prog 52 #[.string s] w fun e w' => e = .returned (.string (bstr (Nf.nfc s.data.toList))) ∧ Below w.heap.size w w' := by
  have HD := hide (fun W => decomposed_any s W hs)
  have hl := Nf.decomposed_len s.data.toList
  rw [size_list] at hl
  have HC := hide (fun W => composed_any (bstr (Nf.decomposed s.data.toList)) W (by rw [bstr_size]; omega))
  rw [bstr_list] at HC
  obtain ⟨l, hL⟩ : ∃ l, s.data.toList = l := ⟨_, rfl⟩
  rw [hL] at HD HC
  have HL := hide hL
  have Hsz := hide (show l.length = s.size by rw [← hL, size_list])
  clear hL hl
  rw [HL.out]
  go_enter Tryz.func52, Tryz.ntmps52
  go_wp2
  have hb0 : Below w.heap.size w (w.iter s 0) := below_alloc w _
  go_loopg [4] s.size (fun gk vk wr => ∃ (p : Nat), gk = s.size - p ∧ p ≤ s.size ∧ (∀ c ∈ l.take p, c.toNat < 128) ∧ wr.heap[w.heap.size]? = some (.stringIter s p) ∧ Below w.heap.size w wr)
  case atStart => exact ⟨0, rfl, by omega, by simp, World.iter_heap _ _ _, hb0⟩
  case round =>
    obtain ⟨p, hgk, hp, hlo, hit, hb⟩ := hrel
    have Hg := hide hgk
    have HLo := hide hlo
    have HI := hide hit
    have HB := hide hb
    clear hgk hlo hb
    by_cases hps : p < s.size
    · obtain ⟨c, hc⟩ : ∃ c, l[p]? = some c := ⟨_, List.getElem?_eq_getElem (by rw [Hsz.out]; exact hps)⟩
      have hc2 : s.data.toList[p]? = some c := by rw [HL.out]; exact hc
      have hnx : ∀ ty, (Instr.next (.pointer (some ⟨w.heap.size, 0, none⟩)) true ty).run Tryz.prog wr = _ := fun ty => Lib.run_next_any_at wr w.heap.size s p ty hit hps
      by_cases hlow : c.toNat < 128
      · have hde := decode_lo s p c hc2 hlow
        rw [hde] at hnx
        dsimp only at hnx
        obtain ⟨z, hz⟩ : ∃ z : Nat, c.toNat = z := ⟨_, rfl⟩
        rw [hz] at hnx hlow
        have hcv : IntKind.i64.wrap (z : Int) = (z : Int) := IntWalk.i64_in _ (by omega)
        have hlt : ¬ (128 : Int) ≤ (z : Int) := by omega
        have Hc := hide hc
        have Hlow := hide hlow
        have Hz := hide hz
        clear hc hc2 hde hit hz hlow
        go_wp2
        go_roundg (s.size - (p + 1))
        case measure => have := Hg.out; omega
        case rel =>
          refine ⟨p + 1, rfl, by omega, ?_, Lib.iterAt_heap _ _ _ _ _ HI.out, Below.iterAtN HB.out _ _⟩
          intro c2 hc2
          rw [List.take_add_one, Hc.out] at hc2
          rcases List.mem_append.1 hc2 with hc2 | hc2
          · exact HLo.out c2 hc2
          · simp at hc2; subst hc2; rw [Hz.out]; exact Hlow.out
      · have hde := decode_hi s p c hc2 hlow
        have hle := decode_le s p c hc2
        obtain ⟨⟨z, n2⟩, hd⟩ : ∃ q, Utf8.decode s p = q := ⟨_, rfl⟩
        rw [hd] at hnx hde hle
        dsimp only at hnx hde hle
        have hcv : IntKind.i64.wrap (z : Int) = (z : Int) := IntWalk.i64_in _ (by omega)
        have hge : (128 : Int) ≤ (z : Int) := by omega
        have HV := hide (show Nf.nfc l = Nf.composed (Nf.decomposed l) by
          unfold Nf.nfc
          rw [if_pos (List.any_eq_true.2 ⟨c, List.mem_of_getElem? hc, decide_eq_true (by omega)⟩)])
        have HB2 := hide (Below.iterAtN HB.out s (p + n2))
        clear hc hc2 hde hle hit hlow hd
        go_wp2_with fail
        refine (HD.out _).mono ?_
        rintro e w2 ⟨rfl, hb2⟩
        have HB3 := hide (HB2.out.trans (hb2.mono HB2.out.size))
        clear hb2
        dsimp only
        go_wp2_with fail
        refine (HC.out _).mono ?_
        rintro e w3 ⟨rfl, hb3⟩
        have HB4 := hide (HB3.out.trans (hb3.mono HB3.out.size))
        clear hb3
        dsimp only
        go_wp2
        go_ret
        exact ⟨by rw [HV.out]; rfl, HB4.out⟩
    · have hnx : ∀ ty, (Instr.next (.pointer (some ⟨w.heap.size, 0, none⟩)) true ty).run Tryz.prog wr = _ := fun ty => Lib.run_next_end_at wr w.heap.size s p ty hit hps
      have HV := hide (show Nf.nfc l = l by
        unfold Nf.nfc
        rw [if_neg]
        intro h
        obtain ⟨c, hc, hd⟩ := List.any_eq_true.1 h
        have := HLo.out c (by rw [List.take_of_length_le (by rw [Hsz.out]; omega)]; exact hc)
        have := of_decide_eq_true hd
        omega)
      have Hps := hide hps
      have Hsb := hide (show s = bstr l by rw [← HL.out, bstr_of])
      clear hit hps
      go_wp2
      go_ret
      exact ⟨by rw [HV.out, ← Hsb.out]; rfl, HB.out⟩
end Go.Proofs.YtlcfakmbcfdgbaaGreat
namespace Go.Proofs.YtlcfakmbcfdgbaaGreat
open Go.RowKit Go.WideShapes

namespace Tx
/-- White space. -/
def sp (c : UInt8) : Bool := decide (c.toNat = 32 ∨ c.toNat = 9 ∨ c.toNat = 10 ∨ c.toNat = 13)
def trimL (l : List UInt8) : List UInt8 := l.dropWhile sp
def trimR (l : List UInt8) : List UInt8 := (l.reverse.dropWhile sp).reverse
def trim (l : List UInt8) : List UInt8 := trimR (trimL l)
theorem white_bits : ∀ n : Fin 64, (bits BinOp.and IntKind.u64 (4294977024 / 2 ^ n.val) 1 == 1) = decide (n.val = 32 ∨ n.val = 9 ∨ n.val = 10 ∨ n.val = 13) := by decide +kernel
theorem trimR_snoc (m : List UInt8) (c : UInt8) : trimR (m ++ [c]) = if sp c then trimR m else m ++ [c] := by
  unfold trimR
  rw [List.reverse_append, List.reverse_singleton, List.singleton_append, List.dropWhile_cons]
  split
  · rfl
  · rw [List.reverse_cons, List.reverse_reverse]
theorem trimL_len (l : List UInt8) : (trimL l).length ≤ l.length := by
  unfold trimL
  induction l with
  | nil => simp
  | cons c l ih => rw [List.dropWhile_cons]; split <;> simp <;> omega
theorem trimR_len (l : List UInt8) : (trimR l).length ≤ l.length := by
  unfold trimR
  rw [List.length_reverse]
  have := trimL_len l.reverse
  unfold trimL at this
  simpa using this
theorem trim_len (l : List UInt8) : (trim l).length ≤ l.length := Nat.le_trans (trimR_len _) (trimL_len _)
end Tx
theorem space_any (c : UInt8) (w : World) : Calls Tryz.prog 69 #[.int .u8 (c.toNat : Int)] w fun e w' => e = .returned (.bool (Tx.sp c)) ∧ w' = w := by
  obtain ⟨n, hn⟩ : ∃ n, c.toNat = n := ⟨_, rfl⟩
  obtain ⟨q, hq⟩ : ∃ q, Tx.sp c = q := ⟨_, rfl⟩
  have hs : decide (n = 32 ∨ n = 9 ∨ n = 10 ∨ n = 13) = q := by rw [← hq, ← hn]; rfl
  rw [hq, hn]
  by_cases h : n < 64
  · have hz : (n : Int) < 64 := by omega
    have HB := hide ((Tx.white_bits ⟨n, h⟩).trans hs)
    clear hs hq
    go_enter Tryz.func69, Tryz.ntmps69
    go_wp2
    go_ret
    exact ⟨ret_eq1 (bool_eq HB.out), rfl⟩
  · have hz : ¬ (n : Int) < 64 := by omega
    have HB := hide (show q = false from hs.symm.trans (decide_eq_false (by omega)))
    rw [HB.out]
    clear hs hq
    go_enter Tryz.func69, Tryz.ntmps69
    go_wp2
    go_ret
    exact ⟨rfl, rfl⟩
theorem bstr_ext (l : List UInt8) (a b : Nat) : (bstr l).extract a b = bstr ((l.drop a).take (b - a)) := extract_bstr _ _ _
set_option maxHeartbeats 4000000 in
theorem trim_any (s : ByteArray) (w : World) (hs : s.size ≤ 1000000000) : Calls Tryz.prog 53 #[.string s] w fun e w' => e = .returned (.string (bstr (Tx.trim s.data.toList))) ∧ w' = w := by
  obtain ⟨l, hl⟩ : ∃ l, s.data.toList = l := ⟨_, rfl⟩
  obtain rfl : s = bstr l := by rw [← hl, bstr_of]
  clear hl
  rw [bstr_list]
  rw [bstr_size] at hs
  have HSp := hide (fun c W => space_any c W)
  have HX := hide (fun (l : List UInt8) a b => bstr_ext l a b)
  have HZ := hide (fun (l : List UInt8) => bstr_size l)
  go_enter Tryz.func53, Tryz.ntmps53
  go_wp2
  go_loopg [0] l.length (fun gk v0 wr => ∃ m, gk = m.length ∧ v0 = .string (bstr m) ∧ Tx.trimL m = Tx.trimL l ∧ m.length ≤ l.length ∧ wr = w)
  case atStart => exact ⟨l, rfl, rfl, rfl, Nat.le_refl _, rfl⟩
  case round =>
    obtain ⟨m, hg, rfl, ht, hml, hwr⟩ := hrel
    subst hwr
    have Hg := hide hg
    have HT := hide ht
    have Hml := hide hml
    clear hg ht hml
    cases m with
    | nil =>
      have hemp : (bstr ([] : List UInt8)).toList.isEmpty = true := by rw [ByteArray.toList_eq, bstr_list]; rfl
      have HT2 := hide (show Tx.trimR [] = Tx.trim l by unfold Tx.trim; rw [← HT.out]; rfl)
      go_wp2
      go_loopg [0] l.length (fun gk v0 wj => ∃ m2, gk + ([] : List UInt8).length = m2.length + l.length ∧ v0 = .string (bstr m2) ∧ Tx.trimR m2 = Tx.trim l ∧ m2.length ≤ l.length ∧ wj = wr)
      case atStart => exact ⟨[], by omega, rfl, HT2.out, Hml.out, rfl⟩
      case round =>
        obtain ⟨m2, hg2, rfl, ht2, hml2, hwj⟩ := hrel
        subst hwj
        have Hg2 := hide hg2
        have HT3 := hide ht2
        have Hml2 := hide hml2
        clear hg2 ht2 hml2
        rcases Nat.eq_zero_or_pos m2.length with hz | hz
        · have hnil : m2 = [] := List.eq_nil_of_length_eq_zero hz
          subst hnil
          have hemp2 : (bstr ([] : List UInt8)).toList.isEmpty = true := by rw [ByteArray.toList_eq, bstr_list]; rfl
          clear hz
          go_wp2
          go_ret
          exact ⟨by rw [← HT3.out]; rfl, rfl⟩
        · obtain ⟨m3, d, e3⟩ : ∃ m3 d, m2 = m3 ++ [d] := ⟨m2.dropLast, m2.getLast (by intro e; subst e; simp at hz), (List.dropLast_concat_getLast _).symm⟩
          subst e3
          have hemp2 : (bstr (m3 ++ [d])).toList.isEmpty = false := by rw [ByteArray.toList_eq, bstr_list]; simp
          obtain ⟨k, hk⟩ : ∃ k, m3.length = k := ⟨_, rfl⟩
          have hkl : k + 1 ≤ l.length := by have := Hml2.out; rw [List.length_append, hk] at this; simpa using this
          have hsz : (bstr (m3 ++ [d])).size = k + 1 := by rw [bstr_size, List.length_append, hk]; rfl
          have hix : ∀ w, (Instr.index 9 (.string (bstr (m3 ++ [d]))) (.int .i64 (k : Int))).run Tryz.prog w = .ok (.int .u8 (d.toNat : Nat)) w := fun w => idx_run (bstr (m3 ++ [d])) k d (by rw [bstr_list, ← hk, List.getElem?_append_right (Nat.le_refl _), Nat.sub_self]; rfl) w
          have hex : (bstr (m3 ++ [d])).extract 0 k = bstr m3 := by rw [bstr_ext, List.drop_zero, Nat.sub_zero, List.take_left' hk]
          have zk : IntKind.i64.wrap (((k + 1 : Nat) : Int) - 1) = (k : Int) := by rw [IntWalk.i64_in _ (by omega)]; omega
          have hkk : k < k + 1 := Nat.lt_succ_self k
          have Hk := hide hk
          clear hk hz
          generalize hu : bstr (m3 ++ [d]) = u at *
          cases hsd : Tx.sp d with
          | true =>
            have Hsd := hide hsd
            have HC := hide (HSp.out d wr)
            rw [hsd] at HC
            clear hsd
            go_wp2_with fail
            go_wp2_with fail
            refine cq (HC.out) ?_
            dsimp only
            go_wp2
            go_roundg (m3.length + l.length - ([] : List UInt8).length)
            case measure => have := Hg2.out; rw [List.length_append, List.length_singleton] at this; have := Hml.out; omega
            case rel =>
              refine ⟨m3, by have := Hml.out; omega, rfl, ?_, by rw [Hk.out]; omega, rfl⟩
              rw [← HT3.out, Tx.trimR_snoc, if_pos Hsd.out]
          | false =>
            have Hsd := hide hsd
            have HC := hide (HSp.out d wr)
            rw [hsd] at HC
            clear hsd
            have Hu := hide hu
            clear hu
            go_wp2_with fail
            go_wp2_with fail
            refine cq (HC.out) ?_
            dsimp only
            go_wp2
            go_ret
            refine ⟨?_, rfl⟩
            rw [← HT3.out, Tx.trimR_snoc, if_neg (by rw [Hsd.out]; simp), Hu.out]
            rfl
    | cons c m =>
      have hemp : (bstr (c :: m)).toList.isEmpty = false := by rw [ByteArray.toList_eq, bstr_list]; rfl
      have hix : ∀ w, (Instr.index 9 (.string (bstr (c :: m))) (.int .i64 0)).run Tryz.prog w = .ok (.int .u8 (c.toNat : Nat)) w := fun w => by have h := idx_run (bstr (c :: m)) 0 c (by rw [bstr_list]; rfl) w; exact h
      have hsz : (bstr (c :: m)).size = m.length + 1 := bstr_size _
      have hex : (bstr (c :: m)).extract 1 (m.length + 1) = bstr m := by rw [bstr_ext, Nat.add_sub_cancel]; show bstr (m.take m.length) = _; rw [List.take_length]
      have hmz : 0 ≤ (1 : Int) ∧ (1 : Int) ≤ ((m.length + 1 : Nat) : Int) := by omega
      cases hsc : Tx.sp c with
      | true =>
        have Hsc := hide hsc
        have HC := hide (HSp.out c wr)
        rw [hsc] at HC
        clear hsc
        go_wp2_with fail
        go_wp2_with fail
        refine cq (HC.out) ?_
        dsimp only
        go_wp2
        go_roundg m.length
        case measure => have := Hg.out; rw [List.length_cons] at this; omega
        case rel =>
          refine ⟨m, rfl, rfl, ?_, by have := Hml.out; rw [List.length_cons] at this; omega, rfl⟩
          rw [← HT.out]
          unfold Tx.trimL
          rw [List.dropWhile_cons, if_pos Hsc.out]
      | false =>
        have HT2 := hide (show Tx.trimR (c :: m) = Tx.trim l by
          unfold Tx.trim
          rw [← HT.out]
          unfold Tx.trimL
          rw [List.dropWhile_cons, if_neg (by rw [hsc]; simp)])
        have HC := hide (HSp.out c wr)
        rw [hsc] at HC
        clear hsc
        go_wp2_with fail
        go_wp2_with fail
        refine cq (HC.out) ?_
        dsimp only
        go_wp2
        go_loopg [0] l.length (fun gk v0 wj => ∃ m2, gk + ((c :: m) : List UInt8).length = m2.length + l.length ∧ v0 = .string (bstr m2) ∧ Tx.trimR m2 = Tx.trim l ∧ m2.length ≤ l.length ∧ wj = wr)
        case atStart => exact ⟨(c :: m), by omega, rfl, HT2.out, Hml.out, rfl⟩
        case round =>
          obtain ⟨m2, hg2, rfl, ht2, hml2, hwj⟩ := hrel
          subst hwj
          have Hg2 := hide hg2
          have HT3 := hide ht2
          have Hml2 := hide hml2
          clear hg2 ht2 hml2
          rcases Nat.eq_zero_or_pos m2.length with hz | hz
          · have hnil : m2 = [] := List.eq_nil_of_length_eq_zero hz
            subst hnil
            have hemp2 : (bstr ([] : List UInt8)).toList.isEmpty = true := by rw [ByteArray.toList_eq, bstr_list]; rfl
            clear hz
            go_wp2
            go_ret
            exact ⟨by rw [← HT3.out]; rfl, rfl⟩
          · obtain ⟨m3, d, e3⟩ : ∃ m3 d, m2 = m3 ++ [d] := ⟨m2.dropLast, m2.getLast (by intro e; subst e; simp at hz), (List.dropLast_concat_getLast _).symm⟩
            subst e3
            have hemp2 : (bstr (m3 ++ [d])).toList.isEmpty = false := by rw [ByteArray.toList_eq, bstr_list]; simp
            obtain ⟨k, hk⟩ : ∃ k, m3.length = k := ⟨_, rfl⟩
            have hkl : k + 1 ≤ l.length := by have := Hml2.out; rw [List.length_append, hk] at this; simpa using this
            have hsz : (bstr (m3 ++ [d])).size = k + 1 := by rw [bstr_size, List.length_append, hk]; rfl
            have hix : ∀ w, (Instr.index 9 (.string (bstr (m3 ++ [d]))) (.int .i64 (k : Int))).run Tryz.prog w = .ok (.int .u8 (d.toNat : Nat)) w := fun w => idx_run (bstr (m3 ++ [d])) k d (by rw [bstr_list, ← hk, List.getElem?_append_right (Nat.le_refl _), Nat.sub_self]; rfl) w
            have hex : (bstr (m3 ++ [d])).extract 0 k = bstr m3 := by rw [bstr_ext, List.drop_zero, Nat.sub_zero, List.take_left' hk]
            have zk : IntKind.i64.wrap (((k + 1 : Nat) : Int) - 1) = (k : Int) := by rw [IntWalk.i64_in _ (by omega)]; omega
            have hkk : k < k + 1 := Nat.lt_succ_self k
            have Hk := hide hk
            clear hk hz
            generalize hu : bstr (m3 ++ [d]) = u at *
            cases hsd : Tx.sp d with
            | true =>
              have Hsd := hide hsd
              have HC := hide (HSp.out d wr)
              rw [hsd] at HC
              clear hsd
              go_wp2_with fail
              go_wp2_with fail
              refine cq (HC.out) ?_
              dsimp only
              go_wp2
              go_roundg (m3.length + l.length - ((c :: m) : List UInt8).length)
              case measure => have := Hg2.out; rw [List.length_append, List.length_singleton] at this; have := Hml.out; omega
              case rel =>
                refine ⟨m3, by have := Hml.out; omega, rfl, ?_, by rw [Hk.out]; omega, rfl⟩
                rw [← HT3.out, Tx.trimR_snoc, if_pos Hsd.out]
            | false =>
              have Hsd := hide hsd
              have HC := hide (HSp.out d wr)
              rw [hsd] at HC
              clear hsd
              have Hu := hide hu
              clear hu
              go_wp2_with fail
              go_wp2_with fail
              refine cq (HC.out) ?_
              dsimp only
              go_wp2
              go_ret
              refine ⟨?_, rfl⟩
              rw [← HT3.out, Tx.trimR_snoc, if_neg (by rw [Hsd.out]; simp), Hu.out]
              rfl
end Go.Proofs.YtlcfakmbcfdgbaaGreat
namespace Go.Proofs.YtlcfakmbcfdgbaaGreat
open Go.RowKit

theorem info_bld : (Tryz.prog.info? 42).map (·.size) = some 2 := by kernel_rfl
theorem lies_bld : liesAt Tryz.prog Tryz.prog.depth 42 (2 / Tryz.prog.cellsOf 42) 0 42 1 = true := by kernel_rfl
theorem info_u8b : (Tryz.prog.info? 5).map (fun i => (i.zero, i.size, i.bytes)) = some (some (.int .u8 0), 1, 1) := by kernel_rfl
set_option maxHeartbeats 1000000 in
set_option maxRecDepth 100000 in
theorem cc_used (b : Nat) (w : World) (h0 : w.cell? ⟨b, 0, none⟩ = some (.pointer (some ⟨b, 0, none⟩))) :
    Calls Tryz.prog 44 #[.pointer (some ⟨b, 0, none⟩)] w fun e w' => e = .returned (.tuple #[]) ∧ w' = w := by
  obtain ⟨j, hj, _⟩ := Option.map_eq_some_iff.1 info_bld
  go_enter Tryz.func44, Tryz.ntmps44
  go_wp2
  rw [Lib.run_neq_ptr_same w _ Tryz.underlying39 hj]
  go_wp2
  go_end0
  exact ⟨rfl, rfl⟩
set_option maxHeartbeats 1000000 in
set_option maxRecDepth 100000 in
theorem cc_fresh (b : Nat) (w : World) (h0 : w.cell? ⟨b, 0, none⟩ = some (.pointer none)) (hsh : w.shape? b = some (42, 2)) (hfz : w.frozen? ⟨b, 0, none⟩ = false) :
    Calls Tryz.prog 44 #[.pointer (some ⟨b, 0, none⟩)] w fun e w' => e = .returned (.tuple #[]) ∧ w' = w.setCell ⟨b, 0, none⟩ (.pointer (some ⟨b, 0, none⟩)) := by
  obtain ⟨j, hj, hjs⟩ := Option.map_eq_some_iff.1 info_bld
  go_enter Tryz.func44, Tryz.ntmps44
  go_wp2
  rw [Lib.run_to_unsafe w ⟨b, 0, none⟩ Tryz.underlying39 Tryz.underlying80 hj (by rw [hjs]; decide) hsh (Nat.zero_lt_succ 1)]
  simp only [Result.andThen]
  rw [Oper.upon_value]
  go_wp2
  rw [run_callFunc_extern Tryz.func59 (by kernel_rfl) (by kernel_rfl) (by kernel_rfl) (e := Extern.AbiNoEscape.same) (by kernel_rfl)]
  rw [Lib.run_noEscape]
  simp only [Result.andThen]
  rw [Oper.upon_value]
  go_wp2
  rw [Lib.run_from_unsafe w ⟨b, 0, none⟩ Tryz.underlying80 Tryz.underlying39 hj hsh lies_bld]
  simp only [Result.andThen]
  rw [Oper.upon_value]
  go_wp2
  go_end0
  exact ⟨rfl, rfl⟩
/-- Nothing that was there has turned, but block b and, from B on, rows of bytes. -/
structure BlT (B b : Nat) (w w' : World) : Prop where
  os : w'.os = w.os
  tape : w'.tape = w.tape
  output : w'.output = w.output
  size : w.heap.size ≤ w'.heap.size
  block : ∀ k, k < w.heap.size → k ≠ b → (k < B ∨ ¬ IsT w k 5) → w'.heap[k]? = w.heap[k]?
theorem BlT.refl (B b : Nat) (w : World) : BlT B b w w := ⟨rfl, rfl, rfl, Nat.le_refl _, fun _ _ _ _ => rfl⟩
theorem BlT.trans {B b : Nat} {w w1 w' : World} (h : BlT B b w w1) (k : BlT B b w1 w') : BlT B b w w' :=
  ⟨k.os.trans h.os, k.tape.trans h.tape, k.output.trans h.output, Nat.le_trans h.size k.size, fun i hi hb ht => by
    have e1 := h.block i hi hb ht
    refine (k.block i (Nat.lt_of_lt_of_le hi h.size) hb (ht.imp id fun hn hT => hn ?_)).trans e1
    obtain ⟨cs, fr, hh⟩ := hT
    exact ⟨cs, fr, e1.symm.trans hh⟩⟩
theorem BlT.below {B b : Nat} {w w' : World} (h : BlT B b w w') (hb : B ≤ b) (hs : B ≤ w.heap.size) : Below B w w' := ⟨h.os, h.tape, h.output, h.size, fun k hk => h.block k (by omega) (by omega) (.inl hk)⟩
theorem BlT.blk {B b g t : Nat} {cs : Array Value} {w w' : World} (h : BlT B b w w') (hg : Blk w g t cs) (hb : g ≠ b) (ht : t ≠ 5) : Blk w' g t cs :=
  (h.block g hg.lt hb (.inr fun ⟨cs', fr, hh⟩ => by
    have := (show w.heap[g]? = some (.cells cs t (0, 0)) from hg).symm.trans hh
    injection this with this
    injection this with _ h3
    exact ht h3)).trans hg
theorem BlT.of_below {B b : Nat} {w w' : World} (h : Below w.heap.size w w') : BlT B b w w' := ⟨h.os, h.tape, h.output, h.size, fun k hk _ _ => h.block k hk⟩
theorem BlT.setCell {B b : Nat} {w w1 : World} (h : BlT B b w w1) (i : Nat) (u : Value) : BlT B b w (w1.setCell ⟨b, i, none⟩ u) :=
  ⟨h.os, h.tape, h.output, by simpa [World.setCell] using h.size, fun k hk hb ht => by
    rw [Below.heap_setCell _ _ _ _ (by exact hb)]
    exact h.block k hk hb ht⟩
theorem BlT.alloc {B b : Nat} {w w1 : World} (h : BlT B b w w1) (o : Obj) : BlT B b w (w1.alloc o) := h.trans (BlT.of_below (below_alloc w1 o))
theorem BlT.grown {B b : Nat} {w w1 w2 : World} {row : Option Nat} (h : BlT B b w w1) (hg : w1.grownBy w2 row) (hr : ∀ k, row = some k → B ≤ k ∧ IsT w1 k 5) : BlT B b w w2 :=
  h.trans ⟨hg.os, hg.tape, hg.output, hg.size, fun k hk _ ht => hg.block k hk fun e => by
    obtain ⟨h1, h2⟩ := hr k e.symm
    rcases ht with ht | ht
    · omega
    · exact ht h2⟩
theorem cc_blt (B b : Nat) (bs : List Value) (w : World) (h : Lib.IsBuilder 42 5 B b bs w) :
    Calls Tryz.prog 44 #[.pointer (some ⟨b, 0, none⟩)] w fun e w' => e = .returned (.tuple #[]) ∧ (Lib.BuilderAt 42 5 B b (.pointer (some ⟨b, 0, none⟩)) bs w' ∧ BlT B b w w') := by
  rcases h with h | h
  · refine (cc_fresh b w h.cell0 h.shape h.frozen0).mono ?_
    rintro e w' ⟨rfl, rfl⟩
    exact ⟨rfl, h.used _, (BlT.refl B b w).setCell 0 _⟩
  · refine (cc_used b w h.cell0).mono ?_
    rintro e w' ⟨rfl, rfl⟩
    exact ⟨rfl, h, BlT.refl B b _⟩
theorem neB5 : 42 ≠ 5 := by decide
set_option maxHeartbeats 2000000 in
set_option maxRecDepth 100000 in
theorem ws_any (B b : Nat) (bs : List Value) (s : ByteArray) (w : World) (h : Lib.IsBuilder 42 5 B b bs w) (hlen : bs.length + s.size ≤ 140737488355328) (hBw : B ≤ w.heap.size) :
    Calls Tryz.prog 31 #[.pointer (some ⟨b, 0, none⟩), .string s] w fun e w' => e = .returned (.tuple #[.int .i64 s.size, .nilIface]) ∧ (Lib.IsBuilder 42 5 B b (bs ++ Lib.strCells s) w' ∧ BlT B b w w') := by
  obtain ⟨i0, hi, hz0, hz1, hz2⟩ := info_parts info_u8b
  go_enter Tryz.func31, Tryz.ntmps31
  go_wp2_with fail
  refine (cc_blt B b bs _ h).mono ?_
  rintro e w1 ⟨rfl, h1, hb1⟩
  obtain ⟨hB, v, hbk, hown, hne⟩ := h1
  have c0 : w1.cell? ⟨b, 0, none⟩ = some (.pointer (some ⟨b, 0, none⟩)) := by rw [Lib.cell_of_heap hbk]; rfl
  have c1 : w1.cell? ⟨b, 1, none⟩ = some v := by rw [Lib.cell_of_heap hbk]; rfl
  go_wp2_with (at_builtin; refine Lib.wpList_append_own_string _ rfl _ _ 40 9 rfl B 5 i0 Tryz.underlying40 Tryz.underlying9 hi hz0 hz1 hz2 _ _ _ rfl hown s rfl ?c3 ?c4 ?c5 ?_)
  case c3 => unfold maxLen; omega
  case c4 => omega
  case c5 => have := hb1.size; omega
  intro v' w2 hown' hgrow _
  have hlt : b < w1.heap.size := by
    rcases Nat.lt_or_ge b w1.heap.size with h' | h'
    · exact h'
    · simp [Array.getElem?_eq_none h'] at hbk
  have hb2 : w2.heap[b]? = some (.cells #[.pointer (some ⟨b, 0, none⟩), v] 42 (0, 0)) := by
    rw [hgrow.block b hlt (fun e => hne e.symm)]
    exact hbk
  have d0 : w2.cell? ⟨b, 0, none⟩ = some (.pointer (some ⟨b, 0, none⟩)) := by rw [Lib.cell_of_heap hb2]; rfl
  have d1 : w2.cell? ⟨b, 1, none⟩ = some v := by rw [Lib.cell_of_heap hb2]; rfl
  have f1 : w2.frozen? ⟨b, 1, none⟩ = false := Lib.frozen_of_heap hb2 1
  obtain ⟨ao, n', cap, rfl⟩ : ∃ ao n' cap, v' = .slice ao n' cap := by
    rcases hown'.2 with ⟨hv, _⟩ | ⟨g, cap, cur, hv, _⟩
    · exact ⟨_, _, _, hv⟩
    · exact ⟨_, _, _, hv⟩
  go_wp2
  go_ret2
  refine ⟨rfl, .inr ?_, ?_⟩
  · exact Lib.BuilderAt.put (T := 42) (e := 5) hB hb2 (bs' := bs ++ Lib.strCells s) (by simpa [Lib.strCells_length] using hown') neB5
  · exact (hb1.grown hgrow (fun k hk => ⟨(hown.lt k hk).1, (own_isT hown k hk).2⟩)).setCell 1 _
end Go.Proofs.YtlcfakmbcfdgbaaGreat
namespace Go.Proofs.YtlcfakmbcfdgbaaGreat
open Go.RowKit
set_option maxHeartbeats 2000000 in
set_option maxRecDepth 100000 in
theorem wb_any (B b : Nat) (bs : List Value) (c : Int) (w : World) (h : Lib.IsBuilder 42 5 B b bs w) (hlen : bs.length + 1 ≤ 140737488355328) (hBw : B ≤ w.heap.size) :
    Calls Tryz.prog 32 #[.pointer (some ⟨b, 0, none⟩), .int .u8 c] w fun e w' => e = .returned .nilIface ∧ (Lib.IsBuilder 42 5 B b (bs ++ [.int .u8 c]) w' ∧ BlT B b w w') := by
  obtain ⟨i0, hi, hz0, hz1, hz2⟩ := info_parts info_u8b
  go_enter Tryz.func32, Tryz.ntmps32
  go_wp2_with fail
  refine (cc_blt B b bs _ h).mono ?_
  rintro e w1 ⟨rfl, h1, hb1⟩
  obtain ⟨hB, v, hbk, hown, hne⟩ := h1
  have c0 : w1.cell? ⟨b, 0, none⟩ = some (.pointer (some ⟨b, 0, none⟩)) := by rw [Lib.cell_of_heap hbk]; rfl
  have c1 : w1.cell? ⟨b, 1, none⟩ = some v := by rw [Lib.cell_of_heap hbk]; rfl
  go_wp2_with (at_builtin; refine wpList_append_own _ rfl _ _ 40 rfl B 5 i0 (.int .u8 0) 1 1 Tryz.underlying40 hi hz0 hz1 hz2 rfl (by decide) _ _ _ rfl (hown.alloc _) ⟨w1.heap.size, 0, none⟩ 1 1 [.int .u8 c] rfl rfl ?c1 ?c2 ?c3 ?c4 ?c5 ?_)
  case c1 =>
    intro j u hj
    match j, hj with
    | 0, hj => simp at hj; subst hj; simp [Addr.add]
  case c2 => intro u hu; simp at hu; subst hu; rfl
  case c3 => unfold maxLen; omega
  case c4 => omega
  case c5 => have := hb1.size; simp; omega
  intro v' w2 hown' hgrow _
  have hlt : b < w1.heap.size := by
    rcases Nat.lt_or_ge b w1.heap.size with h' | h'
    · exact h'
    · simp [Array.getElem?_eq_none h'] at hbk
  have hb2 : w2.heap[b]? = some (.cells #[.pointer (some ⟨b, 0, none⟩), v] 42 (0, 0)) := by
    rw [hgrow.block b (by simp; omega) (fun e => hne e.symm), Below.heap_alloc _ _ _ hlt]
    exact hbk
  have d0 : w2.cell? ⟨b, 0, none⟩ = some (.pointer (some ⟨b, 0, none⟩)) := by rw [Lib.cell_of_heap hb2]; rfl
  have d1 : w2.cell? ⟨b, 1, none⟩ = some v := by rw [Lib.cell_of_heap hb2]; rfl
  have f1 : w2.frozen? ⟨b, 1, none⟩ = false := Lib.frozen_of_heap hb2 1
  obtain ⟨g, cap, rfl⟩ : ∃ g cap, v' = .slice (some ⟨g, 0, none⟩) (bs.length + 1) cap := by
    rcases hown'.2 with ⟨_, h0⟩ | ⟨g, cap, cur, hv, _⟩
    · omega
    · exact ⟨g, cap, hv⟩
  go_wp2
  go_ret
  refine ⟨rfl, .inr ?_, ?_⟩
  · exact Lib.BuilderAt.put (T := 42) (e := 5) hB hb2 (bs' := bs ++ [.int .u8 c]) (by simpa using hown') neB5
  · exact ((hb1.alloc _).grown hgrow (fun k hk => ⟨(hown.lt k hk).1, by obtain ⟨_, cs, fr, hh⟩ := own_isT hown k hk; exact ⟨cs, fr, (Below.heap_alloc _ _ _ (own_isT hown k hk).2.lt).trans hh⟩⟩)).setCell 1 _
end Go.Proofs.YtlcfakmbcfdgbaaGreat
