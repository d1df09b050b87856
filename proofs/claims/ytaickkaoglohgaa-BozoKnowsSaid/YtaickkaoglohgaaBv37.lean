/- Bozo: the law BozoKnows, the walk. -/
import Derived.Test.YtaickkaoglohgaaBv36
set_option linter.unusedSimpArgs false
set_option linter.unusedVariables false
namespace Go.Proofs.Ytaickkaoglohgaa
open Go.RowKit Tk Sx

theorem refKnown_any (q : L) (w : World) : Calls Try.prog 8 #[.string (bstr q)] w fun e w' => e = .returned (match Bz.known q with | some u => .tuple #[.string (bstr u), .bool true] | none => .tuple #[.string ⟨#[]⟩, .bool false]) ∧ w' = w := by
  have k1 : ((bstr q).toList == Bz.kAtom) = decide (q = Bz.kAtom) := lit_eq (bstr q) _
  have k2 : ((bstr q).toList == Bz.kContent) = decide (q = Bz.kContent) := lit_eq (bstr q) _
  have k3 : ((bstr q).toList == Bz.kDc) = decide (q = Bz.kDc) := lit_eq (bstr q) _
  have k4 : ((bstr q).toList == Bz.kRdf) = decide (q = Bz.kRdf) := lit_eq (bstr q) _
  have k5 : ((bstr q).toList == Bz.kRss) = decide (q = Bz.kRss) := lit_eq (bstr q) _
  unfold Bz.known
  cases h1 : decide (q = Bz.kAtom) with
  | true =>
    rw [h1] at k1
    rw [if_pos (of_decide_eq_true h1)]
    unfold Bz.kAtom at k1
    clear h1 k2 k3 k4 k5
    go_enter Try.func8, Try.ntmps8
    go_wp2
    go_ret2
    exact ⟨rfl, rfl⟩
  | false =>
  rw [h1] at k1
  rw [if_neg (of_decide_eq_false h1)]
  cases h2 : decide (q = Bz.kContent) with
  | true =>
    rw [h2] at k2
    rw [if_pos (of_decide_eq_true h2)]
    unfold Bz.kAtom at k1
    unfold Bz.kContent at k2
    clear h1 h2 k3 k4 k5
    go_enter Try.func8, Try.ntmps8
    go_wp2
    go_ret2
    exact ⟨rfl, rfl⟩
  | false =>
  rw [h2] at k2
  rw [if_neg (of_decide_eq_false h2)]
  cases h3 : decide (q = Bz.kDc) with
  | true =>
    rw [h3] at k3
    rw [if_pos (of_decide_eq_true h3)]
    unfold Bz.kAtom at k1
    unfold Bz.kContent at k2
    unfold Bz.kDc at k3
    clear h1 h2 h3 k4 k5
    go_enter Try.func8, Try.ntmps8
    go_wp2
    go_ret2
    exact ⟨rfl, rfl⟩
  | false =>
  rw [h3] at k3
  rw [if_neg (of_decide_eq_false h3)]
  cases h4 : decide (q = Bz.kRdf) with
  | true =>
    rw [h4] at k4
    rw [if_pos (of_decide_eq_true h4)]
    unfold Bz.kAtom at k1
    unfold Bz.kContent at k2
    unfold Bz.kDc at k3
    unfold Bz.kRdf at k4
    clear h1 h2 h3 h4 k5
    go_enter Try.func8, Try.ntmps8
    go_wp2
    go_ret2
    exact ⟨rfl, rfl⟩
  | false =>
  rw [h4] at k4
  rw [if_neg (of_decide_eq_false h4)]
  cases h5 : decide (q = Bz.kRss) with
  | true =>
    rw [h5] at k5
    rw [if_pos (of_decide_eq_true h5)]
    unfold Bz.kAtom at k1
    unfold Bz.kContent at k2
    unfold Bz.kDc at k3
    unfold Bz.kRdf at k4
    unfold Bz.kRss at k5
    clear h1 h2 h3 h4 h5
    go_enter Try.func8, Try.ntmps8
    go_wp2
    go_ret2
    exact ⟨rfl, rfl⟩
  | false =>
  rw [h5] at k5
  rw [if_neg (of_decide_eq_false h5)]
  unfold Bz.kAtom at k1
  unfold Bz.kContent at k2
  unfold Bz.kDc at k3
  unfold Bz.kRdf at k4
  unfold Bz.kRss at k5
  clear h1 h2 h3 h4 h5
  go_enter Try.func8, Try.ntmps8
  go_wp2
  go_ret2
  exact ⟨rfl, rfl⟩

/-- Reasons as they may come in. -/
def rz (x : Int × Int) : List Value := [.int .i8 x.1, .int .i64 x.2]
def rzs (l : List (Int × Int)) : List Value := l.flatMap rz
theorem rz_len (x : Int × Int) : (rz x).length = 2 := rfl
theorem rz_one (x : Int × Int) : ∀ u ∈ rz x, u.oneCell' = true := by
  intro u hu
  simp only [rz, List.mem_cons, List.not_mem_nil, or_false] at hu
  rcases hu with rfl | rfl <;> rfl
theorem rzs_snoc (l : List (Int × Int)) (x : Int × Int) : rzs (l ++ [x]) = rzs l ++ rz x := by simp [rzs]
theorem rzs_cells {W : World} {B n : Nat} {A : Option Addr} {l : List (Int × Int)} (h : Reads W B 2 A n (rzs l)) (hn : l.length = n) {k : Nat} {x : Int × Int} (hx : l[k]? = some x) : ∃ b off, A = some ⟨b, off, none⟩ ∧ b < B ∧ W.cell? ⟨b, off + k * 2, none⟩ = some (.int .i8 x.1) ∧ W.cell? ⟨b, off + k * 2 + 1, none⟩ = some (.int .i64 x.2) := by
  obtain ⟨hk, he⟩ := List.getElem?_eq_some_iff.1 hx
  obtain ⟨b, off, hA, hb, hc⟩ := h.2 (by omega)
  have hf : ∀ j, j < 2 → (rzs l)[k * 2 + j]? = (rz x)[j]? := fun j hj => by
    unfold rzs
    rw [fm_at rz_len l k hk j hj, he]
  refine ⟨b, off, hA, hb, ?_, ?_⟩
  · exact hc (k * 2) _ (hf 0 (by omega))
  · have := hc (k * 2 + 1) _ (hf 1 (by omega)); rwa [← Nat.add_assoc] at this
theorem reads_take {W : World} {B n k : Nat} {A : Option Addr} {l : List (Int × Int)} (h : Reads W B 2 A n (rzs l)) (hn : l.length = n) (hk : k ≤ n) : Reads W B 2 A k (rzs (l.take k)) := by
  have e : rzs (l.take k) = (rzs l).take (k * 2) := by unfold rzs; rw [fm_take (m := 2) (fun _ => rfl)]
  refine ⟨?_, fun h0 => ?_⟩
  · rw [e, List.length_take, h.1]; omega
  · obtain ⟨b, off, hA, hb, hc⟩ := h.2 (by omega)
    refine ⟨b, off, hA, hb, fun j c hj => hc j c ?_⟩
    rw [e] at hj
    rw [List.getElem?_take] at hj
    split at hj
    · exact hj
    · cases hj
set_option maxHeartbeats 8000000 in
theorem refKeep_any (w : World) (B n c : Nat) (A : Option Addr) (l : List (Int × Int)) (hr : Reads w B 2 A n (rzs l)) (hln : l.length = n) (hn : n ≤ 1000) (hB : B ≤ w.heap.size) :
    Calls Try.prog 11 #[.slice A n c] w fun e w' => ∃ A' c', e = .returned (.slice A' (min n 8) c') ∧ w'.ownsRow w.heap.size 47 2 (.slice A' (min n 8) c') (min n 8) (rzs (l.take 8)) ∧ Below w.heap.size w w' := by
  have HR := hide hr
  have HL := hide hln
  have HBw := hide hB
  obtain ⟨m, hm⟩ : ∃ m, min n 8 = m := ⟨_, rfl⟩
  rw [hm]
  have Hm := hide hm
  have hm8 : m ≤ 8 := by omega
  have Hall := hide (show l.take 8 = l.take m by
    rw [← hm]
    by_cases h : n ≤ 8
    · rw [Nat.min_eq_left h, List.take_of_length_le (by omega), List.take_of_length_le (by omega)]
    · rw [Nat.min_eq_right (by omega)])
  clear hr hln hB hm
  go_enter Try.func11, Try.ntmps11
  go_wp2
  go_loopg [4, 3] m (fun gk vk vl wr => ∃ (k : Nat) (A' : Option Addr) (c' : Nat), gk = m - k ∧ k ≤ m ∧ vk = .int .i64 (k : Int) ∧ vl = .slice A' k c' ∧ wr.ownsRow w.heap.size 47 2 (.slice A' k c') k (rzs (l.take k)) ∧ Below w.heap.size w wr)
  case atStart => exact ⟨0, none, 0, rfl, by omega, rfl, rfl, World.ownsRow_nil _ _ _ _, .refl _ _⟩
  case round =>
    obtain ⟨k, A', c', hgk, hk, rfl, rfl, ho, hb⟩ := hrel
    have Hg := hide hgk
    have Ho := hide ho
    have Hb := hide hb
    clear hgk ho hb
    by_cases hlt : k < m
    · have hkn : k < n := by have := Hm.out; omega
      have hk8 : k < 8 := by omega
      obtain ⟨x, hx⟩ : ∃ x, l[k]? = some x := ⟨_, List.getElem?_eq_getElem (by rw [HL.out]; exact hkn)⟩
      obtain ⟨b, off, rfl, hbl, q0, q1⟩ := rzs_cells HR.out HL.out hx
      have y0 : wr.cell? ⟨b, off + k * 2, none⟩ = some (.int .i8 x.1) := (Hb.out.cell (p := ⟨b, off + k * 2, none⟩) (by have := HBw.out; show b < _; omega)).trans q0
      have y1 : wr.cell? ⟨b, off + k * 2 + 1, none⟩ = some (.int .i64 x.2) := (Hb.out.cell (p := ⟨b, off + k * 2 + 1, none⟩) (by have := HBw.out; show b < _; omega)).trans q1
      have hwk : IntKind.i64.wrap ((k : Int) + 1) = (k : Int) + 1 := IntWalk.i64_in _ (by omega)
      have Hts := hide (show l.take (k + 1) = l.take k ++ [x] by
        obtain ⟨q1, q2⟩ := List.getElem?_eq_some_iff.1 hx
        rw [List.take_succ_eq_append_getElem q1, q2])
      clear hx q0 q1
      go_wp2_with (at_builtin; go_loud (refine wpList_append_elem_at (wr.alloc (.cells (rz x).toArray 47)) (by rfl) (.tmp 15) (.tmp 20) 22 (by rfl) w.heap.size 47 _ 2 16 Try.underlying22 info_rsn (by rfl) (by omega) (.slice A' k c') k (rzs (l.take k)) (by rfl) (Ho.out.alloc _) (rz x) (by rfl) (rz_one _) wr.heap.size (Blk.new wr 47 (rz x).toArray) (by rfl) (by unfold maxLen; omega) (by omega) (by have := Hb.out.size; simp; omega) ?_); intro g8 cap8 w8 hown8 hgrow8 hlt8; have HO8 := hide hown8; have HG8 := hide hgrow8; clear hown8 hgrow8 hlt8)
      go_roundg (m - (k + 1))
      case measure => have := Hg.out; omega
      case rel =>
        refine ⟨k + 1, some ⟨g8, 0, none⟩, cap8, rfl, by omega, by first | rfl | go_num, rfl, ?_, ?_⟩
        · rw [Hts.out, rzs_snoc]
          exact HO8.out
        · have h1 : Below w.heap.size w (wr.alloc (.cells (rz x).toArray 47)) := Hb.out.trans ((below_alloc _ _).mono Hb.out.size)
          exact ⟨HG8.out.os.trans h1.os, HG8.out.tape.trans h1.tape, HG8.out.output.trans h1.output, Nat.le_trans h1.size HG8.out.size, fun j hj => (HG8.out.block j (Nat.lt_of_lt_of_le hj h1.size) fun e => by have := (own_isT (Ho.out.alloc (.cells (rz x).toArray 47)) j e.symm).1; omega).trans (h1.block j hj)⟩
    · have hkm : k = m := by omega
      subst hkm
      have hge : decide ((k : Int) < 8 ∧ (k : Int) < (n : Int)) = false := decide_eq_false (by have := Hm.out; omega)
      by_cases hkn : k < n
      · have hk8 : ¬ k < 8 := by have := Hm.out; omega
        have hk8' : decide ((k : Int) < 8) = false := decide_eq_false (by omega)
        go_wp2
        go_ret
        rw [Hall.out]
        exact ⟨A', c', rfl, Ho.out, Hb.out⟩
      · have hkn' : decide ((k : Int) < (n : Int)) = false := decide_eq_false (by omega)
        go_wp2
        go_ret
        rw [Hall.out]
        exact ⟨A', c', rfl, Ho.out, Hb.out⟩
set_option maxHeartbeats 8000000 in
theorem sameRs_any (w : World) (B B' n c c' : Nat) (A A' : Option Addr) (l : List (Int × Int)) (h : Reads w B 2 A n (rzs l)) (h' : Reads w B' 2 A' n (rzs l)) (hln : l.length = n) (hn : n ≤ 1000) (hB : B ≤ w.heap.size) (hB' : B' ≤ w.heap.size) :
    Calls Try.prog 10 #[.slice A n c, .slice A' n c'] w fun e w' => e = .returned (.bool true) ∧ Below w.heap.size w w' := by
  have H := hide h
  have H' := hide h'
  have HL := hide hln
  have HBw := hide hB
  have HBw' := hide hB'
  clear h h' hln hB hB'
  go_enter Try.func10, Try.ntmps10
  go_wp2
  go_loopg [5] n (fun gk vk wr => ∃ k : Nat, gk = n - k ∧ k ≤ n ∧ vk = .int .i64 (k : Int) ∧ Below w.heap.size w wr)
  case atStart => exact ⟨0, rfl, by omega, rfl, .refl _ _⟩
  case round =>
    obtain ⟨k, hgk, hk, rfl, hb⟩ := hrel
    have Hg := hide hgk
    have Hb := hide hb
    clear hgk hb
    by_cases hlt : k < n
    · obtain ⟨x, hx⟩ : ∃ x, l[k]? = some x := ⟨_, List.getElem?_eq_getElem (by rw [HL.out]; exact hlt)⟩
      obtain ⟨b, off, rfl, hbl, q0, q1⟩ := rzs_cells H.out HL.out hx
      obtain ⟨b', off', rfl, hbl', q0', q1'⟩ := rzs_cells H'.out HL.out hx
      have y0 : wr.cell? ⟨b, off + k * 2, none⟩ = some (.int .i8 x.1) := (Hb.out.cell (p := ⟨b, off + k * 2, none⟩) (by have := HBw.out; show b < _; omega)).trans q0
      have y1 : wr.cell? ⟨b, off + k * 2 + 1, none⟩ = some (.int .i64 x.2) := (Hb.out.cell (p := ⟨b, off + k * 2 + 1, none⟩) (by have := HBw.out; show b < _; omega)).trans q1
      have y0' : wr.cell? ⟨b', off' + k * 2, none⟩ = some (.int .i8 x.1) := (Hb.out.cell (p := ⟨b', off' + k * 2, none⟩) (by have := HBw'.out; show b' < _; omega)).trans q0'
      have y1' : wr.cell? ⟨b', off' + k * 2 + 1, none⟩ = some (.int .i64 x.2) := (Hb.out.cell (p := ⟨b', off' + k * 2 + 1, none⟩) (by have := HBw'.out; show b' < _; omega)).trans q1'
      have hwk : IntKind.i64.wrap ((k : Int) + 1) = (k : Int) + 1 := IntWalk.i64_in _ (by omega)
      have hkb : (0 : Int) ≤ (k : Int) ∧ (k : Int) < (n : Int) := by omega
      clear hx q0 q1 q0' q1'
      go_wp2
      go_quiet (fail)
      go_wp2
      go_roundg (n - (k + 1))
      case measure => have := Hg.out; omega
      case rel => exact ⟨k + 1, rfl, by omega, by first | rfl | go_num, below_drewN Hb.out _⟩
    · go_wp2
      go_ret
      exact ⟨rfl, Hb.out⟩
set_option maxRecDepth 100000 in
set_option maxHeartbeats 32000000 in
theorem lawKnows_any (q : L) (A : Option Addr) (c : Nat) (l : List (Int × Int)) (w : World) (hg : Gm w) (hr : Reads w w.heap.size 2 A l.length (rzs l)) (hc : l.length ≤ c) :
    Calls Try.prog 3 #[.string (bstr q), .slice A l.length c] w fun e w' => e = .returned (.bool true) ∧ Below w.heap.size w w' := by
  have HWk := hide (fun W (h : Below w.heap.size w W) => wakes17_any W (hg.below h))
  obtain ⟨m, hm⟩ : ∃ m, (bstr q).size = m := ⟨_, rfl⟩
  obtain ⟨n, hn⟩ : ∃ n, l.length = n := ⟨_, rfl⟩
  rw [hn] at hr hc ⊢
  by_cases hbig : 300 < m
  · go_enter Try.func3, Try.ntmps3
    go_wp2_with fail
    refine (HWk.out _ (Below.refl _ _)).mono ?_
    rintro e w1 ⟨rfl, b1⟩
    go_wp2
    go_ret
    exact ⟨rfl, b1⟩
  by_cases hbig2 : 100 < n
  · go_enter Try.func3, Try.ntmps3
    go_wp2_with fail
    refine (HWk.out _ (Below.refl _ _)).mono ?_
    rintro e w1 ⟨rfl, b1⟩
    go_wp2
    go_ret
    exact ⟨rfl, b1⟩
  have HK := hide (fun W => bknown_any q W)
  have HK2 := hide (fun W => refKnown_any q W)
  have HKe := hide (fun W => bkeep_any A n c W hc (by omega))
  have HKr := hide (refKeep_any w w.heap.size n c A l hr hn (by omega) (Nat.le_refl _))
  have hmin : min (n : Int) 8 = ((min n 8 : Nat) : Int) := by omega
  have HL8 := hide (show (l.take 8).length = min n 8 by rw [List.length_take, hn, Nat.min_comm])
  have HT := hide (show Reads w w.heap.size 2 A (min n 8) (rzs (l.take 8)) by
    have h := reads_take hr hn (k := min n 8) (Nat.min_le_left _ _)
    have e : l.take (min n 8) = l.take 8 := by
      by_cases h : n ≤ 8
      · rw [Nat.min_eq_left h, List.take_of_length_le (by omega), List.take_of_length_le (by omega)]
      · rw [Nat.min_eq_right (by omega)]
    rwa [e] at h)
  obtain ⟨m8, hm8⟩ : ∃ m8, min n 8 = m8 := ⟨_, rfl⟩
  rw [hm8] at HKe HKr hmin HL8 HT
  have hm81 : m8 ≤ 8 := by omega
  cases hkn : Bz.known q with
  | some u =>
    rw [hkn] at HK HK2
    have hq : ((bstr u).toList == (bstr u).toList) = true := beq_self_eq_true _
    dsimp only at HK HK2
    clear hr hc hg hkn hm8 hn
    go_enter Try.func3, Try.ntmps3
    go_wp2_with fail
    refine cq (HK.out _) ?_
    go_wp2_with fail
    refine cq (HK2.out _) ?_
    go_wp2_with fail
    refine cq (HKe.out _) ?_
    go_wp2_with fail
    refine HKr.out.mono ?_
    rintro e w1 ⟨A', c', rfl, ho, b1⟩
    have B1 := hide b1
    have HS := hide (sameRs_any w1 w1.heap.size w1.heap.size m8 m8 c' A A' (l.take 8) ((HT.out.below b1).more b1.size) (Reads.of_own ho) HL8.out (by omega) (Nat.le_refl _) (Nat.le_refl _))
    clear ho b1
    go_wp2_with fail
    refine HS.out.mono ?_
    rintro e w2 ⟨rfl, b2⟩
    have B2 := hide (B1.out.trans (b2.mono B1.out.size))
    clear b2
    go_wp2_with fail
    refine (HWk.out _ B2.out).mono ?_
    rintro e w3 ⟨rfl, b3⟩
    go_wp2
    go_ret
    exact ⟨rfl, B2.out.trans (b3.mono B2.out.size)⟩
  | none =>
    rw [hkn] at HK HK2
    dsimp only at HK HK2
    clear hr hc hg hkn hm8 hn
    go_enter Try.func3, Try.ntmps3
    go_wp2_with fail
    refine cq (HK.out _) ?_
    go_wp2_with fail
    refine cq (HK2.out _) ?_
    go_wp2_with fail
    refine cq (HKe.out _) ?_
    go_wp2_with fail
    refine HKr.out.mono ?_
    rintro e w1 ⟨A', c', rfl, ho, b1⟩
    have B1 := hide b1
    have HS := hide (sameRs_any w1 w1.heap.size w1.heap.size m8 m8 c' A A' (l.take 8) ((HT.out.below b1).more b1.size) (Reads.of_own ho) HL8.out (by omega) (Nat.le_refl _) (Nat.le_refl _))
    clear ho b1
    go_wp2_with fail
    refine HS.out.mono ?_
    rintro e w2 ⟨rfl, b2⟩
    have B2 := hide (B1.out.trans (b2.mono B1.out.size))
    clear b2
    go_wp2_with fail
    refine (HWk.out _ B2.out).mono ?_
    rintro e w3 ⟨rfl, b3⟩
    go_wp2
    go_ret
    exact ⟨rfl, B2.out.trans (b3.mono B2.out.size)⟩
end Go.Proofs.Ytaickkaoglohgaa
