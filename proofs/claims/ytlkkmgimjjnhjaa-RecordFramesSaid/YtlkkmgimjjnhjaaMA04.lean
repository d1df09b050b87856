/- Whether an entry may be kept. · Whether an entry may be kept, the document's answer. · One operation of a region that draws its order, taken by itself; the operation and its slot written out. -/
import Derived.Test.YtlkkmgimjjnhjaaMA02
import Derived.Test.YtlkkmgimjjnhjaaMA03
import Derived.Deep.RegionHeld3
set_option linter.unusedSimpArgs false
set_option linter.unusedVariables false
namespace Go.Proofs.Ytlkkmgimjjnhjaa
open Go.RowKit Rec

theorem below_alloc (w : World) (o : Obj) : Below w.heap.size w (w.alloc o) := (Below.refl _ _).alloc (Nat.le_refl _) o
theorem byEntry_any (x : Ent) (w : World) : Calls Try.prog 51 #[.agg (entCells x).toArray] w fun e w' => e = .returned (.string x.id) ∧ Below w.heap.size w w' := by
  unfold entCells
  go_enter Try.func51, Try.ntmps51
  go_wp2
  go_ret
  exact ⟨rfl, (Below.refl _ _).alloc (Nat.le_refl _) _⟩
theorem byKept_any (x : Kpt) (w : World) : Calls Try.prog 54 #[.agg (kptCells x).toArray] w fun e w' => e = .returned (.string x.e.id) ∧ Below w.heap.size w w' := by
  unfold kptCells entCells
  go_enter Try.func54, Try.ntmps54
  go_wp2
  go_ret
  exact ⟨rfl, (Below.refl _ _).alloc (Nat.le_refl _) _⟩
theorem toList_length (s : ByteArray) : s.toList.length = s.size := by rw [ByteArray.toList_eq]; simp
theorem toList_nil (s : ByteArray) : s.toList = [] ↔ s.size = 0 := by rw [← List.length_eq_zero_iff, toList_length]
theorem isEmpty_eq (s : ByteArray) : (!s.toList.isEmpty) = decide (0 < s.size) := by
  rw [Bool.eq_iff_iff, Bool.not_eq_true', List.isEmpty_eq_false_iff, decide_eq_true_eq, ne_eq, toList_nil]; omega
theorem okUrl_of (s : ByteArray) : (!s.toList.isEmpty && decide ((s.size : Int) ≤ 64)) = okUrl s := by
  rw [isEmpty_eq]; unfold okUrl; rw [Bool.decide_and]; congr 1; rw [decide_eq_decide]; omega
theorem okUrl_no (s : ByteArray) (h : s.toList = []) : false = okUrl s := by
  rw [toList_nil] at h; unfold okUrl; rw [eq_comm, decide_eq_false_iff_not]; omega
theorem url_any (s : ByteArray) (w : World) : Calls Try.prog 52 #[.string s] w fun e w' => e = .returned (.bool (okUrl s)) ∧ w' = w := by
  go_enter Try.func52, Try.ntmps52
  go_wp2
  · go_ret
    exact ⟨ret_eq1 (bool_eq (okUrl_no s (by assumption))), rfl⟩
  · go_ret
    exact ⟨ret_eq1 (bool_eq (okUrl_of s)), rfl⟩
theorem refUrl_any (s : ByteArray) (w : World) : Calls Try.prog 62 #[.string s] w fun e w' => e = .returned (.bool (okUrl s)) ∧ w' = w := by
  go_enter Try.func62, Try.ntmps62
  go_wp2
  · go_ret
    exact ⟨ret_eq1 (bool_eq (by unfold okUrl; rw [decide_eq_decide]; omega)), rfl⟩
  · go_ret
    exact ⟨ret_eq1 (bool_eq (by unfold okUrl; rw [eq_comm, decide_eq_false_iff_not]; omega)), rfl⟩
theorem when_any (h : Bool) (s : Int) (w : World) : Calls Try.prog 49 #[.agg #[.bool h, .int .i64 s]] w fun e w' => e = .returned (.bool (okTime h s)) ∧ Below w.heap.size w w' := by
  cases h
  · go_enter Try.func49, Try.ntmps49
    go_wp2
    go_ret
    exact ⟨ret_eq1 (bool_eq (i_beq s 0)), (Below.refl _ _).alloc (Nat.le_refl _) _⟩
  · go_enter Try.func49, Try.ntmps49
    go_wp2
    · go_ret
      exact ⟨ret_eq1 (bool_eq (by unfold okTime; rw [if_pos rfl, decide_eq_decide]; omega)), (Below.refl _ _).alloc (Nat.le_refl _) _⟩
    · go_ret
      exact ⟨ret_eq1 (bool_eq (by unfold okTime; rw [if_pos rfl, eq_comm, decide_eq_false_iff_not]; omega)), (Below.refl _ _).alloc (Nat.le_refl _) _⟩

/-- An entry's five texts. -/
def five (x : Ent) : Nat → ByteArray
  | 0 => x.id
  | 1 => x.title
  | 2 => x.link
  | 3 => x.author
  | _ => x.content
def sumTo (x : Ent) : Nat → Nat
  | 0 => 0
  | k + 1 => sumTo x k + (five x k).size
theorem five_0 (x : Ent) : five x 0 = x.id := rfl
theorem five_1 (x : Ent) : five x 1 = x.title := rfl
theorem five_2 (x : Ent) : five x 2 = x.link := rfl
theorem five_3 (x : Ent) : five x 3 = x.author := rfl
theorem five_4 (x : Ent) : five x 4 = x.content := rfl
theorem keeps_no {x : Ent} {k : Nat} (hk : k < 5) (h : okText (five x k) = false) : false = keeps x := by
  have : k = 0 ∨ k = 1 ∨ k = 2 ∨ k = 3 ∨ k = 4 := by omega
  rcases this with rfl | rfl | rfl | rfl | rfl <;> (simp only [five_0, five_1, five_2, five_3, five_4] at h; unfold keeps; rw [h]; simp)
theorem keeps_yes {x : Ent} (h : ∀ j, j < 5 → okText (five x j) = true) : keeps x = (okTime x.has x.sec && decide (0 < x.id.size) && decide (sumTo x 5 ≤ 30000)) := by
  have h0 := h 0 (by omega)
  have h1 := h 1 (by omega)
  have h2 := h 2 (by omega)
  have h3 := h 3 (by omega)
  have h4 := h 4 (by omega)
  simp only [five_0, five_1, five_2, five_3, five_4] at h0 h1 h2 h3 h4
  unfold keeps
  rw [h0, h1, h2, h3, h4]
  simp [sumTo, five]
theorem okText_no {s : ByteArray} {z : Nat} {v : Bool} (hz : s.size = z) (hv : Utf.valid s.data.toList = v) (h : 30000 < (z : Int) ∨ (!v) = true) : okText s = false := by
  subst hz hv
  unfold okText
  rcases h with h | h
  · have : ¬ s.size ≤ 30000 := by omega
    simp [this]
  · simp at h; simp [h]
theorem okText_yes {s : ByteArray} {z : Nat} {v : Bool} (hz : s.size = z) (hv : Utf.valid s.data.toList = v) (h : (z : Int) ≤ 30000) (h' : (!v) = false) : okText s = true := by
  subst hz hv
  unfold okText
  have : s.size ≤ 30000 := by omega
  simp at h'
  simp [h', this]

theorem ok_next {x : Ent} {k : Nat} (h : ∀ j, j < k → okText (five x j) = true) (hk : okText (five x k) = true) : ∀ j, j < k + 1 → okText (five x j) = true := by
  intro j hj
  rcases Nat.lt_succ_iff_lt_or_eq.mp hj with hj | rfl
  · exact h j hj
  · exact hk

theorem five_index0 (x : Ent) (w : World) : (Instr.index 82 (.agg #[.string x.id, .string x.title, .string x.link, .string x.author, .string x.content]) (.int .i64 0)).run Try.prog w = .ok (.string x.id) w := by kernel_rfl
theorem five_index1 (x : Ent) (w : World) : (Instr.index 82 (.agg #[.string x.id, .string x.title, .string x.link, .string x.author, .string x.content]) (.int .i64 1)).run Try.prog w = .ok (.string x.title) w := by kernel_rfl
theorem five_index2 (x : Ent) (w : World) : (Instr.index 82 (.agg #[.string x.id, .string x.title, .string x.link, .string x.author, .string x.content]) (.int .i64 2)).run Try.prog w = .ok (.string x.link) w := by kernel_rfl
theorem five_index3 (x : Ent) (w : World) : (Instr.index 82 (.agg #[.string x.id, .string x.title, .string x.link, .string x.author, .string x.content]) (.int .i64 3)).run Try.prog w = .ok (.string x.author) w := by kernel_rfl
theorem five_index4 (x : Ent) (w : World) : (Instr.index 82 (.agg #[.string x.id, .string x.title, .string x.link, .string x.author, .string x.content]) (.int .i64 4)).run Try.prog w = .ok (.string x.content) w := by kernel_rfl
theorem five_index (x : Ent) (k : Nat) (hk : k < 5) (w : World) : (Instr.index 82 (.agg #[.string x.id, .string x.title, .string x.link, .string x.author, .string x.content]) (.int .i64 k)).run Try.prog w = .ok (.string (five x k)) w := by
  have : k = 0 ∨ k = 1 ∨ k = 2 ∨ k = 3 ∨ k = 4 := by omega
  rcases this with h | h | h | h | h
  · subst h; exact five_index0 x w
  · subst h; exact five_index1 x w
  · subst h; exact five_index2 x w
  · subst h; exact five_index3 x w
  · subst h; exact five_index4 x w

theorem fin_t {x : Ent} {n : Nat} (hk : keeps x = (okTime x.has x.sec && decide (0 < x.id.size) && decide (n ≤ 30000))) (h : okTime x.has x.sec = false) : false = keeps x := by rw [hk, h]; rfl
theorem fin_e {x : Ent} {n : Nat} (hk : keeps x = (okTime x.has x.sec && decide (0 < x.id.size) && decide (n ≤ 30000))) (h : x.id.toList = []) : false = keeps x := by
  rw [toList_nil] at h
  rw [hk, h]; simp
theorem fin_y {x : Ent} {n : Nat} (hk : keeps x = (okTime x.has x.sec && decide (0 < x.id.size) && decide (n ≤ 30000))) (h : okTime x.has x.sec = true) : (!x.id.toList.isEmpty && decide ((n : Int) ≤ 30000)) = keeps x := by
  rw [hk, h, isEmpty_eq, Bool.true_and]; congr 1; rw [decide_eq_decide]; omega
theorem okTime_t {x : Ent} (hh : x.has = true) (h : -62135596800 ≤ x.sec ∧ x.sec ≤ 253402300799) : okTime x.has x.sec = true := by rw [hh]; unfold okTime; rw [if_pos rfl, decide_eq_true_eq]; exact h
theorem okTime_tn {x : Ent} (hh : x.has = true) (h : x.sec < -62135596800 ∨ 253402300799 < x.sec) : okTime x.has x.sec = false := by rw [hh]; unfold okTime; rw [if_pos rfl, decide_eq_false_iff_not]; omega
theorem okTime_f {x : Ent} (hh : x.has = false) (h : x.sec = 0) : okTime x.has x.sec = true := by rw [hh, h]; rfl
theorem okTime_fn {x : Ent} (hh : x.has = false) (h : ¬ x.sec = 0) : okTime x.has x.sec = false := by rw [hh]; unfold okTime; rw [if_neg (by simp), decide_eq_false_iff_not]; exact h

set_option maxHeartbeats 1000000 in
theorem keeps_any (x : Ent) (w : World) (hz : ∀ k, k < 5 → (five x k).size ≤ 1000000000) :
    Calls Try.prog 27 #[.agg (entCells x).toArray] w fun e w' => e = .returned (.bool (keeps x)) ∧ Below w.heap.size w w' := by
  have HZ := hide hz
  clear hz
  have hi := hide (five_index x)
  have h5 := hide (@sumTo.eq_2 x)
  unfold entCells
  go_enter Try.func27, Try.ntmps27
  go_wp2
  have k0 := Blk.new w 47 #[.string x.id, .string x.title, .string x.link, .string x.author, .string x.content, .bool x.has, .int .i64 x.sec]
  have kb := below_alloc w (.cells #[.string x.id, .string x.title, .string x.link, .string x.author, .string x.content, .bool x.has, .int .i64 x.sec] 47)
  obtain ⟨W0, hW0⟩ : ∃ W0, (w.alloc (.cells #[.string x.id, .string x.title, .string x.link, .string x.author, .string x.content, .bool x.has, .int .i64 x.sec] 47)) = W0 := ⟨_, rfl⟩
  rw [hW0] at k0 kb ⊢
  clear hW0
  have HK := hide k0
  have HB := hide kb
  clear k0 kb
  go_loopg [3, 17] 5 (fun g vn vi wr => ∃ k : Nat, g = 5 - k ∧ k ≤ 5 ∧ (∃ n : Nat, vn = .int .i64 n ∧ n ≤ 30000 * k ∧ sumTo x k = n) ∧ vi = .int .i64 k ∧ (∀ j, j < k → okText (five x j) = true) ∧ Blk wr w.heap.size 47 #[.string x.id, .string x.title, .string x.link, .string x.author, .string x.content, .bool x.has, .int .i64 x.sec] ∧ Below w.heap.size w wr)
  case atStart => exact ⟨0, rfl, by omega, ⟨0, rfl, by omega, rfl⟩, rfl, fun j hj => absurd hj (by omega), HK.out, HB.out⟩
  case round =>
    obtain ⟨k, hg, hk, ⟨n, rfl, hn, hsn⟩, rfl, hok, k0, kb⟩ := hrel
    clear HK HB
    have Hg := hide hg
    have Hn := hide hsn
    have Hok := hide hok
    have K0 := hide k0
    have Kb := hide kb
    clear hg hsn hok
    by_cases hlt : k < 5
    · have ix := hi.out k hlt
      have hz := HZ.out k hlt
      obtain ⟨s, hs⟩ : ∃ s, five x k = s := ⟨_, rfl⟩
      rw [hs] at ix hz
      have hv := valid_any s
      obtain ⟨v, hv1⟩ : ∃ v, Utf.valid s.data.toList = v := ⟨_, rfl⟩
      rw [hv1] at hv
      have V := hide fun W => hv W hz
      have Hs := hide hs
      have Hv := hide hv1
      clear hs hv hv1 hz
      go_wp2_with (go_at_call 47; refine (V.out _).mono ?_; rintro e w' ⟨rfl, hb⟩; replace K0 := hide (K0.out.below hb K0.out.lt); replace Kb := hide (Kb.out.trans (hb.mono Kb.out.size)); clear hb)
      · go_ret
        exact ⟨ret_eq1 (bool_eq (keeps_no hlt (by rw [Hs.out]; exact okText_no rfl Hv.out (by assumption)))), Kb.out⟩
      · go_roundg (5 - (k + 1))
        case measure => have := Hg.out; omega
        case rel => exact ⟨k + 1, rfl, by omega, ⟨n + s.size, by go_num, by omega, by rw [h5.out, Hn.out, Hs.out]⟩, by go_num, ok_next Hok.out (by rw [Hs.out]; exact okText_yes rfl Hv.out (by assumption) (And.right (by assumption))), K0.out, Kb.out⟩
      · go_ret
        exact ⟨ret_eq1 (bool_eq (keeps_no hlt (by rw [Hs.out]; exact okText_no rfl Hv.out (.inl (by assumption))))), Kb.out⟩
    · have hk5 : k = 5 := by omega
      have hkk := keeps_yes (x := x) (hk5 ▸ Hok.out)
      rw [← hk5, Hn.out] at hkk
      have Hkk := hide hkk
      have q0 := k0.cell 0
      have q5 := k0.cell 5
      have q6 := k0.cell 6
      clear hkk hk5
      rcases Bool.eq_false_or_eq_true x.has with hh | hh
      · rw [hh] at q5
        have Hh := hide hh
        clear hh
        go_wp2
        all_goals go_ret
        all_goals first
          | exact ⟨ret_eq1 (bool_eq (fin_e Hkk.out (by assumption))), Kb.out⟩
          | exact ⟨ret_eq1 (bool_eq (fin_y Hkk.out (okTime_t Hh.out (by assumption)))), Kb.out⟩
          | exact ⟨ret_eq1 (bool_eq (fin_t Hkk.out (okTime_tn Hh.out (by first | assumption | exact .inl (by assumption))))), Kb.out⟩
      · rw [hh] at q5
        have Hh := hide hh
        clear hh
        go_wp2
        all_goals go_ret
        all_goals first
          | exact ⟨ret_eq1 (bool_eq (fin_e Hkk.out (by assumption))), Kb.out⟩
          | exact ⟨ret_eq1 (bool_eq (fin_y Hkk.out (okTime_f Hh.out (by assumption)))), Kb.out⟩
          | exact ⟨ret_eq1 (bool_eq (fin_t Hkk.out (okTime_fn Hh.out (by first | assumption | exact .inl (by assumption))))), Kb.out⟩
end Go.Proofs.Ytlkkmgimjjnhjaa
namespace Go.Proofs.Ytlkkmgimjjnhjaa
open Go.RowKit Rec

theorem keepsK_any (x : Kpt) (w : World) (hz : ∀ k, k < 5 → (five x.e k).size ≤ 1000000000) :
    Calls Try.prog 55 #[.agg (kptCells x).toArray] w fun e w' => e = .returned (.bool (keeps x.e)) ∧ Below w.heap.size w w' := by
  have H := hide fun (W : World) => keeps_any x.e W hz
  clear hz
  unfold kptCells
  unfold entCells at H ⊢
  go_enter Try.func55, Try.ntmps55
  go_wp2_with (go_at_call 27; refine (H.out _).mono ?_; rintro e w' ⟨rfl, hb⟩)
  go_ret
  exact ⟨rfl, (below_alloc _ _).trans (hb.mono (by simp))⟩

theorem five_cell (x : Ent) (k : Nat) (hk : k < 5) : (#[Value.string x.id, .string x.title, .string x.link, .string x.author, .string x.content] : Array Value)[k]? = some (.string (five x k)) := by
  have : k = 0 ∨ k = 1 ∨ k = 2 ∨ k = 3 ∨ k = 4 := by omega
  rcases this with h | h | h | h | h
  · subst h; rfl
  · subst h; rfl
  · subst h; rfl
  · subst h; rfl
  · subst h; rfl
theorem rfin {x : Ent} {n : Nat} {b : Bool} (hk : keeps x = (okTime x.has x.sec && decide (0 < x.id.size) && decide (n ≤ 30000))) (h1 : ¬x.id.toList = []) (h2 : (n : Int) ≤ 30000) (hb : okTime x.has x.sec = b) : (!x.id.toList.isEmpty && b) = keeps x := by
  rw [isEmpty_eq]
  rw [toList_nil] at h1
  rw [hk, hb]
  have : n ≤ 30000 := by omega
  have : 0 < x.id.size := by omega
  simp [*]
theorem rfin_n {x : Ent} {n : Nat} (hk : keeps x = (okTime x.has x.sec && decide (0 < x.id.size) && decide (n ≤ 30000))) (h2 : 30000 < (n : Int)) : false = keeps x := by
  rw [hk]
  have : ¬ n ≤ 30000 := by omega
  simp [*]

set_option maxHeartbeats 1000000 in
theorem refKeeps_any (x : Ent) (w : World) (hz : ∀ k, k < 5 → (five x k).size ≤ 1000000000) :
    Calls Try.prog 28 #[.agg (entCells x).toArray] w fun e w' => e = .returned (.bool (keeps x)) ∧ Below w.heap.size w w' := by
  have HZ := hide hz
  clear hz
  have h5 := hide (@sumTo.eq_2 x)
  have HW := hide fun (W : World) => when_any x.has x.sec W
  obtain ⟨ok, hok0⟩ : ∃ b, okTime x.has x.sec = b := ⟨_, rfl⟩
  rw [hok0] at HW
  have Hok0 := hide hok0
  clear hok0
  unfold entCells
  go_enter Try.func28, Try.ntmps28
  go_wp2
  have k0 := (Blk.new w 47 #[.string x.id, .string x.title, .string x.link, .string x.author, .string x.content, .bool x.has, .int .i64 x.sec]).alloc (.cells #[.string x.id, .string x.title, .string x.link, .string x.author, .string x.content] 9)
  have k1 := Blk.new (w.alloc (.cells #[.string x.id, .string x.title, .string x.link, .string x.author, .string x.content, .bool x.has, .int .i64 x.sec] 47)) 9 #[.string x.id, .string x.title, .string x.link, .string x.author, .string x.content]
  rw [World.size_alloc] at k1
  have kb := below2 w (.cells #[.string x.id, .string x.title, .string x.link, .string x.author, .string x.content, .bool x.has, .int .i64 x.sec] 47) (.cells #[.string x.id, .string x.title, .string x.link, .string x.author, .string x.content] 9)
  obtain ⟨W0, hW0⟩ : ∃ W0, ((w.alloc (.cells #[.string x.id, .string x.title, .string x.link, .string x.author, .string x.content, .bool x.has, .int .i64 x.sec] 47)).alloc (.cells #[.string x.id, .string x.title, .string x.link, .string x.author, .string x.content] 9)) = W0 := ⟨_, rfl⟩
  rw [hW0] at k0 k1 kb ⊢
  clear hW0
  have HK := hide k0
  have HK1 := hide k1
  have HB := hide kb
  clear k0 kb k1
  go_loopg [4, 5] 5 (fun g vn vi wr => ∃ k : Nat, g = 5 - k ∧ k ≤ 5 ∧ (∃ n : Nat, vn = .int .i64 n ∧ n ≤ 30000 * k ∧ sumTo x k = n) ∧ vi = .int .i64 k ∧ (∀ j, j < k → okText (five x j) = true) ∧ Blk wr w.heap.size 47 #[.string x.id, .string x.title, .string x.link, .string x.author, .string x.content, .bool x.has, .int .i64 x.sec] ∧
    Blk wr (w.heap.size + 1) 9 #[.string x.id, .string x.title, .string x.link, .string x.author, .string x.content] ∧ Below w.heap.size w wr)
  case atStart => exact ⟨0, rfl, by omega, ⟨0, rfl, by omega, rfl⟩, rfl, fun j hj => absurd hj (by omega), HK.out, HK1.out, HB.out⟩
  case round =>
    obtain ⟨k, hg, hk, ⟨n, rfl, hn, hsn⟩, rfl, hok, k0, k1, kb⟩ := hrel
    clear HK HB HK1
    have Hg := hide hg
    have Hn := hide hsn
    have Hok := hide hok
    have K0 := hide k0
    have K1 := hide k1
    have Kb := hide kb
    clear hg hsn hok
    by_cases hlt : k < 5
    · have ix := (k1.cell k).trans (five_cell x k hlt)
      have hz := HZ.out k hlt
      obtain ⟨s, hs⟩ : ∃ s, five x k = s := ⟨_, rfl⟩
      rw [hs] at ix hz
      have hv := refValid_any s
      obtain ⟨v, hv1⟩ : ∃ v, Utf.valid s.data.toList = v := ⟨_, rfl⟩
      rw [hv1] at hv
      have V := hide fun W => hv W hz
      have Hs := hide hs
      have Hv := hide hv1
      clear hs hv hv1 hz k0 k1 kb
      go_wp2_with (go_at_call 48; refine (V.out _).mono ?_; rintro e w' ⟨rfl, hb⟩; replace ix := (hb.cell (show (⟨w.heap.size + 1, k, none⟩ : Addr).block < _ from K1.out.lt)).trans ix; replace K0 := hide (K0.out.below hb K0.out.lt); replace K1 := hide (K1.out.below hb K1.out.lt); replace Kb := hide (Kb.out.trans (hb.mono Kb.out.size)); clear hb)
      · go_ret
        exact ⟨ret_eq1 (bool_eq (keeps_no hlt (by rw [Hs.out]; exact okText_no rfl Hv.out (by assumption)))), Kb.out⟩
      · go_roundg (5 - (k + 1))
        case measure => have := Hg.out; omega
        case rel => exact ⟨k + 1, rfl, by omega, ⟨n + s.size, by go_num, by omega, by rw [h5.out, Hn.out, Hs.out]⟩, by go_num, ok_next Hok.out (by rw [Hs.out]; exact okText_yes rfl Hv.out (by assumption) (And.right (by assumption))), K0.out, K1.out, Kb.out⟩
      · go_ret
        exact ⟨ret_eq1 (bool_eq (keeps_no hlt (by rw [Hs.out]; exact okText_no rfl Hv.out (.inl (by assumption))))), Kb.out⟩
    · have hk5 : k = 5 := by omega
      have hkk := keeps_yes (x := x) (hk5 ▸ Hok.out)
      rw [← hk5, Hn.out] at hkk
      have Hkk := hide hkk
      have q0 := k0.cell 0
      have q5 := k0.cell 5
      have q6 := k0.cell 6
      clear hkk hk5 k0 k1 kb
      go_wp2_with (go_at_call 49; refine (HW.out _).mono ?_; rintro e w' ⟨rfl, hb⟩; replace Kb := hide (Kb.out.trans (hb.mono Kb.out.size)); clear hb)
      all_goals go_ret
      all_goals first
          | exact ⟨ret_eq1 (bool_eq (fin_e Hkk.out (by assumption))), Kb.out⟩
          | exact ⟨ret_eq1 (bool_eq (rfin Hkk.out (by assumption) (by assumption) Hok0.out)), Kb.out⟩
          | exact ⟨ret_eq1 (bool_eq (rfin_n Hkk.out (by assumption))), Kb.out⟩
end Go.Proofs.Ytlkkmgimjjnhjaa
namespace Go.Proofs.Ytlkkmgimjjnhjaa
open Go

section
variable {P : Program} {l : List Oper} {Q : Exit → Act → World → Prop} {md : Region.Mode} {S : World → Prop}
theorem put_some {a : Act} {d : Option Tmp} {k : Tmp} {v : Value} (hd : d = some k) : a.put d v = { tmps := a.tmps.setIfInBounds k v, defers := a.defers } := by subst hd; rfl
theorem held_take {i d : Nat} {oi : Oper} {v : Value} {fuel : Nat} {listed : Array Bool} {a : Act} {w : World} (hi : l[i]? = some oi) (hd : oi.dst = some d)
    (hs : Region.noSelect l.toArray = true) (hf : Region.free md l.toArray listed i = true) (hr : (Region.ready md l.toArray listed).contains i = true)
    (hQ : ∀ c a w, Q (.panic c) (a.put oi.dst v) w → Q (.panic c) a w) (hw : Region.wanted oi (yielded l.toArray a.tmps) = true) (hS : S w) (hy : ∀ w, S w → (execOp a.eval oi).run P w = .ok (.value v) w)
    (h : wpAnyH P md l.toArray Q S fuel (listed.setIfInBounds i true) { tmps := a.tmps.setIfInBounds d v, defers := a.defers } w) : wpAnyH P md l.toArray Q S (fuel + 1) listed a w :=
  wpAnyH_take (by simpa using hi) hs hf hr hQ (Or.inl ⟨hw, hy⟩) hS (by rw [put_some hd]; exact h)
theorem held_skip {i d : Nat} {oi : Oper} {fuel : Nat} {listed : Array Bool} {a : Act} {w : World} (hi : l[i]? = some oi) (hd : oi.dst = some d)
    (hs : Region.noSelect l.toArray = true) (hf : Region.free md l.toArray listed i = true) (hr : (Region.ready md l.toArray listed).contains i = true)
    (hQ : ∀ c a w, Q (.panic c) (a.put oi.dst undef) w → Q (.panic c) a w) (hw : Region.wanted oi (yielded l.toArray a.tmps) = false) (hS : S w)
    (h : wpAnyH P md l.toArray Q S fuel (listed.setIfInBounds i true) { tmps := a.tmps.setIfInBounds d undef, defers := a.defers } w) : wpAnyH P md l.toArray Q S (fuel + 1) listed a w :=
  wpAnyH_take (by simpa using hi) hs hf hr hQ (Or.inr ⟨hw, rfl⟩) hS (by rw [put_some hd]; exact h)
theorem held_call {i : Nat} {oi : Oper} {fuel : Nat} {listed : Array Bool} {a : Act} {w : World} (hi : l[i]? = some oi) (hr : Region.ready md l.toArray listed = [i]) (hw : Region.wanted oi (yielded l.toArray a.tmps) = true)
    (h : ∀ K' : Act → World → Prop, Shut (∀ a w, S w → (S w → wpAnyH P md l.toArray Q S fuel (listed.setIfInBounds i true) a w) → K' a w) → Oper.wp P oi a w K' Q) : wpAnyH P md l.toArray Q S (fuel + 1) listed a w :=
  wpAnyH_ready hr (by simp) (AllReadyH.cons (o := oi) (by simpa using hi) (fun K hK => by rw [if_pos hw]; exact h K hK) AllReadyH.nil)
end
end Go.Proofs.Ytlkkmgimjjnhjaa
