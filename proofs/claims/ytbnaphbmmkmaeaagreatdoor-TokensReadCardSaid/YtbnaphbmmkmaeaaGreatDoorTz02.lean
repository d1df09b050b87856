/- The document's 'Scalars', 'Valid': whether a text is right. -/
import Derived.Test.YtbnaphbmmkmaeaaGreatDoorTz00
import Derived.Test.YtbnaphbmmkmaeaaGreatDoorTz01
set_option linter.unusedSimpArgs false
set_option linter.unusedVariables false
namespace Go.Proofs.YtbnaphbmmkmaeaaGreatDoor
open Go.RowKit

theorem info_int : (Tryz.prog.info? 3).map (fun i => (i.zero, i.size, i.bytes)) = some (some (.int .i64 0), 1, 8) := by kernel_rfl

theorem valid_at (s : ByteArray) (k : Nat) (h : k < s.size) :
    Utf.valid (s.data.toList.drop k) = if (Utf.piece (s.data.toList.drop k)).1 < 0 then false else Utf.valid (s.data.toList.drop (k + (Utf.piece (s.data.toList.drop k)).2.toNat)) := by
  rw [drop_at s k h, Utf.valid_cons, ← drop_at s k h, List.drop_drop]
theorem piece_at (s : ByteArray) (k : Nat) (h : k < s.size) : 1 ≤ (Utf.piece (s.data.toList.drop k)).2 ∧ (Utf.piece (s.data.toList.drop k)).2 ≤ 4 ∧ (Utf.piece (s.data.toList.drop k)).2 ≤ ((s.size - k : Nat) : Int) := by
  have := Utf.piece_len s[k] (s.data.toList.drop (k + 1))
  rw [← drop_at s k h] at this
  simpa using this

set_option maxHeartbeats 1000000 in
theorem scalars_any (s : ByteArray) (w : World) (hs : s.size ≤ 1000000000) :
    Calls Tryz.prog 51 #[.string s] w fun e w' => ∃ v, e = .returned (.tuple #[v, .bool (Utf.valid s.data.toList)]) ∧ Below w.heap.size w w' := by
  obtain ⟨res, hres⟩ : ∃ res, Utf.valid s.data.toList = res := ⟨_, rfl⟩
  rw [hres]
  have Hres := hide hres
  clear hres
  go_enter Tryz.func51, Tryz.ntmps51
  go_wp2
  go_loopg [4, 5] s.size (fun g vo va wr => ∃ (k n : Nat) (xs : List Value), g = s.size - k ∧ k ≤ s.size ∧ n ≤ k ∧ va = .int .i64 k ∧ Utf.valid (s.data.toList.drop k) = res ∧ wr.ownsRow w.heap.size 3 1 vo n xs ∧ Below w.heap.size w wr)
  case atStart => exact ⟨0, 0, [], rfl, by omega, by omega, rfl, by rw [← Hres.out]; rfl, World.ownsRow_nil _ _ _ _, Below.refl _ _⟩
  case round =>
    obtain ⟨k, n, xs, hg, hk, hn, rfl, hv, hown, hb⟩ := hrel
    have Hv := hide hv
    have Hg := hide hg
    clear hv hg
    by_cases hlt : k < s.size
    · have hp := piece_at s k hlt
      have hval := valid_at s k hlt
      have HN := hide (next_any s k wr (by omega) (by omega) hs)
      rw [Int.toNat_natCast] at HN
      obtain ⟨f, hf⟩ : ∃ f, Utf.piece (s.data.toList.drop k) = f := ⟨_, rfl⟩
      rw [hf] at hp hval HN
      have Hval := hide hval
      clear hf hval
      by_cases hneg : f.1 < 0
      · have e1 : Hid (nextT f = .tuple #[.int .i64 0, .int .i64 0, .bool false]) := by show nextT f = _; unfold nextT; rw [if_pos hneg]
        go_wp2_with (go_at_call 43; refine HN.out.mono ?_; rintro e w' ⟨rfl, rfl⟩; rw [e1.out])
        go_ret2
        exact ⟨_, ret_eq2 rfl (bool_eq (by rw [← Hv.out, Hval.out, if_pos hneg])), hb⟩
      · have e1 : Hid (nextT f = .tuple #[.int .i64 f.1, .int .i64 f.2, .bool true]) := by show nextT f = _; unfold nextT; rw [if_neg hneg]
        go_wp2_with fail
        refine HN.out.mono ?_; rintro e w' ⟨rfl, rfl⟩; rw [e1.out]
        go_wp2_with (first
          | (at_builtin; go_loud (refine wpList_append_elem wr rfl (.tmp 22) (.tmp 24) 42 rfl w.heap.size (.int .i64 0) 1 8 Tryz.underlying42 info_int rfl (by omega) u4 n xs rfl hown rfl (by simp [Value.oneCell']) rfl (by unfold maxLen; omega) (by omega) hb.size ?_); intro g' cap' w1 hown1 hgrow1 hat1 hlt1 hb1))
        go_roundg (s.size - (k + f.2.toNat))
        case measure => have := Hg.out; omega
        case rel =>
          exact ⟨k + f.2.toNat, n + 1, _, rfl, by omega, by omega, int_eq (by omega), by rw [← Hv.out, Hval.out, if_neg (by omega)], hown1, hb.grown hgrow1 hb.size (fun j hj => (own_isT hown j hj).1)⟩
    · go_wp2
      go_ret2
      exact ⟨_, ret_eq2 rfl (bool_eq (by rw [← Hv.out, List.drop_of_length_le (by simp; omega)]; rfl)), hb⟩

set_option maxHeartbeats 400000 in
theorem refValid_any (s : ByteArray) (w : World) (hs : s.size ≤ 1000000000) :
    Calls Tryz.prog 29 #[.string s] w fun e w' => e = .returned (.bool (Utf.valid s.data.toList)) ∧ Below w.heap.size w w' := by
  go_enter Tryz.func29, Tryz.ntmps29
  go_wp2_with (go_at_call 51; refine (scalars_any s w hs).mono ?_; rintro e w' ⟨v, rfl, hb⟩)
  go_ret
  exact ⟨rfl, hb⟩
end Go.Proofs.YtbnaphbmmkmaeaaGreatDoor
