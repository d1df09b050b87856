/- The walks over the UTF-8 layer: what stands at a byte, by the document. · The walks over the UTF-8 layer: what stands at a byte, by the document, joined. · Words for memory: a slice that reads as a list; a block that is known whole; what a call may have turned; append of one element. Sections 1 and 2 are turned from the guide's extra-words. · The document's 'Scalars', 'Valid': whether a text is right. · Words for memory that the tokens' walks use: what a call may have turned but one block; strings as lists of bytes. -/
import Derived.Test.YtlcfakmbcfdgbaaGreatWt00
import Derived.Below
import Derived.Laws.OwnMore
import Derived.Deep.AppendLies
import Derived.Deep.Draws
import Derived.Laws.Rows
import Derived.Maps.AppendAt
import Derived.RegionTactic
import Derived.OwnWalk
import Derived.Laws.IdiomStrings
import Derived.WalkKit
set_option linter.unusedSimpArgs false
set_option linter.unusedVariables false
namespace Go.Proofs.YtlcfakmbcfdgbaaGreat
open Go.RowKit

def partT (f : Int × Int × Bool) : Value := .tuple #[.int .i64 f.1, .int .i64 f.2.1, .bool f.2.2]
theorem partT_eq {a b : Int} {c : Bool} {f : Int × Int × Bool} (h : (a, b, c) = f) : Ending.returned (.tuple #[.int .i64 a, .int .i64 b, .bool c]) = .returned (partT f) := by
  rw [← h]; rfl

theorem i64_and127 (x : Int) (h0 : 0 ≤ x) (h1 : x < 256) : bits .and .i64 x 127 = x % 128 := i64_mask x 7 h0 (by omega) (by omega) _ rfl
theorem i64_and31 (x : Int) (h0 : 0 ≤ x) (h1 : x < 256) : bits .and .i64 x 31 = x % 32 := i64_mask x 5 h0 (by omega) (by omega) _ rfl
theorem i64_and15 (x : Int) (h0 : 0 ≤ x) (h1 : x < 256) : bits .and .i64 x 15 = x % 16 := i64_mask x 4 h0 (by omega) (by omega) _ rfl
theorem i64_and7 (x : Int) (h0 : 0 ≤ x) (h1 : x < 256) : bits .and .i64 x 7 = x % 8 := i64_mask x 3 h0 (by omega) (by omega) _ rfl

set_option maxHeartbeats 1000000 in
theorem part_wrong (s : ByteArray) (a : Nat) (w : World) (ha : a < s.size) (hs : s.size ≤ 1000000000) (hm : (Utf.follow s[a].toNat).1 < 0) :
    Calls Tryz.prog 91 #[.string s, .int .i64 a] w fun e w' => e = .returned (partT (0, 1, false)) ∧ w = w' := by
  obtain ⟨c, hc⟩ : ∃ c : Int, ((s[a].toNat : Nat) : Int) = c := ⟨_, rfl⟩
  have hc0 : 0 ≤ c := by omega
  have hc1 : c ≤ 255 := by have := Utf.byte_lt s[a]; omega
  rw [hc] at hm
  have Hc := hide hc
  have Hm : Hid (leadV (Utf.follow c) = (-1, 0, 0)) := by
    show leadV (Utf.follow c) = (-1, 0, 0)
    unfold leadV; rw [if_pos hm]
  clear hc hm
  go_enter Tryz.func91, Tryz.ntmps91
  go_wp2_with (go_at_call 113; rw [Hc.out]; refine (lead_any _ _ hc0 hc1).mono ?_; rintro e w' ⟨rfl, rfl⟩; rw [Hm.out]; unfold leadT; dsimp only)
  go_ret3
  exact ⟨rfl, rfl⟩

set_option maxHeartbeats 4000000 in
theorem part_right (s : ByteArray) (a k : Nat) (r lo hi least most : Int) (w : World) (ha : a < s.size) (hs : s.size ≤ 1000000000) (hf : Utf.follow s[a].toNat = ((k : Int), r, lo, hi))
    (hl : leadV (Utf.follow s[a].toNat) = ((k : Int), least, most)) (hll : 0 < k → least = lo ∧ most = hi) :
    Calls Tryz.prog 91 #[.string s, .int .i64 a] w fun e w' => e = .returned (partT (Utf.part (Utf.cont (s.data.toList.drop (a + 1)) k r 1 lo hi))) ∧ w = w' := by
  obtain ⟨c, hc⟩ : ∃ c : Int, ((s[a].toNat : Nat) : Int) = c := ⟨_, rfl⟩
  have hc0 : 0 ≤ c := by omega
  have hc1 : c ≤ 255 := by have := Utf.byte_lt s[a]; omega
  rw [hc] at hf hl
  have hcs := Utf.follow_cases c hc0 hc1
  have hbs := Utf.follow_bits c
  rw [hf] at hcs hbs
  dsimp only at hcs hbs
  have Hc := hide hc
  have Hl := hide hl
  have hr0 : 0 ≤ r := by omega
  have hr1 : r ≤ 127 := by omega
  have hk3 : k ≤ 3 := by omega
  have Hr : Hid ((k = 0 → c % 128 = r) ∧ (k = 1 → c % 32 = r) ∧ (k = 2 → c % 16 = r) ∧ (k = 3 → c % 8 = r)) := by
    show (k = 0 → c % 128 = r) ∧ (k = 1 → c % 32 = r) ∧ (k = 2 → c % 16 = r) ∧ (k = 3 → c % 8 = r)
    refine ⟨?_, ?_, ?_, ?_⟩ <;> omega
  have Hll := hide hll
  obtain ⟨res, hres⟩ : ∃ res, Utf.part (Utf.cont (s.data.toList.drop (a + 1)) k r 1 lo hi) = res := ⟨_, rfl⟩
  rw [hres]
  have Hres := hide hres
  clear hres hc hl hf hcs hbs hll
  have b0 : bits .and .i64 c 127 = c % 128 := i64_and127 c hc0 (by omega)
  have b1 : bits .and .i64 c 31 = c % 32 := i64_and31 c hc0 (by omega)
  have b2 : bits .and .i64 c 15 = c % 16 := i64_and15 c hc0 (by omega)
  have b3 : bits .and .i64 c 7 = c % 8 := i64_and7 c hc0 (by omega)
  have hk : k = 0 ∨ k = 1 ∨ k = 2 ∨ k = 3 := by omega
  go_enter Tryz.func91, Tryz.ntmps91
  rcases hk with rfl | rfl | rfl | rfl
  · go_wp2_with (go_at_call 113; rw [Hc.out]; refine (lead_any _ _ hc0 hc1).mono ?_; rintro e w' ⟨rfl, rfl⟩; rw [Hl.out]; unfold leadT; dsimp only)
    have hrr : bits .and .i64 (wrap64 (s[a].toNat : Int)) (127) = r := by
      rw [Hc.out, IntWalk.wrap64_in c (by omega), b0]
      exact Hr.out.1 (by trivial)
    rw [hrr]
    clear hrr b0 b1 b2 b3
    go_loopg [8, 9, 11, 12] (0 + 1) (fun g vlo vhi vr vn wr => ∃ (j : Nat) (r' lo' hi' : Int), g = 0 + 1 - j ∧ j ≤ 0 ∧ vr = .int .i64 r' ∧ vn = .int .i64 ((j : Int) + 1) ∧ vlo = .int .u8 lo' ∧ vhi = .int .u8 hi' ∧
      Utf.part (Utf.cont (s.data.toList.drop (a + (j + 1))) (0 - j) r' ((j : Int) + 1) (if 0 = 0 then lo else lo') (if 0 = 0 then hi else hi')) = res ∧ 0 ≤ r' ∧ (r' ≤ 127 ∧ j = 0 ∨ r' ≤ 8191 ∧ j = 1 ∨ r' ≤ 524287 ∧ j = 2 ∨ r' ≤ 33554431 ∧ j = 3) ∧ wr = w)
    case atStart =>
      refine ⟨0, r, least, most, rfl, by omega, rfl, rfl, rfl, rfl, ?_, hr0, .inl ⟨hr1, rfl⟩, rfl⟩
      rw [← Hres.out]
      rfl
    case round =>
      obtain ⟨j, r', lo', hi', hg, hj, rfl, rfl, rfl, rfl, hcont, hr0', hr1', rfl⟩ := hrel
      have Hcont := hide hcont
      have Hr1 := hide hr1'
      have Hg := hide hg
      have hr2 : r' ≤ 33554431 := by omega
      clear hcont hr1' hg hr1
      go_wp2
      go_ret3
      exact ⟨partT_eq (by rw [← Hcont.out, show j = 0 from by omega]; unfold Utf.cont; simp [Utf.part, hr0', show ¬ r' < 0 from by omega]), rfl⟩
  · go_wp2_with (go_at_call 113; rw [Hc.out]; refine (lead_any _ _ hc0 hc1).mono ?_; rintro e w' ⟨rfl, rfl⟩; rw [Hl.out]; unfold leadT; dsimp only)
    have hrr : bits .and .i64 (wrap64 (s[a].toNat : Int)) (31) = r := by
      rw [Hc.out, IntWalk.wrap64_in c (by omega), b1]
      exact Hr.out.2.1 (by trivial)
    rw [hrr]
    clear hrr b0 b1 b2 b3
    go_loopg [8, 9, 11, 12] (1 + 1) (fun g vlo vhi vr vn wr => ∃ (j : Nat) (r' lo' hi' : Int), g = 1 + 1 - j ∧ j ≤ 1 ∧ vr = .int .i64 r' ∧ vn = .int .i64 ((j : Int) + 1) ∧ vlo = .int .u8 lo' ∧ vhi = .int .u8 hi' ∧
      Utf.part (Utf.cont (s.data.toList.drop (a + (j + 1))) (1 - j) r' ((j : Int) + 1) (if 1 = 0 then lo else lo') (if 1 = 0 then hi else hi')) = res ∧ 0 ≤ r' ∧ (r' ≤ 127 ∧ j = 0 ∨ r' ≤ 8191 ∧ j = 1 ∨ r' ≤ 524287 ∧ j = 2 ∨ r' ≤ 33554431 ∧ j = 3) ∧ wr = w)
    case atStart =>
      refine ⟨0, r, least, most, rfl, by omega, rfl, rfl, rfl, rfl, ?_, hr0, .inl ⟨hr1, rfl⟩, rfl⟩
      rw [← Hres.out]
      have := Hll.out (by omega)
      rw [this.1, this.2]
      rfl
    case round =>
      obtain ⟨j, r', lo', hi', hg, hj, rfl, rfl, rfl, rfl, hcont, hr0', hr1', rfl⟩ := hrel
      have Hcont := hide hcont
      have Hr1 := hide hr1'
      have Hg := hide hg
      have hr2 : r' ≤ 33554431 := by omega
      clear hcont hr1' hg hr1
      by_cases hlt : j < 1
      · have hr3 : r' ≤ 524287 := by have := Hr1.out; omega
        by_cases hend : s.size ≤ a + (j + 1)
        · go_wp2
          go_ret3
          exact ⟨partT_eq (by rw [← Hcont.out, show 1 - j = (1 - j - 1) + 1 from by omega, cont_end hend]; rfl), rfl⟩
        · have hlt2 : a + (j + 1) < s.size := by omega
          go_wp2
          · go_ret3
            have hx : (↑s.size ≤ (a : Int) + ((j : Int) + 1) ∨ (s[a + (j + 1)].toNat : Int) < lo') ∨ hi' < (s[a + (j + 1)].toNat : Int) := by assumption
            exact ⟨partT_eq (by rw [← Hcont.out, show 1 - j = (1 - j - 1) + 1 from by omega, cont_wrong hlt2 (by simp only [show (1 = 0) = False from by simp, if_false]; omega)]; rfl), rfl⟩
          · have hin : ((a : Int) + ((j : Int) + 1) < s.size ∧ lo' ≤ (s[a + (j + 1)].toNat : Int)) ∧ (s[a + (j + 1)].toNat : Int) ≤ hi' := by assumption
            have hb := Utf.byte_lt s[a + (j + 1)]
            go_roundg (1 + 1 - (j + 1))
            case measure => have := Hg.out; omega
            case rel =>
              refine ⟨j + 1, r' * 64 + (s[a + (j + 1)].toNat : Int) % 64, 128, 191, rfl, by omega, ?_, by go_num, rfl, rfl, ?_, by omega, by have := Hr1.out; omega, rfl⟩
              · rw [u8_and63 _ (by omega) hb, IntWalk.wrap64_in _ (by omega), i64_or64 r' _ hr0' (by omega) (by omega) (by omega)]
              · rw [← Hcont.out, show 1 - j = (1 - (j + 1)) + 1 from by omega, cont_step hlt2 (by simpa using hin.1.2) (by simpa using hin.2)]
                simp
                rfl
          · go_ret3
            have hx : (s[a + (j + 1)].toNat : Int) < lo' := by assumption
            exact ⟨partT_eq (by rw [← Hcont.out, show 1 - j = (1 - j - 1) + 1 from by omega, cont_wrong hlt2 (.inl (by simpa using hx))]; rfl), rfl⟩
      · go_wp2
        go_ret3
        exact ⟨partT_eq (by rw [← Hcont.out, show j = 1 from by omega]; unfold Utf.cont; simp [Utf.part, hr0', show ¬ r' < 0 from by omega]), rfl⟩
  · go_wp2_with (go_at_call 113; rw [Hc.out]; refine (lead_any _ _ hc0 hc1).mono ?_; rintro e w' ⟨rfl, rfl⟩; rw [Hl.out]; unfold leadT; dsimp only)
    have hrr : bits .and .i64 (wrap64 (s[a].toNat : Int)) (15) = r := by
      rw [Hc.out, IntWalk.wrap64_in c (by omega), b2]
      exact Hr.out.2.2.1 (by trivial)
    rw [hrr]
    clear hrr b0 b1 b2 b3
    go_loopg [8, 9, 11, 12] (2 + 1) (fun g vlo vhi vr vn wr => ∃ (j : Nat) (r' lo' hi' : Int), g = 2 + 1 - j ∧ j ≤ 2 ∧ vr = .int .i64 r' ∧ vn = .int .i64 ((j : Int) + 1) ∧ vlo = .int .u8 lo' ∧ vhi = .int .u8 hi' ∧
      Utf.part (Utf.cont (s.data.toList.drop (a + (j + 1))) (2 - j) r' ((j : Int) + 1) (if 2 = 0 then lo else lo') (if 2 = 0 then hi else hi')) = res ∧ 0 ≤ r' ∧ (r' ≤ 127 ∧ j = 0 ∨ r' ≤ 8191 ∧ j = 1 ∨ r' ≤ 524287 ∧ j = 2 ∨ r' ≤ 33554431 ∧ j = 3) ∧ wr = w)
    case atStart =>
      refine ⟨0, r, least, most, rfl, by omega, rfl, rfl, rfl, rfl, ?_, hr0, .inl ⟨hr1, rfl⟩, rfl⟩
      rw [← Hres.out]
      have := Hll.out (by omega)
      rw [this.1, this.2]
      rfl
    case round =>
      obtain ⟨j, r', lo', hi', hg, hj, rfl, rfl, rfl, rfl, hcont, hr0', hr1', rfl⟩ := hrel
      have Hcont := hide hcont
      have Hr1 := hide hr1'
      have Hg := hide hg
      have hr2 : r' ≤ 33554431 := by omega
      clear hcont hr1' hg hr1
      by_cases hlt : j < 2
      · have hr3 : r' ≤ 524287 := by have := Hr1.out; omega
        by_cases hend : s.size ≤ a + (j + 1)
        · go_wp2
          go_ret3
          exact ⟨partT_eq (by rw [← Hcont.out, show 2 - j = (2 - j - 1) + 1 from by omega, cont_end hend]; rfl), rfl⟩
        · have hlt2 : a + (j + 1) < s.size := by omega
          go_wp2
          · go_ret3
            have hx : (↑s.size ≤ (a : Int) + ((j : Int) + 1) ∨ (s[a + (j + 1)].toNat : Int) < lo') ∨ hi' < (s[a + (j + 1)].toNat : Int) := by assumption
            exact ⟨partT_eq (by rw [← Hcont.out, show 2 - j = (2 - j - 1) + 1 from by omega, cont_wrong hlt2 (by simp only [show (2 = 0) = False from by simp, if_false]; omega)]; rfl), rfl⟩
          · have hin : ((a : Int) + ((j : Int) + 1) < s.size ∧ lo' ≤ (s[a + (j + 1)].toNat : Int)) ∧ (s[a + (j + 1)].toNat : Int) ≤ hi' := by assumption
            have hb := Utf.byte_lt s[a + (j + 1)]
            go_roundg (2 + 1 - (j + 1))
            case measure => have := Hg.out; omega
            case rel =>
              refine ⟨j + 1, r' * 64 + (s[a + (j + 1)].toNat : Int) % 64, 128, 191, rfl, by omega, ?_, by go_num, rfl, rfl, ?_, by omega, by have := Hr1.out; omega, rfl⟩
              · rw [u8_and63 _ (by omega) hb, IntWalk.wrap64_in _ (by omega), i64_or64 r' _ hr0' (by omega) (by omega) (by omega)]
              · rw [← Hcont.out, show 2 - j = (2 - (j + 1)) + 1 from by omega, cont_step hlt2 (by simpa using hin.1.2) (by simpa using hin.2)]
                simp
                rfl
          · go_ret3
            have hx : (s[a + (j + 1)].toNat : Int) < lo' := by assumption
            exact ⟨partT_eq (by rw [← Hcont.out, show 2 - j = (2 - j - 1) + 1 from by omega, cont_wrong hlt2 (.inl (by simpa using hx))]; rfl), rfl⟩
      · go_wp2
        go_ret3
        exact ⟨partT_eq (by rw [← Hcont.out, show j = 2 from by omega]; unfold Utf.cont; simp [Utf.part, hr0', show ¬ r' < 0 from by omega]), rfl⟩
  · go_wp2_with (go_at_call 113; rw [Hc.out]; refine (lead_any _ _ hc0 hc1).mono ?_; rintro e w' ⟨rfl, rfl⟩; rw [Hl.out]; unfold leadT; dsimp only)
    have hrr : bits .and .i64 (wrap64 (s[a].toNat : Int)) (7) = r := by
      rw [Hc.out, IntWalk.wrap64_in c (by omega), b3]
      exact Hr.out.2.2.2 (by trivial)
    rw [hrr]
    clear hrr b0 b1 b2 b3
    go_loopg [8, 9, 11, 12] (3 + 1) (fun g vlo vhi vr vn wr => ∃ (j : Nat) (r' lo' hi' : Int), g = 3 + 1 - j ∧ j ≤ 3 ∧ vr = .int .i64 r' ∧ vn = .int .i64 ((j : Int) + 1) ∧ vlo = .int .u8 lo' ∧ vhi = .int .u8 hi' ∧
      Utf.part (Utf.cont (s.data.toList.drop (a + (j + 1))) (3 - j) r' ((j : Int) + 1) (if 3 = 0 then lo else lo') (if 3 = 0 then hi else hi')) = res ∧ 0 ≤ r' ∧ (r' ≤ 127 ∧ j = 0 ∨ r' ≤ 8191 ∧ j = 1 ∨ r' ≤ 524287 ∧ j = 2 ∨ r' ≤ 33554431 ∧ j = 3) ∧ wr = w)
    case atStart =>
      refine ⟨0, r, least, most, rfl, by omega, rfl, rfl, rfl, rfl, ?_, hr0, .inl ⟨hr1, rfl⟩, rfl⟩
      rw [← Hres.out]
      have := Hll.out (by omega)
      rw [this.1, this.2]
      rfl
    case round =>
      obtain ⟨j, r', lo', hi', hg, hj, rfl, rfl, rfl, rfl, hcont, hr0', hr1', rfl⟩ := hrel
      have Hcont := hide hcont
      have Hr1 := hide hr1'
      have Hg := hide hg
      have hr2 : r' ≤ 33554431 := by omega
      clear hcont hr1' hg hr1
      by_cases hlt : j < 3
      · have hr3 : r' ≤ 524287 := by have := Hr1.out; omega
        by_cases hend : s.size ≤ a + (j + 1)
        · go_wp2
          go_ret3
          exact ⟨partT_eq (by rw [← Hcont.out, show 3 - j = (3 - j - 1) + 1 from by omega, cont_end hend]; rfl), rfl⟩
        · have hlt2 : a + (j + 1) < s.size := by omega
          go_wp2
          · go_ret3
            have hx : (↑s.size ≤ (a : Int) + ((j : Int) + 1) ∨ (s[a + (j + 1)].toNat : Int) < lo') ∨ hi' < (s[a + (j + 1)].toNat : Int) := by assumption
            exact ⟨partT_eq (by rw [← Hcont.out, show 3 - j = (3 - j - 1) + 1 from by omega, cont_wrong hlt2 (by simp only [show (3 = 0) = False from by simp, if_false]; omega)]; rfl), rfl⟩
          · have hin : ((a : Int) + ((j : Int) + 1) < s.size ∧ lo' ≤ (s[a + (j + 1)].toNat : Int)) ∧ (s[a + (j + 1)].toNat : Int) ≤ hi' := by assumption
            have hb := Utf.byte_lt s[a + (j + 1)]
            go_roundg (3 + 1 - (j + 1))
            case measure => have := Hg.out; omega
            case rel =>
              refine ⟨j + 1, r' * 64 + (s[a + (j + 1)].toNat : Int) % 64, 128, 191, rfl, by omega, ?_, by go_num, rfl, rfl, ?_, by omega, by have := Hr1.out; omega, rfl⟩
              · rw [u8_and63 _ (by omega) hb, IntWalk.wrap64_in _ (by omega), i64_or64 r' _ hr0' (by omega) (by omega) (by omega)]
              · rw [← Hcont.out, show 3 - j = (3 - (j + 1)) + 1 from by omega, cont_step hlt2 (by simpa using hin.1.2) (by simpa using hin.2)]
                simp
                rfl
          · go_ret3
            have hx : (s[a + (j + 1)].toNat : Int) < lo' := by assumption
            exact ⟨partT_eq (by rw [← Hcont.out, show 3 - j = (3 - j - 1) + 1 from by omega, cont_wrong hlt2 (.inl (by simpa using hx))]; rfl), rfl⟩
      · go_wp2
        go_ret3
        exact ⟨partT_eq (by rw [← Hcont.out, show j = 3 from by omega]; unfold Utf.cont; simp [Utf.part, hr0', show ¬ r' < 0 from by omega]), rfl⟩

end Go.Proofs.YtlcfakmbcfdgbaaGreat
namespace Go.Proofs.YtlcfakmbcfdgbaaGreat
open Go.RowKit

theorem part_any (s : ByteArray) (at_ : Int) (w : World) (h0 : 0 ≤ at_) (h1 : at_ < s.size) (hs : s.size ≤ 1000000000) :
    Calls Tryz.prog 91 #[.string s, .int .i64 at_] w fun e w' => e = .returned (partT (Utf.part (Utf.piece (s.data.toList.drop at_.toNat)))) ∧ w = w' := by
  obtain ⟨a, rfl⟩ := Int.eq_ofNat_of_zero_le h0
  rw [Int.toNat_natCast]
  have ha : a < s.size := by omega
  rw [drop_at s a ha, Utf.piece_cons]
  have hw := part_wrong s a w ha hs
  have hr := fun k r lo hi least most => part_right s a k r lo hi least most w ha hs
  obtain ⟨c, hc⟩ : ∃ c : Int, (s[a].toNat : Int) = c := ⟨_, rfl⟩
  rw [hc] at hw ⊢
  simp only [hc] at hr
  by_cases hm : (Utf.follow c).1 < 0
  · rw [if_pos hm]
    exact hw hm
  · rw [if_neg hm]
    obtain ⟨m, r, lo, hi, hq⟩ : ∃ m r lo hi, Utf.follow c = (m, r, lo, hi) := ⟨_, _, _, _, rfl⟩
    rw [hq] at hm hr ⊢
    dsimp only at hm ⊢
    obtain ⟨k, rfl⟩ := Int.eq_ofNat_of_zero_le (show 0 ≤ m by omega)
    rw [Int.toNat_natCast]
    by_cases hk0 : k = 0
    · subst hk0
      exact hr 0 r lo hi 0 0 rfl rfl (by omega)
    · exact hr k r lo hi lo hi rfl (by unfold leadV; rw [if_neg (by simp), if_neg (by simpa using hk0)]) (fun _ => ⟨rfl, rfl⟩)

/-- What the document's 'Next' says of a piece. -/
def nextT (f : Int × Int) : Value := if f.1 < 0 then .tuple #[.int .i64 0, .int .i64 0, .bool false] else .tuple #[.int .i64 f.1, .int .i64 f.2, .bool true]

set_option maxHeartbeats 400000 in
theorem next_any (s : ByteArray) (at_ : Int) (w : World) (h0 : 0 ≤ at_) (h1 : at_ < s.size) (hs : s.size ≤ 1000000000) :
    Calls Tryz.prog 71 #[.string s, .int .i64 at_] w fun e w' => e = .returned (nextT (Utf.piece (s.data.toList.drop at_.toNat))) ∧ w = w' := by
  have H := part_any s at_ w h0 h1 hs
  generalize Utf.piece (s.data.toList.drop at_.toNat) = f at *
  have HH := hide H
  clear H
  have g : ¬ at_ < 0 := by omega
  go_enter Tryz.func71, Tryz.ntmps71
  by_cases hf : f.1 < 0
  · have e1 : Hid (Utf.part f = (0, f.2, false)) := by show Utf.part f = _; unfold Utf.part; rw [if_pos hf]
    go_wp2_with (go_at_call 91; refine HH.out.mono ?_; rintro e w' ⟨rfl, rfl⟩; rw [e1.out]; unfold partT; dsimp only)
    go_ret3
    exact ⟨by unfold nextT; rw [if_pos hf]; rfl, rfl⟩
  · have e1 : Hid (Utf.part f = (f.1, f.2, true)) := by show Utf.part f = _; unfold Utf.part; rw [if_neg hf]
    go_wp2_with (go_at_call 91; refine HH.out.mono ?_; rintro e w' ⟨rfl, rfl⟩; rw [e1.out]; unfold partT; dsimp only)
    go_ret3
    exact ⟨by unfold nextT; rw [if_neg (by omega)]; rfl, rfl⟩
end Go.Proofs.YtlcfakmbcfdgbaaGreat
namespace Go.Proofs.YtlcfakmbcfdgbaaGreat
open Go.RowKit

/-- The slice value '.slice A n c' holds the cells xs ('size' cells an element) and lies below block B. -/
def Reads (w : World) (B size : Nat) (A : Option Addr) (n : Nat) (xs : List Value) : Prop :=
  xs.length = n * size ∧ (0 < n → ∃ b off, A = some ⟨b, off, none⟩ ∧ b < B ∧ ∀ j u, xs[j]? = some u → w.cell? ⟨b, off + j, none⟩ = some u)

section
variable {w w' : World} {B B' size n : Nat} {A : Option Addr} {xs : List Value}
theorem Reads.none_ : Reads w B size A 0 [] := ⟨by simp, fun h => absurd h (by omega)⟩
theorem Reads.keep (h : Reads w B size A n xs) (hk : ∀ p : Addr, p.block < B → w'.cell? p = w.cell? p) : Reads w' B size A n xs :=
  ⟨h.1, fun hn => by
    obtain ⟨b, off, e, hb, hc⟩ := h.2 hn
    exact ⟨b, off, e, hb, fun j u hu => (hk _ hb).trans (hc j u hu)⟩⟩
theorem Reads.below (h : Reads w B size A n xs) (hb : Below B w w') : Reads w' B size A n xs := h.keep fun _ hp => hb.cell hp
theorem Reads.of_own {base : Nat} {e : TypeId} {c : Nat} (h : w.ownsRow base e size (.slice A n c) n xs) : Reads w w.heap.size size A n xs := by
  refine ⟨h.1, fun hn => ?_⟩
  obtain ⟨g, cap, hv, _, hlt⟩ := h.form hn
  have hA : A = some ⟨g, 0, none⟩ := by injection hv
  subst hA
  exact ⟨g, 0, rfl, hlt, fun j u hu => by
    have := h.cells (g := g) rfl j u hu
    unfold Addr.add at this
    split at this
    · subst_vars; exact this
    · exact this⟩
end

/-- Block g is just the cells cs of element type t, none frozen. -/
def Blk (w : World) (g : Nat) (t : TypeId) (cs : Array Value) : Prop := w.heap[g]? = some (.cells cs t (0, 0))

section
variable {w w' : World} {g : Nat} {t : TypeId} {cs : Array Value}
theorem Blk.lt (h : Blk w g t cs) : g < w.heap.size := by
  rcases Nat.lt_or_ge g w.heap.size with hlt | hge
  · exact hlt
  · unfold Blk at h; rw [Array.getElem?_eq_none hge] at h; cases h
theorem Blk.cell (h : Blk w g t cs) (i : Nat) : w.cell? ⟨g, i, none⟩ = cs[i]? := cell_of_row w g i cs t (0, 0) h
theorem Blk.frozen (h : Blk w g t cs) (i : Nat) : w.frozen? ⟨g, i, none⟩ = false := by
  unfold Blk at h
  simp [World.frozen?, h]
theorem Blk.new (w : World) (t : TypeId) (cs : Array Value) : Blk (w.alloc (.cells cs t)) w.heap.size t cs := heap_alloc_new w _
theorem Blk.drew (h : Blk w g t cs) : Blk w.drew g t cs := h
theorem Blk.drewN (h : Blk w g t cs) (n : Nat) : Blk (w.drewN n) g t cs := h
theorem Blk.alloc (h : Blk w g t cs) (o : Obj) : Blk (w.alloc o) g t cs := (Below.heap_alloc w o g h.lt).trans h
theorem Blk.set_ (h : Blk w g t cs) (i : Nat) (u : Value) : Blk (w.setCell ⟨g, i, none⟩ u) g t (cs.setIfInBounds i u) := by
  unfold Blk at h ⊢
  simp [World.setCell, Array.getElem?_modify, h]
theorem Blk.far (h : Blk w g t cs) {p : Addr} (hp : g ≠ p.block) (u : Value) : Blk (w.setCell p u) g t cs := (Below.heap_setCell w p u g hp).trans h
theorem Blk.below {B : Nat} (h : Blk w g t cs) (hb : Below B w w') (hg : g < B) : Blk w' g t cs := (hb.block g hg).trans h
theorem Blk.grown {row : Option Nat} (h : Blk w g t cs) (hb : w.grownBy w' row) (hg : some g ≠ row) : Blk w' g t cs := (hb.block g h.lt hg).trans h
theorem Blk.ne_ {g' : Nat} {t' : TypeId} {cs' : Array Value} (h : Blk w g t cs) (h' : Blk w g' t' cs') (hne : t ≠ t') : g ≠ g' := by
  rintro rfl
  unfold Blk at h h'
  rw [h] at h'
  injection h' with h'
  injection h' with _ ht
  exact hne ht
theorem own_blk_ne {base : Nat} {e : TypeId} {size n : Nat} {v : Value} {xs : List Value} (h : w.ownsRow base e size v n xs) (hg : Blk w g t cs) (hne : e ≠ t) : v.ownBlock ≠ some g := by
  rcases h.2 with ⟨rfl, _⟩ | ⟨g', cap, cur, rfl, _, hh, _⟩
  · simp [Value.ownBlock]
  · intro he
    have : g' = g := by simpa [Value.ownBlock] using he
    subst this
    exact Blk.ne_ (t := e) hh hg hne rfl
end

/-- Block k is a row of cells of element type t. -/
def IsT (w : World) (k : Nat) (t : TypeId) : Prop := ∃ cs fr, w.heap[k]? = some (.cells cs t fr)

theorem IsT.lt {w : World} {k t : Nat} (h : IsT w k t) : k < w.heap.size := by
  obtain ⟨cs, fr, h⟩ := h
  rcases Nat.lt_or_ge k w.heap.size with hlt | hge
  · exact hlt
  · rw [Array.getElem?_eq_none hge] at h; cases h

/-- What a call may have turned: of the blocks that were there, those from 'base' on that are rows of element type t, and the block b; nothing else. -/
structure Turn (base t b : Nat) (w w' : World) : Prop where
  os : w'.os = w.os
  tape : w'.tape = w.tape
  output : w'.output = w.output
  size : w.heap.size ≤ w'.heap.size
  block : ∀ k, k < w.heap.size → k ≠ b → ¬ (base ≤ k ∧ IsT w k t) → w'.heap[k]? = w.heap[k]?
  kind : ∀ k, k < w.heap.size → IsT w k t → IsT w' k t

section
variable {base t b : Nat} {w w1 w' : World}
end

theorem own_isT {w : World} {base e size n : Nat} {v : Value} {xs : List Value} (h : w.ownsRow base e size v n xs) : ∀ k, v.ownBlock = some k → base ≤ k ∧ IsT w k e := by
  intro k hk
  rcases h.2 with ⟨rfl, _⟩ | ⟨g', cap, cur, rfl, hb, hh, _⟩
  · simp [Value.ownBlock] at hk
  · have : g' = k := by simpa [Value.ownBlock] using hk
    subst this
    exact ⟨hb, cur, _, hh⟩

/-- append of one element ('size' cells), which buildSlice has laid in a new block. -/
theorem wpList_append_elem {P : Program} (W : World) {e : TypeId} {cs : List Value} {ops : Array Oper} {rest : List Oper} {o : Oper} {a : Act} {Q : Exit → Act → World → Prop} (hgd : o.guard = none) (s x : Operand) (t : TypeId)
    (ho : o.op = .call { callee := .builtin .append, args := #[s, x], argTypes := #[t, t] })
    (base : Nat) (z : Value) (size bytes : Nat) (ht : P.underlying t = some (.slice e)) (hinfo : (P.info? e).map (fun i => (i.zero, i.size, i.bytes)) = some (some z, size, bytes))
    (hzs : z.cells.size = size) (hsz : 0 < size)
    (v : Value) (n : Nat) (xs : List Value) (hs : a.eval s = v) (hown : W.ownsRow base e size v n xs)
    (hcs : cs.length = size) (h1 : ∀ u ∈ cs, u.oneCell' = true) (hx : a.eval x = .slice (some ⟨W.heap.size, 0, none⟩) 1 1)
    (h63 : n + 1 ≤ maxLen) (hbytes : (n + 1) * bytes ≤ 140737488355328) (hbase : base ≤ W.heap.size)
    (h : ∀ g cap w', w'.ownsRow base e size (.slice (some ⟨g, 0, none⟩) (n + 1) cap) (n + 1) (xs ++ cs) → W.grownBy w' v.ownBlock → (v.ownBlock = some g ∨ W.heap.size ≤ g) → g < w'.heap.size → base ≤ g →
      wpList P ops Q rest (a.put o.dst (.slice (some ⟨g, 0, none⟩) (n + 1) cap)) w') : wpList P ops Q (o :: rest) a (W.alloc (.cells cs.toArray e)) := by
  obtain ⟨i, hi, hz, hsize, hby⟩ := info_parts hinfo
  refine wpList_append_lies (W.alloc (.cells cs.toArray e)) hgd s x t ho base e i z size bytes ht hi hz hsize hby hzs hsz v n xs hs (hown.alloc _) ⟨W.heap.size, 0, none⟩ 1 1 cs hx (by omega) ?_ h1 (by omega) h63 hbytes (by simp; omega) _ rfl ?_
  · intro j u hu
    exact World.news_of_block (Blk.new W e cs.toArray) j u (by simpa using hu)
  · intro g cap w' hown' hgrow hg hlt
    have hb : base ≤ g := (own_isT hown' g rfl).1
    refine h g cap w' hown' ⟨hgrow.os, hgrow.tape, hgrow.output, Nat.le_trans (by simp) hgrow.size, fun k hk hne => ?_⟩ ?_ hlt hb
    · exact (hgrow.block k (by simp; omega) hne).trans (Below.heap_alloc W _ k hk)
    · rcases hg with hg | hg
      · exact .inl hg
      · exact .inr (by simp at hg; omega)

theorem ret_eq2 {x x' y y' : Value} (h1 : x = x') (h2 : y = y') : Ending.returned (.tuple #[x, y]) = .returned (.tuple #[x', y']) := by rw [h1, h2]
theorem ret_eq1 {x x' : Value} (h1 : x = x') : Ending.returned x = .returned x' := by rw [h1]
theorem bool_eq {a b : Bool} (h : a = b) : Value.bool a = .bool b := by rw [h]
theorem int_eq {k : IntKind} {a b : Int} (h : a = b) : Value.int k a = .int k b := by rw [h]

/-- Bytes as cells. -/
def byteVs (l : List UInt8) : List Value := l.map fun b => .int .u8 (b.toNat : Int)
theorem byteVs_append (a b : List UInt8) : byteVs (a ++ b) = byteVs a ++ byteVs b := by simp [byteVs]
theorem byteVs_length (a : List UInt8) : (byteVs a).length = a.length := by simp [byteVs]
/-- A number of a byte, as a byte. -/
def bv (n : Int) : UInt8 := UInt8.ofNat n.toNat
theorem bv_toNat (n : Int) (h0 : 0 ≤ n) (h1 : n < 256) : ((bv n).toNat : Int) = n := by
  unfold bv
  rw [UInt8.toNat_ofNat']
  omega
theorem byteVs_bv (n : Int) (h0 : 0 ≤ n) (h1 : n < 256) : byteVs [bv n] = [.int .u8 n] := by
  show [Value.int .u8 ((bv n).toNat : Int)] = _
  rw [bv_toNat n h0 h1]

/-- A string's bytes. -/
def StrIs (t : ByteArray) (l : List UInt8) : Prop := t.data.toList = l
theorem StrIs.size {t : ByteArray} {l : List UInt8} (h : StrIs t l) : t.size = l.length := by
  unfold StrIs at h
  rw [← h]; simp

/-- 'string(b)', b a row of the call's own. -/
theorem run_to_string {P : Program} (w : World) (src dst e : TypeId) (hs : P.underlying src = some (.slice e)) (he : P.underlying e = some (.int .u8)) (hd : P.underlying dst = some .string)
    {base : Nat} {v : Value} {n : Nat} (l : List UInt8) (hown : w.ownsRow base e 1 v n (byteVs l)) : ∃ t : ByteArray, (convert src dst v).run P w = .ok (.string t) w ∧ StrIs t l := by
  have hn : l.length = n := by have := hown.1; rw [byteVs_length] at this; omega
  rcases hown.2 with ⟨rfl, hx⟩ | ⟨g, cap, cur, rfl, _⟩
  · subst hx
    have hl : l = [] := by
      exact List.eq_nil_of_length_eq_zero (by have := hown.1; rw [byteVs_length] at this; omega)
    subst hl
    refine ⟨ByteArray.empty, ?_, rfl⟩
    rw [run_convert_bytes_string w src dst e _ _ _ hs he hd]
    simp [Conv.bytesToString]
  · subst hn
    refine ⟨⟨l.toArray⟩, run_convert_bytes_back w src dst e ⟨g, 0, none⟩ cap l hs he hd ?_, rfl⟩
    intro j hj
    exact hown.cells (g := g) rfl j _ (by simp [byteVs, List.getElem?_eq_getElem hj])

theorem wpList_to_string {P : Program} {w : World} {ops : Array Oper} {rest : List Oper} {o : Oper} {a : Act} {Q : Exit → Act → World → Prop} (hgd : o.guard = none) (src dst e : TypeId) (x : Operand)
    (ho : o.op = .convert src dst x) (hs : P.underlying src = some (.slice e)) (he : P.underlying e = some (.int .u8)) (hd : P.underlying dst = some .string)
    (base : Nat) (v : Value) (n : Nat) (hx : a.eval x = v) (l : List UInt8) (hown : w.ownsRow base e 1 v n (byteVs l))
    (h : ∀ t : ByteArray, StrIs t l → wpList P ops Q rest (a.put o.dst (.string t)) w) : wpList P ops Q (o :: rest) a w := by
  obtain ⟨t, hrun, ht⟩ := run_to_string (P := P) w src dst e hs he hd l hown
  refine wpList_plain hgd fun K hK => ?_
  unfold Oper.wp execOp
  simp only [ho, Sem.run_bind, Sem.run_pure, Result.andThen_ok, hx, hrun]
  exact hK _ _ (h t ht)

theorem own_byte_lit (w : World) (e : TypeId) (n : Int) (h0 : 0 ≤ n) (h1 : n < 256) : (w.alloc (.cells #[.int .u8 n] e)).ownsRow w.heap.size e 1 (.slice (some ⟨w.heap.size, 0, none⟩) 1 1) 1 (byteVs [bv n]) := by
  rw [byteVs_bv n h0 h1]
  exact World.ownsRow_lit w #[.int .u8 n] 1 (Nat.le_refl _) (by unfold maxLen; omega) rfl

theorem own_bytes_lit (w : World) (e : TypeId) (ns : List Int) (h : ∀ n ∈ ns, 0 ≤ n ∧ n < 256) (hl : ns.length ≤ 1000) :
    (w.alloc (.cells (ns.map (Value.int .u8)).toArray e)).ownsRow w.heap.size e 1 (.slice (some ⟨w.heap.size, 0, none⟩) ns.length ns.length) ns.length (byteVs (ns.map bv)) := by
  have e1 : byteVs (ns.map bv) = ns.map (Value.int .u8) := by
    unfold byteVs
    rw [List.map_map]
    apply List.map_congr_left
    intro n hn
    have := h n hn
    simp only [Function.comp, bv_toNat n this.1 this.2]
  rw [e1]
  have := World.ownsRow_lit (base := w.heap.size) (e := e) (size := 1) w (ns.map (Value.int .u8)).toArray ns.length (Nat.le_refl _) (by unfold maxLen; omega) (by simp)
  simpa using this
theorem own_bytes1 (w : World) (e : TypeId) (base g : Nat) (hg : w.heap.size = g) (hbase : base ≤ g) (a : Int) (ha : 0 ≤ a ∧ a < 256) :
    (w.alloc (.cells #[.int .u8 a] e)).ownsRow base e 1 (.slice (some ⟨g, 0, none⟩) 1 1) 1 (byteVs [bv a]) := by
  subst hg
  have := own_bytes_lit w e [a] (by simp [ha]) (by simp)
  exact ⟨this.1, .inr (by
    rcases this.2 with ⟨h, _⟩ | ⟨g, cap, cur, h1, h2, h3⟩
    · simp at h
    · exact ⟨g, cap, cur, h1, by omega, h3⟩)⟩
theorem own_bytes2 (w : World) (e : TypeId) (base g : Nat) (hg : w.heap.size = g) (hbase : base ≤ g) (a b : Int) (ha : 0 ≤ a ∧ a < 256) (hb : 0 ≤ b ∧ b < 256) :
    (w.alloc (.cells #[.int .u8 a, .int .u8 b] e)).ownsRow base e 1 (.slice (some ⟨g, 0, none⟩) 2 2) 2 (byteVs [bv a, bv b]) := by
  subst hg
  have := own_bytes_lit w e [a, b] (by simp [ha, hb]) (by simp)
  exact ⟨this.1, .inr (by
    rcases this.2 with ⟨h, _⟩ | ⟨g, cap, cur, h1, h2, h3⟩
    · simp at h
    · exact ⟨g, cap, cur, h1, by omega, h3⟩)⟩
theorem own_bytes3 (w : World) (e : TypeId) (base g : Nat) (hg : w.heap.size = g) (hbase : base ≤ g) (a b c : Int) (ha : 0 ≤ a ∧ a < 256) (hb : 0 ≤ b ∧ b < 256) (hc : 0 ≤ c ∧ c < 256) :
    (w.alloc (.cells #[.int .u8 a, .int .u8 b, .int .u8 c] e)).ownsRow base e 1 (.slice (some ⟨g, 0, none⟩) 3 3) 3 (byteVs [bv a, bv b, bv c]) := by
  subst hg
  have := own_bytes_lit w e [a, b, c] (by simp [ha, hb, hc]) (by simp)
  exact ⟨this.1, .inr (by
    rcases this.2 with ⟨h, _⟩ | ⟨g, cap, cur, h1, h2, h3⟩
    · simp at h
    · exact ⟨g, cap, cur, h1, by omega, h3⟩)⟩
theorem own_bytes4 (w : World) (e : TypeId) (base g : Nat) (hg : w.heap.size = g) (hbase : base ≤ g) (a b c d : Int) (ha : 0 ≤ a ∧ a < 256) (hb : 0 ≤ b ∧ b < 256) (hc : 0 ≤ c ∧ c < 256) (hd : 0 ≤ d ∧ d < 256) :
    (w.alloc (.cells #[.int .u8 a, .int .u8 b, .int .u8 c, .int .u8 d] e)).ownsRow base e 1 (.slice (some ⟨g, 0, none⟩) 4 4) 4 (byteVs [bv a, bv b, bv c, bv d]) := by
  subst hg
  have := own_bytes_lit w e [a, b, c, d] (by simp [ha, hb, hc, hd]) (by simp)
  exact ⟨this.1, .inr (by
    rcases this.2 with ⟨h, _⟩ | ⟨g, cap, cur, h1, h2, h3⟩
    · simp at h
    · exact ⟨g, cap, cur, h1, by omega, h3⟩)⟩
end Go.Proofs.YtlcfakmbcfdgbaaGreat
namespace Go.Proofs.YtlcfakmbcfdgbaaGreat
open Go.RowKit

theorem info_int : (Tryz.prog.info? 3).map (fun i => (i.zero, i.size, i.bytes)) = some (some (.int .i64 0), 1, 8) := by kernel_rfl

theorem valid_at (s : ByteArray) (k : Nat) (h : k < s.size) :
    Utf.valid (s.data.toList.drop k) = if (Utf.piece (s.data.toList.drop k)).1 < 0 then false else Utf.valid (s.data.toList.drop (k + (Utf.piece (s.data.toList.drop k)).2.toNat)) := by
  rw [drop_at s k h, Utf.valid_cons, ← drop_at s k h, List.drop_drop]
theorem piece_at (s : ByteArray) (k : Nat) (h : k < s.size) : 1 ≤ (Utf.piece (s.data.toList.drop k)).2 ∧ (Utf.piece (s.data.toList.drop k)).2 ≤ 4 ∧ (Utf.piece (s.data.toList.drop k)).2 ≤ ((s.size - k : Nat) : Int) := by
  have := Utf.piece_len s[k] (s.data.toList.drop (k + 1))
  rw [← drop_at s k h] at this
  simpa using this

set_option maxHeartbeats 1000000 in
theorem scalars_any (s : ByteArray) (w : World) (hs : s.size ≤ 1000000000) :
    Calls Tryz.prog 70 #[.string s] w fun e w' => ∃ v, e = .returned (.tuple #[v, .bool (Utf.valid s.data.toList)]) ∧ Below w.heap.size w w' := by
  obtain ⟨res, hres⟩ : ∃ res, Utf.valid s.data.toList = res := ⟨_, rfl⟩
  rw [hres]
  have Hres := hide hres
  clear hres
  go_enter Tryz.func70, Tryz.ntmps70
  go_wp2
  go_loopg [4, 5] s.size (fun g vo va wr => ∃ (k n : Nat) (xs : List Value), g = s.size - k ∧ k ≤ s.size ∧ n ≤ k ∧ va = .int .i64 k ∧ Utf.valid (s.data.toList.drop k) = res ∧ wr.ownsRow w.heap.size 3 1 vo n xs ∧ Below w.heap.size w wr)
  case atStart => exact ⟨0, 0, [], rfl, by omega, by omega, rfl, by rw [← Hres.out]; rfl, World.ownsRow_nil _ _ _ _, Below.refl _ _⟩
  case round =>
    obtain ⟨k, n, xs, hg, hk, hn, rfl, hv, hown, hb⟩ := hrel
    have Hv := hide hv
    have Hg := hide hg
    clear hv hg
    by_cases hlt : k < s.size
    · have hp := piece_at s k hlt
      have hval := valid_at s k hlt
      have HN := hide (next_any s k wr (by omega) (by omega) hs)
      rw [Int.toNat_natCast] at HN
      obtain ⟨f, hf⟩ : ∃ f, Utf.piece (s.data.toList.drop k) = f := ⟨_, rfl⟩
      rw [hf] at hp hval HN
      have Hval := hide hval
      clear hf hval
      by_cases hneg : f.1 < 0
      · have e1 : Hid (nextT f = .tuple #[.int .i64 0, .int .i64 0, .bool false]) := by show nextT f = _; unfold nextT; rw [if_pos hneg]
        go_wp2_with (go_at_call 71; refine HN.out.mono ?_; rintro e w' ⟨rfl, rfl⟩; rw [e1.out])
        go_ret2
        exact ⟨_, ret_eq2 rfl (bool_eq (by rw [← Hv.out, Hval.out, if_pos hneg])), hb⟩
      · have e1 : Hid (nextT f = .tuple #[.int .i64 f.1, .int .i64 f.2, .bool true]) := by show nextT f = _; unfold nextT; rw [if_neg hneg]
        go_wp2_with fail
        refine HN.out.mono ?_; rintro e w' ⟨rfl, rfl⟩; rw [e1.out]
        go_wp2_with (first
          | (at_builtin; go_loud (refine wpList_append_elem wr rfl (.tmp 22) (.tmp 24) 93 rfl w.heap.size (.int .i64 0) 1 8 Tryz.underlying93 info_int rfl (by omega) u4 n xs rfl hown rfl (by simp [Value.oneCell']) rfl (by unfold maxLen; omega) (by omega) hb.size ?_); intro g' cap' w1 hown1 hgrow1 hat1 hlt1 hb1))
        go_roundg (s.size - (k + f.2.toNat))
        case measure => have := Hg.out; omega
        case rel =>
          exact ⟨k + f.2.toNat, n + 1, _, rfl, by omega, by omega, int_eq (by omega), by rw [← Hv.out, Hval.out, if_neg (by omega)], hown1, hb.grown hgrow1 hb.size (fun j hj => (own_isT hown j hj).1)⟩
    · go_wp2
      go_ret2
      exact ⟨_, ret_eq2 rfl (bool_eq (by rw [← Hv.out, List.drop_of_length_le (by simp; omega)]; rfl)), hb⟩

set_option maxHeartbeats 400000 in
theorem refValid_any (s : ByteArray) (w : World) (hs : s.size ≤ 1000000000) :
    Calls Tryz.prog 54 #[.string s] w fun e w' => e = .returned (.bool (Utf.valid s.data.toList)) ∧ Below w.heap.size w w' := by
  go_enter Tryz.func54, Tryz.ntmps54
  go_wp2_with (go_at_call 70; refine (scalars_any s w hs).mono ?_; rintro e w' ⟨v, rfl, hb⟩)
  go_ret
  exact ⟨rfl, hb⟩
end Go.Proofs.YtlcfakmbcfdgbaaGreat
namespace Go.Proofs.YtlcfakmbcfdgbaaGreat
open Go.RowKit

/-- Nothing that was there has turned, but block R. -/
structure But (R : Nat) (w w' : World) : Prop where
  os : w'.os = w.os
  tape : w'.tape = w.tape
  output : w'.output = w.output
  size : w.heap.size ≤ w'.heap.size
  block : ∀ k, k < w.heap.size → k ≠ R → w'.heap[k]? = w.heap[k]?
section
variable {R : Nat} {w w1 w' : World}
theorem But.refl (R : Nat) (w : World) : But R w w := ⟨rfl, rfl, rfl, Nat.le_refl _, fun _ _ _ => rfl⟩
theorem But.trans (h : But R w w1) (k : But R w1 w') : But R w w' :=
  ⟨k.os.trans h.os, k.tape.trans h.tape, k.output.trans h.output, Nat.le_trans h.size k.size, fun i hi hb => (k.block i (Nat.lt_of_lt_of_le hi h.size) hb).trans (h.block i hi hb)⟩
theorem But.below {B : Nat} (h : But R w w') (hb : B ≤ R) (hs : B ≤ w.heap.size) : Below B w w' := ⟨h.os, h.tape, h.output, h.size, fun k hk => h.block k (by omega) (by omega)⟩
theorem But.of_below (h : Below w.heap.size w w') : But R w w' := ⟨h.os, h.tape, h.output, h.size, fun k hk _ => h.block k hk⟩
theorem But.blk {g t' : Nat} {cs : Array Value} (h : But R w w') (hg : Blk w g t' cs) (hb : g ≠ R) : Blk w' g t' cs := (h.block g hg.lt hb).trans hg
theorem But.alloc (h : But R w w1) (o : Obj) : But R w (w1.alloc o) := h.trans ⟨rfl, rfl, rfl, by simp, fun k hk _ => Below.heap_alloc _ _ _ hk⟩
theorem But.drew (h : But R w w1) : But R w w1.drew := ⟨h.os, h.tape, h.output, h.size, h.block⟩
theorem But.setCell (h : But R w w1) {p : Addr} (hp : p.block = R ∨ w.heap.size ≤ p.block) (u : Value) : But R w (w1.setCell p u) := by
  refine ⟨h.os, h.tape, h.output, by simpa [World.setCell] using h.size, fun k hk hb => ?_⟩
  rw [Below.heap_setCell _ _ _ _ (by omega)]
  exact h.block k hk hb
theorem But.go (h : But R w w1) (hb : Below w1.heap.size w1 w') : But R w w' := h.trans (But.of_below hb)
end
theorem below_alloc (w : World) (o : Obj) : Below w.heap.size w (w.alloc o) := (Below.refl _ _).alloc (Nat.le_refl _) o
theorem Blk.go {w w' : World} {g t : Nat} {cs : Array Value} (h : Blk w g t cs) (hb : Below w.heap.size w w') : Blk w' g t cs := h.below hb h.lt

/-- Bytes as a string. -/
def bstr (l : List UInt8) : ByteArray := ⟨l.toArray⟩
theorem bstr_list (l : List UInt8) : (bstr l).data.toList = l := rfl
theorem bstr_of (b : ByteArray) : bstr b.data.toList = b := rfl
theorem bstr_size (l : List UInt8) : (bstr l).size = l.length := List.size_toArray ..
theorem size_list (s : ByteArray) : s.data.toList.length = s.size := Array.length_toList
theorem extract_bstr (s : ByteArray) (a b : Nat) : s.extract a b = bstr ((s.data.toList.drop a).take (b - a)) := by
  apply ByteArray.ext
  apply Array.ext'
  rw [ByteArray.data_extract, Array.toList_extract]
  rfl
theorem str_inj {a b : List UInt8} (h : bstr a = bstr b) : a = b := congrArg (fun x : ByteArray => x.data.toList) h
end Go.Proofs.YtlcfakmbcfdgbaaGreat
