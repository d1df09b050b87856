/- Whether two records are the same. (Printed by wip/genRecC.py.) · The walks over the UTF-8 layer: the program's 'follow', 'piece' and the document's 'lead', 'part'. · The walks over the UTF-8 layer: what stands at a byte. · The program's 'Is', 'Len', 'Put'. · The program's iterator over a text's pieces; 'Loose', 'Valid'. -/
import Derived.Test.YtlkkmgimjjnhjaaMA00
import Derived.Test.YtlkkmgimjjnhjaaMA01
import Derived.Test.YtlkkmgimjjnhjaaProg
import Derived.WalkKit
import Derived.WalkSpells
import Derived.WalkLawsBesides
import Derived.Deep.LoopGhost
import Derived.LoopN
import Derived.RangeFuncNested
import Derived.RangeFuncBound
import Derived.RangeFuncCalls
import Derived.RangeFuncLeaves
import Derived.RangeFuncBox
import Derived.Lib.AppendStr
import Derived.Shelf.Abstract
import Derived.Shelf.RegionOpen
import Derived.OwnWalkIn
import Derived.TacticsInMore
import Derived.LoopNIn
import Derived.LoopIn
set_option linter.unusedSimpArgs false
set_option linter.unusedVariables false
namespace Go.Proofs.Ytlkkmgimjjnhjaa
open Go.RowKit Rec

/-- A record as a value: the two rows are where A and A' say. -/
def rcdCells (r : Rcd) (A : Option Addr) (c : Nat) (A' : Option Addr) (c' : Nat) : Array Value :=
  #[.int .i8 r.kind, .int .i64 r.gen, .string r.url, .string r.id, .bool r.read, .slice A r.entries.length c, .string r.surl, .slice A' r.kept.length c']

theorem i_beq (a b : Int) : (a == b) = decide (a = b) := by rw [Bool.eq_iff_iff]; simp
theorem b_beq (a b : Bool) : (a == b) = decide (a = b) := by rw [Bool.eq_iff_iff]; simp

theorem rcd_eq (r r' : Rcd) : decide (r = r') = (decide (r.kind = r'.kind) && (decide (r.gen = r'.gen) && (decide (r.url = r'.url) && (decide (r.id = r'.id) && (decide (r.read = r'.read) && (decide (r.entries = r'.entries) && (decide (r.surl = r'.surl) && decide (r.kept = r'.kept)))))))) := by
  rw [Bool.eq_iff_iff]
  cases r; cases r'
  simp

set_option maxHeartbeats 4000000 in
theorem same_any (r r' : Rcd) (A A' B B' : Option Addr) (c c' d d' : Nat) (w : World) (hA : Reads w w.heap.size 7 A r.entries.length (ents r.entries)) (hA' : Reads w w.heap.size 8 A' r.kept.length (kpts r.kept))
    (hB : Reads w w.heap.size 7 B r'.entries.length (ents r'.entries)) (hB' : Reads w w.heap.size 8 B' r'.kept.length (kpts r'.kept)) (h1 : r.entries.length ≤ 1000000000) (h2 : r'.entries.length ≤ 1000000000) (h3 : r.kept.length ≤ 1000000000) (h4 : r'.kept.length ≤ 1000000000) :
    Calls Try.prog 17 #[.agg (rcdCells r A c A' c'), .agg (rcdCells r' B d B' d')] w fun e w' => e = .returned (.bool (decide (r = r'))) ∧ Below w.heap.size w w' := by
  have e1 := i_beq r.kind r'.kind
  have e2 := i_beq r.gen r'.gen
  have e3 := str_beq r.url r'.url
  have e4 := str_beq r.id r'.id
  have e5 := b_beq r.read r'.read
  have HE := hide (fun (W : World) (hb : Below w.heap.size w W) => equal_ents A B c d W.heap.size r.entries r'.entries W (hA.later hb) (hB.later hb) h1 h2)
  have HS := hide (fun (W : World) (hb : Below w.heap.size w W) => sameSub_any r.surl r'.surl A' B' c' d' r.kept r'.kept W (hA'.later hb) (hB'.later hb) h3 h4)
  rw [rcd_eq]
  clear hA hA' hB hB' h1 h2 h3 h4
  unfold rcdCells
  obtain ⟨k, g, u, i, b, l, s, l'⟩ := r
  obtain ⟨k', g', u', i', b', m, s', m'⟩ := r'
  dsimp only at *
  rcases Bool.eq_false_or_eq_true (decide (k = k')) with h | h
  · rw [h] at e1 ⊢
    clear h
    rcases Bool.eq_false_or_eq_true (decide (g = g')) with h | h
    · rw [h] at e2 ⊢
      clear h
      rcases Bool.eq_false_or_eq_true (decide (u = u')) with h | h
      · rw [h] at e3 ⊢
        clear h
        rcases Bool.eq_false_or_eq_true (decide (i = i')) with h | h
        · rw [h] at e4 ⊢
          clear h
          rcases Bool.eq_false_or_eq_true (decide (b = b')) with h | h
          · rw [h] at e5 ⊢
            clear h
            rcases Bool.eq_false_or_eq_true (decide (l = m)) with h | h
            · rw [h] at HE ⊢
              clear h
              go_enter Try.func17, Try.ntmps17
              go_wp2_with first | (go_at_call 35; refine (HE.out _ (below2 _ _ _)).mono ?_; rintro e w' ⟨rfl, m, rfl⟩) | (go_at_call 19; refine (HS.out _ (below_drewN (below2 _ _ _) _)).mono ?_; rintro e w' ⟨rfl, hb⟩)
              go_ret
              exact ⟨ret_eq1 (bool_eq (by simp)), (below_drewN (below2 _ _ _) _).trans (hb.mono (below_drewN (below2 _ _ _) _).size)⟩
            · rw [h] at HE ⊢
              clear h
              go_enter Try.func17, Try.ntmps17
              go_wp2_with (go_at_call 35; refine (HE.out _ (below2 _ _ _)).mono ?_; rintro e w' ⟨rfl, m, rfl⟩)
              go_ret
              exact ⟨ret_eq1 (bool_eq (by simp)), below_drewN (below2 _ _ _) _⟩
          · rw [h] at e5 ⊢
            clear h
            go_enter Try.func17, Try.ntmps17
            go_wp2
            go_ret
            exact ⟨ret_eq1 (bool_eq (by simp)), below2 _ _ _⟩
        · rw [h] at e4 ⊢
          clear h
          go_enter Try.func17, Try.ntmps17
          go_wp2
          go_ret
          exact ⟨ret_eq1 (bool_eq (by simp)), below2 _ _ _⟩
      · rw [h] at e3 ⊢
        clear h
        go_enter Try.func17, Try.ntmps17
        go_wp2
        go_ret
        exact ⟨ret_eq1 (bool_eq (by simp)), below2 _ _ _⟩
    · rw [h] at e2 ⊢
      clear h
      go_enter Try.func17, Try.ntmps17
      go_wp2
      go_ret
      exact ⟨ret_eq1 (bool_eq (by simp)), below2 _ _ _⟩
  · rw [h] at e1 ⊢
    clear h
    go_enter Try.func17, Try.ntmps17
    go_wp2
    go_ret
    exact ⟨ret_eq1 (bool_eq (by simp)), below2 _ _ _⟩

set_option maxHeartbeats 4000000 in
theorem refSame_any (r r' : Rcd) (A A' B B' : Option Addr) (c c' d d' : Nat) (w : World) (hA : Reads w w.heap.size 7 A r.entries.length (ents r.entries)) (hA' : Reads w w.heap.size 8 A' r.kept.length (kpts r.kept))
    (hB : Reads w w.heap.size 7 B r'.entries.length (ents r'.entries)) (hB' : Reads w w.heap.size 8 B' r'.kept.length (kpts r'.kept)) (h1 : r.entries.length ≤ 1000000000) (h2 : r'.entries.length ≤ 1000000000) (h3 : r.kept.length ≤ 1000000000) (h4 : r'.kept.length ≤ 1000000000) :
    Calls Try.prog 18 #[.agg (rcdCells r A c A' c'), .agg (rcdCells r' B d B' d')] w fun e w' => e = .returned (.bool (decide (r = r'))) ∧ Below w.heap.size w w' := by
  have e1 := i_beq r.kind r'.kind
  have e2 := i_beq r.gen r'.gen
  have e3 := str_beq r.url r'.url
  have e4 := str_beq r.id r'.id
  have e5 := b_beq r.read r'.read
  have HE := hide (fun (W : World) (hb : Below w.heap.size w W) => same_ents A B c d W.heap.size r.entries r'.entries W (hA.later hb) (hB.later hb) h1 h2)
  have HS := hide (fun (W : World) (hb : Below w.heap.size w W) => refSameSub_any r.surl r'.surl A' B' c' d' r.kept r'.kept W (hA'.later hb) (hB'.later hb) h3 h4)
  rw [rcd_eq]
  clear hA hA' hB hB' h1 h2 h3 h4
  unfold rcdCells
  obtain ⟨k, g, u, i, b, l, s, l'⟩ := r
  obtain ⟨k', g', u', i', b', m, s', m'⟩ := r'
  dsimp only at *
  rcases Bool.eq_false_or_eq_true (decide (k = k')) with h | h
  · rw [h] at e1 ⊢
    clear h
    rcases Bool.eq_false_or_eq_true (decide (g = g')) with h | h
    · rw [h] at e2 ⊢
      clear h
      rcases Bool.eq_false_or_eq_true (decide (u = u')) with h | h
      · rw [h] at e3 ⊢
        clear h
        rcases Bool.eq_false_or_eq_true (decide (i = i')) with h | h
        · rw [h] at e4 ⊢
          clear h
          rcases Bool.eq_false_or_eq_true (decide (b = b')) with h | h
          · rw [h] at e5 ⊢
            clear h
            rcases Bool.eq_false_or_eq_true (decide (l = m)) with h | h
            · rw [h] at HE ⊢
              clear h
              go_enter Try.func18, Try.ntmps18
              go_wp2_with first | (go_at_call 36; refine (HE.out _ (below2 _ _ _)).mono ?_; rintro e w' ⟨rfl, m, rfl⟩) | (go_at_call 20; refine (HS.out _ (below_drewN (below2 _ _ _) _)).mono ?_; rintro e w' ⟨rfl, hb⟩)
              go_ret
              exact ⟨ret_eq1 (bool_eq (by simp)), (below_drewN (below2 _ _ _) _).trans (hb.mono (below_drewN (below2 _ _ _) _).size)⟩
            · rw [h] at HE ⊢
              clear h
              go_enter Try.func18, Try.ntmps18
              go_wp2_with (go_at_call 36; refine (HE.out _ (below2 _ _ _)).mono ?_; rintro e w' ⟨rfl, m, rfl⟩)
              go_ret
              exact ⟨ret_eq1 (bool_eq (by simp)), below_drewN (below2 _ _ _) _⟩
          · rw [h] at e5 ⊢
            clear h
            go_enter Try.func18, Try.ntmps18
            go_wp2
            go_ret
            exact ⟨ret_eq1 (bool_eq (by simp)), below2 _ _ _⟩
        · rw [h] at e4 ⊢
          clear h
          go_enter Try.func18, Try.ntmps18
          go_wp2
          go_ret
          exact ⟨ret_eq1 (bool_eq (by simp)), below2 _ _ _⟩
      · rw [h] at e3 ⊢
        clear h
        go_enter Try.func18, Try.ntmps18
        go_wp2
        go_ret
        exact ⟨ret_eq1 (bool_eq (by simp)), below2 _ _ _⟩
    · rw [h] at e2 ⊢
      clear h
      go_enter Try.func18, Try.ntmps18
      go_wp2
      go_ret
      exact ⟨ret_eq1 (bool_eq (by simp)), below2 _ _ _⟩
  · rw [h] at e1 ⊢
    clear h
    go_enter Try.func18, Try.ntmps18
    go_wp2
    go_ret
    exact ⟨ret_eq1 (bool_eq (by simp)), below2 _ _ _⟩
end Go.Proofs.Ytlkkmgimjjnhjaa
namespace Go.Proofs.Ytlkkmgimjjnhjaa
open Go.RowKit

theorem results_tmp4 {fn : Func} {t u v x : Tmp} (h : fn.results = #[.tmp t, .tmp u, .tmp v, .tmp x]) (tmps : Array Value) (P : Program) (w : World) :
    (results fn tmps).run P w = .ok (.tuple #[tmps.getD t undef, tmps.getD u undef, tmps.getD v undef, tmps.getD x undef]) w := by simp [results, h]

/-- The results of 'follow', as Go hands them back. -/
def followV (f : Int × Int × Int × Int) : Value := .tuple #[.int .i64 f.1, .int .i64 f.2.1, .int .u8 f.2.2.1, .int .u8 f.2.2.2]

theorem followV_eq {c a b d e : Int} (h : (a, b, d, e) = Utf.follow c) : Ending.returned (.tuple #[.int .i64 a, .int .i64 b, .int .u8 d, .int .u8 e]) = .returned (followV (Utf.follow c)) := by
  rw [← h]; rfl

set_option maxHeartbeats 400000 in
theorem follow_any (c : Int) (w : World) (h0 : 0 ≤ c) (h1 : c ≤ 255) :
    Calls Try.prog 81 #[.int .u8 c] w fun e w' => e = .returned (followV (Utf.follow c)) ∧ w = w' := by
  have b1 : bits .and .i64 c 31 = c % 32 := i64_mask c 5 h0 (by omega) (by omega) _ rfl
  have b2 : bits .and .i64 c 15 = c % 16 := i64_mask c 4 h0 (by omega) (by omega) _ rfl
  have b3 : bits .and .i64 c 7 = c % 8 := i64_mask c 3 h0 (by omega) (by omega) _ rfl
  go_enter Try.func81, Try.ntmps81
  go_wp2
  all_goals
    refine bodyPost_ret (results_tmp4 rfl _ _ _) rfl ?_
    refine ⟨followV_eq ?_, rfl⟩
    try simp only [beq_iff_eq, beq_eq_false_iff_ne] at *
    unfold Utf.follow
    repeat (first | rw [if_pos (by omega)] | rw [if_neg (by omega)])

/-- The results of 'lead': as 'follow', but what no byte that begins has. -/
def leadV (f : Int × Int × Int × Int) : Int × Int × Int := if f.1 < 0 then (-1, 0, 0) else if f.1 = 0 then (0, 0, 0) else (f.1, f.2.2.1, f.2.2.2)
def leadT (f : Int × Int × Int) : Value := .tuple #[.int .i64 f.1, .int .u8 f.2.1, .int .u8 f.2.2]
theorem leadV_eq {c a b d : Int} (h : (a, b, d) = leadV (Utf.follow c)) : Ending.returned (.tuple #[.int .i64 a, .int .u8 b, .int .u8 d]) = .returned (leadT (leadV (Utf.follow c))) := by
  rw [← h]; rfl

set_option maxHeartbeats 400000 in
theorem lead_any (c : Int) (w : World) (h0 : 0 ≤ c) (h1 : c ≤ 255) :
    Calls Try.prog 83 #[.int .u8 c] w fun e w' => e = .returned (leadT (leadV (Utf.follow c))) ∧ w = w' := by
  go_enter Try.func83, Try.ntmps83
  go_wp2
  all_goals
    go_ret3
    refine ⟨leadV_eq ?_, rfl⟩
    try simp only [beq_iff_eq, beq_eq_false_iff_ne] at *
    obtain ⟨q, hq⟩ : ∃ q, q = Utf.follow c := ⟨_, rfl⟩
    rw [← hq]
    unfold Utf.follow at hq
    repeat (first | rw [if_pos (by omega)] at hq | rw [if_neg (by omega)] at hq)
    subst hq
    first | rfl | (unfold leadV; simp)
end Go.Proofs.Ytlkkmgimjjnhjaa
namespace Go.Proofs.Ytlkkmgimjjnhjaa
open Go.RowKit

def pieceV (f : Int × Int) : Value := .tuple #[.int .i64 f.1, .int .i64 f.2]
theorem pieceV_eq {a b : Int} {f : Int × Int} (h : (a, b) = f) : Ending.returned (.tuple #[.int .i64 a, .int .i64 b]) = .returned (pieceV f) := by
  rw [← h]; rfl

theorem drop_at (s : ByteArray) (k : Nat) (h : k < s.size) : s.data.toList.drop k = s[k] :: s.data.toList.drop (k + 1) := by
  rw [List.drop_eq_getElem_cons (by simpa using h)]; rfl

/-- One step of 'cont' at a byte of the text. -/
theorem cont_end {s : ByteArray} {a j k : Nat} {r n lo hi : Int} (h : s.size ≤ a + j) : Utf.cont (s.data.toList.drop (a + j)) (k + 1) r n lo hi = (-1, n) := by
  rw [List.drop_of_length_le (by simpa using h)]; rfl
theorem cont_wrong {s : ByteArray} {a j k : Nat} {r n lo hi : Int} (h : a + j < s.size) (hc : (s[a + j].toNat : Int) < lo ∨ hi < (s[a + j].toNat : Int)) : Utf.cont (s.data.toList.drop (a + j)) (k + 1) r n lo hi = (-1, n) := by
  rw [drop_at s _ h]; simp only [Utf.cont]; rw [if_pos hc]
theorem cont_step {s : ByteArray} {a j k : Nat} {r n lo hi : Int} (h : a + j < s.size) (h1 : lo ≤ (s[a + j].toNat : Int)) (h2 : (s[a + j].toNat : Int) ≤ hi) :
    Utf.cont (s.data.toList.drop (a + j)) (k + 1) r n lo hi = Utf.cont (s.data.toList.drop (a + j + 1)) k (r * 64 + (s[a + j].toNat : Int) % 64) (n + 1) 128 191 := by
  rw [drop_at s _ h]; simp only [Utf.cont]; rw [if_neg (by omega)]

set_option maxHeartbeats 1000000 in
theorem piece_any (s : ByteArray) (at_ : Int) (w : World) (h0 : 0 ≤ at_) (h1 : at_ < s.size) (hs : s.size ≤ 1000000000) :
    Calls Try.prog 78 #[.string s, .int .i64 at_] w fun e w' => e = .returned (pieceV (Utf.piece (s.data.toList.drop at_.toNat))) ∧ w = w' := by
  obtain ⟨a, rfl⟩ := Int.eq_ofNat_of_zero_le h0
  rw [Int.toNat_natCast]
  have ha : a < s.size := by omega
  rw [drop_at s a ha, Utf.piece_cons]
  obtain ⟨c, hc⟩ : ∃ c : Int, ((s[a].toNat : Nat) : Int) = c := ⟨_, rfl⟩
  have hc0 : 0 ≤ c := by omega
  have hc1 : c ≤ 255 := by have := Utf.byte_lt s[a]; omega
  rw [hc]
  have hf := Utf.follow_cases c (by omega) (by omega)
  have Hc := hide hc
  clear hc
  obtain ⟨m, r, lo, hi, hq⟩ : ∃ m r lo hi, Utf.follow c = (m, r, lo, hi) := ⟨_, _, _, _, rfl⟩
  rw [hq] at hf ⊢
  dsimp only at hf ⊢
  have hm0 : -1 ≤ m := by omega
  have hm3 : m ≤ 3 := by omega
  have hr0 : 0 ≤ r := by omega
  have hr1 : r ≤ 127 := by omega
  have Hq := hide hq
  clear hf hq
  obtain ⟨res, hres⟩ : ∃ res, (if m < 0 then (-1, 1) else Utf.cont (s.data.toList.drop (a + 1)) m.toNat r 1 lo hi) = res := ⟨_, rfl⟩
  rw [hres]
  have Hres := hide hres
  clear hres
  go_enter Try.func78, Try.ntmps78
  go_wp2
  go_step3
  go_wp2_with (go_at_call 81; rw [Hc.out]; refine (follow_any _ _ hc0 hc1).mono ?_; rintro e w' ⟨rfl, rfl⟩; rw [Hq.out]; unfold followV; dsimp only)
  · rw [Exit.noGoto_ret]
    go_ret2
    exact ⟨pieceV_eq (by rw [← Hres.out, if_pos (by assumption)]), rfl⟩
  · have hm : 0 ≤ m := by assumption
    obtain ⟨k, rfl⟩ := Int.eq_ofNat_of_zero_le hm
    go_step3
    go_wp2
    go_loopg [4, 5, 7, 8] (k + 1) (fun g vr vn vlo vhi wr => ∃ (j : Nat) (r' lo' hi' : Int), g = k + 1 - j ∧ j ≤ k ∧ vr = .int .i64 r' ∧ vn = .int .i64 ((j : Int) + 1) ∧ vlo = .int .u8 lo' ∧ vhi = .int .u8 hi' ∧
      Utf.cont (s.data.toList.drop (a + (j + 1))) (k - j) r' ((j : Int) + 1) lo' hi' = res ∧ 0 ≤ r' ∧ (r' ≤ 127 ∧ j = 0 ∨ r' ≤ 8191 ∧ j = 1 ∨ r' ≤ 524287 ∧ j = 2 ∨ r' ≤ 33554431 ∧ j = 3) ∧ wr = w)
    case atStart => exact ⟨0, r, lo, hi, rfl, by omega, rfl, rfl, rfl, rfl, by rw [← Hres.out, if_neg (by omega)]; rfl, hr0, .inl ⟨hr1, rfl⟩, rfl⟩
    case round =>
      obtain ⟨j, r', lo', hi', hg, hj, rfl, rfl, rfl, rfl, hcont, hr0', hr1', rfl⟩ := hrel
      have Hcont := hide hcont
      have Hr := hide hr1'
      have Hg := hide hg
      have hr2 : r' ≤ 33554431 := by omega
      clear hcont hr1' hg hr1
      by_cases hlt : j < k
      · have hr3 : r' ≤ 524287 := by have := Hr.out; omega
        by_cases hend : s.size ≤ a + (j + 1)
        · go_wp2
          rw [Exit.noGoto_ret]
          go_ret2
          exact ⟨pieceV_eq (by rw [← Hcont.out, show k - j = (k - j - 1) + 1 from by omega, cont_end hend]), rfl⟩
        · have hlt2 : a + (j + 1) < s.size := by omega
          go_wp2
          · rw [Exit.noGoto_ret]
            go_ret2
            exact ⟨pieceV_eq (by rw [← Hcont.out, show k - j = (k - j - 1) + 1 from by omega, cont_wrong hlt2 (by assumption)]), rfl⟩
          · have hin : lo' ≤ ↑s[a + (j + 1)].toNat ∧ ↑s[a + (j + 1)].toNat ≤ hi' := by assumption
            have hb := Utf.byte_lt s[a + (j + 1)]
            go_roundg (k + 1 - (j + 1))
            case measure => have := Hg.out; omega
            case rel =>
              refine ⟨j + 1, r' * 64 + (s[a + (j + 1)].toNat : Int) % 64, 128, 191, rfl, by omega, ?_, by go_num, rfl, rfl, ?_, by omega, by have := Hr.out; omega, rfl⟩
              · rw [u8_and63 _ (by omega) hb, IntWalk.wrap64_in _ (by omega), i64_or64 r' _ hr0' (by omega) (by omega) (by omega)]
              · rw [← Hcont.out, show k - j = (k - (j + 1)) + 1 from by omega, cont_step hlt2 hin.1 hin.2]
                simp
                rfl
          · go_ret2
            exact ⟨pieceV_eq (by rw [← Hcont.out, show k - j = (k - j - 1) + 1 from by omega, cont_wrong hlt2 (.inl (by assumption))]), rfl⟩
      · go_wp2
        rw [Exit.noGoto_ret]
        go_ret2
        exact ⟨pieceV_eq (by rw [← Hcont.out, show k - j = 0 from by omega]; unfold Utf.cont; rfl), rfl⟩
end Go.Proofs.Ytlkkmgimjjnhjaa
namespace Go.Proofs.Ytlkkmgimjjnhjaa
open Go.RowKit

set_option maxHeartbeats 400000 in
theorem is_any (r : Int) (w : World) : Calls Try.prog 82 #[.int .i64 r] w fun e w' => e = .returned (.bool (Utf.isScalar r)) ∧ w = w' := by
  by_cases h0 : 0 ≤ r
  · by_cases h1 : r ≤ 1114111
    · by_cases h2 : r < 55296
      all_goals
        go_enter Try.func82, Try.ntmps82
        go_wp2
        go_ret
        exact ⟨ret_eq1 (bool_eq (by rw [Bool.eq_iff_iff]; simp [Utf.isScalar]; omega)), rfl⟩
    · go_enter Try.func82, Try.ntmps82
      go_wp2
      go_ret
      exact ⟨ret_eq1 (bool_eq (by rw [Bool.eq_iff_iff]; simp [Utf.isScalar]; omega)), rfl⟩
  · go_enter Try.func82, Try.ntmps82
    go_wp2
    go_ret
    exact ⟨ret_eq1 (bool_eq (by rw [Bool.eq_iff_iff]; simp [Utf.isScalar]; omega)), rfl⟩

def lenOf (r : Int) : Int := if r < 128 then 1 else if r < 2048 then 2 else if r < 65536 then 3 else 4

set_option maxHeartbeats 400000 in
theorem len_no (r : Int) (w : World) (h : Utf.isScalar r = false) : Calls Try.prog 79 #[.int .i64 r] w fun e w' => e = .returned (.int .i64 0) ∧ w = w' := by
  have H := hide h
  clear h
  go_enter Try.func79, Try.ntmps79
  go_wp2_with (go_at_call 82; refine (is_any _ _).mono ?_; rintro e w' ⟨rfl, rfl⟩; rw [H.out])
  go_ret
  exact ⟨rfl, rfl⟩

set_option maxHeartbeats 1000000 in
theorem len_yes (r : Int) (w : World) (h : Utf.isScalar r = true) : Calls Try.prog 79 #[.int .i64 r] w fun e w' => e = .returned (.int .i64 (lenOf r)) ∧ Below w.heap.size w w' := by
  have h1 : 0 ≤ r ∧ r ≤ 1114111 := by simp [Utf.isScalar] at h; omega
  obtain ⟨h1, h2⟩ := h1
  have H := hide h
  clear h
  have i0 : ∀ w, (Instr.index 119 (.agg #[.int .i64 128, .int .i64 2048, .int .i64 65536, .int .i64 1114112]) (.int .i64 0)).run Try.prog w = .ok (.int .i64 128) w := fun _ => by kernel_rfl
  have i1 : ∀ w, (Instr.index 119 (.agg #[.int .i64 128, .int .i64 2048, .int .i64 65536, .int .i64 1114112]) (.int .i64 1)).run Try.prog w = .ok (.int .i64 2048) w := fun _ => by kernel_rfl
  have i2 : ∀ w, (Instr.index 119 (.agg #[.int .i64 128, .int .i64 2048, .int .i64 65536, .int .i64 1114112]) (.int .i64 2)).run Try.prog w = .ok (.int .i64 65536) w := fun _ => by kernel_rfl
  have i3 : ∀ w, (Instr.index 119 (.agg #[.int .i64 128, .int .i64 2048, .int .i64 65536, .int .i64 1114112]) (.int .i64 3)).run Try.prog w = .ok (.int .i64 1114112) w := fun _ => by kernel_rfl
  go_enter Try.func79, Try.ntmps79
  go_wp2_with (go_at_call 82; refine (is_any _ _).mono ?_; rintro e w' ⟨rfl, rfl⟩; rw [H.out])
  refine wp_loop_rounds 4 ?_
  rw [rounds_succ]
  go_wp2
  · go_ret
    exact ⟨ret_eq1 (int_eq (by unfold lenOf; rw [if_pos (by omega)])), (Below.refl _ _).alloc (Nat.le_refl _) _⟩
  rw [rounds_succ]
  go_wp2
  · go_ret
    exact ⟨ret_eq1 (int_eq (by unfold lenOf; rw [if_neg (by omega), if_pos (by omega)])), (Below.refl _ _).alloc (Nat.le_refl _) _⟩
  rw [rounds_succ]
  go_wp2
  · go_ret
    exact ⟨ret_eq1 (int_eq (by unfold lenOf; rw [if_neg (by omega), if_neg (by omega), if_pos (by omega)])), (Below.refl _ _).alloc (Nat.le_refl _) _⟩
  rw [rounds_succ]
  go_wp2
  go_ret
  exact ⟨ret_eq1 (int_eq (by unfold lenOf; rw [if_neg (by omega), if_neg (by omega), if_neg (by omega)])), (Below.refl _ _).alloc (Nat.le_refl _) _⟩

set_option maxHeartbeats 400000 in
theorem put_no (r : Int) (w : World) (h : Utf.isScalar r = false) : Calls Try.prog 75 #[.int .i64 r] w fun e w' => e = .returned (.tuple #[.string ⟨#[]⟩, .bool false]) ∧ w = w' := by
  go_enter Try.func75, Try.ntmps75
  have H := hide h
  clear h
  go_wp2_with (go_at_call 79; refine (len_no _ _ H.out).mono ?_; rintro e w' ⟨rfl, rfl⟩)
  go_ret2
  exact ⟨rfl, rfl⟩

set_option maxHeartbeats 1000000 in
theorem put_one (r : Int) (w : World) (h0 : 0 ≤ r) (h1 : r < 128) : Calls Try.prog 75 #[.int .i64 r] w fun e w' => (∃ t : ByteArray, e = .returned (.tuple #[.string t, .bool true]) ∧ StrIs t ((Utf.put r).map bv)) ∧ Below w.heap.size w w' := by
  have H : Hid (Utf.isScalar r = true) := by show Utf.isScalar r = true; simp [Utf.isScalar]; omega
  have L : Hid (lenOf r = 1) := by show lenOf r = 1; unfold lenOf; rw [if_pos h1]
  go_enter Try.func75, Try.ntmps75
  go_wp2_with (first
    | (go_at_call 79; refine (len_yes _ _ H.out).mono ?_; rintro e w1 ⟨rfl, hb⟩; rw [L.out])
    | (with_reducible show wpList _ _ _ (⟨_, .convert 54 9 _, _, _, _, _⟩ :: _) _ _; refine wpList_to_string rfl 54 9 5 _ rfl Try.underlying54 Try.underlying5 Try.underlying9 w1.heap.size _ 1 rfl [bv r] (own_byte_lit w1 _ r h0 (by omega)) ?_; intro t ht))
  go_ret2
  exact ⟨⟨t, rfl, by unfold Utf.put; rw [if_pos h1]; exact ht⟩, hb.alloc hb.size _⟩

theorem u8_or_of (x y : Int) (k : Nat) (h0 : 0 ≤ x) (hy : 0 ≤ y) (hk : y < 2 ^ k) (hx : x * 2 ^ k + y < 256) (z : Int) (hz : z = x * 2 ^ k) : bits .or .u8 z y = z + y := by
  subst hz; exact u8_or_add x y k h0 hy hk hx

set_option maxHeartbeats 2000000 in
theorem put_many (r : Int) (w : World) (h0 : 128 ≤ r) (h1 : Utf.isScalar r = true) : Calls Try.prog 75 #[.int .i64 r] w fun e w' => (∃ t : ByteArray, e = .returned (.tuple #[.string t, .bool true]) ∧ StrIs t ((Utf.put r).map bv)) ∧ Below w.heap.size w w' := by
  have h2 : r ≤ 1114111 := by simp [Utf.isScalar] at h1; omega
  have H := hide h1
  clear h1
  go_enter Try.func75, Try.ntmps75
  by_cases ha : r < 2048
  · have L : Hid (lenOf r = 2) := by show lenOf r = 2; unfold lenOf; rw [if_neg (by omega), if_pos ha]
    have hmk : ∀ w, (Instr.makeSlice 54 (.int .i64 2) (.int .i64 2)).run Try.prog w = .ok (.slice (some ⟨w.heap.size, 0, none⟩) 2 2) (w.alloc (.cells #[.int .u8 0, .int .u8 0] 5)) := fun _ => by kernel_rfl
    have hor : bits .or .u8 192 (r / 64 % 256) = 192 + r / 64 := by rw [show r / 64 % 256 = r / 64 from by omega]; exact u8_or_of 6 _ 5 (by omega) (by omega) (by omega) (by omega) _ rfl
    go_wp2_with (first
      | (go_at_call 79; refine (len_yes _ _ H.out).mono ?_; rintro e w1 ⟨rfl, hb⟩; rw [L.out]))
    refine wp_loop_rounds 2 ?_
    rw [rounds_succ]
    go_wp2
    rw [rounds_succ]
    go_wp2_with (with_reducible show wpList _ _ _ (⟨_, .convert 54 9 _, _, _, _, _⟩ :: _) _ _; refine wpList_to_string rfl 54 9 5 _ rfl Try.underlying54 Try.underlying5 Try.underlying9 (w1.heap.size + 1) _ 2 rfl _ (own_bytes2 (w1.alloc _) _ _ _ (by simp) (Nat.le_refl _) (192 + r / 64) (128 + r % 64) (by omega) (by omega)) ?_; intro t ht)
    go_ret2
    exact ⟨⟨t, rfl, by unfold Utf.put; rw [if_neg (show ¬ r < 128 by omega), if_pos (show r < 2048 by omega)]; exact ht⟩, (hb.alloc hb.size _).alloc (by have := hb.size; simp; omega) _⟩
  by_cases h65 : r < 65536
  · have L : Hid (lenOf r = 3) := by show lenOf r = 3; unfold lenOf; rw [if_neg (by omega), if_neg ha, if_pos h65]
    have hmk : ∀ w, (Instr.makeSlice 54 (.int .i64 3) (.int .i64 3)).run Try.prog w = .ok (.slice (some ⟨w.heap.size, 0, none⟩) 3 3) (w.alloc (.cells #[.int .u8 0, .int .u8 0, .int .u8 0] 5)) := fun _ => by kernel_rfl
    go_wp2_with (first
      | (go_at_call 79; refine (len_yes _ _ H.out).mono ?_; rintro e w1 ⟨rfl, hb⟩; rw [L.out]))
    refine wp_loop_rounds 3 ?_
    rw [rounds_succ]
    go_wp2
    rw [rounds_succ]
    go_wp2
    rw [rounds_succ]
    go_wp2_with (with_reducible show wpList _ _ _ (⟨_, .convert 54 9 _, _, _, _, _⟩ :: _) _ _; refine wpList_to_string rfl 54 9 5 _ rfl Try.underlying54 Try.underlying5 Try.underlying9 (w1.heap.size + 1) _ 3 rfl _ (own_bytes3 (w1.alloc _) _ _ _ (by simp) (Nat.le_refl _) (224 + r / 64 / 64) (128 + r / 64 % 64) (128 + r % 64) (by omega) (by omega) (by omega)) ?_; intro t ht)
    go_ret2
    exact ⟨⟨t, rfl, by unfold Utf.put; rw [if_neg (show ¬ r < 128 by omega), if_neg (show ¬ r < 2048 by omega), if_pos (show r < 65536 by omega)]; exact ht⟩, (hb.alloc hb.size _).alloc (by have := hb.size; simp; omega) _⟩
  · have L : Hid (lenOf r = 4) := by show lenOf r = 4; unfold lenOf; rw [if_neg (by omega), if_neg ha, if_neg h65]
    have hmk : ∀ w, (Instr.makeSlice 54 (.int .i64 4) (.int .i64 4)).run Try.prog w = .ok (.slice (some ⟨w.heap.size, 0, none⟩) 4 4) (w.alloc (.cells #[.int .u8 0, .int .u8 0, .int .u8 0, .int .u8 0] 5)) := fun _ => by kernel_rfl
    go_wp2_with (first
      | (go_at_call 79; refine (len_yes _ _ H.out).mono ?_; rintro e w1 ⟨rfl, hb⟩; rw [L.out]))
    refine wp_loop_rounds 4 ?_
    rw [rounds_succ]
    go_wp2
    rw [rounds_succ]
    go_wp2
    rw [rounds_succ]
    go_wp2
    rw [rounds_succ]
    go_wp2_with (with_reducible show wpList _ _ _ (⟨_, .convert 54 9 _, _, _, _, _⟩ :: _) _ _; refine wpList_to_string rfl 54 9 5 _ rfl Try.underlying54 Try.underlying5 Try.underlying9 (w1.heap.size + 1) _ 4 rfl _ (own_bytes4 (w1.alloc _) _ _ _ (by simp) (Nat.le_refl _) (240 + r / 64 / 64 / 64) (128 + r / 64 / 64 % 64) (128 + r / 64 % 64) (128 + r % 64) (by omega) (by omega) (by omega) (by omega)) ?_; intro t ht)
    go_ret2
    exact ⟨⟨t, rfl, by unfold Utf.put; rw [if_neg (show ¬ r < 128 by omega), if_neg (show ¬ r < 2048 by omega), if_neg (show ¬ r < 65536 by omega)]; exact ht⟩, (hb.alloc hb.size _).alloc (by have := hb.size; simp; omega) _⟩

theorem put_yes (r : Int) (w : World) (h : Utf.isScalar r = true) : Calls Try.prog 75 #[.int .i64 r] w fun e w' => (∃ t : ByteArray, e = .returned (.tuple #[.string t, .bool true]) ∧ StrIs t ((Utf.put r).map bv)) ∧ Below w.heap.size w w' := by
  have h2 : 0 ≤ r := by simp [Utf.isScalar] at h; omega
  by_cases h1 : r < 128
  · exact put_one r w h2 h1
  · exact put_many r w (by omega) h

theorem put_short (r : Int) : (Utf.put r).length ≤ 4 := by
  unfold Utf.put
  split
  · simp
  split
  · simp
  split <;> simp
end Go.Proofs.Ytlkkmgimjjnhjaa
namespace Go.Proofs.Ytlkkmgimjjnhjaa
open Go.RowKit Go.Shelf

attribute [local go_sem] Oper.semAt_some

/-- A piece: where it begins, and a scalar or a number below 0. -/
abbrev Pc := { x : Nat × Int // x.2 < 0 ∨ Utf.isScalar x.2 = true }
theorem piece_pc (s : ByteArray) (k : Nat) : (Utf.piece (s.data.toList.drop k)).1 < 0 ∨ Utf.isScalar (Utf.piece (s.data.toList.drop k)).1 = true := by
  rcases Int.lt_or_le (Utf.piece (s.data.toList.drop k)).1 0 with h | h
  · exact .inl h
  · exact .inr (Utf.piece_scalar _ h)

/-- Block B lies as it lay. -/
def SameBlk (B : Nat) (W W' : World) : Prop := W'.heap[B]? = W.heap[B]?
theorem SameBlk.trans {B : Nat} {X Y Z : World} (h : SameBlk B X Y) (k : SameBlk B Y Z) : SameBlk B X Z := Eq.trans k h
theorem SameBlk.cell {B : Nat} {W W' : World} (h : SameBlk B W W') {i : Nat} {v : Value} (hc : W.cell? ⟨B, i, none⟩ = some v) : W'.cell? ⟨B, i, none⟩ = some v :=
  (World.cell?_of_block (w := W) (w' := W') (a := ⟨B, i, none⟩) h).trans hc
theorem sameBlk_b {w : World} {B : Nat} (hB : B < w.heap.size) (W : World) (l : Nat) (o o' : Obj) (hl : w.heap.size ≤ l) (_ : W.heap[l]? = some o) (_ : o.isCells = false) (_ : o.isWalk = false) : SameBlk B W (W.putObj l o') :=
  World.putObj_heap_other (by omega)

theorem piece_at' (s : ByteArray) (k : Nat) (h : k < s.size) : 1 ≤ (Utf.piece (s.data.toList.drop k)).2 ∧ (Utf.piece (s.data.toList.drop k)).2 ≤ 4 ∧ (Utf.piece (s.data.toList.drop k)).2 ≤ ((s.size - k : Nat) : Int) := by
  have := Utf.piece_len s[k] (s.data.toList.drop (k + 1))
  rw [← drop_at s k h] at this
  simpa using this

theorem from_at (s : ByteArray) (k : Nat) (h : k < s.size) :
    Utf.from_ k (s.data.toList.drop k) = (k, (Utf.piece (s.data.toList.drop k)).1) :: Utf.from_ (k + (Utf.piece (s.data.toList.drop k)).2.toNat) (s.data.toList.drop (k + (Utf.piece (s.data.toList.drop k)).2.toNat)) := by
  rw [drop_at s k h, Utf.from_cons, ← drop_at s k h, List.drop_drop]

set_option maxRecDepth 100000 in
set_option maxHeartbeats 2000000 in
theorem pieces1_in (n : Nat) (hn : 1 ≤ n) (l Bs : Nat) (s : ByteArray) (hs : s.size ≤ 1000000000)
    (J Jx : List Pc → World → Prop)
    (hY : ∀ pre x W, J pre W → pre.length < s.size → YieldAt Fence.wide (n - 1) Try.prog l #[.int .i64 (x.1.1 : Int), .int .i64 x.1.2] W fun e W' =>
      (e = .returned (.bool true) ∧ J (pre ++ [x]) W' ∧ SameBlk Bs W W') ∨ (e = .returned (.bool false) ∧ Jx (pre ++ [x]) W'))
    (W : World) (hBs : W.cell? ⟨Bs, 0, none⟩ = some (.string s)) (h0 : J [] W) :
    CallsIn Fence.wide n Try.prog 77 #[.func (.yield l) #[] #[], .pointer (some ⟨Bs, 0, none⟩)] W fun e W' => (∃ v, e = .returned v) ∧
      ((∃ ys : List Pc, ys.map (·.1) = Utf.pieces s.data.toList ∧ J ys W') ∨ (∃ pre : List Pc, (∃ rest, pre.map (·.1) ++ rest = Utf.pieces s.data.toList) ∧ Jx pre W')) := by
  refine callsIn_of_wp Try.func77 rfl trivial ?_ rfl
  simp only [Try.ntmps77, List.size_toArray, List.length_cons, List.length_nil, Nat.reduceAdd, Nat.reduceSub, Array.replicate_succ, Array.replicate_zero, List.push_toArray, List.append_toArray, List.nil_append, List.cons_append]
  obtain ⟨all, hall⟩ : ∃ all, Utf.pieces s.data.toList = all := ⟨_, rfl⟩
  rw [hall]
  have Hall := hide hall
  clear hall
  gi_wp2
  gi_loopw [3] (fun i wr => ∃ (k : Nat) (pre : List Pc), k ≤ s.size ∧ i = .int .i64 k ∧ pre.length ≤ k ∧ pre.map (·.1) ++ Utf.from_ k (s.data.toList.drop k) = all ∧ J pre wr ∧ SameBlk Bs W wr)
    (fun i _ => s.size - (intOf i).toNat)
  case atStart => exact ⟨0, [], Nat.zero_le _, rfl, Nat.le_refl _, by rw [← Hall.out]; rfl, h0, rfl⟩
  case round =>
    obtain ⟨k, pre, hk, rfl, hpl, hpre, hJs, hnx⟩ := hrel
    have Hpre := hide hpre
    clear hpre
    have hcx : wr.cell? ⟨Bs, 0, none⟩ = some (.string s) := hnx.cell hBs
    by_cases hlt : k < s.size
    · have hfr := from_at s k hlt
      have hp := piece_at' s k hlt
      have hpc := piece_pc s k
      have HP := hide (piece_any s k wr (by omega) (by omega) hs)
      rw [Int.toNat_natCast] at HP
      obtain ⟨f, hf⟩ : ∃ f, Utf.piece (s.data.toList.drop k) = f := ⟨_, rfl⟩
      rw [hf] at hp hfr HP hpc
      have Hfr := hide hfr
      clear hf hfr
      obtain ⟨fn, tmps, assign, body, hy, hR⟩ := hY pre ⟨(k, f.1), hpc⟩ wr hJs (by omega)
      dsimp only at hy
      gi_wp2_with (refine ⟨trivial, ?_⟩; gi_at_call 78; refine (callsIn_wide.2 HP.out).mono ?_; rintro e w' ⟨rfl, rfl⟩; unfold pieceV)
      refine hR.mono ?_
      rintro e W3 (⟨rfl, hJ3, hk3⟩ | ⟨rfl, hJx3⟩)
      · gi_wp2
        go_roundw
        case rel => exact ⟨k + f.2.toNat, pre ++ [⟨(k, f.1), hpc⟩], by omega, int_eq (by omega), by simp; omega, by rw [← Hpre.out, Hfr.out]; simp, hJ3, hnx.trans hk3⟩
        case measure => simp [intOf]; omega
      · gi_wp2
        refine bodyPost_ret (results_none rfl _ _ _) rfl ?_
        exact ⟨⟨_, rfl⟩, .inr ⟨_, ⟨_, by rw [← Hpre.out, Hfr.out, List.map_append, List.append_assoc]; rfl⟩, hJx3⟩⟩
    · gi_wp2
      go_end0
      exact ⟨⟨_, rfl⟩, .inl ⟨pre, by rw [← Hpre.out, List.drop_of_length_le (by simp; omega)]; simp [Utf.from_nil], hJs⟩⟩

theorem pieces_any (s : ByteArray) (w : World) :
    Calls Try.prog 74 #[.string s] w fun e w' => e = .returned (.func (.func 77) #[] #[.pointer (some ⟨w.heap.size, 0, none⟩)]) ∧ w' = w.alloc (.cells #[.string s] 9) := by
  go_enter Try.func74, Try.ntmps74
  go_wp2
  go_ret
  exact ⟨rfl, rfl⟩

/-- 'pieces(s)' hands back a value that goes over all pieces of s, or the first ones. -/
theorem pieces_stops (n : Nat) (hn : 1 ≤ n) (Bs : Nat) (s : ByteArray) (hs : s.size ≤ 1000000000) (w : World) (hBs : Bs < w.heap.size) (hc : w.cell? ⟨Bs, 0, none⟩ = some (.string s)) :
    SeqStopsK Fence.wide n Try.prog 77 #[.pointer (some ⟨Bs, 0, none⟩)] (fun x : Pc => #[Value.int .i64 (x.1.1 : Int), Value.int .i64 x.1.2]) (SameBlk Bs) (fun ys => ys.map (·.1) = Utf.pieces s.data.toList)
      (fun pre => ∃ rest, pre.map (·.1) ++ rest = Utf.pieces s.data.toList) s.size w := fun l J Jx W hW _ _ hY h0 =>
  pieces1_in n hn l Bs s hs J Jx hY W ((hW.cell (p := ⟨Bs, 0, none⟩) hBs).trans hc) h0
end Go.Proofs.Ytlkkmgimjjnhjaa
