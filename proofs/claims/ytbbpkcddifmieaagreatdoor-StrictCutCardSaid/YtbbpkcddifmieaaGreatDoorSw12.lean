/- Tokens: strings.EqualFold with "xml". · Tokens: strings.EqualFold with "xml": the walk. · Tokens: words for what begins with <? or <!. -/
import Derived.Test.YtbbpkcddifmieaaGreatDoorSw05
import Derived.Test.YtbbpkcddifmieaaGreatDoorSw11
import Derived.ScopeJumps
import Derived.WalkMore
import Derived.Laws.RangeString
import Derived.Laws.RangeAny
set_option linter.unusedSimpArgs false
set_option linter.unusedVariables false
namespace Go.Proofs.YtbbpkcddifmieaaGreatDoor
open Go.RowKit Tk

set_option maxHeartbeats 4000000 in
theorem fold_one (p : Nat × Int) (hp : p ∈ ([(120, 88), (88, 120), (109, 77), (77, 109), (108, 76), (76, 108)] : List (Nat × Int))) (w : World) (hg : Gl w) :
  Calls Tryz.prog 134 #[.int .i32 (p.1 : Int)] w fun e w' => e = .returned (.int .i32 p.2) ∧ w' = w := by
 have hc := hg.fold p hp
 clear hg
 simp only [List.mem_cons, List.not_mem_nil, or_false] at hp
 rcases hp with rfl | rfl | rfl | rfl | rfl | rfl
 all_goals
  dsimp only at hc ⊢
  go_enter Tryz.func134, Tryz.ntmps134
  go_wp2
  go_ret
  exact ⟨rfl, rfl⟩
def sXmlName : L := [120, 109, 108]
/-- Are the bytes from k on as those of xml? -/
def foldRest (l : L) (k : Nat) : Bool := decide ((l.drop k).map lower = sXmlName.drop k)
theorem foldRest_next {l : L} {k : Nat} {c t : UInt8} (hc : l[k]? = some c) (ht : sXmlName[k]? = some t) : foldRest l k = (decide (lower c = t) && foldRest l (k + 1)) := by
 obtain ⟨h1, h2⟩ := List.getElem?_eq_some_iff.1 hc
 obtain ⟨h3, h4⟩ := List.getElem?_eq_some_iff.1 ht
 unfold foldRest
 rw [List.drop_eq_getElem_cons h1, List.drop_eq_getElem_cons h3, h2, h4, List.map_cons, Bool.eq_iff_iff, decide_eq_true_eq, Bool.and_eq_true, decide_eq_true_eq, decide_eq_true_eq]
 simp
theorem foldRest_end {l : L} {k : Nat} (hk : k = min l.length 3) : foldRest l k = decide (l.length = 3) := by
 unfold foldRest
 rw [Bool.eq_iff_iff, decide_eq_true_eq, decide_eq_true_eq]
 constructor
 ·intro h
  have := congrArg List.length h
  rw [List.length_map, List.length_drop, List.length_drop] at this
  have e : sXmlName.length = 3 := rfl
  omega
 ·intro h
  have h3 : k = 3 := by omega
  subst h3
  rw [List.drop_of_length_le (by omega), List.drop_of_length_le (by exact Nat.le_refl _)]
  rfl
theorem or_big (c t : UInt8) (ht : t ∈ sXmlName) : decide ((128 : Int) ≤ bits BinOp.or IntKind.u8 (c.toNat : Int) (t.toNat : Int)) = decide (128 ≤ c.toNat) := by
 have h1 : ∀ n : Fin 256, decide ((128 : Int) ≤ bits BinOp.or IntKind.u8 (n.val : Int) 120) = decide (128 ≤ n.val) := by decide +kernel
 have h2 : ∀ n : Fin 256, decide ((128 : Int) ≤ bits BinOp.or IntKind.u8 (n.val : Int) 109) = decide (128 ≤ n.val) := by decide +kernel
 have h3 : ∀ n : Fin 256, decide ((128 : Int) ≤ bits BinOp.or IntKind.u8 (n.val : Int) 108) = decide (128 ≤ n.val) := by decide +kernel
 simp only [sXmlName, List.mem_cons, List.not_mem_nil, or_false] at ht
 rcases ht with rfl | rfl | rfl
 ·exact h1 ⟨c.toNat, c.toNat_lt⟩
 ·exact h2 ⟨c.toNat, c.toNat_lt⟩
 ·exact h3 ⟨c.toNat, c.toNat_lt⟩
/-- A letter folds to t, itself or its great one. -/
theorem lower_is (c t : UInt8) (ht : t ∈ sXmlName) : decide (lower c = t) = (decide (c.toNat = t.toNat) || decide (c.toNat + 32 = t.toNat)) := by
 have h1 : ∀ n : Fin 256, decide (lower (UInt8.ofNat n.val) = 120) = (decide (n.val = 120) || decide (n.val + 32 = 120)) := by decide +kernel
 have h2 : ∀ n : Fin 256, decide (lower (UInt8.ofNat n.val) = 109) = (decide (n.val = 109) || decide (n.val + 32 = 109)) := by decide +kernel
 have h3 : ∀ n : Fin 256, decide (lower (UInt8.ofNat n.val) = 108) = (decide (n.val = 108) || decide (n.val + 32 = 108)) := by decide +kernel
 have e : UInt8.ofNat c.toNat = c := UInt8.ofNat_toNat
 simp only [sXmlName, List.mem_cons, List.not_mem_nil, or_false] at ht
 rcases ht with rfl | rfl | rfl
 ·have := h1 ⟨c.toNat, c.toNat_lt⟩; rw [e] at this; exact this
 ·have := h2 ⟨c.toNat, c.toNat_lt⟩; rw [e] at this; exact this
 ·have := h3 ⟨c.toNat, c.toNat_lt⟩; rw [e] at this; exact this
theorem name_lt {t : UInt8} (ht : t ∈ sXmlName) : 97 ≤ t.toNat ∧ t.toNat ≤ 122 := by
 simp only [sXmlName, List.mem_cons, List.not_mem_nil, or_false] at ht
 rcases ht with rfl | rfl | rfl <;> decide
theorem decode_big (s : ByteArray) (i : Nat) (h : i < s.size) (hb : 128 ≤ (s[i]'h).toNat) : 128 ≤ (Utf8.decode s i).1 := by
 have e : s.get! (i + 0) = s[i]'h := by
  show s.get! i = _
  simp [ByteArray.get!, getElem!_pos, h]
  rfl
 unfold Utf8.decode
 simp only [e]
 rw [if_neg (by omega)]
 split
 ·split
  ·assumption
  ·decide
 ·split
  ·split
   ·rename_i h2
    simp at h2
    dsimp only
    omega
   ·decide
  ·split
   ·split
    ·rename_i h2
     simp at h2
     dsimp only
     omega
    ·decide
   ·decide

/-- What holds at the label: a byte beyond ASCII stands at k. -/
def FoldJ (w : World) (s : ByteArray) (a' : Act) (wr : World) : Prop :=
 ∃ (g : Nat → Value) (k : Nat) (c : UInt8), a' = { tmps := List.toArray (.string s :: .string ⟨#[120, 109, 108]⟩ :: g 2 :: g 3 :: g 4 :: .int .i64 (k : Int) :: g 6 :: g 7 :: g 8 :: g 9 :: g 10 :: g 11 :: g 12 :: g 13 :: g 14 :: g 15 :: g 16 :: g 17 :: g 18 :: g 19 :: g 20 :: g 21 :: g 22 :: g 23 :: g 24 :: g 25 :: g 26 :: g 27 :: g 28 :: g 29 :: g 30 :: g 31 :: g 32 :: g 33 :: g 34 :: g 35 :: g 36 :: g 37 :: g 38 :: g 39 :: g 40 :: g 41 :: g 42 :: g 43 :: g 44 :: g 45 :: g 46 :: g 47 :: g 48 :: g 49 :: g 50 :: g 51 :: g 52 :: g 53 :: g 54 :: g 55 :: g 56 :: g 57 :: g 58 :: g 59 :: g 60 :: g 61 :: g 62 :: g 63 :: g 64 :: g 65 :: g 66 :: g 67 :: g 68 :: g 69 :: g 70 :: g 71 :: g 72 :: g 73 :: g 74 :: g 75 :: g 76 :: g 77 :: g 78 :: g 79 :: g 80 :: g 81 :: g 82 :: g 83 :: g 84 :: g 85 :: g 86 :: g 87 :: g 88 :: g 89 :: g 90 :: g 91 :: g 92 :: g 93 :: g 94 :: g 95 :: g 96 :: g 97 :: g 98 :: g 99 :: g 100 :: g 101 :: g 102 :: g 103 :: g 104 :: g 105 :: g 106 :: g 107 :: g 108 :: g 109 :: g 110 :: g 111 :: g 112 :: g 113 :: g 114 :: g 115 :: g 116 :: g 117 :: g 118 :: g 119 :: g 120 :: g 121 :: g 122 :: []), defers := [] } ∧ k < 3 ∧ s.data.toList[k]? = some c ∧ 128 ≤ c.toNat ∧ foldRest s.data.toList 0 = false ∧ wr = w
theorem FoldJ.intro {w wr : World} {s : ByteArray} {a' : Act} {k : Nat} {c : UInt8} (ha : a' = { tmps := List.toArray (.string s :: .string ⟨#[120, 109, 108]⟩ :: Array.getD a'.tmps 2 undef :: Array.getD a'.tmps 3 undef :: Array.getD a'.tmps 4 undef :: .int .i64 (k : Int) :: Array.getD a'.tmps 6 undef :: Array.getD a'.tmps 7 undef :: Array.getD a'.tmps 8 undef :: Array.getD a'.tmps 9 undef :: Array.getD a'.tmps 10 undef :: Array.getD a'.tmps 11 undef :: Array.getD a'.tmps 12 undef :: Array.getD a'.tmps 13 undef :: Array.getD a'.tmps 14 undef :: Array.getD a'.tmps 15 undef :: Array.getD a'.tmps 16 undef :: Array.getD a'.tmps 17 undef :: Array.getD a'.tmps 18 undef :: Array.getD a'.tmps 19 undef :: Array.getD a'.tmps 20 undef :: Array.getD a'.tmps 21 undef :: Array.getD a'.tmps 22 undef :: Array.getD a'.tmps 23 undef :: Array.getD a'.tmps 24 undef :: Array.getD a'.tmps 25 undef :: Array.getD a'.tmps 26 undef :: Array.getD a'.tmps 27 undef :: Array.getD a'.tmps 28 undef :: Array.getD a'.tmps 29 undef :: Array.getD a'.tmps 30 undef :: Array.getD a'.tmps 31 undef :: Array.getD a'.tmps 32 undef :: Array.getD a'.tmps 33 undef :: Array.getD a'.tmps 34 undef :: Array.getD a'.tmps 35 undef :: Array.getD a'.tmps 36 undef :: Array.getD a'.tmps 37 undef :: Array.getD a'.tmps 38 undef :: Array.getD a'.tmps 39 undef :: Array.getD a'.tmps 40 undef :: Array.getD a'.tmps 41 undef :: Array.getD a'.tmps 42 undef :: Array.getD a'.tmps 43 undef :: Array.getD a'.tmps 44 undef :: Array.getD a'.tmps 45 undef :: Array.getD a'.tmps 46 undef :: Array.getD a'.tmps 47 undef :: Array.getD a'.tmps 48 undef :: Array.getD a'.tmps 49 undef :: Array.getD a'.tmps 50 undef :: Array.getD a'.tmps 51 undef :: Array.getD a'.tmps 52 undef :: Array.getD a'.tmps 53 undef :: Array.getD a'.tmps 54 undef :: Array.getD a'.tmps 55 undef :: Array.getD a'.tmps 56 undef :: Array.getD a'.tmps 57 undef :: Array.getD a'.tmps 58 undef :: Array.getD a'.tmps 59 undef :: Array.getD a'.tmps 60 undef :: Array.getD a'.tmps 61 undef :: Array.getD a'.tmps 62 undef :: Array.getD a'.tmps 63 undef :: Array.getD a'.tmps 64 undef :: Array.getD a'.tmps 65 undef :: Array.getD a'.tmps 66 undef :: Array.getD a'.tmps 67 undef :: Array.getD a'.tmps 68 undef :: Array.getD a'.tmps 69 undef :: Array.getD a'.tmps 70 undef :: Array.getD a'.tmps 71 undef :: Array.getD a'.tmps 72 undef :: Array.getD a'.tmps 73 undef :: Array.getD a'.tmps 74 undef :: Array.getD a'.tmps 75 undef :: Array.getD a'.tmps 76 undef :: Array.getD a'.tmps 77 undef :: Array.getD a'.tmps 78 undef :: Array.getD a'.tmps 79 undef :: Array.getD a'.tmps 80 undef :: Array.getD a'.tmps 81 undef :: Array.getD a'.tmps 82 undef :: Array.getD a'.tmps 83 undef :: Array.getD a'.tmps 84 undef :: Array.getD a'.tmps 85 undef :: Array.getD a'.tmps 86 undef :: Array.getD a'.tmps 87 undef :: Array.getD a'.tmps 88 undef :: Array.getD a'.tmps 89 undef :: Array.getD a'.tmps 90 undef :: Array.getD a'.tmps 91 undef :: Array.getD a'.tmps 92 undef :: Array.getD a'.tmps 93 undef :: Array.getD a'.tmps 94 undef :: Array.getD a'.tmps 95 undef :: Array.getD a'.tmps 96 undef :: Array.getD a'.tmps 97 undef :: Array.getD a'.tmps 98 undef :: Array.getD a'.tmps 99 undef :: Array.getD a'.tmps 100 undef :: Array.getD a'.tmps 101 undef :: Array.getD a'.tmps 102 undef :: Array.getD a'.tmps 103 undef :: Array.getD a'.tmps 104 undef :: Array.getD a'.tmps 105 undef :: Array.getD a'.tmps 106 undef :: Array.getD a'.tmps 107 undef :: Array.getD a'.tmps 108 undef :: Array.getD a'.tmps 109 undef :: Array.getD a'.tmps 110 undef :: Array.getD a'.tmps 111 undef :: Array.getD a'.tmps 112 undef :: Array.getD a'.tmps 113 undef :: Array.getD a'.tmps 114 undef :: Array.getD a'.tmps 115 undef :: Array.getD a'.tmps 116 undef :: Array.getD a'.tmps 117 undef :: Array.getD a'.tmps 118 undef :: Array.getD a'.tmps 119 undef :: Array.getD a'.tmps 120 undef :: Array.getD a'.tmps 121 undef :: Array.getD a'.tmps 122 undef :: []), defers := [] }) (h1 : k < 3) (h2 : s.data.toList[k]? = some c) (h3 : 128 ≤ c.toNat) (h4 : foldRest s.data.toList 0 = false) (h5 : wr = w) : FoldJ w s a' wr :=
 ⟨fun i => Array.getD a'.tmps i undef, k, c, ha, h1, h2, h3, h4, h5⟩
end Go.Proofs.YtbbpkcddifmieaaGreatDoor
namespace Go.Proofs.YtbbpkcddifmieaaGreatDoor
open Go.RowKit Tk

set_option maxHeartbeats 8000000 in
set_option maxRecDepth 20000 in
theorem fold_any (s : ByteArray) (w : World) (hg : Gl w) (hs : s.size ≤ 1000000000) :
  Calls Tryz.prog 109 #[.string s, .string ⟨#[120, 109, 108]⟩] w fun e w' => e = .returned (.bool (xml s.data.toList)) ∧ Below w.heap.size w w' := by
 obtain ⟨b, hb⟩ : ∃ b, foldRest s.data.toList 0 = b := ⟨_, rfl⟩
 have hxb : xml s.data.toList = b := hb
 rw [hxb]
 clear hxb
 have Hb := hide hb
 obtain ⟨N, hN⟩ : ∃ N, min s.size 3 = N := ⟨_, rfl⟩
 have hmin : min (s.size : Int) 3 = (N : Int) := by omega
 have HN := hide hN
 go_enter Tryz.func109, Tryz.ntmps109
 go_wp2
 refine wp_scope_jumps 0 (FoldJ w s) (fun _ _ => 0) rfl ?_ ?_
 ·go_wp2
  go_loopg [5] N (fun g v wr => ∃ k : Nat, g = N - k ∧ k ≤ N ∧ v = .int .i64 (k : Int) ∧ foldRest s.data.toList k = b ∧ wr = w)
  case atStart => exact ⟨0, rfl, by omega, rfl, Hb.out, rfl⟩
  case round =>
   obtain ⟨k, hgg, hk, rfl, hr, rfl⟩ := hrel
   have Hg := hide hgg
   have Hr := hide hr
   clear hgg hr
   by_cases hlt : k < N
   ·obtain ⟨c, hc⟩ : ∃ c, s.data.toList[k]? = some c := ⟨_, List.getElem?_eq_getElem (by rw [size_list]; omega)⟩
    obtain ⟨t, ht⟩ : ∃ t, sXmlName[k]? = some t := ⟨_, List.getElem?_eq_getElem (by show k < 3; omega)⟩
    have htm : t ∈ sXmlName := List.mem_of_getElem? ht
    have hnx := foldRest_next hc ht
    have ho := or_big c t htm
    have hl := lower_is c t htm
    obtain ⟨hm1, hm2⟩ := name_lt htm
    have hix := idx_run s k c hc
    have hit := idx_run ⟨#[120, 109, 108]⟩ k t ht
    have Hc := hide hc
    have Hk3 := hide (show k < 3 by omega)
    have hn8 := c.toNat_lt
    rw [Hr.out, hl] at hnx
    generalize t.toNat = m at *
    clear hl htm ht hc
    obtain ⟨n, hn⟩ : ∃ n, c.toNat = n := ⟨_, rfl⟩
    rw [hn] at ho hnx hix hn8
    have Hn := hide hn
    clear hn
    rcases (by omega : 128 ≤ n ∨ n = m ∨ n + 32 = m ∨ (n < m ∧ n < 65) ∨ (n < m ∧ 90 < n) ∨ (n < m ∧ 65 ≤ n ∧ n ≤ 90 ∧ n + 32 ≠ m) ∨ (m < n ∧ n < 128)) with h | h | h | h | h | h | h
    ·have hb0 : b = false := by rw [hnx, decide_eq_false (by omega), decide_eq_false (by omega)]; rfl
     have hob : (128 : Int) ≤ bits BinOp.or IntKind.u8 (n : Int) (m : Int) := by
      rw [decide_eq_true h] at ho
      exact of_decide_eq_true ho
     clear ho hnx
     go_wp2
     go_step3
     exact ⟨rfl, FoldJ.intro (by rfl) Hk3.out Hc.out (by rw [Hn.out]; exact h) (by rw [Hb.out, hb0]) rfl⟩
    all_goals
     have hob : ¬ (128 : Int) ≤ bits BinOp.or IntKind.u8 (n : Int) (m : Int) := by
      intro h2
      rw [decide_eq_true h2] at ho
      have := of_decide_eq_true ho.symm
      omega
     clear ho
    ·subst h
     have hnx' : foldRest s.data.toList (k + 1) = b := by rw [hnx]; simp
     clear hnx
     have Hx := hide hnx'
     clear hnx'
     go_wp2
     go_roundg (N - (k + 1))
     case measure => have := Hg.out; omega
     case rel => exact ⟨k + 1, rfl, by omega, by go_num, Hx.out, rfl⟩
    ·have hnx' : foldRest s.data.toList (k + 1) = b := by rw [hnx, decide_eq_true h]; simp
     clear hnx
     have Hx := hide hnx'
     clear hnx'
     have hw1 : IntKind.u8.wrap ((n : Int) + 97) = (n : Int) + 97 := (IntWalk.u8_in _ (by omega)).trans (by omega)
     have hw2 : IntKind.u8.wrap ((n : Int) + 97 - 65) = (m : Int) := (IntWalk.u8_in _ (by omega)).trans (by omega)
     go_wp2
     go_roundg (N - (k + 1))
     case measure => have := Hg.out; omega
     case rel => exact ⟨k + 1, rfl, by omega, by go_num, Hx.out, rfl⟩
    ·have hb0 : b = false := by rw [hnx, decide_eq_false (by omega), decide_eq_false (by omega)]; rfl
     clear hnx
     go_wp2
     simp only [Exit.jump]
     go_ret
     subst hb0
     exact ⟨rfl, Below.refl _ _⟩
    ·have hb0 : b = false := by rw [hnx, decide_eq_false (by omega), decide_eq_false (by omega)]; rfl
     clear hnx
     go_wp2
     simp only [Exit.jump]
     go_ret
     subst hb0
     exact ⟨rfl, Below.refl _ _⟩
    ·have hb0 : b = false := by rw [hnx, decide_eq_false (by omega), decide_eq_false (by omega)]; rfl
     clear hnx
     have hw1 : IntKind.u8.wrap ((n : Int) + 97) = (n : Int) + 97 := (IntWalk.u8_in _ (by omega)).trans (by omega)
     have hw2 : IntKind.u8.wrap ((n : Int) + 97 - 65) = (n : Int) + 32 := (IntWalk.u8_in _ (by omega)).trans (by omega)
     go_wp2
     simp only [Exit.jump]
     go_ret
     subst hb0
     exact ⟨rfl, Below.refl _ _⟩
    ·have hb0 : b = false := by rw [hnx, decide_eq_false (by omega), decide_eq_false (by omega)]; rfl
     clear hnx
     go_wp2
     simp only [Exit.jump]
     go_ret
     subst hb0
     exact ⟨rfl, Below.refl _ _⟩
   ·have hkN : k = N := by omega
    subst hkN
    have he := foldRest_end (l := s.data.toList) (k := k) (by rw [size_list]; exact HN.out.symm)
    rw [Hr.out, size_list] at he
    have hq : ((s.size : Int) == 3) = b := by
     rw [he, Bool.eq_iff_iff, beq_iff_eq, decide_eq_true_eq]
     omega
    have Hq := hide hq
    clear hq he
    go_wp2
    simp only [Exit.jump]
    go_ret
    exact ⟨by rw [← Hq.out]; rfl, Below.refl _ _⟩
 ·rintro a' wr ⟨g, k, c, rfl, hk3, hc, hc128, hb0, rfl⟩
  obtain rfl : b = false := by rw [← hb, hb0]
  obtain ⟨hks, hcs⟩ := List.getElem?_eq_some_iff.1 hc
  rw [size_list] at hks
  have hale : k ≤ s.size := by omega
  have hk3' : k ≤ 3 := by omega
  obtain ⟨r, hr⟩ : ∃ r, s.extract k s.size = r := ⟨_, rfl⟩
  have hrs : 0 < r.size := by rw [← hr, ByteArray.size_extract]; omega
  have hr0 : (r[0]'hrs) = c := by
   subst hr
   have h1 : (s.extract k s.size).data.toList[0]? = some c := by rw [extract_end, bstr_list, List.getElem?_drop, Nat.add_zero, hc]
   obtain ⟨h2, h3⟩ := List.getElem?_eq_some_iff.1 h1
   exact h3
  have hbig := decode_big r 0 hrs (by rw [hr0]; exact hc128)
  obtain ⟨q, hq⟩ : ∃ q, Utf8.decode r 0 = q := ⟨_, rfl⟩
  obtain ⟨cp, sz⟩ := q
  have hnx := fun ty => run_next_any (P := Tryz.prog) wr r 0 ty hrs
  rw [hq, Nat.zero_add] at hnx
  rw [hq] at hbig
  dsimp only at hbig hnx
  obtain ⟨tx, htx⟩ : ∃ tx, (⟨#[120, 109, 108]⟩ : ByteArray).extract k 3 = tx := ⟨_, rfl⟩
  obtain ⟨t, M, h1, h2, h3, hm1, hm2⟩ : ∃ (t : UInt8) (M : Nat), tx.data.toList[0]? = some t ∧ ((t.toNat, (M : Int)) ∈ ([(120, 88), (88, 120), (109, 77), (77, 109), (108, 76), (76, 108)] : List (Nat × Int))) ∧ ((M, (t.toNat : Int)) ∈ ([(120, 88), (88, 120), (109, 77), (77, 109), (108, 76), (76, 108)] : List (Nat × Int))) ∧ t.toNat < 128 ∧ M + 32 = t.toNat := by
   subst htx
   rcases (by omega : k = 0 ∨ k = 1 ∨ k = 2) with rfl | rfl | rfl
   ·exact ⟨120, 88, by decide, by decide, by decide, by decide, by decide⟩
   ·exact ⟨109, 77, by decide, by decide, by decide, by decide, by decide⟩
   ·exact ⟨108, 76, by decide, by decide, by decide, by decide, by decide⟩
  have htn : 0 < tx.size := by
   obtain ⟨h4, _⟩ := List.getElem?_eq_some_iff.1 h1
   rw [size_list] at h4
   exact h4
  have HG' := hide (hg.below ((Below.refl wr.heap.size wr).alloc (Nat.le_refl _) (.stringIter r sz)))
  have HB' := hide ((Below.refl wr.heap.size wr).alloc (Nat.le_refl _) (.stringIter r sz))
  have HD := hide (Tryz.utf8_DecodeRuneInString_ascii tx t (wr.iter r sz) h1 hm1)
  have HF1 := hide (show Calls Tryz.prog 134 #[.int .i32 (t.toNat : Int)] (wr.iter r sz) fun e w' => e = .returned (.int .i32 (M : Int)) ∧ w' = wr.iter r sz from fold_one (t.toNat, (M : Int)) h2 (wr.iter r sz) HG'.out)
  have HF2 := hide (show Calls Tryz.prog 134 #[.int .i32 (M : Int)] (wr.iter r sz) fun e w' => e = .returned (.int .i32 (t.toNat : Int)) ∧ w' = wr.iter r sz from fold_one (M, (t.toNat : Int)) h3 (wr.iter r sz) HG'.out)
  have Hbig := hide hbig
  generalize t.toNat = m at *
  clear h1 h2 h3 hq hr0 hcs hc128 hc hb0 hb Hb HN hN hmin
  go_wp2
  go_loopg [1] 1 (fun gg v wr' => gg = 1 ∧ v = .string tx ∧ wr' = wr.iter r 0)
  case atStart => exact ⟨rfl, by rw [← htx], rfl⟩
  case round =>
   obtain ⟨hg1, rfl, rfl⟩ := hrel
   clear hg1
   have hszz : ((tx.size : Int) == 0) = false := by rw [beq_eq_false_iff_ne]; omega
   have he1 : ((m : Int) == (cp : Int)) = false := by rw [beq_eq_false_iff_ne]; omega
   go_wp2_with fail
   refine HD.out.mono ?_
   rintro e w2 ⟨rfl, rfl⟩
   have h1le : 1 ≤ tx.size := htn
   go_wp2_with fail
   refine HF1.out.mono ?_
   rintro e w2 ⟨rfl, rfl⟩
   go_wp2
   go_loopg [13] 1 (fun g2 v wr' => wr' = wr.iter r sz ∧ ((g2 = 1 ∧ v = .int .i32 (M : Int)) ∨ (g2 = 0 ∧ v = .int .i32 (m : Int))))
   case atStart => exact ⟨rfl, .inl ⟨rfl, rfl⟩⟩
   case round =>
    obtain ⟨rfl, ⟨hg2, rfl⟩ | ⟨hg2, rfl⟩⟩ := hrel
    ·have he2 : ((M : Int) == (m : Int)) = false := by rw [beq_eq_false_iff_ne]; omega
     have he3 : (M : Int) < (cp : Int) := by omega
     go_wp2_with fail
     refine HF2.out.mono ?_
     rintro e w2 ⟨rfl, rfl⟩
     go_wp2
     go_roundg 0
     case measure => omega
     case rel => exact ⟨rfl, .inr ⟨rfl, rfl⟩⟩
    ·go_wp2
     simp only [Exit.jump]
     go_ret
     exact ⟨rfl, HB'.out⟩
end Go.Proofs.YtbbpkcddifmieaaGreatDoor
namespace Go.Proofs.YtbbpkcddifmieaaGreatDoor
open Go.RowKit Tk

/-- The text at block X, read up to k'; the token at block T, of such a kind and text. -/
structure Sk (w W : World) (X T : Nat) (s : ByteArray) (k k' : Nat) (kd : Int) (tx : L) : Prop where
 sc : Sc W X s k'
 tb : Tb W T kd ⟨#[]⟩ (.slice none 0 0) false (bstr tx) k 0
 but : But2 X T w W
section
variable {w W W' : World} {base X T : Nat} {s : ByteArray} {k k' j : Nat} {kd : Int} {tx : L} {o : Option Tok} {e : Ending}
theorem Sk.go (h : Sk w W X T s k k' kd tx) (hne : X ≠ T) (hb : But X W W') (hs : Sc W' X s j) : Sk w W' X T s k j kd tx := ⟨hs, h.tb.at_but hb (Ne.symm hne), h.but.one hb⟩
theorem Sk.drew (h : Sk w W X T s k k' kd tx) : Sk w W.drew X T s k k' kd tx := ⟨Blk.drew h.sc, Blk.drew h.tb, h.but.drew⟩
theorem Sk.below (h : Sk w W X T s k k' kd tx) (hb : Below W.heap.size W W') : Sk w W' X T s k k' kd tx := ⟨Blk.go h.sc hb, Blk.go h.tb hb, h.but.go hb⟩
theorem Sk.gl (h : Sk w W X T s k k' kd tx) (hg : Gl w) (hX6 : 6 ≤ X) (hT6 : 6 ≤ T) : Gl W := hg.but2 h.but hX6 hT6
theorem Sk.no (h : Sk w W X T s k k' kd tx) (ho : o = none) (he : e = .returned (.bool false)) (hl : k' ≤ s.size) : PieceR w base X T s k o e W := PieceR.no ho h.but he hl h.sc ⟨_, _, _, _, _, _, _, h.tb⟩
theorem Sk.yes (h : Sk w W X T s k k' kd tx) (ho : o = some ⟨kd, [], [], false, tx, k, k'⟩) (he : e = .returned (.bool true)) (hl : k' ≤ s.size) (hk : k < k') : PieceR w base X T s k o e W :=
 PieceR.yes (t := ⟨kd, [], [], false, tx, k, k'⟩) ho h.but he hl hk h.sc ⟨none, 0, h.tb, World.ownsRow_nil _ _ _ _⟩
theorem Sk.first (hX : Sc w X s k) (hT : T0 w T k) (hne : X ≠ T) : Sk w (w.setCell ⟨T, 0, none⟩ (.int .i8 4)) X T s k k 4 [] :=
 ⟨Sc.far hX hne _, Tb.kind_ hT 4, (But2.refl X T w).setCell (.inr (.inl rfl)) _⟩
theorem Sk.data (h : Sk w W X T s k k' kd []) (hne : X ≠ T) (t : L) : Sk w ((W.setCell ⟨T, 0, none⟩ (.int .i8 3)).setCell ⟨T, 4, none⟩ (.string (bstr t))) X T s k k' 3 t :=
 ⟨Sc.far (Sc.far h.sc hne _) hne _, Tb.text_ (Tb.kind_ h.tb 3) (bstr t), (h.but.setCell (p := ⟨T, 0, none⟩) (.inr (.inl rfl)) _).setCell (p := ⟨T, 4, none⟩) (.inr (.inl rfl)) _⟩
theorem Sk.move (h : Sk w W X T s k k' kd tx) (hne : X ≠ T) (j : Nat) : Sk w (W.setCell ⟨X, 1, none⟩ (.int .i64 (j : Int))) X T s k j kd tx :=
 ⟨Sc.move h.sc j, Tb.far h.tb (Ne.symm hne) _, h.but.setCell (p := ⟨X, 1, none⟩) (.inl rfl) _⟩
theorem Sk.is_yes (h : Sk w W X T s k k' kd tx) (hne : X ≠ T) (hs : s.size ≤ 1000000000) (q : L) (hq : q.length ≤ 1000) (ha : k' ≤ s.size) (hp : q.isPrefixOf (s.data.toList.drop k') = true) :
  Calls Tryz.prog 104 #[.pointer (some ⟨X, 0, none⟩), .string (bstr q)] W fun e w' => e = .returned (.bool true) ∧ Sk w w' X T s k (k' + q.length) kd tx ∧ k' + q.length ≤ s.size := by
 refine (isp_any W X s (bstr q) k' h.sc ha hs (by rw [bstr_size]; exact hq)).mono ?_
 rintro e w' ⟨rfl, h1, h2⟩
 rw [bstr_list, hp, if_pos rfl, bstr_size] at h1
 rw [bstr_list, hp]
 have h3 := pfx_len hp
 rw [List.length_drop, size_list] at h3
 exact ⟨rfl, h.go hne h2 h1, by omega⟩
theorem Sk.is_no (h : Sk w W X T s k k' kd tx) (hne : X ≠ T) (hs : s.size ≤ 1000000000) (q : L) (hq : q.length ≤ 1000) (ha : k' ≤ s.size) (hp : q.isPrefixOf (s.data.toList.drop k') = false) :
  Calls Tryz.prog 104 #[.pointer (some ⟨X, 0, none⟩), .string (bstr q)] W fun e w' => e = .returned (.bool false) ∧ Sk w w' X T s k k' kd tx := by
 refine (isp_any W X s (bstr q) k' h.sc ha hs (by rw [bstr_size]; exact hq)).mono ?_
 rintro e w' ⟨rfl, h1, h2⟩
 rw [bstr_list, hp, if_neg (by simp)] at h1
 rw [bstr_list, hp]
 exact ⟨rfl, h.go hne h2 h1⟩
theorem Sk.till_yes (h : Sk w W X T s k k' kd tx) (hne : X ≠ T) (hg : Gl w) (hX6 : 6 ≤ X) (hT6 : 6 ≤ T) (hs : s.size ≤ 1000000000) (q : L) (hq : q.length ≤ 1000) (ha : k' ≤ s.size) {n : Nat} (hn : till q (s.data.toList.drop k') = some n) :
  Calls Tryz.prog 106 #[.pointer (some ⟨X, 0, none⟩), .string (bstr q)] W fun e w' => e = .returned (.tuple #[.string (bstr ((s.data.toList.drop k').take n)), .bool true]) ∧ Sk w w' X T s k (k' + n + q.length) kd tx ∧ k' + n + q.length ≤ s.size := by
 refine (Go.Proofs.YtbbpkcddifmieaaGreatDoor.till_yes W X s (bstr q) k' n hn h.sc hX6 (h.gl hg hX6 hT6) ha hs (by rw [bstr_size]; exact hq)).mono ?_
 rintro e w' ⟨rfl, h1, h2⟩
 rw [bstr_size] at h1
 rw [extract_bstr, show k' + n - k' = n by omega]
 have h3 := (till_some hn).2
 rw [List.length_drop, size_list] at h3
 exact ⟨rfl, h.go hne h2 h1, by omega⟩
theorem Sk.till_no (h : Sk w W X T s k k' kd tx) (hne : X ≠ T) (hg : Gl w) (hX6 : 6 ≤ X) (hT6 : 6 ≤ T) (hs : s.size ≤ 1000000000) (q : L) (hq : q.length ≤ 1000) (ha : k' ≤ s.size) (hn : till q (s.data.toList.drop k') = none) :
  Calls Tryz.prog 106 #[.pointer (some ⟨X, 0, none⟩), .string (bstr q)] W fun e w' => e = .returned (.tuple #[.string ⟨#[]⟩, .bool false]) ∧ Sk w w' X T s k k' kd tx := by
 refine (Go.Proofs.YtbbpkcddifmieaaGreatDoor.till_no W X s (bstr q) k' hn h.sc hX6 (h.gl hg hX6 hT6) ha hs (by rw [bstr_size]; exact hq)).mono ?_
 rintro e w' ⟨rfl, h1, h2⟩
 exact ⟨rfl, h.go hne h2 h1⟩
end
theorem xml_len {n : L} (h : xml n = true) : n.length = 3 := by
 unfold xml at h
 have := congrArg List.length (of_decide_eq_true h)
 rw [List.length_map] at this
 exact this
end Go.Proofs.YtbbpkcddifmieaaGreatDoor
