/- Tokens: strings.EqualFold with "xml": the walk. · Tokens: words for what begins with <? or <!. -/
import Derived.Test.YtaickkaoglohgaaGreatDoorBw09
set_option linter.unusedSimpArgs false
set_option linter.unusedVariables false
namespace Go.Proofs.YtaickkaoglohgaaGreatDoor
section
open Go.RowKit Tk

set_option maxHeartbeats 8000000 in
set_option maxRecDepth 20000 in
theorem fold_any (s : ByteArray) (w : World) (hg : Gl w) (hs : s.size ≤ 1000000000) :
  Calls Tryz.prog 92 #[.string s, .string ⟨#[120, 109, 108]⟩] w fun e w' => e = .returned (.bool (xml s.data.toList)) ∧ Below w.heap.size w w' := by
 obtain ⟨b, hb⟩ : ∃ b, foldRest s.data.toList 0 = b := ⟨_, rfl⟩;have hxb : xml s.data.toList = b := hb;rw [hxb];clear hxb;have Hb := hide hb;obtain ⟨N, hN⟩ : ∃ N, min s.size 3 = N := ⟨_, rfl⟩;have hmin : min (s.size : Int) 3 = (N : Int) := by omega
 have HN := hide hN
 go_enter Tryz.func92, Tryz.ntmps92
 go_wp2;refine wp_scope_jumps 0 (FoldJ w s) (fun _ _ => 0) rfl ?_ ?_
 ·go_wp2
  go_loopg [5] N (fun g v wr => ∃ k : Nat, g = N - k ∧ k ≤ N ∧ v = .int .i64 (k : Int) ∧ foldRest s.data.toList k = b ∧ wr = w)
  case atStart => exact ⟨0, rfl, by omega, rfl, Hb.out, rfl⟩
  case round =>
   obtain ⟨k, hgg, hk, rfl, hr, rfl⟩ := hrel;have Hg := hide hgg;have Hr := hide hr;clear hgg hr
   by_cases hlt : k < N
   ·obtain ⟨c, hc⟩ : ∃ c, s.data.toList[k]? = some c := ⟨_, List.getElem?_eq_getElem (by rw [size_list]; omega)⟩;obtain ⟨t, ht⟩ : ∃ t, sXmlName[k]? = some t := ⟨_, List.getElem?_eq_getElem (by show k < 3; omega)⟩;have htm : t ∈ sXmlName := List.mem_of_getElem? ht;have hnx := foldRest_next hc ht;have ho := or_big c t htm;have hl := lower_is c t htm;obtain ⟨hm1, hm2⟩ := name_lt htm;have hix := idx_run s k c hc;have hit := idx_run ⟨#[120, 109, 108]⟩ k t ht;have Hc := hide hc;have Hk3 := hide (show k < 3 by omega);have hn8 := c.toNat_lt;rw [Hr.out, hl] at hnx;generalize t.toNat = m at *
    clear hl htm ht hc;obtain ⟨n, hn⟩ : ∃ n, c.toNat = n := ⟨_, rfl⟩;rw [hn] at ho hnx hix hn8;have Hn := hide hn;clear hn
    rcases (by omega : 128 ≤ n ∨ n = m ∨ n + 32 = m ∨ (n < m ∧ n < 65) ∨ (n < m ∧ 90 < n) ∨ (n < m ∧ 65 ≤ n ∧ n ≤ 90 ∧ n + 32 ≠ m) ∨ (m < n ∧ n < 128)) with h | h | h | h | h | h | h
    ·have hb0 : b = false := by rw [hnx, decide_eq_false (by omega), decide_eq_false (by omega)]; rfl
     have hob : (128 : Int) ≤ bits BinOp.or IntKind.u8 (n : Int) (m : Int) := by
      rw [decide_eq_true h] at ho;exact of_decide_eq_true ho
     clear ho hnx;go_wp2
     go_step3
     exact ⟨rfl, FoldJ.intro (by rfl) Hk3.out Hc.out (by rw [Hn.out]; exact h) (by rw [Hb.out, hb0]) rfl⟩
    all_goals
     have hob : ¬ (128 : Int) ≤ bits BinOp.or IntKind.u8 (n : Int) (m : Int) := by
      intro h2;rw [decide_eq_true h2] at ho;have := of_decide_eq_true ho.symm;omega
     clear ho
    ·subst h;have hnx' : foldRest s.data.toList (k + 1) = b := by rw [hnx]; simp
     clear hnx;have Hx := hide hnx';clear hnx';go_wp2
     go_roundg (N - (k + 1))
     case measure => have := Hg.out; omega
     case rel => exact ⟨k + 1, rfl, by omega, by go_num, Hx.out, rfl⟩
    ·have hnx' : foldRest s.data.toList (k + 1) = b := by rw [hnx, decide_eq_true h]; simp
     clear hnx;have Hx := hide hnx';clear hnx';have hw1 : IntKind.u8.wrap ((n : Int) + 97) = (n : Int) + 97 := (IntWalk.u8_in _ (by omega)).trans (by omega);have hw2 : IntKind.u8.wrap ((n : Int) + 97 - 65) = (m : Int) := (IntWalk.u8_in _ (by omega)).trans (by omega);go_wp2
     go_roundg (N - (k + 1))
     case measure => have := Hg.out; omega
     case rel => exact ⟨k + 1, rfl, by omega, by go_num, Hx.out, rfl⟩
    ·have hb0 : b = false := by rw [hnx, decide_eq_false (by omega), decide_eq_false (by omega)]; rfl
     clear hnx;go_wp2;simp only [Exit.jump];go_ret;subst hb0;exact ⟨rfl, Below.refl _ _⟩
    ·have hb0 : b = false := by rw [hnx, decide_eq_false (by omega), decide_eq_false (by omega)]; rfl
     clear hnx;go_wp2;simp only [Exit.jump];go_ret;subst hb0;exact ⟨rfl, Below.refl _ _⟩
    ·have hb0 : b = false := by rw [hnx, decide_eq_false (by omega), decide_eq_false (by omega)]; rfl
     clear hnx;have hw1 : IntKind.u8.wrap ((n : Int) + 97) = (n : Int) + 97 := (IntWalk.u8_in _ (by omega)).trans (by omega);have hw2 : IntKind.u8.wrap ((n : Int) + 97 - 65) = (n : Int) + 32 := (IntWalk.u8_in _ (by omega)).trans (by omega);go_wp2;simp only [Exit.jump];go_ret;subst hb0;exact ⟨rfl, Below.refl _ _⟩
    have hb0 : b = false := by rw [hnx, decide_eq_false (by omega), decide_eq_false (by omega)]; rfl
    clear hnx;go_wp2;simp only [Exit.jump];go_ret;subst hb0;exact ⟨rfl, Below.refl _ _⟩
   have hkN : k = N := by omega
   subst hkN;have he := foldRest_end (l := s.data.toList) (k := k) (by rw [size_list]; exact HN.out.symm);rw [Hr.out, size_list] at he
   have hq : ((s.size : Int) == 3) = b := by
    rw [he, Bool.eq_iff_iff, beq_iff_eq, decide_eq_true_eq];omega
   have Hq := hide hq;clear hq he;go_wp2;simp only [Exit.jump];go_ret;exact ⟨by rw [← Hq.out]; rfl, Below.refl _ _⟩
 rintro a' wr ⟨g, k, c, rfl, hk3, hc, hc128, hb0, rfl⟩;obtain rfl : b = false := by rw [← hb, hb0]
 obtain ⟨hks, hcs⟩ := List.getElem?_eq_some_iff.1 hc;rw [size_list] at hks;have hale : k ≤ s.size := by omega
 have hk3' : k ≤ 3 := by omega
 obtain ⟨r, hr⟩ : ∃ r, s.extract k s.size = r := ⟨_, rfl⟩;have hrs : 0 < r.size := by rw [← hr, ByteArray.size_extract]; omega
 have hr0 : (r[0]'hrs) = c := by
  subst hr;have h1 : (s.extract k s.size).data.toList[0]? = some c := by rw [extract_end, bstr_list, List.getElem?_drop, Nat.add_zero, hc]
  obtain ⟨h2, h3⟩ := List.getElem?_eq_some_iff.1 h1;exact h3
 have hbig := decode_big r 0 hrs (by rw [hr0]; exact hc128);obtain ⟨q, hq⟩ : ∃ q, Utf8.decode r 0 = q := ⟨_, rfl⟩;obtain ⟨cp, sz⟩ := q;have hnx := fun ty => run_next_any (P := Tryz.prog) wr r 0 ty hrs;rw [hq, Nat.zero_add] at hnx;rw [hq] at hbig;dsimp only at hbig hnx;obtain ⟨tx, htx⟩ : ∃ tx, (⟨#[120, 109, 108]⟩ : ByteArray).extract k 3 = tx := ⟨_, rfl⟩
 obtain ⟨t, M, h1, h2, h3, hm1, hm2⟩ : ∃ (t : UInt8) (M : Nat), tx.data.toList[0]? = some t ∧ ((t.toNat, (M : Int)) ∈ ([(120, 88), (88, 120), (109, 77), (77, 109), (108, 76), (76, 108)] : List (Nat × Int))) ∧ ((M, (t.toNat : Int)) ∈ ([(120, 88), (88, 120), (109, 77), (77, 109), (108, 76), (76, 108)] : List (Nat × Int))) ∧ t.toNat < 128 ∧ M + 32 = t.toNat := by
  subst htx
  rcases (by omega : k = 0 ∨ k = 1 ∨ k = 2) with rfl | rfl | rfl
  ·exact ⟨120, 88, by decide, by decide, by decide, by decide, by decide⟩
  ·exact ⟨109, 77, by decide, by decide, by decide, by decide, by decide⟩
  exact ⟨108, 76, by decide, by decide, by decide, by decide, by decide⟩
 have htn : 0 < tx.size := by
  obtain ⟨h4, _⟩ := List.getElem?_eq_some_iff.1 h1;rw [size_list] at h4;exact h4
 have HG' := hide (hg.below ((Below.refl wr.heap.size wr).alloc (Nat.le_refl _) (.stringIter r sz)));have HB' := hide ((Below.refl wr.heap.size wr).alloc (Nat.le_refl _) (.stringIter r sz));have HD := hide (Tryz.utf8_DecodeRuneInString_ascii tx t (wr.iter r sz) h1 hm1);have HF1 := hide (show Calls Tryz.prog 118 #[.int .i32 (t.toNat : Int)] (wr.iter r sz) fun e w' => e = .returned (.int .i32 (M : Int)) ∧ w' = wr.iter r sz from fold_one (t.toNat, (M : Int)) h2 (wr.iter r sz) HG'.out);have HF2 := hide (show Calls Tryz.prog 118 #[.int .i32 (M : Int)] (wr.iter r sz) fun e w' => e = .returned (.int .i32 (t.toNat : Int)) ∧ w' = wr.iter r sz from fold_one (M, (t.toNat : Int)) h3 (wr.iter r sz) HG'.out);have Hbig := hide hbig;generalize t.toNat = m at *
 clear h1 h2 h3 hq hr0 hcs hc128 hc hb0 hb Hb HN hN hmin;go_wp2
 go_loopg [1] 1 (fun gg v wr' => gg = 1 ∧ v = .string tx ∧ wr' = wr.iter r 0)
 case atStart => exact ⟨rfl, by rw [← htx], rfl⟩
 case round =>
  obtain ⟨hg1, rfl, rfl⟩ := hrel;clear hg1;have hszz : ((tx.size : Int) == 0) = false := by rw [beq_eq_false_iff_ne]; omega
  have he1 : ((m : Int) == (cp : Int)) = false := by rw [beq_eq_false_iff_ne]; omega
  go_wp2_with fail
  refine HD.out.mono ?_;rintro e w2 ⟨rfl, rfl⟩;have h1le : 1 ≤ tx.size := htn
  go_wp2_with fail
  refine HF1.out.mono ?_;rintro e w2 ⟨rfl, rfl⟩;go_wp2
  go_loopg [13] 1 (fun g2 v wr' => wr' = wr.iter r sz ∧ ((g2 = 1 ∧ v = .int .i32 (M : Int)) ∨ (g2 = 0 ∧ v = .int .i32 (m : Int))))
  case atStart => exact ⟨rfl, .inl ⟨rfl, rfl⟩⟩
  case round =>
   obtain ⟨rfl, ⟨hg2, rfl⟩ | ⟨hg2, rfl⟩⟩ := hrel
   ·have he2 : ((M : Int) == (m : Int)) = false := by rw [beq_eq_false_iff_ne]; omega
    have he3 : (M : Int) < (cp : Int) := by omega
    go_wp2_with fail
    refine HF2.out.mono ?_;rintro e w2 ⟨rfl, rfl⟩;go_wp2
    go_roundg 0
    case measure => omega
    case rel => exact ⟨rfl, .inr ⟨rfl, rfl⟩⟩
   go_wp2;simp only [Exit.jump];go_ret;exact ⟨rfl, HB'.out⟩
end
section
open Go.RowKit Tk

structure Sk (w W : World) (X T : Nat) (s : ByteArray) (k k' : Nat) (kd : Int) (tx : L) : Prop where
 sc : Sc W X s k'
 tb : Tb W T kd ⟨#[]⟩ (.slice none 0 0) false (bstr tx) k 0
 but : But2 X T w W
section
variable {w W W' : World} {base X T : Nat} {s : ByteArray} {k k' j : Nat} {kd : Int} {tx : L} {o : Option Tok} {e : Ending}
theorem Sk.go (h : Sk w W X T s k k' kd tx) (hne : X ≠ T) (hb : But X W W') (hs : Sc W' X s j) : Sk w W' X T s k j kd tx := ⟨hs, h.tb.at_but hb (Ne.symm hne), h.but.one hb⟩
theorem Sk.drew (h : Sk w W X T s k k' kd tx) : Sk w W.drew X T s k k' kd tx := ⟨Blk.drew h.sc, Blk.drew h.tb, h.but.drew⟩
theorem Sk.below (h : Sk w W X T s k k' kd tx) (hb : Below W.heap.size W W') : Sk w W' X T s k k' kd tx := ⟨Blk.go h.sc hb, Blk.go h.tb hb, h.but.go hb⟩
theorem Sk.gl (h : Sk w W X T s k k' kd tx) (hg : Gl w) (hX6 : 6 ≤ X) (hT6 : 6 ≤ T) : Gl W := hg.but2 h.but hX6 hT6
theorem Sk.no (h : Sk w W X T s k k' kd tx) (ho : o = none) (he : e = .returned (.bool false)) (hl : k' ≤ s.size) : PieceR w base X T s k o e W := PieceR.no ho h.but he hl h.sc ⟨_, _, _, _, _, _, _, h.tb⟩
theorem Sk.yes (h : Sk w W X T s k k' kd tx) (ho : o = some ⟨kd, [], [], false, tx, k, k'⟩) (he : e = .returned (.bool true)) (hl : k' ≤ s.size) (hk : k < k') : PieceR w base X T s k o e W :=
 PieceR.yes (t := ⟨kd, [], [], false, tx, k, k'⟩) ho h.but he hl hk h.sc ⟨none, 0, h.tb, World.ownsRow_nil _ _ _ _⟩
theorem Sk.first (hX : Sc w X s k) (hT : T0 w T k) (hne : X ≠ T) : Sk w (w.setCell ⟨T, 0, none⟩ (.int .i8 4)) X T s k k 4 [] :=
 ⟨Sc.far hX hne _, Tb.kind_ hT 4, (But2.refl X T w).setCell (.inr (.inl rfl)) _⟩
theorem Sk.data (h : Sk w W X T s k k' kd []) (hne : X ≠ T) (t : L) : Sk w ((W.setCell ⟨T, 0, none⟩ (.int .i8 3)).setCell ⟨T, 4, none⟩ (.string (bstr t))) X T s k k' 3 t :=
 ⟨Sc.far (Sc.far h.sc hne _) hne _, Tb.text_ (Tb.kind_ h.tb 3) (bstr t), (h.but.setCell (p := ⟨T, 0, none⟩) (.inr (.inl rfl)) _).setCell (p := ⟨T, 4, none⟩) (.inr (.inl rfl)) _⟩
theorem Sk.move (h : Sk w W X T s k k' kd tx) (hne : X ≠ T) (j : Nat) : Sk w (W.setCell ⟨X, 1, none⟩ (.int .i64 (j : Int))) X T s k j kd tx :=
 ⟨Sc.move h.sc j, Tb.far h.tb (Ne.symm hne) _, h.but.setCell (p := ⟨X, 1, none⟩) (.inl rfl) _⟩
theorem Sk.is_yes (h : Sk w W X T s k k' kd tx) (hne : X ≠ T) (hs : s.size ≤ 1000000000) (q : L) (hq : q.length ≤ 1000) (ha : k' ≤ s.size) (hp : q.isPrefixOf (s.data.toList.drop k') = true) :
  Calls Tryz.prog 86 #[.pointer (some ⟨X, 0, none⟩), .string (bstr q)] W fun e w' => e = .returned (.bool true) ∧ Sk w w' X T s k (k' + q.length) kd tx ∧ k' + q.length ≤ s.size := by
 refine (isp_any W X s (bstr q) k' h.sc ha hs (by rw [bstr_size]; exact hq)).mono ?_;rintro e w' ⟨rfl, h1, h2⟩;rw [bstr_list, hp, if_pos rfl, bstr_size] at h1;rw [bstr_list, hp];have h3 := pfx_len hp;rw [List.length_drop, size_list] at h3;exact ⟨rfl, h.go hne h2 h1, by omega⟩
theorem Sk.is_no (h : Sk w W X T s k k' kd tx) (hne : X ≠ T) (hs : s.size ≤ 1000000000) (q : L) (hq : q.length ≤ 1000) (ha : k' ≤ s.size) (hp : q.isPrefixOf (s.data.toList.drop k') = false) :
  Calls Tryz.prog 86 #[.pointer (some ⟨X, 0, none⟩), .string (bstr q)] W fun e w' => e = .returned (.bool false) ∧ Sk w w' X T s k k' kd tx := by
 refine (isp_any W X s (bstr q) k' h.sc ha hs (by rw [bstr_size]; exact hq)).mono ?_;rintro e w' ⟨rfl, h1, h2⟩;rw [bstr_list, hp, if_neg (by simp)] at h1;rw [bstr_list, hp];exact ⟨rfl, h.go hne h2 h1⟩
theorem Sk.till_yes (h : Sk w W X T s k k' kd tx) (hne : X ≠ T) (hg : Gl w) (hX6 : 6 ≤ X) (hT6 : 6 ≤ T) (hs : s.size ≤ 1000000000) (q : L) (hq : q.length ≤ 1000) (ha : k' ≤ s.size) {n : Nat} (hn : till q (s.data.toList.drop k') = some n) :
  Calls Tryz.prog 89 #[.pointer (some ⟨X, 0, none⟩), .string (bstr q)] W fun e w' => e = .returned (.tuple #[.string (bstr ((s.data.toList.drop k').take n)), .bool true]) ∧ Sk w w' X T s k (k' + n + q.length) kd tx ∧ k' + n + q.length ≤ s.size := by
 refine (Go.Proofs.YtaickkaoglohgaaGreatDoor.till_yes W X s (bstr q) k' n hn h.sc hX6 (h.gl hg hX6 hT6) ha hs (by rw [bstr_size]; exact hq)).mono ?_;rintro e w' ⟨rfl, h1, h2⟩;rw [bstr_size] at h1;rw [extract_bstr, show k' + n - k' = n by omega];have h3 := (till_some hn).2;rw [List.length_drop, size_list] at h3;exact ⟨rfl, h.go hne h2 h1, by omega⟩
theorem Sk.till_no (h : Sk w W X T s k k' kd tx) (hne : X ≠ T) (hg : Gl w) (hX6 : 6 ≤ X) (hT6 : 6 ≤ T) (hs : s.size ≤ 1000000000) (q : L) (hq : q.length ≤ 1000) (ha : k' ≤ s.size) (hn : till q (s.data.toList.drop k') = none) :
  Calls Tryz.prog 89 #[.pointer (some ⟨X, 0, none⟩), .string (bstr q)] W fun e w' => e = .returned (.tuple #[.string ⟨#[]⟩, .bool false]) ∧ Sk w w' X T s k k' kd tx := by
 refine (Go.Proofs.YtaickkaoglohgaaGreatDoor.till_no W X s (bstr q) k' hn h.sc hX6 (h.gl hg hX6 hT6) ha hs (by rw [bstr_size]; exact hq)).mono ?_;rintro e w' ⟨rfl, h1, h2⟩;exact ⟨rfl, h.go hne h2 h1⟩
end
theorem xml_len {n : L} (h : xml n = true) : n.length = 3 := by
 unfold xml at h;have := congrArg List.length (of_decide_eq_true h);rw [List.length_map] at this;exact this
end
end Go.Proofs.YtaickkaoglohgaaGreatDoor
