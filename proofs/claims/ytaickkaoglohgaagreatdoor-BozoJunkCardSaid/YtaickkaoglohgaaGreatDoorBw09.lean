/- Tokens: a start. · Tokens: strings.EqualFold with "xml". -/
import Derived.Test.YtaickkaoglohgaaGreatDoorBw04
import Derived.Test.YtaickkaoglohgaaGreatDoorBw08
import Derived.ScopeJumps
import Derived.WalkMore
import Derived.Laws.RangeString
import Derived.Laws.RangeAny
set_option linter.unusedSimpArgs false
set_option linter.unusedVariables false
namespace Go.Proofs.YtaickkaoglohgaaGreatDoor
section
open Go.RowKit Tk

def StJ (w : World) (base X T : Nat) (s : ByteArray) (k : Nat) (nm : L) (ra : Option (List At × Bool × Nat)) (m : Nat) (a' : Act) (wr : World) : Prop :=
 ∃ (g : Nat → Value) (f k' : Nat) (Ls : List At) (A : Option Addr) (c : Nat), a' = { tmps := List.toArray (.pointer (some ⟨X, 0, none⟩) :: .pointer (some ⟨T, 0, none⟩) :: g 2 :: g 3 :: g 4 :: g 5 :: g 6 :: g 7 :: g 8 :: g 9 :: g 10 :: g 11 :: g 12 :: g 13 :: g 14 :: g 15 :: g 16 :: g 17 :: g 18 :: g 19 :: g 20 :: g 21 :: g 22 :: g 23 :: g 24 :: g 25 :: g 26 :: g 27 :: g 28 :: g 29 :: g 30 :: g 31 :: g 32 :: g 33 :: g 34 :: g 35 :: g 36 :: g 37 :: g 38 :: g 39 :: g 40 :: g 41 :: g 42 :: g 43 :: g 44 :: g 45 :: g 46 :: g 47 :: g 48 :: g 49 :: g 50 :: g 51 :: g 52 :: g 53 :: g 54 :: g 55 :: g 56 :: g 57 :: g 58 :: g 59 :: g 60 :: g 61 :: g 62 :: g 63 :: g 64 :: g 65 :: g 66 :: g 67 :: g 68 :: g 69 :: g 70 :: g 71 :: g 72 :: g 73 :: g 74 :: g 75 :: g 76 :: []), defers := [] } ∧ k' ≤ s.size ∧ k < k' ∧ Ls.length ≤ k' ∧ s.size - k' < f ∧ St1 w wr base X T s k k' (bstr nm) Ls A c ∧ ra = glue Ls (attrs f k' (s.data.toList.drop k')) ∧ 0 < m
theorem StJ.intro {w : World} {base X T : Nat} {s : ByteArray} {k : Nat} {nm : L} {ra : Option (List At × Bool × Nat)} {m : Nat} {a' : Act} {wr : World} {f k' : Nat} {Ls : List At} {A : Option Addr} {c : Nat} 
  (ha : a' = { tmps := List.toArray (.pointer (some ⟨X, 0, none⟩) :: .pointer (some ⟨T, 0, none⟩) :: Array.getD a'.tmps 2 undef :: Array.getD a'.tmps 3 undef :: Array.getD a'.tmps 4 undef :: Array.getD a'.tmps 5 undef :: Array.getD a'.tmps 6 undef :: Array.getD a'.tmps 7 undef :: Array.getD a'.tmps 8 undef :: Array.getD a'.tmps 9 undef :: Array.getD a'.tmps 10 undef :: Array.getD a'.tmps 11 undef :: Array.getD a'.tmps 12 undef :: Array.getD a'.tmps 13 undef :: Array.getD a'.tmps 14 undef :: Array.getD a'.tmps 15 undef :: Array.getD a'.tmps 16 undef :: Array.getD a'.tmps 17 undef :: Array.getD a'.tmps 18 undef :: Array.getD a'.tmps 19 undef :: Array.getD a'.tmps 20 undef :: Array.getD a'.tmps 21 undef :: Array.getD a'.tmps 22 undef :: Array.getD a'.tmps 23 undef :: Array.getD a'.tmps 24 undef :: Array.getD a'.tmps 25 undef :: Array.getD a'.tmps 26 undef :: Array.getD a'.tmps 27 undef :: Array.getD a'.tmps 28 undef :: Array.getD a'.tmps 29 undef :: Array.getD a'.tmps 30 undef :: Array.getD a'.tmps 31 undef :: Array.getD a'.tmps 32 undef :: Array.getD a'.tmps 33 undef :: Array.getD a'.tmps 34 undef :: Array.getD a'.tmps 35 undef :: Array.getD a'.tmps 36 undef :: Array.getD a'.tmps 37 undef :: Array.getD a'.tmps 38 undef :: Array.getD a'.tmps 39 undef :: Array.getD a'.tmps 40 undef :: Array.getD a'.tmps 41 undef :: Array.getD a'.tmps 42 undef :: Array.getD a'.tmps 43 undef :: Array.getD a'.tmps 44 undef :: Array.getD a'.tmps 45 undef :: Array.getD a'.tmps 46 undef :: Array.getD a'.tmps 47 undef :: Array.getD a'.tmps 48 undef :: Array.getD a'.tmps 49 undef :: Array.getD a'.tmps 50 undef :: Array.getD a'.tmps 51 undef :: Array.getD a'.tmps 52 undef :: Array.getD a'.tmps 53 undef :: Array.getD a'.tmps 54 undef :: Array.getD a'.tmps 55 undef :: Array.getD a'.tmps 56 undef :: Array.getD a'.tmps 57 undef :: Array.getD a'.tmps 58 undef :: Array.getD a'.tmps 59 undef :: Array.getD a'.tmps 60 undef :: Array.getD a'.tmps 61 undef :: Array.getD a'.tmps 62 undef :: Array.getD a'.tmps 63 undef :: Array.getD a'.tmps 64 undef :: Array.getD a'.tmps 65 undef :: Array.getD a'.tmps 66 undef :: Array.getD a'.tmps 67 undef :: Array.getD a'.tmps 68 undef :: Array.getD a'.tmps 69 undef :: Array.getD a'.tmps 70 undef :: Array.getD a'.tmps 71 undef :: Array.getD a'.tmps 72 undef :: Array.getD a'.tmps 73 undef :: Array.getD a'.tmps 74 undef :: Array.getD a'.tmps 75 undef :: Array.getD a'.tmps 76 undef :: []), defers := [] }) (h1 : k' ≤ s.size) (h2 : k < k') (h3 : Ls.length ≤ k') (h4 : s.size - k' < f) (h5 : St1 w wr base X T s k k' (bstr nm) Ls A c) (h6 : ra = glue Ls (attrs f k' (s.data.toList.drop k'))) (h7 : 0 < m) : StJ w base X T s k nm ra m a' wr :=
 ⟨fun i => Array.getD a'.tmps i undef, f, k', Ls, A, c, ha, h1, h2, h3, h4, h5, h6, h7⟩

set_option maxHeartbeats 32000000 in
set_option maxRecDepth 20000 in
theorem start_any (w : World) (base X T : Nat) (s : ByteArray) (k : Nat) (hX : Sc w X s k) (hT : T0 w T k) (hne : X ≠ T) (hX6 : 6 ≤ X) (hT6 : 6 ≤ T) (hg : Gl w) (hbase : base = w.heap.size) (ha : k < s.size) (hs : s.size ≤ 1000000000) :
  Calls Tryz.prog 55 #[.pointer (some ⟨X, 0, none⟩), .pointer (some ⟨T, 0, none⟩)] w (PieceR w base X T s k (Tk.start k (s.data.toList.drop k))) := by
 obtain ⟨D, hD⟩ : ∃ D, s.data.toList = D := ⟨_, rfl⟩;have hDl : D.length = s.size := by rw [← hD, size_list]
 have HN := hide fun W j (hW : Sc W X s j) (hj : j ≤ s.size) => name_any W X s j hW hj hs;have HB := hide fun W j (hW : Sc W X s j) (hj : j ≤ s.size) => blanks_any W X s j hW hj hs
 have HI2 := hide fun W j (hW : Sc W X s j) (hj : j ≤ s.size) => (show Calls Tryz.prog 86 #[.pointer (some ⟨X, 0, none⟩), .string ⟨#[47, 62]⟩] W fun e w' => e = .returned (.bool (([47, 62] : L).isPrefixOf (D.drop j))) ∧ Sc w' X s (if ([47, 62] : L).isPrefixOf (D.drop j) = true then j + 2 else j) ∧ But X W w' from by
  have h := isp_any W X s ⟨#[47, 62]⟩ j hW hj hs (by decide);rw [hD] at h;exact h)
 have HI1 := hide fun W j (hW : Sc W X s j) (hj : j ≤ s.size) => (show Calls Tryz.prog 86 #[.pointer (some ⟨X, 0, none⟩), .string ⟨#[62]⟩] W fun e w' => e = .returned (.bool (([62] : L).isPrefixOf (D.drop j))) ∧ Sc w' X s (if ([62] : L).isPrefixOf (D.drop j) = true then j + 1 else j) ∧ But X W w' from by
  have h := isp_any W X s ⟨#[62]⟩ j hW hj hs (by decide);rw [hD] at h;exact h)
 have HV := hide fun W j (hW : Sc W X s j) (hb : But2 X T w W) (hj : j ≤ s.size) => value_any W X s j hW hX6 (hg.but2 hb hX6 hT6) hj hs;have HP := hide fun (v : L) W => (show Calls Tryz.prog 88 #[.string (bstr v), .int .u8 60] W fun e w' => e = .returned (.int .i64 (Lib.indexByte v 60)) ∧ w' = W from Tryz.strings_IndexByte (bstr v) 60 W);have HD := hide hD;rw [hD] at HN HB HV ⊢;obtain ⟨m, hm⟩ : ∃ m, take (D.drop (k + 1)) = m := ⟨_, rfl⟩;have hml : k + 1 + m ≤ s.size := by have := take_le (D.drop (k + 1)); rw [List.length_drop, hDl] at this; omega
 obtain ⟨nm, hnm⟩ : ∃ nm, (D.drop (k + 1)).take m = nm := ⟨_, rfl⟩;have hex : s.extract (k + 1) (k + 1 + m) = bstr nm := by rw [extract_bstr, hD, show k + 1 + m - (k + 1) = m by omega, hnm]
 obtain ⟨res, hres⟩ : ∃ o, Tk.start k (D.drop k) = o := ⟨_, rfl⟩;obtain ⟨ra, hra⟩ : ∃ o, attrs (s.size - k) (k + 1 + m) (D.drop (k + 1 + m)) = o := ⟨_, rfl⟩;rw [hres]
 have hR : res = if m = 0 then none else ra.map fun x => ⟨0, nm, x.1, x.2.1, [], k, x.2.2⟩ := by
  rw [← hres, ← hra];unfold Tk.start;rw [List.tail_drop, hm, hnm, List.drop_drop, List.length_drop, hDl, Nat.add_assoc k 1 m]
 have hE : ((bstr nm).toList == ([] : L)) = decide (m = 0) := by
  rw [str_emp', ← hnm, Bool.eq_iff_iff, List.isEmpty_iff, decide_eq_true_eq]
  constructor
  ·intro h;have := congrArg List.length h;rw [List.length_take, List.length_nil, List.length_drop, hDl] at this;omega
  intro h; rw [h, List.take_zero]
 have HR := hide hR;have HRA := hide hra;have HS0 := hide hX;have HT0 := hide hT;have HBS := hide hbase;have HML := hide hml;have q1 := Sc.c1 hX;have f1 := Sc.f1 hX
 have HN0 := hide (fun W (hW : Sc W X s (k + 1)) => (show Calls Tryz.prog 84 #[.pointer (some ⟨X, 0, none⟩)] W fun e w' => e = .returned (.string (bstr nm)) ∧ Sc w' X s (k + 1 + m) ∧ But X W w' from by
  have h := HN.out W (k + 1) hW (by omega);rw [hm, hex] at h;exact h))
 have HDl := hide hDl;clear hres hR hX hT hra hex hml hnm hm hD hDl hbase;have hw2 : IntKind.i64.wrap ((k : Int) + 1) = (k : Int) + 1 := IntWalk.i64_in _ (by omega)
 go_enter Tryz.func55, Tryz.ntmps55
 go_wp2;refine wp_scope_one 0 (StJ w base X T s k nm ra m) (fun _ wr => s.size - atOf wr X) rfl (fun hpass => ?_) ?_
 ·go_wp2_with fail
  have S1 := hide (Sc.move HS0.out (k + 1));have T1 := hide (Tb.far (i := 1) HT0.out (Ne.symm hne) (.int .i64 ((k + 1 : Nat) : Int)));have B1 := hide ((But2.refl X T w).setCell (p := ⟨X, 1, none⟩) (.inl rfl) (.int .i64 ((k + 1 : Nat) : Int)));clear q1 f1 HS0 HT0;refine (HN0.out _ S1.out).mono ?_;rintro e w2 ⟨rfl, s2, b2⟩;have T2 := hide (T1.out.at_but b2 (Ne.symm hne));have B2 := hide (B1.out.one b2);have S2 := hide s2;have f0 := Tb.f T2.out 1;have c0 := Tb.c1 T2.out;clear s2 b2 HN0 S1 T1 B1
  by_cases h0 : m = 0
  ·rw [decide_eq_true h0] at hE;have HR0 := hide (show res = none by rw [HR.out, if_pos h0]);clear h0 HR;go_wp2;simp only [Exit.jump];go_ret;exact PieceR.no HR0.out (B2.out.setCell (p := ⟨T, 1, none⟩) (.inr (.inl rfl)) (.string (bstr nm))) rfl HML.out (Sc.far (i := 1) S2.out hne (.string (bstr nm))) ⟨_, _, _, _, _, _, _, Tb.name_ T2.out (bstr nm)⟩
  rw [decide_eq_false h0] at hE;have H0 := hide (show 0 < m by omega);clear h0 HR
  have HS := hide (show St1 w (w2.setCell ⟨T, 1, none⟩ (.string (bstr nm))) base X T s k (k + 1 + m) (bstr nm) [] none 0 from
   ⟨Sc.far (i := 1) S2.out hne (.string (bstr nm)), Tb.name_ T2.out (bstr nm), World.ownsRow_nil _ _ _ _, B2.out.setCell (p := ⟨T, 1, none⟩) (.inr (.inl rfl)) (.string (bstr nm))⟩)
  go_wp2
  go_step3
  rename_i hK
  refine hK _ _ (hpass _ _ ?_);refine StJ.intro ?_ HML.out (by omega) (Nat.zero_le _) (f := s.size - k) (by have := H0.out; have := HML.out; omega) HS.out (by rw [HD.out, HRA.out]; simp [glue]) H0.out;rfl
 rintro a' wr ⟨g, f, k', Ls, A, c0, rfl, hk1, hk2, hk3, hf, hSt, hglue, h0⟩;have HR0 := hide (show res = ra.map fun x => ⟨0, nm, x.1, x.2.1, [], k, x.2.2⟩ by rw [HR.out, if_neg (by omega)]);have Hm0 := hide h0;clear HR h0;rw [HD.out] at hglue;obtain ⟨f, rfl⟩ : ∃ f', f = f' + 1 := ⟨f - 1, by omega⟩;obtain ⟨d, hd⟩ : ∃ d, D.drop k' = d := ⟨_, rfl⟩;obtain ⟨m1, hm1⟩ : ∃ m, nsp d = m := ⟨_, rfl⟩;have hdl : d.length = s.size - k' := by rw [← hd, List.length_drop, HDl.out]
 have hml1 : k' + m1 ≤ s.size := by have := nsp_le d; omega
 obtain ⟨d1, hd1⟩ : ∃ d1, d.drop m1 = d1 := ⟨_, rfl⟩;have hdd : D.drop (k' + m1) = d1 := by rw [← hd1, ← hd, List.drop_drop]
 have HB1 := hide (HB.out wr k' hSt.sc hk1);rw [hd, hm1] at HB1;have HJ2 := hide fun W (hW : Sc W X s (k' + m1)) => HI2.out W (k' + m1) hW hml1;have HJ1 := hide fun W (hW : Sc W X s (k' + m1)) => HI1.out W (k' + m1) hW hml1;rw [hdd] at HJ2 HJ1;have HG := hide (show ra = glue Ls (attrs (f + 1) k' d) by rw [hglue, hd]);have HQ := hide hSt;have Hat := hide hSt.sc.atOf;have Hm1 := hide hml1;have Hf := hide hf;have Hk2 := hide hk2;have Hk3 := hide hk3;clear HB HI2 HI1 hglue hSt hf hk2 hk3 hk1
 cases hp2 : ([47, 62] : L).isPrefixOf d1 with
 | true =>
  have HRr := hide (show res = some ⟨0, nm, Ls, true, [], k, k' + m1 + 2⟩ by
   rw [HR0.out, HG.out, attrs_end2 (by rw [hm1, hd1]; exact hp2), glue_end, hm1]; rfl)
  have Hl := hide (show k' + m1 + 2 ≤ s.size by
   have := pfx_len hp2;rw [← hdd, List.length_drop, HDl.out] at this;have e : ([47, 62] : L).length = 2 := rfl
   omega)
  rw [hp2] at HJ2;clear HJ1 HG hp2 hd hm1 hd1 hdd hml1 HN HV HP
  go_wp2_with fail
  refine HB1.out.mono ?_;rintro e w1 ⟨rfl, s1, b1⟩;have Q1 := hide (HQ.out.go hne b1 s1);clear s1 b1 HQ HB1
  go_wp2_with fail
  refine (HJ2.out _ Q1.out.sc).mono ?_;rintro e w2 ⟨rfl, s2, b2⟩;replace s2 : Sc w2 X s (k' + m1 + 2) := by simpa using s2
  have Q2 := hide (Q1.out.go hne b2 s2);have f3 := Tb.f Q2.out.tb 3;have c3 := Tb.c3 Q2.out.tb;clear s2 b2 Q1 HJ2;go_wp2;simp only [Exit.jump];go_ret;obtain ⟨r1, r2, r3, r4⟩ := Q2.out.empty_ hne;exact PieceR.yes (t := ⟨0, nm, Ls, true, [], k, k' + m1 + 2⟩) HRr.out r4 rfl Hl.out (by have := Hk2.out; dsimp only; omega) r1 ⟨A, c0, r2, r3⟩
 | false =>
  rw [hp2] at HJ2
  cases hp1 : ([62] : L).isPrefixOf d1 with
  | true =>
   have HRr := hide (show res = some ⟨0, nm, Ls, false, [], k, k' + m1 + 1⟩ by
    rw [HR0.out, HG.out, attrs_end1 (by rw [hm1, hd1]; exact hp2) (by rw [hm1, hd1]; exact hp1), glue_end, hm1]; rfl)
   have Hl := hide (show k' + m1 + 1 ≤ s.size by
    have := pfx_len hp1;rw [← hdd, List.length_drop, HDl.out] at this;have e : ([62] : L).length = 1 := rfl
    omega)
   rw [hp1] at HJ1;clear HG hp2 hp1 hd hm1 hd1 hdd hml1 HN HV HP
   go_wp2_with fail
   refine HB1.out.mono ?_;rintro e w1 ⟨rfl, s1, b1⟩;have Q1 := hide (HQ.out.go hne b1 s1);clear s1 b1 HQ HB1
   go_wp2_with fail
   refine (HJ2.out _ Q1.out.sc).mono ?_;rintro e w2 ⟨rfl, s2, b2⟩;replace s2 : Sc w2 X s (k' + m1) := by simpa using s2
   have Q2 := hide (Q1.out.go hne b2 s2);clear s2 b2 Q1 HJ2
   go_wp2_with fail
   refine (HJ1.out _ Q2.out.sc).mono ?_;rintro e w3 ⟨rfl, s3, b3⟩;replace s3 : Sc w3 X s (k' + m1 + 1) := by simpa using s3
   have Q3 := hide (Q2.out.go hne b3 s3);clear s3 b3 Q2 HJ1;go_wp2;simp only [Exit.jump];go_ret;exact PieceR.yes (t := ⟨0, nm, Ls, false, [], k, k' + m1 + 1⟩) HRr.out Q3.out.but rfl Hl.out (by have := Hk2.out; dsimp only; omega) Q3.out.sc ⟨A, c0, Q3.out.tb, Q3.out.own⟩
  | false =>
   rw [hp1] at HJ1
   by_cases h0 : m1 = 0
   ·have HRr := hide (show res = none by
     rw [HR0.out, HG.out, attrs_tight (by rw [hm1, hd1]; exact hp2) (by rw [hm1, hd1]; exact hp1) (by rw [hm1]; exact h0)]; rfl)
    rw [decide_eq_false (show ¬ 0 < m1 by omega)] at HB1;clear HG hp2 hp1 hd hm1 hd1 hdd hml1 HN HV HP h0
    go_wp2_with fail
    refine HB1.out.mono ?_;rintro e w1 ⟨rfl, s1, b1⟩;have Q1 := hide (HQ.out.go hne b1 s1);clear s1 b1 HQ HB1
    go_wp2_with fail
    refine (HJ2.out _ Q1.out.sc).mono ?_;rintro e w2 ⟨rfl, s2, b2⟩;replace s2 : Sc w2 X s (k' + m1) := by simpa using s2
    have Q2 := hide (Q1.out.go hne b2 s2);clear s2 b2 Q1 HJ2
    go_wp2_with fail
    refine (HJ1.out _ Q2.out.sc).mono ?_;rintro e w3 ⟨rfl, s3, b3⟩;replace s3 : Sc w3 X s (k' + m1) := by simpa using s3
    have Q3 := hide (Q2.out.go hne b3 s3);clear s3 b3 Q2 HJ1;go_wp2;simp only [Exit.jump];go_ret;exact PieceR.no HRr.out Q3.out.but rfl Hm1.out Q3.out.sc Q3.out.some_
   rw [decide_eq_true (show 0 < m1 by omega)] at HB1;obtain ⟨j, hj⟩ : ∃ j, k' + m1 = j := ⟨_, rfl⟩;obtain ⟨m2, hm2⟩ : ∃ m, take d1 = m := ⟨_, rfl⟩;obtain ⟨d2, hd2⟩ : ∃ d2, d1.drop m2 = d2 := ⟨_, rfl⟩;obtain ⟨o, ho⟩ : ∃ o, eqv d2 = o := ⟨_, rfl⟩;obtain ⟨na, hna⟩ : ∃ na, d1.take m2 = na := ⟨_, rfl⟩;have hdl1 : d1.length = s.size - j := by rw [← hd1, List.length_drop, hdl]; omega
   have hml2 : m2 ≤ s.size - j := by have := take_le d1; omega
   rw [hj] at hdd hml1 HJ2 HJ1 Hm1 HB1
   have HA := hide (show attrs (f + 1) k' d = if m2 = 0 then none else o.bind fun x => if (60 : UInt8) ∈ x.1 then none else (attrs f (j + m2 + x.2) (d1.drop (m2 + x.2))).map fun y => (⟨na, x.1, j⟩ :: y.1, y.2) by
    rw [attrs_more (by rw [hm1, hd1]; exact hp2) (by rw [hm1, hd1]; exact hp1) (by rw [hm1]; exact h0), hm1, hd1, hm2, hd2, ho, hna, hj])
   have HNa := hide fun W (hW : Sc W X s j) => (show Calls Tryz.prog 84 #[.pointer (some ⟨X, 0, none⟩)] W fun e w' => e = .returned (.string (bstr na)) ∧ Sc w' X s (j + m2) ∧ But X W w' from by
    have h := HN.out W j hW hml1;rw [hdd, hm2, extract_bstr, HD.out, hdd, show j + m2 - j = m2 by omega, hna] at h;exact h)
   have hd2' : D.drop (j + m2) = d2 := by rw [← List.drop_drop, hdd, hd2]
   have HVa := hide fun W (hW : Sc W X s (j + m2)) (hb : But2 X T w W) => (show Calls Tryz.prog 87 #[.pointer (some ⟨X, 0, none⟩)] W (ValR W X s (j + m2) o) from by
    have h := HV.out W (j + m2) hW hb (by omega);rw [hd2', ho] at h;exact h)
   have hEa : ((bstr na).toList == ([] : L)) = decide (m2 = 0) := by
    rw [str_emp', ← hna, Bool.eq_iff_iff, List.isEmpty_iff, decide_eq_true_eq]
    constructor
    ·intro h;have := congrArg List.length h;rw [List.length_take, List.length_nil, hdl1] at this;omega
    intro h; rw [h, List.take_zero]
   have Hj := hide (show k' < j by omega);have Hml2 := hide (show j + m2 ≤ s.size by omega);have hDj := hide (show ∀ n, D.drop (j + n) = d1.drop n from fun n => by rw [← List.drop_drop, hdd]);clear hp2 hp1 hd hm1 hd1 hdd hml1 HN HV h0 hj hm2 hd2 ho hna hdl1 hml2 hd2' hdl
   go_wp2_with fail
   refine HB1.out.mono ?_;rintro e w1 ⟨rfl, s1, b1⟩;have Q1 := hide (HQ.out.go hne b1 s1);clear s1 b1 HQ HB1
   go_wp2_with fail
   refine (HJ2.out _ Q1.out.sc).mono ?_;rintro e w2 ⟨rfl, s2, b2⟩;replace s2 : Sc w2 X s j := by simpa using s2
   have Q2 := hide (Q1.out.go hne b2 s2);clear s2 b2 Q1 HJ2
   go_wp2_with fail
   refine (HJ1.out _ Q2.out.sc).mono ?_;rintro e w3 ⟨rfl, s3, b3⟩;replace s3 : Sc w3 X s j := by simpa using s3
   have Q3 := hide (Q2.out.go hne b3 s3);have c1 := Sc.c1 Q3.out.sc;clear s3 b3 Q2 HJ1;have HY := hide (show w3.heap.size ≠ X from fun e => by have := Blk.lt Q3.out.sc; omega);have HYT := hide (show w3.heap.size ≠ T from fun e => by have := Blk.lt Q3.out.tb; omega);have HYO := hide (show (Value.slice A Ls.length c0).ownBlock ≠ some w3.heap.size from fun e => by have := (own_isT Q3.out.own _ e).2.lt; omega);have HYw := hide Q3.out.but.size
   go_wp2_with fail
   refine (HNa.out _ (Q3.out.alloc _).sc).mono ?_;rintro e w4 ⟨rfl, s4, b4⟩;have Q4 := hide ((Q3.out.alloc _).go hne b4 s4);have Y4 := hide (b4.blk (Blk.new w3 114 #[.string ⟨#[]⟩, .string ⟨#[]⟩, .int .i64 (j : Int)]) HY.out);generalize w3.heap.size = Y at *
   have y0 := Y4.out.cell 0;have fy0 := Y4.out.frozen 0;clear s4 b4 c1 Q3 HNa
   go_wp2_with fail
   have Q5 := hide (Q4.out.far (p := ⟨Y, 0, none⟩) HYw.out HY.out.symm HYT.out.symm HYO.out (.string (bstr na)))
   have Y5 := hide (show Blk (w4.setCell ⟨Y, 0, none⟩ (.string (bstr na))) Y 114 #[.string (bstr na), .string ⟨#[]⟩, .int .i64 (j : Int)] from by
    have := Blk.set_ Y4.out 0 (.string (bstr na))
    simpa using this)
   clear y0 fy0 Q4 Y4;refine (HVa.out _ Q5.out.sc Q5.out.but).mono ?_;rintro e w6 ⟨b6, h6⟩
   cases o with
   | none =>
    obtain ⟨rfl, k6, l6a, l6, s6⟩ := h6
    have HRr := hide (show res = none by
     rw [HR0.out, HG.out, HA.out, Option.bind_none, ite_self]; rfl)
    have Q6 := hide (Q5.out.go hne b6 s6);have Y6 := hide (b6.blk Y5.out HY.out);have y0 := Y6.out.cell 0;have L6 := hide l6;clear s6 b6 l6 l6a Q5 Y5 HVa HA HG
    by_cases h0 : m2 = 0
    ·rw [decide_eq_true h0] at hEa;clear h0;go_wp2;simp only [Exit.jump];go_ret;exact PieceR.no HRr.out Q6.out.but rfl L6.out Q6.out.sc Q6.out.some_
    rw [decide_eq_false h0] at hEa;clear h0;go_wp2;simp only [Exit.jump];go_ret;exact PieceR.no HRr.out Q6.out.but rfl L6.out Q6.out.sc Q6.out.some_
   | some x =>
    obtain ⟨v, n2⟩ := x;obtain ⟨rfl, l6, s6⟩ := h6;dsimp only at l6 s6;have Q6 := hide (Q5.out.go hne b6 s6);have Y6 := hide (b6.blk Y5.out HY.out);have y0 := Y6.out.cell 0;have L6 := hide l6;have HP' := hide (HP.out v);rw [Option.bind_some] at HA;have hz := lt_in v;obtain ⟨z, hze⟩ : ∃ z, Lib.indexByte v 60 = z := ⟨_, rfl⟩;rw [hze] at HP' hz;clear s6 b6 l6 Q5 Y5 HVa HP hze
    by_cases h0 : m2 = 0
    ·rw [decide_eq_true h0] at hEa
     have HRr := hide (show res = none by
      rw [HR0.out, HG.out, HA.out, if_pos h0]; rfl)
     clear h0 HA HG hz;go_wp2;simp only [Exit.jump];go_ret;exact PieceR.no HRr.out Q6.out.but rfl L6.out Q6.out.sc Q6.out.some_
    rw [decide_eq_false h0] at hEa;have H0 := hide h0;clear h0
    by_cases hz0 : 0 ≤ z
    ·have HRr := hide (show res = none by
      rw [HR0.out, HG.out, HA.out, if_neg H0.out, if_pos (hz.1 hz0)]; rfl)
     have hd0 : decide (0 ≤ z) = true := decide_eq_true hz0;clear HA HG hz
     go_wp2_with fail
     refine (HP'.out _).mono ?_;rintro e w7 ⟨rfl, rfl⟩;go_wp2;simp only [Exit.jump];go_ret;exact PieceR.no HRr.out Q6.out.but rfl L6.out Q6.out.sc Q6.out.some_
    have HRA2 := hide (show ra = glue (Ls ++ [⟨na, v, j⟩]) (attrs f (j + m2 + n2) (D.drop (j + m2 + n2))) by
     rw [HG.out, HA.out, if_neg H0.out, if_neg (fun h => hz0 (hz.2 h)), glue_more, Nat.add_assoc j m2 n2, hDj.out])
    have hd0 : decide (0 ≤ z) = false := decide_eq_false hz0;have y1 := Y6.out.cell 1;have fy1 := Y6.out.frozen 1;clear HA HG hz
    go_wp2_with fail
    refine (HP'.out _).mono ?_;rintro e w7 ⟨rfl, rfl⟩;go_wp2;have Q7 := hide (Q6.out.far (p := ⟨Y, 1, none⟩) HYw.out HY.out.symm HYT.out.symm HYO.out (.string (bstr v)))
    have Y7 := hide (show Blk (w7.setCell ⟨Y, 1, none⟩ (.string (bstr v))) Y 114 #[.string (bstr na), .string (bstr v), .int .i64 (j : Int)] from by
     have := Blk.set_ Y6.out 1 (.string (bstr v))
     simpa using this)
    clear y0 y1 fy1 Q6 Y6 HP';generalize w7.setCell ⟨Y, 1, none⟩ (.string (bstr v)) = W7 at *
    have c2 := Tb.c2 Q7.out.tb;have f2 := Tb.f Q7.out.tb 2;have y0 := Y7.out.cell 0;have y1 := Y7.out.cell 1;have y2 := Y7.out.cell 2;have xa : ∀ o, (W7.alloc o).cell? ⟨T, 2, none⟩ = some (.slice A Ls.length c0) := fun o => Tb.c2 (Blk.alloc Q7.out.tb o);have HNE := hide (own_blk_ne Q7.out.own Q7.out.tb (by decide)).symm;have HL := hide (show Ls.length ≤ 1000000000 by have := Hk3.out; have := Hj.out; have := L6.out; omega);have HB7 := hide (show base ≤ W7.heap.size by have := HBS.out; have := Q7.out.but.size; omega)
    go_region_law
     (show if Region.wanted (⟨some 74, _, _, _, _, _⟩ : Oper) _ = true then _ else _; refine step_append_elem _ (by rfl) _ _ _ (by rfl) base 114 _ 3 40 Tryz.underlying53 info_att (by rfl) (by omega) (.slice A Ls.length c0) Ls.length (attrVs Ls) (by rfl) (by first | exact Q7.out.own.alloc _ | exact (Q7.out.own.alloc _).drew) [.string (bstr na), .string (bstr v), .int .i64 (j : Int)] rfl (att_one ⟨na, v, j⟩) W7.heap.size (by first | exact Blk.new W7 114 _ | exact (Blk.new W7 114 _).drew) (by rfl) (by unfold maxLen; have := HL.out; omega) (by have := HL.out; omega) (by have := HB7.out; simp [World.drew]; omega) ?_; intro gg cap w8 hown8 hgrow8 hlt8; have T8 := hide (show Blk w8 T 55 #[.int .i8 0, .string (bstr nm), .slice A Ls.length c0, .bool false, .string ⟨#[]⟩, .int .i64 (k : Int), .int .i64 ((0 : Nat) : Int)] from Blk.grown (Blk.drew (Blk.alloc Q7.out.tb (.cells #[.string (bstr na), .string (bstr v), .int .i64 (j : Int)] 114))) hgrow8 HNE.out); have c2' : w8.cell? ⟨T, 2, none⟩ = some (.slice A Ls.length c0) := T8.out.cell 2; have f2' := T8.out.frozen 2; have Hgrow8 := hide hgrow8; have Hown8 := hide hown8; clear hown8 hgrow8 hlt8)
    all_goals go_wp2
    all_goals
     have Q8 := hide (Q7.out.app ⟨na, v, j⟩ HBS.out hne Hgrow8.out Hown8.out)
     go_step3
     refine jump_goto ⟨?_, ?_⟩
     ·refine StJ.intro (by rfl) L6.out (by have := Hk2.out; have := Hj.out; omega) (by have := Hk3.out; have := Hj.out; simp; omega) (f := f) (by have := Hf.out; have := Hj.out; have := L6.out; omega) Q8.out (by rw [HD.out]; exact HRA2.out) (by have := Hm0.out; omega)
     rw [Q8.out.sc.atOf, Hat.out];have := Hj.out;have := L6.out;omega
end
section
open Go.RowKit Tk

set_option maxHeartbeats 4000000 in
theorem fold_one (p : Nat × Int) (hp : p ∈ ([(120, 88), (88, 120), (109, 77), (77, 109), (108, 76), (76, 108)] : List (Nat × Int))) (w : World) (hg : Gl w) :
  Calls Tryz.prog 118 #[.int .i32 (p.1 : Int)] w fun e w' => e = .returned (.int .i32 p.2) ∧ w' = w := by
 have hc := hg.fold p hp;clear hg;simp only [List.mem_cons, List.not_mem_nil, or_false] at hp
 rcases hp with rfl | rfl | rfl | rfl | rfl | rfl
 all_goals
  dsimp only at hc ⊢
  go_enter Tryz.func118, Tryz.ntmps118
  go_wp2;go_ret;exact ⟨rfl, rfl⟩
def sXmlName : L := [120, 109, 108]
def foldRest (l : L) (k : Nat) : Bool := decide ((l.drop k).map lower = sXmlName.drop k)
theorem foldRest_next {l : L} {k : Nat} {c t : UInt8} (hc : l[k]? = some c) (ht : sXmlName[k]? = some t) : foldRest l k = (decide (lower c = t) && foldRest l (k + 1)) := by
 obtain ⟨h1, h2⟩ := List.getElem?_eq_some_iff.1 hc;obtain ⟨h3, h4⟩ := List.getElem?_eq_some_iff.1 ht;unfold foldRest;rw [List.drop_eq_getElem_cons h1, List.drop_eq_getElem_cons h3, h2, h4, List.map_cons, Bool.eq_iff_iff, decide_eq_true_eq, Bool.and_eq_true, decide_eq_true_eq, decide_eq_true_eq];simp
theorem foldRest_end {l : L} {k : Nat} (hk : k = min l.length 3) : foldRest l k = decide (l.length = 3) := by
 unfold foldRest;rw [Bool.eq_iff_iff, decide_eq_true_eq, decide_eq_true_eq]
 constructor
 ·intro h;have := congrArg List.length h;rw [List.length_map, List.length_drop, List.length_drop] at this;have e : sXmlName.length = 3 := rfl;omega
 intro h;have h3 : k = 3 := by omega
 subst h3;rw [List.drop_of_length_le (by omega), List.drop_of_length_le (by exact Nat.le_refl _)];rfl
theorem or_big (c t : UInt8) (ht : t ∈ sXmlName) : decide ((128 : Int) ≤ bits BinOp.or IntKind.u8 (c.toNat : Int) (t.toNat : Int)) = decide (128 ≤ c.toNat) := by
 have h1 : ∀ n : Fin 256, decide ((128 : Int) ≤ bits BinOp.or IntKind.u8 (n.val : Int) 120) = decide (128 ≤ n.val) := by decide +kernel
 have h2 : ∀ n : Fin 256, decide ((128 : Int) ≤ bits BinOp.or IntKind.u8 (n.val : Int) 109) = decide (128 ≤ n.val) := by decide +kernel
 have h3 : ∀ n : Fin 256, decide ((128 : Int) ≤ bits BinOp.or IntKind.u8 (n.val : Int) 108) = decide (128 ≤ n.val) := by decide +kernel
 simp only [sXmlName, List.mem_cons, List.not_mem_nil, or_false] at ht
 rcases ht with rfl | rfl | rfl
 ·exact h1 ⟨c.toNat, c.toNat_lt⟩
 ·exact h2 ⟨c.toNat, c.toNat_lt⟩
 exact h3 ⟨c.toNat, c.toNat_lt⟩
theorem lower_is (c t : UInt8) (ht : t ∈ sXmlName) : decide (lower c = t) = (decide (c.toNat = t.toNat) || decide (c.toNat + 32 = t.toNat)) := by
 have h1 : ∀ n : Fin 256, decide (lower (UInt8.ofNat n.val) = 120) = (decide (n.val = 120) || decide (n.val + 32 = 120)) := by decide +kernel
 have h2 : ∀ n : Fin 256, decide (lower (UInt8.ofNat n.val) = 109) = (decide (n.val = 109) || decide (n.val + 32 = 109)) := by decide +kernel
 have h3 : ∀ n : Fin 256, decide (lower (UInt8.ofNat n.val) = 108) = (decide (n.val = 108) || decide (n.val + 32 = 108)) := by decide +kernel
 have e : UInt8.ofNat c.toNat = c := UInt8.ofNat_toNat;simp only [sXmlName, List.mem_cons, List.not_mem_nil, or_false] at ht
 rcases ht with rfl | rfl | rfl
 ·have := h1 ⟨c.toNat, c.toNat_lt⟩; rw [e] at this; exact this
 ·have := h2 ⟨c.toNat, c.toNat_lt⟩; rw [e] at this; exact this
 have := h3 ⟨c.toNat, c.toNat_lt⟩; rw [e] at this; exact this
theorem name_lt {t : UInt8} (ht : t ∈ sXmlName) : 97 ≤ t.toNat ∧ t.toNat ≤ 122 := by
 simp only [sXmlName, List.mem_cons, List.not_mem_nil, or_false] at ht
 rcases ht with rfl | rfl | rfl <;> decide
theorem decode_big (s : ByteArray) (i : Nat) (h : i < s.size) (hb : 128 ≤ (s[i]'h).toNat) : 128 ≤ (Utf8.decode s i).1 := by
 have e : s.get! (i + 0) = s[i]'h := by
  show s.get! i = _;simp [ByteArray.get!, getElem!_pos, h];rfl
 unfold Utf8.decode;simp only [e];rw [if_neg (by omega)];split
 ·split
  ·assumption
  decide
 split
 ·split
  ·rename_i h2
   simp at h2;dsimp only;omega
  decide
 split
 ·split
  ·rename_i h2
   simp at h2;dsimp only;omega
  decide
 decide

def FoldJ (w : World) (s : ByteArray) (a' : Act) (wr : World) : Prop :=
 ∃ (g : Nat → Value) (k : Nat) (c : UInt8), a' = { tmps := List.toArray (.string s :: .string ⟨#[120, 109, 108]⟩ :: g 2 :: g 3 :: g 4 :: .int .i64 (k : Int) :: g 6 :: g 7 :: g 8 :: g 9 :: g 10 :: g 11 :: g 12 :: g 13 :: g 14 :: g 15 :: g 16 :: g 17 :: g 18 :: g 19 :: g 20 :: g 21 :: g 22 :: g 23 :: g 24 :: g 25 :: g 26 :: g 27 :: g 28 :: g 29 :: g 30 :: g 31 :: g 32 :: g 33 :: g 34 :: g 35 :: g 36 :: g 37 :: g 38 :: g 39 :: g 40 :: g 41 :: g 42 :: g 43 :: g 44 :: g 45 :: g 46 :: g 47 :: g 48 :: g 49 :: g 50 :: g 51 :: g 52 :: g 53 :: g 54 :: g 55 :: g 56 :: g 57 :: g 58 :: g 59 :: g 60 :: g 61 :: g 62 :: g 63 :: g 64 :: g 65 :: g 66 :: g 67 :: g 68 :: g 69 :: g 70 :: g 71 :: g 72 :: g 73 :: g 74 :: g 75 :: g 76 :: g 77 :: g 78 :: g 79 :: g 80 :: g 81 :: g 82 :: g 83 :: g 84 :: g 85 :: g 86 :: g 87 :: g 88 :: g 89 :: g 90 :: g 91 :: g 92 :: g 93 :: g 94 :: g 95 :: g 96 :: g 97 :: g 98 :: g 99 :: g 100 :: g 101 :: g 102 :: g 103 :: g 104 :: g 105 :: g 106 :: g 107 :: g 108 :: g 109 :: g 110 :: g 111 :: g 112 :: g 113 :: g 114 :: g 115 :: g 116 :: g 117 :: g 118 :: g 119 :: g 120 :: g 121 :: g 122 :: []), defers := [] } ∧ k < 3 ∧ s.data.toList[k]? = some c ∧ 128 ≤ c.toNat ∧ foldRest s.data.toList 0 = false ∧ wr = w
theorem FoldJ.intro {w wr : World} {s : ByteArray} {a' : Act} {k : Nat} {c : UInt8} (ha : a' = { tmps := List.toArray (.string s :: .string ⟨#[120, 109, 108]⟩ :: Array.getD a'.tmps 2 undef :: Array.getD a'.tmps 3 undef :: Array.getD a'.tmps 4 undef :: .int .i64 (k : Int) :: Array.getD a'.tmps 6 undef :: Array.getD a'.tmps 7 undef :: Array.getD a'.tmps 8 undef :: Array.getD a'.tmps 9 undef :: Array.getD a'.tmps 10 undef :: Array.getD a'.tmps 11 undef :: Array.getD a'.tmps 12 undef :: Array.getD a'.tmps 13 undef :: Array.getD a'.tmps 14 undef :: Array.getD a'.tmps 15 undef :: Array.getD a'.tmps 16 undef :: Array.getD a'.tmps 17 undef :: Array.getD a'.tmps 18 undef :: Array.getD a'.tmps 19 undef :: Array.getD a'.tmps 20 undef :: Array.getD a'.tmps 21 undef :: Array.getD a'.tmps 22 undef :: Array.getD a'.tmps 23 undef :: Array.getD a'.tmps 24 undef :: Array.getD a'.tmps 25 undef :: Array.getD a'.tmps 26 undef :: Array.getD a'.tmps 27 undef :: Array.getD a'.tmps 28 undef :: Array.getD a'.tmps 29 undef :: Array.getD a'.tmps 30 undef :: Array.getD a'.tmps 31 undef :: Array.getD a'.tmps 32 undef :: Array.getD a'.tmps 33 undef :: Array.getD a'.tmps 34 undef :: Array.getD a'.tmps 35 undef :: Array.getD a'.tmps 36 undef :: Array.getD a'.tmps 37 undef :: Array.getD a'.tmps 38 undef :: Array.getD a'.tmps 39 undef :: Array.getD a'.tmps 40 undef :: Array.getD a'.tmps 41 undef :: Array.getD a'.tmps 42 undef :: Array.getD a'.tmps 43 undef :: Array.getD a'.tmps 44 undef :: Array.getD a'.tmps 45 undef :: Array.getD a'.tmps 46 undef :: Array.getD a'.tmps 47 undef :: Array.getD a'.tmps 48 undef :: Array.getD a'.tmps 49 undef :: Array.getD a'.tmps 50 undef :: Array.getD a'.tmps 51 undef :: Array.getD a'.tmps 52 undef :: Array.getD a'.tmps 53 undef :: Array.getD a'.tmps 54 undef :: Array.getD a'.tmps 55 undef :: Array.getD a'.tmps 56 undef :: Array.getD a'.tmps 57 undef :: Array.getD a'.tmps 58 undef :: Array.getD a'.tmps 59 undef :: Array.getD a'.tmps 60 undef :: Array.getD a'.tmps 61 undef :: Array.getD a'.tmps 62 undef :: Array.getD a'.tmps 63 undef :: Array.getD a'.tmps 64 undef :: Array.getD a'.tmps 65 undef :: Array.getD a'.tmps 66 undef :: Array.getD a'.tmps 67 undef :: Array.getD a'.tmps 68 undef :: Array.getD a'.tmps 69 undef :: Array.getD a'.tmps 70 undef :: Array.getD a'.tmps 71 undef :: Array.getD a'.tmps 72 undef :: Array.getD a'.tmps 73 undef :: Array.getD a'.tmps 74 undef :: Array.getD a'.tmps 75 undef :: Array.getD a'.tmps 76 undef :: Array.getD a'.tmps 77 undef :: Array.getD a'.tmps 78 undef :: Array.getD a'.tmps 79 undef :: Array.getD a'.tmps 80 undef :: Array.getD a'.tmps 81 undef :: Array.getD a'.tmps 82 undef :: Array.getD a'.tmps 83 undef :: Array.getD a'.tmps 84 undef :: Array.getD a'.tmps 85 undef :: Array.getD a'.tmps 86 undef :: Array.getD a'.tmps 87 undef :: Array.getD a'.tmps 88 undef :: Array.getD a'.tmps 89 undef :: Array.getD a'.tmps 90 undef :: Array.getD a'.tmps 91 undef :: Array.getD a'.tmps 92 undef :: Array.getD a'.tmps 93 undef :: Array.getD a'.tmps 94 undef :: Array.getD a'.tmps 95 undef :: Array.getD a'.tmps 96 undef :: Array.getD a'.tmps 97 undef :: Array.getD a'.tmps 98 undef :: Array.getD a'.tmps 99 undef :: Array.getD a'.tmps 100 undef :: Array.getD a'.tmps 101 undef :: Array.getD a'.tmps 102 undef :: Array.getD a'.tmps 103 undef :: Array.getD a'.tmps 104 undef :: Array.getD a'.tmps 105 undef :: Array.getD a'.tmps 106 undef :: Array.getD a'.tmps 107 undef :: Array.getD a'.tmps 108 undef :: Array.getD a'.tmps 109 undef :: Array.getD a'.tmps 110 undef :: Array.getD a'.tmps 111 undef :: Array.getD a'.tmps 112 undef :: Array.getD a'.tmps 113 undef :: Array.getD a'.tmps 114 undef :: Array.getD a'.tmps 115 undef :: Array.getD a'.tmps 116 undef :: Array.getD a'.tmps 117 undef :: Array.getD a'.tmps 118 undef :: Array.getD a'.tmps 119 undef :: Array.getD a'.tmps 120 undef :: Array.getD a'.tmps 121 undef :: Array.getD a'.tmps 122 undef :: []), defers := [] }) (h1 : k < 3) (h2 : s.data.toList[k]? = some c) (h3 : 128 ≤ c.toNat) (h4 : foldRest s.data.toList 0 = false) (h5 : wr = w) : FoldJ w s a' wr :=
 ⟨fun i => Array.getD a'.tmps i undef, k, c, ha, h1, h2, h3, h4, h5⟩
end
end Go.Proofs.YtaickkaoglohgaaGreatDoor
