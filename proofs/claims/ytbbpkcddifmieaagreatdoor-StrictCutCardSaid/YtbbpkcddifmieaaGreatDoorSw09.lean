/- Tokens: what a piece's reading leaves; an end. -/
import Derived.Test.YtbbpkcddifmieaaGreatDoorSw08
set_option linter.unusedSimpArgs false
set_option linter.unusedVariables false
namespace Go.Proofs.YtbbpkcddifmieaaGreatDoor
open Go.RowKit Tk

def attrVs (l : List At) : List Value := l.flatMap fun a => [.string (bstr a.name), .string (bstr a.value), .int .i64 (a.at_ : Int)]
/-- The token at block T, its attributes in a row of the call's own. -/
def TokAt (w : World) (base T : Nat) (t : Tok) (e : Nat) : Prop :=
 ∃ A c, Tb w T t.kind (bstr t.name) (.slice A t.attrs.length c) t.empty (bstr t.text) t.at_ e ∧ w.ownsRow base 135 3 (.slice A t.attrs.length c) t.attrs.length (attrVs t.attrs)
/-- Some token or other. -/
def SomeTok (w : World) (T : Nat) : Prop := ∃ kind name as_ empty text a e, Tb w T kind name as_ empty text a e
def PieceR (w : World) (base X T : Nat) (s : ByteArray) (k : Nat) (o : Option Tok) (e : Ending) (w' : World) : Prop :=
 But2 X T w w' ∧ match o with
  | none => e = .returned (.bool false) ∧ (∃ k', k' ≤ s.size ∧ Sc w' X s k') ∧ SomeTok w' T
  | some t => e = .returned (.bool true) ∧ t.end_ ≤ s.size ∧ k < t.end_ ∧ Sc w' X s t.end_ ∧ TokAt w' base T t 0
theorem PieceR.no {w : World} {base X T : Nat} {s : ByteArray} {k k' : Nat} {o : Option Tok} {e : Ending} {w' : World} (ho : o = none) (h1 : But2 X T w w') (h2 : e = .returned (.bool false)) (h3 : k' ≤ s.size) (h4 : Sc w' X s k') (h5 : SomeTok w' T) : PieceR w base X T s k o e w' := by
 subst ho; exact ⟨h1, h2, ⟨k', h3, h4⟩, h5⟩
theorem PieceR.yes {w : World} {base X T : Nat} {s : ByteArray} {k : Nat} {t : Tok} {o : Option Tok} {e : Ending} {w' : World} (ho : o = some t) (h1 : But2 X T w w') (h2 : e = .returned (.bool true)) (h3 : t.end_ ≤ s.size) (h4 : k < t.end_) (h5 : Sc w' X s t.end_) (h6 : TokAt w' base T t 0) : PieceR w base X T s k o e w' := by
 subst ho; exact ⟨h1, h2, h3, h4, h5, h6⟩
/-- The token that a reading begins with. -/
def T0 (w : World) (T k : Nat) : Prop := Tb w T 0 ⟨#[]⟩ (.slice none 0 0) false ⟨#[]⟩ k 0
theorem str_emp' (l : L) : ((bstr l).toList == ([] : L)) = l.isEmpty := str_emp (bstr l)

set_option maxHeartbeats 8000000 in
set_option maxRecDepth 20000 in
theorem end_any (w : World) (base X T : Nat) (s : ByteArray) (k : Nat) (hX : Sc w X s k) (hT : T0 w T k) (hne : X ≠ T) (ha : k + 2 ≤ s.size) (hs : s.size ≤ 1000000000) :
  Calls Tryz.prog 78 #[.pointer (some ⟨X, 0, none⟩), .pointer (some ⟨T, 0, none⟩)] w (PieceR w base X T s k (Tk.end_ k (s.data.toList.drop k))) := by
 obtain ⟨d, hd⟩ : ∃ d, s.data.toList.drop k = d := ⟨_, rfl⟩
 have hd2 : s.data.toList.drop (k + 2) = d.drop 2 := by rw [drop_add, hd]
 have HN := hide fun W (hW : Sc W X s (k + 2)) => name_any W X s (k + 2) hW ha hs
 rw [hd2] at HN
 rw [hd]
 obtain ⟨r, hr⟩ : ∃ r, d.drop 2 = r := ⟨_, rfl⟩
 rw [hr] at HN hd2
 have hrl : r.length = s.size - (k + 2) := by rw [← hd2, List.length_drop, size_list]
 obtain ⟨n, hn⟩ : ∃ n, take r = n := ⟨_, rfl⟩
 have hnl : n ≤ s.size - (k + 2) := by have := take_le r; omega
 have hex : s.extract (k + 2) (k + 2 + n) = bstr (r.take n) := by rw [extract_bstr, hd2, show k + 2 + n - (k + 2) = n by omega]
 rw [hn, hex] at HN
 have hdn : s.data.toList.drop (k + 2 + n) = r.drop n := by rw [drop_add, hd2]
 have HB := hide fun W (hW : Sc W X s (k + 2 + n)) => blanks_any W X s (k + 2 + n) hW (by omega) hs
 obtain ⟨m, hm⟩ : ∃ m, nsp (r.drop n) = m := ⟨_, rfl⟩
 have hml : m ≤ s.size - (k + 2 + n) := by have := nsp_le (r.drop n); rw [List.length_drop] at this; omega
 rw [hdn, hm] at HB
 have hdm : s.data.toList.drop (k + 2 + n + m) = (r.drop n).drop m := by rw [drop_add, hdn]
 have HI := hide fun W (hW : Sc W X s (k + 2 + n + m)) => isp_any W X s ⟨#[62]⟩ (k + 2 + n + m) hW (by omega) hs (by decide)
 rw [hdm] at HI
 obtain ⟨p, hp⟩ : ∃ p, ([62] : L).isPrefixOf ((r.drop n).drop m) = p := ⟨_, rfl⟩
 rw [show ((⟨#[62]⟩ : ByteArray).data.toList.isPrefixOf ((r.drop n).drop m)) = p from hp] at HI
 obtain ⟨res, hres⟩ : ∃ o, Tk.end_ k d = o := ⟨_, rfl⟩
 rw [hres]
 have hR : res = if n = 0 then none else if p = true then some ⟨1, r.take n, [], false, [], k, k + 2 + n + m + 1⟩ else none := by
  rw [← hres]
  unfold Tk.end_
  dsimp only
  rw [hr, hn, hm, hp]
 have hpl : p = true → k + 2 + n + m + 1 ≤ s.size := fun h => by
  have := pfx_len (by rw [hp]; exact h)
  rw [← hdm, List.length_drop, size_list] at this
  have e : ([62] : L).length = 1 := rfl
  omega
 have hE := str_emp' (r.take n)
 have hE2 : (r.take n).isEmpty = decide (n = 0) := by
  rw [Bool.eq_iff_iff, List.isEmpty_iff, decide_eq_true_eq]
  constructor
  ·intro h
   have := congrArg List.length h
   rw [List.length_take, List.length_nil] at this
   omega
  ·intro h; rw [h, List.take_zero]
 rw [hE2] at hE
 have HR := hide hR
 have HPl := hide hpl
 have HS0 := hide hX
 have HT0 := hide hT
 have q1 := Sc.c1 hX
 have f1 := Sc.f1 hX
 have f0 := Tb.f hT 0
 have c0 := Tb.c0 hT
 have HSz := hide (show k + 2 + n + m ≤ s.size by omega)
 obtain ⟨nm, hnm⟩ : ∃ nm, bstr (r.take n) = nm := ⟨_, rfl⟩
 rw [hnm] at HN hE
 have HNm := hide hnm
 clear hnm hres hR hpl hX hT hd hd2 hr hrl hn hnl hex hdn hm hml hdm hp hE2
 have hw2 : IntKind.i64.wrap ((k : Int) + 2) = (k : Int) + 2 := IntWalk.i64_in _ (by omega)
 go_enter Tryz.func78, Tryz.ntmps78
 go_wp2_with fail
 have S1 := hide (Sc.move (Sc.far HS0.out hne (i := 0) (.int .i8 1)) (k + 2))
 have T1 := hide (Tb.far (i := 1) (Tb.kind_ HT0.out 1) (Ne.symm hne) (.int .i64 ((k + 2 : Nat) : Int)))
 have B1 := hide (((But2.refl X T w).setCell (p := ⟨T, 0, none⟩) (.inr (.inl rfl)) (.int .i8 1)).setCell (p := ⟨X, 1, none⟩) (.inl rfl) (.int .i64 ((k + 2 : Nat) : Int)))
 clear q1 f1 f0 c0
 refine (HN.out _ S1.out).mono ?_
 rintro e w2 ⟨rfl, s2, b2⟩
 have T2 := hide (T1.out.at_but b2 (Ne.symm hne))
 have B2 := hide (B1.out.one b2)
 have S2 := hide s2
 have f0 := Tb.f T2.out 1
 have c0 := Tb.c1 T2.out
 clear s2 b2 HN S1 T1 B1
 go_wp2_with fail
 have S3 := hide (Sc.far (i := 1) S2.out hne (.string nm))
 have T3 := hide (Tb.name_ T2.out nm)
 have B3 := hide (B2.out.setCell (p := ⟨T, 1, none⟩) (.inr (.inl rfl)) (.string nm))
 clear f0 c0 S2 T2 B2
 refine (HB.out _ S3.out).mono ?_
 rintro e w4 ⟨rfl, s4, b4⟩
 have T4 := hide (T3.out.at_but b4 (Ne.symm hne))
 have B4 := hide (B3.out.one b4)
 have S4 := hide s4
 have c1 := Tb.c1 T4.out
 clear s4 b4 HB S3 T3 B3
 by_cases h0 : n = 0
 ·rw [decide_eq_true h0] at hE
  have HR0 := hide (show res = none by rw [HR.out, if_pos h0])
  clear h0 HR HI
  go_wp2
  go_ret
  exact PieceR.no HR0.out B4.out rfl HSz.out S4.out ⟨_, _, _, _, _, _, _, T4.out⟩
 ·rw [decide_eq_false h0] at hE
  have HR0 := hide (show res = if p = true then some ⟨1, r.take n, [], false, [], k, k + 2 + n + m + 1⟩ else none by rw [HR.out, if_neg h0])
  clear h0 HR
  go_wp2_with fail
  refine (HI.out _ S4.out).mono ?_
  rintro e w5 ⟨rfl, s5, b5⟩
  have T5 := hide (T4.out.at_but b5 (Ne.symm hne))
  have B5 := hide (B4.out.one b5)
  have S5 := hide s5
  clear s5 b5 HI S4 T4 B4 c1
  cases p with
  | false =>
   go_wp2
   go_ret
   refine PieceR.no (by rw [HR0.out]; rfl) B5.out rfl HSz.out (k' := k + 2 + n + m) ?_ ⟨_, _, _, _, _, _, _, T5.out⟩
   simpa using S5.out
  | true =>
   go_wp2
   go_ret
   refine PieceR.yes (t := ⟨1, r.take n, [], false, [], k, k + 2 + n + m + 1⟩) (by rw [HR0.out]; rfl) B5.out rfl (HPl.out (by simp)) (by dsimp only; omega) ?_ ?_
   ·have h := S5.out
    rw [if_pos (by simp)] at h
    exact h
   ·refine ⟨none, 0, ?_, World.ownsRow_nil _ _ _ _⟩
    have h := T5.out
    rw [← HNm.out] at h
    exact h
end Go.Proofs.YtbbpkcddifmieaaGreatDoor
