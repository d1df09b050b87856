/- Strict: a value as written: the document's Value. -/
import Derived.Test.YtbbpkcddifmieaaGreatDoorSw30
set_option linter.unusedSimpArgs false
set_option linter.unusedVariables false
namespace Go.Proofs.YtbbpkcddifmieaaGreatDoor
section
open Go.RowKit Tk Sx

namespace Sx
def errOf {α : Type} (e : Except Nat α) : Option Nat := match e with
 | .ok _ => none
 | .error a => some a
theorem errOf_glue (a : L) (e : Except Nat L) : errOf (glueE a e) = errOf e := by cases e <;> rfl
theorem norm_eq {c d : UInt8} (h : d ≠ 9 ∧ d ≠ 10 ∧ d ≠ 13 ∧ d ≠ 32) : norm c = d ↔ c = d := by
 unfold norm;split
 ·rename_i hc
  constructor
  ·rintro rfl; exact absurd rfl h.2.2.2
  rintro rfl
  rcases hc with e | e | e
  ·exact absurd e h.1
  ·exact absurd e h.2.1
  exact absurd e h.2.2.1
 exact Iff.rfl
theorem norm_worth (c : UInt8) : worth (norm c) = worth c := by
 unfold norm;split
 ·rename_i hc
  rcases hc with rfl | rfl | rfl <;> decide
 rfl
theorem numVal_norm (base : Nat) : ∀ (s : L) (v : Nat), numVal base v (s.map norm) = numVal base v s
 | [], v => rfl
 | c :: r, v => by
  rw [List.map_cons, numVal, numVal, norm_worth, numVal_norm base r]
theorem map_norm_eq {d : L} (hd : ∀ x ∈ d, x ≠ 9 ∧ x ≠ 10 ∧ x ≠ 13 ∧ x ≠ 32) : ∀ s : L, s.map norm = d ↔ s = d := by
 induction d with
 | nil => intro s; simp
 | cons x d ih =>
  intro s
  cases s with
  | nil => simp
  | cons c s =>
   rw [List.map_cons, List.cons.injEq, List.cons.injEq, norm_eq (hd x (List.mem_cons_self ..)), ih (fun y hy => hd y (List.mem_cons_of_mem _ hy))]
theorem head_norm {s : L} {d : UInt8} (h : d ≠ 9 ∧ d ≠ 10 ∧ d ≠ 13 ∧ d ≠ 32) : (s.map norm).head? = some d ↔ s.head? = some d := by
 cases s with
 | nil => simp
 | cons c s => simp only [List.map_cons, List.head?_cons, Option.some.injEq]; exact norm_eq h
theorem scalar_norm (s : L) : scalar (s.map norm) = scalar s := by
 have h1 : number (s.map norm) = number s := by
  unfold number;rw [← List.map_tail, ← List.map_tail]
  by_cases a : s.head? = some 35
  ·rw [if_pos ((head_norm (by decide)).2 a), if_pos a]
   by_cases b : s.tail.head? = some 120
   ·rw [if_pos ((head_norm (by decide)).2 b), if_pos b, numVal_norm];simp only [List.map_eq_nil_iff]
   rw [if_neg (fun h => b ((head_norm (by decide)).1 h)), if_neg b, numVal_norm];simp only [List.map_eq_nil_iff]
  rw [if_neg (fun h => a ((head_norm (by decide)).1 h)), if_neg a]
 have h2 : named (s.map norm) = named s := by
  unfold named;simp only [map_norm_eq (d := sLt) (by decide), map_norm_eq (d := sGt) (by decide), map_norm_eq (d := sAmp) (by decide), map_norm_eq (d := sApos) (by decide), map_norm_eq (d := sQuot) (by decide)]
 unfold scalar;rw [h1, h2]
theorem ends_norm : ∀ s : L, ends (s.map norm) = ends s
 | [] => rfl
 | c :: r => by
  rw [List.map_cons, ends, ends, ends_norm r];simp only [norm_eq (c := c) (d := 59) (by decide), norm_eq (c := c) (d := 38) (by decide), norm_eq (c := c) (d := 60) (by decide)]
theorem sref_norm : ∀ (f k : Nat) (l : L), errOf (sref f k (l.map norm)) = errOf (sref f k l)
 | 0, k, l => by rw [sref, sref]
 | f + 1, k, [] => rfl
 | f + 1, k, c :: r => by
  rw [List.map_cons]
  by_cases hc : c = 38
  ·subst hc;rw [show norm 38 = 38 by decide]
   cases he : ends r with
   | none => rw [sref_none he, sref_none (by rw [ends_norm, he])]
   | some n =>
    have he2 : ends (r.map norm) = some n := by rw [ends_norm, he]
    have hst : scalar ((r.map norm).take n) = scalar (r.take n) := by rw [← List.map_take, scalar_norm]
    cases hs : scalar (r.take n) with
    | none => rw [sref_bad he hs, sref_bad he2 (by rw [hst, hs])]
    | some v =>
     rw [sref_ref he hs, sref_ref he2 (by rw [hst, hs]), errOf_glue, errOf_glue, ← List.map_drop];exact sref_norm f _ _
  rw [sref_byte hc, sref_byte (fun h => hc ((norm_eq (by decide)).1 h)), errOf_glue, errOf_glue];exact sref_norm f _ _
theorem less_none : ∀ {l : L}, (60 : UInt8) ∉ l → less l = none
 | [], _ => rfl
 | c :: r, h => by
  rw [less, if_neg (fun e => h (by rw [e]; exact List.mem_cons_self ..)), less_none (fun hh => h (List.mem_cons_of_mem _ hh))];rfl
theorem less_at : ∀ {l : L} {k : Nat}, (60 : UInt8) ∉ l.take k → l[k]? = some 60 → less l = some k
 | [], k, _, h => by cases h
 | c :: r, 0, _, h => by
  simp only [List.getElem?_cons_zero, Option.some.injEq] at h;rw [less, if_pos h]
 | c :: r, k + 1, h, h2 => by
  rw [List.take_succ_cons] at h;rw [less, if_neg (fun e => h (by rw [e]; exact List.mem_cons_self ..)), less_at (fun hh => h (List.mem_cons_of_mem _ hh)) (by simpa using h2)];rfl
theorem value_less {l : L} {k : Nat} (h : less l = some k) : value l = .error ((errOf (sref (l.take k).length 0 (l.take k))).getD k) := by
 have hl := less_le h;unfold value;rw [h];dsimp only;rw [show (l.take k).length = k by rw [List.length_take]; omega, ← sref_norm]
 cases sref k 0 ((l.take k).map norm) <;> rfl
theorem value_plain {l : L} (h : less l = none) : value l = sref l.length 0 (l.map norm) := by
 unfold value;rw [h]
end Sx
theorem byte_snoc {l : L} {k : Nat} {c : UInt8} (h : l[k]? = some c) : (l.take (k + 1)).map norm = (l.take k).map norm ++ [norm c] := by
 rw [List.take_add_one, h, List.map_append];rfl
theorem byteVs_snoc (l : L) (c : UInt8) : byteVs (l ++ [c]) = byteVs l ++ [.int .u8 (c.toNat : Int)] := by simp [byteVs]
theorem str_is {t : ByteArray} {l : L} (h : StrIs t l) : t = bstr l := by
 unfold StrIs at h;rw [← h, bstr_of]
theorem own_below8 {B e size n : Nat} {v : Value} {xs : List Value} {w w' : World} (h : w.ownsRow B e size v n xs) (hg : w.grownBy w' v.ownBlock) (hB : B ≤ w.heap.size) : Below B w w' :=
 ⟨hg.os, hg.tape, hg.output, hg.size, fun k hk => hg.block k (Nat.lt_of_lt_of_le hk hB) fun e => by have := (h.lt k e.symm).1; omega⟩
theorem info_u8s : (Tryz.prog.info? 5).map (fun i => (i.zero, i.size, i.bytes)) = some (some (.int .u8 0), 1, 1) := by kernel_rfl

set_option maxRecDepth 20000 in
set_option maxHeartbeats 16000000 in
theorem refValue15_any (l : L) (w : World) (hl : l.length ≤ 100000) :
  Calls Tryz.prog 11 #[.string (bstr l)] w fun e w' => e = .returned (strV (value l)) ∧ Below w.heap.size w w' := by
 have HI : Hid (∀ (k : Nat) (c : UInt8), l[k]? = some c → ∀ w, (Instr.index 9 (.string (bstr l)) (.int .i64 (k : Int))).run Tryz.prog w = .ok (.int .u8 (c.toNat : Nat)) w) := hide fun k c h => idx_run (bstr l) k c (by rw [bstr_list]; exact h);have HEx := hide (show ∀ b : Nat, (bstr l).extract 0 b = bstr (l.take b) from fun b => by rw [extract_bstr, bstr_list]; simp);have HS := hide (fun (q : L) W (h : q.length ≤ 100000000) => strict13_any q W h);have Hs := hide (bstr_size l);obtain ⟨n, hn⟩ : ∃ n, (bstr l).size = n := ⟨_, rfl⟩;have hnl : n = l.length := by rw [← hn, bstr_size]
 have Hnl := hide hnl;obtain ⟨z, hz⟩ : ∃ z, value l = z := ⟨_, rfl⟩;have Hz := hide hz;have Hn := hide hn;rw [hz];clear hz hnl
 go_enter Tryz.func11, Tryz.ntmps11
 go_wp2;clear hn
 go_loopg [5, 6] n (fun gk v5 v6 wr => ∃ (k : Nat) (A : Option Addr) (c : Nat), gk = n - k ∧ k ≤ n ∧ v6 = .int .i64 (k : Int) ∧ v5 = .slice A k c ∧ wr.ownsRow w.heap.size 5 1 (.slice A k c) k (byteVs ((l.take k).map norm)) ∧ (60 : UInt8) ∉ l.take k ∧ Below w.heap.size w wr)
 case atStart => exact ⟨0, none, 0, rfl, by omega, rfl, rfl, World.ownsRow_nil _ _ _ _, by simp, Below.refl _ _⟩
 case round =>
  obtain ⟨k, A, cp, hgk, hk, rfl, rfl, ho, h60, hb⟩ := hrel;have Hg := hide hgk;have HO := hide ho;have H60 := hide h60;have HB := hide hb;have hln : n ≤ 100000 := by rw [Hnl.out]; exact hl
  clear hgk ho h60 hb
  by_cases hlt : k < n
  ·obtain ⟨c, hc⟩ : ∃ c, l[k]? = some c := ⟨_, List.getElem?_eq_getElem (by rw [← Hnl.out]; exact hlt)⟩;have hix := HI.out k c hc;have HC := hide hc;have hsz : (bstr l).size = n := Hn.out
   have key : ∀ d : UInt8, ((c.toNat : Int) == (d.toNat : Int)) = (c == d) := fun d => by
    rw [Bool.eq_iff_iff, beq_iff_eq, beq_iff_eq];exact ⟨fun h => UInt8.toNat_inj.1 (by omega), fun h => by rw [h]⟩
   have e1 : ((c.toNat : Int) == 60) = (c == 60) := key 60;have e2 : ((c.toNat : Int) == 9) = (c == 9) := key 9;have e3 : ((c.toNat : Int) == 10) = (c == 10) := key 10;have e4 : ((c.toNat : Int) == 13) = (c == 13) := key 13;clear key
   by_cases h1 : c = 60
   ·subst h1;have hle := less_at H60.out hc;have HV := hide (value_less hle);have hkl : (l.take k).length ≤ 100000000 := by rw [List.length_take]; omega
    have hex := HEx.out k;have hss := HS.out (l.take k) wr hkl;obtain ⟨y, hy⟩ : ∃ y, sref (l.take k).length 0 (l.take k) = y := ⟨_, rfl⟩;rw [hy] at hss;have HSS := hide hss;have Hr := hide (show strV z = .tuple #[.string ⟨#[]⟩, .int .i64 (((errOf y).getD k : Nat) : Int), .int .i64 50] by rw [← Hz.out, HV.out, hy]; rfl);generalize (60 : UInt8).toNat = q at *
    clear hc hle hkl hss hy e2 e3 e4
    cases y with
    | ok out =>
     unfold strV at HSS
     go_wp2_with fail
     refine HSS.out.mono ?_;rintro e w2 ⟨rfl, b2⟩;go_wp2;go_ret3;rw [Hr.out];exact ⟨rfl, HB.out.trans (b2.mono HB.out.size)⟩
    | error a =>
     unfold strV at HSS
     go_wp2_with fail
     refine HSS.out.mono ?_;rintro e w2 ⟨rfl, b2⟩;go_wp2;go_ret3;rw [Hr.out];exact ⟨rfl, HB.out.trans (b2.mono HB.out.size)⟩
   have e1' : (c == 60) = false := by rw [beq_eq_false_iff_ne]; exact h1
   rw [e1'] at e1
   have H61 := hide (show (60 : UInt8) ∉ l.take (k + 1) by
    rw [List.take_add_one, hc];intro hm
    rcases List.mem_append.1 hm with hm | hm
    ·exact H60.out hm
    exact h1 (List.mem_singleton.1 hm).symm)
   have hSn := byte_snoc hc;clear e1' h1 hc
   by_cases hw : c = 9 ∨ c = 10 ∨ c = 13
   ·have Hby := hide (show byteVs ((l.take (k + 1)).map norm) = byteVs ((l.take k).map norm) ++ [.int .u8 32] by rw [hSn, byteVs_snoc, show norm c = 32 by unfold norm; rw [if_pos hw]]; rfl);clear hSn
    rcases hw with hw | hw | hw
    ·subst hw;rw [show (((9 : UInt8)) == 9) = true by decide] at e2;rw [show (((9 : UInt8)) == 10) = false by decide] at e3;rw [show (((9 : UInt8)) == 13) = false by decide] at e4;generalize (9 : UInt8).toNat = q at *
     go_wp2_with (at_builtin; go_loud (refine wpList_append_elem wr rfl (.tmp 45) (.tmp 47) 51 rfl w.heap.size (.int .u8 0) 1 1 Tryz.underlying51 info_u8s rfl (by omega) (.slice A k cp) k (byteVs ((l.take k).map norm)) rfl HO.out (cs := [.int .u8 32]) rfl (by simp [Value.oneCell']) rfl (by unfold maxLen; omega) (by omega) HB.out.size ?_); intro g8 cap8 w8 hown8 hgrow8 hat8 hlt8 hb8; have HO8 := hide hown8; have HG8 := hide hgrow8; clear hown8 hgrow8 hat8 hlt8 hb8)
     go_roundg (n - (k + 1))
     case measure => have := Hg.out; omega
     case rel => exact ⟨k + 1, _, _, rfl, by omega, by first | rfl | go_num, rfl, by rw [Hby.out]; exact HO8.out, H61.out, HB.out.trans (own_below8 HO.out HG8.out HB.out.size)⟩
    ·subst hw;rw [show (((10 : UInt8)) == 9) = false by decide] at e2;rw [show (((10 : UInt8)) == 10) = true by decide] at e3;rw [show (((10 : UInt8)) == 13) = false by decide] at e4;generalize (10 : UInt8).toNat = q at *
     go_wp2_with (at_builtin; go_loud (refine wpList_append_elem wr rfl (.tmp 45) (.tmp 47) 51 rfl w.heap.size (.int .u8 0) 1 1 Tryz.underlying51 info_u8s rfl (by omega) (.slice A k cp) k (byteVs ((l.take k).map norm)) rfl HO.out (cs := [.int .u8 32]) rfl (by simp [Value.oneCell']) rfl (by unfold maxLen; omega) (by omega) HB.out.size ?_); intro g8 cap8 w8 hown8 hgrow8 hat8 hlt8 hb8; have HO8 := hide hown8; have HG8 := hide hgrow8; clear hown8 hgrow8 hat8 hlt8 hb8)
     go_roundg (n - (k + 1))
     case measure => have := Hg.out; omega
     case rel => exact ⟨k + 1, _, _, rfl, by omega, by first | rfl | go_num, rfl, by rw [Hby.out]; exact HO8.out, H61.out, HB.out.trans (own_below8 HO.out HG8.out HB.out.size)⟩
    subst hw;rw [show (((13 : UInt8)) == 9) = false by decide] at e2;rw [show (((13 : UInt8)) == 10) = false by decide] at e3;rw [show (((13 : UInt8)) == 13) = true by decide] at e4;generalize (13 : UInt8).toNat = q at *
    go_wp2_with (at_builtin; go_loud (refine wpList_append_elem wr rfl (.tmp 45) (.tmp 47) 51 rfl w.heap.size (.int .u8 0) 1 1 Tryz.underlying51 info_u8s rfl (by omega) (.slice A k cp) k (byteVs ((l.take k).map norm)) rfl HO.out (cs := [.int .u8 32]) rfl (by simp [Value.oneCell']) rfl (by unfold maxLen; omega) (by omega) HB.out.size ?_); intro g8 cap8 w8 hown8 hgrow8 hat8 hlt8 hb8; have HO8 := hide hown8; have HG8 := hide hgrow8; clear hown8 hgrow8 hat8 hlt8 hb8)
    go_roundg (n - (k + 1))
    case measure => have := Hg.out; omega
    case rel => exact ⟨k + 1, _, _, rfl, by omega, by first | rfl | go_num, rfl, by rw [Hby.out]; exact HO8.out, H61.out, HB.out.trans (own_below8 HO.out HG8.out HB.out.size)⟩
   have Hby := hide (show byteVs ((l.take (k + 1)).map norm) = byteVs ((l.take k).map norm) ++ [.int .u8 (c.toNat : Int)] by rw [hSn, byteVs_snoc, show norm c = c by unfold norm; rw [if_neg hw]]);rw [show (c == 9) = false by rw [beq_eq_false_iff_ne]; exact fun e => hw (.inl e)] at e2;rw [show (c == 10) = false by rw [beq_eq_false_iff_ne]; exact fun e => hw (.inr (.inl e))] at e3;rw [show (c == 13) = false by rw [beq_eq_false_iff_ne]; exact fun e => hw (.inr (.inr e))] at e4;clear hSn hw;generalize c.toNat = q at *
   go_wp2_with (at_builtin; go_loud (refine wpList_append_elem wr rfl (.tmp 45) (.tmp 47) 51 rfl w.heap.size (.int .u8 0) 1 1 Tryz.underlying51 info_u8s rfl (by omega) (.slice A k cp) k (byteVs ((l.take k).map norm)) rfl HO.out (cs := [.int .u8 (q : Int)]) rfl (by simp [Value.oneCell']) rfl (by unfold maxLen; omega) (by omega) HB.out.size ?_); intro g8 cap8 w8 hown8 hgrow8 hat8 hlt8 hb8; have HO8 := hide hown8; have HG8 := hide hgrow8; clear hown8 hgrow8 hat8 hlt8 hb8)
   go_roundg (n - (k + 1))
   case measure => have := Hg.out; omega
   case rel => exact ⟨k + 1, _, _, rfl, by omega, by first | rfl | go_num, rfl, by rw [Hby.out]; exact HO8.out, H61.out, HB.out.trans (own_below8 HO.out HG8.out HB.out.size)⟩
  have hkn : k = n := by omega
  subst hkn;have hall : l.take k = l := List.take_of_length_le (by rw [Hnl.out]; exact Nat.le_refl _);have hO := HO.out;have h60 := H60.out;rw [hall] at hO h60;have hv := value_plain (less_none h60);have HSS := HS.out (l.map norm) wr (by rw [List.length_map]; omega);rw [List.length_map] at HSS;have Hr := hide (show strV z = strV (sref l.length 0 (l.map norm)) by rw [← Hz.out, hv]);have HSH := hide HSS;have HOH := hide hO;have hge : ¬ k < (bstr l).size := by rw [Hn.out]; omega
  obtain ⟨t, hcv, ht⟩ := run_to_string (P := Tryz.prog) wr 51 9 5 Tryz.underlying51 Tryz.underlying5 Tryz.underlying9 (l.map norm) HOH.out;obtain rfl : t = bstr (l.map norm) := str_is ht;clear ht;obtain ⟨y, hy⟩ : ∃ y, sref l.length 0 (l.map norm) = y := ⟨_, rfl⟩;rw [hy] at HSH Hr;clear hall hO h60 hv HSS hy hlt hk hl
  cases y with
  | ok out =>
   unfold strV at HSH
   go_wp2_with fail
   refine HSH.out.mono ?_;rintro e w2 ⟨rfl, b2⟩;go_wp2;go_ret3;rw [Hr.out];exact ⟨rfl, HB.out.trans (b2.mono HB.out.size)⟩
  | error a =>
   unfold strV at HSH
   go_wp2_with fail
   refine HSH.out.mono ?_;rintro e w2 ⟨rfl, b2⟩;go_wp2;go_ret3;rw [Hr.out];exact ⟨rfl, HB.out.trans (b2.mono HB.out.size)⟩
end
end Go.Proofs.YtbbpkcddifmieaaGreatDoor
