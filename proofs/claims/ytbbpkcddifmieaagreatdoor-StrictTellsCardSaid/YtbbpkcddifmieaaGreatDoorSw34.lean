/- The document's strict: declares, may, names. · The document's strict: values, declared. (Printed by wip/genSuG.py.) -/
import Derived.Test.YtbbpkcddifmieaaGreatDoorSw33
set_option linter.unusedSimpArgs false
set_option linter.unusedVariables false
namespace Go.Proofs.YtbbpkcddifmieaaGreatDoor
section
open Go.RowKit Tk Sx

def preN (l : L) : L := ((split l).getD ([], [])).1
def locN (l : L) : L := ((split l).getD ([], [])).2
def decN (l : L) : L × Bool := if preN l = pXmlns then (locN l, true) else ([], decide (preN l = [] ∧ locN l = pXmlns))
theorem splOf_pre (a : At) : (splOf a).pre = preN a.name := by unfold splOf preN; cases split a.name <;> rfl
theorem splOf_locN (a : At) : (splOf a).loc = locN a.name := by unfold splOf locN; cases split a.name <;> rfl
theorem decN_is (a : At) : declares (valued a) = decN a.name := by
 unfold declares decN;rw [show (valued a).pre = preN a.name from splOf_pre a, show (valued a).loc = locN a.name from splOf_locN a]
theorem splV_is (l : L) : splV (split l) = .tuple #[.string (bstr (preN l)), .string (bstr (locN l)), .bool (split l).isSome] := by
 unfold preN locN
 cases split l <;> rfl

set_option maxHeartbeats 4000000 in
theorem ddeclares_any (l : L) (w : World) (hl : l.length ≤ 1000000000) : Calls Tryz.prog 121 #[.string (bstr l)] w fun e w' => e = .returned (spV (decN l)) ∧ Below w.heap.size w w' := by
 have HS := hide (refSplit_any l w hl);rw [splV_is] at HS;obtain ⟨z, hz⟩ : ∃ z, decN l = z := ⟨_, rfl⟩;rw [hz];unfold decN at hz;generalize preN l = p at *
 generalize locN l = q at *
 have h1 : ((bstr p).toList == [120, 109, 108, 110, 115]) = decide (p = pXmlns) := lit_eq (bstr p) _;have h2 : ((bstr q).toList == [120, 109, 108, 110, 115]) = decide (q = pXmlns) := lit_eq (bstr q) _;have h3 := isE p;have h4 := eqE p
 by_cases hp : p = pXmlns
 ·have Hr := hide (show spV z = .tuple #[.string (bstr q), .bool true] by rw [← hz, if_pos hp]; rfl);rw [decide_eq_true hp] at h1;clear hz hp h2 h3 h4
  go_enter Tryz.func121, Tryz.ntmps121
  go_wp2_with fail
  refine (HS.out).mono ?_
  rintro e w1 ⟨rfl, b1⟩
  go_wp2;go_ret2;rw [Hr.out];exact ⟨rfl, b1⟩
 rw [decide_eq_false hp] at h1;rw [if_neg hp] at hz
 by_cases he : p = []
 ·have Hr := hide (show spV z = .tuple #[.string ⟨#[]⟩, .bool (decide (q = pXmlns))] by rw [← hz]; unfold spV; simp [he]; rfl);rw [decide_eq_true he] at h3 h4;generalize decide (q = pXmlns) = r at *
  have hd : decide ((bstr p).toList = []) = true := by rw [decide_eq_true_iff, ← List.isEmpty_iff, h3]
  clear hz hp he
  go_enter Tryz.func121, Tryz.ntmps121
  go_wp2_with fail
  refine (HS.out).mono ?_
  rintro e w1 ⟨rfl, b1⟩
  go_wp2;go_ret2;rw [Hr.out];exact ⟨rfl, b1⟩
 have Hr := hide (show spV z = .tuple #[.string ⟨#[]⟩, .bool false] by rw [← hz]; unfold spV; simp [he]; rfl);rw [decide_eq_false he] at h3 h4;have hd : decide ((bstr p).toList = []) = false := by rw [decide_eq_false_iff_not]; intro h; rw [h] at h4; cases h4
 clear hz hp he h2
 go_enter Tryz.func121, Tryz.ntmps121
 go_wp2_with fail
 refine (HS.out).mono ?_
 rintro e w1 ⟨rfl, b1⟩
 go_wp2;go_ret2;rw [Hr.out];exact ⟨rfl, b1⟩

theorem mayD_xml (u : L) : mayD pXml u = decide (u = xmlNs) := by
 unfold mayD
 by_cases h : u = xmlNs
 ·subst h; rfl
 rw [decide_eq_false h]; simp
theorem mayD_other {p u : L} (h : p ≠ pXml) : mayD p u = if p = pXmlns ∨ u = xmlNs ∨ u = xmlnsNs then false else (decide (p = []) || !decide (u = [])) := by
 unfold mayD;rw [decide_eq_false h]
 by_cases h1 : p = pXmlns
 ·simp [h1]
 by_cases h2 : u = xmlNs
 ·simp [h2]
 by_cases h3 : u = xmlnsNs
 ·simp [h3]
 simp [h1, h2, h3]

set_option maxHeartbeats 8000000 in
theorem dmay_any (p u : L) (w : World) : Calls Tryz.prog 122 #[.string (bstr p), .string (bstr u)] w fun e w' => e = .returned (.bool (mayD p u)) ∧ w' = w := by
 have q1 : ((bstr p).toList == [120, 109, 108, 110, 115]) = decide (p = pXmlns) := lit_eq (bstr p) _;have q2 : ((bstr u).toList == [104, 116, 116, 112, 58, 47, 47, 119, 119, 119, 46, 119, 51, 46, 111, 114, 103, 47, 50, 48, 48, 48, 47, 120, 109, 108, 110, 115, 47]) = decide (u = xmlnsNs) := lit_eq (bstr u) _;have q3 : ((bstr p).toList == [120, 109, 108]) = decide (p = pXml) := lit_eq (bstr p) _;have q4 : ((bstr u).toList == [104, 116, 116, 112, 58, 47, 47, 119, 119, 119, 46, 119, 51, 46, 111, 114, 103, 47, 88, 77, 76, 47, 49, 57, 57, 56, 47, 110, 97, 109, 101, 115, 112, 97, 99, 101]) = decide (u = xmlNs) := lit_eq (bstr u) _;have q5 := isE p;have q5' := eqE p;have q6 := isE u;have q6' := eqE u;have hx := mayD_xml u;have ho := fun h => mayD_other (p := p) (u := u) h;obtain ⟨z, hz⟩ : ∃ z, mayD p u = z := ⟨_, rfl⟩;rw [hz] at ho ⊢
 by_cases h3 : p = pXml
 ·have Hr := hide (show decide (u = xmlNs) = z by rw [← hz, h3, hx]);rw [decide_eq_true h3] at q3;generalize decide (u = xmlNs) = a4 at *
  clear ho hx hz h3 q1 q2 q5 q5' q6 q6'
  go_enter Tryz.func122, Tryz.ntmps122
  go_wp2
  go_ret
  exact ⟨ret_eq1 (bool_eq (Hr.out)), rfl⟩
 have ho := ho h3;rw [decide_eq_false h3] at q3;have Ho := hide ho;clear ho hx hz
 by_cases h1 : p = pXmlns
 ·rw [decide_eq_true h1] at q1;have Hr := hide (show false = z by rw [Ho.out, if_pos (.inl h1)]);clear h1 h3 q2 q4 q5 q5' q6 q6'
  go_enter Tryz.func122, Tryz.ntmps122
  go_wp2
  go_ret
  exact ⟨ret_eq1 (bool_eq (Hr.out)), rfl⟩
 rw [decide_eq_false h1] at q1
 by_cases h4 : u = xmlNs
 ·rw [decide_eq_true h4] at q4;have Hr := hide (show false = z by rw [Ho.out, if_pos (.inr (.inl h4))]);clear h1 h3 h4 q2 q5 q5' q6 q6'
  go_enter Tryz.func122, Tryz.ntmps122
  go_wp2
  go_ret
  exact ⟨ret_eq1 (bool_eq (Hr.out)), rfl⟩
 rw [decide_eq_false h4] at q4
 by_cases h2 : u = xmlnsNs
 ·rw [decide_eq_true h2] at q2;have Hr := hide (show false = z by rw [Ho.out, if_pos (.inr (.inr h2))]);clear h1 h2 h3 h4 q5 q5' q6 q6'
  go_enter Tryz.func122, Tryz.ntmps122
  go_wp2
  go_ret
  exact ⟨ret_eq1 (bool_eq (Hr.out)), rfl⟩
 rw [decide_eq_false h2] at q2;have Hr0 := hide (show (decide (p = []) || !decide (u = [])) = z by rw [Ho.out, if_neg (fun h => h.elim h1 (fun h => h.elim h4 h2))])
 by_cases h5 : p = []
 ·rw [decide_eq_true h5] at q5 q5';have Hr := hide (show true = z by rw [← Hr0.out, decide_eq_true h5]; rfl);clear h1 h2 h3 h4 h5 q6 q6'
  go_enter Tryz.func122, Tryz.ntmps122
  go_wp2
  go_ret
  exact ⟨ret_eq1 (bool_eq (Hr.out)), rfl⟩
 rw [decide_eq_false h5] at q5 q5';have Hr := hide (show (!decide (u = [])) = z by rw [← Hr0.out, decide_eq_false h5]; rfl);clear h1 h2 h3 h4 h5
 cases hu : decide (u = []) with
 | true =>
  rw [hu] at q6 q6' Hr;have Hr' := hide (show false = z from Hr.out);clear hu
  go_enter Tryz.func122, Tryz.ntmps122
  go_wp2
  go_ret
  exact ⟨ret_eq1 (bool_eq (Hr'.out)), rfl⟩
 | false =>
  rw [hu] at q6 q6' Hr;have Hr' := hide (show true = z from Hr.out);clear hu
  go_enter Tryz.func122, Tryz.ntmps122
  go_wp2
  go_ret
  exact ⟨ret_eq1 (bool_eq (Hr'.out)), rfl⟩
def tokC (t : Tok) (A : Option Addr) (c : Nat) : Array Value := #[.int .i8 t.kind, .string (bstr t.name), .slice A t.attrs.length c, .bool t.empty, .string (bstr t.text), .int .i64 (t.at_ : Int), .int .i64 (t.end_ : Int)]
def optN (x : Option Nat) : Int := match x with
 | none => -1
 | some a => (a : Int)

set_option maxRecDepth 100000 in
set_option maxHeartbeats 16000000 in
theorem dnames_any (w : World) (t : Tok) (A : Option Addr) (c : Nat) (hr : Reads w w.heap.size 3 A t.attrs.length (gas (t.attrs.map At.g))) (hs : TokS 100000 t) :
  Calls Tryz.prog 87 #[.agg (tokC t A c)] w fun e w' => e = .returned (.int .i64 (optN (names t))) ∧ Below w.heap.size w w' := by
 have KT := hide (Blk.new w 64 (tokC t A c));have BT := hide (below_alloc w (.cells (tokC t A c) 64));have HS := hide (fun (a : L) (h : a.length ≤ 100000) W => refSplit_any a W (Nat.le_trans h (by decide)));have Hr := hide hr;have Hn := hide (names_is t);have Hs := hide hs;obtain ⟨na, hna⟩ : ∃ na, t.attrs.length = na := ⟨_, rfl⟩;have Hna := hide hna;have Hnal := hide (show na ≤ 100000 by rw [← hna]; exact hs.ats);have HS1 := hide (fun W => HS.out t.name hs.nm W);obtain ⟨z, hz⟩ : ∃ z, split t.name = z := ⟨_, rfl⟩;rw [hz] at HS1;have Hz := hide hz;obtain ⟨W0, hW0⟩ : ∃ W0, w.alloc (.cells (tokC t A c) 64) = W0 := ⟨_, rfl⟩;rw [hW0] at KT BT;have x1 : W0.cell? ⟨w.heap.size, 1, none⟩ = some (.string (bstr t.name)) := KT.out.cell 1;unfold tokC at hW0;rw [hna] at hW0;clear hr hs hz;unfold tokC;rw [hna];clear hna
 cases z with
 | none =>
  have Hres := hide (show optN (names t) = (t.at_ : Int) by rw [Hn.out]; unfold own0_; rw [Hz.out]; rfl);unfold splV at HS1
  go_enter Tryz.func87, Tryz.ntmps87
  go_wp2_with fail
  refine (HS1.out _).mono ?_;rintro e w1 ⟨rfl, b1⟩;have x5 := ((KT.out.go b1).cell 5);have B1 := hide (BT.out.trans (b1.mono BT.out.size));dsimp only [tokC] at x5;clear b1;go_wp2;go_ret;exact ⟨ret_eq1 (int_eq Hres.out.symm), B1.out⟩
 | some y =>
  obtain ⟨py, ly⟩ := y;have Hres := hide (show optN (names t) = optN (namesAt [] t.attrs) by rw [Hn.out]; unfold own0_; rw [Hz.out]; simp);unfold splV at HS1
  go_enter Tryz.func87, Tryz.ntmps87
  go_wp2_with fail
  refine (HS1.out _).mono ?_;rintro e w1 ⟨rfl, b1⟩;have K1 := hide (KT.out.go b1);have B1 := hide (BT.out.trans (b1.mono BT.out.size));have HT1 := hide (show w.heap.size < w1.heap.size from K1.out.lt);have Hr1 := hide (Hr.out.below B1.out);clear b1 x1 hW0;go_wp2
  go_loopg [6] na (fun gk vk wr => ∃ i : Nat, gk = na - i ∧ i ≤ na ∧ vk = .int .i64 (i : Int) ∧ Below w1.heap.size w1 wr ∧ namesAt [] (t.attrs.take i) = none)
  case atStart => exact ⟨0, rfl, Nat.zero_le _, rfl, Below.refl _ _, rfl⟩
  case round =>
   obtain ⟨i, hgi, hi, rfl, hb, hno⟩ := hrel;have Hgi := hide hgi;have Hb := hide hb;have Hno := hide hno;have x2 := (K1.out.go hb).cell 2;dsimp only [tokC] at x2;rw [Hna.out] at x2;clear hgi hb hno
   by_cases hlt : i < na
   ·obtain ⟨a, ha⟩ : ∃ a, t.attrs[i]? = some a := ⟨_, List.getElem?_eq_getElem (by rw [Hna.out]; exact hlt)⟩;have hil : i < t.attrs.length := by rw [Hna.out]; exact hlt
    have HRs := hide (show ∀ (W : World), Below w1.heap.size w1 W → ∀ (k : Nat) (y : At), t.attrs[k]? = some y → ∃ b off, A = some ⟨b, off, none⟩ ∧ GaAt W b (off + k * 3) y.g from fun W hW k y hy => by
     have hR := Hr1.out.below (hW.mono (Nat.le_of_lt HT1.out));rw [show t.attrs.length = (t.attrs.map At.g).length by rw [List.length_map]] at hR;obtain ⟨hk, hke⟩ := List.getElem?_eq_some_iff.1 hy;obtain ⟨b, off, e1, _, e2⟩ := Reads.ga hR (k := k) (by rw [List.length_map]; exact hk);rw [List.getElem_map, hke] at e2;exact ⟨b, off, e1, e2⟩)
    obtain ⟨ab, ao, hA, ga⟩ := HRs.out wr Hb.out i a ha;subst hA;have g0 : wr.cell? ⟨ab, ao + i * 3, none⟩ = some (.string (bstr a.name)) := ga.c0;have HSn := hide (fun W => HS.out a.name (Hs.out.an a (List.mem_of_getElem? ha)).1 W)
    have Htk := hide (show namesAt [] (t.attrs.take (i + 1)) = if (split a.name).isNone = true ∨ a.name ∈ (t.attrs.take i).map (·.name) then some a.at_ else none by
     rw [List.take_succ_eq_append_getElem hil, (List.getElem?_eq_some_iff.1 ha).2, namesAt_snoc, Hno.out]; simp)
    have Hmore := hide (fun (h : namesAt [] (t.attrs.take (i + 1)) = some a.at_) => (show (a.at_ : Int) = optN (names t) by
     rw [Hres.out];have e : t.attrs = t.attrs.take (i + 1) ++ t.attrs.drop (i + 1) := (List.take_append_drop _ _).symm
     have : ∀ (l r : List At) (x : Nat) (s : List L), namesAt s l = some x → namesAt s (l ++ r) = some x := by
      intro l
      induction l with
      | nil => intro r x s h; cases h
      | cons y l ih =>
       intro r x s h;rw [List.cons_append, namesAt];rw [namesAt] at h;split
       ·rename_i hc; rw [if_pos hc] at h; exact h
       rename_i hc; rw [if_neg hc] at h; exact ih r x _ h
     rw [e, this _ _ _ _ h]
     rfl))
    obtain ⟨z2, hz2⟩ : ∃ z, split a.name = z := ⟨_, rfl⟩;rw [hz2] at HSn Htk;have Ha := hide ha;have hwk : IntKind.i64.wrap ((i : Int) + 1) = (i : Int) + 1 := IntWalk.i64_in _ (by have := Hnal.out; omega);clear hz2 ga ha hil
    cases z2 with
    | none =>
     have Hst := hide (Hmore.out (by rw [Htk.out]; simp));unfold splV at HSn
     go_wp2_with fail
     refine (HSn.out _).mono ?_;rintro e w2 ⟨rfl, b2⟩;have Hb2 := hide (Hb.out.trans (b2.mono Hb.out.size));obtain ⟨ab', ao', hA, ga⟩ := HRs.out w2 Hb2.out i a Ha.out;cases hA;have g2 : w2.cell? ⟨ab, ao + i * 3 + 2, none⟩ = some (.int .i64 (a.at_ : Int)) := ga.c2;have x2 := (K1.out.go Hb2.out).cell 2;dsimp only [tokC] at x2;rw [Hna.out] at x2;have B2 := hide (B1.out.trans (Hb2.out.mono (Nat.le_of_lt HT1.out)));clear b2 ga g0;go_wp2;go_ret;exact ⟨ret_eq1 (int_eq Hst.out), B2.out⟩
    | some y2 =>
     obtain ⟨p2, l2⟩ := y2;unfold splV at HSn
     go_wp2_with fail
     refine (HSn.out _).mono ?_;rintro e w2 ⟨rfl, b2⟩;have Hb2 := hide (Hb.out.trans (b2.mono Hb.out.size));clear b2 g0 x2;go_wp2
     go_loopg [10] i (fun gk vk wr2 => ∃ k : Nat, gk = i - k ∧ k ≤ i ∧ vk = .int .i64 (k : Int) ∧ Below w1.heap.size w1 wr2 ∧ ∀ j y, j < k → t.attrs[j]? = some y → y.name ≠ a.name)
     case atStart => exact ⟨0, rfl, Nat.zero_le _, rfl, Hb2.out, fun j y hj => by omega⟩
     case round =>
      obtain ⟨k, hgk, hk, rfl, hb3, hne⟩ := hrel;have Hgk := hide hgk;have Hb3 := hide hb3;have Hne := hide hne;clear hgk hb3 hne
      by_cases hlk : k < i
      ·obtain ⟨y, hy⟩ : ∃ y, t.attrs[k]? = some y := ⟨_, List.getElem?_eq_getElem (by rw [Hna.out]; omega)⟩;obtain ⟨ab', ao', hA, ga⟩ := HRs.out wr Hb3.out i a Ha.out;cases hA;have g0 : wr.cell? ⟨ab, ao + i * 3, none⟩ = some (.string (bstr a.name)) := ga.c0;have g2 : wr.cell? ⟨ab, ao + i * 3 + 2, none⟩ = some (.int .i64 (a.at_ : Int)) := ga.c2;obtain ⟨ab', ao', hA, gb⟩ := HRs.out wr Hb3.out k y hy;cases hA;have g3 : wr.cell? ⟨ab, ao + k * 3, none⟩ = some (.string (bstr y.name)) := gb.c0;have x2 := (K1.out.go Hb3.out).cell 2;dsimp only [tokC] at x2;rw [Hna.out] at x2;have hq := beq_bstr y.name a.name;have hwj : IntKind.i64.wrap ((k : Int) + 1) = (k : Int) + 1 := IntWalk.i64_in _ (by have := Hnal.out; omega);have Hy := hide hy;clear ga gb hy
       by_cases he : y.name = a.name
       ·rw [decide_eq_true he] at hq;have hmem : a.name ∈ (t.attrs.take i).map (·.name) := List.mem_map.2 ⟨y, List.mem_of_getElem? (i := k) (by rw [List.getElem?_take, if_pos hlk]; exact Hy.out), he⟩;have Hst := hide (Hmore.out (by rw [Htk.out, if_pos (.inr hmem)]));clear hmem;have B3 := hide (B1.out.trans (Hb3.out.mono (Nat.le_of_lt HT1.out)));clear he;go_wp2
        go_quiet (fail)
        go_wp2;go_ret;exact ⟨ret_eq1 (int_eq Hst.out), below_drewN B3.out _⟩
       rw [decide_eq_false he] at hq;have He := hide he;clear he;go_wp2
       go_quiet (fail)
       go_wp2
       go_roundg (i - (k + 1))
       case measure => have := Hgk.out; omega
       case rel =>
        refine ⟨k + 1, rfl, by omega, by first | rfl | go_num, below_drewN Hb3.out _, fun j u hj hju => ?_⟩
        by_cases hjk : j = k
        ·subst hjk;rw [Hy.out] at hju;rw [← Option.some.inj hju];exact He.out
        exact Hne.out j u (by omega) hju
      have hki : k = i := by omega
      subst hki
      have Hnx := hide (show namesAt [] (t.attrs.take (k + 1)) = none by
       rw [Htk.out, if_neg];rintro (h | h)
       ·cases h
       obtain ⟨y, hy, hye⟩ := List.mem_map.1 h;obtain ⟨j, hj⟩ := List.getElem?_of_mem hy;rw [List.getElem?_take] at hj
       split at hj
       ·rename_i hjk; exact Hne.out j y hjk hj hye
       cases hj)
      go_wp2
      go_roundg (na - (k + 1))
      case measure => have := Hgi.out; omega
      case rel => exact ⟨k + 1, rfl, by omega, by first | rfl | go_num, Hb3.out, Hnx.out⟩
   have hall : i = na := by omega
   subst hall
   have Hst := hide (show (-1 : Int) = optN (names t) by
    rw [Hres.out];have := Hno.out;rw [List.take_of_length_le (by rw [Hna.out]; exact Nat.le_refl _)] at this;rw [this]
    rfl)
   have B3 := hide (B1.out.trans (Hb.out.mono (Nat.le_of_lt HT1.out)));go_wp2;go_ret;exact ⟨ret_eq1 (int_eq Hst.out), B3.out⟩
end
section
open Go.RowKit Tk Sx

def strRow (l : List L) : List Value := l.map fun x => .string (bstr x)
theorem strRow_snoc (l : List L) (x : L) : strRow (l ++ [x]) = strRow l ++ [.string (bstr x)] := by simp [strRow]
theorem info_str : (Tryz.prog.info? 9).map (fun i => (i.zero, i.size, i.bytes)) = some (some (.string ⟨#[]⟩), 1, 16) := by kernel_rfl
theorem str_cell {w : World} {B n c k : Nat} {A : Option Addr} {l : List L} {x : L} (h : w.ownsRow B 9 1 (.slice A n c) n (strRow l)) (hn : l.length = n) (hx : l[k]? = some x) : ∃ g, A = some ⟨g, 0, none⟩ ∧ w.cell? ⟨g, k, none⟩ = some (.string (bstr x)) ∧ B ≤ g ∧ IsT w g 9 := by
 obtain ⟨h1, h2⟩ := List.getElem?_eq_some_iff.1 hx;obtain ⟨g, cap, hv, hb, hl⟩ := h.form (by omega);have hA : A = some ⟨g, 0, none⟩ := by injection hv
 subst hA;refine ⟨g, rfl, ?_, hb, (own_isT h g rfl).2⟩;have := h.cellAt k (by omega);rw [this];unfold strRow;rw [List.getElem?_map, hx];rfl
theorem attr_at {w : World} {B : Nat} {A : Option Addr} {as_ : List At} (h : Reads w B 3 A as_.length (gas (as_.map At.g))) {k : Nat} {a : At} (ha : as_[k]? = some a) : ∃ b off, A = some ⟨b, off, none⟩ ∧ b < B ∧ GaAt w b (off + k * 3) a.g := by
 obtain ⟨hk, hke⟩ := List.getElem?_eq_some_iff.1 ha;rw [show as_.length = (as_.map At.g).length by rw [List.length_map]] at h;obtain ⟨b, off, e1, e0, e2⟩ := Reads.ga h (k := k) (by rw [List.length_map]; exact hk);rw [List.getElem_map, hke] at e2;exact ⟨b, off, e1, e0, e2⟩
def ValsR (w : World) (as_ : List At) (e : Ending) (w' : World) : Prop := Below w.heap.size w w' ∧ ∃ A n c, e = .returned (.tuple #[.slice A n c, .int .i64 (optN (valsAt as_))]) ∧
 (valsAt as_ = none → n = as_.length ∧ w'.ownsRow w.heap.size 9 1 (.slice A as_.length c) as_.length (strRow (as_.map Sx.valOf)))
theorem valsAt_more {l r : List At} {x : Nat} (h : valsAt l = some x) : valsAt (l ++ r) = some x := by
 induction l with
 | nil => cases h
 | cons y l ih =>
  rw [List.cons_append, valsAt];rw [valsAt] at h
  cases hv : value y.value with
  | error e => rw [hv] at h; exact h
  | ok v => rw [hv] at h; exact ih h

set_option maxRecDepth 100000 in
set_option maxHeartbeats 16000000 in
theorem dvalues_any (w : World) (t : Tok) (A : Option Addr) (c : Nat) (hr : Reads w w.heap.size 3 A t.attrs.length (gas (t.attrs.map At.g))) (hs : TokS 100000 t) :
  Calls Tryz.prog 89 #[.agg (tokC t A c)] w (ValsR w t.attrs) := by
 have KT := hide (Blk.new w 64 (tokC t A c));have BT := hide (below_alloc w (.cells (tokC t A c) 64));have HV := hide (fun (a : At) (h : a ∈ t.attrs) W => refValue15_any a.value W (hs.an a h).2);have Hr := hide hr;obtain ⟨na, hna⟩ : ∃ na, t.attrs.length = na := ⟨_, rfl⟩;have Hna := hide hna;have Hnal := hide (show na ≤ 100000 by rw [← hna]; exact hs.ats);have HZ := hide (World.size_alloc w (.cells (tokC t A c) 64));obtain ⟨T, hT⟩ : ∃ T, w.heap.size = T := ⟨_, rfl⟩;have HT := hide hT;clear hr hs;unfold tokC;rw [hna];clear hna
 go_enter Tryz.func89, Tryz.ntmps89
 go_wp2
 go_loopg [4, 5] na (fun gk vo vk wr => ∃ (i : Nat) (Ar : Option Addr) (cr : Nat), gk = na - i ∧ i ≤ na ∧ vk = .int .i64 (i : Int) ∧ vo = .slice Ar i cr ∧ Below (T + 1) (w.alloc (.cells (tokC t A c) 64)) wr ∧ valsAt (t.attrs.take i) = none ∧
  wr.ownsRow (T + 1) 9 1 (.slice Ar i cr) i (strRow ((t.attrs.take i).map Sx.valOf)))
 case atStart => exact ⟨0, none, 0, rfl, Nat.zero_le _, rfl, rfl, by unfold tokC; rw [Hna.out, show T + 1 = (w.alloc (.cells (tokC t A c) 64)).heap.size by rw [HZ.out, HT.out]]; unfold tokC; rw [Hna.out]; exact Below.refl _ _, rfl, World.ownsRow_nil _ _ _ _⟩
 case round =>
  obtain ⟨i, Ar, cr, hgi, hi, rfl, rfl, hb, hno, hown⟩ := hrel;have Hgi := hide hgi;have Hb := hide hb;have Hno := hide hno;have Hown := hide hown
  have HKT := hide (show ∀ W, Below (T + 1) (w.alloc (.cells (tokC t A c) 64)) W → W.cell? ⟨T, 2, none⟩ = some (.slice A na c) from fun W hW => by
   have h0 : (w.alloc (.cells (tokC t A c) 64)).cell? ⟨T, 2, none⟩ = some (.slice A na c) := by rw [← HT.out, ← Hna.out]; exact KT.out.cell 2
   exact (hW.cell (p := ⟨T, 2, none⟩) (by show T < T + 1; omega)).trans h0)
  have hsz : T + 1 ≤ wr.heap.size := by have := hb.size; rw [HZ.out, HT.out] at this; exact this
  have x2 := HKT.out wr hb;clear hgi hb hno hown
  by_cases hlt : i < na
  ·obtain ⟨a, ha⟩ : ∃ a, t.attrs[i]? = some a := ⟨_, List.getElem?_eq_getElem (by rw [Hna.out]; exact hlt)⟩;have hil : i < t.attrs.length := by rw [Hna.out]; exact hlt
   have HRs := hide (show ∀ (W : World), Below (T + 1) (w.alloc (.cells (tokC t A c) 64)) W → ∃ b off, A = some ⟨b, off, none⟩ ∧ b < w.heap.size ∧ GaAt W b (off + i * 3) a.g from fun W hW => attr_at (Hr.out.below (BT.out.trans (hW.mono (by rw [HT.out]; omega)))) ha);obtain ⟨ab, ao, hA, -, ga⟩ := HRs.out wr Hb.out;subst hA;have g1 : wr.cell? ⟨ab, ao + i * 3 + 1, none⟩ = some (.string (bstr a.value)) := ga.c1;have g2 : wr.cell? ⟨ab, ao + i * 3 + 2, none⟩ = some (.int .i64 (a.at_ : Int)) := ga.c2;have HVa := hide (HV.out a (List.mem_of_getElem? ha));have hsp : t.attrs.take (i + 1) = t.attrs.take i ++ [a] := by rw [List.take_succ_eq_append_getElem hil, (List.getElem?_eq_some_iff.1 ha).2]
   have Htk := hide (show valsAt (t.attrs.take (i + 1)) = match value a.value with | .ok _ => none | .error _ => some a.at_ by
    rw [hsp, valsAt_snoc, Hno.out, Option.none_or]
    cases value a.value <;> rfl)
   have Hvl := hide (show strRow ((t.attrs.take (i + 1)).map Sx.valOf) = strRow ((t.attrs.take i).map Sx.valOf) ++ [.string (bstr (Sx.valOf a))] by rw [hsp, List.map_append, List.map_cons, List.map_nil, strRow_snoc]);have hvo : Sx.valOf a = match value a.value with | .ok v => v | .error _ => [] := rfl
   have hwk : IntKind.i64.wrap ((i : Int) + 1) = (i : Int) + 1 := IntWalk.i64_in _ (by have := Hnal.out; omega);obtain ⟨z, hz⟩ : ∃ z, value a.value = z := ⟨_, rfl⟩;rw [hz] at HVa Htk hvo;clear hz ga ha hil hsp
   cases z with
   | error er =>
    have Hst := hide (show valsAt t.attrs = some a.at_ by
     rw [← List.take_append_drop (i + 1) t.attrs];exact valsAt_more Htk.out)
    unfold strV at HVa
    go_wp2_with fail
    refine (HVa.out _).mono ?_;rintro e w2 ⟨rfl, b2⟩;have Hb2 := hide (Hb.out.trans (b2.mono hsz));obtain ⟨ab', ao', hA, -, ga⟩ := HRs.out w2 Hb2.out;cases hA;replace g2 : w2.cell? ⟨ab, ao + i * 3 + 2, none⟩ = some (.int .i64 (a.at_ : Int)) := ga.c2;replace x2 := HKT.out w2 Hb2.out;have B2 := hide (BT.out.trans (Hb2.out.mono (by rw [HT.out]; omega)));clear b2 ga g1;go_wp2
    go_quiet (fail)
    go_wp2;go_ret2;unfold ValsR;rw [Hst.out];exact ⟨below_drewN B2.out _, none, 0, 0, rfl, fun h => by cases h⟩
   | ok out =>
    dsimp only at hvo;rw [hvo] at Hvl;unfold strV at HVa
    go_wp2_with fail
    refine (HVa.out _).mono ?_;rintro e w2 ⟨rfl, b2⟩;have Hb2 := hide (Hb.out.trans (b2.mono hsz));have Hsz2 := hide (Nat.le_trans hsz b2.size);have Hown2 := hide (own_go Hown.out b2);clear b2 g1 g2 x2
    go_wp2_with (at_builtin; go_loud (refine wpList_append_elem w2 rfl (.tmp 35) (.tmp 37) 35 rfl (T + 1) (.string ⟨#[]⟩) 1 16 Tryz.underlying35 info_str rfl (by omega) (.slice Ar i cr) i _ rfl Hown2.out (cs := [.string (bstr out)]) rfl (by simp [Value.oneCell']) rfl (by unfold maxLen; have := Hnal.out; omega) (by have := Hnal.out; omega) Hsz2.out ?_); intro g' cap' w3 hown3 hgrow3 hat3 hlt3 hb3)
    have Hb3 := hide (Hb2.out.grown hgrow3 Hsz2.out (fun j hj => (own_isT Hown2.out j hj).1));have Ho3 := hide hown3;clear hown3 hgrow3 hat3 hlt3 hb3
    go_roundg (na - (i + 1))
    case measure => have := Hgi.out; omega
    case rel => exact ⟨i + 1, _, _, rfl, by omega, by first | rfl | go_num, rfl, Hb3.out, Htk.out, by rw [Hvl.out]; exact Ho3.out⟩
  have hall : i = na := by omega
  subst hall;have hta : t.attrs.take i = t.attrs := List.take_of_length_le (by rw [Hna.out]; exact Nat.le_refl _);have Hst := hide (show valsAt t.attrs = none by rw [← hta]; exact Hno.out);have Ho := hide (show wr.ownsRow (T + 1) 9 1 (.slice Ar i cr) i (strRow (t.attrs.map Sx.valOf)) by have := Hown.out; rwa [hta] at this);have B3 := hide (BT.out.trans (Hb.out.mono (by rw [HT.out]; omega)));clear hta;go_wp2;go_ret2;unfold ValsR;rw [Hst.out, Hna.out];refine ⟨B3.out, Ar, i, cr, rfl, fun _ => ⟨rfl, Ho.out.mono (base' := w.heap.size) (by rw [HT.out]; omega)⟩⟩

def DcdR (B P : Nat) (w : World) (d : Dst) (v : Dv) (as_ : List At) (e : Ending) (w' : World) : Prop :=
 e = .returned (.int .i64 (optN (declAt (as_.map valued)))) ∧ Mvs B P [24] w w' ∧ ∃ v' sc, PD B P w' ⟨d.open_, sc, d.evs, d.text, d.rooted⟩ none v' ∧ v'.Ao = v.Ao ∧ sc.length ≤ d.scope.length + as_.length ∧ (declAt (as_.map valued) = none → sc = declared d.scope (as_.map valued))
theorem declAt_more {l r : List Spl} {x : Nat} (h : declAt l = some x) : declAt (l ++ r) = some x := by
 induction l with
 | nil => cases h
 | cons y l ih =>
  rw [List.cons_append, declAt];rw [declAt] at h;split
  ·rename_i hc; rw [if_pos hc] at h; exact h
  rename_i hc; rw [if_neg hc] at h; exact ih h
set_option maxRecDepth 100000 in
set_option maxHeartbeats 32000000 in
theorem declared_any (B P base : Nat) (w : World) (d : Dst) (v : Dv) (t : Tok) (A Al : Option Addr) (c cl : Nat) (h : PD B P w d none v) (hB : B ≤ w.heap.size) (hbs : B ≤ base) (hr : Reads w B 3 A t.attrs.length (gas (t.attrs.map At.g))) (hs : TokS 100000 t)
  (hl : w.ownsRow base 9 1 (.slice Al t.attrs.length cl) t.attrs.length (strRow (t.attrs.map Sx.valOf))) (hsc : d.scope.length ≤ 100000000) :
  Calls Tryz.prog 90 #[.pointer (some ⟨P, 0, none⟩), .agg (tokC t A c), .slice Al t.attrs.length cl] w (DcdR B P w d v t.attrs) := by
 have KT := hide (Blk.new w 64 (tokC t A c));have BT := hide (below_alloc w (.cells (tokC t A c) 64));have HD := hide (fun (a : At) (h : a ∈ t.attrs) W => ddeclares_any a.name W (Nat.le_trans (hs.an a h).1 (by decide)));have HM := hide (fun p u W => dmay_any p u W);have H := hide h;have HB := hide hB;have Hr := hide hr;have Hl := hide hl;have Hsc := hide hsc;obtain ⟨na, hna⟩ : ∃ na, t.attrs.length = na := ⟨_, rfl⟩;have Hna := hide hna;have Hnal := hide (show na ≤ 100000 by rw [← hna]; exact hs.ats);obtain ⟨T, hT⟩ : ∃ T, w.heap.size = T := ⟨_, rfl⟩;have HT := hide hT;have HTP := hide (show T ≠ P by have := h.blk.lt; omega);have MT := hide (show Mvs B P [24] w (w.alloc (.cells (tokC t A c) 64)) from .of_below (below_alloc _ _));obtain ⟨ss, hss⟩ : ∃ ss, t.attrs.map valued = ss := ⟨_, rfl⟩;have Hss := hide hss
 have HLe := hide (show ∀ i, (declared d.scope (ss.take i)).length ≤ d.scope.length + t.attrs.length from fun i => by
  have := declared_len (ss.take i) d.scope;rw [List.length_take, ← hss, List.length_map] at this;rw [← hss]
  omega)
 clear h hB hr hs hl hsc;rw [hna];have H0 := hide (H.out.go BT.out);have KT0 := hide (show Blk (w.alloc (.cells (tokC t A c) 64)) T 64 (tokC t A c) by rw [← HT.out]; exact KT.out);obtain ⟨W0, hW0⟩ : ∃ W0, w.alloc (.cells (tokC t A c) 64) = W0 := ⟨_, rfl⟩;rw [hW0] at H0 KT0 MT;have HW0 := hide hW0;unfold tokC;rw [hna];unfold tokC at hW0;rw [hna] at hW0;clear hna hss
 go_enter Tryz.func90, Tryz.ntmps90
 go_wp2;(try rw [hW0]);clear hW0
 go_loopg [7] na (fun gk vk wr => ∃ (i : Nat) (vr : Dv), gk = na - i ∧ i ≤ na ∧ vk = .int .i64 (i : Int) ∧ PD B P wr ⟨d.open_, declared d.scope (ss.take i), d.evs, d.text, d.rooted⟩ none vr ∧ Mvs B P [24] W0 wr ∧ declAt (ss.take i) = none ∧ vr.Ao = v.Ao)
 case atStart => exact ⟨0, v, rfl, Nat.zero_le _, rfl, H0.out, Mvs.refl _ _ _ _, rfl, rfl⟩
 case round =>
  obtain ⟨i, vr, hgi, hi, rfl, h1, h3, hno, hAo⟩ := hrel;have Hgi := hide hgi;have H1 := hide h1;have M1 := hide h3;have Hno := hide hno;have HAo := hide hAo;clear hgi h1 h3 hno hAo;have HMW := hide (MT.out.trans M1.out);have BW := hide (HMW.out.below (C := B) (Nat.le_refl _) H.out.bp HB.out);have Hwr := hide (Nat.le_trans HB.out HMW.out.size);have KW := hide (M1.out.blk KT0.out HTP.out (by decide));have x2 := KW.out.cell 2;dsimp only [tokC] at x2;rw [Hna.out] at x2
  by_cases hlt : i < na
  ·obtain ⟨a, ha⟩ : ∃ a, t.attrs[i]? = some a := ⟨_, List.getElem?_eq_getElem (by rw [Hna.out]; exact hlt)⟩;have hil : i < t.attrs.length := by rw [Hna.out]; exact hlt
   have hsi : ss[i]? = some (valued a) := by rw [← Hss.out, List.getElem?_map, ha]; rfl
   have hsl : i < ss.length := (List.getElem?_eq_some_iff.1 hsi).1;obtain ⟨ab, ao, hA, hab, ga0⟩ := attr_at Hr.out ha;subst hA;have HGa := hide (fun (W : World) (hW : Below B w W) (j : Nat) => hW.cell (p := ⟨ab, j, none⟩) hab);have g0 : wr.cell? ⟨ab, ao + i * 3, none⟩ = some (.string (bstr a.name)) := (HGa.out _ BW.out _).trans ga0.c0;have g2 : w.cell? ⟨ab, ao + i * 3 + 2, none⟩ = some (.int .i64 (a.at_ : Int)) := ga0.c2;have G2 := hide g2;have HDa := hide (HD.out a (List.mem_of_getElem? ha));have hsp : ss.take (i + 1) = ss.take i ++ [valued a] := by rw [List.take_succ_eq_append_getElem hsl, (List.getElem?_eq_some_iff.1 hsi).2]
   have HSc := hide (show declared d.scope (ss.take (i + 1)) = if (decN a.name).2 then declared d.scope (ss.take i) ++ [⟨(decN a.name).1, Sx.valOf a⟩] else declared d.scope (ss.take i) by rw [hsp, declared_snoc, decN_is]; rfl);have HBd := hide (show declAt (ss.take (i + 1)) = if (decN a.name).2 && !mayD (decN a.name).1 (Sx.valOf a) then some a.at_ else none by rw [hsp, declAt_snoc, Hno.out, Option.none_or, decN_is]; rfl);have hwk : IntKind.i64.wrap ((i : Int) + 1) = (i : Int) + 1 := IntWalk.i64_in _ (by have := Hnal.out; omega);have Hdl := hide (show (declared d.scope (ss.take i)).length ≤ 200000000 by have := declared_len (ss.take i) d.scope; rw [List.length_take] at this; have := Hsc.out; have := Hnal.out; omega);obtain ⟨⟨p, is⟩, hd⟩ : ∃ x, decN a.name = x := ⟨_, rfl⟩;rw [hd] at HSc HBd HDa;dsimp only at HSc HBd;unfold spV at HDa;dsimp only at HDa;have Ha := hide ha;clear hd ga0 g2 ha hil hsi hsl hsp
   cases is with
   | false =>
    go_wp2_with fail
    refine (HDa.out _).mono ?_;rintro e w2 ⟨rfl, b2⟩;have I2 := hide (H1.out.go b2);have M2 := hide (M1.out.go b2);clear b2;go_wp2
    go_roundg (na - (i + 1))
    case measure => have := Hgi.out; omega
    case rel => exact ⟨i + 1, vr, rfl, by omega, by first | rfl | go_num, by rw [HSc.out]; simpa using I2.out, M2.out, by rw [HBd.out]; simp, HAo.out⟩
   | true =>
    obtain ⟨u, hu⟩ : ∃ u, Sx.valOf a = u := ⟨_, rfl⟩;rw [hu] at HSc HBd;have Hu := hide hu;clear hu;have HMa := hide (HM.out p u);obtain ⟨my, hmy⟩ : ∃ my, mayD p u = my := ⟨_, rfl⟩;rw [hmy] at HMa HBd;clear hmy
    go_wp2_with fail
    refine (HDa.out _).mono ?_;rintro e w2 ⟨rfl, b2⟩;have I2 := hide (H1.out.go b2);have M2 := hide (M1.out.go b2);have HMW2 := hide (MT.out.trans M2.out);have B2 := hide (HMW2.out.below (C := B) (Nat.le_refl _) H.out.bp HB.out);have Hw2 := hide (Nat.le_trans HB.out HMW2.out.size);have OL := hide (HMW2.out.own Hl.out H.out.blk (by decide) (by decide));have HN1 := hide (show (t.attrs.map Sx.valOf).length = t.attrs.length from List.length_map _);obtain ⟨lg, hAl, lc, -, -⟩ := str_cell (k := i) (x := u) OL.out HN1.out (by rw [List.getElem?_map, Ha.out, Option.map_some, Hu.out]);subst hAl;replace x2 := (KW.out.go b2).cell 2;dsimp only [tokC] at x2;rw [Hna.out] at x2;have g2' : w2.cell? ⟨ab, ao + i * 3 + 2, none⟩ = some (.int .i64 (a.at_ : Int)) := (HGa.out _ B2.out _).trans G2.out;clear b2 g0
    go_wp2_with fail
    refine cq (HMa.out _) ?_
    cases my with
    | false =>
     have Hst := hide (show (a.at_ : Int) = optN (declAt ss) by
      have := HBd.out;simp only [Bool.not_false, Bool.and_self, if_true] at this;rw [← List.take_append_drop (i + 1) ss, declAt_more this]
      rfl)
     have HSt := hide (show declAt ss = some a.at_ by
      have := HBd.out;simp only [Bool.not_false, Bool.and_self, if_true] at this;rw [← List.take_append_drop (i + 1) ss, declAt_more this])
     go_wp2;go_ret;unfold DcdR;rw [Hss.out];exact ⟨ret_eq1 (int_eq Hst.out), HMW2.out, vr, _, I2.out, HAo.out, HLe.out i, fun h => by rw [HSt.out] at h; cases h⟩
    | true =>
     have c1 := I2.out.cell.2.1;dsimp only at c1;obtain ⟨m, hm⟩ : ∃ m, (declared d.scope (ss.take i)).length = m := ⟨_, rfl⟩;rw [hm] at c1;have Hm := hide hm;have Hml := hide (show m ≤ 200000000 by rw [← hm]; exact Hdl.out);have OS := hide (show w2.ownsRow B 24 2 (.slice vr.As m vr.cs) m (dcls (declared d.scope (ss.take i))) by rw [← hm]; exact I2.out.s);have BX := hide (show Below w2.heap.size w2 (w2.drew.alloc (.cells (dclCells ⟨p, u⟩).toArray 24)) from (Below.refl _ _).drew.alloc (Nat.le_refl _) _);have KX := hide (show Blk (w2.drew.alloc (.cells (dclCells ⟨p, u⟩).toArray 24)) w2.heap.size 24 (dclCells ⟨p, u⟩).toArray from Blk.new w2.drew 24 _);have C1 := hide c1;have LC := hide lc;have KL := hide (own_isT OL.out lg rfl);clear hm c1 lc;go_wp2;refine wp_region_B 15 (fun W' => W'.cell? ⟨P, 1, none⟩ = some (.slice vr.As m vr.cs) ∧ W'.cell? ⟨lg, i, none⟩ = some (.string (bstr u))) (by kernel_rfl) ?_ (fun hHeld => ?_)
     ·(try dsimp only);exact ⟨C1.out, LC.out⟩
     change wpAnyB _ _ _ _ _ _ 16 #[false, false, false, false, false, false, false, false, false, false, false, false, false, false, false, false] _ _;iterate 4 (refine nbF (v := ?_) rfl rfl hHeld ?_ ?_; rotate_left; (· (intro w'; go_simp; try with_reducible rfl)); (try simp only [nx, List.set]))
     (refine nbT (v := ?_) rfl rfl hHeld ?_ ?_; rotate_left; (· (intro w' hSw; obtain ⟨z0, z1⟩ := hSw; go_simp; try with_reducible rfl)); (try simp only [nx, List.set]));iterate 4 (refine nbF (v := ?_) rfl rfl hHeld ?_ ?_; rotate_left; (· (intro w'; go_simp; try with_reducible rfl)); (try simp only [nx, List.set]))
     (refine nbT (v := ?_) rfl rfl hHeld ?_ ?_; rotate_left; (· (intro w' hSw; obtain ⟨z0, z1⟩ := hSw; go_simp; try with_reducible rfl)); (try simp only [nx, List.set]));(refine nbF (v := ?_) rfl rfl hHeld ?_ ?_; rotate_left; (· (intro w'; go_simp; try with_reducible rfl)); (try simp only [nx, List.set]));refine heldB_call (i := 11) rfl (by kernel_rfl) (by kernel_rfl) (fun K hK => ?_);go_simp;(try dsimp only);refine hK.out _ _ ?_ (fun hHeld' => ?_)
     ·(try dsimp only);exact ⟨(BX.out.cell (lt_of_cell C1.out)).trans C1.out, (BX.out.cell (lt_of_cell LC.out)).trans LC.out⟩
     clear hK K hHeld;have hHeld := hHeld';clear hHeld';(try simp only [Act.put, List.setIfInBounds_toArray, List.set_cons_zero, List.set_cons_succ]);refine heldB_call (i := 12) rfl (by kernel_rfl) (by kernel_rfl) (fun K hK => ?_);refine oper_append_elem _ (by rfl) _ _ _ (by rfl) B 24 _ 2 32 Tryz.underlying22 info_dcl (by rfl) (by omega) (.slice vr.As m vr.cs) m (dcls (declared d.scope (ss.take i))) (by rfl) (own_go OS.out BX.out) (dclCells ⟨p, u⟩) rfl (two_one _ _) w2.heap.size KX.out (by rfl) (by unfold maxLen; have := Hml.out; omega) (by have := Hml.out; omega) (Nat.le_trans Hw2.out BX.out.size) ?_;intro g8 cap8 w10 hown8 hgrow8 hlt8;have HO8 := hide hown8;have HG8 := hide hgrow8;have MT10 := hide (show MovT B 24 w2 w10 from (MovT.of_below BX.out).trans (.grown hgrow8 fun j hj => own_isT (own_go OS.out BX.out) j hj));clear hown8 hgrow8 hlt8;(try dsimp only);have PB10 := hide (MT10.out.blk I2.out.blk (by decide));have c1' : w10.cell? ⟨P, 1, none⟩ = some (.slice vr.As m vr.cs) := by rw [← Hm.out]; exact PB10.out.cell 1
     have lc' : w10.cell? ⟨lg, i, none⟩ = some (.string (bstr u)) := (World.cell?_of_block (a := ⟨lg, i, none⟩) (MT10.out.block lg KL.out.2.lt (fun hh => isT_ne KL.out.2 hh.2 (by decide)))).trans LC.out;refine hK.out _ _ ?_ (fun hHeld' => ?_)
     ·(try dsimp only);exact ⟨c1', lc'⟩
     clear hK K hHeld;have hHeld := hHeld';clear hHeld';(try simp only [Act.put, List.setIfInBounds_toArray, List.set_cons_zero, List.set_cons_succ]);iterate 2 (refine nbF (v := ?_) rfl rfl hHeld ?_ ?_; rotate_left; (· (intro w'; go_simp; try with_reducible rfl)); (try simp only [nx, List.set]))
     have f1 := PB10.out.frozen 1;refine heldB_last (i := 15) rfl (by kernel_rfl) (by kernel_rfl) (by kernel_rfl) (fun K hK => ?_);go_simp;(try dsimp only);refine hK.out _ _ ?_;clear hK K;(try simp only [Act.put, List.setIfInBounds_toArray, List.set_cons_zero, List.set_cons_succ]);refine heldB_done (by kernel_rfl) ?_ _;have hlen : (declared d.scope (ss.take (i + 1))).length = m + 1 := by rw [HSc.out]; simp only [if_true, List.length_append, Hm.out]; rfl
     have ho : w10.ownsRow B 24 2 (.slice (some ⟨g8, 0, none⟩) (declared d.scope (ss.take (i + 1))).length cap8) (declared d.scope (ss.take (i + 1))).length (dcls (declared d.scope (ss.take (i + 1)))) := by
      rw [hlen, HSc.out]; simp only [if_true]; rw [dcls_snoc]; exact HO8.out
     have hI := I2.out.setS MT10.out ho;rw [hlen] at hI;have HI := hide hI;have M10 := hide ((M2.out.trans (.of_movt MT10.out (by simp))).setP (p := ⟨P, 1, none⟩) (.inl rfl) (.slice (some ⟨g8, 0, none⟩) (m + 1) cap8));clear hI ho hlen c1' lc' f1;go_wp2
     go_roundg (na - (i + 1))
     case measure => have := Hgi.out; omega
     case rel => exact ⟨i + 1, _, rfl, by omega, by first | rfl | go_num, HI.out, M10.out, by rw [HBd.out]; simp, HAo.out⟩
  have hall : i = na := by omega
  subst hall;have hta : ss.take i = ss := List.take_of_length_le (by rw [← Hss.out, List.length_map, Hna.out]; exact Nat.le_refl _);have Hst := hide (show declAt ss = none by rw [← hta]; exact Hno.out);have HI := hide H1.out;rw [hta] at HI;have hta2 := hide hta;clear hta;go_wp2;go_ret;unfold DcdR;rw [Hss.out];exact ⟨ret_eq1 (int_eq (by rw [Hst.out]; rfl)), HMW.out, vr, _, HI.out, HAo.out, by have := HLe.out i; rwa [hta2.out] at this, fun _ => rfl⟩
end
end Go.Proofs.YtbbpkcddifmieaaGreatDoor
