/- Tokens: the declaration. · Tokens: the token at its block; kind; an end. · Tokens: what a piece's reading leaves; an end. -/
import Derived.Test.YtaickkaoglohgaaGreatDoorBw06
set_option linter.unusedSimpArgs false
set_option linter.unusedVariables false
namespace Go.Proofs.YtaickkaoglohgaaGreatDoor
section
open Go.RowKit Tk

def OptR (w : World) (X : Nat) (s : ByteArray) (k : Nat) (o : Option Nat) (e : Ending) (w' : World) : Prop :=
 But X w w' ∧ ∃ is, match o with
  | none => e = .returned (.tuple #[.bool is, .bool false]) ∧ ∃ k', k' ≤ s.size ∧ Sc w' X s k'
  | some n => e = .returned (.tuple #[.bool is, .bool true]) ∧ k + n ≤ s.size ∧ Sc w' X s (k + n)
theorem PartR.opt {w : World} {X : Nat} {s : ByteArray} {k : Nat} {may : L → Bool} {name d : L} {e : Ending} {w' : World} (ha : k ≤ s.size) (h : PartR w X s k may (Tk.part name d) e w') : OptR w X s k (Tk.opt name may d) e w' := by
 obtain ⟨h1, h2⟩ := h;unfold Tk.opt
 cases hp : Tk.part name d with
 | none =>
  rw [hp] at h2;exact ⟨h1, false, h2.1, by omega, h2.2⟩
 | some x =>
  rw [hp] at h2;obtain ⟨h3, h4, h5⟩ := h2;dsimp only
  cases hm : may x.1 with
  | true =>
   rw [hm] at h3;rw [if_pos rfl];exact ⟨h1, true, h3, h4, h5⟩
  | false =>
   rw [hm] at h3;rw [if_neg (by simp)];exact ⟨h1, true, h3, _, h4, h5⟩
def FitR (w : World) (X : Nat) (s : ByteArray) (k : Nat) (o : Option Nat) (e : Ending) (w' : World) : Prop :=
 But X w w' ∧ match o with
  | none => e = .returned (.bool false) ∧ ∃ k', k' ≤ s.size ∧ Sc w' X s k'
  | some n => e = .returned (.bool true) ∧ k + n ≤ s.size ∧ Sc w' X s (k + n)
theorem FitR.no {w : World} {X : Nat} {s : ByteArray} {k k' : Nat} {o : Option Nat} {e : Ending} {w' : World} (ho : o = none) (h1 : But X w w') (h2 : e = .returned (.bool false)) (h3 : k' ≤ s.size) (h4 : Sc w' X s k') : FitR w X s k o e w' := by
 subst ho; exact ⟨h1, h2, k', h3, h4⟩
theorem FitR.yes {w : World} {X : Nat} {s : ByteArray} {k n : Nat} {o : Option Nat} {e : Ending} {w' : World} (ho : o = some n) (h1 : But X w w') (h2 : e = .returned (.bool true)) (h3 : k + n ≤ s.size) (h4 : Sc w' X s (k + n)) : FitR w X s k o e w' := by
 subst ho; exact ⟨h1, h2, h3, h4⟩

set_option maxHeartbeats 8000000 in
set_option maxRecDepth 20000 in
theorem declaration_any (w : World) (X : Nat) (s : ByteArray) (k : Nat) (hX : Sc w X s k) (hX6 : 6 ≤ X) (hg : Gl w) (ha : k ≤ s.size) (hs : s.size ≤ 1000000000) :
  Calls Tryz.prog 91 #[.pointer (some ⟨X, 0, none⟩)] w (FitR w X s k (decl (s.data.toList.drop k))) := by
 obtain ⟨d, hd⟩ : ∃ d, s.data.toList.drop k = d := ⟨_, rfl⟩;have HV := hide (part_version w X s k hX hX6 hg ha hs);rw [hd] at HV ⊢;obtain ⟨o1, ho1⟩ : ∃ o, Tk.part sVersion d = o := ⟨_, rfl⟩;rw [ho1] at HV;obtain ⟨res, hres⟩ : ∃ r, decl d = r := ⟨_, rfl⟩;rw [hres]
 cases o1 with
 | none =>
  have HR := hide (show res = none by rw [← hres]; unfold decl; rw [ho1]; rfl);have HA := hide ha;clear hres ho1 hd ha
  go_enter Tryz.func91, Tryz.ntmps91
  go_wp2_with fail
  refine HV.out.mono ?_;rintro e w1 ⟨b1, rfl, s1⟩;have B1 := hide b1;have S1 := hide s1;clear b1 s1 HV;go_wp2;go_ret;exact FitR.no HR.out B1.out rfl HA.out S1.out
 | some x =>
  obtain ⟨v, n1⟩ := x
  cases hv : version v with
  | false =>
   have HR := hide (show res = none by rw [← hres]; unfold decl; rw [ho1, Option.bind_some, if_neg (by dsimp only; rw [hv]; simp)]);have Hv := hide hv;clear hres ho1 hd ha hv
   go_enter Tryz.func91, Tryz.ntmps91
   go_wp2_with fail
   refine HV.out.mono ?_;rintro e w1 ⟨b1, rfl, l1, s1⟩;dsimp only;rw [Hv.out];have B1 := hide b1;have S1 := hide s1;have L1 := hide l1;clear b1 s1 HV l1;go_wp2;go_ret;exact FitR.no HR.out B1.out rfl L1.out S1.out
  | true =>
   have HR1 := hide (show res = (Tk.opt sEncoding encoding (d.drop n1)).bind fun a => (Tk.opt sAlone alone (d.drop (n1 + a))).bind fun b =>
     if ([63, 62] : L).isPrefixOf ((d.drop (n1 + a + b)).drop (nsp (d.drop (n1 + a + b)))) then some (n1 + a + b + nsp (d.drop (n1 + a + b)) + 2) else none from by
    rw [← hres]; unfold decl; rw [ho1, Option.bind_some, if_pos hv])
   have Hv := hide hv
   have HE := hide fun W (hb : But X w W) (hW : Sc W X s (k + n1)) (hl : k + n1 ≤ s.size) => (show Calls Tryz.prog 113 #[.pointer (some ⟨X, 0, none⟩), .string ⟨#[101, 110, 99, 111, 100, 105, 110, 103]⟩, .func (.func 115) #[] #[]] W (OptR W X s (k + n1) (Tk.opt sEncoding encoding (d.drop n1))) from by
    refine (part_encoding W X s (k + n1) hW hX6 (hg.but hb hX6) hl hs).mono fun e w' h => ?_;rw [drop_add, hd] at h;exact h.opt hl)
   have HA := hide fun (a : Nat) W (hb : But X w W) (hW : Sc W X s (k + n1 + a)) (hl : k + n1 + a ≤ s.size) => (show Calls Tryz.prog 113 #[.pointer (some ⟨X, 0, none⟩), .string ⟨#[115, 116, 97, 110, 100, 97, 108, 111, 110, 101]⟩, .func (.func 116) #[] #[]] W (OptR W X s (k + n1 + a) (Tk.opt sAlone alone (d.drop (n1 + a)))) from by
    refine (part_alone W X s (k + n1 + a) hW hX6 (hg.but hb hX6) hl hs).mono fun e w' h => ?_;rw [Nat.add_assoc, drop_add, hd] at h;rw [Nat.add_assoc];exact h.opt (by omega))
   have HB := hide fun (a b : Nat) W (hW : Sc W X s (k + n1 + a + b)) (hl : k + n1 + a + b ≤ s.size) => (show Calls Tryz.prog 85 #[.pointer (some ⟨X, 0, none⟩)] W fun e w' => (∃ q, e = .returned (.bool q)) ∧ (k + n1 + a + b + nsp (d.drop (n1 + a + b)) ≤ s.size ∧ Sc w' X s (k + n1 + a + b + nsp (d.drop (n1 + a + b)))) ∧ But X W w' from by
    have he : s.data.toList.drop (k + n1 + a + b) = d.drop (n1 + a + b) := by rw [show k + n1 + a + b = k + (n1 + a + b) by omega, drop_add, hd]
    refine (blanks_any W X s (k + n1 + a + b) hW hl hs).mono ?_;rintro e w' ⟨rfl, h1, h2⟩;have h3 := nsp_le (s.data.toList.drop (k + n1 + a + b));rw [List.length_drop, size_list] at h3;rw [he] at h1 h3;exact ⟨⟨_, rfl⟩, ⟨by omega, h1⟩, h2⟩)
   have HI := hide fun (a b c : Nat) (hc : nsp (d.drop (n1 + a + b)) = c) W (hW : Sc W X s (k + n1 + a + b + c)) (hl : k + n1 + a + b + c ≤ s.size) => (show Calls Tryz.prog 86 #[.pointer (some ⟨X, 0, none⟩), .string ⟨#[63, 62]⟩] W (fun e w' => e = .returned (.bool (([63, 62] : L).isPrefixOf ((d.drop (n1 + a + b)).drop c))) ∧ Sc w' X s (if ([63, 62] : L).isPrefixOf ((d.drop (n1 + a + b)).drop c) = true then k + n1 + a + b + c + 2 else k + n1 + a + b + c) ∧ But X W w' ∧ (([63, 62] : L).isPrefixOf ((d.drop (n1 + a + b)).drop c) = true → k + n1 + a + b + c + 2 ≤ s.size)) from by
    have he : s.data.toList.drop (k + n1 + a + b + c) = (d.drop (n1 + a + b)).drop c := by rw [show k + n1 + a + b + c = k + (n1 + a + b + c) by omega, drop_add, hd, List.drop_drop]
    refine (isp_any W X s ⟨#[63, 62]⟩ (k + n1 + a + b + c) hW hl hs (by decide)).mono ?_;rintro e w' ⟨rfl, h1, h2⟩;rw [he] at h1 ⊢;refine ⟨rfl, h1, h2, fun hp => ?_⟩;have h3 := pfx_len hp;rw [← he, List.length_drop, size_list] at h3;have e2 : ([63, 62] : L).length = 2 := rfl
    omega)
   clear hres ho1 ha hv;generalize Tk.opt sEncoding encoding (d.drop n1) = o2 at *
   go_enter Tryz.func91, Tryz.ntmps91
   go_wp2_with fail
   refine HV.out.mono ?_;rintro e w1 ⟨b1, rfl, l1, s1⟩;dsimp only;rw [Hv.out];have B1 := hide b1;have S1 := hide s1;have L1 := hide l1;clear b1 s1 HV l1
   go_wp2_with fail
   refine (HE.out _ B1.out S1.out L1.out).mono ?_;rintro e w2 ⟨b2, is2, h2⟩;have B2 := hide (B1.out.trans b2);clear b2
   cases o2 with
   | none =>
    obtain ⟨rfl, k2, l2, s2⟩ := h2;have S2 := hide s2;have L2 := hide l2;clear s2 l2 HE HA HB HI;have HR := hide (show res = none from HR1.out);clear HR1;go_wp2;go_ret;exact FitR.no HR.out B2.out rfl L2.out S2.out
   | some a =>
    obtain ⟨rfl, l2, s2⟩ := h2;have S2 := hide s2;have L2 := hide l2;have HA' := hide (HA.out a);have HB' := hide (HB.out a);have HI' := hide (HI.out a);have HR2 := hide HR1.out;rw [Option.bind_some] at HR2;clear s2 l2 HE HA HB HI HR1;generalize Tk.opt sAlone alone (d.drop (n1 + a)) = o3 at *
    go_wp2_with fail
    refine (HA'.out _ B2.out S2.out L2.out).mono ?_;rintro e w3 ⟨b3, is3, h3⟩;have B3 := hide (B2.out.trans b3);clear b3
    cases o3 with
    | none =>
     obtain ⟨rfl, k3, l3, s3⟩ := h3;have S3 := hide s3;have L3 := hide l3;clear s3 l3 HA' HB' HI';have HR := hide (show res = none from HR2.out);clear HR2;go_wp2;go_ret;exact FitR.no HR.out B3.out rfl L3.out S3.out
    | some b =>
     obtain ⟨rfl, l3, s3⟩ := h3;have S3 := hide s3;have L3 := hide l3;have HB2 := hide (HB'.out b);have HI2 := hide (HI'.out b);have HR3 := hide HR2.out;rw [Option.bind_some] at HR3;clear s3 l3 HA' HB' HI' HR2;obtain ⟨c, hc⟩ : ∃ c, nsp (d.drop (n1 + a + b)) = c := ⟨_, rfl⟩;have HI3 := hide (HI2.out c hc);rw [hc] at HB2 HR3;clear hc HI2;generalize ([63, 62] : L).isPrefixOf ((d.drop (n1 + a + b)).drop c) = p at *
     go_wp2_with fail
     refine (HB2.out _ S3.out L3.out).mono ?_;rintro e w4 ⟨⟨q, rfl⟩, ⟨l4, s4⟩, b4⟩;have B4 := hide (B3.out.trans b4);have S4 := hide s4;have L4 := hide l4;clear s4 l4 b4 HB2
     go_wp2_with fail
     refine (HI3.out _ S4.out L4.out).mono ?_;rintro e w5 ⟨rfl, s5, b5, l5⟩;have B5 := hide (B4.out.trans b5);have S5 := hide s5;have L5 := hide l5;clear s5 l5 b5 HI3
     cases p with
     | false =>
      go_wp2;go_ret;refine FitR.no (by rw [HR3.out]; rfl) B5.out rfl L4.out ?_
      simpa using S5.out
     | true =>
      go_wp2;go_ret;refine FitR.yes (n := n1 + a + b + c + 2) (by rw [HR3.out]; rfl) B5.out rfl ?_ ?_
      ·have := L5.out (by simp); omega
      have h := S5.out;rw [if_pos (by simp)] at h;rw [show k + (n1 + a + b + c + 2) = k + n1 + a + b + c + 2 by omega];exact h
end
section
open Go.RowKit Tk

structure But2 (X T : Nat) (w w' : World) : Prop where
 os : w'.os = w.os
 tape : w'.tape = w.tape
 output : w'.output = w.output
 size : w.heap.size ≤ w'.heap.size
 block : ∀ k, k < w.heap.size → k ≠ X → k ≠ T → w'.heap[k]? = w.heap[k]?
section
variable {X T : Nat} {w w1 w' : World}
theorem But2.refl (X T : Nat) (w : World) : But2 X T w w := ⟨rfl, rfl, rfl, Nat.le_refl _, fun _ _ _ _ => rfl⟩
theorem But2.trans (h : But2 X T w w1) (k : But2 X T w1 w') : But2 X T w w' :=
 ⟨k.os.trans h.os, k.tape.trans h.tape, k.output.trans h.output, Nat.le_trans h.size k.size, fun i hi hb hc => (k.block i (Nat.lt_of_lt_of_le hi h.size) hb hc).trans (h.block i hi hb hc)⟩
theorem But2.below {B : Nat} (h : But2 X T w w') (hb : B ≤ X) (hc : B ≤ T) (hs : B ≤ w.heap.size) : Below B w w' := ⟨h.os, h.tape, h.output, h.size, fun k hk => h.block k (by omega) (by omega) (by omega)⟩
theorem But.to2 (h : But X w w') : But2 X T w w' := ⟨h.os, h.tape, h.output, h.size, fun k hk hb _ => h.block k hk hb⟩
theorem But2.go (h : But2 X T w w1) (hb : Below w1.heap.size w1 w') : But2 X T w w' := h.trans (But.of_below hb).to2
theorem But2.one (h : But2 X T w w1) (hb : But X w1 w') : But2 X T w w' := h.trans hb.to2
theorem But2.drew (h : But2 X T w w1) : But2 X T w w1.drew := ⟨h.os, h.tape, h.output, h.size, h.block⟩
theorem But2.alloc (h : But2 X T w w1) (o : Obj) : But2 X T w (w1.alloc o) := h.trans ⟨rfl, rfl, rfl, by simp, fun k hk _ _ => Below.heap_alloc _ _ _ hk⟩
theorem But2.setCell (h : But2 X T w w1) {p : Addr} (hp : p.block = X ∨ p.block = T ∨ w.heap.size ≤ p.block) (u : Value) : But2 X T w (w1.setCell p u) := by
 refine ⟨h.os, h.tape, h.output, by simpa [World.setCell] using h.size, fun k hk hb hc => ?_⟩;rw [Below.heap_setCell _ _ _ _ (by omega)];exact h.block k hk hb hc
theorem Gl.but2 (h : Gl w) (hb : But2 X T w w') (hX : 6 ≤ X) (hT : 6 ≤ T) : Gl w' := h.keep fun g i v hg hv =>
 (World.cell?_of_block (a := ⟨g, i, none⟩) (hb.block g (lt_of_cell hv) (by omega) (by omega))).trans hv
end
def Tb (w : World) (T : Nat) (kind : Int) (name : ByteArray) (as_ : Value) (empty : Bool) (text : ByteArray) (at_ end_ : Nat) : Prop :=
 Blk w T 55 #[.int .i8 kind, .string name, as_, .bool empty, .string text, .int .i64 (at_ : Int), .int .i64 (end_ : Int)]
section
variable {w : World} {T : Nat} {kind : Int} {name : ByteArray} {as_ : Value} {empty : Bool} {text : ByteArray} {at_ end_ : Nat}
theorem Tb.f (h : Tb w T kind name as_ empty text at_ end_) (i : Nat) : w.frozen? ⟨T, i, none⟩ = false := Blk.frozen h i
theorem Tb.c0 (h : Tb w T kind name as_ empty text at_ end_) : w.cell? ⟨T, 0, none⟩ = some (.int .i8 kind) := Blk.cell h 0
theorem Tb.c1 (h : Tb w T kind name as_ empty text at_ end_) : w.cell? ⟨T, 1, none⟩ = some (.string name) := Blk.cell h 1
theorem Tb.c2 (h : Tb w T kind name as_ empty text at_ end_) : w.cell? ⟨T, 2, none⟩ = some as_ := Blk.cell h 2
theorem Tb.c3 (h : Tb w T kind name as_ empty text at_ end_) : w.cell? ⟨T, 3, none⟩ = some (.bool empty) := Blk.cell h 3
theorem Tb.c4 (h : Tb w T kind name as_ empty text at_ end_) : w.cell? ⟨T, 4, none⟩ = some (.string text) := Blk.cell h 4
theorem Tb.c5 (h : Tb w T kind name as_ empty text at_ end_) : w.cell? ⟨T, 5, none⟩ = some (.int .i64 (at_ : Int)) := Blk.cell h 5
theorem Tb.c6 (h : Tb w T kind name as_ empty text at_ end_) : w.cell? ⟨T, 6, none⟩ = some (.int .i64 (end_ : Int)) := Blk.cell h 6
theorem Tb.kind_ (h : Tb w T kind name as_ empty text at_ end_) (k : Int) : Tb (w.setCell ⟨T, 0, none⟩ (.int .i8 k)) T k name as_ empty text at_ end_ := by have := Blk.set_ h 0 (.int .i8 k); simpa [Tb] using this
theorem Tb.name_ (h : Tb w T kind name as_ empty text at_ end_) (k : ByteArray) : Tb (w.setCell ⟨T, 1, none⟩ (.string k)) T kind k as_ empty text at_ end_ := by have := Blk.set_ h 1 (.string k); simpa [Tb] using this
theorem Tb.as__ (h : Tb w T kind name as_ empty text at_ end_) (k : Value) : Tb (w.setCell ⟨T, 2, none⟩ k) T kind name k empty text at_ end_ := by have := Blk.set_ h 2 k; simpa [Tb] using this
theorem Tb.empty_ (h : Tb w T kind name as_ empty text at_ end_) (k : Bool) : Tb (w.setCell ⟨T, 3, none⟩ (.bool k)) T kind name as_ k text at_ end_ := by have := Blk.set_ h 3 (.bool k); simpa [Tb] using this
theorem Tb.text_ (h : Tb w T kind name as_ empty text at_ end_) (k : ByteArray) : Tb (w.setCell ⟨T, 4, none⟩ (.string k)) T kind name as_ empty k at_ end_ := by have := Blk.set_ h 4 (.string k); simpa [Tb] using this
theorem Tb.end__ (h : Tb w T kind name as_ empty text at_ end_) (k : Nat) : Tb (w.setCell ⟨T, 6, none⟩ (.int .i64 (k : Int))) T kind name as_ empty text at_ k := by have := Blk.set_ h 6 (.int .i64 (k : Int)); simpa [Tb] using this
theorem Tb.at_but {X : Nat} {w' : World} (h : Tb w T kind name as_ empty text at_ end_) (hb : But X w w') (hne : T ≠ X) : Tb w' T kind name as_ empty text at_ end_ := hb.blk h hne
theorem Sc.far {X : Nat} {s : ByteArray} {k i : Nat} (h : Sc w X s k) (hne : X ≠ T) (u : Value) : Sc (w.setCell ⟨T, i, none⟩ u) X s k := Blk.far h hne u
theorem Tb.far {X i : Nat} (h : Tb w T kind name as_ empty text at_ end_) (hne : T ≠ X) (u : Value) : Tb (w.setCell ⟨X, i, none⟩ u) T kind name as_ empty text at_ end_ := Blk.far h hne u
end

def kindOf (l : L) : Int := if ([60, 47] : L).isPrefixOf l then 1 else if ([60, 33] : L).isPrefixOf l || ([60, 63] : L).isPrefixOf l then 2 else if ([60] : L).isPrefixOf l then 0 else 3
theorem kind_any (s : ByteArray) (w : World) (h : 0 < s.size) : Calls Tryz.prog 59 #[.string s] w fun e w' => e = .returned (.int .i64 (kindOf s.data.toList)) ∧ w' = w := by
 obtain ⟨c, hc⟩ : ∃ c, s.data.toList[0]? = some c := ⟨_, List.getElem?_eq_getElem (by rw [size_list]; exact h)⟩
 have hsc : s[0] = c := by
  obtain ⟨h1, h2⟩ := List.getElem?_eq_some_iff.1 hc;exact h2
 have H1 := hide (show ∀ W, Calls Tryz.prog 36 #[.string s, .string ⟨#[60, 47]⟩] W fun e w' => e = .returned (.bool (([60, 47] : L).isPrefixOf s.data.toList)) ∧ w' = W from fun W => Tryz.strings_HasPrefix s ⟨#[60, 47]⟩ W);have H2 := hide (show ∀ W, Calls Tryz.prog 36 #[.string s, .string ⟨#[60, 33]⟩] W fun e w' => e = .returned (.bool (([60, 33] : L).isPrefixOf s.data.toList)) ∧ w' = W from fun W => Tryz.strings_HasPrefix s ⟨#[60, 33]⟩ W);have H3 := hide (show ∀ W, Calls Tryz.prog 36 #[.string s, .string ⟨#[60, 63]⟩] W fun e w' => e = .returned (.bool (([60, 63] : L).isPrefixOf s.data.toList)) ∧ w' = W from fun W => Tryz.strings_HasPrefix s ⟨#[60, 63]⟩ W)
 have hp : ([60] : L).isPrefixOf s.data.toList = decide (c = 60) := by
  cases hl : s.data.toList with
  | nil => rw [hl] at hc; cases hc
  | cons d r =>
   rw [hl] at hc;cases hc;rw [Bool.eq_iff_iff];simp;exact ⟨fun h => h.symm, fun h => h.symm⟩
 unfold kindOf;rw [hp]
 have hc60 : ((s[0].toNat : Int) == 60) = decide (c = 60) := by
  rw [hsc];rw [Bool.eq_iff_iff, beq_iff_eq, decide_eq_true_eq]
  constructor
  ·intro h;exact UInt8.toNat.inj (by show c.toNat = 60; omega)
  intro h;rw [h];rfl
 generalize ([60, 47] : L).isPrefixOf s.data.toList = a at *
 generalize ([60, 33] : L).isPrefixOf s.data.toList = b at *
 generalize ([60, 63] : L).isPrefixOf s.data.toList = d at *
 generalize decide (c = 60) = f at *
 clear hp hc hsc
 cases a with
 | true =>
  go_enter Tryz.func59, Tryz.ntmps59
  go_wp2_with fail
  refine (H1.out _).mono ?_;rintro e w1 ⟨rfl, rfl⟩;go_wp2;go_ret;exact ⟨rfl, rfl⟩
 | false =>
  cases b with
  | true =>
   go_enter Tryz.func59, Tryz.ntmps59
   go_wp2_with fail
   refine (H1.out _).mono ?_;rintro e w1 ⟨rfl, rfl⟩
   go_wp2_with fail
   refine (H2.out _).mono ?_;rintro e w2 ⟨rfl, rfl⟩;go_wp2;go_ret;exact ⟨rfl, rfl⟩
  | false =>
   cases d with
   | true =>
    go_enter Tryz.func59, Tryz.ntmps59
    go_wp2_with fail
    refine (H1.out _).mono ?_;rintro e w1 ⟨rfl, rfl⟩
    go_wp2_with fail
    refine (H2.out _).mono ?_;rintro e w2 ⟨rfl, rfl⟩
    go_wp2_with fail
    refine (H3.out _).mono ?_;rintro e w3 ⟨rfl, rfl⟩;go_wp2;go_ret;exact ⟨rfl, rfl⟩
   | false =>
    cases f with
    | true =>
     go_enter Tryz.func59, Tryz.ntmps59
     go_wp2_with fail
     refine (H1.out _).mono ?_;rintro e w1 ⟨rfl, rfl⟩
     go_wp2_with fail
     refine (H2.out _).mono ?_;rintro e w2 ⟨rfl, rfl⟩
     go_wp2_with fail
     refine (H3.out _).mono ?_;rintro e w3 ⟨rfl, rfl⟩;go_wp2;go_ret;exact ⟨rfl, rfl⟩
    | false =>
     go_enter Tryz.func59, Tryz.ntmps59
     go_wp2_with fail
     refine (H1.out _).mono ?_;rintro e w1 ⟨rfl, rfl⟩
     go_wp2_with fail
     refine (H2.out _).mono ?_;rintro e w2 ⟨rfl, rfl⟩
     go_wp2_with fail
     refine (H3.out _).mono ?_;rintro e w3 ⟨rfl, rfl⟩;go_wp2;go_ret;exact ⟨rfl, rfl⟩
end
section
open Go.RowKit Tk

def attrVs (l : List At) : List Value := l.flatMap fun a => [.string (bstr a.name), .string (bstr a.value), .int .i64 (a.at_ : Int)]
def TokAt (w : World) (base T : Nat) (t : Tok) (e : Nat) : Prop :=
 ∃ A c, Tb w T t.kind (bstr t.name) (.slice A t.attrs.length c) t.empty (bstr t.text) t.at_ e ∧ w.ownsRow base 114 3 (.slice A t.attrs.length c) t.attrs.length (attrVs t.attrs)
def SomeTok (w : World) (T : Nat) : Prop := ∃ kind name as_ empty text a e, Tb w T kind name as_ empty text a e
def PieceR (w : World) (base X T : Nat) (s : ByteArray) (k : Nat) (o : Option Tok) (e : Ending) (w' : World) : Prop :=
 But2 X T w w' ∧ match o with
  | none => e = .returned (.bool false) ∧ (∃ k', k' ≤ s.size ∧ Sc w' X s k') ∧ SomeTok w' T
  | some t => e = .returned (.bool true) ∧ t.end_ ≤ s.size ∧ k < t.end_ ∧ Sc w' X s t.end_ ∧ TokAt w' base T t 0
theorem PieceR.no {w : World} {base X T : Nat} {s : ByteArray} {k k' : Nat} {o : Option Tok} {e : Ending} {w' : World} (ho : o = none) (h1 : But2 X T w w') (h2 : e = .returned (.bool false)) (h3 : k' ≤ s.size) (h4 : Sc w' X s k') (h5 : SomeTok w' T) : PieceR w base X T s k o e w' := by
 subst ho; exact ⟨h1, h2, ⟨k', h3, h4⟩, h5⟩
theorem PieceR.yes {w : World} {base X T : Nat} {s : ByteArray} {k : Nat} {t : Tok} {o : Option Tok} {e : Ending} {w' : World} (ho : o = some t) (h1 : But2 X T w w') (h2 : e = .returned (.bool true)) (h3 : t.end_ ≤ s.size) (h4 : k < t.end_) (h5 : Sc w' X s t.end_) (h6 : TokAt w' base T t 0) : PieceR w base X T s k o e w' := by
 subst ho; exact ⟨h1, h2, h3, h4, h5, h6⟩
def T0 (w : World) (T k : Nat) : Prop := Tb w T 0 ⟨#[]⟩ (.slice none 0 0) false ⟨#[]⟩ k 0
theorem str_emp' (l : L) : ((bstr l).toList == ([] : L)) = l.isEmpty := str_emp (bstr l)

set_option maxHeartbeats 8000000 in
set_option maxRecDepth 20000 in
theorem end_any (w : World) (base X T : Nat) (s : ByteArray) (k : Nat) (hX : Sc w X s k) (hT : T0 w T k) (hne : X ≠ T) (ha : k + 2 ≤ s.size) (hs : s.size ≤ 1000000000) :
  Calls Tryz.prog 56 #[.pointer (some ⟨X, 0, none⟩), .pointer (some ⟨T, 0, none⟩)] w (PieceR w base X T s k (Tk.end_ k (s.data.toList.drop k))) := by
 obtain ⟨d, hd⟩ : ∃ d, s.data.toList.drop k = d := ⟨_, rfl⟩;have hd2 : s.data.toList.drop (k + 2) = d.drop 2 := by rw [drop_add, hd]
 have HN := hide fun W (hW : Sc W X s (k + 2)) => name_any W X s (k + 2) hW ha hs;rw [hd2] at HN;rw [hd];obtain ⟨r, hr⟩ : ∃ r, d.drop 2 = r := ⟨_, rfl⟩;rw [hr] at HN hd2;have hrl : r.length = s.size - (k + 2) := by rw [← hd2, List.length_drop, size_list]
 obtain ⟨n, hn⟩ : ∃ n, take r = n := ⟨_, rfl⟩;have hnl : n ≤ s.size - (k + 2) := by have := take_le r; omega
 have hex : s.extract (k + 2) (k + 2 + n) = bstr (r.take n) := by rw [extract_bstr, hd2, show k + 2 + n - (k + 2) = n by omega]
 rw [hn, hex] at HN;have hdn : s.data.toList.drop (k + 2 + n) = r.drop n := by rw [drop_add, hd2]
 have HB := hide fun W (hW : Sc W X s (k + 2 + n)) => blanks_any W X s (k + 2 + n) hW (by omega) hs;obtain ⟨m, hm⟩ : ∃ m, nsp (r.drop n) = m := ⟨_, rfl⟩;have hml : m ≤ s.size - (k + 2 + n) := by have := nsp_le (r.drop n); rw [List.length_drop] at this; omega
 rw [hdn, hm] at HB;have hdm : s.data.toList.drop (k + 2 + n + m) = (r.drop n).drop m := by rw [drop_add, hdn]
 have HI := hide fun W (hW : Sc W X s (k + 2 + n + m)) => isp_any W X s ⟨#[62]⟩ (k + 2 + n + m) hW (by omega) hs (by decide);rw [hdm] at HI;obtain ⟨p, hp⟩ : ∃ p, ([62] : L).isPrefixOf ((r.drop n).drop m) = p := ⟨_, rfl⟩;rw [show ((⟨#[62]⟩ : ByteArray).data.toList.isPrefixOf ((r.drop n).drop m)) = p from hp] at HI;obtain ⟨res, hres⟩ : ∃ o, Tk.end_ k d = o := ⟨_, rfl⟩;rw [hres]
 have hR : res = if n = 0 then none else if p = true then some ⟨1, r.take n, [], false, [], k, k + 2 + n + m + 1⟩ else none := by
  rw [← hres];unfold Tk.end_;dsimp only;rw [hr, hn, hm, hp]
 have hpl : p = true → k + 2 + n + m + 1 ≤ s.size := fun h => by
  have := pfx_len (by rw [hp]; exact h);rw [← hdm, List.length_drop, size_list] at this;have e : ([62] : L).length = 1 := rfl;omega
 have hE := str_emp' (r.take n)
 have hE2 : (r.take n).isEmpty = decide (n = 0) := by
  rw [Bool.eq_iff_iff, List.isEmpty_iff, decide_eq_true_eq]
  constructor
  ·intro h;have := congrArg List.length h;rw [List.length_take, List.length_nil] at this;omega
  intro h; rw [h, List.take_zero]
 rw [hE2] at hE;have HR := hide hR;have HPl := hide hpl;have HS0 := hide hX;have HT0 := hide hT;have q1 := Sc.c1 hX;have f1 := Sc.f1 hX;have f0 := Tb.f hT 0;have c0 := Tb.c0 hT;have HSz := hide (show k + 2 + n + m ≤ s.size by omega);obtain ⟨nm, hnm⟩ : ∃ nm, bstr (r.take n) = nm := ⟨_, rfl⟩;rw [hnm] at HN hE;have HNm := hide hnm;clear hnm hres hR hpl hX hT hd hd2 hr hrl hn hnl hex hdn hm hml hdm hp hE2;have hw2 : IntKind.i64.wrap ((k : Int) + 2) = (k : Int) + 2 := IntWalk.i64_in _ (by omega)
 go_enter Tryz.func56, Tryz.ntmps56
 go_wp2_with fail
 have S1 := hide (Sc.move (Sc.far HS0.out hne (i := 0) (.int .i8 1)) (k + 2));have T1 := hide (Tb.far (i := 1) (Tb.kind_ HT0.out 1) (Ne.symm hne) (.int .i64 ((k + 2 : Nat) : Int)));have B1 := hide (((But2.refl X T w).setCell (p := ⟨T, 0, none⟩) (.inr (.inl rfl)) (.int .i8 1)).setCell (p := ⟨X, 1, none⟩) (.inl rfl) (.int .i64 ((k + 2 : Nat) : Int)));clear q1 f1 f0 c0;refine (HN.out _ S1.out).mono ?_;rintro e w2 ⟨rfl, s2, b2⟩;have T2 := hide (T1.out.at_but b2 (Ne.symm hne));have B2 := hide (B1.out.one b2);have S2 := hide s2;have f0 := Tb.f T2.out 1;have c0 := Tb.c1 T2.out;clear s2 b2 HN S1 T1 B1
 go_wp2_with fail
 have S3 := hide (Sc.far (i := 1) S2.out hne (.string nm));have T3 := hide (Tb.name_ T2.out nm);have B3 := hide (B2.out.setCell (p := ⟨T, 1, none⟩) (.inr (.inl rfl)) (.string nm));clear f0 c0 S2 T2 B2;refine (HB.out _ S3.out).mono ?_;rintro e w4 ⟨rfl, s4, b4⟩;have T4 := hide (T3.out.at_but b4 (Ne.symm hne));have B4 := hide (B3.out.one b4);have S4 := hide s4;have c1 := Tb.c1 T4.out;clear s4 b4 HB S3 T3 B3
 by_cases h0 : n = 0
 ·rw [decide_eq_true h0] at hE;have HR0 := hide (show res = none by rw [HR.out, if_pos h0]);clear h0 HR HI;go_wp2;go_ret;exact PieceR.no HR0.out B4.out rfl HSz.out S4.out ⟨_, _, _, _, _, _, _, T4.out⟩
 rw [decide_eq_false h0] at hE;have HR0 := hide (show res = if p = true then some ⟨1, r.take n, [], false, [], k, k + 2 + n + m + 1⟩ else none by rw [HR.out, if_neg h0]);clear h0 HR
 go_wp2_with fail
 refine (HI.out _ S4.out).mono ?_;rintro e w5 ⟨rfl, s5, b5⟩;have T5 := hide (T4.out.at_but b5 (Ne.symm hne));have B5 := hide (B4.out.one b5);have S5 := hide s5;clear s5 b5 HI S4 T4 B4 c1
 cases p with
 | false =>
  go_wp2;go_ret;refine PieceR.no (by rw [HR0.out]; rfl) B5.out rfl HSz.out (k' := k + 2 + n + m) ?_ ⟨_, _, _, _, _, _, _, T5.out⟩
  simpa using S5.out
 | true =>
  go_wp2;go_ret;refine PieceR.yes (t := ⟨1, r.take n, [], false, [], k, k + 2 + n + m + 1⟩) (by rw [HR0.out]; rfl) B5.out rfl (HPl.out (by simp)) (by dsimp only; omega) ?_ ?_
  ·have h := S5.out;rw [if_pos (by simp)] at h;exact h
  refine ⟨none, 0, ?_, World.ownsRow_nil _ _ _ _⟩;have h := T5.out;rw [← HNm.out] at h;exact h
end
end Go.Proofs.YtaickkaoglohgaaGreatDoor
