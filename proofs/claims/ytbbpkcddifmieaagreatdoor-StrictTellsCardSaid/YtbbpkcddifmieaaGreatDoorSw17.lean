/- References: the document's Strict: the text that a text with references stands for. · References: the iterator over a text's pieces. -/
import Derived.Test.YtbbpkcddifmieaaGreatDoorSw03
import Derived.Test.YtbbpkcddifmieaaGreatDoorSw15
import Derived.Test.YtbbpkcddifmieaaGreatDoorSw16
set_option linter.unusedSimpArgs false
set_option linter.unusedVariables false
namespace Go.Proofs.YtbbpkcddifmieaaGreatDoor
section
open Go.RowKit Tk Sx

namespace Sx
def glueE (out : L) : Except Nat L → Except Nat L
 | .ok l => .ok (out ++ l)
 | .error a => .error a
def sref : Nat → Nat → L → Except Nat L
 | 0, _, _ => .ok []
 | _ + 1, _, [] => .ok []
 | f + 1, at_, c :: r => if c ≠ 38 then glueE [c] (sref f (at_ + 1) r) else match ends r with
  | none => .error at_
  | some n => match scalar (r.take n) with
   | none => .error at_
   | some v => glueE (putL v) (sref f (at_ + n + 2) (r.drop (n + 1)))
theorem glueE_glue (a b : L) (e : Except Nat L) : glueE a (glueE b e) = glueE (a ++ b) e := by cases e <;> simp [glueE]
theorem sref_nil {f at_ : Nat} : sref f at_ [] = .ok [] := by cases f <;> rfl
theorem sref_byte {f k : Nat} {c : UInt8} {r : L} (h : c ≠ 38) : sref (f + 1) k (c :: r) = glueE [c] (sref f (k + 1) r) := by rw [sref, if_pos h]
theorem sref_none {f k : Nat} {r : L} (h : ends r = none) : sref (f + 1) k (38 :: r) = .error k := by rw [sref, if_neg (by simp), h]
theorem sref_bad {f k n : Nat} {r : L} (h : ends r = some n) (hs : scalar (r.take n) = none) : sref (f + 1) k (38 :: r) = .error k := by rw [sref, if_neg (by simp), h]; simp only [hs]
theorem sref_ref {f k n v : Nat} {r : L} (h : ends r = some n) (hs : scalar (r.take n) = some v) : sref (f + 1) k (38 :: r) = glueE (putL v) (sref f (k + n + 2) (r.drop (n + 1))) := by rw [sref, if_neg (by simp), h]; simp only [hs]
theorem char_scalar {v : Int} (h : charOk v = true) : Utf.isScalar v = true := by
 unfold charOk Tk.within at h;simp only [Bool.or_eq_true, Bool.and_eq_true, decide_eq_true_eq] at h;simp [Utf.isScalar];omega
theorem scalar_is {s : L} {v : Nat} (h : scalar s = some v) : Utf.isScalar (v : Int) = true := by
 unfold scalar at h
 have hn : ∀ {v : Nat}, named s = some v → Utf.isScalar (v : Int) = true := fun {v} h => by
  unfold named at h
  repeat' (split at h)
  all_goals first | (cases h; done) | (simp only [Option.some.injEq] at h; subst h; decide)
 cases hm : number s with
 | none => rw [hm] at h; exact hn h
 | some x =>
  cases x with
  | none => rw [hm] at h; exact hn h
  | some u =>
   rw [hm] at h;simp only [Option.some.injEq] at h;subst h;refine char_scalar ?_;rw [number_is] at hm
   split at hm
   ·cases hv : numVal (digs s).2 0 (digs s).1 with
    | none => rw [hv] at hm; cases hm
    | some y =>
     rw [hv, Option.map_some] at hm;unfold chk at hm
     by_cases hc : charOk (y : Int) = true
     ·rw [if_pos hc] at hm; cases hm; exact hc
     rw [if_neg hc] at hm; cases hm
   cases hm
end Sx
def strV (z : Except Nat L) : Value := match z with
 | .ok out => .tuple #[.string (bstr out), .int .i64 (-1), .int .i64 0]
 | .error a => .tuple #[.string ⟨#[]⟩, .int .i64 (a : Int), .int .i64 50]
theorem app_list (a b : ByteArray) : (a ++ b).data.toList = a.data.toList ++ b.data.toList := by simp
theorem app_size (a b : ByteArray) : (a ++ b).size = a.size + b.size := by rw [← size_list, app_list, List.length_append, size_list, size_list]

set_option maxHeartbeats 16000000 in
set_option maxRecDepth 20000 in
theorem strict13_any (D : L) (w : World) (hD : D.length ≤ 100000000) :
  Calls Tryz.prog 22 #[.string (bstr D)] w fun e w' => e = .returned (strV (sref D.length 0 D)) ∧ Below w.heap.size w w' := by
 have Hs := hide (bstr_size D);have HI : Hid (∀ (k : Nat) (c : UInt8), D[k]? = some c → ∀ w, (Instr.index 9 (.string (bstr D)) (.int .i64 (k : Int))).run Tryz.prog w = .ok (.int .u8 (c.toNat : Nat)) w) := hide fun k c h => idx_run (bstr D) k c h;have HEx := hide (show ∀ a b : Nat, (bstr D).extract a b = bstr ((D.drop a).take (b - a)) from fun a b => by rw [extract_bstr, bstr_list]);have HEn := hide (fun (k : Nat) W (h : k < (bstr D).size) => end13_any (bstr D) k W h (by rw [bstr_size]; omega));have HNu := hide (fun (q : L) W (h : q.length ≤ 1000000000) => number13_any q W h);have HNm := hide (fun (q : L) W => named13_any (bstr q) W);obtain ⟨z, hz⟩ : ∃ z, sref D.length 0 D = z := ⟨_, rfl⟩;rw [hz];have Hz := hide (show glueE [] (sref D.length 0 (D.drop 0)) = z by rw [← hz, List.drop_zero]; cases sref D.length 0 D <;> simp [glueE]);clear hz
 go_enter Tryz.func22, Tryz.ntmps22
 go_wp2
 go_loopg [5, 6] (bstr D).size (fun gk vo vi wr => ∃ (k f : Nat) (u : ByteArray), gk = (bstr D).size - k ∧ k ≤ (bstr D).size ∧ vi = .int .i64 (k : Int) ∧ vo = .string u ∧ (bstr D).size - k ≤ f ∧ u.size ≤ 4 * k ∧ glueE u.data.toList (sref f k (D.drop k)) = z ∧ Below w.heap.size w wr)
 case atStart => exact ⟨0, D.length, ⟨#[]⟩, rfl, by omega, rfl, rfl, by rw [Hs.out]; omega, by decide, Hz.out, Below.refl _ _⟩
 case round =>
  obtain ⟨k, f, u, hgk, hk, rfl, rfl, hf, hu, hzk, hb⟩ := hrel;have Hg := hide hgk;have Hzk := hide hzk;have Hu := hide hu;have HB := hide hb;clear hgk hzk hu hb Hz
  by_cases hlt : k < (bstr D).size
  ·have hkl : k < D.length := by rw [← Hs.out]; exact hlt
   obtain ⟨f, rfl⟩ : ∃ f', f = f' + 1 := ⟨f - 1, by omega⟩;obtain ⟨c, hc⟩ : ∃ c, D[k]? = some c := ⟨_, List.getElem?_eq_getElem hkl⟩;have hix := HI.out k c hc;have hdr := drop_cons0 hc
   have key : ((c.toNat : Int) != 38) = !(c == 38) := by
    rw [Bool.eq_iff_iff, bne_iff_ne, Bool.not_eq_true', beq_eq_false_iff_ne];exact ⟨fun h h' => h (by rw [h']; rfl), fun h h' => h (UInt8.toNat_inj.1 (by show c.toNat = 38; omega))⟩
   have hw1 : IntKind.i64.wrap ((k : Int) + 1) = (k : Int) + 1 := IntWalk.i64_in _ (by omega)
   by_cases h38 : c = 38
   ·have q0 : (c == 38) = true := by rw [beq_iff_eq]; exact h38
    have hE := HEn.out k;unfold endsI at hE;rw [bstr_list] at hE;rw [h38] at hdr;have hgk' := Hzk.out;rw [hdr] at hgk';have Hgk := hide hgk';clear hgk' hdr hc h38
    cases he : ends (D.drop (k + 1)) with
    | none =>
     have HEv := hide (fun W => by have h := hE W hlt; rw [he] at h; exact h);have Hr := hide (show strV z = .tuple #[.string ⟨#[]⟩, .int .i64 (k : Int), .int .i64 50] by rw [← Hgk.out, sref_none he]; rfl);clear he hE
     go_wp2_with fail
     refine cq (HEv.out _) ?_
     go_wp2;go_ret3;rw [Hr.out];exact ⟨rfl, HB.out⟩
    | some n =>
     have hnl := ends_le he;rw [List.length_drop] at hnl;obtain ⟨q, hq⟩ : ∃ q, k + 1 + n = q := ⟨_, rfl⟩;have HEv := hide (show ∀ W, Calls Tryz.prog 40 #[.string (bstr D), .int .i64 (k : Int)] W fun e w' => e = .returned (.int .i64 (q : Int)) ∧ w' = W from fun W => by have h := hE W hlt; rw [he] at h; dsimp only at h; rw [hq] at h; exact h);have hx : (bstr D).extract (k + 1) q = bstr ((D.drop (k + 1)).take n) := by rw [HEx.out, ← hq, Nat.add_sub_cancel_left]
     have hnml : ((D.drop (k + 1)).take n).length ≤ 1000000000 := by rw [List.length_take, List.length_drop]; omega
     have hdq : (D.drop (k + 1)).drop (n + 1) = D.drop (k + n + 2) := by rw [List.drop_drop, show k + 1 + (n + 1) = k + n + 2 by omega]
     have hbad := fun hs => sref_bad (f := f) (k := k) he hs;have hgood := fun v hs => sref_ref (f := f) (k := k) (v := v) he hs;rw [hdq] at hgood;obtain ⟨nm, hnm⟩ : ∃ nm, (D.drop (k + 1)).take n = nm := ⟨_, rfl⟩;rw [hnm] at hx hnml hbad hgood;have HN1 := hide (fun W => HNu.out nm W hnml);have HN2 := hide (fun W => HNm.out nm W);rw [bstr_list] at HN2;have hsc : scalar nm = match number nm with | some (some v) => some v | _ => named nm := rfl
     have hsi := fun v (h : scalar nm = some v) => scalar_is h;have gq : ¬ (q : Int) < 0 := by omega
     have hql : q < (bstr D).size := by rw [Hs.out]; omega
     have hb2 : 0 ≤ (k : Int) + 1 ∧ (k : Int) + 1 ≤ (q : Int) ∧ (q : Int) ≤ ((bstr D).size : Int) := by omega
     have tn : ((k : Int) + 1).toNat = k + 1 := by omega
     have hwq : IntKind.i64.wrap ((q : Int) + 1) = ((k + n + 2 : Nat) : Int) := by rw [IntWalk.i64_in _ (by omega)]; omega
     have HQ := hide (show k + n + 2 ≤ (bstr D).size ∧ k < k + n + 2 by omega);clear he hE hdq hnm hnl hq
     cases hnu : number nm with
     | none =>
      rw [hnu] at HN1 hsc;dsimp only at hsc;unfold numV at HN1;unfold optV at HN2
      cases hna : named nm with
      | none =>
       rw [hna] at HN2 hsc;have Hr := hide (show strV z = .tuple #[.string ⟨#[]⟩, .int .i64 (k : Int), .int .i64 50] by rw [← Hgk.out, hbad hsc]; rfl);clear hsi hsc hbad hgood
       go_wp2_with fail
       refine cq (HEv.out _) ?_
       go_wp2_with fail
       refine cq (HN1.out _) ?_
       go_wp2_with fail
       refine cq (HN2.out _) ?_
       go_wp2;go_ret3;rw [Hr.out];exact ⟨rfl, HB.out⟩
      | some v =>
       rw [hna] at HN2 hsc;have hv : scalar nm = some v := by rw [hsc]
       have hsi := hsi v hv;have HPu := hide (fun W => refPut_any (v : Int) W hsi);have hps := putL_short (v : Int);have hus : u.size ≤ 400000000 := by have := Hu.out; have := Hs.out; omega
       have m1 : ¬ 9223372036854775807 < u.size + (bstr (putL (v : Int))).size := by rw [bstr_size]; omega
       have Hn := hide (show glueE (u ++ bstr (putL (v : Int))).data.toList (sref f (k + n + 2) (D.drop (k + n + 2))) = z by
        rw [app_list, bstr_list, ← glueE_glue, ← hgood v hv]; exact Hgk.out)
       have Hn2 := hide (show (u ++ bstr (putL (v : Int))).size ≤ 4 * (k + n + 2) by rw [app_size, bstr_size]; have := Hu.out; omega);clear hv hsi hsc hbad hgood hps
       go_wp2_with fail
       refine cq (HEv.out _) ?_
       go_wp2_with fail
       refine cq (HN1.out _) ?_
       go_wp2_with fail
       refine cq (HN2.out _) ?_
       go_wp2_with fail
       refine (HPu.out _).mono ?_;rintro e w5 ⟨rfl, b5⟩;have HB5 := hide (HB.out.trans (b5.mono HB.out.size));clear b5;go_wp2
       go_roundg ((bstr D).size - (k + n + 2))
       case measure => have := Hg.out; have := HQ.out; omega
       case rel => exact ⟨k + n + 2, f, _, rfl, HQ.out.1, by first | rfl | go_num, rfl, by omega, Hn2.out, Hn.out, HB5.out⟩
     | some y =>
      cases y with
      | none =>
       rw [hnu] at HN1 hsc;dsimp only at hsc;unfold numV at HN1;unfold optV at HN2
       cases hna : named nm with
       | none =>
        rw [hna] at HN2 hsc;have Hr := hide (show strV z = .tuple #[.string ⟨#[]⟩, .int .i64 (k : Int), .int .i64 50] by rw [← Hgk.out, hbad hsc]; rfl);clear hsi hsc hbad hgood
        go_wp2_with fail
        refine cq (HEv.out _) ?_
        go_wp2_with fail
        refine cq (HN1.out _) ?_
        go_wp2_with fail
        refine cq (HN2.out _) ?_
        go_wp2;go_ret3;rw [Hr.out];exact ⟨rfl, HB.out⟩
       | some v =>
        rw [hna] at HN2 hsc;have hv : scalar nm = some v := by rw [hsc]
        have hsi := hsi v hv;have HPu := hide (fun W => refPut_any (v : Int) W hsi);have hps := putL_short (v : Int);have hus : u.size ≤ 400000000 := by have := Hu.out; have := Hs.out; omega
        have m1 : ¬ 9223372036854775807 < u.size + (bstr (putL (v : Int))).size := by rw [bstr_size]; omega
        have Hn := hide (show glueE (u ++ bstr (putL (v : Int))).data.toList (sref f (k + n + 2) (D.drop (k + n + 2))) = z by
         rw [app_list, bstr_list, ← glueE_glue, ← hgood v hv]; exact Hgk.out)
        have Hn2 := hide (show (u ++ bstr (putL (v : Int))).size ≤ 4 * (k + n + 2) by rw [app_size, bstr_size]; have := Hu.out; omega);clear hv hsi hsc hbad hgood hps
        go_wp2_with fail
        refine cq (HEv.out _) ?_
        go_wp2_with fail
        refine cq (HN1.out _) ?_
        go_wp2_with fail
        refine cq (HN2.out _) ?_
        go_wp2_with fail
        refine (HPu.out _).mono ?_;rintro e w5 ⟨rfl, b5⟩;have HB5 := hide (HB.out.trans (b5.mono HB.out.size));clear b5;go_wp2
        go_roundg ((bstr D).size - (k + n + 2))
        case measure => have := Hg.out; have := HQ.out; omega
        case rel => exact ⟨k + n + 2, f, _, rfl, HQ.out.1, by first | rfl | go_num, rfl, by omega, Hn2.out, Hn.out, HB5.out⟩
      | some v =>
       rw [hnu] at HN1 hsc;dsimp only at hsc;unfold numV at HN1;have hv : scalar nm = some v := by rw [hsc]
       have hsi := hsi v hv;have HPu := hide (fun W => refPut_any (v : Int) W hsi);have hps := putL_short (v : Int);have hus : u.size ≤ 400000000 := by have := Hu.out; have := Hs.out; omega
       have m1 : ¬ 9223372036854775807 < u.size + (bstr (putL (v : Int))).size := by rw [bstr_size]; omega
       have Hn := hide (show glueE (u ++ bstr (putL (v : Int))).data.toList (sref f (k + n + 2) (D.drop (k + n + 2))) = z by
        rw [app_list, bstr_list, ← glueE_glue, ← hgood v hv]; exact Hgk.out)
       have Hn2 := hide (show (u ++ bstr (putL (v : Int))).size ≤ 4 * (k + n + 2) by rw [app_size, bstr_size]; have := Hu.out; omega);clear hv hsi hsc hbad hgood hps
       go_wp2_with fail
       refine cq (HEv.out _) ?_
       go_wp2_with fail
       refine cq (HN1.out _) ?_
       go_wp2_with fail
       refine (HPu.out _).mono ?_;rintro e w5 ⟨rfl, b5⟩;have HB5 := hide (HB.out.trans (b5.mono HB.out.size));clear b5;go_wp2
       go_roundg ((bstr D).size - (k + n + 2))
       case measure => have := Hg.out; have := HQ.out; omega
       case rel => exact ⟨k + n + 2, f, _, rfl, HQ.out.1, by first | rfl | go_num, rfl, by omega, Hn2.out, Hn.out, HB5.out⟩
   have q0 : (c == 38) = false := by rw [beq_eq_false_iff_ne]; exact h38
   have hx : (bstr D).extract k (k + 1) = bstr [c] := by rw [HEx.out, hdr, Nat.add_sub_cancel_left]; rfl
   have hb2 : 0 ≤ (k : Int) ∧ (k : Int) ≤ (k : Int) + 1 ∧ (k : Int) + 1 ≤ ((bstr D).size : Int) := by omega
   have tn : ((k : Int) + 1).toNat = k + 1 := by omega
   have hus : u.size ≤ 400000000 := by have := Hu.out; have := Hs.out; omega
   have m1 : ¬ 9223372036854775807 < u.size + (bstr [c]).size := by rw [bstr_size]; simp; omega
   have Hn := hide (show glueE (u ++ bstr [c]).data.toList (sref f (k + 1) (D.drop (k + 1))) = z by
    rw [app_list, bstr_list, ← glueE_glue, ← sref_byte h38, ← hdr]; exact Hzk.out)
   have Hn2 := hide (show (u ++ bstr [c]).size ≤ 4 * (k + 1) by rw [app_size, bstr_size]; have := Hu.out; simp; omega);clear hc hdr h38;go_wp2
   go_roundg ((bstr D).size - (k + 1))
   case measure => have := Hg.out; omega
   case rel => exact ⟨k + 1, f, _, rfl, by omega, by first | rfl | go_num, rfl, by omega, Hn2.out, Hn.out, HB.out⟩
  have Hr := hide (show strV z = .tuple #[.string u, .int .i64 (-1), .int .i64 0] by
   rw [← Hzk.out, List.drop_of_length_le (by rw [← Hs.out]; omega), sref_nil];unfold glueE strV;dsimp only;rw [List.append_nil, bstr_of])
  go_wp2;go_ret3;rw [Hr.out];exact ⟨rfl, HB.out⟩
end
section
open Go.RowKit Go.Shelf Tk Sx

attribute [local go_sem] Oper.semAt_some

namespace Sx
structure Pce where
 at_ : Nat
 ref : Bool
 text : L
def rps : Nat → Nat → L → List Pce
 | 0, _, _ => []
 | f + 1, at_, l => if l = [] then [] else
  if 0 < Lib.indexByte l 38 then ⟨at_, false, l.take (Lib.indexByte l 38).toNat⟩ :: rps f (at_ + (Lib.indexByte l 38).toNat) (l.drop (Lib.indexByte l 38).toNat)
  else if Lib.indexByte l 38 = 0 then match ends l.tail with
   | some n => ⟨at_, true, l.tail.take n⟩ :: rps f (at_ + n + 2) (l.drop (n + 2))
   | none => ⟨at_, false, [38]⟩ :: rps f (at_ + 1) (l.drop 1)
  else [⟨at_, false, l⟩]
end Sx
def pcE (x : Pce) : Array Value := #[.agg #[.int .i64 (x.at_ : Int), .bool x.ref, .string (bstr x.text)]]
def PK (Bs : Nat) (W W' : World) : Prop := W.heap.size ≤ W'.heap.size ∧ ∀ g, g < W.heap.size → (g = Bs ∨ IsT W g 83) → W'.heap[g]? = W.heap[g]?
theorem PK.trans {Bs : Nat} {X Y Z : World} (h : PK Bs X Y) (k : PK Bs Y Z) : PK Bs X Z := ⟨Nat.le_trans h.1 k.1, fun g hg hk => by
 have e := h.2 g hg hk;rw [← e];refine k.2 g (Nat.lt_of_lt_of_le hg h.1) ?_
 rcases hk with hk | ⟨cs, fr, hk⟩
 ·exact .inl hk
 exact .inr ⟨cs, fr, e.trans hk⟩⟩
theorem pk_below {Bs : Nat} {W W' : World} (h : Below W.heap.size W W') : PK Bs W W' := ⟨h.size, fun g hg _ => h.block g hg⟩
theorem rps_nil {f at_ : Nat} : rps f at_ [] = [] := by cases f <;> simp [rps]
theorem rps_text {f k m : Nat} {l : L} (h0 : l ≠ []) (h : Lib.indexByte l 38 = (m : Int)) (hm : 0 < m) : rps (f + 1) k l = ⟨k, false, l.take m⟩ :: rps f (k + m) (l.drop m) := by
 rw [rps, if_neg h0, h, if_pos (by omega), Int.toNat_natCast]
theorem rps_ref {f k n : Nat} {l : L} (h0 : l ≠ []) (h : Lib.indexByte l 38 = 0) (he : ends l.tail = some n) : rps (f + 1) k l = ⟨k, true, l.tail.take n⟩ :: rps f (k + n + 2) (l.drop (n + 2)) := by
 rw [rps, if_neg h0, h, if_neg (by omega), if_pos rfl, he]
theorem rps_amp {f k : Nat} {l : L} (h0 : l ≠ []) (h : Lib.indexByte l 38 = 0) (he : ends l.tail = none) : rps (f + 1) k l = ⟨k, false, [38]⟩ :: rps f (k + 1) (l.drop 1) := by
 rw [rps, if_neg h0, h, if_neg (by omega), if_pos rfl, he]
theorem rps_rest {f k : Nat} {l : L} (h0 : l ≠ []) (h : Lib.indexByte l 38 < 0) : rps (f + 1) k l = [⟨k, false, l⟩] := by
 rw [rps, if_neg h0, if_neg (by omega), if_neg (by omega)]
theorem indexByte_lt {l : L} {c : UInt8} {k : Nat} (h : Lib.indexByte l c = k) : k < l.length := by
 induction l generalizing k with
 | nil => simp [Lib.indexByte] at h
 | cons b l ih =>
  unfold Lib.indexByte at h
  split at h
  ·have : k = 0 := by omega
   subst this;simp
  (try dsimp only at h)
  split at h
  ·omega
  rename_i h1 h2
  have hg := Lib.indexByte_ge l c
  obtain ⟨j, hj⟩ : ∃ j : Nat, Lib.indexByte l c = j := ⟨(Lib.indexByte l c).toNat, by
   have : Lib.indexByte l c ≠ -1 := by simpa using h2
   omega⟩
  have := ih hj;simp only [List.length_cons];omega

set_option maxRecDepth 100000 in
set_option maxHeartbeats 8000000 in
theorem rpieces1_in (n : Nat) (hn : 1 ≤ n) (l Bs : Nat) (s : ByteArray) (hs : s.size ≤ 1000000000)
  (J Jx : List Pce → World → Prop) (W : World) (hJ : AbidesFrom W.heap.size J) (hBl : Bs < W.heap.size)
  (hY : ∀ pre x W, J pre W → pre.length < s.size → x.text.length ≤ s.size → YieldAt Fence.wide (n - 1) Tryz.prog l (pcE x) W fun e W' =>
   (e = .returned (.bool true) ∧ J (pre ++ [x]) W' ∧ PK Bs W W') ∨ (e = .returned (.bool false) ∧ Jx (pre ++ [x]) W'))
  (hBs : W.cell? ⟨Bs, 0, none⟩ = some (.string s)) (h0 : J [] W) :
  CallsIn Fence.wide n Tryz.prog 65 #[.func (.yield l) #[] #[], .pointer (some ⟨Bs, 0, none⟩)] W fun e W' => (∃ v, e = .returned v) ∧
   ((∃ ys : List Pce, ys = rps s.size 0 s.data.toList ∧ J ys W') ∨ (∃ pre : List Pce, (∃ rest, pre ++ rest = rps s.size 0 s.data.toList) ∧ Jx pre W')) := by
 have HJ := hide (fun pre W1 W2 (h : J pre W1) (hb : Below W1.heap.size W1 W2) => hJ pre W1 W2 none h (grown_below hb none) (fun r e => by cases e));refine callsIn_of_wp Tryz.func65 rfl trivial ?_ rfl;simp only [Tryz.ntmps65, List.size_toArray, List.length_cons, List.length_nil, Nat.reduceAdd, Nat.reduceSub, Array.replicate_succ, Array.replicate_zero, List.push_toArray, List.append_toArray, List.nil_append, List.cons_append];obtain ⟨D, hD⟩ : ∃ D, s.data.toList = D := ⟨_, rfl⟩;have HDl := hide (show D.length = s.size by rw [← hD, size_list]);have hexA : ∀ k : Nat, s.extract k s.size = bstr (D.drop k) := fun k => by rw [extract_end, hD]
 have HXA := hide hexA;have HEx := hide (show ∀ a b : Nat, s.extract a b = bstr ((D.drop a).take (b - a)) from fun a b => by rw [extract_bstr, hD]);rw [hD];obtain ⟨all, hall⟩ : ∃ all, rps s.size 0 D = all := ⟨_, rfl⟩;rw [hall];have Hall := hide hall;have HIx : Hid (∀ (q : L) W, Calls Tryz.prog 20 #[.string (bstr q), .int .u8 38] W fun e w' => e = .returned (.int .i64 (Lib.indexByte q 38)) ∧ w' = W) := hide (fun (q : L) W => Tryz.strings_IndexByte (bstr q) 38 W);have HEn := hide (fun (q : L) W (h : q.length ≤ 1000000000) => ends_any (bstr q) W (by rw [bstr_size]; exact h));clear hall hexA hD hJ;gi_wp2
 gi_loopw [3] (fun i wr => ∃ (k f : Nat) (pre : List Pce), k ≤ s.size ∧ i = .int .i64 k ∧ pre.length ≤ k ∧ s.size - k ≤ f ∧ pre ++ rps f k (D.drop k) = all ∧ J pre wr ∧ PK Bs W wr)
  (fun i _ => s.size - (intOf i).toNat)
 case atStart => exact ⟨0, s.size, [], Nat.zero_le _, rfl, Nat.le_refl _, by omega, by rw [← Hall.out]; rfl, h0, ⟨Nat.le_refl _, fun _ _ _ => rfl⟩⟩
 case round =>
  obtain ⟨k, f, pre, hk, rfl, hpl, hf, hpre, hJs, hnx⟩ := hrel;have Hpre := hide hpre;have HJs := hide hJs;have Hnx := hide hnx;have hcx : wr.cell? ⟨Bs, 0, none⟩ = some (.string s) := (World.cell?_of_block (a := ⟨Bs, 0, none⟩) (hnx.2 Bs hBl (.inl rfl))).trans hBs;have hBw : Bs < wr.heap.size := Nat.lt_of_lt_of_le hBl hnx.1;clear hpre hJs hnx
  by_cases hlt : k < s.size
  ·have hne : D.drop k ≠ [] := fun e => by have := congrArg List.length e; rw [List.length_drop, HDl.out] at this; simp at this; omega
   obtain ⟨f, rfl⟩ : ∃ f', f = f' + 1 := ⟨f - 1, by omega⟩;have hdl : (D.drop k).length = s.size - k := by rw [List.length_drop, HDl.out]
   have hxk := HXA.out k;have hI := HIx.out (D.drop k);obtain ⟨z, hz⟩ : ∃ z, Lib.indexByte (D.drop k) 38 = z := ⟨_, rfl⟩;rw [hz] at hI
   by_cases hz1 : 0 < z
   ·obtain ⟨m, rfl⟩ : ∃ m : Nat, z = m := ⟨z.toNat, by omega⟩;have hml := indexByte_lt hz;have Hp := hide (show rps (f + 1) k (D.drop k) = ⟨k, false, (D.drop k).take m⟩ :: rps f (k + m) (D.drop (k + m)) by rw [rps_text hne hz (by omega), List.drop_drop]);have hx0 : (bstr (D.drop k)).extract 0 m = bstr ((D.drop k).take m) := by rw [extract_bstr, bstr_list, List.drop_zero, Nat.sub_zero]
    have htl0 : ((D.drop k).take m).length ≤ s.size := by rw [List.length_take]; omega
    have hsz : (bstr ((D.drop k).take m)).size = m := by rw [bstr_size, List.length_take]; omega
    have hb : 0 ≤ (m : Int) ∧ (m : Int) ≤ ((bstr (D.drop k)).size : Int) := by rw [bstr_size]; omega
    have hwm : IntKind.i64.wrap ((k : Int) + (m : Int)) = (k : Int) + (m : Int) := IntWalk.i64_in _ (by omega);have HN := hide (show k + m ≤ s.size ∧ 0 < m by omega);have hm0 : (0 : Int) < (m : Int) := by omega
    generalize (D.drop k).take m = tx at *
    have HT1 := hide (Blk.new wr 83 #[.int .i64 (k : Int), .bool false, .string (bstr tx)]);have HP1 := hide (pk_below (Bs := Bs) (below_alloc wr (.cells #[.int .i64 (k : Int), .bool false, .string (bstr tx)] 83)));have hJ1 := HJ.out pre wr _ HJs.out (below_alloc wr (.cells #[.int .i64 (k : Int), .bool false, .string (bstr tx)] 83));obtain ⟨fn, tmps, assign, body, hy, hR⟩ := hY pre ⟨k, false, tx⟩ _ hJ1 (by omega) htl0;unfold pcE at hy;dsimp only at hy;clear hz hdl hne hz1 hml
    gi_wp2_with (refine ⟨trivial, ?_⟩; gi_at_call 20; refine (callsIn_wide.2 (hI _)).mono ?_; rintro e w2 ⟨rfl, hw2⟩; subst w2)
    refine hR.mono ?_;rintro e W3 (⟨rfl, hJ3, hk3⟩ | ⟨rfl, hJx3⟩)
    ·have eT := hk3.2 wr.heap.size HT1.out.lt (.inr HT1.out.isT);have t0 := (World.cell?_of_block (a := ⟨wr.heap.size, 0, none⟩) eT).trans (HT1.out.cell 0);have t1 := (World.cell?_of_block (a := ⟨wr.heap.size, 1, none⟩) eT).trans (HT1.out.cell 1);have t2 := (World.cell?_of_block (a := ⟨wr.heap.size, 2, none⟩) eT).trans (HT1.out.cell 2);have HK3 := hide hk3;have HJ3 := hide hJ3;clear eT hk3 hJ3;gi_wp2
     go_roundw
     case rel => exact ⟨k + m, f, pre ++ [⟨k, false, tx⟩], HN.out.1, int_eq (by have := HN.out.2; omega), by simp; have := HN.out.2; omega, by have := HN.out; omega, by rw [← Hpre.out, Hp.out]; simp, HJ3.out, Hnx.out.trans (HP1.out.trans HK3.out)⟩
     case measure => have := HN.out; simp [intOf]; omega
    gi_wp2;refine bodyPost_ret (results_none rfl _ _ _) rfl ?_;exact ⟨⟨_, rfl⟩, .inr ⟨_, ⟨_, by rw [← Hpre.out, Hp.out, List.append_assoc]; rfl⟩, hJx3⟩⟩
   by_cases hz0 : z = 0
   ·subst hz0;have hk1 : k + 1 ≤ s.size := by omega
    have htl : (D.drop k).tail = D.drop (k + 1) := by rw [List.tail_drop]
    have hxk1 := HXA.out (k + 1);have hw1 : IntKind.i64.wrap ((k : Int) + 1) = (k : Int) + 1 := IntWalk.i64_in _ (by omega);have hb1 : 0 ≤ (k : Int) + 1 ∧ (k : Int) + 1 ≤ (s.size : Int) ∧ (s.size : Int) ≤ (s.size : Int) := by omega
    have tn1 : ((k : Int) + 1).toNat = k + 1 := by omega
    have hE := HEn.out (D.drop (k + 1)) (wr.alloc (.cells #[.int .i64 (k : Int), .bool false, .string (bstr [38])] 83)) (by rw [List.length_drop, HDl.out]; omega);rw [bstr_list] at hE;unfold endsI at hE;rw [List.drop_zero] at hE;have HT1 := hide (Blk.new wr 83 #[.int .i64 (k : Int), .bool false, .string (bstr [38])]);have HB1 := hide (below_alloc wr (.cells #[.int .i64 (k : Int), .bool false, .string (bstr [38])] 83));have amp : bstr [38] = ⟨#[38]⟩ := rfl
    cases he : ends (D.drop (k + 1)) with
    | none =>
     rw [he] at hE;dsimp only at hE;have HEv := hide hE;have Hp := hide (show rps (f + 1) k (D.drop k) = ⟨k, false, [38]⟩ :: rps f (k + 1) (D.drop (k + 1)) by rw [rps_amp hne hz (by rw [htl]; exact he), List.drop_drop]);have HN := hide (show k + 1 ≤ s.size ∧ 0 < 1 by omega);have hsz : (bstr [38]).size = 1 := rfl;rw [amp] at *
     clear hz hdl hne hz1 he hE htl
     gi_wp2_with (first | (refine ⟨trivial, ?_⟩; gi_at_call 20; refine (callsIn_wide.2 (hI _)).mono ?_; rintro e w2 ⟨rfl, hw2⟩; subst w2) | fail)
     refine ⟨trivial, ?_⟩
     gi_at_call 66
     refine (callsIn_wide.2 HEv.out).mono ?_;rintro e w3 ⟨rfl, b3⟩;have HT3 := hide (Blk.go HT1.out b3);have HB3 := hide (HB1.out.trans (b3.mono HB1.out.size));have HP3 := hide (pk_below (Bs := Bs) HB3.out);have hJ1 := HJ.out pre wr _ HJs.out HB3.out;have y0 := Blk.cell HT3.out 0;have y1 := Blk.cell HT3.out 1;have y2 := Blk.cell HT3.out 2;obtain ⟨fn, tmps, assign, body, hy, hR⟩ := hY pre ⟨k, false, [38]⟩ _ hJ1 (by omega) (by show 1 ≤ s.size; omega);unfold pcE at hy;dsimp only at hy;clear b3 HT1 HB1;have hsz1 : (bstr [38]).size = 1 := rfl;gi_wp2;refine hR.mono ?_;rintro e W3 (⟨rfl, hJ3, hk3⟩ | ⟨rfl, hJx3⟩)
     ·have eT := hk3.2 wr.heap.size HT3.out.lt (.inr HT3.out.isT);have t0 := (World.cell?_of_block (a := ⟨wr.heap.size, 0, none⟩) eT).trans (HT3.out.cell 0);have t1 := (World.cell?_of_block (a := ⟨wr.heap.size, 1, none⟩) eT).trans (HT3.out.cell 1);have t2 := (World.cell?_of_block (a := ⟨wr.heap.size, 2, none⟩) eT).trans (HT3.out.cell 2);have HK3 := hide hk3;have HJ3 := hide hJ3;clear eT hk3 hJ3;gi_wp2
      go_roundw
      case rel => exact ⟨k + 1, f, pre ++ [⟨k, false, [38]⟩], HN.out.1, int_eq (by have := HN.out.2; omega), by simp; have := HN.out.2; omega, by have := HN.out; omega, by rw [← Hpre.out, Hp.out]; simp, HJ3.out, Hnx.out.trans (HP3.out.trans HK3.out)⟩
      case measure => have := HN.out; simp [intOf]; omega
     gi_wp2;refine bodyPost_ret (results_none rfl _ _ _) rfl ?_;exact ⟨⟨_, rfl⟩, .inr ⟨_, ⟨_, by rw [← Hpre.out, Hp.out, List.append_assoc]; rfl⟩, hJx3⟩⟩
    | some n0 =>
     rw [he] at hE;dsimp only at hE;rw [Nat.zero_add] at hE;have HEv := hide hE;have hnl := ends_le he;rw [List.length_drop, HDl.out] at hnl;have Hp := hide (show rps (f + 1) k (D.drop k) = ⟨k, true, (D.drop (k + 1)).take n0⟩ :: rps f (k + n0 + 2) (D.drop (k + n0 + 2)) by rw [rps_ref hne hz (by rw [htl]; exact he), List.drop_drop, htl, show k + (n0 + 2) = k + n0 + 2 by omega]);have hxt : s.extract (k + 1) (k + 1 + n0) = bstr ((D.drop (k + 1)).take n0) := by rw [HEx.out, Nat.add_sub_cancel_left]
     have htl0 : ((D.drop (k + 1)).take n0).length ≤ s.size := by rw [List.length_take]; omega
     have hsz : (bstr ((D.drop (k + 1)).take n0)).size = n0 := by rw [bstr_size, List.length_take, List.length_drop, HDl.out]; omega
     generalize (D.drop (k + 1)).take n0 = tx at *
     obtain ⟨q, hq⟩ : ∃ q, k + 1 + n0 = q := ⟨_, rfl⟩;rw [hq] at hxt;have HN := hide (show k + n0 + 2 ≤ s.size ∧ 0 < n0 + 2 by omega);have hgn : (0 : Int) ≤ (n0 : Int) := by omega
     have hw2 : IntKind.i64.wrap ((k : Int) + 1 + (n0 : Int)) = (q : Int) := by rw [IntWalk.i64_in _ (by omega)]; omega
     have hb2 : 0 ≤ (k : Int) + 1 ∧ (k : Int) + 1 ≤ (q : Int) ∧ (q : Int) ≤ (s.size : Int) := by omega
     have hw3 : IntKind.i64.wrap ((k : Int) + (n0 : Int)) = (k : Int) + (n0 : Int) := IntWalk.i64_in _ (by omega);have hw4 : IntKind.i64.wrap ((k : Int) + (n0 : Int) + 2) = (k : Int) + (n0 : Int) + 2 := IntWalk.i64_in _ (by omega);rw [amp] at *
     clear hz hdl hne hz1 he hE htl hnl hq
     gi_wp2_with (first | (refine ⟨trivial, ?_⟩; gi_at_call 20; refine (callsIn_wide.2 (hI _)).mono ?_; rintro e w2 ⟨rfl, hw2⟩; subst w2) | fail)
     refine ⟨trivial, ?_⟩
     gi_at_call 66
     refine (callsIn_wide.2 HEv.out).mono ?_;rintro e w3 ⟨rfl, b3⟩;have HT3 := hide (Blk.go HT1.out b3);have HB3 := hide (HB1.out.trans (b3.mono HB1.out.size));have hc3 : w3.cell? ⟨Bs, 0, none⟩ = some (.string s) := (HB3.out.cell (p := ⟨Bs, 0, none⟩) hBw).trans hcx;have y0 := Blk.cell HT3.out 0;have y1 := Blk.cell HT3.out 1;have y2 := Blk.cell HT3.out 2;have fz := fun i => Blk.frozen HT3.out i;have hneT : wr.heap.size ≠ Bs := by omega
     clear b3 HT1 HB1;gi_wp2
     gi_region
     have HT4 := hide (show Blk (((w3.setCell ⟨wr.heap.size, 1, none⟩ (.bool true)).setCell ⟨wr.heap.size, 2, none⟩ (.string (bstr tx))).drew) wr.heap.size 83 #[.int .i64 (k : Int), .bool true, .string (bstr tx)] from by
      have := Blk.drew (Blk.set_ (Blk.set_ HT3.out 1 (.bool true)) 2 (.string (bstr tx)))
      simpa using this)
     have HB4 := hide (((HB3.out.setCell (p := ⟨wr.heap.size, 1, none⟩) (Nat.le_refl _) (.bool true)).setCell (p := ⟨wr.heap.size, 2, none⟩) (Nat.le_refl _) (.string (bstr tx))).drew);clear HT3 HB3 y0 y1 y2 fz hc3;generalize ((w3.setCell ⟨wr.heap.size, 1, none⟩ (.bool true)).setCell ⟨wr.heap.size, 2, none⟩ (.string (bstr tx))).drew = W4 at *
     have HP4 := hide (pk_below (Bs := Bs) HB4.out);have hJ1 := HJ.out pre wr _ HJs.out HB4.out;have y0 := Blk.cell HT4.out 0;have y1 := Blk.cell HT4.out 1;have y2 := Blk.cell HT4.out 2;obtain ⟨fn, tmps, assign, body, hy, hR⟩ := hY pre ⟨k, true, tx⟩ _ hJ1 (by omega) htl0;unfold pcE at hy;dsimp only at hy;gi_wp2;refine hR.mono ?_;rintro e W3 (⟨rfl, hJ3, hk3⟩ | ⟨rfl, hJx3⟩)
     ·have eT := hk3.2 wr.heap.size HT4.out.lt (.inr HT4.out.isT);have t0 := (World.cell?_of_block (a := ⟨wr.heap.size, 0, none⟩) eT).trans (HT4.out.cell 0);have t1 := (World.cell?_of_block (a := ⟨wr.heap.size, 1, none⟩) eT).trans (HT4.out.cell 1);have t2 := (World.cell?_of_block (a := ⟨wr.heap.size, 2, none⟩) eT).trans (HT4.out.cell 2);have HK3 := hide hk3;have HJ3 := hide hJ3;clear eT hk3 hJ3;gi_wp2
      go_roundw
      case rel => exact ⟨k + n0 + 2, f, pre ++ [⟨k, true, tx⟩], HN.out.1, int_eq (by have := HN.out.2; omega), by simp; have := HN.out.2; omega, by have := HN.out; omega, by rw [← Hpre.out, Hp.out]; simp, HJ3.out, Hnx.out.trans (HP4.out.trans HK3.out)⟩
      case measure => have := HN.out; simp [intOf]; omega
     gi_wp2;refine bodyPost_ret (results_none rfl _ _ _) rfl ?_;exact ⟨⟨_, rfl⟩, .inr ⟨_, ⟨_, by rw [← Hpre.out, Hp.out, List.append_assoc]; rfl⟩, hJx3⟩⟩
   have hz2 : z < 0 := by have := Lib.indexByte_ge (D.drop k) 38; omega
   have hzm : z = -1 := by have := Lib.indexByte_ge (D.drop k) 38; omega
   subst hzm;have Hp := hide (show rps (f + 1) k (D.drop k) = [⟨k, false, D.drop k⟩] by rw [rps_rest hne (by omega)]);have hsz : (bstr (D.drop k)).size = s.size - k := by rw [bstr_size, hdl]
   have hwm : IntKind.i64.wrap ((k : Int) + ((s.size - k : Nat) : Int)) = (k : Int) + ((s.size - k : Nat) : Int) := IntWalk.i64_in _ (by omega);have HN := hide (show s.size ≤ s.size ∧ k < s.size by omega);have hnil : D.drop s.size = [] := List.drop_of_length_le (by rw [HDl.out]; exact Nat.le_refl _);have Hnil := hide hnil;have HT1 := hide (Blk.new wr 83 #[.int .i64 (k : Int), .bool false, .string (bstr (D.drop k))]);have HP1 := hide (pk_below (Bs := Bs) (below_alloc wr (.cells #[.int .i64 (k : Int), .bool false, .string (bstr (D.drop k))] 83)));have hJ1 := HJ.out pre wr _ HJs.out (below_alloc wr (.cells #[.int .i64 (k : Int), .bool false, .string (bstr (D.drop k))] 83));obtain ⟨fn, tmps, assign, body, hy, hR⟩ := hY pre ⟨k, false, D.drop k⟩ _ hJ1 (by omega) (by show (D.drop k).length ≤ s.size; omega);unfold pcE at hy;dsimp only at hy;generalize hL : s.size - k = L0 at *
   have HL := hide hL;clear hz hdl hne hz1 hz0 hz2 hnil hL
   gi_wp2_with (refine ⟨trivial, ?_⟩; gi_at_call 20; refine (callsIn_wide.2 (hI _)).mono ?_; rintro e w2 ⟨rfl, hw2⟩; subst w2)
   refine hR.mono ?_;rintro e W3 (⟨rfl, hJ3, hk3⟩ | ⟨rfl, hJx3⟩)
   ·have eT := hk3.2 wr.heap.size HT1.out.lt (.inr HT1.out.isT);have t0 := (World.cell?_of_block (a := ⟨wr.heap.size, 0, none⟩) eT).trans (HT1.out.cell 0);have t1 := (World.cell?_of_block (a := ⟨wr.heap.size, 1, none⟩) eT).trans (HT1.out.cell 1);have t2 := (World.cell?_of_block (a := ⟨wr.heap.size, 2, none⟩) eT).trans (HT1.out.cell 2);have HK3 := hide hk3;have HJ3 := hide hJ3;clear eT hk3 hJ3;gi_wp2
    go_roundw
    case rel => exact ⟨s.size, f, pre ++ [⟨k, false, D.drop k⟩], HN.out.1, int_eq (by have := HL.out; have := HN.out.2; omega), by simp; have := HN.out.2; omega, by have := HN.out; omega, by rw [← Hpre.out, Hp.out]; rw [Hnil.out, rps_nil, List.append_nil], HJ3.out, Hnx.out.trans (HP1.out.trans HK3.out)⟩
    case measure => have := HL.out; have := HN.out; simp [intOf]; omega
   gi_wp2;refine bodyPost_ret (results_none rfl _ _ _) rfl ?_;exact ⟨⟨_, rfl⟩, .inr ⟨_, ⟨_, by rw [← Hpre.out, Hp.out, List.append_assoc]; rfl⟩, hJx3⟩⟩
  gi_wp2;go_end0;exact ⟨⟨_, rfl⟩, .inl ⟨pre, by rw [← Hpre.out, List.drop_of_length_le (by rw [HDl.out]; omega), rps_nil, List.append_nil], HJs.out⟩⟩

theorem rpieces_mk (s : ByteArray) (w : World) :
  Calls Tryz.prog 35 #[.string s] w fun e w' => e = .returned (.func (.func 65) #[] #[.pointer (some ⟨w.heap.size, 0, none⟩)]) ∧ w' = w.alloc (.cells #[.string s] 9) := by
 go_enter Tryz.func35, Tryz.ntmps35
 go_wp2;go_ret;exact ⟨rfl, rfl⟩
def cutPce (x : Pce) : Pce := ⟨x.at_, x.ref, x.text.take 100000⟩
theorem cutPce_id {x : Pce} (h : x.text.length ≤ 100000) : cutPce x = x := by unfold cutPce; rw [List.take_of_length_le h]
theorem rpieces_stops (n : Nat) (hn : 1 ≤ n) (Bs : Nat) (s : ByteArray) (hs : s.size ≤ 100000) (w : World) (hBs : Bs < w.heap.size) (hc : w.cell? ⟨Bs, 0, none⟩ = some (.string s)) :
  SeqStopsK Fence.wide n Tryz.prog 65 #[.pointer (some ⟨Bs, 0, none⟩)] (fun x => pcE (cutPce x)) (PK Bs) (fun ys => ys = rps s.size 0 s.data.toList)
   (fun pre => ∃ rest, pre ++ rest = rps s.size 0 s.data.toList) s.size w := fun l J Jx W hW hJ _ hY h0 =>
 rpieces1_in n hn l Bs s (by omega) J Jx W hJ (Nat.lt_of_lt_of_le hBs hW.size) (fun pre x W1 h1 h2 h3 => by have := hY pre x W1 h1 h2; dsimp only at this; rwa [cutPce_id (Nat.le_trans h3 hs)] at this) ((hW.cell (p := ⟨Bs, 0, none⟩) hBs).trans hc) h0
theorem pk_b {w : World} {B : Nat} (hB : B < w.heap.size) (W : World) (l : Nat) (o o' : Obj) (hl : w.heap.size ≤ l) (ho : W.heap[l]? = some o) (hc : o.isCells = false) (_ : o.isWalk = false) : PK B W (W.putObj l o') := by
 refine ⟨by simp [World.putObj], fun g hg hk => ?_⟩
 have hgl : g ≠ l := by
  rcases hk with rfl | ⟨cs, fr, hk⟩
  ·omega
  rintro rfl;rw [hk] at ho;cases ho;cases hc
 show (W.heap.setIfInBounds l o')[g]? = W.heap[g]?;exact Array.getElem?_setIfInBounds_ne (Ne.symm hgl)
end
end Go.Proofs.YtbbpkcddifmieaaGreatDoor
