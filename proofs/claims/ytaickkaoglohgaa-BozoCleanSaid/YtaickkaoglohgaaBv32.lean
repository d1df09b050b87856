/- Bozo: a start's attributes that declare nothing, no two of a name. · Bozo, plain: how much a start's attributes leave; what they declare, one by one. -/
import Derived.Test.YtaickkaoglohgaaBv04
import Derived.Test.YtaickkaoglohgaaBv15
import Derived.Test.YtaickkaoglohgaaBv29
import Derived.Test.YtaickkaoglohgaaBv30
import Derived.Test.YtaickkaoglohgaaBv31
set_option linter.unusedSimpArgs false
set_option linter.unusedVariables false
namespace Go.Proofs.Ytaickkaoglohgaa
open Go.RowKit Tk Sx Go.WideShapes

/-- Where attrs stands behind k attributes. -/
def AttI (l : List At) (p : Bs) (k : Nat) (acc : List Att) (seen : List Nm) (q : Bs) : Prop :=
  Bz.attrsB [] l p = (acc ++ (Bz.attrsB (acc.map (·.name)) (l.drop k) q).1, (Bz.attrsB (acc.map (·.name)) (l.drop k) q).2) ∧ (∀ nm, nm ∈ acc.map (·.name) ↔ nm ∈ seen) ∧ q.rs.length ≤ p.rs.length + 2 * k ∧ acc.length ≤ k ∧ seen.length ≤ k ∧ q.st = p.st
theorem attI_zero (l : List At) (p : Bs) : AttI l p 0 [] [] p := ⟨by simp, by simp, Nat.le_refl _, Nat.le_refl _, Nat.le_refl _, rfl⟩
theorem name_rs (wr : L) (att : Bool) (a : Nat) (p : Bs) : (Bz.name wr att a p).2.rs.length ≤ p.rs.length + 1 := by
  have h := Bz.mend_rs 10 a p
  unfold Bz.name
  split
  · exact Nat.le_of_eq h
  · split
    · exact Nat.le_succ _
    split
    · exact Nat.le_succ _
    split
    · exact Nat.le_of_eq h
    · exact Nat.le_of_eq h
theorem name_stq (wr : L) (att : Bool) (a : Nat) (p : Bs) : (Bz.name wr att a p).2.st = p.st := by
  unfold Bz.name
  split
  · rfl
  · split
    · rfl
    split
    · rfl
    split
    · rfl
    · rfl
theorem split_small {l : L} {x : L × L} (h : split l = some x) : x.2.length ≤ l.length := by
  have := (split_short l).2
  rw [h] at this
  exact this
theorem known_small {q u : L} (h : Bz.known q = some u) : u.length ≤ 1000000000 := by
  unfold Bz.known at h
  split at h
  · cases h; decide
  split at h
  · cases h; decide
  split at h
  · cases h; decide
  split at h
  · cases h; decide
  split at h
  · cases h; decide
  cases h
theorem name_small {wr : L} {att : Bool} {a : Nat} {p : Bs} (h : wr.length ≤ 1000000000) (hs : ∀ d ∈ p.st.scope, d.ns.length ≤ 1000000000) : SmallN (Bz.name wr att a p).1 := by
  unfold Bz.name
  split
  · exact ⟨by simp, h⟩
  · rename_i pre loc hsp
    have hl : loc.length ≤ wr.length := split_small hsp
    split
    · exact ⟨by simp, by show loc.length ≤ _; omega⟩
    split
    · exact ⟨spaceOf_small hs, by show loc.length ≤ _; omega⟩
    split
    · rename_i u hu
      exact ⟨known_small hu, by show loc.length ≤ _; omega⟩
    · exact ⟨by simp, h⟩
section
variable {l : List At} {p q : Bs} {k : Nat} {acc : List Att} {seen : List Nm} {x : At}
theorem attI_skip (h : AttI l p k acc seen q) (hx : l[k]? = some x) (hd : (Bz.declB x.name).2 = true) : AttI l p (k + 1) acc seen q := by
  obtain ⟨h1, h2, h3, h4, h5, h6⟩ := h
  obtain ⟨hk, hxe⟩ := List.getElem?_eq_some_iff.1 hx
  refine ⟨?_, h2, by omega, by omega, by omega, h6⟩
  rw [h1, List.drop_eq_getElem_cons hk, hxe, Bz.attrsB, if_pos hd]
theorem attI_dup {nm : Nm} {q1 : Bs} (h : AttI l p k acc seen q) (hx : l[k]? = some x) (hd : (Bz.declB x.name).2 = false) (hn : Bz.name x.name true x.at_ q = (nm, q1)) (hm : nm ∈ seen) : AttI l p (k + 1) acc (seen ++ [nm]) (Bz.mend 9 x.at_ q1) := by
  obtain ⟨h1, h2, h3, h4, h5, h6⟩ := h
  obtain ⟨hk, hxe⟩ := List.getElem?_eq_some_iff.1 hx
  have hr := name_rs x.name true x.at_ q
  have hs := name_stq x.name true x.at_ q
  rw [hn] at hr hs
  refine ⟨?_, fun y => ?_, ?_, by omega, by rw [List.length_append]; simp; omega, hs.trans h6⟩
  · rw [h1, List.drop_eq_getElem_cons hk, hxe, Bz.attrsB, hd, if_neg (by simp), hn, if_pos ((h2 _).2 hm)]
  · rw [List.mem_append, h2]
    constructor
    · exact .inl
    · rintro (h | h)
      · exact h
      · rw [List.mem_singleton] at h; rw [h]; exact hm
  · rw [Bz.mend_rs]; dsimp only at hr; omega
theorem attI_new {nm : Nm} {q1 : Bs} (h : AttI l p k acc seen q) (hx : l[k]? = some x) (hd : (Bz.declB x.name).2 = false) (hn : Bz.name x.name true x.at_ q = (nm, q1)) (hm : nm ∉ seen) : AttI l p (k + 1) (acc ++ [⟨nm, x.value⟩]) (seen ++ [nm]) q1 := by
  obtain ⟨h1, h2, h3, h4, h5, h6⟩ := h
  obtain ⟨hk, hxe⟩ := List.getElem?_eq_some_iff.1 hx
  have hr := name_rs x.name true x.at_ q
  have hs := name_stq x.name true x.at_ q
  rw [hn] at hr hs
  refine ⟨?_, fun y => ?_, by dsimp only at hr; omega, by rw [List.length_append]; simp; omega, by rw [List.length_append]; simp; omega, hs.trans h6⟩
  · rw [h1, List.drop_eq_getElem_cons hk, hxe, Bz.attrsB, hd, if_neg (by simp), hn, if_neg (fun h => hm ((h2 _).1 h)), List.map_append, List.append_assoc]
    rfl
  · rw [List.map_append, List.mem_append, List.mem_append, h2]
    rfl
theorem attI_end (h : AttI l p l.length acc seen q) : Bz.attrsB [] l p = (acc, q) := by
  rw [h.1, List.drop_length, Bz.attrsB, List.append_nil]
end
theorem CntN.bmov {B P t : Nat} {w w' : World} {b n : Nat} {seen : List Nm} {D : DataW Unit} {cs : Array Value} (h : CntN w b n seen D) (hm : BMov B P w w') (hP : Blk w P t cs) : CntN w' b n seen D := by
  obtain ⟨es, cl, hb⟩ := h.block
  refine ⟨map_same h.own (hm.block _ h.own.lt (fun e => not_isT_map hb (e ▸ hP.isT)) fun hh => ?_), h.is, h.at_⟩
  rcases hh.2 with h2 | h2 | h2 | h2 <;> exact not_isT_map hb h2
/-- A row has grown that was not there at Z; it is none of the parse's. -/
theorem PB.keptA {B P Z : Nat} {w w' : World} {p : Bs} {v : Bv} {row : Option Nat} (h : PB B P w p v) (h0 : ∀ x ∈ v.xs, ∀ a, x.A = some a → a.block < Z) (hg : w.grownBy w' row)
    (hr : ∀ k, row = some k → Z ≤ k ∧ ∀ t ∈ [52, 77, 97, 39, 47], ¬ IsT w k t) : PB B P w' p v := by
  have hb : ∀ {k t : Nat}, IsT w k t → t ∈ [52, 77, 97, 39, 47] → w'.heap[k]? = w.heap[k]? := fun {k t} hk ht => hg.block k hk.lt fun e => (hr k e.symm).2 t ht hk
  have ho : ∀ {e size n : Nat} {u : Value} {xs : List Value}, w.ownsRow B e size u n xs → e ∈ [52, 77, 97, 39, 47] → w'.ownsRow B e size u n xs := fun {e size n u xs} hw he => hw.kept hg (by
    cases hv : u.ownBlock with
    | none => exact .inl rfl
    | some k => exact .inr fun e1 => (hr k e1.symm).2 e he (own_isT hw k hv).2)
  refine ⟨(hb h.blk.isT (by simp)).trans h.blk, h.bp, ho h.o (by simp), ho h.s (by simp), ho h.e (by simp), ho h.r (by simp), h.ev, fun x hx => ?_⟩
  have hi := h.inn x hx
  have sa : ∀ a, x.A = some a → w'.heap[a.block]? = w.heap[a.block]? := fun a ha => hg.block _ (hi.ta a ha).lt fun e => by have := (hr _ e.symm).1; have := h0 x hx a ha; omega
  exact ⟨hi.a.same sa hg.size, hi.va, hi.ta.same sa⟩
/-- What attrs leaves. -/
def AttsR (B P : Nat) (w : World) (r : List Att × Bs) (e : Ending) (w' : World) : Prop :=
  ∃ A c v, e = .returned (.slice A r.1.length c) ∧ RMov B P w w' ∧ PB B P w' r.2 v ∧ w'.ownsRow w.heap.size 41 3 (.slice A r.1.length c) r.1.length (atts r.1)
set_option maxRecDepth 100000 in
set_option maxHeartbeats 32000000 in
theorem battrs_any (B P base : Nat) (w : World) (p : Bs) (v : Bv) (l : List At) (Al : Option Addr) (cl : Nat) (h : PB B P w p v) (hd : Gd B w) (hl : w.ownsRow base 96 3 (.slice Al l.length cl) l.length (ats l)) (hn : l.length ≤ 100000) (hr : p.rs.length ≤ 600000000) (hv : ∀ x ∈ l, x.name.length ≤ 1000000000)
    (hs : p.st.scope.length ≤ 1000000000) (hns : ∀ d ∈ p.st.scope, d.ns.length ≤ 1000000000) :
    Calls Try.prog 59 #[.pointer (some ⟨P, 0, none⟩), .slice Al l.length cl] w (AttsR B P w (Bz.attrsB [] l p)) := by
  have H := hide h
  have HD := hide hd
  have Hl := hide hl
  have Hv := hide hv
  have Hr := hide hr
  have Hs := hide hs
  have Hns := hide hns
  obtain ⟨R, hR⟩ : ∃ R, Bz.attrsB [] l p = R := ⟨_, rfl⟩
  rw [hR]
  have HR := hide hR
  obtain ⟨n, hnn⟩ : ∃ n, l.length = n := ⟨_, rfl⟩
  rw [hnn] at hn Hl ⊢
  have HN := hide hnn
  have hmm := @run_makeMap Try.prog
  have C0 := hide (cntN_nil w)
  have I1 := hide (h.go (below_alloc w (.map #[] 0)))
  have B1 := hide (RMov.of_below (B := B) (P := P) (below_alloc w (.map #[] 0)))
  obtain ⟨Mb, hMb⟩ : ∃ Mb, w.heap.size = Mb := ⟨_, rfl⟩
  have HMe := hide hMb
  rw [hMb] at C0
  clear h hd hl hnn hv hr hMb hR hs hns
  go_enter Try.func59, Try.ntmps59
  go_wp2
  rw [HMe.out]
  clear hmm
  go_loopg [14, 4] n (fun gk vk vl wr => ∃ (k : Nat) (acc : List Att) (seen : List Nm) (q : Bs) (vq : Bv) (A : Option Addr) (c : Nat) (D : DataW Unit), gk = n - k ∧ k ≤ n ∧ vk = .int .i64 (k : Int) ∧ vl = .slice A acc.length c ∧ PB B P wr q vq ∧ Vr v vq ∧ RMov B P w wr ∧
    wr.ownsRow w.heap.size 41 3 (.slice A acc.length c) acc.length (atts acc) ∧ CntN wr Mb seen.length seen D ∧ AttI l p k acc seen q)
  case atStart => exact ⟨0, [], [], p, v, none, 0, _, rfl, by omega, rfl, rfl, I1.out, .refl v, B1.out, World.ownsRow_nil _ _ _ _, C0.out, attI_zero l p⟩
  case round =>
    obtain ⟨k, acc, seen, q, vq, A, c, D, hgk, hk, rfl, rfl, h1, hvr, h2, h3, h4, h5⟩ := hrel
    have Hg := hide hgk
    have H1 := hide h1
    have Hvr := hide hvr
    have H2 := hide h2
    have H3 := hide h3
    have H4 := hide h4
    have H5 := hide h5
    clear hgk h1 hvr h2 h3 h4 h5 C0 I1 B1
    obtain ⟨m, hm⟩ : ∃ m, acc.length = m := ⟨_, rfl⟩
    rw [hm] at H3 ⊢
    have Hm := hide hm
    clear hm
    by_cases hlt : k < n
    · obtain ⟨x, hx⟩ : ∃ x, l[k]? = some x := ⟨_, List.getElem?_eq_getElem (by rw [HN.out]; exact hlt)⟩
      have Ol := H2.out.bmov.own Hl.out H.out.blk (by decide) (by decide)
      obtain ⟨lg, lc, hlv, hlb, hll⟩ := Ol.form (by omega)
      have hAl : Al = some ⟨lg, 0, none⟩ := by injection hlv
      subst hAl
      have hce := at_cellsB Ol HN.out hx
      have y0 : wr.cell? ⟨lg, k * 3, none⟩ = some (.string (bstr x.name)) := hce 0 (by omega)
      have y1 : wr.cell? ⟨lg, k * 3 + 1, none⟩ = some (.string (bstr x.value)) := hce 1 (by omega)
      have y2 : wr.cell? ⟨lg, k * 3 + 2, none⟩ = some (.int .i64 (x.at_ : Int)) := hce 2 (by omega)
      have hwk : IntKind.i64.wrap ((k : Int) + 1) = (k : Int) + 1 := IntWalk.i64_in _ (by omega)
      have Hskip := hide (attI_skip H5.out hx)
      have Hdup := hide (fun (nm : Nm) (q1 : Bs) => attI_dup (nm := nm) (q1 := q1) H5.out hx)
      have Hnew := hide (fun (nm : Nm) (q1 : Bs) => attI_new (nm := nm) (q1 := q1) H5.out hx)
      have HKn := hide (show x.name.length ≤ 1000000000 from Hv.out x (List.mem_of_getElem? hx))
      have Hrs := hide (show q.rs.length ≤ 600200000 by have := H5.out.2.2.1; have := Hr.out; omega)
      have Hml := hide (show m ≤ k by rw [← Hm.out]; exact H5.out.2.2.2.1)
      have Hst := hide (show q.st = p.st from H5.out.2.2.2.2.2)
      have Hsl := hide (show seen.length ≤ k from H5.out.2.2.2.2.1)
      have ba := below_alloc wr (.cells #[.string (bstr x.name), .string (bstr x.value), .int .i64 (x.at_ : Int)] 96)
      have KX := Blk.new wr 96 #[.string (bstr x.name), .string (bstr x.value), .int .i64 (x.at_ : Int)]
      obtain ⟨W1, hW1⟩ : ∃ W1, wr.alloc (.cells #[.string (bstr x.name), .string (bstr x.value), .int .i64 (x.at_ : Int)] 96) = W1 := ⟨_, rfl⟩
      rw [hW1] at ba KX
      have HPX := hide (show P ≠ wr.heap.size by have := H1.out.blk.lt; omega)
      have HwX := hide (show w.heap.size ≤ wr.heap.size from H2.out.size)
      have C1 := hide (H4.out.go ba)
      have I1 := hide (H1.out.go ba)
      have M1 := hide (H2.out.go ba)
      have O1 := hide (own_go H3.out ba)
      have KX1 := hide KX
      have v0 := KX.cell 0
      have HDc := hide (bdecl_any x.name W1 (HD.out.bmov M1.out.bmov H.out.bp).g HKn.out)
      obtain ⟨X, hX⟩ : ∃ X, wr.heap.size = X := ⟨_, rfl⟩
      rw [hX] at KX1 v0 HPX HwX
      obtain ⟨⟨dp, is⟩, hd⟩ : ∃ d, Bz.declB x.name = d := ⟨_, rfl⟩
      rw [hd] at HDc Hskip Hdup Hnew
      dsimp only at HDc Hskip Hdup Hnew
      clear ba KX hx hce Ol hlv hd
      go_wp2_with fail
      refine HDc.out.mono ?_
      rintro e w2 ⟨rfl, b2⟩
      have I2 := hide (I1.out.go b2)
      have M2 := hide (M1.out.go b2)
      have O2 := hide (own_go O1.out b2)
      have C2 := hide (C1.out.go b2)
      have KX2 := hide (KX1.out.go b2)
      clear b2 v0 hW1 hX y0 y1 y2
      cases is with
      | true =>
        go_wp2
        go_roundg (n - (k + 1))
        case measure => have := Hg.out; omega
        case rel => exact ⟨k + 1, acc, seen, q, vq, A, c, D, rfl, by omega, by first | rfl | go_num, by rw [Hm.out], I2.out, Hvr.out, M2.out, by rw [Hm.out]; exact O2.out, C2.out, Hskip.out trivial⟩
      | false =>
        have HNa := bname_r B P w2 q vq x.name true x.at_ I2.out (HD.out.bmov M2.out.bmov H.out.bp) HKn.out (by have := Hrs.out; omega) (by rw [Hst.out]; exact Hs.out)
        have hsm := name_small (wr := x.name) (att := true) (a := x.at_) (p := q) HKn.out (by rw [Hst.out]; exact Hns.out)
        have hrs := name_rs x.name true x.at_ q
        obtain ⟨⟨nm, q1⟩, hy⟩ : ∃ y, Bz.name x.name true x.at_ q = y := ⟨_, rfl⟩
        rw [hy] at HNa hsm hrs
        dsimp only at HNa hsm hrs
        have HNm := hide HNa
        have Hsn := hide hsm
        have Hrs1 := hide (show q1.rs.length ≤ 600200001 by have := Hrs.out; omega)
        have Hd2 := hide (fun hm => Hdup.out nm q1 rfl hy hm)
        have Hn2 := hide (fun hm => Hnew.out nm q1 rfl hy hm)
        have a0 := KX2.out.cell 0
        have a2 := KX2.out.cell 2
        clear HNa hsm hy hrs
        go_wp2_with fail
        refine HNm.out.mono ?_
        rintro e w3 ⟨rfl, m3, v3, p3, x3⟩
        have M3 := hide (M2.out.trans m3)
        have I3 := hide p3
        have V3 := hide (Hvr.out.trans x3)
        have O3 := hide (m3.bmov.own O2.out I2.out.blk (by decide) (by decide))
        have C3 := hide (C2.out.bmov m3.bmov I2.out.blk)
        have KX3 := hide (m3.bmov.blk KX2.out HPX.out.symm (by decide))
        clear m3 p3 x3 a0 a2
        unfold nmV
        have ba := below_alloc w3 (.cells #[.string (bstr nm.ns), .string (bstr nm.loc)] 36)
        have KN := Blk.new w3 36 #[.string (bstr nm.ns), .string (bstr nm.loc)]
        obtain ⟨W4, hW4⟩ : ∃ W4, w3.alloc (.cells #[.string (bstr nm.ns), .string (bstr nm.loc)] 36) = W4 := ⟨_, rfl⟩
        rw [hW4] at ba KN
        have I4 := hide (I3.out.go ba)
        have M4 := hide (M3.out.go ba)
        have O4 := hide (own_go O3.out ba)
        have C4 := hide (C3.out.go ba)
        have KX4 := hide (KX3.out.go ba)
        have KN4 := hide KN
        have hNX : w3.heap.size ≠ X := by have := KX3.out.lt; omega
        have HNw := hide (show w.heap.size ≤ w3.heap.size from M3.out.size)
        obtain ⟨N, hN⟩ : ∃ N, w3.heap.size = N := ⟨_, rfl⟩
        rw [hN] at KN4 hNX HNw
        have HNX := hide hNX
        obtain ⟨z, hz⟩ : ∃ z, seen.count nm = z := ⟨_, rfl⟩
        have HZ := hide hz
        have hzk : z ≤ k := by rw [← hz]; exact Nat.le_trans List.count_le_length Hsl.out
        have Hz0 := hide (show z = 0 ↔ nm ∉ seen by rw [← hz]; exact List.count_eq_zero)
        have hkey := keyOf_nm Hsn.out
        unfold nmV at hkey
        have hwz : IntKind.i64.wrap ((z : Int) + 1) = (z : Int) + 1 := IntWalk.i64_in _ (by omega)
        obtain ⟨v0, est, w5, hme, hg1, hsz1, hl1, hl0, hst⟩ := own_entry (w := W4.drew) (show W4.drew.ownsMap _ _ _ _ _ _ from C4.out.own) key_nm Try.underlying124 Try.underlying3 zero_int (by unfold maxLen; have := Hsl.out; omega) hkey
        have hv0 : v0 = .int .i64 (z : Int) := by
          obtain ⟨cc, r1, a1, _⟩ := (show W4.drew.ownsMap _ _ _ _ _ _ from C4.out.own).lookup_int law_nm Try.underlying124 Try.underlying3 (zero_int _) hkey
          rw [hl0] at r1
          simp only [Result.ok.injEq, and_true] at r1
          rw [r1, C4.out.is_r Hsn.out HZ.out a1]
        subst hv0
        obtain ⟨w6, hes, ho6, hg6⟩ := hst (.int .i64 ((z : Int) + 1)) _ [] (plainElem_int Try.underlying3 (WalkArith.wf_i64 (by omega))) w5 rfl
        have hg16 : W4.grownBy w6 (some Mb) := ⟨hg6.os.trans hg1.os, hg6.tape.trans hg1.tape, hg6.output.trans hg1.output, Nat.le_trans hg1.size hg6.size, fun j hj hne => (hg6.block j (Nat.lt_of_lt_of_le hj hg1.size) hne).trans (hg1.block j hj hne)⟩
        obtain ⟨es, cle, hesb⟩ := C4.out.block
        have hNM : N ≠ Mb := fun e => not_isT_map hesb (by rw [← e]; exact KN4.out.isT)
        have hXM : X ≠ Mb := fun e => not_isT_map hesb (by rw [← e]; exact KX4.out.isT)
        have I6 := hide (I4.out.kept hg16 (fun j hj t' _ => by cases hj; exact not_isT_map hesb))
        have O6 := hide (O4.out.kept hg16 (.inr (own_ne_map O4.out hesb)))
        have KN6 := hide (KN4.out.grown hg16 (fun e => hNM (by injection e)))
        have KX6 := hide (KX4.out.grown hg16 (fun e => hXM (by injection e)))
        have C6 := hide (cntN_next C4.out Hsn.out HZ.out ho6)
        have M6 := hide (M4.out.grownN hg16 (fun j hj => by cases hj; rw [HMe.out]; exact Nat.le_refl _))
        have HHme := hide hme
        have HHes := hide hes
        have z0' : w5.cell? ⟨N, 0, none⟩ = some (.string (bstr nm.ns)) := hg1.cell (show W4.drew.cell? ⟨N, 0, none⟩ = _ from KN4.out.cell 0) (fun e => hNM (by injection e))
        have z1' : w5.cell? ⟨N, 1, none⟩ = some (.string (bstr nm.loc)) := hg1.cell (show W4.drew.cell? ⟨N, 1, none⟩ = _ from KN4.out.cell 1) (fun e => hNM (by injection e))
        have HS0 := hide (show (Instr.lookup 124 (.map (some Mb)) (.agg #[.string (bstr nm.ns), .string (bstr nm.loc)]) false).run Try.prog W4.drew = .ok (.int .i64 (z : Int)) W4.drew ∧ W4.drew.cell? ⟨N, 0, none⟩ = some (.string (bstr nm.ns)) ∧ W4.drew.cell? ⟨N, 1, none⟩ = some (.string (bstr nm.loc)) from ⟨hl0, KN4.out.cell 0, KN4.out.cell 1⟩)
        have HS1 := hide (show (Instr.lookup 124 (.map (some Mb)) (.agg #[.string (bstr nm.ns), .string (bstr nm.loc)]) false).run Try.prog w5 = .ok (.int .i64 (z : Int)) w5 ∧ w5.cell? ⟨N, 0, none⟩ = some (.string (bstr nm.ns)) ∧ w5.cell? ⟨N, 1, none⟩ = some (.string (bstr nm.loc)) from ⟨hl1, z0', z1'⟩)
        have Hzk := hide hzk
        clear hz hkey hme hes hg1 hg6 hg16 hl1 hl0 hst ho6 hesb z0' z1' hsz1 hNM hXM ba KN hNX hzk
        go_upto_region 8 with fail
        go_cut [] (fun wx => wx = w6)
        case first =>
          obtain ⟨l0, z0, z1⟩ := HS0.out
          obtain ⟨l1, y0, y1⟩ := HS1.out
          have hme := HHme.out
          have hes := HHes.out
          go_region
          all_goals
            (try simp only [Exit.then])
            first
              | (rename_i hJ hM; refine hM _ _ (Met.intro ?_); refine hJ _ _ ?_)
              | (refine Met.intro ?_; rename_i hJ; refine hJ _ _ ?_)
            (repeat apply Exists.intro)
            exact ⟨rfl, rfl⟩
        case rest =>
          have hc2 := hcut.symm
          clear hcut hW4 hN
          subst hc2
          have z0 := KN6.out.cell 0
          have z1 := KN6.out.cell 1
          have x1 := KX6.out.cell 1
          have x2 := KX6.out.cell 2
          have hkey := hide (keyOf_nm Hsn.out)
          have Hqs := hide (show (seen ++ [nm]).count nm = z + 1 by rw [List.count_append, List.count_singleton, beq_self_eq_true, HZ.out]; rfl)
          obtain ⟨D2, hD2⟩ : ∃ D2 : DataW Unit, D.put (klN nm) (.lit (.int .i64 ((z : Int) + 1))) = D2 := ⟨_, rfl⟩
          rw [hD2] at C6
          clear hD2 hwz
          by_cases hmem : nm ∈ seen
          · have HI2 := hide (Hd2.out hmem)
            have hgt : decide ((1 : Int) < (z : Int) + 1) = true := by
              rw [decide_eq_true_iff]
              have : z ≠ 0 := fun e => Hz0.out.1 e hmem
              omega
            clear hmem
            go_wp2_with (at_lookup; refine wpList_lookup_own_int _ (by rfl) _ _ 124 (by rfl) 36 3 .i64 law_nm Try.underlying124 Try.underlying3 (zero_int _) Mb (seen.length + 1) _ (by rfl) C6.out.own _ _ (by rfl) hkey.out ?_; intro c1 hat hwf; clear hwf; have hc1 : c1 = ((z + 1 : Nat) : Int) := C6.out.is_r Hsn.out Hqs.out hat; rw [show ((z + 1 : Nat) : Int) = (z : Int) + 1 by omega] at hc1; subst hc1; clear hat)
            refine (bmend_r B P w6 q1 v3 9 x.at_ I6.out (Nat.le_trans HD.out.hB M6.out.size) (by have := Hrs1.out; omega)).mono ?_
            rintro e w7 ⟨rfl, m7, v7, p7, x7⟩
            have M7 := hide (M6.out.trans m7)
            have P7 := hide p7
            have V7 := hide (V3.out.trans x7)
            have O7 := hide (m7.bmov.own O6.out I6.out.blk (by decide) (by decide))
            have C7 := hide (C6.out.bmov m7.bmov I6.out.blk)
            clear m7 p7 x7
            go_wp2
            go_roundg (n - (k + 1))
            case measure => have := Hg.out; omega
            case rel => exact ⟨k + 1, acc, seen ++ [nm], _, v7, A, c, D2, rfl, by omega, by first | rfl | go_num, by rw [Hm.out], P7.out, V7.out, M7.out, by rw [Hm.out]; exact O7.out, by rw [List.length_append]; exact C7.out, HI2.out⟩
          · have HI2 := hide (Hn2.out hmem)
            have hgt : decide ((1 : Int) < (z : Int) + 1) = false := by
              rw [decide_eq_false_iff_not]
              have := Hz0.out.2 hmem
              omega
            clear hmem
            go_wp2_with first
              | (at_lookup; refine wpList_lookup_own_int _ (by rfl) _ _ 124 (by rfl) 36 3 .i64 law_nm Try.underlying124 Try.underlying3 (zero_int _) Mb (seen.length + 1) _ (by rfl) C6.out.own _ _ (by rfl) hkey.out ?_; intro c1 hat hwf; clear hwf; have hc1 : c1 = ((z + 1 : Nat) : Int) := C6.out.is_r Hsn.out Hqs.out hat; rw [show ((z + 1 : Nat) : Int) = (z : Int) + 1 by omega] at hc1; subst hc1; clear hat)
              | (at_builtin; go_loud (refine wpList_append_elem_at (w6.alloc (.cells (attCells ⟨nm, x.value⟩).toArray 41)) (by rfl) (.tmp 45) (.tmp 50) 37 (by rfl) w.heap.size 41 _ 3 48 Try.underlying37 info_atr (by rfl) (by omega) (.slice A m c) m (atts acc) (by rfl) (O6.out.alloc _) (attCells ⟨nm, x.value⟩) (by rfl) (attc_one _) w6.heap.size (Blk.new w6 41 (attCells ⟨nm, x.value⟩).toArray) (by rfl) (by unfold maxLen; have := Hml.out; omega) (by have := Hml.out; omega) (by have := M6.out.size; simp; omega) ?_); intro g8 cap8 w8 hown8 hgrow8 hlt8; have HO8 := hide hown8; have HG8 := hide hgrow8; clear hown8 hgrow8 hlt8)
            go_roundg (n - (k + 1))
            case measure => have := Hg.out; omega
            case rel =>
              have BA := below_alloc w6 (.cells (attCells ⟨nm, x.value⟩).toArray 41)
              obtain ⟨es5, cl5, hes5⟩ := (CntN.go C6.out BA).block
              have hrow := fun j hj => own_isT (O6.out.alloc (.cells (attCells ⟨nm, x.value⟩).toArray 41)) j hj
              have h0 : ∀ y ∈ v3.xs, ∀ a, y.A = some a → a.block < w.heap.size := fun y hy a ha => by rw [V3.out.e.2.2] at hy; exact ((H.out.inn y hy).ta a ha).lt
              refine ⟨k + 1, acc ++ [⟨nm, x.value⟩], seen ++ [nm], q1, v3, some ⟨g8, 0, none⟩, cap8, D2, rfl, by omega, by first | rfl | go_num, by rw [List.length_append, Hm.out]; rfl, (I6.out.go BA).keptA h0 HG8.out (fun j hj => ⟨(hrow j hj).1, fun t' ht' hT => isT_ne (hrow j hj).2 hT (by intro e; subst e; revert ht'; decide)⟩), V3.out, (M6.out.go BA).grownN HG8.out (fun j hj => (hrow j hj).1), ?_, ?_, HI2.out⟩
              · rw [atts_snoc, List.length_append, Hm.out]
                exact HO8.out
              · rw [List.length_append]
                exact (CntN.go C6.out BA).kept HG8.out (fun e => not_isT_map hes5 (hrow Mb e.symm).2)
    · have hall : k = n := by omega
      subst hall
      have hE := H5.out
      rw [← HN.out] at hE
      have hE2 := attI_end hE
      rw [HR.out] at hE2
      have HE := hide hE2
      clear hE hE2
      go_wp2
      go_ret
      rw [HE.out]
      exact ⟨A, c, vq, by rw [Hm.out]; rfl, H2.out, H1.out, by rw [Hm.out]; exact H3.out⟩
end Go.Proofs.Ytaickkaoglohgaa
namespace Go.Proofs.Ytaickkaoglohgaa
open Go Tk Sx
namespace Bz
theorem len_tag (a : Nat) : ∀ (f : Nat) (acc : List At) (p : Bs), (tag a f acc p).2.2.at_ + (tag a f acc p).2.2.l.length = p.at_ + p.l.length ∧ (tag a f acc p).2.2.rs.length + 6 * (tag a f acc p).2.2.l.length ≤ p.rs.length + 6 * p.l.length + 1 ∧
    (∀ x ∈ (tag a f acc p).1, x ∈ acc ∨ (x.name.length ≤ p.l.length ∧ x.value.length ≤ 12 * p.l.length)) ∧ (tag a f acc p).1.length ≤ acc.length + p.l.length ∧ (tag a f acc p).2.2.l.length ≤ p.l.length
  | 0, acc, p => by rw [tag]; exact ⟨rfl, by dsimp only; omega, fun x hx => .inl hx, by dsimp only; omega, Nat.le_refl _⟩
  | f + 1, acc, p => by
    obtain ⟨u1, u2, u3⟩ := len_until solid p
    have hm : (mend 14 a (untilB solid p)).rs.length = p.rs.length + 1 := by rw [mend_rs, u3]
    have hend : ∀ b : Bool, (mend 14 a (untilB solid p)).at_ + (mend 14 a (untilB solid p)).l.length = p.at_ + p.l.length ∧ (mend 14 a (untilB solid p)).rs.length + 6 * (mend 14 a (untilB solid p)).l.length ≤ p.rs.length + 6 * p.l.length + 1 ∧
        (∀ x ∈ acc, x ∈ acc ∨ (x.name.length ≤ p.l.length ∧ x.value.length ≤ 12 * p.l.length)) ∧ acc.length ≤ acc.length + p.l.length ∧ (mend 14 a (untilB solid p)).l.length ≤ p.l.length := fun b => by
      have e : (mend 14 a (untilB solid p)).l = (untilB solid p).l := rfl
      have e2 : (mend 14 a (untilB solid p)).at_ = (untilB solid p).at_ := rfl
      rw [hm, e, e2]
      exact ⟨u1, by omega, fun x hx => .inl hx, by omega, by omega⟩
    rw [tag]
    (try dsimp only)
    split
    · exact hend true
    rename_i c r hl
    have hlen : (untilB solid p).l.length = r.length + 1 := by rw [hl]; rfl
    split
    · exact hend true
    split
    · obtain ⟨c1, c2⟩ := len_cut (n := 1) (p := untilB solid p) (by omega)
      have e3 : (cutB 1 (untilB solid p)).rs = p.rs := rfl
      dsimp only
      rw [e3]
      exact ⟨c1.trans u1, by omega, fun x hx => .inl hx, by omega, by omega⟩
    split
    · rename_i hp
      have h2 : 2 ≤ (untilB solid p).l.length := by
        have := (List.isPrefixOf_iff_prefix.1 hp).length_le
        simpa using this
      obtain ⟨c1, c2⟩ := len_cut h2
      have e3 : (cutB 2 (untilB solid p)).rs = p.rs := rfl
      dsimp only
      rw [e3]
      exact ⟨c1.trans u1, by omega, fun x hx => .inl hx, by omega, by omega⟩
    split
    · rename_i ht
      obtain ⟨a1, a2, a3, a4, a5⟩ := len_attr (n := take (untilB solid p).l) (p := untilB solid p) (take_le _)
      rw [u3] at a3
      obtain ⟨t1, t2, t3, t4, t5⟩ := len_tag a f (acc ++ [(attrB (take (untilB solid p).l) (untilB solid p)).1]) (attrB (take (untilB solid p).l) (untilB solid p)).2
      refine ⟨t1.trans (a1.trans u1), by omega, fun x hx => ?_, by rw [List.length_append, List.length_singleton] at t4; omega, by omega⟩
      rcases t3 x hx with h | h
      · rcases List.mem_append.1 h with h | h
        · exact .inl h
        · rw [List.mem_singleton.1 h, a4, List.length_take]
          exact .inr ⟨by omega, by omega⟩
      · exact .inr ⟨by omega, by omega⟩
    · obtain ⟨o1, o2⟩ := one_le (l := (untilB solid p).l) (by rw [hl]; simp)
      have o3 : oneB (untilB solid p).l ≤ (mend 8 (untilB solid p).at_ (untilB solid p)).l.length := o2
      obtain ⟨c1, c2⟩ := len_cut o3
      have e4 : (mend 8 (untilB solid p).at_ (untilB solid p)).l.length = (untilB solid p).l.length := rfl
      have e5 : (mend 8 (untilB solid p).at_ (untilB solid p)).at_ = (untilB solid p).at_ := rfl
      have e6 : (cutB (oneB (untilB solid p).l) (mend 8 (untilB solid p).at_ (untilB solid p))).rs.length = p.rs.length + 1 := by
        show (mend 8 (untilB solid p).at_ (untilB solid p)).rs.length = _
        rw [mend_rs, u3]
      obtain ⟨t1, t2, t3, t4, t5⟩ := len_tag a f acc (cutB (oneB (untilB solid p).l) (mend 8 (untilB solid p).at_ (untilB solid p)))
      refine ⟨by omega, by omega, fun x hx => ?_, by omega, by omega⟩
      rcases t3 x hx with h | h
      · exact .inl h
      · exact .inr ⟨by omega, by omega⟩
theorem once_rs : ∀ (l : List At) (seen : List L) (p : Bs), (once seen l p).2.rs.length ≤ p.rs.length + l.length ∧ (once seen l p).2.l = p.l ∧ (once seen l p).2.at_ = p.at_
  | [], _, _ => ⟨Nat.le_refl _, rfl, rfl⟩
  | x :: r, seen, p => by
    rw [once]
    split
    · obtain ⟨h1, h2, h3⟩ := once_rs r seen (mend 9 x.at_ p)
      rw [mend_rs] at h1
      exact ⟨by rw [List.length_cons]; omega, h2, h3⟩
    · obtain ⟨h1, h2, h3⟩ := once_rs r (seen ++ [x.name]) p
      exact ⟨by rw [List.length_cons]; dsimp only; omega, h2, h3⟩
theorem declaredB_snoc (l : List At) (x : At) : ∀ sc : List Dcl, declaredB sc (l ++ [x]) = if (declB x.name).2 then declaredB sc l ++ [⟨(declB x.name).1, x.value⟩] else declaredB sc l := by
  induction l with
  | nil => intro sc; rw [List.nil_append, declaredB]; split <;> rename_i h <;> simp [declaredB, h]
  | cons y l ih => intro sc; rw [List.cons_append, declaredB, declaredB]; split <;> exact ih _
theorem declaredB_len (l : List At) : ∀ sc : List Dcl, (declaredB sc l).length ≤ sc.length + l.length := by
  induction l with
  | nil => intro sc; exact Nat.le_refl _
  | cons y l ih =>
    intro sc
    rw [declaredB, List.length_cons]
    split
    · have := ih (sc ++ [⟨(declB y.name).1, y.value⟩]); rw [List.length_append, List.length_singleton] at this; omega
    · have := ih sc; omega
theorem declaredB_ge (l : List At) : ∀ sc : List Dcl, sc.length ≤ (declaredB sc l).length := by
  induction l with
  | nil => intro sc; exact Nat.le_refl _
  | cons y l ih =>
    intro sc
    rw [declaredB]
    split
    · have := ih (sc ++ [⟨(declB y.name).1, y.value⟩]); rw [List.length_append, List.length_singleton] at this; omega
    · exact ih sc
theorem declaredB_ns {M : Nat} (l : List At) : ∀ sc : List Dcl, (∀ d ∈ sc, d.ns.length ≤ M) → (∀ x ∈ l, x.value.length ≤ M) → ∀ d ∈ declaredB sc l, d.ns.length ≤ M := by
  induction l with
  | nil => intro sc h _; exact h
  | cons y l ih =>
    intro sc h h2
    rw [declaredB]
    split
    · refine ih _ (fun d hd => ?_) (fun x hx => h2 x (List.mem_cons_of_mem _ hx))
      rcases List.mem_append.1 hd with hd | hd
      · exact h d hd
      · rw [List.mem_singleton.1 hd]; exact h2 y (List.mem_cons_self ..)
    · exact ih sc h fun x hx => h2 x (List.mem_cons_of_mem _ hx)
end Bz
end Go.Proofs.Ytaickkaoglohgaa
