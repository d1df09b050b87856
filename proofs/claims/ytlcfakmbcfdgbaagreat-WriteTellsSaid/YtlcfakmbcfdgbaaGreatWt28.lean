/- Writing: the document's Atom, Size (ref26). (Printed by genTdZ.py.) · write.Same, SameEntry. · The laws' wakes. -/
import Derived.Test.YtlcfakmbcfdgbaaGreatWt26
import Derived.Test.YtlcfakmbcfdgbaaGreatWt27
set_option linter.unusedSimpArgs false
set_option linter.unusedVariables false
namespace Go.Proofs.YtlcfakmbcfdgbaaGreat
open Go.RowKit Go.WideShapes

namespace Wr
/-- The document so far. -/
def accAt (f : Fd) (i : Nat) : List UInt8 := start f ++ (f.es.take i).flatMap entry
theorem accAt_next {f : Fd} {i : Nat} {x : Ent} (h : f.es[i]? = some x) : accAt f (i + 1) = accAt f i ++ entry x := by
  unfold accAt
  rw [List.take_add_one, h, List.flatMap_append]
  simp
theorem accAt_len (f : Fd) (h : f.Ok) : ∀ i, (accAt f i).length ≤ 1000000 + i * 1000000
  | 0 => by
    have h1 := h.id
    have h2 := h.title
    have h3 := h.link
    have h4 := head_len f.id f.title f.link f.k f.s
    have h5 : (line [xmlLine]).length = 39 := rfl
    have h6 : (line [feedLine]).length = 43 := rfl
    unfold accAt start
    simp only [List.length_append, List.take_zero, List.flatMap_nil, List.length_nil]
    omega
  | i + 1 => by
    have ih := accAt_len f h i
    have hmul : (i + 1) * 1000000 = i * 1000000 + 1000000 := Nat.succ_mul i 1000000
    cases hx : f.es[i]? with
    | none =>
      have : accAt f (i + 1) = accAt f i := by unfold accAt; rw [List.take_add_one, hx]; simp
      rw [this, hmul]
      exact Nat.le_trans ih (by rw [← Nat.add_assoc]; exact Nat.le_add_right _ _)
    | some x =>
      rw [accAt_next hx, List.length_append]
      have := entry_len x (h.es x (List.mem_of_getElem? hx))
      rw [hmul, ← Nat.add_assoc]
      exact Nat.add_le_add ih this
end Wr
theorem start_str (f : Fd) : bstr (Wr.start f) = bstr (Wr.line [Wr.xmlLine] ++ Wr.line [Wr.feedLine]) ++ bstr (Wr.head f.id f.title f.link f.k f.s) := by
  unfold Wr.start
  simp only [bstr_app, ByteArray.append_assoc]
theorem entry_str (x : Ent) : bstr (Wr.entry x) = bstr (Wr.line [Wr.entryOpen]) ++ (bstr (Wr.head x.id x.title x.link x.k x.s) ++ (bstr (Wr.author x.author) ++ (bstr (Wr.content x.content) ++ bstr (Wr.line [Wr.entryEnd])))) := by
  unfold Wr.entry
  simp only [bstr_app]
theorem author_str (a : UInt8) (t : List UInt8) : bstr (Wr.author (a :: t)) = bstr Wr.authorOpen ++ (bstr (Tx.escape false (a :: t)) ++ bstr (Wr.authorEnd ++ [10])) := by
  have e : Wr.author (a :: t) = Wr.authorOpen ++ (Tx.escape false (a :: t) ++ (Wr.authorEnd ++ [10])) := by
    unfold Wr.author Wr.line
    rw [if_neg (by simp)]
    simp
  rw [e]
  simp only [bstr_app]
theorem content_cons (a : UInt8) (t : List UInt8) : Wr.content (a :: t) = Wr.field [99, 111, 110, 116, 101, 110, 116] (a :: t) := by
  unfold Wr.content
  rw [if_neg (by simp)]
set_option maxRecDepth 100000 in
set_option maxHeartbeats 16000000 in
theorem refAtom26_any (f : Fd) (A : Option Addr) (n c B : Nat) (w : World) (hR : Reads w B 7 A n (entVs f.es)) (hn : f.es.length = n) (hB : B ≤ w.heap.size) (hm : n ≤ maxLen) (hok : f.Ok) :
    Calls Tryz.prog 7 #[.agg (f.cells A n c)] w fun e w' => e = .returned (Wr.atomV f) ∧ Below w.heap.size w w' := by
  have HMay := hide (refMay26_any f A n c B (w.alloc (.cells (f.cells A n c) 26)) (hR.keep fun p hp => World.cell?_of_block ((below_alloc w _).block _ (by omega))) hn (by simp; omega) hm hok)
  have HB0 := hide (below_alloc w (.cells (f.cells A n c) 26))
  have HT0 := hide (Blk.new w 26 (f.cells A n c))
  have HRd := hide hR
  have Hn := hide hn
  have HOk := hide hok
  have hm' : (n : Int) ≤ 9223372036854775807 := by unfold maxLen at hm; omega
  have HMe := hide (@Wr.may_ents f)
  have HMw := hide (@Wr.may_when f)
  have HSt := hide (start_str f)
  have HAl := hide (fun i => Wr.accAt_len f hok i)
  have HAn := hide (show ∀ i x, f.es[i]? = some x → Wr.accAt f (i + 1) = Wr.accAt f i ++ Wr.entry x from fun i x h => Wr.accAt_next h)
  have HA0 := hide (show Wr.accAt f 0 = Wr.start f by unfold Wr.accAt; simp)
  have HAe := hide (show Wr.doc f = Wr.accAt f n ++ Wr.line [Wr.feedEnd] by unfold Wr.doc Wr.accAt; rw [List.take_of_length_le (by omega), List.append_assoc])
  have h16 : Wr.may f = true → n ≤ 16 := fun h => by
    unfold Wr.may at h
    simp only [Bool.and_eq_true, decide_eq_true_eq] at h
    rw [← hn]
    exact h.1.2
  have hV : Wr.atomV f = if Wr.may f then .tuple #[.string (bstr (Wr.doc f)), .int .i64 0] else .tuple #[.string ⟨#[]⟩, .int .i64 2] := rfl
  cases hmv : Wr.may f with
  | false =>
    rw [hmv] at HMay hV
    have HV := hide (hV.trans (if_neg (by decide)))
    clear hmv hV HMe HMw h16 HAl HAn hR hn hok
    rw [HV.out]
    obtain ⟨id, ti, lk, k, s, es⟩ := f
    unfold Fd.cells at HB0 HT0 HMay ⊢
    dsimp only at HB0 HT0 HMay ⊢
    have t0 := HT0.out.cell 0
    have t1 := HT0.out.cell 1
    have t2 := HT0.out.cell 2
    have t3 := HT0.out.cell 3
    have t4 := HT0.out.cell 4
    have t5 := HT0.out.cell 5
    go_enter Tryz.func7, Tryz.ntmps7
    go_wp2_with fail
    refine HMay.out.mono ?_
    rintro e w1 ⟨rfl, hb1⟩
    have HB1 := hide (HB0.out.trans (hb1.mono (by simp)))
    clear hb1
    dsimp only
    go_wp2
    go_ret2
    exact ⟨rfl, HB1.out⟩
  | true =>
    rw [hmv] at HMay hV
    have HV := hide (hV.trans (if_pos rfl))
    have hn16 : n ≤ 16 := h16 hmv
    have HMe2 := hide (HMe.out hmv)
    have hwk := HMw.out hmv
    clear hmv hV HMe HMw h16 hR hn hok
    rw [HV.out]
    have HD := hide HAe.out
    obtain ⟨DD, hDD⟩ : ∃ D, Wr.doc f = D := ⟨_, rfl⟩
    rw [hDD] at HD ⊢
    clear hDD HV
    obtain ⟨acc, hacc⟩ : ∃ a : Nat → List UInt8, Wr.accAt f = a := ⟨_, rfl⟩
    rw [hacc] at HAl HAn HA0 HD
    clear hacc HAe
    have HLn := hide (fun W => refLines26_any f.id f.title f.link f.k f.s W HOk.out.id HOk.out.title HOk.out.link HOk.out.s hwk)
    have hhl := Wr.head_len f.id f.title f.link f.k f.s
    have hhb : (Wr.head f.id f.title f.link f.k f.s).length ≤ 1000000 := by
      have h1 := HOk.out.id
      have h2 := HOk.out.title
      have h3 := HOk.out.link
      omega
    have s1 : (bstr (Wr.head f.id f.title f.link f.k f.s)).size = (Wr.head f.id f.title f.link f.k f.s).length := bstr_size _
    obtain ⟨n1, hn1⟩ : ∃ n, (Wr.head f.id f.title f.link f.k f.s).length = n := ⟨_, rfl⟩
    rw [hn1] at hhb s1
    obtain ⟨HD1, hHD1⟩ : ∃ S, bstr (Wr.head f.id f.title f.link f.k f.s) = S := ⟨_, rfl⟩
    rw [hHD1] at s1 HLn HSt
    have HStart := hide (show bstr (acc 0) = bstr (Wr.line [Wr.xmlLine] ++ Wr.line [Wr.feedLine]) ++ HD1 by rw [HA0.out]; exact HSt.out)
    clear hn1 hHD1 HSt HA0 hhl hwk
    have HOe := hide HOk.out.es
    obtain ⟨id, ti, lk, k, s, es⟩ := f
    unfold Fd.cells at HB0 HT0 HMay ⊢
    dsimp only at HB0 HT0 HMay HRd Hn HMe2 HLn HAn HOe ⊢
    have t0 := HT0.out.cell 0
    have t1 := HT0.out.cell 1
    have t2 := HT0.out.cell 2
    have t3 := HT0.out.cell 3
    have t4 := HT0.out.cell 4
    have t5 := HT0.out.cell 5
    go_enter Tryz.func7, Tryz.ntmps7
    go_wp2_with fail
    refine HMay.out.mono ?_
    rintro e w1 ⟨rfl, hb1⟩
    have HT1 := hide (HT0.out.go (by simpa using hb1))
    have HB1 := hide (HB0.out.trans (hb1.mono (by simp)))
    clear hb1 t0 t1 t2 t3 t4 t5
    dsimp only
    have t0 := HT1.out.cell 0
    have t1 := HT1.out.cell 1
    have t2 := HT1.out.cell 2
    have t3 := HT1.out.cell 3
    have t4 := HT1.out.cell 4
    go_wp2_with fail
    refine (HLn.out _).mono ?_
    rintro e w2 ⟨rfl, hb2⟩
    have HT2 := hide (HT1.out.go hb2)
    have HB2 := hide (HB1.out.trans (hb2.mono HB1.out.size))
    clear hb2 t0 t1 t2 t3 t4
    dsimp only
    go_wp2
    go_loopg [4, 5, 6] n (fun gk v4 v5 v6 wr => ∃ (i : Nat), v5 = .int .i64 (i : Int) ∧ gk = n - i ∧ i ≤ n ∧ v4 = .string (bstr (acc i)) ∧ Below w2.heap.size w2 wr)
    case atStart => exact ⟨0, rfl, rfl, by omega, by rw [HStart.out]; rfl, Below.refl _ _⟩
    case round =>
      obtain ⟨i, rfl, hgk, hin, rfl, hb⟩ := hrel
      have Hgk := hide hgk
      have HBr := hide (HB2.out.trans (hb.mono HB2.out.size))
      have HTr := hide (HT2.out.go hb)
      have Hb := hide hb
      have t5 := HTr.out.cell 5
      have hal := HAl.out i
      have so : (bstr (acc i)).size = (acc i).length := bstr_size _
      have hszr : w.heap.size + 1 ≤ wr.heap.size := by have := HTr.out.lt; omega
      clear hb hgk
      by_cases hlt : i < n
      · have hil : i < es.length := by rw [Hn.out]; exact hlt
        have hRw : Reads wr B 7 A es.length (entVs es) := by
          rw [Hn.out]
          exact HRd.out.keep fun p hp => World.cell?_of_block (HBr.out.block _ (by omega))
        obtain ⟨b, off, rfl, hbB, hx⟩ := hRw.ent hil
        obtain ⟨x, hxe⟩ : ∃ x, es[i] = x := ⟨_, rfl⟩
        have hex : es[i]? = some x := by rw [← hxe]; exact List.getElem?_eq_getElem hil
        have hmem : x ∈ es := List.mem_of_getElem? hex
        rw [hxe] at hx
        have hxo := HOe.out x hmem
        have hxw := HMe2.out x hmem
        have han := HAn.out i x hex
        have hes := entry_str x
        have Hnx := hide (show bstr (acc (i + 1)) = bstr (acc i) ++ (bstr (Wr.line [Wr.entryOpen]) ++ (bstr (Wr.head x.id x.title x.link x.k x.s) ++ (bstr (Wr.author x.author) ++ (bstr (Wr.content x.content) ++ bstr (Wr.line [Wr.entryEnd]))))) by rw [han, bstr_app, hes])
        clear hxe hex hmem han hes hRw
        obtain ⟨xi, xt, xl, xa, xc, xk, xs⟩ := x
        obtain ⟨g1, g2, g3, g4, g5, g6⟩ := hxo
        dsimp only at g1 g2 g3 g4 g5 g6 hxw Hnx
        have x0 := hx.c0
        have x1 := hx.c1
        have x2 := hx.c2
        have x3 := hx.c3
        have x4 := hx.c4
        have x5 := hx.c5
        have x6 := hx.c6
        clear hx
        dsimp only at x0 x1 x2 x3 x4 x5 x6
        have HLx := hide (fun W => refLines26_any xi xt xl xk xs W g1 g2 g3 g6 hxw)
        have HEa := hide (fun W => refEscape13_any false xa W (by omega))
        have HLc := hide (fun W => refLine26_any [99, 111, 110, 116, 101, 110, 116] xc W (by decide) g5)
        have hhl := Wr.head_len xi xt xl xk xs
        have hea := Tx.escape_len false xa
        have hfc := Wr.field_len [99, 111, 110, 116, 101, 110, 116] xc
        simp only [List.length_cons, List.length_nil] at hfc
        have s2 : (bstr (Wr.head xi xt xl xk xs)).size = (Wr.head xi xt xl xk xs).length := bstr_size _
        have s3 : (bstr (Tx.escape false xa)).size = (Tx.escape false xa).length := bstr_size _
        have s4 : (bstr (Wr.field [99, 111, 110, 116, 101, 110, 116] xc)).size = (Wr.field [99, 111, 110, 116, 101, 110, 116] xc).length := bstr_size _
        obtain ⟨n2, hn2⟩ : ∃ n, (Wr.head xi xt xl xk xs).length = n := ⟨_, rfl⟩
        obtain ⟨n3, hn3⟩ : ∃ n, (Tx.escape false xa).length = n := ⟨_, rfl⟩
        obtain ⟨n4, hn4⟩ : ∃ n, (Wr.field [99, 111, 110, 116, 101, 110, 116] xc).length = n := ⟨_, rfl⟩
        obtain ⟨m, hmm⟩ : ∃ n, (acc i).length = n := ⟨_, rfl⟩
        rw [hn2] at s2 hhl
        rw [hn3] at s3 hea
        rw [hn4] at s4 hfc
        rw [hmm] at so hal
        have b2 : n2 ≤ 1000000 := by omega
        have b3 : n3 ≤ 1000000 := by omega
        have b4 : n4 ≤ 1000000 := by omega
        have bm : m ≤ 20000000 := by omega
        obtain ⟨H2, hH2⟩ : ∃ S, bstr (Wr.head xi xt xl xk xs) = S := ⟨_, rfl⟩
        rw [hH2] at s2 HLx Hnx
        obtain ⟨E3, hE3⟩ : ∃ S, bstr (Tx.escape false xa) = S := ⟨_, rfl⟩
        rw [hE3] at s3 HEa
        obtain ⟨F4, hF4⟩ : ∃ S, bstr (Wr.field [99, 111, 110, 116, 101, 110, 116] xc) = S := ⟨_, rfl⟩
        rw [hF4] at s4 HLc
        obtain ⟨OB, hOB⟩ : ∃ S, bstr (acc i) = S := ⟨_, rfl⟩
        rw [hOB] at so Hnx
        rw [hOB]
        have hau : ∀ a t, xa = a :: t → bstr (Wr.author xa) = bstr Wr.authorOpen ++ (E3 ++ bstr (Wr.authorEnd ++ [10])) := fun a t e => by rw [← hE3, e]; exact author_str a t
        have hco : ∀ a t, xc = a :: t → bstr (Wr.content xc) = F4 := fun a t e => by rw [← hF4, e, content_cons]
        have HK0 := hide (Blk.new wr 36 #[.string (bstr xi), .string (bstr xt), .string (bstr xl), .string (bstr xa), .string (bstr xc), .bool xk, .int .i64 xs])
        have HC0 := hide (below_alloc wr (.cells #[.string (bstr xi), .string (bstr xt), .string (bstr xl), .string (bstr xa), .string (bstr xc), .bool xk, .int .i64 xs] 36))
        have k0 := HK0.out.cell 0
        have k1 := HK0.out.cell 1
        have k2 := HK0.out.cell 2
        have k5 := HK0.out.cell 5
        have k6 := HK0.out.cell 6
        clear hn2 hn3 hn4 hmm hH2 hE3 hF4 hOB hhl hea hfc hal g1 g2 g3 g4 g5 g6 hxw
        have HAu := hide hau
        have HCo := hide hco
        clear hau hco
        obtain ⟨C0, hC0⟩ : ∃ W, wr.alloc (.cells #[.string (bstr xi), .string (bstr xt), .string (bstr xl), .string (bstr xa), .string (bstr xc), .bool xk, .int .i64 xs] 36) = W := ⟨_, rfl⟩
        have HC0e := hide hC0
        rw [hC0] at HK0 HC0 k0 k1 k2 k5 k6
        clear hC0
        go_wp2_with fail
        refine (HLx.out _).mono ?_
        rintro e c1 ⟨rfl, hb⟩
        rw [HC0e.out] at hb
        have HK1 := hide (HK0.out.go hb)
        have HC1 := hide (HC0.out.trans (hb.mono HC0.out.size))
        clear hb k0 k1 k2 k5 k6 x0 x1 x2 x3 x4 x5 x6 t5
        dsimp only
        have k3 := HK1.out.cell 3
        have k4 := HK1.out.cell 4
        cases xa with
        | nil =>
          have ha : bstr (Wr.author []) = bstr [] := rfl
          have empa : (bstr ([] : List UInt8)).toList.isEmpty = true := Wr.emp _
          cases xc with
          | nil =>
            have hc : bstr (Wr.content []) = bstr [] := rfl
            go_wp2
            go_roundg (n - (i + 1))
            case measure => have := Hgk.out; omega
            case rel =>
              refine ⟨i + 1, by first | rfl | go_num, rfl, by omega, ?_, Hb.out.trans (HC1.out.mono Hb.out.size)⟩
              rw [Hnx.out, ha, hc]
              simp [ByteArray.append_assoc, bstr_nil]
              rfl
          | cons c0 xc =>
            have hc := HCo.out c0 xc rfl
            have empc : (bstr (c0 :: xc)).toList.isEmpty = false := Wr.emp _
            go_wp2_with fail
            go_wp2_with fail
            refine cq (HLc.out _) ?_
            dsimp only
            go_wp2
            go_roundg (n - (i + 1))
            case measure => have := Hgk.out; omega
            case rel =>
              refine ⟨i + 1, by first | rfl | go_num, rfl, by omega, ?_, Hb.out.trans (HC1.out.mono Hb.out.size)⟩
              rw [Hnx.out, ha, hc]
              simp [ByteArray.append_assoc, bstr_nil]
              rfl
        | cons a0 xa =>
          have ha := HAu.out a0 xa rfl
          have empa : (bstr (a0 :: xa)).toList.isEmpty = false := Wr.emp _
          cases xc with
          | nil =>
            have hc : bstr (Wr.content []) = bstr [] := rfl
            have empc : (bstr ([] : List UInt8)).toList.isEmpty = true := Wr.emp _
            go_wp2_with fail
            go_wp2_with fail
            refine cq (HEa.out _) ?_
            dsimp only
            go_wp2
            go_roundg (n - (i + 1))
            case measure => have := Hgk.out; omega
            case rel =>
              refine ⟨i + 1, by first | rfl | go_num, rfl, by omega, ?_, Hb.out.trans (HC1.out.mono Hb.out.size)⟩
              rw [Hnx.out, ha, hc]
              simp [ByteArray.append_assoc, bstr_nil]
              rfl
          | cons c0 xc =>
            have hc := HCo.out c0 xc rfl
            have empc : (bstr (c0 :: xc)).toList.isEmpty = false := Wr.emp _
            go_wp2_with fail
            go_wp2_with fail
            refine cq (HEa.out _) ?_
            dsimp only
            go_wp2_with fail
            go_wp2_with fail
            refine cq (HLc.out _) ?_
            dsimp only
            go_wp2
            go_roundg (n - (i + 1))
            case measure => have := Hgk.out; omega
            case rel =>
              refine ⟨i + 1, by first | rfl | go_num, rfl, by omega, ?_, Hb.out.trans (HC1.out.mono Hb.out.size)⟩
              rw [Hnx.out, ha, hc]
              simp [ByteArray.append_assoc, bstr_nil]
              rfl
      · have hi' : i = n := by omega
        subst hi'
        have hdd : bstr DD = bstr (acc i) ++ bstr (Wr.line [Wr.feedEnd]) := by rw [HD.out, bstr_app]
        obtain ⟨m, hmm⟩ : ∃ n, (acc i).length = n := ⟨_, rfl⟩
        rw [hmm] at so hal
        have bm : m ≤ 20000000 := by omega
        have HDD := hide hdd
        clear hmm hal hdd
        obtain ⟨OB, hOB⟩ : ∃ S, bstr (acc i) = S := ⟨_, rfl⟩
        rw [hOB] at so HDD
        rw [hOB]
        clear hOB
        go_wp2
        go_ret2
        exact ⟨by rw [HDD.out]; rfl, HBr.out⟩
set_option maxHeartbeats 4000000 in
set_option maxRecDepth 100000 in
theorem refSize26_any (f : Fd) (A : Option Addr) (n c B : Nat) (w : World) (hR : Reads w B 7 A n (entVs f.es)) (hn : f.es.length = n) (hB : B ≤ w.heap.size) (hm : n ≤ maxLen) (hok : f.Ok) :
    Calls Tryz.prog 11 #[.agg (f.cells A n c)] w fun e w' => e = .returned (.int .i64 (Wr.size f : Nat)) ∧ Below w.heap.size w w' := by
  have HO := hide (below_alloc w (.cells (f.cells A n c) 26))
  have HT := hide (Blk.new w 26 (f.cells A n c))
  have HA := hide (refAtom26_any f A n c B (w.alloc (.cells (f.cells A n c) 26)) (hR.keep fun p hp => World.cell?_of_block ((below_alloc w _).block _ (by omega))) hn (by simp; omega) hm hok)
  have HL := hide (fun h => doc_len f h hok)
  have HS := hide (show Wr.size f = if Wr.may f then (Wr.doc f).length else 0 from rfl)
  unfold Wr.atomV at HA
  clear hR hn hok
  obtain ⟨D, hD⟩ : ∃ D, Wr.doc f = D := ⟨_, rfl⟩
  obtain ⟨z, hz⟩ : ∃ z, Wr.size f = z := ⟨_, rfl⟩
  obtain ⟨mv, hmv⟩ : ∃ mv, Wr.may f = mv := ⟨_, rfl⟩
  rw [hD] at HA HS HL
  rw [hz] at HS ⊢
  rw [hmv] at HA HS HL
  clear hD hz hmv
  obtain ⟨id, ti, lk, k, s, es⟩ := f
  unfold Fd.cells at HA HO HT ⊢
  dsimp only at HA HO HT ⊢
  have t0 := HT.out.cell 0
  have t1 := HT.out.cell 1
  have t2 := HT.out.cell 2
  have t3 := HT.out.cell 3
  have t4 := HT.out.cell 4
  have t5 := HT.out.cell 5
  cases mv with
  | true =>
    rw [if_pos rfl] at HA HS
    have hsz := bstr_size D
    have HSz := hide hsz
    clear hsz
    go_enter Tryz.func11, Tryz.ntmps11
    go_wp2_with fail
    refine HA.out.mono ?_
    rintro e w1 ⟨rfl, hb1⟩
    have HB1 := hide (HO.out.trans (hb1.mono (by simp)))
    clear hb1
    dsimp only
    go_wp2
    go_ret
    rw [HS.out, HSz.out]
    exact ⟨rfl, HB1.out⟩
  | false =>
    rw [if_neg (by decide)] at HA HS
    go_enter Tryz.func11, Tryz.ntmps11
    go_wp2_with fail
    refine HA.out.mono ?_
    rintro e w1 ⟨rfl, hb1⟩
    have HB1 := hide (HO.out.trans (hb1.mono (by simp)))
    clear hb1
    dsimp only
    go_wp2
    go_ret
    rw [HS.out]
    exact ⟨rfl, HB1.out⟩
end Go.Proofs.YtlcfakmbcfdgbaaGreat
namespace Go.Proofs.YtlcfakmbcfdgbaaGreat
open Go.RowKit Go.WideShapes

set_option maxHeartbeats 4000000 in
set_option maxRecDepth 100000 in
theorem wSameEntry_any (x y : Ent) (w : World) : Calls Tryz.prog 14 #[.agg x.cells, .agg y.cells] w fun e w' => e = .returned (.bool (eqE x y)) ∧ Below w.heap.size w w' := by
  have hE := fun W => eql_ent W x y
  have HO := hide ((below_alloc w (.cells x.cells 36)).trans ((below_alloc _ (.cells y.cells 36)).mono (by simp)))
  obtain ⟨v, hv⟩ : ∃ v, eqE x y = v := ⟨_, rfl⟩
  rw [hv]
  simp only [hv] at hE
  clear hv
  unfold Ent.cells at HO ⊢
  go_enter Tryz.func14, Tryz.ntmps14
  go_wp2
  go_ret
  exact ⟨rfl, HO.out⟩
set_option maxHeartbeats 8000000 in
set_option maxRecDepth 100000 in
theorem wSame_any (f g : Fd) (A A' : Option Addr) (n c n' c' B : Nat) (w : World) (hR : Reads w B 7 A n (entVs f.es)) (hn : f.es.length = n) (hR' : Reads w B 7 A' n' (entVs g.es)) (hn' : g.es.length = n') (hB : B ≤ w.heap.size) (hm : n ≤ 1000000) :
    Calls Tryz.prog 12 #[.agg (f.cells A n c), .agg (g.cells A' n' c')] w fun e w' => e = .returned (.bool (sameP f g)) ∧ Below w.heap.size w w' := by
  have HO := hide ((below_alloc w (.cells (f.cells A n c) 26)).trans ((below_alloc _ (.cells (g.cells A' n' c') 26)).mono (by simp)))
  have HT := hide ((Blk.new w 26 (f.cells A n c)).alloc (.cells (g.cells A' n' c') 26))
  have hU := Blk.new (w.alloc (.cells (f.cells A n c) 26)) 26 (g.cells A' n' c')
  rw [World.size_alloc] at hU
  have HU := hide hU
  clear hU
  have HRd := hide hR
  have HRd' := hide hR'
  have Hn := hide hn
  have Hn' := hide hn'
  clear hR hR' hn hn'
  obtain ⟨v, hv⟩ : ∃ v, sameP f g = v := ⟨_, rfl⟩
  have HV := hide hv
  rw [hv]
  clear hv
  obtain ⟨id, ti, lk, k, s, es⟩ := f
  obtain ⟨id', ti', lk', k', s', es'⟩ := g
  unfold Fd.cells at HO HT HU ⊢
  dsimp only at HO HT HU HRd HRd' Hn Hn' ⊢
  have t0 := HT.out.cell 0
  have t1 := HT.out.cell 1
  have t2 := HT.out.cell 2
  have t3 := HT.out.cell 3
  have t4 := HT.out.cell 4
  have t5 := HT.out.cell 5
  have u0 := HU.out.cell 0
  have u1 := HU.out.cell 1
  have u2 := HU.out.cell 2
  have u3 := HU.out.cell 3
  have u4 := HU.out.cell 4
  have u5 := HU.out.cell 5
  by_cases h6 : n = n'
  rotate_left
  · have hvf : v = false := HV.out.symm.trans (sameP_no (fun e => h6 (by injection e with _ _ _ _ _ e; rw [← Hn.out, ← Hn'.out, e])))
    subst hvf
    have hne : ((n : Int) == (n' : Int)) = false := by simp; omega
    go_enter Tryz.func12, Tryz.ntmps12
    go_wp2
    go_ret
    exact ⟨rfl, HO.out⟩
  subst h6
  by_cases h1 : id = id'
  rotate_left
  · have hb := bstr_beq h1
    have hvf : v = false := HV.out.symm.trans (sameP_no (fun e => h1 (by injection e)))
    subst hvf
    clear h1
    go_enter Tryz.func12, Tryz.ntmps12
    go_wp2
    go_ret
    exact ⟨rfl, HO.out⟩
  subst h1
  by_cases h2 : ti = ti'
  rotate_left
  · have hb := bstr_beq h2
    have hvf : v = false := HV.out.symm.trans (sameP_no (fun e => h2 (by injection e)))
    subst hvf
    clear h2
    go_enter Tryz.func12, Tryz.ntmps12
    go_wp2
    go_ret
    exact ⟨rfl, HO.out⟩
  subst h2
  by_cases h3 : lk = lk'
  rotate_left
  · have hb := bstr_beq h3
    have hvf : v = false := HV.out.symm.trans (sameP_no (fun e => h3 (by injection e)))
    subst hvf
    clear h3
    go_enter Tryz.func12, Tryz.ntmps12
    go_wp2
    go_ret
    exact ⟨rfl, HO.out⟩
  subst h3
  by_cases h4 : k = k'
  rotate_left
  · have hvf : v = false := HV.out.symm.trans (sameP_no (fun e => h4 (by injection e)))
    subst hvf
    go_enter Tryz.func12, Tryz.ntmps12
    go_wp2
    go_ret
    exact ⟨rfl, HO.out⟩
  subst h4
  by_cases h5 : s = s'
  rotate_left
  · have hvf : v = false := HV.out.symm.trans (sameP_no (fun e => h5 (by injection e)))
    subst hvf
    go_enter Tryz.func12, Tryz.ntmps12
    go_wp2
    go_ret
    exact ⟨rfl, HO.out⟩
  subst h5
  have hz2 : ((w.alloc (.cells #[.string (bstr id), .string (bstr ti), .string (bstr lk), .bool k, .int .i64 s, .slice A n c] 26)).alloc (.cells #[.string (bstr id), .string (bstr ti), .string (bstr lk), .bool k, .int .i64 s, .slice A' n c'] 26)).heap.size = w.heap.size + 2 := by simp
  have HZ2 := hide hz2
  clear hz2
  go_enter Tryz.func12, Tryz.ntmps12
  go_wp2
  clear t0 t1 t2 t3 t4 t5 u0 u1 u2 u3 u4 u5
  generalize (w.alloc (.cells #[.string (bstr id), .string (bstr ti), .string (bstr lk), .bool k, .int .i64 s, .slice A n c] 26)).alloc (.cells #[.string (bstr id), .string (bstr ti), .string (bstr lk), .bool k, .int .i64 s, .slice A' n c'] 26) = W2 at HT HU HO HZ2 ⊢
  go_loopg [5, 6, 45] n (fun gk v5 v6 vi wr => ∃ i : Nat, gk = n - i ∧ i ≤ n ∧ vi = .int .i64 (i : Int) ∧ es.take i = es'.take i ∧ Below W2.heap.size W2 wr)
  case atStart => exact ⟨0, rfl, Nat.zero_le _, rfl, by simp, Below.refl _ _⟩
  case round =>
    obtain ⟨i, hg, hi, rfl, hq, kb⟩ := hrel
    have Hg := hide hg
    have Kb := hide kb
    have Hq := hide hq
    have t5 := (HT.out.go kb).cell 5
    have u5 := (HU.out.go kb).cell 5
    clear hg kb hq
    have hzr : W2.heap.size ≤ wr.heap.size := Kb.out.size
    have hkeep : ∀ p : Addr, p.block < B → wr.cell? p = w.cell? p := fun p hp => World.cell?_of_block ((Kb.out.block _ (by have := HZ2.out; omega)).trans (HO.out.block _ (by omega)))
    by_cases hlt : i < n
    · have h1 : i < es.length := by rw [Hn.out]; exact hlt
      have h2 : i < es'.length := by rw [Hn'.out]; exact hlt
      have hRw : Reads wr B 7 A es.length (entVs es) := by rw [Hn.out]; exact HRd.out.keep fun p hp => hkeep p hp
      have hRw' : Reads wr B 7 A' es'.length (entVs es') := by rw [Hn'.out]; exact HRd'.out.keep fun p hp => hkeep p hp
      obtain ⟨b, off, rfl, hbB, hx⟩ := hRw.ent h1
      obtain ⟨b', off', rfl, hbB', hy⟩ := hRw'.ent h2
      obtain ⟨x, ex⟩ : ∃ x, es[i] = x := ⟨_, rfl⟩
      obtain ⟨y, ey⟩ : ∃ x, es'[i] = x := ⟨_, rfl⟩
      rw [ex] at hx
      rw [ey] at hy
      have HS := hide (fun W => wSameEntry_any x y W)
      have HTk := hide (fun he : x = y => eq_takeW h1 h2 Hq.out (by rw [ex, ey, he]))
      have HNe := hide (fun he : x ≠ y => (fun h => ne_atW h1 h2 (by rw [ex, ey]; exact he) h : es ≠ es'))
      clear ex ey hRw hRw' hkeep
      obtain ⟨xi, xt, xl, xa, xc, xk, xs⟩ := x
      obtain ⟨yi, yt, yl, ya, yc, yk, ys⟩ := y
      unfold Ent.cells at HS
      dsimp only at HS
      have x0 := hx.c0
      have x1 := hx.c1
      have x2 := hx.c2
      have x3 := hx.c3
      have x4 := hx.c4
      have x5 := hx.c5
      have x6 := hx.c6
      have y0 := hy.c0
      have y1 := hy.c1
      have y2 := hy.c2
      have y3 := hy.c3
      have y4 := hy.c4
      have y5 := hy.c5
      have y6 := hy.c6
      dsimp only at x0 x1 x2 x3 x4 x5 x6 y0 y1 y2 y3 y4 y5 y6
      have i0 : (0 : Int) ≤ i := by omega
      have i1 : (i : Int) < n := by omega
      have hbl : b < wr.heap.size := by have := HO.out.size; have := HZ2.out; omega
      have hbl' : b' < wr.heap.size := by have := HO.out.size; have := HZ2.out; omega
      have hK0 := Blk.new wr 36 #[.string (bstr xi), .string (bstr xt), .string (bstr xl), .string (bstr xa), .string (bstr xc), .bool xk, .int .i64 xs]
      have hC0 := below_alloc wr (.cells #[.string (bstr xi), .string (bstr xt), .string (bstr xl), .string (bstr xa), .string (bstr xc), .bool xk, .int .i64 xs] 36)
      have c5 := ((HU.out.go Kb.out).go hC0).cell 5
      have c0 := (hC0.cell (p := ⟨b', off' + i * 7, none⟩) hbl').trans y0
      have c1 := (hC0.cell (p := ⟨b', off' + i * 7 + 1, none⟩) hbl').trans y1
      have c2 := (hC0.cell (p := ⟨b', off' + i * 7 + 2, none⟩) hbl').trans y2
      have c3 := (hC0.cell (p := ⟨b', off' + i * 7 + 3, none⟩) hbl').trans y3
      have c4 := (hC0.cell (p := ⟨b', off' + i * 7 + 4, none⟩) hbl').trans y4
      have c5' := (hC0.cell (p := ⟨b', off' + i * 7 + 5, none⟩) hbl').trans y5
      have c6 := (hC0.cell (p := ⟨b', off' + i * 7 + 6, none⟩) hbl').trans y6
      have d0 := hK0.cell 0
      have d1 := hK0.cell 1
      have d2 := hK0.cell 2
      have d3 := hK0.cell 3
      have d4 := hK0.cell 4
      have d5 := hK0.cell 5
      have d6 := hK0.cell 6
      have Hw0 := hide ((Kb.out.trans (hC0.mono Kb.out.size)).drew)
      clear hx hy hK0 hC0 y0 y1 y2 y3 y4 y5 y6
      obtain ⟨ev, hev⟩ : ∃ ev, eqE ⟨xi, xt, xl, xa, xc, xk, xs⟩ ⟨yi, yt, yl, ya, yc, yk, ys⟩ = ev := ⟨_, rfl⟩
      rw [hev] at HS
      have HEv := hide hev
      clear hev
      cases ev with
      | true =>
        have He := hide (HTk.out ((eqE_iff _ _).1 HEv.out))
        clear HTk HNe HEv
        go_wp2
        clear x0 x1 x2 x3 x4 x5 x6 t5 u5
        generalize wr.alloc (.cells #[.string (bstr xi), .string (bstr xt), .string (bstr xl), .string (bstr xa), .string (bstr xc), .bool xk, .int .i64 xs] 36) = C0 at c0 c1 c2 c3 c4 c5 c5' c6 d0 d1 d2 d3 d4 d5 d6 Hw0 ⊢
        go_region_with ((go_at_call 14; refine (HS.out _).mono ?_; rintro e w1 ⟨rfl, hb1⟩; have Kb1 := hide (Hw0.out.trans (hb1.mono Hw0.out.size)); clear hb1))
        all_goals go_wp2
        all_goals
          go_roundg (n - (i + 1))
          case measure => have := Hg.out; omega
          case rel => exact ⟨i + 1, rfl, by omega, by go_num, He.out, Kb1.out⟩
      | false =>
        have hne : (⟨id, ti, lk, k, s, es⟩ : Fd) ≠ ⟨id, ti, lk, k, s, es'⟩ := fun h => HNe.out (fun he => by have := (eqE_iff _ _).2 he; rw [HEv.out] at this; cases this) (by injection h)
        have hvf : v = false := HV.out.symm.trans (sameP_no hne)
        subst hvf
        clear HTk HNe HEv hne
        go_wp2
        clear x0 x1 x2 x3 x4 x5 x6 t5 u5
        generalize wr.alloc (.cells #[.string (bstr xi), .string (bstr xt), .string (bstr xl), .string (bstr xa), .string (bstr xc), .bool xk, .int .i64 xs] 36) = C0 at c0 c1 c2 c3 c4 c5 c5' c6 d0 d1 d2 d3 d4 d5 d6 Hw0 ⊢
        go_region_with ((go_at_call 14; refine (HS.out _).mono ?_; rintro e w1 ⟨rfl, hb1⟩; have Kb1 := hide (Hw0.out.trans (hb1.mono Hw0.out.size)); clear hb1))
        all_goals go_wp2
        all_goals
          go_ret
          exact ⟨rfl, HO.out.trans (Kb1.out.mono HO.out.size)⟩
    · have heq : es = es' := by
        have h := Hq.out
        rwa [List.take_of_length_le (by rw [Hn.out]; omega), List.take_of_length_le (by rw [Hn'.out]; omega)] at h
      have hvt : v = true := HV.out.symm.trans (sameP_yes (by rw [heq]))
      subst hvt
      clear heq
      go_wp2
      go_ret
      exact ⟨rfl, HO.out.trans (Kb.out.mono HO.out.size)⟩
end Go.Proofs.YtlcfakmbcfdgbaaGreat
namespace Go.Proofs.YtlcfakmbcfdgbaaGreat
open Go.RowKit Go.WideShapes

/-- The feed that wakes asks about. -/
def wakeF : Fd := ⟨[97, 38, 98], [], [], false, 0, []⟩
def wakeD : List UInt8 := [60, 63, 120, 109, 108, 32, 118, 101, 114, 115, 105, 111, 110, 61, 34, 49, 46, 48, 34, 32, 101, 110, 99, 111, 100, 105, 110, 103, 61, 34, 117, 116, 102, 45, 56, 34, 63, 62, 10, 60, 102, 101, 101, 100, 32, 120, 109, 108, 110, 115, 61, 34, 104, 116, 116, 112, 58, 47, 47, 119, 119, 119, 46, 119, 51, 46, 111, 114, 103, 47, 50, 48, 48, 53, 47, 65, 116, 111, 109, 34, 62, 10, 60, 105, 100, 62, 97, 38, 97, 109, 112, 59, 98, 60, 47, 105, 100, 62, 10, 60, 116, 105, 116, 108, 101, 62, 60, 47, 116, 105, 116, 108, 101, 62, 10, 60, 47, 102, 101, 101, 100, 62, 10]
theorem wake_may : Wr.may wakeF = true := by decide +kernel
theorem wake_doc : Wr.doc wakeF = wakeD := by decide +kernel
theorem wake_ok : wakeF.Ok := ⟨by decide, by decide, by decide, by decide, by intro x hx; cases hx⟩
theorem wake_size : Wr.size wakeF = 123 := by unfold Wr.size; rw [wake_may, wake_doc]; rfl
set_option maxHeartbeats 4000000 in
set_option maxRecDepth 100000 in
theorem wakes26_any (w : World) : Calls Tryz.prog 5 #[] w fun e w' => e = .returned (.bool true) ∧ Below w.heap.size w w' := by
  have HA := hide (fun W => Atom_any wakeF none 0 0 0 W Reads.none_ rfl (Nat.zero_le _) (by decide) wake_ok)
  have HS := hide (fun W => Size_any wakeF none 0 0 0 W Reads.none_ rfl (Nat.zero_le _) (by decide) wake_ok)
  rw [wake_size] at HS
  unfold Wr.atomV at HA
  rw [wake_may, wake_doc, if_pos rfl] at HA
  unfold wakeF Fd.cells at HA HS
  dsimp only at HA HS
  have hsz : (bstr wakeD).size = 123 := by decide
  have hbl : ((bstr wakeD).toList == [60, 63, 120, 109, 108, 32, 118, 101, 114, 115, 105, 111, 110, 61, 34, 49, 46, 48, 34, 32, 101, 110, 99, 111, 100, 105, 110, 103, 61, 34, 117, 116, 102, 45, 56, 34, 63, 62, 10, 60, 102, 101, 101, 100, 32, 120, 109, 108, 110, 115, 61, 34, 104, 116, 116, 112, 58, 47, 47, 119, 119, 119, 46, 119, 51, 46, 111, 114, 103, 47, 50, 48, 48, 53, 47, 65, 116, 111, 109, 34, 62, 10, 60, 105, 100, 62, 97, 38, 97, 109, 112, 59, 98, 60, 47, 105, 100, 62, 10, 60, 116, 105, 116, 108, 101, 62, 60, 47, 116, 105, 116, 108, 101, 62, 10, 60, 47, 102, 101, 101, 100, 62, 10]) = true := by rw [ByteArray.toList_eq, bstr_list]; decide
  obtain ⟨D, hD⟩ : ∃ D, bstr wakeD = D := ⟨_, rfl⟩
  rw [hD] at HA hsz hbl
  have HD := hide hD
  clear hD
  go_enter Tryz.func5, Tryz.ntmps5
  go_wp2_with fail
  refine (HA.out _).mono ?_
  rintro e w1 ⟨rfl, hb1⟩
  have HB1 := hide hb1
  clear hb1
  dsimp only
  go_wp2_with fail
  refine (HS.out _).mono ?_
  rintro e w2 ⟨rfl, hb2⟩
  have HB2 := hide (HB1.out.trans (hb2.mono HB1.out.size))
  clear hb2
  go_wp2
  go_ret
  exact ⟨rfl, HB2.out⟩
/-- What a feed that is not too great is. -/
structure Fd.Wf (f : Fd) : Prop where
  s : (Lit.int .i64 f.s).wf = true
  es : ∀ x ∈ f.es, (Lit.int .i64 x.s).wf = true
theorem wEnts_mem : ∀ (es : List Ent) (x : Ent), x ∈ es → wEnt x ≤ wEnts es
  | y :: l, x, h => by
    unfold wEnts
    rw [List.map_cons, List.sum_cons]
    rcases List.mem_cons.1 h with rfl | h
    · omega
    · have := wEnts_mem l x h
      unfold wEnts at this
      omega
theorem m20_small {l : List UInt8} (h : m20 l ≤ 6000) : l.length ≤ 20000 := by unfold m20 at h; omega
theorem ok_of_small {f : Fd} (h : greatP f = false) (hw : f.Wf) : f.Ok ∧ f.es.length ≤ 40 := by
  unfold greatP at h
  rw [Bool.or_eq_false_iff, decide_eq_false_iff_not, decide_eq_false_iff_not] at h
  obtain ⟨h1, h2⟩ := h
  unfold wFd at h2
  refine ⟨⟨m20_small (by omega), m20_small (by omega), m20_small (by omega), hw.s, fun x hx => ?_⟩, by omega⟩
  have := wEnts_mem f.es x hx
  unfold wEnt at this
  exact ⟨m20_small (by omega), m20_small (by omega), m20_small (by omega), m20_small (by omega), m20_small (by omega), hw.es x hx⟩
end Go.Proofs.YtlcfakmbcfdgbaaGreat
