/- write.*: field, head. · write.*: entry. (Printed by genWrD.py.) · Rows of entries; how great a feed is. · How great a feed is (ref26.Great). -/
import Derived.Test.YtheaknghgpafpaaWv16
import Derived.Test.YtheaknghgpafpaaWv17
set_option linter.unusedSimpArgs false
set_option linter.unusedVariables false
namespace Go.Proofs.Ytheaknghgpafpaa
open Go.RowKit Go.WideShapes

namespace Wr
def line (ls : List (List UInt8)) : List UInt8 := ls.flatten ++ [10]
def field (nm t : List UInt8) : List UInt8 := line [[60], nm, [62], Tx.escape false t, [60, 47], nm, [62]]
def linkOpen : List UInt8 := [60, 108, 105, 110, 107, 32, 104, 114, 101, 102, 61, 34]
def link (t : List UInt8) : List UInt8 := if t = [] then [] else line [linkOpen, Tx.escape true t, [34, 47, 62]]
def date (k : Bool) (s : Int) : List UInt8 := match Cv.stamp s with
  | some x => if k = true then field [117, 112, 100, 97, 116, 101, 100] x else []
  | none => []
def head (id title lk : List UInt8) (k : Bool) (s : Int) : List UInt8 := field [105, 100] id ++ (field [116, 105, 116, 108, 101] title ++ (link lk ++ date k s))
def authorOpen : List UInt8 := [60, 97, 117, 116, 104, 111, 114, 62, 60, 110, 97, 109, 101, 62]
def authorEnd : List UInt8 := [60, 47, 110, 97, 109, 101, 62, 60, 47, 97, 117, 116, 104, 111, 114, 62]
def author (t : List UInt8) : List UInt8 := if t = [] then [] else line [authorOpen, Tx.escape false t, authorEnd]
def content (t : List UInt8) : List UInt8 := if t = [] then [] else field [99, 111, 110, 116, 101, 110, 116] t
theorem line_len (ls : List (List UInt8)) : (line ls).length = ls.flatten.length + 1 := by unfold line; rw [List.length_append]; rfl
theorem field_len (nm t : List UInt8) : (field nm t).length ≤ 2 * nm.length + 6 * t.length + 10 := by
  have := Tx.escape_len false t
  unfold field
  rw [line_len]
  simp only [List.flatten_cons, List.flatten_nil, List.length_append, List.length_cons, List.length_nil]
  omega
theorem link_len (t : List UInt8) : (link t).length ≤ 6 * t.length + 20 := by
  have := Tx.escape_len true t
  unfold link linkOpen
  split
  · exact Nat.zero_le _
  rw [line_len]
  simp only [List.flatten_cons, List.flatten_nil, List.length_append, List.length_cons, List.length_nil]
  omega
theorem stamp_len {s : Int} {x : List UInt8} (h : Cv.stamp s = some x) : x.length = 20 := by
  unfold Cv.stamp at h
  obtain ⟨y, _, rfl⟩ := Option.map_eq_some_iff.1 h
  simp only [Cv.digL_len]
  rfl
theorem date_len (k : Bool) (s : Int) : (date k s).length ≤ 200 := by
  unfold date
  split
  · rename_i x hx
    have := stamp_len hx
    split
    · have h := field_len [117, 112, 100, 97, 116, 101, 100] x
      simp only [List.length_cons, List.length_nil] at h
      omega
    · exact Nat.zero_le _
  · exact Nat.zero_le _
theorem head_len (id title lk : List UInt8) (k : Bool) (s : Int) : (head id title lk k s).length ≤ 6 * (id.length + title.length + lk.length) + 300 := by
  have h1 := field_len [105, 100] id
  have h2 := field_len [116, 105, 116, 108, 101] title
  have h3 := link_len lk
  have h4 := date_len k s
  unfold head
  simp only [List.length_append, List.length_cons, List.length_nil] at *
  omega
end Wr
theorem wg_size {W0 W : World} {B b : Nat} {r : Option Nat} {l : List UInt8} (h : Wg W0 B b r l W) : B ≤ W.heap.size := by
  obtain ⟨r', hf, _, _⟩ := h
  have := wf_lt hf
  have := hf.1
  omega
/-- All but block b and rows of bytes is as it was. -/
structure Kp (b : Nat) (w w' : World) : Prop where
  size : w.heap.size ≤ w'.heap.size
  block : ∀ k, k < w.heap.size → k ≠ b → ¬ IsT w k 5 → w'.heap[k]? = w.heap[k]?
theorem Kp.of_below {b : Nat} {w w' : World} (hb : Below w.heap.size w w') : Kp b w w' := ⟨hb.size, fun k hk _ _ => hb.block k hk⟩
theorem Kp.trans {b : Nat} {w w1 w2 : World} (h : Kp b w w1) (h2 : Kp b w1 w2) : Kp b w w2 := ⟨Nat.le_trans h.size h2.size, fun k hk h1 h3 => by
  have e := h.block k hk h1 h3
  refine (h2.block k (Nat.lt_of_lt_of_le hk h.size) h1 (fun ⟨cs, fr, hh⟩ => h3 ⟨cs, fr, by rw [← e]; exact hh⟩)).trans e⟩
theorem Kp.blk {b g t : Nat} {w w1 : World} {cs : Array Value} (h : Kp b w w1) (hg : Blk w g t cs) (hgb : g ≠ b) (ht : t ≠ 5) : Blk w1 g t cs :=
  (h.block g hg.lt hgb (fun ⟨cs', fr, hh⟩ => by
    unfold Blk at hg
    rw [hg] at hh
    injection hh with hh
    injection hh with _ e _
    exact ht e)).trans hg
theorem kp_of {B b : Nat} {l : List UInt8} {r : Option Nat} {w w' : World} (hf : Wf B b l r w) (hz : Fz b r w w') : Kp b w w' := by
  obtain ⟨hB, p, v, hp, hk, ho, rfl⟩ := hf
  refine ⟨hz.size, fun k hk h1 h3 => hz.block k hk h1 (fun e => ?_)⟩
  exact h3 (own_isT ho k e.symm).2
theorem put_g {W0 : World} {B b : Nat} {l : List UInt8} {r : Option Nat} (ls : List (List UInt8)) (g n c : Nat) (w : World) (h : Wg W0 B b r l w) (hg : Blk w g 9 (strVs ls)) (hn : ls.length = n) (hn2 : n ≤ 100) (hl : l.length + (Wr.line ls).length ≤ 140737488355328) :
    Calls Try.prog 12 #[.pointer (some ⟨b, 0, none⟩), .slice (some ⟨g, 0, none⟩) n c] w fun e w' => e = .returned (.tuple #[]) ∧ Wg W0 B b r (l ++ Wr.line ls) w' ∧ Kp b w w' := by
  have hs := wg_size h
  obtain ⟨r', hf, hr, hz⟩ := h
  rw [Wr.line_len] at hl
  refine (put_any ls g n c w hf hg hn hn2 (by omega) hs).mono ?_
  rintro e w' ⟨rfl, hg2⟩
  refine ⟨rfl, Wg.step hr hz hg2, ?_⟩
  obtain ⟨r2, _, _, hz2⟩ := hg2
  exact kp_of hf hz2
/-- put, of a row just built. -/
theorem put_n {W0 : World} {B b : Nat} {l : List UInt8} {r : Option Nat} (ls : List (List UInt8)) (n : Nat) (w : World) (h : Wg W0 B b r l w) (hn : ls.length = n) (hn2 : n ≤ 100) (hl : l.length + (Wr.line ls).length ≤ 140737488355328) :
    Calls Try.prog 12 #[.pointer (some ⟨b, 0, none⟩), .slice (some ⟨w.heap.size, 0, none⟩) n n] (w.alloc (.cells (strVs ls) 9)) fun e w' => e = .returned (.tuple #[]) ∧ Wg W0 B b r (l ++ Wr.line ls) w' ∧ Kp b w w' := by
  refine (put_g ls _ n n _ (h.go (below_alloc _ _)) (Blk.new w _ _) hn hn2 hl).mono ?_
  rintro e w' ⟨h1, h2, h3⟩
  exact ⟨h1, h2, (Kp.of_below (below_alloc _ _)).trans h3⟩
set_option maxHeartbeats 4000000 in
set_option maxRecDepth 100000 in
theorem field_g {W0 : World} {B b : Nat} {l : List UInt8} {r : Option Nat} (nm t : List UInt8) (w : World) (h : Wg W0 B b r l w) (hl : l.length ≤ 1000000000) (hnm : nm.length ≤ 100) (ht : t.length ≤ 20000) :
    Calls Try.prog 23 #[.pointer (some ⟨b, 0, none⟩), .string (bstr nm), .string (bstr t)] w fun e w' => e = .returned (.tuple #[]) ∧ Wg W0 B b r (l ++ Wr.field nm t) w' ∧ Kp b w w' := by
  have HH := hide h
  have HE := hide (escape_any false t w (by omega))
  have hlen := Wr.field_len nm t
  have HP := hide (fun W (hW : Wg W0 B b r l W) => put_n [[60], nm, [62], Tx.escape false t, [60, 47], nm, [62]] 7 W hW rfl (by omega) (by unfold Wr.field at hlen; omega))
  clear h
  go_enter Try.func23, Try.ntmps23
  go_wp2_with fail
  refine HE.out.mono ?_
  rintro e w1 ⟨rfl, hb1⟩
  have HP1 := hide (HP.out w1 (HH.out.go hb1))
  have HB1 := hide hb1
  clear hb1
  dsimp only
  go_wp2_with fail
  refine HP1.out.mono ?_
  rintro e w2 ⟨rfl, hg2, hk2⟩
  have HG2 := hide hg2
  have HK2 := hide ((Kp.of_below HB1.out).trans hk2)
  clear hg2 hk2
  dsimp only
  go_wp2
  go_end0
  exact ⟨rfl, HG2.out, HK2.out⟩
set_option maxHeartbeats 8000000 in
set_option maxRecDepth 100000 in
theorem head_g {W0 : World} {B b : Nat} {l : List UInt8} {r : Option Nat} (id title lk : List UInt8) (k : Bool) (s : Int) (w : World) (h : Wg W0 B b r l w) (hl : l.length ≤ 900000000) (h1 : id.length ≤ 20000) (h2 : title.length ≤ 20000) (h3 : lk.length ≤ 20000) (hs : (Lit.int .i64 s).wf = true) :
    Calls Try.prog 13 #[.pointer (some ⟨b, 0, none⟩), .string (bstr id), .string (bstr title), .string (bstr lk), .agg #[.bool k, .int .i64 s]] w fun e w' => e = .returned (.tuple #[]) ∧ Wg W0 B b r (l ++ Wr.head id title lk k s) w' ∧ Kp b w w' := by
  have l1 := Wr.field_len [105, 100] id
  have l2 := Wr.field_len [116, 105, 116, 108, 101] title
  have l3 := Wr.link_len lk
  simp only [List.length_cons, List.length_nil] at l1 l2
  have HF1 := hide (fun W (hW : Wg W0 B b r l W) => field_g [105, 100] id W hW (by omega) (by decide) h1)
  have HF2 := hide (fun W (hW : Wg W0 B b r (l ++ Wr.field [105, 100] id) W) => field_g [116, 105, 116, 108, 101] title W hW (by rw [List.length_append]; omega) (by decide) h2)
  have HS := hide (fun W => stamp_any s W hs)
  have HES := hide (fun W => escape_any true lk W (by omega))
  have HL := hide (fun (hne : lk ≠ []) W (hW : Wg W0 B b r (l ++ Wr.field [105, 100] id ++ Wr.field [116, 105, 116, 108, 101] title) W) => put_n [Wr.linkOpen, Tx.escape true lk, [34, 47, 62]] 3 W hW rfl (by omega) (by unfold Wr.link at l3; rw [if_neg hne] at l3; simp only [List.length_append]; omega))
  have HLe := hide (fun (hne : lk ≠ []) => show Wr.link lk = Wr.line [Wr.linkOpen, Tx.escape true lk, [34, 47, 62]] by unfold Wr.link; rw [if_neg hne])
  have HLn := hide (fun (hne : lk = []) => show Wr.link lk = [] by unfold Wr.link; rw [if_pos hne])
  have HD := hide (fun x (hx : x.length = 20) W (hW : Wg W0 B b r (l ++ Wr.field [105, 100] id ++ Wr.field [116, 105, 116, 108, 101] title ++ Wr.link lk) W) => field_g [117, 112, 100, 97, 116, 101, 100] x W hW (by simp only [List.length_append]; omega) (by simp only [List.length_cons, List.length_nil]; omega) (by omega))
  have HW := hide (h.go (below_alloc w (.cells #[.bool k, .int .i64 s] 23)))
  have HT := hide (Blk.new w 23 #[.bool k, .int .i64 s])
  have HTb := hide (show w.heap.size ≠ b by
    obtain ⟨r', hf, _, _⟩ := h
    have := wf_lt hf
    omega)
  have HK0 := hide (Kp.of_below (b := b) (below_alloc w (.cells #[.bool k, .int .i64 s] 23)))
  clear h l1 l2 l3
  -- the end, from the stamp on
  have HEnd : ∀ (W : World), Wg W0 B b r (l ++ Wr.field [105, 100] id ++ Wr.field [116, 105, 116, 108, 101] title ++ Wr.link lk) W → True := fun _ _ => trivial
  clear HEnd
  go_enter Try.func13, Try.ntmps13
  go_wp2_with fail
  refine (HF1.out _ HW.out).mono ?_
  rintro e w1 ⟨rfl, hg1, hk1⟩
  have HG1 := hide hg1
  have HK1 := hide (HK0.out.trans hk1)
  have HT1 := hide (hk1.blk HT.out HTb.out (by decide))
  clear hg1 hk1
  dsimp only
  go_wp2_with fail
  refine (HF2.out _ HG1.out).mono ?_
  rintro e w2 ⟨rfl, hg2, hk2⟩
  have HG2 := hide hg2
  have HK2 := hide (HK1.out.trans hk2)
  have HT2 := hide (hk2.blk HT1.out HTb.out (by decide))
  clear hg2 hk2
  dsimp only
  cases lk with
  | nil =>
    have hemp : (bstr ([] : List UInt8)).toList.isEmpty = true := by rw [ByteArray.toList_eq]; rfl
    have HG3 := hide (show Wg W0 B b r (l ++ Wr.field [105, 100] id ++ Wr.field [116, 105, 116, 108, 101] title ++ Wr.link []) w2 by
      rw [HLn.out rfl, List.append_nil]; exact HG2.out)
    have d1 := HT2.out.cell 1
    have HSx := hide (HS.out w2)
    go_wp2_with fail
    refine HSx.out.mono ?_
    rintro e w4 ⟨rfl, hb4⟩
    have HG4 := hide (HG3.out.go hb4)
    have HK4 := hide (HK2.out.trans (Kp.of_below hb4))
    have HT4 := hide (HT2.out.go hb4)
    have e0 := HT4.out.cell 0
    clear hb4 d1
    cases hst : Cv.stamp s with
    | none =>
      have HF := hide (show Wr.date k s = [] by unfold Wr.date; rw [hst])
      unfold stampV
      clear hst
      dsimp only
      go_wp2
      go_end0
      refine ⟨rfl, ?_, HK4.out⟩
      unfold Wr.head
      rw [HF.out, List.append_nil]
      have h := HG4.out
      rwa [List.append_assoc, List.append_assoc] at h
    | some x =>
      have HX := hide (HD.out x (Wr.stamp_len hst))
      unfold stampV
      cases k with
      | false =>
        have HF := hide (show Wr.date false s = [] by unfold Wr.date; rw [hst]; rfl)
        clear hst
        dsimp only
        go_wp2
        go_end0
        refine ⟨rfl, ?_, HK4.out⟩
        unfold Wr.head
        rw [HF.out, List.append_nil]
        have h := HG4.out
        rwa [List.append_assoc, List.append_assoc] at h
      | true =>
        have HF := hide (show Wr.date true s = Wr.field [117, 112, 100, 97, 116, 101, 100] x by unfold Wr.date; rw [hst]; rfl)
        clear hst
        dsimp only
        go_wp2_with fail
        refine (HX.out _ HG4.out).mono ?_
        rintro e w5 ⟨rfl, hg5, hk5⟩
        have HG5 := hide hg5
        have HK5 := hide (HK4.out.trans hk5)
        clear hg5 hk5
        dsimp only
        go_wp2
        go_end0
        refine ⟨rfl, ?_, HK5.out⟩
        unfold Wr.head
        rw [HF.out]
        have h := HG5.out
        rwa [List.append_assoc, List.append_assoc, List.append_assoc] at h
  | cons a lk =>
    have hemp : (bstr (a :: lk)).toList.isEmpty = false := by rw [ByteArray.toList_eq]; simp [bstr]
    have HES2 := hide (HES.out w2)
    go_wp2_with fail
    refine HES2.out.mono ?_
    rintro e w3 ⟨rfl, hb3⟩
    have HL3 := hide (HL.out (by simp) w3 (HG2.out.go hb3))
    rw [← HLe.out (by simp)] at HL3
    have HK3 := hide (HK2.out.trans (Kp.of_below hb3))
    have HT3 := hide (HT2.out.go hb3)
    clear hb3
    dsimp only
    go_wp2_with fail
    refine HL3.out.mono ?_
    rintro e w3b ⟨rfl, hg3, hk3⟩
    have HG3 := hide hg3
    have HK3b := hide (HK3.out.trans hk3)
    have HT3b := hide (hk3.blk HT3.out HTb.out (by decide))
    clear hg3 hk3
    dsimp only
    have d1 := HT3b.out.cell 1
    have HSx := hide (HS.out w3b)
    go_wp2_with fail
    refine HSx.out.mono ?_
    rintro e w4 ⟨rfl, hb4⟩
    have HG4 := hide (HG3.out.go hb4)
    have HK4 := hide (HK3b.out.trans (Kp.of_below hb4))
    have HT4 := hide (HT3b.out.go hb4)
    have e0 := HT4.out.cell 0
    clear hb4 d1
    cases hst : Cv.stamp s with
    | none =>
      have HF := hide (show Wr.date k s = [] by unfold Wr.date; rw [hst])
      unfold stampV
      clear hst
      dsimp only
      go_wp2
      go_end0
      refine ⟨rfl, ?_, HK4.out⟩
      unfold Wr.head
      rw [HF.out, List.append_nil]
      have h := HG4.out
      rwa [List.append_assoc, List.append_assoc] at h
    | some x =>
      have HX := hide (HD.out x (Wr.stamp_len hst))
      unfold stampV
      cases k with
      | false =>
        have HF := hide (show Wr.date false s = [] by unfold Wr.date; rw [hst]; rfl)
        clear hst
        dsimp only
        go_wp2
        go_end0
        refine ⟨rfl, ?_, HK4.out⟩
        unfold Wr.head
        rw [HF.out, List.append_nil]
        have h := HG4.out
        rwa [List.append_assoc, List.append_assoc] at h
      | true =>
        have HF := hide (show Wr.date true s = Wr.field [117, 112, 100, 97, 116, 101, 100] x by unfold Wr.date; rw [hst]; rfl)
        clear hst
        dsimp only
        go_wp2_with fail
        refine (HX.out _ HG4.out).mono ?_
        rintro e w5 ⟨rfl, hg5, hk5⟩
        have HG5 := hide hg5
        have HK5 := hide (HK4.out.trans hk5)
        clear hg5 hk5
        dsimp only
        go_wp2
        go_end0
        refine ⟨rfl, ?_, HK5.out⟩
        unfold Wr.head
        rw [HF.out]
        have h := HG5.out
        rwa [List.append_assoc, List.append_assoc, List.append_assoc] at h
end Go.Proofs.Ytheaknghgpafpaa
namespace Go.Proofs.Ytheaknghgpafpaa
open Go.RowKit Go.WideShapes

/-- An entry. -/
structure Ent where
  id : List UInt8
  title : List UInt8
  link : List UInt8
  author : List UInt8
  content : List UInt8
  k : Bool
  s : Int
def Ent.cells (x : Ent) : Array Value := #[.string (bstr x.id), .string (bstr x.title), .string (bstr x.link), .string (bstr x.author), .string (bstr x.content), .bool x.k, .int .i64 x.s]
/-- No text is too long. -/
structure Ent.Ok (x : Ent) : Prop where
  id : x.id.length ≤ 20000
  title : x.title.length ≤ 20000
  link : x.link.length ≤ 20000
  author : x.author.length ≤ 20000
  content : x.content.length ≤ 20000
  s : (Lit.int .i64 x.s).wf = true
namespace Wr
def entryOpen : List UInt8 := [60, 101, 110, 116, 114, 121, 62]
def entryEnd : List UInt8 := [60, 47, 101, 110, 116, 114, 121, 62]
def entry (x : Ent) : List UInt8 := line [entryOpen] ++ (head x.id x.title x.link x.k x.s ++ (author x.author ++ (content x.content ++ line [entryEnd])))
theorem author_len (t : List UInt8) : (author t).length ≤ 6 * t.length + 40 := by
  have := Tx.escape_len false t
  unfold author authorOpen authorEnd
  split
  · exact Nat.zero_le _
  rw [line_len]
  simp only [List.flatten_cons, List.flatten_nil, List.length_append, List.length_cons, List.length_nil]
  omega
theorem content_len (t : List UInt8) : (content t).length ≤ 6 * t.length + 40 := by
  unfold content
  split
  · exact Nat.zero_le _
  · have h := field_len [99, 111, 110, 116, 101, 110, 116] t
    simp only [List.length_cons, List.length_nil] at h
    omega
theorem entry_len (x : Ent) (h : x.Ok) : (entry x).length ≤ 1000000 := by
  obtain ⟨h1, h2, h3, h4, h5, _⟩ := h
  have a := head_len x.id x.title x.link x.k x.s
  have b := author_len x.author
  have c := content_len x.content
  unfold entry entryOpen entryEnd line
  simp only [List.flatten_cons, List.flatten_nil, List.length_append, List.length_cons, List.length_nil]
  omega
theorem emp (t : List UInt8) : (bstr t).toList.isEmpty = t.isEmpty := by rw [ByteArray.toList_eq]; rfl
end Wr
set_option maxHeartbeats 8000000 in
set_option maxRecDepth 100000 in
theorem entry_g {W0 : World} {B b : Nat} {l : List UInt8} {r : Option Nat} (x : Ent) (w : World) (h : Wg W0 B b r l w) (hl : l.length ≤ 800000000) (hx : x.Ok) :
    Calls Try.prog 15 #[.pointer (some ⟨b, 0, none⟩), .agg x.cells] w fun e w' => e = .returned (.tuple #[]) ∧ Wg W0 B b r (l ++ Wr.entry x) w' ∧ Kp b w w' := by
  obtain ⟨id, ti, lk, au, co, k, s⟩ := x
  obtain ⟨h1, h2, h3, h4, h5, hs⟩ := hx
  dsimp only at h1 h2 h3 h4 h5 hs
  obtain ⟨L1, hL1⟩ : ∃ L, Wr.line [Wr.entryOpen] = L := ⟨_, rfl⟩
  obtain ⟨L2, hL2⟩ : ∃ L, Wr.head id ti lk k s = L := ⟨_, rfl⟩
  obtain ⟨L3, hL3⟩ : ∃ L, Wr.author au = L := ⟨_, rfl⟩
  obtain ⟨L4, hL4⟩ : ∃ L, Wr.content co = L := ⟨_, rfl⟩
  obtain ⟨L5, hL5⟩ : ∃ L, Wr.line [Wr.entryEnd] = L := ⟨_, rfl⟩
  have n1 : L1.length = 8 := by rw [← hL1]; rfl
  have n2 : L2.length ≤ 400000 := by rw [← hL2]; have := Wr.head_len id ti lk k s; omega
  have n3 : L3.length ≤ 200000 := by rw [← hL3]; have := Wr.author_len au; omega
  have n4 : L4.length ≤ 200000 := by rw [← hL4]; have := Wr.content_len co; omega
  have n5 : L5.length = 9 := by rw [← hL5]; rfl
  have HR := hide (show Wr.entry ⟨id, ti, lk, au, co, k, s⟩ = L1 ++ (L2 ++ (L3 ++ (L4 ++ L5))) by unfold Wr.entry; dsimp only; rw [hL1, hL2, hL3, hL4, hL5])
  have H1 := hide (fun W (hW : Wg W0 B b r l W) => put_n [Wr.entryOpen] 1 W hW rfl (by omega) (by rw [hL1]; omega))
  have H2 := hide (fun W (hW : Wg W0 B b r (l ++ L1) W) => head_g id ti lk k s W hW (by rw [List.length_append]; omega) h1 h2 h3 hs)
  have HE := hide (fun W => escape_any false au W (by omega))
  have H3 := hide (fun (hne : au ≠ []) W (hW : Wg W0 B b r (l ++ L1 ++ L2) W) => put_n [Wr.authorOpen, Tx.escape false au, Wr.authorEnd] 3 W hW rfl (by omega) (by unfold Wr.author at hL3; rw [if_neg hne] at hL3; rw [hL3, List.length_append, List.length_append]; omega))
  have HA1 := hide (fun (hne : au ≠ []) => show Wr.line [Wr.authorOpen, Tx.escape false au, Wr.authorEnd] = L3 by rw [← hL3]; unfold Wr.author; rw [if_neg hne])
  have HA0 := hide (fun (he : au = []) => show L3 = [] by rw [← hL3]; unfold Wr.author; rw [if_pos he])
  have H4 := hide (fun W (hW : Wg W0 B b r (l ++ L1 ++ L2 ++ L3) W) => field_g [99, 111, 110, 116, 101, 110, 116] co W hW (by simp only [List.length_append]; omega) (by decide) h5)
  have HC1 := hide (fun (hne : co ≠ []) => show Wr.field [99, 111, 110, 116, 101, 110, 116] co = L4 by rw [← hL4]; unfold Wr.content; rw [if_neg hne])
  have HC0 := hide (fun (he : co = []) => show L4 = [] by rw [← hL4]; unfold Wr.content; rw [if_pos he])
  have H5 := hide (fun W (hW : Wg W0 B b r (l ++ L1 ++ L2 ++ L3 ++ L4) W) => put_n [Wr.entryEnd] 1 W hW rfl (by omega) (by rw [hL5]; simp only [List.length_append]; omega))
  rw [hL1] at H1
  rw [hL2] at H2
  rw [hL5] at H5
  have HT := hide (Blk.new w 36 #[.string (bstr id), .string (bstr ti), .string (bstr lk), .string (bstr au), .string (bstr co), .bool k, .int .i64 s])
  have HW := hide (h.go (below_alloc w (.cells #[.string (bstr id), .string (bstr ti), .string (bstr lk), .string (bstr au), .string (bstr co), .bool k, .int .i64 s] 36)))
  have HTb := hide (show w.heap.size ≠ b by
    obtain ⟨r', hf, _, _⟩ := h
    have := wf_lt hf
    omega)
  have HK0 := hide (Kp.of_below (b := b) (below_alloc w (.cells #[.string (bstr id), .string (bstr ti), .string (bstr lk), .string (bstr au), .string (bstr co), .bool k, .int .i64 s] 36)))
  have h1w := H1.out _ HW.out
  rw [World.size_alloc] at h1w
  have H1w := hide h1w
  clear h h1w hL1 hL2 hL3 hL4 hL5
  unfold Ent.cells
  dsimp only
  go_enter Try.func15, Try.ntmps15
  go_wp2_with fail
  refine H1w.out.mono ?_
  rintro e w1 ⟨rfl, hg1, hk1⟩
  have HG1 := hide hg1
  have HK1 := hide (HK0.out.trans hk1)
  have HT1 := hide (hk1.blk HT.out HTb.out (by decide))
  clear hg1 hk1
  have t0 := HT1.out.cell 0
  have t1 := HT1.out.cell 1
  have t2 := HT1.out.cell 2
  have t5 := HT1.out.cell 5
  have t6 := HT1.out.cell 6
  dsimp only
  go_wp2_with fail
  refine (H2.out _ HG1.out).mono ?_
  rintro e w2 ⟨rfl, hg2, hk2⟩
  have HG2 := hide hg2
  have HK2 := hide (HK1.out.trans hk2)
  have HT2 := hide (hk2.blk HT1.out HTb.out (by decide))
  clear hg2 hk2 t0 t1 t2 t5 t6
  have t3 := HT2.out.cell 3
  have t4 := HT2.out.cell 4
  dsimp only
  cases au with
  | nil =>
    have em1 : (bstr ([] : List UInt8)).toList.isEmpty = true := Wr.emp _
    have HG3 := hide (show Wg W0 B b r (l ++ L1 ++ L2 ++ L3) w2 by rw [HA0.out rfl, List.append_nil]; exact HG2.out)
    cases co with
    | nil =>
      have HGc := hide (show Wg W0 B b r (l ++ L1 ++ L2 ++ L3 ++ L4) w2 by rw [HC0.out rfl, List.append_nil]; exact HG3.out)
      have em2 : (bstr ([] : List UInt8)).toList.isEmpty = true := Wr.emp _
      go_wp2_with fail
      refine (H5.out _ HGc.out).mono ?_
      rintro e w9 ⟨rfl, hg9, hk9⟩
      have HG9 := hide hg9
      have HK9 := hide (HK2.out.trans hk9)
      clear hg9 hk9
      dsimp only
      go_wp2
      go_end0
      refine ⟨rfl, ?_, HK9.out⟩
      rw [HR.out]
      have h := HG9.out
      rwa [List.append_assoc, List.append_assoc, List.append_assoc, List.append_assoc] at h
    | cons c2 co =>
      have em2 : (bstr (c2 :: co)).toList.isEmpty = false := Wr.emp _
      have HX4 := hide (H4.out w2 HG3.out)
      rw [HC1.out (by simp)] at HX4
      go_wp2_with fail
      refine HX4.out.mono ?_
      rintro e w4 ⟨rfl, hg4, hk4⟩
      have HG4 := hide hg4
      have HK4 := hide (HK2.out.trans hk4)
      clear hg4 hk4
      dsimp only
      go_wp2_with fail
      refine (H5.out _ HG4.out).mono ?_
      rintro e w9 ⟨rfl, hg9, hk9⟩
      have HG9 := hide hg9
      have HK9 := hide (HK4.out.trans hk9)
      clear hg9 hk9
      dsimp only
      go_wp2
      go_end0
      refine ⟨rfl, ?_, HK9.out⟩
      rw [HR.out]
      have h := HG9.out
      rwa [List.append_assoc, List.append_assoc, List.append_assoc, List.append_assoc] at h
  | cons c1 au =>
    have em1 : (bstr (c1 :: au)).toList.isEmpty = false := Wr.emp _
    have HE2 := hide (HE.out w2)
    go_wp2_with fail
    refine HE2.out.mono ?_
    rintro e w3 ⟨rfl, hb3⟩
    have HX3 := hide (H3.out (by simp) w3 (HG2.out.go hb3))
    rw [HA1.out (by simp)] at HX3
    have HK3 := hide (HK2.out.trans (Kp.of_below hb3))
    have HT3 := hide (HT2.out.go hb3)
    clear hb3 t3 t4
    dsimp only
    go_wp2_with fail
    refine HX3.out.mono ?_
    rintro e w3b ⟨rfl, hg3, hk3⟩
    have HG3 := hide hg3
    have HK3b := hide (HK3.out.trans hk3)
    have HT3b := hide (hk3.blk HT3.out HTb.out (by decide))
    clear hg3 hk3
    have t4 := HT3b.out.cell 4
    dsimp only
    cases co with
    | nil =>
      have HGc := hide (show Wg W0 B b r (l ++ L1 ++ L2 ++ L3 ++ L4) w3b by rw [HC0.out rfl, List.append_nil]; exact HG3.out)
      have em2 : (bstr ([] : List UInt8)).toList.isEmpty = true := Wr.emp _
      go_wp2_with fail
      refine (H5.out _ HGc.out).mono ?_
      rintro e w9 ⟨rfl, hg9, hk9⟩
      have HG9 := hide hg9
      have HK9 := hide (HK3b.out.trans hk9)
      clear hg9 hk9
      dsimp only
      go_wp2
      go_end0
      refine ⟨rfl, ?_, HK9.out⟩
      rw [HR.out]
      have h := HG9.out
      rwa [List.append_assoc, List.append_assoc, List.append_assoc, List.append_assoc] at h
    | cons c2 co =>
      have em2 : (bstr (c2 :: co)).toList.isEmpty = false := Wr.emp _
      have HX4 := hide (H4.out w3b HG3.out)
      rw [HC1.out (by simp)] at HX4
      go_wp2_with fail
      refine HX4.out.mono ?_
      rintro e w4 ⟨rfl, hg4, hk4⟩
      have HG4 := hide hg4
      have HK4 := hide (HK3b.out.trans hk4)
      clear hg4 hk4
      dsimp only
      go_wp2_with fail
      refine (H5.out _ HG4.out).mono ?_
      rintro e w9 ⟨rfl, hg9, hk9⟩
      have HG9 := hide hg9
      have HK9 := hide (HK4.out.trans hk9)
      clear hg9 hk9
      dsimp only
      go_wp2
      go_end0
      refine ⟨rfl, ?_, HK9.out⟩
      rw [HR.out]
      have h := HG9.out
      rwa [List.append_assoc, List.append_assoc, List.append_assoc, List.append_assoc] at h
end Go.Proofs.Ytheaknghgpafpaa
namespace Go.Proofs.Ytheaknghgpafpaa
open Go.RowKit Go.WideShapes

def entVs (es : List Ent) : List Value := es.flatMap fun x => x.cells.toList
theorem entVs_length (es : List Ent) : (entVs es).length = es.length * 7 := by
  induction es with
  | nil => rfl
  | cons x xs ih => unfold entVs at ih ⊢; rw [List.flatMap_cons, List.length_append, ih, List.length_cons]; simp [Ent.cells]; omega
theorem entVs_at : ∀ (l : List Ent) (k : Nat) (hk : k < l.length) (j : Nat), j < 7 → (entVs l)[k * 7 + j]? = (l[k].cells.toList)[j]? := by
  intro l
  induction l with
  | nil => intro k hk; simp at hk
  | cons x l ih =>
    intro k hk j hj
    have hl : (x.cells.toList).length = 7 := rfl
    unfold entVs
    rw [List.flatMap_cons]
    cases k with
    | zero => rw [List.getElem?_append_left (by omega)]; simp
    | succ k =>
      rw [List.getElem?_append_right (by omega), hl, show (k + 1) * 7 + j - 7 = k * 7 + j from by omega]
      exact ih k (by simpa using hk) j hj
/-- An entry lies here. -/
structure EntAt (w : World) (b o : Nat) (x : Ent) : Prop where
  c0 : w.cell? ⟨b, o, none⟩ = some (.string (bstr x.id))
  c1 : w.cell? ⟨b, o + 1, none⟩ = some (.string (bstr x.title))
  c2 : w.cell? ⟨b, o + 2, none⟩ = some (.string (bstr x.link))
  c3 : w.cell? ⟨b, o + 3, none⟩ = some (.string (bstr x.author))
  c4 : w.cell? ⟨b, o + 4, none⟩ = some (.string (bstr x.content))
  c5 : w.cell? ⟨b, o + 5, none⟩ = some (.bool x.k)
  c6 : w.cell? ⟨b, o + 6, none⟩ = some (.int .i64 x.s)
theorem Reads.ent {w : World} {B : Nat} {A : Option Addr} {l : List Ent} (h : Reads w B 7 A l.length (entVs l)) {k : Nat} (hk : k < l.length) : ∃ b off, A = some ⟨b, off, none⟩ ∧ b < B ∧ EntAt w b (off + k * 7) l[k] := by
  obtain ⟨b, off, hA, hb, hc⟩ := h.2 (by omega)
  have hx := entVs_at l k hk
  refine ⟨b, off, hA, hb, ?_⟩
  constructor
  · have := hc (k * 7 + 0) _ (hx 0 (by omega)); simpa using this
  · have := hc (k * 7 + 1) _ (hx 1 (by omega)); rwa [← Nat.add_assoc] at this
  · have := hc (k * 7 + 2) _ (hx 2 (by omega)); rwa [← Nat.add_assoc] at this
  · have := hc (k * 7 + 3) _ (hx 3 (by omega)); rwa [← Nat.add_assoc] at this
  · have := hc (k * 7 + 4) _ (hx 4 (by omega)); rwa [← Nat.add_assoc] at this
  · have := hc (k * 7 + 5) _ (hx 5 (by omega)); rwa [← Nat.add_assoc] at this
  · have := hc (k * 7 + 6) _ (hx 6 (by omega)); rwa [← Nat.add_assoc] at this
/-- How much a text counts; an entry. -/
def m20 (l : List UInt8) : Nat := min l.length 20000
def wEnt (x : Ent) : Nat := m20 x.id + m20 x.title + m20 x.link + m20 x.author + m20 x.content
theorem m20_is (l : List UInt8) : min (((bstr l).size : Nat) : Int) 20000 = ((m20 l : Nat) : Int) := by
  rw [bstr_size]; unfold m20; omega
theorem m20_le (l : List UInt8) : m20 l ≤ 20000 := by unfold m20; omega
set_option maxRecDepth 100000 in
set_option maxHeartbeats 8000000 in
theorem great_any (x : Ent) (w : World) : Calls Try.prog 10 #[.agg x.cells] w fun e w' => e = .returned (.int .i64 (wEnt x : Nat)) ∧ Below w.heap.size w w' := by
  obtain ⟨id, ti, lk, au, co, k, s⟩ := x
  have HO := hide (below_alloc w (.cells (Ent.cells ⟨id, ti, lk, au, co, k, s⟩) 36))
  obtain ⟨q1, hq1⟩ : ∃ q, m20 id = q := ⟨_, rfl⟩
  obtain ⟨q2, hq2⟩ : ∃ q, m20 ti = q := ⟨_, rfl⟩
  obtain ⟨q3, hq3⟩ : ∃ q, m20 lk = q := ⟨_, rfl⟩
  obtain ⟨q4, hq4⟩ : ∃ q, m20 au = q := ⟨_, rfl⟩
  obtain ⟨q5, hq5⟩ : ∃ q, m20 co = q := ⟨_, rfl⟩
  have hm1 := m20_is id
  have hm2 := m20_is ti
  have hm3 := m20_is lk
  have hm4 := m20_is au
  have hm5 := m20_is co
  rw [hq1] at hm1
  rw [hq2] at hm2
  rw [hq3] at hm3
  rw [hq4] at hm4
  rw [hq5] at hm5
  have l1 : q1 ≤ 20000 := by rw [← hq1]; exact m20_le _
  have l2 : q2 ≤ 20000 := by rw [← hq2]; exact m20_le _
  have l3 : q3 ≤ 20000 := by rw [← hq3]; exact m20_le _
  have l4 : q4 ≤ 20000 := by rw [← hq4]; exact m20_le _
  have l5 : q5 ≤ 20000 := by rw [← hq5]; exact m20_le _
  have HR := hide (show wEnt ⟨id, ti, lk, au, co, k, s⟩ = q1 + q2 + q3 + q4 + q5 by unfold wEnt; dsimp only; rw [hq1, hq2, hq3, hq4, hq5])
  clear hq1 hq2 hq3 hq4 hq5
  unfold Ent.cells at HO ⊢
  dsimp only at HO ⊢
  go_enter Try.func10, Try.ntmps10
  go_wp2
  go_ret
  rw [HR.out]
  exact ⟨ret_eq1 (int_eq (by omega)), HO.out⟩
end Go.Proofs.Ytheaknghgpafpaa
namespace Go.Proofs.Ytheaknghgpafpaa
open Go.RowKit Go.WideShapes

/-- A feed. -/
structure Fd where
  id : List UInt8
  title : List UInt8
  link : List UInt8
  k : Bool
  s : Int
  es : List Ent
def Fd.cells (f : Fd) (A : Option Addr) (n c : Nat) : Array Value := #[.string (bstr f.id), .string (bstr f.title), .string (bstr f.link), .bool f.k, .int .i64 f.s, .slice A n c]
def wEnts (es : List Ent) : Nat := (es.map wEnt).sum
theorem wEnts_next (l : List Ent) (k : Nat) (h : k < l.length) : wEnts (l.take (k + 1)) = wEnts (l.take k) + wEnt l[k] := by
  unfold wEnts
  rw [List.take_succ_eq_append_getElem h, List.map_append, List.sum_append]; simp
theorem wEnt_le (x : Ent) : wEnt x ≤ 100000 := by
  have := m20_le x.id
  have := m20_le x.title
  have := m20_le x.link
  have := m20_le x.author
  have := m20_le x.content
  unfold wEnt
  omega
def wFd (f : Fd) : Nat := m20 f.id + m20 f.title + m20 f.link + wEnts f.es
def greatP (f : Fd) : Bool := decide (40 < f.es.length) || decide (6000 < wFd f)
set_option maxRecDepth 100000 in
set_option maxHeartbeats 8000000 in
theorem Great_any (f : Fd) (A : Option Addr) (n c B : Nat) (w : World) (hR : Reads w B 7 A n (entVs f.es)) (hn : f.es.length = n) (hB : B ≤ w.heap.size) (hm : n ≤ maxLen) :
    Calls Try.prog 5 #[.agg (f.cells A n c)] w fun e w' => e = .returned (.bool (greatP f)) ∧ Below w.heap.size w w' := by
  obtain ⟨id, ti, lk, k, s, es⟩ := f
  dsimp only at hR hn
  have HO := hide (below_alloc w (.cells (Fd.cells ⟨id, ti, lk, k, s, es⟩ A n c) 26))
  have HT := hide (Blk.new w 26 (Fd.cells ⟨id, ti, lk, k, s, es⟩ A n c))
  have HRd := hide hR
  have Hn := hide hn
  have hm' : (n : Int) ≤ 9223372036854775807 := by unfold maxLen at hm; omega
  obtain ⟨q1, hq1⟩ : ∃ q, m20 id = q := ⟨_, rfl⟩
  obtain ⟨q2, hq2⟩ : ∃ q, m20 ti = q := ⟨_, rfl⟩
  obtain ⟨q3, hq3⟩ : ∃ q, m20 lk = q := ⟨_, rfl⟩
  have hm1 := m20_is id
  have hm2 := m20_is ti
  have hm3 := m20_is lk
  rw [hq1] at hm1
  rw [hq2] at hm2
  rw [hq3] at hm3
  have l1 : q1 ≤ 20000 := by rw [← hq1]; exact m20_le _
  have l2 : q2 ≤ 20000 := by rw [← hq2]; exact m20_le _
  have l3 : q3 ≤ 20000 := by rw [← hq3]; exact m20_le _
  have HV := hide (show greatP ⟨id, ti, lk, k, s, es⟩ = (decide (40 < n) || decide (6000 < q1 + q2 + q3 + wEnts es)) by unfold greatP wFd; dsimp only; rw [hq1, hq2, hq3, hn])
  clear hq1 hq2 hq3 hR hn
  unfold Fd.cells at HO HT ⊢
  dsimp only at HO HT ⊢
  go_enter Try.func5, Try.ntmps5
  go_wp2
  go_loopg [3, 4] 41 (fun gk v3 v4 wr => ∃ i z : Nat, v4 = .int .i64 (i : Int) ∧ v3 = .int .i64 (z : Int) ∧ gk = 41 - i ∧ i ≤ 41 ∧ i ≤ n ∧ z = q1 + q2 + q3 + wEnts (es.take i) ∧ z ≤ 60000 + 100000 * i ∧ Below w.heap.size w wr ∧ Blk wr w.heap.size 26 #[.string (bstr id), .string (bstr ti), .string (bstr lk), .bool k, .int .i64 s, .slice A n c])
  case atStart => exact ⟨0, q1 + q2 + q3, rfl, int_eq (by omega), rfl, by omega, by omega, rfl, by omega, HO.out, HT.out⟩
  case round =>
    obtain ⟨i, z, rfl, rfl, hgk, hi, hin, hz, hzl, hb, hk⟩ := hrel
    have Hgk := hide hgk
    have Hz := hide hz
    have HB := hide hb
    have HK := hide hk
    have t4 := hk.cell 5
    clear hgk hz hb hk
    by_cases hlt : i < n
    · by_cases h40 : i ≤ 40
      · have hil : i < es.length := by rw [Hn.out]; exact hlt
        have hRw : Reads wr B 7 A es.length (entVs es) := by
          rw [Hn.out]
          exact HRd.out.keep fun p hp => World.cell?_of_block (HB.out.block _ (by omega))
        obtain ⟨b, off, rfl, hbB, hx⟩ := hRw.ent hil
        obtain ⟨x, hxe⟩ : ∃ x, es[i] = x := ⟨_, rfl⟩
        rw [hxe] at hx
        have Hnx := hide (wEnts_next es i hil)
        rw [hxe] at Hnx
        have HG := hide (great_any x wr)
        unfold Ent.cells at HG
        have hwe := wEnt_le x
        obtain ⟨v, hv⟩ : ∃ v, wEnt x = v := ⟨_, rfl⟩
        rw [hv] at HG Hnx hwe
        have x0 := hx.c0
        have x1 := hx.c1
        have x2 := hx.c2
        have x3 := hx.c3
        have x4 := hx.c4
        have x5 := hx.c5
        have x6 := hx.c6
        clear hx hxe hv hRw
        go_wp2_with fail
        refine HG.out.mono ?_
        rintro e w2 ⟨rfl, hb2⟩
        have HB2 := hide (HB.out.trans (hb2.mono HB.out.size))
        have HK2 := hide (HK.out.go hb2)
        clear hb2
        dsimp only
        go_wp2
        go_roundg (41 - (i + 1))
        case measure => have := Hgk.out; omega
        case rel => exact ⟨i + 1, z + v, by first | rfl | go_num, int_eq (by omega), rfl, by omega, by omega, by have := Hz.out; have := Hnx.out; omega, by omega, HB2.out, HK2.out⟩
      · have hi41 : i = 41 := by omega
        have HF := hide (show (decide (40 < n) || decide (6000 < q1 + q2 + q3 + wEnts es)) = true by rw [decide_eq_true (show 40 < n by omega)]; rfl)
        subst hi41
        go_wp2
        go_ret
        rw [HV.out, HF.out]
        exact ⟨rfl, HB.out⟩
    · have hi' : i = n := by omega
      have hze : z = q1 + q2 + q3 + wEnts es := by
        have h := Hz.out
        rwa [List.take_of_length_le (by rw [Hn.out]; omega)] at h
      have HV2 := hide HV.out
      rw [← hze] at HV2
      subst hi'
      by_cases h40 : 40 < i
      · have HF := hide (show (decide (40 < i) || decide (6000 < z)) = true by rw [decide_eq_true h40]; rfl)
        clear hze
        go_wp2
        go_ret
        rw [HV2.out, HF.out]
        exact ⟨rfl, HB.out⟩
      · have HF := hide (show (decide (40 < i) || decide (6000 < z)) = decide (6000 < z) by rw [decide_eq_false h40]; rfl)
        clear hze
        go_wp2
        go_ret
        rw [HV2.out, HF.out]
        refine ⟨ret_eq1 (bool_eq ?_), HB.out⟩
        rw [decide_eq_false (show ¬ (40 : Int) < (i : Int) by omega), Bool.false_or]
        exact decide_eq_decide.2 (by omega)
end Go.Proofs.Ytheaknghgpafpaa
