/- write.Atom. · Plain: a feed's document tells the feed; without its last entry it is shorter (no program). · write.Size; the document's Same. · The document's Same (of feeds). · Writing: the document's when, line, lines (ref26). -/
import Derived.Test.YtlcfakmbcfdgbaaGreatWt22
import Derived.Test.YtlcfakmbcfdgbaaGreatWt23
import Derived.Test.YtlcfakmbcfdgbaaGreatWt25
set_option linter.unusedSimpArgs false
set_option linter.unusedVariables false
namespace Go.Proofs.YtlcfakmbcfdgbaaGreat
open Go.RowKit Go.WideShapes

namespace Wr
def xmlLine : List UInt8 := [60, 63, 120, 109, 108, 32, 118, 101, 114, 115, 105, 111, 110, 61, 34, 49, 46, 48, 34, 32, 101, 110, 99, 111, 100, 105, 110, 103, 61, 34, 117, 116, 102, 45, 56, 34, 63, 62]
def feedLine : List UInt8 := [60, 102, 101, 101, 100, 32, 120, 109, 108, 110, 115, 61, 34, 104, 116, 116, 112, 58, 47, 47, 119, 119, 119, 46, 119, 51, 46, 111, 114, 103, 47, 50, 48, 48, 53, 47, 65, 116, 111, 109, 34, 62]
def feedEnd : List UInt8 := [60, 47, 102, 101, 101, 100, 62]
def start (f : Fd) : List UInt8 := line [xmlLine] ++ (line [feedLine] ++ head f.id f.title f.link f.k f.s)
def doc (f : Fd) : List UInt8 := start f ++ (f.es.flatMap entry ++ line [feedEnd])
def atomV (f : Fd) : Value := if may f then .tuple #[.string (bstr (doc f)), .int .i64 0] else .tuple #[.string ⟨#[]⟩, .int .i64 2]
end Wr
attribute [local go_sem] Oper.semAt_some
theorem Wf.turn {B b : Nat} {l : List UInt8} {r : Option Nat} {w w1 : World} (h : Wf B b l r w) (hk : ∀ k, IsT w k 5 ∨ k = b → w1.heap[k]? = w.heap[k]?) : Wf B b l r w1 := by
  obtain ⟨hB, p, v, hp, hbk, hown, hr⟩ := h
  refine ⟨hB, p, v, hp, (hk _ (.inr rfl)).trans hbk, ⟨hown.1, ?_⟩, hr⟩
  rcases hown.2 with hn | ⟨g, cap, cur, rfl, hbg, hgg, rest⟩
  · exact .inl hn
  · exact .inr ⟨g, cap, cur, rfl, hbg, (hk g (.inl ⟨cur, _, hgg⟩)).trans hgg, rest⟩
theorem isC_ne {w : World} {i k : Nat} {o : Obj} (hi : w.heap[i]? = some o) (hc : o.isCells = false) (hk : ∃ cs t fr, w.heap[k]? = some (.cells cs t fr)) : i ≠ k := by
  rintro rfl
  obtain ⟨cs, t, fr, e⟩ := hk
  rw [hi] at e
  cases e
  cases hc
theorem Wg.put {W0 W : World} {B b : Nat} {r : Option Nat} {l : List UInt8} {i : Nat} {o o' : Obj} (h : Wg W0 B b r l W) (hi : W.heap[i]? = some o') (hc : o'.isCells = false) (hi0 : W0.heap.size ≤ i) : Wg W0 B b r l (W.putObj i o) := by
  obtain ⟨r', hf, hr, hz⟩ := h
  refine ⟨r', hf.turn fun k hk => World.putObj_heap_other (isC_ne hi hc ?_).symm, hr, ⟨hz.os, hz.tape, hz.output, ?_, fun k h1 h2 h3 => ?_⟩⟩
  · rcases hk with ⟨cs, fr, hk⟩ | rfl
    · exact ⟨_, _, _, hk⟩
    · obtain ⟨_, p, v, _, hbk, _⟩ := hf
      exact ⟨_, _, _, hbk⟩
  · have := hz.size; simpa [World.putObj] using this
  · exact (World.putObj_heap_other (by omega)).trans (hz.block k h1 h2 h3)
theorem Kp.from {b : Nat} {w w1 : World} (h : Kp b w w1) (hb : ∃ cs t fr, w.heap[b]? = some (.cells cs t fr)) (D : Nat) : KeepsFrom D w w1 := ⟨h.size, fun k o _ hk ho => by
  refine (h.block k (Array.getElem?_eq_some_iff.1 hk).1 (isC_ne hk ho hb) (fun ⟨cs, fr, e⟩ => ?_)).trans hk
  rw [hk] at e
  cases e
  cases ho⟩
theorem Wg.isC {W0 W : World} {B b : Nat} {r : Option Nat} {l : List UInt8} (h : Wg W0 B b r l W) : ∃ cs t fr, W.heap[b]? = some (.cells cs t fr) := by
  obtain ⟨r', ⟨_, p, v, _, hbk, _⟩, _⟩ := h
  exact ⟨_, _, _, hbk⟩
theorem Kp.nonC {b : Nat} {w w1 : World} (h : Kp b w w1) (hb : ∃ cs t fr, w.heap[b]? = some (.cells cs t fr)) {k : Nat} {o : Obj} (hk : w.heap[k]? = some o) (ho : o.isCells = false) : w1.heap[k]? = some o := (h.from hb 0).same k o (Nat.zero_le _) hk ho
set_option maxHeartbeats 2000000 in
set_option maxRecDepth 100000 in
theorem str_wk {B b : Nat} {l : List UInt8} {r : Option Nat} {w : World} (h : Wf B b l r w) (h0 : l ≠ []) :
    Calls Tryz.prog 20 #[.pointer (some ⟨b, 0, none⟩)] w fun e w' => e = .returned (.string (bstr l)) ∧ Below B w w' ∧ ∀ (k : Nat) (o : Obj), w.heap[k]? = some o → o.isCells = false → w'.heap[k]? = some o := by
  obtain ⟨hB, p, v, _, hbk, hown, _⟩ := h
  have hl0 : l.length ≠ 0 := by simpa using h0
  obtain ⟨g, cap, cur, rfl, hbg, hg, hnc, hcm, hcs, htake⟩ : ∃ g cap cur, v = .slice (some ⟨g, 0, none⟩) l.length cap ∧ B ≤ g ∧ w.heap[g]? = some (.cells cur 5 (0, 0)) ∧ l.length ≤ cap ∧ cap ≤ maxLen ∧ cur.size = cap * 1 ∧ cur.toList.take (l.length * 1) = Lib.byteCells l := by
    rcases hown.2 with ⟨_, hz⟩ | ⟨g, cap, cur, hv, r⟩
    · exact absurd hz hl0
    · exact ⟨g, cap, cur, hv, r⟩
  have c1 : w.drew.cell? ⟨b, 1, none⟩ = some (.slice (some ⟨g, 0, none⟩) l.length cap) := by
    have := (hbk.drew).cell 1
    rw [this]; rfl
  have hSD : (Builtin.unsafeSliceData_ #[40] 71 #[.slice (some ⟨g, 0, none⟩) l.length cap]).run Tryz.prog w.drew = .ok (.pointer (some ⟨g, 0, none⟩)) w.drew :=
    Lib.run_unsafeSliceData_row _ _ _ _ _ _ (by omega)
  have hUS : (Builtin.unsafeString_ #[71, 3] 9 #[.pointer (some ⟨g, 0, none⟩), .int .i64 l.length]).run Tryz.prog w.drew = .ok (.string (bstr l)) (w.drew.freeze ⟨g, 0, none⟩ l.length) := by
    refine Lib.run_unsafeString_row w.drew 71 3 9 5 Tryz.underlying71 (by kernel_rfl) g cur.size (by have hg' : w.drew.heap[g]? = some (.cells cur 5 (0, 0)) := hg; simp [World.shape?, hg']) l h0 (by omega) (by unfold maxLen at hcm; omega) ?_
    intro j x hx
    exact hown.cells (g := g) rfl j (.int .u8 x.toNat) (by simp [Lib.byteCells, hx])
  have hkeep : ∀ (k : Nat) (o : Obj), w.heap[k]? = some o → o.isCells = false → (w.drew.freeze ⟨g, 0, none⟩ l.length).heap[k]? = some o := fun k o hk ho => by
    have hok : Lib.OthersKept 5 none w (w.drew.freeze ⟨g, 0, none⟩ l.length) := ((Lib.OthersKept.refl 5 none w).drew).freeze ⟨g, 0, none⟩ _ ⟨cur, _, hg⟩
    exact hok k o hk (by simp) (fun c fz e => by rw [e] at ho; cases ho)
  have HKp := hide hkeep
  clear hkeep
  go_enter Tryz.func20, Tryz.ntmps20
  go_wp2
  go_region
  all_goals (go_wp2; go_ret; exact ⟨rfl, Lib.below_freeze (Below.drew (Below.refl B w)) (p := ⟨g, 0, none⟩) hbg _, HKp.out⟩)
/-- What is written so far. -/
structure AtI (w : World) (f : Fd) (Z Bs n c : Nat) (A : Option Addr) (pre : List Ent) (W : World) : Prop where
  wg : Wg w Z Z none (Wr.start f ++ pre.flatMap Wr.entry) W
  ptr : Blk W (Z + 1) 38 #[.pointer (some ⟨Z, 0, none⟩)]
  feed : Blk W Bs 26 (f.cells A n c)
  size : Bs < W.heap.size
  len : (pre.flatMap Wr.entry).length ≤ pre.length * 1000000
set_option maxRecDepth 100000 in
set_option maxHeartbeats 8000000 in
theorem Atom_any (f : Fd) (A : Option Addr) (n c B : Nat) (w : World) (hR : Reads w B 7 A n (entVs f.es)) (hn : f.es.length = n) (hB : B ≤ w.heap.size) (hm : n ≤ maxLen) (hok : f.Ok) :
    Calls Tryz.prog 6 #[.agg (f.cells A n c)] w fun e w' => e = .returned (Wr.atomV f) ∧ Below w.heap.size w w' := by
  refine (callsIn_wide (n := 5)).1 ?_
  refine callsIn_of_wp_marks Tryz.func6 rfl trivial ?_ rfl
  simp only [Tryz.ntmps6, List.size_toArray, List.length_cons, List.length_nil, Nat.reduceAdd, Nat.reduceSub, Array.replicate_succ, Array.replicate_zero, List.push_toArray, List.append_toArray, List.nil_append, List.cons_append]
  have HMay := hide (May_any f A n c B (w.alloc (.cells (f.cells A n c) 26)) (hR.keep fun p hp => World.cell?_of_block ((below_alloc w _).block _ (by omega))) hn (by simp; omega) hm hok)
  have HO := hide (below_alloc w (.cells (f.cells A n c) 26))
  have HT := hide (Blk.new w 26 (f.cells A n c))
  have HRd := hide hR
  have Hn := hide hn
  have Hok := hide hok
  clear hR hn hok
  obtain ⟨mv, hmv⟩ : ∃ mv, Wr.may f = mv := ⟨_, rfl⟩
  rw [hmv] at HMay
  have HMv := hide hmv
  clear hmv
  obtain ⟨id, ti, lk, k, s, es⟩ := f
  unfold Fd.cells at HMay HO HT ⊢
  dsimp only at HMay HO HT HRd Hn ⊢
  have t0 := HT.out.cell 0
  have t1 := HT.out.cell 1
  have t2 := HT.out.cell 2
  have t3 := HT.out.cell 3
  have t4 := HT.out.cell 4
  have t5 := HT.out.cell 5
  gi_wp2_with fail
  refine ⟨trivial, ?_⟩
  refine (callsIn_wide.2 HMay.out).mono ?_
  rintro e w1 ⟨rfl, hb1⟩
  have HT1 := hide (HT.out.go hb1)
  have HB1 := hide (HO.out.trans (hb1.mono (by simp)))
  have hz1 : w.heap.size < w1.heap.size := by have := hb1.size; simp at this; omega
  clear hb1 t0 t1 t2 t3 t4 t5
  dsimp only
  cases mv with
  | false =>
    gi_wp2
    refine ⟨.tuple #[.string ⟨#[]⟩, .int .i64 2], by simp [results, Tryz.results6, go_sem], ?_, HB1.out⟩
    unfold Wr.atomV
    rw [HMv.out]
    rfl
  | true =>
    have HS := hide (show (Wr.start ⟨id, ti, lk, k, s, es⟩).length ≤ 400000 by
      have h := Hok.out
      have h1 := h.id
      have h2 := h.title
      have h3 := h.link
      dsimp only at h1 h2 h3
      unfold Wr.start
      have h4 := Wr.head_len id ti lk k s
      have h5 : (Wr.line [Wr.xmlLine]).length = 39 := rfl
      have h6 : (Wr.line [Wr.feedLine]).length = 43 := rfl
      simp only [List.length_append]
      omega)
    have hg0 : Wg w w1.heap.size w1.heap.size none [] ((w1.alloc (.cells #[.pointer none, .slice none 0 0] 44)).alloc (.cells #[.pointer (some ⟨w1.heap.size, 0, none⟩)] 38)) :=
      Wg.go (Wg.after HB1.out ⟨none, Wf.fresh w1, .inl rfl, Fz.of_below (below_alloc w1 _)⟩) (below_alloc _ _)
    have hp0 : Blk ((w1.alloc (.cells #[.pointer none, .slice none 0 0] 44)).alloc (.cells #[.pointer (some ⟨w1.heap.size, 0, none⟩)] 38)) (w1.heap.size + 1) 38 #[.pointer (some ⟨w1.heap.size, 0, none⟩)] := by
      have := Blk.new (w1.alloc (.cells #[.pointer none, .slice none 0 0] 44)) 38 #[.pointer (some ⟨w1.heap.size, 0, none⟩)]
      rwa [World.size_alloc] at this
    have ht0 := (HT1.out.alloc (.cells #[.pointer none, .slice none 0 0] 44)).alloc (.cells #[.pointer (some ⟨w1.heap.size, 0, none⟩)] 38)
    have h1 := put_n [Wr.xmlLine] 1 _ hg0 rfl (by omega) (by decide)
    rw [World.size_alloc, World.size_alloc] at h1
    have H1 := hide h1
    have Hp0 := hide hp0
    have Ht0 := hide ht0
    have HZ := hide hz1
    clear hg0 hp0 ht0 h1 hz1
    gi_wp2_with fail
    refine ⟨trivial, ?_⟩
    refine (callsIn_wide.2 H1.out).mono ?_
    rintro e w2 ⟨rfl, hg2, hk2⟩
    have HG2 := hide hg2
    have HP2 := hide (hk2.blk Hp0.out (by omega) (by decide))
    have HT2 := hide (hk2.blk Ht0.out (by have := HZ.out; omega) (by decide))
    clear hg2 hk2
    have q0 := HP2.out.cell 0
    dsimp only
    have H2 := hide (put_n [Wr.feedLine] 1 _ HG2.out rfl (by omega) (by decide))
    gi_wp2_with fail
    refine ⟨trivial, ?_⟩
    refine (callsIn_wide.2 H2.out).mono ?_
    rintro e w3 ⟨rfl, hg3, hk3⟩
    have HG3 := hide hg3
    have HP3 := hide (hk3.blk HP2.out (by omega) (by decide))
    have HT3 := hide (hk3.blk HT2.out (by have := HZ.out; omega) (by decide))
    clear hg3 hk3 q0
    have q0 := HP3.out.cell 0
    have t0 := HT3.out.cell 0
    have t1 := HT3.out.cell 1
    have t2 := HT3.out.cell 2
    have t3 := HT3.out.cell 3
    have t4 := HT3.out.cell 4
    dsimp only
    have H3 := hide (head_g id ti lk k s _ HG3.out (by decide) Hok.out.id Hok.out.title Hok.out.link Hok.out.s)
    gi_wp2_with fail
    refine ⟨trivial, ?_⟩
    refine (callsIn_wide.2 H3.out).mono ?_
    rintro e w4 ⟨rfl, hg4, hk4⟩
    have HG4 := hide hg4
    have HP4 := hide (hk4.blk HP3.out (by omega) (by decide))
    have HT4 := hide (hk4.blk HT3.out (by have := HZ.out; omega) (by decide))
    clear hg4 hk4 q0 t0 t1 t2 t3 t4
    have t0 := HT4.out.cell 0
    have t1 := HT4.out.cell 1
    have t2 := HT4.out.cell 2
    have t3 := HT4.out.cell 3
    have t4 := HT4.out.cell 4
    have t5 := HT4.out.cell 5
    dsimp only
    gi_wp2_with fail
    refine ⟨trivial, ?_⟩
    refine (callsIn_wide.2 (entries_any _ _ rfl)).mono ?_
    rintro e w5 ⟨rfl, rfl⟩
    dsimp only
    gi_wp2
    obtain ⟨Z, hZ⟩ : ∃ Z, w1.heap.size = Z := ⟨_, rfl⟩
    obtain ⟨Bs, hBs⟩ : ∃ Bs, w4.heap.size = Bs := ⟨_, rfl⟩
    have HBe := hide (Blk.new w4 26 (Fd.cells ⟨id, ti, lk, k, s, es⟩ A n c))
    have hwg5 : Wg w Z Z none (Wr.start ⟨id, ti, lk, k, s, es⟩) (w4.alloc (.cells (Fd.cells ⟨id, ti, lk, k, s, es⟩ A n c) 26)) := by
      have := HG4.out.go (below_alloc w4 (.cells (Fd.cells ⟨id, ti, lk, k, s, es⟩ A n c) 26))
      rw [hZ] at this
      unfold Wr.start
      rw [← List.append_assoc]
      simpa using this
    have hp5 := HP4.out.alloc (.cells (Fd.cells ⟨id, ti, lk, k, s, es⟩ A n c) 26)
    have hs5 : (w4.alloc (.cells (Fd.cells ⟨id, ti, lk, k, s, es⟩ A n c) 26)).heap.size = Bs + 1 := by rw [World.size_alloc, hBs]
    have hfd := HBe.out
    rw [hBs] at hfd
    rw [hZ] at hp5
    rw [hZ] at HZ
    have hm16 : n ≤ 16 := by
      have := HMv.out
      unfold Wr.may at this
      simp only [Bool.and_eq_true, decide_eq_true_eq] at this
      have h := this.1.2
      rw [Hn.out] at h
      exact h
    have hZB : Z + 1 < Bs := by
      have := HP4.out.lt
      omega
    rw [hZ, hBs]
    change Code.wpIn _ _ _ _ _ _ (w4.alloc (.cells (Fd.cells ⟨id, ti, lk, k, s, es⟩ A n c) 26))
    generalize w4.alloc (.cells (Fd.cells ⟨id, ti, lk, k, s, es⟩ A n c) 26) = W5 at hwg5 hp5 hs5 hfd ⊢
    have HI0 := hide (fun o o' => show AtI w ⟨id, ti, lk, k, s, es⟩ Z Bs n c A [] ((W5.alloc o).alloc o') from ⟨by simpa using (hwg5.go (below_alloc W5 o)).go (below_alloc _ o'), (hp5.alloc o).alloc o', (hfd.alloc o).alloc o', by simp; omega, by simp⟩)
    have HFd := hide hfd
    have HWg := hide hwg5
    have hgv : ∀ o o', GivesOn FrB Fence.wide (5 - 1) Tryz.prog 36 #[.pointer (some ⟨Bs, 0, none⟩)] (fun x : Ent => #[.agg x.cells]) (KpE Bs B) (fun x _ => x ∈ es) (fun xs => xs = es) (n + 1) ((W5.alloc o).alloc o') := by
      intro o o'
      refine entries1_gives (5 - 1) (by omega) Bs B ⟨id, ti, lk, k, s, es⟩ A n c _ ?_ Hn.out (by omega) ((HFd.out.alloc o).alloc o') (by simp; have := HZ.out; omega)
      obtain ⟨_, hf, _, hz⟩ := HWg.out
      have hbz : Z ≤ Z := hf.1
      refine HRd.out.keep fun p hp => ?_
      unfold World.cell?
      rw [Below.heap_alloc _ _ _ (by simp; have := HZ.out; omega), Below.heap_alloc _ _ _ (by have := HZ.out; omega), hz.block p.block (by omega) (by have := HZ.out; omega) (by simp)]
    have HGl := hide hgv
    have HSm := hide hs5
    clear hgv hwg5 hp5 hs5 hfd
    refine range_ona (Fr := FrB) (fun A B h k h1 h2 => h.block k h2) rfl (by omega) (gf := 36) (lb := #[.pointer (some ⟨Bs, 0, none⟩)]) rfl trivial (enters_of Tryz.func36 (by kernel_rfl) rfl) (fun _ => rfl)
      HGl.out ?kt ?kb (AtI w ⟨id, ti, lk, k, s, es⟩ Z Bs n c A) ?ip ?ib ?f HI0.out (fun x => .cells x.cells 36) ?ia ?fa ?ka
      (fun x H => { tmps := #[.agg #[.string (bstr id), .string (bstr ti), .string (bstr lk), .bool k, .int .i64 s, .slice A n c], .pointer (some ⟨w.heap.size, 0, none⟩), .string ⟨#[]⟩, .int .i64 0, .pointer (some ⟨Z + 1, 0, none⟩), .pointer (some ⟨H, 0, none⟩), .agg #[.string (bstr id), .string (bstr ti), .string (bstr lk), .bool k, .int .i64 s, .slice A n c], .bool true, .bool false, .agg #[.pointer none, .slice none 0 0], .pointer (some ⟨Z, 0, none⟩), .pointer (some ⟨Z, 0, none⟩), .slice (some ⟨Z + 1 + 1, 0, none⟩) 1 1, .tuple #[], .pointer (some ⟨Z, 0, none⟩), .slice (some ⟨w2.heap.size, 0, none⟩) 1 1, .tuple #[], .pointer (some ⟨Z, 0, none⟩), .pointer (some ⟨w.heap.size, 0, none⟩), .string (bstr id), .pointer (some ⟨w.heap.size, 1, none⟩), .string (bstr ti), .pointer (some ⟨w.heap.size, 2, none⟩), .string (bstr lk), .pointer (some ⟨w.heap.size, 3, none⟩), .agg #[.bool k, .int .i64 s], .tuple #[], .agg #[.string (bstr id), .string (bstr ti), .string (bstr lk), .bool k, .int .i64 s, .slice A n c], .func (.func 36) #[] #[.pointer (some ⟨Bs, 0, none⟩)], .agg x.cells, undef, undef, undef, undef, undef, undef, undef, undef, undef, undef], defers := [] }) ?assign ?body ?done
    case kt => exact fun h k => h.trans k
    case kb => exact fun W o o' h h2 => ⟨by simp [World.putObj], fun k hk hk2 => World.putObj_heap_other (by have := HSm.out; have := HZ.out; omega)⟩
    case ip =>
      intro pre W o o' h hl hc
      have hS := HSm.out
      have hZ1 := HZ.out
      exact ⟨h.wg.put hl hc (by omega), (World.putObj_heap_other (by omega)).trans h.ptr, (World.putObj_heap_other (by omega)).trans h.feed, by have := h.size; simpa [World.putObj] using this, h.len⟩
    case ib =>
      intro pre A' B' h hb
      exact ⟨h.wg.go hb, h.ptr.go hb, h.feed.go hb, Nat.lt_of_lt_of_le h.size hb.size, h.len⟩
    case f => exact fun x W o h => h
    case ia =>
      intro pre W x h
      have hb := below_alloc W (.cells x.cells 36)
      exact ⟨h.wg.go hb, h.ptr.go hb, h.feed.go hb, Nat.lt_of_lt_of_le h.size hb.size, h.len⟩
    case fa => exact fun x W h => h
    case ka => exact fun W x => ⟨by simp, fun k hk _ => (below_alloc W _).block k hk⟩
    case assign =>
      intro l x W K hK
      have hK2 := hide hK
      clear hK
      obtain ⟨xi, xt, xl, xa, xc, xk, xs⟩ := x
      unfold Ent.cells at hK2 ⊢
      dsimp only at hK2 ⊢
      gi_wp2
      exact hK2.out
    case body =>
      intro l pre x H W hI hf hlen hH hx hWs
      have hxk := Hok.out.es x hf
      have HI := hide hI
      have HXk := hide hxk
      have hx' : Blk W H 36 x.cells := hx
      have HX := hide hx'
      have hl5 : (Wr.start ⟨id, ti, lk, k, s, es⟩ ++ pre.flatMap Wr.entry).length ≤ 800000000 := by
        rw [List.length_append]
        have := HS.out
        have := hI.len
        omega
      have HG := hide (entry_g x W hI.wg hl5 hxk)
      have q0 := hI.ptr.cell 0
      have key : ∀ (W3 : World) (a3 : Act), Wg w Z Z none (Wr.start ⟨id, ti, lk, k, s, es⟩ ++ pre.flatMap Wr.entry ++ Wr.entry x) W3 → Kp Z W W3 → roundEndO W5.heap.size (KpE Bs B) (AtI w ⟨id, ti, lk, k, s, es⟩ Z Bs n c A) (pre ++ [x]) W .normal a3 W3 := fun W3 a3 hg hk => by
        have hI := HI.out
        have hz := HZ.out
        refine ⟨hk.from hI.wg.isC _, ⟨hk.size, fun j hj hj2 => ?_⟩, ?_⟩
        · rcases hj2 with rfl | hj2
          · exact (hk.blk hI.feed (by omega) (by decide)).trans hI.feed.symm
          · obtain ⟨_, hfa, _, hza⟩ := hI.wg
            obtain ⟨_, _, _, hzb⟩ := hg
            rw [hza.block j (by omega) (by omega) (by simp), hzb.block j (by omega) (by omega) (by simp)]
        · refine ⟨?_, hk.blk hI.ptr (by omega) (by decide), hk.blk hI.feed (by omega) (by decide), Nat.lt_of_lt_of_le hI.size hk.size, ?_⟩
          · rw [List.flatMap_append, ← List.append_assoc]
            simpa using hg
          · have h1 := hI.len
            have h2 := Wr.entry_len x HXk.out
            simp only [List.flatMap_append, List.length_append, List.flatMap_cons, List.flatMap_nil, List.length_nil, List.length_singleton, List.append_nil]
            omega
      have Key := hide key
      clear key hI hf hxk hx hl5
      obtain ⟨xi, xt, xl, xa, xc, xk, xs⟩ := x
      unfold Ent.cells at HG HX ⊢
      dsimp only at HG HX ⊢
      clear hx'
      have x0 := HX.out.cell 0
      have x1 := HX.out.cell 1
      have x2 := HX.out.cell 2
      have x3 := HX.out.cell 3
      have x4 := HX.out.cell 4
      have x5 := HX.out.cell 5
      have x6 := HX.out.cell 6
      gi_wp2_with fail
      refine ⟨trivial, ?_⟩
      refine (callsIn_wide.2 HG.out).mono ?_
      rintro e w3 ⟨rfl, hg3, hk3⟩
      have HG3 := hide hg3
      have HK3 := hide hk3
      clear hg3 hk3 x0 x1 x2 x3 x4 x5 x6 q0
      dsimp only
      gi_wp2
      exact Key.out w3 _ HG3.out HK3.out
    case done =>
      intro D0 xs W hD hxs hI hK
      subst hxs
      subst hD
      have HI := hide hI
      have HK := hide hK
      have q0 := hI.ptr.cell 0
      have hl5 : (Wr.start ⟨id, ti, lk, k, s, xs⟩ ++ xs.flatMap Wr.entry).length ≤ 800000000 := by
        rw [List.length_append]
        have := HS.out
        have := hI.len
        have := Hn.out
        omega
      have H4 := hide (put_n [Wr.feedEnd] 1 W hI.wg rfl (by omega) (by
        have : (Wr.line [Wr.feedEnd]).length = 8 := rfl
        omega))
      clear hI hK hl5
      gi_wp2_with fail
      refine ⟨trivial, ?_⟩
      refine (callsIn_wide.2 H4.out).mono ?_
      rintro e w6 ⟨rfl, hg6, hk6⟩
      have HP6 := hide (hk6.blk HI.out.ptr (by omega) (by decide))
      have HK6 := hide (hk6.nonC HI.out.wg.isC HK.out rfl)
      have HD := hide (show Wr.doc ⟨id, ti, lk, k, s, xs⟩ = Wr.start ⟨id, ti, lk, k, s, xs⟩ ++ xs.flatMap Wr.entry ++ Wr.line [Wr.feedEnd] by unfold Wr.doc; rw [List.append_assoc])
      rw [← HD.out] at hg6
      obtain ⟨r6, hf6, _, hz6⟩ := hg6
      have hnil : Wr.doc ⟨id, ti, lk, k, s, xs⟩ ≠ [] := by
        rw [HD.out]
        simp [Wr.line]
      have HS6 := hide (str_wk hf6 hnil)
      have HZ6 := hide hz6
      clear q0 hk6 hf6 hz6 hnil
      have q0 := HP6.out.cell 0
      dsimp only
      gi_wp2_with fail
      refine ⟨trivial, ?_⟩
      refine (callsIn_wide.2 HS6.out).mono ?_
      rintro e w7 ⟨rfl, hb7, hk7⟩
      have HB7 := hide hb7
      have HK7 := hide (hk7 _ _ HK6.out rfl)
      clear hb7 hk7 q0
      dsimp only
      gi_wp2
      have hS := HSm.out
      have hZ1 := HZ.out
      refine ⟨by simp, .inl ⟨_, _, rfl, run_takeDeferred HK7.out, ?_⟩⟩
      refine ⟨.tuple #[.string (bstr (Wr.doc ⟨id, ti, lk, k, s, xs⟩)), .int .i64 0], by simp [results, Tryz.results6, go_sem], ?_, ?_⟩
      · unfold Wr.atomV
        rw [HMv.out]
        rfl
      · have hz := HZ6.out
        have hb := HB7.out
        refine ⟨hb.os.trans hz.os, hb.tape.trans hz.tape, hb.output.trans hz.output, ?_, fun j hj => (World.putObj_heap_other (by omega)).trans ((hb.block j (by omega)).trans (hz.block j hj (by omega) (by simp)))⟩
        have := hz.size
        have := hb.size
        simp [World.putObj]
        omega
end Go.Proofs.YtlcfakmbcfdgbaaGreat
namespace Go.Proofs.YtlcfakmbcfdgbaaGreat
open Go.RowKit

namespace Wr
theorem date_true {s : Int} (h : whenP true s = true) : ∃ x, Cv.stamp s = some x ∧ date true s = field [117, 112, 100, 97, 116, 101, 100] x := by
  unfold whenP at h
  rw [if_pos rfl, Bool.and_eq_true, decide_eq_true_eq, decide_eq_true_eq] at h
  obtain ⟨x, hx⟩ := Cv.stamp_some s h
  refine ⟨x, hx, ?_⟩
  unfold date
  rw [hx]
  exact if_pos rfl
theorem mayEs_mem : ∀ (es : List Ent) (seen : List (List UInt8)), mayEs seen es = true → ∀ x ∈ es, ∃ seen', mayE seen' x = true
  | [], _, _, x, hx => by cases hx
  | y :: l, seen, h, x, hx => by
    unfold mayEs at h
    rw [Bool.and_eq_true] at h
    rcases List.mem_cons.1 hx with rfl | hx
    · exact ⟨_, h.1⟩
    · exact mayEs_mem l _ h.2 x hx
theorem may_ents {f : Fd} (h : may f = true) : ∀ x ∈ f.es, whenP x.k x.s = true := by
  intro x hx
  unfold may at h
  rw [Bool.and_eq_true] at h
  obtain ⟨seen, hs⟩ := mayEs_mem _ _ h.2 x hx
  unfold mayE at hs
  rw [Bool.and_eq_true] at hs
  exact hs.2
theorem may_when {f : Fd} (h : may f = true) : whenP f.k f.s = true := by
  unfold may at h
  simp only [Bool.and_eq_true] at h
  exact h.1.1.2
end Wr
end Go.Proofs.YtlcfakmbcfdgbaaGreat
namespace Go.Proofs.YtlcfakmbcfdgbaaGreat
open Go.RowKit Go.WideShapes

namespace Wr
def size (f : Fd) : Nat := if may f then (doc f).length else 0
end Wr
theorem doc_len (f : Fd) (h : Wr.may f = true) (hok : f.Ok) : (Wr.doc f).length ≤ 30000000 := by
  have h16 : f.es.length ≤ 16 := by
    unfold Wr.may at h
    simp only [Bool.and_eq_true, decide_eq_true_eq] at h
    exact h.1.2
  have h1 := hok.id
  have h2 := hok.title
  have h3 := hok.link
  have h4 := Wr.head_len f.id f.title f.link f.k f.s
  have h5 : (Wr.line [Wr.xmlLine]).length = 39 := rfl
  have h6 : (Wr.line [Wr.feedLine]).length = 43 := rfl
  have h7 : (Wr.line [Wr.feedEnd]).length = 8 := rfl
  have h8 : ∀ l : List Ent, (∀ x ∈ l, x.Ok) → (l.flatMap Wr.entry).length ≤ l.length * 1000000 := by
    intro l
    induction l with
    | nil => simp
    | cons x l ih =>
      intro hx
      have a := Wr.entry_len x (hx x (by simp))
      have b := ih (fun y hy => hx y (by simp [hy]))
      rw [List.flatMap_cons, List.length_append, List.length_cons]
      omega
  have h9 := h8 f.es hok.es
  unfold Wr.doc Wr.start
  simp only [List.length_append]
  omega
set_option maxHeartbeats 4000000 in
set_option maxRecDepth 100000 in
theorem Size_any (f : Fd) (A : Option Addr) (n c B : Nat) (w : World) (hR : Reads w B 7 A n (entVs f.es)) (hn : f.es.length = n) (hB : B ≤ w.heap.size) (hm : n ≤ maxLen) (hok : f.Ok) :
    Calls Tryz.prog 10 #[.agg (f.cells A n c)] w fun e w' => e = .returned (.int .i64 (Wr.size f : Nat)) ∧ Below w.heap.size w w' := by
  have HO := hide (below_alloc w (.cells (f.cells A n c) 26))
  have HT := hide (Blk.new w 26 (f.cells A n c))
  have HA := hide (Atom_any f A n c B (w.alloc (.cells (f.cells A n c) 26)) (hR.keep fun p hp => World.cell?_of_block ((below_alloc w _).block _ (by omega))) hn (by simp; omega) hm hok)
  have HL := hide (fun h => doc_len f h hok)
  have HS := hide (show Wr.size f = if Wr.may f then (Wr.doc f).length else 0 from rfl)
  unfold Wr.atomV at HA
  clear hR hn hok
  obtain ⟨D, hD⟩ : ∃ D, Wr.doc f = D := ⟨_, rfl⟩
  obtain ⟨z, hz⟩ : ∃ z, Wr.size f = z := ⟨_, rfl⟩
  obtain ⟨mv, hmv⟩ : ∃ mv, Wr.may f = mv := ⟨_, rfl⟩
  rw [hD] at HA HS HL
  rw [hz] at HS ⊢
  rw [hmv] at HA HS HL
  clear hD hz hmv
  obtain ⟨id, ti, lk, k, s, es⟩ := f
  unfold Fd.cells at HA HO HT ⊢
  dsimp only at HA HO HT ⊢
  have t0 := HT.out.cell 0
  have t1 := HT.out.cell 1
  have t2 := HT.out.cell 2
  have t3 := HT.out.cell 3
  have t4 := HT.out.cell 4
  have t5 := HT.out.cell 5
  cases mv with
  | true =>
    rw [if_pos rfl] at HA HS
    have hsz := bstr_size D
    have HSz := hide hsz
    clear hsz
    go_enter Tryz.func10, Tryz.ntmps10
    go_wp2_with fail
    refine HA.out.mono ?_
    rintro e w1 ⟨rfl, hb1⟩
    have HB1 := hide (HO.out.trans (hb1.mono (by simp)))
    clear hb1
    dsimp only
    go_wp2
    go_ret
    rw [HS.out, HSz.out]
    exact ⟨rfl, HB1.out⟩
  | false =>
    rw [if_neg (by decide)] at HA HS
    go_enter Tryz.func10, Tryz.ntmps10
    go_wp2_with fail
    refine HA.out.mono ?_
    rintro e w1 ⟨rfl, hb1⟩
    have HB1 := hide (HO.out.trans (hb1.mono (by simp)))
    clear hb1
    dsimp only
    go_wp2
    go_ret
    rw [HS.out]
    exact ⟨rfl, HB1.out⟩
def eqE (x y : Ent) : Bool := decide (x.id = y.id) && (decide (x.title = y.title) && (decide (x.link = y.link) && (decide (x.author = y.author) && (decide (x.content = y.content) && (decide (x.k = y.k) && decide (x.s = y.s))))))
theorem eqE_iff (x y : Ent) : eqE x y = true ↔ x = y := by
  unfold eqE
  obtain ⟨a, b, c, d, e, f, g⟩ := x
  obtain ⟨a', b', c', d', e', f', g'⟩ := y
  simp only [Bool.and_eq_true, decide_eq_true_eq, Ent.mk.injEq]
theorem bstr_eqL (a b : List UInt8) : ((bstr a).toList = (bstr b).toList) ↔ a = b := by
  rw [ByteArray.toList_eq, ByteArray.toList_eq]
  constructor
  · intro h
    exact str_inj (by rw [ByteArray.ext_iff]; exact Array.toList_inj.1 h)
  · rintro rfl; rfl
theorem eql_ent (w : World) (x y : Ent) : (binOp .eql 36 (.agg #[.string (bstr x.id), .string (bstr x.title), .string (bstr x.link), .string (bstr x.author), .string (bstr x.content), .bool x.k, .int .i64 x.s]) (.agg #[.string (bstr y.id), .string (bstr y.title), .string (bstr y.link), .string (bstr y.author), .string (bstr y.content), .bool y.k, .int .i64 y.s])).run Tryz.prog w = .ok (.bool (eqE x y)) w := by
  unfold eqE
  go_simp
  simp only [bstr_eqL]
  obtain ⟨a, b, c, d, e, f, g⟩ := x
  obtain ⟨a', b', c', d', e', f', g'⟩ := y
  dsimp only
  (repeat' split) <;> simp_all
set_option maxHeartbeats 4000000 in
set_option maxRecDepth 100000 in
theorem refSameEntry_any (x y : Ent) (w : World) : Calls Tryz.prog 30 #[.agg x.cells, .agg y.cells] w fun e w' => e = .returned (.bool (eqE x y)) ∧ Below w.heap.size w w' := by
  have hE := fun W => eql_ent W x y
  have HO := hide ((below_alloc w (.cells x.cells 36)).trans ((below_alloc _ (.cells y.cells 36)).mono (by simp)))
  obtain ⟨v, hv⟩ : ∃ v, eqE x y = v := ⟨_, rfl⟩
  rw [hv]
  simp only [hv] at hE
  clear hv
  unfold Ent.cells at HO ⊢
  go_enter Tryz.func30, Tryz.ntmps30
  go_wp2
  go_ret
  exact ⟨rfl, HO.out⟩
end Go.Proofs.YtlcfakmbcfdgbaaGreat
namespace Go.Proofs.YtlcfakmbcfdgbaaGreat
open Go.RowKit Go.WideShapes

theorem eq_takeW {α : Type} {l l' : List α} {k : Nat} (h1 : k < l.length) (h2 : k < l'.length) (ht : l.take k = l'.take k) (he : l[k] = l'[k]) : l.take (k + 1) = l'.take (k + 1) := by
  rw [List.take_succ_eq_append_getElem h1, List.take_succ_eq_append_getElem h2, ht, he]
theorem ne_atW {α : Type} {l l' : List α} {k : Nat} (h1 : k < l.length) (h2 : k < l'.length) (he : l[k] ≠ l'[k]) : l ≠ l' := by
  rintro rfl; exact he rfl
noncomputable def sameP (f g : Fd) : Bool := @decide (f = g) (Classical.propDecidable _)
theorem sameP_yes {f g : Fd} (h : f = g) : sameP f g = true := by unfold sameP; exact @decide_eq_true _ (Classical.propDecidable _) h
theorem sameP_no {f g : Fd} (h : f ≠ g) : sameP f g = false := by unfold sameP; exact @decide_eq_false _ (Classical.propDecidable _) h
set_option maxHeartbeats 8000000 in
set_option maxRecDepth 100000 in
theorem refSame26_any (f g : Fd) (A A' : Option Addr) (n c n' c' B : Nat) (w : World) (hR : Reads w B 7 A n (entVs f.es)) (hn : f.es.length = n) (hR' : Reads w B 7 A' n' (entVs g.es)) (hn' : g.es.length = n') (hB : B ≤ w.heap.size) (hm : n ≤ 1000000) :
    Calls Tryz.prog 13 #[.agg (f.cells A n c), .agg (g.cells A' n' c')] w fun e w' => e = .returned (.bool (sameP f g)) ∧ Below w.heap.size w w' := by
  have HO := hide ((below_alloc w (.cells (f.cells A n c) 26)).trans ((below_alloc _ (.cells (g.cells A' n' c') 26)).mono (by simp)))
  have HT := hide ((Blk.new w 26 (f.cells A n c)).alloc (.cells (g.cells A' n' c') 26))
  have hU := Blk.new (w.alloc (.cells (f.cells A n c) 26)) 26 (g.cells A' n' c')
  rw [World.size_alloc] at hU
  have HU := hide hU
  clear hU
  have HRd := hide hR
  have HRd' := hide hR'
  have Hn := hide hn
  have Hn' := hide hn'
  clear hR hR' hn hn'
  obtain ⟨v, hv⟩ : ∃ v, sameP f g = v := ⟨_, rfl⟩
  have HV := hide hv
  rw [hv]
  clear hv
  obtain ⟨id, ti, lk, k, s, es⟩ := f
  obtain ⟨id', ti', lk', k', s', es'⟩ := g
  unfold Fd.cells at HO HT HU ⊢
  dsimp only at HO HT HU HRd HRd' Hn Hn' ⊢
  have t0 := HT.out.cell 0
  have t1 := HT.out.cell 1
  have t2 := HT.out.cell 2
  have t3 := HT.out.cell 3
  have t4 := HT.out.cell 4
  have t5 := HT.out.cell 5
  have u0 := HU.out.cell 0
  have u1 := HU.out.cell 1
  have u2 := HU.out.cell 2
  have u3 := HU.out.cell 3
  have u4 := HU.out.cell 4
  have u5 := HU.out.cell 5
  by_cases h1 : id = id'
  rotate_left
  · have hb := bstr_beq h1
    have hvf : v = false := HV.out.symm.trans (sameP_no (fun e => h1 (by injection e)))
    subst hvf
    clear h1
    go_enter Tryz.func13, Tryz.ntmps13
    go_wp2
    go_ret
    exact ⟨rfl, HO.out⟩
  subst h1
  by_cases h2 : ti = ti'
  rotate_left
  · have hb := bstr_beq h2
    have hvf : v = false := HV.out.symm.trans (sameP_no (fun e => h2 (by injection e)))
    subst hvf
    clear h2
    go_enter Tryz.func13, Tryz.ntmps13
    go_wp2
    go_ret
    exact ⟨rfl, HO.out⟩
  subst h2
  by_cases h3 : lk = lk'
  rotate_left
  · have hb := bstr_beq h3
    have hvf : v = false := HV.out.symm.trans (sameP_no (fun e => h3 (by injection e)))
    subst hvf
    clear h3
    go_enter Tryz.func13, Tryz.ntmps13
    go_wp2
    go_ret
    exact ⟨rfl, HO.out⟩
  subst h3
  by_cases h4 : k = k'
  rotate_left
  · have hvf : v = false := HV.out.symm.trans (sameP_no (fun e => h4 (by injection e)))
    subst hvf
    go_enter Tryz.func13, Tryz.ntmps13
    go_wp2
    go_ret
    exact ⟨rfl, HO.out⟩
  subst h4
  by_cases h5 : s = s'
  rotate_left
  · have hvf : v = false := HV.out.symm.trans (sameP_no (fun e => h5 (by injection e)))
    subst hvf
    go_enter Tryz.func13, Tryz.ntmps13
    go_wp2
    go_ret
    exact ⟨rfl, HO.out⟩
  subst h5
  by_cases h6 : n = n'
  rotate_left
  · have hvf : v = false := HV.out.symm.trans (sameP_no (fun e => h6 (by injection e with _ _ _ _ _ e; rw [← Hn.out, ← Hn'.out, e])))
    subst hvf
    have hne : ((n : Int) == (n' : Int)) = false := by simp; omega
    go_enter Tryz.func13, Tryz.ntmps13
    go_wp2
    go_ret
    exact ⟨rfl, HO.out⟩
  subst h6
  have hz2 : ((w.alloc (.cells #[.string (bstr id), .string (bstr ti), .string (bstr lk), .bool k, .int .i64 s, .slice A n c] 26)).alloc (.cells #[.string (bstr id), .string (bstr ti), .string (bstr lk), .bool k, .int .i64 s, .slice A' n c'] 26)).heap.size = w.heap.size + 2 := by simp
  have HZ2 := hide hz2
  clear hz2
  go_enter Tryz.func13, Tryz.ntmps13
  go_wp2
  clear t0 t1 t2 t3 t4 t5 u0 u1 u2 u3 u4 u5
  generalize (w.alloc (.cells #[.string (bstr id), .string (bstr ti), .string (bstr lk), .bool k, .int .i64 s, .slice A n c] 26)).alloc (.cells #[.string (bstr id), .string (bstr ti), .string (bstr lk), .bool k, .int .i64 s, .slice A' n c'] 26) = W2 at HT HU HO HZ2 ⊢
  go_loopg [5] n (fun gk vi wr => ∃ i : Nat, gk = n - i ∧ i ≤ n ∧ vi = .int .i64 (i : Int) ∧ es.take i = es'.take i ∧ Below W2.heap.size W2 wr)
  case atStart => exact ⟨0, rfl, Nat.zero_le _, rfl, by simp, Below.refl _ _⟩
  case round =>
    obtain ⟨i, hg, hi, rfl, hq, kb⟩ := hrel
    have Hg := hide hg
    have Kb := hide kb
    have Hq := hide hq
    have t5 := (HT.out.go kb).cell 5
    have u5 := (HU.out.go kb).cell 5
    clear hg kb hq
    have hzr : W2.heap.size ≤ wr.heap.size := Kb.out.size
    have hkeep : ∀ p : Addr, p.block < B → wr.cell? p = w.cell? p := fun p hp => World.cell?_of_block ((Kb.out.block _ (by have := HZ2.out; omega)).trans (HO.out.block _ (by omega)))
    by_cases hlt : i < n
    · have h1 : i < es.length := by rw [Hn.out]; exact hlt
      have h2 : i < es'.length := by rw [Hn'.out]; exact hlt
      have hRw : Reads wr B 7 A es.length (entVs es) := by rw [Hn.out]; exact HRd.out.keep fun p hp => hkeep p hp
      have hRw' : Reads wr B 7 A' es'.length (entVs es') := by rw [Hn'.out]; exact HRd'.out.keep fun p hp => hkeep p hp
      obtain ⟨b, off, rfl, hbB, hx⟩ := hRw.ent h1
      obtain ⟨b', off', rfl, hbB', hy⟩ := hRw'.ent h2
      obtain ⟨x, ex⟩ : ∃ x, es[i] = x := ⟨_, rfl⟩
      obtain ⟨y, ey⟩ : ∃ x, es'[i] = x := ⟨_, rfl⟩
      rw [ex] at hx
      rw [ey] at hy
      have HS := hide (fun W => refSameEntry_any x y W)
      have HTk := hide (fun he : x = y => eq_takeW h1 h2 Hq.out (by rw [ex, ey, he]))
      have HNe := hide (fun he : x ≠ y => (fun h => ne_atW h1 h2 (by rw [ex, ey]; exact he) h : es ≠ es'))
      clear ex ey hRw hRw' hkeep
      obtain ⟨xi, xt, xl, xa, xc, xk, xs⟩ := x
      obtain ⟨yi, yt, yl, ya, yc, yk, ys⟩ := y
      unfold Ent.cells at HS
      dsimp only at HS
      have x0 := hx.c0
      have x1 := hx.c1
      have x2 := hx.c2
      have x3 := hx.c3
      have x4 := hx.c4
      have x5 := hx.c5
      have x6 := hx.c6
      have y0 := hy.c0
      have y1 := hy.c1
      have y2 := hy.c2
      have y3 := hy.c3
      have y4 := hy.c4
      have y5 := hy.c5
      have y6 := hy.c6
      dsimp only at x0 x1 x2 x3 x4 x5 x6 y0 y1 y2 y3 y4 y5 y6
      have i0 : (0 : Int) ≤ i := by omega
      have i1 : (i : Int) < n := by omega
      have Hw0 := hide (Kb.out.drew)
      clear hx hy
      obtain ⟨ev, hev⟩ : ∃ ev, eqE ⟨xi, xt, xl, xa, xc, xk, xs⟩ ⟨yi, yt, yl, ya, yc, yk, ys⟩ = ev := ⟨_, rfl⟩
      rw [hev] at HS
      have HEv := hide hev
      clear hev
      cases ev with
      | true =>
        have He := hide (HTk.out ((eqE_iff _ _).1 HEv.out))
        clear HTk HNe HEv
        go_wp2
        go_region_with ((go_at_call 30; refine (HS.out _).mono ?_; rintro e w1 ⟨rfl, hb1⟩; have Kb1 := hide (Hw0.out.trans (hb1.mono Hw0.out.size)); clear hb1))
        all_goals go_wp2
        all_goals
          go_roundg (n - (i + 1))
          case measure => have := Hg.out; omega
          case rel => exact ⟨i + 1, rfl, by omega, by go_num, He.out, Kb1.out⟩
      | false =>
        have hne : (⟨id, ti, lk, k, s, es⟩ : Fd) ≠ ⟨id, ti, lk, k, s, es'⟩ := fun h => HNe.out (fun he => by have := (eqE_iff _ _).2 he; rw [HEv.out] at this; cases this) (by injection h)
        have hvf : v = false := HV.out.symm.trans (sameP_no hne)
        subst hvf
        clear HTk HNe HEv hne
        go_wp2
        go_region_with ((go_at_call 30; refine (HS.out _).mono ?_; rintro e w1 ⟨rfl, hb1⟩; have Kb1 := hide (Hw0.out.trans (hb1.mono Hw0.out.size)); clear hb1))
        all_goals go_wp2
        all_goals
          go_ret
          exact ⟨rfl, HO.out.trans (Kb1.out.mono HO.out.size)⟩
    · have heq : es = es' := by
        have h := Hq.out
        rwa [List.take_of_length_le (by rw [Hn.out]; omega), List.take_of_length_le (by rw [Hn'.out]; omega)] at h
      have hvt : v = true := HV.out.symm.trans (sameP_yes (by rw [heq]))
      subst hvt
      clear heq
      go_wp2
      go_ret
      exact ⟨rfl, HO.out.trans (Kb.out.mono HO.out.size)⟩
end Go.Proofs.YtlcfakmbcfdgbaaGreat
namespace Go.Proofs.YtlcfakmbcfdgbaaGreat
open Go.RowKit Go.WideShapes

set_option maxHeartbeats 4000000 in
set_option maxRecDepth 100000 in
theorem refWhen_any (k : Bool) (n : Int) (w : World) (hn : (Lit.int .i64 n).wf = true) :
    Calls Tryz.prog 28 #[.agg #[.bool k, .int .i64 n]] w fun e w' => e = .returned (.bool (whenP k n)) ∧ Below w.heap.size w w' := by
  have hnb := wf_i64r hn
  have HO := hide (below_alloc w (.cells #[.bool k, .int .i64 n] 23))
  cases k with
  | true =>
    by_cases h1 : -62135596800 ≤ n
    · by_cases h2 : n ≤ 253402300799
      · have HV := hide (show whenP true n = true by unfold whenP; rw [if_pos rfl, decide_eq_true h1, decide_eq_true h2]; rfl)
        go_enter Tryz.func28, Tryz.ntmps28
        go_wp2
        go_ret
        rw [HV.out]
        exact ⟨rfl, HO.out⟩
      · have HV := hide (show whenP true n = false by unfold whenP; rw [if_pos rfl, decide_eq_false h2]; simp)
        go_enter Tryz.func28, Tryz.ntmps28
        go_wp2
        go_ret
        rw [HV.out]
        exact ⟨rfl, HO.out⟩
    · have HV := hide (show whenP true n = false by unfold whenP; rw [if_pos rfl, decide_eq_false h1]; rfl)
      go_enter Tryz.func28, Tryz.ntmps28
      go_wp2
      go_ret
      rw [HV.out]
      exact ⟨rfl, HO.out⟩
  | false =>
    have HV := hide (show whenP false n = (n == 0) by unfold whenP; rfl)
    go_enter Tryz.func28, Tryz.ntmps28
    go_wp2
    go_ret
    rw [HV.out]
    exact ⟨rfl, HO.out⟩

theorem field_str (nm t : List UInt8) : bstr (Wr.field nm t) = bstr [60] ++ (bstr nm ++ (bstr [62] ++ (bstr (Tx.escape false t) ++ (bstr [60, 47] ++ (bstr nm ++ bstr [62, 10]))))) := by
  have e : Wr.field nm t = [60] ++ (nm ++ ([62] ++ (Tx.escape false t ++ ([60, 47] ++ (nm ++ [62, 10]))))) := by
    unfold Wr.field Wr.line
    simp
  rw [e]
  simp only [bstr_app]
set_option maxHeartbeats 4000000 in
set_option maxRecDepth 100000 in
theorem refLine26_any (nm t : List UInt8) (w : World) (hn : nm.length ≤ 100) (ht : t.length ≤ 20000) :
    Calls Tryz.prog 23 #[.string (bstr nm), .string (bstr t)] w fun e w' => e = .returned (.string (bstr (Wr.field nm t))) ∧ w' = w := by
  have HE := hide (fun W => refEscape13_any false t W (by omega))
  have HF := hide (field_str nm t)
  have hel := Tx.escape_len false t
  have s1 : (bstr nm).size = nm.length := bstr_size _
  have s2 : (bstr (Tx.escape false t)).size = (Tx.escape false t).length := bstr_size _
  obtain ⟨n1, hn1⟩ : ∃ n, nm.length = n := ⟨_, rfl⟩
  obtain ⟨n2, hn2⟩ : ∃ n, (Tx.escape false t).length = n := ⟨_, rfl⟩
  rw [hn1] at hn s1
  rw [hn2] at hel s2
  obtain ⟨S1, hS1⟩ : ∃ S, bstr nm = S := ⟨_, rfl⟩
  obtain ⟨S2, hS2⟩ : ∃ S, bstr (Tx.escape false t) = S := ⟨_, rfl⟩
  rw [hS1] at s1 HF ⊢
  rw [hS2] at s2 HE HF
  obtain ⟨R, hR⟩ : ∃ R, bstr (Wr.field nm t) = R := ⟨_, rfl⟩
  rw [hR] at HF ⊢
  have hn2b : n2 ≤ 200000 := by omega
  clear hn1 hn2 hS1 hS2 hR hel
  go_enter Tryz.func23, Tryz.ntmps23
  go_wp2_with fail
  go_wp2_with fail
  refine cq (HE.out _) ?_
  dsimp only
  go_wp2
  go_ret
  refine ⟨?_, rfl⟩
  rw [HF.out]
  simp [ByteArray.append_assoc]
  rfl
end Go.Proofs.YtlcfakmbcfdgbaaGreat
