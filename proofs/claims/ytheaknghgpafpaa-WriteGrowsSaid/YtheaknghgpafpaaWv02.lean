/- NFC: the table turned about. · NFC: the table. Printed by genNfE.py. -/
import Derived.Test.YtheaknghgpafpaaWv01
set_option linter.unusedSimpArgs false
set_option linter.unusedVariables false
namespace Go.Proofs.Ytheaknghgpafpaa
open Go.RowKit Go.WideShapes

/-- A map of what wholes are made of. -/
structure QM (w : World) (b n : Nat) (l : List ((Int × Int) × Int)) (D : DataW Unit) : Prop where
  own : w.ownsMap Try.prog 3 pairElem b n D
  at_ : ∀ r z, D.atKey (.int .i64 r) z = ((Nf.lookM r l).map prD).getD z
  has : ∀ r, Maps.has D (.int .i64 r) = (Nf.lookM r l).isSome
theorem lookW_mem {p : Int × Int} {v : Int} : ∀ {l : List ((Int × Int) × Int)}, Nf.lookW p l = some v → (p, v) ∈ l
  | [], h => by cases h
  | x :: l, h => by
    rw [Nf.lookW] at h
    split at h
    · rename_i hx; cases h; subst hx; exact List.mem_cons_self ..
    · exact List.mem_cons_of_mem _ (lookW_mem h)
theorem lookM_of {p : Int × Int} {v : Int} : ∀ {l : List ((Int × Int) × Int)}, (l.map (·.2)).Nodup → (p, v) ∈ l → Nf.lookM v l = some p
  | x :: l, hn, h => by
    rw [List.map_cons, List.nodup_cons] at hn
    rw [Nf.lookM]
    rcases List.mem_cons.1 h with rfl | h
    · rw [if_pos rfl]
    · rw [if_neg (fun e => hn.1 (by rw [e]; exact List.mem_map_of_mem (f := (·.2)) h))]
      exact lookM_of hn.2 h
theorem lookW_of {p : Int × Int} {v : Int} : ∀ {l : List ((Int × Int) × Int)}, (l.map (·.1)).Nodup → (p, v) ∈ l → Nf.lookW p l = some v
  | x :: l, hn, h => by
    rw [List.map_cons, List.nodup_cons] at hn
    rw [Nf.lookW]
    rcases List.mem_cons.1 h with rfl | h
    · rw [if_pos rfl]
    · rw [if_neg (fun e => hn.1 (by rw [e]; exact List.mem_map_of_mem (f := (·.1)) h))]
      exact lookW_of hn.2 h
/-- What is turned about already. -/
def Done (Dout : DataW Unit) (l : List ((Int × Int) × Int)) (left : Lit → Bool) : Prop :=
  (∀ r z, Dout.atKey (.int .i64 r) z = match Nf.lookM r l with | some x => if left (klP x) then z else prD x | none => z) ∧
  ∀ r, Maps.has Dout (.int .i64 r) = match Nf.lookM r l with | some x => !left (klP x) | none => false
theorem klP_self (x : Int × Int) : (klP x).sameKey (klP x) = true := by
  unfold klP
  exact WideAt.sameKey_self (by simp [WideAt.IsKeyLit])
theorem Done.next {Dout : DataW Unit} {l : List ((Int × Int) × Int)} {left : Lit → Bool} {x : Int × Int} {v : Int} (h : Done Dout l left) (hi : Maps.IsMap Dout) (hk : (l.map (·.1)).Nodup) (hv : (l.map (·.2)).Nodup) (hwf : ∀ p ∈ l, Wf2 p.1) (hx : Wf2 x) (hm : (x, v) ∈ l) : Done (Dout.put (.int .i64 v) (prD x)) l (fun z => left z && !z.sameKey (klP x)) := by
  have hl := lookM_of hv hm
  have hne : ∀ r y, r ≠ v → Nf.lookM r l = some y → klP y ≠ klP x := fun r y e hr h => by
    have hy := Nf.lookM_mem hr
    have := klP_inj (hwf _ hy) hx h
    subst this
    have := (lookW_of hk hy).symm.trans (lookW_of hk hm)
    exact e (Option.some.inj this)
  refine ⟨fun r z => ?_, fun r => ?_⟩
  · by_cases e : r = v
    · subst e
      rw [Maps.atKey_put_same hi (by simp [WideAt.IsKeyLit]), hl]
      simp [klP_self]
    · rw [Maps.atKey_put_other (fun h => e (by injection h)), h.1 r z]
      cases hr : Nf.lookM r l with
      | none => rfl
      | some y => simp [Maps.sameKey_ne (hne r y e hr)]
  · by_cases e : r = v
    · subst e
      rw [Maps.has_put_same hi (by simp [WideAt.IsKeyLit]), hl]
      simp [klP_self]
    · rw [Maps.has_put_other (fun h => e (by injection h)), h.2 r]
      cases hr : Nf.lookM r l with
      | none => rfl
      | some y => simp [Maps.sameKey_ne (hne r y e hr)]
theorem Done.start {D : DataW Unit} {l : List ((Int × Int) × Int)} (hk : (l.map (·.1)).Nodup) (hwf : ∀ p ∈ l, Wf2 p.1) (hh : ∀ x, Wf2 x → Maps.has D (klP x) = (Nf.lookW x l).isSome) : Done (.map []) l (Maps.has D) := by
  have key : ∀ r y, Nf.lookM r l = some y → Maps.has D (klP y) = true := fun r y hr => by
    have hy := Nf.lookM_mem hr
    rw [hh y (hwf _ hy), lookW_of hk hy]
    rfl
  refine ⟨fun r z => ?_, fun r => ?_⟩
  · cases hr : Nf.lookM r l with
    | none => rfl
    | some y => simp [key r y hr]; rfl
  · cases hr : Nf.lookM r l with
    | none => rfl
    | some y => simp [key r y hr]; rfl
theorem Done.stop {w : World} {b n : Nat} {Dout : DataW Unit} {l : List ((Int × Int) × Int)} {left : Lit → Bool} (h : Done Dout l left) (h0 : ∀ k, left k = false) (ho : w.ownsMap Try.prog 3 pairElem b n Dout) : QM w b n l Dout := by
  refine ⟨ho, fun r z => ?_, fun r => ?_⟩
  · rw [h.1 r z]
    cases hr : Nf.lookM r l with
    | none => rfl
    | some y => simp [h0]
  · rw [h.2 r]
    cases hr : Nf.lookM r l with
    | none => rfl
    | some y => simp [h0]
set_option maxHeartbeats 8000000 in
theorem flip_any (b n : Nat) (l : List ((Int × Int) × Int)) (D : DataW Unit) (w : World) (h : PM w b n l D) (hk : (l.map (·.1)).Nodup) (hv : (l.map (·.2)).Nodup) (hwf : ∀ p ∈ l, Wf2 p.1) (hn : n ≤ 1000000) :
    Calls Try.prog 85 #[.map (some b)] w fun e w' => ∃ n' D', e = .returned (.map (some w.heap.size)) ∧ QM w' w.heap.size n' l D' ∧ n' ≤ 1000000 ∧ Below w.heap.size w w' := by
  have hmm := @run_makeMap Try.prog
  have hmax : Maps.size D ≤ 1000000 := Nat.le_trans h.own.size_le hn
  have hbl := h.own.lt
  have hown := h.own
  have e1 : (w.alloc (.map #[] 0)).heap.size = w.heap.size + 1 := by simp
  have HS := hide (Done.start hk hwf h.has)
  have HH := hide h
  have Hk := hide hk
  have Hv := hide hv
  have Hwf := hide hwf
  clear h hk hv hwf
  go_enter Try.func85, Try.ntmps85
  go_wp2_with (first
    | (at_range; refine wpList_range_own _ rfl _ 128 rfl 133 3 law_pr Try.underlying128 _ b n _ rfl (hown.alloc _) ?_; intro w0 hrg0 hg0 hs0)
    | go_in)
  go_frame
  rw [e1] at hrg0 hs0 ⊢
  go_loopg [5] (Maps.size D) (fun gk _ wr => ∃ (left : Lit → Bool) (cnt : Nat) (Dout : DataW Unit), gk = cnt ∧ wr.ranges Try.prog 133 (plainElem Try.prog 3) b (w.heap.size + 1) n D left cnt ∧ cnt ≤ Maps.size D ∧
      wr.ownsMap Try.prog 3 pairElem w.heap.size (Maps.size D - cnt) Dout ∧ Maps.IsMap Dout ∧ Done Dout l left ∧ (∀ z, left z = true → Maps.has D z = true) ∧ Below w.heap.size w wr ∧ w.heap.size + 2 ≤ wr.heap.size)
  case atStart =>
    exact ⟨_, _, .map [], rfl, hrg0, Nat.le_refl _, ((World.ownsMap_made _ _ _ _).kept hg0 (by simp)).mono (Nat.zero_le _), Maps.isMap_empty, HS.out, fun _ h => h, ((Below.refl _ _).alloc (Nat.le_refl _) _).grown hg0 (by simp) (fun j hj => by cases hj), by omega⟩
  case round =>
    obtain ⟨left, cnt, Dout, hgk, hrg, hcs, hout, him, hA, hlh, hnx, hsz⟩ := hrel
    have Hg := hide hgk
    have HA := hide hA
    have Hlh := hide hlh
    have Hnx := hide hnx
    clear hgk hA hlh hnx
    go_wp2_with (first
      | (at_next; go_loud (refine wpList_next_ranges _ rfl _ rfl 133 law_pr (plainElem Try.prog 3) (fun x : Int × Int => .agg #[.int .i64 x.1, .int .i64 x.2]) (fun z => .int .i64 z) (fun key kl h => by obtain ⟨x, _, e, _⟩ := keyOf_pr_inv h; exact ⟨x, e⟩) (fun v y h => by obtain ⟨c, e, _⟩ := plainElem_int_inv Try.underlying3 h; exact ⟨c, e⟩) b (w.heap.size + 1) n _ _ _ rfl hrg ?_ ?_))
      | go_in)
    · intro hc0 hl0
      go_wp2
      go_ret
      exact ⟨_, Dout, rfl, HA.out.stop hl0 hout, by omega, Hnx.out⟩
    · intro x1 x2 c kl y1 y2 w1 cnt1 hkey hlx hy hat hrg1 hlt hg1 hs1 hen
      obtain ⟨x', hwx, ex, ekl⟩ := keyOf_pr_inv hkey
      have ex' : (x1, x2) = x' := prV_inj ex
      subst ex'
      subst ekl
      obtain ⟨c', ec, ey, hwc⟩ := plainElem_int_inv Try.underlying3 hy
      cases ec
      cases ey
      have hmem : ((x1, x2), c) ∈ l := by
        have h1 := HH.out.at_ (x1, x2) hwx
        rw [hat] at h1
        have hh := HH.out.has (x1, x2) hwx
        cases hl : Nf.lookW (x1, x2) l with
        | none =>
          rw [hl] at hh
          have := Hlh.out _ hlx
          rw [hh] at this
          cases this
        | some v =>
          rw [hl] at h1
          injection h1 with h1
          injection h1 with _ h1
          rw [h1]
          exact lookW_mem hl
      have Hhat := hide hmem
      have Hhw := hide hwx
      have hout1 := hout.kept hg1 (by simp)
      have Hout := hide hout1
      have Hrg := hide hrg1
      have Hgr := hide hg1
      have e5 : w1.heap.size = wr.heap.size := hs1
      have Him := hide him
      have hnj : Maps.size D - cnt < maxLen := by unfold maxLen; omega
      clear ex hkey hlx hy hat hrg hrg1 hout hout1 hg1 hmem hwx him hown hrg0 hg0 hs0 hmm
      go_wp2_with (first
        | (at_mapUpdate; go_loud (refine wpList_mapUpdate_own _ rfl _ _ _ 129 rfl 3 133 law_int Try.underlying129 _ w.heap.size (Maps.size D - cnt) Dout rfl (Hout.out.alloc _) hnj _ _ _ (by rfl) (by rfl) (Maps.keyOf_int_mk Try.underlying3 hwc) _ [] (pairElem_mk (x1, x2)) ?_); intro w2 hout2 hg2; go_frame)
        | go_in)
      have e6 : (w1.alloc (.cells #[.int .i64 x1, .int .i64 x2] 133)).heap.size = wr.heap.size + 1 := by rw [World.size_alloc, e5]
      go_roundg cnt1
      case measure => have := Hg.out; omega
      case rel =>
        exact ⟨_, cnt1, _, rfl, (Hrg.out.alloc _).kept hg2 (fun e => by have := Option.some.inj e; omega) (fun e => by have := Option.some.inj e; omega), by omega, hout2.mono (by omega), Him.out.put _ _, HA.out.next Him.out Hk.out Hv.out Hwf.out Hhw.out Hhat.out,
          fun z hz => Hlh.out z (by simp only [Bool.and_eq_true] at hz; exact hz.1),
          ((Hnx.out.grown Hgr.out Hnx.out.size (fun j hj => by cases hj; exact Nat.le_succ _)).alloc (by have := Hnx.out.size; omega) _).grown hg2 (by have := Hnx.out.size; omega) (fun j hj => by cases hj; exact Nat.le_refl _), by have := hg2.size; omega⟩
end Go.Proofs.Ytheaknghgpafpaa
namespace Go.Proofs.Ytheaknghgpafpaa
open Go.RowKit Go.WideShapes

theorem reads_newI (w : World) (ws : List Int) : Reads (w.alloc (.cells (intVs ws).toArray 3)) (w.alloc (.cells (intVs ws).toArray 3)).heap.size 1 (some ⟨w.heap.size, 0, none⟩) ws.length (intVs ws) := by
  refine ⟨by simp [intVs], fun _ => ⟨w.heap.size, 0, rfl, by simp, fun j u hu => ?_⟩⟩
  rw [Nat.zero_add, (Blk.new w 3 (intVs ws).toArray).cell j]
  simpa using hu
theorem row_new (b n : Nat) (mark : Int) (s : ByteArray) (ls ws : List Int) (l : List ((Int × Int) × Int)) (hs : Runes s 0 ls) (hlw : ls.length ≤ ws.length)
    (hnd : ls.Nodup) (hfr : ∀ a ∈ ls, Nf.lookW (a, mark) l = none) (hwf : ∀ a ∈ ls, Wf2 (a, mark)) (hwv : ∀ v ∈ ws, (Lit.int .i64 v).wf = true) (hn : n + ls.length ≤ 1000000) (D : DataW Unit) (W : World) (h : PM W b n l D) :
    Calls Try.prog 84 #[.map (some b), .int .i64 mark, .string s, .slice (some ⟨W.heap.size, 0, none⟩) ws.length ws.length] (W.alloc (.cells (intVs ws).toArray 3)) fun e w' => ∃ D', e = .returned (.tuple #[]) ∧ PM w' b (n + ls.length) (l ++ Nf.rowOf mark ls ws) D' ∧ But b W w' := by
  refine (row_any b n mark s ls ws _ _ l D _ (h.go (Below.heap_alloc W _ b h.own.lt)) hs (reads_newI W ws) hlw hnd hfr hwf hwv hn).mono ?_
  rintro e w' ⟨D', he, hp, hb⟩
  exact ⟨D', he, hp, ((But.refl b W).alloc _).trans hb⟩
theorem runes_300 : Runes ⟨#[65, 69, 73, 79, 85, 97, 101, 105, 111, 117]⟩ 0 Nf.l300 := by
  unfold Nf.l300
  repeat (refine .cons _ _ _ (by decide) (by decide) ?_)
  exact .nil _ (by decide)
theorem row_300 (b : Nat) (D : DataW Unit) (W : World) (h : PM W b 0 ([]) D) :
    Calls Try.prog 84 #[.map (some b), .int .i64 768, .string ⟨#[65, 69, 73, 79, 85, 97, 101, 105, 111, 117]⟩, .slice (some ⟨W.heap.size, 0, none⟩) 10 10] (W.alloc (.cells #[.int .i64 192, .int .i64 200, .int .i64 204, .int .i64 210, .int .i64 217, .int .i64 224, .int .i64 232, .int .i64 236, .int .i64 242, .int .i64 249] 3)) fun e w' => ∃ D', e = .returned (.tuple #[]) ∧ PM w' b 10 (Nf.rowOf 0x300 Nf.l300 Nf.w300) D' ∧ But b W w' :=
  row_new b 0 0x300 ⟨#[65, 69, 73, 79, 85, 97, 101, 105, 111, 117]⟩ Nf.l300 Nf.w300 ([]) runes_300 (by decide) (by decide) (by decide +kernel) (by unfold Wf2; decide +kernel) (by decide +kernel) (by decide) D W h
theorem runes_301 : Runes ⟨#[65, 69, 73, 79, 85, 89, 97, 101, 105, 111, 117, 121, 195, 170, 195, 188]⟩ 0 Nf.l301 := by
  unfold Nf.l301
  repeat (refine .cons _ _ _ (by decide) (by decide) ?_)
  exact .nil _ (by decide)
theorem row_301 (b : Nat) (D : DataW Unit) (W : World) (h : PM W b 10 (Nf.rowOf 0x300 Nf.l300 Nf.w300) D) :
    Calls Try.prog 84 #[.map (some b), .int .i64 769, .string ⟨#[65, 69, 73, 79, 85, 89, 97, 101, 105, 111, 117, 121, 195, 170, 195, 188]⟩, .slice (some ⟨W.heap.size, 0, none⟩) 14 14] (W.alloc (.cells #[.int .i64 193, .int .i64 201, .int .i64 205, .int .i64 211, .int .i64 218, .int .i64 221, .int .i64 225, .int .i64 233, .int .i64 237, .int .i64 243, .int .i64 250, .int .i64 253, .int .i64 7871, .int .i64 472] 3)) fun e w' => ∃ D', e = .returned (.tuple #[]) ∧ PM w' b 24 (Nf.rowOf 0x300 Nf.l300 Nf.w300 ++ Nf.rowOf 0x301 Nf.l301 Nf.w301) D' ∧ But b W w' :=
  row_new b 10 0x301 ⟨#[65, 69, 73, 79, 85, 89, 97, 101, 105, 111, 117, 121, 195, 170, 195, 188]⟩ Nf.l301 Nf.w301 (Nf.rowOf 0x300 Nf.l300 Nf.w300) runes_301 (by decide) (by decide) (by decide +kernel) (by unfold Wf2; decide +kernel) (by decide +kernel) (by decide) D W h
theorem runes_302 : Runes ⟨#[65, 69, 73, 79, 85, 97, 101, 105, 111, 117, 225, 186, 185]⟩ 0 Nf.l302 := by
  unfold Nf.l302
  repeat (refine .cons _ _ _ (by decide) (by decide) ?_)
  exact .nil _ (by decide)
theorem row_302 (b : Nat) (D : DataW Unit) (W : World) (h : PM W b 24 (Nf.rowOf 0x300 Nf.l300 Nf.w300 ++ Nf.rowOf 0x301 Nf.l301 Nf.w301) D) :
    Calls Try.prog 84 #[.map (some b), .int .i64 770, .string ⟨#[65, 69, 73, 79, 85, 97, 101, 105, 111, 117, 225, 186, 185]⟩, .slice (some ⟨W.heap.size, 0, none⟩) 11 11] (W.alloc (.cells #[.int .i64 194, .int .i64 202, .int .i64 206, .int .i64 212, .int .i64 219, .int .i64 226, .int .i64 234, .int .i64 238, .int .i64 244, .int .i64 251, .int .i64 7879] 3)) fun e w' => ∃ D', e = .returned (.tuple #[]) ∧ PM w' b 35 (Nf.rowOf 0x300 Nf.l300 Nf.w300 ++ Nf.rowOf 0x301 Nf.l301 Nf.w301 ++ Nf.rowOf 0x302 Nf.l302 Nf.w302) D' ∧ But b W w' :=
  row_new b 24 0x302 ⟨#[65, 69, 73, 79, 85, 97, 101, 105, 111, 117, 225, 186, 185]⟩ Nf.l302 Nf.w302 (Nf.rowOf 0x300 Nf.l300 Nf.w300 ++ Nf.rowOf 0x301 Nf.l301 Nf.w301) runes_302 (by decide) (by decide) (by decide +kernel) (by unfold Wf2; decide +kernel) (by decide +kernel) (by decide) D W h
theorem runes_303 : Runes ⟨#[65, 78, 79, 97, 110, 111]⟩ 0 Nf.l303 := by
  unfold Nf.l303
  repeat (refine .cons _ _ _ (by decide) (by decide) ?_)
  exact .nil _ (by decide)
theorem row_303 (b : Nat) (D : DataW Unit) (W : World) (h : PM W b 35 (Nf.rowOf 0x300 Nf.l300 Nf.w300 ++ Nf.rowOf 0x301 Nf.l301 Nf.w301 ++ Nf.rowOf 0x302 Nf.l302 Nf.w302) D) :
    Calls Try.prog 84 #[.map (some b), .int .i64 771, .string ⟨#[65, 78, 79, 97, 110, 111]⟩, .slice (some ⟨W.heap.size, 0, none⟩) 6 6] (W.alloc (.cells #[.int .i64 195, .int .i64 209, .int .i64 213, .int .i64 227, .int .i64 241, .int .i64 245] 3)) fun e w' => ∃ D', e = .returned (.tuple #[]) ∧ PM w' b 41 (Nf.rowOf 0x300 Nf.l300 Nf.w300 ++ Nf.rowOf 0x301 Nf.l301 Nf.w301 ++ Nf.rowOf 0x302 Nf.l302 Nf.w302 ++ Nf.rowOf 0x303 Nf.l303 Nf.w303) D' ∧ But b W w' :=
  row_new b 35 0x303 ⟨#[65, 78, 79, 97, 110, 111]⟩ Nf.l303 Nf.w303 (Nf.rowOf 0x300 Nf.l300 Nf.w300 ++ Nf.rowOf 0x301 Nf.l301 Nf.w301 ++ Nf.rowOf 0x302 Nf.l302 Nf.w302) runes_303 (by decide) (by decide) (by decide +kernel) (by unfold Wf2; decide +kernel) (by decide +kernel) (by decide) D W h
theorem runes_304 : Runes ⟨#[195, 188]⟩ 0 Nf.l304 := by
  unfold Nf.l304
  repeat (refine .cons _ _ _ (by decide) (by decide) ?_)
  exact .nil _ (by decide)
theorem row_304 (b : Nat) (D : DataW Unit) (W : World) (h : PM W b 41 (Nf.rowOf 0x300 Nf.l300 Nf.w300 ++ Nf.rowOf 0x301 Nf.l301 Nf.w301 ++ Nf.rowOf 0x302 Nf.l302 Nf.w302 ++ Nf.rowOf 0x303 Nf.l303 Nf.w303) D) :
    Calls Try.prog 84 #[.map (some b), .int .i64 772, .string ⟨#[195, 188]⟩, .slice (some ⟨W.heap.size, 0, none⟩) 1 1] (W.alloc (.cells #[.int .i64 470] 3)) fun e w' => ∃ D', e = .returned (.tuple #[]) ∧ PM w' b 42 (Nf.rowOf 0x300 Nf.l300 Nf.w300 ++ Nf.rowOf 0x301 Nf.l301 Nf.w301 ++ Nf.rowOf 0x302 Nf.l302 Nf.w302 ++ Nf.rowOf 0x303 Nf.l303 Nf.w303 ++ Nf.rowOf 0x304 Nf.l304 Nf.w304) D' ∧ But b W w' :=
  row_new b 41 0x304 ⟨#[195, 188]⟩ Nf.l304 Nf.w304 (Nf.rowOf 0x300 Nf.l300 Nf.w300 ++ Nf.rowOf 0x301 Nf.l301 Nf.w301 ++ Nf.rowOf 0x302 Nf.l302 Nf.w302 ++ Nf.rowOf 0x303 Nf.l303 Nf.w303) runes_304 (by decide) (by decide) (by decide +kernel) (by unfold Wf2; decide +kernel) (by decide +kernel) (by decide) D W h
theorem runes_306 : Runes ⟨#[208, 152, 208, 184]⟩ 0 Nf.l306 := by
  unfold Nf.l306
  repeat (refine .cons _ _ _ (by decide) (by decide) ?_)
  exact .nil _ (by decide)
theorem row_306 (b : Nat) (D : DataW Unit) (W : World) (h : PM W b 42 (Nf.rowOf 0x300 Nf.l300 Nf.w300 ++ Nf.rowOf 0x301 Nf.l301 Nf.w301 ++ Nf.rowOf 0x302 Nf.l302 Nf.w302 ++ Nf.rowOf 0x303 Nf.l303 Nf.w303 ++ Nf.rowOf 0x304 Nf.l304 Nf.w304) D) :
    Calls Try.prog 84 #[.map (some b), .int .i64 774, .string ⟨#[208, 152, 208, 184]⟩, .slice (some ⟨W.heap.size, 0, none⟩) 2 2] (W.alloc (.cells #[.int .i64 1049, .int .i64 1081] 3)) fun e w' => ∃ D', e = .returned (.tuple #[]) ∧ PM w' b 44 (Nf.rowOf 0x300 Nf.l300 Nf.w300 ++ Nf.rowOf 0x301 Nf.l301 Nf.w301 ++ Nf.rowOf 0x302 Nf.l302 Nf.w302 ++ Nf.rowOf 0x303 Nf.l303 Nf.w303 ++ Nf.rowOf 0x304 Nf.l304 Nf.w304 ++ Nf.rowOf 0x306 Nf.l306 Nf.w306) D' ∧ But b W w' :=
  row_new b 42 0x306 ⟨#[208, 152, 208, 184]⟩ Nf.l306 Nf.w306 (Nf.rowOf 0x300 Nf.l300 Nf.w300 ++ Nf.rowOf 0x301 Nf.l301 Nf.w301 ++ Nf.rowOf 0x302 Nf.l302 Nf.w302 ++ Nf.rowOf 0x303 Nf.l303 Nf.w303 ++ Nf.rowOf 0x304 Nf.l304 Nf.w304) runes_306 (by decide) (by decide) (by decide +kernel) (by unfold Wf2; decide +kernel) (by decide +kernel) (by decide) D W h
theorem runes_308 : Runes ⟨#[65, 69, 73, 79, 85, 97, 101, 105, 111, 117, 121, 208, 149, 208, 181]⟩ 0 Nf.l308 := by
  unfold Nf.l308
  repeat (refine .cons _ _ _ (by decide) (by decide) ?_)
  exact .nil _ (by decide)
theorem row_308 (b : Nat) (D : DataW Unit) (W : World) (h : PM W b 44 (Nf.rowOf 0x300 Nf.l300 Nf.w300 ++ Nf.rowOf 0x301 Nf.l301 Nf.w301 ++ Nf.rowOf 0x302 Nf.l302 Nf.w302 ++ Nf.rowOf 0x303 Nf.l303 Nf.w303 ++ Nf.rowOf 0x304 Nf.l304 Nf.w304 ++ Nf.rowOf 0x306 Nf.l306 Nf.w306) D) :
    Calls Try.prog 84 #[.map (some b), .int .i64 776, .string ⟨#[65, 69, 73, 79, 85, 97, 101, 105, 111, 117, 121, 208, 149, 208, 181]⟩, .slice (some ⟨W.heap.size, 0, none⟩) 13 13] (W.alloc (.cells #[.int .i64 196, .int .i64 203, .int .i64 207, .int .i64 214, .int .i64 220, .int .i64 228, .int .i64 235, .int .i64 239, .int .i64 246, .int .i64 252, .int .i64 255, .int .i64 1025, .int .i64 1105] 3)) fun e w' => ∃ D', e = .returned (.tuple #[]) ∧ PM w' b 57 (Nf.rowOf 0x300 Nf.l300 Nf.w300 ++ Nf.rowOf 0x301 Nf.l301 Nf.w301 ++ Nf.rowOf 0x302 Nf.l302 Nf.w302 ++ Nf.rowOf 0x303 Nf.l303 Nf.w303 ++ Nf.rowOf 0x304 Nf.l304 Nf.w304 ++ Nf.rowOf 0x306 Nf.l306 Nf.w306 ++ Nf.rowOf 0x308 Nf.l308 Nf.w308) D' ∧ But b W w' :=
  row_new b 44 0x308 ⟨#[65, 69, 73, 79, 85, 97, 101, 105, 111, 117, 121, 208, 149, 208, 181]⟩ Nf.l308 Nf.w308 (Nf.rowOf 0x300 Nf.l300 Nf.w300 ++ Nf.rowOf 0x301 Nf.l301 Nf.w301 ++ Nf.rowOf 0x302 Nf.l302 Nf.w302 ++ Nf.rowOf 0x303 Nf.l303 Nf.w303 ++ Nf.rowOf 0x304 Nf.l304 Nf.w304 ++ Nf.rowOf 0x306 Nf.l306 Nf.w306) runes_308 (by decide) (by decide) (by decide +kernel) (by unfold Wf2; decide +kernel) (by decide +kernel) (by decide) D W h
theorem runes_30A : Runes ⟨#[65, 97]⟩ 0 Nf.l30A := by
  unfold Nf.l30A
  repeat (refine .cons _ _ _ (by decide) (by decide) ?_)
  exact .nil _ (by decide)
theorem row_30A (b : Nat) (D : DataW Unit) (W : World) (h : PM W b 57 (Nf.rowOf 0x300 Nf.l300 Nf.w300 ++ Nf.rowOf 0x301 Nf.l301 Nf.w301 ++ Nf.rowOf 0x302 Nf.l302 Nf.w302 ++ Nf.rowOf 0x303 Nf.l303 Nf.w303 ++ Nf.rowOf 0x304 Nf.l304 Nf.w304 ++ Nf.rowOf 0x306 Nf.l306 Nf.w306 ++ Nf.rowOf 0x308 Nf.l308 Nf.w308) D) :
    Calls Try.prog 84 #[.map (some b), .int .i64 778, .string ⟨#[65, 97]⟩, .slice (some ⟨W.heap.size, 0, none⟩) 2 2] (W.alloc (.cells #[.int .i64 197, .int .i64 229] 3)) fun e w' => ∃ D', e = .returned (.tuple #[]) ∧ PM w' b 59 (Nf.rowOf 0x300 Nf.l300 Nf.w300 ++ Nf.rowOf 0x301 Nf.l301 Nf.w301 ++ Nf.rowOf 0x302 Nf.l302 Nf.w302 ++ Nf.rowOf 0x303 Nf.l303 Nf.w303 ++ Nf.rowOf 0x304 Nf.l304 Nf.w304 ++ Nf.rowOf 0x306 Nf.l306 Nf.w306 ++ Nf.rowOf 0x308 Nf.l308 Nf.w308 ++ Nf.rowOf 0x30A Nf.l30A Nf.w30A) D' ∧ But b W w' :=
  row_new b 57 0x30A ⟨#[65, 97]⟩ Nf.l30A Nf.w30A (Nf.rowOf 0x300 Nf.l300 Nf.w300 ++ Nf.rowOf 0x301 Nf.l301 Nf.w301 ++ Nf.rowOf 0x302 Nf.l302 Nf.w302 ++ Nf.rowOf 0x303 Nf.l303 Nf.w303 ++ Nf.rowOf 0x304 Nf.l304 Nf.w304 ++ Nf.rowOf 0x306 Nf.l306 Nf.w306 ++ Nf.rowOf 0x308 Nf.l308 Nf.w308) runes_30A (by decide) (by decide) (by decide +kernel) (by unfold Wf2; decide +kernel) (by decide +kernel) (by decide) D W h
theorem runes_30C : Runes ⟨#[67, 83, 90, 99, 115, 122]⟩ 0 Nf.l30C := by
  unfold Nf.l30C
  repeat (refine .cons _ _ _ (by decide) (by decide) ?_)
  exact .nil _ (by decide)
theorem row_30C (b : Nat) (D : DataW Unit) (W : World) (h : PM W b 59 (Nf.rowOf 0x300 Nf.l300 Nf.w300 ++ Nf.rowOf 0x301 Nf.l301 Nf.w301 ++ Nf.rowOf 0x302 Nf.l302 Nf.w302 ++ Nf.rowOf 0x303 Nf.l303 Nf.w303 ++ Nf.rowOf 0x304 Nf.l304 Nf.w304 ++ Nf.rowOf 0x306 Nf.l306 Nf.w306 ++ Nf.rowOf 0x308 Nf.l308 Nf.w308 ++ Nf.rowOf 0x30A Nf.l30A Nf.w30A) D) :
    Calls Try.prog 84 #[.map (some b), .int .i64 780, .string ⟨#[67, 83, 90, 99, 115, 122]⟩, .slice (some ⟨W.heap.size, 0, none⟩) 6 6] (W.alloc (.cells #[.int .i64 268, .int .i64 352, .int .i64 381, .int .i64 269, .int .i64 353, .int .i64 382] 3)) fun e w' => ∃ D', e = .returned (.tuple #[]) ∧ PM w' b 65 (Nf.rowOf 0x300 Nf.l300 Nf.w300 ++ Nf.rowOf 0x301 Nf.l301 Nf.w301 ++ Nf.rowOf 0x302 Nf.l302 Nf.w302 ++ Nf.rowOf 0x303 Nf.l303 Nf.w303 ++ Nf.rowOf 0x304 Nf.l304 Nf.w304 ++ Nf.rowOf 0x306 Nf.l306 Nf.w306 ++ Nf.rowOf 0x308 Nf.l308 Nf.w308 ++ Nf.rowOf 0x30A Nf.l30A Nf.w30A ++ Nf.rowOf 0x30C Nf.l30C Nf.w30C) D' ∧ But b W w' :=
  row_new b 59 0x30C ⟨#[67, 83, 90, 99, 115, 122]⟩ Nf.l30C Nf.w30C (Nf.rowOf 0x300 Nf.l300 Nf.w300 ++ Nf.rowOf 0x301 Nf.l301 Nf.w301 ++ Nf.rowOf 0x302 Nf.l302 Nf.w302 ++ Nf.rowOf 0x303 Nf.l303 Nf.w303 ++ Nf.rowOf 0x304 Nf.l304 Nf.w304 ++ Nf.rowOf 0x306 Nf.l306 Nf.w306 ++ Nf.rowOf 0x308 Nf.l308 Nf.w308 ++ Nf.rowOf 0x30A Nf.l30A Nf.w30A) runes_30C (by decide) (by decide) (by decide +kernel) (by unfold Wf2; decide +kernel) (by decide +kernel) (by decide) D W h
theorem runes_323 : Runes ⟨#[101]⟩ 0 Nf.l323 := by
  unfold Nf.l323
  repeat (refine .cons _ _ _ (by decide) (by decide) ?_)
  exact .nil _ (by decide)
theorem row_323 (b : Nat) (D : DataW Unit) (W : World) (h : PM W b 65 (Nf.rowOf 0x300 Nf.l300 Nf.w300 ++ Nf.rowOf 0x301 Nf.l301 Nf.w301 ++ Nf.rowOf 0x302 Nf.l302 Nf.w302 ++ Nf.rowOf 0x303 Nf.l303 Nf.w303 ++ Nf.rowOf 0x304 Nf.l304 Nf.w304 ++ Nf.rowOf 0x306 Nf.l306 Nf.w306 ++ Nf.rowOf 0x308 Nf.l308 Nf.w308 ++ Nf.rowOf 0x30A Nf.l30A Nf.w30A ++ Nf.rowOf 0x30C Nf.l30C Nf.w30C) D) :
    Calls Try.prog 84 #[.map (some b), .int .i64 803, .string ⟨#[101]⟩, .slice (some ⟨W.heap.size, 0, none⟩) 1 1] (W.alloc (.cells #[.int .i64 7865] 3)) fun e w' => ∃ D', e = .returned (.tuple #[]) ∧ PM w' b 66 (Nf.rowOf 0x300 Nf.l300 Nf.w300 ++ Nf.rowOf 0x301 Nf.l301 Nf.w301 ++ Nf.rowOf 0x302 Nf.l302 Nf.w302 ++ Nf.rowOf 0x303 Nf.l303 Nf.w303 ++ Nf.rowOf 0x304 Nf.l304 Nf.w304 ++ Nf.rowOf 0x306 Nf.l306 Nf.w306 ++ Nf.rowOf 0x308 Nf.l308 Nf.w308 ++ Nf.rowOf 0x30A Nf.l30A Nf.w30A ++ Nf.rowOf 0x30C Nf.l30C Nf.w30C ++ Nf.rowOf 0x323 Nf.l323 Nf.w323) D' ∧ But b W w' :=
  row_new b 65 0x323 ⟨#[101]⟩ Nf.l323 Nf.w323 (Nf.rowOf 0x300 Nf.l300 Nf.w300 ++ Nf.rowOf 0x301 Nf.l301 Nf.w301 ++ Nf.rowOf 0x302 Nf.l302 Nf.w302 ++ Nf.rowOf 0x303 Nf.l303 Nf.w303 ++ Nf.rowOf 0x304 Nf.l304 Nf.w304 ++ Nf.rowOf 0x306 Nf.l306 Nf.w306 ++ Nf.rowOf 0x308 Nf.l308 Nf.w308 ++ Nf.rowOf 0x30A Nf.l30A Nf.w30A ++ Nf.rowOf 0x30C Nf.l30C Nf.w30C) runes_323 (by decide) (by decide) (by decide +kernel) (by unfold Wf2; decide +kernel) (by decide +kernel) (by decide) D W h
theorem runes_327 : Runes ⟨#[67, 99]⟩ 0 Nf.l327 := by
  unfold Nf.l327
  repeat (refine .cons _ _ _ (by decide) (by decide) ?_)
  exact .nil _ (by decide)
theorem row_327 (b : Nat) (D : DataW Unit) (W : World) (h : PM W b 66 (Nf.rowOf 0x300 Nf.l300 Nf.w300 ++ Nf.rowOf 0x301 Nf.l301 Nf.w301 ++ Nf.rowOf 0x302 Nf.l302 Nf.w302 ++ Nf.rowOf 0x303 Nf.l303 Nf.w303 ++ Nf.rowOf 0x304 Nf.l304 Nf.w304 ++ Nf.rowOf 0x306 Nf.l306 Nf.w306 ++ Nf.rowOf 0x308 Nf.l308 Nf.w308 ++ Nf.rowOf 0x30A Nf.l30A Nf.w30A ++ Nf.rowOf 0x30C Nf.l30C Nf.w30C ++ Nf.rowOf 0x323 Nf.l323 Nf.w323) D) :
    Calls Try.prog 84 #[.map (some b), .int .i64 807, .string ⟨#[67, 99]⟩, .slice (some ⟨W.heap.size, 0, none⟩) 2 2] (W.alloc (.cells #[.int .i64 199, .int .i64 231] 3)) fun e w' => ∃ D', e = .returned (.tuple #[]) ∧ PM w' b 68 (Nf.rowOf 0x300 Nf.l300 Nf.w300 ++ Nf.rowOf 0x301 Nf.l301 Nf.w301 ++ Nf.rowOf 0x302 Nf.l302 Nf.w302 ++ Nf.rowOf 0x303 Nf.l303 Nf.w303 ++ Nf.rowOf 0x304 Nf.l304 Nf.w304 ++ Nf.rowOf 0x306 Nf.l306 Nf.w306 ++ Nf.rowOf 0x308 Nf.l308 Nf.w308 ++ Nf.rowOf 0x30A Nf.l30A Nf.w30A ++ Nf.rowOf 0x30C Nf.l30C Nf.w30C ++ Nf.rowOf 0x323 Nf.l323 Nf.w323 ++ Nf.rowOf 0x327 Nf.l327 Nf.w327) D' ∧ But b W w' :=
  row_new b 66 0x327 ⟨#[67, 99]⟩ Nf.l327 Nf.w327 (Nf.rowOf 0x300 Nf.l300 Nf.w300 ++ Nf.rowOf 0x301 Nf.l301 Nf.w301 ++ Nf.rowOf 0x302 Nf.l302 Nf.w302 ++ Nf.rowOf 0x303 Nf.l303 Nf.w303 ++ Nf.rowOf 0x304 Nf.l304 Nf.w304 ++ Nf.rowOf 0x306 Nf.l306 Nf.w306 ++ Nf.rowOf 0x308 Nf.l308 Nf.w308 ++ Nf.rowOf 0x30A Nf.l30A Nf.w30A ++ Nf.rowOf 0x30C Nf.l30C Nf.w30C ++ Nf.rowOf 0x323 Nf.l323 Nf.w323) runes_327 (by decide) (by decide) (by decide +kernel) (by unfold Wf2; decide +kernel) (by decide +kernel) (by decide) D W h

theorem table_ret {a : Act} {W : World} {N : Nat} {v0 v1 : Value} {Q : Ending → World → Prop} (ha : a.tmps.getD 0 undef = .pointer (some ⟨N, 0, none⟩)) (hd : a.defers = []) (hK : Blk W N 131 #[v0, v1]) (hQ : Q (.returned (.agg #[v0, v1])) W) : bodyPost Try.prog Try.f80 Q Exit.ret a W :=
  bodyPost_ret (results_cell_row (fn := Try.f80) rfl a.tmps W N 131 #[v0, v1] (0, 0) _ ha hK Try.underlying131 rfl (by kernel_rfl)) hd hQ
theorem table_wf : ∀ p ∈ Nf.table, Wf2 p.1 := by unfold Wf2; decide +kernel
set_option maxRecDepth 100000 in
set_option maxHeartbeats 8000000 in
theorem table_any (w : World) :
    Calls Try.prog 80 #[] w fun e w' => ∃ m q n n' D D', e = .returned (.agg #[.map (some m), .map (some q)]) ∧ PM w' m n Nf.table D ∧ QM w' q n' Nf.table D' ∧ Below w.heap.size w w' := by
  have hmm := @run_makeMap Try.prog
  obtain ⟨W0, hW0⟩ : ∃ W0, (w.alloc (.cells #[.map none, .map none] 131)).alloc (.map #[] 0) = W0 := ⟨_, rfl⟩
  have P0 := hide (show PM W0 (w.heap.size + 1) 0 [] (.map []) by
    have := PM.nil (w.alloc (.cells #[.map none, .map none] 131))
    rw [World.size_alloc, hW0] at this
    exact this)
  have B0 := hide (But.refl (w.heap.size + 1) W0)
  have S0 := hide (show W0.heap.size = w.heap.size + 2 by rw [← hW0]; simp)
  go_enter Try.func80, Try.ntmps80
  go_wp2_with fail
  refine (row_300 (w.heap.size + 1) _ W0 P0.out).mono ?_
  rintro e w1 ⟨D1, rfl, hp, hb⟩
  have P1 := hide hp
  have B1 := hide (B0.out.trans hb)
  clear hp hb
  go_wp2_with fail
  refine (row_301 (w.heap.size + 1) _ w1 P1.out).mono ?_
  rintro e w2 ⟨D2, rfl, hp, hb⟩
  have P2 := hide hp
  have B2 := hide (B1.out.trans hb)
  clear hp hb
  go_wp2_with fail
  refine (row_302 (w.heap.size + 1) _ w2 P2.out).mono ?_
  rintro e w3 ⟨D3, rfl, hp, hb⟩
  have P3 := hide hp
  have B3 := hide (B2.out.trans hb)
  clear hp hb
  go_wp2_with fail
  refine (row_303 (w.heap.size + 1) _ w3 P3.out).mono ?_
  rintro e w4 ⟨D4, rfl, hp, hb⟩
  have P4 := hide hp
  have B4 := hide (B3.out.trans hb)
  clear hp hb
  go_wp2_with fail
  refine (row_304 (w.heap.size + 1) _ w4 P4.out).mono ?_
  rintro e w5 ⟨D5, rfl, hp, hb⟩
  have P5 := hide hp
  have B5 := hide (B4.out.trans hb)
  clear hp hb
  go_wp2_with fail
  refine (row_306 (w.heap.size + 1) _ w5 P5.out).mono ?_
  rintro e w6 ⟨D6, rfl, hp, hb⟩
  have P6 := hide hp
  have B6 := hide (B5.out.trans hb)
  clear hp hb
  go_wp2_with fail
  refine (row_308 (w.heap.size + 1) _ w6 P6.out).mono ?_
  rintro e w7 ⟨D7, rfl, hp, hb⟩
  have P7 := hide hp
  have B7 := hide (B6.out.trans hb)
  clear hp hb
  go_wp2_with fail
  refine (row_30A (w.heap.size + 1) _ w7 P7.out).mono ?_
  rintro e w8 ⟨D8, rfl, hp, hb⟩
  have P8 := hide hp
  have B8 := hide (B7.out.trans hb)
  clear hp hb
  go_wp2_with fail
  refine (row_30C (w.heap.size + 1) _ w8 P8.out).mono ?_
  rintro e w9 ⟨D9, rfl, hp, hb⟩
  have P9 := hide hp
  have B9 := hide (B8.out.trans hb)
  clear hp hb
  go_wp2_with fail
  refine (row_323 (w.heap.size + 1) _ w9 P9.out).mono ?_
  rintro e w10 ⟨D10, rfl, hp, hb⟩
  have P10 := hide hp
  have B10 := hide (B9.out.trans hb)
  clear hp hb
  go_wp2_with fail
  refine (row_327 (w.heap.size + 1) _ w10 P10.out).mono ?_
  rintro e w11 ⟨D11, rfl, hp, hb⟩
  have P11 := hide hp
  have B11 := hide (B10.out.trans hb)
  clear hp hb
  go_wp2_with fail
  refine (flip_any (w.heap.size + 1) _ Nf.table _ w11 P11.out Nf.table_keys Nf.table_vals table_wf (by decide)).mono ?_
  rintro e w12 ⟨n', D', rfl, hq, hn', hb⟩
  have HQ := hide hq
  have HP := hide (P11.out.go (hb.block _ P11.out.own.lt))
  have hbt := B11.out.go hb
  have hbk : Blk w12 w.heap.size 131 #[.map none, .map none] := hbt.blk (by rw [← hW0]; exact (Blk.new w _ _).alloc _) (by omega)
  have c0 := hbk.cell 0
  have c1 := hbk.cell 1
  have f0 := hbk.frozen 0
  have f1 := hbk.frozen 1
  have HB := hide (show Below w.heap.size w w12 from by
    have h0 : Below w.heap.size w W0 := by rw [← hW0]; exact (below_alloc w _).trans ((below_alloc _ _).mono (by simp))
    exact h0.trans (hbt.below (by omega) h0.size))
  have HK := hide hbk
  have hqb := hq.own.lt
  clear hq hb hbt hbk
  go_wp2
  have h2 := ((HK.out.set_ 0 (.map (some (w.heap.size + 1)))).set_ 1 (.map (some w11.heap.size)))
  refine table_ret rfl rfl h2 ?_
  have hs11 : w.heap.size + 2 ≤ w11.heap.size := by rw [← S0.out]; exact B11.out.size
  exact ⟨w.heap.size + 1, w11.heap.size, _, n', _, D', rfl, HP.out.go (by rw [Below.heap_setCell _ _ _ _ (by simp), Below.heap_setCell _ _ _ _ (by simp)]), ⟨map_sameN HQ.out.own (by rw [Below.heap_setCell _ _ _ _ (by show w11.heap.size ≠ w.heap.size; omega), Below.heap_setCell _ _ _ _ (by show w11.heap.size ≠ w.heap.size; omega)]), HQ.out.at_, HQ.out.has⟩, (HB.out.setCell (Nat.le_refl _) _).setCell (Nat.le_refl _) _⟩
end Go.Proofs.Ytheaknghgpafpaa
