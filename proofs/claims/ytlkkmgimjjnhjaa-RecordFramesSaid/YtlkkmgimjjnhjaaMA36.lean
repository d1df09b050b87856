/- The law RecordFrames, walked. -/
import Derived.Test.YtlkkmgimjjnhjaaMA35
set_option linter.unusedSimpArgs false
set_option linter.unusedVariables false
namespace Go.Proofs.Ytlkkmgimjjnhjaa
open Go.RowKit Rec
attribute [local go_sem ↓] Go.wp_at_zero Go.wp_at_succ

theorem own_below {w w' : World} {B e size n : Nat} {v : Value} {xs : List Value} (h : w.ownsRow B e size v n xs) (hb : Below w.heap.size w w') : w'.ownsRow B e size v n xs := by
  refine ⟨h.1, ?_⟩
  rcases h.2 with hn | ⟨g, cap, cur, rfl, hg, hgg, rest⟩
  · exact .inl hn
  · exact .inr ⟨g, cap, cur, rfl, hg, by rw [hb.block g (Array.getElem?_eq_some_iff.1 hgg).1]; exact hgg, rest⟩
/-- Where frames end, as values. -/
def endVs (rs : List Rcd) (k : Nat) : List Value := (List.range (k + 1)).map fun j => .int .i64 (endOf rs j : Int)
theorem endVs_next (rs : List Rcd) (k : Nat) : endVs rs (k + 1) = endVs rs k ++ [.int .i64 (endOf rs (k + 1) : Int)] := by
  unfold endVs
  rw [List.range_succ, List.map_append]
  rfl
theorem endVs_at (rs : List Rcd) (n j : Nat) (h : j ≤ n) : (endVs rs n)[j]? = some (.int .i64 (endOf rs j : Int)) := by
  unfold endVs
  rw [List.getElem?_map, List.getElem?_range (by omega)]
  rfl
theorem endVs_zero (rs : List Rcd) : endVs rs 0 = [.int .i64 0] := by
  unfold endVs
  simp [endOf_zero]
theorem endOf_le (rs : List Rcd) : ∀ k, k ≤ rs.length → (∀ j (h : j < rs.length), j < k → mayAll rs[j] = true) → endOf rs k ≤ 70000 * k
  | 0, _, _ => by rw [endOf_zero]; omega
  | k + 1, hk, hm => by
    have h1 := endOf_le rs k (by omega) (fun j h hj => hm j h (by omega))
    have h2 := (mayAll_iff.1 (hm k (by omega) (by omega))).2
    rw [endOf_next rs k (by omega), frameB_length]
    omega
theorem endOf_bytes (rs : List Rcd) (b : ByteArray) (k : Nat) (h : b.data.toList = (rs.take k).flatMap frameB) : b.size = endOf rs k := by
  unfold endOf
  rw [← h]
  rfl
theorem frames_add {rs : List Rcd} {k : Nat} {b : ByteArray} (hk : k < rs.length) (hm : mayAll rs[k] = true) (h : b.data.toList = (rs.take k).flatMap frameB) : (b ++ frameOut rs[k]).data.toList = (rs.take (k + 1)).flatMap frameB := by
  rw [List.take_succ_eq_append_getElem hk, List.flatMap_append, ← h, frame_yes hm]
  simp [bstr]

/-- The first frames, put together. -/
def IsFrames (rs : List Rcd) (k : Nat) (b : ByteArray) : Prop := b.data.toList = (rs.take k).flatMap frameB
/-- The first records may be. -/
def AllMay (rs : List Rcd) (k : Nat) : Prop := ∀ j (h : j < rs.length), j < k → mayAll rs[j] = true

theorem frows_take : ∀ (l : List Fr) (q : Nat), q ≤ l.length → frows (l.take q) = (frows l).take (q * 8)
  | _, 0, _ => by simp [frows]
  | [], q + 1, h => absurd h (by simp)
  | x :: l, q + 1, h => by
    have ih := frows_take l q (by simpa using h)
    have e : frows (x :: l) = x.row ++ frows l := rfl
    have e' : frows ((x :: l).take (q + 1)) = x.row ++ frows (l.take q) := rfl
    rw [e, e', ih, List.take_append]
    have hx : x.row.length = 8 := rfl
    rw [List.take_of_length_le (l := x.row) (by rw [hx]; omega), hx, show (q + 1) * 8 - 8 = q * 8 by omega]
theorem rows_take {W : World} {A : Option Addr} {xs : List Fr} {q : Nat} (hq : q ≤ xs.length) (h : Reads W W.heap.size 8 A xs.length (frows xs)) : Reads W W.heap.size 8 A q (frows (xs.take q)) := by
  refine ⟨by rw [frows_length, List.length_take]; omega, fun h0 => ?_⟩
  obtain ⟨b, off, e, hb, hc⟩ := h.2 (by omega)
  refine ⟨b, off, e, hb, fun j u hj => hc j u ?_⟩
  rw [frows_take _ _ hq, List.getElem?_take] at hj
  split at hj
  · exact hj
  · cases hj
/-- All, of frames that are cut. -/
theorem all_cut {rs : List Rcd} {b : ByteArray} {tail : List UInt8} (hm : ∀ r ∈ rs, mayAll r = true) (ht : nextF tail = none) (hb : b.data.toList = rs.flatMap frameB ++ tail) (hs : b.size ≤ 1000000000) (hn : rs.length ≤ 40) (w : World) :
    Calls Try.prog 23 #[.string b] w fun e w' => ∃ (ys : List Fr) (A : Option Addr) (c : Nat), e = .returned (.tuple #[.slice A ys.length c, .int .i64 (tail.length : Nat)]) ∧ Below w.heap.size w w' ∧ ys.map (·.r) = rs ∧ Reads w' w'.heap.size 8 A ys.length (frows ys) ∧ (∀ x ∈ ys, SameIn w' x) ∧ ys.length ≤ 40 := by
  have e : b = bstr (rs.flatMap frameB ++ tail) := by rw [← hb, bstr_of]
  obtain ⟨h1, h2⟩ := framesOf_frames hm ht
  rw [← e] at h1 h2
  refine (all_any b w hs).mono ?_
  rintro e' w' ⟨xs, A, c, hx, rfl, hw, hr, hi⟩
  have hxr : xs.map (·.r) = rs := by
    rw [← h1, ← hx, List.map_map]
    rfl
  refine ⟨xs, A, c, ?_, hw, hxr, hr, fun x hx => (hi x hx).same, ?_⟩
  · rw [← h2]
    rfl
  · have := congrArg List.length hxr
    rw [List.length_map] at this
    omega

set_option maxHeartbeats 8000000 in
set_option maxRecDepth 20000 in
theorem lawFrames_any (A : Option Addr) (c : Nat) (xs : List Fr) (cut : Int) (w : World) (hg : RowsGot w A c xs) (hcut : (Lit.int .i64 cut).wf = true) :
    Calls Try.prog 7 #[.slice A xs.length c, .int .i64 cut] w fun e w' => e = .returned (.bool true) ∧ Below w.heap.size w w' := by
  obtain ⟨hA, hlen, hcap, hmost, hrecs⟩ := hg
  obtain ⟨n, hn⟩ : ∃ n, xs.length = n := ⟨_, rfl⟩
  rw [hn] at hcap ⊢
  have hl' : (n : Int) ≤ 9223372036854775807 := by rw [← hn]; unfold maxLen at hlen; omega
  have HG := hide fun (W : World) (hb : Below w.heap.size w W) => (show Calls Try.prog 9 #[.slice A n c] W fun e w' => e = .returned (.bool (great (xs.map (·.r)))) ∧ Below W.heap.size W w' from by
    rw [← hn]
    exact great_any A c xs W (hA.later hb) (fun x hx => ((hrecs x hx).below hb).sizeIn) hlen)
  by_cases h40 : n ≤ 40
  rotate_left
  · have hd : decide ((40 : Int) < n) = true := by simp; omega
    clear HG hA hrecs
    go_enter Try.func7, Try.ntmps7
    go_wp2_with fail
    refine (wakes_any _).mono ?_
    rintro e w2 ⟨rfl, hb⟩
    go_wp2
    go_ret
    exact ⟨rfl, hb⟩
  · have hd : decide ((40 : Int) < n) = false := by simp; omega
    obtain ⟨gr, hgr⟩ : ∃ b, great (xs.map (·.r)) = b := ⟨_, rfl⟩
    rw [hgr] at HG
    have HI := hide fun (h : gr = false) => (show ∀ x ∈ xs, RcdIn w x.r x.A x.A' from fun x hx => by
      rw [h] at hgr
      exact (hrecs x hx).rcdIn (rSize_of_great hgr (List.mem_map_of_mem hx)))
    have HA := hide hA
    have Hn := hide hn
    clear hA hn hgr hrecs hlen
    go_enter Try.func7, Try.ntmps7
    go_wp2_with fail
    refine (HG.out _ (Below.refl _ _)).mono ?_
    rintro e w1 ⟨rfl, hb⟩
    have HB := hide hb
    clear hb HG
    cases gr with
    | true =>
      go_wp2_with fail
      refine (wakes_any _).mono ?_
      rintro e w2 ⟨rfl, hb⟩
      go_wp2
      go_ret
      exact ⟨rfl, HB.out.trans (hb.mono HB.out.size)⟩
    | false =>
      have HIn := hide (HI.out rfl)
      clear HI
      go_wp2
      go_loopg [5, 6, 7] n (fun g vs ve vi wr => ∃ (k : Nat) (b : ByteArray), g = n - k ∧ k ≤ n ∧ vi = .int .i64 k ∧ vs = .string b ∧ IsFrames (xs.map (·.r)) k b ∧ AllMay (xs.map (·.r)) k ∧
        wr.ownsRow w.heap.size 3 1 ve (k + 1) (endVs (xs.map (·.r)) k) ∧ Below w.heap.size w wr)
      case atStart =>
        refine ⟨0, ⟨#[]⟩, rfl, by omega, rfl, rfl, rfl, fun j _ h => absurd h (by omega), ?_, HB.out.alloc HB.out.size _⟩
        rw [endVs_zero]
        exact World.ownsRow_lit w1 #[.int .i64 0] 1 HB.out.size (by simp [maxLen]) rfl
      case round =>
        obtain ⟨k, b, hgk, hk, rfl, rfl, hbk, hmk, hown, hbw⟩ := hrel
        have Hg := hide hgk
        have Hb := hide hbk
        have Hm := hide hmk
        have Hown := hide hown
        have Kb := hide hbw
        have hsz1 : b.size ≤ 2800000 := by
          have := endOf_le _ k (by rw [List.length_map, Hn.out]; exact hk) hmk
          rw [endOf_bytes _ b k hbk]
          omega
        clear hgk hbk hmk hown hbw
        by_cases hlt : k < n
        · have h1 : k < xs.length := by rw [Hn.out]; exact hlt
          obtain ⟨b0, off, rfl, hb0, hx⟩ := ((HA.out.below Kb.out).more Kb.out.size).frow h1
          obtain ⟨x, ex⟩ : ∃ x, xs[k] = x := ⟨_, rfl⟩
          rw [ex] at hx
          have hmem : x ∈ xs := by rw [← ex]; exact List.getElem_mem h1
          have hxr : (xs.map (·.r))[k]'(by simpa using h1) = x.r := by simp [ex]
          have HF := hide fun (W : World) (hW : Below w.heap.size w W) => ((HIn.out x hmem).ans x.c x.c').frame W hW
          unfold rcdCells at HF
          have Hxr := hide hxr
          have x0 := hx.c0
          have x1 := hx.c1
          have x2 := hx.c2
          have x3 := hx.c3
          have x4 := hx.c4
          have x5 := hx.c5
          have x6 := hx.c6
          have x7 := hx.c7
          clear hx ex hmem hxr
          go_wp2_with fail
          refine (HF.out _ Kb.out).mono ?_
          rintro e w2 ⟨rfl, hb⟩
          have Kb2 := hide (Kb.out.trans (hb.mono Kb.out.size))
          have Hown2 := hide (own_below Hown.out hb)
          clear hb x0 x1 x2 x3 x4 x5 x6 x7 HF
          rcases Bool.eq_false_or_eq_true (mayAll x.r) with hm | hm
          · rw [code_yes hm]
            have Hadd := hide (show IsFrames (xs.map (·.r)) (k + 1) (b ++ frameOut x.r) from by
              have := frames_add (rs := xs.map (·.r)) (k := k) (b := b) (by simpa using h1) (by rw [Hxr.out]; exact hm) (by exact Hb.out)
              rwa [Hxr.out] at this)
            have HMn := hide (show AllMay (xs.map (·.r)) (k + 1) from fun j h hj => by
              by_cases hjk : j < k
              · exact Hm.out j h hjk
              · have : j = k := by omega
                subst this
                rw [Hxr.out]
                exact hm)
            have hsz2 : (frameOut x.r).size ≤ 70000 := by rw [frame_yes hm, bstr_size, frameB_length]; have := (mayAll_iff.1 hm).2; omega
            clear hm Hxr Hm Hb HA HIn hcut hmost hcap HB hd
            generalize frameOut x.r = f at *
            go_wp2_with (at_builtin; go_loud (refine wpList_append_elem w2 rfl (.tmp 42) (.tmp 45) 51 rfl w.heap.size (.int .i64 0) 1 8 Try.underlying51 info_int rfl (by omega) u6 (k + 1) (endVs (xs.map (·.r)) k) rfl Hown2.out rfl (by simp [Value.oneCell']) rfl (by unfold maxLen; omega) (by omega) Kb2.out.size ?_); intro g' cap' w3 hown3 hgrow3 hat3 hlt3 hb3; have Hown3 := hide hown3; have Hgrow3 := hide hgrow3; clear hown3 hgrow3 hat3 hlt3 hb3)
            go_roundg (n - (k + 1))
            case measure => have := Hg.out; omega
            case rel =>
              refine ⟨k + 1, b ++ f, rfl, by omega, by go_num, rfl, Hadd.out, HMn.out, ?_, Kb2.out.grown Hgrow3.out Kb2.out.size (fun j hj => (own_isT Hown2.out j hj).1)⟩
              rw [endVs_next, ← endOf_bytes _ _ _ Hadd.out, ByteArray.size_append]
              exact Hown3.out
          · rw [code_no hm]
            go_wp2_with fail
            refine (wakes_any _).mono ?_
            rintro e w3 ⟨rfl, hb⟩
            go_wp2
            go_ret
            exact ⟨rfl, Kb2.out.trans (hb.mono Kb2.out.size)⟩
        · have hkn : k = n := by omega
          subst hkn
          have Hmay := hide (show ∀ r ∈ xs.map (·.r), mayAll r = true from fun r hr => by
            obtain ⟨j, hj, rfl⟩ := List.getElem_of_mem hr
            exact Hm.out j hj (by rw [List.length_map, Hn.out] at hj; exact hj))
          have Hln := hide (show (xs.map (·.r)).length = k by rw [List.length_map, Hn.out])
          have Hball := hide (show b.data.toList = (xs.map (·.r)).flatMap frameB from by
            have h := Hb.out
            unfold IsFrames at h
            rwa [List.take_of_length_le (by rw [Hln.out]; exact Nat.le_refl _)] at h)
          have HAl := hide fun (W : World) => (show Calls Try.prog 23 #[.string b] W fun e w' => ∃ (ys : List Fr) (A : Option Addr) (c : Nat), e = .returned (.tuple #[.slice A ys.length c, .int .i64 0]) ∧ Below W.heap.size W w' ∧ ys.map (·.r) = xs.map (·.r) ∧ Reads w' w'.heap.size 8 A ys.length (frows ys) ∧ (∀ x ∈ ys, SameIn w' x) ∧ ys.length ≤ 40 from
            all_cut (tail := []) Hmay.out nextF_nil (by rw [List.append_nil]; exact Hball.out) (by omega) (by rw [Hln.out]; exact h40) W)
          have HSx := hide fun (W : World) (hW : Below w.heap.size w W) => (show ∀ x ∈ xs, SameIn W x from fun x hx => by
            have h := (HIn.out x hx).later hW
            exact ⟨h.a, h.k, h.na, h.nk⟩)
          have HRx := hide fun (W : World) (hW : Below w.heap.size w W) => (show Reads W W.heap.size 8 A xs.length (frows xs) from HA.out.later hW)
          have Hbz := hide (show b.size = endOf (xs.map (·.r)) k from endOf_bytes _ b k Hb.out)
          have hbpos : 0 < k → b.size ≠ 0 := fun h0 => by
            have h1 := length_le_flat (xs.map (·.r))
            rw [Hln.out, ← Hball.out] at h1
            have : b.data.toList.length = b.size := Array.length_toList
            omega
          have hcase : ¬ 0 < k ∨ (0 < k ∧ ((b.size : Int) == 0) = false) := by
            rcases Nat.eq_zero_or_pos k with h0 | h0
            · left; omega
            · right
              have := hbpos h0
              refine ⟨h0, ?_⟩
              rw [beq_eq_false_iff_ne]; omega
          obtain ⟨m, hm1, hm2, hm3⟩ : ∃ m, Int.tmod cut ((b.size : Int) + 1) = m ∧ -((b.size : Int) + 1) < m ∧ m < (b.size : Int) + 1 := ⟨_, rfl, by have := Int.lt_tmod_of_pos cut (show (0 : Int) < (b.size : Int) + 1 by omega); omega, Int.tmod_lt_of_pos cut (by omega)⟩
          obtain ⟨j, hj1, hj2⟩ : ∃ j : Nat, Int.tmod (m + b.size + 1) ((b.size : Int) + 1) = j ∧ j < b.size + 1 := ⟨(Int.tmod (m + b.size + 1) ((b.size : Int) + 1)).toNat, by have := Int.tmod_nonneg ((b.size : Int) + 1) (show 0 ≤ m + b.size + 1 by omega); omega, by have := Int.tmod_lt_of_pos (m + b.size + 1) (show (0 : Int) < (b.size : Int) + 1 by omega); omega⟩
          have HAc := hide fun (q : Nat) (hq : q ≤ k) (h1 : endOf (xs.map (·.r)) q ≤ j) (h2 : q = k ∨ j < endOf (xs.map (·.r)) (q + 1)) (W : World) => (show Calls Try.prog 23 #[.string (b.extract 0 j)] W fun e w' => ∃ (ys : List Fr) (A : Option Addr) (c : Nat), e = .returned (.tuple #[.slice A ys.length c, .int .i64 ((j : Int) - endOf (xs.map (·.r)) q)]) ∧ Below W.heap.size W w' ∧ ys.map (·.r) = (xs.map (·.r)).take q ∧ Reads w' w'.heap.size 8 A ys.length (frows ys) ∧ (∀ x ∈ ys, SameIn w' x) ∧ ys.length ≤ 40 from by
            obtain ⟨tail, t1, t2, t3⟩ := cut_frames Hmay.out (cut := j) (k := q) (by rw [Hln.out]; exact hq) h1 (by rw [Hln.out, ← Hbz.out]; omega) (by rw [Hln.out]; exact h2)
            have e : (b.extract 0 j).data.toList = ((xs.map (·.r)).take q).flatMap frameB ++ tail := by
              rw [← t1, ← Hball.out, ByteArray.data_extract, Array.toList_extract]
              rfl
            have h := all_cut (tail := tail) (fun r hr => Hmay.out r (List.mem_of_mem_take hr)) t3 e (by rw [ByteArray.size_extract]; omega) (by rw [List.length_take, Hln.out]; omega) W
            rwa [t2, show ((j - endOf (xs.map (·.r)) q : Nat) : Int) = (j : Int) - endOf (xs.map (·.r)) q by omega] at h)
          clear hbpos
          clear HIn Hm Hb hlt Hg
          go_wp2_with fail
          refine (HAl.out _).mono ?_
          rintro e w2 ⟨ys, A2, c2, rfl, hb, hy1, hy2, hy3, hy4⟩
          have Kb2 := hide (Kb.out.trans (hb.mono Kb.out.size))
          have Hown2 := hide (own_below Hown.out hb)
          have HSA := hide (show Calls Try.prog 25 #[.slice A k c, .slice A2 ys.length c2] w2 fun e w' => e = .returned (.bool true) ∧ Below w2.heap.size w2 w' from by
            have h := sameAll_any A A2 c c2 xs ys w2 (HRx.out w2 Kb2.out) hy2 (HSx.out w2 Kb2.out) hy3 (by rw [Hn.out]; omega) (by omega)
            rw [hy1, Hn.out] at h
            simpa using h)
          clear hb hy1 hy2 hy3 hy4 Hown Kb
          go_wp2_with fail
          refine HSA.out.mono ?_
          rintro e w3 ⟨rfl, hb⟩
          have Kb3 := hide (Kb2.out.trans (hb.mono Kb2.out.size))
          have Hown3 := hide (own_below Hown2.out hb)
          clear hb HSA Hown2 Kb2
          clear HAl
          rcases hcase with hg0 | ⟨hg0, hz0⟩
          all_goals
            go_wp2
            go_loopg [12] k (fun g vq wr => ∃ q : Nat, g = k - q ∧ q ≤ k ∧ vq = .int .i64 q ∧ endOf (xs.map (·.r)) q ≤ j ∧ Below w3.heap.size w3 wr)
            case atStart => exact ⟨0, rfl, by omega, rfl, by rw [endOf_zero]; omega, Below.refl _ _⟩
            case round =>
              obtain ⟨q, hgq, hq, rfl, hej, hbq⟩ := hrel
              have Hgq := hide hgq
              have Kq := hide hbq
              have Hej := hide hej
              clear hgq hbq hej
              have HownQ := hide (own_below Hown3.out Kq.out)
              have Kwq := hide (Kb3.out.trans (Kq.out.mono Kb3.out.size))
              obtain ⟨g0, cap0, hu6⟩ : ∃ g cap, u6 = .slice (some ⟨g, 0, none⟩) (k + 1) cap := by
                rcases Hown3.out.2 with ⟨-, h⟩ | ⟨g, cap, cur, h, -⟩
                · cases h
                · exact ⟨g, cap, h⟩
              subst hu6
              have hcell : ∀ i, i ≤ k → wr.cell? ⟨g0, i, none⟩ = some (.int .i64 (endOf (xs.map (·.r)) i : Int)) := fun i hi => by
                rw [HownQ.out.cellAt i (by omega)]
                exact endVs_at _ _ _ hi
              have HSq := hide fun (hq1 : q ≤ c) (W : World) (hW : Below w.heap.size w W) (ys : List Fr) (A2 : Option Addr) (c2 : Nat) (h1 : ys.map (·.r) = (xs.map (·.r)).take q) (h2 : Reads W W.heap.size 8 A2 ys.length (frows ys)) (h3 : ∀ x ∈ ys, SameIn W x) (h4 : ys.length ≤ 40) =>
                (show Calls Try.prog 25 #[.slice A q c, .slice A2 ys.length c2] W fun e w' => e = .returned (.bool true) ∧ Below W.heap.size W w' from by
                  have hlq : (xs.take q).length = q := by rw [List.length_take, Hn.out]; omega
                  have hr : Reads W W.heap.size 8 A (xs.take q).length (frows (xs.take q)) := by rw [hlq]; exact rows_take (by rw [Hn.out]; exact hq) (HRx.out W hW)
                  have h := sameAll_any A A2 c c2 (xs.take q) ys W hr h2 (fun x hx => HSx.out W hW x (List.mem_of_mem_take hx)) h3 (by omega) (by omega)
                  rw [hlq, h1, List.map_take] at h
                  simpa using h)
              by_cases hqk : q < k
              · have c0 := hcell (q + 1) (by omega)
                by_cases hnx : endOf (xs.map (·.r)) (q + 1) ≤ j
                · have Hnx := hide hnx
                  have hle : endOf (xs.map (·.r)) (q + 1) ≤ j := hnx
                  clear hnx HSq
                  generalize endOf (xs.map (·.r)) (q + 1) = z at c0 hle
                  go_wp2
                  go_roundg (k - (q + 1))
                  case measure => have := Hgq.out; omega
                  case rel => exact ⟨q + 1, rfl, by omega, by go_num, Hnx.out, Kq.out⟩
                · have h1 := HAc.out q hq Hej.out (.inr (by omega))
                  have HA1 := hide h1
                  generalize endOf (xs.map (·.r)) (q + 1) = z at c0 hnx
                  have cq := hcell q hq
                  have hqc : q ≤ c := by omega
                  have hyj := Hej.out
                  generalize endOf (xs.map (·.r)) q = y at cq HA1 hyj
                  have hjj : ((j : Int) - y == (j : Int) - y) = true := by simp
                  have hj9 : j ≤ 2800000 := by omega
                  clear h1
                  go_wp2_with fail
                  refine (HA1.out _).mono ?_
                  rintro e w4 ⟨zs, A4, c4, rfl, hb, hy1, hy2, hy3, hy4⟩
                  have B4 := hide (Kwq.out.trans (hb.mono Kwq.out.size))
                  have HS4 := hide (HSq.out hqc w4 B4.out zs A4 c4 hy1 hy2 hy3 hy4)
                  have cq4 : w4.cell? ⟨g0, q, none⟩ = some (.int .i64 (y : Int)) := cell_go hb cq
                  clear hb hy1 hy2 hy3 hy4 cq c0
                  go_wp2_with fail
                  refine HS4.out.mono ?_
                  rintro e w5 ⟨rfl, hb⟩
                  have B5 := hide (B4.out.trans (hb.mono B4.out.size))
                  have cq5 : w5.cell? ⟨g0, q, none⟩ = some (.int .i64 (y : Int)) := cell_go hb cq4
                  clear hb cq4 HS4 B4
                  go_wp2_with fail
                  refine (wakes_any _).mono ?_
                  rintro e w6 ⟨rfl, hb⟩
                  have B6 := hide (B5.out.trans (hb.mono B5.out.size))
                  clear HAc HRx HSx HSq HA1 hcell Hej Hmay Hball Hbz HownQ Hown3 hm1 hj1 cq5 HA Hn Hln B5
                  clear hb
                  go_wp2
                  go_ret
                  exact ⟨rfl, B6.out⟩
              · have hqk' : q = k := by omega
                subst hqk'
                · have h1 := HAc.out q hq Hej.out (.inl rfl)
                  have HA1 := hide h1
                  have cq := hcell q hq
                  have hqc : q ≤ c := by omega
                  have hyj := Hej.out
                  generalize endOf (xs.map (·.r)) q = y at cq HA1 hyj
                  have hjj : ((j : Int) - y == (j : Int) - y) = true := by simp
                  have hj9 : j ≤ 2800000 := by omega
                  clear h1
                  go_wp2_with fail
                  refine (HA1.out _).mono ?_
                  rintro e w4 ⟨zs, A4, c4, rfl, hb, hy1, hy2, hy3, hy4⟩
                  have B4 := hide (Kwq.out.trans (hb.mono Kwq.out.size))
                  have HS4 := hide (HSq.out hqc w4 B4.out zs A4 c4 hy1 hy2 hy3 hy4)
                  have cq4 : w4.cell? ⟨g0, q, none⟩ = some (.int .i64 (y : Int)) := cell_go hb cq
                  clear hb hy1 hy2 hy3 hy4 cq
                  go_wp2_with fail
                  refine HS4.out.mono ?_
                  rintro e w5 ⟨rfl, hb⟩
                  have B5 := hide (B4.out.trans (hb.mono B4.out.size))
                  have cq5 : w5.cell? ⟨g0, q, none⟩ = some (.int .i64 (y : Int)) := cell_go hb cq4
                  clear hb cq4 HS4 B4
                  go_wp2_with fail
                  refine (wakes_any _).mono ?_
                  rintro e w6 ⟨rfl, hb⟩
                  have B6 := hide (B5.out.trans (hb.mono B5.out.size))
                  clear HAc HRx HSx HSq HA1 hcell Hej Hmay Hball Hbz HownQ Hown3 hm1 hj1 cq5 HA Hn Hln B5
                  clear hb
                  go_wp2
                  go_ret
                  exact ⟨rfl, B6.out⟩
end Go.Proofs.Ytlkkmgimjjnhjaa
