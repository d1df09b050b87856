/- Texts: the iterator over words (text.words). · Texts: a text on one line (text.One); lines and blocks. · A strings.Builder whose row is known: what its writers leave alone. -/
import Derived.Test.YtlcfakmbcfdgbaaGreatWt01
import Derived.Test.YtlcfakmbcfdgbaaGreatWt09
import Derived.Test.YtlcfakmbcfdgbaaGreatWt12
import Derived.Sort.LoopGhostIn
import Derived.Maps.AppendAt
import Derived.Lib.AppendStr
set_option linter.unusedSimpArgs false
set_option linter.unusedVariables false
namespace Go.Proofs.YtlcfakmbcfdgbaaGreat
open Go.RowKit Go.WideShapes

attribute [local go_sem] Oper.semAt_some

namespace Tx
/-- The words: what has come of one, what is left. -/
def wordsG : List UInt8 → List UInt8 → List (List UInt8)
  | cur, [] => if cur = [] then [] else [cur]
  | cur, c :: l => if sp c then (if cur = [] then wordsG [] l else cur :: wordsG [] l) else wordsG (cur ++ [c]) l
def words (l : List UInt8) : List (List UInt8) := wordsG [] l
def oneStep (acc w : List UInt8) : List UInt8 := if acc = [] then w else acc ++ 32 :: w
def one (l : List UInt8) : List UInt8 := (words l).foldl oneStep []
theorem wordsG_len : ∀ (l cur : List UInt8), (wordsG cur l).length ≤ l.length + 1
  | [], cur => by unfold wordsG; split <;> simp
  | c :: l, cur => by
    unfold wordsG
    have h1 := wordsG_len l []
    have h2 := wordsG_len l (cur ++ [c])
    split
    · split
      · rw [List.length_cons]; omega
      · rw [List.length_cons, List.length_cons]; omega
    · rw [List.length_cons]; omega
end Tx
theorem twords_any (s : ByteArray) (w : World) :
    Calls Tryz.prog 79 #[.string s] w fun e w' => e = .returned (.func (.func 99) #[] #[.pointer (some ⟨w.heap.size, 0, none⟩)]) ∧ w' = w.alloc (.cells #[.string s] 9) := by
  go_enter Tryz.func79, Tryz.ntmps79
  go_wp2
  go_ret
  exact ⟨rfl, rfl⟩
/-- A round keeps the text's block. -/
def KpS (Bs : Nat) (W W' : World) : Prop := W.heap.size ≤ W'.heap.size ∧ W'.heap[Bs]? = W.heap[Bs]?
theorem KpS.trans {Bs : Nat} {X Y Z : World} (h : KpS Bs X Y) (k : KpS Bs Y Z) : KpS Bs X Z := ⟨Nat.le_trans h.1 k.1, k.2.trans h.2⟩
def FrB (A B : World) : Prop := Below A.heap.size A B
theorem idx_drop {l : List UInt8} {j : Nat} {c : UInt8} (h : l[j]? = some c) : l.drop j = c :: l.drop (j + 1) := by
  obtain ⟨h1, h2⟩ := List.getElem?_eq_some_iff.1 h
  rw [List.drop_eq_getElem_cons h1, h2]
set_option maxRecDepth 100000 in
set_option maxHeartbeats 8000000 in
theorem words1_gives (n : Nat) (hn : 1 ≤ n) (Bs : Nat) (D : List UInt8) (hs : D.length ≤ 1000000000) (W : World) (hc : Blk W Bs 9 #[.string (bstr D)]) :
    GivesOn FrB Fence.wide n Tryz.prog 99 #[.pointer (some ⟨Bs, 0, none⟩)] (fun x : List UInt8 => #[.string (bstr x)]) (KpS Bs) (fun x _ => x ≠ [] ∧ x.length ≤ D.length) (fun xs => xs = Tx.words D) (D.length + 1) W := by
  intro l J hJ h0J hY
  refine callsIn_of_wp Tryz.func99 rfl trivial ?_ rfl
  simp only [Tryz.ntmps99, List.size_toArray, List.length_cons, List.length_nil, Nat.reduceAdd, Nat.reduceSub, Array.replicate_succ, Array.replicate_zero, List.push_toArray, List.append_toArray, List.nil_append, List.cons_append]
  obtain ⟨N, hN⟩ : ∃ N, D.length = N := ⟨_, rfl⟩
  have HN := hide hN
  rw [hN] at hs
  obtain ⟨all, hall⟩ : ∃ all, Tx.words D = all := ⟨_, rfl⟩
  rw [hall]
  have Hall := hide hall
  have HAl := hide (show all.length ≤ N + 1 by rw [← hall, ← hN]; exact Tx.wordsG_len D [])
  have HY := hide hY
  have H0 := hide h0J
  have HC := hide hc
  have q0 := hc.cell 0
  have hsz : (bstr D).size = N := by rw [bstr_size, hN]
  have HEx := hide (fun a b => bstr_ext D a b)
  have HIx := hide (fun k c (h : D[k]? = some c) w => idx_run (bstr D) k c (by rw [bstr_list]; exact h) w)
  have HSp := hide (fun c W => space_any c W)
  clear hN hall hY h0J hc hJ
  gi_wp2
  gi_loopg [3, 7] N (fun g v3 v7 wr => ∃ (i f : Nat) (pre : List (List UInt8)), g = N - i ∧ i ≤ N ∧ f ≤ i ∧ v3 = .int .i64 (f : Int) ∧ v7 = .int .i64 (i : Int) ∧ pre ++ Tx.wordsG ((D.drop f).take (i - f)) (D.drop i) = all ∧ J pre wr ∧ Blk wr Bs 9 #[.string (bstr D)])
  case atStart => exact ⟨0, 0, [], rfl, by omega, Nat.le_refl _, rfl, rfl, by rw [← Hall.out]; rfl, H0.out, HC.out⟩
  case round =>
    obtain ⟨i, f, pre, hg, hi, hf, rfl, rfl, hp, hj, hc⟩ := hrel
    have Hg := hide hg
    have HP := hide hp
    have Hj := hide hj
    have HC2 := hide hc
    have q1 := hc.cell 0
    clear hg hp hj hc
    by_cases hlt : i < N
    · obtain ⟨c, hci⟩ : ∃ c, D[i]? = some c := ⟨_, List.getElem?_eq_getElem (by rw [HN.out]; exact hlt)⟩
      have hix := HIx.out i c hci
      have HD := hide (idx_drop hci)
      have HSc := hide (HSp.out c wr)
      have zi : IntKind.i64.wrap ((i : Int) + 1) = ((i + 1 : Nat) : Int) := by rw [IntWalk.i64_in _ (by omega)]; omega
      have Hci := hide hci
      clear hci
      cases hsp : Tx.sp c with
      | false =>
        have Hsp := hide hsp
        rw [hsp] at HSc
        clear hsp
        gi_wp2_with (refine ⟨trivial, ?_⟩; gi_at_call 69; refine (callsIn_wide.2 HSc.out).mono ?_; rintro e w2 ⟨rfl, hw2⟩; subst w2)
        go_roundg (N - (i + 1))
        case measure => have := Hg.out; omega
        case rel =>
          refine ⟨i + 1, f, pre, rfl, by omega, by omega, rfl, by first | rfl | go_num, ?_, Hj.out, HC2.out⟩
          rw [← HP.out, HD.out]
          conv => rhs; unfold Tx.wordsG
          rw [if_neg (by rw [Hsp.out]; simp), show i + 1 - f = (i - f) + 1 by omega, List.take_add_one, List.getElem?_drop, show f + (i - f) = i by omega, Hci.out]
          rfl
      | true =>
        have Hsp := hide hsp
        rw [hsp] at HSc
        clear hsp
        by_cases hfi : f < i
        · have hfz : (f : Int) < (i : Int) := by omega
          have hex : (bstr D).extract f i = bstr ((D.drop f).take (i - f)) := HEx.out f i
          obtain ⟨x, hx⟩ : ∃ x, (D.drop f).take (i - f) = x := ⟨_, rfl⟩
          have hxl : x.length = i - f := by rw [← hx, List.length_take, List.length_drop, HN.out]; omega
          have hxn : x ≠ [] := fun e => by rw [e] at hxl; simp at hxl; omega
          rw [hx] at hex
          have HW := hide (show Tx.wordsG x (D.drop i) = x :: Tx.wordsG [] (D.drop (i + 1)) by
            rw [HD.out]
            conv => lhs; unfold Tx.wordsG
            rw [if_pos Hsp.out, if_neg hxn])
          have HP2 := hide (show pre ++ x :: Tx.wordsG [] (D.drop (i + 1)) = all by rw [← HW.out, ← hx]; exact HP.out)
          have hpl : pre.length < N + 1 := by
            have h1 := congrArg List.length HP2.out
            rw [List.length_append, List.length_cons] at h1
            have := HAl.out
            omega
          have hYx := HY.out pre x wr Hj.out ⟨hxn, by rw [hxl, HN.out]; omega⟩ (by rw [HN.out]; exact hpl)
          obtain ⟨fn, tmps, assign, body, hy, hRn⟩ := hYx
          have HRn := hide hRn
          have hbd : 0 ≤ (f : Int) ∧ (f : Int) ≤ (i : Int) ∧ (i : Int) ≤ (N : Int) := by omega
          clear hx hxl hxn hRn hpl
          gi_wp2_with (refine ⟨trivial, ?_⟩; gi_at_call 69; refine (callsIn_wide.2 HSc.out).mono ?_; rintro e w2 ⟨rfl, hw2⟩; subst w2)
          refine HRn.out.mono ?_
          rintro e W3 ⟨rfl, hJ3, hk3⟩
          have HJ3 := hide hJ3
          have HC3 := hide (show Blk W3 Bs 9 #[.string (bstr D)] from hk3.2.trans HC2.out)
          clear hJ3 hk3
          gi_wp2
          go_roundg (N - (i + 1))
          case measure => have := Hg.out; omega
          case rel =>
            refine ⟨i + 1, i + 1, pre ++ [x], rfl, by omega, Nat.le_refl _, by first | rfl | go_num, by first | rfl | go_num, ?_, HJ3.out, HC3.out⟩
            rw [Nat.sub_self, List.take_zero, List.append_assoc]
            exact HP2.out
        · have hfe : f = i := by omega
          subst hfe
          have hfz : ¬ (f : Int) < (f : Int) := by omega
          have HP2 := hide (show pre ++ Tx.wordsG [] (D.drop (f + 1)) = all by
            rw [← HP.out, HD.out, Nat.sub_self, List.take_zero]
            conv => rhs; unfold Tx.wordsG
            rw [if_pos Hsp.out, if_pos rfl])
          gi_wp2_with (refine ⟨trivial, ?_⟩; gi_at_call 69; refine (callsIn_wide.2 HSc.out).mono ?_; rintro e w2 ⟨rfl, hw2⟩; subst w2)
          refine ⟨fun f h => (by cases h), ?_⟩
          gi_wp2
          go_roundg (N - (f + 1))
          case measure => have := Hg.out; omega
          case rel => exact ⟨f + 1, f + 1, pre, rfl, by omega, Nat.le_refl _, by first | rfl | go_num, by first | rfl | go_num, by rw [Nat.sub_self, List.take_zero]; exact HP2.out, Hj.out, HC2.out⟩
    · have hiN : i = N := by omega
      subst hiN
      have hnil : D.drop i = [] := List.drop_of_length_le (by rw [HN.out]; exact Nat.le_refl _)
      have htk : (D.drop f).take (i - f) = D.drop f := List.take_of_length_le (by rw [List.length_drop, HN.out]; exact Nat.le_refl _)
      have HP2 := hide (show pre ++ Tx.wordsG (D.drop f) [] = all by rw [← HP.out, hnil, htk])
      by_cases hfi : f < i
      · have hfz : (f : Int) < (i : Int) := by omega
        have hex : (bstr D).extract f i = bstr (D.drop f) := by rw [HEx.out f i, htk]
        obtain ⟨x, hx⟩ : ∃ x, D.drop f = x := ⟨_, rfl⟩
        have hxl : x.length = i - f := by rw [← hx, List.length_drop, HN.out]
        have hxn : x ≠ [] := fun e => by rw [e] at hxl; simp at hxl; omega
        rw [hx] at hex
        have HP3 := hide (show pre ++ [x] = all by
          have h1 := HP2.out
          rw [hx] at h1
          unfold Tx.wordsG at h1
          rwa [if_neg hxn] at h1)
        have hpl : pre.length < i + 1 := by
          have h1 := congrArg List.length HP3.out
          rw [List.length_append, List.length_singleton] at h1
          have := HAl.out
          omega
        have hYx := HY.out pre x wr Hj.out ⟨hxn, by rw [hxl, HN.out]; omega⟩ (by rw [HN.out]; exact hpl)
        obtain ⟨fn, tmps, assign, body, hy, hRn⟩ := hYx
        have HRn := hide hRn
        have hbd : 0 ≤ (f : Int) ∧ (f : Int) ≤ (i : Int) ∧ (i : Int) ≤ (i : Int) := by omega
        clear hx hxl hxn hRn hpl hnil htk
        gi_wp2
        refine HRn.out.mono ?_
        rintro e W3 ⟨rfl, hJ3, hk3⟩
        have HJ3 := hide hJ3
        clear hJ3 hk3
        gi_wp2
        go_end0
        have hJf := HJ3.out
        rw [HP3.out] at hJf
        first | exact ⟨⟨_, rfl⟩, _, rfl, hJf⟩ | exact ⟨⟨_, rfl⟩, hJf⟩
      · have hfz : ¬ (f : Int) < (i : Int) := by omega
        have HP3 := hide (show pre = all by
          have h1 := HP2.out
          rw [List.drop_of_length_le (by rw [HN.out]; omega)] at h1
          simpa [Tx.wordsG] using h1)
        clear hnil htk
        gi_wp2
        go_end0
        have hJf := Hj.out
        rw [HP3.out] at hJf
        first | exact ⟨⟨_, rfl⟩, _, rfl, hJf⟩ | exact ⟨⟨_, rfl⟩, hJf⟩
end Go.Proofs.YtlcfakmbcfdgbaaGreat
namespace Go.Proofs.YtlcfakmbcfdgbaaGreat
open Go.RowKit Go.WideShapes

attribute [local go_sem] Oper.semAt_some

theorem bxcells_app (a b : List UInt8) : Lib.byteCells (a ++ b) = Lib.byteCells a ++ Lib.byteCells b := by simp [Lib.byteCells]
/-- A builder that holds these bytes. -/
def Bx (B b : Nat) (l : List UInt8) (w : World) : Prop := Lib.IsBuilder 42 5 B b (Lib.byteCells l) w
section
variable {B b : Nat} {l : List UInt8} {w w1 : World}
theorem Bx.ws (h : Bx B b l w) (m : List UInt8) (hlen : l.length + m.length ≤ 140737488355328) (hBw : B ≤ w.heap.size) :
    Calls Tryz.prog 31 #[.pointer (some ⟨b, 0, none⟩), .string (bstr m)] w fun e w' => (∃ v, e = .returned v) ∧ Bx B b (l ++ m) w' ∧ BlT B b w w' := by
  have hs : (bstr m).size = m.length := bstr_size m
  refine (ws_any B b _ (bstr m) w h (by rw [Lib.byteCells_length]; omega) hBw).mono ?_
  rintro e w' ⟨rfl, h1, h2⟩
  refine ⟨⟨_, rfl⟩, ?_, h2⟩
  unfold Bx
  rw [bxcells_app]
  exact h1
theorem Bx.wb (h : Bx B b l w) (c : UInt8) (hlen : l.length + 1 ≤ 140737488355328) (hBw : B ≤ w.heap.size) :
    Calls Tryz.prog 32 #[.pointer (some ⟨b, 0, none⟩), .int .u8 (c.toNat : Nat)] w fun e w' => e = .returned .nilIface ∧ Bx B b (l ++ [c]) w' ∧ BlT B b w w' := by
  refine (wb_any B b _ _ w h (by rw [Lib.byteCells_length]; omega) hBw).mono ?_
  rintro e w' ⟨rfl, h1, h2⟩
  refine ⟨rfl, ?_, h2⟩
  unfold Bx
  rw [bxcells_app]
  exact h1
theorem Bx.turn (h : Bx B b l w) (hk : ∀ k, IsT w k 5 ∨ k = b → w1.heap[k]? = w.heap[k]?) : Bx B b l w1 := by
  have key : ∀ p, Lib.BuilderAt 42 5 B b p (Lib.byteCells l) w → Lib.BuilderAt 42 5 B b p (Lib.byteCells l) w1 := fun p hp => by
    obtain ⟨hB, v, hbk, hown, hne⟩ := hp
    refine ⟨hB, v, (hk _ (.inr rfl)).trans hbk, ⟨hown.1, ?_⟩, hne⟩
    rcases hown.2 with hn | ⟨g, cap, cur, rfl, hbg, hgg, rest⟩
    · exact .inl hn
    · exact .inr ⟨g, cap, cur, rfl, hbg, (hk g (.inl ⟨cur, _, hgg⟩)).trans hgg, rest⟩
  rcases h with h | h
  · exact .inl (key _ h)
  · exact .inr (key _ h)
theorem Bx.lt (h : Bx B b l w) : b < w.heap.size := by
  rcases h with h | h <;> exact h.lt
theorem Bx.isC (h : Bx B b l w) : IsC w b := by
  rcases h with h | h <;> (obtain ⟨_, v, hbk, _⟩ := h; exact ⟨_, _, _, hbk⟩)
theorem Bx.go (h : Bx B b l w) (hb : Below w.heap.size w w1) : Bx B b l w1 := h.turn fun k hk => hb.block k (by
  rcases hk with hk | rfl
  · exact hk.lt
  · exact h.lt)
theorem Bx.put (h : Bx B b l w) {i : Nat} {o o' : Obj} (hi : w.heap[i]? = some o') (hc : o'.isCells = false) : Bx B b l (w.putObj i o) := h.turn fun k hk => World.putObj_heap_other (by
  rintro rfl
  have : IsC w k := by
    rcases hk with ⟨cs, fr, hk⟩ | rfl
    · exact ⟨cs, _, fr, hk⟩
    · exact h.isC
  obtain ⟨cs, t, fr, e⟩ := this
  rw [hi] at e
  cases e
  cases hc)
theorem Bx.fresh (w : World) : Bx w.heap.size w.heap.size [] (w.alloc (.cells #[.pointer none, .slice none 0 0] 42)) :=
  .inl ⟨Nat.le_refl _, _, Blk.new w _ _, World.ownsRow_nil _ _ _ _, fun h => by cases h⟩
theorem Bx.str (h : Bx B b l w) (hBw : B ≤ w.heap.size) : Calls Tryz.prog 20 #[.pointer (some ⟨b, 0, none⟩)] w fun e w' => e = .returned (.string (bstr l)) ∧ Below B w w' := Tryz.Builder_String_any B b l w h hBw
theorem Bx.strK (h : Bx B b l w) (hBw : B ≤ w.heap.size) : Calls Tryz.prog 20 #[.pointer (some ⟨b, 0, none⟩)] w fun e w' => e = .returned (.string (bstr l)) ∧ Below B w w' ∧ Lib.OthersKept 5 (some b) w w' := by
  refine (Tryz.Builder_String_any_k B b l w (Lib.IsBuilderF.of h) hBw).mono ?_
  rintro e w' ⟨h1, _, h2, h3⟩
  exact ⟨h1, h2, h3⟩
theorem Bx.len (h : Bx B b l w) : Calls Tryz.prog 80 #[.pointer (some ⟨b, 0, none⟩)] w fun e w' => e = .returned (.int .i64 (l.length : Nat)) ∧ w' = w := by
  have := Tryz.Builder_Len B b _ w h
  rwa [Lib.byteCells_length] at this
theorem BlT.others (h : BlT B b w w1) (hb : IsC w b) : KeepsOthers w w1 := ⟨h.size, fun k o hk ho => by
  refine (h.block k (Array.getElem?_eq_some_iff.1 hk).1 ?_ (.inr ?_)).trans hk
  · rintro rfl
    obtain ⟨cs, t, fr, e⟩ := hb
    rw [hk] at e
    cases e
    cases ho
  · rintro ⟨cs, fr, e⟩
    rw [hk] at e
    cases e
    cases ho⟩
end
/-- What is on one line so far. -/
structure OneI (w : World) (D : List UInt8) (L : Nat) (pre : List (List UInt8)) (W : World) : Prop where
  bx : Bx w.heap.size w.heap.size (pre.foldl Tx.oneStep []) W
  b : Below w.heap.size w W
  size : w.heap.size + 4 ≤ W.heap.size
  txt : Blk W (w.heap.size + 1) 9 #[.string (bstr D)]
  len : (pre.foldl Tx.oneStep []).length ≤ pre.length * (L + 1)
theorem oneStep_len (acc x : List UInt8) : (Tx.oneStep acc x).length ≤ acc.length + x.length + 1 := by
  unfold Tx.oneStep
  split
  · omega
  · rw [List.length_append, List.length_cons]; omega
set_option maxRecDepth 100000 in
set_option maxHeartbeats 8000000 in
theorem one_line (D : List UInt8) (w : World) (hs : D.length ≤ 1000000) :
    Calls Tryz.prog 63 #[.string (bstr D)] w fun e w' => e = .returned (.string (bstr (Tx.one D))) ∧ Below w.heap.size w w' := by
  refine (callsIn_wide (n := 5)).1 ?_
  refine callsIn_of_wp_marks Tryz.func63 rfl trivial ?_ rfl
  simp only [Tryz.ntmps63, List.size_toArray, List.length_cons, List.length_nil, Nat.reduceAdd, Nat.reduceSub, Array.replicate_succ, Array.replicate_zero, List.push_toArray, List.append_toArray, List.nil_append, List.cons_append]
  obtain ⟨L, hL⟩ : ∃ L, D.length = L := ⟨_, rfl⟩
  have HL := hide hL
  rw [hL] at hs
  clear hL
  gi_wp2_with (refine ⟨trivial, ?_⟩; gi_at_call 79; refine (callsIn_wide.2 (twords_any _ _)).mono ?_; rintro e w' ⟨rfl, rfl⟩)
  have hT2 : Blk ((w.alloc (.cells #[.pointer none, .slice none 0 0] 42)).alloc (.cells #[.string (bstr D)] 9)) (w.heap.size + 1) 9 #[.string (bstr D)] := by
    have := Blk.new (w.alloc (.cells #[.pointer none, .slice none 0 0] 42)) 9 #[.string (bstr D)]
    rwa [World.size_alloc] at this
  have hO2 : Bx w.heap.size w.heap.size [] ((w.alloc (.cells #[.pointer none, .slice none 0 0] 42)).alloc (.cells #[.string (bstr D)] 9)) := (Bx.fresh w).go (below_alloc _ _)
  have hB2 : Below w.heap.size w ((w.alloc (.cells #[.pointer none, .slice none 0 0] 42)).alloc (.cells #[.string (bstr D)] 9)) := (below_alloc w _).trans ((below_alloc _ _).mono (by simp))
  have hz2 : ((w.alloc (.cells #[.pointer none, .slice none 0 0] 42)).alloc (.cells #[.string (bstr D)] 9)).heap.size = w.heap.size + 2 := by simp
  generalize (w.alloc (.cells #[.pointer none, .slice none 0 0] 42)).alloc (.cells #[.string (bstr D)] 9) = W2 at hT2 hO2 hB2 hz2 ⊢
  have HI0 := hide (fun o o' => show OneI w D L [] ((W2.alloc o).alloc o') from ⟨(hO2.go (below_alloc _ _)).go (below_alloc _ _), (hB2.trans ((below_alloc W2 o).mono (by omega))).trans ((below_alloc (W2.alloc o) o').mono (by simp; omega)), by simp; omega, (hT2.alloc o).alloc o', by simp⟩)
  have hgv : ∀ o o', GivesOn FrB Fence.wide (5 - 1) Tryz.prog 99 #[.pointer (some ⟨w.heap.size + 1, 0, none⟩)] (fun x : List UInt8 => #[.string (bstr x)]) (KpS (w.heap.size + 1)) (fun x _ => x ≠ [] ∧ x.length ≤ L) (fun xs => xs = Tx.words D) (L + 1) ((W2.alloc o).alloc o') := by
    intro o o'
    have h := words1_gives (5 - 1) (by omega) (w.heap.size + 1) D (by rw [HL.out]; omega) ((W2.alloc o).alloc o') ((hT2.alloc o).alloc o')
    rw [HL.out] at h
    exact h
  refine range_on (Fr := FrB) (fun A B h k h1 h2 => h.block k h2) rfl (by omega) (gf := 99) (lb := #[.pointer (some ⟨w.heap.size + 1, 0, none⟩)]) rfl trivial (enters_of Tryz.func99 (by kernel_rfl) rfl) (fun _ => rfl)
    hgv ?kt ?kb (OneI w D L) ?ip ?ib ?f HI0.out
    (fun x => { tmps := #[.string (bstr D), undef, .string ⟨#[]⟩, .pointer (some ⟨w.heap.size, 0, none⟩), .string (bstr x), .string (bstr D), .func (.func 99) #[] #[.pointer (some ⟨w.heap.size + 1, 0, none⟩)], .string (bstr x), undef, undef, undef, undef, undef, undef], defers := [] }) ?assign ?body ?done
  case kt => exact fun h k => h.trans k
  case kb => exact fun W o o' h h2 => ⟨by simp [World.putObj], World.putObj_heap_other (by omega)⟩
  case ip =>
    intro s W o o' h hl hc
    exact ⟨h.bx.put hl hc, ⟨h.b.os, h.b.tape, h.b.output, by have := h.b.size; simpa [World.putObj] using this, fun k hk => (World.putObj_heap_other (by omega)).trans (h.b.block k hk)⟩, by have := h.size; simpa [World.putObj] using this, (World.putObj_heap_other (by omega)).trans h.txt, h.len⟩
  case ib =>
    intro s A B h hb
    exact ⟨h.bx.go hb, h.b.trans (hb.mono h.b.size), Nat.le_trans h.size hb.size, h.txt.go hb, h.len⟩
  case f => exact fun x W o h => h
  case assign =>
    intro l x W K hK
    gi_wp2
    exact hK
  case body =>
    intro l pre x W hI hf hlen hsz
    have hal := hI.len
    have hal2 : pre.length * (L + 1) ≤ 1000001 * 1000001 := Nat.mul_le_mul (by omega) (by omega)
    obtain ⟨acc, hacc⟩ : ∃ acc, pre.foldl Tx.oneStep [] = acc := ⟨_, rfl⟩
    have HAcc := hide (show (pre ++ [x]).foldl Tx.oneStep [] = Tx.oneStep acc x by rw [List.foldl_append, hacc]; rfl)
    have HBx := hide (hacc ▸ hI.bx : Bx w.heap.size w.heap.size acc W)
    have HI := hide hI
    have HF := hide hf
    rw [hacc] at hal
    have HAl := hide hal
    have hxl : x.length ≤ 1000000 := Nat.le_trans hf.2 hs
    have hbs : w.heap.size ≤ W.heap.size := hI.b.size
    have hT := hI.txt
    have key : ∀ W3, BlT w.heap.size w.heap.size W W3 → Bx w.heap.size w.heap.size (Tx.oneStep acc x) W3 → KeepsFrom W2.heap.size W W3 ∧ KpS (w.heap.size + 1) W W3 ∧ OneI w D L (pre ++ [x]) W3 := fun W3 hT3 hB => by
      have hb3 := hT3.blk hT (by omega) (by decide)
      refine ⟨(hT3.others HBx.out.isC).from _, ⟨hT3.size, hb3.trans hT.symm⟩, ⟨HAcc.out.symm ▸ hB, HI.out.b.trans (hT3.below (Nat.le_refl _) hbs), Nat.le_trans HI.out.size hT3.size, hb3, ?_⟩⟩
      rw [HAcc.out, List.length_append, List.length_singleton, Nat.add_mul, Nat.one_mul]
      have := oneStep_len acc x
      have := HAl.out
      have := HF.out.2
      omega
    have Key := hide key
    have hal3 : acc.length ≤ 1000002000001 := Nat.le_trans hal hal2
    clear hal hal2 hacc hI hf key hgv hT2 hO2 hB2 HI0 hT
    cases acc with
    | nil =>
      have HS := hide (HBx.out.ws x (by simp; omega) hbs)
      gi_wp2_with (refine ⟨trivial, ?_⟩; gi_at_call 80; refine (callsIn_wide.2 HBx.out.len).mono ?_; rintro e w2 ⟨rfl, hw2⟩; subst w2)
      refine ⟨trivial, ?_⟩
      refine (callsIn_wide.2 HS.out).mono ?_
      rintro e w3 ⟨⟨v, rfl⟩, hb3, ht3⟩
      have HB3 := hide hb3
      have HT3 := hide ht3
      clear hb3 ht3
      dsimp only
      gi_wp2
      exact Key.out w3 HT3.out HB3.out
    | cons a acc =>
      have HS1 := hide (HBx.out.wb 32 (by omega) hbs)
      have hlz : (0 : Int) < ((a :: acc).length : Int) := by rw [List.length_cons]; omega
      obtain ⟨m, hm⟩ : ∃ m, (a :: acc).length = m := ⟨_, rfl⟩
      have HLn := hide (HBx.out.len)
      rw [hm] at HLn hlz hal3
      have Hm := hide hm
      clear hm
      gi_wp2_with (refine ⟨trivial, ?_⟩; gi_at_call 80; refine (callsIn_wide.2 HLn.out).mono ?_; rintro e w2 ⟨rfl, hw2⟩; subst w2)
      refine ⟨trivial, ?_⟩
      refine (callsIn_wide.2 HS1.out).mono ?_
      rintro e w3 ⟨rfl, hb3, ht3⟩
      have HB3 := hide hb3
      have HT3 := hide ht3
      have HS2 := hide (hb3.ws x (by rw [List.length_append, Hm.out, List.length_singleton]; omega) (Nat.le_trans hbs ht3.size))
      clear hb3 ht3
      dsimp only
      gi_wp2_with fail
      refine ⟨trivial, ?_⟩
      refine (callsIn_wide.2 HS2.out).mono ?_
      rintro e w4 ⟨⟨v, rfl⟩, hb4, ht4⟩
      have HB4 := hide hb4
      have HT4 := hide (HT3.out.trans ht4)
      clear hb4 ht4
      dsimp only
      gi_wp2
      refine Key.out w4 HT4.out ?_
      have := HB4.out
      unfold Tx.oneStep
      rw [if_neg (by simp)]
      rwa [List.append_assoc] at this
  case done =>
    intro D0 xs W hD hxs hI hK
    subst hxs
    have hbs : w.heap.size ≤ W.heap.size := hI.b.size
    have hDs : D0 = w.heap.size + 2 := by omega
    subst hDs
    have HSt := hide (hI.bx.strK hbs)
    have HB := hide hI.b
    have HK := hide hK
    have hO := hide (show (Tx.words D).foldl Tx.oneStep [] = Tx.one D from rfl)
    have hsz := hI.size
    have HSt2 := hide (hO.out ▸ HSt.out)
    have HBx := hide hI.bx
    clear hI hK hgv hT2 hO2 hB2 HI0 HSt
    gi_wp2_with fail
    refine ⟨trivial, ?_⟩
    refine (callsIn_wide.2 HSt2.out).mono ?_
    rintro e w3 ⟨rfl, hb3, ho3⟩
    have HB3 := hide (HB.out.trans hb3)
    have HK3 := hide (ho3 _ _ HK.out (fun e => by injection e with e; omega) (fun c fz e => by cases e))
    clear hb3 ho3
    dsimp only
    gi_wp2
    refine ⟨by simp, .inl ⟨_, _, rfl, run_takeDeferred HK3.out, ?_⟩⟩
    refine ⟨.string (bstr (Tx.one D)), ?_, ?_⟩
    · simp [results, Tryz.results63, go_sem]
    · exact ⟨rfl, HB3.out.os, HB3.out.tape, HB3.out.output, Nat.le_trans HB3.out.size (by simp [World.putObj]), fun k hk => (World.putObj_heap_other (by omega)).trans (HB3.out.block k hk)⟩
namespace Tx
theorem wordsG_mem : ∀ (l cur : List UInt8), ((wordsG cur l).map List.length).sum + (wordsG cur l).length ≤ cur.length + l.length + 1
  | [], cur => by unfold wordsG; split <;> simp
  | c :: l, cur => by
    unfold wordsG
    have h1 := wordsG_mem l []
    have h2 := wordsG_mem l (cur ++ [c])
    rw [List.length_nil] at h1
    rw [List.length_append, List.length_singleton] at h2
    rw [List.length_cons]
    split
    · split
      · omega
      · rw [List.map_cons, List.sum_cons, List.length_cons]; omega
    · omega
theorem one_len (l : List UInt8) : (one l).length ≤ l.length + 1 := by
  have key : ∀ (ws : List (List UInt8)) (acc : List UInt8), (ws.foldl oneStep acc).length ≤ acc.length + (ws.map List.length).sum + ws.length := fun ws => by
    induction ws with
    | nil => intro acc; simp
    | cons x ws ih =>
      intro acc
      rw [List.foldl_cons, List.map_cons, List.sum_cons, List.length_cons]
      have := ih (oneStep acc x)
      have := oneStep_len acc x
      omega
  have := key (words l) []
  have := wordsG_mem l []
  unfold one words at *
  simp only [List.length_nil] at *
  omega
def line (l : List UInt8) : List UInt8 := Nf.nfc (one l)
def block (l : List UInt8) : List UInt8 := Nf.nfc (trim l)
def right (l : List UInt8) : Bool := Utf.valid l && decide (Tk.bad l < 0)
def isLine (l : List UInt8) : Bool := right l && decide (line l = l)
def isBlock (l : List UInt8) : Bool := right l && decide (block l = l)
end Tx
set_option maxHeartbeats 4000000 in
theorem line_any (l : List UInt8) (w : World) (hs : l.length ≤ 200000) :
    Calls Tryz.prog 49 #[.string (bstr l)] w fun e w' => e = .returned (.string (bstr (Tx.line l))) ∧ Below w.heap.size w w' := by
  have H1 := hide (one_line l w (by omega))
  have hol := Tx.one_len l
  have H2 := hide (fun W => nfc_any (bstr (Tx.one l)) W (by rw [bstr_size]; omega))
  rw [bstr_list] at H2
  clear hol
  go_enter Tryz.func49, Tryz.ntmps49
  go_wp2_with fail
  refine H1.out.mono ?_
  rintro e w1 ⟨rfl, hb⟩
  have HB := hide hb
  clear hb
  dsimp only
  go_wp2_with fail
  refine (H2.out w1).mono ?_
  rintro e w2 ⟨rfl, hb⟩
  have HB2 := hide (HB.out.trans (hb.mono HB.out.size))
  clear hb
  dsimp only
  go_wp2
  go_ret
  exact ⟨rfl, HB2.out⟩
set_option maxHeartbeats 4000000 in
theorem block_any (l : List UInt8) (w : World) (hs : l.length ≤ 200000) :
    Calls Tryz.prog 40 #[.string (bstr l)] w fun e w' => e = .returned (.string (bstr (Tx.block l))) ∧ Below w.heap.size w w' := by
  have H1 := hide (trim_any (bstr l) w (by rw [bstr_size]; omega))
  rw [bstr_list] at H1
  have hol := Tx.trim_len l
  have H2 := hide (fun W => nfc_any (bstr (Tx.trim l)) W (by rw [bstr_size]; omega))
  rw [bstr_list] at H2
  clear hol
  go_enter Tryz.func40, Tryz.ntmps40
  go_wp2_with fail
  refine cq (H1.out) ?_
  dsimp only
  go_wp2_with fail
  refine (H2.out w).mono ?_
  rintro e w2 ⟨rfl, hb⟩
  have HB2 := hide hb
  clear hb
  dsimp only
  go_wp2
  go_ret
  exact ⟨rfl, HB2.out⟩
set_option maxHeartbeats 4000000 in
theorem right_any (l : List UInt8) (w : World) (hs : l.length ≤ 200000) :
    Calls Tryz.prog 39 #[.string (bstr l)] w fun e w' => e = .returned (.bool (Tx.right l)) ∧ Below w.heap.size w w' := by
  have H1 := hide (valid_any (bstr l) w (by rw [bstr_size]; omega))
  have H2 := hide (fun W => bad_any (bstr l) W (by rw [bstr_size]; omega))
  rw [bstr_list] at H1 H2
  unfold Tx.right
  cases hv : Utf.valid l with
  | false =>
    rw [hv] at H1
    clear hv
    go_enter Tryz.func39, Tryz.ntmps39
    go_wp2_with fail
    refine H1.out.mono ?_
    rintro e w1 ⟨rfl, hb⟩
    have HB := hide hb
    clear hb
    dsimp only
    go_wp2
    go_ret
    exact ⟨rfl, HB.out⟩
  | true =>
    rw [hv] at H1
    clear hv
    obtain ⟨q, hq⟩ : ∃ q, Tk.bad l = q := ⟨_, rfl⟩
    rw [hq] at H2 ⊢
    clear hq
    go_enter Tryz.func39, Tryz.ntmps39
    go_wp2_with fail
    refine H1.out.mono ?_
    rintro e w1 ⟨rfl, hb⟩
    have HB := hide hb
    clear hb
    dsimp only
    go_wp2_with fail
    refine (H2.out w1).mono ?_
    rintro e w2 ⟨rfl, hb⟩
    have HB2 := hide (HB.out.trans (hb.mono HB.out.size))
    clear hb
    dsimp only
    go_wp2
    go_ret
    exact ⟨by rw [Bool.true_and]; rfl, HB2.out⟩
end Go.Proofs.YtlcfakmbcfdgbaaGreat
namespace Go.Proofs.YtlcfakmbcfdgbaaGreat
open Go.RowKit Go.WideShapes

/-- append of a string: where the row lies then. -/
theorem append_str_at {P : Program} (w : World) (base : Nat) (t u ty e : TypeId) (i : TypeInfo) (ht : P.underlying t = some (.slice e)) (hu : P.underlying u = some .string) (hi : P.info? e = some i) (hz : i.zero = some (.int .u8 0))
    (hsize : i.size = 1) (hby : i.bytes = 1) (v : Value) (n : Nat) (xs : List Value) (hown : w.ownsRow base e 1 v n xs) (s : ByteArray) (hbytes : n + s.size ≤ 140737488355328)
    {v' : Value} {w' : World} (hr : (Builtin.append_ #[t, u] ty #[v, .string s]).run P w = .ok v' w') : v'.ownBlock = v.ownBlock ∨ v'.ownBlock = some w.heap.size := by
  have hxl : xs.length = n := by simpa using hown.1
  rcases hown.2 with ⟨rfl, rfl⟩ | ⟨g, cap, cur, rfl, hbg, hg, hnc, hcm, hcs, htake⟩
  · by_cases hm : s.size = 0
    · left
      have hf := Lib.run_firstCells_string (P := P) w 1 s
      rw [hm] at hf
      simp [Builtin.append_, run_underlying ht, run_underlying hu, sizeOf, typeInfo, hi, hsize, Builtin.lenOf, hm, hf] at hr
      rw [← hr.1]
    · right
      have h := run_append_nil_string (P := P) w t u ty e i (.int .u8 0) ht hu hi hz s (by omega) (by omega) (by rw [hby]; omega)
      rw [hr] at h
      injection h with h1 _
      rw [h1]; rfl
  · by_cases hroom : n + s.size ≤ cap
    · left
      have hcs' : cur.size = cap := by simpa using hcs
      have h := Lib.run_append_room_string (P := P) w t u ty e i ht hu hi hsize g n cap cur hg s hroom (by omega)
      rw [hr] at h
      injection h with h1 _
      rw [h1]; rfl
    · right
      have holds : ∀ j u, xs[j]? = some u → w.cell? ((⟨g, 0, none⟩ : Addr).add j) = some u := hown.cells (g := g) rfl
      have h := Lib.run_append_grow_string (P := P) w t u ty e i (.int .u8 0) ht hu hi hz ⟨g, 0, none⟩ n cap xs (by rw [hsize]; simpa using hxl) holds s (by omega) (by omega) (by rw [hby]; exact growslice_fits (by omega) (by omega))
      rw [hr] at h
      injection h with h1 _
      rw [h1]; rfl
theorem wpList_append_string_at {P : Program} (w : World) {ops : Array Oper} {rest : List Oper} {o : Oper} {a : Act} {Q : Exit → Act → World → Prop} (hgd : o.guard = none) (sl x : Operand) (t u : TypeId)
    (ho : o.op = .call { callee := .builtin .append, args := #[sl, x], argTypes := #[t, u] })
    (base : Nat) (e : TypeId) (ht : P.underlying t = some (.slice e)) (hu : P.underlying u = some .string) (hinfo : (P.info? e).map (fun i => (i.zero, i.size, i.bytes)) = some (some (.int .u8 0), 1, 1))
    (v : Value) (n : Nat) (xs : List Value) (hs : a.eval sl = v) (hown : w.ownsRow base e 1 v n xs) (s : ByteArray) (hx : a.eval x = .string s)
    (hbytes : n + s.size ≤ 140737488355328) (hbase : base ≤ w.heap.size)
    (h : ∀ v' w', w'.ownsRow base e 1 v' (n + s.size) (xs ++ Lib.strCells s) → w.grownBy w' v.ownBlock → (v'.ownBlock = v.ownBlock ∨ v'.ownBlock = some w.heap.size) → wpList P ops Q rest (a.put o.dst v') w') : wpList P ops Q (o :: rest) a w := by
  refine wpList_plain hgd fun K hK => ?_
  obtain ⟨i, hi, hz, hsize, hby⟩ := info_parts hinfo
  obtain ⟨v', w', hr, h2, h3, _⟩ := Lib.run_append_own_string (P := P) w base t u o.type e i ht hu hi hz hsize hby v n xs hown s (by unfold maxLen; omega) hbytes hbase
  have h4 := append_str_at (P := P) w base t u o.type e i ht hu hi hz hsize hby v n xs hown s hbytes hr
  unfold Oper.wp execOp
  simp only [ho, resolve, invoke, builtin, Sem.run_bind, Sem.run_pure, Result.andThen_ok, List.map_toArray, List.map_cons, List.map_nil, hs, hx, hr]
  exact hK _ _ (h v' w' h2 h3 h4)
/-- A builder whose buffer lies in block r. -/
def Bf (B b : Nat) (l : List UInt8) (r : Option Nat) (w : World) : Prop :=
  B ≤ b ∧ ∃ p v, (p = .pointer none ∨ p = .pointer (some ⟨b, 0, none⟩)) ∧ Blk w b 42 #[p, v] ∧ w.ownsRow B 5 1 v l.length (Lib.byteCells l) ∧ v.ownBlock = r
/-- All but the builder and its row is as it was. -/
structure Fz (b : Nat) (r : Option Nat) (w w' : World) : Prop where
  os : w'.os = w.os
  tape : w'.tape = w.tape
  output : w'.output = w.output
  size : w.heap.size ≤ w'.heap.size
  block : ∀ k, k < w.heap.size → k ≠ b → some k ≠ r → w'.heap[k]? = w.heap[k]?
theorem Fz.refl (b : Nat) (r : Option Nat) (w : World) : Fz b r w w := ⟨rfl, rfl, rfl, Nat.le_refl _, fun _ _ _ _ => rfl⟩
theorem Bf.bx {B b : Nat} {l : List UInt8} {r : Option Nat} {w : World} (h : Bf B b l r w) : Bx B b l w := by
  obtain ⟨hB, p, v, hp, hk, ho, _⟩ := h
  have hat : Lib.BuilderAt 42 5 B b p (Lib.byteCells l) w := ⟨hB, v, hk, by rw [Lib.byteCells_length]; exact ho, own_blk_ne ho hk (by decide)⟩
  rcases hp with rfl | rfl
  · exact .inl hat
  · exact .inr hat
theorem Bf.fresh (w : World) : Bf w.heap.size w.heap.size [] none (w.alloc (.cells #[.pointer none, .slice none 0 0] 42)) :=
  ⟨Nat.le_refl _, _, _, .inl rfl, Blk.new w _ _, World.ownsRow_nil _ _ _ _, rfl⟩
/-- So far: the row is the first one, or a new one. -/
def Bg (W0 : World) (B b : Nat) (r0 : Option Nat) (l : List UInt8) (W : World) : Prop := ∃ r, Bf B b l r W ∧ (r = r0 ∨ ∃ k, r = some k ∧ W0.heap.size ≤ k) ∧ Fz b r0 W0 W
theorem Bg.step {W0 W W' : World} {B b : Nat} {r0 r : Option Nat} {l' : List UInt8} (h0 : r = r0 ∨ ∃ k, r = some k ∧ W0.heap.size ≤ k) (hz : Fz b r0 W0 W) (h : Bg W B b r l' W') : Bg W0 B b r0 l' W' := by
  obtain ⟨r', hb, hr, hf⟩ := h
  refine ⟨r', hb, ?_, ⟨hf.os.trans hz.os, hf.tape.trans hz.tape, hf.output.trans hz.output, Nat.le_trans hz.size hf.size, fun k hk hne hkr => (hf.block k (Nat.lt_of_lt_of_le hk hz.size) hne ?_).trans (hz.block k hk hne hkr)⟩⟩
  · rcases hr with rfl | ⟨k, rfl, hk⟩
    · exact h0
    · exact .inr ⟨k, rfl, Nat.le_trans hz.size hk⟩
  · rcases h0 with rfl | ⟨k0, rfl, hk0⟩
    · exact hkr
    · intro e; injection e with e; omega
/-- copyCheck: the address is there. -/
theorem cc_f {B b : Nat} {l : List UInt8} {r : Option Nat} {w : World} (h : Bf B b l r w) :
    Calls Tryz.prog 44 #[.pointer (some ⟨b, 0, none⟩)] w fun e w' => e = .returned (.tuple #[]) ∧ ∃ v, Blk w' b 42 #[.pointer (some ⟨b, 0, none⟩), v] ∧ w'.ownsRow B 5 1 v l.length (Lib.byteCells l) ∧ v.ownBlock = r ∧ Fz b r w w' := by
  obtain ⟨hB, p, v, hp, hk, ho, hr⟩ := h
  have hne := own_blk_ne ho hk (by decide)
  rcases hp with rfl | rfl
  · refine (cc_fresh b w (hk.cell 0) (by unfold Blk at hk; simp [World.shape?, hk]) (hk.frozen 0)).mono ?_
    rintro e w' ⟨rfl, rfl⟩
    refine ⟨rfl, v, by simpa using hk.set_ 0 (.pointer (some ⟨b, 0, none⟩)), ownsRow_setCell_other ho hne _, hr, ⟨rfl, rfl, rfl, by simp [World.setCell], fun k hk2 h1 h2 => Below.heap_setCell _ _ _ _ (by exact h1)⟩⟩
  · refine (cc_used b w (hk.cell 0)).mono ?_
    rintro e w' ⟨rfl, rfl⟩
    exact ⟨rfl, v, hk, ho, hr, Fz.refl _ _ _⟩
theorem fz_end {B b : Nat} {r : Option Nat} {l' : List UInt8} {w w1 w2 : World} {v v' : Value} (hB : B ≤ b) (hf : Fz b r w w1) (hk : Blk w1 b 42 #[.pointer (some ⟨b, 0, none⟩), v]) (hr : v.ownBlock = r) (hne : v.ownBlock ≠ some b)
    (ho : w2.ownsRow B 5 1 v' l'.length (Lib.byteCells l')) (hg : w1.grownBy w2 v.ownBlock) (hat : v'.ownBlock = v.ownBlock ∨ ∃ k, v'.ownBlock = some k ∧ w1.heap.size ≤ k) : Bg w B b r l' (w2.setCell ⟨b, 1, none⟩ v') := by
  have hk2 : Blk w2 b 42 #[.pointer (some ⟨b, 0, none⟩), v] := hk.grown hg (fun e => hne e.symm)
  have hne2 := own_blk_ne ho hk2 (by decide)
  refine ⟨v'.ownBlock, ⟨hB, _, v', .inr rfl, by simpa using hk2.set_ 1 v', ownsRow_setCell_other ho hne2 _, rfl⟩, ?_, ⟨hg.os.trans hf.os, hg.tape.trans hf.tape, hg.output.trans hf.output, ?_, fun k h1 h2 h3 => ?_⟩⟩
  · rcases hat with h | ⟨k, h, hk3⟩
    · exact .inl (h.trans hr)
    · exact .inr ⟨k, h, Nat.le_trans hf.size hk3⟩
  · have := hf.size; have := hg.size; simp only [World.setCell, Array.size_modify]; omega
  · rw [Below.heap_setCell _ _ _ _ (by exact h2), hg.block k (Nat.lt_of_lt_of_le h1 hf.size) (by rw [hr]; exact h3)]
    exact hf.block k h1 h2 h3
set_option maxHeartbeats 2000000 in
set_option maxRecDepth 100000 in
theorem ws_f {B b : Nat} {l : List UInt8} {r : Option Nat} {w : World} (m : List UInt8) (h : Bf B b l r w) (hlen : l.length + m.length ≤ 140737488355328) (hBw : B ≤ w.heap.size) :
    Calls Tryz.prog 31 #[.pointer (some ⟨b, 0, none⟩), .string (bstr m)] w fun e w' => (∃ v, e = .returned v) ∧ Bg w B b r (l ++ m) w' := by
  have hB := h.1
  have HC := hide (cc_f h)
  have hms : (bstr m).size = m.length := bstr_size m
  have HM := hide hms
  clear h
  go_enter Tryz.func31, Tryz.ntmps31
  go_wp2_with fail
  refine HC.out.mono ?_
  rintro e w1 ⟨rfl, v, hk, ho, hr, hf⟩
  have hne := own_blk_ne ho hk (by decide)
  have HK := hide hk
  have HO := hide ho
  have HF := hide hf
  have Hr := hide hr
  have HN := hide hne
  have c0 := hk.cell 0
  have c1 := hk.cell 1
  have hsz := hf.size
  have HB := hide hB
  have hbw1 : B ≤ w1.heap.size := Nat.le_trans hBw hsz
  clear hk ho hr hf hne hms hB
  dsimp only
  go_wp2_with (at_builtin; go_loud (refine wpList_append_string_at w1 rfl _ _ 40 9 rfl B 5 Tryz.underlying40 Tryz.underlying9 info_u8b _ _ _ rfl HO.out (bstr m) rfl (by rw [HM.out]; exact hlen) hbw1 ?_); intro v' w2 ho2 hg2 hat2; have hk2 := HK.out.grown hg2 (fun e => HN.out e.symm); have d0 := hk2.cell 0; have d1 := hk2.cell 1; have f1 := hk2.frozen 1; have HO2 := hide ho2; have HG2 := hide hg2; have HA2 := hide hat2; obtain ⟨ao, cap, rfl⟩ := own_form ho2; clear ho2 hg2 hat2 hk2)
  go_ret2
  refine ⟨⟨_, rfl⟩, ?_⟩
  refine fz_end HB.out HF.out HK.out Hr.out HN.out ?_ HG2.out (HA2.out.imp id fun h => ⟨_, h, Nat.le_refl _⟩)
  have h := HO2.out
  rw [HM.out] at h
  rw [List.length_append, bxcells_app]
  exact h
set_option maxHeartbeats 2000000 in
set_option maxRecDepth 100000 in
theorem wb_f {B b : Nat} {l : List UInt8} {r : Option Nat} {w : World} (c : UInt8) (h : Bf B b l r w) (hlen : l.length + 1 ≤ 140737488355328) (hBw : B ≤ w.heap.size) :
    Calls Tryz.prog 32 #[.pointer (some ⟨b, 0, none⟩), .int .u8 (c.toNat : Nat)] w fun e w' => e = .returned .nilIface ∧ Bg w B b r (l ++ [c]) w' := by
  have hB := h.1
  have HC := hide (cc_f h)
  obtain ⟨i0, hi, hz0, hz1, hz2⟩ := info_parts info_u8b
  clear h
  go_enter Tryz.func32, Tryz.ntmps32
  go_wp2_with fail
  refine HC.out.mono ?_
  rintro e w1 ⟨rfl, v, hk, ho, hr, hf⟩
  have hne := own_blk_ne ho hk (by decide)
  have HK := hide hk
  have HO := hide ho
  have HF := hide hf
  have Hr := hide hr
  have HN := hide hne
  have c0 := hk.cell 0
  have c1 := hk.cell 1
  have hsz := hf.size
  have HB := hide hB
  have hbw1 : B ≤ w1.heap.size := Nat.le_trans hBw hsz
  clear hk ho hr hf hne hB
  dsimp only
  go_wp2_with (at_builtin; refine wpList_append_own_at _ rfl _ _ 40 rfl B 5 i0 (.int .u8 0) 1 1 Tryz.underlying40 hi hz0 hz1 hz2 rfl (by decide) _ _ _ rfl (HO.out.alloc _) ⟨w1.heap.size, 0, none⟩ 1 1 [.int .u8 (c.toNat : Nat)] rfl rfl ?c1 ?c2 ?c3 ?c4 ?c5 ?_)
  case c1 =>
    intro j u hj
    match j, hj with
    | 0, hj => simp at hj; subst hj; simp [Addr.add]
  case c2 => intro u hu; simp at hu; subst hu; rfl
  case c3 => unfold maxLen; omega
  case c4 => omega
  case c5 => simp; omega
  intro v' w2 ho2 hg2 _ hat2
  have hg3 : w1.grownBy w2 v.ownBlock := ⟨hg2.os, hg2.tape, hg2.output, Nat.le_trans (by simp) hg2.size, fun k hk hne => (hg2.block k (by simp; omega) hne).trans (Below.heap_alloc w1 _ k hk)⟩
  have hat3 : v'.ownBlock = v.ownBlock ∨ ∃ k, v'.ownBlock = some k ∧ w1.heap.size ≤ k := by
    rcases hat2 with h | h
    · exact .inl h
    · exact .inr ⟨_, h, by simp⟩
  have hk2 := HK.out.grown hg3 (fun e => HN.out e.symm)
  have d0 := hk2.cell 0
  have d1 := hk2.cell 1
  have f1 := hk2.frozen 1
  have HO2 := hide ho2
  have HG2 := hide hg3
  have HA2 := hide hat3
  obtain ⟨ao, cap, rfl⟩ := own_form ho2
  clear ho2 hg2 hg3 hat2 hat3 hk2
  go_wp2
  go_ret
  refine ⟨rfl, ?_⟩
  refine fz_end HB.out HF.out HK.out Hr.out HN.out ?_ HG2.out HA2.out
  rw [List.length_append, bxcells_app]
  exact HO2.out
end Go.Proofs.YtlcfakmbcfdgbaaGreat
