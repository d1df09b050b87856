/- NFC: slices.symMergeCmpFunc whole, stableCmpFunc, SortStableFunc by classes. · A range over a function whose iterator writes one block that was there (its captured variable): the law of the statement. · NFC: the iterator over runs (order.runs); order.Sort. -/
import Derived.Test.YtheaknghgpafpaaWv04
import Derived.Test.YtheaknghgpafpaaWv08
import Derived.RangeFuncNested
import Derived.Sort.LoopGhostIn
set_option linter.unusedSimpArgs false
set_option linter.unusedVariables false
namespace Go.Proofs.Ytheaknghgpafpaa
open Go.RowKit Go.WideShapes

theorem merge_any : ∀ N, MergeSays N
  | 0 => fun A u v B pre post g off cap n a m b w h hn ha hm hb hu hv hN => by omega
  | N + 1 => fun A u v B pre post g off cap n a m b w h hn ha hm hb hu hv hN hup hvp hs => by
    by_cases h1 : u.length = 1
    · obtain ⟨x, rfl⟩ := List.length_eq_one_iff.1 h1
      exact symMerge1_any A v B x pre post g off cap n a m b w h (by simpa using hn) ha (by simpa using hm) (by simpa using hb) hv hvp hs
    · by_cases h2 : v.length = 1
      · obtain ⟨x, rfl⟩ := List.length_eq_one_iff.1 h2
        exact symMerge2_any A u B x pre post g off cap n a m b w h (by simpa using hn) ha hm (by simpa using hb) (by omega) hup hs
      · exact symMerge3_any N (merge_any N) A u v B pre post g off cap n a m b w h hn ha hm hb (by omega) (by omega) hN hup hvp hs
namespace Nf
/-- Sorted block by block. -/
def blk (bs : Nat) (l : List Int) : List Int := if h : bs = 0 ∨ l.length ≤ bs then sortR l else sortR (l.take bs) ++ blk bs (l.drop bs)
termination_by l.length
decreasing_by rw [List.length_drop]; omega
theorem blk_short {bs : Nat} {l : List Int} (h : l.length ≤ bs) : blk bs l = sortR l := by rw [blk, dif_pos (.inr h)]
theorem blk_step {bs : Nat} {l : List Int} (h0 : 0 < bs) (h : bs ≤ l.length) : blk bs l = sortR (l.take bs) ++ blk bs (l.drop bs) := by
  rcases Nat.lt_or_eq_of_le h with hlt | he
  · conv => lhs; rw [blk]
    rw [dif_neg (by omega)]
  · rw [blk_short (by omega), List.take_of_length_le (by omega), List.drop_of_length_le (by omega), blk_short (by simp)]
    simp [sortR]
theorem sortR_both (a b : List Int) : sortR (sortR a ++ sortR b) = sortR (a ++ b) :=
  sortR_is (sortR_up _) (((sortR_same a).app (sortR_same b)).trans (sortR_same _))
theorem take_more (l : List Int) (a b : Nat) : l.take a ++ (l.drop a).take b = l.take (a + b) := List.take_add.symm
theorem blk_len (bs : Nat) (l : List Int) : (blk bs l).length = l.length := by
  rw [blk]
  split
  · exact sortR_len l
  · rw [List.length_append, sortR_len, blk_len bs (l.drop bs), ← List.length_append, List.take_append_drop]
termination_by l.length
decreasing_by rw [List.length_drop]; omega
end Nf
set_option maxRecDepth 100000 in
set_option maxHeartbeats 16000000 in
theorem stable_any (l : List Int) (pre post : List Value) (g off cap n : Nat) (w : World) (h : SRow w g off pre post l) (hn : n = l.length) (hs : n ≤ 1000000000) :
    Calls Try.prog 83 #[.slice (some ⟨g, off, none⟩) n cap, .int .i64 n, .func (.func 75) #[] #[]] w fun e w' => e = .returned (.tuple #[]) ∧ SRow w' g off pre post (Nf.sortR l) ∧ But g w w' := by
  have HR := hide h
  have Hn := hide hn
  have HIns := hide (fun A l B n a b W h => insertion_any A l B pre post g off cap n a b W h)
  have HMrg := hide (fun A u v B n a m b W h => merge_any (u.length + v.length) A u v B pre post g off cap n a m b W h)
  clear h hn
  go_enter Try.func83, Try.ntmps83
  go_wp2
  go_loopg [7, 8] n (fun gk va vb wr => ∃ (a : Nat) (P : List Int), gk = n - a ∧ a ≤ n ∧ va = .int .i64 (a : Int) ∧ vb = .int .i64 ((a + 20 : Nat) : Int) ∧ P.length = a ∧ SRow wr g off pre post (P ++ l.drop a) ∧ P ++ Nf.blk 20 (l.drop a) = Nf.blk 20 l ∧ But g w wr)
  case atStart => exact ⟨0, [], rfl, by omega, rfl, rfl, rfl, by simpa using HR.out, by simp, But.refl _ _⟩
  case round =>
    obtain ⟨a, P, hgk, han, rfl, rfl, hP, hr, he, hbt⟩ := hrel
    have Hg := hide hgk
    have HP := hide hP
    have HI := hide hr
    have HE := hide he
    have HB := hide hbt
    clear hgk hP hr he hbt
    by_cases hlt : a + 20 ≤ n
    · obtain ⟨b, hb⟩ : ∃ b, a + 20 = b := ⟨_, rfl⟩
      rw [hb] at hlt ⊢
      have Hb := hide hb
      have zb : IntKind.i64.wrap ((b : Int) + 20) = ((b + 20 : Nat) : Int) := by rw [IntWalk.i64_in _ (by omega)]; omega
      have hdl : (l.drop a).length = n - a := by rw [List.length_drop, Hn.out]
      have hst := Nf.blk_step (bs := 20) (l := l.drop a) (by omega) (by omega)
      have hdd : (l.drop a).drop 20 = l.drop b := by rw [List.drop_drop, Hb.out]
      have htl : ((l.drop a).take 20).length = 20 := by rw [List.length_take]; omega
      have hsp : (l.drop a).take 20 ++ l.drop b = l.drop a := by rw [← hdd, List.take_append_drop]
      have hbl : (l.drop b).length = n - b := by rw [List.length_drop, Hn.out]
      rw [hdd] at hst
      have HC := hide (HIns.out P ((l.drop a).take 20) (l.drop b) n a b wr (by rw [hsp]; exact HI.out) (by rw [HP.out, htl, hbl]; omega) HP.out.symm (by rw [HP.out, htl]; omega) hs)
      have HE2 := hide (show (P ++ Nf.sortR ((l.drop a).take 20)) ++ Nf.blk 20 (l.drop b) = Nf.blk 20 l by rw [← HE.out, hst, List.append_assoc])
      have HL := hide (show (P ++ Nf.sortR ((l.drop a).take 20)).length = b by rw [List.length_append, Nf.sortR_len, htl, HP.out, Hb.out])
      clear hb hdl hst hdd htl hsp hbl
      go_wp2_with fail
      refine HC.out.mono ?_
      rintro e w2 ⟨rfl, hr2, hb2⟩
      have HR2 := hide hr2
      have HB2 := hide hb2
      clear hr2 hb2
      go_wp2
      go_roundg (n - b)
      case measure => have := Hg.out; have := Hb.out; omega
      case rel => exact ⟨b, _, rfl, hlt, rfl, by first | rfl | go_num, HL.out, HR2.out.as (by simp), HE2.out, HB.out.trans HB2.out⟩
    · have hdl : (l.drop a).length = n - a := by rw [List.length_drop, Hn.out]
      have hlt2 : ¬ ((a : Int) + 20 ≤ (n : Int)) := by omega
      have HC := hide (HIns.out P (l.drop a) [] n a n wr (HI.out.as (by simp)) (by rw [HP.out, hdl]; simp; omega) HP.out.symm (by rw [HP.out, hdl]; omega) hs)
      have HE2 := hide (show P ++ (Nf.sortR (l.drop a) ++ []) = Nf.blk 20 l by rw [← HE.out, Nf.blk_short (by omega), List.append_nil])
      clear hdl
      go_wp2_with fail
      refine HC.out.mono ?_
      rintro e w2 ⟨rfl, hr2, hb2⟩
      rw [HE2.out] at hr2
      have HR2 := hide hr2
      have HB2 := hide (HB.out.trans hb2)
      clear hr2 hb2 HE2 HC HE HI HP
      go_wp2
      go_loopg [6, 7, 8, 9] (n + 1) (fun gk vs va vb vm wq => ∃ (bs : Nat), n + 1 - bs ≤ gk ∧ 0 < bs ∧ bs ≤ 2 * n + 20 ∧ vs = .int .i64 (bs : Int) ∧ SRow wq g off pre post (Nf.blk bs l) ∧ But g w wq)
      case atStart => exact ⟨20, by omega, by omega, by omega, rfl, HR2.out, HB2.out⟩
      case round =>
        obtain ⟨bs, hgk, hb0, hbs, rfl, hr, hbt⟩ := hrel
        have Hg := hide hgk
        have HI := hide hr
        have HB3 := hide hbt
        clear hgk hr hbt HR2 HB2
        by_cases hlt3 : bs < n
        · obtain ⟨b2, hb2⟩ : ∃ b2, 2 * bs = b2 := ⟨_, rfl⟩
          have Hb2 := hide hb2
          have z2 : IntKind.i64.wrap (2 * (bs : Int)) = (b2 : Int) := by rw [IntWalk.i64_in _ (by omega)]; omega
          have z3 : IntKind.i64.wrap ((bs : Int) * 2) = (b2 : Int) := by rw [IntWalk.i64_in _ (by omega)]; omega
          have hb2s : b2 ≤ 2000000000 := by omega
          have hb2p : 0 < b2 := by omega
          clear hb2
          go_wp2
          go_loopg [7, 8] n (fun gj va vb wj => ∃ (a : Nat) (P : List Int), gj = n - a ∧ a ≤ n ∧ va = .int .i64 (a : Int) ∧ vb = .int .i64 ((a + b2 : Nat) : Int) ∧ P.length = a ∧ SRow wj g off pre post (P ++ Nf.blk bs (l.drop a)) ∧ P ++ Nf.blk b2 (l.drop a) = Nf.blk b2 l ∧ But g w wj)
          case atStart => exact ⟨0, [], rfl, by omega, rfl, by first | rfl | go_num | (congr 1; omega), rfl, by simpa using HI.out, by simp, HB3.out⟩
          case round =>
            obtain ⟨a, P, hgj, han, rfl, rfl, hP, hr, he, hbt⟩ := hrel
            have Hgj := hide hgj
            have HP := hide hP
            have HI2 := hide hr
            have HE := hide he
            have HB4 := hide hbt
            clear hgj hP hr he hbt
            have zab : IntKind.i64.wrap ((a : Int) + (bs : Int)) = ((a + bs : Nat) : Int) := by rw [IntWalk.i64_in _ (by omega)]; omega
            obtain ⟨m, hm⟩ : ∃ m, a + bs = m := ⟨_, rfl⟩
            obtain ⟨b, hb⟩ : ∃ b, a + b2 = b := ⟨_, rfl⟩
            rw [hm] at zab
            rw [hb]
            have Hm := hide hm
            have Hb := hide hb
            have hdl : (l.drop a).length = n - a := by rw [List.length_drop, Hn.out]
            by_cases hlt4 : b ≤ n
            · have zb : IntKind.i64.wrap ((b : Int) + (b2 : Int)) = ((b + b2 : Nat) : Int) := by rw [IntWalk.i64_in _ (by omega)]; omega
              have hst := Nf.blk_step (bs := bs) (l := l.drop a) hb0 (by have := Hb2.out; omega)
              have hdd : (l.drop a).drop bs = l.drop m := by rw [List.drop_drop, Hm.out]
              rw [hdd] at hst
              have hml : (l.drop m).length = n - m := by rw [List.length_drop, Hn.out]
              have hst2 := Nf.blk_step (bs := bs) (l := l.drop m) hb0 (by have := Hb2.out; omega)
              have hdd2 : (l.drop m).drop bs = l.drop b := by rw [List.drop_drop]; congr 1; have := Hb2.out; omega
              rw [hdd2] at hst2
              have hst3 := Nf.blk_step (bs := b2) (l := l.drop a) hb2p (by omega)
              have hdd3 : (l.drop a).drop b2 = l.drop b := by rw [List.drop_drop, Hb.out]
              rw [hdd3] at hst3
              have hsum : (l.drop a).take bs ++ (l.drop m).take bs = (l.drop a).take b2 := by rw [← hdd, Nf.take_more]; congr 1; have := Hb2.out; omega
              have l1 : (Nf.sortR ((l.drop a).take bs)).length = bs := by rw [Nf.sortR_len, List.length_take]; have := Hb2.out; omega
              have l2 : (Nf.sortR ((l.drop m).take bs)).length = bs := by rw [Nf.sortR_len, List.length_take, hml]; have := Hb2.out; omega
              have l3 : (Nf.blk bs (l.drop b)).length = n - b := by rw [Nf.blk_len, List.length_drop, Hn.out]
              have HC := hide (HMrg.out P (Nf.sortR ((l.drop a).take bs)) (Nf.sortR ((l.drop m).take bs)) (Nf.blk bs (l.drop b)) n a m b wr (HI2.out.as (by rw [hst, hst2])) (by rw [HP.out, l1, l2, l3]; have := Hb2.out; omega) HP.out.symm (by rw [HP.out, l1]; omega) (by rw [HP.out, l1, l2]; have := Hb2.out; omega) (by omega) (by omega) (Nat.le_refl _) (Nf.sortR_up _) (Nf.sortR_up _) hs)
              rw [Nf.sortR_both, hsum] at HC
              have HE2 := hide (show (P ++ Nf.sortR ((l.drop a).take b2)) ++ Nf.blk b2 (l.drop b) = Nf.blk b2 l by rw [← HE.out, hst3, List.append_assoc])
              have HL := hide (show (P ++ Nf.sortR ((l.drop a).take b2)).length = b by rw [List.length_append, Nf.sortR_len, List.length_take, HP.out]; omega)
              clear hm hb hdl hst hdd hml hst2 hdd2 hst3 hdd3 hsum l1 l2 l3
              go_wp2_with fail
              refine HC.out.mono ?_
              rintro e w2 ⟨rfl, hr2, hb2⟩
              have HR2 := hide hr2
              have HB5 := hide (HB4.out.trans hb2)
              clear hr2 hb2
              go_wp2
              go_roundg (n - b)
              case measure => have := Hgj.out; have := Hb.out; omega
              case rel => exact ⟨b, _, rfl, hlt4, rfl, by first | rfl | go_num, HL.out, HR2.out.as (by simp), HE2.out, HB5.out⟩
            · have hlt5 : ¬ ((a : Int) + (b2 : Int) ≤ (n : Int)) := by omega
              by_cases hmn : m < n
              · have hst := Nf.blk_step (bs := bs) (l := l.drop a) hb0 (by omega)
                have hdd : (l.drop a).drop bs = l.drop m := by rw [List.drop_drop, Hm.out]
                rw [hdd] at hst
                have hml : (l.drop m).length = n - m := by rw [List.length_drop, Hn.out]
                have hst2 := Nf.blk_short (bs := bs) (l := l.drop m) (by have := Hb2.out; omega)
                have hst3 := Nf.blk_short (bs := b2) (l := l.drop a) (by omega)
                have hsum : (l.drop a).take bs ++ l.drop m = l.drop a := by rw [← hdd, List.take_append_drop]
                have l1 : (Nf.sortR ((l.drop a).take bs)).length = bs := by rw [Nf.sortR_len, List.length_take]; have := Hb2.out; omega
                have l2 : (Nf.sortR (l.drop m)).length = n - m := by rw [Nf.sortR_len, hml]
                have HC := hide (HMrg.out P (Nf.sortR ((l.drop a).take bs)) (Nf.sortR (l.drop m)) [] n a m n wr (HI2.out.as (by rw [hst, hst2, List.append_nil])) (by rw [HP.out, l1, l2]; simp; omega) HP.out.symm (by rw [HP.out, l1]; omega) (by rw [HP.out, l1, l2]; omega) (by omega) (by omega) (Nat.le_refl _) (Nf.sortR_up _) (Nf.sortR_up _) hs)
                rw [Nf.sortR_both, hsum] at HC
                have HE2 := hide (show P ++ (Nf.sortR (l.drop a) ++ []) = Nf.blk b2 l by rw [← HE.out, hst3, List.append_nil])
                clear hm hb hdl hst hdd hml hst2 hst3 hsum l1 l2
                go_wp2_with fail
                refine HC.out.mono ?_
                rintro e w2 ⟨rfl, hr2, hb2⟩
                rw [HE2.out] at hr2
                have HR2 := hide hr2
                have HB5 := hide (HB4.out.trans hb2)
                clear hr2 hb2
                go_wp2
                go_roundg (n + 1 - b2)
                case measure => have := Hg.out; have := Hb2.out; omega
                case rel => exact ⟨b2, by omega, hb2p, by have := Hb2.out; omega, rfl, HR2.out, HB5.out⟩
              · have HE2 := hide (show P ++ Nf.blk bs (l.drop a) = Nf.blk b2 l by rw [← HE.out, Nf.blk_short (bs := bs) (by omega), Nf.blk_short (bs := b2) (by omega)])
                clear hm hb hdl
                go_wp2
                go_roundg (n + 1 - b2)
                case measure => have := Hg.out; have := Hb2.out; omega
                case rel => exact ⟨b2, by omega, hb2p, by have := Hb2.out; omega, rfl, HI2.out.as HE2.out, HB4.out⟩
        · go_wp2
          go_end0
          exact ⟨rfl, HI.out.as (Nf.blk_short (by rw [← Hn.out]; omega)), HB3.out⟩
set_option maxRecDepth 100000 in
set_option maxHeartbeats 4000000 in
theorem sortStable_any (l : List Int) (pre post : List Value) (g off cap n : Nat) (w : World) (h : SRow w g off pre post l) (hn : n = l.length) (hs : n ≤ 1000000000) :
    Calls Try.prog 74 #[.slice (some ⟨g, off, none⟩) n cap, .func (.func 75) #[] #[]] w fun e w' => e = .returned (.tuple #[]) ∧ SRow w' g off pre post (Nf.sortR l) ∧ But g w w' := by
  have HS := hide (stable_any l pre post g off cap n w h hn hs)
  clear h hn
  go_enter Try.func74, Try.ntmps74
  go_wp2_with fail
  refine HS.out.mono ?_
  rintro e w2 ⟨rfl, hr2, hb2⟩
  have HR2 := hide hr2
  have HB2 := hide hb2
  clear hr2 hb2
  go_wp2
  go_end0
  exact ⟨rfl, HR2.out, HB2.out⟩
end Go.Proofs.Ytheaknghgpafpaa
namespace Go.Proofs.Ytheaknghgpafpaa
open Go.RowKit

/-- A round that is left at its body's end: what it has kept, what holds then. -/
def roundEndO {α : Type} (B : Nat) (Kp : World → World → Prop) (I : List α → World → Prop) (xs : List α) (W : World) : Exit → Act → World → Prop
  | .normal, _, W' => KeepsFrom B W W' ∧ Kp W W' ∧ I xs W'
  | _, _, _ => False

/-- What an iterator promises: what it turns bears Fr; each element bears 'Fact'; all of them come. -/
def GivesOn {α : Type} (Fr : World → World → Prop) (F : Fence) (n : Nat) (P : Program) (g : Nat) (lb : Array Value) (encs : α → Array Value) (Kp : World → World → Prop) (Fact : α → World → Prop) (S : List α → Prop) (N : Nat) (W : World) : Prop :=
  ∀ (l : Nat) (J : List α → World → Prop), (∀ s A B, J s A → Fr A B → J s B) → J [] W →
    (∀ pre x W1, J pre W1 → Fact x W1 → pre.length < N → YieldAt F (n - 1) P l (encs x) W1 fun e W' => e = .returned (.bool true) ∧ J (pre ++ [x]) W' ∧ Kp W1 W') →
    CallsIn F n P g (#[.func (.yield l) #[] #[]] ++ lb) W fun e W' => (∃ v, e = .returned v) ∧ ∃ xs, S xs ∧ J xs W'

theorem range_on {α : Type} {Fr : World → World → Prop} {F : Fence} {n : Nat} {P : Program} {g : Operand} {ps : Array Tmp} {assign body : Code} {Q : Exit → Act → World → Prop} {a : Act} {w : World} (hR : ∀ A B, Fr A B → ∀ k, w.heap.size ≤ k → k < A.heap.size → B.heap[k]? = A.heap[k]?)
    (hro : F.round = none) (h1 : 1 ≤ n) {gf : Nat} {lb : Array Value} (hg : a.eval g = .func (.func gf) #[] lb) (hFg : F.fn gf) (eg : ∀ args w, (callFunc gf args).run P w = .ok (.enter gf args) w)
    {encs : α → Array Value} {Kp : World → World → Prop} {Fact : α → World → Prop} {S : List α → Prop} {N : Nat} (hps : ∀ x, (encs x).size = ps.size)
    (hseq : ∀ o o', GivesOn Fr F (n - 1) P gf lb encs Kp Fact S N ((w.alloc o).alloc o'))
    (hKt : ∀ {A B C : World}, Kp A B → Kp B C → Kp A C) (hKb : ∀ (W : World) (o o' : Obj), W.heap[w.heap.size + 1]? = some o' → o'.isCells = false → Kp W (W.putObj (w.heap.size + 1) o))
    (I : List α → World → Prop) (hIp : ∀ s W o o', I s W → W.heap[w.heap.size + 1]? = some o' → o'.isCells = false → I s (W.putObj (w.heap.size + 1) o)) (hIb : ∀ s A B, I s A → Fr A B → I s B)
    (hF : ∀ x W o, Fact x W → Fact x (W.putObj (w.heap.size + 1) o)) (h0 : ∀ o o', I [] ((w.alloc o).alloc o')) (a₁ : α → Act)
    (hassign : ∀ (l : Nat) (x : α) (W : World) (K : Act → World → Prop), K (a₁ x) W →
      assign.wpIn (F.inRound l) (n - 1 - 1) P (Exit.then K (fun _ _ _ => False)) { tmps := (ps.zip (encs x)).foldl (fun t (p, v) => t.setIfInBounds p v) a.tmps, defers := [] } W)
    (hbody : ∀ (l : Nat) (pre : List α) (x : α) (W : World), I pre W → Fact x W → pre.length < N → w.heap.size + 2 ≤ W.heap.size → body.wpIn (F.inRound l) (n - 1 - 1) P (roundEndO w.heap.size Kp I (pre ++ [x]) W) (a₁ x) W)
    (hdone : ∀ (D : Nat) (xs : List α) (W : World), D = w.heap.size → S xs → I xs W → W.heap[D]? = some (.deferred (some [])) → Q .normal { a with defers := { target := .collected D, args := #[] } :: a.defers } W) :
    (Code.rangeFunc g ps assign body).wpIn F n P Q a w := by
  refine wpIn_rangeFunc fun fn hfn => ?_
  rw [hro]
  let D := w.heap.size
  let r0 : Loop := { state := .ready, pending := none, fn, tmps := a.tmps, params := ps, assign, body, defers := D }
  let r1 : Loop := { state := .busy, pending := none, fn, tmps := a.tmps, params := ps, assign, body, defers := D }
  let W0 := (w.alloc (.deferred (some []))).alloc (.loop r0)
  have hsz : W0.heap.size = D + 2 := by show ((w.alloc _).alloc _).heap.size = _; simp [D]
  have hl0 : W0.heap[D + 1]? = some (.loop r0) := by
    have := World.alloc_heap_new (w.alloc (.deferred (some []))) (.loop r0)
    rwa [World.size_alloc] at this
  have hd0 : W0.heap[D]? = some (.deferred (some [])) := (Below.heap_alloc _ _ _ (by simp [D])).trans (World.alloc_heap_new w _)
  refine ⟨D + 1, [{ target := .collected D, args := #[] }], W0, { target := .fn (.func gf) lb, args := #[.func (.yield (D + 1)) #[] #[]] }, W0, gf, #[.func (.yield (D + 1)) #[] #[]] ++ lb, W0,
    run_enterLoop_outer _ _ _ _ _, by simp only [resolve, hg]; simp [go_sem], fun f' hf' => by simp [Target.leads] at hf'; subst hf'; exact hFg, by simp [invoke, go_sem, eg], fun _ => h1, ?_⟩
  have keepD : ∀ {A B : World} {k : Nat} {o : Obj}, Fr A B → A.heap[k]? = some o → D ≤ k → B.heap[k]? = some o := fun hb hk hlt =>
    (hR _ _ hb _ hlt (Array.getElem?_eq_some_iff.1 hk).1).trans hk
  refine (hseq _ _ (D + 1) (fun pre W => I pre W ∧ W.heap[D + 1]? = some (.loop r0) ∧ W.heap[D]? = some (.deferred (some [])))
    (fun s A B h hb => ⟨hIb s A B h.1 hb, keepD hb h.2.1 (by omega), keepD hb h.2.2 (Nat.le_refl _)⟩) ⟨h0 _ _, hl0, hd0⟩ ?_).mono ?_
  · rintro pre x W ⟨hi, hl, hd⟩ hf hlen
    have hlt : D + 1 < W.heap.size := (Array.getElem?_eq_some_iff.1 hl).1
    have hy := run_yield (P := P) (args := encs x) hl (hps x)
    refine ⟨fn, _, assign, body, hy, roundIn_of_wpIn hfn (hassign _ x W _ ⟨_, run_beginRound hl rfl, ?_⟩)⟩
    have hl2 : (W.putObj (D + 1) (.loop r1)).heap[D + 1]? = some (.loop r1) := World.putObj_heap_same hlt
    have hd2 : (W.putObj (D + 1) (.loop r1)).heap[D]? = some (.deferred (some [])) := (World.putObj_heap_other (by omega)).trans hd
    refine wpIn_mono (hbody _ pre x _ (hIp _ _ _ _ hi hl rfl) (hF _ _ _ hf) hlen (by show D + 2 ≤ (W.heap.setIfInBounds _ _).size; rw [Array.size_setIfInBounds]; omega)) ?_
    rintro e a3 W3 hp
    cases e with
    | normal =>
      obtain ⟨hk3, hkp, hi3⟩ := hp
      have hl3 := hk3.same _ _ (by omega) hl2 rfl
      have hd3 := hk3.same _ _ (Nat.le_refl _) hd2 rfl
      have hlt3 := (Array.getElem?_eq_some_iff.1 hl3).1
      have he := run_endRound (P := P) none hl3
      exact ⟨_, _, he, rfl, ⟨hIp _ _ _ _ hi3 hl3 rfl, World.putObj_heap_same hlt3, (World.putObj_heap_other (by omega)).trans hd3⟩, hKt (hKt (hKb _ _ _ hl rfl) hkp) (hKb _ _ _ hl3 rfl)⟩
    | ret => exact hp.elim
    | exit id => exact hp.elim
    | goto t => exact hp.elim
    | panic ch => exact hp.elim
    | outgrown => exact hp.elim
  · rintro e W2 ⟨⟨v, rfl⟩, xs, hS, hi, hl, hd⟩
    have hlt := (Array.getElem?_eq_some_iff.1 hl).1
    exact ⟨none, _, run_endLoop (P := P) hl (by simp [r0]), hdone D xs _ rfl hS (hIp _ _ _ _ hi hl rfl) ((World.putObj_heap_other (by omega)).trans hd)⟩
end Go.Proofs.Ytheaknghgpafpaa
namespace Go.Proofs.Ytheaknghgpafpaa
open Go.RowKit Go.WideShapes

attribute [local go_sem] Oper.semAt_some

namespace Nf
theorem marks_at {tl : List Int} {t : Nat} {x : Int} (h : tl[t]? = some x) (ht : t < (marks tl).length) : 0 < cls x := by
  unfold marks at ht
  induction tl generalizing t with
  | nil => cases h
  | cons y tl ih =>
    rw [List.takeWhile_cons] at ht
    split at ht
    · rename_i hy
      cases t with
      | zero => cases h; exact of_decide_eq_true hy
      | succ t => exact ih h (by simpa using ht)
    · simp at ht
theorem marks_end {tl : List Int} {x : Int} (h : tl[(marks tl).length]? = some x) : ¬ 0 < cls x := by
  unfold marks at h
  induction tl with
  | nil => cases h
  | cons y tl ih =>
    rw [List.takeWhile_cons] at h
    split at h
    · exact ih (by simpa using h)
    · rename_i hy
      cases h
      exact of_decide_eq_false (by simpa using hy)
theorem marks_le (tl : List Int) : (marks tl).length ≤ tl.length := by
  unfold marks
  induction tl with
  | nil => simp
  | cons y tl ih => rw [List.takeWhile_cons]; split <;> simp <;> omega
theorem marks_app (tl : List Int) : marks tl ++ tl.drop (marks tl).length = tl := by
  unfold marks
  induction tl with
  | nil => rfl
  | cons y tl ih => rw [List.takeWhile_cons]; split <;> simp [ih]
theorem marks_take (tl : List Int) : tl.take (marks tl).length = marks tl := by
  have h := marks_app tl
  have h2 : (marks tl ++ tl.drop (marks tl).length).take (marks tl).length = marks tl := List.take_left' rfl
  rwa [h] at h2
end Nf
structure Rn where
  A : Option Addr
  l : List Int
def rnE (x : Rn) : Array Value := #[.slice x.A x.l.length x.l.length]
/-- What a round must keep: what was there ahead of the range, and the iterator's own block. -/
def KpR (h0 R : Nat) (W W' : World) : Prop := W.heap.size ≤ W'.heap.size ∧ ∀ k, k < W.heap.size → (k < h0 ∨ k = R) → W'.heap[k]? = W.heap[k]?
theorem KpR.trans {h0 R : Nat} {X Y Z : World} (h : KpR h0 R X Y) (k : KpR h0 R Y Z) : KpR h0 R X Z := ⟨Nat.le_trans h.1 k.1, fun g hg hk => (k.2 g (Nat.lt_of_lt_of_le hg h.1) hk).trans (h.2 g hg hk)⟩
theorem Reads.drop_ {w : World} {B n k : Nat} {gb off : Nat} {xs : List Value} (h : Reads w B 1 (some ⟨gb, off, none⟩) n xs) (hk : k ≤ n) (A : Option Addr) (hA : k < n → A = some ⟨gb, off + k, none⟩) (hB : 0 < n) : Reads w B 1 A (n - k) (xs.drop k) := by
  refine ⟨by rw [List.length_drop, h.1]; omega, fun hn => ?_⟩
  obtain ⟨b, o, e, hb, hc⟩ := h.2 hB
  cases e
  refine ⟨gb, off + k, hA (by omega), hb, fun j u hu => ?_⟩
  rw [List.getElem?_drop] at hu
  rw [Nat.add_assoc]
  exact hc _ _ hu
theorem Reads.take_ {w : World} {B n k : Nat} {A : Option Addr} {xs : List Value} (h : Reads w B 1 A n xs) (hk : k ≤ n) : Reads w B 1 A k (xs.take k) := by
  refine ⟨by rw [List.length_take, h.1]; omega, fun hn => ?_⟩
  obtain ⟨b, o, e, hb, hc⟩ := h.2 (by omega)
  refine ⟨b, o, e, hb, fun j u hu => hc j u ?_⟩
  rw [List.getElem?_take] at hu
  split at hu
  · exact hu
  · cases hu
set_option maxRecDepth 100000 in
set_option maxHeartbeats 8000000 in
theorem runs1_gives (n : Nat) (hn : 1 ≤ n) (R h0 : Nat) (A0 : Option Addr) (c0 : Nat) (ls : List Int) (hs : ls.length ≤ 1000000000) (W : World) (hR : h0 ≤ R) (hc : Blk W R 103 #[.slice A0 ls.length c0]) (hc0 : ls.length ≤ c0) (hrd : Reads W h0 1 A0 ls.length (intVs ls)) :
    GivesOn (But R) Fence.wide n Try.prog 82 #[.pointer (some ⟨R, 0, none⟩)] rnE (KpR h0 R) (fun x W' => Reads W' h0 1 x.A x.l.length (intVs x.l) ∧ 0 < x.l.length ∧ x.l.length ≤ ls.length) (fun xs => xs.map (·.l) = Nf.runs (ls.length + 1) ls) (ls.length + 1) W := by
  intro l J hJ h0J hY
  refine callsIn_of_wp Try.func82 rfl trivial ?_ rfl
  simp only [Try.ntmps82, List.size_toArray, List.length_cons, List.length_nil, Nat.reduceAdd, Nat.reduceSub, Array.replicate_succ, Array.replicate_zero, List.push_toArray, List.append_toArray, List.nil_append, List.cons_append]
  obtain ⟨all, hall⟩ : ∃ all, Nf.runs (ls.length + 1) ls = all := ⟨_, rfl⟩
  rw [hall]
  have Hall := hide hall
  clear hall
  have HJ := hide hJ
  have HY := hide hY
  have H0 := hide h0J
  have HC0 := hide hc
  have HRd := hide hrd
  have HCl := hide (fun r W => class_any r W)
  clear hJ hY h0J hc hrd
  gi_wp2
  gi_loopg [3] ls.length (fun g v3 wr => ∃ (rest : List Int) (f : Nat) (pre : List Rn) (A : Option Addr) (c : Nat), g = rest.length ∧ rest.length < f ∧ J pre wr ∧ pre.map (·.l) ++ Nf.runs f rest = all ∧ pre.length + rest.length ≤ ls.length ∧ Blk wr R 103 #[.slice A rest.length c] ∧ rest.length ≤ c ∧ Reads wr h0 1 A rest.length (intVs rest))
  case atStart => exact ⟨ls, ls.length + 1, [], A0, c0, rfl, by omega, H0.out, by rw [← Hall.out]; rfl, by simp, HC0.out, hc0, HRd.out⟩
  case round =>
    obtain ⟨rest, f, pre, A, c, hg, hf, hj, hall, hlen, hb, hcc, hrd⟩ := hrel
    have Hg := hide hg
    have Hj := hide hj
    have Hal := hide hall
    have HB := hide hb
    have HR := hide hrd
    have q0 := hb.cell 0
    clear hg hj hall hb hrd
    cases rest with
    | nil =>
      gi_wp2
      go_end0
      exact ⟨⟨_, rfl⟩, pre, by
        have := Hal.out
        cases f with
        | zero => exact absurd hf (by simp)
        | succ f => simpa [Nf.runs] using this, Hj.out⟩
    | cons r tl =>
      obtain ⟨f, rfl⟩ : ∃ f', f = f' + 1 := ⟨f - 1, by omega⟩
      obtain ⟨gb, off, rfl, hgb, hcell⟩ := HR.out.2 (by simp)
      obtain ⟨k, hk⟩ : ∃ k, (r :: tl).length = k := ⟨_, rfl⟩
      rw [hk] at q0 hcc HB HR hlen hf
      have hkt : k = tl.length + 1 := by rw [← hk]; rfl
      have Hkt := hide hkt
      have hk0 : 0 < k := by omega
      have Hk := hide hk
      clear hk hkt
      obtain ⟨mk, hmk⟩ : ∃ mk, (Nf.marks tl).length = mk := ⟨_, rfl⟩
      have Hmk := hide hmk
      have hmkl : mk + 1 ≤ k := by rw [← hmk, Hkt.out]; have := Nf.marks_le tl; omega
      clear hmk
      gi_wp2
      gi_loopg [3] mk (fun g v3 wq => ∃ t : Nat, g = mk - t ∧ t ≤ mk ∧ v3 = .int .i64 ((t + 1 : Nat) : Int) ∧ wq = wr)
      case atStart => exact ⟨0, rfl, by omega, rfl, rfl⟩
      case round =>
        rename_i hkr
        obtain ⟨t, hgt, htm, rfl, hwq⟩ := hrel
        subst hwq
        have Hgt := hide hgt
        clear hgt
        obtain ⟨t1, ht1⟩ : ∃ t1, t + 1 = t1 := ⟨_, rfl⟩
        rw [ht1]
        have Ht1 := hide ht1
        by_cases hlt : t < mk
        · obtain ⟨x, hx⟩ : ∃ x, tl[t]? = some x := ⟨_, List.getElem?_eq_getElem (by have := Hmk.out; have := Nf.marks_le tl; omega)⟩
          have hcx := Nf.marks_at hx (by rw [Hmk.out]; exact hlt)
          have y0 : wr.cell? ⟨gb, off + t1, none⟩ = some (.int .i64 x) := hcell t1 _ (by unfold intVs; rw [List.getElem?_map, ← ht1, List.getElem?_cons_succ, hx]; rfl)
          have hC := HCl.out x wr
          obtain ⟨cx, hcx2⟩ : ∃ cx, Nf.cls x = cx := ⟨_, rfl⟩
          rw [hcx2] at hcx hC
          have ht1k : (t1 : Int) < (k : Int) := by omega
          have z1 : IntKind.i64.wrap ((t1 : Int) + 1) = ((t1 + 1 : Nat) : Int) := by rw [IntWalk.i64_in _ (by have := Hk.out; have := hlen; omega)]; omega
          have HC := hide hC
          clear hx ht1 hcx2 hC
          gi_wp2_with (refine ⟨trivial, ?_⟩; gi_at_call 70; refine (callsIn_wide.2 HC.out).mono ?_; rintro e w2 ⟨rfl, hw2⟩; subst w2)
          go_roundg (mk - (t + 1))
          case measure => have := Hgt.out; omega
          case rel => exact ⟨t + 1, rfl, hlt, by rw [Ht1.out]; first | rfl | go_num, rfl⟩
        · by_cases hek : t1 < k
          · obtain ⟨x, hx⟩ : ∃ x, tl[t]? = some x := ⟨_, List.getElem?_eq_getElem (by have := Hkt.out; omega)⟩
            have hcx : ¬ 0 < Nf.cls x := Nf.marks_end (by rw [Hmk.out, show mk = t by omega]; exact hx)
            have y0 : wr.cell? ⟨gb, off + t1, none⟩ = some (.int .i64 x) := hcell t1 _ (by unfold intVs; rw [List.getElem?_map, ← ht1, List.getElem?_cons_succ, hx]; rfl)
            have hC := HCl.out x wr
            obtain ⟨cx, hcx2⟩ : ∃ cx, Nf.cls x = cx := ⟨_, rfl⟩
            rw [hcx2] at hcx hC
            have ht1k : (t1 : Int) < (k : Int) := by omega
            have HC := hide hC
            clear hx hcx2 hC
            have hmt : t = mk := by omega
            have Hmt := hide hmt
            have HX := hide (show Reads wr h0 1 (some ⟨gb, off, none⟩) (r :: Nf.marks tl).length (intVs (r :: Nf.marks tl)) by
              have h1 := HR.out.take_ (k := mk + 1) hmkl
              have e1 : (intVs (r :: tl)).take (mk + 1) = intVs (r :: Nf.marks tl) := by
                rw [← Hmk.out]
                unfold intVs
                rw [← List.map_take, List.take_succ_cons, Nf.marks_take]
              rw [e1] at h1
              have e2 : (r :: Nf.marks tl).length = mk + 1 := by rw [List.length_cons, Hmk.out]
              rw [e2]
              exact h1)
            have hYx := HY.out pre ⟨some ⟨gb, off, none⟩, r :: Nf.marks tl⟩ wr Hj.out ⟨HX.out, by simp, by rw [List.length_cons, Hmk.out]; omega⟩ (by omega)
            unfold rnE at hYx
            dsimp only at hYx
            rw [show (r :: Nf.marks tl).length = t1 by rw [List.length_cons, Hmk.out, ← Ht1.out, Hmt.out]] at hYx
            obtain ⟨fn, tmps, assign, body, hy, hRn⟩ := hYx
            have HRn := hide hRn
            have hb1 : 0 ≤ (t1 : Int) ∧ (t1 : Int) ≤ (t1 : Int) ∧ (t1 : Int) ≤ (c : Int) := by omega
            have hb2 : 0 ≤ (t1 : Int) ∧ (t1 : Int) ≤ (k : Int) ∧ (k : Int) ≤ (c : Int) := by omega
            clear hRn hmt ht1
            gi_wp2_with (refine ⟨trivial, ?_⟩; gi_at_call 70; refine (callsIn_wide.2 HC.out).mono ?_; rintro e w2 ⟨rfl, hw2⟩; subst w2)
            refine HRn.out.mono ?_
            rintro e W3 ⟨rfl, hJ3, hk3⟩
            have HJ3 := hide hJ3
            have hB3 : Blk W3 R 103 #[.slice (some ⟨gb, off, none⟩) k c] := (hk3.2 R HB.out.lt (.inr rfl)).trans HB.out
            have q3 := hB3.cell 0
            have f3 := hB3.frozen 0
            have HB3 := hide hB3
            have HR3 := hide (HR.out.keep (w' := W3) (fun p hp => by
              unfold World.cell?
              rw [hk3.2 p.block (by have := HB.out.lt; omega) (.inl hp)]))
            clear hJ3 hk3 hB3
            gi_wp2
            all_goals
              go_roundg (tl.drop mk).length
              case measure => have := Hg.out; have := Hk.out; rw [List.length_drop]; rw [List.length_cons] at *; omega
              case rel =>
                have w1 := Ht1.out
                have w2 := Hmt.out
                have w3 := Hkt.out
                have w4 := HB.out.lt
                have hdl : (tl.drop mk).length = k - t1 := by rw [List.length_drop]; omega
                first
                  | (
                      refine ⟨tl.drop mk, f, pre ++ [⟨some ⟨gb, off, none⟩, r :: Nf.marks tl⟩], some ⟨gb, off + t1, none⟩, c - t1, rfl, by omega, HJ.out _ _ _ HJ3.out ((But.refl R W3).setCell (.inl rfl) _), ?_, by rw [hdl, List.length_append, List.length_singleton]; omega, ?_, by omega, ?_⟩
                      · rw [← Hal.out, Nf.runs, Hmk.out]; simp
                      · rw [hdl]
                        have := HB3.out.set_ 0 (.slice (some ⟨gb, off + t1, none⟩) (k - t1) (c - t1))
                        simpa using this
                      · rw [hdl]
                        have e1 : intVs (tl.drop mk) = (intVs (r :: tl)).drop t1 := by unfold intVs; rw [← List.map_drop, ← Ht1.out, Hmt.out, List.drop_succ_cons]
                        rw [e1]
                        refine ((HR3.out.drop_ (k := t1) (by omega) (some ⟨gb, off + t1, none⟩) (fun h => ?_) (by omega)).keep fun p hp => ?_)
                        · first | rfl | omega
                        · unfold World.cell?
                          rw [Below.heap_setCell _ _ _ _ (by show p.block ≠ R; omega)])
                  | (
                      refine ⟨tl.drop mk, f, pre ++ [⟨some ⟨gb, off, none⟩, r :: Nf.marks tl⟩], some ⟨gb, off, none⟩, 0, rfl, by omega, HJ.out _ _ _ HJ3.out ((But.refl R W3).setCell (.inl rfl) _), ?_, by rw [hdl, List.length_append, List.length_singleton]; omega, ?_, by omega, ?_⟩
                      · rw [← Hal.out, Nf.runs, Hmk.out]; simp
                      · rw [hdl]
                        have := HB3.out.set_ 0 (.slice (some ⟨gb, off, none⟩) (k - t1) 0)
                        simpa using this
                      · rw [hdl]
                        have e1 : intVs (tl.drop mk) = (intVs (r :: tl)).drop t1 := by unfold intVs; rw [← List.map_drop, ← Ht1.out, Hmt.out, List.drop_succ_cons]
                        rw [e1]
                        refine ((HR3.out.drop_ (k := t1) (by omega) (some ⟨gb, off, none⟩) (fun h => ?_) (by omega)).keep fun p hp => ?_)
                        · first | rfl | omega
                        · unfold World.cell?
                          rw [Below.heap_setCell _ _ _ _ (by show p.block ≠ R; omega)])
          · have ht1k : ¬ (t1 : Int) < (k : Int) := by omega
            have hmt : t = mk := by omega
            have Hmt := hide hmt
            have HX := hide (show Reads wr h0 1 (some ⟨gb, off, none⟩) (r :: Nf.marks tl).length (intVs (r :: Nf.marks tl)) by
              have h1 := HR.out.take_ (k := mk + 1) hmkl
              have e1 : (intVs (r :: tl)).take (mk + 1) = intVs (r :: Nf.marks tl) := by
                rw [← Hmk.out]
                unfold intVs
                rw [← List.map_take, List.take_succ_cons, Nf.marks_take]
              rw [e1] at h1
              have e2 : (r :: Nf.marks tl).length = mk + 1 := by rw [List.length_cons, Hmk.out]
              rw [e2]
              exact h1)
            have hYx := HY.out pre ⟨some ⟨gb, off, none⟩, r :: Nf.marks tl⟩ wr Hj.out ⟨HX.out, by simp, by rw [List.length_cons, Hmk.out]; omega⟩ (by omega)
            unfold rnE at hYx
            dsimp only at hYx
            rw [show (r :: Nf.marks tl).length = t1 by rw [List.length_cons, Hmk.out, ← Ht1.out, Hmt.out]] at hYx
            obtain ⟨fn, tmps, assign, body, hy, hRn⟩ := hYx
            have HRn := hide hRn
            have hb1 : 0 ≤ (t1 : Int) ∧ (t1 : Int) ≤ (t1 : Int) ∧ (t1 : Int) ≤ (c : Int) := by omega
            have hb2 : 0 ≤ (t1 : Int) ∧ (t1 : Int) ≤ (k : Int) ∧ (k : Int) ≤ (c : Int) := by omega
            clear hRn hmt ht1
            gi_wp2
            refine ⟨trivial, ?_⟩
            gi_wp2
            refine HRn.out.mono ?_
            rintro e W3 ⟨rfl, hJ3, hk3⟩
            have HJ3 := hide hJ3
            have hB3 : Blk W3 R 103 #[.slice (some ⟨gb, off, none⟩) k c] := (hk3.2 R HB.out.lt (.inr rfl)).trans HB.out
            have q3 := hB3.cell 0
            have f3 := hB3.frozen 0
            have HB3 := hide hB3
            have HR3 := hide (HR.out.keep (w' := W3) (fun p hp => by
              unfold World.cell?
              rw [hk3.2 p.block (by have := HB.out.lt; omega) (.inl hp)]))
            clear hJ3 hk3 hB3
            gi_wp2
            all_goals
              go_roundg (tl.drop mk).length
              case measure => have := Hg.out; have := Hk.out; rw [List.length_drop]; rw [List.length_cons] at *; omega
              case rel =>
                have w1 := Ht1.out
                have w2 := Hmt.out
                have w3 := Hkt.out
                have w4 := HB.out.lt
                have hdl : (tl.drop mk).length = k - t1 := by rw [List.length_drop]; omega
                first
                  | (
                      refine ⟨tl.drop mk, f, pre ++ [⟨some ⟨gb, off, none⟩, r :: Nf.marks tl⟩], some ⟨gb, off + t1, none⟩, c - t1, rfl, by omega, HJ.out _ _ _ HJ3.out ((But.refl R W3).setCell (.inl rfl) _), ?_, by rw [hdl, List.length_append, List.length_singleton]; omega, ?_, by omega, ?_⟩
                      · rw [← Hal.out, Nf.runs, Hmk.out]; simp
                      · rw [hdl]
                        have := HB3.out.set_ 0 (.slice (some ⟨gb, off + t1, none⟩) (k - t1) (c - t1))
                        simpa using this
                      · rw [hdl]
                        have e1 : intVs (tl.drop mk) = (intVs (r :: tl)).drop t1 := by unfold intVs; rw [← List.map_drop, ← Ht1.out, Hmt.out, List.drop_succ_cons]
                        rw [e1]
                        refine ((HR3.out.drop_ (k := t1) (by omega) (some ⟨gb, off + t1, none⟩) (fun h => ?_) (by omega)).keep fun p hp => ?_)
                        · first | rfl | omega
                        · unfold World.cell?
                          rw [Below.heap_setCell _ _ _ _ (by show p.block ≠ R; omega)])
                  | (
                      refine ⟨tl.drop mk, f, pre ++ [⟨some ⟨gb, off, none⟩, r :: Nf.marks tl⟩], some ⟨gb, off, none⟩, 0, rfl, by omega, HJ.out _ _ _ HJ3.out ((But.refl R W3).setCell (.inl rfl) _), ?_, by rw [hdl, List.length_append, List.length_singleton]; omega, ?_, by omega, ?_⟩
                      · rw [← Hal.out, Nf.runs, Hmk.out]; simp
                      · rw [hdl]
                        have := HB3.out.set_ 0 (.slice (some ⟨gb, off, none⟩) (k - t1) 0)
                        simpa using this
                      · rw [hdl]
                        have e1 : intVs (tl.drop mk) = (intVs (r :: tl)).drop t1 := by unfold intVs; rw [← List.map_drop, ← Ht1.out, Hmt.out, List.drop_succ_cons]
                        rw [e1]
                        refine ((HR3.out.drop_ (k := t1) (by omega) (some ⟨gb, off, none⟩) (fun h => ?_) (by omega)).keep fun p hp => ?_)
                        · first | rfl | omega
                        · unfold World.cell?
                          rw [Below.heap_setCell _ _ _ _ (by show p.block ≠ R; omega)])
end Go.Proofs.Ytheaknghgpafpaa
