/- Plain: a text that strict takes is taken by bozo with the same events, whatever stands behind it; no program in sight. · Plain: bozo's Clean; how much bozo's steps make of so many bytes; no program in sight. -/
import Derived.Test.YtaickkaoglohgaaBv21
set_option linter.unusedSimpArgs false
set_option linter.unusedVariables false
namespace Go.Proofs.Ytaickkaoglohgaa
open Go Tk Sx
namespace Bz
theorem angle_sp {b : L} (h : Sps b) : ∀ c ∈ b, angle c = false := fun c hc => by
  have := List.all_eq_true.1 h c hc
  unfold sp at this
  simp only [Bool.or_eq_true, beq_iff_eq] at this
  rcases this with ((rfl | rfl) | rfl) | rfl <;> rfl
theorem lastOf_last {nm : L} {ys : List El} {x : El} (h : x.written = nm) : lastOf nm (ys ++ [x]) (ys ++ [x]).length = some ys.length := by
  rw [List.length_append, List.length_singleton, lastOf, if_pos]
  rw [List.getElem?_append_right (Nat.le_refl _), Nat.sub_self]
  simp [h]
theorem endCut_word {at_ : Nat} {nm b r : L} {st : St} {rs : List Rsn} (hb : Sps b) : endCut nm.length ⟨60 :: 47 :: (nm ++ (b ++ [62])) ++ r, at_, st, rs, false, 0⟩ = ⟨r, at_ + 2 + nm.length + b.length + 1, st, rs, false, 0⟩ := by
  have e1 : cutB nm.length (cutB 2 ⟨60 :: 47 :: (nm ++ (b ++ [62])) ++ r, at_, st, rs, false, 0⟩) = ⟨b ++ 62 :: r, at_ + 2 + nm.length, st, rs, false, 0⟩ := by
    unfold cutB
    simp
  have e2 : untilB angle ⟨b ++ 62 :: r, at_ + 2 + nm.length, st, rs, false, 0⟩ = ⟨62 :: r, at_ + 2 + nm.length + b.length, st, rs, false, 0⟩ :=
    until_of (a := b) rfl (angle_sp hb) (fun c t h => by rw [← head_eq h]; rfl)
  have e3 : span angle (b ++ 62 :: r) = b.length := span_of (angle_sp hb) (fun c t h => by rw [← head_eq h]; rfl)
  unfold endCut
  dsimp only
  rw [e1, e2]
  dsimp only
  have hb2 : b.all sp = true := hb
  rw [e3, List.take_left, hb2]
  simp [cutB]
theorem kind4 {st : St} {at_ n : Nat} : Sx.step st ⟨4, [], [], false, [], at_, n⟩ = .ok st := by
  unfold Sx.step
  rw [if_neg (by simp), if_neg (by simp), if_neg (by simp), if_neg (by simp)]
theorem till_zero (c d : UInt8) (r : L) : till [c, d] ([c, d] ++ r) = some 0 := by
  rw [till_iff]
  refine Lib.index_first (by simp) ?_ fun j hj => by omega
  unfold Lib.occAt
  simp
/-- The piece that a token is. -/
theorem piece_word {at_ : Nat} {w r : L} {t : Tok} {st : St} {rs : List Rsn} (h : TokW at_ w t) (hf : fine w = true) (hk : t.kind = 2 → Lt r) (hi : st.open_.length ≤ 16) :
    (∀ st', Sx.step st t = .ok st' → piece ⟨w ++ r, at_, st, rs, false, 0⟩ = ⟨r, at_ + w.length, st', rs, false, 0⟩) ∧
    (∀ y c, Sx.step st t = .error (y, c) → c = 41 ∨ c = 42 → (piece ⟨w ++ r, at_, st, rs, false, 0⟩).e = 41 ∨ (piece ⟨w ++ r, at_, st, rs, false, 0⟩).e = 42) := by
  have hft := tokW_fine h hf
  cases h with
  | start _ nm wa as_ e hn hn0 ha =>
    obtain ⟨c, s, rfl⟩ : ∃ c s, nm = c :: s := by
      cases nm with
      | nil => exact absurd rfl hn0
      | cons c s => exact ⟨c, s, rfl⟩
    have c33 : c ≠ 33 := name_not hn rfl (by decide) (by decide)
    have c63 : c ≠ 63 := name_not hn rfl (by decide) (by decide)
    have c47 : c ≠ 47 := name_not hn rfl (by decide) (by decide)
    have e1 : (60 :: (c :: s ++ wa) ++ r : L) = 60 :: c :: (s ++ wa ++ r) := rfl
    have k1 : ¬ (sComment.isPrefixOf (60 :: c :: (s ++ wa ++ r)) = true) := by
      show ¬ ((60 :: 33 :: [45, 45] : L).isPrefixOf _ = true)
      rw [pf_no c33]; simp
    have k2 : ¬ (([60, 63] : L).isPrefixOf (60 :: c :: (s ++ wa ++ r)) = true) := by rw [pf_no c63]; simp
    have k3 : ¬ (sData.isPrefixOf (60 :: c :: (s ++ wa ++ r)) = true) := by
      show ¬ ((60 :: 33 :: [91, 67, 68, 65, 84, 65, 91] : L).isPrefixOf _ = true)
      rw [pf_no c33]; simp
    have k4 : ¬ (([60, 33] : L).isPrefixOf (60 :: c :: (s ++ wa ++ r)) = true) := by rw [pf_no c33]; simp
    have k5 : ¬ (([60, 47] : L).isPrefixOf (60 :: c :: (s ++ wa ++ r)) = true ∧ 0 < take ((60 :: c :: (s ++ wa ++ r) : L).drop 2)) := by rw [pf_no c47]; simp
    have e2 : take ((60 :: c :: (s ++ wa ++ r) : L).drop 1) = (c :: s).length := by
      obtain ⟨d, u, hd, hsd⟩ := attrs_front ha r
      show take (c :: (s ++ wa ++ r)) = _
      have : (c :: (s ++ wa ++ r) : L) = (c :: s) ++ (wa ++ r) := by simp
      rw [this, hd]
      exact take_word hn (by simp) hsd
    have hp : piece ⟨60 :: (c :: s ++ wa) ++ r, at_, st, rs, false, 0⟩ = startB (c :: s).length ⟨60 :: (c :: s ++ wa) ++ r, at_, st, rs, false, 0⟩ := by
      rw [e1]
      unfold piece
      dsimp only
      rw [if_neg (by simp), if_neg k1, if_neg k2, if_neg k3, if_neg k4, if_neg k5, if_pos (by rw [e2]; simp), e2]
    rw [hp]
    have hfa : ∀ x ∈ as_, fine x.value = true := by
      refine attrs_fine ha ?_
      have h1 := fine_cons (by decide) hf
      exact (fine_parts hn.1 h1).2
    obtain ⟨q1, q2⟩ := start_word (r := r) (n := at_ + (60 :: (c :: s ++ wa)).length) (st := st) (rs := rs) hn hn0 ha hfa
    refine ⟨fun st' hs => q1 st' hi ?_, fun y k hs hc => q2 y k ?_ hc⟩
    · unfold Sx.step at hs; rw [if_pos rfl] at hs; exact hs
    · unfold Sx.step at hs; rw [if_pos rfl] at hs; exact hs
  | end_ _ nm b hn hn0 hb =>
    have e1 : (60 :: 47 :: (nm ++ (b ++ [62])) ++ r : L) = 60 :: 47 :: (nm ++ (b ++ 62 :: r)) := by simp
    have k1 : ¬ (sComment.isPrefixOf (60 :: 47 :: (nm ++ (b ++ 62 :: r))) = true) := by
      show ¬ ((60 :: 33 :: [45, 45] : L).isPrefixOf _ = true)
      rw [pf_no (by decide)]; simp
    have k2 : ¬ (([60, 63] : L).isPrefixOf (60 :: 47 :: (nm ++ (b ++ 62 :: r))) = true) := by rw [pf_no (by decide)]; simp
    have k3 : ¬ (sData.isPrefixOf (60 :: 47 :: (nm ++ (b ++ 62 :: r))) = true) := by
      show ¬ ((60 :: 33 :: [91, 67, 68, 65, 84, 65, 91] : L).isPrefixOf _ = true)
      rw [pf_no (by decide)]; simp
    have k4 : ¬ (([60, 33] : L).isPrefixOf (60 :: 47 :: (nm ++ (b ++ 62 :: r))) = true) := by rw [pf_no (by decide)]; simp
    have e2 : take ((60 :: 47 :: (nm ++ (b ++ 62 :: r)) : L).drop 2) = nm.length := by
      obtain ⟨d, u, hd, hsd⟩ := sps_front (r := r) hb stops62
      show take (nm ++ (b ++ 62 :: r)) = _
      rw [hd]
      exact take_word hn hn0 hsd
    have hpos : 0 < nm.length := List.length_pos_iff.2 hn0
    have hp : piece ⟨60 :: 47 :: (nm ++ (b ++ [62])) ++ r, at_, st, rs, false, 0⟩ = endB nm.length ⟨60 :: 47 :: (nm ++ (b ++ [62])) ++ r, at_, st, rs, false, 0⟩ := by
      rw [e1]
      unfold piece
      dsimp only
      rw [if_neg (by simp), if_neg k1, if_neg k2, if_neg k3, if_neg k4, if_pos ⟨by simp, by rw [e2]; exact hpos⟩, e2]
    rw [hp]
    have hs' : Sx.step st ⟨1, nm, [], false, [], at_, at_ + (60 :: 47 :: (nm ++ (b ++ [62]))).length⟩ = Sx.end_ st ⟨1, nm, [], false, [], at_, at_ + (60 :: 47 :: (nm ++ (b ++ [62]))).length⟩ := by
      unfold Sx.step; rw [if_neg (by simp), if_pos rfl]
    rw [hs']
    refine ⟨fun st' hs => ?_, fun y k hs hc => ?_⟩
    · unfold Sx.end_ at hs
      split at hs
      · cases hs
      · rename_i x hx
        split at hs
        · rename_i hwr
          simp only [Except.ok.injEq] at hs
          subst hs
          have hne : st.open_ ≠ [] := fun e => by rw [e] at hx; cases hx
          have hsp : st.open_ = st.open_.dropLast ++ [x] := by
            rw [List.getLast?_eq_some_getLast hne] at hx
            rw [← Option.some.inj hx, List.dropLast_concat_getLast]
          have hlo := lastOf_last (ys := st.open_.dropLast) hwr
          rw [← hsp] at hlo
          have e4 : ((60 :: 47 :: (nm ++ (b ++ [62])) ++ r : L).drop 2).take nm.length = nm := by simp
          unfold endB
          dsimp only
          rw [e4, endCut_word hb]
          dsimp only at hlo ⊢
          rw [hlo]
          dsimp only
          have e5 : st.open_.length - (st.open_.dropLast.length + 1) = 0 := by rw [List.length_dropLast]; omega
          rw [e5]
          unfold close closeN
          simp
          omega
        · cases hs
    · unfold Sx.end_ at hs
      split at hs
      · cases hs; omega
      · split at hs
        · cases hs
        · cases hs; omega
  | text _ _ h1 h2 h3 =>
    obtain ⟨c, s, rfl⟩ : ∃ c s, w = c :: s := by
      cases w with
      | nil => exact absurd rfl h1
      | cons c s => exact ⟨c, s, rfl⟩
    have hc : c ≠ 60 := fun e => h2 (by rw [e]; exact List.mem_cons_self ..)
    have hs1 : ∀ d ∈ c :: s, isLt d = false := fun d hd => by
      unfold isLt
      rw [beq_eq_false_iff_ne]
      intro e
      rw [e] at hd
      exact h2 hd
    have hs2 : ∀ d t, r = d :: t → isLt d = true := fun d t e => by
      rcases hk rfl with h | ⟨u, h⟩
      · rw [h] at e; cases e
      · rw [h] at e; cases e; rfl
    have e1 := span_of hs1 hs2
    have e2 : untilB isLt ⟨c :: s ++ r, at_, st, rs, false, 0⟩ = ⟨r, at_ + (c :: s).length, st, rs, false, 0⟩ := until_of rfl hs1 hs2
    have hp : piece ⟨c :: s ++ r, at_, st, rs, false, 0⟩ = says (c :: s) at_ ploose ⟨r, at_ + (c :: s).length, st, rs, false, 0⟩ := by
      unfold piece
      dsimp only
      rw [if_pos (by rw [List.cons_append]; simp [Ne.symm hc]), e1, List.take_left, e2]
    rw [hp]
    have hs' : Sx.step st ⟨2, [], [], false, c :: s, at_, at_ + (c :: s).length⟩ = Sx.text st ⟨2, [], [], false, c :: s, at_, at_ + (c :: s).length⟩ := by
      unfold Sx.step; rw [if_neg (by simp), if_neg (by simp), if_pos rfl]
    rw [hs']
    refine ⟨fun st' hs => ?_, fun y k hs hc => ?_⟩
    · unfold Sx.text at hs
      unfold says
      dsimp only at hs ⊢
      split at hs
      · rename_i ho
        split at hs
        · rename_i hsp
          simp only [Except.ok.injEq] at hs
          subst hs
          rw [if_neg (by simp [ho]), hsp]
          simp
        · cases hs
      · rename_i ho
        rw [if_pos ho]
        split at hs
        · rename_i u hu
          simp only [Except.ok.injEq] at hs
          subst hs
          rw [ploose_ok hu (sref_fine _ _ _ _ _ (Nat.le_refl _) (Nat.le_refl _) hf hu)]
        · cases hs
    · unfold Sx.text at hs
      dsimp only at hs
      split at hs
      · split at hs
        · cases hs
        · cases hs; omega
      · split at hs
        · cases hs
        · cases hs; omega
  | data _ tx h1 =>
    have e1 : (sData ++ (tx ++ [93, 93, 62]) ++ r : L) = 60 :: 33 :: 91 :: ([67, 68, 65, 84, 65, 91] ++ (tx ++ ([93, 93, 62] ++ r))) := by unfold sData; simp
    have e3 : (sData ++ (tx ++ [93, 93, 62]) ++ r : L).drop 9 = tx ++ ([93, 93, 62] ++ r) := by unfold sData; simp
    have k1 : ¬ (sComment.isPrefixOf (sData ++ (tx ++ [93, 93, 62]) ++ r) = true) := by rw [e1]; simp [sComment]
    have k2 : ¬ (([60, 63] : L).isPrefixOf (sData ++ (tx ++ [93, 93, 62]) ++ r) = true) := by rw [e1]; simp
    have k3 : sData.isPrefixOf (sData ++ (tx ++ [93, 93, 62]) ++ r) = true := pfx_iff.2 ⟨tx ++ [93, 93, 62] ++ r, by simp⟩
    have hsk := skip_of (op := 9) (e := [93, 93, 62]) (x := tx) (r := r) (p := ⟨sData ++ (tx ++ [93, 93, 62]) ++ r, at_, st, rs, false, 0⟩) (by unfold sData; simp) e3 (till_of h1 r)
    have hp : piece ⟨sData ++ (tx ++ [93, 93, 62]) ++ r, at_, st, rs, false, 0⟩ = says tx at_ pclean ⟨r, at_ + 9 + tx.length + 3, st, rs, false, 0⟩ := by
      unfold piece
      dsimp only
      rw [if_neg (by rw [e1]; simp), if_neg k1, if_neg k2, if_pos k3, hsk]
      rfl
    rw [hp]
    have hs' : Sx.step st ⟨3, [], [], false, tx, at_, at_ + (sData ++ (tx ++ [93, 93, 62])).length⟩ = Sx.data st ⟨3, [], [], false, tx, at_, at_ + (sData ++ (tx ++ [93, 93, 62])).length⟩ := by
      unfold Sx.step; rw [if_neg (by simp), if_neg (by simp), if_neg (by simp), if_pos rfl]
    rw [hs']
    refine ⟨fun st' hs => ?_, fun y k hs hc => ?_⟩
    · unfold Sx.data at hs
      unfold says
      dsimp only at hs ⊢
      split at hs
      · cases hs
      · rename_i ho
        simp only [Except.ok.injEq] at hs
        subst hs
        rw [if_pos ho]
        unfold pclean
        rw [clean_id hft]
        unfold mendN sData
        simp
        omega
    · unfold Sx.data at hs
      dsimp only at hs
      split at hs
      · cases hs; omega
      · cases hs
  | comment _ c h1 =>
    have e1 : (sComment ++ (c ++ [45, 45, 62]) ++ r : L) = sComment ++ (c ++ ([45, 45, 62] ++ r)) := by simp
    have e3 : (sComment ++ (c ++ [45, 45, 62]) ++ r : L).drop 4 = c ++ ([45, 45, 62] ++ r) := by unfold sComment; simp
    have hsk := skip_of (op := 4) (e := [45, 45, 62]) (x := c) (r := r) (p := ⟨sComment ++ (c ++ [45, 45, 62]) ++ r, at_, st, rs, false, 0⟩) (by unfold sComment; simp) e3 (till_comment h1)
    have hp : piece ⟨sComment ++ (c ++ [45, 45, 62]) ++ r, at_, st, rs, false, 0⟩ = ⟨r, at_ + 4 + c.length + 3, st, rs, false, 0⟩ := by
      unfold piece
      dsimp only
      rw [if_neg (by rw [e1]; unfold sComment; simp), if_pos (pfx_iff.2 ⟨_, e1⟩), hsk]
      rfl
    rw [hp, kind4]
    refine ⟨fun st' hs => ?_, fun y k hs hc => by cases hs⟩
    simp only [Except.ok.injEq] at hs
    subst hs
    unfold sComment
    simp
    omega
  | decl d hd =>
    obtain ⟨y, rfl, hy⟩ := decl_no hd
    have e1 : (sXml ++ (y ++ [63, 62]) ++ r : L) = 60 :: 63 :: (([120, 109, 108] ++ y) ++ ([63, 62] ++ r)) := by unfold sXml; simp
    have hti : till [63, 62] (([120, 109, 108] ++ y) ++ ([63, 62] ++ r)) = some (([120, 109, 108] ++ y : L).length) := by
      have := till_behind (x := [120, 109, 108] ++ y) (l := [63, 62] ++ r) (c := 63) (q := [62]) (by simp; exact hy) (till_zero 63 62 r)
      exact this
    have hsk := skip_of (op := 2) (e := [63, 62]) (x := [120, 109, 108] ++ y) (r := r) (p := ⟨sXml ++ (y ++ [63, 62]) ++ r, 0, st, rs, false, 0⟩) (by unfold sXml; simp) (by rw [e1]; rfl) hti
    have k1 : ¬ (sComment.isPrefixOf (sXml ++ (y ++ [63, 62]) ++ r) = true) := by rw [e1]; simp [sComment]
    have hp : piece ⟨sXml ++ (y ++ [63, 62]) ++ r, 0, st, rs, false, 0⟩ = ⟨r, 0 + 2 + ([120, 109, 108] ++ y : L).length + 2, st, rs, false, 0⟩ := by
      unfold piece
      dsimp only
      rw [if_neg (by rw [e1]; simp), if_neg k1, if_pos (by rw [e1]; simp), hsk]
      rfl
    rw [hp, kind4]
    refine ⟨fun st' hs => ?_, fun y k hs hc => by cases hs⟩
    simp only [Except.ok.injEq] at hs
    subst hs
    unfold sXml
    simp
    omega
  | instr _ nm y h1 h2 =>
    obtain ⟨hn, hn0, _, _, hy⟩ := h1
    have e1 : (60 :: 63 :: (nm ++ (y ++ [63, 62])) ++ r : L) = 60 :: 63 :: ((nm ++ y) ++ ([63, 62] ++ r)) := by simp
    have hti : till [63, 62] ((nm ++ y) ++ ([63, 62] ++ r)) = some ((nm ++ y).length) := by
      have := till_behind (x := nm) (c := 63) (q := [62]) (name_mem hn stops63 (by decide)) (till_of hy r)
      rw [List.append_assoc, List.length_append]
      exact this
    have hsk := skip_of (op := 2) (e := [63, 62]) (x := nm ++ y) (r := r) (p := ⟨60 :: 63 :: (nm ++ (y ++ [63, 62])) ++ r, at_, st, rs, false, 0⟩) (by simp) (by rw [e1]; rfl) hti
    have k1 : ¬ (sComment.isPrefixOf (60 :: 63 :: (nm ++ (y ++ [63, 62])) ++ r) = true) := by rw [e1]; simp [sComment]
    have hp : piece ⟨60 :: 63 :: (nm ++ (y ++ [63, 62])) ++ r, at_, st, rs, false, 0⟩ = ⟨r, at_ + 2 + (nm ++ y).length + 2, st, rs, false, 0⟩ := by
      unfold piece
      dsimp only
      rw [if_neg (by rw [e1]; simp), if_neg k1, if_pos (by rw [e1]; simp), hsk]
      rfl
    rw [hp, kind4]
    refine ⟨fun st' hs => ?_, fun y k hs hc => by cases hs⟩
    simp only [Except.ok.injEq] at hs
    subst hs
    simp
    omega
theorem go_end {p : Bs} {f : Nat} (h : p.st.rooted = true) (ho : p.st.open_ = []) : go f p = p := by
  cases f with
  | zero => rfl
  | succ f =>
    rw [go, if_neg]
    rintro ⟨_, _, hr | hr⟩
    · rw [h] at hr; cases hr
    · exact hr ho
theorem go_stop {p : Bs} {f : Nat} (h : p.e ≠ 0) : go f p = p := by
  cases f with
  | zero => rfl
  | succ f => rw [go, if_neg (fun hc => h hc.2.1)]
/-- Where an element is open, or none was yet. -/
def On (st : St) : Prop := st.rooted = false ∨ st.open_ ≠ []
theorem text_on {st st' : St} {t : Tok} (h : On st) (hk : t.kind = 2) (hs : Sx.step st t = .ok st') : On st' := by
  unfold Sx.step at hs
  rw [if_neg (by omega), if_neg (by omega), if_pos hk] at hs
  unfold Sx.text at hs
  split at hs
  · split at hs
    · cases hs; exact h
    · cases hs
  · rename_i ho
    split at hs
    · simp only [Except.ok.injEq] at hs
      subst hs
      exact .inr ho
    · cases hs
theorem not_on {st : St} (h : ¬ On st) : st.rooted = true ∧ st.open_ = [] := by
  unfold On at h
  refine ⟨?_, Classical.byContradiction fun ho => h (.inr ho)⟩
  cases hr : st.rooted with
  | true => rfl
  | false => exact absurd (.inl hr) h
/-- Behind the root. -/
theorem off_step {st : St} {t : Tok} (h1 : st.rooted = true) (h2 : st.open_ = []) : (∀ st', Sx.step st t = .ok st' → st' = st ∧ t.kind ≠ 0 ∧ t.kind ≠ 1 ∧ t.kind ≠ 3 ∧ (t.kind = 2 → t.text.all sp = true)) ∧ ∀ y c, Sx.step st t = .error (y, c) → c = 50 := by
  unfold Sx.step
  by_cases k0 : t.kind = 0
  · rw [if_pos k0]
    unfold Sx.start
    have he : ∃ a, Sx.early st t = some (a, 50) := by
      unfold Sx.early
      split
      · exact ⟨_, rfl⟩
      · rw [h1, h2]
        exact ⟨_, rfl⟩
    obtain ⟨a, he⟩ := he
    rw [he]
    exact ⟨fun st' h => (by cases h), fun y c h => by cases h; rfl⟩
  rw [if_neg k0]
  by_cases k1 : t.kind = 1
  · rw [if_pos k1]
    unfold Sx.end_
    rw [h2]
    exact ⟨fun st' h => (by cases h), fun y c h => by cases h; rfl⟩
  rw [if_neg k1]
  by_cases k2 : t.kind = 2
  · rw [if_pos k2]
    unfold Sx.text
    rw [if_pos h2]
    split
    · rename_i hsp
      exact ⟨fun st' h => by cases h; exact ⟨rfl, k0, k1, by omega, fun _ => hsp⟩, fun y c h => by cases h⟩
    · exact ⟨fun st' h => (by cases h), fun y c h => by cases h; rfl⟩
  rw [if_neg k2]
  by_cases k3 : t.kind = 3
  · rw [if_pos k3]
    unfold Sx.data
    rw [if_pos h2]
    exact ⟨fun st' h => (by cases h), fun y c h => by cases h; rfl⟩
  rw [if_neg k3]
  exact ⟨fun st' h => by cases h; exact ⟨rfl, k0, k1, k3, fun h => absurd h k2⟩, fun y c h => by cases h⟩
theorem off_run {st : St} (h1 : st.rooted = true) (h2 : st.open_ = []) : ∀ ts : List Tok, (∀ st', run st ts = .ok st' → st' = st) ∧ ∀ y c, run st ts = .error (y, c) → c = 50
  | [] => ⟨fun st' h => by cases h; rfl, fun y c h => by cases h⟩
  | t :: ts => by
    obtain ⟨a1, a2⟩ := off_step (t := t) h1 h2
    obtain ⟨b1, b2⟩ := off_run h1 h2 ts
    rw [run]
    cases hs : Sx.step st t with
    | error x =>
      obtain ⟨y, c⟩ := x
      exact ⟨fun st' h => (by cases h), fun y' c' h => by cases h; exact a2 y c hs⟩
    | ok st1 =>
      obtain ⟨rfl, _⟩ := a1 st1 hs
      exact ⟨b1, b2⟩
theorem row_head {a : Nat} {w rest : L} {ts : List Tok} (h : Row a w rest ts) (hne : ts ≠ []) : w ≠ [] := by
  cases h with
  | nil => exact absurd rfl hne
  | cons _ w t w2 rest ts hw _ _ _ =>
    have := hw.ne
    intro e
    rw [List.append_eq_nil_iff] at e
    exact this e.1
theorem lt_front {w rest : L} (h : Lt (w ++ rest)) (hw : w ≠ []) (x : L) : Lt (w ++ x) := by
  cases w with
  | nil => exact absurd rfl hw
  | cons c w =>
    rcases h with h | ⟨s, h⟩
    · cases h
    · rw [List.cons_append] at h
      exact .inr ⟨w ++ x, by rw [head_eq h]; rfl⟩
/-- Up to the root's end, whatever stands behind. -/
theorem go_row {at_ : Nat} {w rest : L} {ts : List Tok} (h : Row at_ w rest ts) : ∀ {st st' : St}, Inv st → run st ts = .ok st' → On st → ¬ On st' → ∀ x : L, ∃ (w1 w2 : L) (ts2 : List Tok) (st1 : St), w = w1 ++ w2 ∧ Row (at_ + w1.length) w2 rest ts2 ∧ ¬ On st1 ∧ run st1 ts2 = .ok st' ∧
    ∀ f rs, w.length ≤ f → go f ⟨w ++ x, at_, st, rs, false, 0⟩ = ⟨w2 ++ x, at_ + w1.length, st1, rs, false, 0⟩ := by
  induction h with
  | nil =>
    intro st st' _ hrun hr hr' _
    cases hrun
    exact absurd hr hr'
  | cons at_ w t w2 rest ts hw hf hk hrow ih =>
    intro st st' hI hrun hr hr' x
    rw [run] at hrun
    cases hs : Sx.step st t with
    | error y => rw [hs] at hrun; cases hrun
    | ok st1 =>
      rw [hs] at hrun
      dsimp only at hrun
      have hI1 := inv_step hI (tokW_fine hw hf) hs
      have hk' : t.kind = 2 → Lt (w2 ++ x) := fun h2 => by
        have hon := text_on hr h2 hs
        refine lt_front (hk h2) (row_head hrow ?_) x
        rintro rfl
        cases hrun
        exact hr' hon
      have hp := (piece_word (r := w2 ++ x) (rs := []) hw hf hk' hI.few).1 st1 hs
      have hgo : ∀ f rs, go (f + 1) ⟨w ++ w2 ++ x, at_, st, rs, false, 0⟩ = go f ⟨w2 ++ x, at_ + w.length, st1, rs, false, 0⟩ := fun f rs => by
        have hp := (piece_word (r := w2 ++ x) (rs := rs) hw hf hk' hI.few).1 st1 hs
        rw [go, if_pos, List.append_assoc, hp]
        refine ⟨?_, rfl, hr⟩
        intro e
        have e2 : w ++ w2 ++ x = [] := e
        rw [List.append_eq_nil_iff, List.append_eq_nil_iff] at e2
        exact hw.ne e2.1.1
      have hwl := List.length_pos_iff.2 hw.ne
      by_cases hon : On st1
      · obtain ⟨v1, v2, ts2, st2, e1, e2, e3, e4, e5⟩ := ih hI1 hrun hon hr' x
        refine ⟨w ++ v1, v2, ts2, st2, by rw [e1, List.append_assoc], by rw [List.length_append, ← Nat.add_assoc]; exact e2, e3, e4, fun f rs hf => ?_⟩
        rw [List.length_append] at hf
        obtain ⟨f, rfl⟩ : ∃ g, f = g + 1 := ⟨f - 1, by omega⟩
        rw [hgo, e5 f rs (by omega), List.length_append, ← Nat.add_assoc]
      · refine ⟨w, w2, ts, st1, rfl, hrow, hon, hrun, fun f rs hf => ?_⟩
        rw [List.length_append] at hf
        obtain ⟨f, rfl⟩ : ∃ g, f = g + 1 := ⟨f - 1, by omega⟩
        rw [hgo]
        obtain ⟨o1, o2⟩ := not_on hon
        exact go_end o1 o2
/-- Where strict tells depth, or many, bozo does. -/
theorem go_err {at_ : Nat} {w rest : L} {ts : List Tok} (h : Row at_ w rest ts) : ∀ {st : St} {y c : Nat}, Inv st → run st ts = .error (y, c) → c = 41 ∨ c = 42 → On st → ∀ f rs, w.length ≤ f → (go f ⟨w ++ rest, at_, st, rs, false, 0⟩).e = 41 ∨ (go f ⟨w ++ rest, at_, st, rs, false, 0⟩).e = 42 := by
  induction h with
  | nil => intro st y c _ hrun; cases hrun
  | cons at_ w t w2 rest ts hw hf hk hrow ih =>
    intro st y c hI hrun hc hr f rs hfl
    rw [run] at hrun
    have hwl := List.length_pos_iff.2 hw.ne
    rw [List.length_append] at hfl
    obtain ⟨f, rfl⟩ : ∃ g, f = g + 1 := ⟨f - 1, by omega⟩
    have hne : (w ++ w2 ++ rest : L) ≠ [] := fun e => by
      rw [List.append_eq_nil_iff, List.append_eq_nil_iff] at e
      exact hw.ne e.1.1
    rw [go, if_pos ⟨hne, rfl, hr⟩, List.append_assoc]
    have hpw := piece_word (r := w2 ++ rest) (st := st) (rs := rs) hw hf hk hI.few
    cases hs : Sx.step st t with
    | error x =>
      rw [hs] at hrun
      cases hrun
      have := hpw.2 y c hs hc
      rw [go_stop (by omega)]
      exact this
    | ok st1 =>
      rw [hs] at hrun
      dsimp only at hrun
      rw [hpw.1 st1 hs]
      have hI1 := inv_step hI (tokW_fine hw hf) hs
      by_cases hon : On st1
      · exact ih hI1 hrun hc hon f rs (by omega)
      · obtain ⟨o1, o2⟩ := not_on hon
        have := (off_run o1 o2 ts).2 y c hrun
        omega
theorem cut_len {n : Nat} {p : Bs} (h : n ≤ p.l.length) : (cutB n p).at_ + (cutB n p).l.length = p.at_ + p.l.length := by
  unfold cutB
  dsimp only
  rw [List.length_drop]
  omega
theorem span_le (f : UInt8 → Bool) (l : L) : span f l ≤ l.length := (List.takeWhile_sublist _).length_le
theorem until_len (f : UInt8 → Bool) (p : Bs) : (untilB f p).at_ + (untilB f p).l.length = p.at_ + p.l.length := cut_len (span_le f p.l)
theorem skip_some {op : Nat} {e : L} {p : Bs} (h : (till e (p.l.drop op)).isSome = true) : (skipB op e p).2.rs = p.rs ∧ (skipB op e p).2.at_ + (skipB op e p).2.l.length = p.at_ + p.l.length ∧ (skipB op e p).2.l.length + e.length ≤ p.l.length := by
  obtain ⟨n, hn⟩ := Option.isSome_iff_exists.1 h
  have hl := till_len hn
  unfold skipB
  rw [hn]
  dsimp only
  rw [List.length_drop] at hl
  unfold cutB
  simp only [List.length_drop]
  refine ⟨trivial, ?_, ?_⟩ <;> omega
theorem behind_rs : ∀ (f : Nat) (p : Bs), (behind f p).rs = p.rs ∨ ∃ a, a ≤ p.at_ + p.l.length ∧ (behind f p).rs = p.rs ++ [⟨13, a⟩]
  | 0, _ => .inl rfl
  | f + 1, p => by
    have hu := until_len solid p
    have hur : (untilB solid p).rs = p.rs := rfl
    rw [behind]
    (try dsimp only)
    split
    · rename_i hc
      obtain ⟨h1, h2, _⟩ := skip_some (op := 4) (e := [45, 45, 62]) (p := untilB solid p) hc.2
      rcases behind_rs f (skipB 4 [45, 45, 62] (untilB solid p)).2 with h | ⟨a, ha, h⟩
      · exact .inl (h.trans (h1.trans hur))
      · exact .inr ⟨a, by omega, by rw [h, h1, hur]⟩
    split
    · rename_i hc
      obtain ⟨h1, h2, _⟩ := skip_some (op := 2) (e := [63, 62]) (p := untilB solid p) hc.2
      rcases behind_rs f (skipB 2 [63, 62] (untilB solid p)).2 with h | ⟨a, ha, h⟩
      · exact .inl (h.trans (h1.trans hur))
      · exact .inr ⟨a, by omega, by rw [h, h1, hur]⟩
    split
    · exact .inr ⟨(untilB solid p).at_, by omega, by unfold mend; rfl⟩
    · exact .inl rfl
theorem span_sps {b l : L} (h : Sps b) : span solid (b ++ l) = b.length + span solid l := by
  induction b with
  | nil => simp
  | cons c b ih =>
    have hc := sps_no h
    have := ih (by unfold Sps at h ⊢; rw [List.all_cons, Bool.and_eq_true] at h; exact h.2)
    unfold span at this ⊢
    rw [List.cons_append, List.takeWhile_cons, hc c (List.mem_cons_self ..)]
    simp only [Bool.not_false, if_true, List.length_cons]
    omega
theorem behind_sps {b l : L} {a : Nat} {st : St} {rs : List Rsn} {j : Bool} {e f : Nat} (h : Sps b) (hf : 0 < f) : behind f ⟨b ++ l, a, st, rs, j, e⟩ = behind f ⟨l, a + b.length, st, rs, j, e⟩ := by
  obtain ⟨f, rfl⟩ : ∃ g, f = g + 1 := ⟨f - 1, by omega⟩
  have e1 : untilB solid ⟨b ++ l, a, st, rs, j, e⟩ = untilB solid ⟨l, a + b.length, st, rs, j, e⟩ := by
    unfold untilB cutB
    dsimp only
    rw [span_sps h, ← List.drop_drop, List.drop_left, Nat.add_assoc]
  rw [behind, behind, e1]
/-- Behind the root a row of tokens leaves no reason. -/
theorem behind_row {at_ : Nat} {w rest : L} {ts : List Tok} (h : Row at_ w rest ts) : rest = [] → ∀ {st st' : St}, st.rooted = true → st.open_ = [] → run st ts = .ok st' → ∀ f rs j e a, w.length < f → (behind f ⟨w, a, st, rs, j, e⟩).rs = rs := by
  induction h with
  | nil =>
    intro _ st st' _ _ _ f rs j e a hf
    obtain ⟨f, rfl⟩ : ∃ g, f = g + 1 := ⟨f - 1, by omega⟩
    rw [behind]
    have e1 : (untilB solid ⟨[], a, st, rs, j, e⟩).l = [] := rfl
    (try dsimp only)
    rw [if_neg (by rw [e1]; simp [sComment]), if_neg (by rw [e1]; simp), if_neg (by rw [e1]; simp)]
    rfl
  | cons at_ w t w2 rest ts hw hf hk hrow ih =>
    intro hrest st st' h1 h2 hrun f rs j e a hfl
    rw [run] at hrun
    cases hs : Sx.step st t with
    | error x => rw [hs] at hrun; cases hrun
    | ok st1 =>
      rw [hs] at hrun
      dsimp only at hrun
      obtain ⟨rfl, k0, k1, k3, k2⟩ := (off_step h1 h2).1 st1 hs
      have ih' := ih hrest h1 h2 hrun
      rw [List.length_append] at hfl
      have hwl := List.length_pos_iff.2 hw.ne
      have two : ∀ (l : L) (f : Nat), untilB solid ⟨60 :: l, a, st1, rs, j, e⟩ = ⟨60 :: l, a + 0, st1, rs, j, e⟩ := fun l f => until_of (a := []) rfl (fun c hc => by cases hc) (fun c t h => by rw [← head_eq h]; rfl)
      have pi : ∀ (x : L) (l : L), w = 60 :: 63 :: (x ++ [63, 62]) → till [63, 62] (x ++ ([63, 62] ++ w2)) = some x.length → (behind f ⟨w ++ w2, a, st1, rs, j, e⟩).rs = rs := fun x l hwx htl => by
        obtain ⟨f, rfl⟩ : ∃ g, f = g + 1 := ⟨f - 1, by omega⟩
        have e1 : (w ++ w2 : L) = 60 :: 63 :: (x ++ ([63, 62] ++ w2)) := by rw [hwx]; simp
        rw [e1, behind]
        (try dsimp only)
        rw [two _ 0]
        dsimp only
        have hdr : (60 :: 63 :: (x ++ ([63, 62] ++ w2)) : L).drop 2 = x ++ ([63, 62] ++ w2) := rfl
        rw [if_neg (by simp [sComment]), if_pos ⟨by simp, by rw [hdr, htl]; rfl⟩, skip_of (x := x) (r := w2) (by simp) hdr htl]
        exact ih' f rs j e _ (by omega)
      cases hw with
      | start => exact absurd rfl k0
      | end_ => exact absurd rfl k1
      | data => exact absurd rfl k3
      | text =>
        rw [behind_sps (k2 rfl) (by omega)]
        exact ih' f rs j e _ (by omega)
      | comment _ c hc =>
        obtain ⟨f, rfl⟩ : ∃ g, f = g + 1 := ⟨f - 1, by omega⟩
        have e1 : (sComment ++ (c ++ [45, 45, 62]) ++ w2 : L) = 60 :: ([33, 45, 45] ++ (c ++ ([45, 45, 62] ++ w2))) := by unfold sComment; simp
        have hdr : (60 :: ([33, 45, 45] ++ (c ++ ([45, 45, 62] ++ w2))) : L).drop 4 = c ++ ([45, 45, 62] ++ w2) := rfl
        have htl : till [45, 45, 62] (c ++ ([45, 45, 62] ++ w2)) = some c.length := till_comment hc
        rw [e1, behind]
        (try dsimp only)
        rw [two _ 0]
        dsimp only
        rw [if_pos ⟨by simp [sComment], by rw [hdr, htl]; rfl⟩, skip_of (x := c) (r := w2) (by simp) hdr htl]
        exact ih' f rs j e _ (by omega)
      | decl d hd =>
        obtain ⟨y, rfl, hy⟩ := decl_no hd
        refine pi ([120, 109, 108] ++ y) [] (by unfold sXml; simp) ?_
        have := till_behind (x := [120, 109, 108] ++ y) (l := [63, 62] ++ w2) (c := 63) (q := [62]) (by simp; exact hy) (till_zero 63 62 w2)
        exact this
      | instr _ nm y q1 q2 =>
        obtain ⟨hn, hn0, _, _, hy⟩ := q1
        refine pi (nm ++ y) [] (by simp) ?_
        have := till_behind (x := nm) (c := 63) (q := [62]) (name_mem hn stops63 (by decide)) (till_of hy w2)
        rw [List.append_assoc, List.length_append]
        exact this
/-- Of what strict takes bozo gives the same events, and no reasons; of what stands behind it, one reason at most. -/
theorem strict_ok {s x : L} {evs : List Ev} (h : Sx.parse s = .ok evs) : ∃ rs, parse (s ++ x) = .ok (evs, rs) ∧ (x = [] → rs = []) ∧ (rs = [] ∨ ∃ a, a ≤ s.length + x.length ∧ rs = [⟨13, a⟩]) := by
  obtain ⟨ts, st, hrow, hrun, ho, hro, rfl⟩ := row_parse h
  have hoff : ¬ On st := fun hon => by
    rcases hon with hon | hon
    · rw [hro] at hon; cases hon
    · exact hon ho
  obtain ⟨w1, w2, ts2, st1, e1, hrow2, hoff1, hrun2, hgo⟩ := go_row hrow inv0 hrun (.inl rfl) hoff x
  obtain ⟨o1, o2⟩ := not_on hoff1
  obtain rfl := (off_run o1 o2 ts2).1 st hrun2
  have hg := hgo ((s ++ x).length + 1) [] (by rw [List.length_append]; omega)
  unfold parse fin b0
  rw [hg]
  dsimp only
  rw [if_neg (by simp), if_neg (by rw [hro]; simp), if_pos ho]
  have hb := behind_st ((w2 ++ x).length + 1) ⟨w2 ++ x, 0 + w1.length, st, [], false, 0⟩
  have hr := behind_rs ((w2 ++ x).length + 1) ⟨w2 ++ x, 0 + w1.length, st, [], false, 0⟩
  have hn : x = [] → (behind ((w2 ++ x).length + 1) ⟨w2 ++ x, 0 + w1.length, st, [], false, 0⟩).rs = [] := fun hx => by
    subst hx
    rw [List.append_nil]
    exact behind_row hrow2 rfl hro ho hrun2 _ _ _ _ _ (Nat.lt_succ_self _)
  generalize behind ((w2 ++ x).length + 1) ⟨w2 ++ x, 0 + w1.length, st, [], false, 0⟩ = q at *
  have hqs : q.st = st := hb.1
  rw [hqs, ho, List.length_nil, closeN, hqs]
  refine ⟨q.rs.take 8, rfl, fun hx => by rw [hn hx]; rfl, ?_⟩
  rcases hr with hr | ⟨a, ha, hr⟩
  · left; rw [hr]; rfl
  · refine .inr ⟨a, ?_, by rw [hr]; rfl⟩
    have := congrArg List.length e1
    rw [List.length_append] at this ha
    dsimp only at ha
    omega
theorem strict_err {s : L} {y c : Nat} (h : Sx.parse s = .error (y, c)) (hc : c = 41 ∨ c = 42) : ∃ z, parse s = .error z ∧ (z = 41 ∨ z = 42) := by
  obtain ⟨w, rest, hw, hr, _⟩ := toks_word s.length 0 s (Nat.le_refl _)
  unfold Sx.parse at h
  split at h
  · cases h; omega
  split at h
  · cases h; omega
  cases hrun : run st0 (toks s.length 0 s) with
  | ok st =>
    rw [hrun] at h
    dsimp only at h
    split at h
    · cases h
    · cases h; omega
  | error x =>
    rw [hrun] at h
    cases h
    have hg := go_err hr inv0 hrun hc (.inl rfl) (s.length + 1) [] (by rw [hw, List.length_append]; omega)
    rw [← hw] at hg
    have hg' : (go (s.length + 1) (b0 s)).e = 41 ∨ (go (s.length + 1) (b0 s)).e = 42 := hg
    unfold parse fin
    generalize go (s.length + 1) (b0 s) = p at *
    rw [if_pos (by omega)]
    exact ⟨p.e, rfl, hg'⟩
end Bz
end Go.Proofs.Ytaickkaoglohgaa
namespace Go.Proofs.Ytaickkaoglohgaa
open Go Tk Sx
namespace Bz
theorem fine_step (c : UInt8) (r : L) : fine (c :: r) = (charOk (Utf.piece (c :: r)).1 && fine ((c :: r).drop (Utf.piece (c :: r)).2.toNat)) := by
  have e : fine (c :: r) = (Utf.from_ 0 (c :: r)).all (fun p => charOk p.2) := (fine_from _ 0).symm
  rw [e, Utf.from_cons, List.all_cons, fine_from]
/-- What has no Char that is none is fine. -/
theorem cleanN_none : ∀ (f : Nat) (l : L), l.length ≤ f → (cleanN f l).2 = 0 → fine l = true := by
  intro f
  induction f with
  | zero =>
    intro l hf _
    have : l = [] := List.eq_nil_of_length_eq_zero (by omega)
    rw [this]
    decide
  | succ f ih =>
    intro l hf h
    cases l with
    | nil => decide
    | cons c r =>
      have hn := Utf.piece_n c r
      rw [List.length_cons] at hf
      rw [cleanN] at h
      split at h
      · split at h
        · rename_i hc
          have h2 := ih ((c :: r).drop (Utf.piece (c :: r)).2.toNat) (by rw [List.length_drop, List.length_cons]; omega) h
          rw [fine_step, hc, h2, Bool.and_self]
        · exact absurd h (Nat.succ_ne_zero _)
      · exact absurd h (Nat.succ_ne_zero _)
theorem clean_none {l : L} : (clean l).2 = 0 ↔ fine l = true := by
  unfold clean
  split
  · rename_i h; exact ⟨fun _ => h, fun _ => rfl⟩
  · rename_i h
    exact ⟨fun h0 => cleanN_none _ _ (Nat.le_refl _) h0, fun h1 => absurd h1 h⟩
theorem clean_same {l : L} (h : (clean l).2 = 0) : (clean l).1 = l := by rw [clean_id (clean_none.1 h)]
theorem cleanN_len : ∀ (f : Nat) (l : L), (cleanN f l).1.length ≤ 3 * l.length ∧ (cleanN f l).2 ≤ l.length
  | 0, _ => by rw [cleanN]; simp
  | f + 1, [] => by
    rw [cleanN]
    · simp
    · intro h; cases h
  | f + 1, c :: r => by
    have hn := Utf.piece_n c r
    obtain ⟨a1, a2⟩ := cleanN_len f ((c :: r).drop (Utf.piece (c :: r)).2.toNat)
    obtain ⟨b1, b2⟩ := cleanN_len f r
    rw [List.length_drop] at a1 a2
    rw [cleanN]
    split
    · split
      · rw [List.length_append, List.length_take]
        dsimp only
        omega
      · rw [List.length_append]
        dsimp only
        rw [List.length_cons] at *
        split
        · rw [show ([239, 191, 189] : L).length = 3 from rfl]; omega
        · rw [List.length_nil]; omega
    · rw [List.length_append, show ([239, 191, 189] : L).length = 3 from rfl]
      dsimp only
      rw [List.length_cons]
      omega
theorem clean_len (l : L) : (clean l).1.length ≤ 3 * l.length ∧ (clean l).2 ≤ l.length := by
  unfold clean
  split
  · dsimp only; omega
  · exact cleanN_len _ _
theorem loose_len : ∀ (f a : Nat) (l : L), (loose f a l).1.length ≤ 4 * l.length ∧ (loose f a l).2.length ≤ l.length
  | 0, _, _ => by rw [loose]; simp
  | f + 1, a, [] => by
    rw [loose]
    · simp
    · intro h; cases h
  | f + 1, a, c :: r => by
    rw [loose, List.length_cons]
    by_cases hc : c ≠ 38
    · rw [if_pos hc]
      have := loose_len f (a + 1) r
      simp only [List.length_cons]
      omega
    · rw [if_neg hc]
      cases he : Sx.ends r with
      | none =>
        have := loose_len f (a + 1) r
        simp only [List.length_cons]
        omega
      | some n =>
        have hl := Sx.ends_le he
        obtain ⟨h1, h2⟩ := loose_len f (a + n + 2) (r.drop (n + 1))
        rw [List.length_drop] at h1 h2
        have hs : ∀ v : Int, (putL v).length ≤ 4 := fun v => putL_short v
        dsimp only
        split
        · rename_i v _
          have := hs v
          simp only [List.length_append]
          omega
        · split
          · have := hs 65533
            simp only [List.length_append, List.length_cons]
            omega
          · split
            · rename_i v _
              have := hs v
              simp only [List.length_append, List.length_cons]
              omega
            · simp only [List.length_append, List.length_cons, List.length_take]
              omega
theorem mendL_rs (l : List Rsn) (a : Nat) (p : Bs) : (mendL l a p).rs.length = p.rs.length + l.length := by simp [mendL]
theorem mendN_rs (n : Nat) (k : Int) (a : Nat) (p : Bs) : (mendN n k a p).rs.length = p.rs.length + n := by simp [mendN]
theorem mend_rs (k : Int) (a : Nat) (p : Bs) : (mend k a p).rs.length = p.rs.length + 1 := by simp [mend]
theorem pclean_len (s : L) (a : Nat) (p : Bs) : (pclean s a p).1.length ≤ 3 * s.length ∧ (pclean s a p).2.rs.length ≤ p.rs.length + s.length := by
  obtain ⟨h1, h2⟩ := clean_len s
  unfold pclean
  dsimp only
  rw [mendN_rs]
  omega
theorem ploose_len (s : L) (a : Nat) (p : Bs) : (ploose s a p).1.length ≤ 12 * s.length ∧ (ploose s a p).2.rs.length ≤ p.rs.length + 5 * s.length := by
  obtain ⟨h1, h2⟩ := loose_len s.length 0 s
  obtain ⟨h3, h4⟩ := pclean_len (loose s.length 0 s).1 a (mendL (loose s.length 0 s).2 a p)
  rw [mendL_rs] at h4
  unfold ploose
  omega
end Bz
end Go.Proofs.Ytaickkaoglohgaa
