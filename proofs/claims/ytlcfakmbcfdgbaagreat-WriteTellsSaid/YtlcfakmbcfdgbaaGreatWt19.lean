/- NFC, plain: the document's composing is the program's; no program in sight. · NFC, plain: the document's pairs, what is made of what by them; no program in sight. · NFC: the document's table, its doubles. · NFC: a pair in its place (ref10.put). -/
import Derived.Test.YtlcfakmbcfdgbaaGreatWt18
set_option linter.unusedSimpArgs false
set_option linter.unusedVariables false
namespace Go.Proofs.YtlcfakmbcfdgbaaGreat
namespace Nf
/-- What the document's composing has: what is out, the last starter's place. -/
def blockedP (out : List Int) (st c : Int) : Bool := decide (st < 0) || (out.drop (st + 1).toNat).any fun x => decide (cls x = 0) || decide (c ≤ cls x)
def dstep (s : List Int × Int) (r : Int) : List Int × Int :=
  match (if blockedP s.1 s.2 (cls r) = true then none else whole (s.1.getD s.2.toNat 0) r) with
  | some w => (s.1.set s.2.toNat w, s.2)
  | none => (s.1 ++ [r], if cls r = 0 then s.1.length else s.2)
def dcompose (l : List Int) : List Int := (l.foldl dstep ([], -1)).1
structure Like (s : Cs) (d : List Int × Int) : Prop where
  out : s.out = d.1
  st : s.st = d.2
  lo : -1 ≤ s.st
  up : s.st < s.out.length
  le : 0 ≤ s.st → ∀ x ∈ s.out.drop (s.st + 1).toNat, 0 < cls x ∧ cls x ≤ s.hi
  hi : 0 ≤ s.st → s.hi = -1 ∨ ∃ x ∈ s.out.drop (s.st + 1).toNat, cls x = s.hi
theorem Like.blocked {s : Cs} {d : List Int × Int} (h : Like s d) (c : Int) (hc : 0 ≤ c) : blockedP d.1 d.2 c = !decide (0 ≤ s.st ∧ s.hi < c) := by
  unfold blockedP
  rw [← h.out, ← h.st]
  by_cases h0 : 0 ≤ s.st
  · rw [decide_eq_false (by omega), Bool.false_or]
    by_cases hh : s.hi < c
    · rw [decide_eq_true ⟨h0, hh⟩, Bool.not_true, List.any_eq_false]
      intro x hx
      have := h.le h0 x hx
      simp
      omega
    · rw [decide_eq_false (fun e => hh e.2), Bool.not_false, List.any_eq_true]
      rcases h.hi h0 with e | ⟨x, hx, e⟩
      · omega
      · exact ⟨x, hx, by simp; omega⟩
  · rw [decide_eq_true (by omega), Bool.true_or, decide_eq_false (fun e => h0 e.1)]
    rfl
theorem Like.step {s : Cs} {d : List Int × Int} (h : Like s d) (r : Int) : Like (cstep s r) (dstep d r) := by
  have hb := h.blocked (cls r) (cls_le r).1
  have hlo := h.lo
  have hup := h.up
  unfold cstep dstep
  rw [hb]
  have e : (if (!decide (0 ≤ s.st ∧ s.hi < cls r)) = true then none else whole (d.1.getD d.2.toNat 0) r) = (if 0 ≤ s.st ∧ s.hi < cls r then whole (s.out.getD s.st.toNat 0) r else none) := by
    rw [← h.out, ← h.st]
    by_cases hc : 0 ≤ s.st ∧ s.hi < cls r
    · rw [decide_eq_true hc, if_pos hc]; simp
    · rw [decide_eq_false hc, if_neg hc]; simp
  rw [e]
  cases hw : (if 0 ≤ s.st ∧ s.hi < cls r then whole (s.out.getD s.st.toNat 0) r else none) with
  | some w =>
    dsimp only
    have hc : 0 ≤ s.st := by
      by_cases hc : 0 ≤ s.st ∧ s.hi < cls r
      · exact hc.1
      · rw [if_neg hc] at hw; cases hw
    have ed : (s.out.set s.st.toNat w).drop (s.st + 1).toNat = s.out.drop (s.st + 1).toNat := List.drop_set_of_lt (by omega)
    exact ⟨by rw [h.out, h.st], h.st, hlo, by rw [List.length_set]; exact hup, fun h0 x hx => h.le h0 x (ed ▸ hx), fun h0 => by
      rcases h.hi h0 with e | ⟨x, hx, e⟩
      · exact .inl e
      · exact .inr ⟨x, by dsimp only; rw [ed]; exact hx, e⟩⟩
  | none =>
    dsimp only
    by_cases hr : cls r = 0
    · rw [if_pos hr, if_pos hr]
      have ed : (s.out ++ [r]).drop (((s.out.length : Nat) : Int) + 1).toNat = [] := List.drop_eq_nil_of_le (by rw [List.length_append, List.length_singleton]; omega)
      exact ⟨by rw [h.out], by rw [h.out], by show (-1 : Int) ≤ ((s.out.length : Nat) : Int); omega, by show ((s.out.length : Nat) : Int) < _; rw [List.length_append, List.length_singleton]; omega, fun _ x hx => (by dsimp only at hx; rw [ed] at hx; cases hx), fun _ => .inl rfl⟩
    · rw [if_neg hr, if_neg hr]
      have hc0 := (cls_le r).1
      have ed : 0 ≤ s.st → (s.out ++ [r]).drop (s.st + 1).toNat = s.out.drop (s.st + 1).toNat ++ [r] := fun h0 => List.drop_append_of_le_length (by omega)
      refine ⟨by rw [h.out], h.st, hlo, by dsimp only; rw [List.length_append]; omega, fun h0 x hx => ?_, fun h0 => ?_⟩
      · dsimp only at h0 hx ⊢
        rw [ed h0] at hx
        rcases List.mem_append.1 hx with hx | hx
        · have := h.le h0 x hx; omega
        · rw [List.mem_singleton.1 hx]; omega
      · dsimp only at h0 ⊢
        rw [ed h0]
        refine .inr ?_
        by_cases hm : s.hi ≤ cls r
        · exact ⟨r, by simp, by omega⟩
        · rcases h.hi h0 with e | ⟨x, hx, e⟩
          · omega
          · exact ⟨x, by simp [hx], by omega⟩
theorem like_fold : ∀ (l : List Int) (s : Cs) (d : List Int × Int), Like s d → Like (l.foldl cstep s) (l.foldl dstep d)
  | [], _, _, h => h
  | r :: l, s, d, h => like_fold l _ _ (h.step r)
theorem dcompose_is (l : List Int) : dcompose l = compose l :=
  (like_fold l ⟨[], -1, -1⟩ ([], -1) ⟨rfl, rfl, by decide, by decide, fun h => absurd h (by decide), fun h => absurd h (by decide)⟩).out.symm
end Nf
end Go.Proofs.YtlcfakmbcfdgbaaGreat
namespace Go.Proofs.YtlcfakmbcfdgbaaGreat
namespace Nf
/-- A pair: the whole, its first, its second. -/
structure Pr where
  w : Int
  f : Int
  s : Int
/-- A row of the document's table: a mark, letters and wholes by turns. -/
def tableD : List (Int × List Int) :=
  [(0x300, [65, 0xC0, 69, 0xC8, 73, 0xCC, 79, 0xD2, 85, 0xD9, 97, 0xE0, 101, 0xE8, 105, 0xEC, 111, 0xF2, 117, 0xF9]),
   (0x301, [65, 0xC1, 69, 0xC9, 73, 0xCD, 79, 0xD3, 85, 0xDA, 89, 0xDD, 97, 0xE1, 101, 0xE9, 105, 0xED, 111, 0xF3, 117, 0xFA, 121, 0xFD, 0xEA, 0x1EBF, 0xFC, 0x1D8]),
   (0x302, [65, 0xC2, 69, 0xCA, 73, 0xCE, 79, 0xD4, 85, 0xDB, 97, 0xE2, 101, 0xEA, 105, 0xEE, 111, 0xF4, 117, 0xFB, 0x1EB9, 0x1EC7]),
   (0x303, [65, 0xC3, 78, 0xD1, 79, 0xD5, 97, 0xE3, 110, 0xF1, 111, 0xF5]),
   (0x304, [0xFC, 0x1D6]),
   (0x306, [0x418, 0x419, 0x438, 0x439]),
   (0x308, [65, 0xC4, 69, 0xCB, 73, 0xCF, 79, 0xD6, 85, 0xDC, 97, 0xE4, 101, 0xEB, 105, 0xEF, 111, 0xF6, 117, 0xFC, 121, 0xFF, 0x415, 0x401, 0x435, 0x451]),
   (0x30A, [65, 0xC5, 97, 0xE5]),
   (0x30C, [67, 0x10C, 83, 0x160, 90, 0x17D, 99, 0x10D, 115, 0x161, 122, 0x17E]),
   (0x323, [101, 0x1EB9]),
   (0x327, [67, 0xC7, 99, 0xE7])]
def pairsOf (m : Int) : List Int → List Pr
  | a :: w :: l => ⟨w, a, m⟩ :: pairsOf m l
  | _ => []
/-- A pair in its place, wholes rising. -/
def dput (l : List Pr) (p : Pr) : List Pr := l.takeWhile (fun x => decide (x.w < p.w)) ++ p :: l.dropWhile (fun x => decide (x.w < p.w))
def doublesD : List Pr := [⟨0x340, 0x300, 0⟩, ⟨0x341, 0x301, 0⟩, ⟨0x2126, 0x3A9, 0⟩, ⟨0x212A, 75, 0⟩, ⟨0x212B, 0xC5, 0⟩]
def pairsD : List Pr := (tableD.flatMap fun x => pairsOf x.1 x.2).foldl dput [] ++ doublesD
/-- The document's look-up of a whole. -/
def lookPr (r : Int) : List Pr → Option (Int × Int)
  | [] => none
  | x :: l => if x.w = r then some (x.f, x.s) else lookPr r l
def lookPw (a b : Int) : List Pr → Option Int
  | [] => none
  | x :: l => if x.f = a ∧ x.s = b ∧ b ≠ 0 then some x.w else lookPw a b l
def dmade (r : Int) : Option (Int × Int) :=
  if hangul r then
    if 0 < (r - 0xAC00) % 28 then some (r - (r - 0xAC00) % 28, 0x11A7 + (r - 0xAC00) % 28)
    else some (0x1100 + (r - 0xAC00) / 28 / 21, 0x1161 + (r - 0xAC00) / 28 % 21)
  else lookPr r pairsD
def dwhole (a b : Int) : Option Int :=
  if (0x1100 ≤ a ∧ a < 0x1100 + 19) ∧ (0x1161 ≤ b ∧ b < 0x1161 + 21) then some (0xAC00 + ((a - 0x1100) * 21 + b - 0x1161) * 28)
  else if hangul a = true ∧ (a - 0xAC00) % 28 = 0 ∧ (0x11A8 ≤ b ∧ b < 0x11A8 + 27) then some (a + b - 0x11A7)
  else lookPw a b pairsD
theorem lookPr_mem {r : Int} {p : Int × Int} : ∀ {l : List Pr}, lookPr r l = some p → (⟨r, p.1, p.2⟩ : Pr) ∈ l
  | x :: l, h => by
    unfold lookPr at h
    split at h
    · rename_i hx
      cases h
      rw [← hx]
      exact List.mem_cons_self ..
    · exact List.mem_cons_of_mem _ (lookPr_mem h)
theorem lookPr_none {r : Int} : ∀ {l : List Pr}, lookPr r l = none → ∀ x ∈ l, x.w ≠ r
  | y :: l, h, x, hx => by
    unfold lookPr at h
    split at h
    · cases h
    · rename_i hy
      rcases List.mem_cons.1 hx with rfl | hx
      · exact hy
      · exact lookPr_none h x hx
theorem lookPw_mem {a b v : Int} : ∀ {l : List Pr}, lookPw a b l = some v → (⟨v, a, b⟩ : Pr) ∈ l ∧ b ≠ 0
  | x :: l, h => by
    unfold lookPw at h
    split at h
    · rename_i hx
      cases h
      rw [← hx.1, ← hx.2.1]
      exact ⟨List.mem_cons_self .., by rw [hx.2.1]; exact hx.2.2⟩
    · exact ⟨List.mem_cons_of_mem _ (lookPw_mem h).1, (lookPw_mem h).2⟩
theorem lookPw_none {a b : Int} : ∀ {l : List Pr}, lookPw a b l = none → ∀ x ∈ l, ¬ (x.f = a ∧ x.s = b ∧ b ≠ 0)
  | y :: l, h, x, hx => by
    unfold lookPw at h
    split at h
    · cases h
    · rename_i hy
      rcases List.mem_cons.1 hx with rfl | hx
      · exact hy
      · exact lookPw_none h x hx
theorem lookW_mem {p : Int × Int} {v : Int} : ∀ {l : List ((Int × Int) × Int)}, lookW p l = some v → (p, v) ∈ l
  | x :: l, h => by
    unfold lookW at h
    split at h
    · rename_i hx
      cases h
      rw [← hx]
      exact List.mem_cons_self ..
    · exact List.mem_cons_of_mem _ (lookW_mem h)
def tmade (r : Int) : Option (Int × Int) := match lookM r table with
  | some p => some p
  | none => (lookD r doubles).map fun a => (a, 0)
theorem pairs_made : ∀ x ∈ pairsD, tmade x.w = some (x.f, x.s) := by decide +kernel
theorem table_pairs : ∀ x ∈ table, ∃ y ∈ pairsD, y.w = x.2 := by decide +kernel
theorem doubles_pairs : ∀ x ∈ doubles, ∃ y ∈ pairsD, y.w = x.1 := by decide +kernel
theorem pairs_whole : ∀ x ∈ pairsD, x.s ≠ 0 → lookW (x.f, x.s) table = some x.w := by decide +kernel
theorem table_whole : ∀ x ∈ table, x.1.2 ≠ 0 ∧ ∃ y ∈ pairsD, y.f = x.1.1 ∧ y.s = x.1.2 := by decide +kernel
theorem dmade_is (r : Int) : dmade r = made r := by
  unfold dmade made
  split
  · rfl
  · show lookPr r pairsD = tmade r
    cases h : lookPr r pairsD with
    | some p => exact (pairs_made _ (lookPr_mem h)).symm
    | none =>
      have hn := lookPr_none h
      unfold tmade
      cases h2 : lookM r table with
      | some p =>
        obtain ⟨y, hy, e⟩ := table_pairs _ (lookM_mem h2)
        exact absurd e (hn y hy)
      | none =>
        cases h3 : lookD r doubles with
        | some a =>
          obtain ⟨y, hy, e⟩ := doubles_pairs _ (lookD_mem h3)
          exact absurd e (hn y hy)
        | none => rfl
theorem dwhole_is (a b : Int) : dwhole a b = whole a b := by
  unfold dwhole whole
  split
  · rfl
  · split
    · rfl
    · cases h : lookPw a b pairsD with
      | some v =>
        obtain ⟨h1, h2⟩ := lookPw_mem h
        exact (pairs_whole _ h1 h2).symm
      | none =>
        have hn := lookPw_none h
        cases h2 : lookW (a, b) table with
        | some v =>
          obtain ⟨h3, y, hy, e1, e2⟩ := table_whole _ (lookW_mem h2)
          exact absurd ⟨e1, e2, h3⟩ (hn y hy)
        | none => rfl
end Nf
end Go.Proofs.YtlcfakmbcfdgbaaGreat
namespace Go.Proofs.YtlcfakmbcfdgbaaGreat
open Go.RowKit Go.WideShapes

theorem refDoubles_any (w : World) : Calls Tryz.prog 138 #[] w fun e w' => e = .returned (.slice (some ⟨w.heap.size, 0, none⟩) 10 10) ∧ w' = w.alloc (.cells #[.int .i64 832, .int .i64 768, .int .i64 833, .int .i64 769, .int .i64 8486, .int .i64 937, .int .i64 8490, .int .i64 75, .int .i64 8491, .int .i64 197] 3) := by
  go_enter Tryz.func138, Tryz.ntmps138
  go_wp2
  go_ret
  exact ⟨rfl, rfl⟩
/-- Blocks laid one behind the other. -/
def laid (w : World) : List Obj → World
  | [] => w
  | o :: l => laid (w.alloc o) l
def rowObj (x : Int × List Int) : Obj := .cells (intVs x.2).toArray 3
/-- The table's rows, the first one's letters in block Z. -/
def rowVs : Nat → List (Int × List Int) → List Value
  | _, [] => []
  | Z, x :: l => .int .i64 x.1 :: .slice (some ⟨Z, 0, none⟩) x.2.length x.2.length :: rowVs (Z + 1) l
set_option maxHeartbeats 8000000 in
set_option maxRecDepth 100000 in
theorem refTable_any (w : World) : Calls Tryz.prog 136 #[] w fun e w' => e = .returned (.slice (some ⟨w.heap.size + 11, 0, none⟩) 11 11) ∧ w' = (laid w (Nf.tableD.map rowObj)).alloc (.cells (rowVs w.heap.size Nf.tableD).toArray 157) := by
  go_enter Tryz.func136, Tryz.ntmps136
  go_wp2
  go_ret
  exact ⟨rfl, rfl⟩
end Go.Proofs.YtlcfakmbcfdgbaaGreat
namespace Go.Proofs.YtlcfakmbcfdgbaaGreat
open Go.RowKit Go.WideShapes

def prCells (p : Nf.Pr) : Array Value := #[.int .i64 p.w, .int .i64 p.f, .int .i64 p.s]
def prVs (l : List Nf.Pr) : List Value := l.flatMap fun p => (prCells p).toList
theorem prVs_app (a b : List Nf.Pr) : prVs (a ++ b) = prVs a ++ prVs b := by unfold prVs; rw [List.flatMap_append]
theorem prVs_at : ∀ (l : List Nf.Pr) (k : Nat) (p : Nf.Pr), l[k]? = some p → (prVs l)[k * 3]? = some (.int .i64 p.w) ∧ (prVs l)[k * 3 + 1]? = some (.int .i64 p.f) ∧ (prVs l)[k * 3 + 2]? = some (.int .i64 p.s)
  | [], k, p, h => by simp at h
  | x :: l, 0, p, h => by
    cases h
    exact ⟨rfl, rfl, rfl⟩
  | x :: l, k + 1, p, h => by
    have e : prVs (x :: l) = .int .i64 x.w :: .int .i64 x.f :: .int .i64 x.s :: prVs l := rfl
    have := prVs_at l k p (by simpa using h)
    rw [e, show (k + 1) * 3 = k * 3 + 3 by omega]
    exact this
/-- append of nothing that is nil. -/
theorem run_append_none {P : Program} (w : World) (t ty e : TypeId) (i : TypeInfo) (ht : P.underlying t = some (.slice e)) (hi : P.info? e = some i) (base : Option Addr) (n cap c : Nat) (hle : n ≤ cap) :
    (Builtin.append_ #[t, t] ty #[.slice base n cap, .slice none 0 c]).run P w = .ok (.slice base n cap) w := by
  cases base <;> simp [Builtin.append_, run_underlying ht, sizeOf, typeInfo, hi, Builtin.lenOf, Builtin.firstCells, loadCells, loadCellsFrom, hle, storeCells]
/-- append of a slice that reads as a list, elements of any number of cells. -/
theorem wpList_append_row {P : Program} (W : World) {e : TypeId} {ops : Array Oper} {rest : List Oper} {o : Oper} {a : Act} {Q : Exit → Act → World → Prop} (hgd : o.guard = none) (s x : Operand) (t : TypeId)
    (ho : o.op = .call { callee := .builtin .append, args := #[s, x], argTypes := #[t, t] })
    (base : Nat) (z : Value) (size bytes : Nat) (ht : P.underlying t = some (.slice e)) (hinfo : (P.info? e).map (fun i => (i.zero, i.size, i.bytes)) = some (some z, size, bytes))
    (hzs : z.cells.size = size) (hsz : 0 < size) (v : Value) (n : Nat) (xs : List Value) (hs : a.eval s = v) (hown : W.ownsRow base e size v n xs)
    (B : Nat) (A : Option Addr) (m c : Nat) (cs : List Value) (hr : Reads W B size A m cs) (h1 : ∀ u ∈ cs, u.oneCell' = true) (hx : a.eval x = .slice A m c)
    (h63 : n + m ≤ maxLen) (hbytes : (n + m) * bytes ≤ 140737488355328) (hbase : base ≤ W.heap.size)
    (h : ∀ A' c' w', w'.ownsRow base e size (.slice A' (n + m) c') (n + m) (xs ++ cs) → W.grownBy w' v.ownBlock → wpList P ops Q rest (a.put o.dst (.slice A' (n + m) c')) w') : wpList P ops Q (o :: rest) a W := by
  obtain ⟨i, hi, hz, hsize, hby⟩ := info_parts hinfo
  cases A with
  | none =>
    have hm : m = 0 := by
      rcases Nat.eq_zero_or_pos m with h0 | h0
      · exact h0
      · obtain ⟨b, off, e, _⟩ := hr.2 h0
        cases e
    subst hm
    have hcs : cs = [] := List.eq_nil_of_length_eq_zero (by rw [hr.1]; omega)
    subst hcs
    obtain ⟨Av, cv, rfl, hle⟩ : ∃ Av cv, v = .slice Av n cv ∧ n ≤ cv := by
      rcases hown.2 with ⟨rfl, rfl⟩ | ⟨g, cap, cur, rfl, _, _, hnc, _⟩
      · exact ⟨none, 0, rfl, Nat.le_refl _⟩
      · exact ⟨_, _, rfl, hnc⟩
    refine wpList_plain hgd fun K hK => ?_
    unfold Oper.wp execOp
    simp only [ho, resolve, invoke, builtin, Sem.run_bind, Sem.run_pure, Result.andThen_ok, List.map_toArray, List.map_cons, List.map_nil, hs, hx, run_append_none W t o.type e i ht hi Av n cv c hle]
    exact hK _ _ (h Av cv W (by rw [List.append_nil]; exact hown) ⟨rfl, rfl, rfl, Nat.le_refl _, fun _ _ _ => rfl⟩)
  | some ad =>
    refine wpList_append_own W hgd s x t ho base e i z size bytes ht hi hz hsize hby hzs hsz v n xs hs hown ad m c cs hx hr.1 ?_ h1 h63 hbytes hbase ?_
    · intro j u hu
      have hj : j < cs.length := (List.getElem?_eq_some_iff.1 hu).1
      have hm : 0 < m := by
        rcases Nat.eq_zero_or_pos m with h0 | h0
        · subst h0
          rw [hr.1] at hj
          omega
        · exact h0
      obtain ⟨b, off, e, _, hc⟩ := hr.2 hm
      cases e
      have := hc j u hu
      unfold Addr.add
      split
      · subst_vars; exact this
      · exact this
    · intro v' w' hown' hgrow _
      rcases hown'.2 with ⟨rfl, h0⟩ | ⟨g, cap, cur, rfl, _⟩
      · have := h none 0 w'
        rw [h0] at this hown'
        exact this hown' hgrow
      · exact h _ _ w' hown' hgrow
theorem prVs_one (l : List Nf.Pr) : ∀ u ∈ prVs l, u.oneCell' = true := by
  intro u hu
  obtain ⟨p, _, hp⟩ := List.mem_flatMap.1 hu
  simp only [prCells, List.mem_cons, List.not_mem_nil, or_false] at hp
  rcases hp with rfl | rfl | rfl <;> rfl
/-- A slice's rest. -/
theorem reads_drop {w : World} {B size n k : Nat} {A : Option Addr} {xs : List Value} (h : Reads w B size A n xs) (hk : k < n) : ∃ b off, A = some ⟨b, off, none⟩ ∧ Reads w B size (some ⟨b, off + k * size, none⟩) (n - k) (xs.drop (k * size)) := by
  obtain ⟨b, off, e, hb, hc⟩ := h.2 (by omega)
  refine ⟨b, off, e, by rw [List.length_drop, h.1, Nat.sub_mul], fun _ => ⟨b, _, rfl, hb, fun j u hu => ?_⟩⟩
  rw [List.getElem?_drop] at hu
  rw [Nat.add_assoc]
  exact hc _ _ hu
theorem reads_drop_at {w : World} {B size n k b off : Nat} {xs : List Value} (h : Reads w B size (some ⟨b, off, none⟩) n xs) (hk : k < n) : Reads w B size (some ⟨b, off + k * size, none⟩) (n - k) (xs.drop (k * size)) := by
  obtain ⟨b', off', e, h⟩ := reads_drop h hk
  cases e
  exact h
theorem prVs_drop (l : List Nf.Pr) : ∀ k, (prVs l).drop (k * 3) = prVs (l.drop k) := by
  induction l with
  | nil => intro k; simp [prVs]
  | cons x l ih =>
    intro k
    cases k with
    | zero => simp
    | succ k =>
      rw [List.drop_succ_cons, ← ih, show (k + 1) * 3 = k * 3 + 1 + 1 + 1 by omega]
      rfl
namespace Nf
theorem dput_at {l : List Pr} {p : Pr} {k : Nat} (h1 : ∀ x ∈ l.take k, x.w < p.w) (h2 : ∀ x, l[k]? = some x → ¬ x.w < p.w) : dput l p = l.take k ++ p :: l.drop k := by
  unfold dput
  induction l generalizing k with
  | nil => simp
  | cons x l ih =>
    cases k with
    | zero =>
      have : decide (x.w < p.w) = false := decide_eq_false (h2 x rfl)
      simp [List.takeWhile_cons, List.dropWhile_cons, this]
    | succ k =>
      have hx : decide (x.w < p.w) = true := decide_eq_true (h1 x (by simp))
      have := ih (k := k) (fun y hy => h1 y (by rw [List.take_succ_cons]; exact List.mem_cons_of_mem _ hy)) (fun y hy => h2 y (by simpa using hy))
      simp only [List.takeWhile_cons, List.dropWhile_cons, hx, if_true, List.take_succ_cons, List.drop_succ_cons, List.cons_append]
      rw [this]
theorem dput_len (l : List Pr) (p : Pr) : (dput l p).length = l.length + 1 := by
  unfold dput
  rw [List.length_append, List.length_cons, ← Nat.add_assoc, ← List.length_append, List.takeWhile_append_dropWhile]
end Nf
theorem info_pr : (Tryz.prog.info? 144).map (fun i => (i.zero, i.size, i.bytes)) = some (some (.agg #[.int .i64 0, .int .i64 0, .int .i64 0]), 3, 24) := by kernel_rfl
set_option maxHeartbeats 8000000 in
set_option maxRecDepth 100000 in
theorem refPrPut_any (l : List Nf.Pr) (p : Nf.Pr) (A : Option Addr) (c B : Nat) (w : World) (hR : Reads w B 3 A l.length (prVs l)) (hB : B ≤ w.heap.size) (hl : l.length ≤ 1000) (hlc : l.length ≤ c) :
    Calls Tryz.prog 137 #[.slice A l.length c, .agg (prCells p)] w fun e w' => (∃ A' c', e = .returned (.slice A' (Nf.dput l p).length c') ∧ w'.ownsRow w.heap.size 144 3 (.slice A' (Nf.dput l p).length c') (Nf.dput l p).length (prVs (Nf.dput l p))) ∧ Below w.heap.size w w' := by
  obtain ⟨N, hN⟩ : ∃ N, l.length = N := ⟨_, rfl⟩
  have HN := hide hN
  have HR := hide hR
  have hdl := Nf.dput_len l p
  rw [hN] at hl hlc hdl ⊢
  have HO := hide (below_alloc w (.cells (prCells p) 144))
  have HT := hide (Blk.new w 144 (prCells p))
  clear hN hR
  obtain ⟨pw, pf, ps⟩ := p
  unfold prCells at HO HT ⊢
  dsimp only at HO HT ⊢
  have t0 := HT.out.cell 0
  have t1 := HT.out.cell 1
  have t2 := HT.out.cell 2
  go_enter Tryz.func137, Tryz.ntmps137
  go_wp2
  clear t0 t1 t2
  go_loopg [5, 6] N (fun gk v5 v6 wr => ∃ (k : Nat) (A2 : Option Addr) (c2 : Nat), gk = N - k ∧ k ≤ N ∧ v6 = .int .i64 (k : Int) ∧ v5 = .slice A2 k c2 ∧ wr.ownsRow (w.heap.size + 1) 144 3 (.slice A2 k c2) k (prVs (l.take k)) ∧ (∀ x ∈ l.take k, x.w < pw) ∧ Blk wr w.heap.size 144 #[.int .i64 pw, .int .i64 pf, .int .i64 ps] ∧ Below w.heap.size w wr ∧ w.heap.size + 1 ≤ wr.heap.size)
  case atStart => exact ⟨0, none, 0, rfl, by omega, rfl, rfl, World.ownsRow_nil _ _ _ _, by simp, HT.out, HO.out, by simp⟩
  case round =>
    obtain ⟨k, A2, c2, hgk, hk, rfl, rfl, ho, hlow, hbk, hb, hbs⟩ := hrel
    have Hg := hide hgk
    have HOw := hide ho
    have HLow := hide hlow
    have HBk := hide hbk
    have HB := hide hb
    have t0 := hbk.cell 0
    have t1 := hbk.cell 1
    have t2 := hbk.cell 2
    clear hgk ho hlow hbk hb
    by_cases hlt : k < N
    · obtain ⟨x, hx⟩ : ∃ x, l[k]? = some x := ⟨_, List.getElem?_eq_getElem (by rw [HN.out]; exact hlt)⟩
      obtain ⟨p0, p1, p2⟩ := prVs_at l k x hx
      obtain ⟨gb, off, rfl, hgb, hcell⟩ := HR.out.2 (by rw [HN.out]; omega)
      have y0 : wr.cell? ⟨gb, off + k * 3, none⟩ = some (.int .i64 x.w) := (HB.out.cell (by show gb < _; omega)).trans (hcell _ _ p0)
      have y1 : wr.cell? ⟨gb, off + k * 3 + 1, none⟩ = some (.int .i64 x.f) := (HB.out.cell (by show gb < _; omega)).trans (hcell _ _ p1)
      have y2 : wr.cell? ⟨gb, off + k * 3 + 2, none⟩ = some (.int .i64 x.s) := (HB.out.cell (by show gb < _; omega)).trans (hcell _ _ p2)
      have HX := hide hx
      have hkk : (0 : Int) ≤ k ∧ (k : Int) < N := by omega
      have HXt := hide (show l.take (k + 1) = l.take k ++ [x] by rw [List.take_add_one, hx]; rfl)
      clear hx p0 p1 p2 hcell
      by_cases hxw : x.w < pw
      · have hd1 : decide (x.w < pw) = true := decide_eq_true hxw
        go_wp2_with fail
        go_quiet (fail)
        clear t0 t1 t2
        have HOd := hide (show (wr.drewN nq).ownsRow (w.heap.size + 1) 144 3 (.slice A2 k c2) k (prVs (l.take k)) from HOw.out)
        have HBd := hide (show Below w.heap.size w (wr.drewN nq) from ⟨HB.out.os, HB.out.tape, HB.out.output, HB.out.size, HB.out.block⟩)
        have HBk2 := hide (HBk.out.drewN nq)
        have hbs2 : w.heap.size + 1 ≤ (wr.drewN nq).heap.size := hbs
        have z0 : (wr.drewN nq).cell? ⟨gb, off + k * 3, none⟩ = some (.int .i64 x.w) := y0
        have z1 : (wr.drewN nq).cell? ⟨gb, off + k * 3 + 1, none⟩ = some (.int .i64 x.f) := y1
        have z2 : (wr.drewN nq).cell? ⟨gb, off + k * 3 + 2, none⟩ = some (.int .i64 x.s) := y2
        clear y0 y1 y2
        generalize wr.drewN nq = W at HOd HBd HBk2 hbs2 z0 z1 z2 ⊢
        go_wp2_with (at_builtin; go_loud (refine wpList_append_elem W rfl (.tmp 21) (.tmp 26) 141 rfl (w.heap.size + 1) (.agg #[.int .i64 0, .int .i64 0, .int .i64 0]) 3 24 Tryz.underlying141 info_pr rfl (by omega) (.slice A2 k c2) k (prVs (l.take k)) rfl HOd.out (cs := [.int .i64 x.w, .int .i64 x.f, .int .i64 x.s]) rfl (by intro u hu; simp at hu; rcases hu with rfl | rfl | rfl <;> rfl) rfl (by unfold maxLen; omega) (by omega) hbs2 ?_); intro g' cap' w1 hown1 hgrow1 hat1 hlt1 hb1; have HO1 := hide hown1; have HG1 := hide (hgrow1); clear hown1 hgrow1 hat1 hlt1 hb1)
        clear z0 z1 z2
        go_roundg (N - (k + 1))
        case measure => have := Hg.out; omega
        case rel =>
          have hnb : (Value.slice A2 k c2).ownBlock ≠ some w.heap.size := fun e => by have := (own_isT HOd.out _ e).1; omega
          refine ⟨k + 1, some ⟨g', 0, none⟩, cap', rfl, by omega, by first | rfl | go_num, rfl, ?_, ?_, HBk2.out.grown HG1.out (fun e => hnb e.symm), HBd.out.grown HG1.out HBd.out.size (fun j e => by have := (own_isT HOd.out j e).1; omega), Nat.le_trans hbs2 HG1.out.size⟩
          · rw [HXt.out, prVs_app]; exact HO1.out
          · rw [HXt.out]
            intro y hy
            rcases List.mem_append.1 hy with hy | hy
            · exact HLow.out y hy
            · rw [List.mem_singleton] at hy; subst hy; exact hxw
      · have hd1 : decide (x.w < pw) = false := decide_eq_false hxw
        have HDp := hide (Nf.dput_at (p := ⟨pw, pf, ps⟩) HLow.out (fun y hy => by rw [HX.out] at hy; cases hy; exact hxw))
        go_wp2_with fail
        go_quiet (fail)
        clear t0 t1 t2
        have HOd := hide (show (wr.drewN nq).ownsRow (w.heap.size + 1) 144 3 (.slice A2 k c2) k (prVs (l.take k)) from HOw.out)
        have HBd := hide (show Below w.heap.size w (wr.drewN nq) from ⟨HB.out.os, HB.out.tape, HB.out.output, HB.out.size, HB.out.block⟩)
        have HBk2 := hide (HBk.out.drewN nq)
        have hbs2 : w.heap.size + 1 ≤ (wr.drewN nq).heap.size := hbs
        clear y0 y1 y2
        generalize wr.drewN nq = W at HOd HBd HBk2 hbs2 ⊢
        have t0 := HBk2.out.cell 0
        have t1 := HBk2.out.cell 1
        have t2 := HBk2.out.cell 2
        go_wp2_with first
          | (at_builtin; go_loud (refine wpList_append_elem W rfl (.tmp 30) (.tmp 32) 141 rfl (w.heap.size + 1) (.agg #[.int .i64 0, .int .i64 0, .int .i64 0]) 3 24 Tryz.underlying141 info_pr rfl (by omega) (.slice A2 k c2) k (prVs (l.take k)) rfl HOd.out (cs := [.int .i64 pw, .int .i64 pf, .int .i64 ps]) rfl (by intro u hu; simp at hu; rcases hu with rfl | rfl | rfl <;> rfl) rfl (by unfold maxLen; omega) (by omega) hbs2 ?_); intro g' cap' w1 hown1 hgrow1 hat1 hlt1 hb1; have HO1 := hide hown1; have HB1 := hide (HBd.out.grown hgrow1 HBd.out.size (fun j e => by have := (own_isT HOd.out j e).1; omega)); have hbs3 := Nat.le_trans hbs2 hgrow1.size; have HR1 := hide (show Reads w1 B 3 (some ⟨gb, off + k * 3, none⟩) (N - k) (prVs (l.drop k)) from by have := reads_drop_at (HR.out.below (HB1.out.mono hB)) (show k < l.length by rw [HN.out]; omega); rw [HN.out, prVs_drop] at this; exact this); clear hown1 hgrow1 hat1 hlt1 hb1 t0 t1 t2)
          | (at_builtin; go_loud (refine wpList_append_row w1 rfl (.tmp 34) (.tmp 37) 141 rfl (w.heap.size + 1) (.agg #[.int .i64 0, .int .i64 0, .int .i64 0]) 3 24 Tryz.underlying141 info_pr rfl (by omega) (.slice (some ⟨g', 0, none⟩) (k + 1) cap') (k + 1) _ rfl HO1.out B _ (N - k) (c - k) _ HR1.out (prVs_one _) rfl (by unfold maxLen; omega) (by omega) hbs3 ?_); intro A3 c3 w2 ho2 hg2; have HO2 := hide ho2; have HB2 := hide (HB1.out.grown hg2 HB1.out.size (fun j e => by have := (own_isT HO1.out j e).1; omega)); clear ho2 hg2)
        go_ret
        have hnn : k + 1 + (N - k) = N + 1 := by omega
        rw [hnn]
        refine ⟨⟨A3, c3, by rw [hdl]; rfl, ?_⟩, HB2.out⟩
        rw [hdl]
        have := HO2.out.mono (Nat.le_succ w.heap.size)
        rw [hnn] at this
        rw [HDp.out, prVs_app, show prVs ((⟨pw, pf, ps⟩ : Nf.Pr) :: l.drop k) = [.int .i64 pw, .int .i64 pf, .int .i64 ps] ++ prVs (l.drop k) from rfl, ← List.append_assoc]
        exact this
    · have hkN : ¬ (k : Int) < (N : Int) := by omega
      have hd0 : decide ((k : Int) < (N : Int)) = false := decide_eq_false hkN
      cases A with
      | none =>
        have HDp := hide (Nf.dput_at (p := ⟨pw, pf, ps⟩) HLow.out (fun y hy => by rw [List.getElem?_eq_none (by rw [HN.out]; omega)] at hy; cases hy))
        go_wp2_with fail
        go_quiet (fail)
        clear t0 t1 t2
        have HOd := hide (show (wr.drewN nq).ownsRow (w.heap.size + 1) 144 3 (.slice A2 k c2) k (prVs (l.take k)) from HOw.out)
        have HBd := hide (show Below w.heap.size w (wr.drewN nq) from ⟨HB.out.os, HB.out.tape, HB.out.output, HB.out.size, HB.out.block⟩)
        have HBk2 := hide (HBk.out.drewN nq)
        have hbs2 : w.heap.size + 1 ≤ (wr.drewN nq).heap.size := hbs
        generalize wr.drewN nq = W at HOd HBd HBk2 hbs2 ⊢
        have t0 := HBk2.out.cell 0
        have t1 := HBk2.out.cell 1
        have t2 := HBk2.out.cell 2
        go_wp2_with first
          | (at_builtin; go_loud (refine wpList_append_elem W rfl (.tmp 30) (.tmp 32) 141 rfl (w.heap.size + 1) (.agg #[.int .i64 0, .int .i64 0, .int .i64 0]) 3 24 Tryz.underlying141 info_pr rfl (by omega) (.slice A2 k c2) k (prVs (l.take k)) rfl HOd.out (cs := [.int .i64 pw, .int .i64 pf, .int .i64 ps]) rfl (by intro u hu; simp at hu; rcases hu with rfl | rfl | rfl <;> rfl) rfl (by unfold maxLen; omega) (by omega) hbs2 ?_); intro g' cap' w1 hown1 hgrow1 hat1 hlt1 hb1; have HO1 := hide hown1; have HB1 := hide (HBd.out.grown hgrow1 HBd.out.size (fun j e => by have := (own_isT HOd.out j e).1; omega)); have hbs3 := Nat.le_trans hbs2 hgrow1.size; have HR1 := hide (show ∀ A' : Option Addr, Reads w1 B 3 A' (N - k) (prVs (l.drop k)) from fun A' => by rw [List.drop_of_length_le (by rw [HN.out]; omega), show N - k = 0 by omega]; exact Reads.none_); clear hown1 hgrow1 hat1 hlt1 hb1 t0 t1 t2)
          | (at_builtin; go_loud (refine wpList_append_row w1 rfl (.tmp 34) (.tmp 37) 141 rfl (w.heap.size + 1) (.agg #[.int .i64 0, .int .i64 0, .int .i64 0]) 3 24 Tryz.underlying141 info_pr rfl (by omega) (.slice (some ⟨g', 0, none⟩) (k + 1) cap') (k + 1) _ rfl HO1.out B _ (N - k) (c - k) _ (HR1.out _) (prVs_one _) rfl (by unfold maxLen; omega) (by omega) hbs3 ?_); intro A3 c3 w2 ho2 hg2; have HO2 := hide ho2; have HB2 := hide (HB1.out.grown hg2 HB1.out.size (fun j e => by have := (own_isT HO1.out j e).1; omega)); clear ho2 hg2)
        go_ret
        have hnn : k + 1 + (N - k) = N + 1 := by omega
        rw [hnn]
        refine ⟨⟨A3, c3, by rw [hdl]; rfl, ?_⟩, HB2.out⟩
        rw [hdl]
        have := HO2.out.mono (Nat.le_succ w.heap.size)
        rw [hnn] at this
        rw [HDp.out, prVs_app, show prVs ((⟨pw, pf, ps⟩ : Nf.Pr) :: l.drop k) = [.int .i64 pw, .int .i64 pf, .int .i64 ps] ++ prVs (l.drop k) from rfl, ← List.append_assoc]
        exact this
      | some ad =>
        by_cases hcN : c = k
        · have HDp := hide (Nf.dput_at (p := ⟨pw, pf, ps⟩) HLow.out (fun y hy => by rw [List.getElem?_eq_none (by rw [HN.out]; omega)] at hy; cases hy))
          go_wp2_with fail
          go_quiet (fail)
          clear t0 t1 t2
          have HOd := hide (show (wr.drewN nq).ownsRow (w.heap.size + 1) 144 3 (.slice A2 k c2) k (prVs (l.take k)) from HOw.out)
          have HBd := hide (show Below w.heap.size w (wr.drewN nq) from ⟨HB.out.os, HB.out.tape, HB.out.output, HB.out.size, HB.out.block⟩)
          have HBk2 := hide (HBk.out.drewN nq)
          have hbs2 : w.heap.size + 1 ≤ (wr.drewN nq).heap.size := hbs
          generalize wr.drewN nq = W at HOd HBd HBk2 hbs2 ⊢
          have t0 := HBk2.out.cell 0
          have t1 := HBk2.out.cell 1
          have t2 := HBk2.out.cell 2
          go_wp2_with first
            | (at_builtin; go_loud (refine wpList_append_elem W rfl (.tmp 30) (.tmp 32) 141 rfl (w.heap.size + 1) (.agg #[.int .i64 0, .int .i64 0, .int .i64 0]) 3 24 Tryz.underlying141 info_pr rfl (by omega) (.slice A2 k c2) k (prVs (l.take k)) rfl HOd.out (cs := [.int .i64 pw, .int .i64 pf, .int .i64 ps]) rfl (by intro u hu; simp at hu; rcases hu with rfl | rfl | rfl <;> rfl) rfl (by unfold maxLen; omega) (by omega) hbs2 ?_); intro g' cap' w1 hown1 hgrow1 hat1 hlt1 hb1; have HO1 := hide hown1; have HB1 := hide (HBd.out.grown hgrow1 HBd.out.size (fun j e => by have := (own_isT HOd.out j e).1; omega)); have hbs3 := Nat.le_trans hbs2 hgrow1.size; have HR1 := hide (show ∀ A' : Option Addr, Reads w1 B 3 A' (N - k) (prVs (l.drop k)) from fun A' => by rw [List.drop_of_length_le (by rw [HN.out]; omega), show N - k = 0 by omega]; exact Reads.none_); clear hown1 hgrow1 hat1 hlt1 hb1 t0 t1 t2)
            | (at_builtin; go_loud (refine wpList_append_row w1 rfl (.tmp 34) (.tmp 37) 141 rfl (w.heap.size + 1) (.agg #[.int .i64 0, .int .i64 0, .int .i64 0]) 3 24 Tryz.underlying141 info_pr rfl (by omega) (.slice (some ⟨g', 0, none⟩) (k + 1) cap') (k + 1) _ rfl HO1.out B _ (N - k) _ _ (HR1.out _) (prVs_one _) rfl (by unfold maxLen; omega) (by omega) hbs3 ?_); intro A3 c3 w2 ho2 hg2; have HO2 := hide ho2; have HB2 := hide (HB1.out.grown hg2 HB1.out.size (fun j e => by have := (own_isT HO1.out j e).1; omega)); clear ho2 hg2)
          go_ret
          have hnn : k + 1 + (N - k) = N + 1 := by omega
          rw [hnn]
          refine ⟨⟨A3, c3, by rw [hdl]; rfl, ?_⟩, HB2.out⟩
          rw [hdl]
          have := HO2.out.mono (Nat.le_succ w.heap.size)
          rw [hnn] at this
          rw [HDp.out, prVs_app, show prVs ((⟨pw, pf, ps⟩ : Nf.Pr) :: l.drop k) = [.int .i64 pw, .int .i64 pf, .int .i64 ps] ++ prVs (l.drop k) from rfl, ← List.append_assoc]
          exact this
        · have HDp := hide (Nf.dput_at (p := ⟨pw, pf, ps⟩) HLow.out (fun y hy => by rw [List.getElem?_eq_none (by rw [HN.out]; omega)] at hy; cases hy))
          go_wp2_with fail
          go_quiet (fail)
          clear t0 t1 t2
          have HOd := hide (show (wr.drewN nq).ownsRow (w.heap.size + 1) 144 3 (.slice A2 k c2) k (prVs (l.take k)) from HOw.out)
          have HBd := hide (show Below w.heap.size w (wr.drewN nq) from ⟨HB.out.os, HB.out.tape, HB.out.output, HB.out.size, HB.out.block⟩)
          have HBk2 := hide (HBk.out.drewN nq)
          have hbs2 : w.heap.size + 1 ≤ (wr.drewN nq).heap.size := hbs
          generalize wr.drewN nq = W at HOd HBd HBk2 hbs2 ⊢
          have t0 := HBk2.out.cell 0
          have t1 := HBk2.out.cell 1
          have t2 := HBk2.out.cell 2
          go_wp2_with first
            | (at_builtin; go_loud (refine wpList_append_elem W rfl (.tmp 30) (.tmp 32) 141 rfl (w.heap.size + 1) (.agg #[.int .i64 0, .int .i64 0, .int .i64 0]) 3 24 Tryz.underlying141 info_pr rfl (by omega) (.slice A2 k c2) k (prVs (l.take k)) rfl HOd.out (cs := [.int .i64 pw, .int .i64 pf, .int .i64 ps]) rfl (by intro u hu; simp at hu; rcases hu with rfl | rfl | rfl <;> rfl) rfl (by unfold maxLen; omega) (by omega) hbs2 ?_); intro g' cap' w1 hown1 hgrow1 hat1 hlt1 hb1; have HO1 := hide hown1; have HB1 := hide (HBd.out.grown hgrow1 HBd.out.size (fun j e => by have := (own_isT HOd.out j e).1; omega)); have hbs3 := Nat.le_trans hbs2 hgrow1.size; have HR1 := hide (show ∀ A' : Option Addr, Reads w1 B 3 A' (N - k) (prVs (l.drop k)) from fun A' => by rw [List.drop_of_length_le (by rw [HN.out]; omega), show N - k = 0 by omega]; exact Reads.none_); clear hown1 hgrow1 hat1 hlt1 hb1 t0 t1 t2)
            | (at_builtin; go_loud (refine wpList_append_row w1 rfl (.tmp 34) (.tmp 37) 141 rfl (w.heap.size + 1) (.agg #[.int .i64 0, .int .i64 0, .int .i64 0]) 3 24 Tryz.underlying141 info_pr rfl (by omega) (.slice (some ⟨g', 0, none⟩) (k + 1) cap') (k + 1) _ rfl HO1.out B _ (N - k) _ _ (HR1.out _) (prVs_one _) rfl (by unfold maxLen; omega) (by omega) hbs3 ?_); intro A3 c3 w2 ho2 hg2; have HO2 := hide ho2; have HB2 := hide (HB1.out.grown hg2 HB1.out.size (fun j e => by have := (own_isT HO1.out j e).1; omega)); clear ho2 hg2)
          go_ret
          have hnn : k + 1 + (N - k) = N + 1 := by omega
          rw [hnn]
          refine ⟨⟨A3, c3, by rw [hdl]; rfl, ?_⟩, HB2.out⟩
          rw [hdl]
          have := HO2.out.mono (Nat.le_succ w.heap.size)
          rw [hnn] at this
          rw [HDp.out, prVs_app, show prVs ((⟨pw, pf, ps⟩ : Nf.Pr) :: l.drop k) = [.int .i64 pw, .int .i64 pf, .int .i64 ps] ++ prVs (l.drop k) from rfl, ← List.append_assoc]
          exact this
end Go.Proofs.YtlcfakmbcfdgbaaGreat
