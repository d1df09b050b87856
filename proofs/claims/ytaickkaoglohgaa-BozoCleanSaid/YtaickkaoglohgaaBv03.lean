/- Characters: ranges; First, Further, Char. · append of a string's bytes to a row of the call's own, in and out of a fence; append of one element in a fence. · The program's 'Loose' and 'Valid'. · Characters: the program's 'Bad', 'front', 'Take'. · Characters: the program's 'Take': how many bytes a name at the front has. · Tokens: white space. -/
import Derived.Test.YtaickkaoglohgaaBv00
import Derived.Test.YtaickkaoglohgaaBv01
import Derived.Test.YtaickkaoglohgaaBv02
import Derived.Lib.AppendStr
import Derived.OwnWalkIn
set_option linter.unusedSimpArgs false
set_option linter.unusedVariables false
namespace Go.Proofs.Ytaickkaoglohgaa
open Go.RowKit Tk

/-- Ranges as cells. -/
def rngs (l : List (Int × Int)) : List Value := l.flatMap fun p => [.int .i64 p.1, .int .i64 p.2]
theorem rngs_length (l : List (Int × Int)) : (rngs l).length = l.length * 2 := by
  induction l with
  | nil => rfl
  | cons p l ih => unfold rngs at ih ⊢; rw [List.flatMap_cons, List.length_append, ih]; simp; omega
theorem rngs_at : ∀ (l : List (Int × Int)) (k : Nat) (h : k < l.length), (rngs l)[k * 2]? = some (.int .i64 l[k].1) ∧ (rngs l)[k * 2 + 1]? = some (.int .i64 l[k].2)
  | p :: l, 0, _ => ⟨rfl, rfl⟩
  | p :: l, k + 1, h => by
    have ih := rngs_at l k (by simpa using h)
    have e : rngs (p :: l) = .int .i64 p.1 :: .int .i64 p.2 :: rngs l := rfl
    rw [e, show (k + 1) * 2 = k * 2 + 2 by omega]
    simpa using ih
theorem blk_reads {w : World} {g t n s : Nat} {xs : List Value} (h : Blk w g t xs.toArray) (hl : xs.length = n * s) : Reads w w.heap.size s (some ⟨g, 0, none⟩) n xs :=
  ⟨hl, fun _ => ⟨g, 0, rfl, h.lt, fun j u hj => by rw [Nat.zero_add, h.cell j]; simpa using hj⟩⟩
def inOf (l : List (Int × Int)) (r : Int) : Bool := l.any fun p => within r p.1 p.2

set_option maxHeartbeats 4000000 in
theorem within_any (r : Int) (A : Option Addr) (c : Nat) (l : List (Int × Int)) (w : World) (hA : Reads w w.heap.size 2 A l.length (rngs l)) (hl : l.length ≤ 1000) :
    Calls Try.prog 46 #[.int .i64 r, .slice A l.length c] w fun e w' => e = .returned (.bool (inOf l r)) ∧ Below w.heap.size w w' := by
  obtain ⟨n, hn⟩ : ∃ n, l.length = n := ⟨_, rfl⟩
  have HA := hide hA
  rw [hn] at ⊢ hl
  have Hn := hide hn
  clear hn hA
  go_enter Try.func46, Try.ntmps46
  go_wp2
  go_loopg [9] n (fun g v wr => ∃ k : Nat, g = n - k ∧ k ≤ n ∧ v = .int .i64 k ∧ inOf l r = inOf (l.drop k) r ∧ Below w.heap.size w wr)
  case atStart => exact ⟨0, rfl, by omega, rfl, rfl, Below.refl _ _⟩
  case round =>
    obtain ⟨k, hg, hk, rfl, hin, hb⟩ := hrel
    have Hg := hide hg
    have Hin := hide hin
    have Hb := hide hb
    clear hg hin hb
    by_cases hlt : k < n
    · have h1 : k < l.length := by rw [Hn.out]; exact hlt
      obtain ⟨b, off, rfl, hbl, hc⟩ := (HA.out.below Hb.out).2 (by omega)
      obtain ⟨p, hp⟩ : ∃ p, l[k] = p := ⟨_, rfl⟩
      have c0 := hc _ _ (rngs_at l k h1).1
      have c1 := hc _ _ (rngs_at l k h1).2
      rw [← Nat.add_assoc] at c1
      rw [hp] at c0 c1
      have Hd := hide (show l.drop k = p :: l.drop (k + 1) by rw [← hp]; exact List.drop_eq_getElem_cons h1)
      clear hc hp
      obtain ⟨p1, p2⟩ := p
      dsimp only at c0 c1
      by_cases ha : p1 ≤ r
      · by_cases hb2 : r ≤ p2
        · go_wp2
          go_ret
          refine ⟨ret_eq1 (bool_eq ?_), ?_⟩
          · rw [Hin.out, Hd.out]
            simp [inOf, within, ha, hb2]
          · exact Hb.out.alloc Hb.out.size _
        · go_wp2
          go_roundg (n - (k + 1))
          case measure => have := Hg.out; omega
          case rel => exact ⟨k + 1, rfl, by omega, by go_num, by rw [Hin.out, Hd.out]; show (within r p1 p2 || inOf _ r) = _; rw [show within r p1 p2 = false by unfold within; rw [decide_eq_false (Int.not_le.2 hb2), Bool.and_false], Bool.false_or], Hb.out.alloc Hb.out.size _⟩
      · go_wp2
        go_roundg (n - (k + 1))
        case measure => have := Hg.out; omega
        case rel => exact ⟨k + 1, rfl, by omega, by go_num, by rw [Hin.out, Hd.out]; show (within r p1 p2 || inOf _ r) = _; rw [show within r p1 p2 = false by unfold within; rw [decide_eq_false (Int.not_le.2 ha), Bool.false_and], Bool.false_or], Hb.out.alloc Hb.out.size _⟩
    · go_wp2
      go_ret
      refine ⟨ret_eq1 (bool_eq ?_), Hb.out⟩
      rw [Hin.out, List.drop_of_length_le (by rw [Hn.out]; omega)]
      rfl
def firstRs : List (Int × Int) := [(97, 122), (65, 90), (95, 95), (192, 214), (216, 246), (248, 767), (880, 893), (895, 8191), (8204, 8205), (8304, 8591), (11264, 12271), (12289, 55295), (63744, 64975), (65008, 65533), (65536, 983039)]
def furRs : List (Int × Int) := [(45, 46), (48, 57), (183, 183), (768, 879), (8255, 8256)]
def charRs : List (Int × Int) := [(9, 10), (13, 13), (32, 55295), (57344, 65533), (65536, 1114111)]
theorem first_in (r : Int) : inOf firstRs r = firstOk r := by
  unfold inOf firstRs firstOk
  simp only [List.any_cons, List.any_nil, Bool.or_false, Bool.or_assoc]
theorem char_in (r : Int) : inOf charRs r = charOk r := by
  unfold inOf charRs charOk
  simp only [List.any_cons, List.any_nil, Bool.or_false, Bool.or_assoc]
theorem fur_in (r : Int) : (firstOk r || inOf furRs r) = furtherOk r := by
  unfold inOf furRs furtherOk
  simp only [List.any_cons, List.any_nil, Bool.or_false, Bool.or_assoc]
theorem within_new (r : Int) (l : List (Int × Int)) (hl : l.length ≤ 1000) (w W : World) (g : Nat) (hw : W = w.alloc (.cells (rngs l).toArray 86)) (hg : g = w.heap.size) :
    Calls Try.prog 46 #[.int .i64 r, .slice (some ⟨g, 0, none⟩) l.length l.length] W fun e w' => e = .returned (.bool (inOf l r)) ∧ Below w.heap.size w w' := by
  subst hw hg
  have hk := Blk.new w 86 (rngs l).toArray
  refine (within_any r _ _ l _ (blk_reads hk (rngs_length l)) hl).mono ?_
  rintro e w' ⟨rfl, hb⟩
  exact ⟨rfl, (below_alloc w _).trans (hb.mono (by simp))⟩
theorem first_any (r : Int) (w : World) : Calls Try.prog 66 #[.int .i64 r] w fun e w' => e = .returned (.bool (firstOk r)) ∧ Below w.heap.size w w' := by
  have HW := hide (show Calls Try.prog 46 #[.int .i64 r, .slice (some ⟨w.heap.size, 0, none⟩) 15 15] (w.alloc (.cells #[.int .i64 97, .int .i64 122, .int .i64 65, .int .i64 90, .int .i64 95, .int .i64 95, .int .i64 192, .int .i64 214, .int .i64 216, .int .i64 246, .int .i64 248, .int .i64 767, .int .i64 880, .int .i64 893, .int .i64 895, .int .i64 8191, .int .i64 8204, .int .i64 8205, .int .i64 8304, .int .i64 8591, .int .i64 11264, .int .i64 12271, .int .i64 12289, .int .i64 55295, .int .i64 63744, .int .i64 64975, .int .i64 65008, .int .i64 65533, .int .i64 65536, .int .i64 983039] 86)) fun e w' => e = .returned (.bool (firstOk r)) ∧ Below w.heap.size w w' from by
    rw [← first_in]
    exact within_new r firstRs (by decide) w _ _ rfl rfl)
  generalize firstOk r = b at *
  go_enter Try.func66, Try.ntmps66
  go_wp2_with (go_at_call 46; refine HW.out.mono ?_; rintro e w' ⟨rfl, hb⟩)
  go_ret
  exact ⟨rfl, by assumption⟩
theorem char_any (r : Int) (w : World) : Calls Try.prog 23 #[.int .i64 r] w fun e w' => e = .returned (.bool (charOk r)) ∧ Below w.heap.size w w' := by
  have HW := hide (show Calls Try.prog 46 #[.int .i64 r, .slice (some ⟨w.heap.size, 0, none⟩) 5 5] (w.alloc (.cells #[.int .i64 9, .int .i64 10, .int .i64 13, .int .i64 13, .int .i64 32, .int .i64 55295, .int .i64 57344, .int .i64 65533, .int .i64 65536, .int .i64 1114111] 86)) fun e w' => e = .returned (.bool (charOk r)) ∧ Below w.heap.size w w' from by
    rw [← char_in]
    exact within_new r charRs (by decide) w _ _ rfl rfl)
  generalize charOk r = b at *
  go_enter Try.func23, Try.ntmps23
  go_wp2_with (go_at_call 46; refine HW.out.mono ?_; rintro e w' ⟨rfl, hb⟩)
  go_ret
  exact ⟨rfl, by assumption⟩
theorem further_any (r : Int) (w : World) : Calls Try.prog 51 #[.int .i64 r] w fun e w' => e = .returned (.bool (furtherOk r)) ∧ Below w.heap.size w w' := by
  have HF := hide (first_any r)
  have HW := hide fun (W : World) => (show Calls Try.prog 46 #[.int .i64 r, .slice (some ⟨W.heap.size, 0, none⟩) 5 5] (W.alloc (.cells #[.int .i64 45, .int .i64 46, .int .i64 48, .int .i64 57, .int .i64 183, .int .i64 183, .int .i64 768, .int .i64 879, .int .i64 8255, .int .i64 8256] 86)) fun e w' => e = .returned (.bool (inOf furRs r)) ∧ Below W.heap.size W w' from
    within_new r furRs (by decide) W _ _ rfl rfl)
  have HE := hide (fur_in r)
  generalize furtherOk r = c at *
  generalize inOf furRs r = d at *
  generalize firstOk r = b at *
  cases b with
  | true =>
    go_enter Try.func51, Try.ntmps51
    go_wp2_with (go_at_call 66; refine (HF.out _).mono ?_; rintro e w' ⟨rfl, hb⟩)
    go_ret
    exact ⟨ret_eq1 (bool_eq (by rw [← HE.out]; rfl)), by assumption⟩
  | false =>
    go_enter Try.func51, Try.ntmps51
    go_wp2_with fail
    refine (HF.out _).mono ?_
    rintro e w1 ⟨rfl, hb⟩
    go_wp2_with fail
    refine (HW.out _).mono ?_
    rintro e w2 ⟨rfl, hb2⟩
    go_wp2
    go_ret
    exact ⟨ret_eq1 (bool_eq (by rw [← HE.out]; rfl)), hb.trans (hb2.mono hb.size)⟩
/-- May it stand behind a name's first? -/
theorem take1_any (r : Int) (w : World) : Calls Try.prog 50 #[.int .i64 r] w fun e w' => e = .returned (.bool (furtherOk r || decide (r = 58))) ∧ Below w.heap.size w w' := by
  have HF := hide (further_any r)
  generalize furtherOk r = b at *
  by_cases hr : r = 58
  · subst hr
    go_enter Try.func50, Try.ntmps50
    go_wp2
    go_ret
    exact ⟨ret_eq1 (bool_eq (by simp)), Below.refl _ _⟩
  · have hd : (r == 58) = false := by rw [beq_eq_false_iff_ne]; exact hr
    have Hd := hide (show decide (r = 58) = false by simpa using hr)
    rw [Hd.out]
    clear hr Hd
    go_enter Try.func50, Try.ntmps50
    go_wp2_with (go_at_call 51; refine (HF.out _).mono ?_; rintro e w' ⟨rfl, hb⟩)
    go_ret
    exact ⟨ret_eq1 (bool_eq (by simp)), by assumption⟩
end Go.Proofs.Ytaickkaoglohgaa
namespace Go.Proofs.Ytaickkaoglohgaa
open Go.RowKit

theorem own_form {w : World} {base e size n : Nat} {v : Value} {xs : List Value} (h : w.ownsRow base e size v n xs) : ∃ A c, v = .slice A n c := by
  rcases h.2 with ⟨rfl, rfl⟩ | ⟨g, cap, cur, rfl, _⟩
  · exact ⟨_, _, rfl⟩
  · exact ⟨_, _, rfl⟩

theorem strCells_is {t : ByteArray} {l : List UInt8} (h : StrIs t l) : Lib.strCells t = byteVs l := by
  unfold StrIs at h
  rw [← h]; rfl

theorem run_append_str {P : Program} (w : World) (base : Nat) (t u ty e : TypeId) (ht : P.underlying t = some (.slice e)) (hu : P.underlying u = some .string)
    (hinfo : (P.info? e).map (fun i => (i.zero, i.size, i.bytes)) = some (some (.int .u8 0), 1, 1))
    (v : Value) (n : Nat) (l : List UInt8) (hown : w.ownsRow base e 1 v n (byteVs l)) (s : ByteArray) (m : List UInt8) (hm : StrIs s m)
    (hbytes : n + m.length ≤ 140737488355328) (hbase : base ≤ w.heap.size) :
    ∃ A c w', (Builtin.append_ #[t, u] ty #[v, .string s]).run P w = .ok (.slice A (n + m.length) c) w' ∧ w'.ownsRow base e 1 (.slice A (n + m.length) c) (n + m.length) (byteVs (l ++ m)) ∧ w.grownBy w' v.ownBlock := by
  obtain ⟨i, hi, hz, hsize, hby⟩ := info_parts hinfo
  have hsz := hm.size
  obtain ⟨v', w', hr, h2, h3, _⟩ := Lib.run_append_own_string (P := P) w base t u ty e i ht hu hi hz hsize hby v n (byteVs l) hown s (by unfold maxLen; omega) (by omega) hbase
  rw [strCells_is hm, hsz, ← byteVs_append] at h2
  obtain ⟨A, c, rfl⟩ := own_form h2
  exact ⟨A, c, w', hr, h2, h3⟩

theorem wpList_append_str {P : Program} (w : World) {ops : Array Oper} {rest : List Oper} {o : Oper} {a : Act} {Q : Exit → Act → World → Prop} (hgd : o.guard = none) (sl x : Operand) (t u : TypeId)
    (ho : o.op = .call { callee := .builtin .append, args := #[sl, x], argTypes := #[t, u] })
    (base : Nat) (e : TypeId) (ht : P.underlying t = some (.slice e)) (hu : P.underlying u = some .string) (hinfo : (P.info? e).map (fun i => (i.zero, i.size, i.bytes)) = some (some (.int .u8 0), 1, 1))
    (v : Value) (n : Nat) (l : List UInt8) (hs : a.eval sl = v) (hown : w.ownsRow base e 1 v n (byteVs l)) (s : ByteArray) (m : List UInt8) (hm : StrIs s m) (hx : a.eval x = .string s)
    (hbytes : n + m.length ≤ 140737488355328) (hbase : base ≤ w.heap.size)
    (h : ∀ A c w', w'.ownsRow base e 1 (.slice A (n + m.length) c) (n + m.length) (byteVs (l ++ m)) → w.grownBy w' v.ownBlock → wpList P ops Q rest (a.put o.dst (.slice A (n + m.length) c)) w') : wpList P ops Q (o :: rest) a w := by
  refine wpList_plain hgd fun K hK => ?_
  obtain ⟨A, c, w', hr, h2, h3⟩ := run_append_str (P := P) w base t u o.type e ht hu hinfo v n l hown s m hm hbytes hbase
  unfold Oper.wp execOp
  simp only [ho, resolve, invoke, builtin, Sem.run_bind, Sem.run_pure, Result.andThen_ok, List.map_toArray, List.map_cons, List.map_nil, hs, hx, hr]
  exact hK _ _ (h A c w' h2 h3)

theorem wpListIn_append_str {F : Fence} {N : Nat} {P : Program} (w : World) {ops : Array Oper} {rest : List Oper} {o : Oper} {a : Act} {Q : Exit → Act → World → Prop} (hgd : o.guard = none) (sl x : Operand) (t u : TypeId)
    (ho : o.op = .call { callee := .builtin .append, args := #[sl, x], argTypes := #[t, u] })
    (base : Nat) (e : TypeId) (ht : P.underlying t = some (.slice e)) (hu : P.underlying u = some .string) (hinfo : (P.info? e).map (fun i => (i.zero, i.size, i.bytes)) = some (some (.int .u8 0), 1, 1))
    (v : Value) (n : Nat) (l : List UInt8) (hs : a.eval sl = v) (hown : w.ownsRow base e 1 v n (byteVs l)) (s : ByteArray) (m : List UInt8) (hm : StrIs s m) (hx : a.eval x = .string s)
    (hbytes : n + m.length ≤ 140737488355328) (hbase : base ≤ w.heap.size)
    (h : ∀ A c w', w'.ownsRow base e 1 (.slice A (n + m.length) c) (n + m.length) (byteVs (l ++ m)) → w.grownBy w' v.ownBlock → wpListIn F N P ops Q rest (a.put o.dst (.slice A (n + m.length) c)) w') : wpListIn F N P ops Q (o :: rest) a w := by
  refine wpListIn_plain hgd fun K hK => ?_
  obtain ⟨A, c, w', hr, h2, h3⟩ := run_append_str (P := P) w base t u o.type e ht hu hinfo v n l hown s m hm hbytes hbase
  unfold Oper.wpIn
  refine ⟨?_, ?_⟩
  · simp [Oper.about, ho, resolve, Target.leads, Sem.run_pure]
  · rw [Oper.semAt_plain F _ _ (by rw [ho]; intro c hc'; cases hc')]
    simp [execOp, ho, resolve, invoke, builtin, hs, hx, hr, Result.andThen]
    exact hK _ _ (h A c w' h2 h3)

theorem wpListIn_append_elem {F : Fence} {N : Nat} {P : Program} (W : World) {e : TypeId} {cs : List Value} {ops : Array Oper} {rest : List Oper} {o : Oper} {a : Act} {Q : Exit → Act → World → Prop} (hgd : o.guard = none) (s x : Operand) (t : TypeId)
    (ho : o.op = .call { callee := .builtin .append, args := #[s, x], argTypes := #[t, t] })
    (base : Nat) (z : Value) (size bytes : Nat) (ht : P.underlying t = some (.slice e)) (hinfo : (P.info? e).map (fun i => (i.zero, i.size, i.bytes)) = some (some z, size, bytes))
    (hzs : z.cells.size = size) (hsz : 0 < size)
    (v : Value) (n : Nat) (xs : List Value) (hs : a.eval s = v) (hown : W.ownsRow base e size v n xs)
    (hcs : cs.length = size) (h1 : ∀ u ∈ cs, u.oneCell' = true) (hx : a.eval x = .slice (some ⟨W.heap.size, 0, none⟩) 1 1)
    (h63 : n + 1 ≤ maxLen) (hbytes : (n + 1) * bytes ≤ 140737488355328) (hbase : base ≤ W.heap.size)
    (h : ∀ g cap w', w'.ownsRow base e size (.slice (some ⟨g, 0, none⟩) (n + 1) cap) (n + 1) (xs ++ cs) → (W.alloc (.cells cs.toArray e)).grownBy w' v.ownBlock → g < w'.heap.size → base ≤ g →
      wpListIn F N P ops Q rest (a.put o.dst (.slice (some ⟨g, 0, none⟩) (n + 1) cap)) w') : wpListIn F N P ops Q (o :: rest) a (W.alloc (.cells cs.toArray e)) := by
  obtain ⟨i, hi, hz, hsize, hby⟩ := info_parts hinfo
  refine wpListIn_append_own (W.alloc (.cells cs.toArray e)) hgd s x t ho base e i z size bytes ht hi hz hsize hby hzs hsz v n xs hs (hown.alloc _) ⟨W.heap.size, 0, none⟩ 1 1 cs hx (by omega) ?_ h1 h63 hbytes (by simp; omega) ?_
  · intro j u hu
    exact World.news_of_block (Blk.new W e cs.toArray) j u (by simpa using hu)
  · intro v' w' hown' hgrow _
    obtain ⟨g, cap, hv, hb, hlt⟩ := hown'.form (by omega)
    subst hv
    exact h g cap w' hown' hgrow hlt hb
end Go.Proofs.Ytaickkaoglohgaa
namespace Go.Proofs.Ytaickkaoglohgaa
open Go.RowKit Go.Shelf

attribute [local go_sem] Oper.semAt_some

theorem info_u8 : (Try.prog.info? 5).map (fun i => (i.zero, i.size, i.bytes)) = some (some (.int .u8 0), 1, 1) := by kernel_rfl

def pcs (l : List Pc) : List (Nat × Int) := l.map (·.1)
theorem pcs_snoc (l : List Pc) (x : Pc) : pcs (l ++ [x]) = pcs l ++ [x.1] := by simp [pcs]
theorem pcs_length (l : List Pc) : (pcs l).length = l.length := by simp [pcs]
theorem mended_snoc (l : List (Nat × Int)) (x : Nat × Int) : Utf.mended (l ++ [x]) = Utf.mended l ++ (if x.2 < 0 then [0xEF, 0xBF, 0xBD] else (Utf.put x.2).map bv) := by
  unfold Utf.mended
  rw [List.flatMap_append, List.flatMap_cons, List.flatMap_nil, List.append_nil]
  rfl
theorem mended_length (l : List (Nat × Int)) : (Utf.mended l).length ≤ 4 * l.length := by
  induction l with
  | nil => simp [Utf.mended]
  | cons x l ih =>
    have h := put_short x.2
    unfold Utf.mended at ih ⊢
    rw [List.flatMap_cons, List.length_append, List.length_cons]
    split <;> simp only [List.length_map, List.length_cons, List.length_nil] <;> omega

/-- What the loop's variables hold when so much has come. -/
def LooseI (w : World) (pre : List Pc) (W : World) : Prop :=
  (∃ v n, Boxed W w.heap.size 58 v ∧ W.ownsRow w.heap.size 5 1 v n (byteVs (Utf.mended (pcs pre)))) ∧ Boxed W (w.heap.size + 1) 3 (.int .i64 (Utf.firstBad (pcs pre))) ∧ (∃ u, Boxed W (w.heap.size + 1 + 1) 9 u) ∧ Below w.heap.size w W

theorem LooseI_own (w : World) : OwnFrom (w.heap.size + 3) (LooseI w) := by
  rintro s X Y row ⟨⟨v, n, hv, hr⟩, h2, ⟨u, hu⟩, h3⟩ hg hrow
  have hne : ∀ {B : Nat} {t : TypeId} {u : Value}, Boxed X B t u → some B ≠ row := fun h e => by
    obtain ⟨_, o, ho, hc⟩ := hrow _ e.symm
    rw [show X.heap[_]? = _ from h] at ho; cases ho; cases hc
  refine ⟨⟨v, n, hv.kept hg (hne hv), hr.kept hg ?_⟩, h2.kept hg (hne h2), ⟨u, hu.kept hg (hne hu)⟩, h3.grown hg h3.size (fun k e => by have := (hrow k e).1; omega)⟩
  rcases hr.2 with ⟨rfl, _⟩ | ⟨g, cap, cur, rfl, _, hgb, _⟩
  · exact .inl rfl
  · refine .inr fun e' => ?_
    obtain ⟨_, o, ho, hc⟩ := hrow g (by simpa [Value.ownBlock] using e'.symm)
    rw [hgb] at ho; cases ho; cases hc

theorem grown_below {W w1 : World} (h : Below W.heap.size W w1) (row : Option Nat) : W.grownBy w1 row := ⟨h.os, h.tape, h.output, h.size, fun k hk _ => h.block k hk⟩
theorem others_below {W w1 : World} (h : Below W.heap.size W w1) : KeepsOthers W w1 := ⟨h.size, fun k o hk _ => (h.block k (Array.getElem?_eq_some_iff.1 hk).1).trans hk⟩

/-- A round's end: behind the append and the store. -/
theorem loose_step {w W W2 w1 : World} {pre pre' : List Pc} {v v' : Value} {n n' : Nat} {m : List UInt8} {f1 : Int} (hB : Below w.heap.size w W) (h3 : w.heap.size + 3 ≤ W.heap.size)
    (hko : KeepsOthers W W2) (hsb : SameBlk (w.heap.size + 1 + 1) W W2) (hB2 : Below w.heap.size w W2) (hcell : ∃ u, Boxed W2 (w.heap.size + 1 + 1) 9 u)
    (hv : Boxed W2 w.heap.size 58 v) (hf : Boxed W2 (w.heap.size + 1) 3 (.int .i64 f1)) (hrow : W2.ownsRow w.heap.size 5 1 v n (byteVs (Utf.mended (pcs pre))))
    (hown : w1.ownsRow w.heap.size 5 1 v' n' (byteVs (Utf.mended (pcs pre) ++ m))) (hgrow : W2.grownBy w1 v.ownBlock)
    (hm : Utf.mended (pcs pre') = Utf.mended (pcs pre) ++ m) (hf1 : Utf.firstBad (pcs pre') = f1) :
    Boxed w1 w.heap.size 58 v ∧ KeepsOthers W (w1.setCell ⟨w.heap.size, 0, none⟩ v') ∧ SameBlk (w.heap.size + 1 + 1) W (w1.setCell ⟨w.heap.size, 0, none⟩ v') ∧ LooseI w pre' (w1.setCell ⟨w.heap.size, 0, none⟩ v') := by
  have hv1 : Boxed w1 w.heap.size 58 v := hv.kept hgrow (hv.not_row (by decide) hrow)
  have hf1' : Boxed w1 (w.heap.size + 1) 3 (.int .i64 f1) := hf.kept hgrow (hf.not_row (by decide) hrow)
  obtain ⟨u, hu⟩ := hcell
  have hu1 : w1.heap[w.heap.size + 1 + 1]? = W2.heap[w.heap.size + 1 + 1]? := hgrow.block _ hu.lt (hu.not_row (by decide) hrow)
  have hsz : w.heap.size ≤ W2.heap.size := hB2.size
  refine ⟨hv1, ?_, ?_, ⟨v', n', hv1.set v', ?_⟩, ?_, ⟨u, ?_⟩, ?_⟩
  · refine (hko.trans (KeepsOthers.of_grownBy hgrow fun j o ej hj => ?_)).trans (KeepsOthers.setCell _ _ _)
    obtain ⟨_, cs, fr, h⟩ := own_isT hrow j ej
    rw [h] at hj; cases hj; rfl
  · refine hsb.trans ?_
    exact (Below.heap_setCell _ _ _ _ (by simp; omega)).trans hu1
  · rw [hm]
    exact hown.kept (grownBy_setCell' w1 _ v') (.inr (hv1.not_row (by decide) hown).symm)
  · rw [hf1]
    exact hf1'.kept (grownBy_setCell' w1 _ v') (by simp)
  · exact (Below.heap_setCell _ _ _ _ (by simp; omega)).trans (hu1.trans hu)
  · refine (hB2.grown hgrow hsz fun j ej => (own_isT hrow j ej).1).setCell (p := ⟨w.heap.size, 0, none⟩) (Nat.le_refl _) v'

end Go.Proofs.Ytaickkaoglohgaa
namespace Go.Proofs.Ytaickkaoglohgaa
open Go.RowKit Go.Shelf Tk

attribute [local go_sem] Oper.semAt_some

theorem upTo_find (f : Nat × Int → Bool) (hf : ∀ p, p.2 < 0 → f p = true) : ∀ l : List (Nat × Int), (upTo l).find? f = l.find? f
  | [] => rfl
  | p :: l => by
    unfold upTo
    split
    · rename_i h
      rw [List.find?_cons, List.find?_cons, hf p h]
    · rw [List.find?_cons, List.find?_cons, upTo_find f hf l]
theorem find_app {α : Type} {f : α → Bool} {pre rest : List α} {x : α} (h : ∀ p ∈ pre, f p = false) (hx : f x = true) : (pre ++ [x] ++ rest).find? f = some x := by
  rw [List.append_assoc, List.find?_append, List.find?_eq_none.2 (fun p hp => by rw [h p hp]; simp)]
  simp [hx]
theorem stop_at {ok : Nat → Int → Bool} (hok : ∀ k r, r < 0 → ok k r = false) {l : L} {pre rest : List (Nat × Int)} {x : Nat × Int} (e : pre ++ [x] ++ rest = upTo (Utf.pieces l)) (h : ∀ p ∈ pre, ok p.1 p.2 = true) (hx : ok x.1 x.2 = false) : stop ok l = some x.1 := by
  unfold stop
  rw [← upTo_find _ (fun p hp => by rw [hok _ _ hp]; rfl), ← e, find_app (fun p hp => by rw [h p hp]; rfl) (by rw [hx]; rfl)]
  rfl
theorem stop_none {ok : Nat → Int → Bool} (hok : ∀ k r, r < 0 → ok k r = false) {l : L} (h : ∀ p ∈ upTo (Utf.pieces l), ok p.1 p.2 = true) : stop ok l = none := by
  unfold stop
  rw [← upTo_find _ (fun p hp => by rw [hok _ _ hp]; rfl), List.find?_eq_none.2 (fun p hp => by rw [h p hp]; simp)]
  rfl
theorem charOk_neg (r : Int) (h : r < 0) : charOk r = false := by
  unfold charOk within
  simp
  omega
theorem firstOk_neg (r : Int) (h : r < 0) : firstOk r = false := by
  unfold firstOk within
  simp
  omega
theorem furtherOk_neg (r : Int) (h : r < 0) : furtherOk r = false := by
  unfold furtherOk
  rw [firstOk_neg r h]
  unfold within
  simp
  omega
theorem nameOk_neg (k : Nat) (r : Int) (h : r < 0) : nameOk k r = false := by
  unfold nameOk
  rw [firstOk_neg r h, furtherOk_neg r h]
  simp
  omega

/-- What Bad's variables hold when so much has come. -/
def BadI (w : World) (pre : List (Nat × Int)) (W : World) : Prop := (∀ p ∈ pre, charOk p.2 = true) ∧ (∃ v, Boxed W w.heap.size 3 v) ∧ (∃ u, Boxed W (w.heap.size + 1) 9 u) ∧ Below w.heap.size w W
def BadX (w : World) (c : Code) (pre : List (Nat × Int)) (W : World) : Prop :=
  c = .ret ∧ ∃ pre0 x, pre = pre0 ++ [x] ∧ (∀ p ∈ pre0, charOk p.2 = true) ∧ charOk x.2 = false ∧ Boxed W w.heap.size 3 (.int .i64 (x.1 : Int)) ∧ Below w.heap.size w W
theorem box_row {X : World} {B : Nat} {t : TypeId} {u : Value} {row : Option Nat} {n : Nat} (hrow : ∀ r, row = some r → n ≤ r ∧ ∃ o : Obj, X.heap[r]? = some o ∧ o.isCells = false) (h : Boxed X B t u) : some B ≠ row := fun e => by
  obtain ⟨_, o, ho, hc⟩ := hrow _ e.symm
  rw [show X.heap[_]? = _ from h] at ho; cases ho; cases hc
theorem BadI_own (w : World) : OwnFrom (w.heap.size + 1 + 1) (BadI w) := by
  rintro s X Y row ⟨h1, ⟨v, hv⟩, ⟨u, hu⟩, h3⟩ hg hrow
  exact ⟨h1, ⟨v, hv.kept hg (box_row hrow hv)⟩, ⟨u, hu.kept hg (box_row hrow hu)⟩, h3.grown hg h3.size (fun k e => by have := (hrow k e).1; omega)⟩
theorem BadX_own (w : World) (c : Code) : OwnFrom (w.heap.size + 1 + 1) (BadX w c) := by
  rintro s X Y row ⟨h1, p, x, h2, h4, h5, hv, h3⟩ hg hrow
  exact ⟨h1, p, x, h2, h4, h5, hv.kept hg (box_row hrow hv), h3.grown hg h3.size (fun k e => by have := (hrow k e).1; omega)⟩

set_option maxRecDepth 100000 in
set_option maxHeartbeats 4000000 in
theorem bad_any (s : ByteArray) (w : World) (hs : s.size ≤ 1000000000) :
    Calls Try.prog 21 #[.string s] w fun e w' => e = .returned (.int .i64 (bad s.data.toList)) ∧ Below w.heap.size w w' := by
  refine (callsIn_wide (n := 5)).1 ?_
  refine callsIn_of_wp_marks Try.func21 rfl trivial ?_ rfl
  simp only [Try.ntmps21, List.size_toArray, List.length_cons, List.length_nil, Nat.reduceAdd, Nat.reduceSub, Array.replicate_succ, Array.replicate_zero, List.push_toArray, List.append_toArray, List.nil_append, List.cons_append]
  gi_wp2_with (refine ⟨trivial, ?_⟩; gi_at_call 44; refine (callsIn_wide.2 (scalars_mk _ _)).mono ?_; rintro e w' ⟨rfl, rfl⟩)
  have b0 := Boxed.new w 3 (.int .i64 0)
  have b1 := Boxed.new (w.alloc (.cells #[.int .i64 0] 3)) 9 (.string s)
  rw [World.size_alloc] at b1
  have hB0 : Below w.heap.size w ((w.alloc (.cells #[.int .i64 0] 3)).alloc (.cells #[.string s] 9)) := ((Below.refl _ w).alloc (Nat.le_refl _) _).alloc (by simp) _
  refine wpIn_rangeFunc_ownG rfl (by omega) (gf := 63) (lb := #[.pointer (some ⟨w.heap.size + 1, 0, none⟩)]) rfl trivial (enters_of Try.func63 (by kernel_rfl) rfl)
    (scalars_stops (5 - 1) (by omega) (w.heap.size + 1) s hs _ (by simp) b1.cell) SameBlk.trans (sameBlk_b (by simp)) (Below.refl _ _) (fun _ => rfl)
    (BadI w) (BadX w) (by simpa using BadI_own w) (fun c => by simpa using BadX_own w c)
    ⟨(fun p hp => by cases hp), ⟨_, b0.alloc _⟩, ⟨_, b1⟩, hB0⟩
    (fun x => { tmps := #[.string s, undef, .pointer (some ⟨w.heap.size, 0, none⟩), .int .i64 (x.1 : Int), .int .i64 x.2, .string s,
      .func (.func 63) #[] #[.pointer (some ⟨w.heap.size + 1, 0, none⟩)], .int .i64 (x.1 : Int), .int .i64 x.2, undef, undef, undef, undef], defers := [] }) ?assign ?body ?done ?stop
  case assign =>
    intro l x W K hK
    gi_wp2
    exact hK
  case body =>
    rintro l pre x W ⟨hp, ⟨v, hv⟩, ⟨u, hu⟩, hB⟩ hlen
    have HP := hide hp
    have h2 : w.heap.size + 1 < W.heap.size := hu.lt
    have HC := hide (char_any x.2)
    cases hx : charOk x.2 with
    | true =>
      rw [hx] at HC
      have HX := hide hx
      clear hp hx
      gi_wp2_with (refine ⟨trivial, ?_⟩; gi_at_call 23; refine (CallsIn.inRound l (callsIn_wide.2 (HC.out _))).mono ?_; rintro e w1 ⟨rfl, hb⟩)
      refine ⟨(others_below hb).from _, hb.block _ (by omega), fun p hp => ?_, ⟨v, hv.kept (grown_below hb none) (by simp)⟩, ⟨u, hu.kept (grown_below hb none) (by simp)⟩, hB.trans (hb.mono hB.size)⟩
      rcases List.mem_append.1 hp with hp | hp
      · exact HP.out p hp
      · have : p = x := by simpa using hp
        rw [this]
        exact HX.out
    | false =>
      rw [hx] at HC
      have HX := hide hx
      clear hp hx
      gi_wp2_with (refine ⟨trivial, ?_⟩; gi_at_call 23; refine (CallsIn.inRound l (callsIn_wide.2 (HC.out _))).mono ?_; rintro e w1 ⟨rfl, hb⟩; have hv1 := hv.kept (grown_below hb none) (by simp); have hc1 := hv1.cell; have hf1 := hv1.frozen)
      exact ⟨((others_below hb).trans (KeepsOthers.setCell _ _ _)).from _, rfl, pre, x, rfl, HP.out, HX.out, hv1.set _, (hB.trans (hb.mono hB.size)).setCell (p := ⟨w.heap.size, 0, none⟩) (Nat.le_refl _) _⟩
  case done =>
    rintro D ys W hD hys ⟨hp, ⟨v, hv⟩, ⟨u, hu⟩, hB⟩ hK
    have hc := hv.cell
    have hf := hv.frozen
    have Hbad := hide (show bad s.data.toList = -1 from by
      unfold bad
      rw [stop_none (ok := fun _ r => charOk r) (fun _ r h => charOk_neg r h) (by rw [← hys]; exact fun p h => hp p h)])
    clear hys hp
    gi_wp2
    have hv2 := hv.set (.int .i64 (-1))
    have hK2 := (KeepsOthers.setCell W ⟨w.heap.size, 0, none⟩ (.int .i64 (-1))).same D _ hK rfl
    refine ⟨by simp, .inl ⟨_, _, rfl, run_takeDeferred hK2, ?_⟩⟩
    have hc2 := cell_kept hv2.cell (grownBy_putObj' _ D (.deferred none)) (fun r e => by cases e; exact ⟨_, hK2, rfl⟩)
    refine ⟨.int .i64 (-1), ?_, ?_⟩
    · simp [results, Try.results21, go_sem, hc2]
    · exact ⟨ret_eq1 (int_eq Hbad.out.symm), (hB.setCell (p := ⟨w.heap.size, 0, none⟩) (Nat.le_refl _) _).trans (belowK_b (w := w) (Nat.le_refl _) _ D _ _ (by simp at hD; omega) hK2 rfl rfl)⟩
  case stop =>
    rintro D c pre W hD ⟨rest, hsp⟩ ⟨rfl, pre0, x, rfl, hp, hx, hv, hB⟩ hK
    have hc := hv.cell
    have hf := hv.frozen
    have Hbad := hide (show bad s.data.toList = (x.1 : Int) from by
      unfold bad
      rw [stop_at (ok := fun _ r => charOk r) (fun _ r h => charOk_neg r h) hsp (fun p h => hp p h) hx])
    clear hsp hp hx
    gi_wp2
    refine ⟨by simp, .inl ⟨_, _, rfl, run_takeDeferred hK, ?_⟩⟩
    have hc2 := cell_kept hc (grownBy_putObj' _ D (.deferred none)) (fun r e => by cases e; exact ⟨_, hK, rfl⟩)
    refine ⟨.int .i64 (x.1 : Int), ?_, ?_⟩
    · simp [results, Try.results21, go_sem, hc2]
    · exact ⟨ret_eq1 (int_eq Hbad.out.symm), hB.trans (belowK_b (w := w) (Nat.le_refl _) _ D _ _ (by simp at hD; omega) hK rfl rfl)⟩
end Go.Proofs.Ytaickkaoglohgaa
namespace Go.Proofs.Ytaickkaoglohgaa
open Go.RowKit Go.Shelf Tk

attribute [local go_sem] Oper.semAt_some

/-- What front's variables hold when so much has come. -/
def FrontI (w : World) (pre : List (Nat × Int)) (W : World) : Prop :=
  (∀ p ∈ pre, nameOk p.1 p.2 = true) ∧ Boxed W w.heap.size 56 (.func (.func 50) #[] #[]) ∧ (∃ v, Boxed W (w.heap.size + 1) 3 v) ∧ (∃ u, Boxed W (w.heap.size + 1 + 1) 9 u) ∧ Below w.heap.size w W
def FrontX (w : World) (c : Code) (pre : List (Nat × Int)) (W : World) : Prop :=
  c = .ret ∧ ∃ pre0 x, pre = pre0 ++ [x] ∧ (∀ p ∈ pre0, nameOk p.1 p.2 = true) ∧ nameOk x.1 x.2 = false ∧ Boxed W (w.heap.size + 1) 3 (.int .i64 (x.1 : Int)) ∧ Below w.heap.size w W
theorem FrontI_own (w : World) : OwnFrom (w.heap.size + 1 + 1 + 1) (FrontI w) := by
  rintro s X Y row ⟨h1, hb, ⟨v, hv⟩, ⟨u, hu⟩, h3⟩ hg hrow
  exact ⟨h1, hb.kept hg (box_row hrow hb), ⟨v, hv.kept hg (box_row hrow hv)⟩, ⟨u, hu.kept hg (box_row hrow hu)⟩, h3.grown hg h3.size (fun k e => by have := (hrow k e).1; omega)⟩
theorem FrontX_own (w : World) (c : Code) : OwnFrom (w.heap.size + 1 + 1 + 1) (FrontX w c) := by
  rintro s X Y row ⟨h1, p, x, h2, h4, h5, hv, h3⟩ hg hrow
  exact ⟨h1, p, x, h2, h4, h5, hv.kept hg (box_row hrow hv), h3.grown hg h3.size (fun k e => by have := (hrow k e).1; omega)⟩
theorem first_further {r : Int} (h : firstOk r = true) : furtherOk r = true := by unfold furtherOk; rw [h]; rfl

set_option maxRecDepth 100000 in
set_option maxHeartbeats 4000000 in
theorem front_any (s : ByteArray) (w : World) (hs : s.size ≤ 1000000000) :
    Calls Try.prog 49 #[.string s, .func (.func 50) #[] #[]] w fun e w' => e = .returned (.int .i64 (take s.data.toList : Nat)) ∧ Below w.heap.size w w' := by
  refine (callsIn_wide (n := 5)).1 ?_
  refine callsIn_of_wp_marks Try.func49 rfl trivial ?_ rfl
  simp only [Try.ntmps49, List.size_toArray, List.length_cons, List.length_nil, Nat.reduceAdd, Nat.reduceSub, Array.replicate_succ, Array.replicate_zero, List.push_toArray, List.append_toArray, List.nil_append, List.cons_append]
  gi_wp2_with (refine ⟨trivial, ?_⟩; gi_at_call 44; refine (callsIn_wide.2 (scalars_mk _ _)).mono ?_; rintro e w' ⟨rfl, rfl⟩)
  have b0 := Boxed.new w 56 (.func (.func 50) #[] #[])
  have b1 := Boxed.new (w.alloc (.cells #[.func (.func 50) #[] #[]] 56)) 3 (.int .i64 0)
  rw [World.size_alloc] at b1
  have b2 := Boxed.new ((w.alloc (.cells #[.func (.func 50) #[] #[]] 56)).alloc (.cells #[.int .i64 0] 3)) 9 (.string s)
  rw [World.size_alloc, World.size_alloc] at b2
  have hB0 : Below w.heap.size w (((w.alloc (.cells #[.func (.func 50) #[] #[]] 56)).alloc (.cells #[.int .i64 0] 3)).alloc (.cells #[.string s] 9)) :=
    (((Below.refl _ w).alloc (Nat.le_refl _) _).alloc (by simp) _).alloc (by simp; omega) _
  refine wpIn_rangeFunc_ownG rfl (by omega) (gf := 63) (lb := #[.pointer (some ⟨w.heap.size + 1 + 1, 0, none⟩)]) rfl trivial (enters_of Try.func63 (by kernel_rfl) rfl)
    (scalars_stops (5 - 1) (by omega) (w.heap.size + 1 + 1) s hs _ (by simp) b2.cell) SameBlk.trans (sameBlk_b (by simp)) (Below.refl _ _) (fun _ => rfl)
    (FrontI w) (FrontX w) (by simpa using FrontI_own w) (fun c => by simpa using FrontX_own w c)
    ⟨(fun p hp => by cases hp), (b0.alloc _).alloc _, ⟨_, b1.alloc _⟩, ⟨_, b2⟩, hB0⟩
    (fun x => { tmps := #[.string s, .func (.func 50) #[] #[], undef, .pointer (some ⟨w.heap.size, 0, none⟩), .pointer (some ⟨w.heap.size + 1, 0, none⟩), .int .i64 (x.1 : Int), .int .i64 x.2, .string s,
      .func (.func 63) #[] #[.pointer (some ⟨w.heap.size + 1 + 1, 0, none⟩)], .int .i64 (x.1 : Int), .int .i64 x.2, undef, undef, undef, undef, undef, undef, undef, undef, undef, undef, undef, undef, undef, undef, undef, undef], defers := [] }) ?assign ?body ?done ?stop
  case assign =>
    intro l x W K hK
    gi_wp2
    exact hK
  case body =>
    rintro l pre x W ⟨hp, hb0, ⟨v, hv⟩, ⟨u, hu⟩, hB⟩ hlen
    have HP := hide hp
    have h2 : w.heap.size + 1 + 1 < W.heap.size := hu.lt
    have HF := hide (first_any x.2)
    have HT := hide (take1_any x.2)
    have Hff := hide (first_further (r := x.2))
    clear hp
    by_cases h0 : x.1 = 0
    · have h0' : ((x.1 : Int) == 0) = true := by simp [h0]
      cases hx : firstOk x.2 with
      | false =>
        rw [hx] at HF
        have HX := hide (show nameOk x.1 x.2 = false by unfold nameOk; rw [if_pos h0, hx])
        clear hx h0 HT Hff
        gi_wp2_with (refine ⟨trivial, ?_⟩; gi_at_call 66; refine (CallsIn.inRound l (callsIn_wide.2 (HF.out _))).mono ?_; rintro e w1 ⟨rfl, hb⟩; have hv1 := hv.kept (grown_below hb none) (by simp); have hc1 := hv1.cell; have hf1 := hv1.frozen)
        refine ⟨fun _ h => (by cases h), ?_⟩
        gi_wp2
        exact ⟨((others_below hb).trans (KeepsOthers.setCell _ _ _)).from _, rfl, pre, x, rfl, HP.out, HX.out, hv1.set _, (hB.trans (hb.mono hB.size)).setCell (p := ⟨w.heap.size + 1, 0, none⟩) (by simp) _⟩
      | true =>
        rw [hx] at HF
        rw [Hff.out hx, Bool.true_or] at HT
        have HX := hide (show nameOk x.1 x.2 = true by unfold nameOk; rw [if_pos h0, hx])
        clear hx h0 Hff
        gi_wp2_with first
          | (refine ⟨trivial, ?_⟩; gi_at_call 66; refine (CallsIn.inRound l (callsIn_wide.2 (HF.out _))).mono ?_; rintro e w1 ⟨rfl, hb⟩; have hc0 := (hb0.kept (grown_below hb none) (by simp)).cell)
          | (refine ⟨trivial, ?_⟩; gi_at_call 50; refine (CallsIn.inRound l (callsIn_wide.2 (HT.out _))).mono ?_; rintro e w2 ⟨rfl, hb2⟩)
        have hb := hb.trans (hb2.mono hb.size)
        refine ⟨(others_below hb).from _, hb.block _ (by omega), fun p hp => ?_, hb0.kept (grown_below hb none) (by simp), ⟨v, hv.kept (grown_below hb none) (by simp)⟩, ⟨u, hu.kept (grown_below hb none) (by simp)⟩, hB.trans (hb.mono hB.size)⟩
        rcases List.mem_append.1 hp with hp | hp
        · exact HP.out p hp
        · have : p = x := by simpa using hp
          rw [this]
          exact HX.out
    · have h0' : ((x.1 : Int) == 0) = false := by rw [beq_eq_false_iff_ne]; omega
      have hc0 := hb0.cell
      obtain ⟨b, hbx⟩ : ∃ b, (furtherOk x.2 || decide (x.2 = 58)) = b := ⟨_, rfl⟩
      rw [hbx] at HT
      have HX := hide (show nameOk x.1 x.2 = b by unfold nameOk; rw [if_neg h0, hbx])
      clear hbx h0 Hff HF
      gi_wp2_with fail
      refine ⟨trivial, ?_⟩
      cases b with
      | false =>
        gi_wp2_with (refine ⟨trivial, ?_⟩; gi_at_call 50; refine (CallsIn.inRound l (callsIn_wide.2 (HT.out _))).mono ?_; rintro e w1 ⟨rfl, hb⟩; have hv1 := hv.kept (grown_below hb none) (by simp); have hc1 := hv1.cell; have hf1 := hv1.frozen)
        exact ⟨((others_below hb).trans (KeepsOthers.setCell _ _ _)).from _, rfl, pre, x, rfl, HP.out, HX.out, hv1.set _, (hB.trans (hb.mono hB.size)).setCell (p := ⟨w.heap.size + 1, 0, none⟩) (by simp) _⟩
      | true =>
        gi_wp2_with (refine ⟨trivial, ?_⟩; gi_at_call 50; refine (CallsIn.inRound l (callsIn_wide.2 (HT.out _))).mono ?_; rintro e w1 ⟨rfl, hb⟩)
        refine ⟨(others_below hb).from _, hb.block _ (by omega), fun p hp => ?_, hb0.kept (grown_below hb none) (by simp), ⟨v, hv.kept (grown_below hb none) (by simp)⟩, ⟨u, hu.kept (grown_below hb none) (by simp)⟩, hB.trans (hb.mono hB.size)⟩
        rcases List.mem_append.1 hp with hp | hp
        · exact HP.out p hp
        · have : p = x := by simpa using hp
          rw [this]
          exact HX.out
  case done =>
    rintro D ys W hD hys ⟨hp, hb0, ⟨v, hv⟩, ⟨u, hu⟩, hB⟩ hK
    have hc := hv.cell
    have hf := hv.frozen
    have Hbad := hide (show take s.data.toList = s.size from by
      unfold take
      rw [stop_none (ok := nameOk) nameOk_neg (by rw [← hys]; exact fun p h => hp p h)]
      exact size_list s)
    clear hys hp
    gi_wp2
    have hv2 := hv.set (.int .i64 (s.size : Int))
    have hK2 := (KeepsOthers.setCell W ⟨w.heap.size + 1, 0, none⟩ (.int .i64 (s.size : Int))).same D _ hK rfl
    refine ⟨by simp, .inl ⟨_, _, rfl, run_takeDeferred hK2, ?_⟩⟩
    have hc2 := cell_kept hv2.cell (grownBy_putObj' _ D (.deferred none)) (fun r e => by cases e; exact ⟨_, hK2, rfl⟩)
    refine ⟨.int .i64 (s.size : Int), ?_, ?_⟩
    · simp [results, Try.results49, go_sem, hc2]
    · exact ⟨ret_eq1 (int_eq (by rw [Hbad.out])), (hB.setCell (p := ⟨w.heap.size + 1, 0, none⟩) (by simp) _).trans (belowK_b (w := w) (Nat.le_refl _) _ D _ _ (by simp at hD; omega) hK2 rfl rfl)⟩
  case stop =>
    rintro D c pre W hD ⟨rest, hsp⟩ ⟨rfl, pre0, x, rfl, hp, hx, hv, hB⟩ hK
    have hc := hv.cell
    have hf := hv.frozen
    have Hbad := hide (show take s.data.toList = x.1 from by
      unfold take
      rw [stop_at (ok := nameOk) nameOk_neg hsp (fun p h => hp p h) hx]
      rfl)
    clear hsp hp hx
    gi_wp2
    refine ⟨by simp, .inl ⟨_, _, rfl, run_takeDeferred hK, ?_⟩⟩
    have hc2 := cell_kept hc (grownBy_putObj' _ D (.deferred none)) (fun r e => by cases e; exact ⟨_, hK, rfl⟩)
    refine ⟨.int .i64 (x.1 : Int), ?_, ?_⟩
    · simp [results, Try.results49, go_sem, hc2]
    · exact ⟨ret_eq1 (int_eq (by rw [Hbad.out])), hB.trans (belowK_b (w := w) (Nat.le_refl _) _ D _ _ (by simp at hD; omega) hK rfl rfl)⟩
theorem take_any (s : ByteArray) (w : World) (hs : s.size ≤ 1000000000) :
    Calls Try.prog 28 #[.string s] w fun e w' => e = .returned (.int .i64 (take s.data.toList : Nat)) ∧ Below w.heap.size w w' := by
  have HF := hide (front_any s w hs)
  generalize take s.data.toList = n at *
  go_enter Try.func28, Try.ntmps28
  go_wp2_with (go_at_call 49; refine HF.out.mono ?_; rintro e w' ⟨rfl, hb⟩)
  go_ret
  exact ⟨rfl, by assumption⟩
end Go.Proofs.Ytaickkaoglohgaa
namespace Go.Proofs.Ytaickkaoglohgaa
open Go.RowKit Tk

theorem sp_bits : ∀ n : Fin 64, (bits BinOp.and IntKind.u64 (4294977024 / 2 ^ n.val) 1 == 1) = sp (UInt8.ofNat n.val) := by decide +kernel
theorem sp_far {c : UInt8} (h : ¬ c.toNat < 64) : sp c = false := by
  unfold sp
  have e : ∀ k : UInt8, k.toNat < 64 → (c == k) = false := fun k hk => by
    rw [beq_eq_false_iff_ne]
    intro e
    rw [e] at h
    exact h hk
  rw [e 32 (by decide), e 9 (by decide), e 10 (by decide), e 13 (by decide)]
  rfl
end Go.Proofs.Ytaickkaoglohgaa
