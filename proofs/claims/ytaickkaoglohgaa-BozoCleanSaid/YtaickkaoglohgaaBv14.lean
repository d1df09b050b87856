/- Strict: a map that counts names with their namespaces: keys that are structs; 'there[n]++' by an entry. -/
import Derived.Test.YtaickkaoglohgaaBv13
import Derived.WideKeyEntry
import Derived.DeepKeys4
set_option linter.unusedSimpArgs false
set_option linter.unusedVariables false
namespace Go.Proofs.Ytaickkaoglohgaa
open Go.RowKit Tk Sx Go.WideShapes

theorem laidOut_ : laidOutB Try.prog = true := by kernel_rfl
theorem row_nm : (36 : TypeId) < Try.prog.types.size := of_decide_eq_true (by kernel_rfl)
theorem wide_nm : (match Try.prog.underlying 36 with | some (.array _ _) | some (.struct _) => true | _ => false) = true := by rw [Try.underlying36]
theorem at_nm : Try.prog.keyTypeAt 2 36 = true := by kernel_rfl
theorem key_nm : WideMaps.KeyLaw Try.prog 36 := deep_law_laid laidOut_ (m := 2) (by decide) row_nm at_nm (by rw [Try.underlying36])
theorem law_nm : Maps.Keyed Try.prog 36 := Maps.Keyed.of_law key_nm
theorem cells_nm : Try.prog.cellsOf 36 = 2 := by kernel_rfl
theorem cells_str : Try.prog.cellsOf 9 = 1 := by kernel_rfl
theorem keyT_nm : Try.prog.keyType 36 = true := by kernel_rfl
theorem types_nm : ∃ m, Try.prog.types.size = m + 1 := by
  have h := row_nm
  generalize Try.prog.types.size = s at h
  cases s with
  | zero => cases h
  | succ m => exact ⟨m, rfl⟩
def nmV (x : Nm) : Value := .agg #[.string (bstr x.ns), .string (bstr x.loc)]
def klN (x : Nm) : Lit := .string (keyBytes [.string x.ns, .string x.loc])
def SmallN (x : Nm) : Prop := x.ns.length ≤ 1000000000 ∧ x.loc.length ≤ 1000000000
theorem keyOf_nm {x : Nm} (h : SmallN x) : keyOf Try.prog 36 (nmV x) = some (klN x) := by
  have h1 : (bstr x.ns).size ≤ maxLen := by rw [bstr_size]; unfold maxLen; have := h.1; omega
  have h2 : (bstr x.loc).size ≤ maxLen := by rw [bstr_size]; unfold maxLen; have := h.2; omega
  obtain ⟨m, hm⟩ := types_nm
  unfold keyOf nmV
  simp only [Try.underlying36]
  rw [if_pos (by simp [keyT_nm, Value.formed, Try.underlying36, cells_nm]), hm]
  unfold Program.keyLits
  simp only [Try.underlying36, Value.cells]
  simp [cells_nm, cells_str, Program.keyLits, Try.underlying9, h1, h2, List.mapM_cons, klN, bstr_list]
theorem nmV_inj {x y : Nm} (h : nmV x = nmV y) : x = y := by
  unfold nmV at h
  simp only [Value.agg.injEq, Array.mk.injEq, List.cons.injEq, Value.string.injEq, and_true] at h
  cases x; cases y
  simp only [Nm.mk.injEq]
  exact ⟨str_inj h.1, str_inj h.2⟩
theorem klN_inj {x y : Nm} (hx : SmallN x) (hy : SmallN y) (h : klN x = klN y) : x = y :=
  nmV_inj (key_nm.inj (keyOf_nm hx) (by rw [h]; exact keyOf_nm hy))
/-- A map that counts names. -/
structure CntN (w : World) (b n : Nat) (seen : List Nm) (D : DataW Unit) : Prop where
  own : w.ownsMap Try.prog 36 (plainElem Try.prog 3) b n D
  is : Maps.IsMap D
  at_ : ∀ x : Nm, SmallN x → D.atKey (klN x) (.lit (.int .i64 0)) = .lit (.int .i64 (seen.count x : Nat))
theorem CntN.go {w w' : World} {b n : Nat} {seen : List Nm} {D : DataW Unit} (h : CntN w b n seen D) (hb : Below w.heap.size w w') : CntN w' b n seen D := ⟨map_same h.own (hb.block _ h.own.lt), h.is, h.at_⟩
theorem CntN.set {w : World} {b n : Nat} {seen : List Nm} {D : DataW Unit} (h : CntN w b n seen D) {p : Addr} (hp : b ≠ p.block) (u : Value) : CntN (w.setCell p u) b n seen D := ⟨map_same h.own (Below.heap_setCell _ _ _ _ hp), h.is, h.at_⟩
theorem CntN.but {w w' : World} {P b n : Nat} {seen : List Nm} {D : DataW Unit} (h : CntN w b n seen D) (hb : But P w w') (hP : b ≠ P) : CntN w' b n seen D := ⟨map_same h.own (hb.block _ h.own.lt hP), h.is, h.at_⟩
theorem CntN.kept {w w' : World} {row : Option Nat} {b n : Nat} {seen : List Nm} {D : DataW Unit} (h : CntN w b n seen D) (hg : w.grownBy w' row) (hne : some b ≠ row) : CntN w' b n seen D := ⟨h.own.kept hg hne, h.is, h.at_⟩
theorem CntN.block {w : World} {b n : Nat} {seen : List Nm} {D : DataW Unit} (h : CntN w b n seen D) : ∃ es cl, w.heap[b]? = some (.map es cl) := by
  obtain ⟨es, cl, hb, _⟩ := h.own
  exact ⟨es, cl, hb⟩
theorem cntN_nil (w : World) : CntN (w.alloc (.map #[] 0)) w.heap.size 0 [] (.map []) := ⟨World.ownsMap_made _ _ _ _, Maps.isMap_empty, fun _ _ => rfl⟩
theorem CntN.is_r {w : World} {b n q : Nat} {seen : List Nm} {D : DataW Unit} {x : Nm} {c : Int} (h : CntN w b n seen D) (hx : SmallN x) (hq : seen.count x = q) (hc : D.atKey (klN x) (.lit (.int .i64 0)) = .lit (.int .i64 c)) : c = (q : Int) := by
  rw [h.at_ x hx, hq] at hc
  injection hc with hc
  injection hc with _ hc
  exact hc.symm
theorem cntN_next {w w' : World} {b n q : Nat} {seen : List Nm} {D : DataW Unit} {x : Nm} (h : CntN w b n seen D) (hx : SmallN x) (hq : seen.count x = q) (ho : w'.ownsMap Try.prog 36 (plainElem Try.prog 3) b (n + 1) (D.put (klN x) (.lit (.int .i64 ((q : Int) + 1))))) : CntN w' b (n + 1) (seen ++ [x]) (D.put (klN x) (.lit (.int .i64 ((q : Int) + 1)))) := by
  subst hq
  refine ⟨ho, h.is.put _ _, fun y hy => ?_⟩
  by_cases hm : y = x
  · subst hm
    rw [Maps.atKey_put_same h.is (by simp [WideAt.IsKeyLit, klN])]
    simp
  · rw [Maps.atKey_put_other (fun e => hm (klN_inj hy hx e)), h.at_ y hy, List.count_append, List.count_singleton]
    have : (x == y) = false := by rw [beq_eq_false_iff_ne]; exact fun e => hm e.symm
    rw [this]
    simp
theorem setZ {w : World} {b : Nat} {o : Obj} : (ChangeMaps.setBlock w b o).heap.size = w.heap.size := by simp [ChangeMaps.setBlock]
theorem setB {w : World} {b : Nat} {o o' : Obj} (h : w.heap[b]? = some o') : (ChangeMaps.setBlock w b o).heap[b]? = some o := by
  have hlt := (Array.getElem?_eq_some_iff.1 h).1
  simp [ChangeMaps.setBlock, hlt]
theorem setG {w : World} {b : Nat} {o o' : Obj} (h : w.heap[b]? = some o') : w.grownBy (ChangeMaps.setBlock w b o) (some b) :=
  ⟨rfl, rfl, rfl, by simp [ChangeMaps.setBlock], fun k _ hk => by
    have hne : b ≠ k := fun e => hk (by rw [e])
    simp [ChangeMaps.setBlock, Array.getElem?_setIfInBounds, hne]⟩
/-- An entry is made, and what is put into it stands in the map; meanwhile a look-up at its key is as it was. -/
theorem own_entry {w : World} {t k e b n : Nat} {D : DataW Unit} {P : Program} {q : IntKind} (h : w.ownsMap P k (plainElem P e) b n D) (K : WideMaps.KeyLaw P k) (ht : P.underlying t = some (.map k e)) (he : P.underlying e = some (.int q)) (hz : ∀ u : World, (zeroValue e).run P u = .ok (.int q 0) u) (hn : n < maxLen)
    {key : Value} {kl : Lit} (hkey : keyOf P k key = some kl) :
    ∃ (v0 : Value) (st : Nat) (w1 : World), (Instr.mapEntry t (.map (some b)) key).run P w = .ok (.tuple #[v0, Value.int .i64 (st : Int)]) w1 ∧ w.grownBy w1 (some b) ∧ w1.heap.size = w.heap.size ∧
      (Instr.lookup t (.map (some b)) key false).run P w1 = .ok v0 w1 ∧ (Instr.lookup t (.map (some b)) key false).run P w = .ok v0 w ∧
      ∀ (val : Value) (d : DataW Unit) (ps : List MemPlace), plainElem P e val = some (d, ps) → ∀ w2 : World, w2.heap[b]? = w1.heap[b]? →
        ∃ w3, (Instr.entryStore t (.map (some b)) (.int .i64 (st : Int)) val).run P w2 = .ok () w3 ∧ w3.ownsMap P k (plainElem P e) b (n + 1) (D.put kl d) ∧ w2.grownBy w3 (some b) := by
  obtain ⟨es, clock, hb, F, hsz, hD⟩ := h
  have Ky := Maps.Keyed.of_law K
  have hown : w.ownsMap P k (plainElem P e) b n D := ⟨es, clock, hb, F, hsz, hD⟩
  obtain ⟨v0, st, es1, clock1, hme, hv0, hst⟩ := WideElems.entry_then_store K ht hz hb F hkey
  have hb1 : (ChangeMaps.setBlock w b (.map es1 clock1)).heap[b]? = some (.map es1 clock1) := setB hb
  refine ⟨v0, st, ChangeMaps.setBlock w b (.map es1 clock1), hme, setG hb, setZ, ?_, ?_, ?_⟩
  · rcases Ky.find w hkey es.toList F.keys with ⟨h1, h2⟩ | ⟨j, e0, h1, h2, h3⟩
    · have hme2 : (Instr.mapEntry t (.map (some b)) key).run P w = .ok (.tuple #[.int q 0, .int .i64 (clock : Int)]) (ChangeMaps.setBlock w b (.map (es.push ⟨key, .int q 0, clock⟩) (clock + 1))) := by
        simp [Instr.mapEntry, run_underlying ht, MapKept.run_getObj_map hb, Ky.check w false hkey, h1, hz, MapKept.run_setObj_map _ hb, Result.andThen, ChangeMaps.setBlock]
        rfl
      rw [hme2] at hme
      simp only [Result.ok.injEq] at hme
      obtain ⟨e1, e2⟩ := hme
      have e3 : (ChangeMaps.setBlock w b (.map (es.push ⟨key, .int q 0, clock⟩) (clock + 1))).heap[b]? = some (.map es1 clock1) := by rw [e2]; exact hb1
      rw [setB hb] at e3
      simp only [Option.some.injEq, Obj.map.injEq] at e3
      obtain ⟨e4, e5⟩ := e3
      have ez : v0 = .int q 0 := by simp at e1; exact e1.1.symm
      subst e4 e5
      rw [ez]
      rcases Ky.find (ChangeMaps.setBlock w b (.map (es.push ⟨key, .int q 0, clock⟩) (clock + 1))) hkey (es.push ⟨key, .int q 0, clock⟩).toList (fun x hx => by
        rw [Array.toList_push, List.mem_append] at hx
        rcases hx with hx | hx
        · exact F.keys x hx
        · simp only [List.mem_singleton] at hx
          subst hx
          exact ⟨kl, hkey⟩) with ⟨_, q2⟩ | ⟨j, e0, q1, q2, q3⟩
      · exact absurd rfl (q2 ⟨key, .int q 0, clock⟩ (by simp))
      · have hv : e0.val = .int q 0 := by
          have := List.mem_of_getElem? q2
          rw [Array.toList_push, List.mem_append] at this
          rcases this with hx | hx
          · exact absurd q3 (h2 e0 hx)
          · simp only [List.mem_singleton] at hx
            rw [hx]
        rw [Array.toList_push] at q1
        simp [Instr.lookup, run_underlying ht, MapKept.run_getObj_map hb1, Ky.check _ _ hkey, q1, Result.andThen, hv]
    · have hj : es[j]? = some e0 := by simpa using h2
      have hme2 : (Instr.mapEntry t (.map (some b)) key).run P w = .ok (.tuple #[e0.val, .int .i64 (e0.born : Int)]) (ChangeMaps.setBlock w b (.map es clock)) := by
        have hsame : es.modify j (fun e => { e with key := key }) = es := by
          apply Array.ext'
          rw [Array.toList_modify, ChangeMaps.modify_eq_set _ _ _ _ h2]
          have : ({ e0 with key := key } : MapEntry) = e0 := by rw [← h3]
          rw [this]
          exact WideElems.set_self _ _ _ h2
        simp [Instr.mapEntry, run_underlying ht, MapKept.run_getObj_map hb, Ky.check w false hkey, h1, hj, h3, Ky.stays w hkey, hsame, MapKept.run_setObj_map _ hb, Result.andThen, ChangeMaps.setBlock]
        rfl
      rw [hme2] at hme
      simp only [Result.ok.injEq] at hme
      obtain ⟨e1, e2⟩ := hme
      have e3 : (ChangeMaps.setBlock w b (.map es clock)).heap[b]? = some (.map es1 clock1) := by rw [e2]; exact hb1
      rw [setB hb] at e3
      simp only [Option.some.injEq, Obj.map.injEq] at e3
      obtain ⟨e4, e5⟩ := e3
      have ev : v0 = e0.val := by simp at e1; exact e1.1.symm
      subst e4 e5 ev
      have hsm : (ChangeMaps.setBlock w b (.map es clock)).ownsMap P k (plainElem P e) b n D := map_same hown (by rw [setB hb, hb])
      obtain ⟨c, r1, a1, _⟩ := hown.lookup_int Ky ht he (hz w) hkey
      obtain ⟨c', r2, a2, _⟩ := hsm.lookup_int Ky ht he (hz _) hkey
      rw [a1] at a2
      have ec : c = c' := by injection a2 with a2; injection a2 with _ a2
      have hl : (Instr.lookup t (.map (some b)) key false).run P w = .ok e0.val w := by simp [Instr.lookup, run_underlying ht, MapKept.run_getObj_map hb, Ky.check w _ hkey, h1, Result.andThen]
      rw [hl] at r1
      simp only [Result.ok.injEq, and_true] at r1
      rw [r1, ec]
      exact r2
  · rcases Ky.find w hkey es.toList F.keys with ⟨h1, h2⟩ | ⟨j, e0, h1, h2, h3⟩
    · rcases hv0 with ⟨e0, q1, q2, _⟩ | ⟨_, q2⟩
      · exact absurd q2 (h2 e0 q1)
      · rw [q2]
        simp [Instr.lookup, run_underlying ht, MapKept.run_getObj_map hb, Ky.check w _ hkey, h1, hz, Result.andThen]
    · have hj : es[j]? = some e0 := by simpa using h2
      have hme2 : (Instr.mapEntry t (.map (some b)) key).run P w = .ok (.tuple #[e0.val, .int .i64 (e0.born : Int)]) (ChangeMaps.setBlock w b (.map es clock)) := by
        have hsame : es.modify j (fun e => { e with key := key }) = es := by
          apply Array.ext'
          rw [Array.toList_modify, ChangeMaps.modify_eq_set _ _ _ _ h2]
          have : ({ e0 with key := key } : MapEntry) = e0 := by rw [← h3]
          rw [this]
          exact WideElems.set_self _ _ _ h2
        simp [Instr.mapEntry, run_underlying ht, MapKept.run_getObj_map hb, Ky.check w false hkey, h1, hj, h3, Ky.stays w hkey, hsame, MapKept.run_setObj_map _ hb, Result.andThen, ChangeMaps.setBlock]
        rfl
      rw [hme2] at hme
      simp only [Result.ok.injEq] at hme
      obtain ⟨e1, e2⟩ := hme
      have e3 : (ChangeMaps.setBlock w b (.map es clock)).heap[b]? = some (.map es1 clock1) := by rw [e2]; exact hb1
      rw [setB hb] at e3
      simp only [Option.some.injEq, Obj.map.injEq] at e3
      obtain ⟨e4, e5⟩ := e3
      have ev : v0 = e0.val := by simp at e1; exact e1.1.symm
      rw [ev]
      simp [Instr.lookup, run_underlying ht, MapKept.run_getObj_map hb, Ky.check w _ hkey, h1, Result.andThen]
  · intro val d ps hval w2 hw2
    obtain ⟨es', cl', g1, g2⟩ := hst w2 val (by rw [hw2]; exact hb1)
    obtain ⟨w', u1, u2, _⟩ := hown.update Ky ht hn hkey hval
    rw [g2] at u1
    simp only [Result.ok.injEq, true_and] at u1
    refine ⟨ChangeMaps.setBlock w2 b (.map es' cl'), g1, map_same u2 ?_, setG (hw2.trans hb1)⟩
    rw [← u1, setB (hw2.trans hb1), setB hb]
end Go.Proofs.Ytaickkaoglohgaa
