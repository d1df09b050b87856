/- A strings.Builder whose row is known: what its writers leave alone. · write.out: a strings.Builder in a block of type write.out (printed by genWrA.py out of XTxE). · Texts: IsLine, IsBlock. · References in plain data: what a reference names, the text that a text with references stands for; no program in sight. · UTF-8 and tokens in plain data: what stands at the front of a text is told by its own bytes; no program in sight. · The document's till: where the first such piece stands, from a byte on. · References: a digit's worth, where a reference ends, what a name names. -/
import Derived.Test.YtheaknghgpafpaaWv03
import Derived.Test.YtheaknghgpafpaaWv14
import Derived.Maps.AppendAt
import Derived.Lib.AppendStr
import Derived.Lib.UnsafeStr
import Derived.Deep.QuietTactic
import Derived.BigQuiet
import Derived.Deep.LoopGhost
import Derived.WalkSpells
import Derived.WalkLawsBesides
import Derived.Laws.IdiomStrings
set_option linter.unusedSimpArgs false
set_option linter.unusedVariables false
namespace Go.Proofs.Ytheaknghgpafpaa
open Go.RowKit Go.WideShapes

/-- append of a string: where the row lies then. -/
theorem append_str_at {P : Program} (w : World) (base : Nat) (t u ty e : TypeId) (i : TypeInfo) (ht : P.underlying t = some (.slice e)) (hu : P.underlying u = some .string) (hi : P.info? e = some i) (hz : i.zero = some (.int .u8 0))
    (hsize : i.size = 1) (hby : i.bytes = 1) (v : Value) (n : Nat) (xs : List Value) (hown : w.ownsRow base e 1 v n xs) (s : ByteArray) (hbytes : n + s.size ≤ 140737488355328)
    {v' : Value} {w' : World} (hr : (Builtin.append_ #[t, u] ty #[v, .string s]).run P w = .ok v' w') : v'.ownBlock = v.ownBlock ∨ v'.ownBlock = some w.heap.size := by
  have hxl : xs.length = n := by simpa using hown.1
  rcases hown.2 with ⟨rfl, rfl⟩ | ⟨g, cap, cur, rfl, hbg, hg, hnc, hcm, hcs, htake⟩
  · by_cases hm : s.size = 0
    · left
      have hf := Lib.run_firstCells_string (P := P) w 1 s
      rw [hm] at hf
      simp [Builtin.append_, run_underlying ht, run_underlying hu, sizeOf, typeInfo, hi, hsize, Builtin.lenOf, hm, hf] at hr
      rw [← hr.1]
    · right
      have h := run_append_nil_string (P := P) w t u ty e i (.int .u8 0) ht hu hi hz s (by omega) (by omega) (by rw [hby]; omega)
      rw [hr] at h
      injection h with h1 _
      rw [h1]; rfl
  · by_cases hroom : n + s.size ≤ cap
    · left
      have hcs' : cur.size = cap := by simpa using hcs
      have h := Lib.run_append_room_string (P := P) w t u ty e i ht hu hi hsize g n cap cur hg s hroom (by omega)
      rw [hr] at h
      injection h with h1 _
      rw [h1]; rfl
    · right
      have holds : ∀ j u, xs[j]? = some u → w.cell? ((⟨g, 0, none⟩ : Addr).add j) = some u := hown.cells (g := g) rfl
      have h := Lib.run_append_grow_string (P := P) w t u ty e i (.int .u8 0) ht hu hi hz ⟨g, 0, none⟩ n cap xs (by rw [hsize]; simpa using hxl) holds s (by omega) (by omega) (by rw [hby]; exact growslice_fits (by omega) (by omega))
      rw [hr] at h
      injection h with h1 _
      rw [h1]; rfl
theorem wpList_append_string_at {P : Program} (w : World) {ops : Array Oper} {rest : List Oper} {o : Oper} {a : Act} {Q : Exit → Act → World → Prop} (hgd : o.guard = none) (sl x : Operand) (t u : TypeId)
    (ho : o.op = .call { callee := .builtin .append, args := #[sl, x], argTypes := #[t, u] })
    (base : Nat) (e : TypeId) (ht : P.underlying t = some (.slice e)) (hu : P.underlying u = some .string) (hinfo : (P.info? e).map (fun i => (i.zero, i.size, i.bytes)) = some (some (.int .u8 0), 1, 1))
    (v : Value) (n : Nat) (xs : List Value) (hs : a.eval sl = v) (hown : w.ownsRow base e 1 v n xs) (s : ByteArray) (hx : a.eval x = .string s)
    (hbytes : n + s.size ≤ 140737488355328) (hbase : base ≤ w.heap.size)
    (h : ∀ v' w', w'.ownsRow base e 1 v' (n + s.size) (xs ++ Lib.strCells s) → w.grownBy w' v.ownBlock → (v'.ownBlock = v.ownBlock ∨ v'.ownBlock = some w.heap.size) → wpList P ops Q rest (a.put o.dst v') w') : wpList P ops Q (o :: rest) a w := by
  refine wpList_plain hgd fun K hK => ?_
  obtain ⟨i, hi, hz, hsize, hby⟩ := info_parts hinfo
  obtain ⟨v', w', hr, h2, h3, _⟩ := Lib.run_append_own_string (P := P) w base t u o.type e i ht hu hi hz hsize hby v n xs hown s (by unfold maxLen; omega) hbytes hbase
  have h4 := append_str_at (P := P) w base t u o.type e i ht hu hi hz hsize hby v n xs hown s hbytes hr
  unfold Oper.wp execOp
  simp only [ho, resolve, invoke, builtin, Sem.run_bind, Sem.run_pure, Result.andThen_ok, List.map_toArray, List.map_cons, List.map_nil, hs, hx, hr]
  exact hK _ _ (h v' w' h2 h3 h4)
/-- A builder whose buffer lies in block r. -/
def Bf (B b : Nat) (l : List UInt8) (r : Option Nat) (w : World) : Prop :=
  B ≤ b ∧ ∃ p v, (p = .pointer none ∨ p = .pointer (some ⟨b, 0, none⟩)) ∧ Blk w b 41 #[p, v] ∧ w.ownsRow B 5 1 v l.length (Lib.byteCells l) ∧ v.ownBlock = r
/-- All but the builder and its row is as it was. -/
structure Fz (b : Nat) (r : Option Nat) (w w' : World) : Prop where
  os : w'.os = w.os
  tape : w'.tape = w.tape
  output : w'.output = w.output
  size : w.heap.size ≤ w'.heap.size
  block : ∀ k, k < w.heap.size → k ≠ b → some k ≠ r → w'.heap[k]? = w.heap[k]?
theorem Fz.refl (b : Nat) (r : Option Nat) (w : World) : Fz b r w w := ⟨rfl, rfl, rfl, Nat.le_refl _, fun _ _ _ _ => rfl⟩
theorem Bf.bx {B b : Nat} {l : List UInt8} {r : Option Nat} {w : World} (h : Bf B b l r w) : Bx B b l w := by
  obtain ⟨hB, p, v, hp, hk, ho, _⟩ := h
  have hat : Lib.BuilderAt 41 5 B b p (Lib.byteCells l) w := ⟨hB, v, hk, by rw [Lib.byteCells_length]; exact ho, own_blk_ne ho hk (by decide)⟩
  rcases hp with rfl | rfl
  · exact .inl hat
  · exact .inr hat
theorem Bf.fresh (w : World) : Bf w.heap.size w.heap.size [] none (w.alloc (.cells #[.pointer none, .slice none 0 0] 41)) :=
  ⟨Nat.le_refl _, _, _, .inl rfl, Blk.new w _ _, World.ownsRow_nil _ _ _ _, rfl⟩
/-- So far: the row is the first one, or a new one. -/
def Bg (W0 : World) (B b : Nat) (r0 : Option Nat) (l : List UInt8) (W : World) : Prop := ∃ r, Bf B b l r W ∧ (r = r0 ∨ ∃ k, r = some k ∧ W0.heap.size ≤ k) ∧ Fz b r0 W0 W
theorem Bg.step {W0 W W' : World} {B b : Nat} {r0 r : Option Nat} {l' : List UInt8} (h0 : r = r0 ∨ ∃ k, r = some k ∧ W0.heap.size ≤ k) (hz : Fz b r0 W0 W) (h : Bg W B b r l' W') : Bg W0 B b r0 l' W' := by
  obtain ⟨r', hb, hr, hf⟩ := h
  refine ⟨r', hb, ?_, ⟨hf.os.trans hz.os, hf.tape.trans hz.tape, hf.output.trans hz.output, Nat.le_trans hz.size hf.size, fun k hk hne hkr => (hf.block k (Nat.lt_of_lt_of_le hk hz.size) hne ?_).trans (hz.block k hk hne hkr)⟩⟩
  · rcases hr with rfl | ⟨k, rfl, hk⟩
    · exact h0
    · exact .inr ⟨k, rfl, Nat.le_trans hz.size hk⟩
  · rcases h0 with rfl | ⟨k0, rfl, hk0⟩
    · exact hkr
    · intro e; injection e with e; omega
/-- copyCheck: the address is there. -/
theorem cc_f {B b : Nat} {l : List UInt8} {r : Option Nat} {w : World} (h : Bf B b l r w) :
    Calls Try.prog 30 #[.pointer (some ⟨b, 0, none⟩)] w fun e w' => e = .returned (.tuple #[]) ∧ ∃ v, Blk w' b 41 #[.pointer (some ⟨b, 0, none⟩), v] ∧ w'.ownsRow B 5 1 v l.length (Lib.byteCells l) ∧ v.ownBlock = r ∧ Fz b r w w' := by
  obtain ⟨hB, p, v, hp, hk, ho, hr⟩ := h
  have hne := own_blk_ne ho hk (by decide)
  rcases hp with rfl | rfl
  · refine (cc_fresh b w (hk.cell 0) (by unfold Blk at hk; simp [World.shape?, hk]) (hk.frozen 0)).mono ?_
    rintro e w' ⟨rfl, rfl⟩
    refine ⟨rfl, v, by simpa using hk.set_ 0 (.pointer (some ⟨b, 0, none⟩)), ownsRow_setCell_other ho hne _, hr, ⟨rfl, rfl, rfl, by simp [World.setCell], fun k hk2 h1 h2 => Below.heap_setCell _ _ _ _ (by exact h1)⟩⟩
  · refine (cc_used b w (hk.cell 0)).mono ?_
    rintro e w' ⟨rfl, rfl⟩
    exact ⟨rfl, v, hk, ho, hr, Fz.refl _ _ _⟩
theorem fz_end {B b : Nat} {r : Option Nat} {l' : List UInt8} {w w1 w2 : World} {v v' : Value} (hB : B ≤ b) (hf : Fz b r w w1) (hk : Blk w1 b 41 #[.pointer (some ⟨b, 0, none⟩), v]) (hr : v.ownBlock = r) (hne : v.ownBlock ≠ some b)
    (ho : w2.ownsRow B 5 1 v' l'.length (Lib.byteCells l')) (hg : w1.grownBy w2 v.ownBlock) (hat : v'.ownBlock = v.ownBlock ∨ ∃ k, v'.ownBlock = some k ∧ w1.heap.size ≤ k) : Bg w B b r l' (w2.setCell ⟨b, 1, none⟩ v') := by
  have hk2 : Blk w2 b 41 #[.pointer (some ⟨b, 0, none⟩), v] := hk.grown hg (fun e => hne e.symm)
  have hne2 := own_blk_ne ho hk2 (by decide)
  refine ⟨v'.ownBlock, ⟨hB, _, v', .inr rfl, by simpa using hk2.set_ 1 v', ownsRow_setCell_other ho hne2 _, rfl⟩, ?_, ⟨hg.os.trans hf.os, hg.tape.trans hf.tape, hg.output.trans hf.output, ?_, fun k h1 h2 h3 => ?_⟩⟩
  · rcases hat with h | ⟨k, h, hk3⟩
    · exact .inl (h.trans hr)
    · exact .inr ⟨k, h, Nat.le_trans hf.size hk3⟩
  · have := hf.size; have := hg.size; simp only [World.setCell, Array.size_modify]; omega
  · rw [Below.heap_setCell _ _ _ _ (by exact h2), hg.block k (Nat.lt_of_lt_of_le h1 hf.size) (by rw [hr]; exact h3)]
    exact hf.block k h1 h2 h3
set_option maxHeartbeats 2000000 in
set_option maxRecDepth 100000 in
theorem ws_f {B b : Nat} {l : List UInt8} {r : Option Nat} {w : World} (m : List UInt8) (h : Bf B b l r w) (hlen : l.length + m.length ≤ 140737488355328) (hBw : B ≤ w.heap.size) :
    Calls Try.prog 21 #[.pointer (some ⟨b, 0, none⟩), .string (bstr m)] w fun e w' => (∃ v, e = .returned v) ∧ Bg w B b r (l ++ m) w' := by
  have hB := h.1
  have HC := hide (cc_f h)
  have hms : (bstr m).size = m.length := bstr_size m
  have HM := hide hms
  clear h
  go_enter Try.func21, Try.ntmps21
  go_wp2_with fail
  refine HC.out.mono ?_
  rintro e w1 ⟨rfl, v, hk, ho, hr, hf⟩
  have hne := own_blk_ne ho hk (by decide)
  have HK := hide hk
  have HO := hide ho
  have HF := hide hf
  have Hr := hide hr
  have HN := hide hne
  have c0 := hk.cell 0
  have c1 := hk.cell 1
  have hsz := hf.size
  have HB := hide hB
  have hbw1 : B ≤ w1.heap.size := Nat.le_trans hBw hsz
  clear hk ho hr hf hne hms hB
  dsimp only
  go_wp2_with (at_builtin; go_loud (refine wpList_append_string_at w1 rfl _ _ 39 9 rfl B 5 Try.underlying39 Try.underlying9 info_u8b _ _ _ rfl HO.out (bstr m) rfl (by rw [HM.out]; exact hlen) hbw1 ?_); intro v' w2 ho2 hg2 hat2; have hk2 := HK.out.grown hg2 (fun e => HN.out e.symm); have d0 := hk2.cell 0; have d1 := hk2.cell 1; have f1 := hk2.frozen 1; have HO2 := hide ho2; have HG2 := hide hg2; have HA2 := hide hat2; obtain ⟨ao, cap, rfl⟩ := own_form ho2; clear ho2 hg2 hat2 hk2)
  go_ret2
  refine ⟨⟨_, rfl⟩, ?_⟩
  refine fz_end HB.out HF.out HK.out Hr.out HN.out ?_ HG2.out (HA2.out.imp id fun h => ⟨_, h, Nat.le_refl _⟩)
  have h := HO2.out
  rw [HM.out] at h
  rw [List.length_append, bxcells_app]
  exact h
set_option maxHeartbeats 2000000 in
set_option maxRecDepth 100000 in
theorem wb_f {B b : Nat} {l : List UInt8} {r : Option Nat} {w : World} (c : UInt8) (h : Bf B b l r w) (hlen : l.length + 1 ≤ 140737488355328) (hBw : B ≤ w.heap.size) :
    Calls Try.prog 22 #[.pointer (some ⟨b, 0, none⟩), .int .u8 (c.toNat : Nat)] w fun e w' => e = .returned .nilIface ∧ Bg w B b r (l ++ [c]) w' := by
  have hB := h.1
  have HC := hide (cc_f h)
  obtain ⟨i0, hi, hz0, hz1, hz2⟩ := info_parts info_u8b
  clear h
  go_enter Try.func22, Try.ntmps22
  go_wp2_with fail
  refine HC.out.mono ?_
  rintro e w1 ⟨rfl, v, hk, ho, hr, hf⟩
  have hne := own_blk_ne ho hk (by decide)
  have HK := hide hk
  have HO := hide ho
  have HF := hide hf
  have Hr := hide hr
  have HN := hide hne
  have c0 := hk.cell 0
  have c1 := hk.cell 1
  have hsz := hf.size
  have HB := hide hB
  have hbw1 : B ≤ w1.heap.size := Nat.le_trans hBw hsz
  clear hk ho hr hf hne hB
  dsimp only
  go_wp2_with (at_builtin; refine wpList_append_own_at _ rfl _ _ 39 rfl B 5 i0 (.int .u8 0) 1 1 Try.underlying39 hi hz0 hz1 hz2 rfl (by decide) _ _ _ rfl (HO.out.alloc _) ⟨w1.heap.size, 0, none⟩ 1 1 [.int .u8 (c.toNat : Nat)] rfl rfl ?c1 ?c2 ?c3 ?c4 ?c5 ?_)
  case c1 =>
    intro j u hj
    match j, hj with
    | 0, hj => simp at hj; subst hj; simp [Addr.add]
  case c2 => intro u hu; simp at hu; subst hu; rfl
  case c3 => unfold maxLen; omega
  case c4 => omega
  case c5 => simp; omega
  intro v' w2 ho2 hg2 _ hat2
  have hg3 : w1.grownBy w2 v.ownBlock := ⟨hg2.os, hg2.tape, hg2.output, Nat.le_trans (by simp) hg2.size, fun k hk hne => (hg2.block k (by simp; omega) hne).trans (Below.heap_alloc w1 _ k hk)⟩
  have hat3 : v'.ownBlock = v.ownBlock ∨ ∃ k, v'.ownBlock = some k ∧ w1.heap.size ≤ k := by
    rcases hat2 with h | h
    · exact .inl h
    · exact .inr ⟨_, h, by simp⟩
  have hk2 := HK.out.grown hg3 (fun e => HN.out e.symm)
  have d0 := hk2.cell 0
  have d1 := hk2.cell 1
  have f1 := hk2.frozen 1
  have HO2 := hide ho2
  have HG2 := hide hg3
  have HA2 := hide hat3
  obtain ⟨ao, cap, rfl⟩ := own_form ho2
  clear ho2 hg2 hg3 hat2 hat3 hk2
  go_wp2
  go_ret
  refine ⟨rfl, ?_⟩
  refine fz_end HB.out HF.out HK.out Hr.out HN.out ?_ HG2.out HA2.out
  rw [List.length_append, bxcells_app]
  exact HO2.out
end Go.Proofs.Ytheaknghgpafpaa
namespace Go.Proofs.Ytheaknghgpafpaa
open Go.RowKit Go.WideShapes

theorem lies_out : liesAt Try.prog Try.prog.depth 43 (2 / Try.prog.cellsOf 43) 0 41 1 = true := by kernel_rfl
set_option maxHeartbeats 1000000 in
set_option maxRecDepth 100000 in
theorem cc_freshW (b : Nat) (w : World) (h0 : w.cell? ⟨b, 0, none⟩ = some (.pointer none)) (hsh : w.shape? b = some (43, 2)) (hfz : w.frozen? ⟨b, 0, none⟩ = false) :
    Calls Try.prog 30 #[.pointer (some ⟨b, 0, none⟩)] w fun e w' => e = .returned (.tuple #[]) ∧ w' = w.setCell ⟨b, 0, none⟩ (.pointer (some ⟨b, 0, none⟩)) := by
  obtain ⟨j, hj, hjs⟩ := Option.map_eq_some_iff.1 info_bld
  go_enter Try.func30, Try.ntmps30
  go_wp2
  rw [Lib.run_to_unsafe w ⟨b, 0, none⟩ Try.underlying38 Try.underlying77 hj (by rw [hjs]; decide) hsh (Nat.zero_lt_succ 1)]
  simp only [Result.andThen]
  rw [Oper.upon_value]
  go_wp2
  rw [run_callFunc_extern Try.func38 (by kernel_rfl) (by kernel_rfl) (by kernel_rfl) (e := Extern.AbiNoEscape.same) (by kernel_rfl)]
  rw [Lib.run_noEscape]
  simp only [Result.andThen]
  rw [Oper.upon_value]
  go_wp2
  rw [Lib.run_from_unsafe w ⟨b, 0, none⟩ Try.underlying77 Try.underlying38 hj hsh lies_out]
  simp only [Result.andThen]
  rw [Oper.upon_value]
  go_wp2
  go_end0
  exact ⟨rfl, rfl⟩
/-- A builder whose buffer lies in block r. -/
def Wf (B b : Nat) (l : List UInt8) (r : Option Nat) (w : World) : Prop :=
  B ≤ b ∧ ∃ p v, (p = .pointer none ∨ p = .pointer (some ⟨b, 0, none⟩)) ∧ Blk w b 43 #[p, v] ∧ w.ownsRow B 5 1 v l.length (Lib.byteCells l) ∧ v.ownBlock = r
theorem Wf.fresh (w : World) : Wf w.heap.size w.heap.size [] none (w.alloc (.cells #[.pointer none, .slice none 0 0] 43)) :=
  ⟨Nat.le_refl _, _, _, .inl rfl, Blk.new w _ _, World.ownsRow_nil _ _ _ _, rfl⟩
/-- So far: the row is the first one, or a new one. -/
def Wg (W0 : World) (B b : Nat) (r0 : Option Nat) (l : List UInt8) (W : World) : Prop := ∃ r, Wf B b l r W ∧ (r = r0 ∨ ∃ k, r = some k ∧ W0.heap.size ≤ k) ∧ Fz b r0 W0 W
theorem Wg.step {W0 W W' : World} {B b : Nat} {r0 r : Option Nat} {l' : List UInt8} (h0 : r = r0 ∨ ∃ k, r = some k ∧ W0.heap.size ≤ k) (hz : Fz b r0 W0 W) (h : Wg W B b r l' W') : Wg W0 B b r0 l' W' := by
  obtain ⟨r', hb, hr, hf⟩ := h
  refine ⟨r', hb, ?_, ⟨hf.os.trans hz.os, hf.tape.trans hz.tape, hf.output.trans hz.output, Nat.le_trans hz.size hf.size, fun k hk hne hkr => (hf.block k (Nat.lt_of_lt_of_le hk hz.size) hne ?_).trans (hz.block k hk hne hkr)⟩⟩
  · rcases hr with rfl | ⟨k, rfl, hk⟩
    · exact h0
    · exact .inr ⟨k, rfl, Nat.le_trans hz.size hk⟩
  · rcases h0 with rfl | ⟨k0, rfl, hk0⟩
    · exact hkr
    · intro e; injection e with e; omega
theorem wf_lt {B b : Nat} {l : List UInt8} {r : Option Nat} {w : World} (h : Wf B b l r w) : b < w.heap.size := by
  obtain ⟨_, p, v, _, hk, _⟩ := h
  exact hk.lt
/-- copyCheck: the address is there. -/
theorem cc_w {B b : Nat} {l : List UInt8} {r : Option Nat} {w : World} (h : Wf B b l r w) :
    Calls Try.prog 30 #[.pointer (some ⟨b, 0, none⟩)] w fun e w' => e = .returned (.tuple #[]) ∧ ∃ v, Blk w' b 43 #[.pointer (some ⟨b, 0, none⟩), v] ∧ w'.ownsRow B 5 1 v l.length (Lib.byteCells l) ∧ v.ownBlock = r ∧ Fz b r w w' := by
  obtain ⟨hB, p, v, hp, hk, ho, hr⟩ := h
  have hne := own_blk_ne ho hk (by decide)
  rcases hp with rfl | rfl
  · refine (cc_freshW b w (hk.cell 0) (by unfold Blk at hk; simp [World.shape?, hk]) (hk.frozen 0)).mono ?_
    rintro e w' ⟨rfl, rfl⟩
    refine ⟨rfl, v, by simpa using hk.set_ 0 (.pointer (some ⟨b, 0, none⟩)), ownsRow_setCell_other ho hne _, hr, ⟨rfl, rfl, rfl, by simp [World.setCell], fun k hk2 h1 h2 => Below.heap_setCell _ _ _ _ (by exact h1)⟩⟩
  · refine (cc_used b w (hk.cell 0)).mono ?_
    rintro e w' ⟨rfl, rfl⟩
    exact ⟨rfl, v, hk, ho, hr, Fz.refl _ _ _⟩
theorem wz_end {B b : Nat} {r : Option Nat} {l' : List UInt8} {w w1 w2 : World} {v v' : Value} (hB : B ≤ b) (hf : Fz b r w w1) (hk : Blk w1 b 43 #[.pointer (some ⟨b, 0, none⟩), v]) (hr : v.ownBlock = r) (hne : v.ownBlock ≠ some b)
    (ho : w2.ownsRow B 5 1 v' l'.length (Lib.byteCells l')) (hg : w1.grownBy w2 v.ownBlock) (hat : v'.ownBlock = v.ownBlock ∨ ∃ k, v'.ownBlock = some k ∧ w1.heap.size ≤ k) : Wg w B b r l' (w2.setCell ⟨b, 1, none⟩ v') := by
  have hk2 : Blk w2 b 43 #[.pointer (some ⟨b, 0, none⟩), v] := hk.grown hg (fun e => hne e.symm)
  have hne2 := own_blk_ne ho hk2 (by decide)
  refine ⟨v'.ownBlock, ⟨hB, _, v', .inr rfl, by simpa using hk2.set_ 1 v', ownsRow_setCell_other ho hne2 _, rfl⟩, ?_, ⟨hg.os.trans hf.os, hg.tape.trans hf.tape, hg.output.trans hf.output, ?_, fun k h1 h2 h3 => ?_⟩⟩
  · rcases hat with h | ⟨k, h, hk3⟩
    · exact .inl (h.trans hr)
    · exact .inr ⟨k, h, Nat.le_trans hf.size hk3⟩
  · have := hf.size; have := hg.size; simp only [World.setCell, Array.size_modify]; omega
  · rw [Below.heap_setCell _ _ _ _ (by exact h2), hg.block k (Nat.lt_of_lt_of_le h1 hf.size) (by rw [hr]; exact h3)]
    exact hf.block k h1 h2 h3
set_option maxHeartbeats 2000000 in
set_option maxRecDepth 100000 in
theorem ws_w {B b : Nat} {l : List UInt8} {r : Option Nat} {w : World} (m : List UInt8) (h : Wf B b l r w) (hlen : l.length + m.length ≤ 140737488355328) (hBw : B ≤ w.heap.size) :
    Calls Try.prog 21 #[.pointer (some ⟨b, 0, none⟩), .string (bstr m)] w fun e w' => (∃ v, e = .returned v) ∧ Wg w B b r (l ++ m) w' := by
  have hB := h.1
  have HC := hide (cc_w h)
  have hms : (bstr m).size = m.length := bstr_size m
  have HM := hide hms
  clear h
  go_enter Try.func21, Try.ntmps21
  go_wp2_with fail
  refine HC.out.mono ?_
  rintro e w1 ⟨rfl, v, hk, ho, hr, hf⟩
  have hne := own_blk_ne ho hk (by decide)
  have HK := hide hk
  have HO := hide ho
  have HF := hide hf
  have Hr := hide hr
  have HN := hide hne
  have c0 := hk.cell 0
  have c1 := hk.cell 1
  have hsz := hf.size
  have HB := hide hB
  have hbw1 : B ≤ w1.heap.size := Nat.le_trans hBw hsz
  clear hk ho hr hf hne hms hB
  dsimp only
  go_wp2_with (at_builtin; go_loud (refine wpList_append_string_at w1 rfl _ _ 39 9 rfl B 5 Try.underlying39 Try.underlying9 info_u8b _ _ _ rfl HO.out (bstr m) rfl (by rw [HM.out]; exact hlen) hbw1 ?_); intro v' w2 ho2 hg2 hat2; have hk2 := HK.out.grown hg2 (fun e => HN.out e.symm); have d0 := hk2.cell 0; have d1 := hk2.cell 1; have f1 := hk2.frozen 1; have HO2 := hide ho2; have HG2 := hide hg2; have HA2 := hide hat2; obtain ⟨ao, cap, rfl⟩ := own_form ho2; clear ho2 hg2 hat2 hk2)
  go_ret2
  refine ⟨⟨_, rfl⟩, ?_⟩
  refine wz_end HB.out HF.out HK.out Hr.out HN.out ?_ HG2.out (HA2.out.imp id fun h => ⟨_, h, Nat.le_refl _⟩)
  have h := HO2.out
  rw [HM.out] at h
  rw [List.length_append, bxcells_app]
  exact h
set_option maxHeartbeats 2000000 in
set_option maxRecDepth 100000 in
theorem wb_w {B b : Nat} {l : List UInt8} {r : Option Nat} {w : World} (c : UInt8) (h : Wf B b l r w) (hlen : l.length + 1 ≤ 140737488355328) (hBw : B ≤ w.heap.size) :
    Calls Try.prog 22 #[.pointer (some ⟨b, 0, none⟩), .int .u8 (c.toNat : Nat)] w fun e w' => e = .returned .nilIface ∧ Wg w B b r (l ++ [c]) w' := by
  have hB := h.1
  have HC := hide (cc_w h)
  obtain ⟨i0, hi, hz0, hz1, hz2⟩ := info_parts info_u8b
  clear h
  go_enter Try.func22, Try.ntmps22
  go_wp2_with fail
  refine HC.out.mono ?_
  rintro e w1 ⟨rfl, v, hk, ho, hr, hf⟩
  have hne := own_blk_ne ho hk (by decide)
  have HK := hide hk
  have HO := hide ho
  have HF := hide hf
  have Hr := hide hr
  have HN := hide hne
  have c0 := hk.cell 0
  have c1 := hk.cell 1
  have hsz := hf.size
  have HB := hide hB
  have hbw1 : B ≤ w1.heap.size := Nat.le_trans hBw hsz
  clear hk ho hr hf hne hB
  dsimp only
  go_wp2_with (at_builtin; refine wpList_append_own_at _ rfl _ _ 39 rfl B 5 i0 (.int .u8 0) 1 1 Try.underlying39 hi hz0 hz1 hz2 rfl (by decide) _ _ _ rfl (HO.out.alloc _) ⟨w1.heap.size, 0, none⟩ 1 1 [.int .u8 (c.toNat : Nat)] rfl rfl ?c1 ?c2 ?c3 ?c4 ?c5 ?_)
  case c1 =>
    intro j u hj
    match j, hj with
    | 0, hj => simp at hj; subst hj; simp [Addr.add]
  case c2 => intro u hu; simp at hu; subst hu; rfl
  case c3 => unfold maxLen; omega
  case c4 => omega
  case c5 => simp; omega
  intro v' w2 ho2 hg2 _ hat2
  have hg3 : w1.grownBy w2 v.ownBlock := ⟨hg2.os, hg2.tape, hg2.output, Nat.le_trans (by simp) hg2.size, fun k hk hne => (hg2.block k (by simp; omega) hne).trans (Below.heap_alloc w1 _ k hk)⟩
  have hat3 : v'.ownBlock = v.ownBlock ∨ ∃ k, v'.ownBlock = some k ∧ w1.heap.size ≤ k := by
    rcases hat2 with h | h
    · exact .inl h
    · exact .inr ⟨_, h, by simp⟩
  have hk2 := HK.out.grown hg3 (fun e => HN.out e.symm)
  have d0 := hk2.cell 0
  have d1 := hk2.cell 1
  have f1 := hk2.frozen 1
  have HO2 := hide ho2
  have HG2 := hide hg3
  have HA2 := hide hat3
  obtain ⟨ao, cap, rfl⟩ := own_form ho2
  clear ho2 hg2 hg3 hat2 hat3 hk2
  go_wp2
  go_ret
  refine ⟨rfl, ?_⟩
  refine wz_end HB.out HF.out HK.out Hr.out HN.out ?_ HG2.out HA2.out
  rw [List.length_append, bxcells_app]
  exact HO2.out
end Go.Proofs.Ytheaknghgpafpaa
namespace Go.Proofs.Ytheaknghgpafpaa
open Go.RowKit Go.WideShapes

theorem bstr_ne {a b : List UInt8} (h : a ≠ b) : bstr a ≠ bstr b := fun e => h (str_inj e)
theorem bstr_beq {a b : List UInt8} (h : a ≠ b) : ((bstr a).toList == (bstr b).toList) = false := by
  rw [ByteArray.toList_eq, ByteArray.toList_eq, bstr_list, bstr_list]
  exact beq_eq_false_iff_ne.2 h
set_option maxHeartbeats 4000000 in
theorem isLine_any (l : List UInt8) (w : World) (hs : l.length ≤ 200000) :
    Calls Try.prog 27 #[.string (bstr l)] w fun e w' => e = .returned (.bool (Tx.isLine l)) ∧ Below w.heap.size w w' := by
  have H1 := hide (right_any l w hs)
  have H2 := hide (fun W => line_any l W hs)
  unfold Tx.isLine
  cases hv : Tx.right l with
  | false =>
    rw [hv] at H1
    clear hv
    go_enter Try.func27, Try.ntmps27
    go_wp2_with fail
    refine H1.out.mono ?_
    rintro e w1 ⟨rfl, hb⟩
    have HB := hide hb
    clear hb
    dsimp only
    go_wp2
    go_ret
    exact ⟨rfl, HB.out⟩
  | true =>
    rw [hv] at H1
    clear hv
    by_cases he : Tx.line l = l
    · rw [decide_eq_true he]
      rw [he] at H2
      clear he
      go_enter Try.func27, Try.ntmps27
      go_wp2_with fail
      refine H1.out.mono ?_
      rintro e w1 ⟨rfl, hb⟩
      have HB := hide hb
      clear hb
      dsimp only
      go_wp2_with fail
      refine (H2.out w1).mono ?_
      rintro e w2 ⟨rfl, hb⟩
      have HB2 := hide (HB.out.trans (hb.mono HB.out.size))
      clear hb
      dsimp only
      go_wp2
      go_ret
      exact ⟨rfl, HB2.out⟩
    · rw [decide_eq_false he]
      have hne := bstr_ne he
      have hbq := bstr_beq he
      clear he
      generalize Tx.line l = m at *
      go_enter Try.func27, Try.ntmps27
      go_wp2_with fail
      refine H1.out.mono ?_
      rintro e w1 ⟨rfl, hb⟩
      have HB := hide hb
      clear hb
      dsimp only
      go_wp2_with fail
      refine (H2.out w1).mono ?_
      rintro e w2 ⟨rfl, hb⟩
      have HB2 := hide (HB.out.trans (hb.mono HB.out.size))
      clear hb
      dsimp only
      go_wp2
      go_ret
      exact ⟨rfl, HB2.out⟩
set_option maxHeartbeats 4000000 in
theorem isBlock_any (l : List UInt8) (w : World) (hs : l.length ≤ 200000) :
    Calls Try.prog 20 #[.string (bstr l)] w fun e w' => e = .returned (.bool (Tx.isBlock l)) ∧ Below w.heap.size w w' := by
  have H1 := hide (right_any l w hs)
  have H2 := hide (fun W => block_any l W hs)
  unfold Tx.isBlock
  cases hv : Tx.right l with
  | false =>
    rw [hv] at H1
    clear hv
    go_enter Try.func20, Try.ntmps20
    go_wp2_with fail
    refine H1.out.mono ?_
    rintro e w1 ⟨rfl, hb⟩
    have HB := hide hb
    clear hb
    dsimp only
    go_wp2
    go_ret
    exact ⟨rfl, HB.out⟩
  | true =>
    rw [hv] at H1
    clear hv
    by_cases he : Tx.block l = l
    · rw [decide_eq_true he]
      rw [he] at H2
      clear he
      go_enter Try.func20, Try.ntmps20
      go_wp2_with fail
      refine H1.out.mono ?_
      rintro e w1 ⟨rfl, hb⟩
      have HB := hide hb
      clear hb
      dsimp only
      go_wp2_with fail
      refine (H2.out w1).mono ?_
      rintro e w2 ⟨rfl, hb⟩
      have HB2 := hide (HB.out.trans (hb.mono HB.out.size))
      clear hb
      dsimp only
      go_wp2
      go_ret
      exact ⟨rfl, HB2.out⟩
    · rw [decide_eq_false he]
      have hne := bstr_ne he
      have hbq := bstr_beq he
      clear he
      generalize Tx.block l = m at *
      go_enter Try.func20, Try.ntmps20
      go_wp2_with fail
      refine H1.out.mono ?_
      rintro e w1 ⟨rfl, hb⟩
      have HB := hide hb
      clear hb
      dsimp only
      go_wp2_with fail
      refine (H2.out w1).mono ?_
      rintro e w2 ⟨rfl, hb⟩
      have HB2 := hide (HB.out.trans (hb.mono HB.out.size))
      clear hb
      dsimp only
      go_wp2
      go_ret
      exact ⟨rfl, HB2.out⟩
end Go.Proofs.Ytheaknghgpafpaa
namespace Go.Proofs.Ytheaknghgpafpaa
open Go Tk
namespace Sx
end Sx
end Go.Proofs.Ytheaknghgpafpaa
namespace Go.Proofs.Ytheaknghgpafpaa
namespace Utf

end Utf
namespace Tk
end Tk
end Go.Proofs.Ytheaknghgpafpaa
namespace Go.Proofs.Ytheaknghgpafpaa
open Go.RowKit Tk

end Go.Proofs.Ytheaknghgpafpaa
namespace Go.Proofs.Ytheaknghgpafpaa
open Go.RowKit Tk Sx

/-- '[]byte(s)': a new row of the string's bytes. -/
theorem bytes_of (s : ByteArray) (w : World) : ∃ W g cap, (Go.convert 9 39 (.string s)).run Try.prog w = .ok (.slice (some ⟨g, 0, none⟩) s.size cap) W ∧ Below w.heap.size w W ∧ g < W.heap.size ∧
    ∀ (k : Nat) (c : UInt8), s.data.toList[k]? = some c → W.cell? ⟨g, k, none⟩ = some (.int .u8 (c.toNat : Nat)) := by
  refine ⟨_, _, _, run_bytes_of_string (P := Try.prog) w 9 39 5 s Try.underlying9 Try.underlying39 Try.underlying5, ?_, ?_, ?_⟩
  · exact (Below.refl _ w).drew.alloc (by simp) _
  · simp
  · intro k c hc
    obtain ⟨h1, h2⟩ := List.getElem?_eq_some_iff.1 hc
    have hk : k < s.data.size := by simpa using h1
    have := bytesRow_at s (grownCap w s.size 0 5) k hk
    have e : w.heap.size = w.drew.heap.size := rfl
    rw [e, World.cell?_alloc_mark, this]
    have h3 : s.data[k] = c := by simpa using h2
    rw [h3]

end Go.Proofs.Ytheaknghgpafpaa
