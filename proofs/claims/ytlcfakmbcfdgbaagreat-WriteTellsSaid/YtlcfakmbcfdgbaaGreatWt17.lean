/- How great a feed is (ref26.Great). · A feed from its reading; its reading stays; a row's last step. · The document's Put: a scalar's bytes. · NFC: the document's Scalars. · NFC: scalars as text by the document (ref02.Text). -/
import Derived.Test.YtlcfakmbcfdgbaaGreatRows
import Derived.Test.YtlcfakmbcfdgbaaGreatWt01
import Derived.Test.YtlcfakmbcfdgbaaGreatWt04
import Derived.Test.YtlcfakmbcfdgbaaGreatWt11
import Derived.Test.YtlcfakmbcfdgbaaGreatWt14
import Derived.Test.YtlcfakmbcfdgbaaGreatWt16
import Derived.ProofKit
import Derived.OpenShut
import Derived.HandedShaped
import Derived.SevenTiedAt
import Derived.Deep.Slices
import Derived.SizedLaws
set_option linter.unusedSimpArgs false
set_option linter.unusedVariables false
namespace Go.Proofs.YtlcfakmbcfdgbaaGreat
open Go.RowKit Go.WideShapes

/-- A feed. -/
structure Fd where
  id : List UInt8
  title : List UInt8
  link : List UInt8
  k : Bool
  s : Int
  es : List Ent
def Fd.cells (f : Fd) (A : Option Addr) (n c : Nat) : Array Value := #[.string (bstr f.id), .string (bstr f.title), .string (bstr f.link), .bool f.k, .int .i64 f.s, .slice A n c]
def wEnts (es : List Ent) : Nat := (es.map wEnt).sum
theorem wEnts_next (l : List Ent) (k : Nat) (h : k < l.length) : wEnts (l.take (k + 1)) = wEnts (l.take k) + wEnt l[k] := by
  unfold wEnts
  rw [List.take_succ_eq_append_getElem h, List.map_append, List.sum_append]; simp
theorem wEnt_le (x : Ent) : wEnt x ≤ 100000 := by
  have := m20_le x.id
  have := m20_le x.title
  have := m20_le x.link
  have := m20_le x.author
  have := m20_le x.content
  unfold wEnt
  omega
def wFd (f : Fd) : Nat := m20 f.id + m20 f.title + m20 f.link + wEnts f.es
def greatP (f : Fd) : Bool := decide (40 < f.es.length) || decide (6000 < wFd f)
set_option maxRecDepth 100000 in
set_option maxHeartbeats 8000000 in
theorem Great_any (f : Fd) (A : Option Addr) (n c B : Nat) (w : World) (hR : Reads w B 7 A n (entVs f.es)) (hn : f.es.length = n) (hB : B ≤ w.heap.size) (hm : n ≤ maxLen) :
    Calls Tryz.prog 4 #[.agg (f.cells A n c)] w fun e w' => e = .returned (.bool (greatP f)) ∧ Below w.heap.size w w' := by
  obtain ⟨id, ti, lk, k, s, es⟩ := f
  dsimp only at hR hn
  have HO := hide (below_alloc w (.cells (Fd.cells ⟨id, ti, lk, k, s, es⟩ A n c) 26))
  have HT := hide (Blk.new w 26 (Fd.cells ⟨id, ti, lk, k, s, es⟩ A n c))
  have HRd := hide hR
  have Hn := hide hn
  have hm' : (n : Int) ≤ 9223372036854775807 := by unfold maxLen at hm; omega
  obtain ⟨q1, hq1⟩ : ∃ q, m20 id = q := ⟨_, rfl⟩
  obtain ⟨q2, hq2⟩ : ∃ q, m20 ti = q := ⟨_, rfl⟩
  obtain ⟨q3, hq3⟩ : ∃ q, m20 lk = q := ⟨_, rfl⟩
  have hm1 := m20_is id
  have hm2 := m20_is ti
  have hm3 := m20_is lk
  rw [hq1] at hm1
  rw [hq2] at hm2
  rw [hq3] at hm3
  have l1 : q1 ≤ 20000 := by rw [← hq1]; exact m20_le _
  have l2 : q2 ≤ 20000 := by rw [← hq2]; exact m20_le _
  have l3 : q3 ≤ 20000 := by rw [← hq3]; exact m20_le _
  have HV := hide (show greatP ⟨id, ti, lk, k, s, es⟩ = (decide (40 < n) || decide (6000 < q1 + q2 + q3 + wEnts es)) by unfold greatP wFd; dsimp only; rw [hq1, hq2, hq3, hn])
  clear hq1 hq2 hq3 hR hn
  unfold Fd.cells at HO HT ⊢
  dsimp only at HO HT ⊢
  go_enter Tryz.func4, Tryz.ntmps4
  go_wp2
  go_loopg [3, 4] 41 (fun gk v3 v4 wr => ∃ i z : Nat, v4 = .int .i64 (i : Int) ∧ v3 = .int .i64 (z : Int) ∧ gk = 41 - i ∧ i ≤ 41 ∧ i ≤ n ∧ z = q1 + q2 + q3 + wEnts (es.take i) ∧ z ≤ 60000 + 100000 * i ∧ Below w.heap.size w wr ∧ Blk wr w.heap.size 26 #[.string (bstr id), .string (bstr ti), .string (bstr lk), .bool k, .int .i64 s, .slice A n c])
  case atStart => exact ⟨0, q1 + q2 + q3, rfl, int_eq (by omega), rfl, by omega, by omega, rfl, by omega, HO.out, HT.out⟩
  case round =>
    obtain ⟨i, z, rfl, rfl, hgk, hi, hin, hz, hzl, hb, hk⟩ := hrel
    have Hgk := hide hgk
    have Hz := hide hz
    have HB := hide hb
    have HK := hide hk
    have t4 := hk.cell 5
    clear hgk hz hb hk
    by_cases hlt : i < n
    · by_cases h40 : i ≤ 40
      · have hil : i < es.length := by rw [Hn.out]; exact hlt
        have hRw : Reads wr B 7 A es.length (entVs es) := by
          rw [Hn.out]
          exact HRd.out.keep fun p hp => World.cell?_of_block (HB.out.block _ (by omega))
        obtain ⟨b, off, rfl, hbB, hx⟩ := hRw.ent hil
        obtain ⟨x, hxe⟩ : ∃ x, es[i] = x := ⟨_, rfl⟩
        rw [hxe] at hx
        have Hnx := hide (wEnts_next es i hil)
        rw [hxe] at Hnx
        have HG := hide (great_any x wr)
        unfold Ent.cells at HG
        have hwe := wEnt_le x
        obtain ⟨v, hv⟩ : ∃ v, wEnt x = v := ⟨_, rfl⟩
        rw [hv] at HG Hnx hwe
        have x0 := hx.c0
        have x1 := hx.c1
        have x2 := hx.c2
        have x3 := hx.c3
        have x4 := hx.c4
        have x5 := hx.c5
        have x6 := hx.c6
        clear hx hxe hv hRw
        go_wp2_with fail
        refine HG.out.mono ?_
        rintro e w2 ⟨rfl, hb2⟩
        have HB2 := hide (HB.out.trans (hb2.mono HB.out.size))
        have HK2 := hide (HK.out.go hb2)
        clear hb2
        dsimp only
        go_wp2
        go_roundg (41 - (i + 1))
        case measure => have := Hgk.out; omega
        case rel => exact ⟨i + 1, z + v, by first | rfl | go_num, int_eq (by omega), rfl, by omega, by omega, by have := Hz.out; have := Hnx.out; omega, by omega, HB2.out, HK2.out⟩
      · have hi41 : i = 41 := by omega
        have HF := hide (show (decide (40 < n) || decide (6000 < q1 + q2 + q3 + wEnts es)) = true by rw [decide_eq_true (show 40 < n by omega)]; rfl)
        subst hi41
        go_wp2
        go_ret
        rw [HV.out, HF.out]
        exact ⟨rfl, HB.out⟩
    · have hi' : i = n := by omega
      have hze : z = q1 + q2 + q3 + wEnts es := by
        have h := Hz.out
        rwa [List.take_of_length_le (by rw [Hn.out]; omega)] at h
      have HV2 := hide HV.out
      rw [← hze] at HV2
      subst hi'
      by_cases h40 : 40 < i
      · have HF := hide (show (decide (40 < i) || decide (6000 < z)) = true by rw [decide_eq_true h40]; rfl)
        clear hze
        go_wp2
        go_ret
        rw [HV2.out, HF.out]
        exact ⟨rfl, HB.out⟩
      · have HF := hide (show (decide (40 < i) || decide (6000 < z)) = decide (6000 < z) by rw [decide_eq_false h40]; rfl)
        clear hze
        go_wp2
        go_ret
        rw [HV2.out, HF.out]
        refine ⟨ret_eq1 (bool_eq ?_), HB.out⟩
        rw [decide_eq_false (show ¬ (40 : Int) < (i : Int) by omega), Bool.false_or]
        exact decide_eq_decide.2 (by omega)
end Go.Proofs.YtlcfakmbcfdgbaaGreat
namespace Go.Proofs.YtlcfakmbcfdgbaaGreat
open Go.ChangeShapes Go.WideShapes Go.ChangeAt Go.RowKit

theorem own0 : ownKnob Tryz.prog.godebug = none := by kernel_rfl
section
variable {H : Type} {enc : TypeId × Value → H}
/-- The row's last step, where of the world behind the call 'Below' alone is known. -/
theorem shut_below {P : Program} {f : Func} {s : ChangeSpec} {apart fresh handsOn again : Bool} {W W' : World} {args : Array Value} {v : Value} {ds gs : List (DataW H)} {before pa pv : List MemPlace}
    (hW : DataW.Whole enc P f.params.toList s.vars apart W args.toList ds gs before)
    (hres : ∀ (b : Nat) (sp : Nat → Bool) (hd : Bool), DataW.TrodAll enc P W' b sp hd f.resultTypes.toList (v.resultList f.resultTypes.size) (s.fn H (ds ++ gs)).results [])
    (hargs : ∀ sp : Nat → Bool, (∀ p ∈ before, sp p.block = true) → DataW.TrodAll enc P W' 0 sp true f.params.toList args.toList (s.fn H (ds ++ gs)).args pa)
    (hvars : ∀ sp : Nat → Bool, (∀ p ∈ before, sp p.block = true) → DataW.TrodVars enc P W' sp s.vars (s.fn H (ds ++ gs)).vars pv)
    (hps : before = pa ++ pv) (hb : Below W.heap.size W W')
    (hok : ∀ (j : Nat) (t : TypeId) (r : Value), f.resultTypes[j]? = some t → (v.resultList f.resultTypes.size)[j]? = some r → Value.okWide P W' .any 0 t r) :
    s.post enc P f apart fresh handsOn again W args v W' := by
  have hlt : ∀ p ∈ before, p.block < W.heap.size := fun p hp => hW.lt p hp
  have hold : ∀ p ∈ before, (fun b => decide (b < W.heap.size)) p.block = true := fun p hp => by simpa using hlt p hp
  refine ⟨ds, gs, before, [], pa, pv, hW, hres _ _ _, hargs _ hold, hvars _ hold, World.keptBut_mono (fun p hp => ⟨hp, ?_⟩) (hb.frame (· ∈ before)), fun _ => ?_⟩
  · rw [hps, List.mem_append] at hp
    exact Or.inr hp
  · obtain ⟨_, _, _, _, _, hz, hn⟩ := hW
    refine ⟨hok, _, _, ([] ++ pa) ++ pv, ⟨[] ++ pa, pv, trodAll_append (hargs _ (fun _ _ => rfl)) (hres _ _ _), hvars _ (fun _ _ => rfl), rfl, ?_, ?_⟩, ?_⟩
    · intro b off hp
      have hin : MemPlace.cell b off ∈ before := by rw [hps]; simpa using hp
      rw [hb.frozen (hlt _ hin)]
      exact hz b off hin
    · intro ha
      have := hn ha
      rw [hps] at this
      simpa using this
    · intro p hp _
      rw [hps]
      simpa using hp
end
theorem flat_length {α : Type} {f : α → List Value} {s : Nat} (hf : ∀ x, (f x).length = s) : ∀ l : List α, (l.flatMap f).length = l.length * s
  | [] => by simp
  | x :: l => by rw [List.flatMap_cons, List.length_append, hf, flat_length hf l, List.length_cons, Nat.succ_mul]; omega
theorem flat_at {α : Type} {f : α → List Value} {s : Nat} (hf : ∀ x, (f x).length = s) : ∀ (l : List α) (k : Nat) (hk : k < l.length) (j : Nat), j < s → (l.flatMap f)[k * s + j]? = (f l[k])[j]?
  | [], k, hk, _, _ => absurd hk (by simp)
  | x :: l, 0, _, j, hj => by rw [List.flatMap_cons, List.getElem?_append_left (by rw [hf]; omega)]; simp
  | x :: l, k + 1, hk, j, hj => by
    have hk' : k < l.length := by simpa using hk
    rw [List.flatMap_cons, List.getElem?_append_right (by rw [hf, Nat.succ_mul]; omega), hf, show (k + 1) * s + j - s = k * s + j from by rw [Nat.succ_mul]; omega]
    exact flat_at hf l k hk' j hj

section
variable {H : Type} {enc : TypeId × Value → H} {w : World} {sp : Nat → Bool} {held : Bool}
set_option maxRecDepth 100000 in
theorem open_rows {α : Type} [Inhabited α] {t e : TypeId} {s : Nat} {f : α → List Value} {R : α → Prop} {fuel : Nat} {cs : List Value} {y : DataW H × List MemPlace} (hf : ∀ x, (f x).length = s) (hs : 0 < s)
    (ht : Tryz.prog.underlying t = some (.slice e)) (hC : Tryz.prog.cellsOf e = s) (ho : ∀ (n : Nat) (cs : List Value) (y : DataW H × List MemPlace), DataW.trod enc Tryz.prog w 0 sp held n e cs = some y → ∃ x, cs = f x ∧ R x)
    (h : DataW.trod enc Tryz.prog w 0 sp held fuel t cs = some y) :
    ∃ (A : Option Addr) (l : List α) (c : Nat), cs = [.slice A l.length c] ∧ Reads w w.heap.size s A l.length (l.flatMap f) ∧ l.length ≤ c ∧ l.length ≤ maxLen ∧ ∀ x ∈ l, R x := by
  rcases Go.Deep.open_slice ht h with ⟨rfl, -⟩ | ⟨a, len, cap, m, n, D, Pl, rfl, _, hl, hm, hmm, -, hx⟩
  · exact ⟨none, [], 0, rfl, Reads.none_, by simp, by simp, by simp⟩
  · rw [hC] at hx
    have hlm : len ≤ m := by rw [hmm]; split <;> omega
    obtain ⟨g, hg⟩ := Go.Deep.choose_lt (α := α) (n := len) (p := fun i x => w.cells? 0 (a.add (i * s)) s = some (f x) ∧ R x) (fun i hi => by
      obtain ⟨cs', h1, h2⟩ := hx i (by omega)
      obtain ⟨x, rfl, hr⟩ := ho _ _ _ h2
      exact ⟨x, h1, hr⟩)
    have hlen : ((List.range len).map g).length = len := by simp
    refine ⟨some a, (List.range len).map g, cap, by rw [hlen], ⟨flat_length hf _, fun h0 => ?_⟩, by rw [hlen]; exact hl, by rw [hlen]; omega, fun x hx => ?_⟩
    · rw [hlen] at h0
      have hcell : ∀ i j, i < len → j < s → w.cell? ((a.add (i * s)).add j) = (f (g i))[j]? := fun i j hi hj => (World.cells?_some (hg i hi).1).2.2 j hj
      have h00 : w.cell? a = (f (g 0))[0]? := by have := hcell 0 0 h0 hs; simpa [Addr.add] using this
      have hv : (f (g 0))[0]? = some ((f (g 0))[0]'(by rw [hf]; exact hs)) := List.getElem?_eq_getElem _
      rw [hv] at h00
      have hsp := World.cell?_spot h00
      have hblt := lt_of_cell h00
      obtain ⟨b, off, spot⟩ := a
      simp only at hsp hblt
      subst hsp
      refine ⟨b, off, rfl, hblt, fun j u hu => ?_⟩
      have hj : j < len * s := by
        have := (List.getElem?_eq_some_iff.1 hu).1
        rwa [flat_length hf, hlen] at this
      have hi : j / s < len := Nat.div_lt_of_lt_mul (by rw [Nat.mul_comm]; exact hj)
      have hjs : j % s < s := Nat.mod_lt _ hs
      have ej : j / s * s + j % s = j := by rw [Nat.mul_comm]; exact Nat.div_add_mod j s
      have hc := hcell (j / s) (j % s) hi hjs
      rw [Go.Deep.add_add, ej] at hc
      have hat := flat_at hf ((List.range len).map g) (j / s) (by rw [hlen]; exact hi) (j % s) hjs
      rw [ej, hu] at hat
      simp only [List.getElem_map, List.getElem_range] at hat
      rw [← hat] at hc
      have ea : (Addr.add ⟨b, off, none⟩ j : Addr) = ⟨b, off + j, none⟩ := by
        unfold Addr.add
        split
        · subst_vars; rfl
        · rfl
      rwa [ea] at hc
    · obtain ⟨i, hi, rfl⟩ := List.mem_map.1 hx
      exact (hg i (by simpa using hi)).2

end
theorem bstr_ofW (s : ByteArray) : bstr s.data.toList = s := by unfold bstr; obtain ⟨⟨l⟩⟩ := s; rfl
instance : Inhabited Ent := ⟨⟨[], [], [], [], [], false, 0⟩⟩
section
variable {H : Type} {enc : TypeId × Value → H} {w : World} {sp : Nat → Bool} {held : Bool}
set_option maxRecDepth 100000 in
theorem open_entW {fuel : Nat} {cs : List Value} {y : DataW H × List MemPlace} (h : DataW.trod enc Tryz.prog w 0 sp held fuel 36 cs = some y) :
    ∃ x : Ent, cs = x.cells.toList ∧ (Lit.int .i64 x.s).wf = true := by
  have hc7 : Tryz.prog.cellsOf 36 = 7 := by kernel_rfl
  have hcs : Tryz.prog.cellsOf 9 = 1 := by kernel_rfl
  have hct : Tryz.prog.cellsOf 23 = 2 := by kernel_rfl
  have hcb : Tryz.prog.cellsOf 4 = 1 := by kernel_rfl
  have hci : Tryz.prog.cellsOf 3 = 1 := by kernel_rfl
  obtain ⟨ys, m, _, rfl, hlen, hl, hf⟩ := DataW.trod_struct Tryz.underlying36 h
  rw [hc7] at hlen
  match cs, hlen, ys, hl with
  | [c0, c1, c2, c3, c4, c5, c6], _, [y0, y1, y2, y3, y4, y5], _ =>
    have h0 := hf 0 _ rfl
    have h1 := hf 1 _ rfl
    have h2 := hf 2 _ rfl
    have h3 := hf 3 _ rfl
    have h4 := hf 4 _ rfl
    have h5 := hf 5 _ rfl
    simp [hcs, hct] at h0 h1 h2 h3 h4 h5
    obtain ⟨a0, e0, rfl, s0⟩ := DataW.trod_string Tryz.underlying9 h0
    obtain ⟨a1, e1, rfl, s1⟩ := DataW.trod_string Tryz.underlying9 h1
    obtain ⟨a2, e2, rfl, s2⟩ := DataW.trod_string Tryz.underlying9 h2
    obtain ⟨a3, e3, rfl, s3⟩ := DataW.trod_string Tryz.underlying9 h3
    obtain ⟨a4, e4, rfl, s4⟩ := DataW.trod_string Tryz.underlying9 h4
    obtain ⟨zs, m', _, rfl, _, hzl, hzf⟩ := DataW.trod_struct Tryz.underlying23 h5
    match zs, hzl with
    | [z0, z1], _ =>
      have g0 := hzf 0 _ rfl
      have g1 := hzf 1 _ rfl
      simp [hcb, hci] at g0 g1
      obtain ⟨b, f0, rfl⟩ := DataW.trod_bool Tryz.underlying4 g0
      obtain ⟨n, f1, rfl, hn⟩ := DataW.trod_int Tryz.underlying3 g1
      simp at e0 e1 e2 e3 e4 f0 f1
      subst e0 e1 e2 e3 e4 f0 f1
      refine ⟨⟨a0.data.toList, a1.data.toList, a2.data.toList, a3.data.toList, a4.data.toList, b, n⟩, ?_, hn⟩
      unfold Ent.cells
      simp only [bstr_ofW]
/-- What a feed's reading tells. -/
structure FdGot (w : World) (f : Fd) (A : Option Addr) (n c : Nat) : Prop where
  rd : Reads w w.heap.size 7 A n (entVs f.es)
  hn : f.es.length = n
  hc : n ≤ c
  hm : n ≤ maxLen
  hs : (Lit.int .i64 f.s).wf = true
  hes : ∀ x ∈ f.es, (Lit.int .i64 x.s).wf = true
set_option maxRecDepth 100000 in
theorem open_feed {fuel : Nat} {cs : List Value} {y : DataW H × List MemPlace} (h : DataW.trod enc Tryz.prog w 0 sp held fuel 26 cs = some y) :
    ∃ (f : Fd) (A : Option Addr) (n c : Nat), cs = (f.cells A n c).toList ∧ FdGot w f A n c := by
  have hc6 : Tryz.prog.cellsOf 26 = 6 := by kernel_rfl
  have hct : Tryz.prog.cellsOf 23 = 2 := by kernel_rfl
  have hci : Tryz.prog.cellsOf 3 = 1 := by kernel_rfl
  have hcs : Tryz.prog.cellsOf 9 = 1 := by kernel_rfl
  have hcb : Tryz.prog.cellsOf 4 = 1 := by kernel_rfl
  have hce : Tryz.prog.cellsOf 24 = 1 := by kernel_rfl
  obtain ⟨ys, m, _, rfl, hlen, hl, hf⟩ := DataW.trod_struct Tryz.underlying26 h
  rw [hc6] at hlen
  match cs, hlen, ys, hl with
  | [c0, c1, c2, c3, c4, c5], _, [y0, y1, y2, y3, y4], _ =>
    have h0 := hf 0 _ rfl
    have h1 := hf 1 _ rfl
    have h2 := hf 2 _ rfl
    have h3 := hf 3 _ rfl
    have h4 := hf 4 _ rfl
    simp [hct, hci, hcs, hcb, hce] at h0 h1 h2 h3 h4
    obtain ⟨a0, e0, rfl, s0⟩ := DataW.trod_string Tryz.underlying9 h0
    obtain ⟨a1, e1, rfl, s1⟩ := DataW.trod_string Tryz.underlying9 h1
    obtain ⟨a2, e2, rfl, s2⟩ := DataW.trod_string Tryz.underlying9 h2
    obtain ⟨zs, m', _, rfl, _, hzl, hzf⟩ := DataW.trod_struct Tryz.underlying23 h3
    obtain ⟨A, l, c, e4, hA, hlc, hlm, hx⟩ := open_rows (s := 7) (f := fun x : Ent => x.cells.toList) (R := fun x => (Lit.int .i64 x.s).wf = true) (fun _ => rfl) (by omega) Tryz.underlying24 (by kernel_rfl)
      (fun n cs y hy => open_entW hy) h4
    match zs, hzl with
    | [z0, z1], _ =>
      have g0 := hzf 0 _ rfl
      have g1 := hzf 1 _ rfl
      simp [hcb, hci] at g0 g1
      obtain ⟨b, f0, rfl⟩ := DataW.trod_bool Tryz.underlying4 g0
      obtain ⟨n, f1, rfl, hn⟩ := DataW.trod_int Tryz.underlying3 g1
      simp at e0 e1 e2 e4 f0 f1
      subst e0 e1 e2 e4 f0 f1
      refine ⟨⟨a0.data.toList, a1.data.toList, a2.data.toList, b, n, l⟩, A, l.length, c, ?_, ⟨hA, rfl, hlc, hlm, hn, hx⟩⟩
      unfold Fd.cells
      simp only [bstr_ofW]
set_option maxRecDepth 100000 in
theorem stays_feed {W W' : World} {sp' : Nat → Bool} {v : Value} {d : DataW H} {ps : List MemPlace} (h : DataW.Trod enc Tryz.prog W 0 (fun _ => true) true 26 v d ps) (hsame : ∀ p ∈ ps, W.sameAt W' p) (hs : ∀ p ∈ ps, sp' p.block = true) :
    DataW.Trod enc Tryz.prog W' 0 sp' true 26 v d ps :=
  WideElems.Trod_stays (by kernel_rfl) (by kernel_rfl) (of_decide_eq_true (by kernel_rfl)) h hsame hs
end
end Go.Proofs.YtlcfakmbcfdgbaaGreat
namespace Go.Proofs.YtlcfakmbcfdgbaaGreat
open Go.RowKit Tk Sx

set_option maxHeartbeats 2000000 in
theorem refIs_yes (r : Int) (w : World) (h : Utf.isScalar r = true) : Calls Tryz.prog 135 #[.int .i64 r] w fun e w' => e = .returned (.bool true) ∧ w' = w := by
  simp [Utf.isScalar] at h
  have g1 : (0 : Int) ≤ r := h.1
  have g2 : r ≤ 1114111 := h.2.1
  by_cases h3 : r < 55296
  · clear h
    go_enter Tryz.func135, Tryz.ntmps135
    go_wp2
    go_ret
    exact ⟨rfl, rfl⟩
  · have g4 : 57343 < r := by omega
    clear h
    go_enter Tryz.func135, Tryz.ntmps135
    go_wp2
    go_ret
    exact ⟨rfl, rfl⟩
set_option maxHeartbeats 2000000 in
theorem refLen_yes (r : Int) (w : World) (h : Utf.isScalar r = true) : Calls Tryz.prog 126 #[.int .i64 r] w fun e w' => e = .returned (.int .i64 (lenOf r)) ∧ w' = w := by
  have HI := hide (fun W => refIs_yes r W h)
  obtain ⟨z, hz⟩ : ∃ z, lenOf r = z := ⟨_, rfl⟩
  rw [hz]
  unfold lenOf at hz
  clear h
  by_cases h1 : r < 128
  · have Hr := hide (show (1 : Int) = z by rw [← hz, if_pos h1])
    clear hz
    go_enter Tryz.func126, Tryz.ntmps126
    go_wp2_with fail
    refine cq (HI.out _) ?_
    go_wp2
    go_ret
    exact ⟨ret_eq1 (int_eq (Hr.out)), rfl⟩
  by_cases h2 : r < 2048
  · have Hr := hide (show (2 : Int) = z by rw [← hz, if_neg h1, if_pos h2])
    clear hz
    go_enter Tryz.func126, Tryz.ntmps126
    go_wp2_with fail
    refine cq (HI.out _) ?_
    go_wp2
    go_ret
    exact ⟨ret_eq1 (int_eq (Hr.out)), rfl⟩
  by_cases h3 : r < 65536
  · have Hr := hide (show (3 : Int) = z by rw [← hz, if_neg h1, if_neg h2, if_pos h3])
    clear hz
    go_enter Tryz.func126, Tryz.ntmps126
    go_wp2_with fail
    refine cq (HI.out _) ?_
    go_wp2
    go_ret
    exact ⟨ret_eq1 (int_eq (Hr.out)), rfl⟩
  have Hr := hide (show (4 : Int) = z by rw [← hz, if_neg h1, if_neg h2, if_neg h3])
  clear hz
  go_enter Tryz.func126, Tryz.ntmps126
  go_wp2_with fail
  refine cq (HI.out _) ?_
  go_wp2
  go_ret
  exact ⟨ret_eq1 (int_eq (Hr.out)), rfl⟩

theorem i64_or_of (x y : Int) (k : Nat) (h0 : 0 ≤ x) (hy : 0 ≤ y) (hk : y < 2 ^ k) (hx : x * 2 ^ k + y < 9223372036854775808) (z : Int) (hz : z = x * 2 ^ k) : bits .or .i64 z y = z + y := by
  subst hz; exact i64_or_add x y k h0 hy hk hx
theorem low6 (x : Int) (h0 : 0 ≤ x) (h1 : x < 9223372036854775808) : bits .and .i64 x 63 = x % 64 := i64_mask x 6 h0 h1 (by omega) _ rfl
theorem or128 (x : Int) : bits .or .i64 128 (x % 64) = 128 + x % 64 := i64_or_of 2 _ 6 (by omega) (by omega) (by omega) (by omega) _ rfl
/-- A scalar's bytes. -/
def putL (r : Int) : L := (Utf.put r).map bv
def PutR (r : Int) (w : World) (e : Ending) (w' : World) : Prop := e = .returned (.tuple #[.string (bstr (putL r)), .bool true]) ∧ Below w.heap.size w w'
theorem PutR.of {r : Int} {w w' : World} {t : ByteArray} {e : Ending} (he : e = .returned (.tuple #[.string t, .bool true])) (ht : StrIs t (putL r)) (hb : Below w.heap.size w w') : PutR r w e w' := by
  unfold StrIs at ht
  have : t = bstr (putL r) := by rw [← ht, bstr_of]
  subst this
  exact ⟨he, hb⟩
set_option maxHeartbeats 4000000 in
theorem refPut1 (r : Int) (w : World) (h : Utf.isScalar r = true) (h1 : r < 128) : Calls Tryz.prog 114 #[.int .i64 r] w (PutR r w) := by
  have HL := hide (show ∀ W, Calls Tryz.prog 126 #[.int .i64 r] W fun e w' => e = .returned (.int .i64 1) ∧ w' = W from fun W => by have := refLen_yes r W h; unfold lenOf at this; rwa [if_pos h1] at this)
  have h0 : 0 ≤ r ∧ r ≤ 1114111 := by simp [Utf.isScalar] at h; omega
  have HP := hide (show [bv (r)] = putL r by
    unfold putL Utf.put
    rw [if_pos h1]
    simp only [List.map_cons, List.map_nil]
    all_goals rw [show (r) = (r : Int) by omega])
  clear h
  go_enter Tryz.func114, Tryz.ntmps114
  go_wp2_with fail
  refine cq (HL.out _) ?_
  go_wp2_with (with_reducible show wpList _ _ _ (⟨_, .convert 40 9 _, _, _, _, _⟩ :: _) _ _; refine wpList_to_string rfl 40 9 5 _ rfl Tryz.underlying40 Tryz.underlying5 Tryz.underlying9 w.heap.size _ 1 rfl _ (own_bytes1 w _ _ _ rfl (Nat.le_refl _) (r) ⟨by omega, by omega⟩) ?_; intro t ht)
  go_ret2
  exact PutR.of rfl (by rw [← HP.out]; exact ht) (below_alloc w _)
set_option maxHeartbeats 4000000 in
theorem refPut2 (r : Int) (w : World) (h : Utf.isScalar r = true) (h1 : ¬ r < 128) (h2 : r < 2048) : Calls Tryz.prog 114 #[.int .i64 r] w (PutR r w) := by
  have HL := hide (show ∀ W, Calls Tryz.prog 126 #[.int .i64 r] W fun e w' => e = .returned (.int .i64 2) ∧ w' = W from fun W => by have := refLen_yes r W h; unfold lenOf at this; rwa [if_neg h1, if_pos h2] at this)
  have h0 : 0 ≤ r ∧ r ≤ 1114111 := by simp [Utf.isScalar] at h; omega
  have a0 : bits .and .i64 r 63 = r % 64 := low6 r (by omega) (by omega)
  have b0 := or128 r
  have o1 : bits .or .i64 192 (r / 64) = 192 + r / 64 := i64_or_of 6 _ 5 (by omega) (by omega) (by omega) (by omega) _ rfl
  have HP := hide (show [bv ((192 + r / 64)), bv ((128 + r % 64))] = putL r by
    unfold putL Utf.put
    rw [if_neg h1, if_pos h2]
    simp only [List.map_cons, List.map_nil]
    all_goals rw [show ((192 + r / 64)) = (192 + r / 64 : Int) by omega, show ((128 + r % 64)) = (128 + r % 64 : Int) by omega])
  clear h
  go_enter Tryz.func114, Tryz.ntmps114
  go_wp2_with fail
  refine cq (HL.out _) ?_
  go_wp2_with (with_reducible show wpList _ _ _ (⟨_, .convert 40 9 _, _, _, _, _⟩ :: _) _ _; refine wpList_to_string rfl 40 9 5 _ rfl Tryz.underlying40 Tryz.underlying5 Tryz.underlying9 w.heap.size _ 2 rfl _ (own_bytes2 w _ _ _ rfl (Nat.le_refl _) ((192 + r / 64)) ((128 + r % 64)) ⟨by omega, by omega⟩ ⟨by omega, by omega⟩) ?_; intro t ht)
  go_ret2
  exact PutR.of rfl (by rw [← HP.out]; exact ht) (below_alloc w _)
set_option maxHeartbeats 4000000 in
theorem refPut3 (r : Int) (w : World) (h : Utf.isScalar r = true) (h1 : ¬ r < 128) (h2 : ¬ r < 2048) (h3 : r < 65536) : Calls Tryz.prog 114 #[.int .i64 r] w (PutR r w) := by
  have HL := hide (show ∀ W, Calls Tryz.prog 126 #[.int .i64 r] W fun e w' => e = .returned (.int .i64 3) ∧ w' = W from fun W => by have := refLen_yes r W h; unfold lenOf at this; rwa [if_neg h1, if_neg h2, if_pos h3] at this)
  have h0 : 0 ≤ r ∧ r ≤ 1114111 := by simp [Utf.isScalar] at h; omega
  have a0 : bits .and .i64 r 63 = r % 64 := low6 r (by omega) (by omega)
  have b0 := or128 r
  have a1 : bits .and .i64 (r / 64) 63 = r / 64 % 64 := low6 _ (by omega) (by omega)
  have b1 := or128 (r / 64)
  have o1 : bits .or .i64 224 (r / 4096) = 224 + r / 4096 := i64_or_of 14 _ 4 (by omega) (by omega) (by omega) (by omega) _ rfl
  have HP := hide (show [bv ((224 + r / 4096)), bv ((128 + r / 64 % 64)), bv ((128 + r % 64))] = putL r by
    unfold putL Utf.put
    rw [if_neg h1, if_neg h2, if_pos h3]
    simp only [List.map_cons, List.map_nil]
    all_goals rw [show ((224 + r / 4096)) = (224 + r / 64 / 64 : Int) by omega, show ((128 + r / 64 % 64)) = (128 + r / 64 % 64 : Int) by omega, show ((128 + r % 64)) = (128 + r % 64 : Int) by omega])
  clear h
  go_enter Tryz.func114, Tryz.ntmps114
  go_wp2_with fail
  refine cq (HL.out _) ?_
  go_wp2_with (with_reducible show wpList _ _ _ (⟨_, .convert 40 9 _, _, _, _, _⟩ :: _) _ _; refine wpList_to_string rfl 40 9 5 _ rfl Tryz.underlying40 Tryz.underlying5 Tryz.underlying9 w.heap.size _ 3 rfl _ (own_bytes3 w _ _ _ rfl (Nat.le_refl _) ((224 + r / 4096)) ((128 + r / 64 % 64)) ((128 + r % 64)) ⟨by omega, by omega⟩ ⟨by omega, by omega⟩ ⟨by omega, by omega⟩) ?_; intro t ht)
  go_ret2
  exact PutR.of rfl (by rw [← HP.out]; exact ht) (below_alloc w _)
set_option maxHeartbeats 4000000 in
theorem refPut4 (r : Int) (w : World) (h : Utf.isScalar r = true) (h1 : ¬ r < 128) (h2 : ¬ r < 2048) (h3 : ¬ r < 65536) : Calls Tryz.prog 114 #[.int .i64 r] w (PutR r w) := by
  have HL := hide (show ∀ W, Calls Tryz.prog 126 #[.int .i64 r] W fun e w' => e = .returned (.int .i64 4) ∧ w' = W from fun W => by have := refLen_yes r W h; unfold lenOf at this; rwa [if_neg h1, if_neg h2, if_neg h3] at this)
  have h0 : 0 ≤ r ∧ r ≤ 1114111 := by simp [Utf.isScalar] at h; omega
  have a0 : bits .and .i64 r 63 = r % 64 := low6 r (by omega) (by omega)
  have b0 := or128 r
  have a1 : bits .and .i64 (r / 64) 63 = r / 64 % 64 := low6 _ (by omega) (by omega)
  have b1 := or128 (r / 64)
  have a2 : bits .and .i64 (r / 4096) 63 = r / 4096 % 64 := low6 _ (by omega) (by omega)
  have b2 := or128 (r / 4096)
  have o1 : bits .or .i64 240 (r / 262144) = 240 + r / 262144 := i64_or_of 30 _ 3 (by omega) (by omega) (by omega) (by omega) _ rfl
  have HP := hide (show [bv ((240 + r / 262144)), bv ((128 + r / 4096 % 64)), bv ((128 + r / 64 % 64)), bv ((128 + r % 64))] = putL r by
    unfold putL Utf.put
    rw [if_neg h1, if_neg h2, if_neg h3]
    simp only [List.map_cons, List.map_nil]
    all_goals rw [show ((240 + r / 262144)) = (240 + r / 64 / 64 / 64 : Int) by omega, show ((128 + r / 4096 % 64)) = (128 + r / 64 / 64 % 64 : Int) by omega, show ((128 + r / 64 % 64)) = (128 + r / 64 % 64 : Int) by omega, show ((128 + r % 64)) = (128 + r % 64 : Int) by omega])
  clear h
  go_enter Tryz.func114, Tryz.ntmps114
  go_wp2_with fail
  refine cq (HL.out _) ?_
  go_wp2_with (with_reducible show wpList _ _ _ (⟨_, .convert 40 9 _, _, _, _, _⟩ :: _) _ _; refine wpList_to_string rfl 40 9 5 _ rfl Tryz.underlying40 Tryz.underlying5 Tryz.underlying9 w.heap.size _ 4 rfl _ (own_bytes4 w _ _ _ rfl (Nat.le_refl _) ((240 + r / 262144)) ((128 + r / 4096 % 64)) ((128 + r / 64 % 64)) ((128 + r % 64)) ⟨by omega, by omega⟩ ⟨by omega, by omega⟩ ⟨by omega, by omega⟩ ⟨by omega, by omega⟩) ?_; intro t ht)
  go_ret2
  exact PutR.of rfl (by rw [← HP.out]; exact ht) (below_alloc w _)
theorem refPut_any (r : Int) (w : World) (h : Utf.isScalar r = true) : Calls Tryz.prog 114 #[.int .i64 r] w (PutR r w) := by
  by_cases h1 : r < 128
  · exact refPut1 r w h h1
  by_cases h2 : r < 2048
  · exact refPut2 r w h h1 h2
  by_cases h3 : r < 65536
  · exact refPut3 r w h h1 h2 h3
  · exact refPut4 r w h h1 h2 h3
end Go.Proofs.YtlcfakmbcfdgbaaGreat
namespace Go.Proofs.YtlcfakmbcfdgbaaGreat
open Go.RowKit Go.WideShapes




set_option maxHeartbeats 2000000 in
theorem refScal_any (s : ByteArray) (w : World) (hs : s.size ≤ 1000000000) (hv : Utf.valid s.data.toList = true) :
    Calls Tryz.prog 70 #[.string s] w fun e w' => ∃ A c, e = .returned (.tuple #[.slice A (uscals s.data.toList).length c, .bool true]) ∧ Below w.heap.size w w' ∧ Reads w' w'.heap.size 1 A (uscals s.data.toList).length (intVs (uscals s.data.toList)) := by
  have Hv0 := hide hv
  clear hv
  go_enter Tryz.func70, Tryz.ntmps70
  go_wp2
  go_loopg [4, 5] s.size (fun g vo va wr => ∃ (k : Nat) (A : Option Addr) (c : Nat) (pre : List Int), g = s.size - k ∧ k ≤ s.size ∧ pre.length ≤ k ∧ va = .int .i64 k ∧ vo = .slice A pre.length c ∧ Utf.valid (s.data.toList.drop k) = true ∧
    uscals s.data.toList = pre ++ (Utf.from_ k (s.data.toList.drop k)).map (·.2) ∧ wr.ownsRow w.heap.size 3 1 (.slice A pre.length c) pre.length (intVs pre) ∧ Below w.heap.size w wr)
  case atStart => exact ⟨0, none, 0, [], rfl, by omega, by simp, rfl, rfl, Hv0.out, rfl, World.ownsRow_nil _ _ _ _, Below.refl _ _⟩
  case round =>
    obtain ⟨k, A, c, pre, hg, hk, hn, rfl, rfl, hv, hsc, hown, hb⟩ := hrel
    have Hv := hide hv
    have Hg := hide hg
    have Hsc := hide hsc
    clear hv hg hsc
    by_cases hlt : k < s.size
    · have hp := piece_at s k hlt
      have hval := valid_at s k hlt
      have hfr := from_at s k hlt
      have HN := hide (next_any s k wr (by omega) (by omega) hs)
      rw [Int.toNat_natCast] at HN
      obtain ⟨f, hf⟩ : ∃ f, Utf.piece (s.data.toList.drop k) = f := ⟨_, rfl⟩
      rw [hf] at hp hval HN hfr
      rw [Hv.out] at hval
      have hneg : ¬ f.1 < 0 := fun h => by rw [if_pos h] at hval; cases hval
      rw [if_neg hneg] at hval
      have Hval := hide hval
      have Hfr := hide hfr
      have e1 : Hid (nextT f = .tuple #[.int .i64 f.1, .int .i64 f.2, .bool true]) := by show nextT f = _; unfold nextT; rw [if_neg hneg]
      obtain ⟨m, hm⟩ : ∃ m, pre.length = m := ⟨_, rfl⟩
      have Hm := hide hm
      rw [hm] at hown hn ⊢
      clear hf hval hfr hm
      go_wp2_with fail
      refine HN.out.mono ?_; rintro e w' ⟨rfl, rfl⟩; rw [e1.out]
      go_wp2_with (first
        | (at_builtin; go_loud (refine wpList_append_elem wr rfl (.tmp 22) (.tmp 24) 93 rfl w.heap.size (.int .i64 0) 1 8 Tryz.underlying93 info_int rfl (by omega) (.slice A m c) m (intVs pre) rfl hown (cs := [.int .i64 f.1]) rfl (by simp [Value.oneCell']) rfl (by unfold maxLen; omega) (by omega) hb.size ?_); intro g' cap' w1 hown1 hgrow1 hat1 hlt1 hb1))
      go_roundg (s.size - (k + f.2.toNat))
      case measure => have := Hg.out; omega
      case rel =>
        have e2 : (pre ++ [f.1]).length = m + 1 := by rw [List.length_append, Hm.out]; rfl
        refine ⟨k + f.2.toNat, some ⟨g', 0, none⟩, cap', pre ++ [f.1], rfl, by omega, by rw [e2]; omega, int_eq (by omega), by rw [e2], Hval.out.symm, ?_, ?_, hb.grown hgrow1 hb.size (fun j hj => (own_isT hown j hj).1)⟩
        · rw [Hsc.out, Hfr.out]; simp
        · rw [e2, show intVs (pre ++ [f.1]) = intVs pre ++ [.int .i64 f.1] by simp [intVs]]
          exact hown1
    · have hall : (Utf.from_ k (s.data.toList.drop k)).map (·.2) = [] := by rw [List.drop_of_length_le (by rw [size_list]; omega), Utf.from_nil]; rfl
      have hsc := Hsc.out
      rw [hall, List.append_nil] at hsc
      have HSc := hide hsc
      clear hall hsc
      go_wp2
      go_ret2
      exact ⟨A, c, by rw [HSc.out]; rfl, hb, by rw [HSc.out]; exact Reads.of_own hown⟩
end Go.Proofs.YtlcfakmbcfdgbaaGreat
namespace Go.Proofs.YtlcfakmbcfdgbaaGreat
open Go.RowKit Go.WideShapes

set_option maxHeartbeats 2000000 in
theorem refIs_no (r : Int) (w : World) (h : Utf.isScalar r = false) : Calls Tryz.prog 135 #[.int .i64 r] w fun e w' => e = .returned (.bool false) ∧ w' = w := by
  by_cases h1 : 0 ≤ r
  · by_cases h2 : r ≤ 1114111
    · have h3 : 55296 ≤ r ∧ r ≤ 57343 := by
        simp [Utf.isScalar] at h
        omega
      have d1 : decide (0 ≤ r) = true := decide_eq_true h1
      have d2 : decide (r ≤ 1114111) = true := decide_eq_true h2
      have d3 : decide (r < 55296) = false := decide_eq_false (by omega)
      have d4 : decide (57343 < r) = false := decide_eq_false (by omega)
      clear h h1 h2 h3
      go_enter Tryz.func135, Tryz.ntmps135
      go_wp2
      go_ret
      exact ⟨rfl, rfl⟩
    · have d1 : decide (0 ≤ r) = true := decide_eq_true h1
      have d2 : decide (r ≤ 1114111) = false := decide_eq_false h2
      clear h h1 h2
      go_enter Tryz.func135, Tryz.ntmps135
      go_wp2
      go_ret
      exact ⟨rfl, rfl⟩
  · have d1 : decide (0 ≤ r) = false := decide_eq_false h1
    clear h h1
    go_enter Tryz.func135, Tryz.ntmps135
    go_wp2
    go_ret
    exact ⟨rfl, rfl⟩
theorem refLen_no (r : Int) (w : World) (h : Utf.isScalar r = false) : Calls Tryz.prog 126 #[.int .i64 r] w fun e w' => e = .returned (.int .i64 0) ∧ w' = w := by
  have HI := hide (fun W => refIs_no r W h)
  clear h
  go_enter Tryz.func126, Tryz.ntmps126
  go_wp2_with fail
  refine cq (HI.out _) ?_
  go_wp2
  go_ret
  exact ⟨rfl, rfl⟩
theorem refPut_no (r : Int) (w : World) (h : Utf.isScalar r = false) : Calls Tryz.prog 114 #[.int .i64 r] w fun e w' => e = .returned (.tuple #[.string ⟨#[]⟩, .bool false]) ∧ w' = w := by
  have HI := hide (fun W => refLen_no r W h)
  clear h
  go_enter Tryz.func114, Tryz.ntmps114
  go_wp2_with fail
  refine cq (HI.out _) ?_
  go_wp2
  go_ret2
  exact ⟨rfl, rfl⟩
set_option maxRecDepth 100000 in
set_option maxHeartbeats 8000000 in
theorem refText_any (l : List Int) (A : Option Addr) (c : Nat) (w : World) (hr : Reads w w.heap.size 1 A l.length (intVs l)) (hs : l.length ≤ 100000000) :
    Calls Tryz.prog 93 #[.slice A l.length c] w fun e w' => e = .returned (textV l) ∧ Below w.heap.size w w' := by
  obtain ⟨L, hL⟩ : ∃ L, l.length = L := ⟨_, rfl⟩
  have HL := hide hL
  rw [hL] at hr hs
  rw [hL]
  have HR := hide hr
  have HPy := hide (fun r W h => refPut_any r W h)
  have HPn := hide (fun r W h => refPut_no r W h)
  clear hL hr
  go_enter Tryz.func93, Tryz.ntmps93
  go_wp2
  go_loopg [4, 5, 6, 7] L (fun gk v4 v5 v6 v7 wr => ∃ (j : Nat) (A' : Option Addr) (c' m : Nat), gk = L - j ∧ j ≤ L ∧ v5 = .int .i64 (j : Int) ∧ v4 = .slice A' m c' ∧ m = (Nf.bytesOf (l.take j)).length ∧ wr.ownsRow w.heap.size 5 1 (.slice A' m c') m (byteVs (Nf.bytesOf (l.take j))) ∧ (∀ x ∈ l.take j, Utf.isScalar x = true) ∧ Below w.heap.size w wr)
  case atStart => exact ⟨0, none, 0, 0, rfl, by omega, rfl, rfl, rfl, World.ownsRow_nil _ _ _ _, by simp, Below.refl _ _⟩
  case round =>
    obtain ⟨j, A', c', m, hgk, hj, rfl, rfl, hm, ho, hsc, hb⟩ := hrel
    have Hg := hide hgk
    have HO := hide ho
    have HSc := hide hsc
    have HB := hide hb
    have Hm := hide hm
    clear hgk ho hsc hb hm
    by_cases hlt : j < L
    · obtain ⟨r, hrj⟩ : ∃ r, l[j]? = some r := ⟨_, List.getElem?_eq_getElem (by rw [HL.out]; exact hlt)⟩
      obtain ⟨gb, off, rfl, hgl, hcell⟩ := HR.out.2 (by omega)
      have y0 : wr.cell? ⟨gb, off + j, none⟩ = some (.int .i64 r) := (HB.out.cell hgl).trans (hcell j _ (by unfold intVs; rw [List.getElem?_map, hrj]; rfl))
      have HN := hide (Nf.bytesOf_next hrj)
      have HRj := hide hrj
      have hmb : m ≤ 400000000 := by rw [Hm.out]; refine Nat.le_trans (Nf.bytesOf_len _) ?_; rw [List.length_take]; omega
      clear hcell hrj
      cases hsr : Utf.isScalar r with
      | false =>
        have HP := hide (HPn.out r wr hsr)
        have HV := hide (show textV l = .tuple #[.string ⟨#[]⟩, .bool false] by
          unfold textV Nf.textOf
          rw [if_neg (fun h => by
            have := List.all_eq_true.1 h r (List.mem_of_getElem? HRj.out)
            rw [hsr] at this
            cases this)])
        clear hsr
        go_wp2_with fail
        refine HP.out.mono ?_
        rintro e w2 ⟨rfl, hw2⟩
        subst hw2
        dsimp only
        go_wp2
        go_ret2
        exact ⟨by rw [HV.out]; rfl, HB.out⟩
      | true =>
        have HP := hide (HPy.out r wr hsr)
        have Hsr := hide hsr
        have hps : ((Utf.put r).map bv).length ≤ 4 := by rw [List.length_map]; exact put_short r
        obtain ⟨pl, hpl⟩ : ∃ pl, (Utf.put r).map bv = pl := ⟨_, rfl⟩
        unfold PutR putL at HP
        rw [hpl] at hps HP HN
        clear hsr hpl
        go_wp2_with fail
        refine HP.out.mono ?_
        rintro e w2 ⟨rfl, hb2⟩
        have HT := hide (show StrIs (bstr pl) pl from bstr_list pl)
        have HB2 := hide (HB.out.trans (hb2.mono HB.out.size))
        have HO2 := hide (uown_go HO.out hb2)
        have hbs := HB2.out.size
        have Hps := hide hps
        clear hb2
        dsimp only
        go_wp2_with (at_builtin; go_loud (refine wpList_append_str w2 rfl (.tmp 24) (.tmp 25) 40 9 rfl w.heap.size 5 Tryz.underlying40 Tryz.underlying9 info_u8 _ m (Nf.bytesOf (l.take j)) rfl HO2.out (bstr pl) pl HT.out rfl (by omega) hbs ?_); intro A3 c3 w3 ho3 hg3; have HO3 := hide ho3; have HB3 := hide (HB2.out.grown hg3 HB2.out.size (fun k e => (own_isT HO2.out k e).1)); clear ho3 hg3)
        go_roundg (L - (j + 1))
        case measure => have := Hg.out; omega
        case rel =>
          refine ⟨j + 1, A3, c3, m + pl.length, rfl, by omega, by first | rfl | go_num, rfl, by rw [HN.out, List.length_append, ← Hm.out], by rw [HN.out]; exact HO3.out, ?_, HB3.out⟩
          rw [take_next HRj.out]
          intro x hx
          rcases List.mem_append.1 hx with hx | hx
          · exact HSc.out x hx
          · rw [List.mem_singleton] at hx; subst hx; exact Hsr.out
    · have hjL : j = L := by omega
      have htk : l.take j = l := List.take_of_length_le (by rw [HL.out]; omega)
      have HT := hide htk
      have HO2 := hide (show wr.ownsRow w.heap.size 5 1 (.slice A' m c') m (byteVs (Nf.bytesOf l)) by have := HO.out; rwa [htk] at this)
      have HV := hide (show textV l = .tuple #[.string (bstr (Nf.bytesOf l)), .bool true] by
          have hh := HSc.out
          rw [htk] at hh
          unfold textV Nf.textOf
          rw [if_pos (List.all_eq_true.2 hh)])
      clear hjL htk
      go_wp2_with (refine wpList_to_string rfl 40 9 5 _ rfl Tryz.underlying40 Tryz.underlying5 Tryz.underlying9 w.heap.size _ m (by rfl) (Nf.bytesOf l) HO2.out ?_; intro t ht; have Ht := hide (str_is ht); clear ht)
      go_ret2
      exact ⟨by rw [HV.out, ← Ht.out]; rfl, HB.out⟩
end Go.Proofs.YtlcfakmbcfdgbaaGreat
