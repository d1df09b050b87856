/- A feed from its reading; its reading stays; a row's last step. · write.May's map of what was seen: key struct of one string. · write.May. -/
import Derived.Test.YtheaknghgpafpaaRows
import Derived.Test.YtheaknghgpafpaaWv11
import Derived.Test.YtheaknghgpafpaaWv18
import Derived.ProofKit
import Derived.OpenShut
import Derived.HandedShaped
import Derived.SevenTiedAt
import Derived.Deep.Slices
import Derived.SizedLaws
set_option linter.unusedSimpArgs false
set_option linter.unusedVariables false
namespace Go.Proofs.Ytheaknghgpafpaa
open Go.ChangeShapes Go.WideShapes Go.ChangeAt Go.RowKit

theorem own0 : ownKnob Try.prog.godebug = none := by kernel_rfl
section
variable {H : Type} {enc : TypeId × Value → H}
/-- The row's last step, where of the world behind the call 'Below' alone is known. -/
theorem shut_below {P : Program} {f : Func} {s : ChangeSpec} {apart fresh handsOn again : Bool} {W W' : World} {args : Array Value} {v : Value} {ds gs : List (DataW H)} {before pa pv : List MemPlace}
    (hW : DataW.Whole enc P f.params.toList s.vars apart W args.toList ds gs before)
    (hres : ∀ (b : Nat) (sp : Nat → Bool) (hd : Bool), DataW.TrodAll enc P W' b sp hd f.resultTypes.toList (v.resultList f.resultTypes.size) (s.fn H (ds ++ gs)).results [])
    (hargs : ∀ sp : Nat → Bool, (∀ p ∈ before, sp p.block = true) → DataW.TrodAll enc P W' 0 sp true f.params.toList args.toList (s.fn H (ds ++ gs)).args pa)
    (hvars : ∀ sp : Nat → Bool, (∀ p ∈ before, sp p.block = true) → DataW.TrodVars enc P W' sp s.vars (s.fn H (ds ++ gs)).vars pv)
    (hps : before = pa ++ pv) (hb : Below W.heap.size W W')
    (hok : ∀ (j : Nat) (t : TypeId) (r : Value), f.resultTypes[j]? = some t → (v.resultList f.resultTypes.size)[j]? = some r → Value.okWide P W' .any 0 t r) :
    s.post enc P f apart fresh handsOn again W args v W' := by
  have hlt : ∀ p ∈ before, p.block < W.heap.size := fun p hp => hW.lt p hp
  have hold : ∀ p ∈ before, (fun b => decide (b < W.heap.size)) p.block = true := fun p hp => by simpa using hlt p hp
  refine ⟨ds, gs, before, [], pa, pv, hW, hres _ _ _, hargs _ hold, hvars _ hold, World.keptBut_mono (fun p hp => ⟨hp, ?_⟩) (hb.frame (· ∈ before)), fun _ => ?_⟩
  · rw [hps, List.mem_append] at hp
    exact Or.inr hp
  · obtain ⟨_, _, _, _, _, hz, hn⟩ := hW
    refine ⟨hok, _, _, ([] ++ pa) ++ pv, ⟨[] ++ pa, pv, trodAll_append (hargs _ (fun _ _ => rfl)) (hres _ _ _), hvars _ (fun _ _ => rfl), rfl, ?_, ?_⟩, ?_⟩
    · intro b off hp
      have hin : MemPlace.cell b off ∈ before := by rw [hps]; simpa using hp
      rw [hb.frozen (hlt _ hin)]
      exact hz b off hin
    · intro ha
      have := hn ha
      rw [hps] at this
      simpa using this
    · intro p hp _
      rw [hps]
      simpa using hp
end
theorem flat_length {α : Type} {f : α → List Value} {s : Nat} (hf : ∀ x, (f x).length = s) : ∀ l : List α, (l.flatMap f).length = l.length * s
  | [] => by simp
  | x :: l => by rw [List.flatMap_cons, List.length_append, hf, flat_length hf l, List.length_cons, Nat.succ_mul]; omega
theorem flat_at {α : Type} {f : α → List Value} {s : Nat} (hf : ∀ x, (f x).length = s) : ∀ (l : List α) (k : Nat) (hk : k < l.length) (j : Nat), j < s → (l.flatMap f)[k * s + j]? = (f l[k])[j]?
  | [], k, hk, _, _ => absurd hk (by simp)
  | x :: l, 0, _, j, hj => by rw [List.flatMap_cons, List.getElem?_append_left (by rw [hf]; omega)]; simp
  | x :: l, k + 1, hk, j, hj => by
    have hk' : k < l.length := by simpa using hk
    rw [List.flatMap_cons, List.getElem?_append_right (by rw [hf, Nat.succ_mul]; omega), hf, show (k + 1) * s + j - s = k * s + j from by rw [Nat.succ_mul]; omega]
    exact flat_at hf l k hk' j hj

section
variable {H : Type} {enc : TypeId × Value → H} {w : World} {sp : Nat → Bool} {held : Bool}
set_option maxRecDepth 100000 in
theorem open_rows {α : Type} [Inhabited α] {t e : TypeId} {s : Nat} {f : α → List Value} {R : α → Prop} {fuel : Nat} {cs : List Value} {y : DataW H × List MemPlace} (hf : ∀ x, (f x).length = s) (hs : 0 < s)
    (ht : Try.prog.underlying t = some (.slice e)) (hC : Try.prog.cellsOf e = s) (ho : ∀ (n : Nat) (cs : List Value) (y : DataW H × List MemPlace), DataW.trod enc Try.prog w 0 sp held n e cs = some y → ∃ x, cs = f x ∧ R x)
    (h : DataW.trod enc Try.prog w 0 sp held fuel t cs = some y) :
    ∃ (A : Option Addr) (l : List α) (c : Nat), cs = [.slice A l.length c] ∧ Reads w w.heap.size s A l.length (l.flatMap f) ∧ l.length ≤ c ∧ l.length ≤ maxLen ∧ ∀ x ∈ l, R x := by
  rcases Go.Deep.open_slice ht h with ⟨rfl, -⟩ | ⟨a, len, cap, m, n, D, Pl, rfl, _, hl, hm, hmm, -, hx⟩
  · exact ⟨none, [], 0, rfl, Reads.none_, by simp, by simp, by simp⟩
  · rw [hC] at hx
    have hlm : len ≤ m := by rw [hmm]; split <;> omega
    obtain ⟨g, hg⟩ := Go.Deep.choose_lt (α := α) (n := len) (p := fun i x => w.cells? 0 (a.add (i * s)) s = some (f x) ∧ R x) (fun i hi => by
      obtain ⟨cs', h1, h2⟩ := hx i (by omega)
      obtain ⟨x, rfl, hr⟩ := ho _ _ _ h2
      exact ⟨x, h1, hr⟩)
    have hlen : ((List.range len).map g).length = len := by simp
    refine ⟨some a, (List.range len).map g, cap, by rw [hlen], ⟨flat_length hf _, fun h0 => ?_⟩, by rw [hlen]; exact hl, by rw [hlen]; omega, fun x hx => ?_⟩
    · rw [hlen] at h0
      have hcell : ∀ i j, i < len → j < s → w.cell? ((a.add (i * s)).add j) = (f (g i))[j]? := fun i j hi hj => (World.cells?_some (hg i hi).1).2.2 j hj
      have h00 : w.cell? a = (f (g 0))[0]? := by have := hcell 0 0 h0 hs; simpa [Addr.add] using this
      have hv : (f (g 0))[0]? = some ((f (g 0))[0]'(by rw [hf]; exact hs)) := List.getElem?_eq_getElem _
      rw [hv] at h00
      have hsp := World.cell?_spot h00
      have hblt := lt_of_cell h00
      obtain ⟨b, off, spot⟩ := a
      simp only at hsp hblt
      subst hsp
      refine ⟨b, off, rfl, hblt, fun j u hu => ?_⟩
      have hj : j < len * s := by
        have := (List.getElem?_eq_some_iff.1 hu).1
        rwa [flat_length hf, hlen] at this
      have hi : j / s < len := Nat.div_lt_of_lt_mul (by rw [Nat.mul_comm]; exact hj)
      have hjs : j % s < s := Nat.mod_lt _ hs
      have ej : j / s * s + j % s = j := by rw [Nat.mul_comm]; exact Nat.div_add_mod j s
      have hc := hcell (j / s) (j % s) hi hjs
      rw [Go.Deep.add_add, ej] at hc
      have hat := flat_at hf ((List.range len).map g) (j / s) (by rw [hlen]; exact hi) (j % s) hjs
      rw [ej, hu] at hat
      simp only [List.getElem_map, List.getElem_range] at hat
      rw [← hat] at hc
      have ea : (Addr.add ⟨b, off, none⟩ j : Addr) = ⟨b, off + j, none⟩ := by
        unfold Addr.add
        split
        · subst_vars; rfl
        · rfl
      rwa [ea] at hc
    · obtain ⟨i, hi, rfl⟩ := List.mem_map.1 hx
      exact (hg i (by simpa using hi)).2

end
theorem bstr_ofW (s : ByteArray) : bstr s.data.toList = s := by unfold bstr; obtain ⟨⟨l⟩⟩ := s; rfl
instance : Inhabited Ent := ⟨⟨[], [], [], [], [], false, 0⟩⟩
section
variable {H : Type} {enc : TypeId × Value → H} {w : World} {sp : Nat → Bool} {held : Bool}
set_option maxRecDepth 100000 in
theorem open_entW {fuel : Nat} {cs : List Value} {y : DataW H × List MemPlace} (h : DataW.trod enc Try.prog w 0 sp held fuel 36 cs = some y) :
    ∃ x : Ent, cs = x.cells.toList ∧ (Lit.int .i64 x.s).wf = true := by
  have hc7 : Try.prog.cellsOf 36 = 7 := by kernel_rfl
  have hcs : Try.prog.cellsOf 9 = 1 := by kernel_rfl
  have hct : Try.prog.cellsOf 23 = 2 := by kernel_rfl
  have hcb : Try.prog.cellsOf 4 = 1 := by kernel_rfl
  have hci : Try.prog.cellsOf 3 = 1 := by kernel_rfl
  obtain ⟨ys, m, _, rfl, hlen, hl, hf⟩ := DataW.trod_struct Try.underlying36 h
  rw [hc7] at hlen
  match cs, hlen, ys, hl with
  | [c0, c1, c2, c3, c4, c5, c6], _, [y0, y1, y2, y3, y4, y5], _ =>
    have h0 := hf 0 _ rfl
    have h1 := hf 1 _ rfl
    have h2 := hf 2 _ rfl
    have h3 := hf 3 _ rfl
    have h4 := hf 4 _ rfl
    have h5 := hf 5 _ rfl
    simp [hcs, hct] at h0 h1 h2 h3 h4 h5
    obtain ⟨a0, e0, rfl, s0⟩ := DataW.trod_string Try.underlying9 h0
    obtain ⟨a1, e1, rfl, s1⟩ := DataW.trod_string Try.underlying9 h1
    obtain ⟨a2, e2, rfl, s2⟩ := DataW.trod_string Try.underlying9 h2
    obtain ⟨a3, e3, rfl, s3⟩ := DataW.trod_string Try.underlying9 h3
    obtain ⟨a4, e4, rfl, s4⟩ := DataW.trod_string Try.underlying9 h4
    obtain ⟨zs, m', _, rfl, _, hzl, hzf⟩ := DataW.trod_struct Try.underlying23 h5
    match zs, hzl with
    | [z0, z1], _ =>
      have g0 := hzf 0 _ rfl
      have g1 := hzf 1 _ rfl
      simp [hcb, hci] at g0 g1
      obtain ⟨b, f0, rfl⟩ := DataW.trod_bool Try.underlying4 g0
      obtain ⟨n, f1, rfl, hn⟩ := DataW.trod_int Try.underlying3 g1
      simp at e0 e1 e2 e3 e4 f0 f1
      subst e0 e1 e2 e3 e4 f0 f1
      refine ⟨⟨a0.data.toList, a1.data.toList, a2.data.toList, a3.data.toList, a4.data.toList, b, n⟩, ?_, hn⟩
      unfold Ent.cells
      simp only [bstr_ofW]
/-- What a feed's reading tells. -/
structure FdGot (w : World) (f : Fd) (A : Option Addr) (n c : Nat) : Prop where
  rd : Reads w w.heap.size 7 A n (entVs f.es)
  hn : f.es.length = n
  hc : n ≤ c
  hm : n ≤ maxLen
  hs : (Lit.int .i64 f.s).wf = true
  hes : ∀ x ∈ f.es, (Lit.int .i64 x.s).wf = true
set_option maxRecDepth 100000 in
theorem open_feed {fuel : Nat} {cs : List Value} {y : DataW H × List MemPlace} (h : DataW.trod enc Try.prog w 0 sp held fuel 26 cs = some y) :
    ∃ (f : Fd) (A : Option Addr) (n c : Nat), cs = (f.cells A n c).toList ∧ FdGot w f A n c := by
  have hc6 : Try.prog.cellsOf 26 = 6 := by kernel_rfl
  have hct : Try.prog.cellsOf 23 = 2 := by kernel_rfl
  have hci : Try.prog.cellsOf 3 = 1 := by kernel_rfl
  have hcs : Try.prog.cellsOf 9 = 1 := by kernel_rfl
  have hcb : Try.prog.cellsOf 4 = 1 := by kernel_rfl
  have hce : Try.prog.cellsOf 24 = 1 := by kernel_rfl
  obtain ⟨ys, m, _, rfl, hlen, hl, hf⟩ := DataW.trod_struct Try.underlying26 h
  rw [hc6] at hlen
  match cs, hlen, ys, hl with
  | [c0, c1, c2, c3, c4, c5], _, [y0, y1, y2, y3, y4], _ =>
    have h0 := hf 0 _ rfl
    have h1 := hf 1 _ rfl
    have h2 := hf 2 _ rfl
    have h3 := hf 3 _ rfl
    have h4 := hf 4 _ rfl
    simp [hct, hci, hcs, hcb, hce] at h0 h1 h2 h3 h4
    obtain ⟨a0, e0, rfl, s0⟩ := DataW.trod_string Try.underlying9 h0
    obtain ⟨a1, e1, rfl, s1⟩ := DataW.trod_string Try.underlying9 h1
    obtain ⟨a2, e2, rfl, s2⟩ := DataW.trod_string Try.underlying9 h2
    obtain ⟨zs, m', _, rfl, _, hzl, hzf⟩ := DataW.trod_struct Try.underlying23 h3
    obtain ⟨A, l, c, e4, hA, hlc, hlm, hx⟩ := open_rows (s := 7) (f := fun x : Ent => x.cells.toList) (R := fun x => (Lit.int .i64 x.s).wf = true) (fun _ => rfl) (by omega) Try.underlying24 (by kernel_rfl)
      (fun n cs y hy => open_entW hy) h4
    match zs, hzl with
    | [z0, z1], _ =>
      have g0 := hzf 0 _ rfl
      have g1 := hzf 1 _ rfl
      simp [hcb, hci] at g0 g1
      obtain ⟨b, f0, rfl⟩ := DataW.trod_bool Try.underlying4 g0
      obtain ⟨n, f1, rfl, hn⟩ := DataW.trod_int Try.underlying3 g1
      simp at e0 e1 e2 e4 f0 f1
      subst e0 e1 e2 e4 f0 f1
      refine ⟨⟨a0.data.toList, a1.data.toList, a2.data.toList, b, n, l⟩, A, l.length, c, ?_, ⟨hA, rfl, hlc, hlm, hn, hx⟩⟩
      unfold Fd.cells
      simp only [bstr_ofW]
set_option maxRecDepth 100000 in
theorem stays_feed {W W' : World} {sp' : Nat → Bool} {v : Value} {d : DataW H} {ps : List MemPlace} (h : DataW.Trod enc Try.prog W 0 (fun _ => true) true 26 v d ps) (hsame : ∀ p ∈ ps, W.sameAt W' p) (hs : ∀ p ∈ ps, sp' p.block = true) :
    DataW.Trod enc Try.prog W' 0 sp' true 26 v d ps :=
  WideElems.Trod_stays (by kernel_rfl) (by kernel_rfl) (of_decide_eq_true (by kernel_rfl)) h hsame hs
end
end Go.Proofs.Ytheaknghgpafpaa
namespace Go.Proofs.Ytheaknghgpafpaa
open Go.RowKit Go.WideShapes

theorem row_wk : (56 : TypeId) < Try.prog.types.size := of_decide_eq_true (by kernel_rfl)
theorem at_wk : Try.prog.keyTypeAt 2 56 = true := by kernel_rfl
theorem key_wk : WideMaps.KeyLaw Try.prog 56 := deep_law_laid laidOut_n (m := 2) (by decide) row_wk at_wk (by rw [Try.underlying56])
theorem law_wk : Maps.Keyed Try.prog 56 := Maps.Keyed.of_law key_wk
theorem cells_wk : Try.prog.cellsOf 56 = 1 := by kernel_rfl
theorem keyT_wk : Try.prog.keyType 56 = true := by kernel_rfl
def wkV (l : List UInt8) : Value := .agg #[.string (bstr l)]
def klW (l : List UInt8) : Lit := .string (keyBytes [.string l])
theorem cells_ws : Try.prog.cellsOf 9 = 1 := by kernel_rfl
theorem keyOf_wk (l : List UInt8) (hl : l.length ≤ 1000000) : keyOf Try.prog 56 (wkV l) = some (klW l) := by
  obtain ⟨m, hm⟩ := types_pr
  have hsz : (bstr l).size ≤ maxLen := by rw [bstr_size]; unfold maxLen; omega
  unfold keyOf wkV
  simp only [Try.underlying56]
  rw [if_pos (by simp [keyT_wk, Value.formed, Try.underlying56, cells_wk]), hm]
  unfold Program.keyLits
  simp only [Try.underlying56, Value.cells]
  simp [cells_wk, cells_ws, Program.keyLits, Try.underlying9, List.range_succ, List.mapM_cons, klW, hsz, bstr_list]
theorem wkV_inj {x y : List UInt8} (h : wkV x = wkV y) : x = y := by
  unfold wkV bstr at h
  simpa using h
theorem klW_inj {x y : List UInt8} (hx : x.length ≤ 1000000) (hy : y.length ≤ 1000000) (h : klW x = klW y) : x = y :=
  wkV_inj (key_wk.inj (keyOf_wk x hx) (by rw [h]; exact keyOf_wk y hy))
theorem plain_bool_inv {H : Type} {e : TypeId} (he : Try.prog.underlying e = some .bool) {v : Value} {z : DataW H × List MemPlace} (h : plainElem Try.prog e v = some z) : ∃ x, v = .bool x ∧ z = (.lit (.bool x), []) := by
  unfold plainElem at h
  rw [he] at h
  cases v <;> simp at h
  subst h
  exact ⟨_, rfl, rfl⟩
theorem zero_bool (w : World) : (zeroValue 4).run Try.prog w = .ok (.bool false) w := by kernel_rfl
/-- 'm[k]' at elements that are bools. -/
theorem lookup_bool {w : World} {b n : Nat} {D : DataW Unit} (h : w.ownsMap Try.prog 56 (plainElem Try.prog 4) b n D) {key : Value} {kl : Lit} (hkey : keyOf Try.prog 56 key = some kl) :
    ∃ c, (Instr.lookup 54 (.map (some b)) key false).run Try.prog w = .ok (.bool c) w ∧ D.atKey kl (.lit (.bool false)) = .lit (.bool c) := by
  obtain ⟨v, ps, hrun, hv⟩ := h.lookup law_wk Try.underlying54 (zero_bool w) (plainElem_bool Try.underlying4 false) hkey
  obtain ⟨c, rfl, hc⟩ := plain_bool_inv Try.underlying4 hv
  simp only [Prod.mk.injEq] at hc
  exact ⟨c, hrun, hc.1⟩
/-- The map of what was seen: its datum. -/
structure Seen (W : World) (mb n : Nat) (seen : List (List UInt8)) (D : DataW Unit) : Prop where
  own : W.ownsMap Try.prog 56 (plainElem Try.prog 4) mb n D
  is : Maps.IsMap D
  ok : ∀ x : List UInt8, x.length ≤ 1000000 → D.atKey (klW x) (.lit (.bool false)) = .lit (.bool (seen.contains x))
theorem Seen.new (w : World) : Seen (w.alloc (.map #[] 0)) w.heap.size 0 [] (.map []) := ⟨World.ownsMap_made _ _ _ _, Maps.isMap_empty, fun _ _ => rfl⟩
theorem Seen.same {W W' : World} {mb n : Nat} {seen : List (List UInt8)} {D : DataW Unit} (h : Seen W mb n seen D) (e : W'.heap[mb]? = W.heap[mb]?) : Seen W' mb n seen D := ⟨map_sameN h.own e, h.is, h.ok⟩
theorem Seen.lt {W : World} {mb n : Nat} {seen : List (List UInt8)} {D : DataW Unit} (h : Seen W mb n seen D) : mb < W.heap.size := h.own.lt
theorem Seen.next {W W' : World} {mb n : Nat} {seen : List (List UInt8)} {D : DataW Unit} {x : List UInt8} (h : Seen W mb n seen D) (hx : x.length ≤ 1000000) (ho : W'.ownsMap Try.prog 56 (plainElem Try.prog 4) mb (n + 1) (D.put (klW x) (.lit (.bool true)))) : Seen W' mb (n + 1) (x :: seen) (D.put (klW x) (.lit (.bool true))) := by
  refine ⟨ho, h.is.put _ _, fun y hy => ?_⟩
  by_cases hm : y = x
  · subst hm
    rw [Maps.atKey_put_same h.is (k := klW y) (by simp [WideAt.IsKeyLit, klW])]
    simp
  · rw [Maps.atKey_put_other (fun e => hm (klW_inj hy hx e)), h.ok y hy, List.contains_cons]
    have : (y == x) = false := by simpa using hm
    rw [this, Bool.false_or]
theorem Seen.find {W : World} {mb n : Nat} {seen : List (List UInt8)} {D : DataW Unit} (h : Seen W mb n seen D) {x : List UInt8} (hx : x.length ≤ 1000000) :
    (Instr.lookup 54 (.map (some mb)) (wkV x) false).run Try.prog W = .ok (.bool (seen.contains x)) W := by
  obtain ⟨c, hr, hc⟩ := lookup_bool h.own (keyOf_wk x hx)
  rw [h.ok x hx] at hc
  simp only [DataW.lit.injEq, Lit.bool.injEq] at hc
  subst hc
  exact hr
end Go.Proofs.Ytheaknghgpafpaa
namespace Go.Proofs.Ytheaknghgpafpaa
open Go.RowKit Go.WideShapes

namespace Wr
def mayE (seen : List (List UInt8)) (x : Ent) : Bool := !x.id.isEmpty && !seen.contains x.id && [x.id, x.title, x.link, x.author].all Tx.isLine && Tx.isBlock x.content && whenP x.k x.s
def mayEs : List (List UInt8) → List Ent → Bool
  | _, [] => true
  | seen, x :: es => mayE seen x && mayEs (x.id :: seen) es
def may (f : Fd) : Bool := [f.id, f.title, f.link].all Tx.isLine && whenP f.k f.s && decide (f.es.length ≤ 16) && mayEs [] f.es
end Wr
/-- No text of a feed is too long. -/
structure Fd.Ok (f : Fd) : Prop where
  id : f.id.length ≤ 20000
  title : f.title.length ≤ 20000
  link : f.link.length ≤ 20000
  s : (Lit.int .i64 f.s).wf = true
  es : ∀ x ∈ f.es, x.Ok
/-- lines, of a row just built. -/
theorem lines_n (ls : List (List UInt8)) (n : Nat) (w : World) (hn : ls.length = n) (hn2 : n ≤ 100) (hl : ∀ l ∈ ls, l.length ≤ 200000) :
    Calls Try.prog 18 #[.slice (some ⟨w.heap.size, 0, none⟩) n n] (w.alloc (.cells (strVs ls) 9)) fun e w' => e = .returned (.bool (ls.all Tx.isLine)) ∧ Below w.heap.size w w' := by
  refine (lines_any ls _ n n _ (Blk.new w _ _) hn hn2 hl).mono ?_
  rintro e w' ⟨h1, h2⟩
  exact ⟨h1, (below_alloc w _).trans (h2.mono (by simp))⟩
set_option maxRecDepth 100000 in
set_option maxHeartbeats 8000000 in
theorem May_any (f : Fd) (A : Option Addr) (n c B : Nat) (w : World) (hR : Reads w B 7 A n (entVs f.es)) (hn : f.es.length = n) (hB : B ≤ w.heap.size) (hm : n ≤ maxLen) (hok : f.Ok) :
    Calls Try.prog 11 #[.agg (f.cells A n c)] w fun e w' => e = .returned (.bool (Wr.may f)) ∧ Below w.heap.size w w' := by
  obtain ⟨id, ti, lk, k, s, es⟩ := f
  obtain ⟨h1, h2, h3, hs, hes⟩ := hok
  dsimp only at hR hn h1 h2 h3 hs hes
  have HO := hide (below_alloc w (.cells (Fd.cells ⟨id, ti, lk, k, s, es⟩ A n c) 26))
  have HT := hide (Blk.new w 26 (Fd.cells ⟨id, ti, lk, k, s, es⟩ A n c))
  have HRd := hide hR
  have Hn := hide hn
  have Hes := hide hes
  have hm' : (n : Int) ≤ 9223372036854775807 := by unfold maxLen at hm; omega
  have HL := hide (fun W => lines_n [id, ti, lk] 3 W rfl (by omega) (by intro l hl; simp at hl; rcases hl with rfl | rfl | rfl <;> omega))
  have HW := hide (fun W => when_any k s W hs)
  clear hR hn hes
  unfold Fd.cells at HO HT ⊢
  dsimp only at HO HT ⊢
  have t0 := HT.out.cell 0
  have hl0 := HL.out (w.alloc (.cells #[.string (bstr id), .string (bstr ti), .string (bstr lk), .bool k, .int .i64 s, .slice A n c] 26))
  rw [World.size_alloc] at hl0
  have HL0 := hide hl0
  clear hl0 t0
  go_enter Try.func11, Try.ntmps11
  go_wp2_with fail
  refine HL0.out.mono ?_
  rintro e w1 ⟨rfl, hb1⟩
  have hz1 : w.heap.size + 1 ≤ w1.heap.size := by have := hb1.size; simp at this; omega
  have HT1 := hide (HT.out.go (by simpa using hb1))
  have HB1 := hide (HO.out.trans (hb1.mono (by first | exact Nat.le_succ _ | exact HO.out.size)))
  clear hb1
  have t3 := HT1.out.cell 3
  have t4 := HT1.out.cell 4
  have t5 := HT1.out.cell 5
  have HV := hide (show Wr.may ⟨id, ti, lk, k, s, es⟩ = ([id, ti, lk].all Tx.isLine && whenP k s && decide (n ≤ 16) && Wr.mayEs [] es) by unfold Wr.may; dsimp only; rw [Hn.out])
  cases hq : [id, ti, lk].all Tx.isLine with
  | false =>
    rw [hq] at HV
    clear hq
    dsimp only
    go_wp2
    go_ret
    rw [HV.out]
    exact ⟨rfl, HB1.out⟩
  | true =>
    rw [hq] at HV
    clear hq
    dsimp only
    go_wp2_with fail
    refine (HW.out _).mono ?_
    rintro e w2 ⟨rfl, hb2⟩
    have HB2 := hide (HB1.out.trans (hb2.mono HB1.out.size))
    have HT2 := hide (HT1.out.go hb2)
    clear hb2 t3 t4 t5
    have t5 := HT2.out.cell 5
    cases hq : whenP k s with
    | false =>
      rw [hq] at HV
      clear hq
      dsimp only
      go_wp2
      go_ret
      rw [HV.out]
      exact ⟨rfl, HB2.out⟩
    | true =>
      rw [hq] at HV
      clear hq
      by_cases h16 : 16 < n
      · rw [decide_eq_false (show ¬ n ≤ 16 by omega)] at HV
        dsimp only
        go_wp2
        go_ret
        rw [HV.out]
        exact ⟨rfl, HB2.out⟩
      · rw [decide_eq_true (show n ≤ 16 by omega)] at HV
        dsimp only
        have hmm := @run_makeMap Try.prog
        have HM0 := hide (Seen.new w2)
        have HT3 := hide (HT2.out.alloc (.map #[] 0))
        have HB3 := hide (HB2.out.alloc HB2.out.size (.map #[] 0))
        have t5b := HT3.out.cell 5
        go_wp2
        clear t5 t5b hmm
        go_loopg [5, 6, 32] n (fun gk v5 v6 v32 wr => ∃ (i m : Nat) (D : DataW Unit), v32 = .int .i64 (i : Int) ∧ gk = n - i ∧ i ≤ n ∧ Seen wr w2.heap.size i ((es.take i).map (·.id)).reverse D ∧ Wr.mayEs [] es = Wr.mayEs ((es.take i).map (·.id)).reverse (es.drop i) ∧ Below w.heap.size w wr)
        case atStart => exact ⟨0, 0, _, rfl, rfl, by omega, HM0.out, rfl, HB3.out⟩
        case round =>
          obtain ⟨i, m, D, rfl, hgk, hin, hsn, heq, hb⟩ := hrel
          have HSn := hide hsn
          have HEq := hide heq
          have HB := hide hb
          have Hgk := hide hgk
          have hszr := hb.size
          clear hsn heq hb hgk
          by_cases hlt : i < n
          · have hil : i < es.length := by rw [Hn.out]; exact hlt
            have hRw : Reads wr B 7 A es.length (entVs es) := by
              rw [Hn.out]
              exact HRd.out.keep fun p hp => World.cell?_of_block (HB.out.block _ (by omega))
            obtain ⟨b, off, rfl, hbB, hx⟩ := hRw.ent hil
            have Hox := hide (Hes.out _ (List.getElem_mem hil))
            have Hdr := hide (show es.drop i = es[i] :: es.drop (i + 1) from List.drop_eq_getElem_cons hil)
            have Htk := hide (show ((es.take (i + 1)).map (·.id)).reverse = es[i].id :: ((es.take i).map (·.id)).reverse by rw [List.take_succ_eq_append_getElem hil, List.map_append, List.reverse_append]; rfl)
            obtain ⟨x, hxe⟩ : ∃ x, es[i] = x := ⟨_, rfl⟩
            rw [hxe] at hx Hox Hdr Htk
            obtain ⟨seen, hseen⟩ : ∃ seen, ((es.take i).map (·.id)).reverse = seen := ⟨_, rfl⟩
            rw [hseen] at HSn HEq Htk
            have HNext := hide (show Wr.mayEs [] es = (Wr.mayE seen x && Wr.mayEs (x.id :: seen) (es.drop (i + 1))) by rw [HEq.out, Hdr.out]; rfl)
            clear hxe hseen Hdr HEq hRw
            obtain ⟨xi, xt, xl, xa, xc, xk, xs⟩ := x
            have x0 := hx.c0
            have x1 := hx.c1
            have x2 := hx.c2
            have x3 := hx.c3
            have x4 := hx.c4
            have x5 := hx.c5
            have x6 := hx.c6
            clear hx
            dsimp only at x0 x1 x2 x3 x4 x5 x6
            have hxi : xi.length ≤ 1000000 := by have := Hox.out.id; dsimp only at this; omega
            have HSk := hide (HSn.out.same (W' := (wr.alloc (.cells #[.string (bstr xi), .string (bstr xt), .string (bstr xl), .string (bstr xa), .string (bstr xc), .bool xk, .int .i64 xs] 36)).alloc (.cells #[.string (bstr xi)] 56)) (((below_alloc _ _).block _ (by have := HSn.out.lt; simp; omega)).trans ((below_alloc wr _).block _ HSn.out.lt)))
            have hfind := HSk.out.find hxi
            unfold wkV at hfind
            have HEnd0 := hide (show Wr.mayE seen ⟨xi, xt, xl, xa, xc, xk, xs⟩ = false → Wr.may ⟨id, ti, lk, k, s, es⟩ = false from fun h => by rw [HV.out, HNext.out, h]; rfl)
            have HBk := hide (HB.out.trans ((below_alloc wr (.cells #[.string (bstr xi), .string (bstr xt), .string (bstr xl), .string (bstr xa), .string (bstr xc), .bool xk, .int .i64 xs] 36)).mono HB.out.size))
            have HBk2 := hide (HBk.out.trans ((below_alloc _ (.cells #[.string (bstr xi)] 56)).mono HBk.out.size))
            clear HBk
            obtain ⟨W0, hW0⟩ : ∃ W0, (wr.alloc (.cells #[.string (bstr xi), .string (bstr xt), .string (bstr xl), .string (bstr xa), .string (bstr xc), .bool xk, .int .i64 xs] 36)).alloc (.cells #[.string (bstr xi)] 56) = W0 := ⟨_, rfl⟩
            have HKE := hide (show Blk W0 wr.heap.size 36 #[.string (bstr xi), .string (bstr xt), .string (bstr xl), .string (bstr xa), .string (bstr xc), .bool xk, .int .i64 xs] by rw [← hW0]; exact (Blk.new wr _ _).go (below_alloc _ _))
            have HKK := hide (show Blk W0 (wr.heap.size + 1) 56 #[.string (bstr xi)] by
              rw [← hW0]
              have h := Blk.new (wr.alloc (.cells #[.string (bstr xi), .string (bstr xt), .string (bstr xl), .string (bstr xa), .string (bstr xc), .bool xk, .int .i64 xs] 36)) 56 #[.string (bstr xi)]
              rwa [World.size_alloc] at h)
            have HSz := hide (show W0.heap.size = wr.heap.size + 2 by rw [← hW0]; simp)
            have HSk2 := hide (show Seen W0 w2.heap.size i seen D by rw [← hW0]; exact HSk.out)
            have HBk3 := hide (show Below w.heap.size w W0 by rw [← hW0]; exact HBk2.out)
            have HW0 := hide hW0
            clear hW0
            cases xi with
            | nil =>
              have HF := hide (HEnd0.out rfl)
              have emp : (bstr ([] : List UInt8)).toList.isEmpty = true := Wr.emp _
              go_wp2
              go_ret
              rw [HF.out]
              exact ⟨rfl, HBk2.out⟩
            | cons c1 xi =>
              have emp : (bstr (c1 :: xi)).toList.isEmpty = false := Wr.emp _
              cases hc : seen.contains (c1 :: xi) with
              | true =>
                have HF := hide (HEnd0.out (by unfold Wr.mayE; dsimp only; rw [hc]; rfl))
                rw [hc] at hfind
                clear hc
                go_wp2
                go_ret
                rw [HF.out]
                exact ⟨rfl, HBk2.out⟩
              | false =>
                rw [hc] at hfind
                have Hc := hide hc
                clear hc
                have hl4 := lines_n [c1 :: xi, xt, xl, xa] 4 ((wr.alloc (.cells #[.string (bstr (c1 :: xi)), .string (bstr xt), .string (bstr xl), .string (bstr xa), .string (bstr xc), .bool xk, .int .i64 xs] 36)).alloc (.cells #[.string (bstr (c1 :: xi))] 56)) rfl (by omega) (by
                  obtain ⟨g1, g2, g3, g4, g5, g6⟩ := Hox.out
                  dsimp only at g1 g2 g3 g4
                  intro l hl
                  simp only [List.mem_cons, List.not_mem_nil, or_false] at hl
                  rcases hl with rfl | rfl | rfl | rfl <;> omega)
                have HLf := hide hl4
                simp only [World.size_alloc] at hl4
                have HL4 := hide hl4
                clear hl4 HLf
                go_wp2_with fail
                refine HL4.out.mono ?_
                rintro e w4 ⟨rfl, hb4⟩
                rw [HW0.out] at hb4
                have HB4 := hide (show Below W0.heap.size W0 w4 by rw [HSz.out]; exact hb4)
                clear hb4
                have e4 := (HKE.out.go HB4.out).cell 4
                cases hq : [c1 :: xi, xt, xl, xa].all Tx.isLine with
                | false =>
                  have HF := hide (HEnd0.out (by unfold Wr.mayE; dsimp only; rw [hq]; simp))
                  clear hq
                  dsimp only
                  go_wp2
                  go_ret
                  rw [HF.out]
                  exact ⟨rfl, HBk3.out.trans (HB4.out.mono HBk3.out.size)⟩
                | true =>
                  have Hq4 := hide hq
                  clear hq
                  have HIB := hide (isBlock_any xc w4 (by have := Hox.out.content; dsimp only at this; omega))
                  dsimp only
                  go_wp2_with fail
                  refine HIB.out.mono ?_
                  rintro e w5 ⟨rfl, hb5⟩
                  have HB5 := hide (HB4.out.trans (hb5.mono HB4.out.size))
                  clear hb5 e4
                  have e5 := (HKE.out.go HB5.out).cell 5
                  have e6 := (HKE.out.go HB5.out).cell 6
                  cases hq : Tx.isBlock xc with
                  | false =>
                    have HF := hide (HEnd0.out (by unfold Wr.mayE; dsimp only; rw [hq]; simp))
                    clear hq
                    dsimp only
                    go_wp2
                    go_ret
                    rw [HF.out]
                    exact ⟨rfl, HBk3.out.trans (HB5.out.mono HBk3.out.size)⟩
                  | true =>
                    have Hq5 := hide hq
                    clear hq
                    have HWn := hide (when_any xk xs w5 (by have := Hox.out.s; exact this))
                    dsimp only
                    go_wp2_with fail
                    refine HWn.out.mono ?_
                    rintro e w6 ⟨rfl, hb6⟩
                    have HB6 := hide (HB5.out.trans (hb6.mono HB5.out.size))
                    clear hb6 e5 e6
                    cases hq : whenP xk xs with
                    | false =>
                      have HF := hide (HEnd0.out (by unfold Wr.mayE; dsimp only; rw [hq]; simp))
                      clear hq
                      dsimp only
                      go_wp2
                      go_ret
                      rw [HF.out]
                      exact ⟨rfl, HBk3.out.trans (HB6.out.mono HBk3.out.size)⟩
                    | true =>
                      have HE1 := hide (show Wr.mayE seen ⟨c1 :: xi, xt, xl, xa, xc, xk, xs⟩ = true by unfold Wr.mayE; dsimp only; rw [Hc.out, Hq4.out, Hq5.out, hq]; rfl)
                      clear hq
                      have HS6 := hide (HSk2.out.same (HB6.out.block _ HSk2.out.lt))
                      have k0 := (HKK.out.go HB6.out).cell 0
                      have hnb : i < maxLen := by unfold maxLen; omega
                      dsimp only
                      go_wp2_with (at_mapUpdate; refine wpList_mapUpdate_own _ rfl _ _ _ 54 rfl 56 4 law_wk Try.underlying54 _ w2.heap.size i D rfl HS6.out.own hnb _ _ _ (by rfl) (by rfl) (keyOf_wk (c1 :: xi) hxi) _ [] (plainElem_bool Try.underlying4 true) ?_; intro w8 hown8 hgrow8)
                      have HS8 := hide (HS6.out.next hxi hown8)
                      have HB8 := hide ((HBk3.out.trans (HB6.out.mono HBk3.out.size)).grown hgrow8 (Nat.le_trans HBk3.out.size HB6.out.size) (fun k hk => by injection hk with hk; rw [← hk]; exact HB2.out.size))
                      clear hown8 hgrow8
                      go_wp2
                      go_roundg (n - (i + 1))
                      case measure => have := Hgk.out; omega
                      case rel => exact ⟨i + 1, 0, _, by first | rfl | go_num, rfl, by omega, by rw [Htk.out]; exact HS8.out, by rw [Htk.out, HNext.out, HE1.out]; rfl, HB8.out⟩
          · have hi' : i = n := by omega
            have hd : es.drop i = [] := List.drop_eq_nil_of_le (by rw [Hn.out]; omega)
            have HF := hide (show Wr.may ⟨id, ti, lk, k, s, es⟩ = true by rw [HV.out, HEq.out, hd]; rfl)
            clear hd
            subst hi'
            go_wp2
            go_ret
            rw [HF.out]
            exact ⟨rfl, HB.out⟩
end Go.Proofs.Ytheaknghgpafpaa
