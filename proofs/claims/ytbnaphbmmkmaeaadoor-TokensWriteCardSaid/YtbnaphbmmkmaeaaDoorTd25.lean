/- Arguments opened: a row of tokens from its reading, and how long its texts may be; its reading stays. -/
import Derived.Test.YtbnaphbmmkmaeaaDoorTd23
import Derived.Test.YtbnaphbmmkmaeaaDoorTd24
import Derived.Deep.Slices
import Derived.SizedLaws
set_option linter.unusedSimpArgs false
set_option linter.unusedVariables false
namespace Go.Proofs.YtbnaphbmmkmaeaaDoor
open Go.ChangeShapes Go.WideShapes Go.ChangeAt Go.RowKit Tk

theorem flat_length {α : Type} {f : α → List Value} {s : Nat} (hf : ∀ x, (f x).length = s) : ∀ l : List α, (l.flatMap f).length = l.length * s
  | [] => by simp
  | x :: l => by rw [List.flatMap_cons, List.length_append, hf, flat_length hf l, List.length_cons, Nat.succ_mul]; omega
theorem flat_at {α : Type} {f : α → List Value} {s : Nat} (hf : ∀ x, (f x).length = s) : ∀ (l : List α) (k : Nat) (hk : k < l.length) (j : Nat), j < s → (l.flatMap f)[k * s + j]? = (f l[k])[j]?
  | [], k, hk, _, _ => absurd hk (by simp)
  | x :: l, 0, _, j, hj => by rw [List.flatMap_cons, List.getElem?_append_left (by rw [hf]; omega)]; simp
  | x :: l, k + 1, hk, j, hj => by
    have hk' : k < l.length := by simpa using hk
    rw [List.flatMap_cons, List.getElem?_append_right (by rw [hf, Nat.succ_mul]; omega), hf, show (k + 1) * s + j - s = k * s + j from by rw [Nat.succ_mul]; omega]
    exact flat_at hf l k hk' j hj

section
variable {H : Type} {enc : TypeId × Value → H} {w : World} {sp : Nat → Bool} {held : Bool}
set_option maxRecDepth 100000 in
theorem open_rowsD {α : Type} [Inhabited α] {t e : TypeId} {s : Nat} {f : α → List Value} {R : α → DataW H → Prop} {fuel : Nat} {cs : List Value} {y : DataW H × List MemPlace} (hf : ∀ x, (f x).length = s) (hs : 0 < s)
    (ht : Tryd.prog.underlying t = some (.slice e)) (hC : Tryd.prog.cellsOf e = s) (ho : ∀ (n : Nat) (cs : List Value) (y : DataW H × List MemPlace), DataW.trod enc Tryd.prog w 0 sp held n e cs = some y → ∃ x, cs = f x ∧ R x y.1)
    (h : DataW.trod enc Tryd.prog w 0 sp held fuel t cs = some y) :
    ∃ (A : Option Addr) (l : List α) (c : Nat), cs = [.slice A l.length c] ∧ Reads w w.heap.size s A l.length (l.flatMap f) ∧ l.length ≤ maxLen ∧ ∃ elems spare, (l ≠ [] → y.1 = .slice elems spare) ∧ ∀ x ∈ l, ∃ d ∈ elems, R x d := by
  rcases Go.Deep.open_slice ht h with ⟨rfl, -⟩ | ⟨a, len, cap, m, n, D, Pl, rfl, _, hl, hm, hmm, hy, hx⟩
  · exact ⟨none, [], 0, rfl, Reads.none_, by simp, [], [], fun h => absurd rfl h, by simp⟩
  · rw [hC] at hx
    have hlm : len ≤ m := by rw [hmm]; split <;> omega
    obtain ⟨g, hg⟩ := Go.Deep.choose_lt (α := α) (n := len) (p := fun i x => w.cells? 0 (a.add (i * s)) s = some (f x) ∧ R x (D i)) (fun i hi => by
      obtain ⟨cs', h1, h2⟩ := hx i (by omega)
      obtain ⟨x, rfl, hr⟩ := ho _ _ _ h2
      exact ⟨x, h1, hr⟩)
    have hlen : ((List.range len).map g).length = len := by simp
    refine ⟨some a, (List.range len).map g, cap, by rw [hlen], ⟨flat_length hf _, fun h0 => ?_⟩, by rw [hlen]; omega, _, _, fun _ => by rw [hy], fun x hx => ?_⟩
    · rw [hlen] at h0
      have hcell : ∀ i j, i < len → j < s → w.cell? ((a.add (i * s)).add j) = (f (g i))[j]? := fun i j hi hj => (World.cells?_some (hg i hi).1).2.2 j hj
      have h00 : w.cell? a = (f (g 0))[0]? := by have := hcell 0 0 h0 hs; simpa [Addr.add] using this
      have hv : (f (g 0))[0]? = some ((f (g 0))[0]'(by rw [hf]; exact hs)) := List.getElem?_eq_getElem _
      rw [hv] at h00
      have hsp := World.cell?_spot h00
      have hblt := lt_of_cell h00
      obtain ⟨b, off, spot⟩ := a
      simp only at hsp hblt
      subst hsp
      refine ⟨b, off, rfl, hblt, fun j u hu => ?_⟩
      have hj : j < len * s := by
        have := (List.getElem?_eq_some_iff.1 hu).1
        rwa [flat_length hf, hlen] at this
      have hi : j / s < len := Nat.div_lt_of_lt_mul (by rw [Nat.mul_comm]; exact hj)
      have hjs : j % s < s := Nat.mod_lt _ hs
      have ej : j / s * s + j % s = j := by rw [Nat.mul_comm]; exact Nat.div_add_mod j s
      have hc := hcell (j / s) (j % s) hi hjs
      rw [Go.Deep.add_add, ej] at hc
      have hat := flat_at hf ((List.range len).map g) (j / s) (by rw [hlen]; exact hi) (j % s) hjs
      rw [ej, hu] at hat
      simp only [List.getElem_map, List.getElem_range] at hat
      rw [← hat] at hc
      have ea : (Addr.add ⟨b, off, none⟩ j : Addr) = ⟨b, off + j, none⟩ := by
        unfold Addr.add
        split
        · subst_vars; rfl
        · rfl
      rwa [ea] at hc
    · obtain ⟨i, hi, rfl⟩ := List.mem_map.1 hx
      have hi' : i < len := by simpa using hi
      exact ⟨D i, List.mem_map.2 ⟨i, hi, rfl⟩, (hg i hi').2⟩
instance : Inhabited Ga := ⟨⟨⟨#[]⟩, ⟨#[]⟩, 0⟩⟩
instance : Inhabited Gt := ⟨⟨0, ⟨#[]⟩, [], none, 0, false, ⟨#[]⟩, 0, 0⟩⟩
set_option maxRecDepth 100000 in
theorem open_ga {fuel : Nat} {cs : List Value} {y : DataW H × List MemPlace} (h : DataW.trod enc Tryd.prog w 0 sp held fuel 38 cs = some y) :
    ∃ x : Ga, cs = gaCells x := by
  have hc3 : Tryd.prog.cellsOf 38 = 3 := by kernel_rfl
  have hcs : Tryd.prog.cellsOf 9 = 1 := by kernel_rfl
  have hci : Tryd.prog.cellsOf 3 = 1 := by kernel_rfl
  obtain ⟨ys, m, _, rfl, hlen, hl, hf⟩ := DataW.trod_struct Tryd.underlying38 h
  rw [hc3] at hlen
  match cs, hlen, ys, hl with
  | [c0, c1, c2], _, [y0, y1, y2], _ =>
    have h0 := hf 0 _ rfl
    have h1 := hf 1 _ rfl
    have h2 := hf 2 _ rfl
    simp [hcs, hci] at h0 h1 h2
    obtain ⟨a0, e0, rfl, s0⟩ := DataW.trod_string Tryd.underlying9 h0
    obtain ⟨a1, e1, rfl, s1⟩ := DataW.trod_string Tryd.underlying9 h1
    obtain ⟨n, f1, rfl, hn⟩ := DataW.trod_int Tryd.underlying3 h2
    simp at e0 e1 f1
    subst e0 e1 f1
    exact ⟨⟨a0, a1, n⟩, rfl⟩
/-- What a token's reading tells beside its cells. -/
structure TokGot (w : World) (x : Gt) (d : DataW H) : Prop where
  sub : Reads w w.heap.size 3 x.A x.as_.length (gas x.as_)
  na : x.as_.length ≤ maxLen
  data : ∃ parts, d = .agg parts ∧ parts[1]? = some (.lit (.string x.name.data.toList)) ∧ parts[4]? = some (.lit (.string x.text.data.toList))
set_option maxRecDepth 100000 in
theorem open_gt {fuel : Nat} {cs : List Value} {y : DataW H × List MemPlace} (h : DataW.trod enc Tryd.prog w 0 sp held fuel 29 cs = some y) :
    ∃ x : Gt, cs = gtCells x ∧ TokGot w x y.1 := by
  have hc7 : Tryd.prog.cellsOf 29 = 7 := by kernel_rfl
  have hcn : Tryd.prog.cellsOf 26 = 1 := by kernel_rfl
  have hcs : Tryd.prog.cellsOf 9 = 1 := by kernel_rfl
  have hca : Tryd.prog.cellsOf 27 = 1 := by kernel_rfl
  have hcb : Tryd.prog.cellsOf 4 = 1 := by kernel_rfl
  have hci : Tryd.prog.cellsOf 3 = 1 := by kernel_rfl
  obtain ⟨ys, m, _, rfl, hlen, hl, hf⟩ := DataW.trod_struct Tryd.underlying29 h
  rw [hc7] at hlen
  match cs, hlen, ys, hl with
  | [c0, c1, c2, c3, c4, c5, c6], _, [y0, y1, y2, y3, y4, y5, y6], _ =>
    have h0 := hf 0 _ rfl
    have h1 := hf 1 _ rfl
    have h2 := hf 2 _ rfl
    have h3 := hf 3 _ rfl
    have h4 := hf 4 _ rfl
    have h5 := hf 5 _ rfl
    have h6 := hf 6 _ rfl
    simp [hcn, hcs, hca, hcb, hci] at h0 h1 h2 h3 h4 h5 h6
    obtain ⟨kd, e0, rfl, w0⟩ := DataW.trod_int Tryd.underlying26 h0
    obtain ⟨nm, e1, rfl, s1⟩ := DataW.trod_string Tryd.underlying9 h1
    obtain ⟨A, l, c, e2, hA, hl, -⟩ := open_rowsD (s := 3) (f := gaCells) (R := fun _ _ => True) (fun _ => rfl) (by omega) Tryd.underlying27 (by kernel_rfl)
      (fun n cs y hy => by obtain ⟨x, ex⟩ := open_ga hy; exact ⟨x, ex, trivial⟩) h2
    obtain ⟨em, e3, rfl⟩ := DataW.trod_bool Tryd.underlying4 h3
    obtain ⟨tx, e4, rfl, s4⟩ := DataW.trod_string Tryd.underlying9 h4
    obtain ⟨a0, e5, rfl, w5⟩ := DataW.trod_int Tryd.underlying3 h5
    obtain ⟨a1, e6, rfl, w6⟩ := DataW.trod_int Tryd.underlying3 h6
    simp at e0 e1 e2 e3 e4 e5 e6
    subst e0 e1 e2 e3 e4 e5 e6
    exact ⟨⟨kd, nm, l, A, c, em, tx, a0, a1⟩, rfl, hA, hl, _, rfl, rfl, rfl⟩
theorem weightsAll_mem {P : Program} {e : TypeId} : ∀ {l : List (DataW H)} {d : DataW H}, d ∈ l → ∀ n ∈ d.weights P e, n ∈ DataW.weightsAll P e l
  | [], _, h, _, _ => absurd h (by simp)
  | d :: r, d', h, n, hn => by
    unfold DataW.weightsAll
    rw [List.mem_append]
    rcases List.mem_cons.1 h with rfl | h
    · exact .inl hn
    · exact .inr (weightsAll_mem h n hn)
set_option maxRecDepth 100000 in
theorem tok_weights {x : Gt} {d : DataW H} (h : TokGot w x d) : x.name.size ∈ d.weights Tryd.prog 29 ∧ x.text.size ∈ d.weights Tryd.prog 29 := by
  obtain ⟨parts, rfl, h1, h4⟩ := h.data
  unfold DataW.weights
  rw [Tryd.underlying29]
  constructor
  · exact DataW.weights_mem_each (j := 1) (t := 9) rfl h1 _ (by unfold DataW.weights; rw [size_list]; exact List.mem_singleton.2 rfl)
  · exact DataW.weights_mem_each (j := 4) (t := 9) rfl h4 _ (by unfold DataW.weights; rw [size_list]; exact List.mem_singleton.2 rfl)
/-- What a row of tokens tells. -/
structure TokRow (w : World) (A : Option Addr) (c : Nat) (l : List Gt) : Prop where
  a : TkL w w.heap.size A l
  len : l.length ≤ maxLen
  subs : ∀ x ∈ l, x.as_.length ≤ maxLen
set_option maxRecDepth 100000 in
theorem open_toks {r : Reach} {b0 : Nat} {v : Value} {d : DataW H} {ps : List MemPlace} (hval : Value.okWide Tryd.prog w r b0 23 v) (h : DataW.Trod enc Tryd.prog w 0 (fun _ => true) true 23 v d ps) :
    ∃ (A : Option Addr) (c : Nat) (l : List Gt), v = .slice A l.length c ∧ TokRow w A c l ∧ ((∀ n ∈ d.weights Tryd.prog 23, n ≤ reachBytes) → ∀ x ∈ l, x.name.size ≤ 140737488351232 ∧ x.text.size ≤ 140737488351232) := by
  obtain ⟨fuel, hf⟩ := h
  obtain ⟨A, l, c, e, hA, hl, elems, spare, hd, hx⟩ := open_rowsD (s := 7) (f := gtCells) (R := fun x d => TokGot w x d) (fun _ => rfl) (by omega) Tryd.underlying23 (by kernel_rfl)
    (fun n cs y hy => open_gt hy) hf
  have hv : v = .slice A l.length c := by
    obtain ⟨a, len, cap, rfl⟩ := okWide_slice Tryd.underlying23 hval
    simpa [Value.cells] using e
  refine ⟨A, c, l, hv, ⟨⟨hA, fun x hm => ?_⟩, hl, fun x hm => ?_⟩, fun hw x hm => ?_⟩
  · obtain ⟨_, _, hg⟩ := hx x hm; exact hg.sub
  · obtain ⟨_, _, hg⟩ := hx x hm; exact hg.na
  · obtain ⟨q, hq, hg⟩ := hx x hm
    have hd' : d = .slice elems spare := hd (fun h => by rw [h] at hm; cases hm)
    subst hd'
    have key : ∀ n ∈ q.weights Tryd.prog 29, n ≤ reachBytes := fun n hn => hw n (by
      unfold DataW.weights
      rw [Tryd.underlying23]
      exact List.mem_cons_of_mem _ (List.mem_append_left _ (weightsAll_mem hq n hn)))
    exact ⟨key _ (tok_weights hg).1, key _ (tok_weights hg).2⟩
set_option maxRecDepth 100000 in
theorem stays_toks {W W' : World} {sp' : Nat → Bool} {v : Value} {d : DataW H} {ps : List MemPlace} (h : DataW.Trod enc Tryd.prog W 0 (fun _ => true) true 23 v d ps) (hsame : ∀ p ∈ ps, W.sameAt W' p) (hs : ∀ p ∈ ps, sp' p.block = true) :
    DataW.Trod enc Tryd.prog W' 0 sp' true 23 v d ps :=
  WideElems.Trod_stays (by kernel_rfl) (by kernel_rfl) (of_decide_eq_true (by kernel_rfl)) h hsame hs
end
end Go.Proofs.YtbnaphbmmkmaeaaDoor
