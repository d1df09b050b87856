/- Bozo: a row of reasons from its reading; its reading stays. -/
import Derived.Test.YtaickkaoglohgaaBv37
import Derived.Test.YtaickkaoglohgaaBv38
import Derived.Deep.Slices
import Derived.SizedLaws
set_option linter.unusedSimpArgs false
set_option linter.unusedVariables false
namespace Go.Proofs.Ytaickkaoglohgaa
open Go.ChangeShapes Go.WideShapes Go.ChangeAt Go.RowKit Tk

theorem flat_length {α : Type} {f : α → List Value} {s : Nat} (hf : ∀ x, (f x).length = s) : ∀ l : List α, (l.flatMap f).length = l.length * s
  | [] => by simp
  | x :: l => by rw [List.flatMap_cons, List.length_append, hf, flat_length hf l, List.length_cons, Nat.succ_mul]; omega
theorem flat_at {α : Type} {f : α → List Value} {s : Nat} (hf : ∀ x, (f x).length = s) : ∀ (l : List α) (k : Nat) (hk : k < l.length) (j : Nat), j < s → (l.flatMap f)[k * s + j]? = (f l[k])[j]?
  | [], k, hk, _, _ => absurd hk (by simp)
  | x :: l, 0, _, j, hj => by rw [List.flatMap_cons, List.getElem?_append_left (by rw [hf]; omega)]; simp
  | x :: l, k + 1, hk, j, hj => by
    have hk' : k < l.length := by simpa using hk
    rw [List.flatMap_cons, List.getElem?_append_right (by rw [hf, Nat.succ_mul]; omega), hf, show (k + 1) * s + j - s = k * s + j from by rw [Nat.succ_mul]; omega]
    exact flat_at hf l k hk' j hj

section
variable {H : Type} {enc : TypeId × Value → H} {w : World} {sp : Nat → Bool} {held : Bool}
set_option maxRecDepth 100000 in
theorem open_rowsC {α : Type} [Inhabited α] {t e : TypeId} {s : Nat} {f : α → List Value} {R : α → DataW H → Prop} {fuel : Nat} {cs : List Value} {y : DataW H × List MemPlace} (hf : ∀ x, (f x).length = s) (hs : 0 < s)
    (ht : Try.prog.underlying t = some (.slice e)) (hC : Try.prog.cellsOf e = s) (ho : ∀ (n : Nat) (cs : List Value) (y : DataW H × List MemPlace), DataW.trod enc Try.prog w 0 sp held n e cs = some y → ∃ x, cs = f x ∧ R x y.1)
    (h : DataW.trod enc Try.prog w 0 sp held fuel t cs = some y) :
    ∃ (A : Option Addr) (l : List α) (c : Nat), cs = [.slice A l.length c] ∧ Reads w w.heap.size s A l.length (l.flatMap f) ∧ l.length ≤ c ∧ ∃ elems spare, (l ≠ [] → y.1 = .slice elems spare) ∧ ∀ x ∈ l, ∃ d ∈ elems, R x d := by
  rcases Go.Deep.open_slice ht h with ⟨rfl, -⟩ | ⟨a, len, cap, m, n, D, Pl, rfl, _, hl, hm, hmm, hy, hx⟩
  · exact ⟨none, [], 0, rfl, Reads.none_, by simp, [], [], fun h => absurd rfl h, by simp⟩
  · rw [hC] at hx
    have hlm : len ≤ m := by rw [hmm]; split <;> omega
    obtain ⟨g, hg⟩ := Go.Deep.choose_lt (α := α) (n := len) (p := fun i x => w.cells? 0 (a.add (i * s)) s = some (f x) ∧ R x (D i)) (fun i hi => by
      obtain ⟨cs', h1, h2⟩ := hx i (by omega)
      obtain ⟨x, rfl, hr⟩ := ho _ _ _ h2
      exact ⟨x, h1, hr⟩)
    have hlen : ((List.range len).map g).length = len := by simp
    refine ⟨some a, (List.range len).map g, cap, by rw [hlen], ⟨flat_length hf _, fun h0 => ?_⟩, by rw [hlen]; exact hl, _, _, fun _ => by rw [hy], fun x hx => ?_⟩
    · rw [hlen] at h0
      have hcell : ∀ i j, i < len → j < s → w.cell? ((a.add (i * s)).add j) = (f (g i))[j]? := fun i j hi hj => (World.cells?_some (hg i hi).1).2.2 j hj
      have h00 : w.cell? a = (f (g 0))[0]? := by have := hcell 0 0 h0 hs; simpa [Addr.add] using this
      have hv : (f (g 0))[0]? = some ((f (g 0))[0]'(by rw [hf]; exact hs)) := List.getElem?_eq_getElem _
      rw [hv] at h00
      have hsp := World.cell?_spot h00
      have hblt := lt_of_cell h00
      obtain ⟨b, off, spot⟩ := a
      simp only at hsp hblt
      subst hsp
      refine ⟨b, off, rfl, hblt, fun j u hu => ?_⟩
      have hj : j < len * s := by
        have := (List.getElem?_eq_some_iff.1 hu).1
        rwa [flat_length hf, hlen] at this
      have hi : j / s < len := Nat.div_lt_of_lt_mul (by rw [Nat.mul_comm]; exact hj)
      have hjs : j % s < s := Nat.mod_lt _ hs
      have ej : j / s * s + j % s = j := by rw [Nat.mul_comm]; exact Nat.div_add_mod j s
      have hc := hcell (j / s) (j % s) hi hjs
      rw [Go.Deep.add_add, ej] at hc
      have hat := flat_at hf ((List.range len).map g) (j / s) (by rw [hlen]; exact hi) (j % s) hjs
      rw [ej, hu] at hat
      simp only [List.getElem_map, List.getElem_range] at hat
      rw [← hat] at hc
      have ea : (Addr.add ⟨b, off, none⟩ j : Addr) = ⟨b, off + j, none⟩ := by
        unfold Addr.add
        split
        · subst_vars; rfl
        · rfl
      rwa [ea] at hc
    · obtain ⟨i, hi, rfl⟩ := List.mem_map.1 hx
      have hi' : i < len := by simpa using hi
      exact ⟨D i, List.mem_map.2 ⟨i, hi, rfl⟩, (hg i hi').2⟩

set_option maxRecDepth 100000 in
theorem open_rsn {fuel : Nat} {cs : List Value} {y : DataW H × List MemPlace} (h : DataW.trod enc Try.prog w 0 sp held fuel 47 cs = some y) : ∃ x : Int × Int, cs = rz x := by
  have h1 : Try.prog.cellsOf 34 = 1 := by kernel_rfl
  have h2 : Try.prog.cellsOf 3 = 1 := by kernel_rfl
  obtain ⟨ys, m, _, rfl, hlen, hl, hf⟩ := DataW.trod_struct Try.underlying47 h
  have hc2 : Try.prog.cellsOf 47 = 2 := by kernel_rfl
  rw [hc2] at hlen
  match cs, hlen, ys, hl with
  | [c0, c1], _, [y0, y1], _ =>
    have g0 := hf 0 _ rfl
    have g1 := hf 1 _ rfl
    simp [h1, h2] at g0 g1
    obtain ⟨z0, e0, -, -⟩ := DataW.trod_int Try.underlying34 g0
    obtain ⟨z1, e1, -, -⟩ := DataW.trod_int Try.underlying3 g1
    simp at e0 e1
    subst e0 e1
    exact ⟨(z0, z1), rfl⟩
set_option maxRecDepth 100000 in
theorem open_rss {r : Reach} {b0 : Nat} {v : Value} {d : DataW H} {ps : List MemPlace} (hval : Value.okWide Try.prog w r b0 22 v) (h : DataW.Trod enc Try.prog w 0 (fun _ => true) true 22 v d ps) :
    ∃ (A : Option Addr) (c : Nat) (l : List (Int × Int)), v = .slice A l.length c ∧ Reads w w.heap.size 2 A l.length (rzs l) ∧ l.length ≤ c := by
  obtain ⟨fuel, hf⟩ := h
  obtain ⟨A, l, c, e, hA, hc, -, -⟩ := open_rowsC (s := 2) (f := rz) (R := fun _ _ => True) (fun _ => rfl) (by omega) Try.underlying22 (by kernel_rfl)
    (fun n cs y hy => by obtain ⟨x, ex⟩ := open_rsn hy; exact ⟨x, ex, trivial⟩) hf
  have hv : v = .slice A l.length c := by
    obtain ⟨a, len, cap, rfl⟩ := okWide_slice Try.underlying22 hval
    simpa [Value.cells] using e
  exact ⟨A, c, l, hv, hA, hc⟩
set_option maxRecDepth 100000 in
theorem stays_rss {W W' : World} {sp' : Nat → Bool} {v : Value} {d : DataW H} {ps : List MemPlace} (h : DataW.Trod enc Try.prog W 0 (fun _ => true) true 22 v d ps) (hsame : ∀ p ∈ ps, W.sameAt W' p) (hs : ∀ p ∈ ps, sp' p.block = true) :
    DataW.Trod enc Try.prog W' 0 sp' true 22 v d ps :=
  WideElems.Trod_stays (by kernel_rfl) (by kernel_rfl) (of_decide_eq_true (by kernel_rfl)) h hsame hs
end
end Go.Proofs.Ytaickkaoglohgaa
