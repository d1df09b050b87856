/- The program's All. · The document's All. -/
import Derived.Test.YtlkkmgimjjnhjaaMA03
import Derived.Test.YtlkkmgimjjnhjaaMA28
set_option linter.unusedSimpArgs false
set_option linter.unusedVariables false
namespace Go.Proofs.Ytlkkmgimjjnhjaa
open Go.RowKit Go.Shelf Rec

attribute [local go_sem] Oper.semAt_some

/-- A record's cells in a row of records. -/
def Fr.row (x : Fr) : List Value := [.int .i8 x.r.kind, .int .i64 x.r.gen, .string x.r.url, .string x.r.id, .bool x.r.read, .slice x.A x.r.entries.length x.c, .string x.r.surl, .slice x.A' x.r.kept.length x.c']
def frows (xs : List Fr) : List Value := xs.flatMap Fr.row
theorem frows_snoc (xs : List Fr) (x : Fr) : frows (xs ++ [x]) = frows xs ++ x.row := by simp [frows]
theorem frows_length (xs : List Fr) : (frows xs).length = xs.length * 8 := by
  induction xs with
  | nil => rfl
  | cons x xs ih => unfold frows at ih ⊢; rw [List.flatMap_cons, List.length_append, ih, List.length_cons]; simp [Fr.row]; omega
theorem row_one (x : Fr) : ∀ u ∈ x.row, u.oneCell' = true := by
  intro u hu
  simp only [Fr.row, List.mem_cons, List.not_mem_nil, or_false] at hu
  rcases hu with rfl | rfl | rfl | rfl | rfl | rfl | rfl | rfl <;> rfl
theorem info_rcd : (Try.prog.info? 28).map (fun i => (i.zero, i.size, i.bytes)) = some (some (.agg #[.int .i8 0, .int .i64 0, .string ⟨#[]⟩, .string ⟨#[]⟩, .bool false, .slice none 0 0, .string ⟨#[]⟩, .slice none 0 0]), 8, 120) := by kernel_rfl
/-- Where the last frame ends. -/
def lastEnd (xs : List (Nat × Rcd)) : Nat := (xs.getLast?.map (·.1)).getD 0
theorem lastEnd_snoc (xs : List (Nat × Rcd)) (x : Nat × Rcd) : lastEnd (xs ++ [x]) = x.1 := by simp [lastEnd]

theorem isT_ne {w : World} {k t t' : Nat} (h : IsT w k t) (h' : IsT w k t') (hne : t ≠ t') : False := by
  obtain ⟨cs, fr, h1⟩ := h
  obtain ⟨cs', fr', h2⟩ := h'
  rw [h1] at h2
  injection h2 with h2
  injection h2 with _ h3
  exact hne h3
theorem Reads.same {w w' : World} {B B' size n : Nat} {A : Option Addr} {xs : List Value} (h : Reads w B size A n xs) (hk : ∀ a, A = some a → w'.heap[a.block]? = w.heap[a.block]?) (hB : B ≤ B') : Reads w' B' size A n xs :=
  ⟨h.1, fun hn => by
    obtain ⟨b, off, e, hb, hc⟩ := h.2 hn
    exact ⟨b, off, e, by omega, fun j u hu => (World.cell?_of_block (a := ⟨b, off + j, none⟩) (hk ⟨b, off, none⟩ e)).trans (hc j u hu)⟩⟩
theorem Typed.same {w w' : World} {A : Option Addr} {t : TypeId} (h : Typed w A t) (hk : ∀ a, A = some a → w'.heap[a.block]? = w.heap[a.block]?) : Typed w' A t := fun a ha => by
  obtain ⟨cs, fr, hh⟩ := h a ha
  exact ⟨cs, fr, (hk a ha).trans hh⟩
/-- The rows that a record's slices lead to. -/
structure Fr.In (x : Fr) (B : Nat) (W : World) : Prop where
  a : Reads W W.heap.size 7 x.A x.r.entries.length (ents x.r.entries)
  k : Reads W W.heap.size 8 x.A' x.r.kept.length (kpts x.r.kept)
  va : Above B x.A
  vk : Above B x.A'
  ta : Typed W x.A 47
  tk : Typed W x.A' 64
  may : mayAll x.r = true
theorem Reads.blocks {w w' : World} {B B' B'' size n : Nat} {A : Option Addr} {xs : List Value} (h : Reads w B size A n xs) (ha : Above B'' A) (hk : ∀ k, B'' ≤ k → k < B → w'.heap[k]? = w.heap[k]?) (hB : B ≤ B') : Reads w' B' size A n xs :=
  ⟨h.1, fun hn => by
    obtain ⟨b, off, e, hb, hc⟩ := h.2 hn
    exact ⟨b, off, e, by omega, fun j u hu => (World.cell?_of_block (a := ⟨b, off + j, none⟩) (hk b (ha _ e) hb)).trans (hc j u hu)⟩⟩
theorem Fr.In.turn {x : Fr} {B : Nat} {W W' : World} (h : x.In B W) (hk : ∀ k, B ≤ k → k < W.heap.size → ¬ IsT W k 28 → W'.heap[k]? = W.heap[k]?) (hs : W.heap.size ≤ W'.heap.size) : x.In B W' := by
  have na : ∀ k, (∃ a, x.A = some a ∧ a.block = k) → ¬ IsT W k 28 := by
    rintro k ⟨a, ha, rfl⟩ h2
    exact isT_ne (h.ta a ha) h2 (by decide)
  have nk : ∀ k, (∃ a, x.A' = some a ∧ a.block = k) → ¬ IsT W k 28 := by
    rintro k ⟨a, ha, rfl⟩ h2
    exact isT_ne (h.tk a ha) h2 (by decide)
  have sa : ∀ a, x.A = some a → W'.heap[a.block]? = W.heap[a.block]? := fun a ha => hk _ (h.va a ha) (h.ta a ha).lt (na _ ⟨a, ha, rfl⟩)
  have sk : ∀ a, x.A' = some a → W'.heap[a.block]? = W.heap[a.block]? := fun a ha => hk _ (h.vk a ha) (h.tk a ha).lt (nk _ ⟨a, ha, rfl⟩)
  exact ⟨h.a.same sa hs, h.k.same sk hs, h.va, h.vk, h.ta.same sa, h.tk.same sk, h.may⟩
theorem Fr.In.blocks {x : Fr} {B : Nat} {W W' : World} (h : x.In B W) (hk : ∀ k, B ≤ k → k < W.heap.size → W'.heap[k]? = W.heap[k]?) (hs : W.heap.size ≤ W'.heap.size) : x.In B W' :=
  h.turn (fun k h1 h2 _ => hk k h1 h2) hs

/-- What the loop's variables hold when so many frames have come. -/
structure AllI (w : World) (pre : List Fr) (W : World) : Prop where
  v : ∃ v n, Boxed W w.heap.size 30 v ∧ W.ownsRow (w.heap.size + 6) 28 8 v n (frows pre)
  e : Boxed W (w.heap.size + 1) 3 (.int .i64 (lastEnd (pre.map Fr.plain)))
  b : Below w.heap.size w W
  i : ∀ x ∈ pre, x.In (w.heap.size + 6) W
theorem AllI.blocks {w W W' : World} {pre : List Fr} (h : AllI w pre W) (hk : ∀ k, k ≠ w.heap.size + 4 → k ≠ w.heap.size + 5 → k < W.heap.size → W'.heap[k]? = W.heap[k]?) (hb : Below w.heap.size w W') (hs : W.heap.size ≤ W'.heap.size) (ho : W'.os = W.os ∧ W'.tape = W.tape ∧ W'.output = W.output) : AllI w pre W' := by
  obtain ⟨⟨v, n, hv, hr⟩, he, _, hi⟩ := h
  refine ⟨⟨v, n, (hk _ (by omega) (by omega) hv.lt).trans hv, ?_⟩, (hk _ (by omega) (by omega) he.lt).trans he, hb, fun x hx => (hi x hx).blocks (fun k h1 h2 => hk k (by omega) (by omega) h2) hs⟩
  rcases hr.2 with ⟨rfl, hx⟩ | ⟨g, cap, cur, rfl, hg, hh, hrest⟩
  · exact ⟨hr.1, .inl ⟨rfl, hx⟩⟩
  · refine ⟨hr.1, .inr ⟨g, cap, cur, rfl, hg, (hk g (by omega) (by omega) ?_).trans hh, hrest⟩⟩
    exact (Array.getElem?_eq_some_iff.1 hh).1

theorem framesN_le (z : Nat) : ∀ (n : Nat) (l : List UInt8), ∀ p ∈ framesN z n l, p.1 ≤ z := by
  intro n
  induction n with
  | zero => intro l p hp; simp [framesN] at hp
  | succ n ih =>
    intro l p hp
    cases h : nextF l with
    | none => rw [framesN_succ z n l none h] at hp; simp at hp
    | some y =>
      obtain ⟨x, r⟩ := y
      rw [framesN_succ z n l _ h] at hp
      simp only [List.mem_cons] at hp
      rcases hp with rfl | hp
      · simp
      · exact ih r p hp
theorem lastEnd_le (b : ByteArray) : lastEnd (framesOf b) ≤ b.size := by
  unfold lastEnd
  cases h : (framesOf b).getLast? with
  | none => simp
  | some p =>
    have := framesN_le b.size b.size b.data.toList p (List.mem_of_getLast? h)
    simpa using this
/-- A round's end. -/
theorem all_step {w W w1 : World} {pre : List Fr} {x : Fr} {A : Option Addr} {c g cap : Nat} (hv : Boxed W w.heap.size 30 (.slice A pre.length c)) (hrow : W.ownsRow (w.heap.size + 6) 28 8 (.slice A pre.length c) pre.length (frows pre))
    {u : Value} (he : Boxed W (w.heap.size + 1) 3 u) (hB : Below w.heap.size w W) (hi : ∀ y ∈ pre, y.In (w.heap.size + 6) W) (hf : x.Ok (w.heap.size + 5) W) (hsz : w.heap.size + 6 ≤ W.heap.size)
    (hown : w1.ownsRow (w.heap.size + 6) 28 8 (.slice (some ⟨g, 0, none⟩) (pre.length + 1) cap) (pre.length + 1) (frows pre ++ x.row)) (hgrow : (W.alloc (.cells x.row.toArray 28)).grownBy w1 (Value.slice A pre.length c).ownBlock) (B : Nat) :
    KeepsFrom B W ((w1.setCell ⟨w.heap.size, 0, none⟩ (.slice (some ⟨g, 0, none⟩) (pre.length + 1) cap)).setCell ⟨w.heap.size + 1, 0, none⟩ (.int .i64 (x.at_ : Int))) ∧
    (SameBlk (w.heap.size + 1 + 1) W ((w1.setCell ⟨w.heap.size, 0, none⟩ (.slice (some ⟨g, 0, none⟩) (pre.length + 1) cap)).setCell ⟨w.heap.size + 1, 0, none⟩ (.int .i64 (x.at_ : Int))) ∧
      SameBlk (w.heap.size + 5) W ((w1.setCell ⟨w.heap.size, 0, none⟩ (.slice (some ⟨g, 0, none⟩) (pre.length + 1) cap)).setCell ⟨w.heap.size + 1, 0, none⟩ (.int .i64 (x.at_ : Int)))) ∧
    AllI w (pre ++ [x]) ((w1.setCell ⟨w.heap.size, 0, none⟩ (.slice (some ⟨g, 0, none⟩) (pre.length + 1) cap)).setCell ⟨w.heap.size + 1, 0, none⟩ (.int .i64 (x.at_ : Int))) := by
  have hrowb : ∀ k, (Value.slice A pre.length c).ownBlock = some k → w.heap.size + 6 ≤ k ∧ IsT W k 28 := own_isT hrow
  have hnv := hv.not_row (by decide) hrow
  have hne := he.not_row (by decide) hrow
  have v1 : Boxed w1 w.heap.size 30 (.slice A pre.length c) := (hv.alloc _).kept hgrow hnv
  have e1 : Boxed w1 (w.heap.size + 1) 3 u := (he.alloc _).kept hgrow hne
  have far : ∀ k, k < W.heap.size → k ≠ w.heap.size → k ≠ w.heap.size + 1 → (Value.slice A pre.length c).ownBlock ≠ some k →
      ((w1.setCell ⟨w.heap.size, 0, none⟩ (.slice (some ⟨g, 0, none⟩) (pre.length + 1) cap)).setCell ⟨w.heap.size + 1, 0, none⟩ (.int .i64 (x.at_ : Int))).heap[k]? = W.heap[k]? := by
    intro k hk h0 h1 hr
    rw [Below.heap_setCell _ _ _ _ (by exact h1), Below.heap_setCell _ _ _ _ (by exact h0), hgrow.block k (by simp; omega) (fun e => hr e.symm), Below.heap_alloc _ _ _ hk]
  have hsize : W.heap.size ≤ ((w1.setCell ⟨w.heap.size, 0, none⟩ (.slice (some ⟨g, 0, none⟩) (pre.length + 1) cap)).setCell ⟨w.heap.size + 1, 0, none⟩ (.int .i64 (x.at_ : Int))).heap.size := by
    have := hgrow.size
    simp [World.setCell] at this ⊢
    omega
  have hBz := hB.size
  have hko : KeepsOthers W ((w1.setCell ⟨w.heap.size, 0, none⟩ (.slice (some ⟨g, 0, none⟩) (pre.length + 1) cap)).setCell ⟨w.heap.size + 1, 0, none⟩ (.int .i64 (x.at_ : Int))) := by
    refine (((KeepsOthers.alloc W (.cells x.row.toArray 28)).trans (KeepsOthers.of_grownBy hgrow fun j o ej hj => ?_)).trans (KeepsOthers.setCell _ _ _)).trans (KeepsOthers.setCell _ _ _)
    obtain ⟨_, cs, fr, h⟩ := hrowb j ej
    have h2 : (W.alloc (.cells x.row.toArray 28)).heap[j]? = some (.cells cs 28 fr) := (Below.heap_alloc _ _ _ (Array.getElem?_eq_some_iff.1 h).1).trans h
    rw [h2] at hj; cases hj; rfl
  have hne2 : ∀ k, k < w.heap.size + 6 → (Value.slice A pre.length c).ownBlock ≠ some k := fun k hk e => by have := (hrowb k e).1; omega
  have hxi : ∀ y ∈ pre ++ [x], y.In (w.heap.size + 6) W := by
    intro y hy
    rcases List.mem_append.1 hy with hy | hy
    · exact hi y hy
    · simp at hy; subst hy; exact ⟨hf.a, hf.k, hf.va, hf.vk, hf.ta, hf.tk, hf.may⟩
  refine ⟨hko.from B, ⟨far _ (by omega) (by omega) (by omega) (hne2 _ (by omega)), far _ (by omega) (by omega) (by omega) (hne2 _ (by omega))⟩, ⟨_, pre.length + 1, (v1.set _).kept (grownBy_setCell' _ _ _) (by simp), ?_⟩, ?_, ?_, ?_⟩
  · have o1 := hown.kept (grownBy_setCell' w1 w.heap.size (.slice (some ⟨g, 0, none⟩) (pre.length + 1) cap)) (.inr (v1.not_row (by decide) hown).symm)
    have e2 := e1.kept (grownBy_setCell' w1 w.heap.size (.slice (some ⟨g, 0, none⟩) (pre.length + 1) cap)) (by simp)
    rw [frows_snoc]
    exact o1.kept (grownBy_setCell' _ (w.heap.size + 1) (.int .i64 (x.at_ : Int))) (.inr (e2.not_row (by decide) o1).symm)
  · rw [List.map_append, List.map_singleton, lastEnd_snoc]
    exact ((e1.kept (grownBy_setCell' w1 w.heap.size (.slice (some ⟨g, 0, none⟩) (pre.length + 1) cap)) (by simp)).set _)
  · refine (((hB.alloc hBz (.cells x.row.toArray 28)).grown hgrow (by simp; omega) fun k e => ?_).setCell (p := ⟨w.heap.size, 0, none⟩) (Nat.le_refl _) _).setCell (p := ⟨w.heap.size + 1, 0, none⟩) (by simp) _
    have := (hrowb k e).1
    omega
  · intro y hy
    refine (hxi y hy).turn (fun k h1 h2 h3 => far k h2 (by omega) (by omega) fun e => h3 (hrowb k e).2) hsize

theorem frames_any (s : ByteArray) (w : World) :
    Calls Try.prog 45 #[.string s] w fun e w' => e = .returned (.func (.func 70) #[] #[.pointer (some ⟨w.heap.size, 0, none⟩)]) ∧ w' = w.alloc (.cells #[.string s] 9) := by
  go_enter Try.func45, Try.ntmps45
  go_wp2
  go_ret
  exact ⟨rfl, rfl⟩

/-- What All leaves. -/
def AllR (w : World) (z : Nat) (F : List (Nat × Rcd)) (e : Ending) (w' : World) : Prop :=
  ∃ (xs : List Fr) (A : Option Addr) (c : Nat), xs.map Fr.plain = F ∧ e = .returned (.tuple #[.slice A xs.length c, .int .i64 ((z : Int) - lastEnd F)]) ∧ Below w.heap.size w w' ∧ Reads w' w'.heap.size 8 A xs.length (frows xs) ∧ ∀ x ∈ xs, x.In w.heap.size w'

set_option maxRecDepth 100000 in
set_option maxHeartbeats 4000000 in
theorem all_any (b : ByteArray) (w : World) (hs : b.size ≤ 1000000000) : Calls Try.prog 23 #[.string b] w (AllR w b.size (framesOf b)) := by
  refine (callsIn_wide (n := 5)).1 ?_
  refine callsIn_of_wp_marks Try.func23 rfl trivial ?_ rfl
  simp only [Try.ntmps23, List.size_toArray, List.length_cons, List.length_nil, Nat.reduceAdd, Nat.reduceSub, Array.replicate_succ, Array.replicate_zero, List.push_toArray, List.append_toArray, List.nil_append, List.cons_append]
  gi_wp2_with (refine ⟨trivial, ?_⟩; gi_at_call 45; refine (callsIn_wide.2 (frames_any _ _)).mono ?_; rintro e w' ⟨rfl, rfl⟩)
  have b0 := Boxed.new w 30 (.slice none 0 0)
  have b1 := Boxed.new (w.alloc (.cells #[.slice none 0 0] 30)) 3 (.int .i64 0)
  rw [World.size_alloc] at b1
  have b2 := Boxed.new ((w.alloc (.cells #[.slice none 0 0] 30)).alloc (.cells #[.int .i64 0] 3)) 9 (.string b)
  rw [World.size_alloc, World.size_alloc] at b2
  obtain ⟨W3, hW3⟩ : ∃ W3, ((w.alloc (.cells #[.slice none 0 0] 30)).alloc (.cells #[.int .i64 0] 3)).alloc (.cells #[.string b] 9) = W3 := ⟨_, rfl⟩
  have hB0 : Below w.heap.size w W3 := by rw [← hW3]; exact (((Below.refl _ w).alloc (Nat.le_refl _) _).alloc (by simp) _).alloc (by simp; omega) _
  have hz3 : W3.heap.size = w.heap.size + 3 := by rw [← hW3]; simp
  have c0 : Boxed W3 w.heap.size 30 (.slice none 0 0) := by rw [← hW3]; exact (b0.alloc _).alloc _
  have c1 : Boxed W3 (w.heap.size + 1) 3 (.int .i64 0) := by rw [← hW3]; exact b1.alloc _
  have c2 : Boxed W3 (w.heap.size + 1 + 1) 9 (.string b) := by rw [← hW3]; exact b2
  rw [hW3]
  clear hW3 b0 b1 b2
  have hgv : ∀ o o', Gives Fence.wide (5 - 1) Try.prog 70 #[.pointer (some ⟨w.heap.size + 1 + 1, 0, none⟩)] Fr.vals (fun A B => SameBlk (w.heap.size + 1 + 1) A B ∧ SameBlk (w.heap.size + 5) A B) (fun x W' => x.Ok (w.heap.size + 5) W') (fun xs => xs.map Fr.plain = framesOf b) (b.size + 1) ((W3.alloc o).alloc o') := by
    intro o o'
    have h := frames1_gives (5 - 1) (by omega) (w.heap.size + 1 + 1) b hs ((W3.alloc o).alloc o') (by simp; omega) (((c2.alloc o).alloc o').cell)
    rw [show ((W3.alloc o).alloc o').heap.size = w.heap.size + 5 by simp; omega] at h
    exact h
  have a0 : AllI w [] W3 := ⟨⟨_, 0, c0, World.ownsRow_nil _ _ _ _⟩, c1, hB0, fun x hx => by cases hx⟩
  have h33 : w.heap.size + 3 = W3.heap.size := hz3.symm
  refine range_gives rfl (by omega) (gf := 70) (lb := #[.pointer (some ⟨w.heap.size + 1 + 1, 0, none⟩)]) rfl trivial (enters_of Try.func70 (by kernel_rfl) rfl) (fun _ => rfl)
    hgv ?kt ?kb (AllI w) ?ip ?ib ?f ?fa ?ka ?h0
    (fun x => .cells (rcdCells x.r x.A x.c x.A' x.c') 28) (fun x H => { tmps := #[.string b, undef, .pointer (some ⟨w.heap.size, 0, none⟩), .int .i64 0, .pointer (some ⟨w.heap.size + 1, 0, none⟩), .int .i64 (x.at_ : Int), .pointer (some ⟨H, 0, none⟩), .string b, .func (.func 70) #[] #[.pointer (some ⟨w.heap.size + 1 + 1, 0, none⟩)], .int .i64 (x.at_ : Int), .agg (rcdCells x.r x.A x.c x.A' x.c'), undef, undef, undef, undef, undef, undef, undef, undef, undef, undef], defers := [] }) ?assign ?body ?done
  case kt => exact fun h k => ⟨h.1.trans k.1, h.2.trans k.2⟩
  case kb => exact fun W o h => ⟨World.putObj_heap_other (by omega), World.putObj_heap_other (by omega)⟩
  case ip =>
    intro s W o h hlt
    refine h.blocks (fun k h1 h2 h3 => World.putObj_heap_other (by omega)) ?_ (by simp) ⟨rfl, rfl, rfl⟩
    exact ⟨h.b.os, h.b.tape, h.b.output, by simpa using h.b.size, fun k hk => (World.putObj_heap_other (by omega)).trans (h.b.block k hk)⟩
  case ib =>
    intro s A B h hb
    refine h.blocks (fun k h1 h2 h3 => hb.block k h3 (by omega)) ?_ hb.size ⟨hb.os, hb.tape, hb.output⟩
    exact ⟨hb.os.trans h.b.os, hb.tape.trans h.b.tape, hb.output.trans h.b.output, Nat.le_trans h.b.size hb.size, fun k hk => (hb.block k (Nat.lt_of_lt_of_le hk h.b.size) (by omega)).trans (h.b.block k hk)⟩
  case f =>
    intro x W o h
    exact ⟨by simpa using h.lt, h.a.blocks h.va (fun k h1 h2 => World.putObj_heap_other (by omega)) (by simp), h.k.blocks h.vk (fun k h1 h2 => World.putObj_heap_other (by omega)) (by simp), h.va, h.vk, h.ta.same (fun a ha => World.putObj_heap_other (by have := h.va a ha; omega)), h.tk.same (fun a ha => World.putObj_heap_other (by have := h.vk a ha; omega)), h.may⟩
  case fa =>
    intro x W o h
    exact ⟨by have := h.lt; simp; omega, (h.a.below (below_alloc W o)).more (by simp), (h.k.below (below_alloc W o)).more (by simp), h.va, h.vk, h.ta.below (below_alloc W o), h.tk.below (below_alloc W o), h.may⟩
  case ka =>
    intro x W o h
    have := h.lt
    exact ⟨Below.heap_alloc _ _ _ (by omega), Below.heap_alloc _ _ _ (by omega)⟩
  case h0 =>
    intro o o'
    have e1 := a0.blocks (W' := W3.alloc o) (fun k _ _ h3 => Below.heap_alloc _ _ _ h3) (hB0.alloc hB0.size _) (by simp) ⟨rfl, rfl, rfl⟩
    exact e1.blocks (fun k _ _ h3 => Below.heap_alloc _ _ _ h3) (e1.b.alloc e1.b.size _) (by simp) ⟨rfl, rfl, rfl⟩
  case assign =>
    intro l x W K hK
    unfold Fr.vals rcdCells at *
    gi_wp2
    exact hK
  case body =>
    intro l pre x H W hI hf hlen hH hx hsz
    obtain ⟨⟨v, n, hv, hrow⟩, he, hB, hi⟩ := hI
    obtain ⟨A, c, rfl⟩ := own_form hrow
    have hn : n = pre.length := by have := hrow.1; rw [frows_length] at this; omega
    subst hn
    have hc := hv.cell
    have hfz := hv.frozen
    have hce := he.cell
    have hfe := he.frozen
    have KX : Blk W H 28 (rcdCells x.r x.A x.c x.A' x.c') := hx
    have y0 : W.cell? ⟨H, 0, none⟩ = some (.int .i8 x.r.kind) := KX.cell 0
    have y1 : W.cell? ⟨H, 1, none⟩ = some (.int .i64 x.r.gen) := KX.cell 1
    have y2 : W.cell? ⟨H, 2, none⟩ = some (.string x.r.url) := KX.cell 2
    have y3 : W.cell? ⟨H, 3, none⟩ = some (.string x.r.id) := KX.cell 3
    have y4 : W.cell? ⟨H, 4, none⟩ = some (.bool x.r.read) := KX.cell 4
    have y5 : W.cell? ⟨H, 5, none⟩ = some (.slice x.A x.r.entries.length x.c) := KX.cell 5
    have y6 : W.cell? ⟨H, 6, none⟩ = some (.string x.r.surl) := KX.cell 6
    have y7 : W.cell? ⟨H, 7, none⟩ = some (.slice x.A' x.r.kept.length x.c') := KX.cell 7
    have HNv := hide (hv.not_row (by decide) hrow)
    have HNe := hide (he.not_row (by decide) hrow)
    have Hv := hide hv
    have Hrow := hide hrow
    have He := hide he
    have HB := hide hB
    have Hi := hide hi
    have Hf := hide hf
    have hsz0 : w.heap.size + 6 ≤ W.heap.size := by omega
    have Hsz := hide hsz
    clear hv hrow he hB hi hf hx KX hsz hgv a0 c0 c1 c2 hB0
    gi_wp2_with (gi_at_builtin; go_loud (refine wpListIn_append_elem W (cs := x.row) rfl (.tmp 11) (.tmp 13) 30 rfl (w.heap.size + 6) (.agg #[.int .i8 0, .int .i64 0, .string ⟨#[]⟩, .string ⟨#[]⟩, .bool false, .slice none 0 0, .string ⟨#[]⟩, .slice none 0 0]) 8 120 Try.underlying30 info_rcd rfl (by omega) (.slice A pre.length c) pre.length (frows pre) rfl Hrow.out rfl (row_one x) rfl (by unfold maxLen; omega) (by omega) hsz0 ?_); intro g cap w1 hown1 hgrow1 hlt1 hbase1; have v1 := hide ((Hv.out.alloc (.cells x.row.toArray 28)).kept hgrow1 HNv.out); have e1 := hide ((He.out.alloc (.cells x.row.toArray 28)).kept hgrow1 HNe.out); have hc1 := v1.out.cell; have hz1 := v1.out.frozen; have hce1 := e1.out.cell; have hze1 := e1.out.frozen; have Hown1 := hide hown1; have Hgrow1 := hide hgrow1; clear hown1 hgrow1)
    exact all_step Hv.out Hrow.out He.out HB.out Hi.out Hf.out hsz0 Hown1.out Hgrow1.out _
  case done =>
    intro D xs W hD hxs hI hK
    obtain ⟨⟨v, n, hv, hrow⟩, he, hB, hi⟩ := hI
    obtain ⟨A, c, rfl⟩ := own_form hrow
    have hn : n = xs.length := by have := hrow.1; rw [frows_length] at this; omega
    subst hn
    rw [hxs] at he
    obtain ⟨le, hle⟩ : ∃ z, lastEnd (framesOf b) = z := ⟨_, rfl⟩
    rw [hle] at he
    have hc := hv.cell
    have hfz := hv.frozen
    have hce := he.cell
    have hlez : le ≤ b.size := by rw [← hle]; exact lastEnd_le b
    have Hle := hide hle
    have Hxs := hide hxs
    have Hv := hide hv
    have Hrow := hide hrow
    have HB := hide hB
    have Hi := hide hi
    have hD2 : D = w.heap.size + 3 := hD.trans hz3
    have hDX : ¬ D = w.heap.size := by omega
    have HK := hide hK
    have HD := hide hD2
    clear hv hrow hB hi hxs hle hgv a0 c0 c1 c2 hB0 hK hD hD2
    gi_wp2
    gi_region
    all_goals gi_wp2
    all_goals
      have hK' : ((W.setCell ⟨w.heap.size, 0, none⟩ (.slice A xs.length c)).drew).heap[D]? = some (.deferred (some [])) := (Below.heap_setCell _ _ _ _ hDX).trans HK.out
      refine ⟨by simp, .inl ⟨_, _, rfl, run_takeDeferred (w := (W.setCell ⟨w.heap.size, 0, none⟩ (.slice A xs.length c)).drew) hK', ?_⟩⟩
      have hcF : ((W.setCell ⟨w.heap.size, 0, none⟩ (.slice A xs.length c)).drew.putObj D (.deferred none)).cell? ⟨w.heap.size, 0, none⟩ = some (.slice A xs.length c) :=
        (World.cell?_of_block (a := ⟨w.heap.size, 0, none⟩) (World.putObj_heap_other (fun e => hDX e.symm))).trans (Hv.out.set (.slice A xs.length c)).cell
      refine ⟨.tuple #[.slice A xs.length c, .int .i64 ((b.size : Int) - le)], ?_, ?_⟩
      · simp [results, Try.results23, go_sem, hcF]
      · have far : ∀ k, k ≠ D → k ≠ w.heap.size → ((W.setCell ⟨w.heap.size, 0, none⟩ (.slice A xs.length c)).drew.putObj D (.deferred none)).heap[k]? = W.heap[k]? := fun k h1 h2 =>
          (World.putObj_heap_other h1).trans (Below.heap_setCell _ _ _ _ h2)
        have hsz : W.heap.size ≤ ((W.setCell ⟨w.heap.size, 0, none⟩ (.slice A xs.length c)).drew.putObj D (.deferred none)).heap.size := by simp [World.setCell, World.putObj]
        have hDv := HD.out
        refine ⟨xs, A, c, Hxs.out, by rw [Hle.out], ⟨HB.out.os, HB.out.tape, HB.out.output, Nat.le_trans HB.out.size hsz, fun k hk => (far k (by omega) (by omega)).trans (HB.out.block k hk)⟩, ?_, fun x hx => ?_⟩
        · refine (Reads.of_own Hrow.out).blocks (above_own Hrow.out) (fun k h1 h2 => far k (by omega) (by omega)) hsz
        · have h := (Hi.out x hx).blocks (fun k h1 h2 => far k (by omega) (by omega)) hsz
          exact ⟨h.a, h.k, h.va.more (by omega), h.vk.more (by omega), h.ta, h.tk, h.may⟩
end Go.Proofs.Ytlkkmgimjjnhjaa
namespace Go.Proofs.Ytlkkmgimjjnhjaa
open Go.RowKit Rec

theorem drewN_below (w : World) (n : Nat) : Below w.heap.size w (w.drewN n) := ⟨rfl, rfl, rfl, Nat.le_refl _, fun _ _ => rfl⟩
theorem index_at (s : ByteArray) (k : Nat) (h : k < s.data.toList.length) (i : Int) (hi : i = k) (w : World) : (Instr.index 9 (.string s) (.int .i64 i)).run Try.prog w = .ok (.int .u8 ((s.data.toList[k].toNat : Nat) : Int)) w := by
  have := index_byte' s.data.toList k h i hi w
  rwa [bstr_toList] at this
theorem take4_at (s : ByteArray) (p : Nat) (h : p + 4 ≤ s.size) (h0 : p < s.data.toList.length) (h1 : p + 1 < s.data.toList.length) (h2 : p + 2 < s.data.toList.length) (h3 : p + 3 < s.data.toList.length) :
    (s.data.toList.drop p).take 4 = [s.data.toList[p], s.data.toList[p + 1], s.data.toList[p + 2], s.data.toList[p + 3]] := by
  rw [List.drop_eq_getElem_cons h0, List.drop_eq_getElem_cons h1, List.drop_eq_getElem_cons h2, List.drop_eq_getElem_cons h3]
  simp
/-- What stands at a place, by its number. -/
theorem nextF_at (s : ByteArray) (p m : Nat) (h : p + 4 ≤ s.size) (hm : leN ((s.data.toList.drop p).take 4) = m) :
    nextF (s.data.toList.drop p) = if p + 4 + m ≤ s.size then (readOut (s.extract (p + 4) (p + 4 + m))).map fun x => (x, s.data.toList.drop (p + 4 + m)) else none := by
  unfold nextF pText pNum
  have h4 : 4 ≤ (s.data.toList.drop p).length := by simp; omega
  rw [if_pos h4, hm]
  simp only [Option.bind_some, List.drop_drop]
  by_cases hc : p + 4 + m ≤ s.size
  · rw [if_pos hc, if_pos (by simp; omega)]
    simp only [Option.bind_some, List.drop_drop]
    rw [bstr_cut]
  · rw [if_neg hc, if_neg (by simp; omega)]
    rfl
theorem readOut_great {s : ByteArray} (h : 65536 < s.size) : readOut s = none := by
  unfold readOut
  cases pRcd s.data.toList with
  | none => rfl
  | some x => exact if_neg (fun hh => absurd hh.2.1 (by omega))

/-- What comes from a place on, by what is read there. -/
def frNext (b : ByteArray) (r : Nat) : Option Rcd → List (Nat × Rcd)
  | none => []
  | some x => (r, x) :: framesN b.size (b.size - r) (b.data.toList.drop r)
theorem frames_at (b : ByteArray) (p m : Nat) (h : p + 4 ≤ b.size) (hm : leN ((b.data.toList.drop p).take 4) = m) (c : p + 4 + m ≤ b.size) :
    framesN b.size (b.size - p) (b.data.toList.drop p) = frNext b (p + 4 + m) (readOut (b.extract (p + 4) (p + 4 + m))) := by
  have hn := nextF_at b p m h hm
  rw [if_pos c] at hn
  obtain ⟨k, hk⟩ : ∃ k, b.size - p = k + 1 := ⟨b.size - p - 1, by omega⟩
  rw [hk]
  cases ho : readOut (b.extract (p + 4) (p + 4 + m)) with
  | none =>
    rw [ho] at hn
    rw [framesN_succ _ _ _ none hn]
    rfl
  | some x =>
    rw [ho] at hn
    rw [framesN_succ _ _ _ (some (x, b.data.toList.drop (p + 4 + m))) hn]
    show _ :: _ = _ :: _
    rw [framesN_more b.size k (b.size - (p + 4 + m)) _ (by simp; omega) (by simp)]
    congr 2
    simp
    omega

set_option maxHeartbeats 4000000 in
theorem refall_any (b : ByteArray) (w : World) (hs : b.size ≤ 1000000000) : Calls Try.prog 24 #[.string b] w (AllR w b.size (framesOf b)) := by
  obtain ⟨all, hall⟩ : ∃ all, framesOf b = all := ⟨_, rfl⟩
  rw [hall]
  have Hall := hide hall
  clear hall
  go_enter Try.func24, Try.ntmps24
  go_wp2
  go_loopg [4, 5] b.size (fun g v4 v5 wr => ∃ (p : Nat) (pre : List Fr) (A : Option Addr) (c : Nat), g = b.size - p ∧ p ≤ b.size ∧ v5 = .int .i64 p ∧ v4 = .slice A pre.length c ∧ wr.ownsRow w.heap.size 28 8 (.slice A pre.length c) pre.length (frows pre) ∧
    (∀ x ∈ pre, x.In w.heap.size wr) ∧ Below w.heap.size w wr ∧ pre.map Fr.plain ++ framesN b.size (b.size - p) (b.data.toList.drop p) = all ∧ p = lastEnd (pre.map Fr.plain) ∧ pre.length ≤ p)
  case atStart => exact ⟨0, [], none, 0, rfl, by omega, rfl, rfl, World.ownsRow_nil _ _ _ _, (fun x hx => by cases hx), Below.refl _ _, by rw [← Hall.out]; rfl, rfl, by simp⟩
  case round =>
    obtain ⟨p, pre, A, c, hg, hp, rfl, rfl, hrow, hi, hB, hal, hle, hpl⟩ := hrel
    have Hg := hide hg
    have Hrow := hide hrow
    have Hi := hide hi
    have HB := hide hB
    have Hal := hide hal
    have Hle := hide hle
    clear hg hrow hi hB hal hle
    have fin : Hid (framesN b.size (b.size - p) (b.data.toList.drop p) = [] → ∀ W, Below wr.heap.size wr W → AllR w b.size all (.returned (.tuple #[.slice A pre.length c, .int .i64 ((b.size : Int) - p)])) W) := by
      refine hide fun hn W hW => ?_
      have hx : pre.map Fr.plain = all := by rw [← Hal.out, hn, List.append_nil]
      refine ⟨pre, A, c, hx, by rw [← hx, ← Hle.out], HB.out.trans (hW.mono HB.out.size), ((Reads.of_own Hrow.out).below hW).more hW.size, fun x hx => (Hi.out x hx).blocks (fun k _ h => hW.block k h) hW.size⟩
    by_cases h4 : p + 4 ≤ b.size
    · have l0 : p < b.data.toList.length := by simp; omega
      have l1 : p + 1 < b.data.toList.length := by simp; omega
      have l2 : p + 2 < b.data.toList.length := by simp; omega
      have l3 : p + 3 < b.data.toList.length := by simp; omega
      have i0 := index_at b p l0 (p : Int) rfl
      have i1 := index_at b (p + 1) l1 ((p : Int) + 1) (by omega)
      have i2 := index_at b (p + 2) l2 ((p : Int) + 2) (by omega)
      have i3 := index_at b (p + 3) l3 ((p : Int) + 3) (by omega)
      have ht4 := take4_at b p h4 l0 l1 l2 l3
      obtain ⟨m, hm⟩ : ∃ m, leN ((b.data.toList.drop p).take 4) = m := ⟨_, rfl⟩
      have hnx := nextF_at b p m h4 hm
      have Hnm := hide hm
      rw [ht4] at hm
      have u0 : b.data.toList[p].toNat < 256 := UInt8.toNat_lt _
      have u1 : b.data.toList[p + 1].toNat < 256 := UInt8.toNat_lt _
      have u2 : b.data.toList[p + 2].toNat < 256 := UInt8.toNat_lt _
      have u3 : b.data.toList[p + 3].toNat < 256 := UInt8.toNat_lt _
      generalize b.data.toList[p] = a0 at *
      generalize b.data.toList[p + 1] = a1 at *
      generalize b.data.toList[p + 2] = a2 at *
      generalize b.data.toList[p + 3] = a3 at *
      have hm2 : a0.toNat + a1.toNat * 256 + a2.toNat * 65536 + a3.toNat * 16777216 = m := by rw [← hm]; simp only [leN]; omega
      clear hm ht4
      generalize a0.toNat = n0 at *
      generalize a1.toNat = n1 at *
      generalize a2.toNat = n2 at *
      generalize a3.toNat = n3 at *
      have hsum : (n0 : Int) + n1 * 256 + n2 * 65536 + n3 * 16777216 = (m : Int) := by omega
      have hmb : m < 4294967296 := by omega
      have hw1 : IntKind.i64.wrap ((p : Int) + 1) = (p : Int) + 1 := IntWalk.i64_in _ (by omega)
      have hw2 : IntKind.i64.wrap ((p : Int) + 2) = (p : Int) + 2 := IntWalk.i64_in _ (by omega)
      have hw3 : IntKind.i64.wrap ((p : Int) + 3) = (p : Int) + 3 := IntWalk.i64_in _ (by omega)
      have hpi : (p : Int) + 4 ≤ b.size := by omega
      have hd0 : decide ((4 : Int) ≤ (b.size : Int) - p) = true := by simp; omega
      have Hnx := hide hnx
      have hfr : framesN b.size (b.size - p) (b.data.toList.drop p) = match nextF (b.data.toList.drop p) with | none => [] | some (x, r) => (b.size - r.length, x) :: framesN b.size (b.size - p - 1) r := by
        cases hl : b.size - p with
        | zero => omega
        | succ k => rw [framesN_succ _ _ _ _ rfl]; rfl
      have Hfr := hide hfr
      clear hm2 hnx hfr l0 l1 l2 l3
      by_cases c1 : p + 4 + m ≤ b.size
      · have hd1 : decide ((b.size : Int) - p - 4 < m) = false := by simp; omega
        by_cases c2 : m ≤ 65536
        · have hd2 : decide ((65536 : Int) < m) = false := by simp; omega
          obtain ⟨q, hq⟩ : ∃ q, p + 4 = q := ⟨_, rfl⟩
          obtain ⟨r, hr⟩ : ∃ r, q + m = r := ⟨_, rfl⟩
          have hqi : (p : Int) + 4 = (q : Int) := by omega
          have hri : (q : Int) + m = (r : Int) := by omega
          have hqr : q ≤ r := by omega
          have hrb : r ≤ b.size := by omega
          have hqI : (0 : Int) ≤ q := by omega
          have hrI : (r : Int) ≤ b.size := by omega
          have hqrI : (q : Int) ≤ r := by omega
          have HR := hide fun (W : World) => ref_read (b.extract q r) W (by simp; omega)
          obtain ⟨o, ho⟩ : ∃ o, readOut (b.extract q r) = o := ⟨_, rfl⟩
          rw [ho] at HR
          have hfo : framesN b.size (b.size - p) (b.data.toList.drop p) = frNext b r o := by
            have h := frames_at b p m h4 Hnm.out c1
            rw [hq, hr, ho] at h
            exact h
          have Hfo := hide hfo
          have Ho := hide ho
          have Hq := hide hq
          have Hr := hide hr
          clear hfo ho hq hr c1 c2 Hfr Hnx
          go_wp2
          go_quiet (fail)
          go_wp2_with fail
          refine (HR.out _).mono ?_
          rintro e w2 ⟨A2, c2, A3, c3, rfl, hb2, ha, hk, hva, hvk, hta, htk⟩
          unfold rcdCells
          have Hb2 := hide ((drewN_below wr nq).trans hb2)
          cases o with
          | none =>
            unfold recOf zeroRcd codeR
            clear hb2 ha hk hva hvk hta htk
            go_wp2
            go_ret2
            exact fin.out Hfo.out _ (Hb2.out.alloc Hb2.out.size _)
          | some x =>
            unfold recOf codeR at *
            dsimp only [Option.getD_some, Option.isSome_some] at *
            have o2 := hide (Hrow.out.kept (row := none) ⟨Hb2.out.os, Hb2.out.tape, Hb2.out.output, Hb2.out.size, fun k hk _ => Hb2.out.block k hk⟩ (by simp [Value.ownBlock]; cases A <;> simp))
            have HI2 := hide (show ∀ y ∈ pre ++ [Fr.mk r x A2 c2 A3 c3], y.In w.heap.size w2 by
              intro y hy
              rcases List.mem_append.1 hy with hy | hy
              · exact (Hi.out y hy).blocks (fun k _ h => Hb2.out.block k h) Hb2.out.size
              · simp at hy
                subst hy
                have hz := HB.out.size
                exact ⟨ha, hk, hva.more (by simpa using hz), hvk.more (by simpa using hz), hta, htk, readOut_may Ho.out⟩)
            have hBz := hide HB.out.size
            have hHK := Blk.new (w2.alloc (.cells #[.int .i8 x.kind, .int .i64 x.gen, .string x.url, .string x.id, .bool x.read, .slice A2 x.entries.length c2, .string x.surl, .slice A3 x.kept.length c3] 28)) 28 #[.int .i8 x.kind, .int .i64 x.gen, .string x.url, .string x.id, .bool x.read, .slice A2 x.entries.length c2, .string x.surl, .slice A3 x.kept.length c3]
            rw [World.size_alloc] at hHK
            have HK := hide hHK
            have HB2 := hide (HB.out.trans (Hb2.out.mono HB.out.size))
            have hpb : pre.length ≤ 1000000000 := by omega
            clear hb2 ha hk hva hvk hta htk hHK
            go_wp2_with (at_builtin; go_loud (refine wpList_append_elem_at ((w2.alloc (.cells #[.int .i8 x.kind, .int .i64 x.gen, .string x.url, .string x.id, .bool x.read, .slice A2 x.entries.length c2, .string x.surl, .slice A3 x.kept.length c3] 28)).alloc (.cells #[.int .i8 x.kind, .int .i64 x.gen, .string x.url, .string x.id, .bool x.read, .slice A2 x.entries.length c2, .string x.surl, .slice A3 x.kept.length c3] 28)) rfl (.tmp 64) (.tmp 66) 30 rfl w.heap.size 28 (.agg #[.int .i8 0, .int .i64 0, .string ⟨#[]⟩, .string ⟨#[]⟩, .bool false, .slice none 0 0, .string ⟨#[]⟩, .slice none 0 0]) 8 120 Try.underlying30 info_rcd rfl (by omega) (.slice A pre.length c) pre.length (frows pre) rfl ((o2.out.alloc _).alloc _) [.int .i8 x.kind, .int .i64 x.gen, .string x.url, .string x.id, .bool x.read, .slice A2 x.entries.length c2, .string x.surl, .slice A3 x.kept.length c3] rfl (row_one ⟨r, x, A2, c2, A3, c3⟩) (w2.heap.size + 1) HK.out rfl (by unfold maxLen; omega) (by omega) (by have := HB2.out.size; simp; omega) ?_); intro g cap w3 hown3 hgrow3 hlt3; have Hown3 := hide hown3; have Hgrow3 := hide hgrow3; clear hown3 hgrow3 hlt3)
            have far : ∀ k, k < w2.heap.size → (Value.slice A pre.length c).ownBlock ≠ some k → w3.heap[k]? = w2.heap[k]? := fun k h1 h2 =>
              (Hgrow3.out.block k (by simp; omega) (fun e => h2 e.symm)).trans ((Below.heap_alloc _ _ _ (by simp; omega)).trans (Below.heap_alloc _ _ _ h1))
            have hs3 : w2.heap.size ≤ w3.heap.size := by have := Hgrow3.out.size; simp at this; omega
            have HI3 := hide (show ∀ y ∈ pre ++ [Fr.mk r x A2 c2 A3 c3], y.In w.heap.size w3 from fun y hy => (HI2.out y hy).turn (fun k h1 h2 h3 => far k h2 (fun e => h3 (own_isT o2.out k e).2)) hs3)
            have HB3 := hide (show Below w.heap.size w w3 from ((HB2.out.alloc HB2.out.size _).alloc (by have := HB2.out.size; simp; omega) _).grown Hgrow3.out (by have := HB2.out.size; simp; omega) (fun k e => (own_isT o2.out k e).1))
            clear far hs3
            go_roundg (b.size - r)
            case measure => have := Hg.out; have := Hq.out; have := Hr.out; omega
            case rel => exact ⟨r, pre ++ [Fr.mk r x A2 c2 A3 c3], some ⟨g, 0, none⟩, cap, rfl, hrb, rfl, by rw [List.length_append]; rfl, by rw [List.length_append, frows_snoc]; exact Hown3.out, HI3.out, HB3.out, by rw [← Hal.out, Hfo.out, List.map_append, List.append_assoc]; rfl, by rw [List.map_append, List.map_singleton, lastEnd_snoc]; rfl, by have := Hq.out; have := Hr.out; simp; omega⟩
        · have hd2 : decide ((65536 : Int) < m) = true := by simp; omega
          have Hn := hide (show framesN b.size (b.size - p) (b.data.toList.drop p) = [] by
            rw [Hfr.out, Hnx.out, if_pos c1, readOut_great (by simp; omega)]; rfl)
          clear c1 c2
          go_wp2
          go_quiet (fail)
          go_wp2
          go_ret2
          exact fin.out Hn.out _ (drewN_below _ _)
      · have hd1 : decide ((b.size : Int) - p - 4 < m) = true := by simp; omega
        have Hn := hide (show framesN b.size (b.size - p) (b.data.toList.drop p) = [] by
          rw [Hfr.out, Hnx.out, if_neg c1])
        clear c1
        go_wp2
        go_quiet (fail)
        go_wp2
        go_ret2
        exact fin.out Hn.out _ (drewN_below _ _)
    · have hd : ¬ (4 : Int) ≤ (b.size : Int) - p := by omega
      have hnone : framesN b.size (b.size - p) (b.data.toList.drop p) = [] := by
        cases hl : b.size - p with
        | zero => rfl
        | succ k =>
          cases h : nextF (b.data.toList.drop p) with
          | none => rw [framesN_succ _ _ _ none h]
          | some y => have := nextF_less (x := y.1) (r := y.2) h; simp at this; omega
      have Hnone := hide hnone
      clear hnone
      go_wp2
      go_ret2
      exact fin.out Hnone.out _ (Below.refl _ _)
end Go.Proofs.Ytlkkmgimjjnhjaa
