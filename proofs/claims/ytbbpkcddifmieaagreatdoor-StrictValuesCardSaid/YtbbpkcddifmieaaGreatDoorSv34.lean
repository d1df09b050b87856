/- Strict: events in memory; Well; what the laws' wake-up asks. · Strict: a value as written: the document's Value. · Strict: the law of values and declarations: the walk. -/
import Derived.Test.YtbbpkcddifmieaaGreatDoorSv33
set_option linter.unusedSimpArgs false
set_option linter.unusedVariables false
namespace Go.Proofs.YtbbpkcddifmieaaGreatDoor
open Go.RowKit Tk Sx

/-- An event in memory. -/
structure EvAt (w : World) (b o : Nat) (x : Ew) : Prop where
  c0 : w.cell? ⟨b, o, none⟩ = some (.int .i8 (x.e.kind : Int))
  c1 : w.cell? ⟨b, o + 1, none⟩ = some (.string (bstr x.e.name.ns))
  c2 : w.cell? ⟨b, o + 2, none⟩ = some (.string (bstr x.e.name.loc))
  c3 : w.cell? ⟨b, o + 3, none⟩ = some (.slice x.A x.e.attrs.length x.c)
  c4 : w.cell? ⟨b, o + 4, none⟩ = some (.string (bstr x.e.text))
structure AttAt (w : World) (b o : Nat) (x : Att) : Prop where
  c0 : w.cell? ⟨b, o, none⟩ = some (.string (bstr x.name.ns))
  c1 : w.cell? ⟨b, o + 1, none⟩ = some (.string (bstr x.name.loc))
  c2 : w.cell? ⟨b, o + 2, none⟩ = some (.string (bstr x.val))
/-- A list of events, wherever it lies. -/
structure EvL (w : World) (B : Nat) (A : Option Addr) (xs : List Ew) : Prop where
  row : Reads w B 5 A xs.length (ews xs)
  sub : ∀ x ∈ xs, Reads w B 3 x.A x.e.attrs.length (atts x.e.attrs)
section
variable {w w' : World} {B B' : Nat} {A : Option Addr} {xs : List Ew}
theorem EvL.below (h : EvL w B A xs) (hb : Below B w w') : EvL w' B A xs := ⟨h.row.below hb, fun x hx => (h.sub x hx).below hb⟩
theorem EvL.more (h : EvL w B A xs) (hB : B ≤ B') : EvL w B' A xs := ⟨h.row.more hB, fun x hx => (h.sub x hx).more hB⟩
theorem EvL.at_ (h : EvL w B A xs) {k : Nat} {x : Ew} (hx : xs[k]? = some x) : ∃ b off, A = some ⟨b, off, none⟩ ∧ b < B ∧ EvAt w b (off + k * 5) x := by
  obtain ⟨hk, he⟩ := List.getElem?_eq_some_iff.1 hx
  obtain ⟨b, off, hA, hb, hc⟩ := h.row.2 (by omega)
  have hf : ∀ j, j < 5 → (ews xs)[k * 5 + j]? = (ewCells x)[j]? := fun j hj => by
    unfold ews
    rw [fm_at ew_len xs k hk j hj, he]
  refine ⟨b, off, hA, hb, ?_⟩
  constructor
  · have := hc (k * 5 + 0) _ (hf 0 (by omega)); simpa using this
  · have := hc (k * 5 + 1) _ (hf 1 (by omega)); rwa [← Nat.add_assoc] at this
  · have := hc (k * 5 + 2) _ (hf 2 (by omega)); rwa [← Nat.add_assoc] at this
  · have := hc (k * 5 + 3) _ (hf 3 (by omega)); rwa [← Nat.add_assoc] at this
  · have := hc (k * 5 + 4) _ (hf 4 (by omega)); rwa [← Nat.add_assoc] at this
theorem atts_at {l : List Att} (h : Reads w B 3 A l.length (atts l)) {k : Nat} {x : Att} (hx : l[k]? = some x) : ∃ b off, A = some ⟨b, off, none⟩ ∧ b < B ∧ AttAt w b (off + k * 3) x := by
  obtain ⟨hk, he⟩ := List.getElem?_eq_some_iff.1 hx
  obtain ⟨b, off, hA, hb, hc⟩ := h.2 (by omega)
  have hf : ∀ j, j < 3 → (atts l)[k * 3 + j]? = (attCells x)[j]? := fun j hj => by
    unfold atts
    rw [fm_at att_len l k hk j hj, he]
  refine ⟨b, off, hA, hb, ?_⟩
  constructor
  · have := hc (k * 3 + 0) _ (hf 0 (by omega)); simpa using this
  · have := hc (k * 3 + 1) _ (hf 1 (by omega)); rwa [← Nat.add_assoc] at this
  · have := hc (k * 3 + 2) _ (hf 2 (by omega)); rwa [← Nat.add_assoc] at this
end
theorem EvL.of {B : Nat} {W : World} {A : Option Addr} {xs : List Ew} (h : Reads W W.heap.size 5 A xs.length (ews xs)) (hi : ∀ x ∈ xs, x.In B W) : EvL W W.heap.size A xs := ⟨h, fun x hx => (hi x hx).a⟩
def isOk {α β : Type} (r : Except α β) : Bool := match r with
  | .ok _ => true
  | .error _ => false

set_option maxHeartbeats 4000000 in
theorem well_any (s : ByteArray) (w : World) (hg : Gl w) (hw6 : 6 ≤ w.heap.size) (hs : s.size ≤ 100000) (hc : ∀ x, Sx.parse s.data.toList = .error x → x.2 ≠ 0) :
    Calls Tryz.prog 17 #[.string s] w fun e w' => e = .returned (.bool (isOk (Sx.parse s.data.toList))) ∧ Below w.heap.size w w' := by
  have HPa := hide (parse_any s w hg hw6 hs)
  obtain ⟨r, hr⟩ : ∃ r, Sx.parse s.data.toList = r := ⟨_, rfl⟩
  rw [hr] at HPa hc ⊢
  clear hr hg
  cases r with
  | error x =>
    have hx : ((x.2 : Int) == 0) = false := by rw [beq_eq_false_iff_ne]; have := hc x rfl; omega
    clear hc
    go_enter Tryz.func17, Tryz.ntmps17
    go_wp2_with fail
    refine HPa.out.mono ?_
    rintro e w1 ⟨b1, rfl⟩
    go_wp2
    go_ret
    exact ⟨rfl, b1⟩
  | ok evs =>
    clear hc
    go_enter Tryz.func17, Tryz.ntmps17
    go_wp2_with fail
    refine HPa.out.mono ?_
    rintro e w1 ⟨b1, xs, A, c, -, rfl, -, -, -, -, -⟩
    go_wp2
    go_ret
    exact ⟨rfl, b1⟩
def wkS1 : L := [60, 97, 32, 120, 61, 34, 49, 34, 62, 98, 60, 33, 45, 45, 99, 45, 45, 62, 100, 60, 47, 97, 62]
def wkS2 : L := [60, 97, 62, 60, 47, 98, 62]
theorem wkS1_is : Sx.parse wkS1 = .ok [⟨0, ⟨[], [97]⟩, [⟨⟨[], [120]⟩, [49]⟩], []⟩, ⟨2, noNm, [], [98, 100]⟩, ⟨1, ⟨[], [97]⟩, [], []⟩] := by kernel_rfl
theorem wkS2_is : Sx.parse wkS2 = .error (3, 50) := by kernel_rfl
/-- The cells that the wake-up asks for. -/
theorem wkS1_cells {W : World} {A : Option Addr} {xs : List Ew} {B : Nat} (h : EvL W B A xs) (hx : xs.map (·.e) = [⟨0, ⟨[], [97]⟩, [⟨⟨[], [120]⟩, [49]⟩], []⟩, ⟨2, noNm, [], [98, 100]⟩, ⟨1, ⟨[], [97]⟩, [], []⟩]) :
    xs.length = 3 ∧ ∃ b off b' off' cc, A = some ⟨b, off, none⟩ ∧ b < B ∧ b' < B ∧ W.cell? ⟨b, off + 3, none⟩ = some (.slice (some ⟨b', off', none⟩) 1 cc) ∧ W.cell? ⟨b', off' + 2, none⟩ = some (.string ⟨#[49]⟩) ∧ W.cell? ⟨b, off + 5 + 4, none⟩ = some (.string ⟨#[98, 100]⟩) := by
  have hl := congrArg List.length hx
  rw [List.length_map] at hl
  have h0 : (xs[0]?).map (·.e) = some ⟨0, ⟨[], [97]⟩, [⟨⟨[], [120]⟩, [49]⟩], []⟩ := by rw [← List.getElem?_map, hx]; rfl
  have h1 : (xs[1]?).map (·.e) = some ⟨2, noNm, [], [98, 100]⟩ := by rw [← List.getElem?_map, hx]; rfl
  obtain ⟨x, hx0, e0⟩ := Option.map_eq_some_iff.1 h0
  obtain ⟨y, hy0, e1⟩ := Option.map_eq_some_iff.1 h1
  obtain ⟨b, off, rfl, hb, k0⟩ := h.at_ hx0
  obtain ⟨b1, off1, e, hb1, k1⟩ := h.at_ hy0
  cases e
  have hs := h.sub x (List.mem_of_getElem? hx0)
  rw [e0] at hs
  obtain ⟨b', off', eA, hb', g0⟩ := atts_at hs (k := 0) (x := ⟨⟨[], [120]⟩, [49]⟩) rfl
  refine ⟨hl, b, off, b', off', x.c, rfl, hb, hb', ?_, ?_, ?_⟩
  · have := k0.c3; rw [e0, eA, Nat.zero_mul, Nat.add_zero] at this; exact this
  · have := g0.c2; rw [Nat.zero_mul, Nat.add_zero] at this; exact this
  · have := k1.c4; rw [e1, Nat.one_mul] at this; exact this

set_option maxHeartbeats 8000000 in
theorem wakes15_any (w : World) (hg : Gl w) (hw6 : 6 ≤ w.heap.size) : Calls Tryz.prog 9 #[] w fun e w' => e = .returned (.bool true) ∧ Below w.heap.size w w' := by
  have HG := hide hg
  have h1 := parse_any ⟨#[60, 97, 32, 120, 61, 34, 49, 34, 62, 98, 60, 33, 45, 45, 99, 45, 45, 62, 100, 60, 47, 97, 62]⟩ w hg hw6 (by decide)
  replace h1 : Calls _ _ _ _ (ParseR w (Sx.parse wkS1)) := h1
  rw [wkS1_is] at h1
  have H1 := hide h1
  clear hg h1
  go_enter Tryz.func9, Tryz.ntmps9
  go_wp2_with fail
  refine H1.out.mono ?_
  rintro e w1 ⟨b1, xs, A, c, hx, rfl, -, hr, -, -, hi⟩
  have h2 := parse_any ⟨#[60, 97, 62, 60, 47, 98, 62]⟩ w1 (HG.out.below b1) (by have := b1.size; omega) (by decide)
  replace h2 : Calls _ _ _ _ (ParseR w1 (Sx.parse wkS2)) := h2
  rw [wkS2_is] at h2
  have H2 := hide h2
  obtain ⟨hn, b, off, b', off', cc, rfl, hb, hb', q1, q2, q3⟩ := wkS1_cells (EvL.of hr hi) hx
  have B1 := hide b1
  rw [hn]
  clear hr hi hx b1 hn H1 h2
  go_wp2_with fail
  refine H2.out.mono ?_
  rintro e w2 ⟨b2, rfl⟩
  replace q1 := cell_go b2 q1
  replace q2 := cell_go b2 q2
  replace q3 := cell_go b2 q3
  have B2 := hide (B1.out.trans (b2.mono B1.out.size))
  clear b2 B1 H2
  go_wp2
  go_ret
  exact ⟨rfl, B2.out⟩
end Go.Proofs.YtbbpkcddifmieaaGreatDoor
namespace Go.Proofs.YtbbpkcddifmieaaGreatDoor
open Go.RowKit Tk Sx

namespace Sx
def errOf {α : Type} (e : Except Nat α) : Option Nat := match e with
  | .ok _ => none
  | .error a => some a
theorem errOf_glue (a : L) (e : Except Nat L) : errOf (glueE a e) = errOf e := by cases e <;> rfl
theorem norm_eq {c d : UInt8} (h : d ≠ 9 ∧ d ≠ 10 ∧ d ≠ 13 ∧ d ≠ 32) : norm c = d ↔ c = d := by
  unfold norm
  split
  · rename_i hc
    constructor
    · rintro rfl; exact absurd rfl h.2.2.2
    · rintro rfl
      rcases hc with e | e | e
      · exact absurd e h.1
      · exact absurd e h.2.1
      · exact absurd e h.2.2.1
  · exact Iff.rfl
theorem norm_worth (c : UInt8) : worth (norm c) = worth c := by
  unfold norm
  split
  · rename_i hc
    rcases hc with rfl | rfl | rfl <;> decide
  · rfl
theorem numVal_norm (base : Nat) : ∀ (s : L) (v : Nat), numVal base v (s.map norm) = numVal base v s
  | [], v => rfl
  | c :: r, v => by
    rw [List.map_cons, numVal, numVal, norm_worth, numVal_norm base r]
theorem map_norm_eq {d : L} (hd : ∀ x ∈ d, x ≠ 9 ∧ x ≠ 10 ∧ x ≠ 13 ∧ x ≠ 32) : ∀ s : L, s.map norm = d ↔ s = d := by
  induction d with
  | nil => intro s; simp
  | cons x d ih =>
    intro s
    cases s with
    | nil => simp
    | cons c s =>
      rw [List.map_cons, List.cons.injEq, List.cons.injEq, norm_eq (hd x (List.mem_cons_self ..)), ih (fun y hy => hd y (List.mem_cons_of_mem _ hy))]
theorem head_norm {s : L} {d : UInt8} (h : d ≠ 9 ∧ d ≠ 10 ∧ d ≠ 13 ∧ d ≠ 32) : (s.map norm).head? = some d ↔ s.head? = some d := by
  cases s with
  | nil => simp
  | cons c s => simp only [List.map_cons, List.head?_cons, Option.some.injEq]; exact norm_eq h
theorem scalar_norm (s : L) : scalar (s.map norm) = scalar s := by
  have h1 : number (s.map norm) = number s := by
    unfold number
    rw [← List.map_tail, ← List.map_tail]
    by_cases a : s.head? = some 35
    · rw [if_pos ((head_norm (by decide)).2 a), if_pos a]
      by_cases b : s.tail.head? = some 120
      · rw [if_pos ((head_norm (by decide)).2 b), if_pos b, numVal_norm]
        simp only [List.map_eq_nil_iff]
      · rw [if_neg (fun h => b ((head_norm (by decide)).1 h)), if_neg b, numVal_norm]
        simp only [List.map_eq_nil_iff]
    · rw [if_neg (fun h => a ((head_norm (by decide)).1 h)), if_neg a]
  have h2 : named (s.map norm) = named s := by
    unfold named
    simp only [map_norm_eq (d := sLt) (by decide), map_norm_eq (d := sGt) (by decide), map_norm_eq (d := sAmp) (by decide), map_norm_eq (d := sApos) (by decide), map_norm_eq (d := sQuot) (by decide)]
  unfold scalar
  rw [h1, h2]
theorem ends_norm : ∀ s : L, ends (s.map norm) = ends s
  | [] => rfl
  | c :: r => by
    rw [List.map_cons, ends, ends, ends_norm r]
    simp only [norm_eq (c := c) (d := 59) (by decide), norm_eq (c := c) (d := 38) (by decide), norm_eq (c := c) (d := 60) (by decide)]
/-- A reference is wrong where it is wrong when blanks are made alike. -/
theorem sref_norm : ∀ (f k : Nat) (l : L), errOf (sref f k (l.map norm)) = errOf (sref f k l)
  | 0, k, l => by rw [sref, sref]
  | f + 1, k, [] => rfl
  | f + 1, k, c :: r => by
    rw [List.map_cons]
    by_cases hc : c = 38
    · subst hc
      rw [show norm 38 = 38 by decide]
      cases he : ends r with
      | none => rw [sref_none he, sref_none (by rw [ends_norm, he])]
      | some n =>
        have he2 : ends (r.map norm) = some n := by rw [ends_norm, he]
        have hst : scalar ((r.map norm).take n) = scalar (r.take n) := by rw [← List.map_take, scalar_norm]
        cases hs : scalar (r.take n) with
        | none => rw [sref_bad he hs, sref_bad he2 (by rw [hst, hs])]
        | some v =>
          rw [sref_ref he hs, sref_ref he2 (by rw [hst, hs]), errOf_glue, errOf_glue, ← List.map_drop]
          exact sref_norm f _ _
    · rw [sref_byte hc, sref_byte (fun h => hc ((norm_eq (by decide)).1 h)), errOf_glue, errOf_glue]
      exact sref_norm f _ _
theorem less_none : ∀ {l : L}, (60 : UInt8) ∉ l → less l = none
  | [], _ => rfl
  | c :: r, h => by
    rw [less, if_neg (fun e => h (by rw [e]; exact List.mem_cons_self ..)), less_none (fun hh => h (List.mem_cons_of_mem _ hh))]
    rfl
theorem less_at : ∀ {l : L} {k : Nat}, (60 : UInt8) ∉ l.take k → l[k]? = some 60 → less l = some k
  | [], k, _, h => by cases h
  | c :: r, 0, _, h => by
    simp only [List.getElem?_cons_zero, Option.some.injEq] at h
    rw [less, if_pos h]
  | c :: r, k + 1, h, h2 => by
    rw [List.take_succ_cons] at h
    rw [less, if_neg (fun e => h (by rw [e]; exact List.mem_cons_self ..)), less_at (fun hh => h (List.mem_cons_of_mem _ hh)) (by simpa using h2)]
    rfl
/-- A value that has a <. -/
theorem value_less {l : L} {k : Nat} (h : less l = some k) : value l = .error ((errOf (sref (l.take k).length 0 (l.take k))).getD k) := by
  have hl := less_le h
  unfold value
  rw [h]
  dsimp only
  rw [show (l.take k).length = k by rw [List.length_take]; omega, ← sref_norm]
  cases sref k 0 ((l.take k).map norm) <;> rfl
theorem value_plain {l : L} (h : less l = none) : value l = sref l.length 0 (l.map norm) := by
  unfold value
  rw [h]
end Sx
theorem byte_snoc {l : L} {k : Nat} {c : UInt8} (h : l[k]? = some c) : (l.take (k + 1)).map norm = (l.take k).map norm ++ [norm c] := by
  rw [List.take_add_one, h, List.map_append]
  rfl
theorem byteVs_snoc (l : L) (c : UInt8) : byteVs (l ++ [c]) = byteVs l ++ [.int .u8 (c.toNat : Int)] := by simp [byteVs]
theorem str_is {t : ByteArray} {l : L} (h : StrIs t l) : t = bstr l := by
  unfold StrIs at h
  rw [← h, bstr_of]
/-- A row that is the call's own has grown: nothing that was there has turned. -/
theorem own_below8 {B e size n : Nat} {v : Value} {xs : List Value} {w w' : World} (h : w.ownsRow B e size v n xs) (hg : w.grownBy w' v.ownBlock) (hB : B ≤ w.heap.size) : Below B w w' :=
  ⟨hg.os, hg.tape, hg.output, hg.size, fun k hk => hg.block k (Nat.lt_of_lt_of_le hk hB) fun e => by have := (h.lt k e.symm).1; omega⟩
theorem info_u8s : (Tryz.prog.info? 5).map (fun i => (i.zero, i.size, i.bytes)) = some (some (.int .u8 0), 1, 1) := by kernel_rfl

set_option maxRecDepth 20000 in
set_option maxHeartbeats 16000000 in
theorem refValue15_any (l : L) (w : World) (hl : l.length ≤ 100000) :
    Calls Tryz.prog 11 #[.string (bstr l)] w fun e w' => e = .returned (strV (value l)) ∧ Below w.heap.size w w' := by
  have HI : Hid (∀ (k : Nat) (c : UInt8), l[k]? = some c → ∀ w, (Instr.index 9 (.string (bstr l)) (.int .i64 (k : Int))).run Tryz.prog w = .ok (.int .u8 (c.toNat : Nat)) w) := hide fun k c h => idx_run (bstr l) k c (by rw [bstr_list]; exact h)
  have HEx := hide (show ∀ b : Nat, (bstr l).extract 0 b = bstr (l.take b) from fun b => by rw [extract_bstr, bstr_list]; simp)
  have HS := hide (fun (q : L) W (h : q.length ≤ 100000000) => strict13_any q W h)
  have Hs := hide (bstr_size l)
  obtain ⟨n, hn⟩ : ∃ n, (bstr l).size = n := ⟨_, rfl⟩
  have hnl : n = l.length := by rw [← hn, bstr_size]
  have Hnl := hide hnl
  obtain ⟨z, hz⟩ : ∃ z, value l = z := ⟨_, rfl⟩
  have Hz := hide hz
  have Hn := hide hn
  rw [hz]
  clear hz hnl
  go_enter Tryz.func11, Tryz.ntmps11
  go_wp2
  clear hn
  go_loopg [5, 6] n (fun gk v5 v6 wr => ∃ (k : Nat) (A : Option Addr) (c : Nat), gk = n - k ∧ k ≤ n ∧ v6 = .int .i64 (k : Int) ∧ v5 = .slice A k c ∧ wr.ownsRow w.heap.size 5 1 (.slice A k c) k (byteVs ((l.take k).map norm)) ∧ (60 : UInt8) ∉ l.take k ∧ Below w.heap.size w wr)
  case atStart => exact ⟨0, none, 0, rfl, by omega, rfl, rfl, World.ownsRow_nil _ _ _ _, by simp, Below.refl _ _⟩
  case round =>
    obtain ⟨k, A, cp, hgk, hk, rfl, rfl, ho, h60, hb⟩ := hrel
    have Hg := hide hgk
    have HO := hide ho
    have H60 := hide h60
    have HB := hide hb
    have hln : n ≤ 100000 := by rw [Hnl.out]; exact hl
    clear hgk ho h60 hb
    by_cases hlt : k < n
    · obtain ⟨c, hc⟩ : ∃ c, l[k]? = some c := ⟨_, List.getElem?_eq_getElem (by rw [← Hnl.out]; exact hlt)⟩
      have hix := HI.out k c hc
      have HC := hide hc
      have hsz : (bstr l).size = n := Hn.out
      have key : ∀ d : UInt8, ((c.toNat : Int) == (d.toNat : Int)) = (c == d) := fun d => by
        rw [Bool.eq_iff_iff, beq_iff_eq, beq_iff_eq]
        exact ⟨fun h => UInt8.toNat_inj.1 (by omega), fun h => by rw [h]⟩
      have e1 : ((c.toNat : Int) == 60) = (c == 60) := key 60
      have e2 : ((c.toNat : Int) == 9) = (c == 9) := key 9
      have e3 : ((c.toNat : Int) == 10) = (c == 10) := key 10
      have e4 : ((c.toNat : Int) == 13) = (c == 13) := key 13
      clear key
      by_cases h1 : c = 60
      · subst h1
        have hle := less_at H60.out hc
        have HV := hide (value_less hle)
        have hkl : (l.take k).length ≤ 100000000 := by rw [List.length_take]; omega
        have hex := HEx.out k
        have hss := HS.out (l.take k) wr hkl
        obtain ⟨y, hy⟩ : ∃ y, sref (l.take k).length 0 (l.take k) = y := ⟨_, rfl⟩
        rw [hy] at hss
        have HSS := hide hss
        have Hr := hide (show strV z = .tuple #[.string ⟨#[]⟩, .int .i64 (((errOf y).getD k : Nat) : Int), .int .i64 50] by rw [← Hz.out, HV.out, hy]; rfl)
        generalize (60 : UInt8).toNat = q at *
        clear hc hle hkl hss hy e2 e3 e4
        cases y with
        | ok out =>
          unfold strV at HSS
          go_wp2_with fail
          refine HSS.out.mono ?_
          rintro e w2 ⟨rfl, b2⟩
          go_wp2
          go_ret3
          rw [Hr.out]
          exact ⟨rfl, HB.out.trans (b2.mono HB.out.size)⟩
        | error a =>
          unfold strV at HSS
          go_wp2_with fail
          refine HSS.out.mono ?_
          rintro e w2 ⟨rfl, b2⟩
          go_wp2
          go_ret3
          rw [Hr.out]
          exact ⟨rfl, HB.out.trans (b2.mono HB.out.size)⟩
      · have e1' : (c == 60) = false := by rw [beq_eq_false_iff_ne]; exact h1
        rw [e1'] at e1
        have H61 := hide (show (60 : UInt8) ∉ l.take (k + 1) by
          rw [List.take_add_one, hc]
          intro hm
          rcases List.mem_append.1 hm with hm | hm
          · exact H60.out hm
          · exact h1 (List.mem_singleton.1 hm).symm)
        have hSn := byte_snoc hc
        clear e1' h1 hc
        by_cases hw : c = 9 ∨ c = 10 ∨ c = 13
        · have Hby := hide (show byteVs ((l.take (k + 1)).map norm) = byteVs ((l.take k).map norm) ++ [.int .u8 32] by rw [hSn, byteVs_snoc, show norm c = 32 by unfold norm; rw [if_pos hw]]; rfl)
          clear hSn
          rcases hw with hw | hw | hw
          · subst hw
            rw [show (((9 : UInt8)) == 9) = true by decide] at e2
            rw [show (((9 : UInt8)) == 10) = false by decide] at e3
            rw [show (((9 : UInt8)) == 13) = false by decide] at e4
            generalize (9 : UInt8).toNat = q at *
            go_wp2_with (at_builtin; go_loud (refine wpList_append_elem wr rfl (.tmp 45) (.tmp 47) 51 rfl w.heap.size (.int .u8 0) 1 1 Tryz.underlying51 info_u8s rfl (by omega) (.slice A k cp) k (byteVs ((l.take k).map norm)) rfl HO.out (cs := [.int .u8 32]) rfl (by simp [Value.oneCell']) rfl (by unfold maxLen; omega) (by omega) HB.out.size ?_); intro g8 cap8 w8 hown8 hgrow8 hat8 hlt8 hb8; have HO8 := hide hown8; have HG8 := hide hgrow8; clear hown8 hgrow8 hat8 hlt8 hb8)
            go_roundg (n - (k + 1))
            case measure => have := Hg.out; omega
            case rel => exact ⟨k + 1, _, _, rfl, by omega, by first | rfl | go_num, rfl, by rw [Hby.out]; exact HO8.out, H61.out, HB.out.trans (own_below8 HO.out HG8.out HB.out.size)⟩
          · subst hw
            rw [show (((10 : UInt8)) == 9) = false by decide] at e2
            rw [show (((10 : UInt8)) == 10) = true by decide] at e3
            rw [show (((10 : UInt8)) == 13) = false by decide] at e4
            generalize (10 : UInt8).toNat = q at *
            go_wp2_with (at_builtin; go_loud (refine wpList_append_elem wr rfl (.tmp 45) (.tmp 47) 51 rfl w.heap.size (.int .u8 0) 1 1 Tryz.underlying51 info_u8s rfl (by omega) (.slice A k cp) k (byteVs ((l.take k).map norm)) rfl HO.out (cs := [.int .u8 32]) rfl (by simp [Value.oneCell']) rfl (by unfold maxLen; omega) (by omega) HB.out.size ?_); intro g8 cap8 w8 hown8 hgrow8 hat8 hlt8 hb8; have HO8 := hide hown8; have HG8 := hide hgrow8; clear hown8 hgrow8 hat8 hlt8 hb8)
            go_roundg (n - (k + 1))
            case measure => have := Hg.out; omega
            case rel => exact ⟨k + 1, _, _, rfl, by omega, by first | rfl | go_num, rfl, by rw [Hby.out]; exact HO8.out, H61.out, HB.out.trans (own_below8 HO.out HG8.out HB.out.size)⟩
          · subst hw
            rw [show (((13 : UInt8)) == 9) = false by decide] at e2
            rw [show (((13 : UInt8)) == 10) = false by decide] at e3
            rw [show (((13 : UInt8)) == 13) = true by decide] at e4
            generalize (13 : UInt8).toNat = q at *
            go_wp2_with (at_builtin; go_loud (refine wpList_append_elem wr rfl (.tmp 45) (.tmp 47) 51 rfl w.heap.size (.int .u8 0) 1 1 Tryz.underlying51 info_u8s rfl (by omega) (.slice A k cp) k (byteVs ((l.take k).map norm)) rfl HO.out (cs := [.int .u8 32]) rfl (by simp [Value.oneCell']) rfl (by unfold maxLen; omega) (by omega) HB.out.size ?_); intro g8 cap8 w8 hown8 hgrow8 hat8 hlt8 hb8; have HO8 := hide hown8; have HG8 := hide hgrow8; clear hown8 hgrow8 hat8 hlt8 hb8)
            go_roundg (n - (k + 1))
            case measure => have := Hg.out; omega
            case rel => exact ⟨k + 1, _, _, rfl, by omega, by first | rfl | go_num, rfl, by rw [Hby.out]; exact HO8.out, H61.out, HB.out.trans (own_below8 HO.out HG8.out HB.out.size)⟩
        · have Hby := hide (show byteVs ((l.take (k + 1)).map norm) = byteVs ((l.take k).map norm) ++ [.int .u8 (c.toNat : Int)] by rw [hSn, byteVs_snoc, show norm c = c by unfold norm; rw [if_neg hw]])
          rw [show (c == 9) = false by rw [beq_eq_false_iff_ne]; exact fun e => hw (.inl e)] at e2
          rw [show (c == 10) = false by rw [beq_eq_false_iff_ne]; exact fun e => hw (.inr (.inl e))] at e3
          rw [show (c == 13) = false by rw [beq_eq_false_iff_ne]; exact fun e => hw (.inr (.inr e))] at e4
          clear hSn hw
          generalize c.toNat = q at *
          go_wp2_with (at_builtin; go_loud (refine wpList_append_elem wr rfl (.tmp 45) (.tmp 47) 51 rfl w.heap.size (.int .u8 0) 1 1 Tryz.underlying51 info_u8s rfl (by omega) (.slice A k cp) k (byteVs ((l.take k).map norm)) rfl HO.out (cs := [.int .u8 (q : Int)]) rfl (by simp [Value.oneCell']) rfl (by unfold maxLen; omega) (by omega) HB.out.size ?_); intro g8 cap8 w8 hown8 hgrow8 hat8 hlt8 hb8; have HO8 := hide hown8; have HG8 := hide hgrow8; clear hown8 hgrow8 hat8 hlt8 hb8)
          go_roundg (n - (k + 1))
          case measure => have := Hg.out; omega
          case rel => exact ⟨k + 1, _, _, rfl, by omega, by first | rfl | go_num, rfl, by rw [Hby.out]; exact HO8.out, H61.out, HB.out.trans (own_below8 HO.out HG8.out HB.out.size)⟩
    · have hkn : k = n := by omega
      subst hkn
      have hall : l.take k = l := List.take_of_length_le (by rw [Hnl.out]; exact Nat.le_refl _)
      have hO := HO.out
      have h60 := H60.out
      rw [hall] at hO h60
      have hv := value_plain (less_none h60)
      have HSS := HS.out (l.map norm) wr (by rw [List.length_map]; omega)
      rw [List.length_map] at HSS
      have Hr := hide (show strV z = strV (sref l.length 0 (l.map norm)) by rw [← Hz.out, hv])
      have HSH := hide HSS
      have HOH := hide hO
      have hge : ¬ k < (bstr l).size := by rw [Hn.out]; omega
      obtain ⟨t, hcv, ht⟩ := run_to_string (P := Tryz.prog) wr 51 9 5 Tryz.underlying51 Tryz.underlying5 Tryz.underlying9 (l.map norm) HOH.out
      obtain rfl : t = bstr (l.map norm) := str_is ht
      clear ht
      obtain ⟨y, hy⟩ : ∃ y, sref l.length 0 (l.map norm) = y := ⟨_, rfl⟩
      rw [hy] at HSH Hr
      clear hall hO h60 hv HSS hy hlt hk hl
      cases y with
      | ok out =>
        unfold strV at HSH
        go_wp2_with fail
        refine HSH.out.mono ?_
        rintro e w2 ⟨rfl, b2⟩
        go_wp2
        go_ret3
        rw [Hr.out]
        exact ⟨rfl, HB.out.trans (b2.mono HB.out.size)⟩
      | error a =>
        unfold strV at HSH
        go_wp2_with fail
        refine HSH.out.mono ?_
        rintro e w2 ⟨rfl, b2⟩
        go_wp2
        go_ret3
        rw [Hr.out]
        exact ⟨rfl, HB.out.trans (b2.mono HB.out.size)⟩
end Go.Proofs.YtbbpkcddifmieaaGreatDoor
namespace Go.Proofs.YtbbpkcddifmieaaGreatDoor
open Go.RowKit Tk Sx

theorem strV_parts (z : Except Nat L) : ∃ (t : L) (a : Int) (e : Nat), strV z = .tuple #[.string (bstr t), .int .i64 a, .int .i64 (e : Int)] := by
  cases z with
  | ok out => exact ⟨out, -1, 0, rfl⟩
  | error a => exact ⟨[], a, 50, rfl⟩

set_option maxRecDepth 100000 in
set_option maxHeartbeats 32000000 in
theorem lawValues_any (l : L) (A : Option Addr) (c : Nat) (sc : List Dcl) (p : L) (w : World) (hg : Gl w) (hw6 : 6 ≤ w.heap.size) (hr : Reads w w.heap.size 2 A sc.length (dcls sc)) :
    Calls Tryz.prog 3 #[.string (bstr l), .slice A sc.length c, .string (bstr p)] w fun e w' => e = .returned (.bool true) ∧ Below w.heap.size w w' := by
  have HWk := hide (fun W (h : Below w.heap.size w W) => wakes15_any W (hg.below h) (Nat.le_trans hw6 h.size))
  have HR := hide hr
  obtain ⟨n0, hn0⟩ : ∃ n, (bstr l).size = n := ⟨_, rfl⟩
  obtain ⟨n1, hn1⟩ : ∃ n, sc.length = n := ⟨_, rfl⟩
  obtain ⟨n2, hn2⟩ : ∃ n, (bstr p).size = n := ⟨_, rfl⟩
  have Hl0 := hide (show n0 = l.length by rw [← hn0, bstr_size])
  have Hl2 := hide (show n2 = p.length by rw [← hn2, bstr_size])
  have Hn1 := hide hn1
  rw [hn1] at HR ⊢
  clear hr hg hw6 hn1
  by_cases hb0 : 2000 < n0
  · clear hn2
    go_enter Tryz.func3, Tryz.ntmps3
    go_wp2_with fail
    refine (HWk.out _ (Below.refl _ _)).mono ?_
    rintro e w1 ⟨rfl, b1⟩
    go_wp2
    go_ret
    exact ⟨rfl, b1⟩
  by_cases hb1 : 40 < n1
  · clear hn2
    go_enter Tryz.func3, Tryz.ntmps3
    go_wp2_with fail
    refine (HWk.out _ (Below.refl _ _)).mono ?_
    rintro e w1 ⟨rfl, b1⟩
    go_wp2
    go_ret
    exact ⟨rfl, b1⟩
  by_cases hb2 : 300 < n2
  · go_enter Tryz.func3, Tryz.ntmps3
    go_wp2_with fail
    refine (HWk.out _ (Below.refl _ _)).mono ?_
    rintro e w1 ⟨rfl, b1⟩
    go_wp2
    go_ret
    exact ⟨rfl, b1⟩
  have HV1 := hide (fun W => value15_any l W (by rw [← Hl0.out]; omega))
  have HV2 := hide (fun W => refValue15_any l W (by rw [← Hl0.out]; omega))
  have HS1 := hide (fun W (h : Below w.heap.size w W) => space15_any A c W.heap.size sc p W (by rw [Hn1.out]; exact (HR.out.below h).more h.size) (Nat.le_refl _) (by rw [Hn1.out]; omega))
  have HS2 := hide (fun W (h : Below w.heap.size w W) => refSpace15_any A c W.heap.size sc p W (by rw [Hn1.out]; exact (HR.out.below h).more h.size) (by rw [Hn1.out]; omega))
  rw [Hn1.out] at HS1 HS2
  obtain ⟨vt, va, ve, hv⟩ := strV_parts (value l)
  rw [hv] at HV1 HV2
  obtain ⟨⟨sp, ok⟩, hsp⟩ : ∃ s, spaceOf sc p = s := ⟨_, rfl⟩
  rw [hsp] at HS1 HS2
  unfold spV at HS1 HS2
  dsimp only at HS1 HS2
  clear hv hsp
  go_enter Tryz.func3, Tryz.ntmps3
  go_wp2
  go_loopg [35] n1 (fun gk vk wr => ∃ k : Nat, gk = n1 - k ∧ k ≤ n1 ∧ vk = .int .i64 (k : Int) ∧ Below w.heap.size w wr)
  case atStart => exact ⟨0, rfl, by omega, rfl, Below.refl _ _⟩
  case round =>
    obtain ⟨k, hgk, hk, rfl, hb⟩ := hrel
    have Hg := hide hgk
    have HB := hide hb
    clear hgk hb
    by_cases hlt : k < n1
    · have hrd := HR.out.below HB.out
      rw [← Hn1.out] at hrd
      have hks : k < sc.length := by rw [Hn1.out]; exact hlt
      obtain ⟨b, off, rfl, hbl, y0, y1⟩ := hrd.dcl (k := k) hks
      obtain ⟨dp, hdp⟩ : ∃ d, (sc[k]'hks).pre = d := ⟨_, rfl⟩
      obtain ⟨dn, hdn⟩ : ∃ d, (sc[k]'hks).ns = d := ⟨_, rfl⟩
      rw [hdp] at y0
      rw [hdn] at y1
      clear hdp hdn hks
      obtain ⟨m0, hm0⟩ : ∃ n, (bstr dp).size = n := ⟨_, rfl⟩
      obtain ⟨m1, hm1⟩ : ∃ n, (bstr dn).size = n := ⟨_, rfl⟩
      have HbA := hide (show Below w.heap.size w (wr.alloc (.cells #[.string (bstr dp), .string (bstr dn)] 24)) from HB.out.trans ((below_alloc _ _).mono HB.out.size))
      clear hrd
      by_cases h0 : 300 < m0
      · go_wp2_with fail
        refine (HWk.out _ HbA.out).mono ?_
        rintro e w1 ⟨rfl, b1⟩
        go_wp2
        go_ret
        exact ⟨rfl, HbA.out.trans (b1.mono HbA.out.size)⟩
      by_cases h1 : 300 < m1
      · go_wp2_with fail
        refine (HWk.out _ HbA.out).mono ?_
        rintro e w1 ⟨rfl, b1⟩
        go_wp2
        go_ret
        exact ⟨rfl, HbA.out.trans (b1.mono HbA.out.size)⟩
      go_wp2
      go_roundg (n1 - (k + 1))
      case measure => have := Hg.out; omega
      case rel => exact ⟨k + 1, rfl, by omega, by first | rfl | go_num, HbA.out⟩
    · have q1 : ((bstr vt).toList == (bstr vt).toList) = true := by simp
      have q2 : ((bstr sp).toList == (bstr sp).toList) = true := by simp
      go_wp2_with fail
      refine (HV1.out _).mono ?_
      rintro e w1 ⟨rfl, b1⟩
      have B1 := hide (HB.out.trans (b1.mono HB.out.size))
      clear b1
      go_wp2_with fail
      refine (HV2.out _).mono ?_
      rintro e w2 ⟨rfl, b2⟩
      have B2 := hide (B1.out.trans (b2.mono B1.out.size))
      clear b2
      go_wp2_with fail
      refine (HS1.out _ B2.out).mono ?_
      rintro e w3 ⟨rfl, b3⟩
      have B3 := hide (B2.out.trans (b3.mono B2.out.size))
      clear b3
      go_wp2_with fail
      refine (HS2.out _ B3.out).mono ?_
      rintro e w4 ⟨rfl, hw4⟩
      subst w4
      go_wp2_with fail
      refine (HWk.out _ B3.out).mono ?_
      rintro e w5 ⟨rfl, b5⟩
      have B5 := hide (B3.out.trans (b5.mono B3.out.size))
      clear b5
      go_wp2
      go_ret
      exact ⟨rfl, B5.out⟩
end Go.Proofs.YtbbpkcddifmieaaGreatDoor
