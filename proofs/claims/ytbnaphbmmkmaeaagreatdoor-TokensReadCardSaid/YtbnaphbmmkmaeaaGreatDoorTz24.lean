/- Tokens: the document's All: a text's tokens. · Tokens in memory, wherever they lie. -/
import Derived.Test.YtbnaphbmmkmaeaaGreatDoorTz23
import Derived.Deep.QuietTactic
import Derived.BigQuiet
import Derived.Deep.LoopGhost
import Derived.WalkSpells
import Derived.WalkLawsBesides
set_option linter.unusedSimpArgs false
set_option linter.unusedVariables false
namespace Go.Proofs.YtbnaphbmmkmaeaaGreatDoor
open Go.RowKit Tk

theorem one_row {D : L} {p : Nat} {ts : List Tok} (hv : Utf.valid D = true) (h : Row 0 (D.take p) (D.drop p) ts) (hp : p < D.length) : oneO D p = Tk.one p (D.drop p) := by
  obtain ⟨c, hc⟩ : ∃ c, D[p]? = some c := ⟨_, List.getElem?_eq_getElem hp⟩
  have hvd : Utf.valid (D.drop p) = true := by
    have e := Utf.valid_app h.valid (D.drop p)
    rw [List.take_append_drop] at e
    rw [← e]; exact hv
  have hdc : D.drop p = c :: D.drop (p + 1) := drop_cons1 hc
  rw [hdc] at hvd
  have h0 := (Utf.valid_step hvd).1
  rw [← hdc] at h0
  refine oneO_at hv hc ?_
  rw [Bool.eq_false_iff]
  intro hg
  have := (Utf.valid_at hv hc).2 hg
  omega

theorem grown_in {x : Tv} {B base n c : Nat} {A : Option Addr} {W w8 : World} {cs : List Value} {o : Obj} (h : x.In B W) (hr : W.ownsRow base 29 7 (.slice A n c) n cs) (hg : (W.alloc o).grownBy w8 (Value.slice A n c).ownBlock) : x.In B w8 := by
  refine (h.below (below_alloc W o)).turn (fun k _ hk hT => ?_) hg.size
  refine (hg.block k hk fun e => ?_)
  obtain ⟨cs, fr, hh⟩ := (own_isT hr k e.symm).2
  have hlt := (own_isT hr k e.symm).2.lt
  exact hT ⟨cs, fr, (Below.heap_alloc _ _ _ hlt).trans hh⟩

set_option maxHeartbeats 8000000 in
set_option maxRecDepth 20000 in
theorem refTks_any (w : World) (s : ByteArray) (hs : s.size ≤ 1000000) :
    Calls Tryz.prog 12 #[.string s] w (TksR w s.data.toList) := by
  have HV := hide (fun W => refValid_any s W (by omega))
  obtain ⟨D, hD⟩ : ∃ D, s.data.toList = D := ⟨_, rfl⟩
  have HD := hide hD
  have HDl := hide (show D.length = s.size by rw [← hD, size_list])
  have HO := hide (fun W k => refOne_any s k W (by omega))
  rw [hD] at HV HO ⊢
  clear hD
  cases hv : Utf.valid D with
  | false =>
    rw [hv] at HV
    have HP := hide (show AllP D (([] : List Tv).map (·.t)) 0 false by unfold AllP; rw [if_neg (by rw [hv]; simp)]; exact ⟨rfl, rfl, rfl⟩)
    clear hv HO
    go_enter Tryz.func12, Tryz.ntmps12
    go_wp2_with fail
    refine (HV.out _).mono ?_
    rintro e w1 ⟨rfl, b1⟩
    have B1 := hide b1
    clear b1
    go_wp2
    go_ret3
    exact ⟨[], none, 0, 0, false, HP.out, by simp, by simp, rfl, B1.out, Reads.none_, (fun a h => by cases h), (fun a h => by cases h), (fun x hx => by cases hx)⟩
  | true =>
    rw [hv] at HV
    have Hv := hide hv
    clear hv
    go_enter Tryz.func12, Tryz.ntmps12
    go_wp2_with fail
    refine (HV.out _).mono ?_
    rintro e w1 ⟨rfl, b1⟩
    have B1 := hide b1
    clear b1 HV
    go_wp2
    go_loopg [5, 6] s.size (fun g vl va wr => ∃ (p : Nat) (xs : List Tv) (A : Option Addr) (c : Nat), g = s.size - p ∧ p ≤ s.size ∧ va = .int .i64 (p : Int) ∧ vl = .slice A xs.length c ∧
      wr.ownsRow w.heap.size 29 7 (.slice A xs.length c) xs.length (tvRows xs) ∧ (∀ x ∈ xs, x.In w.heap.size wr) ∧ Below w.heap.size w wr ∧ Row 0 (D.take p) (D.drop p) (xs.map (·.t)))
    case atStart => exact ⟨0, [], none, 0, rfl, by omega, rfl, rfl, World.ownsRow_nil _ _ _ _, (fun x hx => by cases hx), B1.out, .nil _ _⟩
    case round =>
      obtain ⟨p, xs, A, c, hgg, hp, rfl, rfl, hrow, hi, hB, hR⟩ := hrel
      have Hg := hide hgg
      have Hrow := hide hrow
      have Hi := hide hi
      have HB := hide hB
      have HR := hide hR
      clear hgg hrow hi hB hR B1
      by_cases hlt : p < s.size
      · have hone := HO.out wr (p : Int)
        rw [one_row Hv.out HR.out (by rw [HDl.out]; exact hlt)] at hone
        cases ho : Tk.one p (D.drop p) with
        | none =>
          rw [ho] at hone
          have HX := hide (show Calls Tryz.prog 14 #[.string s, .int .i64 (p : Int)] wr fun e w' => Below wr.heap.size wr w' ∧ e = .returned (.tuple #[.agg #[.int .i8 0, .string ⟨#[]⟩, .slice none 0 0, .bool false, .string ⟨#[]⟩, .int .i64 0, .int .i64 0], .bool false]) from hone)
          have HP := hide (show AllP D (xs.map (·.t)) p false by
            unfold AllP
            rw [if_pos Hv.out]
            have hl : (D.take p).length = p := by rw [List.length_take, HDl.out]; omega
            refine ⟨_, _, (List.take_append_drop p D).symm, HR.out, .inr (by rw [hl]; exact ho), hl.symm, ?_⟩
            have e1 : (D.drop p).isEmpty = false := by
              rw [Bool.eq_false_iff]
              intro e
              have := congrArg List.length (List.isEmpty_iff.1 e)
              rw [List.length_drop, HDl.out] at this
              simp at this
              omega
            exact e1.symm)
          have Hlen := hide (show xs.length ≤ D.length by have := row_len HR.out; rw [List.length_map, List.length_take] at this; omega)
          clear hone ho HO HR
          go_wp2_with fail
          refine HX.out.mono ?_
          rintro e w2 ⟨b2, rfl⟩
          have B2 := hide (b2.alloc b2.size (.cells #[.int .i8 0, .string ⟨#[]⟩, .slice none 0 0, .bool false, .string ⟨#[]⟩, .int .i64 0, .int .i64 0] 29))
          clear b2
          have Own2 := hide (own_below Hrow.out B2.out)
          have In2 := hide (fun x hx => (Hi.out x hx).below B2.out)
          have HB2 := hide (HB.out.trans (B2.out.mono HB.out.size))
          go_wp2
          go_ret3
          exact ⟨xs, A, c, p, _, HP.out, Hlen.out, own_cap Hrow.out, rfl, HB2.out, Reads.of_own Own2.out, above_own Own2.out, typed_own Own2.out, In2.out⟩
        | some t =>
          rw [ho] at hone
          have HX := hide (show Calls Tryz.prog 14 #[.string s, .int .i64 (p : Int)] wr fun e w' => Below wr.heap.size wr w' ∧ ∃ A c, e = .returned (.tuple #[.agg #[.int .i8 t.kind, .string (bstr t.name), .slice A t.attrs.length c, .bool t.empty, .string (bstr t.text), .int .i64 (t.at_ : Int), .int .i64 (t.end_ : Int)], .bool true]) ∧
            w'.ownsRow wr.heap.size 58 3 (.slice A t.attrs.length c) t.attrs.length (attrVs t.attrs) from hone)
          have HN := hide (row_next HR.out (by rw [HDl.out]; exact hlt) ho)
          have Hlen := hide (show xs.length ≤ D.length by have := row_len HR.out; rw [List.length_map, List.length_take] at this; omega)
          clear hone ho HO HR
          go_wp2_with fail
          refine HX.out.mono ?_
          rintro e w2 ⟨b2, A2, c2, rfl, o2⟩
          have N2 := hide (Tv.In.of_own o2)
          have Own2 := hide (own_below Hrow.out b2)
          have In2 := hide (fun x hx => (Hi.out x hx).below b2)
          have HB2 := hide (HB.out.trans (b2.mono HB.out.size))
          obtain ⟨O, hO⟩ : ∃ O, (Obj.cells #[.int .i8 t.kind, .string (bstr t.name), .slice A2 t.attrs.length c2, .bool t.empty, .string (bstr t.text), .int .i64 (t.at_ : Int), .int .i64 (t.end_ : Int)] 29) = O := ⟨_, rfl⟩
          have Own3 := hide (Own2.out.alloc O)
          have In3 := hide (fun x hx => (In2.out x hx).below (below_alloc w2 O))
          have N3 := hide ((N2.out.below (below_alloc w2 O)).more HB.out.size)
          have HB3 := hide (HB2.out.alloc HB2.out.size O)
          have V3 := hide (show Blk (w2.alloc O) w2.heap.size 29 #[.int .i8 t.kind, .string (bstr t.name), .slice A2 t.attrs.length c2, .bool t.empty, .string (bstr t.text), .int .i64 (t.at_ : Int), .int .i64 (t.end_ : Int)] from by rw [← hO]; exact Blk.new _ _ _)
          have HVn := hide (show (Value.slice A xs.length c).ownBlock ≠ some w2.heap.size from fun e => by have := (Own2.out.lt _ e).2; omega)
          have Hxl := hide (show xs.length ≤ 1000000 by have := Hlen.out; have := HDl.out; omega)
          clear b2 o2 N2 Own2 In2 HB2
          go_simp
          iterate 18 go_step
          try rw [hO]
          generalize w2.alloc O = W3 at *
          generalize w2.heap.size = V at *
          clear hO
          have y0 := V3.out.cell 0
          have y1 := V3.out.cell 1
          have y2 := V3.out.cell 2
          have y3 := V3.out.cell 3
          have y4 := V3.out.cell 4
          have y5 := V3.out.cell 5
          have y6 := V3.out.cell 6
          go_wp2_with (at_builtin; go_loud (refine wpList_append_elem_at (W3.alloc (.cells (Tv.row ⟨t, A2, c2⟩).toArray 29)) rfl (.tmp 26) (.tmp 28) 23 rfl w.heap.size 29 _ 7 88 Tryz.underlying23 info_tok rfl (by omega) (.slice A xs.length c) xs.length (tvRows xs) rfl (Own3.out.alloc _) (Tv.row ⟨t, A2, c2⟩) rfl (tv_one ⟨t, A2, c2⟩) W3.heap.size (Blk.new W3 29 _) rfl (by unfold maxLen; have := Hxl.out; omega) (by have := Hxl.out; omega) (by have := HB3.out.size; simp; omega) ?_); intro gg cap w8 hown8 hgrow8 hlt8; have V8 := hide (Blk.grown (Blk.alloc V3.out (.cells (Tv.row ⟨t, A2, c2⟩).toArray 29)) hgrow8 HVn.out.symm); have z6 : w8.cell? ⟨V, 6, none⟩ = some (.int .i64 (t.end_ : Int)) := V8.out.cell 6; have Hgrow8 := hide hgrow8; have Hown8 := hide hown8; clear hown8 hgrow8 hlt8)
          have HBA := hide (HB3.out.alloc HB3.out.size (.cells (Tv.row ⟨t, A2, c2⟩).toArray 29))
          have HB8 := hide (HBA.out.grown Hgrow8.out HBA.out.size fun j e => (own_isT Own3.out j e).1)
          have Hgd := hide (show (W3.alloc (.cells (Tv.row ⟨t, A2, c2⟩).toArray 29)).grownBy w8 (Value.slice A xs.length c).ownBlock from Hgrow8.out)
          have In8 := hide (show ∀ x ∈ xs ++ [Tv.mk t A2 c2], x.In w.heap.size w8 from fun x hx => by
            rcases List.mem_append.1 hx with hx | hx
            · exact grown_in (In3.out x hx) Own3.out Hgd.out
            · simp only [List.mem_singleton] at hx
              subst hx
              exact grown_in N3.out Own3.out Hgd.out)
          go_roundg (s.size - t.end_)
          case measure => have := Hg.out; have := HN.out.1; have := HN.out.2.1; have := HDl.out; omega
          case rel => exact ⟨t.end_, xs ++ [⟨t, A2, c2⟩], some ⟨gg, 0, none⟩, cap, rfl, by have := HN.out.2.1; have := HDl.out; omega, rfl, by rw [List.length_append]; rfl, by rw [List.length_append, tvRows_snoc]; exact Hown8.out, In8.out, HB8.out, by rw [List.map_append]; exact HN.out.2.2⟩
      · have hpe : p = s.size := by omega
        subst hpe
        have HP := hide (show AllP D (xs.map (·.t)) s.size true by
          unfold AllP
          rw [if_pos Hv.out]
          refine ⟨D, [], (List.append_nil _).symm, ?_, .inl rfl, HDl.out.symm, rfl⟩
          have h := HR.out
          rw [List.take_of_length_le (by rw [HDl.out]; exact Nat.le_refl _), List.drop_of_length_le (by rw [HDl.out]; exact Nat.le_refl _)] at h
          exact h)
        have Hlen := hide (show xs.length ≤ D.length by have := row_len HR.out; rw [List.length_map, List.length_take] at this; omega)
        go_wp2
        go_ret3
        exact ⟨xs, A, c, s.size, _, HP.out, Hlen.out, own_cap Hrow.out, rfl, HB.out, Reads.of_own Hrow.out, above_own Hrow.out, typed_own Hrow.out, Hi.out⟩
end Go.Proofs.YtbnaphbmmkmaeaaGreatDoor
namespace Go.Proofs.YtbnaphbmmkmaeaaGreatDoor
open Go.RowKit Tk

structure Ga where
  name : ByteArray
  value : ByteArray
  at_ : Int
structure Gt where
  kind : Int
  name : ByteArray
  as_ : List Ga
  A : Option Addr
  c : Nat
  empty : Bool
  text : ByteArray
  at_ : Int
  end_ : Int
def gaCells (x : Ga) : List Value := [.string x.name, .string x.value, .int .i64 x.at_]
def gtCells (x : Gt) : List Value := [.int .i8 x.kind, .string x.name, .slice x.A x.as_.length x.c, .bool x.empty, .string x.text, .int .i64 x.at_, .int .i64 x.end_]
def gas (l : List Ga) : List Value := l.flatMap gaCells
def gts (l : List Gt) : List Value := l.flatMap gtCells
theorem gas_length (l : List Ga) : (gas l).length = l.length * 3 := by
  induction l with
  | nil => rfl
  | cons x l ih => unfold gas at ih ⊢; rw [List.flatMap_cons, List.length_append, ih, List.length_cons]; simp [gaCells]; omega
theorem gts_length (l : List Gt) : (gts l).length = l.length * 7 := by
  induction l with
  | nil => rfl
  | cons x l ih => unfold gts at ih ⊢; rw [List.flatMap_cons, List.length_append, ih, List.length_cons]; simp [gtCells]; omega
theorem gas_at : ∀ (l : List Ga) (k : Nat) (hk : k < l.length) (j : Nat), j < 3 → (gas l)[k * 3 + j]? = (gaCells l[k])[j]? := by
  intro l
  induction l with
  | nil => intro k hk; simp at hk
  | cons x l ih =>
    intro k hk j hj
    have hl : (gaCells x).length = 3 := rfl
    unfold gas
    rw [List.flatMap_cons]
    cases k with
    | zero => rw [List.getElem?_append_left (by omega)]; simp
    | succ k =>
      rw [List.getElem?_append_right (by omega), hl, show (k + 1) * 3 + j - 3 = k * 3 + j from by omega]
      exact ih k (by simpa using hk) j hj
theorem gts_at : ∀ (l : List Gt) (k : Nat) (hk : k < l.length) (j : Nat), j < 7 → (gts l)[k * 7 + j]? = (gtCells l[k])[j]? := by
  intro l
  induction l with
  | nil => intro k hk; simp at hk
  | cons x l ih =>
    intro k hk j hj
    have hl : (gtCells x).length = 7 := rfl
    unfold gts
    rw [List.flatMap_cons]
    cases k with
    | zero => rw [List.getElem?_append_left (by omega)]; simp
    | succ k =>
      rw [List.getElem?_append_right (by omega), hl, show (k + 1) * 7 + j - 7 = k * 7 + j from by omega]
      exact ih k (by simpa using hk) j hj
structure GaAt (w : World) (b o : Nat) (x : Ga) : Prop where
  c0 : w.cell? ⟨b, o, none⟩ = some (.string x.name)
  c1 : w.cell? ⟨b, o + 1, none⟩ = some (.string x.value)
  c2 : w.cell? ⟨b, o + 2, none⟩ = some (.int .i64 x.at_)
structure GtAt (w : World) (b o : Nat) (x : Gt) : Prop where
  c0 : w.cell? ⟨b, o, none⟩ = some (.int .i8 x.kind)
  c1 : w.cell? ⟨b, o + 1, none⟩ = some (.string x.name)
  c2 : w.cell? ⟨b, o + 2, none⟩ = some (.slice x.A x.as_.length x.c)
  c3 : w.cell? ⟨b, o + 3, none⟩ = some (.bool x.empty)
  c4 : w.cell? ⟨b, o + 4, none⟩ = some (.string x.text)
  c5 : w.cell? ⟨b, o + 5, none⟩ = some (.int .i64 x.at_)
  c6 : w.cell? ⟨b, o + 6, none⟩ = some (.int .i64 x.end_)
section
variable {w : World} {B : Nat} {A : Option Addr}
theorem Reads.ga {l : List Ga} (h : Reads w B 3 A l.length (gas l)) {k : Nat} (hk : k < l.length) : ∃ b off, A = some ⟨b, off, none⟩ ∧ b < B ∧ GaAt w b (off + k * 3) l[k] := by
  obtain ⟨b, off, hA, hb, hc⟩ := h.2 (by omega)
  have hx := gas_at l k hk
  refine ⟨b, off, hA, hb, ?_⟩
  constructor
  · have := hc (k * 3 + 0) _ (hx 0 (by omega)); simpa using this
  · have := hc (k * 3 + 1) _ (hx 1 (by omega)); rwa [← Nat.add_assoc] at this
  · have := hc (k * 3 + 2) _ (hx 2 (by omega)); rwa [← Nat.add_assoc] at this
theorem Reads.gt {l : List Gt} (h : Reads w B 7 A l.length (gts l)) {k : Nat} (hk : k < l.length) : ∃ b off, A = some ⟨b, off, none⟩ ∧ b < B ∧ GtAt w b (off + k * 7) l[k] := by
  obtain ⟨b, off, hA, hb, hc⟩ := h.2 (by omega)
  have hx := gts_at l k hk
  refine ⟨b, off, hA, hb, ?_⟩
  constructor
  · have := hc (k * 7 + 0) _ (hx 0 (by omega)); simpa using this
  · have := hc (k * 7 + 1) _ (hx 1 (by omega)); rwa [← Nat.add_assoc] at this
  · have := hc (k * 7 + 2) _ (hx 2 (by omega)); rwa [← Nat.add_assoc] at this
  · have := hc (k * 7 + 3) _ (hx 3 (by omega)); rwa [← Nat.add_assoc] at this
  · have := hc (k * 7 + 4) _ (hx 4 (by omega)); rwa [← Nat.add_assoc] at this
  · have := hc (k * 7 + 5) _ (hx 5 (by omega)); rwa [← Nat.add_assoc] at this
  · have := hc (k * 7 + 6) _ (hx 6 (by omega)); rwa [← Nat.add_assoc] at this
end
theorem str_eq (a b : ByteArray) : (a.toList = b.toList) ↔ a = b := by
  rw [ByteArray.toList_eq, ByteArray.toList_eq]
  obtain ⟨⟨x⟩⟩ := a
  obtain ⟨⟨y⟩⟩ := b
  simp
theorem str_beq (a b : ByteArray) : (a.toList == b.toList) = decide (a = b) := by
  rw [Bool.eq_iff_iff]; simp [str_eq]
theorem eq_take {α : Type} {l l' : List α} {k : Nat} (h1 : k < l.length) (h2 : k < l'.length) (ht : l.take k = l'.take k) (he : l[k] = l'[k]) : l.take (k + 1) = l'.take (k + 1) := by
  rw [List.take_succ_eq_append_getElem h1, List.take_succ_eq_append_getElem h2, ht, he]
theorem ne_at {α : Type} {l l' : List α} {k : Nat} (h1 : k < l.length) (h2 : k < l'.length) (he : l[k] ≠ l'[k]) : l ≠ l' := by
  rintro rfl; exact he rfl
theorem cell_go {w w' : World} {a : Addr} {v : Value} (hb : Below w.heap.size w w') (h : w.cell? a = some v) : w'.cell? a = some v := (hb.cell (lt_of_cell h)).trans h
theorem below_drewN {B : Nat} {w w' : World} (h : Below B w w') (m : Nat) : Below B w (w'.drewN m) := ⟨h.os, h.tape, h.output, h.size, h.block⟩
/-- An attribute, a token without its places. -/
def Ga.bare (x : Ga) : ByteArray × ByteArray := (x.name, x.value)
structure Gb where
  kind : Int
  name : ByteArray
  as_ : List (ByteArray × ByteArray)
  empty : Bool
  text : ByteArray
  deriving DecidableEq
def Gt.bare (x : Gt) : Gb := ⟨x.kind, x.name, x.as_.map Ga.bare, x.empty, x.text⟩
/-- A list of tokens, wherever it lies. -/
structure TkL (w : World) (B : Nat) (A : Option Addr) (xs : List Gt) : Prop where
  row : Reads w B 7 A xs.length (gts xs)
  sub : ∀ x ∈ xs, Reads w B 3 x.A x.as_.length (gas x.as_)
theorem TkL.below {w w' : World} {B : Nat} {A : Option Addr} {xs : List Gt} (h : TkL w B A xs) (hb : Below B w w') : TkL w' B A xs := ⟨h.row.below hb, fun x hx => (h.sub x hx).below hb⟩
theorem TkL.more {w : World} {B B' : Nat} {A : Option Addr} {xs : List Gt} (h : TkL w B A xs) (hB : B ≤ B') : TkL w B' A xs := ⟨h.row.more hB, fun x hx => (h.sub x hx).more hB⟩
theorem neq_str_dec (a b : ByteArray) (hab : a = b) : (a.toList == b.toList) = true := by subst hab; simp
theorem neq_str_dec' (a b : ByteArray) (hab : a ≠ b) : (a.toList == b.toList) = false := by
  rw [beq_eq_false_iff_ne]
  exact fun h => hab ((str_eq a b).1 h)
end Go.Proofs.YtbnaphbmmkmaeaaGreatDoor
