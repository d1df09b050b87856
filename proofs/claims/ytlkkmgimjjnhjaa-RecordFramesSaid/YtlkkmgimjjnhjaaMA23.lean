/- The program's reader: 'read' as a whole, what a record that was read is. · The program's Read. · The document's reader: so many in a row. (Printed by wip/genRefD.py.) -/
import Derived.Test.YtlkkmgimjjnhjaaMA21
import Derived.Test.YtlkkmgimjjnhjaaMA22
set_option linter.unusedSimpArgs false
set_option linter.unusedVariables false
namespace Go.Proofs.Ytlkkmgimjjnhjaa
open Go.RowKit Rec

theorem read_any (w : World) (R : Nat) (l : List UInt8) (hR : Rl w R l false) : Calls Try.prog 38 #[.pointer (some ⟨R, 0, none⟩)] w (ReadQ w R l) := by
  cases l with
  | nil => exact read_nil w R hR
  | cons c l =>
    by_cases h6 : 6 ≤ c.toNat % 128
    · exact read_6 w R c l _ rfl h6 hR
    · have : c.toNat % 128 = 0 ∨ c.toNat % 128 = 1 ∨ c.toNat % 128 = 2 ∨ c.toNat % 128 = 3 ∨ c.toNat % 128 = 4 ∨ c.toNat % 128 = 5 := by omega
      rcases this with h | h | h | h | h | h
      · exact read_0 w R c l h hR
      · exact read_1 w R c l h hR
      · exact read_2 w R c l h hR
      · exact read_3 w R c l h hR
      · exact read_4 w R c l h hR
      · exact read_5 w R c l h hR

/-! ### Sizes -/
theorem pNum_len {l : List UInt8} {n : Nat} {r : List UInt8} (h : pNum l = some (n, r)) : r.length ≤ l.length := by
  unfold pNum at h
  split at h
  · cases h; simp
  · cases h
theorem pText_len {l : List UInt8} {t : ByteArray} {r : List UInt8} (h : pText l = some (t, r)) : t.size + r.length ≤ l.length := by
  unfold pText at h
  cases hn : pNum l with
  | none => rw [hn] at h; cases h
  | some x =>
    obtain ⟨n, r0⟩ := x
    rw [hn] at h
    simp only [Option.bind_some] at h
    have := pNum_len hn
    split at h
    · cases h
      simp [bstr, ByteArray.size]
      omega
    · cases h
theorem pFlag_len {l : List UInt8} {b : Bool} {r : List UInt8} (h : pFlag l = some (b, r)) : r.length ≤ l.length := by
  cases l with
  | nil => cases h
  | cons c l =>
    simp only [pFlag] at h
    split at h
    · cases h; simp
    · cases h
theorem pMany_len {m : Nat} {l : List UInt8} {n : Nat} {r : List UInt8} (h : pMany m l = some (n, r)) : r.length ≤ l.length := by
  unfold pMany at h
  cases hn : pNum l with
  | none => rw [hn] at h; cases h
  | some x =>
    obtain ⟨k, r0⟩ := x
    rw [hn] at h
    simp only [Option.bind_some] at h
    have := pNum_len hn
    split at h
    · cases h; omega
    · cases h
theorem pTexts_len {k : Nat} : ∀ {l : List UInt8} {ts : List ByteArray} {r : List UInt8}, pTexts k l = some (ts, r) → r.length ≤ l.length ∧ ∀ t ∈ ts, t.size ≤ l.length := by
  induction k with
  | zero => intro l ts r h; cases h; simp
  | succ k ih =>
    intro l ts r h
    unfold pTexts at h
    cases h1 : pTexts k l with
    | none => rw [h1] at h; cases h
    | some x =>
      obtain ⟨ts1, r1⟩ := x
      rw [h1] at h
      simp only [Option.bind_some] at h
      cases h2 : pText r1 with
      | none => rw [h2] at h; cases h
      | some y =>
        obtain ⟨t, r2⟩ := y
        rw [h2] at h
        cases h
        obtain ⟨a, b⟩ := ih h1
        have := pText_len h2
        refine ⟨by dsimp only; omega, ?_⟩
        intro s hs
        rcases List.mem_append.1 hs with hs | hs
        · exact b s hs
        · simp at hs; subst hs; omega
theorem getD_size {ts : List ByteArray} {n : Nat} (h : ∀ t ∈ ts, t.size ≤ n) (j : Nat) : (ts.getD j ⟨#[]⟩).size ≤ n := by
  rw [List.getD_eq_getElem?_getD]
  cases hj : ts[j]? with
  | none => simp [ByteArray.size]
  | some t => exact h t (List.mem_of_getElem? hj)
theorem pEntry_len {l : List UInt8} {x : Ent} {r : List UInt8} (h : pEntry l = some (x, r)) : r.length ≤ l.length ∧ ∀ k, k < 5 → (five x k).size ≤ l.length := by
  have he := entry_goes false l
  have h' : goes pEntry false l = some (x, r) := h
  rw [h'] at he
  have hg : goes (pTexts 5) false l = pTexts 5 l := rfl
  rw [hg] at he
  unfold also at he
  cases h1 : pTexts 5 l with
  | none => rw [h1] at he; cases he
  | some y =>
    obtain ⟨ts, r1⟩ := y
    rw [h1] at he
    simp only [Option.bind_some] at he
    obtain ⟨a, b⟩ := pTexts_len h1
    cases h2 : pFlag r1 with
    | none => rw [h2] at he; cases he
    | some z =>
      obtain ⟨f, r2⟩ := z
      rw [h2] at he
      simp only [Option.bind_some] at he
      have c := pFlag_len h2
      have five' : ∀ h s k, k < 5 → (five (mkEnt ts h s) k).size ≤ l.length := by
        intro h s k hk
        have : k = 0 ∨ k = 1 ∨ k = 2 ∨ k = 3 ∨ k = 4 := by omega
        rcases this with rfl | rfl | rfl | rfl | rfl <;> exact getD_size b _
      split at he
      · cases h3 : pNum r2 with
        | none => rw [h3] at he; cases he
        | some q =>
          obtain ⟨lo, r3⟩ := q
          rw [h3] at he
          simp only [Option.bind_some] at he
          have d := pNum_len h3
          cases h4 : pNum r3 with
          | none => rw [h4] at he; cases he
          | some q =>
            obtain ⟨hi, r4⟩ := q
            rw [h4] at he
            simp only [Option.bind_some] at he
            have e := pNum_len h4
            split at he
            · cases he
              exact ⟨by omega, five' _ _⟩
            · cases he
      · cases he
        exact ⟨by omega, five' _ _⟩
theorem pRep_len {α : Type} {p : Par α} {P : α → Nat → Prop} (hm : ∀ a n m, n ≤ m → P a n → P a m) (hp : ∀ l x r, p l = some (x, r) → r.length ≤ l.length ∧ P x l.length) (k : Nat) :
    ∀ {l : List UInt8} {xs : List α} {r : List UInt8}, pRep p k l = some (xs, r) → xs.length = k ∧ r.length ≤ l.length ∧ ∀ x ∈ xs, P x l.length := by
  induction k with
  | zero => intro l xs r h; cases h; simp
  | succ k ih =>
    intro l xs r h
    unfold pRep at h
    cases h1 : pRep p k l with
    | none => rw [h1] at h; cases h
    | some x =>
      obtain ⟨ts1, r1⟩ := x
      rw [h1] at h
      simp only [Option.bind_some] at h
      cases h2 : p r1 with
      | none => rw [h2] at h; cases h
      | some y =>
        obtain ⟨t, r2⟩ := y
        rw [h2] at h
        cases h
        obtain ⟨a0, a, b⟩ := ih h1
        obtain ⟨c, d⟩ := hp _ _ _ h2
        refine ⟨by simp [a0], by dsimp only; omega, ?_⟩
        intro s hs
        rcases List.mem_append.1 hs with hs | hs
        · exact b s hs
        · simp at hs; subst hs; exact hm _ _ _ a d

/-- What May asks of a record that was read. -/
structure RcdOk (r : Rcd) : Prop where
  na : r.entries.length ≤ 1000000000
  nk : r.kept.length ≤ 1000000000
  sa : Small r.entries
  sk : Small (r.kept.map (·.e))
  su : r.url.size ≤ 1000000000
  si : r.id.size ≤ 1000000000
theorem rcdOk_of {r : Rcd} (h : r.entries = [] ∧ r.kept = [] ∧ r.url.size ≤ 1000000000 ∧ r.id.size ≤ 1000000000) : RcdOk r := by
  obtain ⟨h1, h2, h3, h4⟩ := h
  exact ⟨by rw [h1]; simp, by rw [h2]; simp, by rw [h1]; intro j hj; simp at hj, by rw [h2]; intro j hj; simp at hj, h3, h4⟩
theorem small_of {l : List Ent} (h : ∀ x ∈ l, ∀ k, k < 5 → (five x k).size ≤ 1000000000) : Small l := fun j hj k hk => h _ (List.getElem_mem hj) k hk
theorem pKpt_len {l : List UInt8} {x : Kpt} {r : List UInt8} (h : pKpt l = some (x, r)) : r.length ≤ l.length ∧ ∀ k, k < 5 → (five x.e k).size ≤ l.length := by
  unfold pKpt at h
  cases h1 : pEntry l with
  | none => rw [h1] at h; cases h
  | some y =>
    obtain ⟨e, r1⟩ := y
    rw [h1] at h
    simp only [Option.bind_some] at h
    obtain ⟨a, b⟩ := pEntry_len h1
    cases h2 : pFlag r1 with
    | none => rw [h2] at h; cases h
    | some z =>
      obtain ⟨f, r2⟩ := z
      rw [h2] at h
      simp only [Option.bind_some] at h
      cases h
      have c := pFlag_len h2
      exact ⟨by omega, b⟩
theorem zero_size : (⟨#[]⟩ : ByteArray).size = 0 := rfl
theorem pRcd_ok {l : List UInt8} {r : Rcd} {rest : List UInt8} (h : pRcd l = some (r, rest)) (hl : l.length ≤ 1000000000) : RcdOk r := by
  cases l with
  | nil => cases h
  | cons c l =>
    simp only [List.length_cons] at hl
    have h' : pBody c.toNat l = some (r, rest) := h
    unfold pBody at h'
    split at h'
    · cases h1 : pNum l with
      | none => rw [h1] at h'; cases h'
      | some x =>
        rw [h1] at h'
        cases h'
        exact rcdOk_of ⟨rfl, rfl, by simp [rec0, zero_size], by simp [rec0, zero_size]⟩
    · split at h'
      · cases h1 : pText l with
        | none => rw [h1] at h'; cases h'
        | some x =>
          obtain ⟨u, r1⟩ := x
          rw [h1] at h'
          cases h'
          have := pText_len h1
          exact rcdOk_of ⟨rfl, rfl, by simp [rec1]; omega, by simp [rec1, zero_size]⟩
      · split at h'
        · cases h1 : pText l with
          | none => rw [h1] at h'; cases h'
          | some x =>
            obtain ⟨u, r1⟩ := x
            rw [h1] at h'
            simp only [Option.bind_some] at h'
            have hu := pText_len h1
            cases h2 : pMany 16 r1 with
            | none => rw [h2] at h'; cases h'
            | some y =>
              obtain ⟨n, r2⟩ := y
              rw [h2] at h'
              simp only [Option.bind_some] at h'
              have hn := pMany_len h2
              have hn2 := pMany_le h2
              cases h3 : pRep pEntry n r2 with
              | none => rw [h3] at h'; cases h'
              | some z =>
                obtain ⟨es, r3⟩ := z
                rw [h3] at h'
                cases h'
                obtain ⟨a, b, c⟩ := pRep_len (P := fun (x : Ent) n => ∀ k, k < 5 → (five x k).size ≤ n) (fun a n m hnm h k hk => Nat.le_trans (h k hk) hnm) (fun l x r h => pEntry_len h) n h3
                exact ⟨by simp [rec3]; omega, by simp [rec3], small_of fun x hx k hk => Nat.le_trans (c x hx k hk) (by omega), by intro j hj; simp [rec3] at hj, by simp [rec3]; omega, by simp [rec3, zero_size]⟩
        · split at h'
          · cases h1 : pText l with
            | none => rw [h1] at h'; cases h'
            | some x =>
              obtain ⟨u, r1⟩ := x
              rw [h1] at h'
              simp only [Option.bind_some] at h'
              have hu := pText_len h1
              cases h2 : pText r1 with
              | none => rw [h2] at h'; cases h'
              | some y =>
                obtain ⟨i, r2⟩ := y
                rw [h2] at h'
                simp only [Option.bind_some] at h'
                have hi := pText_len h2
                cases h3 : pFlag r2 with
                | none => rw [h3] at h'; cases h'
                | some z =>
                  rw [h3] at h'
                  cases h'
                  exact rcdOk_of ⟨rfl, rfl, by simp [rec4]; omega, by simp [rec4]; omega⟩
          · split at h'
            · cases h1 : pText l with
              | none => rw [h1] at h'; cases h'
              | some x =>
                obtain ⟨u, r1⟩ := x
                rw [h1] at h'
                simp only [Option.bind_some] at h'
                have hu := pText_len h1
                cases h2 : pMany 32 r1 with
                | none => rw [h2] at h'; cases h'
                | some y =>
                  obtain ⟨n, r2⟩ := y
                  rw [h2] at h'
                  simp only [Option.bind_some] at h'
                  have hn := pMany_len h2
                  have hn2 := pMany_le h2
                  cases h3 : pRep pKpt n r2 with
                  | none => rw [h3] at h'; cases h'
                  | some z =>
                    obtain ⟨es, r3⟩ := z
                    rw [h3] at h'
                    cases h'
                    obtain ⟨a, b, c⟩ := pRep_len (P := fun (x : Kpt) n => ∀ k, k < 5 → (five x.e k).size ≤ n) (fun a n m hnm h k hk => Nat.le_trans (h k hk) hnm) (fun l x r h => pKpt_len h) n h3
                    refine ⟨by simp [rec5], by simp [rec5]; omega, by intro j hj; simp [rec5] at hj, small_of fun x hx k hk => ?_, by simp [rec5, zero_size], by simp [rec5, zero_size]⟩
                    obtain ⟨y, hy, rfl⟩ := List.mem_map.1 hx
                    exact Nat.le_trans (c y hy k hk) (by omega)
            · split at h'
              · cases h'
                exact rcdOk_of ⟨rfl, rfl, by simp [rec1, zero_size], by simp [rec1, zero_size]⟩
              · cases h'
end Go.Proofs.Ytlkkmgimjjnhjaa
namespace Go.Proofs.Ytlkkmgimjjnhjaa
open Go.RowKit Rec

namespace Rec
/-- What bytes are read as: a record, or nothing. -/
def readOut (b : ByteArray) : Option Rcd := (pRcd b.data.toList).bind fun (r, rest) => if rest = [] ∧ b.size ≤ 65536 ∧ mayAll r = true then some r else none
def recOf (o : Option Rcd) : Rcd := o.getD zeroRcd
def codeR (o : Option Rcd) : Int := if o.isSome then 0 else 70
end Rec
/-- What Read leaves. -/
def ReadR (w : World) (o : Option Rcd) (e : Ending) (w' : World) : Prop :=
  ∃ (A : Option Addr) (c : Nat) (A' : Option Addr) (c' : Nat), e = .returned (.tuple #[.agg (rcdCells (recOf o) A c A' c'), .int .i64 (codeR o)]) ∧ Below w.heap.size w w' ∧
    Reads w' w'.heap.size 7 A (recOf o).entries.length (ents (recOf o).entries) ∧ Reads w' w'.heap.size 8 A' (recOf o).kept.length (kpts (recOf o).kept) ∧ Above w.heap.size A ∧ Above w.heap.size A' ∧ Typed w' A 47 ∧ Typed w' A' 64
theorem ReadR.none_ {w w' : World} {e : Ending} (he : e = .returned (.tuple #[.agg (rcdCells zeroRcd none 0 none 0), .int .i64 70])) (hb : Below w.heap.size w w') : ReadR w none e w' :=
  ⟨none, 0, none, 0, he, hb, Reads.none_, Reads.none_, above_none _, above_none _, typed_none _ _, typed_none _ _⟩

theorem Above.more {B B' : Nat} {A : Option Addr} (h : Above B A) (hB : B' ≤ B) : Above B' A := fun a ha => Nat.le_trans hB (h a ha)
theorem Reads.set8 {w : World} {B size n X : Nat} {A : Option Addr} {xs : List Value} (h : Reads w B size A n xs) (ha : Above (X + 1) A) (v0 v1 v2 v3 v4 v5 v6 v7 : Value) : Reads (set8 w X v0 v1 v2 v3 v4 v5 v6 v7) B size A n xs :=
  ⟨h.1, fun hn => by
    obtain ⟨b, off, e, hb, hc⟩ := h.2 hn
    have hx := ha _ e
    exact ⟨b, off, e, hb, fun j u hu => (World.cell?_of_block (a := ⟨b, off + j, none⟩) (set8_heap w X b (by dsimp only at hx; omega) v0 v1 v2 v3 v4 v5 v6 v7)).trans (hc j u hu)⟩⟩
theorem below_set8 {B X : Nat} {w w1 : World} (h : Below B w w1) (hX : B ≤ X) (v0 v1 v2 v3 v4 v5 v6 v7 : Value) : Below B w (set8 w1 X v0 v1 v2 v3 v4 v5 v6 v7) :=
  (((((((h.setCell (p := ⟨X, 0, none⟩) hX v0).setCell (p := ⟨X, 1, none⟩) hX v1).setCell (p := ⟨X, 2, none⟩) hX v2).setCell (p := ⟨X, 3, none⟩) hX v3).setCell (p := ⟨X, 4, none⟩) hX v4).setCell (p := ⟨X, 5, none⟩) hX v5).setCell (p := ⟨X, 6, none⟩) hX v6).setCell (p := ⟨X, 7, none⟩) hX v7
theorem read2_ret {Q : Ending → World → Prop} {a : Act} {W : World} {X : Nat} {k g : Int} {u i s : ByteArray} {b : Bool} {e q v : Value} (ha : a.tmps.getD 2 undef = .pointer (some ⟨X, 0, none⟩)) (hv : a.tmps.getD 3 undef = v) (hd : a.defers = []) (hK : Blk W X 28 (rbox k g u i b e s q))
    (hQ : Q (.returned (.tuple #[.agg (rbox k g u i b e s q), v])) W) : bodyPost Try.prog Try.f21 Q .ret a W := by
  have p0 : W.cell? ⟨X, 0, none⟩ = some (.int .i8 k) := hK.cell 0
  have p1 : W.cell? ⟨X, 1, none⟩ = some (.int .i64 g) := hK.cell 1
  have p2 : W.cell? ⟨X, 2, none⟩ = some (.string u) := hK.cell 2
  have p3 : W.cell? ⟨X, 3, none⟩ = some (.string i) := hK.cell 3
  have p4 : W.cell? ⟨X, 4, none⟩ = some (.bool b) := hK.cell 4
  have p5 : W.cell? ⟨X, 5, none⟩ = some (e) := hK.cell 5
  have p6 : W.cell? ⟨X, 6, none⟩ = some (.string s) := hK.cell 6
  have p7 : W.cell? ⟨X, 7, none⟩ = some (q) := hK.cell 7
  refine bodyPost_ret (v := .tuple #[.agg (rbox k g u i b e s q), v]) ?_ hd hQ
  obtain ⟨tm, df⟩ := a
  dsimp only at ha hv ⊢
  have ha' : tm[2]?.getD undef = .pointer (some ⟨X, 0, none⟩) := by simpa using ha
  have hv' : tm[3]?.getD undef = v := by simpa using hv
  simp [results, Try.results21, go_sem, p0, p1, p2, p3, p4, p5, p6, p7, rbox, ha', hv']
theorem read2_retq {Q : Ending → World → Prop} {a : Act} {W : World} {X : Nat} {k g : Int} {u i s : ByteArray} {b : Bool} {e q v : Value} (ha : a.tmps.getD 2 undef = .pointer (some ⟨X, 0, none⟩)) (hv : a.tmps.getD 3 undef = v) (hd : a.defers = []) (hK : Blk W X 28 (rbox k g u i b e s q))
    (hQ : Q (.returned (.tuple #[.agg (rbox k g u i b e s q), v])) W) : bodyPost Try.prog Try.f22 Q .ret a W := by
  have p0 : W.cell? ⟨X, 0, none⟩ = some (.int .i8 k) := hK.cell 0
  have p1 : W.cell? ⟨X, 1, none⟩ = some (.int .i64 g) := hK.cell 1
  have p2 : W.cell? ⟨X, 2, none⟩ = some (.string u) := hK.cell 2
  have p3 : W.cell? ⟨X, 3, none⟩ = some (.string i) := hK.cell 3
  have p4 : W.cell? ⟨X, 4, none⟩ = some (.bool b) := hK.cell 4
  have p5 : W.cell? ⟨X, 5, none⟩ = some (e) := hK.cell 5
  have p6 : W.cell? ⟨X, 6, none⟩ = some (.string s) := hK.cell 6
  have p7 : W.cell? ⟨X, 7, none⟩ = some (q) := hK.cell 7
  refine bodyPost_ret (v := .tuple #[.agg (rbox k g u i b e s q), v]) ?_ hd hQ
  obtain ⟨tm, df⟩ := a
  dsimp only at ha hv ⊢
  have ha' : tm[2]?.getD undef = .pointer (some ⟨X, 0, none⟩) := by simpa using ha
  have hv' : tm[3]?.getD undef = v := by simpa using hv
  simp [results, Try.results22, go_sem, p0, p1, p2, p3, p4, p5, p6, p7, rbox, ha', hv']

set_option maxHeartbeats 2000000 in
theorem read_bad (b : ByteArray) (w : World) (hp : pRcd b.data.toList = none) :
    Calls Try.prog 21 #[.string b] w (ReadR w none) := by
  have HQ := hide fun (W : World) (R : Nat) (hR : Rl W R b.data.toList false) => read_any W R b.data.toList hR
  unfold ReadQ at HQ
  rw [hp] at HQ
  have Hp := hide hp
  clear hp
  go_enter Try.func21, Try.ntmps21
  go_wp2_with fail
  have hR0 := Blk.new (w.alloc (.cells (rbox 0 0 ⟨#[]⟩ ⟨#[]⟩ false (.slice none 0 0) ⟨#[]⟩ (.slice none 0 0)) 28)) 67 #[.string b, .bool false]
  rw [World.size_alloc] at hR0
  have hX0 := (Blk.new w 28 (rbox 0 0 ⟨#[]⟩ ⟨#[]⟩ false (.slice none 0 0) ⟨#[]⟩ (.slice none 0 0))).alloc (.cells #[.string b, .bool false] 67)
  have hB0 := (Below.refl w.heap.size w).alloc (Nat.le_refl _) (.cells (rbox 0 0 ⟨#[]⟩ ⟨#[]⟩ false (.slice none 0 0) ⟨#[]⟩ (.slice none 0 0)) 28) |>.alloc (by simp) (.cells #[.string b, .bool false] 67)
  refine (HQ.out _ (w.heap.size + 1) (by unfold Rl; rw [bstr_toList]; exact hR0)).mono ?_
  rintro e w1 ⟨r, A, c, A', c', rfl, hb, hs, ha, hk, hva, hvk, hta, htk⟩
  unfold rcdCells
  have K := hide (show Blk w1 w.heap.size 28 (rbox 0 0 ⟨#[]⟩ ⟨#[]⟩ false (.slice none 0 0) ⟨#[]⟩ (.slice none 0 0)) from hb.blk hX0 (by omega))
  have B := hide (hB0.trans (hb.below (B := w.heap.size) (by omega) (by simp; omega)))
  have x0 : w1.cell? ⟨w.heap.size, 0, none⟩ = some (.int .i8 0) := K.out.cell 0
  have x1 : w1.cell? ⟨w.heap.size, 1, none⟩ = some (.int .i64 0) := K.out.cell 1
  have x2 : w1.cell? ⟨w.heap.size, 2, none⟩ = some (.string ⟨#[]⟩) := K.out.cell 2
  have x3 : w1.cell? ⟨w.heap.size, 3, none⟩ = some (.string ⟨#[]⟩) := K.out.cell 3
  have x4 : w1.cell? ⟨w.heap.size, 4, none⟩ = some (.bool false) := K.out.cell 4
  have x5 : w1.cell? ⟨w.heap.size, 5, none⟩ = some (.slice none 0 0) := K.out.cell 5
  have x6 : w1.cell? ⟨w.heap.size, 6, none⟩ = some (.string ⟨#[]⟩) := K.out.cell 6
  have x7 : w1.cell? ⟨w.heap.size, 7, none⟩ = some (.slice none 0 0) := K.out.cell 7
  have f0 := K.out.frozen 0
  have f1 := K.out.frozen 1
  have f2 := K.out.frozen 2
  have f3 := K.out.frozen 3
  have f4 := K.out.frozen 4
  have f5 := K.out.frozen 5
  have f6 := K.out.frozen 6
  have f7 := K.out.frozen 7
  have hXY := hide (show w.heap.size < w1.heap.size from K.out.lt)
  have hxy := Nat.ne_of_lt hXY.out
  have hlt0 := hXY.out
  obtain ⟨l', hl⟩ : ∃ l', Rl w1 (w.heap.size + 1) l' true := hs
  have hlt : w.heap.size + 1 < w1.heap.size := Blk.lt hl
  have d1 : w1.cell? ⟨w.heap.size + 1, 1, none⟩ = some (.bool true) := hl.cell 1
  have Hva := hide (hva.more (B' := w.heap.size + 1) (by simp))
  have Hvk := hide (hvk.more (B' := w.heap.size + 1) (by simp))
  have Hta := hide hta
  have Htk := hide htk
  clear hb ha hk hl hR0 hX0 hB0 hva hvk hta htk
  go_wp2
  have hKz := (set8_blk (k' := 0) (g' := 0) (u' := ⟨#[]⟩) (i' := ⟨#[]⟩) (s' := ⟨#[]⟩) (b' := false) (e' := .slice none 0 0) (q' := .slice none 0 0) K.out).alloc (.cells #[.int .i8 r.kind, .int .i64 r.gen, .string r.url, .string r.id, .bool r.read, .slice A r.entries.length c, .string r.surl, .slice A' r.kept.length c'] 28)
  refine read2_ret rfl rfl rfl hKz ?_
  exact ReadR.none_ rfl ((below_set8 B.out (Nat.le_refl _) _ _ _ _ _ _ _ _).alloc (by rw [set8_size]; exact Nat.le_of_lt hXY.out) _)
set_option maxHeartbeats 2000000 in
theorem read_good (b : ByteArray) (w : World) (r0 : Rcd) (rest : List UInt8) (hp : pRcd b.data.toList = some (r0, rest)) (hbs : b.size ≤ 1000000000) :
    Calls Try.prog 21 #[.string b] w (ReadR w (readOut b)) := by
  have HQ := hide fun (W : World) (R : Nat) (hR : Rl W R b.data.toList false) => read_any W R b.data.toList hR
  unfold ReadQ at HQ
  rw [hp] at HQ
  have Hp := hide hp
  have Hok := hide (pRcd_ok hp (by simpa using hbs))
  have hout : readOut b = if rest = [] ∧ b.size ≤ 65536 ∧ mayAll r0 = true then some r0 else none := by unfold readOut; rw [hp]; rfl
  obtain ⟨oo, hoo⟩ : ∃ oo, readOut b = oo := ⟨_, rfl⟩
  rw [hoo] at hout ⊢
  have Hout := hide hout
  clear hp hout hoo
  go_enter Try.func21, Try.ntmps21
  go_wp2_with fail
  have hR0 := Blk.new (w.alloc (.cells (rbox 0 0 ⟨#[]⟩ ⟨#[]⟩ false (.slice none 0 0) ⟨#[]⟩ (.slice none 0 0)) 28)) 67 #[.string b, .bool false]
  rw [World.size_alloc] at hR0
  have hX0 := (Blk.new w 28 (rbox 0 0 ⟨#[]⟩ ⟨#[]⟩ false (.slice none 0 0) ⟨#[]⟩ (.slice none 0 0))).alloc (.cells #[.string b, .bool false] 67)
  have hB0 := (Below.refl w.heap.size w).alloc (Nat.le_refl _) (.cells (rbox 0 0 ⟨#[]⟩ ⟨#[]⟩ false (.slice none 0 0) ⟨#[]⟩ (.slice none 0 0)) 28) |>.alloc (by simp) (.cells #[.string b, .bool false] 67)
  refine (HQ.out _ (w.heap.size + 1) (by unfold Rl; rw [bstr_toList]; exact hR0)).mono ?_
  rintro e w1 ⟨r, A, c, A', c', rfl, hb, hs, ha, hk, hva, hvk, hta, htk⟩
  unfold rcdCells
  have K := hide (show Blk w1 w.heap.size 28 (rbox 0 0 ⟨#[]⟩ ⟨#[]⟩ false (.slice none 0 0) ⟨#[]⟩ (.slice none 0 0)) from hb.blk hX0 (by omega))
  have B := hide (hB0.trans (hb.below (B := w.heap.size) (by omega) (by simp; omega)))
  have x0 : w1.cell? ⟨w.heap.size, 0, none⟩ = some (.int .i8 0) := K.out.cell 0
  have x1 : w1.cell? ⟨w.heap.size, 1, none⟩ = some (.int .i64 0) := K.out.cell 1
  have x2 : w1.cell? ⟨w.heap.size, 2, none⟩ = some (.string ⟨#[]⟩) := K.out.cell 2
  have x3 : w1.cell? ⟨w.heap.size, 3, none⟩ = some (.string ⟨#[]⟩) := K.out.cell 3
  have x4 : w1.cell? ⟨w.heap.size, 4, none⟩ = some (.bool false) := K.out.cell 4
  have x5 : w1.cell? ⟨w.heap.size, 5, none⟩ = some (.slice none 0 0) := K.out.cell 5
  have x6 : w1.cell? ⟨w.heap.size, 6, none⟩ = some (.string ⟨#[]⟩) := K.out.cell 6
  have x7 : w1.cell? ⟨w.heap.size, 7, none⟩ = some (.slice none 0 0) := K.out.cell 7
  have f0 := K.out.frozen 0
  have f1 := K.out.frozen 1
  have f2 := K.out.frozen 2
  have f3 := K.out.frozen 3
  have f4 := K.out.frozen 4
  have f5 := K.out.frozen 5
  have f6 := K.out.frozen 6
  have f7 := K.out.frozen 7
  have hXY := hide (show w.heap.size < w1.heap.size from K.out.lt)
  have hxy := Nat.ne_of_lt hXY.out
  have hlt0 := hXY.out
  obtain ⟨hl, hrr⟩ : Rl w1 (w.heap.size + 1) rest false ∧ r0 = r := hs
  have hrr' := hrr.symm
  subst hrr'
  clear hrr
  have d0 : w1.cell? ⟨w.heap.size + 1, 0, none⟩ = some (.string (bstr rest)) := hl.cell 0
  have hlt : w.heap.size + 1 < w1.heap.size := Blk.lt hl
  have d1 : w1.cell? ⟨w.heap.size + 1, 1, none⟩ = some (.bool false) := hl.cell 1
  have Ha := hide ha
  have Hk := hide hk
  have hq : ((bstr rest).toList == []) = decide (rest = []) := by
    rw [ByteArray.toList_eq]
    rw [Bool.eq_iff_iff]
    simp [bstr]
  have Hva := hide (hva.more (B' := w.heap.size + 1) (by simp))
  have Hvk := hide (hvk.more (B' := w.heap.size + 1) (by simp))
  have Hta := hide hta
  have Htk := hide htk
  clear hb ha hk hl hR0 hX0 hB0 hva hvk hta htk
  by_cases hr : rest = []
  · have hq2 : (bstr rest).toList = [] := by rw [hr, ByteArray.toList_eq]; rfl
    have Hr := hide hr
    clear hr hq
    generalize bstr rest = t at *
    by_cases h64 : b.size ≤ 65536
    · have hd : decide ((65536 : Int) < b.size) = false := by simp; omega
      have H64 := hide h64
      clear h64 hbs
      have HM := hide fun (W : World) (hW : Below w1.heap.size w1 W) => mayP_any r A A' c c' W ⟨Ha.out.later hW, Hk.out.later hW, Hok.out.na, Hok.out.nk, Hok.out.sa, Hok.out.sk, Hok.out.su, Hok.out.si⟩
      unfold rcdCells at HM
      obtain ⟨m, hm⟩ : ∃ m, mayAll r = m := ⟨_, rfl⟩
      rw [hm] at HM
      have Hm := hide hm
      clear hm
      go_wp2_with fail
      refine (HM.out _ (below_alloc _ _)).mono ?_
      rintro e w2 ⟨rfl, hb2⟩
      have Y := hide (Blk.new w1 28 (rbox r.kind r.gen r.url r.id r.read (.slice A r.entries.length c) r.surl (.slice A' r.kept.length c')))
      have Hb2 := hide ((below_alloc w1 (.cells #[.int .i8 r.kind, .int .i64 r.gen, .string r.url, .string r.id, .bool r.read, .slice A r.entries.length c, .string r.surl, .slice A' r.kept.length c'] 28)).trans (hb2.mono (by simp)))
      replace Y := hide (show Blk w2 w1.heap.size 28 (rbox r.kind r.gen r.url r.id r.read (.slice A r.entries.length c) r.surl (.slice A' r.kept.length c')) from Y.out.below hb2 (by simp))
      have K2 := hide (K.out.below Hb2.out hXY.out)
      have B2 := hide (B.out.trans (Hb2.out.mono (Nat.le_of_lt hXY.out)))
      clear hb2 x0 x1 x2 x3 x4 x5 x6 x7 f0 f1 f2 f3 f4 f5 f6 f7 d0 d1
      have x0 : w2.cell? ⟨w.heap.size, 0, none⟩ = some (.int .i8 0) := K2.out.cell 0
      have x1 : w2.cell? ⟨w.heap.size, 1, none⟩ = some (.int .i64 0) := K2.out.cell 1
      have x2 : w2.cell? ⟨w.heap.size, 2, none⟩ = some (.string ⟨#[]⟩) := K2.out.cell 2
      have x3 : w2.cell? ⟨w.heap.size, 3, none⟩ = some (.string ⟨#[]⟩) := K2.out.cell 3
      have x4 : w2.cell? ⟨w.heap.size, 4, none⟩ = some (.bool false) := K2.out.cell 4
      have x5 : w2.cell? ⟨w.heap.size, 5, none⟩ = some (.slice none 0 0) := K2.out.cell 5
      have x6 : w2.cell? ⟨w.heap.size, 6, none⟩ = some (.string ⟨#[]⟩) := K2.out.cell 6
      have x7 : w2.cell? ⟨w.heap.size, 7, none⟩ = some (.slice none 0 0) := K2.out.cell 7
      have f0 := K2.out.frozen 0
      have f1 := K2.out.frozen 1
      have f2 := K2.out.frozen 2
      have f3 := K2.out.frozen 3
      have f4 := K2.out.frozen 4
      have f5 := K2.out.frozen 5
      have f6 := K2.out.frozen 6
      have f7 := K2.out.frozen 7
      have y0 : w2.cell? ⟨w1.heap.size, 0, none⟩ = some (.int .i8 r.kind) := Y.out.cell 0
      have y1 : w2.cell? ⟨w1.heap.size, 1, none⟩ = some (.int .i64 r.gen) := Y.out.cell 1
      have y2 : w2.cell? ⟨w1.heap.size, 2, none⟩ = some (.string r.url) := Y.out.cell 2
      have y3 : w2.cell? ⟨w1.heap.size, 3, none⟩ = some (.string r.id) := Y.out.cell 3
      have y4 : w2.cell? ⟨w1.heap.size, 4, none⟩ = some (.bool r.read) := Y.out.cell 4
      have y5 : w2.cell? ⟨w1.heap.size, 5, none⟩ = some (.slice A r.entries.length c) := Y.out.cell 5
      have y6 : w2.cell? ⟨w1.heap.size, 6, none⟩ = some (.string r.surl) := Y.out.cell 6
      have y7 : w2.cell? ⟨w1.heap.size, 7, none⟩ = some (.slice A' r.kept.length c') := Y.out.cell 7
      cases m
      · go_wp2
        have hKz := set8_blk (k' := 0) (g' := 0) (u' := ⟨#[]⟩) (i' := ⟨#[]⟩) (s' := ⟨#[]⟩) (b' := false) (e' := .slice none 0 0) (q' := .slice none 0 0) K2.out
        refine read2_ret rfl rfl rfl hKz ?_
        have hn : oo = none := Hout.out.trans (if_neg (fun h => by have h1 := h.2.2; rw [Hm.out] at h1; cases h1))
        subst hn
        exact ReadR.none_ rfl (below_set8 B2.out (Nat.le_refl _) _ _ _ _ _ _ _ _)
      · go_wp2
        have hKz := set8_blk (k' := r.kind) (g' := r.gen) (u' := r.url) (i' := r.id) (s' := r.surl) (b' := r.read) (e' := .slice A r.entries.length c) (q' := .slice A' r.kept.length c') K2.out
        refine read2_ret rfl rfl rfl hKz ?_
        have hn : oo = some r := Hout.out.trans (if_pos ⟨Hr.out, H64.out, Hm.out⟩)
        subst hn
        refine ⟨A, c, A', c', rfl, below_set8 B2.out (Nat.le_refl _) _ _ _ _ _ _ _ _, ?_, ?_, Hva.out.more (by omega), Hvk.out.more (by omega), (Hta.out.below Hb2.out).set8 w.heap.size _ _ _ _ _ _ _ _, (Htk.out.below Hb2.out).set8 w.heap.size _ _ _ _ _ _ _ _⟩
        · exact (((Ha.out.below Hb2.out).more Hb2.out.size).set8 Hva.out _ _ _ _ _ _ _ _).more (Nat.le_of_eq (set8_size w2 w.heap.size _ _ _ _ _ _ _ _).symm)
        · exact (((Hk.out.below Hb2.out).more Hb2.out.size).set8 Hvk.out _ _ _ _ _ _ _ _).more (Nat.le_of_eq (set8_size w2 w.heap.size _ _ _ _ _ _ _ _).symm)
    · have hd : decide ((65536 : Int) < b.size) = true := by simp; omega
      have H64 := hide h64
      clear h64 hbs
      go_wp2
      have hn : oo = none := Hout.out.trans (if_neg (by exact fun h => H64.out h.2.1))
      subst hn
      have hKz := (set8_blk (k' := 0) (g' := 0) (u' := ⟨#[]⟩) (i' := ⟨#[]⟩) (s' := ⟨#[]⟩) (b' := false) (e' := .slice none 0 0) (q' := .slice none 0 0) K.out).alloc (.cells #[.int .i8 r.kind, .int .i64 r.gen, .string r.url, .string r.id, .bool r.read, .slice A r.entries.length c, .string r.surl, .slice A' r.kept.length c'] 28)
      refine read2_ret rfl rfl rfl hKz ?_
      exact ReadR.none_ rfl ((below_set8 B.out (Nat.le_refl _) _ _ _ _ _ _ _ _).alloc (by rw [set8_size]; exact Nat.le_of_lt hXY.out) _)

  · have hq3 : ((bstr rest).toList == []) = false := by rw [hq]; simpa using hr
    have hq4 : ((bstr rest).toList = []) = False := by simpa using hq3
    have Hr := hide hr
    clear hr hq
    generalize bstr rest = t at *
    go_wp2
    have hn : oo = none := Hout.out.trans (if_neg (by exact fun h => Hr.out h.1))
    subst hn
    have hKz := (set8_blk (k' := 0) (g' := 0) (u' := ⟨#[]⟩) (i' := ⟨#[]⟩) (s' := ⟨#[]⟩) (b' := false) (e' := .slice none 0 0) (q' := .slice none 0 0) K.out).alloc (.cells #[.int .i8 r.kind, .int .i64 r.gen, .string r.url, .string r.id, .bool r.read, .slice A r.entries.length c, .string r.surl, .slice A' r.kept.length c'] 28)
    refine read2_ret rfl rfl rfl hKz ?_
    exact ReadR.none_ rfl ((below_set8 B.out (Nat.le_refl _) _ _ _ _ _ _ _ _).alloc (by rw [set8_size]; exact Nat.le_of_lt hXY.out) _)


theorem record_read (b : ByteArray) (w : World) (hbs : b.size ≤ 1000000000) : Calls Try.prog 21 #[.string b] w (ReadR w (readOut b)) := by
  cases h : pRcd b.data.toList with
  | none =>
    have : readOut b = none := by unfold readOut; rw [h]; rfl
    rw [this]
    exact read_bad b w h
  | some x => exact read_good b w x.1 x.2 h hbs
end Go.Proofs.Ytlkkmgimjjnhjaa
namespace Go.Proofs.Ytlkkmgimjjnhjaa
open Go.RowKit Rec

theorem StQ.map {α β : Type} {w : World} {R : Nat} {s : ByteArray} {o : Option (α × List UInt8)} {P : α → Prop} {o' : Option (β × List UInt8)} {Q : β → Prop} (h : StQ w R s o P) (hn : o = none → o' = none)
    (hs : ∀ a r, o = some (a, r) → P a → ∃ b, o' = some (b, r) ∧ Q b) : StQ w R s o' Q := by
  cases o with
  | none => rw [hn rfl]; exact h
  | some x =>
    obtain ⟨a, r⟩ := x
    obtain ⟨b, e, hq⟩ := hs a r rfl h.2
    rw [e]
    exact ⟨h.1, hq⟩
theorem StQ.rep0 {α β : Type} {w : World} {R : Nat} {s : ByteArray} {o : Option (α × List UInt8)} {P : α → Prop} {p : Par β} (h : StQ w R s o P) : StQ w R s (rep o p 0) (fun x => P x.1 ∧ x.2 = []) :=
  h.map (fun e => by rw [e]; rfl) fun a r e hP => ⟨(a, []), by rw [e]; rfl, hP, rfl⟩
theorem StQ.repS {α β : Type} {w : World} {R : Nat} {s : ByteArray} {o : Option (α × List UInt8)} {P : α → Prop} {p : Par β} {k : Nat} {L : List β} {b : β}
    (h : StQ w R s (also (rep o p k) p) (fun ab => (fun x : α × List β => P x.1 ∧ x.2 = L) ab.1 ∧ ab.2 = b)) : StQ w R s (rep o p (k + 1)) (fun x => P x.1 ∧ x.2 = L ++ [b]) := by
  refine h.map (fun e => ?_) fun a r e hP => ?_
  · unfold also at e
    show (rep o p k).bind _ = none
    cases h1 : rep o p k with
    | none => rfl
    | some x =>
      rw [h1] at e
      simp only [Option.bind_some] at e ⊢
      cases h2 : p x.2 with
      | none => rfl
      | some y => rw [h2] at e; cases e
  · unfold also at e
    cases h1 : rep o p k with
    | none => rw [h1] at e; cases e
    | some x =>
      rw [h1] at e
      simp only [Option.bind_some] at e
      cases h2 : p x.2 with
      | none => rw [h2] at e; cases e
      | some y =>
        rw [h2] at e
        cases e
        refine ⟨(x.1.1, x.1.2 ++ [y.1]), by show (rep o p k).bind _ = _; rw [h1]; simp [h2], hP.1.1, ?_⟩
        show x.1.2 ++ [y.1] = _
        rw [show x.1.2 = L from hP.1.2, show y.1 = b from hP.2]
theorem StQ.mapf {α β : Type} {w : World} {R : Nat} {s : ByteArray} {o : Option (α × List UInt8)} {P : α → Prop} {Q : β → Prop} (f : α → β) (h : StQ w R s o P) (hf : ∀ a, P a → Q (f a)) : StQ w R s (o.map fun x => (f x.1, x.2)) Q := by
  cases o with
  | none => exact h
  | some x => exact ⟨h.1, hf _ h.2⟩
theorem StQ.repK {α : Type} {w : World} {R : Nat} {s : ByteArray} {o : Option (α × List UInt8)} {P : α → Prop} {k : Nat} {L : List Kpt} {x : Ent} {b : Bool}
    (h : StQ w R s (also (also (rep o pKpt k) pEntry) pFlag) (fun ab => (fun aa : (α × List Kpt) × Ent => (fun y : α × List Kpt => P y.1 ∧ y.2 = L) aa.1 ∧ aa.2 = x) ab.1 ∧ ab.2 = b)) : StQ w R s (rep o pKpt (k + 1)) (fun y => P y.1 ∧ y.2 = L ++ [⟨x, b⟩]) := by
  refine StQ.repS (p := pKpt) (b := ⟨x, b⟩) (h.map (fun e => ?_) fun a r e hP => ⟨(a.1.1, ⟨a.1.2, a.2⟩), ?_, hP.1.1, by rw [hP.2, hP.1.2]⟩)
  · unfold also at e ⊢
    cases h1 : rep o pKpt k with
    | none => rfl
    | some y =>
      rw [h1] at e
      simp only [Option.bind_some, pKpt] at e ⊢
      cases h2 : pEntry y.2 with
      | none => rfl
      | some z =>
        rw [h2] at e
        simp only [Option.bind_some] at e ⊢
        cases h3 : pFlag z.2 with
        | none => rfl
        | some q => rw [h3] at e; cases e
  · unfold also at e ⊢
    cases h1 : rep o pKpt k with
    | none => rw [h1] at e; cases e
    | some y =>
      rw [h1] at e
      simp only [Option.bind_some, pKpt] at e ⊢
      cases h2 : pEntry y.2 with
      | none => rw [h2] at e; cases e
      | some z =>
        rw [h2] at e
        simp only [Option.bind_some] at e ⊢
        cases h3 : pFlag z.2 with
        | none => rw [h3] at e; cases e
        | some q => rw [h3] at e; cases e; rfl
theorem qentry_step' {α : Type} {R : Nat} {s : ByteArray} (hz : s.size ≤ 1000000000) (w : World) (o : Option (α × List UInt8)) (P : α → Prop) (h : StQ w R s o P) :
    Calls Try.prog 43 #[.pointer (some ⟨R, 0, none⟩)] w fun e w' => ∃ b : Ent, e = .returned (.agg #[.string b.id, .string b.title, .string b.link, .string b.author, .string b.content, .bool b.has, .int .i64 b.sec]) ∧ True ∧ But R w w' ∧ StQ w' R s (also o pEntry) (fun ab => P ab.1 ∧ ab.2 = b) := qentry_step hz w o P h
theorem rep_none {α β : Type} {o : Option (α × List UInt8)} {p : Par β} {k N : Nat} (h : rep o p k = none) (hk : k ≤ N) : rep o p N = none := by
  obtain ⟨d, rfl⟩ : ∃ d, N = k + d := ⟨N - k, by omega⟩
  induction d with
  | zero => exact h
  | succ d ih =>
    show (rep o p (k + d)).bind _ = none
    rw [ih (by omega)]
    rfl
theorem StQ.cell2 {α : Type} {w : World} {R : Nat} {s : ByteArray} {o : Option (α × List UInt8)} {P : α → Prop} (h : StQ w R s o P) : w.cell? ⟨R, 2, none⟩ = some (.bool o.isNone) := by
  obtain ⟨l, h⟩ := h.ql
  obtain ⟨_, q, _⟩ := h.bad?
  exact q
/-- What bytes are read as, by the parser's answer. -/
theorem readOut_of {b : ByteArray} {o : Option (Rcd × List UInt8)} (h : pRcd b.data.toList = o) (hs : b.size ≤ 65536) : readOut b = o.bind fun x => if x.2 = [] ∧ mayAll x.1 = true then some x.1 else none := by
  unfold readOut
  rw [h]
  cases o with
  | none => rfl
  | some x =>
    simp only [Option.bind_some]
    by_cases h1 : x.2 = [] <;> by_cases h2 : mayAll x.1 = true <;> simp [h1, h2, hs]
theorem rest_nil {b : ByteArray} {p : Nat} (hp : p ≤ b.size) : b.data.toList.drop p = [] ↔ p = b.size := by
  rw [List.drop_eq_nil_iff]
  simp
  omega
end Go.Proofs.Ytlkkmgimjjnhjaa
