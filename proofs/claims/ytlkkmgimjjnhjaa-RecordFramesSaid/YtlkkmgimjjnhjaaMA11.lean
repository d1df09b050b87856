/- The writer's fields. · The writer's texts, flags, entries. -/
import Derived.Test.YtlkkmgimjjnhjaaMA10
import Derived.Deep.RegionLaw
import Derived.Deep.AppendLies
import Derived.OneCell
set_option linter.unusedSimpArgs false
set_option linter.unusedVariables false
namespace Go.Proofs.Ytlkkmgimjjnhjaa
open Go.RowKit Rec
attribute [local go_sem ↓] Go.wp_at_zero Go.wp_at_succ

/-- What a call may have turned: of the blocks that were there, those from 'base' on that are rows of element type t, and the block b; nothing else. -/
structure Tur (base t b : Nat) (w w' : World) : Prop where
  os : w'.os = w.os
  tape : w'.tape = w.tape
  output : w'.output = w.output
  size : w.heap.size ≤ w'.heap.size
  block : ∀ k, k < w.heap.size → k ≠ b → ¬ (base ≤ k ∧ IsT w k t) → w'.heap[k]? = w.heap[k]?
section
variable {base t b : Nat} {w w1 w' : World}
theorem Tur.refl (base t b : Nat) (w : World) : Tur base t b w w := ⟨rfl, rfl, rfl, Nat.le_refl _, fun _ _ _ _ => rfl⟩
theorem Tur.trans (h : Tur base t b w w1) (k : Tur base t b w1 w') : Tur base t b w w' := by
  refine ⟨k.os.trans h.os, k.tape.trans h.tape, k.output.trans h.output, Nat.le_trans h.size k.size, fun i hi hb hn => ?_⟩
  have e := h.block i hi hb hn
  rw [k.block i (Nat.lt_of_lt_of_le hi h.size) hb ?_, e]
  rintro ⟨h1, cs, fr, h2⟩
  exact hn ⟨h1, cs, fr, by rw [← e]; exact h2⟩
theorem Tur.below {B : Nat} (h : Tur base t b w w') (hB : B ≤ base) (hb : B ≤ b) (hs : B ≤ w.heap.size) : Below B w w' :=
  ⟨h.os, h.tape, h.output, h.size, fun k hk => h.block k (by omega) (by omega) (fun hh => by omega)⟩
theorem Tur.blk {g t' : Nat} {cs : Array Value} (h : Tur base t b w w') (hg : Blk w g t' cs) (hb : g ≠ b) (ht : t' ≠ t) : Blk w' g t' cs := by
  refine (h.block g hg.lt hb ?_).trans hg
  rintro ⟨_, cs', fr, h2⟩
  unfold Blk at hg
  rw [hg] at h2
  injection h2 with h2
  injection h2 with _ h3
  exact ht h3
theorem Tur.of_below (h : Below w.heap.size w w') : Tur base t b w w' := ⟨h.os, h.tape, h.output, h.size, fun k hk _ _ => h.block k hk⟩
theorem Tur.alloc (h : Tur base t b w w1) (o : Obj) : Tur base t b w (w1.alloc o) := h.trans ⟨rfl, rfl, rfl, by simp, fun k hk _ _ => Below.heap_alloc _ _ _ hk⟩
theorem Tur.drew (h : Tur base t b w w1) : Tur base t b w w1.drew := ⟨h.os, h.tape, h.output, h.size, h.block⟩
theorem Tur.setCell (h : Tur base t b w w1) {p : Addr} (hp : p.block = b ∨ w.heap.size ≤ p.block) (u : Value) : Tur base t b w (w1.setCell p u) := by
  refine ⟨h.os, h.tape, h.output, by simpa [World.setCell] using h.size, fun k hk hb hn => ?_⟩
  rw [Below.heap_setCell _ _ _ _ (by omega)]
  exact h.block k hk hb hn
theorem Tur.grown (h : Tur base t b w w1) {row : Option Nat} (hg : w1.grownBy w' row) (hr : ∀ k, row = some k → base ≤ k ∧ IsT w1 k t) : Tur base t b w w' :=
  h.trans ⟨hg.os, hg.tape, hg.output, hg.size, fun k h1 _ hn => hg.block k h1 (fun e => hn (hr k e.symm))⟩
theorem Tur.reads {size n : Nat} {A : Option Addr} {xs : List Value} {B : Nat} (h : Tur base t b w w') (hr : Reads w B size A n xs) (hB : B ≤ base) (hb : B ≤ b) (hs : B ≤ w.heap.size) : Reads w' B size A n xs := hr.below (h.below hB hb hs)
end

/-- The writer at block B holds the bytes l, in a row of its own from 'base' on. -/
structure Wr (w : World) (base B : Nat) (l : List UInt8) (A : Option Addr) (c : Nat) : Prop where
  blk : Blk w B 56 #[.slice A l.length c]
  own : w.ownsRow base 5 1 (.slice A l.length c) l.length (byteVs l)
  base : base ≤ w.heap.size
  len : l.length ≤ 1000000000

theorem Wr.ne {w : World} {base B : Nat} {l : List UInt8} {A : Option Addr} {c : Nat} (h : Wr w base B l A c) : (Value.slice A l.length c).ownBlock ≠ some B := own_blk_ne h.own h.blk (by decide)

section
variable {P : Program} {ops : Array Oper} {o : Oper} {a : Act} {K : Act → World → Prop} {Q : Exit → Act → World → Prop} {E : Prop} {w : World}
theorem step_append_byte (hgd : o.guard = none) (s x : Operand) (t : TypeId) (ho : o.op = .call { callee := .builtin .append, args := #[s, x], argTypes := #[t, t] })
    (base B : Nat) (l : List UInt8) (A : Option Addr) (c : Nat) (hW : Wr w base B l A c) (ht : P.underlying t = some (.slice 5))
    (hinfo : (P.info? 5).map (fun i => (i.zero, i.size, i.bytes)) = some (some (.int .u8 0), 1, 1))
    (hs : a.eval s = .slice A l.length c) (r : Int) (hr : 0 ≤ r ∧ r < 256) (H : Nat) (hH : w.heap.size = H) (hx : a.eval x = .slice (some ⟨H, 0, none⟩) 1 1)
    (h : ∀ A' c' w', Blk w' B 56 #[.slice A l.length c] → w'.ownsRow base 5 1 (.slice A' (l.length + 1) c') (l.length + 1) (byteVs (l ++ [bv r])) → Tur base 5 B w w' →
      K (a.put o.dst (.slice A' (l.length + 1) c')) w') :
    if Region.wanted o (yielded ops a.tmps) = true then Oper.wp P o a (w.alloc (.cells #[.int .u8 r] 5)).drew K Q else E := by
  subst hH
  obtain ⟨i, hi, hz, hsize, hby⟩ := info_parts hinfo
  have hl := hW.len
  have hbb := hW.base
  have hb1 : byteVs [bv r] = [.int .u8 r] := byteVs_bv r hr.1 hr.2
  refine step_append_lies _ hgd s x t ho base 5 i (.int .u8 0) 1 1 ht hi hz hsize hby rfl (by omega) _ l.length (byteVs l) hs ((hW.own.alloc _).drew) ⟨w.heap.size, 0, none⟩ 1 1 (byteVs [bv r]) hx rfl ?_ (byteVs_one _) (by omega)
    (by unfold maxLen; omega) (by omega) (by simp [World.drew]; omega) _ rfl ?_
  · rw [hb1]
    intro j u hu
    exact World.news_of_block (Blk.new w 5 #[.int .u8 r]) j u (by simpa using hu)
  · intro g cap w' hown hgrow hg hlt
    have k1 : Blk (w.alloc (.cells #[.int .u8 r] 5)).drew B 56 #[.slice A l.length c] := (hW.blk.alloc _).drew
    have hne : some B ≠ (Value.slice A l.length c).ownBlock := fun e => hW.ne e.symm
    have t1 : Tur base 5 B w (w.alloc (.cells #[.int .u8 r] 5)).drew := ((Tur.refl base 5 B w).alloc _).drew
    rw [← byteVs_append] at hown
    refine h _ _ w' (k1.grown hgrow hne) hown (t1.grown hgrow (own_isT ((hW.own.alloc _).drew)))
end

theorem Wr.next {w w' : World} {base B n : Nat} {l l' : List UInt8} {A A' : Option Addr} {c c' : Nat} (hW : Wr w base B l A c) (hk : Blk w' B 56 #[.slice A l.length c]) (ho : w'.ownsRow base 5 1 (.slice A' n c') n (byteVs l')) (ht : Tur base 5 B w w') (hn : n = l'.length) (hl : l'.length ≤ 1000000000) :
    Wr (w'.setCell ⟨B, 0, none⟩ (.slice A' n c')) base B l' A' c' ∧ Tur base 5 B w (w'.setCell ⟨B, 0, none⟩ (.slice A' n c')) := by
  subst hn
  refine ⟨⟨?_, ?_, ?_, hl⟩, ht.setCell (.inl rfl) _⟩
  · have := hk.set_ 0 (.slice A' l'.length c')
    simpa using this
  · exact ownsRow_setCell_other ho (a := ⟨B, 0, none⟩) (own_blk_ne ho hk (by decide)) _
  · have := hW.base
    have := ht.size
    simp [World.setCell]
    omega

theorem shr_byte {P : Program} (n k : Nat) (hk : k < 4) (w : World) : (Op.shift .shr .i64 (n : Int) .i64 (IntKind.i64.wrap (8 * (k : Int)))).run P w = .ok (.int .i64 ((n / 256 ^ k : Nat) : Int)) w := by
  have hw : IntKind.i64.wrap (8 * (k : Int)) = 8 * (k : Int) := IntWalk.i64_in _ (by omega)
  rw [hw, shift_shr_any _ _ _ _ (by omega)]
  have h1 : min (8 * (k : Int)).toNat IntKind.i64.bits = 8 * k := by
    have : IntKind.i64.bits = 64 := rfl
    omega
  have h2 : (2 : Int) ^ (8 * k) = ((256 ^ k : Nat) : Int) := by
    have : k = 0 ∨ k = 1 ∨ k = 2 ∨ k = 3 := by omega
    rcases this with rfl | rfl | rfl | rfl <;> rfl
  rw [h1, h2]
  rfl
theorem wrap_u8 (m : Nat) : IntKind.u8.wrap (m : Int) = ((m % 256 : Nat) : Int) := by
  unfold IntKind.wrap
  have h1 : IntKind.u8.bits = 8 := rfl
  have h2 : IntKind.u8.signed = false := rfl
  rw [h1, h2]
  simp
theorem len_take (l : List UInt8) (n k : Nat) : (l ++ (num n).take k).length ≤ l.length + 4 := by
  have : (num (n : Int)).length = 4 := rfl
  simp
  omega
theorem num_take (n k : Nat) (hk : k < 4) : (num n).take (k + 1) = (num n).take k ++ [bv ((n / 256 ^ k % 256 : Nat) : Int)] := by
  have : k = 0 ∨ k = 1 ∨ k = 2 ∨ k = 3 := by omega
  rcases this with rfl | rfl | rfl | rfl <;> simp [num, bv]

set_option maxHeartbeats 1000000 in
theorem number_any (n : Nat) (w : World) (base B : Nat) (l : List UInt8) (A : Option Addr) (c : Nat) (hW : Wr w base B l A c) (hl : l.length ≤ 900000000) (hn : n < 1000000000000) :
    Calls Try.prog 56 #[.pointer (some ⟨B, 0, none⟩), .int .i64 n] w fun e w' => e = .returned (.tuple #[]) ∧ (∃ A' c', Wr w' base B (l ++ num n) A' c') ∧ Tur base 5 B w w' := by
  have HW := hide hW
  clear hW
  go_enter Try.func56, Try.ntmps56
  go_wp2
  go_loopg [5] 4 (fun g vi wr => ∃ k : Nat, g = 4 - k ∧ k ≤ 4 ∧ vi = .int .i64 k ∧ (∃ A' c', Wr wr base B (l ++ (num n).take k) A' c') ∧ Tur base 5 B w wr)
  case atStart => exact ⟨0, rfl, by omega, rfl, ⟨A, c, by simpa using HW.out⟩, Tur.refl _ _ _ _⟩
  case round =>
    obtain ⟨k, hg, hk, rfl, ⟨A', c', hW⟩, ht⟩ := hrel
    have Hg := hide hg
    have Ht := hide ht
    obtain ⟨L, hL⟩ : ∃ L, l ++ (num n).take k = L := ⟨_, rfl⟩
    rw [hL] at hW
    have HW' := hide hW
    have HL := hide hL
    have q0 : wr.cell? ⟨B, 0, none⟩ = some (.slice A' L.length c') := hW.blk.cell 0
    have qf := hW.blk.frozen 0
    clear hg ht hW hL
    by_cases hlt : k < 4
    · obtain ⟨m, hm⟩ : ∃ m, n / 256 ^ k = m := ⟨_, rfl⟩
      obtain ⟨r, hr⟩ : ∃ r, m % 256 = r := ⟨_, rfl⟩
      have hsh : ∀ w, (Op.shift .shr .i64 (n : Int) .i64 (IntKind.i64.wrap (8 * (k : Int)))).run Try.prog w = .ok (.int .i64 (m : Int)) w := fun w => by rw [← hm]; exact shr_byte n k hlt w
      have hwr : IntKind.u8.wrap (m : Int) = (r : Int) := by rw [← hr]; exact wrap_u8 m
      have hr256 : r < 256 := by omega
      have Hm := hide hm
      have Hr := hide hr
      clear hm hr
      have qa : ∀ o, (wr.alloc o).cell? ⟨B, 0, none⟩ = some (.slice A' L.length c') := fun o => cell_go (below_alloc _ _) q0
      go_wp2
      go_region_law ((refine step_append_byte (by rfl) _ _ _ (by rfl) base B L A' c' HW'.out Try.underlying54 (by kernel_rfl) (by rfl) r (by omega) wr.heap.size rfl (by rfl) ?_; intro A2 c2 w2 hk2 ho2 ht2; have qf2 := hk2.frozen 0; have q2 := hk2.cell 0))
      all_goals
        have HN := HW'.out.next hk2 ho2 ht2 (by simp) (by have := len_take l n k; rw [HL.out] at this; simp; omega)
        have HN1 := hide HN.1
        have HN2 := hide HN.2
        clear HN qf2 q2 hk2 ho2 ht2
        go_wp2
        go_roundg (4 - (k + 1))
        case measure => have := Hg.out; omega
        case rel => exact ⟨k + 1, rfl, by omega, by go_num, ⟨A2, c2, by rw [num_take n k hlt, ← List.append_assoc, HL.out, Hm.out, Hr.out]; exact HN1.out⟩, Ht.out.trans HN2.out⟩
    · go_wp2
      go_end0
      have hk4 : k = 4 := by omega
      refine ⟨rfl, ⟨A', c', ?_⟩, Ht.out⟩
      have := HL.out
      rw [hk4] at this
      have h4 : (num (n : Int)).take 4 = num n := rfl
      rw [h4] at this
      rw [this]
      exact HW'.out
end Go.Proofs.Ytlkkmgimjjnhjaa
namespace Go.Proofs.Ytlkkmgimjjnhjaa
open Go.RowKit Rec

theorem Wr.alloc {w : World} {base B : Nat} {l : List UInt8} {A : Option Addr} {c : Nat} (h : Wr w base B l A c) (o : Obj) : Wr (w.alloc o) base B l A c :=
  ⟨h.blk.alloc o, h.own.alloc o, Nat.le_trans h.base (by simp), h.len⟩
theorem info_u8' : (Try.prog.info? 5).map (fun i => (i.zero, i.size, i.bytes)) = some (some (.int .u8 0), 1, 1) := by kernel_rfl

theorem wr_after {w w' : World} {base B n : Nat} {l l' : List UInt8} {A A' : Option Addr} {c c' : Nat} (hW : Wr w base B l A c) (hown : w'.ownsRow base 5 1 (.slice A' n c') n (byteVs l')) (hgrow : w.grownBy w' (Value.slice A l.length c).ownBlock) :
    Blk w' B 56 #[.slice A l.length c] ∧ Tur base 5 B w w' :=
  ⟨hW.blk.grown hgrow (fun e => hW.ne e.symm), (Tur.refl base 5 B w).grown hgrow (own_isT hW.own)⟩

set_option maxHeartbeats 1000000 in
theorem text_any (s : ByteArray) (w : World) (base B : Nat) (l : List UInt8) (A : Option Addr) (c : Nat) (hW : Wr w base B l A c) (hl : l.length ≤ 800000000) (hs : s.size ≤ 10000000) :
    Calls Try.prog 32 #[.pointer (some ⟨B, 0, none⟩), .string s] w fun e w' => e = .returned (.tuple #[]) ∧ (∃ A' c', Wr w' base B (l ++ text s) A' c') ∧ Tur base 5 B w w' := by
  have HN := hide (number_any s.size w base B l A c hW (by omega) (by omega))
  have hlen : (l ++ num (s.size : Int)).length = l.length + 4 := by simp [num]
  obtain ⟨L, hL⟩ : ∃ L, l ++ num (s.size : Int) = L := ⟨_, rfl⟩
  rw [hL] at HN hlen
  have HL := hide hL
  have hLl : L.length ≤ 900000000 := by omega
  clear hL hlen hW
  obtain ⟨pl, hp⟩ : ∃ pl, StrIs s pl := ⟨_, rfl⟩
  have hpl : pl.length = s.size := hp.size.symm
  have Hp := hide hp
  clear hp
  go_enter Try.func32, Try.ntmps32
  go_wp2_with first
    | (go_at_call 56; refine HN.out.mono ?_; rintro e w1 ⟨rfl, ⟨A1, c1, hW1⟩, ht1⟩; have HW1 := hide hW1; have Ht1 := hide ht1; have q1 : w1.cell? ⟨B, 0, none⟩ = some (.slice A1 L.length c1) := hW1.blk.cell 0; clear hW1 ht1)
    | (at_builtin; go_loud (refine wpList_append_str _ rfl (.tmp 12) (.tmp 13) 54 9 rfl base 5 Try.underlying54 Try.underlying9 info_u8' (.slice A1 L.length c1) L.length L rfl HW1.out.own s pl Hp.out rfl (by omega) HW1.out.base ?_); intro A2 c2 w2 hown2 hgrow2; obtain ⟨k2, t2⟩ := wr_after HW1.out hown2 hgrow2; have q2 := k2.cell 0; have f2 := k2.frozen 0)
  go_end0
  obtain ⟨h1, h2⟩ := HW1.out.next k2 hown2 t2 (by simp) (by simp; omega)
  have e1 : L ++ pl = l ++ text s := by
    unfold text
    rw [← List.append_assoc, HL.out, show s.data.toList = pl from Hp.out]
  rw [e1] at h1
  rw [hpl] at h1 h2
  exact ⟨rfl, ⟨_, _, h1⟩, Ht1.out.trans h2⟩

set_option maxHeartbeats 1000000 in
theorem flag_any (b : Bool) (w : World) (base B : Nat) (l : List UInt8) (A : Option Addr) (c : Nat) (hW : Wr w base B l A c) (hl : l.length ≤ 900000000) :
    Calls Try.prog 58 #[.pointer (some ⟨B, 0, none⟩), .bool b] w fun e w' => e = .returned (.tuple #[]) ∧ (∃ A' c', Wr w' base B (l ++ flag b) A' c') ∧ Tur base 5 B w w' := by
  have HW1 := hide hW
  have q1 : w.cell? ⟨B, 0, none⟩ = some (.slice A l.length c) := hW.blk.cell 0
  have hln : l.length + 1 ≤ 1000000000 := by omega
  clear hW
  cases b
  · go_enter Try.func58, Try.ntmps58
    go_wp2_with (at_builtin; go_loud (refine wpList_append_elem w rfl (.tmp 10) (.tmp 12) 54 rfl base (.int .u8 0) 1 1 Try.underlying54 info_u8' rfl (by omega) (.slice A l.length c) l.length (byteVs l) rfl HW1.out.own rfl (by simp [Value.oneCell']) rfl (by unfold maxLen; omega) (by omega) HW1.out.base ?_); intro g' cap' w2 hown2 hgrow2 hat2 hlt2 hb2; obtain ⟨k2, t2⟩ := wr_after (l' := l ++ [0]) HW1.out (by rw [byteVs_append]; exact hown2) hgrow2; have q2 := k2.cell 0; have f2 := k2.frozen 0)
    go_end0
    obtain ⟨h1, h2⟩ := HW1.out.next (l' := l ++ flag false) k2 (by rw [byteVs_append]; exact hown2) t2 (by simp [flag]) (by simp [flag]; omega)
    exact ⟨rfl, ⟨_, _, h1⟩, h2⟩
  · go_enter Try.func58, Try.ntmps58
    go_wp2_with (at_builtin; go_loud (refine wpList_append_elem w rfl (.tmp 10) (.tmp 12) 54 rfl base (.int .u8 0) 1 1 Try.underlying54 info_u8' rfl (by omega) (.slice A l.length c) l.length (byteVs l) rfl HW1.out.own rfl (by simp [Value.oneCell']) rfl (by unfold maxLen; omega) (by omega) HW1.out.base ?_); intro g' cap' w2 hown2 hgrow2 hat2 hlt2 hb2; obtain ⟨k2, t2⟩ := wr_after (l' := l ++ [1]) HW1.out (by rw [byteVs_append]; exact hown2) hgrow2; have q2 := k2.cell 0; have f2 := k2.frozen 0)
    go_end0
    obtain ⟨h1, h2⟩ := HW1.out.next (l' := l ++ flag true) k2 (by rw [byteVs_append]; exact hown2) t2 (by simp [flag]) (by simp [flag]; omega)
    exact ⟨rfl, ⟨_, _, h1⟩, h2⟩

/-- The first k texts of an entry, as bytes. -/
def texts (x : Ent) : Nat → List UInt8
  | 0 => []
  | k + 1 => texts x k ++ text (five x k)
theorem texts_len (x : Ent) (hz : ∀ k, k < 5 → (five x k).size ≤ 10000000) : ∀ k, k ≤ 5 → (texts x k).length ≤ 10000004 * k := by
  intro k
  induction k with
  | zero => simp [texts]
  | succ k ih =>
    intro hk
    have := ih (by omega)
    have h5 := hz k (by omega)
    have h6 : (text (five x k)).length = 4 + (five x k).size := by simp [text, num]; omega
    simp only [texts, List.length_append, h6]
    omega
theorem entry_texts (x : Ent) : entry x = texts x 5 ++ flag x.has ++ (if x.has then num (x.sec - -62135596800) ++ num ((x.sec - -62135596800) / 4294967296) else []) := by
  simp [entry, texts, five, List.append_assoc]

/-- A time that may be written. -/
def TimeOk (x : Ent) : Prop := x.has = true → 0 ≤ x.sec - -62135596800 ∧ x.sec - -62135596800 < 1000000000000

set_option maxHeartbeats 1000000 in
theorem entry_any (x : Ent) (w : World) (base B : Nat) (l : List UInt8) (A : Option Addr) (c : Nat) (hW : Wr w base B l A c) (hl : l.length ≤ 700000000) (hz : ∀ k, k < 5 → (five x k).size ≤ 10000000) (ht : TimeOk x) :
    Calls Try.prog 57 #[.pointer (some ⟨B, 0, none⟩), .agg (entCells x).toArray] w fun e w' => e = .returned (.tuple #[]) ∧ (∃ A' c', Wr w' base B (l ++ entry x) A' c') ∧ Tur base 5 B w w' := by
  have HZ := hide hz
  have HT := hide ht
  have HTl := hide (texts_len x hz)
  have hi := hide (five_index x)
  have hB : B ≠ w.heap.size := fun e => by have := hW.blk.lt; omega
  have HB := hide hB
  unfold entCells
  have HW0 := hide hW
  clear hz ht hW hB
  go_enter Try.func57, Try.ntmps57
  go_wp2
  have k0 := Blk.new w 47 #[.string x.id, .string x.title, .string x.link, .string x.author, .string x.content, .bool x.has, .int .i64 x.sec]
  have t0 := (Tur.refl base 5 B w).alloc (.cells #[.string x.id, .string x.title, .string x.link, .string x.author, .string x.content, .bool x.has, .int .i64 x.sec] 47)
  have hWa := HW0.out.alloc (.cells #[.string x.id, .string x.title, .string x.link, .string x.author, .string x.content, .bool x.has, .int .i64 x.sec] 47)
  obtain ⟨W0, hW0⟩ : ∃ W0, (w.alloc (.cells #[.string x.id, .string x.title, .string x.link, .string x.author, .string x.content, .bool x.has, .int .i64 x.sec] 47)) = W0 := ⟨_, rfl⟩
  rw [hW0] at k0 t0 hWa ⊢
  clear hW0
  have HK := hide k0
  have HT0 := hide t0
  have HWa := hide hWa
  clear k0 t0 hWa
  go_loopg [21] 5 (fun g vi wr => ∃ k : Nat, g = 5 - k ∧ k ≤ 5 ∧ vi = .int .i64 k ∧ Blk wr w.heap.size 47 #[.string x.id, .string x.title, .string x.link, .string x.author, .string x.content, .bool x.has, .int .i64 x.sec] ∧ (∃ A' c', Wr wr base B (l ++ texts x k) A' c') ∧ Tur base 5 B w wr)
  case atStart => exact ⟨0, rfl, by omega, rfl, HK.out, ⟨A, c, by simpa [texts] using HWa.out⟩, HT0.out⟩
  case round =>
    obtain ⟨k, hg, hk, rfl, k0, ⟨A', c', hW⟩, ht⟩ := hrel
    have Hg := hide hg
    have K0 := hide k0
    have HW := hide hW
    have Ht := hide ht
    have hll : (l ++ texts x k).length ≤ 800000000 := by have := HTl.out k hk; simp; omega
    clear hg hW ht HK HT0 HWa
    by_cases hlt : k < 5
    · have ix := hi.out k hlt
      have hz := HZ.out k hlt
      have HC := hide (text_any (five x k) wr base B _ A' c' HW.out hll hz)
      obtain ⟨s, hs⟩ : ∃ s, five x k = s := ⟨_, rfl⟩
      rw [hs] at ix hz HC
      have Hs := hide hs
      clear hs hll k0 hz
      go_wp2_with (go_at_call 32; refine HC.out.mono ?_; rintro e w1 ⟨rfl, ⟨A1, c1, hW1⟩, ht1⟩; replace K0 := hide (ht1.blk K0.out HB.out.symm (by decide)); replace HW1 := hide hW1; have Ht1 := hide (Ht.out.trans ht1); clear hW1 ht1)
      go_roundg (5 - (k + 1))
      case measure => have := Hg.out; omega
      case rel => exact ⟨k + 1, rfl, by omega, by go_num, K0.out, ⟨A1, c1, by rw [texts, Hs.out, ← List.append_assoc]; exact HW1.out⟩, Ht1.out⟩
    · have hk5 : k = 5 := by omega
      obtain ⟨L, hL⟩ : ∃ L, l ++ texts x k = L := ⟨_, rfl⟩
      have HE : Hid (l ++ entry x = L ++ flag x.has ++ (if x.has then num (x.sec - -62135596800) ++ num ((x.sec - -62135596800) / 4294967296) else [])) := by
        refine hide ?_
        rw [entry_texts, ← hL, hk5]
        simp [List.append_assoc]
      rw [hL] at HW hll
      clear hL hk5
      have HF := hide (flag_any x.has wr base B L A' c' HW.out (by omega))
      have q5 := k0.cell 5
      have q6 := k0.cell 6
      clear k0
      rcases Bool.eq_false_or_eq_true x.has with hh | hh
      · rw [hh] at HF q5 K0
        obtain ⟨d0, d1⟩ := HT.out hh
        have Hh := hide hh
        clear hh
        obtain ⟨m, hm⟩ : ∃ m : Nat, x.sec - -62135596800 = m := ⟨(x.sec - -62135596800).toNat, by omega⟩
        have hms : x.sec = (m : Int) - 62135596800 := by omega
        have hmw : IntKind.i64.wrap (x.sec - -62135596800) = (m : Int) := by rw [hm]; exact IntWalk.i64_in _ (by omega)
        have hmw' : IntKind.i64.wrap (x.sec + 62135596800) = (m : Int) := by rw [← hm] at hmw ⊢; simpa using hmw
        have hm12 : m < 1000000000000 := by omega
        obtain ⟨q, hq⟩ : ∃ q : Nat, m / 4294967296 = q := ⟨_, rfl⟩
        have hq' : (m : Int) / 4294967296 = (q : Int) := by omega
        have hq12 : q < 1000000000000 := by omega
        have HM := hide hm
        have HQ := hide hq
        have hL8 : L.length ≤ 800000000 := hll
        obtain ⟨L1, hL1⟩ : ∃ L1, L ++ flag true = L1 := ⟨_, rfl⟩
        obtain ⟨L2, hL2⟩ : ∃ L2, L1 ++ num (m : Int) = L2 := ⟨_, rfl⟩
        have l1 : L1.length ≤ 800000001 := by rw [← hL1]; simp [flag]; omega
        have l2 : L2.length ≤ 800000005 := by rw [← hL2]; simp [num]; omega
        rw [hL1] at HF
        have HN1 := hide fun (W : World) A1 c1 (hW : Wr W base B L1 A1 c1) => number_any m W base B L1 A1 c1 hW (by omega) hm12
        rw [hL2] at HN1
        have HN2 := hide fun (W : World) A1 c1 (hW : Wr W base B L2 A1 c1) => number_any q W base B L2 A1 c1 hW (by omega) hq12
        have HL1 := hide hL1
        have HL2 := hide hL2
        clear hm hms hq hm12 hq12 d0 d1 hL1 hL2 l1 l2 hL8
        go_wp2_with fail
        refine HF.out.mono ?_
        rintro e w1 ⟨rfl, ⟨A1, c1, hW1⟩, ht1⟩
        have K1 := ht1.blk K0.out HB.out.symm (by decide)
        have r5 := K1.cell 5
        have r6 := K1.cell 6
        have HW1 := hide hW1
        have Ht1 := hide (Ht.out.trans ht1)
        clear hW1 ht1 K1
        go_wp2_with fail
        refine (HN1.out _ _ _ HW1.out).mono ?_
        rintro e w2 ⟨rfl, ⟨A2, c2, hW2⟩, ht2⟩
        have HW2 := hide hW2
        have Ht2 := hide (Ht1.out.trans ht2)
        clear hW2 ht2
        go_wp2_with fail
        refine (HN2.out _ _ _ HW2.out).mono ?_
        rintro e w3 ⟨rfl, ⟨A3, c3, hW3⟩, ht3⟩
        have HW3 := hide hW3
        have Ht3 := hide (Ht2.out.trans ht3)
        clear hW3 ht3
        go_wp2
        go_end0
        refine ⟨rfl, ⟨A3, c3, ?_⟩, Ht3.out⟩
        rw [HE.out, Hh.out, HL1.out, if_pos rfl, HM.out, ← List.append_assoc, HL2.out, hq']
        exact HW3.out
      · rw [hh] at HF q5 K0
        have Hh := hide hh
        clear hh
        go_wp2_with (go_at_call 58; refine HF.out.mono ?_; rintro e w1 ⟨rfl, ⟨A1, c1, hW1⟩, ht1⟩; have K1 := ht1.blk K0.out HB.out.symm (by decide); have r5 := K1.cell 5; have r6 := K1.cell 6; clear K1; have HW1 := hide hW1; have Ht1 := hide (Ht.out.trans ht1); clear hW1 ht1)
        go_end0
        refine ⟨rfl, ⟨A1, c1, ?_⟩, Ht1.out⟩
        rw [HE.out, Hh.out, if_neg (by simp), List.append_nil]
        exact HW1.out
end Go.Proofs.Ytlkkmgimjjnhjaa
