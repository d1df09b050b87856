/- The document's writers: slices by value. · The document's entry. (Printed by wip/genRecT.py.) -/
import Derived.Test.YtlkkmgimjjnhjaaMA04
import Derived.Test.YtlkkmgimjjnhjaaMA13
set_option linter.unusedSimpArgs false
set_option linter.unusedVariables false
namespace Go.Proofs.Ytlkkmgimjjnhjaa
open Go.RowKit Rec

/-- A slice of the call's own that holds the bytes l. -/
structure Sl (w : World) (base : Nat) (l : List UInt8) (A : Option Addr) (c : Nat) : Prop where
  own : w.ownsRow base 5 1 (.slice A l.length c) l.length (byteVs l)
  base : base ≤ w.heap.size
  len : l.length ≤ 1000000000

theorem sl_after {w w' : World} {base n : Nat} {l l' : List UInt8} {A A' : Option Addr} {c c' : Nat} (hW : Sl w base l A c) (hown : w'.ownsRow base 5 1 (.slice A' n c') n (byteVs l')) (hgrow : w.grownBy w' (Value.slice A l.length c).ownBlock) (hn : n = l'.length) (hl : l'.length ≤ 1000000000) :
    Sl w' base l' A' c' ∧ ∀ b, Tur base 5 b w w' := by
  subst hn
  exact ⟨⟨hown, Nat.le_trans hW.base hgrow.size, hl⟩, fun b => (Tur.refl base 5 b w).grown hgrow (own_isT hW.own)⟩
theorem Sl.alloc {w : World} {base : Nat} {l : List UInt8} {A : Option Addr} {c : Nat} (h : Sl w base l A c) (o : Obj) : Sl (w.alloc o) base l A c := ⟨h.own.alloc o, Nat.le_trans h.base (by simp), h.len⟩
theorem Sl.none_ {w : World} {base : Nat} (h : base ≤ w.heap.size) : Sl w base [] none 0 := ⟨World.ownsRow_nil _ _ _ _, h, by simp⟩

/-- append of four bytes that were laid into a new block. -/
theorem wpList_append_four {P : Program} (W : World) {ops : Array Oper} {rest : List Oper} {o : Oper} {a : Act} {Q : Exit → Act → World → Prop} (hgd : o.guard = none) (s x : Operand) (t : TypeId)
    (ho : o.op = .call { callee := .builtin .append, args := #[s, x], argTypes := #[t, t] })
    (base : Nat) (l : List UInt8) (A : Option Addr) (c : Nat) (hW : Sl W base l A c) (ht : P.underlying t = some (.slice 5))
    (hinfo : (P.info? 5).map (fun i => (i.zero, i.size, i.bytes)) = some (some (.int .u8 0), 1, 1))
    (hs : a.eval s = .slice A l.length c) (r0 r1 r2 r3 : Int) (h0 : 0 ≤ r0 ∧ r0 < 256) (h1 : 0 ≤ r1 ∧ r1 < 256) (h2 : 0 ≤ r2 ∧ r2 < 256) (h3 : 0 ≤ r3 ∧ r3 < 256) (hx : a.eval x = .slice (some ⟨W.heap.size, 0, none⟩) 4 4)
    (hl : l.length ≤ 900000000)
    (h : ∀ A' c' w', Sl w' base (l ++ [bv r0, bv r1, bv r2, bv r3]) A' c' → (∀ b, Tur base 5 b W w') → wpList P ops Q rest (a.put o.dst (.slice A' (l.length + 4) c')) w') :
    wpList P ops Q (o :: rest) a (W.alloc (.cells #[.int .u8 r0, .int .u8 r1, .int .u8 r2, .int .u8 r3] 5)) := by
  obtain ⟨i, hi, hz, hsize, hby⟩ := info_parts hinfo
  have hb1 : byteVs [bv r0, bv r1, bv r2, bv r3] = [.int .u8 r0, .int .u8 r1, .int .u8 r2, .int .u8 r3] := by
    show [Value.int .u8 ((bv r0).toNat : Int), .int .u8 ((bv r1).toNat : Int), .int .u8 ((bv r2).toNat : Int), .int .u8 ((bv r3).toNat : Int)] = _
    rw [bv_toNat r0 h0.1 h0.2, bv_toNat r1 h1.1 h1.2, bv_toNat r2 h2.1 h2.2, bv_toNat r3 h3.1 h3.2]
  have hbb := hW.base
  refine wpList_append_lies _ hgd s x t ho base 5 i (.int .u8 0) 1 1 ht hi hz hsize hby rfl (by omega) _ l.length (byteVs l) hs (hW.own.alloc _) ⟨W.heap.size, 0, none⟩ 4 4 (byteVs [bv r0, bv r1, bv r2, bv r3]) hx rfl ?_ (byteVs_one _) (by omega)
    (by unfold maxLen; omega) (by omega) (by simp; omega) _ rfl ?_
  · rw [hb1]
    intro j u hu
    exact World.news_of_block (Blk.new W 5 #[.int .u8 r0, .int .u8 r1, .int .u8 r2, .int .u8 r3]) j u (by simpa using hu)
  · intro g cap w' hown hgrow hg hlt
    rw [← byteVs_append] at hown
    obtain ⟨h1, h2⟩ := sl_after (hW.alloc (.cells #[.int .u8 r0, .int .u8 r1, .int .u8 r2, .int .u8 r3] 5)) hown hgrow (by simp) (by simp; omega)
    exact h _ _ w' h1 fun b => ((Tur.refl base 5 b W).alloc _).trans (h2 b)

theorem and255 (x : Int) (h0 : 0 ≤ x) (h1 : x < 1000000000000) : bits .and .i64 x 255 % 256 = x % 256 := by
  rw [i64_mask x 8 h0 (by omega) (by omega) 255 (by decide)]
  have : (2 : Int) ^ 8 = 256 := by decide
  rw [this]
  omega
theorem num_bv (n : Int) : num n = [bv (n % 256), bv (n / 256 % 256), bv (n / 65536 % 256), bv (n / 16777216 % 256)] := rfl

set_option maxHeartbeats 1000000 in
theorem rnumber_any (n : Nat) (w : World) (base : Nat) (l : List UInt8) (A : Option Addr) (c : Nat) (hW : Sl w base l A c) (hl : l.length ≤ 900000000) (hn : n < 1000000000000) :
    Calls Try.prog 59 #[.slice A l.length c, .int .i64 n] w fun e w' => (∃ A' c', e = .returned (.slice A' (l ++ num n).length c') ∧ Sl w' base (l ++ num n) A' c') ∧ ∀ b, Tur base 5 b w w' := by
  have HW := hide hW
  clear hW
  have a0 := and255 n (by omega) (by omega)
  have a1 := and255 (n / 256) (by omega) (by omega)
  have a2 := and255 (n / 65536) (by omega) (by omega)
  have a3 := and255 (n / 16777216) (by omega) (by omega)
  have hnum := num_bv n
  obtain ⟨r0, e0⟩ : ∃ r, (n : Int) % 256 = r := ⟨_, rfl⟩
  obtain ⟨r1, e1⟩ : ∃ r, (n : Int) / 256 % 256 = r := ⟨_, rfl⟩
  obtain ⟨r2, e2⟩ : ∃ r, (n : Int) / 65536 % 256 = r := ⟨_, rfl⟩
  obtain ⟨r3, e3⟩ : ∃ r, (n : Int) / 16777216 % 256 = r := ⟨_, rfl⟩
  rw [e0] at a0 hnum
  rw [e1] at a1 hnum
  rw [e2] at a2 hnum
  rw [e3] at a3 hnum
  have b0 : 0 ≤ r0 ∧ r0 < 256 := by omega
  have b1 : 0 ≤ r1 ∧ r1 < 256 := by omega
  have b2 : 0 ≤ r2 ∧ r2 < 256 := by omega
  have b3 : 0 ≤ r3 ∧ r3 < 256 := by omega
  have HB := hide (And.intro b0 (And.intro b1 (And.intro b2 b3)))
  rw [hnum]
  clear e0 e1 e2 e3 b0 b1 b2 b3 hnum
  have hlen : (l ++ [bv r0, bv r1, bv r2, bv r3]).length = l.length + 4 := by simp
  rw [hlen]
  clear hlen
  go_enter Try.func59, Try.ntmps59
  go_wp2_with (at_builtin; refine wpList_append_four w rfl (.tmp 5) (.tmp 21) 54 rfl base l A c HW.out Try.underlying54 info_u8' rfl r0 r1 r2 r3 HB.out.1 HB.out.2.1 HB.out.2.2.1 HB.out.2.2.2 rfl hl ?_; intro A' c' w' h1 h2; replace h1 := hide h1; replace h2 := hide h2)
  go_ret
  exact ⟨⟨A', c', rfl, h1.out⟩, h2.out⟩

set_option maxHeartbeats 1000000 in
theorem rtext_any (s : ByteArray) (w : World) (base : Nat) (l : List UInt8) (A : Option Addr) (c : Nat) (hW : Sl w base l A c) (hl : l.length ≤ 800000000) (hs : s.size ≤ 10000000) :
    Calls Try.prog 33 #[.slice A l.length c, .string s] w fun e w' => (∃ A' c', e = .returned (.slice A' (l ++ text s).length c') ∧ Sl w' base (l ++ text s) A' c') ∧ ∀ b, Tur base 5 b w w' := by
  have HN := hide (rnumber_any s.size w base l A c hW (by omega) (by omega))
  have hlen : (l ++ num (s.size : Int)).length = l.length + 4 := by simp [num]
  obtain ⟨L, hL⟩ : ∃ L, l ++ num (s.size : Int) = L := ⟨_, rfl⟩
  rw [hL] at HN hlen
  have hLl : L.length ≤ 900000000 := by omega
  obtain ⟨pl, hp⟩ : ∃ pl, StrIs s pl := ⟨_, rfl⟩
  have hpl : pl.length = s.size := hp.size.symm
  have e1 : l ++ text s = L ++ pl := by
    unfold text
    rw [← List.append_assoc, hL, show s.data.toList = pl from hp]
  have e2 : (l ++ text s).length = L.length + s.size := by rw [e1, List.length_append, hpl]
  have Hp := hide hp
  rw [e2, e1]
  clear hL hlen hW hp e1 e2
  go_enter Try.func33, Try.ntmps33
  go_wp2_with first
    | (go_at_call 59; refine HN.out.mono ?_; rintro e w1 ⟨⟨A1, c1, rfl, hW1⟩, ht1⟩; have HW1 := hide hW1; have Ht1 := hide ht1; clear hW1 ht1)
    | (at_builtin; go_loud (refine wpList_append_str _ rfl (.tmp 8) (.tmp 9) 54 9 rfl base 5 Try.underlying54 Try.underlying9 info_u8' (.slice A1 L.length c1) L.length L rfl HW1.out.own s pl Hp.out rfl (by omega) HW1.out.base ?_); intro A2 c2 w2 hown2 hgrow2; have k2 := hide (sl_after HW1.out hown2 hgrow2 (by simp) (by simp; omega)); clear hown2 hgrow2)
  go_ret
  exact ⟨⟨A2, c2, rfl, k2.out.1⟩, fun b => (Ht1.out b).trans (k2.out.2 b)⟩

set_option maxHeartbeats 1000000 in
theorem rflag_any (b : Bool) (w : World) (base : Nat) (l : List UInt8) (A : Option Addr) (c : Nat) (hW : Sl w base l A c) (hl : l.length ≤ 900000000) :
    Calls Try.prog 61 #[.slice A l.length c, .bool b] w fun e w' => (∃ A' c', e = .returned (.slice A' (l ++ flag b).length c') ∧ Sl w' base (l ++ flag b) A' c') ∧ ∀ b, Tur base 5 b w w' := by
  have HW1 := hide hW
  have hln : l.length + 1 ≤ 1000000000 := by omega
  have hfl : (l ++ flag b).length = l.length + 1 := by simp [flag]
  rw [hfl]
  clear hW hfl
  cases b
  · go_enter Try.func61, Try.ntmps61
    go_wp2_with (at_builtin; go_loud (refine wpList_append_elem w rfl (.tmp 9) (.tmp 10) 54 rfl base (.int .u8 0) 1 1 Try.underlying54 info_u8' rfl (by omega) (.slice A l.length c) l.length (byteVs l) rfl HW1.out.own rfl (by simp [Value.oneCell']) rfl (by unfold maxLen; omega) (by omega) HW1.out.base ?_); intro g' cap' w2 hown2 hgrow2 hat2 hlt2 hb2; have k2 := hide (sl_after (l' := l ++ flag false) HW1.out (by rw [byteVs_append]; exact hown2) hgrow2 (by simp [flag]) (by simp [flag]; omega)); clear hown2 hgrow2)
    go_ret
    exact ⟨⟨_, _, rfl, k2.out.1⟩, k2.out.2⟩
  · go_enter Try.func61, Try.ntmps61
    go_wp2_with (at_builtin; go_loud (refine wpList_append_elem w rfl (.tmp 6) (.tmp 7) 54 rfl base (.int .u8 0) 1 1 Try.underlying54 info_u8' rfl (by omega) (.slice A l.length c) l.length (byteVs l) rfl HW1.out.own rfl (by simp [Value.oneCell']) rfl (by unfold maxLen; omega) (by omega) HW1.out.base ?_); intro g' cap' w2 hown2 hgrow2 hat2 hlt2 hb2; have k2 := hide (sl_after (l' := l ++ flag true) HW1.out (by rw [byteVs_append]; exact hown2) hgrow2 (by simp [flag]) (by simp [flag]; omega)); clear hown2 hgrow2)
    go_ret
    exact ⟨⟨_, _, rfl, k2.out.1⟩, k2.out.2⟩
end Go.Proofs.Ytlkkmgimjjnhjaa
namespace Go.Proofs.Ytlkkmgimjjnhjaa
open Go.RowKit Rec
attribute [local go_sem ↓] Go.wp_at_zero Go.wp_at_succ

theorem num_mod (m : Nat) : num ((m % 4294967296 : Nat) : Int) = num (m : Int) := by
  unfold num
  have h0 : ((m % 4294967296 : Nat) : Int) % 256 = (m : Int) % 256 := by omega
  have h1 : ((m % 4294967296 : Nat) : Int) / 256 % 256 = (m : Int) / 256 % 256 := by omega
  have h2 : ((m % 4294967296 : Nat) : Int) / 65536 % 256 = (m : Int) / 65536 % 256 := by omega
  have h3 : ((m % 4294967296 : Nat) : Int) / 16777216 % 256 = (m : Int) / 16777216 % 256 := by omega
  rw [h0, h1, h2, h3]
theorem Sl.drew {w : World} {base : Nat} {l : List UInt8} {A : Option Addr} {c : Nat} (h : Sl w base l A c) : Sl w.drew base l A c := ⟨h.own.drew, h.base, h.len⟩

set_option maxHeartbeats 2000000 in
theorem rentry_any (x : Ent) (w : World) (base : Nat) (l : List UInt8) (A : Option Addr) (c : Nat) (hW : Sl w base l A c) (hl : l.length ≤ 700000000) (hz : ∀ k, k < 5 → (five x k).size ≤ 10000000) (ht : TimeOk x) :
    Calls Try.prog 60 #[.slice A l.length c, .agg (entCells x).toArray] w fun e w' => (∃ A' c', e = .returned (.slice A' (l ++ entry x).length c') ∧ Sl w' base (l ++ entry x) A' c') ∧ ∀ b, Tur base 5 b w w' := by
  have HT := hide ht
  have hE : l ++ entry x = l ++ text x.id ++ text x.title ++ text x.link ++ text x.author ++ text x.content ++ flag x.has ++ (if x.has then num (x.sec - -62135596800) ++ num ((x.sec - -62135596800) / 4294967296) else []) := by simp [entry, List.append_assoc]
  have z0 := hz 0 (by omega)
  have z1 := hz 1 (by omega)
  have z2 := hz 2 (by omega)
  have z3 := hz 3 (by omega)
  have z4 := hz 4 (by omega)
  rw [five_0] at z0
  rw [five_1] at z1
  rw [five_2] at z2
  rw [five_3] at z3
  rw [five_4] at z4
  clear hz ht
  obtain ⟨L1, hL1⟩ : ∃ L, l ++ text x.id = L := ⟨_, rfl⟩
  have l1 : L1.length ≤ 710000004 := by rw [← hL1]; simp [text, num]; omega
  obtain ⟨L2, hL2⟩ : ∃ L, L1 ++ text x.title = L := ⟨_, rfl⟩
  have l2 : L2.length ≤ 720000008 := by rw [← hL2]; simp [text, num]; omega
  obtain ⟨L3, hL3⟩ : ∃ L, L2 ++ text x.link = L := ⟨_, rfl⟩
  have l3 : L3.length ≤ 730000012 := by rw [← hL3]; simp [text, num]; omega
  obtain ⟨L4, hL4⟩ : ∃ L, L3 ++ text x.author = L := ⟨_, rfl⟩
  have l4 : L4.length ≤ 740000016 := by rw [← hL4]; simp [text, num]; omega
  obtain ⟨L5, hL5⟩ : ∃ L, L4 ++ text x.content = L := ⟨_, rfl⟩
  have l5 : L5.length ≤ 750000020 := by rw [← hL5]; simp [text, num]; omega
  rw [hL1, hL2, hL3, hL4, hL5] at hE
  have H0 := hide fun (W : World) A c (hW : Sl W base l A c) => rtext_any x.id W base l A c hW (by omega) (by omega)
  rw [hL1] at H0
  have H1 := hide fun (W : World) A c (hW : Sl W base L1 A c) => rtext_any x.title W base L1 A c hW (by omega) (by omega)
  rw [hL2] at H1
  have H2 := hide fun (W : World) A c (hW : Sl W base L2 A c) => rtext_any x.link W base L2 A c hW (by omega) (by omega)
  rw [hL3] at H2
  have H3 := hide fun (W : World) A c (hW : Sl W base L3 A c) => rtext_any x.author W base L3 A c hW (by omega) (by omega)
  rw [hL4] at H3
  have H4 := hide fun (W : World) A c (hW : Sl W base L4 A c) => rtext_any x.content W base L4 A c hW (by omega) (by omega)
  rw [hL5] at H4
  obtain ⟨F, hF⟩ : ∃ F, l ++ entry x = F := ⟨_, rfl⟩
  rw [hF] at hE ⊢
  have HFin := hide hE
  clear hF
  clear hE hL1 hL2 hL3 hL4 hL5 l1 l2 l3 l4 z0 z1 z2 z3 z4
  unfold entCells
  have W0 := hide (hW.alloc (.cells #[.string x.id, .string x.title, .string x.link, .string x.author, .string x.content, .bool x.has, .int .i64 x.sec] 47)).drew
  have T0 := hide fun b => ((Tur.refl base 5 b w).alloc (.cells #[.string x.id, .string x.title, .string x.link, .string x.author, .string x.content, .bool x.has, .int .i64 x.sec] 47)).drew
  have kk := Blk.new w 47 #[.string x.id, .string x.title, .string x.link, .string x.author, .string x.content, .bool x.has, .int .i64 x.sec]
  clear hW
  go_enter Try.func60, Try.ntmps60
  go_wp2
  refine wp_region_held_drew (S := fun w' => Blk w' w.heap.size 47 #[.string x.id, .string x.title, .string x.link, .string x.author, .string x.content, .bool x.has, .int .i64 x.sec] ∧ w'.cell? ⟨w.heap.size, 0, none⟩ = some (.string x.id) ∧ w'.cell? ⟨w.heap.size, 1, none⟩ = some (.string x.title) ∧ w'.cell? ⟨w.heap.size, 2, none⟩ = some (.string x.link) ∧ w'.cell? ⟨w.heap.size, 3, none⟩ = some (.string x.author) ∧ w'.cell? ⟨w.heap.size, 4, none⟩ = some (.string x.content)) (by kernel_rfl) ?_ (fun hHeld => ?_)
  · (try dsimp only)
    exact ⟨kk.drew, kk.drew.cell 0, kk.drew.cell 1, kk.drew.cell 2, kk.drew.cell 3, kk.drew.cell 4⟩
  change wpAnyH _ _ _ _ _ 17 #[false, false, false, false, false, false, false, false, false, false, false, false, false, false, false, false, false] _ _
  refine held_take (i := 0) (d := 6) (v := ?_) rfl rfl (by kernel_rfl) (by kernel_rfl) (by kernel_rfl) (fun _ _ _ h => h) (by kernel_rfl) hHeld ?_ ?_
  rotate_left
  · intro w hSw
    (try dsimp only at hSw)
    go_simp
    first | done | with_reducible rfl
  (try simp only [Act.put, List.setIfInBounds_toArray, List.set_cons_zero, List.set_cons_succ])
  refine held_take (i := 1) (d := 7) (v := ?_) rfl rfl (by kernel_rfl) (by kernel_rfl) (by kernel_rfl) (fun _ _ _ h => h) (by kernel_rfl) hHeld ?_ ?_
  rotate_left
  · intro w hSw
    (try dsimp only at hSw)
    go_simp
    first | done | with_reducible rfl
  (try simp only [Act.put, List.setIfInBounds_toArray, List.set_cons_zero, List.set_cons_succ])
  refine held_take (i := 2) (d := 8) (v := ?_) rfl rfl (by kernel_rfl) (by kernel_rfl) (by kernel_rfl) (fun _ _ _ h => h) (by kernel_rfl) hHeld ?_ ?_
  rotate_left
  · intro w hSw
    (try dsimp only at hSw)
    go_simp
    first | done | with_reducible rfl
  (try simp only [Act.put, List.setIfInBounds_toArray, List.set_cons_zero, List.set_cons_succ])
  refine held_take (i := 4) (d := 10) (v := ?_) rfl rfl (by kernel_rfl) (by kernel_rfl) (by kernel_rfl) (fun _ _ _ h => h) (by kernel_rfl) hHeld ?_ ?_
  rotate_left
  · intro w hSw
    (try dsimp only at hSw)
    go_simp
    first | done | with_reducible rfl
  (try simp only [Act.put, List.setIfInBounds_toArray, List.set_cons_zero, List.set_cons_succ])
  refine held_take (i := 5) (d := 11) (v := ?_) rfl rfl (by kernel_rfl) (by kernel_rfl) (by kernel_rfl) (fun _ _ _ h => h) (by kernel_rfl) hHeld ?_ ?_
  rotate_left
  · intro w hSw
    (try dsimp only at hSw)
    go_simp
    first | done | with_reducible rfl
  (try simp only [Act.put, List.setIfInBounds_toArray, List.set_cons_zero, List.set_cons_succ])
  refine held_take (i := 7) (d := 13) (v := ?_) rfl rfl (by kernel_rfl) (by kernel_rfl) (by kernel_rfl) (fun _ _ _ h => h) (by kernel_rfl) hHeld ?_ ?_
  rotate_left
  · intro w hSw
    (try dsimp only at hSw)
    go_simp
    first | done | with_reducible rfl
  (try simp only [Act.put, List.setIfInBounds_toArray, List.set_cons_zero, List.set_cons_succ])
  refine held_take (i := 8) (d := 14) (v := ?_) rfl rfl (by kernel_rfl) (by kernel_rfl) (by kernel_rfl) (fun _ _ _ h => h) (by kernel_rfl) hHeld ?_ ?_
  rotate_left
  · intro w hSw
    (try dsimp only at hSw)
    go_simp
    first | done | with_reducible rfl
  (try simp only [Act.put, List.setIfInBounds_toArray, List.set_cons_zero, List.set_cons_succ])
  refine held_take (i := 10) (d := 16) (v := ?_) rfl rfl (by kernel_rfl) (by kernel_rfl) (by kernel_rfl) (fun _ _ _ h => h) (by kernel_rfl) hHeld ?_ ?_
  rotate_left
  · intro w hSw
    (try dsimp only at hSw)
    go_simp
    first | done | with_reducible rfl
  (try simp only [Act.put, List.setIfInBounds_toArray, List.set_cons_zero, List.set_cons_succ])
  refine held_take (i := 11) (d := 17) (v := ?_) rfl rfl (by kernel_rfl) (by kernel_rfl) (by kernel_rfl) (fun _ _ _ h => h) (by kernel_rfl) hHeld ?_ ?_
  rotate_left
  · intro w hSw
    (try dsimp only at hSw)
    go_simp
    first | done | with_reducible rfl
  (try simp only [Act.put, List.setIfInBounds_toArray, List.set_cons_zero, List.set_cons_succ])
  refine held_take (i := 13) (d := 19) (v := ?_) rfl rfl (by kernel_rfl) (by kernel_rfl) (by kernel_rfl) (fun _ _ _ h => h) (by kernel_rfl) hHeld ?_ ?_
  rotate_left
  · intro w hSw
    (try dsimp only at hSw)
    go_simp
    first | done | with_reducible rfl
  (try simp only [Act.put, List.setIfInBounds_toArray, List.set_cons_zero, List.set_cons_succ])
  refine held_take (i := 14) (d := 20) (v := ?_) rfl rfl (by kernel_rfl) (by kernel_rfl) (by kernel_rfl) (fun _ _ _ h => h) (by kernel_rfl) hHeld ?_ ?_
  rotate_left
  · intro w hSw
    (try dsimp only at hSw)
    go_simp
    first | done | with_reducible rfl
  (try simp only [Act.put, List.setIfInBounds_toArray, List.set_cons_zero, List.set_cons_succ])
  refine held_call (i := 3) rfl (by kernel_rfl) (by kernel_rfl) (fun K hK => ?_)
  go_simp
  go_at_call 33
  refine (H0.out _ _ _ W0.out).mono ?_
  rintro e w1 ⟨⟨A1, c1, rfl, hW⟩, ht⟩
  have W1 := hide hW
  clear hW
  have T1 := hide fun b => (T0.out b).trans (ht b)
  (try dsimp only)
  refine hK.out _ _ ?_ (fun hHeld' => ?_)
  · (try dsimp only)
    have kk' := (ht (w.heap.size + 1)).blk hHeld.1 (by omega) (by decide)
    exact ⟨kk', kk'.cell 0, kk'.cell 1, kk'.cell 2, kk'.cell 3, kk'.cell 4⟩
  clear hK K hHeld
  have hHeld := hHeld'
  clear hHeld'
  (try simp only [Act.put, List.setIfInBounds_toArray, List.set_cons_zero, List.set_cons_succ])
  refine held_call (i := 6) rfl (by kernel_rfl) (by kernel_rfl) (fun K hK => ?_)
  go_simp
  go_at_call 33
  refine (H1.out _ _ _ W1.out).mono ?_
  rintro e w2 ⟨⟨A2, c2, rfl, hW⟩, ht⟩
  have W2 := hide hW
  clear hW
  have T2 := hide fun b => (T1.out b).trans (ht b)
  (try dsimp only)
  refine hK.out _ _ ?_ (fun hHeld' => ?_)
  · (try dsimp only)
    have kk' := (ht (w.heap.size + 1)).blk hHeld.1 (by omega) (by decide)
    exact ⟨kk', kk'.cell 0, kk'.cell 1, kk'.cell 2, kk'.cell 3, kk'.cell 4⟩
  clear hK K hHeld
  have hHeld := hHeld'
  clear hHeld'
  (try simp only [Act.put, List.setIfInBounds_toArray, List.set_cons_zero, List.set_cons_succ])
  refine held_call (i := 9) rfl (by kernel_rfl) (by kernel_rfl) (fun K hK => ?_)
  go_simp
  go_at_call 33
  refine (H2.out _ _ _ W2.out).mono ?_
  rintro e w3 ⟨⟨A3, c3, rfl, hW⟩, ht⟩
  have W3 := hide hW
  clear hW
  have T3 := hide fun b => (T2.out b).trans (ht b)
  (try dsimp only)
  refine hK.out _ _ ?_ (fun hHeld' => ?_)
  · (try dsimp only)
    have kk' := (ht (w.heap.size + 1)).blk hHeld.1 (by omega) (by decide)
    exact ⟨kk', kk'.cell 0, kk'.cell 1, kk'.cell 2, kk'.cell 3, kk'.cell 4⟩
  clear hK K hHeld
  have hHeld := hHeld'
  clear hHeld'
  (try simp only [Act.put, List.setIfInBounds_toArray, List.set_cons_zero, List.set_cons_succ])
  refine held_call (i := 12) rfl (by kernel_rfl) (by kernel_rfl) (fun K hK => ?_)
  go_simp
  go_at_call 33
  refine (H3.out _ _ _ W3.out).mono ?_
  rintro e w4 ⟨⟨A4, c4, rfl, hW⟩, ht⟩
  have W4 := hide hW
  clear hW
  have T4 := hide fun b => (T3.out b).trans (ht b)
  (try dsimp only)
  refine hK.out _ _ ?_ (fun hHeld' => ?_)
  · (try dsimp only)
    have kk' := (ht (w.heap.size + 1)).blk hHeld.1 (by omega) (by decide)
    exact ⟨kk', kk'.cell 0, kk'.cell 1, kk'.cell 2, kk'.cell 3, kk'.cell 4⟩
  clear hK K hHeld
  have hHeld := hHeld'
  clear hHeld'
  (try simp only [Act.put, List.setIfInBounds_toArray, List.set_cons_zero, List.set_cons_succ])
  refine held_call (i := 15) rfl (by kernel_rfl) (by kernel_rfl) (fun K hK => ?_)
  go_simp
  go_at_call 33
  refine (H4.out _ _ _ W4.out).mono ?_
  rintro e w5 ⟨⟨A5, c5, rfl, hW⟩, ht⟩
  have W5 := hide hW
  clear hW
  have T5 := hide fun b => (T4.out b).trans (ht b)
  (try dsimp only)
  refine hK.out _ _ ?_ (fun hHeld' => ?_)
  · (try dsimp only)
    have kk' := (ht (w.heap.size + 1)).blk hHeld.1 (by omega) (by decide)
    exact ⟨kk', kk'.cell 0, kk'.cell 1, kk'.cell 2, kk'.cell 3, kk'.cell 4⟩
  clear hK K hHeld
  have hHeld := hHeld'
  clear hHeld'
  (try simp only [Act.put, List.setIfInBounds_toArray, List.set_cons_zero, List.set_cons_succ])
  refine held_take (i := 16) (d := 0) (v := ?_) rfl rfl (by kernel_rfl) (by kernel_rfl) (by kernel_rfl) (fun _ _ _ h => h) (by kernel_rfl) hHeld ?_ ?_
  rotate_left
  · intro w hSw
    (try dsimp only at hSw)
    go_simp
    first | done | with_reducible rfl
  (try simp only [Act.put, List.setIfInBounds_toArray, List.set_cons_zero, List.set_cons_succ])
  refine wpAnyH_done (by kernel_rfl) ?_ _
  have k5 := hHeld.1
  clear hHeld kk H0 H1 H2 H3 H4
  have q5 := k5.cell 5
  have q6 := k5.cell 6
  have HF := hide (rflag_any x.has w5 base L5 A5 c5 W5.out (by omega))
  rcases Bool.eq_false_or_eq_true x.has with hh | hh
  · rw [hh] at HF q5 k5 HFin
    have K5 := hide k5
    obtain ⟨d0, d1⟩ := HT.out hh
    obtain ⟨m, hm⟩ : ∃ m : Nat, x.sec - -62135596800 = m := ⟨(x.sec - -62135596800).toNat, by omega⟩
    have hmw : IntKind.i64.wrap (x.sec - -62135596800) = (m : Int) := by rw [hm]; exact IntWalk.i64_in _ (by omega)
    have hmw' : IntKind.i64.wrap (x.sec + 62135596800) = (m : Int) := by rw [← hm] at hmw ⊢; simpa using hmw
    obtain ⟨p, hp⟩ : ∃ p : Nat, m % 4294967296 = p := ⟨_, rfl⟩
    obtain ⟨q, hq⟩ : ∃ q : Nat, m / 4294967296 = q := ⟨_, rfl⟩
    have hp' : bits .and .i64 (m : Int) 4294967295 = (p : Int) := by
      rw [i64_mask (m : Int) 32 (by omega) (by omega) (by omega) 4294967295 (by decide)]
      have : (2 : Int) ^ 32 = 4294967296 := by decide
      rw [this]; omega
    have hq' : (m : Int) / 4294967296 = (q : Int) := by omega
    have hn1 : num (m : Int) = num (p : Int) := by rw [← hp]; exact (num_mod m).symm
    have hE : L5 ++ flag true ++ (if true = true then num (x.sec - -62135596800) ++ num ((x.sec - -62135596800) / 4294967296) else []) = L5 ++ flag true ++ num (p : Int) ++ num (q : Int) := by
      rw [if_pos rfl, hm, hq', hn1, List.append_assoc, List.append_assoc, List.append_assoc]
    have hFin := HFin.out.trans hE
    obtain ⟨L6, hL6⟩ : ∃ L, L5 ++ flag true = L := ⟨_, rfl⟩
    have l6 : L6.length ≤ 750000021 := by rw [← hL6]; simp [flag]; omega
    obtain ⟨L7, hL7⟩ : ∃ L, L6 ++ num (p : Int) = L := ⟨_, rfl⟩
    have l7 : L7.length ≤ 750000025 := by rw [← hL7]; simp [num]; omega
    have HP := hide fun W A c (hW : Sl W base L6 A c) => rnumber_any p W base L6 A c hW (by omega) (by omega)
    have HQ := hide fun W A c (hW : Sl W base L7 A c) => rnumber_any q W base L7 A c hW (by omega) (by omega)
    rw [hL6] at HF
    rw [hL7] at HP
    rw [hL6, hL7] at hFin
    obtain ⟨L8, hL8⟩ : ∃ L, L7 ++ num (q : Int) = L := ⟨_, rfl⟩
    rw [hL8] at HQ hFin
    have HFin2 := hide hFin
    clear hFin HFin
    clear hm hp hq hn1 hE hL6 hL7 hL8 l6 l7 d0 d1 k5 hh l5
    go_wp2_with fail
    refine HF.out.mono ?_
    rintro e w6 ⟨⟨A6, c6, rfl, hW⟩, ht⟩
    have k6 := (ht (w.heap.size + 1)).blk K5.out (by omega) (by decide)
    have r5 := k6.cell 5
    have r6 := k6.cell 6
    have W6 := hide hW
    have T6 := hide fun b => (T5.out b).trans (ht b)
    clear hW ht k6
    go_wp2_with fail
    refine (HP.out _ _ _ W6.out).mono ?_
    rintro e w7 ⟨⟨A7, c7, rfl, hW⟩, ht⟩
    have W7 := hide hW
    have T7 := hide fun b => (T6.out b).trans (ht b)
    clear hW ht
    go_wp2_with fail
    refine (HQ.out _ _ _ W7.out).mono ?_
    rintro e w8 ⟨⟨A8, c8, rfl, hW⟩, ht⟩
    have W8 := hide hW
    have T8 := hide fun b => (T7.out b).trans (ht b)
    clear hW ht
    go_wp2
    go_ret
    rw [HFin2.out]
    exact ⟨⟨A8, c8, rfl, W8.out⟩, T8.out⟩
  · rw [hh] at HF q5 k5 HFin
    have K5 := hide k5
    have hFin := HFin.out
    rw [if_neg (by simp), List.append_nil] at hFin
    obtain ⟨L6, hL6⟩ : ∃ L, L5 ++ flag false = L := ⟨_, rfl⟩
    rw [hL6] at HF hFin
    have HFin2 := hide hFin
    clear hFin HFin
    clear hL6 k5 hh l5
    go_wp2_with fail
    refine HF.out.mono ?_
    rintro e w6 ⟨⟨A6, c6, rfl, hW⟩, ht⟩
    have k6 := (ht (w.heap.size + 1)).blk K5.out (by omega) (by decide)
    have r5 := k6.cell 5
    have r6 := k6.cell 6
    have W6 := hide hW
    have T6 := hide fun b => (T5.out b).trans (ht b)
    clear hW ht k6
    go_wp2
    go_ret
    rw [HFin2.out]
    exact ⟨⟨A6, c6, rfl, W6.out⟩, T6.out⟩
end Go.Proofs.Ytlkkmgimjjnhjaa
