/- The piece at a byte: the document's One, and the program's. (Printed by wip/genTkDp.py.) · Tokens: a list of tokens in memory, each with a row of attributes of its own. · Tokens: All: a text's tokens. -/
import Derived.Test.YtbnaphbmmkmaeaaGreatDoorTz07
import Derived.Test.YtbnaphbmmkmaeaaGreatDoorTz18
import Derived.Test.YtbnaphbmmkmaeaaGreatDoorTz20
import Derived.Test.YtbnaphbmmkmaeaaGreatDoorTz22
set_option linter.unusedSimpArgs false
set_option linter.unusedVariables false
namespace Go.Proofs.YtbnaphbmmkmaeaaGreatDoor
open Go.RowKit Tk

theorem tok_ret_One14 {Q : Ending → World → Prop} {a : Act} {W : World} {R : Nat} {v0 v1 v2 v3 v4 v5 v6 : Value} {b : Bool} (ha : a.tmps.getD 4 undef = .pointer (some ⟨R, 0, none⟩)) (h5 : a.tmps.getD 5 undef = .bool b) (hd : a.defers = []) (hK : Blk W R 29 #[v0, v1, v2, v3, v4, v5, v6])
    (hQ : Q (.returned (.tuple #[.agg #[v0, v1, v2, v3, v4, v5, v6], .bool b])) W) : bodyPost Tryz.prog Tryz.f14 Q .ret a W := by
  have p0 : W.cell? ⟨R, 0, none⟩ = some v0 := hK.cell 0
  have p1 : W.cell? ⟨R, 1, none⟩ = some v1 := hK.cell 1
  have p2 : W.cell? ⟨R, 2, none⟩ = some v2 := hK.cell 2
  have p3 : W.cell? ⟨R, 3, none⟩ = some v3 := hK.cell 3
  have p4 : W.cell? ⟨R, 4, none⟩ = some v4 := hK.cell 4
  have p5 : W.cell? ⟨R, 5, none⟩ = some v5 := hK.cell 5
  have p6 : W.cell? ⟨R, 6, none⟩ = some v6 := hK.cell 6
  refine bodyPost_ret (v := .tuple #[.agg #[v0, v1, v2, v3, v4, v5, v6], .bool b]) ?_ hd hQ
  obtain ⟨tm, df⟩ := a
  dsimp only at ha h5 ⊢
  have ha' : tm[4]?.getD undef = .pointer (some ⟨R, 0, none⟩) := by simpa using ha
  have hb' : tm[5]?.getD undef = .bool b := by simpa using h5
  simp [results, Tryz.results14, go_sem, p0, p1, p2, p3, p4, p5, p6, ha', hb']
theorem tok_ret_pOne {Q : Ending → World → Prop} {a : Act} {W : World} {R : Nat} {v0 v1 v2 v3 v4 v5 v6 : Value} {b : Bool} (ha : a.tmps.getD 4 undef = .pointer (some ⟨R, 0, none⟩)) (h5 : a.tmps.getD 5 undef = .bool b) (hd : a.defers = []) (hK : Blk W R 29 #[v0, v1, v2, v3, v4, v5, v6])
    (hQ : Q (.returned (.tuple #[.agg #[v0, v1, v2, v3, v4, v5, v6], .bool b])) W) : bodyPost Tryz.prog Tryz.f13 Q .ret a W := by
  have p0 : W.cell? ⟨R, 0, none⟩ = some v0 := hK.cell 0
  have p1 : W.cell? ⟨R, 1, none⟩ = some v1 := hK.cell 1
  have p2 : W.cell? ⟨R, 2, none⟩ = some v2 := hK.cell 2
  have p3 : W.cell? ⟨R, 3, none⟩ = some v3 := hK.cell 3
  have p4 : W.cell? ⟨R, 4, none⟩ = some v4 := hK.cell 4
  have p5 : W.cell? ⟨R, 5, none⟩ = some v5 := hK.cell 5
  have p6 : W.cell? ⟨R, 6, none⟩ = some v6 := hK.cell 6
  refine bodyPost_ret (v := .tuple #[.agg #[v0, v1, v2, v3, v4, v5, v6], .bool b]) ?_ hd hQ
  obtain ⟨tm, df⟩ := a
  dsimp only at ha h5 ⊢
  have ha' : tm[4]?.getD undef = .pointer (some ⟨R, 0, none⟩) := by simpa using ha
  have hb' : tm[5]?.getD undef = .bool b := by simpa using h5
  simp [results, Tryz.results13, go_sem, p0, p1, p2, p3, p4, p5, p6, ha', hb']
theorem pnext_out (s : ByteArray) (k : Int) (w : World) (h : k < 0 ∨ (s.size : Int) ≤ k) :
    Calls Tryz.prog 30 #[.string s, .int .i64 k] w fun e w' => e = .returned (.tuple #[.int .i64 0, .int .i64 0, .bool false]) ∧ w' = w := by
  by_cases h0 : k < 0
  · have hd : decide (k < 0) = true := decide_eq_true h0
    clear h
    go_enter Tryz.func30, Tryz.ntmps30
    go_wp2
    go_ret3
    exact ⟨rfl, rfl⟩
  · have hd : decide (k < 0) = false := decide_eq_false h0
    have h1 : (s.size : Int) ≤ k := by omega
    clear h h0
    go_enter Tryz.func30, Tryz.ntmps30
    go_wp2
    go_ret3
    exact ⟨rfl, rfl⟩

set_option maxHeartbeats 16000000 in
set_option maxRecDepth 20000 in
theorem refOne_any (s : ByteArray) (k : Int) (w : World) (hs : s.size ≤ 1000000000) :
    Calls Tryz.prog 14 #[.string s, .int .i64 k] w (OneR w (oneO s.data.toList k)) := by
  have HV := hide (fun W => refValid_any s W hs)
  have HPc := fun (n : Nat) W (h : n < s.size) => refPiece_any s n W h hs
  have hbadS : ∀ (a b : Nat) W, Calls Tryz.prog 26 #[.string (s.extract a b)] W fun e w' => e = .returned (.int .i64 (bad ((s.data.toList.drop a).take (b - a)))) ∧ w' = W := fun a b W => by
    have h := refBad_any (s.extract a b) W (by rw [extract_bstr, bstr_size, List.length_take, List.length_drop, size_list]; omega)
    rw [extract_bstr, bstr_list, ← extract_bstr] at h
    exact h
  obtain ⟨D, hD⟩ : ∃ D, s.data.toList = D := ⟨_, rfl⟩
  have hDl : D.length = s.size := by rw [← hD, size_list]
  have hidx : ∀ (k : Nat) (c : UInt8), D[k]? = some c → ∀ w, (Instr.index 9 (.string s) (.int .i64 (k : Int))).run Tryz.prog w = .ok (.int .u8 (c.toNat : Nat)) w := fun k c h => idx_run s k c (by rw [hD]; exact h)
  rw [hD] at HV HPc hbadS ⊢
  obtain ⟨o, ho⟩ : ∃ o, oneO D k = o := ⟨_, rfl⟩
  rw [ho]
  have HW1 := hide (Blk.new w 29 #[.int .i8 0, .string ⟨#[]⟩, .slice none 0 0, .bool false, .string ⟨#[]⟩, .int .i64 0, .int .i64 0])
  have HB1 := hide (below_alloc w (.cells #[.int .i8 0, .string ⟨#[]⟩, .slice none 0 0, .bool false, .string ⟨#[]⟩, .int .i64 0, .int .i64 0] 29))
  clear hD

  by_cases hk0 : k < 0
  · have Hr := hide (show o = none by rw [← ho, oneO_out (.inl hk0)])
    have hd : decide (k < 0) = true := decide_eq_true hk0
    clear ho hDl hidx HV HPc hbadS hk0
    go_enter Tryz.func14, Tryz.ntmps14
    iterate 14 go_step
    generalize w.alloc (.cells #[.int .i8 0, .string ⟨#[]⟩, .slice none 0 0, .bool false, .string ⟨#[]⟩, .int .i64 0, .int .i64 0] 29) = W1 at *
    generalize HR0 : w.heap.size = R at *
    have p0 := Blk.cell HW1.out 0
    have p1 := Blk.cell HW1.out 1
    have p2 := Blk.cell HW1.out 2
    have p3 := Blk.cell HW1.out 3
    have p4 := Blk.cell HW1.out 4
    have p5 := Blk.cell HW1.out 5
    have p6 := Blk.cell HW1.out 6
    have r := fun i => Blk.frozen HW1.out i
    go_wp2
    refine tok_ret_One14 rfl rfl rfl (put7_blk HW1.out _ _ _ _ _ _ _) ?_
    exact OneR.no' HR0 Hr.out (below_put7 HB1.out (Nat.le_refl R) _ _ _ _ _ _ _) rfl
  have hd : decide (k < 0) = false := decide_eq_false hk0
  by_cases hkl : (s.size : Int) ≤ k
  · have Hr := hide (show o = none by rw [← ho, oneO_out (.inr (by omega))])
    clear ho hDl hidx HV HPc hbadS hk0
    go_enter Tryz.func14, Tryz.ntmps14
    iterate 14 go_step
    generalize w.alloc (.cells #[.int .i8 0, .string ⟨#[]⟩, .slice none 0 0, .bool false, .string ⟨#[]⟩, .int .i64 0, .int .i64 0] 29) = W1 at *
    generalize HR0 : w.heap.size = R at *
    have p0 := Blk.cell HW1.out 0
    have p1 := Blk.cell HW1.out 1
    have p2 := Blk.cell HW1.out 2
    have p3 := Blk.cell HW1.out 3
    have p4 := Blk.cell HW1.out 4
    have p5 := Blk.cell HW1.out 5
    have p6 := Blk.cell HW1.out 6
    have r := fun i => Blk.frozen HW1.out i
    go_wp2
    refine tok_ret_One14 rfl rfl rfl (put7_blk HW1.out _ _ _ _ _ _ _) ?_
    exact OneR.no' HR0 Hr.out (below_put7 HB1.out (Nat.le_refl R) _ _ _ _ _ _ _) rfl
  obtain ⟨n, rfl⟩ : ∃ n : Nat, k = n := ⟨k.toNat, by omega⟩
  have hn : n < s.size := by omega
  have hn1 : n + 1 ≤ s.size := by omega
  obtain ⟨c, hc⟩ : ∃ c, D[n]? = some c := ⟨_, List.getElem?_eq_getElem (by rw [hDl]; exact hn)⟩
  have hix := hidx n c hc
  have hgb := Utf.goes_bits c
  have HP := hide (fun W => HPc n W hn)
  clear hidx HPc hk0
  cases hv : Utf.valid D with
  | false =>
    rw [hv] at HV
    have Hr := hide (show o = none by rw [← ho, oneO_bad hv])
    clear ho hDl hv hc HP hbadS hix hgb
    go_enter Tryz.func14, Tryz.ntmps14
    go_wp2_with fail
    refine (HV.out _).mono ?_
    rintro e w1 ⟨rfl, b1⟩
    have HW2 := hide (Blk.go HW1.out b1)
    have HB2 := hide (HB1.out.trans (b1.mono HB1.out.size))
    clear HW1 HB1 b1
    generalize HR0 : w.heap.size = R at *
    have p0 := Blk.cell HW2.out 0
    have p1 := Blk.cell HW2.out 1
    have p2 := Blk.cell HW2.out 2
    have p3 := Blk.cell HW2.out 3
    have p4 := Blk.cell HW2.out 4
    have p5 := Blk.cell HW2.out 5
    have p6 := Blk.cell HW2.out 6
    have r := fun i => Blk.frozen HW2.out i
    go_wp2
    refine tok_ret_One14 rfl rfl rfl (put7_blk HW2.out _ _ _ _ _ _ _) ?_
    exact OneR.no' HR0 Hr.out (below_put7 HB2.out (Nat.le_refl R) _ _ _ _ _ _ _) rfl
  | true =>
    rw [hv] at HV
    cases hg : Utf.goes c with
    | true =>
      rw [hg] at hgb
      have Hr := hide (show o = none by rw [← ho, oneO_mid hc hg])
      clear ho hDl hv hc HP hbadS hg
      go_enter Tryz.func14, Tryz.ntmps14
      go_wp2_with fail
      refine (HV.out _).mono ?_
      rintro e w1 ⟨rfl, b1⟩
      have HW2 := hide (Blk.go HW1.out b1)
      have HB2 := hide (HB1.out.trans (b1.mono HB1.out.size))
      clear HW1 HB1 b1
      generalize HR0 : w.heap.size = R at *
      have p0 := Blk.cell HW2.out 0
      have p1 := Blk.cell HW2.out 1
      have p2 := Blk.cell HW2.out 2
      have p3 := Blk.cell HW2.out 3
      have p4 := Blk.cell HW2.out 4
      have p5 := Blk.cell HW2.out 5
      have p6 := Blk.cell HW2.out 6
      have r := fun i => Blk.frozen HW2.out i
      go_wp2
      refine tok_ret_One14 rfl rfl rfl (put7_blk HW2.out _ _ _ _ _ _ _) ?_
      exact OneR.no' HR0 Hr.out (below_put7 HB2.out (Nat.le_refl R) _ _ _ _ _ _ _) rfl
    | false =>
      rw [hg] at hgb
      rw [oneO_at hv hc hg, one_piece] at ho
      obtain ⟨q, hq⟩ : ∃ q, Tk.piece n (D.drop n) = q := ⟨_, rfl⟩
      rw [hq] at ho HP
      have hdn : D.drop n ≠ [] := fun e => by have := congrArg List.length e; rw [List.length_drop, hDl] at this; simp at this; omega
      have HDl := hide hDl
      clear hv hg hc hDl
      go_enter Tryz.func14, Tryz.ntmps14
      go_wp2_with fail
      refine (HV.out _).mono ?_
      rintro e w1 ⟨rfl, b1⟩
      have HW2 := hide (Blk.go HW1.out b1)
      have HB2 := hide (HB1.out.trans (b1.mono HB1.out.size))
      clear HW1 HB1 b1
      generalize HR0 : w.heap.size = R at *
      cases q with
      | none =>
        have Hr := hide (show o = none by rw [← ho]; rfl)
        clear ho hq hbadS hdn
        go_wp2_with fail
        refine (HP.out _).mono ?_
        rintro e w3 ⟨b3, kd, nm, em, tx, a0, e0, rfl⟩
        have HW3 := hide (Blk.go HW2.out b3)
        have HB3 := hide (HB2.out.trans (b3.mono (by have := HB2.out.size; omega)))
        clear HW2 HB2 b3 HP
        have HW4 := hide (Blk.alloc HW3.out (.cells #[.int .i8 kd, .string nm, .slice none 0 0, .bool em, .string tx, .int .i64 a0, .int .i64 e0] 29))
        have HB4 := hide (HB3.out.alloc (by have := HB3.out.size; omega) (.cells #[.int .i8 kd, .string nm, .slice none 0 0, .bool em, .string tx, .int .i64 a0, .int .i64 e0] 29))
        skip
        have p0 := Blk.cell HW3.out 0
        have p1 := Blk.cell HW3.out 1
        have p2 := Blk.cell HW3.out 2
        have p3 := Blk.cell HW3.out 3
        have p4 := Blk.cell HW3.out 4
        have p5 := Blk.cell HW3.out 5
        have p6 := Blk.cell HW3.out 6
        have r := fun i => Blk.frozen HW3.out i
        have hRlt := HW3.out.lt
        go_wp2
        refine tok_ret_One14 rfl rfl rfl (Blk.alloc (put7_blk HW3.out _ _ _ _ _ _ _) _) ?_
        have HB5 := hide (below_put7 HB3.out (Nat.le_refl R) (.int .i8 0) (.string ⟨#[]⟩) (.slice none 0 0) (.bool false) (.string ⟨#[]⟩) (.int .i64 0) (.int .i64 0))
        exact OneR.no' HR0 Hr.out (HB5.out.alloc (by have := HB5.out.size; omega) _) rfl
      | some t =>
        obtain ⟨wd, rest, hwr, hwd, -⟩ := piece_word hdn hq
        have hte := hwd.end_eq
        have hwp := List.length_pos_iff.2 hwd.ne
        have hlen := congrArg List.length hwr
        rw [List.length_drop, HDl.out, List.length_append] at hlen
        have hts : t.end_ ≤ s.size := by omega
        have htn : n ≤ t.end_ := by omega
        have hb : 0 ≤ (n : Int) ∧ (n : Int) ≤ (t.end_ : Int) ∧ (t.end_ : Int) ≤ (s.size : Int) := by omega
        have HBa := hide (fun W => hbadS n t.end_ W)
        obtain ⟨tx, htx⟩ : ∃ tx, (D.drop n).take (t.end_ - n) = tx := ⟨_, rfl⟩
        have hbf := bad_fine tx
        rw [htx] at HBa
        have ho2 : (if fine tx = true then some t else none) = o := by rw [← ho, ← htx]; rfl
        obtain ⟨z, hz⟩ : ∃ z, bad tx = z := ⟨_, rfl⟩
        rw [hz] at HBa hbf
        clear ho hq hbadS hdn hwr hwd hte hwp hlen htx hz
        go_wp2_with fail
        refine (HP.out _).mono ?_
        rintro e w3 ⟨b3, A, cc, rfl, o3⟩
        have HW3 := hide (Blk.go HW2.out b3)
        have HB3 := hide (HB2.out.trans (b3.mono (by have := HB2.out.size; omega)))
        have HO3 := hide (o3.mono (base' := R) (by have := HB2.out.size; omega))
        clear HW2 HB2 b3 o3 HP
        unfold tokCells
        have HW4 := hide (Blk.alloc HW3.out (.cells #[.int .i8 t.kind, .string (bstr t.name), .slice A t.attrs.length cc, .bool t.empty, .string (bstr t.text), .int .i64 (t.at_ : Int), .int .i64 (t.end_ : Int)] 29))
        have HB4 := hide (HB3.out.alloc (by have := HB3.out.size; omega) (.cells #[.int .i8 t.kind, .string (bstr t.name), .slice A t.attrs.length cc, .bool t.empty, .string (bstr t.text), .int .i64 (t.at_ : Int), .int .i64 (t.end_ : Int)] 29))
        have HO4 := hide (HO3.out.alloc (.cells #[.int .i8 t.kind, .string (bstr t.name), .slice A t.attrs.length cc, .bool t.empty, .string (bstr t.text), .int .i64 (t.at_ : Int), .int .i64 (t.end_ : Int)] 29))
        have HT4 := hide (Blk.new w3 29 #[.int .i8 t.kind, .string (bstr t.name), .slice A t.attrs.length cc, .bool t.empty, .string (bstr t.text), .int .i64 (t.at_ : Int), .int .i64 (t.end_ : Int)])
        have y6 := Blk.cell HT4.out 6
        have p0 := Blk.cell HW4.out 0
        have p1 := Blk.cell HW4.out 1
        have p2 := Blk.cell HW4.out 2
        have p3 := Blk.cell HW4.out 3
        have p4 := Blk.cell HW4.out 4
        have p5 := Blk.cell HW4.out 5
        have p6 := Blk.cell HW4.out 6
        have r := fun i => Blk.frozen HW4.out i
        go_wp2_with fail
        refine (HBa.out _).mono ?_
        rintro e w5 ⟨rfl, hw5⟩
        subst w5
        generalize w3.alloc (.cells #[.int .i8 t.kind, .string (bstr t.name), .slice A t.attrs.length cc, .bool t.empty, .string (bstr t.text), .int .i64 (t.at_ : Int), .int .i64 (t.end_ : Int)] 29) = W4 at *
        generalize w3.heap.size = T at *
        have y0 := Blk.cell HT4.out 0
        have y1 := Blk.cell HT4.out 1
        have y2 := Blk.cell HT4.out 2
        have y3 := Blk.cell HT4.out 3
        have y4 := Blk.cell HT4.out 4
        have y5 := Blk.cell HT4.out 5
        cases hf : fine tx with
        | false =>
          rw [hf] at hbf ho2
          have Hr := hide (show o = none by rw [← ho2]; rfl)
          clear hf ho2
          go_wp2
          refine tok_ret_One14 rfl rfl rfl (put7_blk HW4.out _ _ _ _ _ _ _) ?_
          exact OneR.no' HR0 Hr.out (below_put7 HB4.out (Nat.le_refl R) _ _ _ _ _ _ _) rfl
        | true =>
          rw [hf] at hbf ho2
          have Hr := hide (show o = some t by rw [← ho2]; rfl)
          clear hf ho2
          go_wp2
          refine tok_ret_One14 rfl rfl rfl (put7_blk HW4.out _ _ _ _ _ _ _) ?_
          subst HR0
          exact OneR.yes Hr.out (below_put7 HB4.out (Nat.le_refl _) _ _ _ _ _ _ _) rfl (put7_own HO4.out (own_blk_ne HO4.out HW4.out (by decide)) _ _ _ _ _ _ _)

set_option maxHeartbeats 16000000 in
set_option maxRecDepth 20000 in
theorem pOne_any (s : ByteArray) (k : Int) (w : World) (hg : Gl w) (hw6 : 6 ≤ w.heap.size) (hs : s.size ≤ 1000000000) :
    Calls Tryz.prog 13 #[.string s, .int .i64 k] w (OneR w (oneO s.data.toList k)) := by
  have HV := hide (fun W => valid_any s W hs)
  obtain ⟨D, hD⟩ : ∃ D, s.data.toList = D := ⟨_, rfl⟩
  have hDl : D.length = s.size := by rw [← hD, size_list]
  have HN0 := fun (n : Nat) W (h : n < s.size) => pnext_any s n W h hs
  have HO0 := fun (n : Nat) W (hW : Below w.heap.size w W) (h : n < s.size) => one_any W s n (hg.below hW) (Nat.le_trans hw6 hW.size) h hs
  rw [hD] at HV HN0 HO0 ⊢
  obtain ⟨o, ho⟩ : ∃ o, oneO D k = o := ⟨_, rfl⟩
  rw [ho]
  have HW1 := hide (Blk.new w 29 #[.int .i8 0, .string ⟨#[]⟩, .slice none 0 0, .bool false, .string ⟨#[]⟩, .int .i64 0, .int .i64 0])
  have HB1 := hide (below_alloc w (.cells #[.int .i8 0, .string ⟨#[]⟩, .slice none 0 0, .bool false, .string ⟨#[]⟩, .int .i64 0, .int .i64 0] 29))
  clear hD
  by_cases hout : k < 0 ∨ (s.size : Int) ≤ k
  · have HN := hide (fun W => pnext_out s k W hout)
    have Hr := hide (show o = none by rw [← ho, oneO_out (by omega)])
    clear ho hDl HV HN0 HO0 hout
    go_enter Tryz.func13, Tryz.ntmps13
    go_wp2_with fail
    refine (HN.out _).mono ?_
    rintro e w1 ⟨rfl, hw1⟩
    subst w1
    generalize w.alloc (.cells #[.int .i8 0, .string ⟨#[]⟩, .slice none 0 0, .bool false, .string ⟨#[]⟩, .int .i64 0, .int .i64 0] 29) = W1 at *
    generalize HR0 : w.heap.size = R at *
    have p0 := Blk.cell HW1.out 0
    have p1 := Blk.cell HW1.out 1
    have p2 := Blk.cell HW1.out 2
    have p3 := Blk.cell HW1.out 3
    have p4 := Blk.cell HW1.out 4
    have p5 := Blk.cell HW1.out 5
    have p6 := Blk.cell HW1.out 6
    have r := fun i => Blk.frozen HW1.out i
    go_wp2
    refine tok_ret_pOne rfl rfl rfl (put7_blk HW1.out _ _ _ _ _ _ _) ?_
    exact OneR.no' HR0 Hr.out (below_put7 HB1.out (Nat.le_refl R) _ _ _ _ _ _ _) rfl
  obtain ⟨n, rfl⟩ : ∃ n : Nat, k = n := ⟨k.toNat, by omega⟩
  have hn : n < s.size := by omega
  obtain ⟨c, hc⟩ : ∃ c, D[n]? = some c := ⟨_, List.getElem?_eq_getElem (by rw [hDl]; exact hn)⟩
  have HN := hide (fun W => HN0 n W hn)
  have HO := hide (fun W hW => HO0 n W hW hn)
  have hva := fun hv => Utf.valid_at (l := D) hv hc
  unfold nextV at HN
  obtain ⟨f, hf⟩ : ∃ f, Utf.piece (D.drop n) = f := ⟨_, rfl⟩
  rw [hf] at HN
  rw [hf] at hva
  clear HN0 HO0 hout
  by_cases hf0 : f.1 < 0
  · rw [if_pos hf0] at HN
    have Hr := hide (show o = none by
      cases hv : Utf.valid D with
      | false => rw [← ho, oneO_bad hv]
      | true => rw [← ho, oneO_mid hc ((hva hv).1 hf0)])
    clear ho hDl HV HO hva hf hf0 hc
    go_enter Tryz.func13, Tryz.ntmps13
    go_wp2_with fail
    refine (HN.out _).mono ?_
    rintro e w1 ⟨rfl, hw1⟩
    subst w1
    generalize w.alloc (.cells #[.int .i8 0, .string ⟨#[]⟩, .slice none 0 0, .bool false, .string ⟨#[]⟩, .int .i64 0, .int .i64 0] 29) = W1 at *
    generalize HR0 : w.heap.size = R at *
    have p0 := Blk.cell HW1.out 0
    have p1 := Blk.cell HW1.out 1
    have p2 := Blk.cell HW1.out 2
    have p3 := Blk.cell HW1.out 3
    have p4 := Blk.cell HW1.out 4
    have p5 := Blk.cell HW1.out 5
    have p6 := Blk.cell HW1.out 6
    have r := fun i => Blk.frozen HW1.out i
    go_wp2
    refine tok_ret_pOne rfl rfl rfl (put7_blk HW1.out _ _ _ _ _ _ _) ?_
    exact OneR.no' HR0 Hr.out (below_put7 HB1.out (Nat.le_refl R) _ _ _ _ _ _ _) rfl
  rw [if_neg hf0] at HN
  cases hv : Utf.valid D with
  | false =>
    rw [hv] at HV
    have Hr := hide (show o = none by rw [← ho, oneO_bad hv])
    clear ho hDl HO hva hf hf0 hc hv
    go_enter Tryz.func13, Tryz.ntmps13
    go_wp2_with fail
    refine (HN.out _).mono ?_
    rintro e w1 ⟨rfl, hw1⟩
    subst w1
    go_wp2_with fail
    refine (HV.out _).mono ?_
    rintro e w1 ⟨rfl, b1⟩
    have HW2 := hide (Blk.go HW1.out b1)
    have HB2 := hide (HB1.out.trans (b1.mono HB1.out.size))
    clear HW1 HB1 b1
    generalize HR0 : w.heap.size = R at *
    have p0 := Blk.cell HW2.out 0
    have p1 := Blk.cell HW2.out 1
    have p2 := Blk.cell HW2.out 2
    have p3 := Blk.cell HW2.out 3
    have p4 := Blk.cell HW2.out 4
    have p5 := Blk.cell HW2.out 5
    have p6 := Blk.cell HW2.out 6
    have r := fun i => Blk.frozen HW2.out i
    go_wp2
    refine tok_ret_pOne rfl rfl rfl (put7_blk HW2.out _ _ _ _ _ _ _) ?_
    exact OneR.no' HR0 Hr.out (below_put7 HB2.out (Nat.le_refl R) _ _ _ _ _ _ _) rfl
  | true =>
    rw [hv] at HV
    have hgo : Utf.goes c = false := by rw [Bool.eq_false_iff]; exact fun h => hf0 ((hva hv).2 h)
    rw [oneO_at hv hc hgo] at ho
    rw [ho] at HO
    clear ho hDl hva hf hf0 hc hv hgo
    go_enter Tryz.func13, Tryz.ntmps13
    go_wp2_with fail
    refine (HN.out _).mono ?_
    rintro e w1 ⟨rfl, hw1⟩
    subst w1
    go_wp2_with fail
    refine (HV.out _).mono ?_
    rintro e w1 ⟨rfl, b1⟩
    have HW2 := hide (Blk.go HW1.out b1)
    have HB2 := hide (HB1.out.trans (b1.mono HB1.out.size))
    clear HW1 HB1 b1
    have HOc := hide (HO.out _ HB2.out)
    clear HO
    generalize HR0 : w.heap.size = R at *
    cases o with
    | none =>
      have Hr := hide (show Nat.le 0 0 from Nat.le_refl 0)
      go_wp2_with fail
      refine HOc.out.mono ?_
      rintro e w3 ⟨b3, rfl⟩
      have HW3 := hide (Blk.go HW2.out b3)
      have HB3 := hide (HB2.out.trans (b3.mono (by have := HB2.out.size; omega)))
      clear HW2 HB2 b3 HOc
      unfold zeroTok
      have p0 := Blk.cell HW3.out 0
      have p1 := Blk.cell HW3.out 1
      have p2 := Blk.cell HW3.out 2
      have p3 := Blk.cell HW3.out 3
      have p4 := Blk.cell HW3.out 4
      have p5 := Blk.cell HW3.out 5
      have p6 := Blk.cell HW3.out 6
      have r := fun i => Blk.frozen HW3.out i
      go_wp2
      refine tok_ret_pOne rfl rfl rfl (put7_blk HW3.out _ _ _ _ _ _ _) ?_
      exact OneR.no' HR0 rfl (below_put7 HB3.out (Nat.le_refl R) _ _ _ _ _ _ _) rfl
    | some t =>
      go_wp2_with fail
      refine HOc.out.mono ?_
      rintro e w3 ⟨b3, A, cc, rfl, o3⟩
      have HW3 := hide (Blk.go HW2.out b3)
      have HB3 := hide (HB2.out.trans (b3.mono (by have := HB2.out.size; omega)))
      have HO3 := hide (o3.mono (base' := R) (by have := HB2.out.size; omega))
      clear HW2 HB2 b3 HOc o3
      unfold tokCells
      have p0 := Blk.cell HW3.out 0
      have p1 := Blk.cell HW3.out 1
      have p2 := Blk.cell HW3.out 2
      have p3 := Blk.cell HW3.out 3
      have p4 := Blk.cell HW3.out 4
      have p5 := Blk.cell HW3.out 5
      have p6 := Blk.cell HW3.out 6
      have r := fun i => Blk.frozen HW3.out i
      go_wp2
      refine tok_ret_pOne rfl rfl rfl (put7_blk HW3.out _ _ _ _ _ _ _) ?_
      subst HR0
      exact OneR.yes rfl (below_put7 HB3.out (Nat.le_refl _) _ _ _ _ _ _ _) rfl (put7_own HO3.out (own_blk_ne HO3.out HW3.out (by decide)) _ _ _ _ _ _ _)
end Go.Proofs.YtbnaphbmmkmaeaaGreatDoor
namespace Go.Proofs.YtbnaphbmmkmaeaaGreatDoor
open Go.RowKit Tk

/-- A slice's array lies at block B or behind it. -/
def Above (B : Nat) (A : Option Addr) : Prop := ∀ a, A = some a → B ≤ a.block
theorem Above.more {B B' : Nat} {A : Option Addr} (h : Above B A) (hB : B' ≤ B) : Above B' A := fun a ha => Nat.le_trans hB (h a ha)
theorem above_own {w : World} {B e size n c : Nat} {A : Option Addr} {xs : List Value} (h : w.ownsRow B e size (.slice A n c) n xs) : Above B A := by
  intro a ha
  subst ha
  rcases h.2 with ⟨h1, _⟩ | ⟨g, cap, cur, hv, hb, _⟩
  · cases h1
  · cases hv; exact hb
def Typed (w : World) (A : Option Addr) (t : TypeId) : Prop := ∀ a, A = some a → IsT w a.block t
theorem typed_own {w : World} {B e size n c : Nat} {A : Option Addr} {xs : List Value} (h : w.ownsRow B e size (.slice A n c) n xs) : Typed w A e := by
  intro a ha
  subst ha
  rcases h.2 with ⟨h1, _⟩ | ⟨g, cap, cur, hv, hb, hh, _⟩
  · cases h1
  · cases hv; exact ⟨_, _, hh⟩
theorem Typed.below {w w' : World} {A : Option Addr} {t : TypeId} (h : Typed w A t) (hb : Below w.heap.size w w') : Typed w' A t := fun a ha => by
  obtain ⟨cs, fr, hh⟩ := h a ha
  exact ⟨cs, fr, (hb.block _ (h a ha).lt).trans hh⟩
theorem own_cap {w : World} {B e size n c : Nat} {A : Option Addr} {xs : List Value} (h : w.ownsRow B e size (.slice A n c) n xs) : n ≤ c := by
  rcases h.2 with ⟨h1, _⟩ | ⟨g, cap, cur, hv, hb, hh, hrest⟩
  · cases h1; omega
  · cases hv; exact hrest.1
theorem isT_ne {w : World} {k t t' : Nat} (h : IsT w k t) (h' : IsT w k t') (hne : t ≠ t') : False := by
  obtain ⟨cs, fr, h1⟩ := h
  obtain ⟨cs', fr', h2⟩ := h'
  rw [h1] at h2
  injection h2 with h2
  injection h2 with _ h3
  exact hne h3
/-- A token and where its attributes lie. -/
structure Tv where
  t : Tok
  A : Option Addr
  c : Nat
def Tv.row (x : Tv) : List Value := tokCells x.t (.slice x.A x.t.attrs.length x.c) x.t.end_
def tvRows (xs : List Tv) : List Value := xs.flatMap Tv.row
theorem tvRows_snoc (xs : List Tv) (x : Tv) : tvRows (xs ++ [x]) = tvRows xs ++ x.row := by simp [tvRows]
theorem tvRows_length (xs : List Tv) : (tvRows xs).length = xs.length * 7 := by
  induction xs with
  | nil => rfl
  | cons x xs ih => unfold tvRows at ih ⊢; rw [List.flatMap_cons, List.length_append, ih, List.length_cons]; simp [Tv.row, tokCells]; omega
theorem tv_one (x : Tv) : ∀ u ∈ x.row, u.oneCell' = true := by
  intro u hu
  simp only [Tv.row, tokCells, List.mem_cons, List.not_mem_nil, or_false] at hu
  rcases hu with rfl | rfl | rfl | rfl | rfl | rfl | rfl <;> rfl
theorem info_tok : (Tryz.prog.info? 29).map (fun i => (i.zero, i.size, i.bytes)) = some (some (.agg #[.int .i8 0, .string ⟨#[]⟩, .slice none 0 0, .bool false, .string ⟨#[]⟩, .int .i64 0, .int .i64 0]), 7, 88) := by kernel_rfl
theorem attrVs_length (l : List At) : (attrVs l).length = l.length * 3 := by
  induction l with
  | nil => rfl
  | cons x xs ih => unfold attrVs at ih ⊢; rw [List.flatMap_cons, List.length_append, ih, List.length_cons]; simp; omega
/-- The row that a token's attributes lead to. -/
structure Tv.In (x : Tv) (B : Nat) (W : World) : Prop where
  a : Reads W W.heap.size 3 x.A x.t.attrs.length (attrVs x.t.attrs)
  va : Above B x.A
  ta : Typed W x.A 58
theorem Reads.same {w w' : World} {B B' size n : Nat} {A : Option Addr} {xs : List Value} (h : Reads w B size A n xs) (hk : ∀ a, A = some a → w'.heap[a.block]? = w.heap[a.block]?) (hB : B ≤ B') : Reads w' B' size A n xs :=
  ⟨h.1, fun hn => by
    obtain ⟨b, off, e, hb, hc⟩ := h.2 hn
    exact ⟨b, off, e, by omega, fun j u hu => (World.cell?_of_block (a := ⟨b, off + j, none⟩) (hk ⟨b, off, none⟩ e)).trans (hc j u hu)⟩⟩
theorem Typed.same {w w' : World} {A : Option Addr} {t : TypeId} (h : Typed w A t) (hk : ∀ a, A = some a → w'.heap[a.block]? = w.heap[a.block]?) : Typed w' A t := fun a ha => by
  obtain ⟨cs, fr, hh⟩ := h a ha
  exact ⟨cs, fr, (hk a ha).trans hh⟩
theorem Tv.In.turn {x : Tv} {B : Nat} {W W' : World} (h : x.In B W) (hk : ∀ k, B ≤ k → k < W.heap.size → ¬ IsT W k 29 → W'.heap[k]? = W.heap[k]?) (hs : W.heap.size ≤ W'.heap.size) : x.In B W' := by
  have sa : ∀ a, x.A = some a → W'.heap[a.block]? = W.heap[a.block]? := fun a ha => hk _ (h.va a ha) (h.ta a ha).lt fun h2 => isT_ne (h.ta a ha) h2 (by decide)
  exact ⟨h.a.same sa hs, h.va, h.ta.same sa⟩
theorem Tv.In.below {x : Tv} {B : Nat} {W W' : World} (h : x.In B W) (hb : Below W.heap.size W W') : x.In B W' := h.turn (fun k _ h2 _ => hb.block k h2) hb.size
theorem Tv.In.more {x : Tv} {B B' : Nat} {W : World} (h : x.In B W) (hB : B' ≤ B) : x.In B' W := ⟨h.a, h.va.more hB, h.ta⟩
theorem Tv.In.of_own {w : World} {base : Nat} {t : Tok} {A : Option Addr} {c : Nat} (h : w.ownsRow base 58 3 (.slice A t.attrs.length c) t.attrs.length (attrVs t.attrs)) : (Tv.mk t A c).In base w := ⟨Reads.of_own h, above_own h, typed_own h⟩
theorem Tv.In.grown {x : Tv} {B base n c : Nat} {A : Option Addr} {W w8 : World} {cs : List Value} {o : Obj} (h : x.In B W) (hr : W.ownsRow base 29 7 (.slice A n c) n cs) (hg : (W.alloc o).drew.grownBy w8 (Value.slice A n c).ownBlock) : x.In B w8 := by
  refine (h.below (below_alloc W o)).turn (fun k _ hk hT => ?_) hg.size
  refine (hg.block k hk fun e => ?_)
  obtain ⟨cs, fr, hh⟩ := (own_isT hr k e.symm).2
  have hlt := (own_isT hr k e.symm).2.lt
  exact hT ⟨cs, fr, (Below.heap_alloc _ _ _ hlt).trans hh⟩
/-- What All leaves. -/
def TksR (w : World) (s : L) (e : Ending) (w' : World) : Prop :=
  ∃ (xs : List Tv) (A : Option Addr) (c n : Nat) (ok : Bool), AllP s (xs.map (·.t)) n ok ∧ xs.length ≤ s.length ∧ xs.length ≤ c ∧ e = .returned (.tuple #[.slice A xs.length c, .int .i64 (n : Int), .bool ok]) ∧
    Below w.heap.size w w' ∧ Reads w' w'.heap.size 7 A xs.length (tvRows xs) ∧ Above w.heap.size A ∧ Typed w' A 29 ∧ ∀ x ∈ xs, x.In w.heap.size w'
/-- A round of All: one more token. -/
theorem row_next {D : L} {p : Nat} {ts : List Tok} {t : Tok} (h : Row 0 (D.take p) (D.drop p) ts) (hp : p < D.length) (ho : Tk.one p (D.drop p) = some t) : p < t.end_ ∧ t.end_ ≤ D.length ∧ Row 0 (D.take t.end_) (D.drop t.end_) (ts ++ [t]) := by
  have hl : (D.take p).length = p := by rw [List.length_take]; omega
  obtain ⟨w, rest, e, hw, hf, hk⟩ := one_word (by intro e; have := congrArg List.length e; rw [List.length_drop] at this; simp at this; omega) ho
  have h0 := List.length_pos_iff.2 hw.ne
  have he := hw.end_eq
  have hle : (D.drop p).length = D.length - p := List.length_drop ..
  rw [e, List.length_append] at hle
  have e1 : D = D.take p ++ (w ++ rest) := by rw [← e, List.take_append_drop]
  have hpw : (D.take p ++ w).length = t.end_ := by rw [List.length_append, hl, he]
  have e2 : D.take t.end_ = D.take p ++ w := by
    conv => lhs; rw [e1, ← List.append_assoc, ← hpw]
    rw [List.take_left]
  have e3 : D.drop t.end_ = rest := by
    conv => lhs; rw [e1, ← List.append_assoc, ← hpw]
    rw [List.drop_left]
  refine ⟨by omega, by omega, ?_⟩
  rw [e2, e3]
  refine Row.join (by rw [← e]; exact h) ?_
  have := Row.cons (0 + (D.take p).length) w t [] rest [] (by rw [Nat.zero_add, hl]; exact hw) hf (by simpa using hk) (.nil _ _)
  simpa using this
theorem row_len {at_ : Nat} {w rest : L} {ts : List Tok} (h : Row at_ w rest ts) : ts.length ≤ w.length := by
  induction h with
  | nil => exact Nat.le_refl _
  | cons at_ w t w2 rest ts hw hf hk _ ih =>
    have h0 := List.length_pos_iff.2 hw.ne
    rw [List.length_cons, List.length_append]
    omega
end Go.Proofs.YtbnaphbmmkmaeaaGreatDoor
namespace Go.Proofs.YtbnaphbmmkmaeaaGreatDoor
open Go.RowKit Tk

set_option maxHeartbeats 8000000 in
set_option maxRecDepth 20000 in
theorem tks_any (w : World) (s : ByteArray) (hg : Gl w) (hw6 : 6 ≤ w.heap.size) (hs : s.size ≤ 1000000) :
    Calls Tryz.prog 11 #[.string s] w (TksR w s.data.toList) := by
  have HV := hide (fun W => valid_any s W (by omega))
  obtain ⟨D, hD⟩ : ∃ D, s.data.toList = D := ⟨_, rfl⟩
  have HD := hide hD
  have HDl := hide (show D.length = s.size by rw [← hD, size_list])
  have HO := hide (fun W k (h1 : Gl W) (h2 : 6 ≤ W.heap.size) (h3 : k < s.size) => one_any W s k h1 h2 h3 (by omega))
  rw [hD] at HV HO ⊢
  clear hD
  have HG := hide hg
  clear hg
  cases hv : Utf.valid D with
  | false =>
    rw [hv] at HV
    have HP := hide (show AllP D (([] : List Tv).map (·.t)) 0 false by unfold AllP; rw [if_neg (by rw [hv]; simp)]; exact ⟨rfl, rfl, rfl⟩)
    clear hv HO
    go_enter Tryz.func11, Tryz.ntmps11
    go_wp2
    go_step3
    go_wp2_with fail
    refine (HV.out _).mono ?_
    rintro e w1 ⟨rfl, b1⟩
    have B1 := hide b1
    clear b1
    go_wp2
    rw [Exit.noGoto_ret]
    go_ret3
    exact ⟨[], none, 0, 0, false, HP.out, by simp, by simp, rfl, B1.out, Reads.none_, (fun a h => by cases h), (fun a h => by cases h), (fun x hx => by cases hx)⟩
  | true =>
    rw [hv] at HV
    have Hv := hide hv
    clear hv
    go_enter Tryz.func11, Tryz.ntmps11
    go_wp2
    go_step3
    go_wp2_with fail
    refine (HV.out _).mono ?_
    rintro e w1 ⟨rfl, b1⟩
    have B1 := hide b1
    clear b1 HV
    go_wp2
    go_step3
    go_wp2
    go_loopg [2, 3] s.size (fun g vl va wr => ∃ (p : Nat) (xs : List Tv) (A : Option Addr) (c : Nat), g = s.size - p ∧ p ≤ s.size ∧ va = .int .i64 (p : Int) ∧ vl = .slice A xs.length c ∧
      wr.ownsRow w.heap.size 29 7 (.slice A xs.length c) xs.length (tvRows xs) ∧ (∀ x ∈ xs, x.In w.heap.size wr) ∧ Below w.heap.size w wr ∧ Row 0 (D.take p) (D.drop p) (xs.map (·.t)))
    case atStart => exact ⟨0, [], none, 0, rfl, by omega, rfl, rfl, World.ownsRow_nil _ _ _ _, (fun x hx => by cases hx), B1.out, .nil _ _⟩
    case round =>
      obtain ⟨p, xs, A, c, hgg, hp, rfl, rfl, hrow, hi, hB, hR⟩ := hrel
      have Hg := hide hgg
      have Hrow := hide hrow
      have Hi := hide hi
      have HB := hide hB
      have HR := hide hR
      clear hgg hrow hi hB hR B1
      by_cases hlt : p < s.size
      · have hone := HO.out wr p (HG.out.below HB.out) (by have := HB.out.size; omega) hlt
        cases ho : Tk.one p (D.drop p) with
        | none =>
          rw [ho] at hone
          have HX := hide (show Calls Tryz.prog 28 #[.string s, .int .i64 (p : Int)] wr fun e w' => Below wr.heap.size wr w' ∧ e = .returned (.tuple #[.agg #[.int .i8 0, .string ⟨#[]⟩, .slice none 0 0, .bool false, .string ⟨#[]⟩, .int .i64 0, .int .i64 0], .bool false]) from hone)
          have HP := hide (show AllP D (xs.map (·.t)) p ((p : Int) == (s.size : Int)) by
            unfold AllP
            rw [if_pos Hv.out]
            have hl : (D.take p).length = p := by rw [List.length_take, HDl.out]; omega
            refine ⟨_, _, (List.take_append_drop p D).symm, HR.out, .inr (by rw [hl]; exact ho), hl.symm, ?_⟩
            have e1 : (D.drop p).isEmpty = false := by
              rw [Bool.eq_false_iff]
              intro e
              have := congrArg List.length (List.isEmpty_iff.1 e)
              rw [List.length_drop, HDl.out] at this
              simp at this
              omega
            rw [e1, beq_eq_false_iff_ne]
            omega)
          have Hlen := hide (show xs.length ≤ D.length by have := row_len HR.out; rw [List.length_map, List.length_take] at this; omega)
          clear hone ho HO HR
          go_wp2_with fail
          refine HX.out.mono ?_
          rintro e w2 ⟨b2, rfl⟩
          have B2 := hide (b2.alloc b2.size (.cells #[.int .i8 0, .string ⟨#[]⟩, .slice none 0 0, .bool false, .string ⟨#[]⟩, .int .i64 0, .int .i64 0] 29))
          clear b2
          have Own2 := hide (own_below Hrow.out B2.out)
          have In2 := hide (fun x hx => (Hi.out x hx).below B2.out)
          have HB2 := hide (HB.out.trans (B2.out.mono HB.out.size))
          go_wp2
          rw [Exit.noGoto_ret]
          go_ret3
          exact ⟨xs, A, c, p, _, HP.out, Hlen.out, own_cap Hrow.out, rfl, HB2.out, Reads.of_own Own2.out, above_own Own2.out, typed_own Own2.out, In2.out⟩
        | some t =>
          rw [ho] at hone
          have HX := hide (show Calls Tryz.prog 28 #[.string s, .int .i64 (p : Int)] wr fun e w' => Below wr.heap.size wr w' ∧ ∃ A c, e = .returned (.tuple #[.agg #[.int .i8 t.kind, .string (bstr t.name), .slice A t.attrs.length c, .bool t.empty, .string (bstr t.text), .int .i64 (t.at_ : Int), .int .i64 (t.end_ : Int)], .bool true]) ∧
            w'.ownsRow wr.heap.size 58 3 (.slice A t.attrs.length c) t.attrs.length (attrVs t.attrs) from hone)
          have HN := hide (row_next HR.out (by rw [HDl.out]; exact hlt) ho)
          have Hlen := hide (show xs.length ≤ D.length by have := row_len HR.out; rw [List.length_map, List.length_take] at this; omega)
          clear hone ho HO HR
          go_wp2_with fail
          refine HX.out.mono ?_
          rintro e w2 ⟨b2, A2, c2, rfl, o2⟩
          have B2 := hide b2
          have N2 := hide (Tv.In.of_own o2)
          have Own2 := hide (own_below Hrow.out b2)
          have In2 := hide (fun x hx => (Hi.out x hx).below b2)
          have HB2 := hide (HB.out.trans (b2.mono HB.out.size))
          have Own3 := hide (Own2.out.alloc (.cells #[.int .i8 t.kind, .string (bstr t.name), .slice A2 t.attrs.length c2, .bool t.empty, .string (bstr t.text), .int .i64 (t.at_ : Int), .int .i64 (t.end_ : Int)] 29))
          have In3 := hide (fun x hx => (In2.out x hx).below (below_alloc w2 (.cells #[.int .i8 t.kind, .string (bstr t.name), .slice A2 t.attrs.length c2, .bool t.empty, .string (bstr t.text), .int .i64 (t.at_ : Int), .int .i64 (t.end_ : Int)] 29)))
          have N3 := hide ((N2.out.below (below_alloc w2 (.cells #[.int .i8 t.kind, .string (bstr t.name), .slice A2 t.attrs.length c2, .bool t.empty, .string (bstr t.text), .int .i64 (t.at_ : Int), .int .i64 (t.end_ : Int)] 29))).more HB.out.size)
          have HB3 := hide (HB2.out.alloc HB2.out.size (.cells #[.int .i8 t.kind, .string (bstr t.name), .slice A2 t.attrs.length c2, .bool t.empty, .string (bstr t.text), .int .i64 (t.at_ : Int), .int .i64 (t.end_ : Int)] 29))
          have V3 := hide (Blk.new w2 29 #[.int .i8 t.kind, .string (bstr t.name), .slice A2 t.attrs.length c2, .bool t.empty, .string (bstr t.text), .int .i64 (t.at_ : Int), .int .i64 (t.end_ : Int)])
          have HVn := hide (show (Value.slice A xs.length c).ownBlock ≠ some w2.heap.size from fun e => by have := (Own2.out.lt _ e).2; omega)
          have Hxl := hide (show xs.length ≤ 1000000 by have := Hlen.out; have := HDl.out; omega)
          clear b2 o2 N2 Own2 In2 HB2 B2
          go_wp2
          generalize w2.alloc (.cells #[.int .i8 t.kind, .string (bstr t.name), .slice A2 t.attrs.length c2, .bool t.empty, .string (bstr t.text), .int .i64 (t.at_ : Int), .int .i64 (t.end_ : Int)] 29) = W3 at *
          generalize w2.heap.size = V at *
          have y0 := V3.out.cell 0
          have y1 := V3.out.cell 1
          have y2 := V3.out.cell 2
          have y3 := V3.out.cell 3
          have y4 := V3.out.cell 4
          have y5 := V3.out.cell 5
          have y6 := V3.out.cell 6
          have xa : ∀ o, (W3.alloc o).cell? ⟨V, 6, none⟩ = some (.int .i64 (t.end_ : Int)) := fun o => (V3.out.alloc o).cell 6
          go_region_law
            (show if Region.wanted (⟨some 25, _, _, _, _, _⟩ : Oper) _ = true then _ else _; refine step_append_elem _ (by rfl) _ _ _ (by rfl) w.heap.size 29 _ 7 88 Tryz.underlying23 info_tok (by rfl) (by omega) (.slice A xs.length c) xs.length (tvRows xs) (by rfl) (by first | exact Own3.out.alloc _ | exact (Own3.out.alloc _).drew) (Tv.row ⟨t, A2, c2⟩) rfl (tv_one ⟨t, A2, c2⟩) W3.heap.size (by first | exact Blk.new W3 29 _ | exact (Blk.new W3 29 _).drew) (by rfl) (by unfold maxLen; have := Hxl.out; omega) (by have := Hxl.out; omega) (by have := HB3.out.size; simp [World.drew]; omega) ?_; intro gg cap w8 hown8 hgrow8 hlt8; have V8 := hide (Blk.grown (Blk.drew (Blk.alloc V3.out (.cells (Tv.row ⟨t, A2, c2⟩).toArray 29))) hgrow8 HVn.out.symm); have z6 : w8.cell? ⟨V, 6, none⟩ = some (.int .i64 (t.end_ : Int)) := V8.out.cell 6; have Hgrow8 := hide hgrow8; have Hown8 := hide hown8; clear hown8 hgrow8 hlt8)
          all_goals go_wp2
          all_goals
            have HBA := hide ((HB3.out.alloc HB3.out.size (.cells (Tv.row ⟨t, A2, c2⟩).toArray 29)).drew)
            have HB8 := hide (HBA.out.grown Hgrow8.out HBA.out.size fun j e => (own_isT Own3.out j e).1)
            have In8 := hide (show ∀ x ∈ xs ++ [Tv.mk t A2 c2], x.In w.heap.size w8 from fun x hx => by
              rcases List.mem_append.1 hx with hx | hx
              · exact (In3.out x hx).grown Own3.out Hgrow8.out
              · simp only [List.mem_singleton] at hx
                subst hx
                exact N3.out.grown Own3.out Hgrow8.out)
            go_roundg (s.size - t.end_)
            case measure => have := Hg.out; have := HN.out.1; have := HN.out.2.1; have := HDl.out; omega
            case rel => exact ⟨t.end_, xs ++ [⟨t, A2, c2⟩], some ⟨gg, 0, none⟩, cap, rfl, by have := HN.out.2.1; have := HDl.out; omega, rfl, by rw [List.length_append]; rfl, by rw [List.length_append, tvRows_snoc]; exact Hown8.out, In8.out, HB8.out, by rw [List.map_append]; exact HN.out.2.2⟩
      · have hpe : p = s.size := by omega
        subst hpe
        have HP := hide (show AllP D (xs.map (·.t)) s.size true by
          unfold AllP
          rw [if_pos Hv.out]
          refine ⟨D, [], (List.append_nil _).symm, ?_, .inl rfl, HDl.out.symm, rfl⟩
          have h := HR.out
          rw [List.take_of_length_le (by rw [HDl.out]; exact Nat.le_refl _), List.drop_of_length_le (by rw [HDl.out]; exact Nat.le_refl _)] at h
          exact h)
        have Hlen := hide (show xs.length ≤ D.length by have := row_len HR.out; rw [List.length_map, List.length_take] at this; omega)
        go_wp2
        rw [Exit.noGoto_ret]
        go_ret3
        exact ⟨xs, A, c, s.size, _, HP.out, Hlen.out, own_cap Hrow.out, rfl, HB.out, Reads.of_own Hrow.out, above_own Hrow.out, typed_own Hrow.out, Hi.out⟩
end Go.Proofs.YtbnaphbmmkmaeaaGreatDoor
