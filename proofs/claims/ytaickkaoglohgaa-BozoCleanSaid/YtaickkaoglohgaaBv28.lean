/- References: the program's Loose of any text; the parser's loose. · Bozo: says. · Bozo: an attribute's value. · Bozo: what a name declares. -/
import Derived.Test.YtaickkaoglohgaaBv27
import Derived.BigQuiet
set_option linter.unusedSimpArgs false
set_option linter.unusedVariables false
namespace Go.Proofs.Ytaickkaoglohgaa
open Go.RowKit Tk Sx

theorem rps_noref {f k : Nat} {l : L} (h : (38 : UInt8) ∉ l) : ∀ x ∈ rps f k l, x.ref = false := by
  intro x hx
  cases f with
  | zero => simp [rps] at hx
  | succ f =>
    by_cases h0 : l = []
    · subst h0; rw [rps_nil] at hx; cases hx
    have hn : Lib.indexByte l 38 < 0 := by
      by_cases hn : Lib.indexByte l 38 < 0
      · exact hn
      · exact absurd ((in_byteB 38 l).1 (by omega)) h
    rw [rps_rest h0 hn] at hx
    simp only [List.mem_singleton] at hx
    rw [hx]
theorem bloose_plain (t : L) (a : Nat) (w : World) (ht : t.length ≤ 1000000) (ha : a ≤ 200000000) (hg : Gm w) (h38 : (38 : UInt8) ∉ t) :
    Calls Try.prog 53 #[.string (bstr t), .int .i64 (a : Int)] w fun e w' => e = .returned (.tuple #[.string (bstr t), .slice none 0 0]) ∧ Below w.heap.size w w' := by
  have hsz : (bstr t).size = t.length := bstr_size t
  have h := bloose_gen (bstr t) a w (by omega) ha hg (fun x hx hr => by rw [bstr_list] at hx; rw [rps_noref h38 x hx] at hr; cases hr)
  have hl := Bz.loose_is a t.length 0 t t.length (Nat.le_refl _) (Nat.le_refl _)
  have hp := Bz.loose_plain t 0 (a + 0) [] h38
  rw [List.append_nil, Bz.loose_nil, List.append_nil, Nat.add_zero] at hp
  rw [Nat.add_zero] at hp
  rw [Nat.add_zero, hp] at hl
  injection hl with h1 h2
  rw [bstr_list, hsz, ← h1, ← h2] at h
  refine h.mono ?_
  rintro e w' ⟨A, c, rfl, hb, hn, -⟩
  obtain ⟨rfl, rfl⟩ := hn rfl
  exact ⟨rfl, hb⟩
theorem bloose_any (l : L) (a : Nat) (w : World) (hl : l.length ≤ 900000) (ha : a ≤ 100000000) (hg : Gm w) :
    Calls Try.prog 53 #[.string (bstr l), .int .i64 (a : Int)] w (LooseR w (Bz.loose l.length a l).1 (Bz.loose l.length a l).2) := by
  have hsz : (bstr l).size = l.length := bstr_size l
  have h := bloose_gen (bstr l) a w (by omega) (by omega) hg (fun x hx hr a' W ha' hW => by
    rw [bstr_list] at hx
    obtain ⟨h1, h2, -, -⟩ := Bz.rps_in _ _ _ x hx
    refine bloose_plain (x.text ++ [59]) a' W (by rw [List.length_append]; simp; omega) (by omega) hW ?_
    intro hm
    rcases List.mem_append.1 hm with hm | hm
    · exact (h1 hr).1 hm
    · simp at hm)
  have hi := Bz.loose_is a l.length 0 l l.length (Nat.le_refl _) (Nat.le_refl _)
  rw [Nat.add_zero] at hi
  rw [bstr_list, hsz] at h
  rw [hi]
  exact h
theorem mendL_take {l : List Rsn} {a : Nat} {p : Bs} {k : Nat} {r : Rsn} (h : l[k]? = some r) : Bz.mendL (l.take (k + 1)) a p = Bz.mend r.kind a (Bz.mendL (l.take k) a p) := by
  unfold Bz.mendL Bz.mend
  dsimp only
  rw [List.take_add_one, h, List.map_append, List.append_assoc]
  rfl
theorem rss_at {l : List Rsn} {k : Nat} {r : Rsn} (h : l[k]? = some r) : (rss l)[k * 2]? = some (.int .i8 r.kind) ∧ (rss l)[k * 2 + 1]? = some (.int .i64 (r.at_ : Int)) := by
  obtain ⟨h1, h2⟩ := List.getElem?_eq_some_iff.1 h
  unfold rss
  constructor
  · have := fm_at (m := 2) rs_len l k h1 0 (by omega)
    rw [Nat.add_zero] at this
    rw [this, h2]
    rfl
  · rw [fm_at (m := 2) rs_len l k h1 1 (by omega), h2]
    rfl
section
variable {P : Program} {ops : Array Oper} {o : Oper} {a : Act} {Q : Exit → Act → World → Prop}
theorem wpList_append_elem_lies {rest : List Oper} (W : World) (hgd : o.guard = none) (s x : Operand) (t : TypeId) (ho : o.op = .call { callee := .builtin .append, args := #[s, x], argTypes := #[t, t] })
    (base : Nat) (e : TypeId) (z : Value) (size bytes : Nat) (ht : P.underlying t = some (.slice e)) (hinfo : (P.info? e).map (fun i => (i.zero, i.size, i.bytes)) = some (some z, size, bytes))
    (hzs : z.cells.size = size) (hsz : 0 < size) (v : Value) (n : Nat) (xs : List Value) (hs : a.eval s = v) (hown : W.ownsRow base e size v n xs)
    (cs : List Value) (hcs : cs.length = size) (h1 : ∀ u ∈ cs, u.oneCell' = true) (H : Nat) (hH : Blk W H e cs.toArray) (hx : a.eval x = .slice (some ⟨H, 0, none⟩) 1 1)
    (h63 : n + 1 ≤ maxLen) (hbytes : (n + 1) * bytes ≤ 140737488355328) (hbase : base ≤ W.heap.size)
    (h : ∀ g cap w', w'.ownsRow base e size (.slice (some ⟨g, 0, none⟩) (n + 1) cap) (n + 1) (xs ++ cs) → W.grownBy w' v.ownBlock → (v.ownBlock = some g ∨ g = W.heap.size) →
      wpList P ops Q rest (a.put o.dst (.slice (some ⟨g, 0, none⟩) (n + 1) cap)) w') :
    wpList P ops Q (o :: rest) a W := by
  obtain ⟨i, hi, hz, hsize, hby⟩ := info_parts hinfo
  refine wpList_append_lies W hgd s x t ho base e i z size bytes ht hi hz hsize hby hzs hsz v n xs hs hown ⟨H, 0, none⟩ 1 1 cs hx (by omega) ?_ h1 (by omega) h63 hbytes hbase _ rfl ?_
  · intro j u hu
    exact World.news_of_block hH j u (by simpa using hu)
  · intro g cap w' hown' hgrow hg _
    exact h g cap w' hown' hgrow hg
end
/-- Where the row of reasons lies behind a mend. -/
def Lay (w : World) (A A' : Option Addr) : Prop := ∀ a, A' = some a → (∃ a0, A = some a0 ∧ a0.block = a.block) ∨ w.heap.size ≤ a.block
set_option maxHeartbeats 4000000 in
theorem bmend_str (B P : Nat) (w : World) (p : Bs) (v : Bv) (k : Int) (a : Nat) (h : PB B P w p v) (hB : B ≤ w.heap.size) (hn : p.rs.length ≤ 1000000000) :
    Calls Try.prog 17 #[.pointer (some ⟨P, 0, none⟩), .int .i8 k, .int .i64 (a : Int)] w
      fun e w' => e = .returned (.tuple #[]) ∧ RMov B P w w' ∧ ∃ v', PB B P w' (Bz.mend k a p) v' ∧ Vr v v' ∧ Lay w v.Ar v'.Ar ∧ ∀ j, j < w.heap.size → j ≠ P → (∀ a0, v.Ar = some a0 → a0.block ≠ j) → w'.heap[j]? = w.heap[j]? := by
  have H := hide h
  have HB := hide hB
  obtain ⟨-, -, -, -, -, c5, -, -, -⟩ := h.cell
  have f5 := h.frz 5
  obtain ⟨n, hnn⟩ : ∃ n, p.rs.length = n := ⟨_, rfl⟩
  rw [hnn] at c5
  have HN := hide hnn
  have Hnl := hide (show n ≤ 1000000000 by omega)
  have OE := hide (show w.ownsRow B 47 2 (.slice v.Ar n v.cr) n (rss p.rs) by rw [← hnn]; exact h.r)
  have KX := hide (Blk.new w 47 #[.int .i8 k, .int .i64 (a : Int)])
  have hPl := h.blk.lt
  clear h hB hn hnn
  go_enter Try.func17, Try.ntmps17
  go_wp2_with (at_builtin; go_loud (refine wpList_append_elem_lies (w.alloc (.cells #[.int .i8 k, .int .i64 (a : Int)] 47)) rfl (.tmp 10) (.tmp 14) 22 rfl B 47 _ 2 16 Try.underlying22 info_rsn rfl (by omega) (.slice v.Ar n v.cr) n _ rfl (OE.out.alloc _) [.int .i8 k, .int .i64 (a : Int)] rfl (rs_one _ _) w.heap.size KX.out rfl (by unfold maxLen; have := Hnl.out; omega) (by have := Hnl.out; omega) (by have := HB.out; simp; omega) ?_); intro g8 cap8 w8 hown8 hgrow8 hlies8; have HO8 := hide hown8; have HG8 := hide hgrow8; have HL8 := hide hlies8; have HM8 := hide (show MovT B 47 w w8 from (MovT.of_below (below_alloc w _)).trans (.grown hgrow8 fun j hj => own_isT (OE.out.alloc _) j hj)); have f5' := (HM8.out.blk H.out.blk (by decide)).frozen 5; have c5' := (HM8.out.blk H.out.blk (by decide)).cell 5; clear hown8 hgrow8 hlies8)
  go_end0
  have ho : w8.ownsRow B 47 2 (.slice (some ⟨g8, 0, none⟩) (Bz.mend k a p).rs.length cap8) (Bz.mend k a p).rs.length (rss (Bz.mend k a p).rs) := by
    have e1 : (Bz.mend k a p).rs.length = n + 1 := by rw [Bz.mend_rs, HN.out]
    rw [e1, show (Bz.mend k a p).rs = p.rs ++ [⟨k, a⟩] from rfl, rss_snoc]
    exact HO8.out
  have hi := H.out.setR HM8.out ho
  rw [show (Bz.mend k a p).rs.length = n + 1 by rw [Bz.mend_rs, HN.out]] at hi
  refine ⟨rfl, RMov.of_movt HM8.out H.out.blk (by decide) 5 (by omega) _, _, hi, ⟨⟨rfl, rfl⟩, ⟨rfl, rfl⟩, ⟨rfl, rfl, rfl⟩⟩, ?_, ?_⟩
  · intro a' ha'
    injection ha' with ha'
    subst ha'
    rcases HL8.out with h | h
    · cases hA : v.Ar with
      | none => rw [hA] at h; cases h
      | some a0 => rw [hA] at h; injection h with h; exact .inl ⟨a0, rfl, h⟩
    · exact .inr (by rw [h]; simp)
  · intro j hj hP hne
    rw [Below.heap_setCell _ _ _ _ (by omega)]
    rw [HG8.out.block j (by simp; omega) ?_]
    · exact Below.heap_alloc _ _ _ hj
    · intro e
      cases hA : v.Ar with
      | none => rw [hA] at e; cases e
      | some a0 => rw [hA] at e; injection e with e; exact hne a0 hA e.symm
set_option maxHeartbeats 8000000 in
theorem bploose_r (B P : Nat) (w : World) (p : Bs) (v : Bv) (D : L) (a : Nat) (h : PB B P w p v) (hd : Gd B w) (hD : D.length ≤ 900000) (hn : p.rs.length ≤ 700000000) :
    Calls Try.prog 32 #[.pointer (some ⟨P, 0, none⟩), .string (bstr D), .int .i64 (a : Int)] w (BRr B P w v (Bz.ploose D a p).2 (.string (bstr (Bz.ploose D a p).1))) := by
  have H := hide h
  have HD := hide hd
  have HL := hide (bloose_any D 0 w hD (by omega) hd.g)
  have hll := Bz.loose_len D.length 0 D
  obtain ⟨S, hS⟩ : ∃ S, Bz.ploose D a p = S := ⟨_, rfl⟩
  rw [hS]
  unfold Bz.ploose at hS
  generalize Bz.loose D.length 0 D = y at *
  obtain ⟨t, rs⟩ := y
  dsimp only at hS HL hll
  have HS := hide hS
  have Hn := hide (show p.rs.length ≤ 700000000 ∧ rs.length ≤ 900000 ∧ t.length ≤ 3600000 by omega)
  clear h hd hn hS hll
  go_enter Try.func32, Try.ntmps32
  go_wp2_with fail
  refine HL.out.mono ?_
  rintro e w1 ⟨A, c, rfl, b1, -, hrd⟩
  have HWs := hide (show ∀ a0, v.Ar = some a0 → a0.block < w.heap.size from fun a0 h0 => (own_isT H.out.r a0.block (by rw [h0]; rfl)).2.lt)
  have H1 := hide (H.out.go b1)
  have B1 := hide b1
  have D1 := hide (HD.out.below b1)
  have HR := hide hrd
  obtain ⟨n, hnl⟩ : ∃ n, rs.length = n := ⟨_, rfl⟩
  rw [hnl]
  have Hnl := hide hnl
  clear b1 hrd hnl
  go_wp2
  go_loopg [18] n (fun gk vk wr => ∃ (k : Nat) (vr : Bv), gk = n - k ∧ k ≤ n ∧ vk = .int .i64 (k : Int) ∧ PB B P wr (Bz.mendL (rs.take k) a p) vr ∧ RMov B P w1 wr ∧ Vr v vr ∧ Lay w1 v.Ar vr.Ar ∧ (∀ g, A = some g → wr.heap[g.block]? = w1.heap[g.block]?))
  case atStart => exact ⟨0, v, by omega, by omega, rfl, by unfold Bz.mendL; simp only [List.take_zero, List.map_nil, List.append_nil]; exact H1.out, .refl B P w1, .refl v, fun a0 h0 => .inl ⟨a0, h0, rfl⟩, fun _ _ => rfl⟩
  case round =>
    obtain ⟨k, vr, hgk, hk, rfl, hp, hm, hvr, hlay, hkeep⟩ := hrel
    have Hvr := hide hvr
    have Hg := hide hgk
    have Hp := hide hp
    have Hm := hide hm
    have Hlay := hide hlay
    have Hkeep := hide hkeep
    clear hgk hp hm hvr H1 hlay hkeep
    by_cases hlt : k < n
    · obtain ⟨r, hr⟩ : ∃ r, rs[k]? = some r := ⟨_, List.getElem?_eq_getElem (by rw [Hnl.out]; exact hlt)⟩
      obtain ⟨hr0, hr1⟩ := rss_at hr
      obtain ⟨g, cap, hgv, hgb, hgl⟩ := HR.out.form (by rw [Hnl.out]; omega)
      have hA : A = some ⟨g, 0, none⟩ := by injection hgv
      have hown := HR.out
      rw [hA] at hown
      have q0 := hown.cellAt (k * 2) (by rw [Hnl.out]; omega)
      have q1 := hown.cellAt (k * 2 + 1) (by rw [Hnl.out]; omega)
      rw [hr0] at q0
      rw [hr1] at q1
      have hkg := Hkeep.out _ hA
      have z0 : wr.cell? ⟨g, k * 2, none⟩ = some (.int .i8 r.kind) := (World.cell?_of_block (a := ⟨g, k * 2, none⟩) hkg).trans q0
      have z1 : wr.cell? ⟨g, k * 2 + 1, none⟩ = some (.int .i64 (r.at_ : Int)) := (World.cell?_of_block (a := ⟨g, k * 2 + 1, none⟩) hkg).trans q1
      have hwk : IntKind.i64.wrap ((k : Int) + 1) = ((k + 1 : Nat) : Int) := by rw [IntWalk.i64_in _ (by have := Hn.out; have := Hnl.out; omega)]; omega
      have hbnd : (0 : Int) ≤ (k : Int) ∧ (k : Int) < (n : Int) := by omega
      have HGg := hide (show w.heap.size ≤ g ∧ g < w1.heap.size from ⟨hgb, hgl⟩)
      have HAe := hide hA
      have HMs := hide (mendL_take (a := a) (p := p) hr)
      have Hw1 := hide (below_alloc wr (.cells #[.int .i8 r.kind, .int .i64 (r.at_ : Int)] 47))
      have HM := hide (bmend_str B P (wr.alloc (.cells #[.int .i8 r.kind, .int .i64 (r.at_ : Int)] 47)) _ vr r.kind a (Hp.out.go Hw1.out) (Nat.le_trans D1.out.hB (Nat.le_trans Hm.out.size Hw1.out.size)) (by rw [Bz.mendL_rs, List.length_take]; have := Hn.out; omega))
      rw [← HMs.out] at HM
      subst hA
      clear hr hr0 hr1 hgv hown q0 q1 hkg hgb hgl
      go_wp2_with fail
      refine HM.out.mono ?_
      rintro e w2 ⟨rfl, m2, v2, p2, x2, l2, f2⟩
      have X2 := hide x2
      have M2 := hide m2
      have P2 := hide p2
      have L2 := hide l2
      have F2 := hide f2
      clear m2 p2 x2 l2 f2
      go_wp2
      go_roundg (n - (k + 1))
      case measure => have := Hg.out; omega
      case rel =>
        refine ⟨k + 1, v2, rfl, by omega, by first | rfl | go_num, P2.out, (Hm.out.go Hw1.out).trans M2.out, Hvr.out.trans X2.out, ?_, ?_⟩
        · intro a2 h2
          rcases L2.out a2 h2 with ⟨a1, h1, e1⟩ | h1
          · rcases Hlay.out a1 h1 with ⟨a0, h0, e0⟩ | h0
            · exact .inl ⟨a0, h0, e0.trans e1⟩
            · exact .inr (by rw [← e1]; exact h0)
          · exact .inr (Nat.le_trans Hm.out.size (Nat.le_trans Hw1.out.size h1))
        · intro gg hgg
          injection hgg with hgg
          subst hgg
          have hg1 : g < wr.heap.size := Nat.lt_of_lt_of_le HGg.out.2 Hm.out.size
          refine (F2.out g (Nat.lt_of_lt_of_le hg1 Hw1.out.size) ?_ ?_).trans ((Hw1.out.block g hg1).trans (Hkeep.out _ rfl))
          · rintro rfl
            have := H.out.blk.lt
            have := HGg.out.1
            omega
          · intro a1 h1 e1
            rcases Hlay.out a1 h1 with ⟨a0, h0, e0⟩ | h0
            · have := HWs.out a0 h0
              have := HGg.out.1
              omega
            · have := HGg.out.2
              omega
    · have hkn : k = n := by omega
      subst hkn
      have Hp2 := hide (show PB B P wr (Bz.mendL rs a p) vr by have h := Hp.out; rw [List.take_of_length_le (by rw [Hnl.out]; exact Nat.le_refl _)] at h; exact h)
      have HC := hide (bpclean_r B P wr _ vr t a Hp2.out (D1.out.bmov Hm.out.bmov Hp2.out.bp) (by have := Hn.out; omega) (by rw [Bz.mendL_rs]; have := Hn.out; omega))
      rw [HS.out] at HC
      go_wp2_with fail
      refine HC.out.mono ?_
      rintro e w3 ⟨rfl, m3, v3, p3, x3⟩
      have M3 := hide m3
      have P3 := hide p3
      have X3 := hide x3
      clear m3 p3 x3
      go_wp2
      go_ret
      exact ⟨rfl, ((RMov.of_below B1.out).trans Hm.out).trans M3.out, v3, P3.out, Hvr.out.trans X3.out⟩
theorem bploose_any (B P : Nat) (w : World) (p : Bs) (v : Bv) (D : L) (a : Nat) (h : PB B P w p v) (hd : Gd B w) (hD : D.length ≤ 900000) (hn : p.rs.length ≤ 700000000) :
    Calls Try.prog 32 #[.pointer (some ⟨P, 0, none⟩), .string (bstr D), .int .i64 (a : Int)] w (BR B P w (Bz.ploose D a p).2 (.string (bstr (Bz.ploose D a p).1))) := (bploose_r B P w p v D a h hd hD hn).mono fun _ _ h => h.br
end Go.Proofs.Ytaickkaoglohgaa
namespace Go.Proofs.Ytaickkaoglohgaa
open Go.RowKit Tk Sx

section
variable {B P : Nat} {w w' : World} {p q : Bs} {v v' : Bv}
theorem PB.ews_keep (h : PB B P w p v) (hm : RMov B P w w') : w'.ownsRow B 39 5 (.slice v.Ae v.xs.length v.ce) v.xs.length (ews v.xs) := hm.own h.e h.blk (by decide) (by decide)
end
set_option maxRecDepth 100000 in
set_option maxHeartbeats 16000000 in
theorem bsays_gen (F : FuncId) (bs : Array Value) (how : L → Nat → Bs → L × Bs) (hcf : ∀ args w, (callFunc F args).run Try.prog w = .ok (.enter F args) w) (B P : Nat) (w : World) (p : Bs) (v : Bv) (s : L) (a : Nat) (h : PB B P w p v) (hd : Gd B w) (hk : Ok p.st 1000000000 10000000000000000) (hn : p.rs.length ≤ 900000000) (hs : s.length ≤ 1000000)
    (hst : (how s a p).2.st = p.st) (hlen : (how s a p).1.length ≤ 100000000)
    (hF : ∀ (W : World) (v1 : Bv), PB B P W p v1 → Gd B W → Calls Try.prog F (bs ++ #[.string (bstr s), .int .i64 (a : Int)]) W (BRr B P W v1 (how s a p).2 (.string (bstr (how s a p).1)))) (args : Array Value) (hargs : bs ++ #[.string (bstr s), .int .i64 (a : Int)] = args) :
    Calls Try.prog 29 #[.pointer (some ⟨P, 0, none⟩), .string (bstr s), .int .i64 (a : Int), .func (.func F) bs #[]] w (BR B P w (Bz.says s a how p) (.tuple #[])) := by
  rw [hargs] at hF
  obtain ⟨-, -, c2, -, c4, -, -, c7, -⟩ := h.cell
  have f7 := h.frz 7
  have H := hide h
  have HD := hide hd
  obtain ⟨S, hS⟩ : ∃ S, Bz.says s a how p = S := ⟨_, rfl⟩
  rw [hS]
  unfold Bz.says at hS
  obtain ⟨no, hno⟩ : ∃ n, p.st.open_.length = n := ⟨_, rfl⟩
  rw [hno] at c2
  by_cases ho : p.st.open_ ≠ []
  · rw [if_pos ho] at hS
    have hgt : 0 < no := by have := List.length_pos_iff.2 ho; omega
    obtain ⟨⟨t, q⟩, hy⟩ : ∃ y, how s a p = y := ⟨_, rfl⟩
    rw [hy] at hS hF hst hlen
    dsimp only at hS hF hst hlen
    have HF := hide (hF w.drew v (h.go (Below.refl _ _).drew) (hd.below (Below.refl _ _).drew))
    have HS := hide hS
    have Hst := hide hst
    have Hk := hide hk
    have Hlen := hide hlen
    have HO := hide (show p.st.open_ ≠ [] from ho)
    clear h hd hk hn hs hst hlen hF hS ho hy c7 f7
    go_enter Try.func29, Try.ntmps29
    go_wp2
    have Hc4 := hide c4
    have HPut := hide (fun (W : World) (hm : RMov B P w W) (hs : B ≤ W.heap.size) => eput_any B v.xs ⟨textEv t, none, 0⟩ v.Ae v.ce W (H.out.ews_keep hm) hs (by rw [H.out.len]; exact Hk.out.ev) (fun y hy => by have := H.out.tx Hk.out y hy; have := Hlen.out; show _ + t.length ≤ _; omega))
    go_region_with (first
      | (go_at_call 41; refine (HPut.out _ (RMov.trans (RMov.of_below (Below.refl _ _).drew) M1.out) (Nat.le_trans HD.out.hB M1.out.size)).mono ?_; rintro e w2 ⟨A2, cp2, xs2, rfl, ho2, hx2, hi2, hm2⟩; have q4 : w2.cell? ⟨P, 4, none⟩ = some _ := (hm2.blk P1.out.blk (by decide)).cell 4; have g4 := (hm2.blk P1.out.blk (by decide)).frozen 4)
      | (refine HF.out.mono ?_; rintro e w1 ⟨rfl, m1, v1, p1, x1⟩; have P1 := hide p1; have M1 := hide m1; have X1 := hide x1; have z4 : w1.cell? ⟨P, 4, none⟩ = some (.slice v.Ae v.xs.length v.ce) := by have h9 := p1.cell.2.2.2.2.1; rw [x1.e.1, x1.e.2.1, x1.e.2.2] at h9; exact h9))
    all_goals
      go_end0
      have hm0 : BMov B P w w1 := (BMov.of_below (Below.refl _ _).drew).trans M1.out.bmov
      obtain ⟨Ao1, co1, As1, cs1, Ae1, ce1, Ar1, cr1, xs1⟩ := v1
      obtain ⟨-, -, e1, e2, e3⟩ := X1.out
      dsimp only at e1 e2 e3
      subst e1 e2 e3
      have hf := P1.out.events hm2 ho2 hx2 hi2 (in_none _ rfl _)
      rw [← HS.out]
      exact ⟨rfl, (hm0.trans (hm2.bmov (.inr (.inr (.inl rfl))))).setCell (p := ⟨P, 4, none⟩) (.inl rfl) _, _, hf⟩
  · rw [if_neg ho] at hS
    have ho0 : p.st.open_ = [] := by simpa using ho
    have hno0 : no = 0 := by rw [← hno, ho0]; rfl
    subst hno0
    have HBl := hide (fun W => blank_any s W (by omega))
    obtain ⟨b, hb⟩ : ∃ b, s.all sp = b := ⟨_, rfl⟩
    obtain ⟨j, hj⟩ : ∃ j, p.junk = j := ⟨_, rfl⟩
    rw [hb, hj] at hS
    rw [hb] at HBl
    rw [hj] at c7
    have HS := hide hS
    have Hj := hide hj
    have Hn := hide hn
    clear h hd hk hn hs hst hlen hF hS ho hno ho0 hb hj
    cases b with
    | true =>
      go_enter Try.func29, Try.ntmps29
      go_wp2_with fail
      refine (HBl.out _).mono ?_
      rintro e w1 ⟨rfl, b1⟩
      go_wp2
      go_end0
      rw [← HS.out]
      exact ⟨rfl, .of_below b1, v, H.out.go b1⟩
    | false =>
      cases j with
      | true =>
        go_enter Try.func29, Try.ntmps29
        go_wp2_with fail
        refine (HBl.out _).mono ?_
        rintro e w1 ⟨rfl, b1⟩
        have c7' : w1.cell? ⟨P, 7, none⟩ = some (.bool true) := by have h9 := (H.out.go b1).cell.2.2.2.2.2.2.2.1; rw [Hj.out] at h9; exact h9
        go_wp2
        go_end0
        rw [← HS.out]
        exact ⟨rfl, .of_below b1, v, H.out.go b1⟩
      | false =>
        go_enter Try.func29, Try.ntmps29
        go_wp2_with fail
        refine (HBl.out _).mono ?_
        rintro e w1 ⟨rfl, b1⟩
        have c7' : w1.cell? ⟨P, 7, none⟩ = some (.bool false) := by have h9 := (H.out.go b1).cell.2.2.2.2.2.2.2.1; rw [Hj.out] at h9; exact h9
        have B1 := hide b1
        go_wp2_with fail
        refine (bmend_any B P w1 p v 13 a (H.out.go B1.out) (Nat.le_trans HD.out.hB B1.out.size) (by have := Hn.out; omega)).mono ?_
        rintro e w2 ⟨rfl, m2, v2, p2⟩
        have M2 := hide m2; have P2 := hide p2; clear m2 p2
        have f7' := P2.out.frz 7
        have z7 := P2.out.cell.2.2.2.2.2.2.2.1
        go_wp2
        go_end0
        rw [← HS.out]
        have hp := P2.out.put (q := { Bz.mend 13 a p with junk := true }) 7 (.bool true) rfl rfl rfl rfl rfl
        exact ⟨rfl, ((BMov.of_below B1.out).trans M2.out).setCell (p := ⟨P, 7, none⟩) (.inl rfl) _, v2, hp⟩
theorem bfn_enter (args : Array Value) (w : World) : (callFunc 32 args).run Try.prog w = .ok (.enter 32 args) w ∧ (callFunc 34 args).run Try.prog w = .ok (.enter 34 args) w ∧ (callFunc 38 args).run Try.prog w = .ok (.enter 38 args) w :=
  ⟨callFunc_body Try.func32 (by kernel_rfl) (by kernel_rfl) _ _, callFunc_body Try.func34 (by kernel_rfl) (by kernel_rfl) _ _, callFunc_body Try.func38 (by kernel_rfl) (by kernel_rfl) _ _⟩
theorem bsame_any (s : L) (a : Nat) (w : World) : Calls Try.prog 38 #[.string (bstr s), .int .i64 (a : Int)] w fun e w' => e = .returned (.string (bstr s)) ∧ w' = w := by
  go_enter Try.func38, Try.ntmps38
  go_wp2
  go_ret
  exact ⟨rfl, rfl⟩
section
variable (B P : Nat) (w : World) (p : Bs) (v : Bv) (s : L) (a : Nat) (h : PB B P w p v) (hd : Gd B w) (hk : Ok p.st 1000000000 10000000000000000) (hn : p.rs.length ≤ 600000000) (hs : s.length ≤ 900000)
include h hd hk hn hs
theorem bsays_loose : Calls Try.prog 29 #[.pointer (some ⟨P, 0, none⟩), .string (bstr s), .int .i64 (a : Int), .func (.func 32) #[.pointer (some ⟨P, 0, none⟩)] #[]] w (BR B P w (Bz.says s a Bz.ploose p) (.tuple #[])) :=
  bsays_gen _ _ Bz.ploose (fun args W => (bfn_enter args W).1) B P w p v s a h hd hk (by omega) (by omega) rfl (by have := (Bz.ploose_len s a p).1; omega) (fun W v1 h1 h2 => bploose_r B P W p v1 s a h1 h2 hs (by omega)) _ rfl
theorem bsays_clean : Calls Try.prog 29 #[.pointer (some ⟨P, 0, none⟩), .string (bstr s), .int .i64 (a : Int), .func (.func 34) #[.pointer (some ⟨P, 0, none⟩)] #[]] w (BR B P w (Bz.says s a Bz.pclean p) (.tuple #[])) :=
  bsays_gen _ _ Bz.pclean (fun args W => (bfn_enter args W).2.1) B P w p v s a h hd hk (by omega) (by omega) rfl (by have := (Bz.pclean_len s a p).1; omega) (fun W v1 h1 h2 => bpclean_r B P W p v1 s a h1 h2 (by omega) (by omega)) _ rfl
theorem bsays_same : Calls Try.prog 29 #[.pointer (some ⟨P, 0, none⟩), .string (bstr s), .int .i64 (a : Int), .func (.func 38) #[] #[]] w (BR B P w (Bz.says s a Bz.psame p) (.tuple #[])) :=
  bsays_gen _ _ Bz.psame (fun args W => (bfn_enter args W).2.2) B P w p v s a h hd hk (by omega) (by omega) rfl (by show s.length ≤ _; omega) (fun W v1 h1 h2 => (bsame_any s a W).mono fun e w' ⟨he, hw⟩ => by subst hw; exact ⟨he, .refl B P _, v1, h1, .refl v1⟩) _ rfl
end
end Go.Proofs.Ytaickkaoglohgaa
namespace Go.Proofs.Ytaickkaoglohgaa
open Go.RowKit Tk Sx

section
variable (B P : Nat) (w : World) (p : Bs) (v : Bv) (h : PB B P w p v) (hl : p.at_ + p.l.length ≤ 1000000000)
include h hl
theorem buntil_solid : Calls Try.prog 30 #[.pointer (some ⟨P, 0, none⟩), .func (.func 39) #[] #[]] w (BR B P w (Bz.untilB Bz.solid p) (.string (bstr (p.l.take (Bz.span Bz.solid p.l))))) := buntil_gen _ _ bsolid_enter bsolid_any B P w p v h hl
theorem buntil_solidM : Calls Try.prog 30 #[.pointer (some ⟨P, 0, none⟩), .func (.func 39) #[] #[]] w (BRm B P w (Bz.untilB Bz.solid p) (.string (bstr (p.l.take (Bz.span Bz.solid p.l))))) := buntil_genM _ _ bsolid_enter bsolid_any B P w p v h hl
theorem buntil_angle : Calls Try.prog 30 #[.pointer (some ⟨P, 0, none⟩), .func (.func 54) #[] #[]] w (BR B P w (Bz.untilB Bz.angle p) (.string (bstr (p.l.take (Bz.span Bz.angle p.l))))) := buntil_gen _ _ bangle_enter bangle_any B P w p v h hl
theorem buntil_angleM : Calls Try.prog 30 #[.pointer (some ⟨P, 0, none⟩), .func (.func 54) #[] #[]] w (BRm B P w (Bz.untilB Bz.angle p) (.string (bstr (p.l.take (Bz.span Bz.angle p.l))))) := buntil_genM _ _ bangle_enter bangle_any B P w p v h hl
theorem buntil_less : Calls Try.prog 30 #[.pointer (some ⟨P, 0, none⟩), .func (.func 31) #[] #[]] w (BR B P w (Bz.untilB Bz.isLt p) (.string (bstr (p.l.take (Bz.span Bz.isLt p.l))))) := buntil_gen _ _ bless_enter bless_any B P w p v h hl
theorem buntil_lessM : Calls Try.prog 30 #[.pointer (some ⟨P, 0, none⟩), .func (.func 31) #[] #[]] w (BRm B P w (Bz.untilB Bz.isLt p) (.string (bstr (p.l.take (Bz.span Bz.isLt p.l))))) := buntil_genM _ _ bless_enter bless_any B P w p v h hl
theorem buntil_valS : Calls Try.prog 30 #[.pointer (some ⟨P, 0, none⟩), .func (.func 99) #[] #[]] w (BR B P w (Bz.untilB Bz.anglesp p) (.string (bstr (p.l.take (Bz.span Bz.anglesp p.l))))) := buntil_gen _ _ bvalS_enter bvalS_any B P w p v h hl
theorem buntil_valSM : Calls Try.prog 30 #[.pointer (some ⟨P, 0, none⟩), .func (.func 99) #[] #[]] w (BRm B P w (Bz.untilB Bz.anglesp p) (.string (bstr (p.l.take (Bz.span Bz.anglesp p.l))))) := buntil_genM _ _ bvalS_enter bvalS_any B P w p v h hl
end
theorem until_mono {f : UInt8 → Bool} {p : Bs} (h : p.at_ + p.l.length ≤ 1000000000) : (Bz.untilB f p).at_ + (Bz.untilB f p).l.length ≤ 1000000000 := tak_mono h (span_le f p.l)
theorem till_ib_none {c : UInt8} {r : L} (h : till [c] r = none) : Lib.indexByte r c < 0 := by
  by_cases hi : Lib.indexByte r c < 0
  · exact hi
  · exact absurd ((in_byteB c r).1 (by omega)) (till_one_none h)
theorem till_ib {c : UInt8} {r : L} {n : Nat} (h : till [c] r = some n) : Lib.indexByte r c = n ∧ n < r.length := by
  obtain ⟨x, rest, hr, hx, hn⟩ := till_one h
  have hm : c ∈ r := by rw [hr]; simp
  have h0 := (in_byteB c r).2 hm
  obtain ⟨m, hm2⟩ : ∃ m : Nat, Lib.indexByte r c = m := ⟨(Lib.indexByte r c).toNat, by omega⟩
  obtain ⟨h1, h2⟩ := indexByte_yes hm2
  have hlt : n < r.length := by rw [hr, hn]; simp
  refine ⟨?_, hlt⟩
  rw [hm2]
  have hmn : m = n := by
    rcases Nat.lt_trichotomy m n with h | h | h
    · exfalso
      rw [hr, List.getElem?_append_left (by omega)] at h2
      exact hx (List.mem_of_getElem? h2)
    · exact h
    · exfalso
      refine h1 ?_
      rw [hr, hn] at *
      have : (x ++ c :: rest)[x.length]? = some c := by simp
      have h3 : ((x ++ c :: rest).take m)[x.length]? = some c := by rw [List.getElem?_take_of_lt (by omega)]; exact this
      exact List.mem_of_getElem? h3
  rw [hmn]
set_option maxHeartbeats 8000000 in
theorem bvalue_m (B P : Nat) (w : World) (p : Bs) (v : Bv) (a : Nat) (h : PB B P w p v) (hB : B ≤ w.heap.size) (hl : p.at_ + p.l.length ≤ 1000000000) (hn : p.rs.length ≤ 900000000) :
    Calls Try.prog 89 #[.pointer (some ⟨P, 0, none⟩), .int .i64 (a : Int)] w (BRm B P w (Bz.valueB a p).2 (.string (bstr (Bz.valueB a p).1))) := by
  have HU := hide (buntil_solidM B P w p v h hl)
  have Hl1 := hide (until_mono (f := Bz.solid) hl)
  obtain ⟨q1, hq1⟩ : ∃ q, Bz.untilB Bz.solid p = q := ⟨_, rfl⟩
  have Hn := hide (show q1.rs.length ≤ 900000000 by rw [← hq1]; exact hn)
  obtain ⟨S, hS⟩ : ∃ S, Bz.valueB a p = S := ⟨_, rfl⟩
  rw [hS]
  unfold Bz.valueB at hS
  rw [hq1] at hS HU Hl1
  have HB := hide hB
  obtain ⟨D, hD⟩ : ∃ D, q1.l = D := ⟨_, rfl⟩
  have HD := hide hD
  rw [hD] at hS
  have hs : (bstr D).size = D.length := bstr_size D
  cases D with
  | nil =>
    dsimp only at hS
    have HS := hide hS
    have hemp2 : (bstr ([] : L)).toList.isEmpty = true := by rw [ByteArray.toList_eq, bstr_list]; rfl
    have hempt : ((bstr ([] : L)).toList == ([] : L)) = true := lit_eq (bstr []) []
    clear h hB hl hn hS hD hq1
    go_enter Try.func89, Try.ntmps89
    go_wp2_with fail
    refine (HU.out).mono ?_
    rintro e w1 ⟨rfl, m1, v1, p1⟩
    have M1 := hide m1; have P1 := hide p1; clear m1 p1
    have z0 := P1.out.cell.1
    rw [HD.out] at z0
    go_wp2_with fail
    refine (bmend_m B P w1 q1 v1 8 a P1.out (Nat.le_trans HB.out M1.out.size) (by have := Hn.out; omega)).mono ?_
    rintro e w2 ⟨rfl, m2, v2, p2⟩
    have M2 := hide m2; have P2 := hide p2; clear m2 p2
    go_wp2_with fail
    refine (buntil_valSM B P w2 _ v2 P2.out Hl1.out).mono ?_
    rintro e w3 ⟨rfl, m3, v3, p3⟩
    have M3 := hide m3; have P3 := hide p3; clear m3 p3
    go_wp2
    go_ret
    rw [← HS.out]
    exact ⟨rfl, (M1.out.trans M2.out).trans M3.out, v3, P3.out⟩
  | cons c r =>
    dsimp only at hS
    have hemp2 : (bstr (c :: r : L)).toList.isEmpty = false := by rw [ByteArray.toList_eq, bstr_list]; rfl
    have hempt : ((bstr (c :: r : L)).toList == ([] : L)) = false := lit_eq (bstr (c :: r)) []
    have hix : ∀ w, (Instr.index 9 (.string (bstr (c :: r))) (.int .i64 0)).run Try.prog w = .ok (.int .u8 (c.toNat : Nat)) w := fun w => by have h := idx_run (bstr (c :: r)) 0 c (by rw [bstr_list]; rfl) w; exact h
    have e34 : ((c.toNat : Int) == 34) = decide (c = 34) := by rw [show (34 : Int) = ((34 : UInt8).toNat : Int) from rfl, eq_u8, Bool.eq_iff_iff]; simp
    have e39 : ((c.toNat : Int) == 39) = decide (c = 39) := by rw [show (39 : Int) = ((39 : UInt8).toNat : Int) from rfl, eq_u8, Bool.eq_iff_iff]; simp
    by_cases hq : c = 34 ∨ c = 39
    · rw [if_pos hq] at hS
      have hr1 : (bstr (c :: r)).extract 1 (r.length + 1) = bstr r := by rw [extract_bstr, bstr_list]; simp
      rw [List.length_cons] at hs
      have hbd : (0 : Int) ≤ 1 ∧ (1 : Int) ≤ ((r.length + 1 : Nat) : Int) := by omega
      rcases hq with rfl | rfl
      · have hX := fun W => Try.strings_IndexByte (bstr r) 34 W
        rw [bstr_list, show ((34 : Int).toNat.toUInt8) = (34 : UInt8) from rfl] at hX
        replace hix : ∀ w, (Instr.index 9 (.string (bstr (34 :: r))) (.int .i64 0)).run Try.prog w = .ok (.int .u8 34) w := hix
        clear e34 e39
        cases ht : till [34] r with
        | none =>
          rw [ht] at hS
          dsimp only at hS
          have hneg := till_ib_none ht
          generalize Lib.indexByte r 34 = y at *
          have HX := hide hX
          have HS := hide hS
          have hge : ¬ (0 ≤ y) := by omega
          clear hB hl hn hS hD hq1 ht hX hneg h
          go_enter Try.func89, Try.ntmps89
          go_wp2_with fail
          refine (HU.out).mono ?_
          rintro e w1 ⟨rfl, m1, v1, p1⟩
          have M1 := hide m1; have P1 := hide p1; clear m1 p1
          have z0 := P1.out.cell.1
          rw [HD.out] at z0
          go_wp2
          go_quiet ((go_at_call 81; refine Calls.quiet_of_same (HX.out _)))
          rename_i nq
          have BQ := hide (below_drewN (Below.refl w1.heap.size w1) nq)
          go_wp2_with fail
          refine (bmend_m B P _ q1 v1 8 a (P1.out.go BQ.out) (Nat.le_trans HB.out (Nat.le_trans M1.out.size BQ.out.size)) (by have := Hn.out; omega)).mono ?_
          rintro e w2 ⟨rfl, m2, v2, p2⟩
          have M2 := hide m2; have P2 := hide p2; clear m2 p2
          go_wp2_with fail
          refine (btake_m B P w2 _ v2 1 P2.out (by show 1 ≤ q1.l.length; rw [HD.out]; simp) Hl1.out).mono ?_
          rintro e w3 ⟨rfl, m3, v3, p3⟩
          have M3 := hide m3; have P3 := hide p3; clear m3 p3
          go_wp2_with fail
          refine (buntil_angleM B P w3 _ v3 P3.out (tak_mono Hl1.out (by show 1 ≤ q1.l.length; rw [HD.out]; simp))).mono ?_
          rintro e w4 ⟨rfl, m4, v4, p4⟩
          have M4 := hide m4; have P4 := hide p4; clear m4 p4
          have hc : (Bz.cutB 1 (Bz.mend 8 a q1)).l = r := by show q1.l.drop 1 = r; rw [HD.out]; rfl
          go_wp2
          go_ret
          rw [← HS.out]
          exact ⟨rfl, (((M1.out.go BQ.out).trans M2.out).trans M3.out).trans M4.out, v4, P4.out⟩
        | some n =>
          rw [ht] at hS
          dsimp only at hS
          obtain ⟨hyn, hnl⟩ := till_ib ht
          rw [hyn] at hX
          have HX := hide hX
          have HS := hide hS
          have hge : (0 : Int) ≤ (n : Int) := by omega
          have hw2 : IntKind.i64.wrap ((n : Int) + 2) = ((n + 2 : Nat) : Int) := by rw [IntWalk.i64_in _ (by have := Hl1.out; rw [HD.out, List.length_cons] at this; omega)]; omega
          have hw1 : IntKind.i64.wrap ((n : Int) + 1) = ((n + 1 : Nat) : Int) := by rw [IntWalk.i64_in _ (by have := Hl1.out; rw [HD.out, List.length_cons] at this; omega)]; omega
          have Hnl := hide hnl
          clear hB hl hn hS hD hq1 ht hX hyn hnl h
          go_enter Try.func89, Try.ntmps89
          go_wp2_with fail
          refine (HU.out).mono ?_
          rintro e w1 ⟨rfl, m1, v1, p1⟩
          have M1 := hide m1; have P1 := hide p1; clear m1 p1
          have z0 := P1.out.cell.1
          rw [HD.out] at z0
          go_wp2
          go_quiet ((go_at_call 81; refine Calls.quiet_of_same (HX.out _)))
          rename_i nq
          have BQ := hide (below_drewN (Below.refl w1.heap.size w1) nq)
          go_wp2_with fail
          refine (btake_m B P _ q1 v1 (n + 2) (P1.out.go BQ.out) (by rw [HD.out, List.length_cons]; have := Hnl.out; omega) Hl1.out).mono ?_
          rintro e w2 ⟨rfl, m2, v2, p2⟩
          have M2 := hide m2; have P2 := hide p2; clear m2 p2
          rw [HD.out, List.take_succ_cons]
          have hsz : (bstr (34 :: r.take (n + 1) : L)).size = n + 2 := by rw [bstr_size, List.length_cons, List.length_take]; have := Hnl.out; omega
          have hbb : (1 : Int) ≤ ((n + 1 : Nat) : Int) ∧ ((n + 1 : Nat) : Int) ≤ ((n + 2 : Nat) : Int) := by omega
          have hxx : (bstr (34 :: r.take (n + 1) : L)).extract 1 (n + 1) = bstr (r.take n) := by
            rw [extract_bstr, bstr_list, List.drop_succ_cons, List.drop_zero, Nat.add_sub_cancel, List.take_take, Nat.min_eq_left (by omega)]
          go_wp2
          go_ret
          rw [← HS.out]
          exact ⟨rfl, (M1.out.go BQ.out).trans M2.out, v2, P2.out⟩
      · have hX := fun W => Try.strings_IndexByte (bstr r) 39 W
        rw [bstr_list, show ((39 : Int).toNat.toUInt8) = (39 : UInt8) from rfl] at hX
        replace hix : ∀ w, (Instr.index 9 (.string (bstr (39 :: r))) (.int .i64 0)).run Try.prog w = .ok (.int .u8 39) w := hix
        clear e34 e39
        cases ht : till [39] r with
        | none =>
          rw [ht] at hS
          dsimp only at hS
          have hneg := till_ib_none ht
          generalize Lib.indexByte r 39 = y at *
          have HX := hide hX
          have HS := hide hS
          have hge : ¬ (0 ≤ y) := by omega
          clear hB hl hn hS hD hq1 ht hX hneg h
          go_enter Try.func89, Try.ntmps89
          go_wp2_with fail
          refine (HU.out).mono ?_
          rintro e w1 ⟨rfl, m1, v1, p1⟩
          have M1 := hide m1; have P1 := hide p1; clear m1 p1
          have z0 := P1.out.cell.1
          rw [HD.out] at z0
          go_wp2
          go_quiet ((go_at_call 81; refine Calls.quiet_of_same (HX.out _)))
          rename_i nq
          have BQ := hide (below_drewN (Below.refl w1.heap.size w1) nq)
          go_wp2_with fail
          refine (bmend_m B P _ q1 v1 8 a (P1.out.go BQ.out) (Nat.le_trans HB.out (Nat.le_trans M1.out.size BQ.out.size)) (by have := Hn.out; omega)).mono ?_
          rintro e w2 ⟨rfl, m2, v2, p2⟩
          have M2 := hide m2; have P2 := hide p2; clear m2 p2
          go_wp2_with fail
          refine (btake_m B P w2 _ v2 1 P2.out (by show 1 ≤ q1.l.length; rw [HD.out]; simp) Hl1.out).mono ?_
          rintro e w3 ⟨rfl, m3, v3, p3⟩
          have M3 := hide m3; have P3 := hide p3; clear m3 p3
          go_wp2_with fail
          refine (buntil_angleM B P w3 _ v3 P3.out (tak_mono Hl1.out (by show 1 ≤ q1.l.length; rw [HD.out]; simp))).mono ?_
          rintro e w4 ⟨rfl, m4, v4, p4⟩
          have M4 := hide m4; have P4 := hide p4; clear m4 p4
          have hc : (Bz.cutB 1 (Bz.mend 8 a q1)).l = r := by show q1.l.drop 1 = r; rw [HD.out]; rfl
          go_wp2
          go_ret
          rw [← HS.out]
          exact ⟨rfl, (((M1.out.go BQ.out).trans M2.out).trans M3.out).trans M4.out, v4, P4.out⟩
        | some n =>
          rw [ht] at hS
          dsimp only at hS
          obtain ⟨hyn, hnl⟩ := till_ib ht
          rw [hyn] at hX
          have HX := hide hX
          have HS := hide hS
          have hge : (0 : Int) ≤ (n : Int) := by omega
          have hw2 : IntKind.i64.wrap ((n : Int) + 2) = ((n + 2 : Nat) : Int) := by rw [IntWalk.i64_in _ (by have := Hl1.out; rw [HD.out, List.length_cons] at this; omega)]; omega
          have hw1 : IntKind.i64.wrap ((n : Int) + 1) = ((n + 1 : Nat) : Int) := by rw [IntWalk.i64_in _ (by have := Hl1.out; rw [HD.out, List.length_cons] at this; omega)]; omega
          have Hnl := hide hnl
          clear hB hl hn hS hD hq1 ht hX hyn hnl h
          go_enter Try.func89, Try.ntmps89
          go_wp2_with fail
          refine (HU.out).mono ?_
          rintro e w1 ⟨rfl, m1, v1, p1⟩
          have M1 := hide m1; have P1 := hide p1; clear m1 p1
          have z0 := P1.out.cell.1
          rw [HD.out] at z0
          go_wp2
          go_quiet ((go_at_call 81; refine Calls.quiet_of_same (HX.out _)))
          rename_i nq
          have BQ := hide (below_drewN (Below.refl w1.heap.size w1) nq)
          go_wp2_with fail
          refine (btake_m B P _ q1 v1 (n + 2) (P1.out.go BQ.out) (by rw [HD.out, List.length_cons]; have := Hnl.out; omega) Hl1.out).mono ?_
          rintro e w2 ⟨rfl, m2, v2, p2⟩
          have M2 := hide m2; have P2 := hide p2; clear m2 p2
          rw [HD.out, List.take_succ_cons]
          have hsz : (bstr (39 :: r.take (n + 1) : L)).size = n + 2 := by rw [bstr_size, List.length_cons, List.length_take]; have := Hnl.out; omega
          have hbb : (1 : Int) ≤ ((n + 1 : Nat) : Int) ∧ ((n + 1 : Nat) : Int) ≤ ((n + 2 : Nat) : Int) := by omega
          have hxx : (bstr (39 :: r.take (n + 1) : L)).extract 1 (n + 1) = bstr (r.take n) := by
            rw [extract_bstr, bstr_list, List.drop_succ_cons, List.drop_zero, Nat.add_sub_cancel, List.take_take, Nat.min_eq_left (by omega)]
          go_wp2
          go_ret
          rw [← HS.out]
          exact ⟨rfl, (M1.out.go BQ.out).trans M2.out, v2, P2.out⟩
    · rw [if_neg hq] at hS
      have HS := hide hS
      rw [decide_eq_false (fun e => hq (.inl e))] at e34
      rw [decide_eq_false (fun e => hq (.inr e))] at e39
      have n34 : ¬ (c.toNat : Int) = 34 := by simpa using e34
      have n39 : ¬ (c.toNat : Int) = 39 := by simpa using e39
      have m34 : ¬ c.toNat = 34 := by omega
      have m39 : ¬ c.toNat = 39 := by omega
      clear h hB hl hn hS hD hq1 hq
      go_enter Try.func89, Try.ntmps89
      go_wp2_with fail
      refine (HU.out).mono ?_
      rintro e w1 ⟨rfl, m1, v1, p1⟩
      have M1 := hide m1; have P1 := hide p1; clear m1 p1
      have z0 := P1.out.cell.1
      rw [HD.out] at z0
      go_wp2_with fail
      refine (bmend_m B P w1 q1 v1 8 a P1.out (Nat.le_trans HB.out M1.out.size) (by have := Hn.out; omega)).mono ?_
      rintro e w2 ⟨rfl, m2, v2, p2⟩
      have M2 := hide m2; have P2 := hide p2; clear m2 p2
      go_wp2_with fail
      refine (buntil_valSM B P w2 _ v2 P2.out Hl1.out).mono ?_
      rintro e w3 ⟨rfl, m3, v3, p3⟩
      have M3 := hide m3; have P3 := hide p3; clear m3 p3
      go_wp2
      go_ret
      rw [← HS.out]
      exact ⟨rfl, (M1.out.trans M2.out).trans M3.out, v3, P3.out⟩
theorem bvalue_any (B P : Nat) (w : World) (p : Bs) (v : Bv) (a : Nat) (h : PB B P w p v) (hB : B ≤ w.heap.size) (hl : p.at_ + p.l.length ≤ 1000000000) (hn : p.rs.length ≤ 900000000) :
    Calls Try.prog 89 #[.pointer (some ⟨P, 0, none⟩), .int .i64 (a : Int)] w (BR B P w (Bz.valueB a p).2 (.string (bstr (Bz.valueB a p).1))) := (bvalue_m B P w p v a h hB hl hn).mono fun _ _ h => h.br
end Go.Proofs.Ytaickkaoglohgaa
namespace Go.Proofs.Ytaickkaoglohgaa
open Go.RowKit Tk Sx

theorem splV_form (l : L) : ∃ b, splV (split l) = .tuple #[.string (bstr (Bz.preB l)), .string (bstr (Bz.locB l)), .bool b] := by
  unfold Bz.preB Bz.locB
  cases split l with
  | none => exact ⟨_, rfl⟩
  | some x => exact ⟨_, rfl⟩
set_option maxHeartbeats 4000000 in
theorem bdecl_any (l : L) (w : World) (hg : Gm w) (hl : l.length ≤ 1000000000) :
    Calls Try.prog 57 #[.string (bstr l)] w fun e w' => e = .returned (.tuple #[.string (bstr (Bz.declB l).1), .bool (Bz.declB l).2]) ∧ Below w.heap.size w w' := by
  have hS := splitm_any l w hg hl
  obtain ⟨b, hb⟩ := splV_form l
  rw [hb] at hS
  obtain ⟨R, hR⟩ : ∃ R, Bz.declB l = R := ⟨_, rfl⟩
  rw [hR]
  unfold Bz.declB at hR
  obtain ⟨pre, hpre⟩ : ∃ x, Bz.preB l = x := ⟨_, rfl⟩
  obtain ⟨loc, hloc⟩ : ∃ x, Bz.locB l = x := ⟨_, rfl⟩
  rw [hpre, hloc] at hR hS
  have HS := hide hS
  have hp : ((bstr pre).toList == [120, 109, 108, 110, 115]) = decide (pre = pXmlns) := lit_eq (bstr pre) pXmlns
  have hq : ((bstr loc).toList == [120, 109, 108, 110, 115]) = decide (loc = pXmlns) := lit_eq (bstr loc) pXmlns
  have hem : ((bstr pre).toList == ([] : L)) = decide (pre = []) := lit_eq (bstr pre) []
  have hem2 : (bstr pre).toList.isEmpty = decide (pre = []) := by rw [ByteArray.toList_eq, bstr_list]; cases pre <;> simp
  clear hS hb hpre hloc hg
  cases h1 : decide (pre = pXmlns) with
  | true =>
    rw [h1] at hp
    rw [if_pos (of_decide_eq_true h1)] at hR
    have HR := hide hR
    clear h1 hR hem hem2 hq
    go_enter Try.func57, Try.ntmps57
    go_wp2_with fail
    refine (HS.out).mono ?_
    rintro e w1 ⟨rfl, b1⟩
    go_wp2
    go_ret2
    rw [← HR.out]
    exact ⟨rfl, b1⟩
  | false =>
    rw [h1] at hp
    rw [if_neg (of_decide_eq_false h1)] at hR
    cases h2 : decide (pre = []) with
    | true =>
      rw [h2] at hem hem2
      have HR := hide (show ([], decide (loc = pXmlns)) = R by rw [← hR, show decide (pre = [] ∧ loc = pXmlns) = decide (loc = pXmlns) by rw [decide_eq_decide]; exact ⟨fun h => h.2, fun h => ⟨of_decide_eq_true h2, h⟩⟩])
      generalize decide (loc = pXmlns) = d at *
      clear h1 h2 hR
      go_enter Try.func57, Try.ntmps57
      go_wp2_with fail
      refine (HS.out).mono ?_
      rintro e w1 ⟨rfl, b1⟩
      go_wp2
      go_ret2
      rw [← HR.out]
      exact ⟨rfl, b1⟩
    | false =>
      rw [h2] at hem hem2
      have HR := hide (show ([], false) = R by rw [← hR, show decide (pre = [] ∧ loc = pXmlns) = false from decide_eq_false fun h => of_decide_eq_false h2 h.1])
      clear h1 h2 hR hq
      go_enter Try.func57, Try.ntmps57
      go_wp2_with fail
      refine (HS.out).mono ?_
      rintro e w1 ⟨rfl, b1⟩
      go_wp2
      go_ret2
      rw [← HR.out]
      exact ⟨rfl, b1⟩
end Go.Proofs.Ytaickkaoglohgaa
