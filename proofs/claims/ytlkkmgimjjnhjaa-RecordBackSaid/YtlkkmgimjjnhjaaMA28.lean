/- The program's frames: the iterator. (The walk of the drawn region was printed by wip/heldin.py.) -/
import Derived.Test.YtlkkmgimjjnhjaaMA27
import Derived.Sort.LoopGhostIn
import Derived.Sort.QuietIn
set_option linter.unusedSimpArgs false
set_option linter.unusedVariables false
namespace Go.Proofs.Ytlkkmgimjjnhjaa
open Go.RowKit Go.Shelf Rec

attribute [local go_sem] Oper.semAt_some

namespace Rec
/-- The next frame: its record, what is behind it. -/
def nextF : Par Rcd := fun l => (pText l).bind fun (s, r) => (readOut s).map fun x => (x, r)
/-- The frames that bytes begin with: where each ends, its record ('n' rounds at most). -/
def framesN (z : Nat) : Nat → List UInt8 → List (Nat × Rcd)
  | 0, _ => []
  | n + 1, l => match nextF l with
    | none => []
    | some (x, r) => (z - r.length, x) :: framesN z n r
def framesOf (b : ByteArray) : List (Nat × Rcd) := framesN b.size b.size b.data.toList
end Rec
/-- A frame that is handed to the loop's body: where it ends, its record, where the record's rows lie. -/
structure Fr where
  at_ : Nat
  r : Rcd
  A : Option Addr
  c : Nat
  A' : Option Addr
  c' : Nat
def Fr.plain (x : Fr) : Nat × Rcd := (x.at_, x.r)
def Fr.vals (x : Fr) : Array Value := #[.int .i64 (x.at_ : Int), .agg (rcdCells x.r x.A x.c x.A' x.c')]
structure Fr.Ok (B : Nat) (x : Fr) (W : World) : Prop where
  lt : B < W.heap.size
  a : Reads W W.heap.size 7 x.A x.r.entries.length (ents x.r.entries)
  k : Reads W W.heap.size 8 x.A' x.r.kept.length (kpts x.r.kept)
  va : Above (B + 1) x.A
  vk : Above (B + 1) x.A'
  ta : Typed W x.A 47
  tk : Typed W x.A' 64
  may : mayAll x.r = true

theorem pText_less {l : List UInt8} {t : ByteArray} {r : List UInt8} (h : pText l = some (t, r)) : r.length + 4 ≤ l.length := by
  unfold pText pNum at h
  split at h
  · simp only [Option.bind_some] at h
    split at h
    · cases h
      simp
      omega
    · cases h
  · cases h
theorem nextF_less {l : List UInt8} {x : Rcd} {r : List UInt8} (h : nextF l = some (x, r)) : r.length + 4 ≤ l.length := by
  unfold nextF at h
  cases h1 : pText l with
  | none => rw [h1] at h; cases h
  | some y =>
    obtain ⟨s, r1⟩ := y
    rw [h1] at h
    simp only [Option.bind_some] at h
    cases h2 : readOut s with
    | none => rw [h2] at h; cases h
    | some z =>
      rw [h2] at h
      cases h
      exact pText_less h1
theorem framesN_succ (z n : Nat) (l : List UInt8) (o : Option (Rcd × List UInt8)) : nextF l = o → framesN z (n + 1) l = match o with | none => [] | some (x, r) => (z - r.length, x) :: framesN z n r := by
  intro h
  subst h
  rw [framesN]
theorem framesN_more (z : Nat) : ∀ (n m : Nat) (l : List UInt8), l.length ≤ n → l.length ≤ m → framesN z n l = framesN z m l := by
  intro n
  induction n with
  | zero =>
    intro m l h1 h2
    cases m with
    | zero => rfl
    | succ m =>
      unfold framesN
      cases h : nextF l with
      | none => rfl
      | some y => have := nextF_less (x := y.1) (r := y.2) h; omega
  | succ n ih =>
    intro m l h1 h2
    cases m with
    | zero =>
      unfold framesN
      cases h : nextF l with
      | none => rfl
      | some y => have := nextF_less (x := y.1) (r := y.2) h; omega
    | succ m =>
      unfold framesN
      cases h : nextF l with
      | none => rfl
      | some y =>
        obtain ⟨x, r⟩ := y
        have := nextF_less h
        dsimp only
        rw [ih m r (by omega) (by omega)]
theorem readOut_may {s : ByteArray} {x : Rcd} (h : readOut s = some x) : mayAll x = true := by
  unfold readOut at h
  cases h1 : pRcd s.data.toList with
  | none => rw [h1] at h; cases h
  | some y =>
    obtain ⟨r, rest⟩ := y
    rw [h1] at h
    simp only [Option.bind_some] at h
    split at h
    · rename_i hh
      cases h
      exact hh.2.2
    · cases h

theorem But.toW {B : Nat} {w w' : World} (h : But B w w') (_ : B ≤ w.heap.size) : But B w w' := h
set_option maxRecDepth 100000 in
set_option maxHeartbeats 4000000 in
theorem frames1_gives (n : Nat) (hn : 1 ≤ n) (Bs : Nat) (b : ByteArray) (hs : b.size ≤ 1000000000) (W : World) (hBs : Bs < W.heap.size) (hc : W.cell? ⟨Bs, 0, none⟩ = some (.string b)) :
    Gives Fence.wide n Try.prog 70 #[.pointer (some ⟨Bs, 0, none⟩)] Fr.vals (fun A B => SameBlk Bs A B ∧ SameBlk W.heap.size A B) (fun x W' => x.Ok W.heap.size W') (fun xs => xs.map Fr.plain = framesOf b) (b.size + 1) W := by
  intro l J hJ h0 hY
  refine callsIn_of_wp Try.func70 rfl trivial ?_ rfl
  simp only [Try.ntmps70, List.size_toArray, List.length_cons, List.length_nil, Nat.reduceAdd, Nat.reduceSub, Array.replicate_succ, Array.replicate_zero, List.push_toArray, List.append_toArray, List.nil_append, List.cons_append]
  obtain ⟨all, hall⟩ : ∃ all, framesOf b = all := ⟨_, rfl⟩
  rw [hall]
  have Hall := hide hall
  clear hall
  have HJ := hide hJ
  have HY := hide hY
  have H0 := hide h0
  clear hJ hY h0
  gi_wp2
  have R0 := hide (show Rl (W.alloc (.cells #[.string b, .bool false] 67)) W.heap.size b.data.toList false by unfold Rl; rw [bstr_toList]; exact Blk.new W 67 #[.string b, .bool false])
  have J0 := hide (HJ.out [] W _ H0.out ((But.refl W.heap.size W).alloc (.cells #[.string b, .bool false] 67)))
  have B0 := hide (show SameBlk Bs W (W.alloc (.cells #[.string b, .bool false] 67)) from Below.heap_alloc _ _ _ hBs)
  gi_loopg [15] b.size (fun g v15 wr => ∃ (lst : List UInt8) (pre : List Fr), g = lst.length ∧ Rl wr W.heap.size lst false ∧ J pre wr ∧ pre.map Fr.plain ++ framesN b.size lst.length lst = all ∧ pre.length + lst.length ≤ b.size ∧ SameBlk Bs W wr)
  case atStart => exact ⟨b.data.toList, [], by simp, R0.out, J0.out, by rw [← Hall.out]; unfold framesOf; simp, by simp, B0.out⟩
  case round =>
    obtain ⟨lst, pre, hg, hr, hj, hall, hlen, hsb⟩ := hrel
    have Hg := hide hg
    have HR := hide hr
    have Hw0 := hide (Nat.le_of_lt (Blk.lt hr))
    have Hj := hide hj
    have Hal := hide hall
    have Hsb := hide hsb
    have q0 : wr.cell? ⟨W.heap.size, 0, none⟩ = some (.string (bstr lst)) := hr.cell 0
    have hsz : (bstr lst).size = lst.length := bstr_size _
    clear hg hr hj hall hsb R0 J0 B0
    by_cases h4 : 4 ≤ lst.length
    · have HT := hide (text_got wr W.heap.size lst false HR.out)
      cases hp : pText lst with
      | none =>
        rw [show goes pText false lst = none from hp] at HT
        have hnone : framesN b.size lst.length lst = [] := by
          cases hl : lst.length with
          | zero => rfl
          | succ k =>
            unfold framesN
            rw [show nextF lst = none by unfold nextF; rw [hp]; rfl]
        have Hnone := hide hnone
        have HRd := hide fun (W : World) => record_read ⟨#[]⟩ W (by simp [zero_size])
        rw [show readOut ⟨#[]⟩ = none from rfl] at HRd
        clear hnone hp
        gi_wp2_with (first
          | (refine ⟨trivial, ?_⟩; gi_at_call 66; refine (callsIn_wide.2 HT.out).mono ?_; intro e w1 hg; obtain ⟨hb1, ⟨v, rfl, rfl⟩, l', hr1⟩ := Got.no (show Got W.heap.size wr none _ _ e w1 from hg); have HB1 := hide hb1; have HR1 := hide hr1; clear hg hb1 hr1)
          | (refine ⟨trivial, ?_⟩; gi_at_call 21; refine (callsIn_wide.2 (HRd.out _)).mono ?_; rintro e w2 ⟨A, c, A', c', rfl, hb2, ha, hk, hva, hvk, hta, htk⟩; unfold rcdCells recOf zeroRcd codeR; have HB2 := hide ((HB1.out).trans (But.of_below hb2)); have d1 : w2.cell? ⟨W.heap.size, 1, none⟩ = some (.bool true) := (hb2.cell (p := ⟨W.heap.size, 1, none⟩) (Blk.lt HR1.out)).trans (Blk.cell HR1.out 1); have hlt2 : W.heap.size < w2.heap.size := Nat.lt_of_lt_of_le (Blk.lt HR1.out) hb2.size; clear hb2 ha hk hva hvk hta htk))
        refine wpIn_region_quiet_lit rfl (by kernel_rfl) (by kernel_rfl) ?_
        repeat (gi_big_quiet_step (fail))
        refine wpQuietIn_step ?_ (fun K hK => ?_)
        · go_simp
          intro a f
          simp [undef, go_sem]
        go_simp
        refine hK _ ?_
        clear hK K
        repeat (gi_big_quiet_step (fail))
        refine wpQuietIn_nil ?_
        intro _ hw'
        obtain ⟨nq, hw''⟩ := hw'
        subst hw''
        gi_wp2
        refine bodyPost_ret (results_none rfl _ _ _) rfl ?_
        refine ⟨⟨_, rfl⟩, pre, by rw [← Hal.out, Hnone.out, List.append_nil], HJ.out _ _ _ Hj.out ?_⟩
        exact (((HB2.out).alloc _).of_drewN _).toW Hw0.out
      | some y =>
        obtain ⟨s, r⟩ := y
        rw [show goes pText false lst = some (s, r) from hp] at HT
        have hss := pText_len hp
        have hls := pText_less hp
        have Hls := hide hls
        have HRd := hide fun (W : World) => record_read s W (by omega)
        obtain ⟨o, ho⟩ : ∃ o, readOut s = o := ⟨_, rfl⟩
        rw [ho] at HRd
        have hfr : framesN b.size lst.length lst = match o with | none => [] | some x => (b.size - r.length, x) :: framesN b.size r.length r := by
          cases hl : lst.length with
          | zero => omega
          | succ k =>
            rw [framesN_succ b.size k lst (o.map fun x => (x, r)) (by unfold nextF; rw [hp]; show (readOut s).map _ = _; rw [ho])]
            cases o with
            | none => rfl
            | some x =>
              simp only [Option.map_some]
              rw [framesN_more b.size k r.length r (by omega) (by omega)]
        have Hfr := hide hfr
        have Ho := hide ho
        clear hp hss hls
        cases o with
        | none =>
          gi_wp2_with (first
            | (refine ⟨trivial, ?_⟩; gi_at_call 66; refine (callsIn_wide.2 HT.out).mono ?_; intro e w1 hg; obtain ⟨hb1, rfl, hr1⟩ := Got.yes (show Got W.heap.size wr (some (s, r)) _ _ e w1 from hg); have HB1 := hide hb1; have HR1 := hide hr1; clear hg hb1 hr1)
            | (refine ⟨trivial, ?_⟩; gi_at_call 21; refine (callsIn_wide.2 (HRd.out _)).mono ?_; rintro e w2 ⟨A, c, A', c', rfl, hb2, ha, hk, hva, hvk, hta, htk⟩; unfold rcdCells recOf zeroRcd codeR; have HB2 := hide ((HB1.out).trans (But.of_below hb2)); have d1 : w2.cell? ⟨W.heap.size, 1, none⟩ = some (.bool false) := (hb2.cell (p := ⟨W.heap.size, 1, none⟩) (Blk.lt HR1.out)).trans (Blk.cell HR1.out 1); have hlt2 : W.heap.size < w2.heap.size := Nat.lt_of_lt_of_le (Blk.lt HR1.out) hb2.size; clear hb2 ha hk hva hvk hta htk))
          refine wpIn_region_quiet_lit rfl (by kernel_rfl) (by kernel_rfl) ?_
          repeat (gi_big_quiet_step (fail))
          refine wpQuietIn_step ?_ (fun K hK => ?_)
          · go_simp
            intro a f
            simp [undef, go_sem]
          go_simp
          refine hK _ ?_
          clear hK K
          repeat (gi_big_quiet_step (fail))
          refine wpQuietIn_nil ?_
          intro _ hw'
          obtain ⟨nq, hw''⟩ := hw'
          subst hw''
          gi_wp2
          refine bodyPost_ret (results_none rfl _ _ _) rfl ?_
          refine ⟨⟨_, rfl⟩, pre, by rw [← Hal.out, Hfr.out, List.append_nil], HJ.out _ _ _ Hj.out ?_⟩
          exact (((HB2.out).alloc _).of_drewN _).toW Hw0.out
        | some x =>
          gi_wp2_with (first
            | (refine ⟨trivial, ?_⟩; gi_at_call 66; refine (callsIn_wide.2 HT.out).mono ?_; intro e w1 hg; obtain ⟨hb1, rfl, hr1⟩ := Got.yes (show Got W.heap.size wr (some (s, r)) _ _ e w1 from hg); have HB1 := hide hb1; have HR1 := hide hr1; clear hg hb1 hr1)
            | (refine ⟨trivial, ?_⟩; gi_at_call 21; refine (callsIn_wide.2 (HRd.out _)).mono ?_; rintro e w2 ⟨A, c, A', c', rfl, hb2, ha, hk, hva, hvk, hta, htk⟩; unfold rcdCells recOf codeR; have HB2 := hide ((HB1.out).trans (But.of_below hb2)); have d1 : w2.cell? ⟨W.heap.size, 1, none⟩ = some (.bool false) := (hb2.cell (p := ⟨W.heap.size, 1, none⟩) (Blk.lt HR1.out)).trans (Blk.cell HR1.out 1); have d0 : w2.cell? ⟨W.heap.size, 0, none⟩ = some (.string (bstr r)) := (hb2.cell (p := ⟨W.heap.size, 0, none⟩) (Blk.lt HR1.out)).trans (Blk.cell HR1.out 0); have hlt2 : W.heap.size < w2.heap.size := Nat.lt_of_lt_of_le (Blk.lt HR1.out) hb2.size; have HR2 := hide (Blk.below HR1.out hb2 (Blk.lt HR1.out)); have Ha := hide ha; have Hk := hide hk; have Hva := hide hva; have Hvk := hide hvk; have Hta := hide hta; have Htk := hide htk; clear hb2 ha hk hva hvk hta htk))
          have e1 : ((b.size - r.length : Nat) : Int) = (b.size : Int) - r.length := by have := Hls.out; omega
          have e2 : (bstr r).size = r.length := bstr_size _
          have hsbw : SameBlk Bs wr w2 := HB2.out.block Bs (by have := Hw0.out; omega) (by omega)
          have hcb : w2.cell? ⟨Bs, 0, none⟩ = some (.string b) := (Hsb.out.trans hsbw).cell hc
          have hlb : Bs < w2.heap.size := by omega
          obtain ⟨W1, hW1⟩ : ∃ W1, (w2.alloc (.cells #[.int .i8 x.kind, .int .i64 x.gen, .string x.url, .string x.id, .bool x.read, .slice A x.entries.length c, .string x.surl, .slice A' x.kept.length c'] 28)).drew = W1 := ⟨_, rfl⟩
          have hJ1 : J pre W1 := by rw [← hW1]; exact HJ.out _ _ _ Hj.out (((HB2.out).alloc _).drew)
          have hOk : (Fr.mk (b.size - r.length) x A c A' c').Ok W.heap.size W1 := by
            rw [← hW1]
            have hb : Below w2.heap.size w2 (w2.alloc (.cells #[.int .i8 x.kind, .int .i64 x.gen, .string x.url, .string x.id, .bool x.read, .slice A x.entries.length c, .string x.surl, .slice A' x.kept.length c'] 28)).drew := ((Below.refl _ w2).alloc (Nat.le_refl _) _).drew
            exact ⟨by show W.heap.size < _; have := Hw0.out; have := HB1.out.size; simp; omega, (Ha.out.below hb).more hb.size, (Hk.out.below hb).more hb.size, Hva.out.more (Nat.succ_le_of_lt (Blk.lt HR1.out)), Hvk.out.more (Nat.succ_le_of_lt (Blk.lt HR1.out)), Hta.out.below hb, Htk.out.below hb, readOut_may Ho.out⟩
          obtain ⟨fn, tmps, assign, body, hy, hR⟩ := HY.out pre _ W1 hJ1 hOk (by omega)
          unfold Fr.vals rcdCells at hy
          dsimp only at hy
          rw [e1] at hy
          subst hW1
          have HRd' := hide hR
          have hwr : IntKind.i64.wrap ((b.size : Int) - r.length) = (b.size : Int) - r.length := IntWalk.i64_in _ (by have := Hls.out; omega)
          have Hsbw := hide (Hsb.out.trans (hsbw.trans (Below.heap_alloc w2 (.cells #[.int .i8 x.kind, .int .i64 x.gen, .string x.url, .string x.id, .bool x.read, .slice A x.entries.length c, .string x.surl, .slice A' x.kept.length c'] 28) Bs hlb)))
          clear hJ1 hOk hR e1
          refine wpIn_region_any (by kernel_rfl) ?_
          change wpAnyIn _ _ _ _ _ _ 22 #[false, false, false, false, false, false, false, false, false, false, false, false, false, false, false, false, false, false, false, false, false, false] _ (World.drew _)
          refine in_take (i := 0) (d := 23) (v := ?_) rfl rfl rfl (by kernel_rfl) (by kernel_rfl) (by kernel_rfl) (fun _ _ _ h => h) (by kernel_rfl) ?_ (fun _ => rfl) ?_
          rotate_left
          · intro w
            (try dsimp only)
            go_simp
            first | done | with_reducible rfl
          (try simp only [Act.put, List.setIfInBounds_toArray, List.set_cons_zero, List.set_cons_succ])
          refine in_take (i := 1) (d := 24) (v := ?_) rfl rfl rfl (by kernel_rfl) (by kernel_rfl) (by kernel_rfl) (fun _ _ _ h => h) (by kernel_rfl) ?_ (fun _ => rfl) ?_
          rotate_left
          · intro w
            (try dsimp only)
            go_simp
            first | done | with_reducible rfl
          (try simp only [Act.put, List.setIfInBounds_toArray, List.set_cons_zero, List.set_cons_succ])
          refine in_take (i := 2) (d := 25) (v := ?_) rfl rfl rfl (by kernel_rfl) (by kernel_rfl) (by kernel_rfl) (fun _ _ _ h => h) (by kernel_rfl) ?_ (fun _ => rfl) ?_
          rotate_left
          · intro w
            (try dsimp only)
            go_simp
            first | done | with_reducible rfl
          (try simp only [Act.put, List.setIfInBounds_toArray, List.set_cons_zero, List.set_cons_succ])
          refine in_one (i := 3) rfl (by kernel_rfl) (by kernel_rfl) (fun K hK => ?_)
          go_simp
          refine hK _ _ ?_
          clear hK K
          (try simp only [Act.put, List.setIfInBounds_toArray, List.set_cons_zero, List.set_cons_succ])
          refine in_take (i := 4) (d := 27) (v := ?_) rfl rfl rfl (by kernel_rfl) (by kernel_rfl) (by kernel_rfl) (fun _ _ _ h => h) (by kernel_rfl) ?_ (fun _ => rfl) ?_
          rotate_left
          · intro w
            (try dsimp only)
            go_simp
            first | done | with_reducible rfl
          (try simp only [Act.put, List.setIfInBounds_toArray, List.set_cons_zero, List.set_cons_succ])
          refine in_take (i := 5) (d := 28) (v := ?_) rfl rfl rfl (by kernel_rfl) (by kernel_rfl) (by kernel_rfl) (fun _ _ _ h => h) (by kernel_rfl) ?_ (fun _ => rfl) ?_
          rotate_left
          · intro w
            (try dsimp only)
            go_simp
            first | done | with_reducible rfl
          (try simp only [Act.put, List.setIfInBounds_toArray, List.set_cons_zero, List.set_cons_succ])
          refine in_take (i := 6) (d := 29) (v := ?_) rfl rfl rfl (by kernel_rfl) (by kernel_rfl) (by kernel_rfl) (fun _ _ _ h => h) (by kernel_rfl) ?_ (fun _ => rfl) ?_
          rotate_left
          · intro w
            (try dsimp only)
            go_simp
            first | done | with_reducible rfl
          (try simp only [Act.put, List.setIfInBounds_toArray, List.set_cons_zero, List.set_cons_succ])
          refine in_take (i := 7) (d := 30) (v := ?_) rfl rfl rfl (by kernel_rfl) (by kernel_rfl) (by kernel_rfl) (fun _ _ _ h => h) (by kernel_rfl) ?_ (fun _ => rfl) ?_
          rotate_left
          · intro w
            (try dsimp only)
            go_simp
            first | done | with_reducible rfl
          (try simp only [Act.put, List.setIfInBounds_toArray, List.set_cons_zero, List.set_cons_succ])
          refine in_take (i := 8) (d := 31) (v := ?_) rfl rfl rfl (by kernel_rfl) (by kernel_rfl) (by kernel_rfl) (fun _ _ _ h => h) (by kernel_rfl) ?_ (fun _ => rfl) ?_
          rotate_left
          · intro w
            (try dsimp only)
            go_simp
            first | done | with_reducible rfl
          (try simp only [Act.put, List.setIfInBounds_toArray, List.set_cons_zero, List.set_cons_succ])
          refine in_take (i := 9) (d := 32) (v := ?_) rfl rfl rfl (by kernel_rfl) (by kernel_rfl) (by kernel_rfl) (fun _ _ _ h => h) (by kernel_rfl) ?_ (fun _ => rfl) ?_
          rotate_left
          · intro w
            (try dsimp only)
            go_simp
            first | done | with_reducible rfl
          (try simp only [Act.put, List.setIfInBounds_toArray, List.set_cons_zero, List.set_cons_succ])
          refine in_take (i := 12) (d := 35) (v := ?_) rfl rfl rfl (by kernel_rfl) (by kernel_rfl) (by kernel_rfl) (fun _ _ _ h => h) (by kernel_rfl) ?_ (fun _ => rfl) ?_
          rotate_left
          · intro w
            (try dsimp only)
            go_simp
            first | done | with_reducible rfl
          (try simp only [Act.put, List.setIfInBounds_toArray, List.set_cons_zero, List.set_cons_succ])
          refine in_take (i := 13) (d := 36) (v := ?_) rfl rfl rfl (by kernel_rfl) (by kernel_rfl) (by kernel_rfl) (fun _ _ _ h => h) (by kernel_rfl) ?_ (fun _ => rfl) ?_
          rotate_left
          · intro w
            (try dsimp only)
            go_simp
            first | done | with_reducible rfl
          (try simp only [Act.put, List.setIfInBounds_toArray, List.set_cons_zero, List.set_cons_succ])
          refine in_take (i := 14) (d := 37) (v := ?_) rfl rfl rfl (by kernel_rfl) (by kernel_rfl) (by kernel_rfl) (fun _ _ _ h => h) (by kernel_rfl) ?_ (fun _ => rfl) ?_
          rotate_left
          · intro w
            (try dsimp only)
            go_simp
            first | done | with_reducible rfl
          (try simp only [Act.put, List.setIfInBounds_toArray, List.set_cons_zero, List.set_cons_succ])
          refine wpAnyIn_ready (rs := [10, 15, 18]) (by kernel_rfl) (by simp) ?_
          refine in_cons (i := 10) rfl (by kernel_rfl) (fun K hK => ?_) ?_
          · go_simp
            refine hK _ _ ?_
            clear hK K
            (try simp only [Act.put, List.setIfInBounds_toArray, List.set_cons_zero, List.set_cons_succ])
            refine in_take (i := 11) (d := 34) (v := ?_) rfl rfl rfl (by kernel_rfl) (by kernel_rfl) (by kernel_rfl) (fun _ _ _ h => h) (by kernel_rfl) ?_ (fun _ => rfl) ?_
            rotate_left
            · intro w
              (try dsimp only)
              go_simp
              first | done | with_reducible rfl
            (try simp only [Act.put, List.setIfInBounds_toArray, List.set_cons_zero, List.set_cons_succ])
            refine wpAnyIn_ready (rs := [15, 18]) (by kernel_rfl) (by simp) ?_
            refine in_cons (i := 15) rfl (by kernel_rfl) (fun K hK => ?_) ?_
            · go_simp
              refine hK _ _ ?_
              clear hK K
              (try simp only [Act.put, List.setIfInBounds_toArray, List.set_cons_zero, List.set_cons_succ])
              refine in_take (i := 16) (d := 39) (v := ?_) rfl rfl rfl (by kernel_rfl) (by kernel_rfl) (by kernel_rfl) (fun _ _ _ h => h) (by kernel_rfl) ?_ (fun _ => rfl) ?_
              rotate_left
              · intro w
                (try dsimp only)
                go_simp
                first | done | with_reducible rfl
              (try simp only [Act.put, List.setIfInBounds_toArray, List.set_cons_zero, List.set_cons_succ])
              refine in_take (i := 17) (d := 40) (v := ?_) rfl rfl rfl (by kernel_rfl) (by kernel_rfl) (by kernel_rfl) (fun _ _ _ h => h) (by kernel_rfl) ?_ (fun _ => rfl) ?_
              rotate_left
              · intro w
                (try dsimp only)
                go_simp
                first | done | with_reducible rfl
              (try simp only [Act.put, List.setIfInBounds_toArray, List.set_cons_zero, List.set_cons_succ])
              refine wpAnyIn_ready (rs := [18]) (by kernel_rfl) (by simp) ?_
              refine in_cons (i := 18) rfl (by kernel_rfl) (fun K hK => ?_) ?_
              · go_simp
                refine hK _ _ ?_
                clear hK K
                (try simp only [Act.put, List.setIfInBounds_toArray, List.set_cons_zero, List.set_cons_succ])
                refine in_one (i := 19) rfl (by kernel_rfl) (by kernel_rfl) (fun K hK => ?_)
                go_simp
                refine HRd'.out.mono ?_
                rintro e W3 ⟨rfl, hJ3, hk3, hk4⟩
                have HJ3 := hide hJ3
                have Hk3 := hide hk3
                have Hk4 := hide hk4
                clear hJ3 hk3 hk4 hy
                (try dsimp only)
                refine hK _ _ ?_
                clear hK K
                (try simp only [Act.put, List.setIfInBounds_toArray, List.set_cons_zero, List.set_cons_succ])
                refine in_take (i := 20) (d := 43) (v := ?_) rfl rfl rfl (by kernel_rfl) (by kernel_rfl) (by kernel_rfl) (fun _ _ _ h => h) (by kernel_rfl) ?_ (fun _ => rfl) ?_
                rotate_left
                · intro w
                  (try dsimp only)
                  go_simp
                  first | done | with_reducible rfl
                (try simp only [Act.put, List.setIfInBounds_toArray, List.set_cons_zero, List.set_cons_succ])
                refine in_take (i := 21) (d := 44) (v := ?_) rfl rfl rfl (by kernel_rfl) (by kernel_rfl) (by kernel_rfl) (fun _ _ _ h => h) (by kernel_rfl) ?_ (fun _ => rfl) ?_
                rotate_left
                · intro w
                  (try dsimp only)
                  go_simp
                  first | done | with_reducible rfl
                (try simp only [Act.put, List.setIfInBounds_toArray, List.set_cons_zero, List.set_cons_succ])
                refine wpAnyIn_done (by kernel_rfl) ?_ _
                gi_wp2
                go_roundg r.length
                case measure => have := Hls.out; have := Hg.out; omega
                case rel => exact ⟨r, _, rfl, Eq.trans Hk4.out (Blk.alloc HR2.out _), HJ3.out, by rw [← Hal.out, Hfr.out, List.map_append, List.append_assoc]; rfl, by have := Hls.out; simp; omega, Hsbw.out.trans Hk3.out⟩
              exact AllReadyIn.nil
            refine in_cons (i := 18) rfl (by kernel_rfl) (fun K hK => ?_) ?_
            · go_simp
              refine hK _ _ ?_
              clear hK K
              (try simp only [Act.put, List.setIfInBounds_toArray, List.set_cons_zero, List.set_cons_succ])
              refine wpAnyIn_ready (rs := [15]) (by kernel_rfl) (by simp) ?_
              refine in_cons (i := 15) rfl (by kernel_rfl) (fun K hK => ?_) ?_
              · go_simp
                refine hK _ _ ?_
                clear hK K
                (try simp only [Act.put, List.setIfInBounds_toArray, List.set_cons_zero, List.set_cons_succ])
                refine in_take (i := 16) (d := 39) (v := ?_) rfl rfl rfl (by kernel_rfl) (by kernel_rfl) (by kernel_rfl) (fun _ _ _ h => h) (by kernel_rfl) ?_ (fun _ => rfl) ?_
                rotate_left
                · intro w
                  (try dsimp only)
                  go_simp
                  first | done | with_reducible rfl
                (try simp only [Act.put, List.setIfInBounds_toArray, List.set_cons_zero, List.set_cons_succ])
                refine in_take (i := 17) (d := 40) (v := ?_) rfl rfl rfl (by kernel_rfl) (by kernel_rfl) (by kernel_rfl) (fun _ _ _ h => h) (by kernel_rfl) ?_ (fun _ => rfl) ?_
                rotate_left
                · intro w
                  (try dsimp only)
                  go_simp
                  first | done | with_reducible rfl
                (try simp only [Act.put, List.setIfInBounds_toArray, List.set_cons_zero, List.set_cons_succ])
                refine in_one (i := 19) rfl (by kernel_rfl) (by kernel_rfl) (fun K hK => ?_)
                go_simp
                refine HRd'.out.mono ?_
                rintro e W3 ⟨rfl, hJ3, hk3, hk4⟩
                have HJ3 := hide hJ3
                have Hk3 := hide hk3
                have Hk4 := hide hk4
                clear hJ3 hk3 hk4 hy
                (try dsimp only)
                refine hK _ _ ?_
                clear hK K
                (try simp only [Act.put, List.setIfInBounds_toArray, List.set_cons_zero, List.set_cons_succ])
                refine in_take (i := 20) (d := 43) (v := ?_) rfl rfl rfl (by kernel_rfl) (by kernel_rfl) (by kernel_rfl) (fun _ _ _ h => h) (by kernel_rfl) ?_ (fun _ => rfl) ?_
                rotate_left
                · intro w
                  (try dsimp only)
                  go_simp
                  first | done | with_reducible rfl
                (try simp only [Act.put, List.setIfInBounds_toArray, List.set_cons_zero, List.set_cons_succ])
                refine in_take (i := 21) (d := 44) (v := ?_) rfl rfl rfl (by kernel_rfl) (by kernel_rfl) (by kernel_rfl) (fun _ _ _ h => h) (by kernel_rfl) ?_ (fun _ => rfl) ?_
                rotate_left
                · intro w
                  (try dsimp only)
                  go_simp
                  first | done | with_reducible rfl
                (try simp only [Act.put, List.setIfInBounds_toArray, List.set_cons_zero, List.set_cons_succ])
                refine wpAnyIn_done (by kernel_rfl) ?_ _
                gi_wp2
                go_roundg r.length
                case measure => have := Hls.out; have := Hg.out; omega
                case rel => exact ⟨r, _, rfl, Eq.trans Hk4.out (Blk.alloc HR2.out _), HJ3.out, by rw [← Hal.out, Hfr.out, List.map_append, List.append_assoc]; rfl, by have := Hls.out; simp; omega, Hsbw.out.trans Hk3.out⟩
              exact AllReadyIn.nil
            exact AllReadyIn.nil
          refine in_cons (i := 15) rfl (by kernel_rfl) (fun K hK => ?_) ?_
          · go_simp
            refine hK _ _ ?_
            clear hK K
            (try simp only [Act.put, List.setIfInBounds_toArray, List.set_cons_zero, List.set_cons_succ])
            refine in_take (i := 16) (d := 39) (v := ?_) rfl rfl rfl (by kernel_rfl) (by kernel_rfl) (by kernel_rfl) (fun _ _ _ h => h) (by kernel_rfl) ?_ (fun _ => rfl) ?_
            rotate_left
            · intro w
              (try dsimp only)
              go_simp
              first | done | with_reducible rfl
            (try simp only [Act.put, List.setIfInBounds_toArray, List.set_cons_zero, List.set_cons_succ])
            refine wpAnyIn_ready (rs := [10, 18]) (by kernel_rfl) (by simp) ?_
            refine in_cons (i := 10) rfl (by kernel_rfl) (fun K hK => ?_) ?_
            · go_simp
              refine hK _ _ ?_
              clear hK K
              (try simp only [Act.put, List.setIfInBounds_toArray, List.set_cons_zero, List.set_cons_succ])
              refine in_take (i := 11) (d := 34) (v := ?_) rfl rfl rfl (by kernel_rfl) (by kernel_rfl) (by kernel_rfl) (fun _ _ _ h => h) (by kernel_rfl) ?_ (fun _ => rfl) ?_
              rotate_left
              · intro w
                (try dsimp only)
                go_simp
                first | done | with_reducible rfl
              (try simp only [Act.put, List.setIfInBounds_toArray, List.set_cons_zero, List.set_cons_succ])
              refine in_take (i := 17) (d := 40) (v := ?_) rfl rfl rfl (by kernel_rfl) (by kernel_rfl) (by kernel_rfl) (fun _ _ _ h => h) (by kernel_rfl) ?_ (fun _ => rfl) ?_
              rotate_left
              · intro w
                (try dsimp only)
                go_simp
                first | done | with_reducible rfl
              (try simp only [Act.put, List.setIfInBounds_toArray, List.set_cons_zero, List.set_cons_succ])
              refine wpAnyIn_ready (rs := [18]) (by kernel_rfl) (by simp) ?_
              refine in_cons (i := 18) rfl (by kernel_rfl) (fun K hK => ?_) ?_
              · go_simp
                refine hK _ _ ?_
                clear hK K
                (try simp only [Act.put, List.setIfInBounds_toArray, List.set_cons_zero, List.set_cons_succ])
                refine in_one (i := 19) rfl (by kernel_rfl) (by kernel_rfl) (fun K hK => ?_)
                go_simp
                refine HRd'.out.mono ?_
                rintro e W3 ⟨rfl, hJ3, hk3, hk4⟩
                have HJ3 := hide hJ3
                have Hk3 := hide hk3
                have Hk4 := hide hk4
                clear hJ3 hk3 hk4 hy
                (try dsimp only)
                refine hK _ _ ?_
                clear hK K
                (try simp only [Act.put, List.setIfInBounds_toArray, List.set_cons_zero, List.set_cons_succ])
                refine in_take (i := 20) (d := 43) (v := ?_) rfl rfl rfl (by kernel_rfl) (by kernel_rfl) (by kernel_rfl) (fun _ _ _ h => h) (by kernel_rfl) ?_ (fun _ => rfl) ?_
                rotate_left
                · intro w
                  (try dsimp only)
                  go_simp
                  first | done | with_reducible rfl
                (try simp only [Act.put, List.setIfInBounds_toArray, List.set_cons_zero, List.set_cons_succ])
                refine in_take (i := 21) (d := 44) (v := ?_) rfl rfl rfl (by kernel_rfl) (by kernel_rfl) (by kernel_rfl) (fun _ _ _ h => h) (by kernel_rfl) ?_ (fun _ => rfl) ?_
                rotate_left
                · intro w
                  (try dsimp only)
                  go_simp
                  first | done | with_reducible rfl
                (try simp only [Act.put, List.setIfInBounds_toArray, List.set_cons_zero, List.set_cons_succ])
                refine wpAnyIn_done (by kernel_rfl) ?_ _
                gi_wp2
                go_roundg r.length
                case measure => have := Hls.out; have := Hg.out; omega
                case rel => exact ⟨r, _, rfl, Eq.trans Hk4.out (Blk.alloc HR2.out _), HJ3.out, by rw [← Hal.out, Hfr.out, List.map_append, List.append_assoc]; rfl, by have := Hls.out; simp; omega, Hsbw.out.trans Hk3.out⟩
              exact AllReadyIn.nil
            refine in_cons (i := 18) rfl (by kernel_rfl) (fun K hK => ?_) ?_
            · go_simp
              refine hK _ _ ?_
              clear hK K
              (try simp only [Act.put, List.setIfInBounds_toArray, List.set_cons_zero, List.set_cons_succ])
              refine wpAnyIn_ready (rs := [10]) (by kernel_rfl) (by simp) ?_
              refine in_cons (i := 10) rfl (by kernel_rfl) (fun K hK => ?_) ?_
              · go_simp
                refine hK _ _ ?_
                clear hK K
                (try simp only [Act.put, List.setIfInBounds_toArray, List.set_cons_zero, List.set_cons_succ])
                refine in_take (i := 11) (d := 34) (v := ?_) rfl rfl rfl (by kernel_rfl) (by kernel_rfl) (by kernel_rfl) (fun _ _ _ h => h) (by kernel_rfl) ?_ (fun _ => rfl) ?_
                rotate_left
                · intro w
                  (try dsimp only)
                  go_simp
                  first | done | with_reducible rfl
                (try simp only [Act.put, List.setIfInBounds_toArray, List.set_cons_zero, List.set_cons_succ])
                refine in_take (i := 17) (d := 40) (v := ?_) rfl rfl rfl (by kernel_rfl) (by kernel_rfl) (by kernel_rfl) (fun _ _ _ h => h) (by kernel_rfl) ?_ (fun _ => rfl) ?_
                rotate_left
                · intro w
                  (try dsimp only)
                  go_simp
                  first | done | with_reducible rfl
                (try simp only [Act.put, List.setIfInBounds_toArray, List.set_cons_zero, List.set_cons_succ])
                refine in_one (i := 19) rfl (by kernel_rfl) (by kernel_rfl) (fun K hK => ?_)
                go_simp
                refine HRd'.out.mono ?_
                rintro e W3 ⟨rfl, hJ3, hk3, hk4⟩
                have HJ3 := hide hJ3
                have Hk3 := hide hk3
                have Hk4 := hide hk4
                clear hJ3 hk3 hk4 hy
                (try dsimp only)
                refine hK _ _ ?_
                clear hK K
                (try simp only [Act.put, List.setIfInBounds_toArray, List.set_cons_zero, List.set_cons_succ])
                refine in_take (i := 20) (d := 43) (v := ?_) rfl rfl rfl (by kernel_rfl) (by kernel_rfl) (by kernel_rfl) (fun _ _ _ h => h) (by kernel_rfl) ?_ (fun _ => rfl) ?_
                rotate_left
                · intro w
                  (try dsimp only)
                  go_simp
                  first | done | with_reducible rfl
                (try simp only [Act.put, List.setIfInBounds_toArray, List.set_cons_zero, List.set_cons_succ])
                refine in_take (i := 21) (d := 44) (v := ?_) rfl rfl rfl (by kernel_rfl) (by kernel_rfl) (by kernel_rfl) (fun _ _ _ h => h) (by kernel_rfl) ?_ (fun _ => rfl) ?_
                rotate_left
                · intro w
                  (try dsimp only)
                  go_simp
                  first | done | with_reducible rfl
                (try simp only [Act.put, List.setIfInBounds_toArray, List.set_cons_zero, List.set_cons_succ])
                refine wpAnyIn_done (by kernel_rfl) ?_ _
                gi_wp2
                go_roundg r.length
                case measure => have := Hls.out; have := Hg.out; omega
                case rel => exact ⟨r, _, rfl, Eq.trans Hk4.out (Blk.alloc HR2.out _), HJ3.out, by rw [← Hal.out, Hfr.out, List.map_append, List.append_assoc]; rfl, by have := Hls.out; simp; omega, Hsbw.out.trans Hk3.out⟩
              exact AllReadyIn.nil
            exact AllReadyIn.nil
          refine in_cons (i := 18) rfl (by kernel_rfl) (fun K hK => ?_) ?_
          · go_simp
            refine hK _ _ ?_
            clear hK K
            (try simp only [Act.put, List.setIfInBounds_toArray, List.set_cons_zero, List.set_cons_succ])
            refine wpAnyIn_ready (rs := [10, 15]) (by kernel_rfl) (by simp) ?_
            refine in_cons (i := 10) rfl (by kernel_rfl) (fun K hK => ?_) ?_
            · go_simp
              refine hK _ _ ?_
              clear hK K
              (try simp only [Act.put, List.setIfInBounds_toArray, List.set_cons_zero, List.set_cons_succ])
              refine in_take (i := 11) (d := 34) (v := ?_) rfl rfl rfl (by kernel_rfl) (by kernel_rfl) (by kernel_rfl) (fun _ _ _ h => h) (by kernel_rfl) ?_ (fun _ => rfl) ?_
              rotate_left
              · intro w
                (try dsimp only)
                go_simp
                first | done | with_reducible rfl
              (try simp only [Act.put, List.setIfInBounds_toArray, List.set_cons_zero, List.set_cons_succ])
              refine wpAnyIn_ready (rs := [15]) (by kernel_rfl) (by simp) ?_
              refine in_cons (i := 15) rfl (by kernel_rfl) (fun K hK => ?_) ?_
              · go_simp
                refine hK _ _ ?_
                clear hK K
                (try simp only [Act.put, List.setIfInBounds_toArray, List.set_cons_zero, List.set_cons_succ])
                refine in_take (i := 16) (d := 39) (v := ?_) rfl rfl rfl (by kernel_rfl) (by kernel_rfl) (by kernel_rfl) (fun _ _ _ h => h) (by kernel_rfl) ?_ (fun _ => rfl) ?_
                rotate_left
                · intro w
                  (try dsimp only)
                  go_simp
                  first | done | with_reducible rfl
                (try simp only [Act.put, List.setIfInBounds_toArray, List.set_cons_zero, List.set_cons_succ])
                refine in_take (i := 17) (d := 40) (v := ?_) rfl rfl rfl (by kernel_rfl) (by kernel_rfl) (by kernel_rfl) (fun _ _ _ h => h) (by kernel_rfl) ?_ (fun _ => rfl) ?_
                rotate_left
                · intro w
                  (try dsimp only)
                  go_simp
                  first | done | with_reducible rfl
                (try simp only [Act.put, List.setIfInBounds_toArray, List.set_cons_zero, List.set_cons_succ])
                refine in_one (i := 19) rfl (by kernel_rfl) (by kernel_rfl) (fun K hK => ?_)
                go_simp
                refine HRd'.out.mono ?_
                rintro e W3 ⟨rfl, hJ3, hk3, hk4⟩
                have HJ3 := hide hJ3
                have Hk3 := hide hk3
                have Hk4 := hide hk4
                clear hJ3 hk3 hk4 hy
                (try dsimp only)
                refine hK _ _ ?_
                clear hK K
                (try simp only [Act.put, List.setIfInBounds_toArray, List.set_cons_zero, List.set_cons_succ])
                refine in_take (i := 20) (d := 43) (v := ?_) rfl rfl rfl (by kernel_rfl) (by kernel_rfl) (by kernel_rfl) (fun _ _ _ h => h) (by kernel_rfl) ?_ (fun _ => rfl) ?_
                rotate_left
                · intro w
                  (try dsimp only)
                  go_simp
                  first | done | with_reducible rfl
                (try simp only [Act.put, List.setIfInBounds_toArray, List.set_cons_zero, List.set_cons_succ])
                refine in_take (i := 21) (d := 44) (v := ?_) rfl rfl rfl (by kernel_rfl) (by kernel_rfl) (by kernel_rfl) (fun _ _ _ h => h) (by kernel_rfl) ?_ (fun _ => rfl) ?_
                rotate_left
                · intro w
                  (try dsimp only)
                  go_simp
                  first | done | with_reducible rfl
                (try simp only [Act.put, List.setIfInBounds_toArray, List.set_cons_zero, List.set_cons_succ])
                refine wpAnyIn_done (by kernel_rfl) ?_ _
                gi_wp2
                go_roundg r.length
                case measure => have := Hls.out; have := Hg.out; omega
                case rel => exact ⟨r, _, rfl, Eq.trans Hk4.out (Blk.alloc HR2.out _), HJ3.out, by rw [← Hal.out, Hfr.out, List.map_append, List.append_assoc]; rfl, by have := Hls.out; simp; omega, Hsbw.out.trans Hk3.out⟩
              exact AllReadyIn.nil
            refine in_cons (i := 15) rfl (by kernel_rfl) (fun K hK => ?_) ?_
            · go_simp
              refine hK _ _ ?_
              clear hK K
              (try simp only [Act.put, List.setIfInBounds_toArray, List.set_cons_zero, List.set_cons_succ])
              refine in_take (i := 16) (d := 39) (v := ?_) rfl rfl rfl (by kernel_rfl) (by kernel_rfl) (by kernel_rfl) (fun _ _ _ h => h) (by kernel_rfl) ?_ (fun _ => rfl) ?_
              rotate_left
              · intro w
                (try dsimp only)
                go_simp
                first | done | with_reducible rfl
              (try simp only [Act.put, List.setIfInBounds_toArray, List.set_cons_zero, List.set_cons_succ])
              refine wpAnyIn_ready (rs := [10]) (by kernel_rfl) (by simp) ?_
              refine in_cons (i := 10) rfl (by kernel_rfl) (fun K hK => ?_) ?_
              · go_simp
                refine hK _ _ ?_
                clear hK K
                (try simp only [Act.put, List.setIfInBounds_toArray, List.set_cons_zero, List.set_cons_succ])
                refine in_take (i := 11) (d := 34) (v := ?_) rfl rfl rfl (by kernel_rfl) (by kernel_rfl) (by kernel_rfl) (fun _ _ _ h => h) (by kernel_rfl) ?_ (fun _ => rfl) ?_
                rotate_left
                · intro w
                  (try dsimp only)
                  go_simp
                  first | done | with_reducible rfl
                (try simp only [Act.put, List.setIfInBounds_toArray, List.set_cons_zero, List.set_cons_succ])
                refine in_take (i := 17) (d := 40) (v := ?_) rfl rfl rfl (by kernel_rfl) (by kernel_rfl) (by kernel_rfl) (fun _ _ _ h => h) (by kernel_rfl) ?_ (fun _ => rfl) ?_
                rotate_left
                · intro w
                  (try dsimp only)
                  go_simp
                  first | done | with_reducible rfl
                (try simp only [Act.put, List.setIfInBounds_toArray, List.set_cons_zero, List.set_cons_succ])
                refine in_one (i := 19) rfl (by kernel_rfl) (by kernel_rfl) (fun K hK => ?_)
                go_simp
                refine HRd'.out.mono ?_
                rintro e W3 ⟨rfl, hJ3, hk3, hk4⟩
                have HJ3 := hide hJ3
                have Hk3 := hide hk3
                have Hk4 := hide hk4
                clear hJ3 hk3 hk4 hy
                (try dsimp only)
                refine hK _ _ ?_
                clear hK K
                (try simp only [Act.put, List.setIfInBounds_toArray, List.set_cons_zero, List.set_cons_succ])
                refine in_take (i := 20) (d := 43) (v := ?_) rfl rfl rfl (by kernel_rfl) (by kernel_rfl) (by kernel_rfl) (fun _ _ _ h => h) (by kernel_rfl) ?_ (fun _ => rfl) ?_
                rotate_left
                · intro w
                  (try dsimp only)
                  go_simp
                  first | done | with_reducible rfl
                (try simp only [Act.put, List.setIfInBounds_toArray, List.set_cons_zero, List.set_cons_succ])
                refine in_take (i := 21) (d := 44) (v := ?_) rfl rfl rfl (by kernel_rfl) (by kernel_rfl) (by kernel_rfl) (fun _ _ _ h => h) (by kernel_rfl) ?_ (fun _ => rfl) ?_
                rotate_left
                · intro w
                  (try dsimp only)
                  go_simp
                  first | done | with_reducible rfl
                (try simp only [Act.put, List.setIfInBounds_toArray, List.set_cons_zero, List.set_cons_succ])
                refine wpAnyIn_done (by kernel_rfl) ?_ _
                gi_wp2
                go_roundg r.length
                case measure => have := Hls.out; have := Hg.out; omega
                case rel => exact ⟨r, _, rfl, Eq.trans Hk4.out (Blk.alloc HR2.out _), HJ3.out, by rw [← Hal.out, Hfr.out, List.map_append, List.append_assoc]; rfl, by have := Hls.out; simp; omega, Hsbw.out.trans Hk3.out⟩
              exact AllReadyIn.nil
            exact AllReadyIn.nil
          exact AllReadyIn.nil
    · have h4' : ¬ (4 : Int) ≤ lst.length := by omega
      have hnone : framesN b.size lst.length lst = [] := by
        cases hl : lst.length with
        | zero => rfl
        | succ k =>
          unfold framesN
          cases h : nextF lst with
          | none => rfl
          | some y => have := nextF_less (x := y.1) (r := y.2) h; omega
      have Hnone := hide hnone
      clear hnone
      gi_wp2
      go_end0
      exact ⟨⟨_, rfl⟩, pre, by rw [← Hal.out, Hnone.out, List.append_nil], Hj.out⟩
end Go.Proofs.Ytlkkmgimjjnhjaa
