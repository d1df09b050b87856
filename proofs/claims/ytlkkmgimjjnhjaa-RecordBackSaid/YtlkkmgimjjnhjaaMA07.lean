/- Whether a record may be. (Printed by wip/genRecH.py.) · Whether a record may be: entries, marks, subs. (Printed by wip/genRecI.py.) -/
import Derived.Test.YtlkkmgimjjnhjaaMA06
import Derived.BigRegion
set_option linter.unusedSimpArgs false
set_option linter.unusedVariables false
namespace Go.Proofs.Ytlkkmgimjjnhjaa
open Go.RowKit Rec

/-- A record with the kind alone, and the named fields. -/
def ownOf (r : Rcd) (g u i d e s : Bool) : Rcd :=
  ⟨r.kind, if g then r.gen else 0, if u then r.url else ⟨#[]⟩, if i then r.id else ⟨#[]⟩, if d then r.read else false, if e then r.entries else [], if s then r.surl else ⟨#[]⟩, if s then r.kept else []⟩
theorem own_eq (r : Rcd) (g u i d e s : Bool) : decide (ownOf r g u i d e s = r) = zeroBut r g u i d e s s := by
  have hc : ∀ {α : Type} [DecidableEq α] (b : Bool) (x z : α), decide ((if b then x else z) = x) = (b || decide (x = z)) := by
    intro α _ b x z
    cases b
    · simp [eq_comm]
    · simp
  rw [rcd_eq]
  unfold ownOf zeroBut
  dsimp only
  rw [hc, hc, hc, hc, hc, hc, hc, decide_eq_true rfl, Bool.true_and]
  simp only [Bool.and_assoc]
theorem and_no1 {a b : Bool} (h : a = false) : false = (a && b) := by rw [h]; rfl
/-- What a record asks of its rows, in a world. -/
structure RcdIn (w : World) (r : Rcd) (A A' : Option Addr) : Prop where
  a : Reads w w.heap.size 7 A r.entries.length (ents r.entries)
  k : Reads w w.heap.size 8 A' r.kept.length (kpts r.kept)
  na : r.entries.length ≤ 1000000000
  nk : r.kept.length ≤ 1000000000
  sa : Small r.entries
  sk : Small (r.kept.map (·.e))
  su : r.url.size ≤ 1000000000
  si : r.id.size ≤ 1000000000
theorem RcdIn.later {w w' : World} {r : Rcd} {A A' : Option Addr} (h : RcdIn w r A A') (hb : Below w.heap.size w w') : RcdIn w' r A A' := ⟨h.a.later hb, h.k.later hb, h.na, h.nk, h.sa, h.sk, h.su, h.si⟩


set_option maxHeartbeats 4000000 in
theorem may_0 (r : Rcd) (A A' : Option Addr) (c c' : Nat) (w : World) (hk : r.kind = 0) (hi : RcdIn w r A A') :
    Calls Try.prog 29 #[.agg (rcdCells r A c A' c')] w fun e w' => e = .returned (.bool (may r)) ∧ Below w.heap.size w w' := by
  obtain ⟨k, g, u, i, b, l, s, m⟩ := r
  dsimp only at hk
  subst hk
  unfold rcdCells
  dsimp only
  have HI := hide hi
  clear hi
  have HS := hide fun (W : World) (hb : Below w.heap.size w W) => same_any (⟨0, g, ⟨#[]⟩, ⟨#[]⟩, false, [], ⟨#[]⟩, []⟩) ⟨0, g, u, i, b, l, s, m⟩ none none A A' 0 0 c c' W Reads.none_ Reads.none_ (HI.out.later hb).a (HI.out.later hb).k (Nat.zero_le _) HI.out.na (Nat.zero_le _) HI.out.nk
  rw [show (decide ((⟨0, g, ⟨#[]⟩, ⟨#[]⟩, false, [], ⟨#[]⟩, []⟩ : Rcd) = ⟨0, g, u, i, b, l, s, m⟩)) = _ from own_eq ⟨0, g, u, i, b, l, s, m⟩ true false false false false false] at HS
  unfold rcdCells at HS
  have hm : may ⟨0, g, u, i, b, l, s, m⟩ = (decide (1 ≤ g ∧ g ≤ 1073741824) && zeroBut ⟨0, g, u, i, b, l, s, m⟩ true false false false false false false) := rfl
  rw [hm, Bool.decide_and]
  clear hm
  obtain ⟨z, hz⟩ : ∃ z, zeroBut ⟨0, g, u, i, b, l, s, m⟩ true false false false false false false = z := ⟨_, rfl⟩
  rw [hz] at HS ⊢
  clear hz
  rcases Bool.eq_false_or_eq_true (decide (1 ≤ g)) with hg | hg
  · rcases Bool.eq_false_or_eq_true (decide (g ≤ 1073741824)) with hg' | hg'
    · rw [hg, hg']
      go_enter Try.func29, Try.ntmps29
      go_wp2
      go_region
      go_wp2_with (go_at_call 17; refine (HS.out _ (by first | assumption | exact below2 _ _ _ | exact Below.drew (below2 _ _ _) | exact Below.drew (Below.drew (below2 _ _ _)) | exact below_go (below2 _ _ _) (by assumption) (Nat.le_refl _))).mono ?_; rintro e w' ⟨rfl, hb⟩)
      go_ret
      exact ⟨rfl, below_go (Below.drew (below2 _ _ _)) hb (Nat.le_refl _)⟩
    · rw [hg, hg']
      go_enter Try.func29, Try.ntmps29
      go_wp2
      go_region
      go_wp2
      go_ret
      exact ⟨rfl, Below.drew (below2 _ _ _)⟩
  · rw [hg]
    go_enter Try.func29, Try.ntmps29
    go_wp2
    go_region
    go_wp2
    go_ret
    exact ⟨rfl, Below.drew (below2 _ _ _)⟩


set_option maxHeartbeats 4000000 in
theorem may_1 (r : Rcd) (A A' : Option Addr) (c c' : Nat) (w : World) (hk : r.kind = 1) (hi : RcdIn w r A A') :
    Calls Try.prog 29 #[.agg (rcdCells r A c A' c')] w fun e w' => e = .returned (.bool (may r)) ∧ Below w.heap.size w w' := by
  obtain ⟨k, g, u, i, b, l, s, m⟩ := r
  dsimp only at hk
  subst hk
  unfold rcdCells
  dsimp only
  have HI := hide hi
  clear hi
  have HS := hide fun (W : World) (hb : Below w.heap.size w W) => same_any (⟨1, 0, u, ⟨#[]⟩, false, [], ⟨#[]⟩, []⟩) ⟨1, g, u, i, b, l, s, m⟩ none none A A' 0 0 c c' W Reads.none_ Reads.none_ (HI.out.later hb).a (HI.out.later hb).k (Nat.zero_le _) HI.out.na (Nat.zero_le _) HI.out.nk
  rw [show (decide ((⟨1, 0, u, ⟨#[]⟩, false, [], ⟨#[]⟩, []⟩ : Rcd) = ⟨1, g, u, i, b, l, s, m⟩)) = _ from own_eq ⟨1, g, u, i, b, l, s, m⟩ false true false false false false] at HS
  unfold rcdCells at HS
  have HU := hide fun W => url_any u W
  have hm : may ⟨1, g, u, i, b, l, s, m⟩ = (okUrl u && zeroBut ⟨1, g, u, i, b, l, s, m⟩ false true false false false false false) := rfl
  rw [hm]
  clear hm
  obtain ⟨z, hz⟩ : ∃ z, zeroBut ⟨1, g, u, i, b, l, s, m⟩ false true false false false false false = z := ⟨_, rfl⟩
  rw [hz] at HS ⊢
  clear hz
  obtain ⟨o, ho⟩ : ∃ z, okUrl u = z := ⟨_, rfl⟩
  rw [ho] at HU ⊢
  clear ho
  cases o
  · go_enter Try.func29, Try.ntmps29
    go_wp2
    go_region_with ((go_at_call 52; refine (HU.out _).mono ?_; rintro e w' ⟨rfl, rfl⟩))
    all_goals go_wp2_with (go_at_call 17; refine (HS.out _ (by first | assumption | exact below2 _ _ _ | exact Below.drew (below2 _ _ _) | exact Below.drew (Below.drew (below2 _ _ _)) | exact below_go (below2 _ _ _) (by assumption) (Nat.le_refl _))).mono ?_; rintro e w' ⟨rfl, hb⟩)
    all_goals go_ret
    all_goals first | exact ⟨rfl, below2 _ _ _⟩ | exact ⟨rfl, Below.drew (below2 _ _ _)⟩ | exact ⟨rfl, below_go (below2 _ _ _) (by assumption) (Nat.le_refl _)⟩ | exact ⟨rfl, below_go (Below.drew (below2 _ _ _)) (by assumption) (Nat.le_refl _)⟩ | exact ⟨rfl, below_go (Below.drew (Below.drew (below2 _ _ _))) (by assumption) (Nat.le_refl _)⟩
  · go_enter Try.func29, Try.ntmps29
    go_wp2
    go_region_with ((go_at_call 52; refine (HU.out _).mono ?_; rintro e w' ⟨rfl, rfl⟩))
    all_goals go_wp2_with (go_at_call 17; refine (HS.out _ (by first | assumption | exact below2 _ _ _ | exact Below.drew (below2 _ _ _) | exact Below.drew (Below.drew (below2 _ _ _)) | exact below_go (below2 _ _ _) (by assumption) (Nat.le_refl _))).mono ?_; rintro e w' ⟨rfl, hb⟩)
    all_goals go_ret
    all_goals first | exact ⟨rfl, below2 _ _ _⟩ | exact ⟨rfl, Below.drew (below2 _ _ _)⟩ | exact ⟨rfl, below_go (below2 _ _ _) (by assumption) (Nat.le_refl _)⟩ | exact ⟨rfl, below_go (Below.drew (below2 _ _ _)) (by assumption) (Nat.le_refl _)⟩ | exact ⟨rfl, below_go (Below.drew (Below.drew (below2 _ _ _))) (by assumption) (Nat.le_refl _)⟩


set_option maxHeartbeats 4000000 in
theorem may_2 (r : Rcd) (A A' : Option Addr) (c c' : Nat) (w : World) (hk : r.kind = 2) (hi : RcdIn w r A A') :
    Calls Try.prog 29 #[.agg (rcdCells r A c A' c')] w fun e w' => e = .returned (.bool (may r)) ∧ Below w.heap.size w w' := by
  obtain ⟨k, g, u, i, b, l, s, m⟩ := r
  dsimp only at hk
  subst hk
  unfold rcdCells
  dsimp only
  have HI := hide hi
  clear hi
  have HS := hide fun (W : World) (hb : Below w.heap.size w W) => same_any (⟨2, 0, u, ⟨#[]⟩, false, [], ⟨#[]⟩, []⟩) ⟨2, g, u, i, b, l, s, m⟩ none none A A' 0 0 c c' W Reads.none_ Reads.none_ (HI.out.later hb).a (HI.out.later hb).k (Nat.zero_le _) HI.out.na (Nat.zero_le _) HI.out.nk
  rw [show (decide ((⟨2, 0, u, ⟨#[]⟩, false, [], ⟨#[]⟩, []⟩ : Rcd) = ⟨2, g, u, i, b, l, s, m⟩)) = _ from own_eq ⟨2, g, u, i, b, l, s, m⟩ false true false false false false] at HS
  unfold rcdCells at HS
  have HU := hide fun W => url_any u W
  have hm : may ⟨2, g, u, i, b, l, s, m⟩ = (okUrl u && zeroBut ⟨2, g, u, i, b, l, s, m⟩ false true false false false false false) := rfl
  rw [hm]
  clear hm
  obtain ⟨z, hz⟩ : ∃ z, zeroBut ⟨2, g, u, i, b, l, s, m⟩ false true false false false false false = z := ⟨_, rfl⟩
  rw [hz] at HS ⊢
  clear hz
  obtain ⟨o, ho⟩ : ∃ z, okUrl u = z := ⟨_, rfl⟩
  rw [ho] at HU ⊢
  clear ho
  cases o
  · go_enter Try.func29, Try.ntmps29
    go_wp2
    go_region_with ((go_at_call 52; refine (HU.out _).mono ?_; rintro e w' ⟨rfl, rfl⟩))
    all_goals go_wp2_with (go_at_call 17; refine (HS.out _ (by first | assumption | exact below2 _ _ _ | exact Below.drew (below2 _ _ _) | exact Below.drew (Below.drew (below2 _ _ _)) | exact below_go (below2 _ _ _) (by assumption) (Nat.le_refl _))).mono ?_; rintro e w' ⟨rfl, hb⟩)
    all_goals go_ret
    all_goals first | exact ⟨rfl, below2 _ _ _⟩ | exact ⟨rfl, Below.drew (below2 _ _ _)⟩ | exact ⟨rfl, below_go (below2 _ _ _) (by assumption) (Nat.le_refl _)⟩ | exact ⟨rfl, below_go (Below.drew (below2 _ _ _)) (by assumption) (Nat.le_refl _)⟩ | exact ⟨rfl, below_go (Below.drew (Below.drew (below2 _ _ _))) (by assumption) (Nat.le_refl _)⟩
  · go_enter Try.func29, Try.ntmps29
    go_wp2
    go_region_with ((go_at_call 52; refine (HU.out _).mono ?_; rintro e w' ⟨rfl, rfl⟩))
    all_goals go_wp2_with (go_at_call 17; refine (HS.out _ (by first | assumption | exact below2 _ _ _ | exact Below.drew (below2 _ _ _) | exact Below.drew (Below.drew (below2 _ _ _)) | exact below_go (below2 _ _ _) (by assumption) (Nat.le_refl _))).mono ?_; rintro e w' ⟨rfl, hb⟩)
    all_goals go_ret
    all_goals first | exact ⟨rfl, below2 _ _ _⟩ | exact ⟨rfl, Below.drew (below2 _ _ _)⟩ | exact ⟨rfl, below_go (below2 _ _ _) (by assumption) (Nat.le_refl _)⟩ | exact ⟨rfl, below_go (Below.drew (below2 _ _ _)) (by assumption) (Nat.le_refl _)⟩ | exact ⟨rfl, below_go (Below.drew (Below.drew (below2 _ _ _))) (by assumption) (Nat.le_refl _)⟩


set_option maxHeartbeats 4000000 in
theorem may_6 (r : Rcd) (A A' : Option Addr) (c c' : Nat) (w : World) (hk : r.kind = 6) (hi : RcdIn w r A A') :
    Calls Try.prog 29 #[.agg (rcdCells r A c A' c')] w fun e w' => e = .returned (.bool (may r)) ∧ Below w.heap.size w w' := by
  obtain ⟨k, g, u, i, b, l, s, m⟩ := r
  dsimp only at hk
  subst hk
  unfold rcdCells
  dsimp only
  have HI := hide hi
  clear hi
  have HS := hide fun (W : World) (hb : Below w.heap.size w W) => same_any (⟨6, 0, ⟨#[]⟩, ⟨#[]⟩, false, [], ⟨#[]⟩, []⟩) ⟨6, g, u, i, b, l, s, m⟩ none none A A' 0 0 c c' W Reads.none_ Reads.none_ (HI.out.later hb).a (HI.out.later hb).k (Nat.zero_le _) HI.out.na (Nat.zero_le _) HI.out.nk
  rw [show (decide ((⟨6, 0, ⟨#[]⟩, ⟨#[]⟩, false, [], ⟨#[]⟩, []⟩ : Rcd) = ⟨6, g, u, i, b, l, s, m⟩)) = _ from own_eq ⟨6, g, u, i, b, l, s, m⟩ false false false false false false] at HS
  unfold rcdCells at HS
  have hm : may ⟨6, g, u, i, b, l, s, m⟩ = zeroBut ⟨6, g, u, i, b, l, s, m⟩ false false false false false false false := rfl
  rw [hm]
  clear hm
  obtain ⟨z, hz⟩ : ∃ z, zeroBut ⟨6, g, u, i, b, l, s, m⟩ false false false false false false false = z := ⟨_, rfl⟩
  rw [hz] at HS ⊢
  clear hz
  go_enter Try.func29, Try.ntmps29
  go_wp2_with (go_at_call 17; refine (HS.out _ (by first | assumption | exact below2 _ _ _ | exact Below.drew (below2 _ _ _) | exact Below.drew (Below.drew (below2 _ _ _)) | exact below_go (below2 _ _ _) (by assumption) (Nat.le_refl _))).mono ?_; rintro e w' ⟨rfl, hb⟩)
  go_ret
  first | exact ⟨rfl, below2 _ _ _⟩ | exact ⟨rfl, Below.drew (below2 _ _ _)⟩ | exact ⟨rfl, below_go (below2 _ _ _) (by assumption) (Nat.le_refl _)⟩ | exact ⟨rfl, below_go (Below.drew (below2 _ _ _)) (by assumption) (Nat.le_refl _)⟩ | exact ⟨rfl, below_go (Below.drew (Below.drew (below2 _ _ _))) (by assumption) (Nat.le_refl _)⟩


set_option maxHeartbeats 4000000 in
theorem may_none (r : Rcd) (A A' : Option Addr) (c c' : Nat) (w : World) (hk : ¬ (0 ≤ r.kind ∧ r.kind ≤ 6)) :
    Calls Try.prog 29 #[.agg (rcdCells r A c A' c')] w fun e w' => e = .returned (.bool (may r)) ∧ Below w.heap.size w w' := by
  obtain ⟨k, g, u, i, b, l, s, m⟩ := r
  dsimp only at hk
  have n0 : (k == 0) = false := by rw [i_beq]; simp; omega
  have n1 : (k == 1) = false := by rw [i_beq]; simp; omega
  have n2 : (k == 2) = false := by rw [i_beq]; simp; omega
  have n3 : (k == 3) = false := by rw [i_beq]; simp; omega
  have n4 : (k == 4) = false := by rw [i_beq]; simp; omega
  have n5 : (k == 5) = false := by rw [i_beq]; simp; omega
  have n6 : (k == 6) = false := by rw [i_beq]; simp; omega
  have hm : may ⟨k, g, u, i, b, l, s, m⟩ = false := by
    unfold may
    dsimp only
    rw [if_neg (by omega), if_neg (by omega), if_neg (by omega), if_neg (by omega), if_neg (by omega), if_neg (by omega)]
  rw [hm]
  clear hm
  unfold rcdCells
  dsimp only
  go_enter Try.func29, Try.ntmps29
  go_wp2
  go_ret
  exact ⟨rfl, below2 _ _ _⟩

end Go.Proofs.Ytlkkmgimjjnhjaa
namespace Go.Proofs.Ytlkkmgimjjnhjaa
open Go.RowKit Rec

theorem blk_two {w w' : World} {t t' : TypeId} {cs cs' : Array Value} (hb : Below ((w.alloc (.cells cs t)).alloc (.cells cs' t')).heap.size ((w.alloc (.cells cs t)).alloc (.cells cs' t')) w') :
    Blk w' w.heap.size t cs ∧ Blk w' (w.heap.size + 1) t' cs' := by
  have k1 := Blk.new (w.alloc (.cells cs t)) t' cs'
  rw [World.size_alloc] at k1
  exact ⟨((Blk.new w t cs).alloc _).below hb ((Blk.new w t cs).alloc (.cells cs' t')).lt, k1.below hb k1.lt⟩
theorem blk_two' {w w' : World} {t t' : TypeId} {cs cs' : Array Value} (hb : Below ((w.alloc (.cells cs t)).alloc (.cells cs' t')).drew.heap.size ((w.alloc (.cells cs t)).alloc (.cells cs' t')).drew w') :
    Blk w' w.heap.size t cs ∧ Blk w' (w.heap.size + 1) t' cs' := blk_two (w := w) ⟨hb.os, hb.tape, hb.output, hb.size, hb.block⟩
theorem m4_e {x v o z : Bool} {s : ByteArray} (hm : x = (((decide (0 < s.size) && decide (s.size ≤ 30000)) && v) && o && z)) (h : s.toList = []) : false = x := by
  rw [toList_nil] at h
  rw [hm, h]; rfl
theorem m4_z {x v o z : Bool} {s : ByteArray} (hm : x = (((decide (0 < s.size) && decide (s.size ≤ 30000)) && v) && o && z)) (h : 30000 < (s.size : Int)) : false = x := by
  have : ¬ s.size ≤ 30000 := by omega
  rw [hm, decide_eq_false this]; simp
theorem m4_v {x o z : Bool} {s : ByteArray} (hm : x = (((decide (0 < s.size) && decide (s.size ≤ 30000)) && false) && o && z)) : false = x := by
  rw [hm]; simp
theorem m4_o {x v z : Bool} {s : ByteArray} (hm : x = (((decide (0 < s.size) && decide (s.size ≤ 30000)) && v) && false && z)) : false = x := by
  rw [hm]; simp
theorem m4_y {x z : Bool} {s : ByteArray} (hm : x = (((decide (0 < s.size) && decide (s.size ≤ 30000)) && true) && true && z)) (h : ¬ s.toList = []) (h' : (s.size : Int) ≤ 30000) : z = x := by
  rw [toList_nil] at h
  rw [hm, decide_eq_true (by omega), decide_eq_true (by omega)]; rfl


set_option maxHeartbeats 4000000 in
theorem may_4 (r : Rcd) (A A' : Option Addr) (c c' : Nat) (w : World) (hk : r.kind = 4) (hi : RcdIn w r A A') :
    Calls Try.prog 29 #[.agg (rcdCells r A c A' c')] w fun e w' => e = .returned (.bool (may r)) ∧ Below w.heap.size w w' := by
  obtain ⟨k, g, u, i, b, l, s, m⟩ := r
  dsimp only at hk
  subst hk
  unfold rcdCells
  dsimp only
  have HI := hide hi
  clear hi
  have HS := hide fun (W : World) (hb : Below w.heap.size w W) => same_any (⟨4, 0, u, i, b, [], ⟨#[]⟩, []⟩) ⟨4, g, u, i, b, l, s, m⟩ none none A A' 0 0 c c' W Reads.none_ Reads.none_ (HI.out.later hb).a (HI.out.later hb).k (Nat.zero_le _) HI.out.na (Nat.zero_le _) HI.out.nk
  rw [show (decide ((⟨4, 0, u, i, b, [], ⟨#[]⟩, []⟩ : Rcd) = ⟨4, g, u, i, b, l, s, m⟩)) = _ from own_eq ⟨4, g, u, i, b, l, s, m⟩ false true true true false false] at HS
  unfold rcdCells at HS
  have HU := hide fun W => url_any u W
  have HV := hide fun W => valid_any i W HI.out.si
  have hm : may ⟨4, g, u, i, b, l, s, m⟩ = (((decide (0 < i.size) && decide (i.size ≤ 30000)) && Utf.valid i.data.toList) && okUrl u && zeroBut ⟨4, g, u, i, b, l, s, m⟩ false true true true false false false) := by
    unfold may okText
    dsimp only
    rw [if_neg (by decide), if_neg (by decide), if_neg (by decide), if_pos rfl]
    simp only [Bool.and_assoc]
  obtain ⟨x, hx⟩ : ∃ x, may ⟨4, g, u, i, b, l, s, m⟩ = x := ⟨_, rfl⟩
  rw [hx] at hm ⊢
  clear hx
  obtain ⟨z, hz⟩ : ∃ z, zeroBut ⟨4, g, u, i, b, l, s, m⟩ false true true true false false false = z := ⟨_, rfl⟩
  rw [hz] at HS hm
  clear hz
  obtain ⟨o, ho⟩ : ∃ z, okUrl u = z := ⟨_, rfl⟩
  rw [ho] at HU hm
  clear ho
  obtain ⟨v, hv⟩ : ∃ z, Utf.valid i.data.toList = z := ⟨_, rfl⟩
  rw [hv] at HV hm
  clear hv
  by_cases he : i.toList = []
  · have hm' := m4_e hm he
    subst hm'
    clear hm
    go_enter Try.func29, Try.ntmps29
    go_wp2
    go_region
    go_wp2_with (go_at_call 47; refine (HV.out _).mono ?_; rintro e w' ⟨rfl, hb⟩; obtain ⟨k0, k1⟩ := blk_two' hb; have kb := below_go (Below.drew (below2 _ _ _)) hb (Nat.le_refl _); clear hb; have q0 := k0.cell 0; have p0 := k1.cell 0; have q1 := k0.cell 1; have p1 := k1.cell 1; have q2 := k0.cell 2; have p2 := k1.cell 2; have q3 := k0.cell 3; have p3 := k1.cell 3; have q4 := k0.cell 4; have p4 := k1.cell 4; have q5 := k0.cell 5; have p5 := k1.cell 5; have q6 := k0.cell 6; have p6 := k1.cell 6; have q7 := k0.cell 7; have p7 := k1.cell 7; have f2 := k1.frozen 2)
    go_region
    all_goals go_wp2_with (go_at_call 17; refine (HS.out _ (by (first | assumption | exact below2 _ _ _ | (refine Below.drew ?_; first | assumption | exact below2 _ _ _ | (refine Below.drew ?_; first | assumption | exact below2 _ _ _ | (refine Below.drew ?_; first | assumption | exact below2 _ _ _) | (refine Below.setCell ?_ (by simp) _; first | assumption | exact below2 _ _ _)) | (refine Below.setCell ?_ (by simp) _; first | assumption | exact below2 _ _ _ | (refine Below.drew ?_; first | assumption | exact below2 _ _ _) | (refine Below.setCell ?_ (by simp) _; first | assumption | exact below2 _ _ _))) | (refine Below.setCell ?_ (by simp) _; first | assumption | exact below2 _ _ _ | (refine Below.drew ?_; first | assumption | exact below2 _ _ _ | (refine Below.drew ?_; first | assumption | exact below2 _ _ _) | (refine Below.setCell ?_ (by simp) _; first | assumption | exact below2 _ _ _)) | (refine Below.setCell ?_ (by simp) _; first | assumption | exact below2 _ _ _ | (refine Below.drew ?_; first | assumption | exact below2 _ _ _) | (refine Below.setCell ?_ (by simp) _; first | assumption | exact below2 _ _ _)))))).mono ?_; rintro e w' ⟨rfl, hb⟩; have kb' := below_go (show Below w.heap.size w _ by (first | assumption | exact below2 _ _ _ | (refine Below.drew ?_; first | assumption | exact below2 _ _ _ | (refine Below.drew ?_; first | assumption | exact below2 _ _ _ | (refine Below.drew ?_; first | assumption | exact below2 _ _ _) | (refine Below.setCell ?_ (by simp) _; first | assumption | exact below2 _ _ _)) | (refine Below.setCell ?_ (by simp) _; first | assumption | exact below2 _ _ _ | (refine Below.drew ?_; first | assumption | exact below2 _ _ _) | (refine Below.setCell ?_ (by simp) _; first | assumption | exact below2 _ _ _))) | (refine Below.setCell ?_ (by simp) _; first | assumption | exact below2 _ _ _ | (refine Below.drew ?_; first | assumption | exact below2 _ _ _ | (refine Below.drew ?_; first | assumption | exact below2 _ _ _) | (refine Below.setCell ?_ (by simp) _; first | assumption | exact below2 _ _ _)) | (refine Below.setCell ?_ (by simp) _; first | assumption | exact below2 _ _ _ | (refine Below.drew ?_; first | assumption | exact below2 _ _ _) | (refine Below.setCell ?_ (by simp) _; first | assumption | exact below2 _ _ _))))) hb (Nat.le_refl _); clear hb)
    all_goals go_ret
    all_goals first | exact ⟨ret_eq1 (bool_eq (rfl)), (by (first | assumption | exact below2 _ _ _ | (refine Below.drew ?_; first | assumption | exact below2 _ _ _ | (refine Below.drew ?_; first | assumption | exact below2 _ _ _ | (refine Below.drew ?_; first | assumption | exact below2 _ _ _) | (refine Below.setCell ?_ (by simp) _; first | assumption | exact below2 _ _ _)) | (refine Below.setCell ?_ (by simp) _; first | assumption | exact below2 _ _ _ | (refine Below.drew ?_; first | assumption | exact below2 _ _ _) | (refine Below.setCell ?_ (by simp) _; first | assumption | exact below2 _ _ _))) | (refine Below.setCell ?_ (by simp) _; first | assumption | exact below2 _ _ _ | (refine Below.drew ?_; first | assumption | exact below2 _ _ _ | (refine Below.drew ?_; first | assumption | exact below2 _ _ _) | (refine Below.setCell ?_ (by simp) _; first | assumption | exact below2 _ _ _)) | (refine Below.setCell ?_ (by simp) _; first | assumption | exact below2 _ _ _ | (refine Below.drew ?_; first | assumption | exact below2 _ _ _) | (refine Below.setCell ?_ (by simp) _; first | assumption | exact below2 _ _ _)))))⟩
  · have he' : i.toList.isEmpty = false := by rw [← Bool.not_eq_true, List.isEmpty_iff]; exact he
    by_cases hz : 30000 < (i.size : Int)
    · have hm' := m4_z hm hz
      subst hm'
      clear hm
      go_enter Try.func29, Try.ntmps29
      go_wp2
      go_region
      go_wp2_with (go_at_call 47; refine (HV.out _).mono ?_; rintro e w' ⟨rfl, hb⟩; obtain ⟨k0, k1⟩ := blk_two' hb; have kb := below_go (Below.drew (below2 _ _ _)) hb (Nat.le_refl _); clear hb; have q0 := k0.cell 0; have p0 := k1.cell 0; have q1 := k0.cell 1; have p1 := k1.cell 1; have q2 := k0.cell 2; have p2 := k1.cell 2; have q3 := k0.cell 3; have p3 := k1.cell 3; have q4 := k0.cell 4; have p4 := k1.cell 4; have q5 := k0.cell 5; have p5 := k1.cell 5; have q6 := k0.cell 6; have p6 := k1.cell 6; have q7 := k0.cell 7; have p7 := k1.cell 7; have f2 := k1.frozen 2)
      go_region
      all_goals go_wp2_with (go_at_call 17; refine (HS.out _ (by (first | assumption | exact below2 _ _ _ | (refine Below.drew ?_; first | assumption | exact below2 _ _ _ | (refine Below.drew ?_; first | assumption | exact below2 _ _ _ | (refine Below.drew ?_; first | assumption | exact below2 _ _ _) | (refine Below.setCell ?_ (by simp) _; first | assumption | exact below2 _ _ _)) | (refine Below.setCell ?_ (by simp) _; first | assumption | exact below2 _ _ _ | (refine Below.drew ?_; first | assumption | exact below2 _ _ _) | (refine Below.setCell ?_ (by simp) _; first | assumption | exact below2 _ _ _))) | (refine Below.setCell ?_ (by simp) _; first | assumption | exact below2 _ _ _ | (refine Below.drew ?_; first | assumption | exact below2 _ _ _ | (refine Below.drew ?_; first | assumption | exact below2 _ _ _) | (refine Below.setCell ?_ (by simp) _; first | assumption | exact below2 _ _ _)) | (refine Below.setCell ?_ (by simp) _; first | assumption | exact below2 _ _ _ | (refine Below.drew ?_; first | assumption | exact below2 _ _ _) | (refine Below.setCell ?_ (by simp) _; first | assumption | exact below2 _ _ _)))))).mono ?_; rintro e w' ⟨rfl, hb⟩; have kb' := below_go (show Below w.heap.size w _ by (first | assumption | exact below2 _ _ _ | (refine Below.drew ?_; first | assumption | exact below2 _ _ _ | (refine Below.drew ?_; first | assumption | exact below2 _ _ _ | (refine Below.drew ?_; first | assumption | exact below2 _ _ _) | (refine Below.setCell ?_ (by simp) _; first | assumption | exact below2 _ _ _)) | (refine Below.setCell ?_ (by simp) _; first | assumption | exact below2 _ _ _ | (refine Below.drew ?_; first | assumption | exact below2 _ _ _) | (refine Below.setCell ?_ (by simp) _; first | assumption | exact below2 _ _ _))) | (refine Below.setCell ?_ (by simp) _; first | assumption | exact below2 _ _ _ | (refine Below.drew ?_; first | assumption | exact below2 _ _ _ | (refine Below.drew ?_; first | assumption | exact below2 _ _ _) | (refine Below.setCell ?_ (by simp) _; first | assumption | exact below2 _ _ _)) | (refine Below.setCell ?_ (by simp) _; first | assumption | exact below2 _ _ _ | (refine Below.drew ?_; first | assumption | exact below2 _ _ _) | (refine Below.setCell ?_ (by simp) _; first | assumption | exact below2 _ _ _))))) hb (Nat.le_refl _); clear hb)
      all_goals go_ret
      all_goals first | exact ⟨ret_eq1 (bool_eq (rfl)), (by (first | assumption | exact below2 _ _ _ | (refine Below.drew ?_; first | assumption | exact below2 _ _ _ | (refine Below.drew ?_; first | assumption | exact below2 _ _ _ | (refine Below.drew ?_; first | assumption | exact below2 _ _ _) | (refine Below.setCell ?_ (by simp) _; first | assumption | exact below2 _ _ _)) | (refine Below.setCell ?_ (by simp) _; first | assumption | exact below2 _ _ _ | (refine Below.drew ?_; first | assumption | exact below2 _ _ _) | (refine Below.setCell ?_ (by simp) _; first | assumption | exact below2 _ _ _))) | (refine Below.setCell ?_ (by simp) _; first | assumption | exact below2 _ _ _ | (refine Below.drew ?_; first | assumption | exact below2 _ _ _ | (refine Below.drew ?_; first | assumption | exact below2 _ _ _) | (refine Below.setCell ?_ (by simp) _; first | assumption | exact below2 _ _ _)) | (refine Below.setCell ?_ (by simp) _; first | assumption | exact below2 _ _ _ | (refine Below.drew ?_; first | assumption | exact below2 _ _ _) | (refine Below.setCell ?_ (by simp) _; first | assumption | exact below2 _ _ _)))))⟩
    · have hz' : (i.size : Int) ≤ 30000 := by omega
      clear hz
      cases v
      · have hm' := m4_v hm
        subst hm'
        clear hm
        go_enter Try.func29, Try.ntmps29
        go_wp2
        go_region
        go_wp2_with (go_at_call 47; refine (HV.out _).mono ?_; rintro e w' ⟨rfl, hb⟩; obtain ⟨k0, k1⟩ := blk_two' hb; have kb := below_go (Below.drew (below2 _ _ _)) hb (Nat.le_refl _); clear hb; have q0 := k0.cell 0; have p0 := k1.cell 0; have q1 := k0.cell 1; have p1 := k1.cell 1; have q2 := k0.cell 2; have p2 := k1.cell 2; have q3 := k0.cell 3; have p3 := k1.cell 3; have q4 := k0.cell 4; have p4 := k1.cell 4; have q5 := k0.cell 5; have p5 := k1.cell 5; have q6 := k0.cell 6; have p6 := k1.cell 6; have q7 := k0.cell 7; have p7 := k1.cell 7; have f2 := k1.frozen 2)
        go_region
        all_goals go_wp2_with (go_at_call 17; refine (HS.out _ (by (first | assumption | exact below2 _ _ _ | (refine Below.drew ?_; first | assumption | exact below2 _ _ _ | (refine Below.drew ?_; first | assumption | exact below2 _ _ _ | (refine Below.drew ?_; first | assumption | exact below2 _ _ _) | (refine Below.setCell ?_ (by simp) _; first | assumption | exact below2 _ _ _)) | (refine Below.setCell ?_ (by simp) _; first | assumption | exact below2 _ _ _ | (refine Below.drew ?_; first | assumption | exact below2 _ _ _) | (refine Below.setCell ?_ (by simp) _; first | assumption | exact below2 _ _ _))) | (refine Below.setCell ?_ (by simp) _; first | assumption | exact below2 _ _ _ | (refine Below.drew ?_; first | assumption | exact below2 _ _ _ | (refine Below.drew ?_; first | assumption | exact below2 _ _ _) | (refine Below.setCell ?_ (by simp) _; first | assumption | exact below2 _ _ _)) | (refine Below.setCell ?_ (by simp) _; first | assumption | exact below2 _ _ _ | (refine Below.drew ?_; first | assumption | exact below2 _ _ _) | (refine Below.setCell ?_ (by simp) _; first | assumption | exact below2 _ _ _)))))).mono ?_; rintro e w' ⟨rfl, hb⟩; have kb' := below_go (show Below w.heap.size w _ by (first | assumption | exact below2 _ _ _ | (refine Below.drew ?_; first | assumption | exact below2 _ _ _ | (refine Below.drew ?_; first | assumption | exact below2 _ _ _ | (refine Below.drew ?_; first | assumption | exact below2 _ _ _) | (refine Below.setCell ?_ (by simp) _; first | assumption | exact below2 _ _ _)) | (refine Below.setCell ?_ (by simp) _; first | assumption | exact below2 _ _ _ | (refine Below.drew ?_; first | assumption | exact below2 _ _ _) | (refine Below.setCell ?_ (by simp) _; first | assumption | exact below2 _ _ _))) | (refine Below.setCell ?_ (by simp) _; first | assumption | exact below2 _ _ _ | (refine Below.drew ?_; first | assumption | exact below2 _ _ _ | (refine Below.drew ?_; first | assumption | exact below2 _ _ _) | (refine Below.setCell ?_ (by simp) _; first | assumption | exact below2 _ _ _)) | (refine Below.setCell ?_ (by simp) _; first | assumption | exact below2 _ _ _ | (refine Below.drew ?_; first | assumption | exact below2 _ _ _) | (refine Below.setCell ?_ (by simp) _; first | assumption | exact below2 _ _ _))))) hb (Nat.le_refl _); clear hb)
        all_goals go_ret
        all_goals first | exact ⟨ret_eq1 (bool_eq (rfl)), (by (first | assumption | exact below2 _ _ _ | (refine Below.drew ?_; first | assumption | exact below2 _ _ _ | (refine Below.drew ?_; first | assumption | exact below2 _ _ _ | (refine Below.drew ?_; first | assumption | exact below2 _ _ _) | (refine Below.setCell ?_ (by simp) _; first | assumption | exact below2 _ _ _)) | (refine Below.setCell ?_ (by simp) _; first | assumption | exact below2 _ _ _ | (refine Below.drew ?_; first | assumption | exact below2 _ _ _) | (refine Below.setCell ?_ (by simp) _; first | assumption | exact below2 _ _ _))) | (refine Below.setCell ?_ (by simp) _; first | assumption | exact below2 _ _ _ | (refine Below.drew ?_; first | assumption | exact below2 _ _ _ | (refine Below.drew ?_; first | assumption | exact below2 _ _ _) | (refine Below.setCell ?_ (by simp) _; first | assumption | exact below2 _ _ _)) | (refine Below.setCell ?_ (by simp) _; first | assumption | exact below2 _ _ _ | (refine Below.drew ?_; first | assumption | exact below2 _ _ _) | (refine Below.setCell ?_ (by simp) _; first | assumption | exact below2 _ _ _)))))⟩
      · cases o
        · have hm' := m4_o hm
          subst hm'
          clear hm
          go_enter Try.func29, Try.ntmps29
          go_wp2
          go_region
          go_wp2_with (go_at_call 47; refine (HV.out _).mono ?_; rintro e w' ⟨rfl, hb⟩; obtain ⟨k0, k1⟩ := blk_two' hb; have kb := below_go (Below.drew (below2 _ _ _)) hb (Nat.le_refl _); clear hb; have q0 := k0.cell 0; have p0 := k1.cell 0; have q1 := k0.cell 1; have p1 := k1.cell 1; have q2 := k0.cell 2; have p2 := k1.cell 2; have q3 := k0.cell 3; have p3 := k1.cell 3; have q4 := k0.cell 4; have p4 := k1.cell 4; have q5 := k0.cell 5; have p5 := k1.cell 5; have q6 := k0.cell 6; have p6 := k1.cell 6; have q7 := k0.cell 7; have p7 := k1.cell 7; have f2 := k1.frozen 2)
          go_region_with ((go_at_call 52; refine (HU.out _).mono ?_; rintro e w' ⟨rfl, rfl⟩))
          all_goals go_wp2_with (go_at_call 17; refine (HS.out _ (by (first | assumption | exact below2 _ _ _ | (refine Below.drew ?_; first | assumption | exact below2 _ _ _ | (refine Below.drew ?_; first | assumption | exact below2 _ _ _ | (refine Below.drew ?_; first | assumption | exact below2 _ _ _) | (refine Below.setCell ?_ (by simp) _; first | assumption | exact below2 _ _ _)) | (refine Below.setCell ?_ (by simp) _; first | assumption | exact below2 _ _ _ | (refine Below.drew ?_; first | assumption | exact below2 _ _ _) | (refine Below.setCell ?_ (by simp) _; first | assumption | exact below2 _ _ _))) | (refine Below.setCell ?_ (by simp) _; first | assumption | exact below2 _ _ _ | (refine Below.drew ?_; first | assumption | exact below2 _ _ _ | (refine Below.drew ?_; first | assumption | exact below2 _ _ _) | (refine Below.setCell ?_ (by simp) _; first | assumption | exact below2 _ _ _)) | (refine Below.setCell ?_ (by simp) _; first | assumption | exact below2 _ _ _ | (refine Below.drew ?_; first | assumption | exact below2 _ _ _) | (refine Below.setCell ?_ (by simp) _; first | assumption | exact below2 _ _ _)))))).mono ?_; rintro e w' ⟨rfl, hb⟩; have kb' := below_go (show Below w.heap.size w _ by (first | assumption | exact below2 _ _ _ | (refine Below.drew ?_; first | assumption | exact below2 _ _ _ | (refine Below.drew ?_; first | assumption | exact below2 _ _ _ | (refine Below.drew ?_; first | assumption | exact below2 _ _ _) | (refine Below.setCell ?_ (by simp) _; first | assumption | exact below2 _ _ _)) | (refine Below.setCell ?_ (by simp) _; first | assumption | exact below2 _ _ _ | (refine Below.drew ?_; first | assumption | exact below2 _ _ _) | (refine Below.setCell ?_ (by simp) _; first | assumption | exact below2 _ _ _))) | (refine Below.setCell ?_ (by simp) _; first | assumption | exact below2 _ _ _ | (refine Below.drew ?_; first | assumption | exact below2 _ _ _ | (refine Below.drew ?_; first | assumption | exact below2 _ _ _) | (refine Below.setCell ?_ (by simp) _; first | assumption | exact below2 _ _ _)) | (refine Below.setCell ?_ (by simp) _; first | assumption | exact below2 _ _ _ | (refine Below.drew ?_; first | assumption | exact below2 _ _ _) | (refine Below.setCell ?_ (by simp) _; first | assumption | exact below2 _ _ _))))) hb (Nat.le_refl _); clear hb)
          all_goals go_ret
          all_goals first | exact ⟨ret_eq1 (bool_eq (rfl)), (by (first | assumption | exact below2 _ _ _ | (refine Below.drew ?_; first | assumption | exact below2 _ _ _ | (refine Below.drew ?_; first | assumption | exact below2 _ _ _ | (refine Below.drew ?_; first | assumption | exact below2 _ _ _) | (refine Below.setCell ?_ (by simp) _; first | assumption | exact below2 _ _ _)) | (refine Below.setCell ?_ (by simp) _; first | assumption | exact below2 _ _ _ | (refine Below.drew ?_; first | assumption | exact below2 _ _ _) | (refine Below.setCell ?_ (by simp) _; first | assumption | exact below2 _ _ _))) | (refine Below.setCell ?_ (by simp) _; first | assumption | exact below2 _ _ _ | (refine Below.drew ?_; first | assumption | exact below2 _ _ _ | (refine Below.drew ?_; first | assumption | exact below2 _ _ _) | (refine Below.setCell ?_ (by simp) _; first | assumption | exact below2 _ _ _)) | (refine Below.setCell ?_ (by simp) _; first | assumption | exact below2 _ _ _ | (refine Below.drew ?_; first | assumption | exact below2 _ _ _) | (refine Below.setCell ?_ (by simp) _; first | assumption | exact below2 _ _ _)))))⟩
        · have hm' := m4_y hm he hz'
          subst hm'
          clear hm
          go_enter Try.func29, Try.ntmps29
          go_wp2
          go_region
          go_wp2_with (go_at_call 47; refine (HV.out _).mono ?_; rintro e w' ⟨rfl, hb⟩; obtain ⟨k0, k1⟩ := blk_two' hb; have kb := below_go (Below.drew (below2 _ _ _)) hb (Nat.le_refl _); clear hb; have q0 := k0.cell 0; have p0 := k1.cell 0; have q1 := k0.cell 1; have p1 := k1.cell 1; have q2 := k0.cell 2; have p2 := k1.cell 2; have q3 := k0.cell 3; have p3 := k1.cell 3; have q4 := k0.cell 4; have p4 := k1.cell 4; have q5 := k0.cell 5; have p5 := k1.cell 5; have q6 := k0.cell 6; have p6 := k1.cell 6; have q7 := k0.cell 7; have p7 := k1.cell 7; have f2 := k1.frozen 2)
          go_region_with ((go_at_call 52; refine (HU.out _).mono ?_; rintro e w' ⟨rfl, rfl⟩))
          all_goals go_wp2_with (go_at_call 17; refine (HS.out _ (by (first | assumption | exact below2 _ _ _ | (refine Below.drew ?_; first | assumption | exact below2 _ _ _ | (refine Below.drew ?_; first | assumption | exact below2 _ _ _ | (refine Below.drew ?_; first | assumption | exact below2 _ _ _) | (refine Below.setCell ?_ (by simp) _; first | assumption | exact below2 _ _ _)) | (refine Below.setCell ?_ (by simp) _; first | assumption | exact below2 _ _ _ | (refine Below.drew ?_; first | assumption | exact below2 _ _ _) | (refine Below.setCell ?_ (by simp) _; first | assumption | exact below2 _ _ _))) | (refine Below.setCell ?_ (by simp) _; first | assumption | exact below2 _ _ _ | (refine Below.drew ?_; first | assumption | exact below2 _ _ _ | (refine Below.drew ?_; first | assumption | exact below2 _ _ _) | (refine Below.setCell ?_ (by simp) _; first | assumption | exact below2 _ _ _)) | (refine Below.setCell ?_ (by simp) _; first | assumption | exact below2 _ _ _ | (refine Below.drew ?_; first | assumption | exact below2 _ _ _) | (refine Below.setCell ?_ (by simp) _; first | assumption | exact below2 _ _ _)))))).mono ?_; rintro e w' ⟨rfl, hb⟩; have kb' := below_go (show Below w.heap.size w _ by (first | assumption | exact below2 _ _ _ | (refine Below.drew ?_; first | assumption | exact below2 _ _ _ | (refine Below.drew ?_; first | assumption | exact below2 _ _ _ | (refine Below.drew ?_; first | assumption | exact below2 _ _ _) | (refine Below.setCell ?_ (by simp) _; first | assumption | exact below2 _ _ _)) | (refine Below.setCell ?_ (by simp) _; first | assumption | exact below2 _ _ _ | (refine Below.drew ?_; first | assumption | exact below2 _ _ _) | (refine Below.setCell ?_ (by simp) _; first | assumption | exact below2 _ _ _))) | (refine Below.setCell ?_ (by simp) _; first | assumption | exact below2 _ _ _ | (refine Below.drew ?_; first | assumption | exact below2 _ _ _ | (refine Below.drew ?_; first | assumption | exact below2 _ _ _) | (refine Below.setCell ?_ (by simp) _; first | assumption | exact below2 _ _ _)) | (refine Below.setCell ?_ (by simp) _; first | assumption | exact below2 _ _ _ | (refine Below.drew ?_; first | assumption | exact below2 _ _ _) | (refine Below.setCell ?_ (by simp) _; first | assumption | exact below2 _ _ _))))) hb (Nat.le_refl _); clear hb)
          all_goals go_ret
          all_goals first | exact ⟨ret_eq1 (bool_eq (rfl)), (by (first | assumption | exact below2 _ _ _ | (refine Below.drew ?_; first | assumption | exact below2 _ _ _ | (refine Below.drew ?_; first | assumption | exact below2 _ _ _ | (refine Below.drew ?_; first | assumption | exact below2 _ _ _) | (refine Below.setCell ?_ (by simp) _; first | assumption | exact below2 _ _ _)) | (refine Below.setCell ?_ (by simp) _; first | assumption | exact below2 _ _ _ | (refine Below.drew ?_; first | assumption | exact below2 _ _ _) | (refine Below.setCell ?_ (by simp) _; first | assumption | exact below2 _ _ _))) | (refine Below.setCell ?_ (by simp) _; first | assumption | exact below2 _ _ _ | (refine Below.drew ?_; first | assumption | exact below2 _ _ _ | (refine Below.drew ?_; first | assumption | exact below2 _ _ _) | (refine Below.setCell ?_ (by simp) _; first | assumption | exact below2 _ _ _)) | (refine Below.setCell ?_ (by simp) _; first | assumption | exact below2 _ _ _ | (refine Below.drew ?_; first | assumption | exact below2 _ _ _) | (refine Below.setCell ?_ (by simp) _; first | assumption | exact below2 _ _ _)))))⟩

end Go.Proofs.Ytlkkmgimjjnhjaa
