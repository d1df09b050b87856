/- Bozo: what the laws' wake-up asks. · Strict: the document's SameEvents, where the events are the same. · Bozo: what strict takes: the laws BozoStrict and BozoJunk, the walks. -/
import Derived.Test.YtaickkaoglohgaaGreatDoorBw29
import Derived.Test.YtaickkaoglohgaaGreatDoorBw31
import Derived.Test.YtaickkaoglohgaaGreatDoorBw45
set_option linter.unusedSimpArgs false
set_option linter.unusedVariables false
namespace Go.Proofs.YtaickkaoglohgaaGreatDoor
section
open Go.RowKit Tk Sx

def wkB1 : L := [60, 97, 62, 60, 98, 62, 120, 60, 47, 97, 62]
def wkB2 : L := [60, 97, 62, 49, 32, 60, 32, 50, 32, 38, 32, 51, 60, 47, 97, 62]
theorem wkB1_is : Bz.parse wkB1 = .ok ([⟨0, ⟨[], [97]⟩, [], []⟩, ⟨0, ⟨[], [98]⟩, [], []⟩, ⟨2, noNm, [], [120]⟩, ⟨1, ⟨[], [98]⟩, [], []⟩, ⟨1, ⟨[], [97]⟩, [], []⟩], [⟨11, 7⟩]) := by kernel_rfl
theorem wkB2_is : Bz.parse wkB2 = .ok ([⟨0, ⟨[], [97]⟩, [], []⟩, ⟨2, noNm, [], [49, 32, 60, 32, 50, 32, 38, 32, 51]⟩, ⟨1, ⟨[], [97]⟩, [], []⟩], [⟨5, 5⟩, ⟨6, 6⟩]) := by kernel_rfl
theorem rss_cells {W : World} {B : Nat} {A : Option Addr} {l : List Rsn} (h : Reads W B 2 A l.length (rss l)) {k : Nat} {r : Rsn} (hr : l[k]? = some r) : ∃ b off, A = some ⟨b, off, none⟩ ∧ b < B ∧ W.cell? ⟨b, off + k * 2, none⟩ = some (.int .i8 r.kind) ∧ W.cell? ⟨b, off + k * 2 + 1, none⟩ = some (.int .i64 (r.at_ : Int)) := by
 obtain ⟨hk, he⟩ := List.getElem?_eq_some_iff.1 hr;obtain ⟨b, off, hA, hb, hc⟩ := h.2 (by omega);obtain ⟨h0, h1⟩ := rss_at hr;refine ⟨b, off, hA, hb, ?_, ?_⟩
 ·exact hc (k * 2) _ h0
 have := hc (k * 2 + 1) _ h1; rwa [← Nat.add_assoc] at this
theorem wkB2_cells {W : World} {A : Option Addr} {xs : List Ew} {B : Nat} (h : EvL W B A xs) (hx : xs.map (·.e) = [⟨0, ⟨[], [97]⟩, [], []⟩, ⟨2, noNm, [], [49, 32, 60, 32, 50, 32, 38, 32, 51]⟩, ⟨1, ⟨[], [97]⟩, [], []⟩]) :
  xs.length = 3 ∧ ∃ b off, A = some ⟨b, off, none⟩ ∧ b < B ∧ W.cell? ⟨b, off + 5 + 4, none⟩ = some (.string ⟨#[49, 32, 60, 32, 50, 32, 38, 32, 51]⟩) := by
 have hl := congrArg List.length hx;rw [List.length_map] at hl;have h1 : (xs[1]?).map (·.e) = some ⟨2, noNm, [], [49, 32, 60, 32, 50, 32, 38, 32, 51]⟩ := by rw [← List.getElem?_map, hx]; rfl
 obtain ⟨y, hy0, e1⟩ := Option.map_eq_some_iff.1 h1;obtain ⟨b, off, rfl, hb, k1⟩ := h.at_ hy0;refine ⟨hl, b, off, rfl, hb, ?_⟩;have := k1.c4; rw [e1, Nat.one_mul] at this; exact this
set_option maxHeartbeats 8000000 in
theorem wakes17_any (w : World) (hg : Gm w) (hw6 : 6 ≤ w.heap.size) : Calls Tryz.prog 5 #[] w fun e w' => e = .returned (.bool true) ∧ Below w.heap.size w w' := by
 have HG := hide hg;have h1 := bparse_any wkB1 w hg hw6 (by decide);rw [wkB1_is] at h1;replace h1 : Calls _ _ #[.string ⟨#[60, 97, 62, 60, 98, 62, 120, 60, 47, 97, 62]⟩] _ (ParseB w _) := h1;have H1 := hide h1;clear hg h1
 go_enter Tryz.func5, Tryz.ntmps5
 go_wp2_with fail
 refine H1.out.mono ?_;rintro e w1 ⟨b1, xs, A, c, Ar, cr, hx, rfl, -, -, hr, -, -, hi, hrr⟩;have h2 := bparse_any wkB2 w1 (HG.out.below b1) (by have := b1.size; omega) (by decide);rw [wkB2_is] at h2;replace h2 : Calls _ _ #[.string ⟨#[60, 97, 62, 49, 32, 60, 32, 50, 32, 38, 32, 51, 60, 47, 97, 62]⟩] _ (ParseB w1 _) := h2;have H2 := hide h2;obtain ⟨b, off, rfl, hb, q1, -⟩ := rss_cells (k := 0) (r := ⟨11, 7⟩) hrr rfl;have hn : xs.length = 5 := by have hl := congrArg List.length hx; rw [List.length_map] at hl; exact hl
 have B1 := hide b1;dsimp only at q1;rw [Nat.zero_mul, Nat.add_zero] at q1;rw [hn];clear hr hi hx b1 hn H1 h2 hrr
 go_wp2_with fail
 refine H2.out.mono ?_;rintro e w2 ⟨b2, ys, A2, c2, Ar2, cr2, hy, rfl, -, -, hr2, -, -, hi2, hrr2⟩;replace q1 := cell_go b2 q1;obtain ⟨hn2, d, off2, rfl, hd, q2⟩ := wkB2_cells (EvL.of hr2 hi2) hy;obtain ⟨f, off3, rfl, hf, q3, -⟩ := rss_cells (k := 0) (r := ⟨5, 5⟩) hrr2 rfl;obtain ⟨f', off3', e3, hf', q4, -⟩ := rss_cells (k := 1) (r := ⟨6, 6⟩) hrr2 rfl;cases e3;have B2 := hide (B1.out.trans (b2.mono B1.out.size));dsimp only at q3 q4;rw [Nat.zero_mul, Nat.add_zero] at q3;rw [Nat.one_mul] at q4;rw [hn2];clear b2 B1 H2 hy hr2 hi2 hrr2 hn2;go_wp2;go_ret;exact ⟨rfl, B2.out⟩
end
section
open Go.RowKit Tk Sx

set_option maxRecDepth 100000 in
set_option maxHeartbeats 32000000 in
theorem sameEvents_any (w : World) (B : Nat) (A A' : Option Addr) (c c' : Nat) (xs ys : List Ew) (h : EvL w B A xs) (h' : EvL w B A' ys) (he : xs.map (·.e) = ys.map (·.e)) (hn : xs.length ≤ 1000000000) (hna : ∀ x ∈ xs, x.e.attrs.length ≤ 1000000000) (hB : B ≤ w.heap.size) :
  Calls Tryz.prog 8 #[.slice A xs.length c, .slice A' ys.length c'] w fun e w' => e = .returned (.bool true) ∧ Below w.heap.size w w' := by
 have HX := hide h;have HY := hide h';have HE := hide he;have HNa := hide hna;have hl : ys.length = xs.length := by have := congrArg List.length he; simpa using this.symm
 obtain ⟨N, hN⟩ : ∃ N, xs.length = N := ⟨_, rfl⟩;rw [hl];rw [hN] at hn hl ⊢;have HN := hide hN;have HNy := hide hl;have HB := hide hB;clear h h' he hna hN hl hB
 go_enter Tryz.func8, Tryz.ntmps8
 go_wp2
 go_loopg [5] N (fun gk vk wr => ∃ k : Nat, gk = N - k ∧ k ≤ N ∧ vk = .int .i64 (k : Int) ∧ Below w.heap.size w wr)
 case atStart => exact ⟨0, rfl, by omega, rfl, Below.refl _ _⟩
 case round =>
  obtain ⟨k, hgk, hk, rfl, hb⟩ := hrel;have Hg := hide hgk;have Hb := hide hb;clear hgk hb
  by_cases hlt : k < N
  ·obtain ⟨x, hx⟩ : ∃ x, xs[k]? = some x := ⟨_, List.getElem?_eq_getElem (by rw [HN.out]; exact hlt)⟩;obtain ⟨y, hy⟩ : ∃ y, ys[k]? = some y := ⟨_, List.getElem?_eq_getElem (by rw [HNy.out]; exact hlt)⟩
   have hxy : y.e = x.e := by
    have h1 : (xs.map (·.e))[k]? = some x.e := by rw [List.getElem?_map, hx]; rfl
    have h2 : (ys.map (·.e))[k]? = some y.e := by rw [List.getElem?_map, hy]; rfl
    rw [HE.out, h2] at h1;exact Option.some.inj h1
   have bB := hide (Hb.out.mono HB.out);obtain ⟨b, off, rfl, hbl, hat⟩ := HX.out.at_ hx;obtain ⟨b', off', rfl, hbl', hat'⟩ := HY.out.at_ hy;have x0 := (bB.out.cell (p := ⟨b, off + k * 5, none⟩) hbl).trans hat.c0;have x1 := (bB.out.cell (p := ⟨b, off + k * 5 + 1, none⟩) hbl).trans hat.c1;have x2 := (bB.out.cell (p := ⟨b, off + k * 5 + 2, none⟩) hbl).trans hat.c2;have x3 := (bB.out.cell (p := ⟨b, off + k * 5 + 3, none⟩) hbl).trans hat.c3;have x4 := (bB.out.cell (p := ⟨b, off + k * 5 + 4, none⟩) hbl).trans hat.c4;have y0 := (bB.out.cell (p := ⟨b', off' + k * 5, none⟩) hbl').trans hat'.c0;have y1 := (bB.out.cell (p := ⟨b', off' + k * 5 + 1, none⟩) hbl').trans hat'.c1;have y2 := (bB.out.cell (p := ⟨b', off' + k * 5 + 2, none⟩) hbl').trans hat'.c2;have y3 := (bB.out.cell (p := ⟨b', off' + k * 5 + 3, none⟩) hbl').trans hat'.c3;have y4 := (bB.out.cell (p := ⟨b', off' + k * 5 + 4, none⟩) hbl').trans hat'.c4;rw [hxy] at y0 y1 y2 y3 y4;have X3 := fun W (hW : Below B w W) => (hW.cell (p := ⟨b, off + k * 5 + 3, none⟩) hbl).trans hat.c3;have Y3 := fun W (hW : Below B w W) => (hW.cell (p := ⟨b', off' + k * 5 + 3, none⟩) hbl').trans hat'.c3;rw [hxy] at Y3;have hsx := HX.out.sub x (List.mem_of_getElem? hx);have hsy := HY.out.sub y (List.mem_of_getElem? hy);rw [hxy] at hsy;have HSx := hide hsx;have HSy := hide hsy;have hna := HNa.out x (List.mem_of_getElem? hx)
   obtain ⟨as_, has⟩ : ∃ as_, x.e.attrs = as_ := ⟨_, rfl⟩;rw [has] at x3 y3 X3 Y3 hna HSx HSy;obtain ⟨na, hnn⟩ : ∃ na, as_.length = na := ⟨_, rfl⟩;rw [hnn] at x3 y3 X3 Y3 hna HSx HSy;have HX3 := hide X3;have HY3 := hide Y3;have Hnn := hide hnn;generalize bstr x.e.name.ns = s1 at *
   generalize bstr x.e.name.loc = s2 at *
   generalize bstr x.e.text = s4 at *
   generalize x.e.kind = kd at *
   generalize x.A = xA at *
   generalize y.A = yA at *
   generalize x.c = xc at *
   generalize y.c = yc at *
   clear X3 Y3 hat hat' hx hy hxy hsx hsy has hnn;go_wp2
   go_quiet (fail)
   go_wp2;clear x0 x1 x2 x3 x4 y0 y1 y2 y3 y4
   go_loopg [6] na (fun gk vj wr2 => ∃ j : Nat, gk = na - j ∧ j ≤ na ∧ vj = .int .i64 (j : Int) ∧ Below w.heap.size w wr2)
   case atStart => exact ⟨0, rfl, by omega, rfl, by first | exact Hb.out | exact below_drewN Hb.out _⟩
   case round =>
    obtain ⟨j, hgk2, hj, rfl, hb2⟩ := hrel;have Hg2 := hide hgk2;have Hb2 := hide hb2;have bB2 := hide (hb2.mono HB.out);clear hgk2 hb2;have x3 := HX3.out wr bB2.out;have y3 := HY3.out wr bB2.out
    by_cases hlj : j < na
    ·obtain ⟨a, ha⟩ : ∃ a, as_[j]? = some a := ⟨_, List.getElem?_eq_getElem (by rw [Hnn.out]; exact hlj)⟩;have r1 := HSx.out.below bB2.out;have r2 := HSy.out.below bB2.out;rw [← Hnn.out] at r1 r2;obtain ⟨ab, ao, rfl, _, ta⟩ := atts_at r1 ha;obtain ⟨ab', ao', rfl, _, ta'⟩ := atts_at r2 ha;obtain ⟨u0, u1, u2⟩ := ta;obtain ⟨v0, v1, v2⟩ := ta';generalize bstr a.name.ns = t1 at *
     generalize bstr a.name.loc = t2 at *
     generalize bstr a.val = t3 at *
     clear ha r1 r2;go_wp2
     go_quiet (fail)
     go_wp2
     go_roundg (na - (j + 1))
     case measure => have := Hg2.out; omega
     case rel => exact ⟨j + 1, rfl, by omega, by first | rfl | go_num, below_drewN Hb2.out _⟩
    go_wp2
    go_roundg (N - (k + 1))
    case measure => have := Hg.out; omega
    case rel => exact ⟨k + 1, rfl, by omega, by first | rfl | go_num, Hb2.out⟩
  go_wp2;go_ret;exact ⟨rfl, Hb.out⟩
end
section
open Go.RowKit Tk Sx

end
end Go.Proofs.YtaickkaoglohgaaGreatDoor
