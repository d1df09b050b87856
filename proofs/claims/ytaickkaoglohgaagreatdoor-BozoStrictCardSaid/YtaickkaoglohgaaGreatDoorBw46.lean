/- Bozo: what the laws' wake-up asks. · Strict: the document's SameEvents, where the events are the same. · Bozo: what strict takes: the laws BozoStrict and BozoJunk, the walks. -/
import Derived.Test.YtaickkaoglohgaaGreatDoorBw29
import Derived.Test.YtaickkaoglohgaaGreatDoorBw31
import Derived.Test.YtaickkaoglohgaaGreatDoorBw45
set_option linter.unusedSimpArgs false
set_option linter.unusedVariables false
namespace Go.Proofs.YtaickkaoglohgaaGreatDoor
section
open Go.RowKit Tk Sx

def wkB1 : L := [60, 97, 62, 60, 98, 62, 120, 60, 47, 97, 62]
def wkB2 : L := [60, 97, 62, 49, 32, 60, 32, 50, 32, 38, 32, 51, 60, 47, 97, 62]
theorem wkB1_is : Bz.parse wkB1 = .ok ([⟨0, ⟨[], [97]⟩, [], []⟩, ⟨0, ⟨[], [98]⟩, [], []⟩, ⟨2, noNm, [], [120]⟩, ⟨1, ⟨[], [98]⟩, [], []⟩, ⟨1, ⟨[], [97]⟩, [], []⟩], [⟨11, 7⟩]) := by kernel_rfl
theorem wkB2_is : Bz.parse wkB2 = .ok ([⟨0, ⟨[], [97]⟩, [], []⟩, ⟨2, noNm, [], [49, 32, 60, 32, 50, 32, 38, 32, 51]⟩, ⟨1, ⟨[], [97]⟩, [], []⟩], [⟨5, 5⟩, ⟨6, 6⟩]) := by kernel_rfl
theorem rss_cells {W : World} {B : Nat} {A : Option Addr} {l : List Rsn} (h : Reads W B 2 A l.length (rss l)) {k : Nat} {r : Rsn} (hr : l[k]? = some r) : ∃ b off, A = some ⟨b, off, none⟩ ∧ b < B ∧ W.cell? ⟨b, off + k * 2, none⟩ = some (.int .i8 r.kind) ∧ W.cell? ⟨b, off + k * 2 + 1, none⟩ = some (.int .i64 (r.at_ : Int)) := by
 obtain ⟨hk, he⟩ := List.getElem?_eq_some_iff.1 hr;obtain ⟨b, off, hA, hb, hc⟩ := h.2 (by omega);obtain ⟨h0, h1⟩ := rss_at hr;refine ⟨b, off, hA, hb, ?_, ?_⟩
 ·exact hc (k * 2) _ h0
 have := hc (k * 2 + 1) _ h1; rwa [← Nat.add_assoc] at this
theorem wkB2_cells {W : World} {A : Option Addr} {xs : List Ew} {B : Nat} (h : EvL W B A xs) (hx : xs.map (·.e) = [⟨0, ⟨[], [97]⟩, [], []⟩, ⟨2, noNm, [], [49, 32, 60, 32, 50, 32, 38, 32, 51]⟩, ⟨1, ⟨[], [97]⟩, [], []⟩]) :
  xs.length = 3 ∧ ∃ b off, A = some ⟨b, off, none⟩ ∧ b < B ∧ W.cell? ⟨b, off + 5 + 4, none⟩ = some (.string ⟨#[49, 32, 60, 32, 50, 32, 38, 32, 51]⟩) := by
 have hl := congrArg List.length hx;rw [List.length_map] at hl;have h1 : (xs[1]?).map (·.e) = some ⟨2, noNm, [], [49, 32, 60, 32, 50, 32, 38, 32, 51]⟩ := by rw [← List.getElem?_map, hx]; rfl
 obtain ⟨y, hy0, e1⟩ := Option.map_eq_some_iff.1 h1;obtain ⟨b, off, rfl, hb, k1⟩ := h.at_ hy0;refine ⟨hl, b, off, rfl, hb, ?_⟩;have := k1.c4; rw [e1, Nat.one_mul] at this; exact this
set_option maxHeartbeats 8000000 in
theorem wakes17_any (w : World) (hg : Gm w) (hw6 : 6 ≤ w.heap.size) : Calls Tryz.prog 5 #[] w fun e w' => e = .returned (.bool true) ∧ Below w.heap.size w w' := by
 have HG := hide hg;have h1 := bparse_any wkB1 w hg hw6 (by decide);rw [wkB1_is] at h1;replace h1 : Calls _ _ #[.string ⟨#[60, 97, 62, 60, 98, 62, 120, 60, 47, 97, 62]⟩] _ (ParseB w _) := h1;have H1 := hide h1;clear hg h1
 go_enter Tryz.func5, Tryz.ntmps5
 go_wp2_with fail
 refine H1.out.mono ?_;rintro e w1 ⟨b1, xs, A, c, Ar, cr, hx, rfl, -, -, hr, -, -, hi, hrr⟩;have h2 := bparse_any wkB2 w1 (HG.out.below b1) (by have := b1.size; omega) (by decide);rw [wkB2_is] at h2;replace h2 : Calls _ _ #[.string ⟨#[60, 97, 62, 49, 32, 60, 32, 50, 32, 38, 32, 51, 60, 47, 97, 62]⟩] _ (ParseB w1 _) := h2;have H2 := hide h2;obtain ⟨b, off, rfl, hb, q1, -⟩ := rss_cells (k := 0) (r := ⟨11, 7⟩) hrr rfl;have hn : xs.length = 5 := by have hl := congrArg List.length hx; rw [List.length_map] at hl; exact hl
 have B1 := hide b1;dsimp only at q1;rw [Nat.zero_mul, Nat.add_zero] at q1;rw [hn];clear hr hi hx b1 hn H1 h2 hrr
 go_wp2_with fail
 refine H2.out.mono ?_;rintro e w2 ⟨b2, ys, A2, c2, Ar2, cr2, hy, rfl, -, -, hr2, -, -, hi2, hrr2⟩;replace q1 := cell_go b2 q1;obtain ⟨hn2, d, off2, rfl, hd, q2⟩ := wkB2_cells (EvL.of hr2 hi2) hy;obtain ⟨f, off3, rfl, hf, q3, -⟩ := rss_cells (k := 0) (r := ⟨5, 5⟩) hrr2 rfl;obtain ⟨f', off3', e3, hf', q4, -⟩ := rss_cells (k := 1) (r := ⟨6, 6⟩) hrr2 rfl;cases e3;have B2 := hide (B1.out.trans (b2.mono B1.out.size));dsimp only at q3 q4;rw [Nat.zero_mul, Nat.add_zero] at q3;rw [Nat.one_mul] at q4;rw [hn2];clear b2 B1 H2 hy hr2 hi2 hrr2 hn2;go_wp2;go_ret;exact ⟨rfl, B2.out⟩
end
section
open Go.RowKit Tk Sx

set_option maxRecDepth 100000 in
set_option maxHeartbeats 32000000 in
theorem sameEvents_any (w : World) (B : Nat) (A A' : Option Addr) (c c' : Nat) (xs ys : List Ew) (h : EvL w B A xs) (h' : EvL w B A' ys) (he : xs.map (·.e) = ys.map (·.e)) (hn : xs.length ≤ 1000000000) (hna : ∀ x ∈ xs, x.e.attrs.length ≤ 1000000000) (hB : B ≤ w.heap.size) :
  Calls Tryz.prog 8 #[.slice A xs.length c, .slice A' ys.length c'] w fun e w' => e = .returned (.bool true) ∧ Below w.heap.size w w' := by
 have HX := hide h;have HY := hide h';have HE := hide he;have HNa := hide hna;have hl : ys.length = xs.length := by have := congrArg List.length he; simpa using this.symm
 obtain ⟨N, hN⟩ : ∃ N, xs.length = N := ⟨_, rfl⟩;rw [hl];rw [hN] at hn hl ⊢;have HN := hide hN;have HNy := hide hl;have HB := hide hB;clear h h' he hna hN hl hB
 go_enter Tryz.func8, Tryz.ntmps8
 go_wp2
 go_loopg [5] N (fun gk vk wr => ∃ k : Nat, gk = N - k ∧ k ≤ N ∧ vk = .int .i64 (k : Int) ∧ Below w.heap.size w wr)
 case atStart => exact ⟨0, rfl, by omega, rfl, Below.refl _ _⟩
 case round =>
  obtain ⟨k, hgk, hk, rfl, hb⟩ := hrel;have Hg := hide hgk;have Hb := hide hb;clear hgk hb
  by_cases hlt : k < N
  ·obtain ⟨x, hx⟩ : ∃ x, xs[k]? = some x := ⟨_, List.getElem?_eq_getElem (by rw [HN.out]; exact hlt)⟩;obtain ⟨y, hy⟩ : ∃ y, ys[k]? = some y := ⟨_, List.getElem?_eq_getElem (by rw [HNy.out]; exact hlt)⟩
   have hxy : y.e = x.e := by
    have h1 : (xs.map (·.e))[k]? = some x.e := by rw [List.getElem?_map, hx]; rfl
    have h2 : (ys.map (·.e))[k]? = some y.e := by rw [List.getElem?_map, hy]; rfl
    rw [HE.out, h2] at h1;exact Option.some.inj h1
   have bB := hide (Hb.out.mono HB.out);obtain ⟨b, off, rfl, hbl, hat⟩ := HX.out.at_ hx;obtain ⟨b', off', rfl, hbl', hat'⟩ := HY.out.at_ hy;have x0 := (bB.out.cell (p := ⟨b, off + k * 5, none⟩) hbl).trans hat.c0;have x1 := (bB.out.cell (p := ⟨b, off + k * 5 + 1, none⟩) hbl).trans hat.c1;have x2 := (bB.out.cell (p := ⟨b, off + k * 5 + 2, none⟩) hbl).trans hat.c2;have x3 := (bB.out.cell (p := ⟨b, off + k * 5 + 3, none⟩) hbl).trans hat.c3;have x4 := (bB.out.cell (p := ⟨b, off + k * 5 + 4, none⟩) hbl).trans hat.c4;have y0 := (bB.out.cell (p := ⟨b', off' + k * 5, none⟩) hbl').trans hat'.c0;have y1 := (bB.out.cell (p := ⟨b', off' + k * 5 + 1, none⟩) hbl').trans hat'.c1;have y2 := (bB.out.cell (p := ⟨b', off' + k * 5 + 2, none⟩) hbl').trans hat'.c2;have y3 := (bB.out.cell (p := ⟨b', off' + k * 5 + 3, none⟩) hbl').trans hat'.c3;have y4 := (bB.out.cell (p := ⟨b', off' + k * 5 + 4, none⟩) hbl').trans hat'.c4;rw [hxy] at y0 y1 y2 y3 y4;have X3 := fun W (hW : Below B w W) => (hW.cell (p := ⟨b, off + k * 5 + 3, none⟩) hbl).trans hat.c3;have Y3 := fun W (hW : Below B w W) => (hW.cell (p := ⟨b', off' + k * 5 + 3, none⟩) hbl').trans hat'.c3;rw [hxy] at Y3;have hsx := HX.out.sub x (List.mem_of_getElem? hx);have hsy := HY.out.sub y (List.mem_of_getElem? hy);rw [hxy] at hsy;have HSx := hide hsx;have HSy := hide hsy;have hna := HNa.out x (List.mem_of_getElem? hx)
   obtain ⟨as_, has⟩ : ∃ as_, x.e.attrs = as_ := ⟨_, rfl⟩;rw [has] at x3 y3 X3 Y3 hna HSx HSy;obtain ⟨na, hnn⟩ : ∃ na, as_.length = na := ⟨_, rfl⟩;rw [hnn] at x3 y3 X3 Y3 hna HSx HSy;have HX3 := hide X3;have HY3 := hide Y3;have Hnn := hide hnn;generalize bstr x.e.name.ns = s1 at *
   generalize bstr x.e.name.loc = s2 at *
   generalize bstr x.e.text = s4 at *
   generalize x.e.kind = kd at *
   generalize x.A = xA at *
   generalize y.A = yA at *
   generalize x.c = xc at *
   generalize y.c = yc at *
   clear X3 Y3 hat hat' hx hy hxy hsx hsy has hnn;go_wp2
   go_quiet (fail)
   go_wp2;clear x0 x1 x2 x3 x4 y0 y1 y2 y3 y4
   go_loopg [6] na (fun gk vj wr2 => ∃ j : Nat, gk = na - j ∧ j ≤ na ∧ vj = .int .i64 (j : Int) ∧ Below w.heap.size w wr2)
   case atStart => exact ⟨0, rfl, by omega, rfl, by first | exact Hb.out | exact below_drewN Hb.out _⟩
   case round =>
    obtain ⟨j, hgk2, hj, rfl, hb2⟩ := hrel;have Hg2 := hide hgk2;have Hb2 := hide hb2;have bB2 := hide (hb2.mono HB.out);clear hgk2 hb2;have x3 := HX3.out wr bB2.out;have y3 := HY3.out wr bB2.out
    by_cases hlj : j < na
    ·obtain ⟨a, ha⟩ : ∃ a, as_[j]? = some a := ⟨_, List.getElem?_eq_getElem (by rw [Hnn.out]; exact hlj)⟩;have r1 := HSx.out.below bB2.out;have r2 := HSy.out.below bB2.out;rw [← Hnn.out] at r1 r2;obtain ⟨ab, ao, rfl, _, ta⟩ := atts_at r1 ha;obtain ⟨ab', ao', rfl, _, ta'⟩ := atts_at r2 ha;obtain ⟨u0, u1, u2⟩ := ta;obtain ⟨v0, v1, v2⟩ := ta';generalize bstr a.name.ns = t1 at *
     generalize bstr a.name.loc = t2 at *
     generalize bstr a.val = t3 at *
     clear ha r1 r2;go_wp2
     go_quiet (fail)
     go_wp2
     go_roundg (na - (j + 1))
     case measure => have := Hg2.out; omega
     case rel => exact ⟨j + 1, rfl, by omega, by first | rfl | go_num, below_drewN Hb2.out _⟩
    go_wp2
    go_roundg (N - (k + 1))
    case measure => have := Hg.out; omega
    case rel => exact ⟨k + 1, rfl, by omega, by first | rfl | go_num, Hb2.out⟩
  go_wp2;go_ret;exact ⟨rfl, Hb.out⟩
end
section
open Go.RowKit Tk Sx

set_option maxRecDepth 100000 in
set_option maxHeartbeats 32000000 in
theorem lawBStrict_any (s : L) (w : World) (hg : Gl w) (hw6 : 6 ≤ w.heap.size) :
  Calls Tryz.prog 3 #[.string (bstr s)] w fun e w' => e = .returned (.bool true) ∧ Below w.heap.size w w' := by
 have HWk := hide (fun W (h : Below w.heap.size w W) => wakes17_any W (hg.m.below h) (Nat.le_trans hw6 h.size));obtain ⟨n, hn⟩ : ∃ n, (bstr s).size = n := ⟨_, rfl⟩;have hnl : n = s.length := by rw [← hn, bstr_size]
 by_cases hbig : 3000 < n
 ·clear hnl
  go_enter Tryz.func3, Tryz.ntmps3
  go_wp2_with fail
  refine (HWk.out _ (Below.refl _ _)).mono ?_;rintro e w1 ⟨rfl, b1⟩;go_wp2;go_ret;exact ⟨rfl, b1⟩
 have HPa := hide (parse_any (bstr s) w hg hw6 (by rw [bstr_size]; omega));have HBz := hide (fun W (h : Below w.heap.size w W) => bparse_any s W (hg.m.below h) (Nat.le_trans hw6 h.size) (by omega));rw [bstr_list] at HPa;obtain ⟨r, hr⟩ : ∃ r, Sx.parse s = r := ⟨_, rfl⟩;rw [hr] at HPa
 cases r with
 | error x =>
  obtain ⟨x1, x2⟩ := x;have ht := (parse_told hr).2;dsimp only at ht
  rcases ht with rfl | ht
  ·generalize Bz.parse s = rb at *
   clear hr hg hw6 hnl
   cases rb with
   | error z =>
    go_enter Tryz.func3, Tryz.ntmps3
    go_wp2_with fail
    refine HPa.out.mono ?_;rintro e w1 ⟨b1, rfl⟩;have B1 := hide b1;clear b1
    go_wp2_with fail
    refine (HBz.out _ B1.out).mono ?_;rintro e w2 ⟨b2, rfl⟩;have B2 := hide (B1.out.trans (b2.mono B1.out.size));clear b2
    go_wp2_with fail
    refine (HWk.out _ B2.out).mono ?_;rintro e w3 ⟨rfl, b3⟩;go_wp2;go_ret;exact ⟨rfl, B2.out.trans (b3.mono B2.out.size)⟩
   | ok y =>
    obtain ⟨evs, rs⟩ := y
    go_enter Tryz.func3, Tryz.ntmps3
    go_wp2_with fail
    refine HPa.out.mono ?_;rintro e w1 ⟨b1, rfl⟩;have B1 := hide b1;clear b1
    go_wp2_with fail
    refine (HBz.out _ B1.out).mono ?_;rintro e w2 ⟨b2, xs, A, c, Ar, cr, -, rfl, -⟩;have B2 := hide (B1.out.trans (b2.mono B1.out.size));clear b2
    go_wp2_with fail
    refine (HWk.out _ B2.out).mono ?_;rintro e w3 ⟨rfl, b3⟩;go_wp2;go_ret;exact ⟨rfl, B2.out.trans (b3.mono B2.out.size)⟩
  have ht' : x2 = 41 ∨ x2 = 42 := ht;obtain ⟨z, hz, hz2⟩ := Bz.strict_err hr ht';rw [hz] at HBz;clear hr hg hw6 hnl hz ht'
  rcases ht with rfl | rfl <;> rcases hz2 with rfl | rfl
  all_goals
   go_enter Tryz.func3, Tryz.ntmps3
   go_wp2_with fail
   refine HPa.out.mono ?_;rintro e w1 ⟨b1, rfl⟩;have B1 := hide b1;clear b1
   go_wp2_with fail
   refine (HBz.out _ B1.out).mono ?_;rintro e w2 ⟨b2, rfl⟩;have B2 := hide (B1.out.trans (b2.mono B1.out.size));clear b2
   go_wp2_with fail
   refine (HWk.out _ B2.out).mono ?_;rintro e w3 ⟨rfl, b3⟩;go_wp2;go_ret;exact ⟨rfl, B2.out.trans (b3.mono B2.out.size)⟩
 | ok evs =>
  obtain ⟨rs, hz, hrs, -⟩ := Bz.strict_ok (x := []) hr;rw [List.append_nil] at hz;rw [hz, hrs rfl] at HBz;have Hsm := hide (parse_small (N := 3000) hr (by omega)).1;have Hfew := hide (parse_few hr);clear hr hg hw6 hnl hz hrs
  go_enter Tryz.func3, Tryz.ntmps3
  go_wp2_with fail
  refine HPa.out.mono ?_;rintro e w1 ⟨b1, xs, A, c, hx, rfl, -, hr, -, -, hi⟩;have B1 := hide b1;have E1 := hide (EvL.of hr hi);have Hx := hide hx;clear b1 hr hi hx
  go_wp2_with fail
  refine (HBz.out _ B1.out).mono ?_;rintro e w2 ⟨b2, ys, A2, c2, Ar, cr, hy, rfl, -, -, hr2, -, -, hi2, -⟩;have E2 := hide (EvL.of hr2 hi2);have E1' := hide ((E1.out.below b2).more b2.size);have B2 := hide (B1.out.trans (b2.mono B1.out.size));have hN : xs.length = evs.length := by rw [← Hx.out, List.length_map]
  have hSE := sameEvents_any w2 w2.heap.size A A2 c c2 xs ys E1'.out E2.out (by rw [Hx.out, hy]) (by rw [hN]; have := Hsm.out; omega) (fun x hx => by
   have hm : x.e ∈ xs.map (·.e) := List.mem_map_of_mem hx;rw [Hx.out] at hm;exact Nat.le_trans (Hfew.out _ hm) (by decide)) (Nat.le_refl _)
  have HSE := hide hSE;clear b2 hr2 hi2 hy hSE hN
  go_wp2_with fail
  refine HSE.out.mono ?_;rintro e w3 ⟨rfl, b3⟩;have B3 := hide (B2.out.trans (b3.mono B2.out.size));clear b3
  go_wp2_with fail
  refine (HWk.out _ B3.out).mono ?_;rintro e w4 ⟨rfl, b4⟩;go_wp2;go_ret;exact ⟨rfl, B3.out.trans (b4.mono B3.out.size)⟩
end
end Go.Proofs.YtaickkaoglohgaaGreatDoor
