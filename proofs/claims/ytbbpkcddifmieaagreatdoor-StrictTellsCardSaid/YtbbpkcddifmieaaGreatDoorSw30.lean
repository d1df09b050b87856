/- Tokens: words for the laws: where tokens end; the first ones of a list. · Strict in plain data: tokens are small, a parse keeps within bounds; no program in sight. · Strict: a token's step: the program's start, end, text, data, skip. · A call of a function value: it enters the function. · Strict: the program's Parse. · Strict: events in memory; Well; what the laws' wake-up asks. -/
import Derived.Test.YtbbpkcddifmieaaGreatDoorSw00
import Derived.Test.YtbbpkcddifmieaaGreatDoorSw02
import Derived.Test.YtbbpkcddifmieaaGreatDoorSw18
import Derived.Test.YtbbpkcddifmieaaGreatDoorSw29
import Derived.Laws.EntriesVeiled
set_option linter.unusedSimpArgs false
set_option linter.unusedVariables false
namespace Go.Proofs.YtbbpkcddifmieaaGreatDoor
section
open Go.RowKit Tk

def ends (ts : List Tok) (j : Nat) : Nat := ((ts.take j).getLast?.map (·.end_)).getD 0
theorem ends_all {ts : List Tok} {e : Nat} (h : Chain 0 ts e) : ends ts ts.length = e := by
 unfold ends;rw [List.take_length];exact h.end_.symm
theorem TkL.at_ {w : World} {B : Nat} {A : Option Addr} {xs : List Tv} (h : TkL w B A (xs.map Tv.g)) {j : Nat} {x : Tv} (hx : xs[j]? = some x) : ∃ b off, A = some ⟨b, off, none⟩ ∧ b < B ∧ GtAt w b (off + j * 7) x.g := by
 obtain ⟨hj, he⟩ := List.getElem?_eq_some_iff.1 hx;obtain ⟨b, off, h1, h2, h3⟩ := h.row.gt (k := j) (by rw [List.length_map]; exact hj);rw [List.getElem_map, he] at h3;exact ⟨b, off, h1, h2, h3⟩
theorem attrsW_len {off : Nat} {w : L} {as_ : List At} {e : Bool} (h : AttrsW off w as_ e) : as_.length ≤ w.length := by
 induction h with
 | two off b hb => simp
 | one off b hb => simp
 | more off b nm v x w as_ e hb h0 hn hn0 hv h60 hw ih =>
  have hbl : 0 < b.length := List.length_pos_iff.2 h0;simp only [List.length_append, List.length_cons];omega
end
section
open Go.RowKit Tk Sx

structure TokS (N : Nat) (t : Tok) : Prop where
 nm : t.name.length ≤ N
 tx : t.text.length ≤ N
 ats : t.attrs.length ≤ N
 an : ∀ a ∈ t.attrs, a.name.length ≤ N ∧ a.value.length ≤ N
 kd : t.kind = 0 ∨ t.kind = 1 ∨ t.kind = 2 ∨ t.kind = 3 ∨ t.kind = 4
theorem TokS.more {N N' : Nat} {t : Tok} (h : TokS N t) (hN : N ≤ N') : TokS N' t := ⟨Nat.le_trans h.nm hN, Nat.le_trans h.tx hN, Nat.le_trans h.ats hN, fun a ha => ⟨Nat.le_trans (h.an a ha).1 hN, Nat.le_trans (h.an a ha).2 hN⟩, h.kd⟩
theorem attrsW_small {off : Nat} {w : L} {as_ : List At} {e : Bool} (h : AttrsW off w as_ e) : ∀ a ∈ as_, a.name.length ≤ w.length ∧ a.value.length ≤ w.length := by
 induction h with
 | two => intro a ha; cases ha
 | one => intro a ha; cases ha
 | more off b nm v x w as_ e hb h0 hn hn0 hv h60 hw ih =>
  intro a ha;obtain ⟨b1, b2, q, _, _, _, _, rfl⟩ := hv
  rcases List.mem_cons.1 ha with rfl | ha
  ·simp only [List.length_append, List.length_cons];omega
  have := ih a ha;simp only [List.length_append, List.length_cons];omega
theorem tokW_small {at_ : Nat} {w : L} {t : Tok} (h : TokW at_ w t) : TokS w.length t := by
 cases h with
 | start _ nm wa as_ e hn h0 ha =>
  have h1 := attrsW_small ha;have h2 := attrsW_len ha;refine ⟨by simp; omega, by simp, by simp; omega, fun a ha => ?_, .inl rfl⟩;have := h1 a ha;simp only [List.length_append, List.length_cons];omega
 | end_ _ nm b hn h0 hb => exact ⟨by simp; omega, by simp, by simp, fun a ha => (by cases ha), .inr (.inl rfl)⟩
 | text _ tx h0 => exact ⟨by simp, by simp, by simp, fun a ha => (by cases ha), .inr (.inr (.inl rfl))⟩
 | data _ tx h0 => exact ⟨by simp, by simp; omega, by simp, fun a ha => (by cases ha), .inr (.inr (.inr (.inl rfl)))⟩
 | comment => exact ⟨by simp, by simp, by simp, fun a ha => (by cases ha), .inr (.inr (.inr (.inr rfl)))⟩
 | decl => exact ⟨by simp, by simp, by simp, fun a ha => (by cases ha), .inr (.inr (.inr (.inr rfl)))⟩
 | instr => exact ⟨by simp, by simp, by simp, fun a ha => (by cases ha), .inr (.inr (.inr (.inr rfl)))⟩
theorem row_small {at_ : Nat} {w rest : L} {ts : List Tok} (h : Row at_ w rest ts) : ∀ t ∈ ts, TokS w.length t := by
 induction h with
 | nil => intro t ht; cases ht
 | cons at_ w t w2 rest ts hw hf hk _ ih =>
  intro u hu;rw [List.length_append]
  rcases List.mem_cons.1 hu with rfl | hu
  ·exact (tokW_small hw).more (by omega)
  exact (ih u hu).more (by omega)
theorem allP_small {s : L} {ts : List Tok} {n : Nat} {ok : Bool} (h : AllP s ts n ok) : ∀ t ∈ ts, TokS s.length t := by
 unfold AllP at h
 split at h
 ·obtain ⟨w, rest, rfl, h1, _⟩ := h;intro t ht;exact (row_small h1 t ht).more (by rw [List.length_append]; omega)
 obtain ⟨rfl, _⟩ := h;intro t ht;cases ht
structure OkS (st : St) (n M V : Nat) : Prop where
 ok : Ok st n M
 ns : ∀ d ∈ st.scope, d.ns.length ≤ V
theorem ok_text {st : St} {n M k : Nat} (h : Ok st n M) (x : L) (hx : x.length ≤ k) : Ok (putSt st x) (n + 1) (M + k) := by
 refine ⟨h.op, Nat.le_trans h.sc (Nat.le_succ _), ?_, ?_, h.in_, h.srt⟩
 ·exact Nat.le_trans (putEv_len st.evs (textEv x)) (Nat.succ_le_succ h.ev)
 show ∀ y ∈ putEv st.evs (textEv x), y.text.length ≤ M + k;intro y hy;unfold putEv at hy;rw [if_neg (by simp [textEv])] at hy;have h1 : ∀ z ∈ st.evs, z.text.length ≤ M := h.tx
 split at hy
 ·rename_i z hz
  have hzm := List.mem_of_getLast? hz
  split at hy
  ·rcases List.mem_append.1 hy with hy | hy
   ·exact Nat.le_trans (h1 y (List.dropLast_subset _ hy)) (Nat.le_add_right _ _)
   rw [List.mem_singleton.1 hy];have := h1 z hzm;show (z.text ++ x).length ≤ _;rw [List.length_append];omega
  split at hy
  ·exact Nat.le_trans (h1 y hy) (Nat.le_add_right _ _)
  rcases List.mem_append.1 hy with hy | hy
  ·exact Nat.le_trans (h1 y hy) (Nat.le_add_right _ _)
  rw [List.mem_singleton.1 hy];show x.length ≤ _;omega
 split at hy
 ·exact Nat.le_trans (h1 y hy) (Nat.le_add_right _ _)
 rcases List.mem_append.1 hy with hy | hy
 ·exact Nat.le_trans (h1 y hy) (Nat.le_add_right _ _)
 rw [List.mem_singleton.1 hy];show x.length ≤ _;omega
theorem ok_close {st : St} {n M : Nat} (h : Ok st n M) : Ok (closeSt st) (n + 1) M := by
 unfold closeSt;split
 ·exact Ok_up h (Nat.le_succ _)
 rename_i x hx
 have hxm := List.mem_of_getLast? hx
 have hsp : st.open_ = st.open_.dropLast ++ [x] := by
  have hne : st.open_ ≠ [] := fun e => by rw [e] at hx; cases hx
  rw [List.getLast?_eq_some_getLast hne] at hx;rw [← Option.some.inj hx, List.dropLast_concat_getLast]
 have hp := h.srt;rw [hsp, List.pairwise_append] at hp;refine ⟨?_, ?_, ?_, ?_, ?_, hp.1⟩
 ·exact Nat.le_trans (by rw [List.length_dropLast]; omega) h.op
 ·exact Nat.le_trans (by rw [List.length_take]; omega) (Nat.le_trans h.sc (Nat.le_succ _))
 ·exact Nat.le_trans (putEv_len st.evs ⟨1, x.name, [], []⟩) (Nat.succ_le_succ h.ev)
 ·exact putEv_tx (x := ⟨1, x.name, [], []⟩) h.tx (by simp) (by simp)
 intro y hy;show y.scope ≤ (st.scope.take x.scope).length;have h1 := hp.2.2 y hy x (List.mem_singleton.2 rfl);have h2 := h.in_ x hxm;rw [List.length_take];omega
theorem close_scope (st : St) : ∀ d ∈ (closeSt st).scope, d ∈ st.scope := by
 unfold closeSt;split
 ·exact fun d h => h
 exact fun d h => List.mem_of_mem_take h
theorem vals_small {N : Nat} {t : Tok} (h : TokS N t) : ∀ s ∈ splits t, s.val.length ≤ 4 * N := by
 intro s hs;obtain ⟨a, ha, rfl⟩ := List.mem_map.1 hs;have h1 := valOf_short a;have h2 := (h.an a ha).2;exact Nat.le_trans h1 (Nat.mul_le_mul_left 4 h2)
theorem ok_start {st st' : St} {t : Tok} {n M V N : Nat} (h : OkS st n M V) (ht : TokS N t) (hV : 4 * N ≤ V) (hs : Sx.start st t = .ok st') : OkS st' (n + 18) M V := by
 unfold Sx.start at hs
 cases he : Sx.early st t with
 | some b => rw [he] at hs; cases hs
 | none =>
  rw [he] at hs
  have he2 : t.attrs.length ≤ 16 ∧ st.open_.length ≠ 16 := by
   unfold Sx.early at he
   cases hn : names t with
   | some a => rw [hn] at he; cases he
   | none =>
    rw [hn] at he;dsimp only at he
    split at he
    ·cases he
    split at he
    ·cases he
    split at he
    ·cases he
    omega
  dsimp only at hs;rw [late_is] at hs
  cases hb : b3 st t with
  | some a => rw [hb] at hs; cases hs
  | none =>
   rw [hb] at hs;dsimp only at hs;rw [← started_is hb] at hs
   have hl : (sc1 st t).length ≤ n + 17 := by
    unfold sc1;split
    ·have := declared_len (splits t) st.scope;rw [show (splits t).length = t.attrs.length from List.length_map _] at this;have := h.ok.sc;unfold scope';omega
    have := h.ok.sc; omega
   have hok := startedW_ok h.ok he2.2 hl (by omega)
   have hns : ∀ d ∈ (startedW st t (sc1 st t)).scope, d.ns.length ≤ V := by
    intro d hd;have hd2 : d ∈ sc1 st t := hd;unfold sc1 at hd2
    split at hd2
    ·exact declared_ns (splits t) st.scope h.ns (fun s hs => Nat.le_trans (vals_small ht s hs) hV) d hd2
    exact h.ns d hd2
   cases hte : t.empty with
   | true =>
    rw [hte] at hs;simp only [if_true, Except.ok.injEq] at hs;subst hs;exact ⟨ok_close hok, fun d hd => hns d (close_scope _ d hd)⟩
   | false =>
    rw [hte] at hs;simp only [Bool.false_eq_true, if_false, Except.ok.injEq] at hs;subst hs;exact ⟨Ok_up hok (by omega), hns⟩
theorem ok_step {st st' : St} {t : Tok} {n M V N : Nat} (h : OkS st n M V) (ht : TokS N t) (hV : 4 * N ≤ V) (hs : Sx.step st t = .ok st') : OkS st' (n + 18) (M + 4 * N) V := by
 have up : ∀ {st : St} {m M' : Nat}, Ok st m M' → m ≤ n + 18 → M' ≤ M + 4 * N → Ok st (n + 18) (M + 4 * N) := fun {st m M'} k h1 h2 => ⟨k.op, Nat.le_trans k.sc h1, Nat.le_trans k.ev h1, fun y hy => Nat.le_trans (k.tx y hy) h2, k.in_, k.srt⟩;unfold Sx.step at hs
 split at hs
 ·have := ok_start h ht hV hs;exact ⟨up this.ok (by omega) (by omega), this.ns⟩
 split at hs
 ·unfold Sx.end_ at hs
  split at hs
  ·cases hs
  split at hs
  ·simp only [Except.ok.injEq] at hs;subst hs;exact ⟨up (ok_close h.ok) (by omega) (by omega), fun d hd => h.ns d (close_scope _ d hd)⟩
  cases hs
 split at hs
 ·unfold Sx.text at hs
  split at hs
  ·split at hs
   ·simp only [Except.ok.injEq] at hs;subst hs;exact ⟨up h.ok (by omega) (by omega), h.ns⟩
   cases hs
  split at hs
  ·rename_i x hx
   simp only [Except.ok.injEq] at hs;subst hs;have := sref_len _ _ _ _ hx;have := ht.tx;exact ⟨up (ok_text h.ok x (k := 4 * N) (by omega)) (by omega) (by omega), h.ns⟩
  cases hs
 split at hs
 ·unfold Sx.data at hs
  split at hs
  ·cases hs
  simp only [Except.ok.injEq] at hs;subst hs;have := ht.tx;exact ⟨up (ok_text h.ok t.text (k := 4 * N) (by omega)) (by omega) (by omega), h.ns⟩
 simp only [Except.ok.injEq] at hs;subst hs;exact ⟨up h.ok (by omega) (by omega), h.ns⟩
theorem run_snoc (st : St) (ts : List Tok) (t : Tok) : run st (ts ++ [t]) = match run st ts with | .error x => .error x | .ok st' => Sx.step st' t := by
 induction ts generalizing st with
 | nil =>
  simp only [List.nil_append, run]
  cases Sx.step st t <;> rfl
 | cons u ts ih =>
  simp only [List.cons_append, run]
  cases hs : Sx.step st u with
  | error x => rfl
  | ok st' => exact ih st'
theorem run_error {st : St} {ts : List Tok} {x : Nat × Nat} (h : run st ts = .error x) : ∀ r, run st (ts ++ r) = .error x := by
 induction ts generalizing st with
 | nil => cases h
 | cons u ts ih =>
  intro r;simp only [List.cons_append, run] at h ⊢
  cases hs : Sx.step st u with
  | error y => rw [hs] at h; exact h
  | ok st' => rw [hs] at h; exact ih h r
end
section
open Go.RowKit Tk Sx

theorem sskip_any (B P : Nat) (w : World) (st : St) (v : Pv) (b o : Nat) (t : Tok) (h : PI B P w st none v) :
  Calls Tryz.prog 29 #[.pointer (some ⟨P, 0, none⟩), .pointer (some ⟨b, o, none⟩)] w (StepR B P w (.ok st)) := by
 go_enter Tryz.func29, Tryz.ntmps29
 go_wp2;go_end0;exact ⟨rfl, Mov.refl _ _ _, _, h⟩
theorem sstart_any (B P : Nat) (w : World) (st : St) (v : Pv) (b o : Nat) (t : Tok) (At_ : Option Addr) (ct : Nat) (h : PI B P w st none v) (hB : B ≤ w.heap.size) (h6 : 6 ≤ B) (hg : Gl w) (ht : TkB B w b o t)
  (hta : w.cell? ⟨b, o + 2, none⟩ = some (.slice At_ t.attrs.length ct)) (hr : Reads w B 3 At_ t.attrs.length (gas (t.attrs.map At.g))) (hs : TokS 100000 t) (hk : OkS st 90000000 100000000000000000 1000000) :
  Calls Tryz.prog 25 #[.pointer (some ⟨P, 0, none⟩), .pointer (some ⟨b, o, none⟩)] w (StepR B P w (Sx.start st t)) := by
 cases he : Sx.early st t with
 | some x =>
  rw [show Sx.start st t = .error x by unfold Sx.start; rw [he]];exact start_early B P w st v b o t At_ ct h hB h6 hg ht hta hr (Nat.le_trans hs.ats (by decide)) (Nat.le_trans hs.nm (by decide)) (fun a ha => Nat.le_trans (hs.an a ha).1 (by decide)) x he
 | none => exact start_late B P w st v b o t At_ ct h hB h6 hg ht hta hr hs.nm hs.an hk.ok hk.ns he
def fnK (k : Int) : Nat := if k = 0 then 25 else if k = 1 then 26 else if k = 2 then 27 else if k = 3 then 28 else 29
theorem step_any (B P : Nat) (w : World) (st : St) (v : Pv) (b o : Nat) (t : Tok) (At_ : Option Addr) (ct : Nat) (h : PI B P w st none v) (hB : B ≤ w.heap.size) (h6 : 6 ≤ B) (hg : Gl w) (ht : TkB B w b o t)
  (hta : w.cell? ⟨b, o + 2, none⟩ = some (.slice At_ t.attrs.length ct)) (hr : Reads w B 3 At_ t.attrs.length (gas (t.attrs.map At.g))) (hs : TokS 100000 t) (hk : OkS st 90000000 100000000000000000 1000000) :
  Calls Tryz.prog (fnK t.kind) #[.pointer (some ⟨P, 0, none⟩), .pointer (some ⟨b, o, none⟩)] w (StepR B P w (Sx.step st t)) := by
 have hk1 : Ok st 1000000000 100000000000000000 := Ok_up hk.ok (by decide);unfold fnK Sx.step;split
 ·exact sstart_any B P w st v b o t At_ ct h hB h6 hg ht hta hr hs hk
 split
 ·exact send_any B P w st v b o t h hB hk1 ht
 split
 ·exact stext_any B P w st v b o t h hB hk1 ht hs.tx
 split
 ·exact data_any B P w st v b o t h hB hk1 ht (Nat.le_trans hs.tx (by decide))
 exact sskip_any B P w st v b o t h
end
section
open Go Go.RowKit

theorem callFunc_body {P : Program} {f : FuncId} {fn : Func} (hf : P.funcs[f]? = some fn) (hname : (fn.name == "runtime.NumGoroutine") = false) (hb : fn.body.isSome = true) (args : Array Value) (w : World) : (callFunc f args).run P w = .ok (.enter f args) w := by
 have h1 : fn.name ≠ "runtime.NumGoroutine" := by simpa using hname
 obtain ⟨c, hc⟩ := Option.isSome_iff_exists.1 hb;simp [callFunc, hf, h1, hc]
end
section
open Go.RowKit Tk Sx

def ParseR (w : World) (r : Except (Nat × Nat) (List Ev)) (e : Ending) (w' : World) : Prop := Below w.heap.size w w' ∧ match r with
 | .error x => e = .returned (.tuple #[.slice none 0 0, .int .i64 (x.1 : Int), .int .i64 (x.2 : Int)])
 | .ok evs => ∃ xs A c, xs.map (·.e) = evs ∧ e = .returned (.tuple #[.slice A xs.length c, .int .i64 (-1), .int .i64 0]) ∧ xs.length ≤ c ∧ Reads w' w'.heap.size 5 A xs.length (ews xs) ∧ Above w.heap.size A ∧ Typed w' A 43 ∧ ∀ x ∈ xs, x.In w.heap.size w'
theorem kind_nat {N : Nat} {t : Tok} (h : TokS N t) : ∃ kn : Nat, t.kind = (kn : Int) ∧ kn < 5 := by
 rcases h.kd with h | h | h | h | h
 ·exact ⟨0, h, by omega⟩
 ·exact ⟨1, h, by omega⟩
 ·exact ⟨2, h, by omega⟩
 ·exact ⟨3, h, by omega⟩
 exact ⟨4, h, by omega⟩
def bound (P : Nat) : Array Value := #[.func (.func 25) #[.pointer (some ⟨P, 0, none⟩)] #[], .func (.func 26) #[.pointer (some ⟨P, 0, none⟩)] #[], .func (.func 27) #[.pointer (some ⟨P, 0, none⟩)] #[], .func (.func 28) #[.pointer (some ⟨P, 0, none⟩)] #[], .func (.func 29) #[.pointer (some ⟨P, 0, none⟩)] #[]]
theorem bound_at {W : World} {K P : Nat} (h : Blk W K 61 (bound P)) {kn : Nat} (hk : kn < 5) : W.cell? ⟨K, kn, none⟩ = some (.func (.func (fnK (kn : Int))) #[.pointer (some ⟨P, 0, none⟩)] #[]) := by
 have c0 := h.cell 0;have c1 := h.cell 1;have c2 := h.cell 2;have c3 := h.cell 3;have c4 := h.cell 4
 match kn, hk with
 | 0, _ => exact c0
 | 1, _ => exact c1
 | 2, _ => exact c2
 | 3, _ => exact c3
 | 4, _ => exact c4
theorem fnK_enter {kn : Nat} (hk : kn < 5) (args : Array Value) (w : World) : (callFunc (fnK (kn : Int)) args).run Tryz.prog w = .ok (.enter (fnK (kn : Int)) args) w := by
 match kn, hk with
 | 0, _ => exact callFunc_body Tryz.func25 (by kernel_rfl) (by kernel_rfl) _ _
 | 1, _ => exact callFunc_body Tryz.func26 (by kernel_rfl) (by kernel_rfl) _ _
 | 2, _ => exact callFunc_body Tryz.func27 (by kernel_rfl) (by kernel_rfl) _ _
 | 3, _ => exact callFunc_body Tryz.func28 (by kernel_rfl) (by kernel_rfl) _ _
 | 4, _ => exact callFunc_body Tryz.func29 (by kernel_rfl) (by kernel_rfl) _ _
theorem PI.zero (B : Nat) (w : World) (hB : B ≤ w.heap.size) : PI B w.heap.size (w.alloc (.cells #[.slice none 0 0, .slice none 0 0, .slice none 0 0, .bool false, .pointer none] 59)) st0 none ⟨none, 0, none, 0, none, 0, .pointer none, []⟩ :=
 ⟨Blk.new w 59 _, hB, World.ownsRow_nil _ _ _ _, World.ownsRow_nil _ _ _ _, World.ownsRow_nil _ _ _ _, rfl, fun x hx => (by cases hx), rfl⟩

theorem allP_toks {s : L} {ts : List Tok} {n : Nat} {ok : Bool} (hf : fine s = true) (h : AllP s ts n ok) : toks s.length 0 s = ts ∧ tokEnd ts = n ∧ ok = decide (n = s.length) := by
 obtain ⟨_, hc, hok⟩ := h.len;have hv := fine_valid hf;have he := ends_all hc;unfold ends at he;rw [List.take_length] at he;rw [hv, Bool.and_true] at hok;unfold AllP at h;rw [if_pos hv] at h;obtain ⟨w, rest, rfl, h1, h2, h3, h4⟩ := h;exact ⟨toks_row h1 (by simpa using h2) _ (Nat.le_refl _), he, hok⟩

set_option maxRecDepth 100000 in
set_option maxHeartbeats 16000000 in
theorem parse_any (s : ByteArray) (w : World) (hg : Gl w) (hw6 : 6 ≤ w.heap.size) (hs : s.size ≤ 100000) :
  Calls Tryz.prog 14 #[.string s] w (ParseR w (Sx.parse s.data.toList)) := by
 have HBd := hide (bad_any s w (by omega));have HT := hide (fun W (h : Below w.heap.size w W) => tks_any W s (hg.below h) (Nat.le_trans hw6 h.size) (by omega));obtain ⟨D, hD⟩ : ∃ D, s.data.toList = D := ⟨_, rfl⟩;rw [hD] at HBd HT ⊢;have HDl := hide (show D.length = s.size by rw [← hD, size_list]);have HG := hide hg;obtain ⟨R, hR⟩ : ∃ R, Sx.parse D = R := ⟨_, rfl⟩;rw [hR];unfold Sx.parse at hR;obtain ⟨bd, hbd⟩ : ∃ bd, bad D = bd := ⟨_, rfl⟩;rw [hbd] at HBd hR;have Hbd := hide hbd;clear hg hD hbd
 by_cases h0 : 0 ≤ bd
 ·rw [if_pos h0] at hR;obtain ⟨k, rfl⟩ : ∃ k : Nat, bd = (k : Int) := ⟨bd.toNat, by omega⟩;have HR := hide hR;have hd : decide ((0 : Int) ≤ (k : Int)) = true := decide_eq_true h0;clear hR h0 HT
  go_enter Tryz.func14, Tryz.ntmps14
  go_wp2_with fail
  refine HBd.out.mono ?_;rintro e w1 ⟨rfl, b1⟩;go_wp2;go_ret3;rw [← HR.out];exact ⟨b1, by simp⟩
 rw [if_neg h0] at hR;have HR := hide hR;have hd : decide ((0 : Int) ≤ bd) = false := decide_eq_false h0;have hbf := bad_fine D;rw [Hbd.out, hd] at hbf;have Hfi := hide (show fine D = true by simpa using hbf);clear hR h0 hbf
 go_enter Tryz.func14, Tryz.ntmps14
 go_wp2_with fail
 refine HBd.out.mono ?_;rintro e w1 ⟨rfl, b1⟩;have B1 := hide b1;clear b1
 go_wp2_with fail
 refine (HT.out _ B1.out).mono ?_;rintro e w2 ⟨xs, A, c, n, ok, hP, hxl, hxc, rfl, b2, hr, -, -, hi⟩;have B2 := hide (B1.out.trans (b2.mono B1.out.size));have HP := hide hP;have HTk := hide (TkL.of hr hi);obtain ⟨N, hN⟩ : ∃ N, xs.length = N := ⟨_, rfl⟩;have HN := hide hN;rw [hN] at hxl hxc ⊢;have Hxl := hide hxl;have Hxc := hide hxc;clear hP hr hi b2 hN hxl hxc
 cases ok with
 | false =>
  go_wp2;go_ret3
  have hRe : R = .error (n, 50) := by
   obtain ⟨h1, h2, h3⟩ := allP_toks Hfi.out HP.out;rw [← HR.out, h1, h2, if_pos (by simpa using h3)]
  rw [hRe];exact ⟨B2.out, rfl⟩
 | true =>
  have I0 := hide ((PI.zero w2.heap.size w2 (Nat.le_refl _)).go (below_alloc _ (.cells (bound w2.heap.size) 61)));have k0 := Blk.new (w2.alloc (.cells #[.slice none 0 0, .slice none 0 0, .slice none 0 0, .bool false, .pointer none] 59)) 61 (bound w2.heap.size);rw [World.size_alloc] at k0;have K0 := hide k0;have T0 := hide (((Below.refl _ w2).alloc (Nat.le_refl _) (.cells #[.slice none 0 0, .slice none 0 0, .slice none 0 0, .bool false, .pointer none] 59)).alloc (by simp) (.cells (bound w2.heap.size) 61));have G2 := hide (HG.out.below B2.out);have H6 := hide (Nat.le_trans hw6 B2.out.size);clear k0;go_wp2;obtain ⟨B, hB⟩ : ∃ B, w2.heap.size = B := ⟨_, rfl⟩;rw [hB] at I0 K0 T0 HTk H6 ⊢;have HB := hide hB;obtain ⟨ts, hts⟩ : ∃ ts, xs.map (·.t) = ts := ⟨_, rfl⟩;rw [hts] at HP;have Hts := hide hts;have HBw := hide (show w.heap.size ≤ B by rw [← hB]; exact B2.out.size);have hN5 : N ≤ 100000 := by have := Hxl.out; have := HDl.out; omega
  clear hB hts
  go_loopg [39] N (fun gk vk wr => ∃ (k : Nat) (st : St) (v : Pv), gk = N - k ∧ k ≤ N ∧ vk = .int .i64 (k : Int) ∧ run st0 (ts.take k) = .ok st ∧ PI B B wr st none v ∧ Blk wr (B + 1) 61 (bound B) ∧ Below B w2 wr ∧ OkS st (18 * k) (400000 * k) 1000000)
  case atStart => exact ⟨0, st0, _, rfl, by omega, rfl, rfl, I0.out, K0.out, T0.out, ⟨⟨by simp [st0], by simp [st0], by simp [st0], by simp [st0], by simp [st0], by simp [st0]⟩, by simp [st0]⟩⟩
  case round =>
   obtain ⟨k, st, v, hgk, hk, rfl, h1, h2, h3, h4, h5⟩ := hrel;have Hg := hide hgk;have H1 := hide h1;have I1 := hide h2;have K1 := hide h3;have T1 := hide h4;have Ok1 := hide h5;clear hgk h1 h2 h3 h4 h5 I0 K0 T0
   by_cases hlt : k < N
   ·obtain ⟨x, hx⟩ : ∃ x, xs[k]? = some x := ⟨_, List.getElem?_eq_getElem (by rw [HN.out]; exact hlt)⟩;obtain ⟨b, off, rfl, hb, hat⟩ := HTk.out.at_ hx;have hxm : x.t ∈ ts := by rw [← Hts.out]; exact List.mem_map_of_mem (List.mem_of_getElem? hx)
    have htk : ts[k]? = some x.t := by rw [← Hts.out, List.getElem?_map, hx]; rfl
    have hsub := HTk.out.sub x.g (List.mem_map_of_mem (List.mem_of_getElem? hx));have hsm := (allP_small HP.out x.t hxm).more (show D.length ≤ 100000 by rw [HDl.out]; exact hs);obtain ⟨kn, hkn, hk5⟩ := kind_nat hsm;have y0 : wr.cell? ⟨b, off + k * 7, none⟩ = some (.int .i8 (kn : Int)) := by rw [← hkn]; exact (T1.out.cell (p := ⟨b, off + k * 7, none⟩) hb).trans hat.c0
    have yf := bound_at K1.out hk5;have ht : TkB B wr b (off + k * 7) x.t := ⟨hb, (T1.out.cell (p := ⟨b, off + k * 7 + 1, none⟩) hb).trans hat.c1, (T1.out.cell (p := ⟨b, off + k * 7 + 3, none⟩) hb).trans hat.c3, (T1.out.cell (p := ⟨b, off + k * 7 + 4, none⟩) hb).trans hat.c4, (T1.out.cell (p := ⟨b, off + k * 7 + 5, none⟩) hb).trans hat.c5⟩
    have hta : wr.cell? ⟨b, off + k * 7 + 2, none⟩ = some (.slice x.A x.t.attrs.length x.c) := by
     have := (T1.out.cell (p := ⟨b, off + k * 7 + 2, none⟩) hb).trans hat.c2;rwa [show x.g.as_.length = x.t.attrs.length from List.length_map _] at this
    have hrd : Reads wr B 3 x.A x.t.attrs.length (gas (x.t.attrs.map At.g)) := by
     have := hsub.below T1.out;rwa [show x.g.as_.length = x.t.attrs.length from List.length_map _] at this
    have hSt := step_any B B wr.drew st v b (off + k * 7) x.t x.A x.c (I1.out.go (Below.refl _ _).drew) (by rw [← HB.out]; exact T1.out.size) H6.out ((G2.out.below (by rw [HB.out]; exact T1.out)).below (Below.refl _ _).drew) ⟨ht.lt, ht.c1, ht.c3, ht.c4, ht.c5⟩ hta hrd hsm ⟨⟨Ok1.out.ok.op, by have := Ok1.out.ok.sc; have := Hxl.out; have := HDl.out; omega, by have := Ok1.out.ok.ev; have := Hxl.out; have := HDl.out; omega, fun y hy => by have := Ok1.out.ok.tx y hy; have := Hxl.out; have := HDl.out; omega, Ok1.out.ok.in_, Ok1.out.ok.srt⟩, Ok1.out.ns⟩;rw [hkn] at hSt;have HSt := hide hSt;have Hrun := hide (show run st0 (ts.take (k + 1)) = Sx.step st x.t by rw [List.take_add_one, htk]; show run st0 (ts.take k ++ [x.t]) = _; rw [run_snoc, H1.out]);have Hsm := hide hsm;have hcf := fun args w => fnK_enter hk5 args w;generalize fnK (kn : Int) = fn at *
    obtain ⟨r, hr⟩ : ∃ r, Sx.step st x.t = r := ⟨_, rfl⟩;have Hr := hide hr;rw [hr] at HSt Hrun;clear hat hx hxm htk hsub hsm hkn ht hta hrd hSt hr
    cases r with
    | error y =>
     have hRe : R = .error y := by
      obtain ⟨q1, q2, q3⟩ := allP_toks Hfi.out HP.out;have := run_error Hrun.out (ts.drop (k + 1));rw [List.take_append_drop] at this;rw [← HR.out, q1, q2, if_neg (by simpa using q3), this]
     subst hRe;go_wp2
     go_region_with (refine HSt.out.mono ?_; rintro e w3 ⟨rfl, hm, st', v', hp⟩)
     all_goals
      have c4 := hp.c4;obtain ⟨F, hF, hFv, hFk⟩ := hp.bad;rw [hFv] at c4;have z0 := hFk.cell 0;have z1 := hFk.cell 1;have M3 := hide hm;have HwB := hide (show B ≤ wr.heap.size by rw [← HB.out]; exact T1.out.size);clear hp hF hFv hFk hm;go_wp2
      go_quiet (fail)
      go_wp2;go_ret3;exact ⟨below_drewN (B2.out.trans ((T1.out.trans (((Mov.refl B B wr).drew.trans M3.out).below (C := B) (Nat.le_refl _) (Nat.le_refl _) HwB.out)).mono HBw.out)) _, rfl⟩
    | ok st' =>
     have hk' := ok_step (N := 100000) ⟨Ok1.out.ok, Ok1.out.ns⟩ Hsm.out (by decide) Hr.out;have Ok2 := hide hk';clear hk';go_wp2
     go_region_with (refine HSt.out.mono ?_; rintro e w3 ⟨rfl, hm, v', hp⟩)
     all_goals
      have c4 := hp.c4;rw [hp.vb_none] at c4;have P3 := hide hp;have M3 := hide hm;have HwB := hide (show B ≤ wr.heap.size by rw [← HB.out]; exact T1.out.size);clear hp hm;go_wp2
      go_roundg (N - (k + 1))
      case measure => have := Hg.out; omega
      case rel =>
       have hm' : Mov B B wr w3 := (Mov.refl B B wr).drew.trans M3.out;exact ⟨k + 1, st', v', rfl, by omega, by first | rfl | go_num, Hrun.out, P3.out, hm'.blk K1.out (by omega) (by decide), T1.out.trans (hm'.below (Nat.le_refl _) (Nat.le_refl _) HwB.out), ⟨⟨Ok2.out.ok.op, Nat.le_trans Ok2.out.ok.sc (by omega), Nat.le_trans Ok2.out.ok.ev (by omega), fun y hy => Nat.le_trans (Ok2.out.ok.tx y hy) (by omega), Ok2.out.ok.in_, Ok2.out.ok.srt⟩, Ok2.out.ns⟩⟩
   have hkN : k = N := by omega
   subst hkN;have hall : ts.take k = ts := List.take_of_length_le (by rw [← Hts.out, List.length_map, HN.out]; exact Nat.le_refl _);have hrun := H1.out;rw [hall] at hrun
   have hRe : R = if st.open_ = [] ∧ st.rooted = true then .ok st.evs else .error (D.length, 50) := by
    obtain ⟨q1, q2, q3⟩ := allP_toks Hfi.out HP.out;rw [← HR.out, q1, q2, if_neg (by simpa using q3), hrun]
   have HRe := hide hRe;have c0 := I1.out.c;have c3 := I1.out.c3;obtain ⟨no, hno⟩ : ∃ no, st.open_.length = no := ⟨_, rfl⟩;have Hno := hide hno;rw [hno] at c0;obtain ⟨ro, hro⟩ : ∃ ro, st.rooted = ro := ⟨_, rfl⟩;have Hro := hide hro;rw [hro] at c3;have HBe := hide (B2.out.trans (T1.out.mono (by have := B2.out.size; have := HB.out; omega)));clear hall hrun hRe hno hro HR
   by_cases h0 : no = 0
   ·subst h0;have ho : st.open_ = [] := List.eq_nil_of_length_eq_zero Hno.out
    cases ro with
    | true =>
     have hR2 : R = .ok st.evs := by rw [HRe.out, if_pos ⟨ho, Hro.out⟩]
     have c2 := I1.out.c2;obtain ⟨ne, hne⟩ : ∃ ne, v.xs.length = ne := ⟨_, rfl⟩;rw [hne] at c2;have Hne := hide hne;subst hR2;clear ho hne;go_wp2;go_ret3;refine ⟨HBe.out, v.xs, v.Ae, v.ce, I1.out.ev, ?_, own_cap I1.out.e, Reads.of_own I1.out.e, (above_own I1.out.e).more HBw.out, typed_own I1.out.e, fun x hx => ⟨(I1.out.inn x hx).a, (I1.out.inn x hx).va.more HBw.out, (I1.out.inn x hx).ta⟩⟩;rw [Hne.out];rfl
    | false =>
     have hR2 : R = .error (s.size, 50) := by rw [HRe.out, if_neg (by rw [Hro.out]; simp), HDl.out]
     subst hR2;clear ho;go_wp2;go_ret3;exact ⟨HBe.out, rfl⟩
   have hR2 : R = .error (s.size, 50) := by rw [HRe.out, if_neg (by intro h; apply h0; rw [← Hno.out, h.1]; rfl), HDl.out]
   have hn0 : 0 < no := by omega
   subst hR2;clear h0;go_wp2;go_ret3;exact ⟨HBe.out, rfl⟩
end
section
open Go.RowKit Tk Sx

structure EvAt (w : World) (b o : Nat) (x : Ew) : Prop where
 c0 : w.cell? ⟨b, o, none⟩ = some (.int .i8 (x.e.kind : Int))
 c1 : w.cell? ⟨b, o + 1, none⟩ = some (.string (bstr x.e.name.ns))
 c2 : w.cell? ⟨b, o + 2, none⟩ = some (.string (bstr x.e.name.loc))
 c3 : w.cell? ⟨b, o + 3, none⟩ = some (.slice x.A x.e.attrs.length x.c)
 c4 : w.cell? ⟨b, o + 4, none⟩ = some (.string (bstr x.e.text))
structure AttAt (w : World) (b o : Nat) (x : Att) : Prop where
 c0 : w.cell? ⟨b, o, none⟩ = some (.string (bstr x.name.ns))
 c1 : w.cell? ⟨b, o + 1, none⟩ = some (.string (bstr x.name.loc))
 c2 : w.cell? ⟨b, o + 2, none⟩ = some (.string (bstr x.val))
structure EvL (w : World) (B : Nat) (A : Option Addr) (xs : List Ew) : Prop where
 row : Reads w B 5 A xs.length (ews xs)
 sub : ∀ x ∈ xs, Reads w B 3 x.A x.e.attrs.length (atts x.e.attrs)
section
variable {w w' : World} {B B' : Nat} {A : Option Addr} {xs : List Ew}
theorem EvL.below (h : EvL w B A xs) (hb : Below B w w') : EvL w' B A xs := ⟨h.row.below hb, fun x hx => (h.sub x hx).below hb⟩
theorem EvL.more (h : EvL w B A xs) (hB : B ≤ B') : EvL w B' A xs := ⟨h.row.more hB, fun x hx => (h.sub x hx).more hB⟩
theorem EvL.at_ (h : EvL w B A xs) {k : Nat} {x : Ew} (hx : xs[k]? = some x) : ∃ b off, A = some ⟨b, off, none⟩ ∧ b < B ∧ EvAt w b (off + k * 5) x := by
 obtain ⟨hk, he⟩ := List.getElem?_eq_some_iff.1 hx;obtain ⟨b, off, hA, hb, hc⟩ := h.row.2 (by omega)
 have hf : ∀ j, j < 5 → (ews xs)[k * 5 + j]? = (ewCells x)[j]? := fun j hj => by
  unfold ews;rw [fm_at ew_len xs k hk j hj, he]
 refine ⟨b, off, hA, hb, ?_⟩
 constructor
 ·have := hc (k * 5 + 0) _ (hf 0 (by omega)); simpa using this
 ·have := hc (k * 5 + 1) _ (hf 1 (by omega)); rwa [← Nat.add_assoc] at this
 ·have := hc (k * 5 + 2) _ (hf 2 (by omega)); rwa [← Nat.add_assoc] at this
 ·have := hc (k * 5 + 3) _ (hf 3 (by omega)); rwa [← Nat.add_assoc] at this
 have := hc (k * 5 + 4) _ (hf 4 (by omega)); rwa [← Nat.add_assoc] at this
theorem atts_at {l : List Att} (h : Reads w B 3 A l.length (atts l)) {k : Nat} {x : Att} (hx : l[k]? = some x) : ∃ b off, A = some ⟨b, off, none⟩ ∧ b < B ∧ AttAt w b (off + k * 3) x := by
 obtain ⟨hk, he⟩ := List.getElem?_eq_some_iff.1 hx;obtain ⟨b, off, hA, hb, hc⟩ := h.2 (by omega)
 have hf : ∀ j, j < 3 → (atts l)[k * 3 + j]? = (attCells x)[j]? := fun j hj => by
  unfold atts;rw [fm_at att_len l k hk j hj, he]
 refine ⟨b, off, hA, hb, ?_⟩
 constructor
 ·have := hc (k * 3 + 0) _ (hf 0 (by omega)); simpa using this
 ·have := hc (k * 3 + 1) _ (hf 1 (by omega)); rwa [← Nat.add_assoc] at this
 have := hc (k * 3 + 2) _ (hf 2 (by omega)); rwa [← Nat.add_assoc] at this
end
theorem EvL.of {B : Nat} {W : World} {A : Option Addr} {xs : List Ew} (h : Reads W W.heap.size 5 A xs.length (ews xs)) (hi : ∀ x ∈ xs, x.In B W) : EvL W W.heap.size A xs := ⟨h, fun x hx => (hi x hx).a⟩
def isOk {α β : Type} (r : Except α β) : Bool := match r with
 | .ok _ => true
 | .error _ => false

set_option maxHeartbeats 4000000 in
theorem well_any (s : ByteArray) (w : World) (hg : Gl w) (hw6 : 6 ≤ w.heap.size) (hs : s.size ≤ 100000) (hc : ∀ x, Sx.parse s.data.toList = .error x → x.2 ≠ 0) :
  Calls Tryz.prog 17 #[.string s] w fun e w' => e = .returned (.bool (isOk (Sx.parse s.data.toList))) ∧ Below w.heap.size w w' := by
 have HPa := hide (parse_any s w hg hw6 hs);obtain ⟨r, hr⟩ : ∃ r, Sx.parse s.data.toList = r := ⟨_, rfl⟩;rw [hr] at HPa hc ⊢;clear hr hg
 cases r with
 | error x =>
  have hx : ((x.2 : Int) == 0) = false := by rw [beq_eq_false_iff_ne]; have := hc x rfl; omega
  clear hc
  go_enter Tryz.func17, Tryz.ntmps17
  go_wp2_with fail
  refine HPa.out.mono ?_;rintro e w1 ⟨b1, rfl⟩;go_wp2;go_ret;exact ⟨rfl, b1⟩
 | ok evs =>
  clear hc
  go_enter Tryz.func17, Tryz.ntmps17
  go_wp2_with fail
  refine HPa.out.mono ?_;rintro e w1 ⟨b1, xs, A, c, -, rfl, -, -, -, -, -⟩;go_wp2;go_ret;exact ⟨rfl, b1⟩
def wkS1 : L := [60, 97, 32, 120, 61, 34, 49, 34, 62, 98, 60, 33, 45, 45, 99, 45, 45, 62, 100, 60, 47, 97, 62]
def wkS2 : L := [60, 97, 62, 60, 47, 98, 62]
theorem wkS1_is : Sx.parse wkS1 = .ok [⟨0, ⟨[], [97]⟩, [⟨⟨[], [120]⟩, [49]⟩], []⟩, ⟨2, noNm, [], [98, 100]⟩, ⟨1, ⟨[], [97]⟩, [], []⟩] := by kernel_rfl
theorem wkS2_is : Sx.parse wkS2 = .error (3, 50) := by kernel_rfl
theorem wkS1_cells {W : World} {A : Option Addr} {xs : List Ew} {B : Nat} (h : EvL W B A xs) (hx : xs.map (·.e) = [⟨0, ⟨[], [97]⟩, [⟨⟨[], [120]⟩, [49]⟩], []⟩, ⟨2, noNm, [], [98, 100]⟩, ⟨1, ⟨[], [97]⟩, [], []⟩]) :
  xs.length = 3 ∧ ∃ b off b' off' cc, A = some ⟨b, off, none⟩ ∧ b < B ∧ b' < B ∧ W.cell? ⟨b, off + 3, none⟩ = some (.slice (some ⟨b', off', none⟩) 1 cc) ∧ W.cell? ⟨b', off' + 2, none⟩ = some (.string ⟨#[49]⟩) ∧ W.cell? ⟨b, off + 5 + 4, none⟩ = some (.string ⟨#[98, 100]⟩) := by
 have hl := congrArg List.length hx;rw [List.length_map] at hl;have h0 : (xs[0]?).map (·.e) = some ⟨0, ⟨[], [97]⟩, [⟨⟨[], [120]⟩, [49]⟩], []⟩ := by rw [← List.getElem?_map, hx]; rfl
 have h1 : (xs[1]?).map (·.e) = some ⟨2, noNm, [], [98, 100]⟩ := by rw [← List.getElem?_map, hx]; rfl
 obtain ⟨x, hx0, e0⟩ := Option.map_eq_some_iff.1 h0;obtain ⟨y, hy0, e1⟩ := Option.map_eq_some_iff.1 h1;obtain ⟨b, off, rfl, hb, k0⟩ := h.at_ hx0;obtain ⟨b1, off1, e, hb1, k1⟩ := h.at_ hy0;cases e;have hs := h.sub x (List.mem_of_getElem? hx0);rw [e0] at hs;obtain ⟨b', off', eA, hb', g0⟩ := atts_at hs (k := 0) (x := ⟨⟨[], [120]⟩, [49]⟩) rfl;refine ⟨hl, b, off, b', off', x.c, rfl, hb, hb', ?_, ?_, ?_⟩
 ·have := k0.c3; rw [e0, eA, Nat.zero_mul, Nat.add_zero] at this; exact this
 ·have := g0.c2; rw [Nat.zero_mul, Nat.add_zero] at this; exact this
 have := k1.c4; rw [e1, Nat.one_mul] at this; exact this

set_option maxHeartbeats 8000000 in
theorem wakes15_any (w : World) (hg : Gl w) (hw6 : 6 ≤ w.heap.size) : Calls Tryz.prog 9 #[] w fun e w' => e = .returned (.bool true) ∧ Below w.heap.size w w' := by
 have HG := hide hg;have h1 := parse_any ⟨#[60, 97, 32, 120, 61, 34, 49, 34, 62, 98, 60, 33, 45, 45, 99, 45, 45, 62, 100, 60, 47, 97, 62]⟩ w hg hw6 (by decide);replace h1 : Calls _ _ _ _ (ParseR w (Sx.parse wkS1)) := h1;rw [wkS1_is] at h1;have H1 := hide h1;clear hg h1
 go_enter Tryz.func9, Tryz.ntmps9
 go_wp2_with fail
 refine H1.out.mono ?_;rintro e w1 ⟨b1, xs, A, c, hx, rfl, -, hr, -, -, hi⟩;have h2 := parse_any ⟨#[60, 97, 62, 60, 47, 98, 62]⟩ w1 (HG.out.below b1) (by have := b1.size; omega) (by decide);replace h2 : Calls _ _ _ _ (ParseR w1 (Sx.parse wkS2)) := h2;rw [wkS2_is] at h2;have H2 := hide h2;obtain ⟨hn, b, off, b', off', cc, rfl, hb, hb', q1, q2, q3⟩ := wkS1_cells (EvL.of hr hi) hx;have B1 := hide b1;rw [hn];clear hr hi hx b1 hn H1 h2
 go_wp2_with fail
 refine H2.out.mono ?_;rintro e w2 ⟨b2, rfl⟩;replace q1 := cell_go b2 q1;replace q2 := cell_go b2 q2;replace q3 := cell_go b2 q3;have B2 := hide (B1.out.trans (b2.mono B1.out.size));clear b2 B1 H2;go_wp2;go_ret;exact ⟨rfl, B2.out⟩
end
end Go.Proofs.YtbbpkcddifmieaaGreatDoor
