/- The program's 'Is', 'Len', 'Put'. And more. -/
import Derived.Test.YtnbmfljhbpfilaaGreatDoorOw00
import Derived.Test.YtnbmfljhbpfilaaGreatDoorOw01
import Derived.LoopN
import Derived.RangeFuncNested
import Derived.RangeFuncBound
import Derived.RangeFuncCalls
import Derived.RangeFuncLeaves
import Derived.RangeFuncBox
import Derived.Lib.AppendStr
import Derived.Shelf.Abstract
import Derived.Shelf.RegionOpen
import Derived.OwnWalkIn
import Derived.TacticsInMore
import Derived.LoopNIn
import Derived.LoopIn
set_option linter.unusedSimpArgs false
set_option maxRecDepth 100000
set_option maxHeartbeats 4000000
set_option linter.unusedVariables false
namespace Go.Proofs.YtnbmfljhbpfilaaGreatDoor
section
open Go.RowKit

theorem Vs(r:Int)(w:World):Calls Tryz.prog 163 #[.int .i64 r] w fun e w'=>e=.returned (.bool (Utf.isScalar r))∧w=w':=by
 by_cases h0:0≤r
 ·by_cases h1:r≤1114111
  ·by_cases h2:r<55296
   all_goals
    go_enter Tryz.func163,Tryz.ntmps163
    go_wp2;go_ret;exact⟨aO (ck (by rw[Bool.eq_iff_iff];simp[Utf.isScalar];omega)),rfl⟩
  go_enter Tryz.func163,Tryz.ntmps163
  go_wp2;go_ret;exact⟨aO (ck (by rw[Bool.eq_iff_iff];simp[Utf.isScalar];omega)),rfl⟩
 go_enter Tryz.func163,Tryz.ntmps163
 go_wp2;go_ret;exact⟨aO (ck (by rw[Bool.eq_iff_iff];simp[Utf.isScalar];omega)),rfl⟩

def lenOf(r:Int):Int:=if r<128 then 1 else if r<2048 then 2 else if r<65536 then 3 else 4

theorem agZ(r:Int)(w:World)(h:Utf.isScalar r=false):Calls Tryz.prog 131 #[.int .i64 r] w fun e w'=>e=.returned (.int .i64 0)∧w=w':=by
 have H:=hide h;clear h
 go_enter Tryz.func131,Tryz.ntmps131
 go_wp2_with (go_at_call 163;refine (Vs _ _).mono ?_;rintro e w' ⟨rfl,rfl⟩;rw[H.out])
 go_ret;exact⟨rfl,rfl⟩

theorem Fx(r:Int)(w:World)(h:Utf.isScalar r=true):Calls Tryz.prog 131 #[.int .i64 r] w fun e w'=>e=.returned (.int .i64 (lenOf r))∧Below w.heap.size w w':=by
 have h1:0≤r∧r≤1114111:=by simp[Utf.isScalar] at h;omega
 obtain⟨h1,h2⟩:=h1;have H:=hide h;clear h;have i0:∀w,(Instr.index 201 (.agg #[.int .i64 128,.int .i64 2048,.int .i64 65536,.int .i64 1114112]) (.int .i64 0)).run Tryz.prog w=.ok (.int .i64 128) w:=fun _=>by kernel_rfl
 have i1:∀w,(Instr.index 201 (.agg #[.int .i64 128,.int .i64 2048,.int .i64 65536,.int .i64 1114112]) (.int .i64 1)).run Tryz.prog w=.ok (.int .i64 2048) w:=fun _=>by kernel_rfl
 have i2:∀w,(Instr.index 201 (.agg #[.int .i64 128,.int .i64 2048,.int .i64 65536,.int .i64 1114112]) (.int .i64 2)).run Tryz.prog w=.ok (.int .i64 65536) w:=fun _=>by kernel_rfl
 have i3:∀w,(Instr.index 201 (.agg #[.int .i64 128,.int .i64 2048,.int .i64 65536,.int .i64 1114112]) (.int .i64 3)).run Tryz.prog w=.ok (.int .i64 1114112) w:=fun _=>by kernel_rfl
 go_enter Tryz.func131,Tryz.ntmps131
 go_wp2_with (go_at_call 163;refine (Vs _ _).mono ?_;rintro e w' ⟨rfl,rfl⟩;rw[H.out])
 refine wp_loop_rounds 4 ?_;rw[rounds_succ];go_wp2
 ·go_ret;exact⟨aO (int_eq (by unfold lenOf;rw[if_pos (by omega)])),(Below.refl _ _).alloc (Nat.le_refl _) _⟩
 rw[rounds_succ];go_wp2
 ·go_ret;exact⟨aO (int_eq (by unfold lenOf;rw[if_neg (by omega),if_pos (by omega)])),(Below.refl _ _).alloc (Nat.le_refl _) _⟩
 rw[rounds_succ];go_wp2
 ·go_ret;exact⟨aO (int_eq (by unfold lenOf;rw[if_neg (by omega),if_neg (by omega),if_pos (by omega)])),(Below.refl _ _).alloc (Nat.le_refl _) _⟩
 rw[rounds_succ];go_wp2;go_ret;exact⟨aO (int_eq (by unfold lenOf;rw[if_neg (by omega),if_neg (by omega),if_neg (by omega)])),(Below.refl _ _).alloc (Nat.le_refl _) _⟩

theorem Xd(r:Int)(w:World)(h:Utf.isScalar r=false):Calls Tryz.prog 95 #[.int .i64 r] w fun e w'=>e=.returned (.tuple #[.string ⟨#[]⟩,.bool false])∧w=w':=by
 go_enter Tryz.func95,Tryz.ntmps95
 have H:=hide h;clear h
 go_wp2_with (go_at_call 131;refine (agZ _ _ H.out).mono ?_;rintro e w' ⟨rfl,rfl⟩)
 go_ret2;exact⟨rfl,rfl⟩

theorem ai7(r:Int)(w:World)(h0:0≤r)(h1:r<128):Calls Tryz.prog 95 #[.int .i64 r] w fun e w'=>(∃t:ByteArray,e=.returned (.tuple #[.string t,.bool true])∧fT t ((Utf.put r).map bv))∧Below w.heap.size w w':=by
 have H:Hid (Utf.isScalar r=true):=by show Utf.isScalar r=true;simp[Utf.isScalar];omega
 have L:Hid (lenOf r=1):=by show lenOf r=1;unfold lenOf;rw[if_pos h1]
 go_enter Tryz.func95,Tryz.ntmps95
 go_wp2_with (first
  | (go_at_call 131;refine (Fx _ _ H.out).mono ?_;rintro e w1 ⟨rfl,hb⟩;rw[L.out])
  | (with_reducible show wpList _ _ _ (⟨_,.convert 58 9 _,_,_,_,_⟩ :: _) _ _;refine oK rfl 58 9 5 _ rfl Tryz.underlying58 Tryz.underlying5 Tryz.underlying9 w1.heap.size _ 1 rfl [bv r] (aid w1 _ r h0 (by omega)) ?_;intro t ht))
 go_ret2;exact⟨⟨t,rfl,by unfold Utf.put;rw[if_pos h1];exact ht⟩,hb.alloc hb.size _⟩

theorem amu(x y:Int)(k:Nat)(h0:0≤x)(hy:0≤y)(hk:y<2 ^ k)(hx:x*2 ^ k+y<256)(z:Int)(hz:z=x*2 ^ k):bits .or .u8 z y=z+y:=by
 subst hz;exact amt x y k h0 hy hk hx

theorem ai5(r:Int)(w:World)(h0:128≤r)(h1:Utf.isScalar r=true):Calls Tryz.prog 95 #[.int .i64 r] w fun e w'=>(∃t:ByteArray,e=.returned (.tuple #[.string t,.bool true])∧fT t ((Utf.put r).map bv))∧Below w.heap.size w w':=by
 have h2:r≤1114111:=by simp[Utf.isScalar] at h1;omega
 have H:=hide h1;clear h1
 go_enter Tryz.func95,Tryz.ntmps95
 by_cases ha:r<2048
 ·have L:Hid (lenOf r=2):=by show lenOf r=2;unfold lenOf;rw[if_neg (by omega),if_pos ha]
  have qN:∀w,(Instr.makeSlice 58 (.int .i64 2) (.int .i64 2)).run Tryz.prog w=.ok (.slice (some ⟨w.heap.size,0,none⟩) 2 2) (w.alloc (.cells #[.int .u8 0,.int .u8 0] 5)):=fun _=>by kernel_rfl
  have hor:bits .or .u8 192 (r / 64 % 256)=192+r / 64:=by rw[show r / 64 % 256=r / 64 from by omega];exact amu 6 _ 5 (by omega) (by omega) (by omega) (by omega) _ rfl
  go_wp2_with (first
   | (go_at_call 131;refine (Fx _ _ H.out).mono ?_;rintro e w1 ⟨rfl,hb⟩;rw[L.out]))
  refine wp_loop_rounds 2 ?_;rw[rounds_succ];go_wp2;rw[rounds_succ]
  go_wp2_with (with_reducible show wpList _ _ _ (⟨_,.convert 58 9 _,_,_,_,_⟩ :: _) _ _;refine oK rfl 58 9 5 _ rfl Tryz.underlying58 Tryz.underlying5 Tryz.underlying9 (w1.heap.size+1) _ 2 rfl _ (WA (w1.alloc _) _ _ _ (by simp) (Nat.le_refl _) (192+r / 64) (128+r % 64) (by omega) (by omega)) ?_;intro t ht)
  go_ret2;exact⟨⟨t,rfl,by unfold Utf.put;rw[if_neg (show ¬r<128 by omega),if_pos (show r<2048 by omega)];exact ht⟩,(hb.alloc hb.size _).alloc (by have:=hb.size;simp;omega) _⟩
 by_cases SX:r<65536
 ·have L:Hid (lenOf r=3):=by show lenOf r=3;unfold lenOf;rw[if_neg (by omega),if_neg ha,if_pos SX]
  have qN:∀w,(Instr.makeSlice 58 (.int .i64 3) (.int .i64 3)).run Tryz.prog w=.ok (.slice (some ⟨w.heap.size,0,none⟩) 3 3) (w.alloc (.cells #[.int .u8 0,.int .u8 0,.int .u8 0] 5)):=fun _=>by kernel_rfl
  go_wp2_with (first
   | (go_at_call 131;refine (Fx _ _ H.out).mono ?_;rintro e w1 ⟨rfl,hb⟩;rw[L.out]))
  refine wp_loop_rounds 3 ?_;rw[rounds_succ];go_wp2;rw[rounds_succ];go_wp2;rw[rounds_succ]
  go_wp2_with (with_reducible show wpList _ _ _ (⟨_,.convert 58 9 _,_,_,_,_⟩ :: _) _ _;refine oK rfl 58 9 5 _ rfl Tryz.underlying58 Tryz.underlying5 Tryz.underlying9 (w1.heap.size+1) _ 3 rfl _ (WB (w1.alloc _) _ _ _ (by simp) (Nat.le_refl _) (224+r / 64 / 64) (128+r / 64 % 64) (128+r % 64) (by omega) (by omega) (by omega)) ?_;intro t ht)
  go_ret2;exact⟨⟨t,rfl,by unfold Utf.put;rw[if_neg (show ¬r<128 by omega),if_neg (show ¬r<2048 by omega),if_pos (show r<65536 by omega)];exact ht⟩,(hb.alloc hb.size _).alloc (by have:=hb.size;simp;omega) _⟩
 have L:Hid (lenOf r=4):=by show lenOf r=4;unfold lenOf;rw[if_neg (by omega),if_neg ha,if_neg SX]
 have qN:∀w,(Instr.makeSlice 58 (.int .i64 4) (.int .i64 4)).run Tryz.prog w=.ok (.slice (some ⟨w.heap.size,0,none⟩) 4 4) (w.alloc (.cells #[.int .u8 0,.int .u8 0,.int .u8 0,.int .u8 0] 5)):=fun _=>by kernel_rfl
 go_wp2_with (first
  | (go_at_call 131;refine (Fx _ _ H.out).mono ?_;rintro e w1 ⟨rfl,hb⟩;rw[L.out]))
 refine wp_loop_rounds 4 ?_;rw[rounds_succ];go_wp2;rw[rounds_succ];go_wp2;rw[rounds_succ];go_wp2;rw[rounds_succ]
 go_wp2_with (with_reducible show wpList _ _ _ (⟨_,.convert 58 9 _,_,_,_,_⟩ :: _) _ _;refine oK rfl 58 9 5 _ rfl Tryz.underlying58 Tryz.underlying5 Tryz.underlying9 (w1.heap.size+1) _ 4 rfl _ (WC (w1.alloc _) _ _ _ (by simp) (Nat.le_refl _) (240+r / 64 / 64 / 64) (128+r / 64 / 64 % 64) (128+r / 64 % 64) (128+r % 64) (by omega) (by omega) (by omega) (by omega)) ?_;intro t ht)
 go_ret2;exact⟨⟨t,rfl,by unfold Utf.put;rw[if_neg (show ¬r<128 by omega),if_neg (show ¬r<2048 by omega),if_neg (show ¬r<65536 by omega)];exact ht⟩,(hb.alloc hb.size _).alloc (by have:=hb.size;simp;omega) _⟩

theorem ML(r:Int)(w:World)(h:Utf.isScalar r=true):Calls Tryz.prog 95 #[.int .i64 r] w fun e w'=>(∃t:ByteArray,e=.returned (.tuple #[.string t,.bool true])∧fT t ((Utf.put r).map bv))∧Below w.heap.size w w':=by
 have h2:0≤r:=by simp[Utf.isScalar] at h;omega
 by_cases h1:r<128
 ·exact ai7 r w h2 h1
 exact ai5 r w (by omega) h

theorem yI(r:Int):(Utf.put r).length≤4:=by
 unfold Utf.put;split
 ·simp
 split
 ·simp
 split<;>simp
end
section
open Go.RowKit Go.Shelf

attribute [local go_sem] Oper.semAt_some

abbrev Pc:={ x:Nat×Int // x.2<0∨Utf.isScalar x.2=true }
theorem WR(s:ByteArray)(k:Nat):(Utf.piece (s.data.toList.drop k)).1<0∨Utf.isScalar (Utf.piece (s.data.toList.drop k)).1=true:=by
 rcases Int.lt_or_le (Utf.piece (s.data.toList.drop k)).1 0 with h|h
 ·exact .inl h
 exact .inr (Utf.aiR _ h)

def eP(B:Nat)(W W':World):Prop:=W'.heap[B]?=W.heap[B]?
theorem eP.trans{B:Nat}{X Y Z:World}(h:eP B X Y)(k:eP B Y Z):eP B X Z:=Eq.trans k h
theorem eP.cell{B:Nat}{W W':World}(h:eP B W W'){i:Nat}{v:Value}(hc:W.cell? ⟨B,i,none⟩=some v):W'.cell? ⟨B,i,none⟩=some v :=
 (World.cell?_of_block (w:=W) (w':=W') (a:=⟨B,i,none⟩) h).trans hc
theorem Ck{w:World}{B:Nat}(hB:B<w.heap.size)(W:World)(l:Nat)(o o':Obj)(hl:w.heap.size≤l)(_:W.heap[l]?=some o)(_:o.isCells=false)(_:o.isWalk=false):eP B W (W.putObj l o') :=
 World.putObj_heap_other (by omega)

theorem FP(s:ByteArray)(k:Nat)(h:k<s.size):1≤(Utf.piece (s.data.toList.drop k)).2∧(Utf.piece (s.data.toList.drop k)).2≤4∧(Utf.piece (s.data.toList.drop k)).2≤((s.size-k:Nat):Int):=by
 have:=Utf.rC s[k] (s.data.toList.drop (k+1));rw[←drop_at s k h] at this
 simpa using this

theorem Eb(s:ByteArray)(k:Nat)(h:k<s.size) :
  Utf.from_ k (s.data.toList.drop k)=(k,(Utf.piece (s.data.toList.drop k)).1) :: Utf.from_ (k+(Utf.piece (s.data.toList.drop k)).2.toNat) (s.data.toList.drop (k+(Utf.piece (s.data.toList.drop k)).2.toNat)):=by
 rw[drop_at s k h,Utf.sH,←drop_at s k h,List.drop_drop]

theorem aiS(n:Nat)(hn:1≤n)(l Bs:Nat)(s:ByteArray)(hs:s.size≤1000000000)
  (J Jx:List Pc→World→Prop)
  (hY:∀pre x W,J pre W→pre.length<s.size→YieldAt Fence.wide (n-1) Tryz.prog l #[.int .i64 (x.1.1:Int),.int .i64 x.1.2] W fun e W'=>
   (e=.returned (.bool true)∧J (pre++[x]) W'∧eP Bs W W')∨(e=.returned (.bool false)∧Jx (pre++[x]) W'))
  (W:World) (mh:W.cell? ⟨Bs,0,none⟩=some (.string s)) (h0:J [] W) :
  CallsIn Fence.wide n Tryz.prog 150 #[.func (.yield l) #[] #[],.pointer (some ⟨Bs,0,none⟩)] W fun e W'=>(∃v,e=.returned v)∧
   ((∃ys:List Pc,ys.map (·.1)=Utf.pieces s.data.toList∧J ys W')∨(∃pre:List Pc,(∃rest,pre.map (·.1)++rest=Utf.pieces s.data.toList)∧Jx pre W')):=by
 refine callsIn_of_wp Tryz.func150 rfl trivial ?_ rfl;simp only[Tryz.ntmps150,List.size_toArray,List.length_cons,List.length_nil,Nat.reduceAdd,Nat.reduceSub,Array.replicate_succ,Array.replicate_zero,List.push_toArray,List.append_toArray,List.nil_append,List.cons_append];obtain⟨all,hall⟩:∃all,Utf.pieces s.data.toList=all:=⟨_,rfl⟩;rw[hall];have lX:=hide hall;clear hall;gi_wp2
 gi_loopw [3] (fun i wr=>∃(k:Nat) (pre:List Pc),k≤s.size∧i=.int .i64 k∧pre.length≤k∧pre.map (·.1)++Utf.from_ k (s.data.toList.drop k)=all∧J pre wr∧eP Bs W wr)
  (fun i _=>s.size-(intOf i).toNat)
 case atStart=>exact⟨0,[],Nat.zero_le _,rfl,Nat.le_refl _,by rw[←lX.out];rfl,h0,rfl⟩
 case round=>
  obtain⟨k,pre,hk,rfl,hpl,jl,ja,bB⟩:=hrel;have cJ:=hide jl;clear jl;have vg:wr.cell? ⟨Bs,0,none⟩=some (.string s):=bB.cell mh
  by_cases hlt:k<s.size
  ·have fu:=Eb s k hlt;have hp:=FP s k hlt;have s9:=WR s k;have HP:=hide (WN s k wr (by omega) (by omega) hs);rw[Int.toNat_natCast] at HP;obtain⟨f,hf⟩:∃f,Utf.piece (s.data.toList.drop k)=f:=⟨_,rfl⟩;rw[hf] at hp fu HP s9;have qd:=hide fu;clear hf fu;obtain⟨fn,tmps,assign,body,hy,hR⟩:=hY pre ⟨(k,f.1),s9⟩ wr ja (by omega);dsimp only at hy
   gi_wp2_with (refine⟨trivial,?_⟩;gi_at_call 113;refine (callsIn_wide.2 HP.out).mono ?_;rintro e w' ⟨rfl,rfl⟩;unfold BR)
   refine hR.mono ?_;rintro e W3 (⟨rfl,bV,aH⟩|⟨rfl,gV⟩)
   ·gi_wp2
    go_roundw
    case rel=>exact⟨k+f.2.toNat,pre++[⟨(k,f.1),s9⟩],by omega,int_eq (by omega),by simp;omega,by rw[←cJ.out,qd.out];simp,bV,bB.trans aH⟩
    case measure=>simp[intOf];omega
   gi_wp2;refine bodyPost_ret (results_none rfl _ _ _) rfl ?_;exact⟨⟨_,rfl⟩,.inr ⟨_,⟨_,by rw[←cJ.out,qd.out,List.map_append,List.append_assoc];rfl⟩,gV⟩⟩
  gi_wp2;go_end0;exact⟨⟨_,rfl⟩,.inl ⟨pre,by rw[←cJ.out,List.drop_of_length_le (by simp;omega)];simp[Utf.qC],ja⟩⟩

theorem WW(s:ByteArray)(w:World) :
  Calls Tryz.prog 114 #[.string s] w fun e w'=>e=.returned (.func (.func 150) #[] #[.pointer (some ⟨w.heap.size,0,none⟩)])∧w'=w.alloc (.cells #[.string s] 9):=by
 go_enter Tryz.func114,Tryz.ntmps114
 go_wp2;go_ret;exact⟨rfl,rfl⟩

theorem WZ(n:Nat)(hn:1≤n)(Bs:Nat)(s:ByteArray)(hs:s.size≤1000000000)(w:World)(mh:Bs<w.heap.size)(hc:w.cell? ⟨Bs,0,none⟩=some (.string s)) :
  SeqStopsK Fence.wide n Tryz.prog 150 #[.pointer (some ⟨Bs,0,none⟩)] (fun x:Pc=>#[Value.int .i64 (x.1.1:Int),Value.int .i64 x.1.2]) (eP Bs) (fun ys=>ys.map (·.1)=Utf.pieces s.data.toList)
   (fun pre=>∃rest,pre.map (·.1)++rest=Utf.pieces s.data.toList) s.size w:=fun l J Jx W hW _ _ hY h0=>
 aiS n hn l Bs s hs J Jx hY W ((hW.cell (p:=⟨Bs,0,none⟩) mh).trans hc) h0
end
section
open Go.RowKit Go.Shelf Tk

attribute [local go_sem] Oper.semAt_some

def yv(f:Int×Int):Value:=if f.1<0 then .tuple #[.int .i64 0,.int .i64 0,.bool false] else .tuple #[.int .i64 f.1,.int .i64 f.2,.bool true]
theorem aiW(s:ByteArray)(k:Nat)(w:World)(h1:k<s.size)(hs:s.size≤1000000000) :
  Calls Tryz.prog 82 #[.string s,.int .i64 (k:Int)] w fun e w'=>e=.returned (yv (Utf.piece (s.data.toList.drop k)))∧w'=w:=by
 have HP:=hide (WN s k w (by omega) (by omega) hs);rw[Int.toNat_natCast] at HP;have hp:=FP s k h1;generalize Utf.piece (s.data.toList.drop k)=f at *
 unfold yv
 by_cases hf:f.1<0
 ·go_enter Tryz.func82,Tryz.ntmps82
  go_wp2_with (go_at_call 113;refine HP.out.mono ?_;rintro e w' ⟨rfl,rfl⟩;unfold BR)
  go_ret3;simp[hf]
 go_enter Tryz.func82,Tryz.ntmps82
 go_wp2_with (go_at_call 113;refine HP.out.mono ?_;rintro e w' ⟨rfl,rfl⟩;unfold BR)
 go_ret3;simp[hf]
namespace Tk
def upTo:List (Nat×Int)→List (Nat×Int)
 | []=>[]
 | p :: l=>if p.2<0 then [p] else p :: upTo l
end Tk
theorem acE:∀(l:List UInt8) (k:Nat) (r n lo hi:Int),0≤r→(Utf.cont l k r n lo hi).1<0→(Utf.cont l k r n lo hi).1 = -1:=fun l k r n lo hi hr h=>by
 rcases Utf.JA l k r n lo hi hr with h1|⟨h1,-⟩<;>omega
theorem aiP(l:List UInt8)(h:(Utf.piece l).1<0):(Utf.piece l).1 = -1:=by
 cases l with
 | nil=>rfl
 | cons c l=>
  rw[Utf.rA] at h ⊢;split
  ·rfl
  rename_i hc
  rw[if_neg hc] at h;refine acE _ _ _ _ _ _ ?_ h;have:=Utf.uN c.toNat (by omega) (by have:=Utf.iA c;omega);omega

theorem akB(n:Nat)(hn:1≤n)(l Bs:Nat)(s:ByteArray)(hs:s.size≤1000000000)
  (J Jx:List (Nat×Int)→World→Prop)
  (hY:∀pre x W,J pre W→pre.length<s.size→YieldAt Fence.wide (n-1) Tryz.prog l #[.int .i64 (x.1:Int),.int .i64 x.2] W fun e W'=>
   (e=.returned (.bool true)∧J (pre++[x]) W'∧eP Bs W W')∨(e=.returned (.bool false)∧Jx (pre++[x]) W'))
  (W:World) (mh:W.cell? ⟨Bs,0,none⟩=some (.string s)) (h0:J [] W) :
  CallsIn Fence.wide n Tryz.prog 81 #[.func (.yield l) #[] #[],.pointer (some ⟨Bs,0,none⟩)] W fun e W'=>(∃v,e=.returned v)∧
   ((∃ys:List (Nat×Int),ys=upTo (Utf.pieces s.data.toList)∧J ys W')∨(∃pre:List (Nat×Int),(∃rest,pre++rest=upTo (Utf.pieces s.data.toList))∧Jx pre W')):=by
 refine callsIn_of_wp Tryz.func81 rfl trivial ?_ rfl;simp only[Tryz.ntmps81,List.size_toArray,List.length_cons,List.length_nil,Nat.reduceAdd,Nat.reduceSub,Array.replicate_succ,Array.replicate_zero,List.push_toArray,List.append_toArray,List.nil_append,List.cons_append];obtain⟨all,hall⟩:∃all,upTo (Utf.pieces s.data.toList)=all:=⟨_,rfl⟩;rw[hall];have lX:=hide hall;clear hall;gi_wp2
 gi_loopw [3] (fun i wr=>∃(k:Nat) (pre:List (Nat×Int)),k≤s.size∧i=.int .i64 k∧pre.length≤k∧pre++upTo (Utf.from_ k (s.data.toList.drop k))=all∧J pre wr∧eP Bs W wr)
  (fun i _=>s.size-(intOf i).toNat)
 case atStart=>exact⟨0,[],Nat.zero_le _,rfl,Nat.le_refl _,by rw[←lX.out];rfl,h0,rfl⟩
 case round=>
  obtain⟨k,pre,hk,rfl,hpl,jl,ja,bB⟩:=hrel;have cJ:=hide jl;clear jl;have vg:wr.cell? ⟨Bs,0,none⟩=some (.string s):=bB.cell mh
  by_cases hlt:k<s.size
  ·have fu:=Eb s k hlt;have hp:=FP s k hlt;have fA:=aiP (s.data.toList.drop k);have HP:=hide (aiW s k wr hlt hs);obtain⟨f,hf⟩:∃f,Utf.piece (s.data.toList.drop k)=f:=⟨_,rfl⟩;rw[hf] at hp fu HP fA;have qd:=hide fu;clear hf fu
   by_cases dX:f.1<0
   ·have hv:yv f=.tuple #[.int .i64 0,.int .i64 0,.bool false]:=by unfold yv;rw[if_pos dX]
    rw[hv] at HP;have ly:=fA dX;have zG:=hide (show upTo (Utf.from_ k (s.data.toList.drop k))=[(k,-1)] by rw[qd.out];unfold upTo;rw[if_pos dX,ly]);clear fA hv dX ly qd hp;obtain⟨fn,tmps,assign,body,hy,hR⟩:=hY pre (k,-1) wr ja (by omega);dsimp only at hy
    gi_wp2_with (refine⟨trivial,?_⟩;gi_at_call 82;refine (callsIn_wide.2 HP.out).mono ?_;rintro e w' ⟨rfl,rfl⟩)
    refine hR.mono ?_;rintro e W3 (⟨rfl,bV,aH⟩|⟨rfl,gV⟩)
    ·gi_wp2;refine bodyPost_ret (results_none rfl _ _ _) rfl ?_;exact⟨⟨_,rfl⟩,.inl ⟨_,by rw[←cJ.out,zG.out],bV⟩⟩
    gi_wp2;refine bodyPost_ret (results_none rfl _ _ _) rfl ?_;exact⟨⟨_,rfl⟩,.inr ⟨_,⟨[],by rw[←cJ.out,zG.out,List.append_nil]⟩,gV⟩⟩
   have hv:yv f=.tuple #[.int .i64 f.1,.int .i64 f.2,.bool true]:=by unfold yv;rw[if_neg dX]
   rw[hv] at HP;have zG:=hide (show upTo (Utf.from_ k (s.data.toList.drop k))=(k,f.1) :: upTo (Utf.from_ (k+f.2.toNat) (s.data.toList.drop (k+f.2.toNat))) by rw[qd.out];conv=>lhs;unfold upTo;rw[if_neg dX]);clear fA hv dX qd;obtain⟨fn,tmps,assign,body,hy,hR⟩:=hY pre (k,f.1) wr ja (by omega);dsimp only at hy
   gi_wp2_with (refine⟨trivial,?_⟩;gi_at_call 82;refine (callsIn_wide.2 HP.out).mono ?_;rintro e w' ⟨rfl,rfl⟩)
   refine hR.mono ?_;rintro e W3 (⟨rfl,bV,aH⟩|⟨rfl,gV⟩)
   ·gi_wp2
    go_roundw
    case rel=>exact⟨k+f.2.toNat,pre++[(k,f.1)],by omega,int_eq (by omega),by simp;omega,by rw[←cJ.out,zG.out];simp,bV,bB.trans aH⟩
    case measure=>simp[intOf];omega
   gi_wp2;refine bodyPost_ret (results_none rfl _ _ _) rfl ?_;exact⟨⟨_,rfl⟩,.inr ⟨_,⟨_,by rw[←cJ.out,zG.out,List.append_assoc];rfl⟩,gV⟩⟩
  gi_wp2;go_end0;exact⟨⟨_,rfl⟩,.inl ⟨pre,by rw[←cJ.out,List.drop_of_length_le (by simp;omega)];simp[Utf.qC,upTo],ja⟩⟩

theorem Nc(s:ByteArray)(w:World) :
  Calls Tryz.prog 50 #[.string s] w fun e w'=>e=.returned (.func (.func 81) #[] #[.pointer (some ⟨w.heap.size,0,none⟩)])∧w'=w.alloc (.cells #[.string s] 9):=by
 go_enter Tryz.func50,Tryz.ntmps50
 go_wp2;go_ret;exact⟨rfl,rfl⟩

theorem Nd(n:Nat)(hn:1≤n)(Bs:Nat)(s:ByteArray)(hs:s.size≤1000000000)(w:World)(mh:Bs<w.heap.size)(hc:w.cell? ⟨Bs,0,none⟩=some (.string s)) :
  SeqStopsK Fence.wide n Tryz.prog 81 #[.pointer (some ⟨Bs,0,none⟩)] (fun x:Nat×Int=>#[Value.int .i64 (x.1:Int),Value.int .i64 x.2]) (eP Bs) (fun ys=>ys=upTo (Utf.pieces s.data.toList))
   (fun pre=>∃rest,pre++rest=upTo (Utf.pieces s.data.toList)) s.size w:=fun l J Jx W hW _ _ hY h0=>
 akB n hn l Bs s hs J Jx hY W ((hW.cell (p:=⟨Bs,0,none⟩) mh).trans hc) h0
end
section
open Go.RowKit Tk

def rE(l:List (Int×Int)):List Value:=l.flatMap fun p=>[.int .i64 p.1,.int .i64 p.2]
theorem ajT(l:List (Int×Int)):(rE l).length=l.length*2:=by
 induction l with
 | nil=>rfl
 | cons p l ih=>unfold rE at ih ⊢;rw[List.flatMap_cons,List.length_append,ih];simp;omega
theorem MQ:∀(l:List (Int×Int)) (k:Nat) (h:k<l.length),(rE l)[k*2]?=some (.int .i64 l[k].1)∧(rE l)[k*2+1]?=some (.int .i64 l[k].2)
 | p :: l,0,_=>⟨rfl,rfl⟩
 | p :: l,k+1,h=>by
  have ih:=MQ l k (by simpa using h);have e:rE (p :: l)=.int .i64 p.1 :: .int .i64 p.2 :: rE l:=rfl;rw[e,show (k+1)*2=k*2+2 by omega]
  simpa using ih
theorem acd{w:World}{g t n s:Nat}{xs:List Value}(h:ae w g t xs.toArray)(hl:xs.length=n*s):Reads w w.heap.size s (some ⟨g,0,none⟩) n xs :=
 ⟨hl,fun _=>⟨g,0,rfl,h.lt,fun j u hj=>by rw[Nat.zero_add,h.cell j];simpa using hj⟩⟩
def kv(l:List (Int×Int))(r:Int):Bool:=l.any fun p=>within r p.1 p.2

theorem amY(r:Int)(A:Option Addr)(c:Nat)(l:List (Int×Int))(w:World)(hA:Reads w w.heap.size 2 A l.length (rE l))(hl:l.length≤1000) :
  Calls Tryz.prog 83 #[.int .i64 r,.slice A l.length c] w fun e w'=>e=.returned (.bool (kv l r))∧Below w.heap.size w w':=by
 obtain⟨n,hn⟩:∃n,l.length=n:=⟨_,rfl⟩;have HA:=hide hA;rw[hn] at ⊢ hl;have Hn:=hide hn;clear hn hA
 go_enter Tryz.func83,Tryz.ntmps83
 go_wp2
 go_loopg [9] n (fun g v wr=>∃k:Nat,g=n-k∧k≤n∧v=.int .i64 k∧kv l r=kv (l.drop k) r∧Below w.heap.size w wr)
 case atStart=>exact⟨0,rfl,by omega,rfl,rfl,Below.refl _ _⟩
 case round=>
  obtain⟨k,hg,hk,rfl,cd,hb⟩:=hrel;have Hg:=hide hg;have CZ:=hide cd;have Hb:=hide hb;clear hg cd hb
  by_cases hlt:k<n
  ·have h1:k<l.length:=by rw[Hn.out];exact hlt
   obtain⟨b,off,rfl,bt,hc⟩:=(HA.out.below Hb.out).2 (by omega);obtain⟨p,hp⟩:∃p,l[k]=p:=⟨_,rfl⟩;have c0:=hc _ _ (MQ l k h1).1;have c1:=hc _ _ (MQ l k h1).2;rw[←Nat.add_assoc] at c1;rw[hp] at c0 c1;have Hd:=hide (show l.drop k=p :: l.drop (k+1) by rw[←hp];exact List.drop_eq_getElem_cons h1);clear hc hp;obtain⟨p1,p2⟩:=p;dsimp only at c0 c1
   by_cases ha:p1≤r
   ·by_cases af:r≤p2
    ·go_wp2;go_ret;refine⟨aO (ck ?_),?_⟩
     ·rw[CZ.out,Hd.out];simp[kv,within,ha,af]
     exact Hb.out.alloc Hb.out.size _
    go_wp2
    go_roundg (n-(k+1))
    case measure=>have:=Hg.out;omega
    case rel=>exact⟨k+1,rfl,by omega,by go_num,by rw[CZ.out,Hd.out];show (within r p1 p2||kv _ r)=_;rw[show within r p1 p2=false by unfold within;rw[decide_eq_false (Int.not_le.2 af),Bool.and_false],Bool.false_or],Hb.out.alloc Hb.out.size _⟩
   go_wp2
   go_roundg (n-(k+1))
   case measure=>have:=Hg.out;omega
   case rel=>exact⟨k+1,rfl,by omega,by go_num,by rw[CZ.out,Hd.out];show (within r p1 p2||kv _ r)=_;rw[show within r p1 p2=false by unfold within;rw[decide_eq_false (Int.not_le.2 ha),Bool.false_and],Bool.false_or],Hb.out.alloc Hb.out.size _⟩
  go_wp2;go_ret;refine⟨aO (ck ?_),Hb.out⟩;rw[CZ.out,List.drop_of_length_le (by rw[Hn.out];omega)];rfl
def JR:List (Int×Int):=[(97,122),(65,90),(95,95),(192,214),(216,246),(248,767),(880,893),(895,8191),(8204,8205),(8304,8591),(11264,12271),(12289,55295),(63744,64975),(65008,65533),(65536,983039)]
def z7:List (Int×Int):=[(45,46),(48,57),(183,183),(768,879),(8255,8256)]
def Jw:List (Int×Int):=[(9,10),(13,13),(32,55295),(57344,65533),(65536,1114111)]
theorem adY(r:Int):kv JR r=iC r:=by
 unfold kv JR iC;simp only[List.any_cons,List.any_nil,Bool.or_false,Bool.or_assoc]
theorem acr(r:Int):kv Jw r=bI r:=by
 unfold kv Jw bI;simp only[List.any_cons,List.any_nil,Bool.or_false,Bool.or_assoc]
theorem aeh(r:Int):(iC r||kv z7 r)=j5 r:=by
 unfold kv z7 j5;simp only[List.any_cons,List.any_nil,Bool.or_false,Bool.or_assoc]
theorem Oh(r:Int)(l:List (Int×Int))(hl:l.length≤1000)(w W:World)(g:Nat)(hw:W=w.alloc (.cells (rE l).toArray 134))(hg:g=w.heap.size) :
  Calls Tryz.prog 83 #[.int .i64 r,.slice (some ⟨g,0,none⟩) l.length l.length] W fun e w'=>e=.returned (.bool (kv l r))∧Below w.heap.size w w':=by
 subst hw hg;have hk:=ae.new w 134 (rE l).toArray;refine (amY r _ _ l _ (acd hk (ajT l)) hl).mono ?_;rintro e w' ⟨rfl,hb⟩;exact⟨rfl,(az w _).trans (hb.mono (by simp))⟩
theorem JS(r:Int)(w:World):Calls Tryz.prog 186 #[.int .i64 r] w fun e w'=>e=.returned (.bool (iC r))∧Below w.heap.size w w':=by
 have HW:=hide (show Calls Tryz.prog 83 #[.int .i64 r,.slice (some ⟨w.heap.size,0,none⟩) 15 15] (w.alloc (.cells #[.int .i64 97,.int .i64 122,.int .i64 65,.int .i64 90,.int .i64 95,.int .i64 95,.int .i64 192,.int .i64 214,.int .i64 216,.int .i64 246,.int .i64 248,.int .i64 767,.int .i64 880,.int .i64 893,.int .i64 895,.int .i64 8191,.int .i64 8204,.int .i64 8205,.int .i64 8304,.int .i64 8591,.int .i64 11264,.int .i64 12271,.int .i64 12289,.int .i64 55295,.int .i64 63744,.int .i64 64975,.int .i64 65008,.int .i64 65533,.int .i64 65536,.int .i64 983039] 134)) fun e w'=>e=.returned (.bool (iC r))∧Below w.heap.size w w' from by
  rw[←adY];exact Oh r JR (by decide) w _ _ rfl rfl)
 generalize iC r=b at *
 go_enter Tryz.func186,Tryz.ntmps186
 go_wp2_with (go_at_call 83;refine HW.out.mono ?_;rintro e w' ⟨rfl,hb⟩)
 go_ret;exact⟨rfl,by assumption⟩
theorem Jy(r:Int)(w:World):Calls Tryz.prog 51 #[.int .i64 r] w fun e w'=>e=.returned (.bool (bI r))∧Below w.heap.size w w':=by
 have HW:=hide (show Calls Tryz.prog 83 #[.int .i64 r,.slice (some ⟨w.heap.size,0,none⟩) 5 5] (w.alloc (.cells #[.int .i64 9,.int .i64 10,.int .i64 13,.int .i64 13,.int .i64 32,.int .i64 55295,.int .i64 57344,.int .i64 65533,.int .i64 65536,.int .i64 1114111] 134)) fun e w'=>e=.returned (.bool (bI r))∧Below w.heap.size w w' from by
  rw[←acr];exact Oh r Jw (by decide) w _ _ rfl rfl)
 generalize bI r=b at *
 go_enter Tryz.func51,Tryz.ntmps51
 go_wp2_with (go_at_call 83;refine HW.out.mono ?_;rintro e w' ⟨rfl,hb⟩)
 go_ret;exact⟨rfl,by assumption⟩
theorem SM(r:Int)(w:World):Calls Tryz.prog 160 #[.int .i64 r] w fun e w'=>e=.returned (.bool (j5 r))∧Below w.heap.size w w':=by
 have HF:=hide (JS r)
 have HW:=hide fun (W:World)=>(show Calls Tryz.prog 83 #[.int .i64 r,.slice (some ⟨W.heap.size,0,none⟩) 5 5] (W.alloc (.cells #[.int .i64 45,.int .i64 46,.int .i64 48,.int .i64 57,.int .i64 183,.int .i64 183,.int .i64 768,.int .i64 879,.int .i64 8255,.int .i64 8256] 134)) fun e w'=>e=.returned (.bool (kv z7 r))∧Below W.heap.size W w' from
  Oh r z7 (by decide) W _ _ rfl rfl)
 have HE:=hide (aeh r);generalize j5 r=c at *
 generalize kv z7 r=d at *
 generalize iC r=b at *
 cases b with
 | true=>
  go_enter Tryz.func160,Tryz.ntmps160
  go_wp2_with (go_at_call 186;refine (HF.out _).mono ?_;rintro e w' ⟨rfl,hb⟩)
  go_ret;exact⟨aO (ck (by rw[←HE.out];rfl)),by assumption⟩
 | false=>
  go_enter Tryz.func160,Tryz.ntmps160
  go_wp2_with fail
  refine (HF.out _).mono ?_;rintro e w1 ⟨rfl,hb⟩
  go_wp2_with fail
  refine (HW.out _).mono ?_;rintro e w2 ⟨rfl,af⟩;go_wp2;go_ret;exact⟨aO (ck (by rw[←HE.out];rfl)),hb.trans (af.mono hb.size)⟩
theorem alV(r:Int)(w:World):Calls Tryz.prog 182 #[.int .i64 r] w fun e w'=>e=.returned (.bool (j5 r||decide (r=58)))∧Below w.heap.size w w':=by
 have HF:=hide (SM r);generalize j5 r=b at *
 by_cases hr:r=58
 ·subst hr
  go_enter Tryz.func182,Tryz.ntmps182
  go_wp2;go_ret;exact⟨aO (ck (by simp)),Below.refl _ _⟩
 have hd:(r==58)=false:=by rw[beq_eq_false_iff_ne];exact hr
 have Hd:=hide (show decide (r=58)=false by simpa using hr);rw[Hd.out];clear hr Hd
 go_enter Tryz.func182,Tryz.ntmps182
 go_wp2_with (go_at_call 160;refine (HF.out _).mono ?_;rintro e w' ⟨rfl,hb⟩)
 go_ret;exact⟨aO (ck (by simp)),by assumption⟩
end
section
open Go.RowKit

theorem rq{w:World}{base e size n:Nat}{v:Value}{xs:List Value}(h:w.ownsRow base e size v n xs):∃A c,v=.slice A n c:=by
 rcases h.2 with ⟨rfl,rfl⟩|⟨g,cap,cur,rfl,_⟩
 ·exact⟨_,_,rfl⟩
 exact⟨_,_,rfl⟩

theorem alC{t:ByteArray}{l:List UInt8}(h:fT t l):Lib.strCells t=cm l:=by
 unfold fT at h;rw[←h];rfl

theorem Xw{P:Program}(w:World)(base:Nat)(t u ty e:TypeId)(ht:P.underlying t=some (.slice e))(hu:P.underlying u=some .string)
  (fw:(P.info? e).map (fun i=>(i.zero,i.size,i.bytes))=some (some (.int .u8 0),1,1))
  (v:Value) (n:Nat) (l:List UInt8) (hown:w.ownsRow base e 1 v n (cm l)) (s:ByteArray) (m:List UInt8) (hm:fT s m)
  (hbytes:n+m.length≤140737488355328) (hbase:base≤w.heap.size) :
  ∃A c w',(Builtin.append_ #[t,u] ty #[v,.string s]).run P w=.ok (.slice A (n+m.length) c) w'∧w'.ownsRow base e 1 (.slice A (n+m.length) c) (n+m.length) (cm (l++m))∧w.grownBy w' v.ownBlock:=by
 obtain⟨i,hi,hz,hsize,hby⟩:=info_parts fw;have hsz:=hm.size;obtain⟨v',w',hr,h2,h3,_⟩:=Lib.run_append_own_string (P:=P) w base t u ty e i ht hu hi hz hsize hby v n (cm l) hown s (by unfold maxLen;omega) (by omega) hbase;rw[alC hm,hsz,←Jq] at h2;obtain⟨A,c,rfl⟩:=rq h2;exact⟨A,c,w',hr,h2,h3⟩

theorem YT{P:Program}(w:World){ops:Array Oper}{rest:List Oper}{o:Oper}{a:Act}{Q:Exit→Act→World→Prop}(hgd:o.guard=none)(sl x:Operand)(t u:TypeId)
  (ho:o.op=.call { callee:=.builtin .append,args:=#[sl,x],argTypes:=#[t,u] })
  (base:Nat) (e:TypeId) (ht:P.underlying t=some (.slice e)) (hu:P.underlying u=some .string) (fw:(P.info? e).map (fun i=>(i.zero,i.size,i.bytes))=some (some (.int .u8 0),1,1))
  (v:Value) (n:Nat) (l:List UInt8) (hs:a.eval sl=v) (hown:w.ownsRow base e 1 v n (cm l)) (s:ByteArray) (m:List UInt8) (hm:fT s m) (hx:a.eval x=.string s)
  (hbytes:n+m.length≤140737488355328) (hbase:base≤w.heap.size)
  (h:∀A c w',w'.ownsRow base e 1 (.slice A (n+m.length) c) (n+m.length) (cm (l++m))→w.grownBy w' v.ownBlock→wpList P ops Q rest (a.put o.dst (.slice A (n+m.length) c)) w'):wpList P ops Q (o :: rest) a w:=by
 refine wpList_plain hgd fun K hK=>?_;obtain⟨A,c,w',hr,h2,h3⟩:=Xw (P:=P) w base t u o.type e ht hu fw v n l hown s m hm hbytes hbase;unfold Oper.wp execOp;simp only[ho,resolve,invoke,builtin,Sem.run_bind,Sem.run_pure,Result.andThen_ok,List.map_toArray,List.map_cons,List.map_nil,hs,hx,hr];exact hK _ _ (h A c w' h2 h3)

theorem On{F:Fence}{N:Nat}{P:Program}(w:World){ops:Array Oper}{rest:List Oper}{o:Oper}{a:Act}{Q:Exit→Act→World→Prop}(hgd:o.guard=none)(sl x:Operand)(t u:TypeId)
  (ho:o.op=.call { callee:=.builtin .append,args:=#[sl,x],argTypes:=#[t,u] })
  (base:Nat) (e:TypeId) (ht:P.underlying t=some (.slice e)) (hu:P.underlying u=some .string) (fw:(P.info? e).map (fun i=>(i.zero,i.size,i.bytes))=some (some (.int .u8 0),1,1))
  (v:Value) (n:Nat) (l:List UInt8) (hs:a.eval sl=v) (hown:w.ownsRow base e 1 v n (cm l)) (s:ByteArray) (m:List UInt8) (hm:fT s m) (hx:a.eval x=.string s)
  (hbytes:n+m.length≤140737488355328) (hbase:base≤w.heap.size)
  (h:∀A c w',w'.ownsRow base e 1 (.slice A (n+m.length) c) (n+m.length) (cm (l++m))→w.grownBy w' v.ownBlock→wpListIn F N P ops Q rest (a.put o.dst (.slice A (n+m.length) c)) w'):wpListIn F N P ops Q (o :: rest) a w:=by
 refine wpListIn_plain hgd fun K hK=>?_;obtain⟨A,c,w',hr,h2,h3⟩:=Xw (P:=P) w base t u o.type e ht hu fw v n l hown s m hm hbytes hbase;unfold Oper.wpIn;refine⟨?_,?_⟩
 ·simp[Oper.about,ho,resolve,Target.leads,Sem.run_pure]
 rw[Oper.semAt_plain F _ _ (by rw[ho];intro c hc';cases hc')];simp[execOp,ho,resolve,invoke,builtin,hs,hx,hr,Result.andThen];exact hK _ _ (h A c w' h2 h3)

end
end Go.Proofs.YtnbmfljhbpfilaaGreatDoor
