/- The program's 'Is', 'Len', 'Put'. And more. -/
import Derived.Test.YtifiiojchlaghaaGreatDoorOm00
import Derived.Test.YtifiiojchlaghaaGreatDoorOm01
import Derived.LoopN
import Derived.RangeFuncNested
import Derived.RangeFuncBound
import Derived.RangeFuncCalls
import Derived.RangeFuncLeaves
import Derived.RangeFuncBox
import Derived.Lib.AppendStr
import Derived.Shelf.Abstract
import Derived.Shelf.RegionOpen
import Derived.OwnWalkIn
import Derived.TacticsInMore
import Derived.LoopNIn
import Derived.LoopIn
set_option linter.unusedSimpArgs false
set_option maxRecDepth 100000
set_option maxHeartbeats 4000000
set_option linter.unusedVariables false
namespace Go.Proofs.YtifiiojchlaghaaGreatDoor
section
open Go.RowKit

theorem Ue(r:Int)(w:World):Calls Tryz.prog 169 #[.int .i64 r] w fun e w'=>e=.returned (.bool (Utf.isScalar r))∧w=w':=by
 by_cases h0:0≤r
 ·by_cases h1:r≤1114111
  ·by_cases h2:r<55296
   all_goals
    go_enter Tryz.func169,Tryz.ntmps169
    go_wp2;go_ret;exact⟨aU (dw (by rw[Bool.eq_iff_iff];simp[Utf.isScalar];omega)),rfl⟩
  go_enter Tryz.func169,Tryz.ntmps169
  go_wp2;go_ret;exact⟨aU (dw (by rw[Bool.eq_iff_iff];simp[Utf.isScalar];omega)),rfl⟩
 go_enter Tryz.func169,Tryz.ntmps169
 go_wp2;go_ret;exact⟨aU (dw (by rw[Bool.eq_iff_iff];simp[Utf.isScalar];omega)),rfl⟩

def lenOf(r:Int):Int:=if r<128 then 1 else if r<2048 then 2 else if r<65536 then 3 else 4

theorem afe(r:Int)(w:World)(h:Utf.isScalar r=false):Calls Tryz.prog 133 #[.int .i64 r] w fun e w'=>e=.returned (.int .i64 0)∧w=w':=by
 have H:=hide h;clear h
 go_enter Tryz.func133,Tryz.ntmps133
 go_wp2_with (go_at_call 169;refine (Ue _ _).mono ?_;rintro e w' ⟨rfl,rfl⟩;rw[H.out])
 go_ret;exact⟨rfl,rfl⟩

theorem E6(r:Int)(w:World)(h:Utf.isScalar r=true):Calls Tryz.prog 133 #[.int .i64 r] w fun e w'=>e=.returned (.int .i64 (lenOf r))∧Below w.heap.size w w':=by
 have h1:0≤r∧r≤1114111:=by simp[Utf.isScalar] at h;omega
 obtain⟨h1,h2⟩:=h1;have H:=hide h;clear h;have i0:∀w,(Instr.index 206 (.agg #[.int .i64 128,.int .i64 2048,.int .i64 65536,.int .i64 1114112]) (.int .i64 0)).run Tryz.prog w=.ok (.int .i64 128) w:=fun _=>by kernel_rfl
 have i1:∀w,(Instr.index 206 (.agg #[.int .i64 128,.int .i64 2048,.int .i64 65536,.int .i64 1114112]) (.int .i64 1)).run Tryz.prog w=.ok (.int .i64 2048) w:=fun _=>by kernel_rfl
 have i2:∀w,(Instr.index 206 (.agg #[.int .i64 128,.int .i64 2048,.int .i64 65536,.int .i64 1114112]) (.int .i64 2)).run Tryz.prog w=.ok (.int .i64 65536) w:=fun _=>by kernel_rfl
 have i3:∀w,(Instr.index 206 (.agg #[.int .i64 128,.int .i64 2048,.int .i64 65536,.int .i64 1114112]) (.int .i64 3)).run Tryz.prog w=.ok (.int .i64 1114112) w:=fun _=>by kernel_rfl
 go_enter Tryz.func133,Tryz.ntmps133
 go_wp2_with (go_at_call 169;refine (Ue _ _).mono ?_;rintro e w' ⟨rfl,rfl⟩;rw[H.out])
 refine wp_loop_rounds 4 ?_;rw[rounds_succ];go_wp2
 ·go_ret;exact⟨aU (int_eq (by unfold lenOf;rw[if_pos (by omega)])),(Below.refl _ _).alloc (Nat.le_refl _) _⟩
 rw[rounds_succ];go_wp2
 ·go_ret;exact⟨aU (int_eq (by unfold lenOf;rw[if_neg (by omega),if_pos (by omega)])),(Below.refl _ _).alloc (Nat.le_refl _) _⟩
 rw[rounds_succ];go_wp2
 ·go_ret;exact⟨aU (int_eq (by unfold lenOf;rw[if_neg (by omega),if_neg (by omega),if_pos (by omega)])),(Below.refl _ _).alloc (Nat.le_refl _) _⟩
 rw[rounds_succ];go_wp2;go_ret;exact⟨aU (int_eq (by unfold lenOf;rw[if_neg (by omega),if_neg (by omega),if_neg (by omega)])),(Below.refl _ _).alloc (Nat.le_refl _) _⟩

theorem VL(r:Int)(w:World)(h:Utf.isScalar r=false):Calls Tryz.prog 93 #[.int .i64 r] w fun e w'=>e=.returned (.tuple #[.string ⟨#[]⟩,.bool false])∧w=w':=by
 go_enter Tryz.func93,Tryz.ntmps93
 have H:=hide h;clear h
 go_wp2_with (go_at_call 133;refine (afe _ _ H.out).mono ?_;rintro e w' ⟨rfl,rfl⟩)
 go_ret2;exact⟨rfl,rfl⟩

theorem aha(r:Int)(w:World)(h0:0≤r)(h1:r<128):Calls Tryz.prog 93 #[.int .i64 r] w fun e w'=>(∃t:ByteArray,e=.returned (.tuple #[.string t,.bool true])∧gC t ((Utf.put r).map bv))∧Below w.heap.size w w':=by
 have H:Hid (Utf.isScalar r=true):=by show Utf.isScalar r=true;simp[Utf.isScalar];omega
 have L:Hid (lenOf r=1):=by show lenOf r=1;unfold lenOf;rw[if_pos h1]
 go_enter Tryz.func93,Tryz.ntmps93
 go_wp2_with (first
  | (go_at_call 133;refine (E6 _ _ H.out).mono ?_;rintro e w1 ⟨rfl,hb⟩;rw[L.out])
  | (with_reducible show wpList _ _ _ (⟨_,.convert 37 9 _,_,_,_,_⟩ :: _) _ _;refine o6 rfl 37 9 5 _ rfl Tryz.underlying37 Tryz.underlying5 Tryz.underlying9 w1.heap.size _ 1 rfl [bv r] (agq w1 _ r h0 (by omega)) ?_;intro t ht))
 go_ret2;exact⟨⟨t,rfl,by unfold Utf.put;rw[if_pos h1];exact ht⟩,hb.alloc hb.size _⟩

theorem aks(x y:Int)(k:Nat)(h0:0≤x)(hy:0≤y)(hk:y<2 ^ k)(hx:x*2 ^ k+y<256)(z:Int)(hz:z=x*2 ^ k):bits .or .u8 z y=z+y:=by
 subst hz;exact akr x y k h0 hy hk hx

theorem ag8(r:Int)(w:World)(h0:128≤r)(h1:Utf.isScalar r=true):Calls Tryz.prog 93 #[.int .i64 r] w fun e w'=>(∃t:ByteArray,e=.returned (.tuple #[.string t,.bool true])∧gC t ((Utf.put r).map bv))∧Below w.heap.size w w':=by
 have h2:r≤1114111:=by simp[Utf.isScalar] at h1;omega
 have H:=hide h1;clear h1
 go_enter Tryz.func93,Tryz.ntmps93
 by_cases ha:r<2048
 ·have L:Hid (lenOf r=2):=by show lenOf r=2;unfold lenOf;rw[if_neg (by omega),if_pos ha]
  have ri:∀w,(Instr.makeSlice 37 (.int .i64 2) (.int .i64 2)).run Tryz.prog w=.ok (.slice (some ⟨w.heap.size,0,none⟩) 2 2) (w.alloc (.cells #[.int .u8 0,.int .u8 0] 5)):=fun _=>by kernel_rfl
  have hor:bits .or .u8 192 (r / 64 % 256)=192+r / 64:=by rw[show r / 64 % 256=r / 64 from by omega];exact aks 6 _ 5 (by omega) (by omega) (by omega) (by omega) _ rfl
  go_wp2_with (first
   | (go_at_call 133;refine (E6 _ _ H.out).mono ?_;rintro e w1 ⟨rfl,hb⟩;rw[L.out]))
  refine wp_loop_rounds 2 ?_;rw[rounds_succ];go_wp2;rw[rounds_succ]
  go_wp2_with (with_reducible show wpList _ _ _ (⟨_,.convert 37 9 _,_,_,_,_⟩ :: _) _ _;refine o6 rfl 37 9 5 _ rfl Tryz.underlying37 Tryz.underlying5 Tryz.underlying9 (w1.heap.size+1) _ 2 rfl _ (Vf (w1.alloc _) _ _ _ (by simp) (Nat.le_refl _) (192+r / 64) (128+r % 64) (by omega) (by omega)) ?_;intro t ht)
  go_ret2;exact⟨⟨t,rfl,by unfold Utf.put;rw[if_neg (show ¬r<128 by omega),if_pos (show r<2048 by omega)];exact ht⟩,(hb.alloc hb.size _).alloc (by have:=hb.size;simp;omega) _⟩
 by_cases Rs:r<65536
 ·have L:Hid (lenOf r=3):=by show lenOf r=3;unfold lenOf;rw[if_neg (by omega),if_neg ha,if_pos Rs]
  have ri:∀w,(Instr.makeSlice 37 (.int .i64 3) (.int .i64 3)).run Tryz.prog w=.ok (.slice (some ⟨w.heap.size,0,none⟩) 3 3) (w.alloc (.cells #[.int .u8 0,.int .u8 0,.int .u8 0] 5)):=fun _=>by kernel_rfl
  go_wp2_with (first
   | (go_at_call 133;refine (E6 _ _ H.out).mono ?_;rintro e w1 ⟨rfl,hb⟩;rw[L.out]))
  refine wp_loop_rounds 3 ?_;rw[rounds_succ];go_wp2;rw[rounds_succ];go_wp2;rw[rounds_succ]
  go_wp2_with (with_reducible show wpList _ _ _ (⟨_,.convert 37 9 _,_,_,_,_⟩ :: _) _ _;refine o6 rfl 37 9 5 _ rfl Tryz.underlying37 Tryz.underlying5 Tryz.underlying9 (w1.heap.size+1) _ 3 rfl _ (Vg (w1.alloc _) _ _ _ (by simp) (Nat.le_refl _) (224+r / 64 / 64) (128+r / 64 % 64) (128+r % 64) (by omega) (by omega) (by omega)) ?_;intro t ht)
  go_ret2;exact⟨⟨t,rfl,by unfold Utf.put;rw[if_neg (show ¬r<128 by omega),if_neg (show ¬r<2048 by omega),if_pos (show r<65536 by omega)];exact ht⟩,(hb.alloc hb.size _).alloc (by have:=hb.size;simp;omega) _⟩
 have L:Hid (lenOf r=4):=by show lenOf r=4;unfold lenOf;rw[if_neg (by omega),if_neg ha,if_neg Rs]
 have ri:∀w,(Instr.makeSlice 37 (.int .i64 4) (.int .i64 4)).run Tryz.prog w=.ok (.slice (some ⟨w.heap.size,0,none⟩) 4 4) (w.alloc (.cells #[.int .u8 0,.int .u8 0,.int .u8 0,.int .u8 0] 5)):=fun _=>by kernel_rfl
 go_wp2_with (first
  | (go_at_call 133;refine (E6 _ _ H.out).mono ?_;rintro e w1 ⟨rfl,hb⟩;rw[L.out]))
 refine wp_loop_rounds 4 ?_;rw[rounds_succ];go_wp2;rw[rounds_succ];go_wp2;rw[rounds_succ];go_wp2;rw[rounds_succ]
 go_wp2_with (with_reducible show wpList _ _ _ (⟨_,.convert 37 9 _,_,_,_,_⟩ :: _) _ _;refine o6 rfl 37 9 5 _ rfl Tryz.underlying37 Tryz.underlying5 Tryz.underlying9 (w1.heap.size+1) _ 4 rfl _ (Vh (w1.alloc _) _ _ _ (by simp) (Nat.le_refl _) (240+r / 64 / 64 / 64) (128+r / 64 / 64 % 64) (128+r / 64 % 64) (128+r % 64) (by omega) (by omega) (by omega) (by omega)) ?_;intro t ht)
 go_ret2;exact⟨⟨t,rfl,by unfold Utf.put;rw[if_neg (show ¬r<128 by omega),if_neg (show ¬r<2048 by omega),if_neg (show ¬r<65536 by omega)];exact ht⟩,(hb.alloc hb.size _).alloc (by have:=hb.size;simp;omega) _⟩

theorem LZ(r:Int)(w:World)(h:Utf.isScalar r=true):Calls Tryz.prog 93 #[.int .i64 r] w fun e w'=>(∃t:ByteArray,e=.returned (.tuple #[.string t,.bool true])∧gC t ((Utf.put r).map bv))∧Below w.heap.size w w':=by
 have h2:0≤r:=by simp[Utf.isScalar] at h;omega
 by_cases h1:r<128
 ·exact aha r w h2 h1
 exact ag8 r w (by omega) h

theorem yt(r:Int):(Utf.put r).length≤4:=by
 unfold Utf.put;split
 ·simp
 split
 ·simp
 split<;>simp
end
section
open Go.RowKit Go.Shelf

attribute [local go_sem] Oper.semAt_some

abbrev Pc:={ x:Nat×Int // x.2<0∨Utf.isScalar x.2=true }
theorem Vx(s:ByteArray)(k:Nat):(Utf.piece (s.data.toList.drop k)).1<0∨Utf.isScalar (Utf.piece (s.data.toList.drop k)).1=true:=by
 rcases Int.lt_or_le (Utf.piece (s.data.toList.drop k)).1 0 with h|h
 ·exact .inl h
 exact .inr (Utf.agT _ h)

def fo(B:Nat)(W W':World):Prop:=W'.heap[B]?=W.heap[B]?
theorem fo.trans{B:Nat}{X Y Z:World}(h:fo B X Y)(k:fo B Y Z):fo B X Z:=Eq.trans k h
theorem fo.cell{B:Nat}{W W':World}(h:fo B W W'){i:Nat}{v:Value}(hc:W.cell? ⟨B,i,none⟩=some v):W'.cell? ⟨B,i,none⟩=some v :=
 (World.cell?_of_block (w:=W) (w':=W') (a:=⟨B,i,none⟩) h).trans hc
theorem BS{w:World}{B:Nat}(hB:B<w.heap.size)(W:World)(l:Nat)(o o':Obj)(hl:w.heap.size≤l)(_:W.heap[l]?=some o)(_:o.isCells=false)(_:o.isWalk=false):fo B W (W.putObj l o') :=
 World.putObj_heap_other (by omega)

theorem Fp(s:ByteArray)(k:Nat)(h:k<s.size):1≤(Utf.piece (s.data.toList.drop k)).2∧(Utf.piece (s.data.toList.drop k)).2≤4∧(Utf.piece (s.data.toList.drop k)).2≤((s.size-k:Nat):Int):=by
 have:=Utf.tU s[k] (s.data.toList.drop (k+1));rw[←drop_at s k h] at this
 simpa using this

theorem DF(s:ByteArray)(k:Nat)(h:k<s.size) :
  Utf.from_ k (s.data.toList.drop k)=(k,(Utf.piece (s.data.toList.drop k)).1) :: Utf.from_ (k+(Utf.piece (s.data.toList.drop k)).2.toNat) (s.data.toList.drop (k+(Utf.piece (s.data.toList.drop k)).2.toNat)):=by
 rw[drop_at s k h,Utf.Rh,←drop_at s k h,List.drop_drop]

theorem agU(n:Nat)(hn:1≤n)(l Bs:Nat)(s:ByteArray)(hs:s.size≤1000000000)
  (J Jx:List Pc→World→Prop)
  (hY:∀pre x W,J pre W→pre.length<s.size→YieldAt Fence.wide (n-1) Tryz.prog l #[.int .i64 (x.1.1:Int),.int .i64 x.1.2] W fun e W'=>
   (e=.returned (.bool true)∧J (pre++[x]) W'∧fo Bs W W')∨(e=.returned (.bool false)∧Jx (pre++[x]) W'))
  (W:World) (mn:W.cell? ⟨Bs,0,none⟩=some (.string s)) (h0:J [] W) :
  CallsIn Fence.wide n Tryz.prog 145 #[.func (.yield l) #[] #[],.pointer (some ⟨Bs,0,none⟩)] W fun e W'=>(∃v,e=.returned v)∧
   ((∃ys:List Pc,ys.map (·.1)=Utf.pieces s.data.toList∧J ys W')∨(∃pre:List Pc,(∃rest,pre.map (·.1)++rest=Utf.pieces s.data.toList)∧Jx pre W')):=by
 refine callsIn_of_wp Tryz.func145 rfl trivial ?_ rfl;simp only[Tryz.ntmps145,List.size_toArray,List.length_cons,List.length_nil,Nat.reduceAdd,Nat.reduceSub,Array.replicate_succ,Array.replicate_zero,List.push_toArray,List.append_toArray,List.nil_append,List.cons_append];obtain⟨all,hall⟩:∃all,Utf.pieces s.data.toList=all:=⟨_,rfl⟩;rw[hall];have l5:=hide hall;clear hall;gi_wp2
 gi_loopw [3] (fun i wr=>∃(k:Nat) (pre:List Pc),k≤s.size∧i=.int .i64 k∧pre.length≤k∧pre.map (·.1)++Utf.from_ k (s.data.toList.drop k)=all∧J pre wr∧fo Bs W wr)
  (fun i _=>s.size-(intOf i).toNat)
 case atStart=>exact⟨0,[],Nat.zero_le _,rfl,Nat.le_refl _,by rw[←l5.out];rfl,h0,rfl⟩
 case round=>
  obtain⟨k,pre,hk,rfl,hpl,jt,jk,bD⟩:=hrel;have cN:=hide jt;clear jt;have vu:wr.cell? ⟨Bs,0,none⟩=some (.string s):=bD.cell mn
  by_cases hlt:k<s.size
  ·have fO:=DF s k hlt;have hp:=Fp s k hlt;have tJ:=Vx s k;have HP:=hide (Vv s k wr (by omega) (by omega) hs);rw[Int.toNat_natCast] at HP;obtain⟨f,hf⟩:∃f,Utf.piece (s.data.toList.drop k)=f:=⟨_,rfl⟩;rw[hf] at hp fO HP tJ;have qB:=hide fO;clear hf fO;obtain⟨fn,tmps,assign,body,hy,hR⟩:=hY pre ⟨(k,f.1),tJ⟩ wr jk (by omega);dsimp only at hy
   gi_wp2_with (refine⟨trivial,?_⟩;gi_at_call 116;refine (callsIn_wide.2 HP.out).mono ?_;rintro e w' ⟨rfl,rfl⟩;unfold BF)
   refine hR.mono ?_;rintro e W3 (⟨rfl,bU,aK⟩|⟨rfl,iq⟩)
   ·gi_wp2
    go_roundw
    case rel=>exact⟨k+f.2.toNat,pre++[⟨(k,f.1),tJ⟩],by omega,int_eq (by omega),by simp;omega,by rw[←cN.out,qB.out];simp,bU,bD.trans aK⟩
    case measure=>simp[intOf];omega
   gi_wp2;refine bodyPost_ret (results_none rfl _ _ _) rfl ?_;exact⟨⟨_,rfl⟩,.inr ⟨_,⟨_,by rw[←cN.out,qB.out,List.map_append,List.append_assoc];rfl⟩,iq⟩⟩
  gi_wp2;go_end0;exact⟨⟨_,rfl⟩,.inl ⟨pre,by rw[←cN.out,List.drop_of_length_le (by simp;omega)];simp[Utf.zQ],jk⟩⟩

theorem VB(s:ByteArray)(w:World) :
  Calls Tryz.prog 108 #[.string s] w fun e w'=>e=.returned (.func (.func 145) #[] #[.pointer (some ⟨w.heap.size,0,none⟩)])∧w'=w.alloc (.cells #[.string s] 9):=by
 go_enter Tryz.func108,Tryz.ntmps108
 go_wp2;go_ret;exact⟨rfl,rfl⟩

theorem VE(n:Nat)(hn:1≤n)(Bs:Nat)(s:ByteArray)(hs:s.size≤1000000000)(w:World)(mn:Bs<w.heap.size)(hc:w.cell? ⟨Bs,0,none⟩=some (.string s)) :
  SeqStopsK Fence.wide n Tryz.prog 145 #[.pointer (some ⟨Bs,0,none⟩)] (fun x:Pc=>#[Value.int .i64 (x.1.1:Int),Value.int .i64 x.1.2]) (fo Bs) (fun ys=>ys.map (·.1)=Utf.pieces s.data.toList)
   (fun pre=>∃rest,pre.map (·.1)++rest=Utf.pieces s.data.toList) s.size w:=fun l J Jx W hW _ _ hY h0=>
 agU n hn l Bs s hs J Jx hY W ((hW.cell (p:=⟨Bs,0,none⟩) mn).trans hc) h0
end
section
open Go.RowKit Go.Shelf Tk

attribute [local go_sem] Oper.semAt_some

def yg(f:Int×Int):Value:=if f.1<0 then .tuple #[.int .i64 0,.int .i64 0,.bool false] else .tuple #[.int .i64 f.1,.int .i64 f.2,.bool true]
theorem agY(s:ByteArray)(k:Nat)(w:World)(h1:k<s.size)(hs:s.size≤1000000000) :
  Calls Tryz.prog 81 #[.string s,.int .i64 (k:Int)] w fun e w'=>e=.returned (yg (Utf.piece (s.data.toList.drop k)))∧w'=w:=by
 have HP:=hide (Vv s k w (by omega) (by omega) hs);rw[Int.toNat_natCast] at HP;have hp:=Fp s k h1;generalize Utf.piece (s.data.toList.drop k)=f at *
 unfold yg
 by_cases hf:f.1<0
 ·go_enter Tryz.func81,Tryz.ntmps81
  go_wp2_with (go_at_call 116;refine HP.out.mono ?_;rintro e w' ⟨rfl,rfl⟩;unfold BF)
  go_ret3;simp[hf]
 go_enter Tryz.func81,Tryz.ntmps81
 go_wp2_with (go_at_call 116;refine HP.out.mono ?_;rintro e w' ⟨rfl,rfl⟩;unfold BF)
 go_ret3;simp[hf]
namespace Tk
def upTo:List (Nat×Int)→List (Nat×Int)
 | []=>[]
 | p :: l=>if p.2<0 then [p] else p :: upTo l
end Tk
theorem aa8:∀(l:List UInt8) (k:Nat) (r n lo hi:Int),0≤r→(Utf.cont l k r n lo hi).1<0→(Utf.cont l k r n lo hi).1 = -1:=fun l k r n lo hi hr h=>by
 rcases Utf.aa9 l k r n lo hi hr with h1|⟨h1,-⟩<;>omega
theorem agS(l:List UInt8)(h:(Utf.piece l).1<0):(Utf.piece l).1 = -1:=by
 cases l with
 | nil=>rfl
 | cons c l=>
  rw[Utf.yq] at h ⊢;split
  ·rfl
  rename_i hc
  rw[if_neg hc] at h;refine aa8 _ _ _ _ _ _ ?_ h;have:=Utf.zP c.toNat (by omega) (by have:=Utf.jE c;omega);omega

theorem aiK(n:Nat)(hn:1≤n)(l Bs:Nat)(s:ByteArray)(hs:s.size≤1000000000)
  (J Jx:List (Nat×Int)→World→Prop)
  (hY:∀pre x W,J pre W→pre.length<s.size→YieldAt Fence.wide (n-1) Tryz.prog l #[.int .i64 (x.1:Int),.int .i64 x.2] W fun e W'=>
   (e=.returned (.bool true)∧J (pre++[x]) W'∧fo Bs W W')∨(e=.returned (.bool false)∧Jx (pre++[x]) W'))
  (W:World) (mn:W.cell? ⟨Bs,0,none⟩=some (.string s)) (h0:J [] W) :
  CallsIn Fence.wide n Tryz.prog 80 #[.func (.yield l) #[] #[],.pointer (some ⟨Bs,0,none⟩)] W fun e W'=>(∃v,e=.returned v)∧
   ((∃ys:List (Nat×Int),ys=upTo (Utf.pieces s.data.toList)∧J ys W')∨(∃pre:List (Nat×Int),(∃rest,pre++rest=upTo (Utf.pieces s.data.toList))∧Jx pre W')):=by
 refine callsIn_of_wp Tryz.func80 rfl trivial ?_ rfl;simp only[Tryz.ntmps80,List.size_toArray,List.length_cons,List.length_nil,Nat.reduceAdd,Nat.reduceSub,Array.replicate_succ,Array.replicate_zero,List.push_toArray,List.append_toArray,List.nil_append,List.cons_append];obtain⟨all,hall⟩:∃all,upTo (Utf.pieces s.data.toList)=all:=⟨_,rfl⟩;rw[hall];have l5:=hide hall;clear hall;gi_wp2
 gi_loopw [3] (fun i wr=>∃(k:Nat) (pre:List (Nat×Int)),k≤s.size∧i=.int .i64 k∧pre.length≤k∧pre++upTo (Utf.from_ k (s.data.toList.drop k))=all∧J pre wr∧fo Bs W wr)
  (fun i _=>s.size-(intOf i).toNat)
 case atStart=>exact⟨0,[],Nat.zero_le _,rfl,Nat.le_refl _,by rw[←l5.out];rfl,h0,rfl⟩
 case round=>
  obtain⟨k,pre,hk,rfl,hpl,jt,jk,bD⟩:=hrel;have cN:=hide jt;clear jt;have vu:wr.cell? ⟨Bs,0,none⟩=some (.string s):=bD.cell mn
  by_cases hlt:k<s.size
  ·have fO:=DF s k hlt;have hp:=Fp s k hlt;have gu:=agS (s.data.toList.drop k);have HP:=hide (agY s k wr hlt hs);obtain⟨f,hf⟩:∃f,Utf.piece (s.data.toList.drop k)=f:=⟨_,rfl⟩;rw[hf] at hp fO HP gu;have qB:=hide fO;clear hf fO
   by_cases eG:f.1<0
   ·have hv:yg f=.tuple #[.int .i64 0,.int .i64 0,.bool false]:=by unfold yg;rw[if_pos eG]
    rw[hv] at HP;have ni:=gu eG;have zj:=hide (show upTo (Utf.from_ k (s.data.toList.drop k))=[(k,-1)] by rw[qB.out];unfold upTo;rw[if_pos eG,ni]);clear gu hv eG ni qB hp;obtain⟨fn,tmps,assign,body,hy,hR⟩:=hY pre (k,-1) wr jk (by omega);dsimp only at hy
    gi_wp2_with (refine⟨trivial,?_⟩;gi_at_call 81;refine (callsIn_wide.2 HP.out).mono ?_;rintro e w' ⟨rfl,rfl⟩)
    refine hR.mono ?_;rintro e W3 (⟨rfl,bU,aK⟩|⟨rfl,iq⟩)
    ·gi_wp2;refine bodyPost_ret (results_none rfl _ _ _) rfl ?_;exact⟨⟨_,rfl⟩,.inl ⟨_,by rw[←cN.out,zj.out],bU⟩⟩
    gi_wp2;refine bodyPost_ret (results_none rfl _ _ _) rfl ?_;exact⟨⟨_,rfl⟩,.inr ⟨_,⟨[],by rw[←cN.out,zj.out,List.append_nil]⟩,iq⟩⟩
   have hv:yg f=.tuple #[.int .i64 f.1,.int .i64 f.2,.bool true]:=by unfold yg;rw[if_neg eG]
   rw[hv] at HP;have zj:=hide (show upTo (Utf.from_ k (s.data.toList.drop k))=(k,f.1) :: upTo (Utf.from_ (k+f.2.toNat) (s.data.toList.drop (k+f.2.toNat))) by rw[qB.out];conv=>lhs;unfold upTo;rw[if_neg eG]);clear gu hv eG qB;obtain⟨fn,tmps,assign,body,hy,hR⟩:=hY pre (k,f.1) wr jk (by omega);dsimp only at hy
   gi_wp2_with (refine⟨trivial,?_⟩;gi_at_call 81;refine (callsIn_wide.2 HP.out).mono ?_;rintro e w' ⟨rfl,rfl⟩)
   refine hR.mono ?_;rintro e W3 (⟨rfl,bU,aK⟩|⟨rfl,iq⟩)
   ·gi_wp2
    go_roundw
    case rel=>exact⟨k+f.2.toNat,pre++[(k,f.1)],by omega,int_eq (by omega),by simp;omega,by rw[←cN.out,zj.out];simp,bU,bD.trans aK⟩
    case measure=>simp[intOf];omega
   gi_wp2;refine bodyPost_ret (results_none rfl _ _ _) rfl ?_;exact⟨⟨_,rfl⟩,.inr ⟨_,⟨_,by rw[←cN.out,zj.out,List.append_assoc];rfl⟩,iq⟩⟩
  gi_wp2;go_end0;exact⟨⟨_,rfl⟩,.inl ⟨pre,by rw[←cN.out,List.drop_of_length_le (by simp;omega)];simp[Utf.zQ,upTo],jk⟩⟩

theorem Mi(s:ByteArray)(w:World) :
  Calls Tryz.prog 52 #[.string s] w fun e w'=>e=.returned (.func (.func 80) #[] #[.pointer (some ⟨w.heap.size,0,none⟩)])∧w'=w.alloc (.cells #[.string s] 9):=by
 go_enter Tryz.func52,Tryz.ntmps52
 go_wp2;go_ret;exact⟨rfl,rfl⟩

theorem Mj(n:Nat)(hn:1≤n)(Bs:Nat)(s:ByteArray)(hs:s.size≤1000000000)(w:World)(mn:Bs<w.heap.size)(hc:w.cell? ⟨Bs,0,none⟩=some (.string s)) :
  SeqStopsK Fence.wide n Tryz.prog 80 #[.pointer (some ⟨Bs,0,none⟩)] (fun x:Nat×Int=>#[Value.int .i64 (x.1:Int),Value.int .i64 x.2]) (fo Bs) (fun ys=>ys=upTo (Utf.pieces s.data.toList))
   (fun pre=>∃rest,pre++rest=upTo (Utf.pieces s.data.toList)) s.size w:=fun l J Jx W hW _ _ hY h0=>
 aiK n hn l Bs s hs J Jx hY W ((hW.cell (p:=⟨Bs,0,none⟩) mn).trans hc) h0
end
section
open Go.RowKit Tk

def rS(l:List (Int×Int)):List Value:=l.flatMap fun p=>[.int .i64 p.1,.int .i64 p.2]
theorem ahU(l:List (Int×Int)):(rS l).length=l.length*2:=by
 induction l with
 | nil=>rfl
 | cons p l ih=>unfold rS at ih ⊢;rw[List.flatMap_cons,List.length_append,ih];simp;omega
theorem L9:∀(l:List (Int×Int)) (k:Nat) (h:k<l.length),(rS l)[k*2]?=some (.int .i64 l[k].1)∧(rS l)[k*2+1]?=some (.int .i64 l[k].2)
 | p :: l,0,_=>⟨rfl,rfl⟩
 | p :: l,k+1,h=>by
  have ih:=L9 l k (by simpa using h);have e:rS (p :: l)=.int .i64 p.1 :: .int .i64 p.2 :: rS l:=rfl;rw[e,show (k+1)*2=k*2+2 by omega]
  simpa using ih
theorem aaK{w:World}{g t n s:Nat}{xs:List Value}(h:ae w g t xs.toArray)(hl:xs.length=n*s):Reads w w.heap.size s (some ⟨g,0,none⟩) n xs :=
 ⟨hl,fun _=>⟨g,0,rfl,h.lt,fun j u hj=>by rw[Nat.zero_add,h.cell j];simpa using hj⟩⟩
def kF(l:List (Int×Int))(r:Int):Bool:=l.any fun p=>within r p.1 p.2

theorem akV(r:Int)(A:Option Addr)(c:Nat)(l:List (Int×Int))(w:World)(hA:Reads w w.heap.size 2 A l.length (rS l))(hl:l.length≤1000) :
  Calls Tryz.prog 82 #[.int .i64 r,.slice A l.length c] w fun e w'=>e=.returned (.bool (kF l r))∧Below w.heap.size w w':=by
 obtain⟨n,hn⟩:∃n,l.length=n:=⟨_,rfl⟩;have HA:=hide hA;rw[hn] at ⊢ hl;have Hn:=hide hn;clear hn hA
 go_enter Tryz.func82,Tryz.ntmps82
 go_wp2
 go_loopg [9] n (fun g v wr=>∃k:Nat,g=n-k∧k≤n∧v=.int .i64 k∧kF l r=kF (l.drop k) r∧Below w.heap.size w wr)
 case atStart=>exact⟨0,rfl,by omega,rfl,rfl,Below.refl _ _⟩
 case round=>
  obtain⟨k,hg,hk,rfl,bF,hb⟩:=hrel;have Hg:=hide hg;have CN:=hide bF;have Hb:=hide hb;clear hg bF hb
  by_cases hlt:k<n
  ·have h1:k<l.length:=by rw[Hn.out];exact hlt
   obtain⟨b,off,rfl,aP,hc⟩:=(HA.out.below Hb.out).2 (by omega);obtain⟨p,hp⟩:∃p,l[k]=p:=⟨_,rfl⟩;have c0:=hc _ _ (L9 l k h1).1;have c1:=hc _ _ (L9 l k h1).2;rw[←Nat.add_assoc] at c1;rw[hp] at c0 c1;have Hd:=hide (show l.drop k=p :: l.drop (k+1) by rw[←hp];exact List.drop_eq_getElem_cons h1);clear hc hp;obtain⟨p1,p2⟩:=p;dsimp only at c0 c1
   by_cases ha:p1≤r
   ·by_cases ag:r≤p2
    ·go_wp2;go_ret;refine⟨aU (dw ?_),?_⟩
     ·rw[CN.out,Hd.out];simp[kF,within,ha,ag]
     exact Hb.out.alloc Hb.out.size _
    go_wp2
    go_roundg (n-(k+1))
    case measure=>have:=Hg.out;omega
    case rel=>exact⟨k+1,rfl,by omega,by go_num,by rw[CN.out,Hd.out];show (within r p1 p2||kF _ r)=_;rw[show within r p1 p2=false by unfold within;rw[decide_eq_false (Int.not_le.2 ag),Bool.and_false],Bool.false_or],Hb.out.alloc Hb.out.size _⟩
   go_wp2
   go_roundg (n-(k+1))
   case measure=>have:=Hg.out;omega
   case rel=>exact⟨k+1,rfl,by omega,by go_num,by rw[CN.out,Hd.out];show (within r p1 p2||kF _ r)=_;rw[show within r p1 p2=false by unfold within;rw[decide_eq_false (Int.not_le.2 ha),Bool.false_and],Bool.false_or],Hb.out.alloc Hb.out.size _⟩
  go_wp2;go_ret;refine⟨aU (dw ?_),Hb.out⟩;rw[CN.out,List.drop_of_length_le (by rw[Hn.out];omega)];rfl
def Jl:List (Int×Int):=[(97,122),(65,90),(95,95),(192,214),(216,246),(248,767),(880,893),(895,8191),(8204,8205),(8304,8591),(11264,12271),(12289,55295),(63744,64975),(65008,65533),(65536,983039)]
def zT:List (Int×Int):=[(45,46),(48,57),(183,183),(768,879),(8255,8256)]
def IP:List (Int×Int):=[(9,10),(13,13),(32,55295),(57344,65533),(65536,1114111)]
theorem aci(r:Int):kF Jl r=ko r:=by
 unfold kF Jl ko;simp only[List.any_cons,List.any_nil,Bool.or_false,Bool.or_assoc]
theorem aaX(r:Int):kF IP r=bT r:=by
 unfold kF IP bT;simp only[List.any_cons,List.any_nil,Bool.or_false,Bool.or_assoc]
theorem acy(r:Int):(ko r||kF zT r)=lj r:=by
 unfold kF zT lj;simp only[List.any_cons,List.any_nil,Bool.or_false,Bool.or_assoc]
theorem MV(r:Int)(l:List (Int×Int))(hl:l.length≤1000)(w W:World)(g:Nat)(hw:W=w.alloc (.cells (rS l).toArray 137))(hg:g=w.heap.size) :
  Calls Tryz.prog 82 #[.int .i64 r,.slice (some ⟨g,0,none⟩) l.length l.length] W fun e w'=>e=.returned (.bool (kF l r))∧Below w.heap.size w w':=by
 subst hw hg;have hk:=ae.new w 137 (rS l).toArray;refine (akV r _ _ l _ (aaK hk (ahU l)) hl).mono ?_;rintro e w' ⟨rfl,hb⟩;exact⟨rfl,(aA w _).trans (hb.mono (by simp))⟩
theorem Jm(r:Int)(w:World):Calls Tryz.prog 189 #[.int .i64 r] w fun e w'=>e=.returned (.bool (ko r))∧Below w.heap.size w w':=by
 have HW:=hide (show Calls Tryz.prog 82 #[.int .i64 r,.slice (some ⟨w.heap.size,0,none⟩) 15 15] (w.alloc (.cells #[.int .i64 97,.int .i64 122,.int .i64 65,.int .i64 90,.int .i64 95,.int .i64 95,.int .i64 192,.int .i64 214,.int .i64 216,.int .i64 246,.int .i64 248,.int .i64 767,.int .i64 880,.int .i64 893,.int .i64 895,.int .i64 8191,.int .i64 8204,.int .i64 8205,.int .i64 8304,.int .i64 8591,.int .i64 11264,.int .i64 12271,.int .i64 12289,.int .i64 55295,.int .i64 63744,.int .i64 64975,.int .i64 65008,.int .i64 65533,.int .i64 65536,.int .i64 983039] 137)) fun e w'=>e=.returned (.bool (ko r))∧Below w.heap.size w w' from by
  rw[←aci];exact MV r Jl (by decide) w _ _ rfl rfl)
 generalize ko r=b at *
 go_enter Tryz.func189,Tryz.ntmps189
 go_wp2_with (go_at_call 82;refine HW.out.mono ?_;rintro e w' ⟨rfl,hb⟩)
 go_ret;exact⟨rfl,by assumption⟩
theorem IQ(r:Int)(w:World):Calls Tryz.prog 53 #[.int .i64 r] w fun e w'=>e=.returned (.bool (bT r))∧Below w.heap.size w w':=by
 have HW:=hide (show Calls Tryz.prog 82 #[.int .i64 r,.slice (some ⟨w.heap.size,0,none⟩) 5 5] (w.alloc (.cells #[.int .i64 9,.int .i64 10,.int .i64 13,.int .i64 13,.int .i64 32,.int .i64 55295,.int .i64 57344,.int .i64 65533,.int .i64 65536,.int .i64 1114111] 137)) fun e w'=>e=.returned (.bool (bT r))∧Below w.heap.size w w' from by
  rw[←aaX];exact MV r IP (by decide) w _ _ rfl rfl)
 generalize bT r=b at *
 go_enter Tryz.func53,Tryz.ntmps53
 go_wp2_with (go_at_call 82;refine HW.out.mono ?_;rintro e w' ⟨rfl,hb⟩)
 go_ret;exact⟨rfl,by assumption⟩
theorem Rk(r:Int)(w:World):Calls Tryz.prog 166 #[.int .i64 r] w fun e w'=>e=.returned (.bool (lj r))∧Below w.heap.size w w':=by
 have HF:=hide (Jm r)
 have HW:=hide fun (W:World)=>(show Calls Tryz.prog 82 #[.int .i64 r,.slice (some ⟨W.heap.size,0,none⟩) 5 5] (W.alloc (.cells #[.int .i64 45,.int .i64 46,.int .i64 48,.int .i64 57,.int .i64 183,.int .i64 183,.int .i64 768,.int .i64 879,.int .i64 8255,.int .i64 8256] 137)) fun e w'=>e=.returned (.bool (kF zT r))∧Below W.heap.size W w' from
  MV r zT (by decide) W _ _ rfl rfl)
 have HE:=hide (acy r);generalize lj r=c at *
 generalize kF zT r=d at *
 generalize ko r=b at *
 cases b with
 | true=>
  go_enter Tryz.func166,Tryz.ntmps166
  go_wp2_with (go_at_call 189;refine (HF.out _).mono ?_;rintro e w' ⟨rfl,hb⟩)
  go_ret;exact⟨aU (dw (by rw[←HE.out];rfl)),by assumption⟩
 | false=>
  go_enter Tryz.func166,Tryz.ntmps166
  go_wp2_with fail
  refine (HF.out _).mono ?_;rintro e w1 ⟨rfl,hb⟩
  go_wp2_with fail
  refine (HW.out _).mono ?_;rintro e w2 ⟨rfl,ag⟩;go_wp2;go_ret;exact⟨aU (dw (by rw[←HE.out];rfl)),hb.trans (ag.mono hb.size)⟩
theorem ajW(r:Int)(w:World):Calls Tryz.prog 185 #[.int .i64 r] w fun e w'=>e=.returned (.bool (lj r||decide (r=58)))∧Below w.heap.size w w':=by
 have HF:=hide (Rk r);generalize lj r=b at *
 by_cases hr:r=58
 ·subst hr
  go_enter Tryz.func185,Tryz.ntmps185
  go_wp2;go_ret;exact⟨aU (dw (by simp)),Below.refl _ _⟩
 have hd:(r==58)=false:=by rw[beq_eq_false_iff_ne];exact hr
 have Hd:=hide (show decide (r=58)=false by simpa using hr);rw[Hd.out];clear hr Hd
 go_enter Tryz.func185,Tryz.ntmps185
 go_wp2_with (go_at_call 166;refine (HF.out _).mono ?_;rintro e w' ⟨rfl,hb⟩)
 go_ret;exact⟨aU (dw (by simp)),by assumption⟩
end
section
open Go.RowKit

theorem rN{w:World}{base e size n:Nat}{v:Value}{xs:List Value}(h:w.ownsRow base e size v n xs):∃A c,v=.slice A n c:=by
 rcases h.2 with ⟨rfl,rfl⟩|⟨g,cap,cur,rfl,_⟩
 ·exact⟨_,_,rfl⟩
 exact⟨_,_,rfl⟩

theorem ajB{t:ByteArray}{l:List UInt8}(h:gC t l):Lib.strCells t=cA l:=by
 unfold gC at h;rw[←h];rfl

theorem V6{P:Program}(w:World)(base:Nat)(t u ty e:TypeId)(ht:P.underlying t=some (.slice e))(hu:P.underlying u=some .string)
  (fQ:(P.info? e).map (fun i=>(i.zero,i.size,i.bytes))=some (some (.int .u8 0),1,1))
  (v:Value) (n:Nat) (l:List UInt8) (hown:w.ownsRow base e 1 v n (cA l)) (s:ByteArray) (m:List UInt8) (hm:gC s m)
  (hbytes:n+m.length≤140737488355328) (hbase:base≤w.heap.size) :
  ∃A c w',(Builtin.append_ #[t,u] ty #[v,.string s]).run P w=.ok (.slice A (n+m.length) c) w'∧w'.ownsRow base e 1 (.slice A (n+m.length) c) (n+m.length) (cA (l++m))∧w.grownBy w' v.ownBlock:=by
 obtain⟨i,hi,hz,hsize,hby⟩:=info_parts fQ;have hsz:=hm.size;obtain⟨v',w',hr,h2,h3,_⟩:=Lib.run_append_own_string (P:=P) w base t u ty e i ht hu hi hz hsize hby v n (cA l) hown s (by unfold maxLen;omega) (by omega) hbase;rw[ajB hm,hsz,←IG] at h2;obtain⟨A,c,rfl⟩:=rN h2;exact⟨A,c,w',hr,h2,h3⟩

theorem Xz{P:Program}(w:World){ops:Array Oper}{rest:List Oper}{o:Oper}{a:Act}{Q:Exit→Act→World→Prop}(hgd:o.guard=none)(sl x:Operand)(t u:TypeId)
  (ho:o.op=.call { callee:=.builtin .append,args:=#[sl,x],argTypes:=#[t,u] })
  (base:Nat) (e:TypeId) (ht:P.underlying t=some (.slice e)) (hu:P.underlying u=some .string) (fQ:(P.info? e).map (fun i=>(i.zero,i.size,i.bytes))=some (some (.int .u8 0),1,1))
  (v:Value) (n:Nat) (l:List UInt8) (hs:a.eval sl=v) (hown:w.ownsRow base e 1 v n (cA l)) (s:ByteArray) (m:List UInt8) (hm:gC s m) (hx:a.eval x=.string s)
  (hbytes:n+m.length≤140737488355328) (hbase:base≤w.heap.size)
  (h:∀A c w',w'.ownsRow base e 1 (.slice A (n+m.length) c) (n+m.length) (cA (l++m))→w.grownBy w' v.ownBlock→wpList P ops Q rest (a.put o.dst (.slice A (n+m.length) c)) w'):wpList P ops Q (o :: rest) a w:=by
 refine wpList_plain hgd fun K hK=>?_;obtain⟨A,c,w',hr,h2,h3⟩:=V6 (P:=P) w base t u o.type e ht hu fQ v n l hown s m hm hbytes hbase;unfold Oper.wp execOp;simp only[ho,resolve,invoke,builtin,Sem.run_bind,Sem.run_pure,Result.andThen_ok,List.map_toArray,List.map_cons,List.map_nil,hs,hx,hr];exact hK _ _ (h A c w' h2 h3)

theorem Nc{F:Fence}{N:Nat}{P:Program}(w:World){ops:Array Oper}{rest:List Oper}{o:Oper}{a:Act}{Q:Exit→Act→World→Prop}(hgd:o.guard=none)(sl x:Operand)(t u:TypeId)
  (ho:o.op=.call { callee:=.builtin .append,args:=#[sl,x],argTypes:=#[t,u] })
  (base:Nat) (e:TypeId) (ht:P.underlying t=some (.slice e)) (hu:P.underlying u=some .string) (fQ:(P.info? e).map (fun i=>(i.zero,i.size,i.bytes))=some (some (.int .u8 0),1,1))
  (v:Value) (n:Nat) (l:List UInt8) (hs:a.eval sl=v) (hown:w.ownsRow base e 1 v n (cA l)) (s:ByteArray) (m:List UInt8) (hm:gC s m) (hx:a.eval x=.string s)
  (hbytes:n+m.length≤140737488355328) (hbase:base≤w.heap.size)
  (h:∀A c w',w'.ownsRow base e 1 (.slice A (n+m.length) c) (n+m.length) (cA (l++m))→w.grownBy w' v.ownBlock→wpListIn F N P ops Q rest (a.put o.dst (.slice A (n+m.length) c)) w'):wpListIn F N P ops Q (o :: rest) a w:=by
 refine wpListIn_plain hgd fun K hK=>?_;obtain⟨A,c,w',hr,h2,h3⟩:=V6 (P:=P) w base t u o.type e ht hu fQ v n l hown s m hm hbytes hbase;unfold Oper.wpIn;refine⟨?_,?_⟩
 ·simp[Oper.about,ho,resolve,Target.leads,Sem.run_pure]
 rw[Oper.semAt_plain F _ _ (by rw[ho];intro c hc';cases hc')];simp[execOp,ho,resolve,invoke,builtin,hs,hx,hr,Result.andThen];exact hK _ _ (h A c w' h2 h3)

end
end Go.Proofs.YtifiiojchlaghaaGreatDoor
