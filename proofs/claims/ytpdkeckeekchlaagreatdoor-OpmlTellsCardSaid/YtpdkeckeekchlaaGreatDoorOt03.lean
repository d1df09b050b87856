/- The program's iterator over a text's pieces; 'Loose', 'Valid'. And more. -/
import Derived.Test.YtpdkeckeekchlaaGreatDoorOt02
import Derived.RangeFuncNested
import Derived.RangeFuncBound
import Derived.RangeFuncCalls
import Derived.RangeFuncLeaves
import Derived.RangeFuncBox
import Derived.Lib.AppendStr
import Derived.Shelf.Abstract
import Derived.Shelf.RegionOpen
import Derived.OwnWalkIn
import Derived.TacticsInMore
import Derived.LoopNIn
import Derived.LoopIn
set_option linter.unusedSimpArgs false
set_option maxRecDepth 100000
set_option maxHeartbeats 4000000
set_option linter.unusedVariables false
namespace Go.Proofs.YtpdkeckeekchlaaGreatDoor
section
open Go.RowKit Go.Shelf

attribute [local go_sem] Oper.semAt_some

abbrev Pc:={ x:Nat×Int // x.2<0∨Utf.isScalar x.2=true }
theorem Xq(s:ByteArray)(k:Nat):(Utf.piece (s.data.toList.drop k)).1<0∨Utf.isScalar (Utf.piece (s.data.toList.drop k)).1=true:=by
 rcases Int.lt_or_le (Utf.piece (s.data.toList.drop k)).1 0 with h|h
 ·exact .inl h
 exact .inr (Utf.aje _ h)

def eX(B:Nat)(W W':World):Prop:=W'.heap[B]?=W.heap[B]?
theorem eX.trans{B:Nat}{X Y Z:World}(h:eX B X Y)(k:eX B Y Z):eX B X Z:=Eq.trans k h
theorem eX.cell{B:Nat}{W W':World}(h:eX B W W'){i:Nat}{v:Value}(hc:W.cell? ⟨B,i,none⟩=some v):W'.cell? ⟨B,i,none⟩=some v :=
 (World.cell?_of_block (w:=W) (w':=W') (a:=⟨B,i,none⟩) h).trans hc
theorem CS{w:World}{B:Nat}(hB:B<w.heap.size)(W:World)(l:Nat)(o o':Obj)(hl:w.heap.size≤l)(_:W.heap[l]?=some o)(_:o.isCells=false)(_:o.isWalk=false):eX B W (W.putObj l o') :=
 World.putObj_heap_other (by omega)

theorem GI(s:ByteArray)(k:Nat)(h:k<s.size):1≤(Utf.piece (s.data.toList.drop k)).2∧(Utf.piece (s.data.toList.drop k)).2≤4∧(Utf.piece (s.data.toList.drop k)).2≤((s.size-k:Nat):Int):=by
 have:=Utf.uu s[k] (s.data.toList.drop (k+1));rw[←drop_at s k h] at this
 simpa using this

theorem ER(s:ByteArray)(k:Nat)(h:k<s.size) :
  Utf.from_ k (s.data.toList.drop k)=(k,(Utf.piece (s.data.toList.drop k)).1) :: Utf.from_ (k+(Utf.piece (s.data.toList.drop k)).2.toNat) (s.data.toList.drop (k+(Utf.piece (s.data.toList.drop k)).2.toNat)):=by
 rw[drop_at s k h,Utf.Tj,←drop_at s k h,List.drop_drop]

theorem ajf(n:Nat)(hn:1≤n)(l Bs:Nat)(s:ByteArray)(hs:s.size≤1000000000)
  (J Jx:List Pc→World→Prop)
  (hY:∀pre x W,J pre W→pre.length<s.size→YieldAt Fence.wide (n-1) Tryz.prog l #[.int .i64 (x.1.1:Int),.int .i64 x.1.2] W fun e W'=>
   (e=.returned (.bool true)∧J (pre++[x]) W'∧eX Bs W W')∨(e=.returned (.bool false)∧Jx (pre++[x]) W'))
  (W:World) (mz:W.cell? ⟨Bs,0,none⟩=some (.string s)) (h0:J [] W) :
  CallsIn Fence.wide n Tryz.prog 177 #[.func (.yield l) #[] #[],.pointer (some ⟨Bs,0,none⟩)] W fun e W'=>(∃v,e=.returned v)∧
   ((∃ys:List Pc,ys.map (·.1)=Utf.pieces s.data.toList∧J ys W')∨(∃pre:List Pc,(∃rest,pre.map (·.1)++rest=Utf.pieces s.data.toList)∧Jx pre W')):=by
 refine callsIn_of_wp Tryz.func177 rfl trivial ?_ rfl;simp only[Tryz.ntmps177,List.size_toArray,List.length_cons,List.length_nil,Nat.reduceAdd,Nat.reduceSub,Array.replicate_succ,Array.replicate_zero,List.push_toArray,List.append_toArray,List.nil_append,List.cons_append];obtain⟨all,hall⟩:∃all,Utf.pieces s.data.toList=all:=⟨_,rfl⟩;rw[hall];have mf:=ap hall;clear hall;gi_wp2
 gi_loopw [3] (fun i wr=>∃(k:Nat) (pre:List Pc),k≤s.size∧i=.int .i64 k∧pre.length≤k∧pre.map (·.1)++Utf.from_ k (s.data.toList.drop k)=all∧J pre wr∧eX Bs W wr)
  (fun i _=>s.size-(intOf i).toNat)
 case atStart=>exact⟨0,[],Nat.zero_le _,rfl,Nat.le_refl _,by rw[←mf.o];rfl,h0,rfl⟩
 case round=>
  obtain⟨k,pre,hk,rfl,hpl,jx,jn,aX⟩:=hrel;have cL:=ap jx;clear jx;have vZ:wr.cell? ⟨Bs,0,none⟩=some (.string s):=aX.cell mz
  by_cases hlt:k<s.size
  ·have fJ:=ER s k hlt;have hp:=GI s k hlt;have tX:=Xq s k;have HP:=ap (Xo s k wr (by omega) (by omega) hs);rw[Int.toNat_natCast] at HP;obtain⟨f,hf⟩:∃f,Utf.piece (s.data.toList.drop k)=f:=⟨_,rfl⟩;rw[hf] at hp fJ HP tX;have qO:=ap fJ;clear hf fJ;obtain⟨fn,tmps,assign,body,hy,hR⟩:=hY pre ⟨(k,f.1),tX⟩ wr jn (by omega);dsimp only at hy
   gi_wp2_with (refine⟨trivial,?_⟩;gi_at_call 143;refine (callsIn_wide.2 HP.o).mono ?_;rintro e w' ⟨rfl,rfl⟩;unfold CF)
   refine hR.mono ?_;rintro e W3 (⟨rfl,bY,aI⟩|⟨rfl,im⟩)
   ·gi_wp2
    go_roundw
    case rel=>exact⟨k+f.2.toNat,pre++[⟨(k,f.1),tX⟩],by omega,int_eq (by omega),by simp;omega,by rw[←cL.o,qO.o];simp,bY,aX.trans aI⟩
    case measure=>simp[intOf];omega
   gi_wp2;refine bodyPost_ret (results_none rfl _ _ _) rfl ?_;exact⟨⟨_,rfl⟩,.inr ⟨_,⟨_,by rw[←cL.o,qO.o,List.map_append,List.append_assoc];rfl⟩,im⟩⟩
  gi_wp2;go_end0;exact⟨⟨_,rfl⟩,.inl ⟨pre,by rw[←cL.o,List.drop_of_length_le (by simp;omega)];simp[Utf.AR],jn⟩⟩

theorem Xu(s:ByteArray)(w:World) :
  Calls Tryz.prog 128 #[.string s] w fun e w'=>e=.returned (.func (.func 177) #[] #[.pointer (some ⟨w.heap.size,0,none⟩)])∧w'=w.alloc (.cells #[.string s] 9):=by
 go_enter Tryz.func128,Tryz.ntmps128
 go_wp2;go_ret;exact⟨rfl,rfl⟩

theorem Xx(n:Nat)(hn:1≤n)(Bs:Nat)(s:ByteArray)(hs:s.size≤1000000000)(w:World)(mz:Bs<w.heap.size)(hc:w.cell? ⟨Bs,0,none⟩=some (.string s)) :
  SeqStopsK Fence.wide n Tryz.prog 177 #[.pointer (some ⟨Bs,0,none⟩)] (fun x:Pc=>#[Value.int .i64 (x.1.1:Int),Value.int .i64 x.1.2]) (eX Bs) (fun ys=>ys.map (·.1)=Utf.pieces s.data.toList)
   (fun pre=>∃rest,pre.map (·.1)++rest=Utf.pieces s.data.toList) s.size w:=fun l J Jx W hW _ _ hY h0=>
 ajf n hn l Bs s hs J Jx hY W ((hW.cell (p:=⟨Bs,0,none⟩) mz).trans hc) h0
end
section
open Go.RowKit Go.Shelf Tk

attribute [local go_sem] Oper.semAt_some

def yX(f:Int×Int):Value:=if f.1<0 then .tuple #[.int .i64 0,.int .i64 0,.bool false] else .tuple #[.int .i64 f.1,.int .i64 f.2,.bool true]
theorem ajj(s:ByteArray)(k:Nat)(w:World)(h1:k<s.size)(hs:s.size≤1000000000) :
  Calls Tryz.prog 106 #[.string s,.int .i64 (k:Int)] w fun e w'=>e=.returned (yX (Utf.piece (s.data.toList.drop k)))∧w'=w:=by
 have HP:=ap (Xo s k w (by omega) (by omega) hs);rw[Int.toNat_natCast] at HP;have hp:=GI s k h1;generalize Utf.piece (s.data.toList.drop k)=f at *
 unfold yX
 by_cases hf:f.1<0
 ·go_enter Tryz.func106,Tryz.ntmps106
  go_wp2_with (go_at_call 143;refine HP.o.mono ?_;rintro e w' ⟨rfl,rfl⟩;unfold CF)
  go_ret3;simp[hf]
 go_enter Tryz.func106,Tryz.ntmps106
 go_wp2_with (go_at_call 143;refine HP.o.mono ?_;rintro e w' ⟨rfl,rfl⟩;unfold CF)
 go_ret3;simp[hf]
namespace Tk
def upTo:List (Nat×Int)→List (Nat×Int)
 | []=>[]
 | p :: l=>if p.2<0 then [p] else p :: upTo l
end Tk
theorem acY:∀(l:List UInt8) (k:Nat) (r n lo hi:Int),0≤r→(Utf.cont l k r n lo hi).1<0→(Utf.cont l k r n lo hi).1 = -1:=fun l k r n lo hi hr h=>by
 rcases Utf.acZ l k r n lo hi hr with h1|⟨h1,-⟩<;>omega
theorem ajd(l:List UInt8)(h:(Utf.piece l).1<0):(Utf.piece l).1 = -1:=by
 cases l with
 | nil=>rfl
 | cons c l=>
  rw[Utf.zg] at h ⊢;split
  ·rfl
  rename_i hc
  rw[if_neg hc] at h;refine acY _ _ _ _ _ _ ?_ h;have:=Utf.AQ c.toNat (by omega) (by have:=Utf.jF c;omega);omega

theorem alg(n:Nat)(hn:1≤n)(l Bs:Nat)(s:ByteArray)(hs:s.size≤1000000000)
  (J Jx:List (Nat×Int)→World→Prop)
  (hY:∀pre x W,J pre W→pre.length<s.size→YieldAt Fence.wide (n-1) Tryz.prog l #[.int .i64 (x.1:Int),.int .i64 x.2] W fun e W'=>
   (e=.returned (.bool true)∧J (pre++[x]) W'∧eX Bs W W')∨(e=.returned (.bool false)∧Jx (pre++[x]) W'))
  (W:World) (mz:W.cell? ⟨Bs,0,none⟩=some (.string s)) (h0:J [] W) :
  CallsIn Fence.wide n Tryz.prog 105 #[.func (.yield l) #[] #[],.pointer (some ⟨Bs,0,none⟩)] W fun e W'=>(∃v,e=.returned v)∧
   ((∃ys:List (Nat×Int),ys=upTo (Utf.pieces s.data.toList)∧J ys W')∨(∃pre:List (Nat×Int),(∃rest,pre++rest=upTo (Utf.pieces s.data.toList))∧Jx pre W')):=by
 refine callsIn_of_wp Tryz.func105 rfl trivial ?_ rfl;simp only[Tryz.ntmps105,List.size_toArray,List.length_cons,List.length_nil,Nat.reduceAdd,Nat.reduceSub,Array.replicate_succ,Array.replicate_zero,List.push_toArray,List.append_toArray,List.nil_append,List.cons_append];obtain⟨all,hall⟩:∃all,upTo (Utf.pieces s.data.toList)=all:=⟨_,rfl⟩;rw[hall];have mf:=ap hall;clear hall;gi_wp2
 gi_loopw [3] (fun i wr=>∃(k:Nat) (pre:List (Nat×Int)),k≤s.size∧i=.int .i64 k∧pre.length≤k∧pre++upTo (Utf.from_ k (s.data.toList.drop k))=all∧J pre wr∧eX Bs W wr)
  (fun i _=>s.size-(intOf i).toNat)
 case atStart=>exact⟨0,[],Nat.zero_le _,rfl,Nat.le_refl _,by rw[←mf.o];rfl,h0,rfl⟩
 case round=>
  obtain⟨k,pre,hk,rfl,hpl,jx,jn,aX⟩:=hrel;have cL:=ap jx;clear jx;have vZ:wr.cell? ⟨Bs,0,none⟩=some (.string s):=aX.cell mz
  by_cases hlt:k<s.size
  ·have fJ:=ER s k hlt;have hp:=GI s k hlt;have fY:=ajd (s.data.toList.drop k);have HP:=ap (ajj s k wr hlt hs);obtain⟨f,hf⟩:∃f,Utf.piece (s.data.toList.drop k)=f:=⟨_,rfl⟩;rw[hf] at hp fJ HP fY;have qO:=ap fJ;clear hf fJ
   by_cases ek:f.1<0
   ·have hv:yX f=.tuple #[.int .i64 0,.int .i64 0,.bool false]:=by unfold yX;rw[if_pos ek]
    rw[hv] at HP;have nz:=fY ek;have Ah:=ap (show upTo (Utf.from_ k (s.data.toList.drop k))=[(k,-1)] by rw[qO.o];unfold upTo;rw[if_pos ek,nz]);clear fY hv ek nz qO hp;obtain⟨fn,tmps,assign,body,hy,hR⟩:=hY pre (k,-1) wr jn (by omega);dsimp only at hy
    gi_wp2_with (refine⟨trivial,?_⟩;gi_at_call 106;refine (callsIn_wide.2 HP.o).mono ?_;rintro e w' ⟨rfl,rfl⟩)
    refine hR.mono ?_;rintro e W3 (⟨rfl,bY,aI⟩|⟨rfl,im⟩)
    ·gi_wp2;refine bodyPost_ret (results_none rfl _ _ _) rfl ?_;exact⟨⟨_,rfl⟩,.inl ⟨_,by rw[←cL.o,Ah.o],bY⟩⟩
    gi_wp2;refine bodyPost_ret (results_none rfl _ _ _) rfl ?_;exact⟨⟨_,rfl⟩,.inr ⟨_,⟨[],by rw[←cL.o,Ah.o,List.append_nil]⟩,im⟩⟩
   have hv:yX f=.tuple #[.int .i64 f.1,.int .i64 f.2,.bool true]:=by unfold yX;rw[if_neg ek]
   rw[hv] at HP;have Ah:=ap (show upTo (Utf.from_ k (s.data.toList.drop k))=(k,f.1) :: upTo (Utf.from_ (k+f.2.toNat) (s.data.toList.drop (k+f.2.toNat))) by rw[qO.o];conv=>lhs;unfold upTo;rw[if_neg ek]);clear fY hv ek qO;obtain⟨fn,tmps,assign,body,hy,hR⟩:=hY pre (k,f.1) wr jn (by omega);dsimp only at hy
   gi_wp2_with (refine⟨trivial,?_⟩;gi_at_call 106;refine (callsIn_wide.2 HP.o).mono ?_;rintro e w' ⟨rfl,rfl⟩)
   refine hR.mono ?_;rintro e W3 (⟨rfl,bY,aI⟩|⟨rfl,im⟩)
   ·gi_wp2
    go_roundw
    case rel=>exact⟨k+f.2.toNat,pre++[(k,f.1)],by omega,int_eq (by omega),by simp;omega,by rw[←cL.o,Ah.o];simp,bY,aX.trans aI⟩
    case measure=>simp[intOf];omega
   gi_wp2;refine bodyPost_ret (results_none rfl _ _ _) rfl ?_;exact⟨⟨_,rfl⟩,.inr ⟨_,⟨_,by rw[←cL.o,Ah.o,List.append_assoc];rfl⟩,im⟩⟩
  gi_wp2;go_end0;exact⟨⟨_,rfl⟩,.inl ⟨pre,by rw[←cL.o,List.drop_of_length_le (by simp;omega)];simp[Utf.AR,upTo],jn⟩⟩

theorem NI(s:ByteArray)(w:World) :
  Calls Tryz.prog 72 #[.string s] w fun e w'=>e=.returned (.func (.func 105) #[] #[.pointer (some ⟨w.heap.size,0,none⟩)])∧w'=w.alloc (.cells #[.string s] 9):=by
 go_enter Tryz.func72,Tryz.ntmps72
 go_wp2;go_ret;exact⟨rfl,rfl⟩

theorem NJ(n:Nat)(hn:1≤n)(Bs:Nat)(s:ByteArray)(hs:s.size≤1000000000)(w:World)(mz:Bs<w.heap.size)(hc:w.cell? ⟨Bs,0,none⟩=some (.string s)) :
  SeqStopsK Fence.wide n Tryz.prog 105 #[.pointer (some ⟨Bs,0,none⟩)] (fun x:Nat×Int=>#[Value.int .i64 (x.1:Int),Value.int .i64 x.2]) (eX Bs) (fun ys=>ys=upTo (Utf.pieces s.data.toList))
   (fun pre=>∃rest,pre++rest=upTo (Utf.pieces s.data.toList)) s.size w:=fun l J Jx W hW _ _ hY h0=>
 alg n hn l Bs s hs J Jx hY W ((hW.cell (p:=⟨Bs,0,none⟩) mz).trans hc) h0
end
section
open Go.RowKit Tk

def se(l:List (Int×Int)):List Value:=l.flatMap fun p=>[.int .i64 p.1,.int .i64 p.2]
theorem ako(l:List (Int×Int)):(se l).length=l.length*2:=by
 induction l with
 | nil=>rfl
 | cons p l ih=>unfold se at ih ⊢;rw[List.flatMap_cons,List.length_append,ih];simp;omega
theorem Nz:∀(l:List (Int×Int)) (k:Nat) (h:k<l.length),(se l)[k*2]?=some (.int .i64 l[k].1)∧(se l)[k*2+1]?=some (.int .i64 l[k].2)
 | p :: l,0,_=>⟨rfl,rfl⟩
 | p :: l,k+1,h=>by
  have ih:=Nz l k (by simpa using h);have e:se (p :: l)=.int .i64 p.1 :: .int .i64 p.2 :: se l:=rfl;rw[e,show (k+1)*2=k*2+2 by omega]
  simpa using ih
theorem acB{w:World}{g t n s:Nat}{xs:List Value}(h:ae w g t xs.toArray)(hl:xs.length=n*s):Reads w w.heap.size s (some ⟨g,0,none⟩) n xs :=
 ⟨hl,fun _=>⟨g,0,rfl,h.lt,fun j u hj=>by rw[Nat.zero_add,h.cell j];simpa using hj⟩⟩
def kK(l:List (Int×Int))(r:Int):Bool:=l.any fun p=>within r p.1 p.2

theorem anC(r:Int)(A:Option Addr)(c:Nat)(l:List (Int×Int))(w:World)(hA:Reads w w.heap.size 2 A l.length (se l))(hl:l.length≤1000) :
  Calls Tryz.prog 107 #[.int .i64 r,.slice A l.length c] w fun e w'=>e=.returned (.bool (kK l r))∧Below w.heap.size w w':=by
 obtain⟨n,hn⟩:∃n,l.length=n:=⟨_,rfl⟩;have HA:=ap hA;rw[hn] at ⊢ hl;have Hn:=ap hn;clear hn hA
 go_enter Tryz.func107,Tryz.ntmps107
 go_wp2
 go_loopg [9] n (fun g v wr=>∃k:Nat,g=n-k∧k≤n∧v=.int .i64 k∧kK l r=kK (l.drop k) r∧Below w.heap.size w wr)
 case atStart=>exact⟨0,rfl,by omega,rfl,rfl,Below.refl _ _⟩
 case round=>
  obtain⟨k,hg,hk,rfl,bB,hb⟩:=hrel;have Hg:=ap hg;have DL:=ap bB;have Hb:=ap hb;clear hg bB hb
  by_cases hlt:k<n
  ·have h1:k<l.length:=by rw[Hn.o];exact hlt
   obtain⟨b,off,rfl,bh,hc⟩:=(HA.o.below Hb.o).2 (by omega);obtain⟨p,hp⟩:∃p,l[k]=p:=⟨_,rfl⟩;have c0:=hc _ _ (Nz l k h1).1;have c1:=hc _ _ (Nz l k h1).2;rw[←Nat.add_assoc] at c1;rw[hp] at c0 c1;have Hd:=ap (show l.drop k=p :: l.drop (k+1) by rw[←hp];exact List.drop_eq_getElem_cons h1);clear hc hp;obtain⟨p1,p2⟩:=p;dsimp only at c0 c1
   by_cases ha:p1≤r
   ·by_cases af:r≤p2
    ·go_wp2;go_ret;refine⟨aC (aR ?_),?_⟩
     ·rw[DL.o,Hd.o];simp[kK,within,ha,af]
     exact Hb.o.alloc Hb.o.size _
    go_wp2
    go_roundg (n-(k+1))
    case measure=>have:=Hg.o;omega
    case rel=>exact⟨k+1,rfl,by omega,by go_num,by rw[DL.o,Hd.o];show (within r p1 p2||kK _ r)=_;rw[show within r p1 p2=false by unfold within;rw[decide_eq_false (Int.not_le.2 af),Bool.and_false],Bool.false_or],Hb.o.alloc Hb.o.size _⟩
   go_wp2
   go_roundg (n-(k+1))
   case measure=>have:=Hg.o;omega
   case rel=>exact⟨k+1,rfl,by omega,by go_num,by rw[DL.o,Hd.o];show (within r p1 p2||kK _ r)=_;rw[show within r p1 p2=false by unfold within;rw[decide_eq_false (Int.not_le.2 ha),Bool.false_and],Bool.false_or],Hb.o.alloc Hb.o.size _⟩
  go_wp2;go_ret;refine⟨aC (aR ?_),Hb.o⟩;rw[DL.o,List.drop_of_length_le (by rw[Hn.o];omega)];rfl
def Ku:List (Int×Int):=[(97,122),(65,90),(95,95),(192,214),(216,246),(248,767),(880,893),(895,8191),(8204,8205),(8304,8591),(11264,12271),(12289,55295),(63744,64975),(65008,65533),(65536,983039)]
def AU:List (Int×Int):=[(45,46),(48,57),(183,183),(768,879),(8255,8256)]
def J6:List (Int×Int):=[(9,10),(13,13),(32,55295),(57344,65533),(65536,1114111)]
theorem aeg(r:Int):kK Ku r=kp r:=by
 unfold kK Ku kp;simp only[List.any_cons,List.any_nil,Bool.or_false,Bool.or_assoc]
theorem acM(r:Int):kK J6 r=bX r:=by
 unfold kK J6 bX;simp only[List.any_cons,List.any_nil,Bool.or_false,Bool.or_assoc]
theorem aeC(r:Int):(kp r||kK AU r)=ly r:=by
 unfold kK AU ly;simp only[List.any_cons,List.any_nil,Bool.or_false,Bool.or_assoc]
theorem OE(r:Int)(l:List (Int×Int))(hl:l.length≤1000)(w W:World)(g:Nat)(hw:W=w.alloc (.cells (se l).toArray 172))(hg:g=w.heap.size) :
  Calls Tryz.prog 107 #[.int .i64 r,.slice (some ⟨g,0,none⟩) l.length l.length] W fun e w'=>e=.returned (.bool (kK l r))∧Below w.heap.size w w':=by
 subst hw hg;have hk:=ae.new w 172 (se l).toArray;refine (anC r _ _ l _ (acB hk (ako l)) hl).mono ?_;rintro e w' ⟨rfl,hb⟩;exact⟨rfl,(ay w _).trans (hb.mono (by simp))⟩
theorem Kv(r:Int)(w:World):Calls Tryz.prog 227 #[.int .i64 r] w fun e w'=>e=.returned (.bool (kp r))∧Below w.heap.size w w':=by
 have HW:=ap (show Calls Tryz.prog 107 #[.int .i64 r,.slice (some ⟨w.heap.size,0,none⟩) 15 15] (w.alloc (.cells #[.int .i64 97,.int .i64 122,.int .i64 65,.int .i64 90,.int .i64 95,.int .i64 95,.int .i64 192,.int .i64 214,.int .i64 216,.int .i64 246,.int .i64 248,.int .i64 767,.int .i64 880,.int .i64 893,.int .i64 895,.int .i64 8191,.int .i64 8204,.int .i64 8205,.int .i64 8304,.int .i64 8591,.int .i64 11264,.int .i64 12271,.int .i64 12289,.int .i64 55295,.int .i64 63744,.int .i64 64975,.int .i64 65008,.int .i64 65533,.int .i64 65536,.int .i64 983039] 172)) fun e w'=>e=.returned (.bool (kp r))∧Below w.heap.size w w' from by
  rw[←aeg];exact OE r Ku (by decide) w _ _ rfl rfl)
 generalize kp r=b at *
 go_enter Tryz.func227,Tryz.ntmps227
 go_wp2_with (go_at_call 107;refine HW.o.mono ?_;rintro e w' ⟨rfl,hb⟩)
 go_ret;exact⟨rfl,by assumption⟩
theorem J7(r:Int)(w:World):Calls Tryz.prog 73 #[.int .i64 r] w fun e w'=>e=.returned (.bool (bX r))∧Below w.heap.size w w':=by
 have HW:=ap (show Calls Tryz.prog 107 #[.int .i64 r,.slice (some ⟨w.heap.size,0,none⟩) 5 5] (w.alloc (.cells #[.int .i64 9,.int .i64 10,.int .i64 13,.int .i64 13,.int .i64 32,.int .i64 55295,.int .i64 57344,.int .i64 65533,.int .i64 65536,.int .i64 1114111] 172)) fun e w'=>e=.returned (.bool (bX r))∧Below w.heap.size w w' from by
  rw[←acM];exact OE r J6 (by decide) w _ _ rfl rfl)
 generalize bX r=b at *
 go_enter Tryz.func73,Tryz.ntmps73
 go_wp2_with (go_at_call 107;refine HW.o.mono ?_;rintro e w' ⟨rfl,hb⟩)
 go_ret;exact⟨rfl,by assumption⟩
theorem Tr(r:Int)(w:World):Calls Tryz.prog 203 #[.int .i64 r] w fun e w'=>e=.returned (.bool (ly r))∧Below w.heap.size w w':=by
 have HF:=ap (Kv r)
 have HW:=ap fun (W:World)=>(show Calls Tryz.prog 107 #[.int .i64 r,.slice (some ⟨W.heap.size,0,none⟩) 5 5] (W.alloc (.cells #[.int .i64 45,.int .i64 46,.int .i64 48,.int .i64 57,.int .i64 183,.int .i64 183,.int .i64 768,.int .i64 879,.int .i64 8255,.int .i64 8256] 172)) fun e w'=>e=.returned (.bool (kK AU r))∧Below W.heap.size W w' from
  OE r AU (by decide) W _ _ rfl rfl)
 have HE:=ap (aeC r);generalize ly r=c at *
 generalize kK AU r=d at *
 generalize kp r=b at *
 cases b with
 | true=>
  go_enter Tryz.func203,Tryz.ntmps203
  go_wp2_with (go_at_call 227;refine (HF.o _).mono ?_;rintro e w' ⟨rfl,hb⟩)
  go_ret;exact⟨aC (aR (by rw[←HE.o];rfl)),by assumption⟩
 | false=>
  go_enter Tryz.func203,Tryz.ntmps203
  go_wp2_with fail
  refine (HF.o _).mono ?_;rintro e w1 ⟨rfl,hb⟩
  go_wp2_with fail
  refine (HW.o _).mono ?_;rintro e w2 ⟨rfl,af⟩;go_wp2;go_ret;exact⟨aC (aR (by rw[←HE.o];rfl)),hb.trans (af.mono hb.size)⟩
theorem amA(r:Int)(w:World):Calls Tryz.prog 223 #[.int .i64 r] w fun e w'=>e=.returned (.bool (ly r||decide (r=58)))∧Below w.heap.size w w':=by
 have HF:=ap (Tr r);generalize ly r=b at *
 by_cases hr:r=58
 ·subst hr
  go_enter Tryz.func223,Tryz.ntmps223
  go_wp2;go_ret;exact⟨aC (aR (by simp)),Below.refl _ _⟩
 have hd:(r==58)=false:=by rw[beq_eq_false_iff_ne];exact hr
 have Hd:=ap (show decide (r=58)=false by simpa using hr);rw[Hd.o];clear hr Hd
 go_enter Tryz.func223,Tryz.ntmps223
 go_wp2_with (go_at_call 203;refine (HF.o _).mono ?_;rintro e w' ⟨rfl,hb⟩)
 go_ret;exact⟨aC (aR (by simp)),by assumption⟩
end
section
open Go.RowKit

theorem r6{w:World}{base e size n:Nat}{v:Value}{xs:List Value}(h:w.ownsRow base e size v n xs):∃A c,v=.slice A n c:=by
 rcases h.2 with ⟨rfl,rfl⟩|⟨g,cap,cur,rfl,_⟩
 ·exact⟨_,_,rfl⟩
 exact⟨_,_,rfl⟩

theorem amd{t:ByteArray}{l:List UInt8}(h:fS t l):Lib.strCells t=bE l:=by
 unfold fS at h;rw[←h];rfl

theorem XZ{P:Program}(w:World)(base:Nat)(t u ty e:TypeId)(ht:P.underlying t=some (.slice e))(hu:P.underlying u=some .string)
  (eL:(P.info? e).map (fun i=>(i.zero,i.size,i.bytes))=some (some (.int .u8 0),1,1))
  (v:Value) (n:Nat) (l:List UInt8) (hown:w.ownsRow base e 1 v n (bE l)) (s:ByteArray) (m:List UInt8) (hm:fS s m)
  (hbytes:n+m.length≤140737488355328) (hbase:base≤w.heap.size) :
  ∃A c w',(Builtin.append_ #[t,u] ty #[v,.string s]).run P w=.ok (.slice A (n+m.length) c) w'∧w'.ownsRow base e 1 (.slice A (n+m.length) c) (n+m.length) (bE (l++m))∧w.grownBy w' v.ownBlock:=by
 obtain⟨i,hi,hz,hsize,hby⟩:=info_parts eL;have hsz:=hm.size;obtain⟨v',w',hr,h2,h3,_⟩:=Lib.run_append_own_string (P:=P) w base t u ty e i ht hu hi hz hsize hby v n (bE l) hown s (by unfold maxLen;omega) (by omega) hbase;rw[amd hm,hsz,←Et] at h2;obtain⟨A,c,rfl⟩:=r6 h2;exact⟨A,c,w',hr,h2,h3⟩

theorem OM{P:Program}(w:World){ops:Array Oper}{rest:List Oper}{o:Oper}{a:Act}{Q:Exit→Act→World→Prop}(hgd:o.guard=none)(sl x:Operand)(t u:TypeId)
  (ho:o.op=.call { callee:=.builtin .append,args:=#[sl,x],argTypes:=#[t,u] })
  (base:Nat) (e:TypeId) (ht:P.underlying t=some (.slice e)) (hu:P.underlying u=some .string) (eL:(P.info? e).map (fun i=>(i.zero,i.size,i.bytes))=some (some (.int .u8 0),1,1))
  (v:Value) (n:Nat) (l:List UInt8) (hs:a.eval sl=v) (hown:w.ownsRow base e 1 v n (bE l)) (s:ByteArray) (m:List UInt8) (hm:fS s m) (hx:a.eval x=.string s)
  (hbytes:n+m.length≤140737488355328) (hbase:base≤w.heap.size)
  (h:∀A c w',w'.ownsRow base e 1 (.slice A (n+m.length) c) (n+m.length) (bE (l++m))→w.grownBy w' v.ownBlock→wpList P ops Q rest (a.put o.dst (.slice A (n+m.length) c)) w'):wpList P ops Q (o :: rest) a w:=by
 refine wpList_plain hgd fun K hK=>?_;obtain⟨A,c,w',hr,h2,h3⟩:=XZ (P:=P) w base t u o.type e ht hu eL v n l hown s m hm hbytes hbase;unfold Oper.wp execOp;simp only[ho,resolve,invoke,builtin,Sem.run_bind,Sem.run_pure,Result.andThen_ok,List.map_toArray,List.map_cons,List.map_nil,hs,hx,hr];exact hK _ _ (h A c w' h2 h3)

theorem OL{F:Fence}{N:Nat}{P:Program}(w:World){ops:Array Oper}{rest:List Oper}{o:Oper}{a:Act}{Q:Exit→Act→World→Prop}(hgd:o.guard=none)(sl x:Operand)(t u:TypeId)
  (ho:o.op=.call { callee:=.builtin .append,args:=#[sl,x],argTypes:=#[t,u] })
  (base:Nat) (e:TypeId) (ht:P.underlying t=some (.slice e)) (hu:P.underlying u=some .string) (eL:(P.info? e).map (fun i=>(i.zero,i.size,i.bytes))=some (some (.int .u8 0),1,1))
  (v:Value) (n:Nat) (l:List UInt8) (hs:a.eval sl=v) (hown:w.ownsRow base e 1 v n (bE l)) (s:ByteArray) (m:List UInt8) (hm:fS s m) (hx:a.eval x=.string s)
  (hbytes:n+m.length≤140737488355328) (hbase:base≤w.heap.size)
  (h:∀A c w',w'.ownsRow base e 1 (.slice A (n+m.length) c) (n+m.length) (bE (l++m))→w.grownBy w' v.ownBlock→wpListIn F N P ops Q rest (a.put o.dst (.slice A (n+m.length) c)) w'):wpListIn F N P ops Q (o :: rest) a w:=by
 refine wpListIn_plain hgd fun K hK=>?_;obtain⟨A,c,w',hr,h2,h3⟩:=XZ (P:=P) w base t u o.type e ht hu eL v n l hown s m hm hbytes hbase;unfold Oper.wpIn;refine⟨?_,?_⟩
 ·simp[Oper.about,ho,resolve,Target.leads,Sem.run_pure]
 rw[Oper.semAt_plain F _ _ (by rw[ho];intro c hc';cases hc')];simp[execOp,ho,resolve,invoke,builtin,hs,hx,hr,Result.andThen];exact hK _ _ (h A c w' h2 h3)

end
section
open Go.RowKit Go.Shelf

attribute [local go_sem] Oper.semAt_some

theorem wM:(Tryz.prog.info? 5).map (fun i=>(i.zero,i.size,i.bytes))=some (some (.int .u8 0),1,1):=by kernel_rfl

def er(l:List Pc):List (Nat×Int):=l.map (·.1)
theorem GG(l:List Pc)(x:Pc):er (l++[x])=er l++[x.1]:=by simp[er]
theorem ai9(l:List Pc):(er l).length=l.length:=by simp[er]
theorem Wz(l:List (Nat×Int))(x:Nat×Int):Utf.mended (l++[x])=Utf.mended l++(if x.2<0 then [0xEF,0xBF,0xBD] else (Utf.put x.2).map bv):=by
 unfold Utf.mended;rw[List.flatMap_append,List.flatMap_cons,List.flatMap_nil,List.append_nil];rfl
theorem ahK(l:List (Nat×Int)):(Utf.mended l).length≤4*l.length:=by
 induction l with
 | nil=>simp[Utf.mended]
 | cons x l ih=>
  have h:=zj x.2;unfold Utf.mended at ih ⊢;rw[List.flatMap_cons,List.length_append,List.length_cons]
  split<;>simp only[List.length_map,List.length_cons,List.length_nil]<;>omega

def JJ(w:World)(pre:List Pc)(W:World):Prop :=
 (∃v n,Boxed W w.heap.size 50 v∧W.ownsRow w.heap.size 5 1 v n (bE (Utf.mended (er pre))))∧Boxed W (w.heap.size+1) 3 (.int .i64 (Utf.dz (er pre)))∧(∃u,Boxed W (w.heap.size+1+1) 9 u)∧Below w.heap.size w W

theorem abx(w:World):OwnFrom (w.heap.size+3) (JJ w):=by
 rintro s X Y row ⟨⟨v,n,hv,hr⟩,h2,⟨u,hu⟩,h3⟩ hg ah
 have hne:∀{B:Nat} {t:TypeId} {u:Value},Boxed X B t u→some B≠row:=fun h e=>by
  obtain⟨_,o,ho,hc⟩:=ah _ e.symm;rw[show X.heap[_]?=_ from h] at ho;cases ho;cases hc
 refine⟨⟨v,n,hv.kept hg (hne hv),hr.kept hg ?_⟩,h2.kept hg (hne h2),⟨u,hu.kept hg (hne hu)⟩,h3.grown hg h3.size (fun k e=>by have:=(ah k e).1;omega)⟩
 rcases hr.2 with ⟨rfl,_⟩|⟨g,cap,cur,rfl,_,dG,_⟩
 ·exact .inl rfl
 refine .inr fun e'=>?_;obtain⟨_,o,ho,hc⟩:=ah g (by simpa[Value.ownBlock] using e'.symm);rw[dG] at ho;cases ho;cases hc

theorem cM{W w1:World}(h:Below W.heap.size W w1)(row:Option Nat):W.grownBy w1 row:=⟨h.os,h.tape,h.output,h.size,fun k hk _=>h.block k hk⟩
theorem mN{W w1:World}(h:Below W.heap.size W w1):KeepsOthers W w1:=⟨h.size,fun k o hk _=>(h.block k (Array.getElem?_eq_some_iff.1 hk).1).trans hk⟩

theorem MR{w W W2 w1:World}{pre pre':List Pc}{v v':Value}{n n':Nat}{m:List UInt8}{f1:Int}(hB:Below w.heap.size w W)(h3:w.heap.size+3≤W.heap.size)
  (pV:KeepsOthers W W2) (rM:eX (w.heap.size+1+1) W W2) (dc:Below w.heap.size w W2) (hcell:∃u,Boxed W2 (w.heap.size+1+1) 9 u)
  (hv:Boxed W2 w.heap.size 50 v) (hf:Boxed W2 (w.heap.size+1) 3 (.int .i64 f1)) (ah:W2.ownsRow w.heap.size 5 1 v n (bE (Utf.mended (er pre))))
  (hown:w1.ownsRow w.heap.size 5 1 v' n' (bE (Utf.mended (er pre)++m))) (hgrow:W2.grownBy w1 v.ownBlock)
  (hm:Utf.mended (er pre')=Utf.mended (er pre)++m) (nz:Utf.dz (er pre')=f1) :
  Boxed w1 w.heap.size 50 v∧KeepsOthers W (w1.setCell ⟨w.heap.size,0,none⟩ v')∧eX (w.heap.size+1+1) W (w1.setCell ⟨w.heap.size,0,none⟩ v')∧JJ w pre' (w1.setCell ⟨w.heap.size,0,none⟩ v'):=by
 have aU:Boxed w1 w.heap.size 50 v:=hv.kept hgrow (hv.not_row (by decide) ah);have afs:Boxed w1 (w.heap.size+1) 3 (.int .i64 f1):=hf.kept hgrow (hf.not_row (by decide) ah);obtain⟨u,hu⟩:=hcell;have dJ:w1.heap[w.heap.size+1+1]?=W2.heap[w.heap.size+1+1]?:=hgrow.block _ hu.lt (hu.not_row (by decide) ah);have hsz:w.heap.size≤W2.heap.size:=dc.size;refine⟨aU,?_,?_,⟨v',n',aU.set v',?_⟩,?_,⟨u,?_⟩,?_⟩
 ·refine (pV.trans (KeepsOthers.of_grownBy hgrow fun j o ej hj=>?_)).trans (KeepsOthers.setCell _ _ _);obtain⟨_,cs,fr,h⟩:=aD ah j ej;rw[h] at hj;cases hj;rfl
 ·refine rM.trans ?_;exact (Below.heap_setCell _ _ _ _ (by simp;omega)).trans dJ
 ·rw[hm];exact hown.kept (grownBy_setCell' w1 _ v') (.inr (aU.not_row (by decide) hown).symm)
 ·rw[nz];exact afs.kept (grownBy_setCell' w1 _ v') (by simp)
 ·exact (Below.heap_setCell _ _ _ _ (by simp;omega)).trans (dJ.trans hu)
 refine (dc.grown hgrow hsz fun j ej=>(aD ah j ej).1).setCell (p:=⟨w.heap.size,0,none⟩) (Nat.le_refl _) v'

theorem ahw(b:ByteArray)(w:World)(hs:b.size≤1000000000) :
  Calls Tryz.prog 92 #[.string b] w fun e w'=>(∃t:ByteArray,e=.returned (.tuple #[.string t,.int .i64 (Utf.dz (Utf.pieces b.data.toList))])∧fS t (Utf.mended (Utf.pieces b.data.toList)))∧Below w.heap.size w w':=by
 refine (callsIn_wide (n:=5)).1 ?_;refine callsIn_of_wp_marks Tryz.func92 rfl trivial ?_ rfl;simp only[Tryz.ntmps92,List.size_toArray,List.length_cons,List.length_nil,Nat.reduceAdd,Nat.reduceSub,Array.replicate_succ,Array.replicate_zero,List.push_toArray,List.append_toArray,List.nil_append,List.cons_append]
 gi_wp2_with (refine⟨trivial,?_⟩;gi_at_call 128;refine (callsIn_wide.2 (Xu _ _)).mono ?_;rintro e w' ⟨rfl,rfl⟩)
 have b0:=Boxed.new w 50 (.slice none 0 0);have b1:=Boxed.new (w.alloc (.cells #[.slice none 0 0] 50)) 3 (.int .i64 (-1));rw[World.size_alloc] at b1;have b2:=Boxed.new ((w.alloc (.cells #[.slice none 0 0] 50)).alloc (.cells #[.int .i64 (-1)] 3)) 9 (.string b);rw[World.size_alloc,World.size_alloc] at b2
 have rq:Below w.heap.size w (((w.alloc (.cells #[.slice none 0 0] 50)).alloc (.cells #[.int .i64 (-1)] 3)).alloc (.cells #[.string b] 9)) :=
  (((Below.refl _ w).alloc (Nat.le_refl _) _).alloc (by simp) _).alloc (by simp;omega) _
 refine wpIn_rangeFunc_ownG rfl (by omega) (gf:=177) (lb:=#[.pointer (some ⟨w.heap.size+1+1,0,none⟩)]) rfl trivial (enters_of Tryz.func177 (by kernel_rfl) rfl)
  (Xx (5-1) (by omega) (w.heap.size+1+1) b hs _ (by simp) b2.cell) eX.trans (CS (by simp)) (Below.refl _ _) (fun _=>rfl)
  (JJ w) (fun _ _ _=>False) (by simpa using abx w) (fun _ _ _ _ _ hs _ _=>hs)
  ⟨⟨_,0,(b0.alloc _).alloc _,World.ownsRow_nil _ _ _ _⟩,b1.alloc _,⟨_,b2⟩,rq⟩
  (fun x=>{ tmps:=#[.string b,undef,.string ⟨#[]⟩,.int .i64 0,.pointer (some ⟨w.heap.size,0,none⟩),.pointer (some ⟨w.heap.size+1,0,none⟩),.int .i64 (x.1.1:Int),.int .i64 x.1.2,undef,undef,.string b,
   .func (.func 177) #[] #[.pointer (some ⟨w.heap.size+1+1,0,none⟩)],.int .i64 (x.1.1:Int),.int .i64 x.1.2,undef,undef,undef,undef,undef,undef,undef,undef,undef,undef,undef,undef,undef,undef,undef,undef],defers:=[] }) ?assign ?body ?done ?stop
 case assign=>
  intro l x W K hK;gi_wp2;exact hK
 case body=>
  rintro l pre ⟨⟨at_,r⟩,hx⟩ W ⟨⟨v,n,hv,ah⟩,hf,hu,hB⟩ hlen;obtain⟨A,c,rfl⟩:=r6 ah;dsimp only at hx ⊢
  have hn:n≤4*pre.length:=by
   have h1:=ah.1;have h2:=ahK (er pre);rw[J0] at h1;rw[ai9] at h2;omega
  have hc:=hv.cell;have Br:=hf.cell;have hff:=hf.frozen;obtain⟨f0,Bw⟩:∃f0,Utf.dz (er pre)=f0:=⟨_,rfl⟩;have tN:=Utf.aee (er pre);rw[Bw] at hf Br tN;have Qz:=ap Bw;clear Bw;have h3:w.heap.size+3≤W.heap.size:=by obtain⟨u,hu⟩:=hu;have:=hu.lt;omega
  by_cases hr:r<0
  ·have HP:=ap (fun W=>XD r W (show Utf.isScalar r=false by simp[Utf.isScalar];omega));have hm:Utf.mended (er (pre++[⟨(at_,r),hx⟩]))=Utf.mended (er pre)++[0xEF,0xBF,0xBD]:=by rw[GG,Wz,if_pos hr]
   have nB:Utf.dz (er (pre++[⟨(at_,r),hx⟩]))=if f0<0 then (at_:Int) else f0:=by rw[GG,Utf.SX,Qz.o,if_pos hr]
   have Hm:=ap hm;have mh:=ap nB;clear hm nB;generalize pre++[⟨(at_,r),hx⟩]=pre' at *
   by_cases ek:f0<0
   ·have pV:KeepsOthers W (W.setCell ⟨w.heap.size+1,0,none⟩ (.int .i64 (at_:Int))):=KeepsOthers.setCell _ _ _;have rM:eX (w.heap.size+1+1) W (W.setCell ⟨w.heap.size+1,0,none⟩ (.int .i64 (at_:Int))):=Below.heap_setCell _ _ _ _ (by simp);have dc:=hB.setCell (p:=⟨w.heap.size+1,0,none⟩) (by simp) (.int .i64 (at_:Int))
    have hcell:∃u,Boxed (W.setCell ⟨w.heap.size+1,0,none⟩ (.int .i64 (at_:Int))) (w.heap.size+1+1) 9 u:=by
     obtain⟨u,hu⟩:=hu;exact⟨u,hu.kept (grownBy_setCell' _ _ _) (by simp)⟩
    have cQ:Boxed (W.setCell ⟨w.heap.size+1,0,none⟩ (.int .i64 (at_:Int))) w.heap.size 50 (.slice A n c):=hv.kept (grownBy_setCell' _ _ _) (by simp);have nA:=hf.set (.int .i64 (at_:Int));have lU:=ah.kept (grownBy_setCell' W (w.heap.size+1) (.int .i64 (at_:Int))) (.inr (hf.not_row (by decide) ah).symm);have Js:=ap (show Utf.dz (er pre')=(at_:Int) by rw[mh.o,if_pos ek]);clear mh hu
    gi_wp2_with (first
     | (refine⟨trivial,?_⟩;gi_at_call 118;refine (CallsIn.inRound l (callsIn_wide.2 (HP.o _))).mono ?_;rintro e w' ⟨rfl,rfl⟩)
     | (gi_at_builtin;go_must (refine OL _ rfl (.tmp 24) (.tmp 25) 50 9 rfl w.heap.size 5 Tryz.underlying50 Tryz.underlying9 wM (.slice A n c) n (Utf.mended (er pre)) rfl lU _ [0xEF,0xBF,0xBD] (show fS ⟨#[239,191,189]⟩ [0xEF,0xBF,0xBD] from rfl) rfl (by simp only[List.length_cons,List.length_nil];omega) dc.size ?_);intro A1 c1 w1 hown1 cN;obtain⟨aU,bZ,hs1,AZ⟩:=MR hB h3 pV rM dc hcell cQ nA lU hown1 cN Hm.o Js.o;have cR:=aU.cell;have UH:=aU.frozen))
    exact⟨bZ.from _,hs1,AZ⟩
   have Js:=ap (show Utf.dz (er pre')=f0 by rw[mh.o,if_neg ek]);clear mh;have mh:=Js;have pV:=KeepsOthers.refl W;have rM:eX (w.heap.size+1+1) W W:=rfl;have dc:=hB;have hcell:=hu;have cQ:=hv;have nA:=hf;have lU:=ah;clear hu
   gi_wp2_with (first
    | (refine⟨trivial,?_⟩;gi_at_call 118;refine (CallsIn.inRound l (callsIn_wide.2 (HP.o _))).mono ?_;rintro e w' ⟨rfl,rfl⟩)
    | (gi_at_builtin;go_must (refine OL _ rfl (.tmp 24) (.tmp 25) 50 9 rfl w.heap.size 5 Tryz.underlying50 Tryz.underlying9 wM (.slice A n c) n (Utf.mended (er pre)) rfl lU _ [0xEF,0xBF,0xBD] (show fS ⟨#[239,191,189]⟩ [0xEF,0xBF,0xBD] from rfl) rfl (by simp only[List.length_cons,List.length_nil];omega) dc.size ?_);intro A1 c1 w2 hown1 cN;obtain⟨aU,bZ,hs1,AZ⟩:=MR hB h3 pV rM dc hcell cQ nA lU hown1 cN Hm.o mh.o;have cR:=aU.cell;have UH:=aU.frozen))
   exact⟨bZ.from _,hs1,AZ⟩
  have hsc:Utf.isScalar r=true:=by rcases hx with h|h;exact absurd h hr;exact h
  have HP:=ap (fun W=>Nt r W hsc);have hm:Utf.mended (er (pre++[⟨(at_,r),hx⟩]))=Utf.mended (er pre)++(Utf.put r).map bv:=by rw[GG,Wz,if_neg hr]
  have nB:Utf.dz (er (pre++[⟨(at_,r),hx⟩]))=f0:=by
   rw[GG,Utf.SX,Qz.o];simp only[hr,if_false]
   split<;>omega
  have Hm:=ap hm;have mh:=ap nB;have hpl:=zj r;clear hm nB hsc;generalize pre++[⟨(at_,r),hx⟩]=pre' at *
  clear hx;obtain⟨u,hu⟩:=hu;obtain⟨pl,FB⟩:∃pl,(Utf.put r).map bv=pl:=⟨_,rfl⟩;have apq:pl.length≤4:=by rw[←FB];simpa using hpl
  rw[FB] at Hm;have DU:=ap FB;clear FB hpl
  gi_wp2_with (first
   | (refine⟨trivial,?_⟩;gi_at_call 118;refine (CallsIn.inRound l (callsIn_wide.2 (HP.o _))).mono ?_;rintro e w1 ⟨⟨t,rfl,ht⟩,ak⟩;rw[DU.o] at ht;have pV:=mN ak;have rM:eX (w.heap.size+1+1) W w1:=ak.block _ (by omega);have dc:Below w.heap.size w w1:=hB.trans (ak.mono hB.size);have hcell:∃u,Boxed w1 (w.heap.size+1+1) 9 u:=⟨u,hu.kept (cM ak none) (by simp)⟩;have cQ:=hv.kept (cM ak none) (by simp);have nA:=hf.kept (cM ak none) (by simp);have lU:=ah.kept (cM ak none) (by simp[Value.ownBlock];cases A<;>simp);have bj:=cQ.cell)
   | (gi_at_builtin;go_must (refine OL _ rfl (.tmp 24) (.tmp 25) 50 9 rfl w.heap.size 5 Tryz.underlying50 Tryz.underlying9 wM (.slice A n c) n (Utf.mended (er pre)) rfl lU _ pl ht rfl (by omega) dc.size ?_);intro A1 c1 w2 hown1 cN;obtain⟨aU,bZ,hs1,AZ⟩:=MR hB h3 pV rM dc hcell cQ nA lU hown1 cN Hm.o mh.o;have cR:=aU.cell;have UH:=aU.frozen))
  exact⟨bZ.from _,hs1,AZ⟩
 case done=>
  rintro D ys W hD dW ⟨⟨v,n,hv,ah⟩,hf,hu,hB⟩ hK;obtain⟨A,c,rfl⟩:=r6 ah;have hc:=hv.cell;have Br:=hf.cell;have VH:er ys=Utf.pieces b.data.toList:=dW;rw[VH] at ah Br;obtain⟨t,hcv,ht⟩:=X0 (P:=Tryz.prog) W.drew 50 9 5 Tryz.underlying50 Tryz.underlying5 Tryz.underlying9 (Utf.mended (Utf.pieces b.data.toList)) ah.drew;have Ht:=ap ht;clear ht dW VH;obtain⟨md,tU⟩:∃md,Utf.mended (Utf.pieces b.data.toList)=md:=⟨_,rfl⟩;obtain⟨fb,nB⟩:∃fb,Utf.dz (Utf.pieces b.data.toList)=fb:=⟨_,rfl⟩;rw[tU] at ah;rw[nB] at Br;have Hmd:=ap tU;have mh:=ap nB;clear tU nB;gi_wp2
  gi_region
  all_goals gi_wp2
  all_goals
   refine⟨by simp,.inl ⟨_,_,rfl,run_takeDeferred (w:=W.drew) hK,?_⟩⟩;refine⟨_,results_tmp2 rfl _ _ _,?_⟩;exact⟨⟨t,Ny rfl (int_eq mh.o.symm),Ht.o⟩,hB.drew.trans (belowK_b (w:=w) (Nat.le_refl _) W.drew D _ _ (by simp at hD;omega) hK rfl rfl)⟩
 case stop=>
  rintro D c pre W _ _ h _;exact h.elim

theorem Om(s:ByteArray)(w:World)(hs:s.size≤1000000000) :
  Calls Tryz.prog 63 #[.string s] w fun e w'=>e=.returned (.bool (Utf.valid s.data.toList))∧Below w.heap.size w w':=by
 obtain⟨fb,nB⟩:∃fb,Utf.dz (Utf.pieces s.data.toList)=fb:=⟨_,rfl⟩;have HV:=ap (Utf.Zc s.data.toList);have mh:=ap nB;have HL:=ap (ahw s w hs);clear nB
 go_enter Tryz.func63,Tryz.ntmps63
 go_wp2_with (go_at_call 92;refine HL.o.mono ?_;rintro e w' ⟨⟨t,rfl,_⟩,hb⟩;rw[mh.o])
 go_ret;exact⟨aC (aR (by rw[HV.o,mh.o])),hb⟩
end
end Go.Proofs.YtpdkeckeekchlaaGreatDoor
