/- References: the iterator over a text's pieces. And more. -/
import Derived.Test.YtnbmfljhbpfilaaGreatDoorOw04
import Derived.Test.YtnbmfljhbpfilaaGreatDoorOw08
import Derived.Test.YtnbmfljhbpfilaaGreatDoorOw09
set_option linter.unusedSimpArgs false
set_option maxRecDepth 100000
set_option maxHeartbeats 8000000
set_option linter.unusedVariables false
namespace Go.Proofs.YtnbmfljhbpfilaaGreatDoor
section
open Go.RowKit Go.Shelf Tk Sx

attribute [local go_sem] Oper.semAt_some

namespace Sx
structure dv where
 at_:Nat
 ref:Bool
 text:L
def bY:Nat→Nat→L→List dv
 | 0,_,_=>[]
 | f+1,at_,l=>if l=[] then [] else
  if 0<Lib.indexByte l 38 then ⟨at_,false,l.take (Lib.indexByte l 38).toNat⟩ :: bY f (at_+(Lib.indexByte l 38).toNat) (l.drop (Lib.indexByte l 38).toNat)
  else if Lib.indexByte l 38=0 then match ends l.tail with
   | some n=>⟨at_,true,l.tail.take n⟩ :: bY f (at_+n+2) (l.drop (n+2))
   | none=>⟨at_,false,[38]⟩ :: bY f (at_+1) (l.drop 1)
  else [⟨at_,false,l⟩]
end Sx
def vV(x:dv):Array Value:=#[.agg #[.int .i64 (x.at_:Int),.bool x.ref,.string (aa x.text)]]
def PK(Bs:Nat)(W W':World):Prop:=W.heap.size≤W'.heap.size∧∀g,g<W.heap.size→(g=Bs∨bO W g 158)→W'.heap[g]?=W.heap[g]?
theorem PK.trans{Bs:Nat}{X Y Z:World}(h:PK Bs X Y)(k:PK Bs Y Z):PK Bs X Z:=⟨Nat.le_trans h.1 k.1,fun g hg hk=>by
 have e:=h.2 g hg hk;rw[←e];refine k.2 g (Nat.lt_of_lt_of_le hg h.1) ?_
 rcases hk with hk|⟨cs,fr,hk⟩
 ·exact .inl hk
 exact .inr ⟨cs,fr,e.trans hk⟩⟩
theorem BU{Bs:Nat}{W W':World}(h:Below W.heap.size W W'):PK Bs W W':=⟨h.size,fun g hg _=>h.block g hg⟩
theorem Cb{f at_:Nat}:bY f at_ []=[]:=by cases f<;>simp[bY]
theorem MV{f k m:Nat}{l:L}(h0:l≠[])(h:Lib.indexByte l 38=(m:Int))(hm:0<m):bY (f+1) k l=⟨k,false,l.take m⟩ :: bY f (k+m) (l.drop m):=by
 rw[bY,if_neg h0,h,if_pos (by omega),Int.toNat_natCast]
theorem MT{f k n:Nat}{l:L}(h0:l≠[])(h:Lib.indexByte l 38=0)(he:ends l.tail=some n):bY (f+1) k l=⟨k,true,l.tail.take n⟩ :: bY f (k+n+2) (l.drop (n+2)):=by
 rw[bY,if_neg h0,h,if_neg (by omega),if_pos rfl,he]
theorem MS{f k:Nat}{l:L}(h0:l≠[])(h:Lib.indexByte l 38=0)(he:ends l.tail=none):bY (f+1) k l=⟨k,false,[38]⟩ :: bY f (k+1) (l.drop 1):=by
 rw[bY,if_neg h0,h,if_neg (by omega),if_pos rfl,he]
theorem MU{f k:Nat}{l:L}(h0:l≠[])(h:Lib.indexByte l 38<0):bY (f+1) k l=[⟨k,false,l⟩]:=by
 rw[bY,if_neg h0,if_neg (by omega),if_neg (by omega)]
theorem ago{l:L}{c:UInt8}{k:Nat}(h:Lib.indexByte l c=k):k<l.length:=by
 induction l generalizing k with
 | nil=>simp[Lib.indexByte] at h
 | cons b l ih=>
  unfold Lib.indexByte at h
  split at h
  ·have:k=0:=by omega
   subst this;simp
  (try dsimp only at h)
  split at h
  ·omega
  rename_i h1 h2
  have hg:=Lib.indexByte_ge l c
  obtain⟨j,hj⟩:∃j:Nat,Lib.indexByte l c=j:=⟨(Lib.indexByte l c).toNat,by
   have:Lib.indexByte l c≠-1:=by simpa using h2
   omega⟩
  have:=ih hj;simp only[List.length_cons];omega

theorem akd(n:Nat)(hn:1≤n)(l Bs:Nat)(s:ByteArray)(hs:s.size≤1000000000)
  (J Jx:List dv→World→Prop) (W:World) (hJ:AbidesFrom W.heap.size J) (xD:Bs<W.heap.size)
  (hY:∀pre x W,J pre W→pre.length<s.size→x.text.length≤s.size→x∈bY s.size 0 s.data.toList→YieldAt Fence.wide (n-1) Tryz.prog l (vV x) W fun e W'=>
   (e=.returned (.bool true)∧J (pre++[x]) W'∧PK Bs W W')∨(e=.returned (.bool false)∧Jx (pre++[x]) W'))
  (mh:W.cell? ⟨Bs,0,none⟩=some (.string s)) (h0:J [] W) :
  CallsIn Fence.wide n Tryz.prog 127 #[.func (.yield l) #[] #[],.pointer (some ⟨Bs,0,none⟩)] W fun e W'=>(∃v,e=.returned v)∧
   ((∃ys:List dv,ys=bY s.size 0 s.data.toList∧J ys W')∨(∃pre:List dv,(∃rest,pre++rest=bY s.size 0 s.data.toList)∧Jx pre W')):=by
 have HJ:=hide (fun pre W1 W2 (h:J pre W1) (hb:Below W1.heap.size W1 W2)=>hJ pre W1 W2 none h (cK hb none) (fun r e=>by cases e));refine callsIn_of_wp Tryz.func127 rfl trivial ?_ rfl;simp only[Tryz.ntmps127,List.size_toArray,List.length_cons,List.length_nil,Nat.reduceAdd,Nat.reduceSub,Array.replicate_succ,Array.replicate_zero,List.push_toArray,List.append_toArray,List.nil_append,List.cons_append];obtain⟨D,hD⟩:∃D,s.data.toList=D:=⟨_,rfl⟩;have cf:=hide (show D.length=s.size by rw[←hD,bL]);have Uc:∀k:Nat,s.extract k s.size=aa (D.drop k):=fun k=>by rw[iY,hD]
 have PT:=hide Uc;have ub:=hide (show ∀a b:Nat,s.extract a b=aa ((D.drop a).take (b-a)) from fun a b=>by rw[mg,hD]);rw[hD];obtain⟨all,hall⟩:∃all,bY s.size 0 D=all:=⟨_,rfl⟩;rw[hall];have lX:=hide hall;have HA:=hide (show bY s.size 0 s.data.toList=all by rw[hD,hall]);have oR:Hid (∀(q:L) W,Calls Tryz.prog 35 #[.string (aa q),.int .u8 38] W fun e w'=>e=.returned (.int .i64 (Lib.indexByte q 38))∧w'=W):=hide (fun (q:L) W=>Tryz.strings_IndexByte (aa q) 38 W);have ZI:=hide (fun (q:L) W (h:q.length≤1000000000)=>adA (aa q) W (by rw[aC];exact h));clear hall Uc hD hJ;gi_wp2
 gi_loopw [3] (fun i wr=>∃(k f:Nat) (pre:List dv),k≤s.size∧i=.int .i64 k∧pre.length≤k∧s.size-k≤f∧pre++bY f k (D.drop k)=all∧J pre wr∧PK Bs W wr)
  (fun i _=>s.size-(intOf i).toNat)
 case atStart=>exact⟨0,s.size,[],Nat.zero_le _,rfl,Nat.le_refl _,by omega,by rw[←lX.out];rfl,h0,⟨Nat.le_refl _,fun _ _ _=>rfl⟩⟩
 case round=>
  obtain⟨k,f,pre,hk,rfl,hpl,hf,jl,ja,bB⟩:=hrel;have cJ:=hide jl;have pO:=hide ja;have bC:=hide bB;have vg:wr.cell? ⟨Bs,0,none⟩=some (.string s):=(World.cell?_of_block (a:=⟨Bs,0,none⟩) (bB.2 Bs xD (.inl rfl))).trans mh;have gU:Bs<wr.heap.size:=Nat.lt_of_lt_of_le xD bB.1;clear jl ja bB
  by_cases hlt:k<s.size
  ·have hne:D.drop k≠[]:=fun e=>by have:=congrArg List.length e;rw[List.length_drop,cf.out] at this;simp at this;omega
   obtain⟨f,rfl⟩:∃f',f=f'+1:=⟨f-1,by omega⟩;have aQ:(D.drop k).length=s.size-k:=by rw[List.length_drop,cf.out]
   have hxk:=PT.out k;have hI:=oR.out (D.drop k);obtain⟨z,hz⟩:∃z,Lib.indexByte (D.drop k) 38=z:=⟨_,rfl⟩;rw[hz] at hI
   by_cases hz1:0<z
   ·obtain⟨m,rfl⟩:∃m:Nat,z=m:=⟨z.toNat,by omega⟩;have jG:=ago hz;have Hp:=hide (show bY (f+1) k (D.drop k)=⟨k,false,(D.drop k).take m⟩ :: bY f (k+m) (D.drop (k+m)) by rw[MV hne hz (by omega),List.drop_drop]);have mo:(aa (D.drop k)).extract 0 m=aa ((D.drop k).take m):=by rw[mg,aP,List.drop_zero,Nat.sub_zero]
    have LI:((D.drop k).take m).length≤s.size:=by rw[List.length_take];omega
    have hsz:(aa ((D.drop k).take m)).size=m:=by rw[aC,List.length_take];omega
    have hb:0≤(m:Int)∧(m:Int)≤((aa (D.drop k)).size:Int):=by rw[aC];omega
    have hwm:IntKind.i64.wrap ((k:Int)+(m:Int))=(k:Int)+(m:Int):=IntWalk.i64_in _ (by omega);have HN:=hide (show k+m≤s.size∧0<m by omega);have qL:(0:Int)<(m:Int):=by omega
    generalize (D.drop k).take m=tx at *
    have cg:=hide (ae.new wr 158 #[.int .i64 (k:Int),.bool false,.string (aa tx)]);have rU:=hide (BU (Bs:=Bs) (az wr (.cells #[.int .i64 (k:Int),.bool false,.string (aa tx)] 158)));have uQ:=HJ.out pre wr _ pO.out (az wr (.cells #[.int .i64 (k:Int),.bool false,.string (aa tx)] 158));obtain⟨fn,tmps,assign,body,hy,hR⟩:=hY pre ⟨k,false,tx⟩ _ uQ (by omega) LI (by rw[HA.out,←cJ.out,Hp.out];simp);unfold vV at hy;dsimp only at hy;clear hz aQ hne hz1 jG
    gi_wp2_with (refine⟨trivial,?_⟩;gi_at_call 35;refine (callsIn_wide.2 (hI _)).mono ?_;rintro e w2 ⟨rfl,hw2⟩;subst w2)
    refine hR.mono ?_;rintro e W3 (⟨rfl,bV,aH⟩|⟨rfl,gV⟩)
    ·have eT:=aH.2 wr.heap.size cg.out.lt (.inr cg.out.eR);have t0:=(World.cell?_of_block (a:=⟨wr.heap.size,0,none⟩) eT).trans (cg.out.cell 0);have t1:=(World.cell?_of_block (a:=⟨wr.heap.size,1,none⟩) eT).trans (cg.out.cell 1);have t2:=(World.cell?_of_block (a:=⟨wr.heap.size,2,none⟩) eT).trans (cg.out.cell 2);have cQ:=hide aH;have gO:=hide bV;clear eT aH bV;gi_wp2
     go_roundw
     case rel=>exact⟨k+m,f,pre++[⟨k,false,tx⟩],HN.out.1,int_eq (by have:=HN.out.2;omega),by simp;have:=HN.out.2;omega,by have:=HN.out;omega,by rw[←cJ.out,Hp.out];simp,gO.out,bC.out.trans (rU.out.trans cQ.out)⟩
     case measure=>have:=HN.out;simp[intOf];omega
    gi_wp2;refine bodyPost_ret (results_none rfl _ _ _) rfl ?_;exact⟨⟨_,rfl⟩,.inr ⟨_,⟨_,by rw[←cJ.out,Hp.out,List.append_assoc];rfl⟩,gV⟩⟩
   by_cases hz0:z=0
   ·subst hz0;have cn:k+1≤s.size:=by omega
    have jn:(D.drop k).tail=D.drop (k+1):=by rw[List.tail_drop]
    have ao8:=PT.out (k+1);have lK:IntKind.i64.wrap ((k:Int)+1)=(k:Int)+1:=IntWalk.i64_in _ (by omega);have aq:0≤(k:Int)+1∧(k:Int)+1≤(s.size:Int)∧(s.size:Int)≤(s.size:Int):=by omega
    have tn1:((k:Int)+1).toNat=k+1:=by omega
    have hE:=ZI.out (D.drop (k+1)) (wr.alloc (.cells #[.int .i64 (k:Int),.bool false,.string (aa [38])] 158)) (by rw[List.length_drop,cf.out];omega);rw[aP] at hE;unfold k9 at hE;rw[List.drop_zero] at hE;have cg:=hide (ae.new wr 158 #[.int .i64 (k:Int),.bool false,.string (aa [38])]);have ay:=hide (az wr (.cells #[.int .i64 (k:Int),.bool false,.string (aa [38])] 158));have QY:aa [38]=⟨#[38]⟩:=rfl
    cases he:ends (D.drop (k+1)) with
    | none=>
     rw[he] at hE;dsimp only at hE;have ua:=hide hE;have Hp:=hide (show bY (f+1) k (D.drop k)=⟨k,false,[38]⟩ :: bY f (k+1) (D.drop (k+1)) by rw[MS hne hz (by rw[jn];exact he),List.drop_drop]);have HN:=hide (show k+1≤s.size∧0<1 by omega);have hsz:(aa [38]).size=1:=rfl;rw[QY] at *
     clear hz aQ hne hz1 he hE jn
     gi_wp2_with (first | (refine⟨trivial,?_⟩;gi_at_call 35;refine (callsIn_wide.2 (hI _)).mono ?_;rintro e w2 ⟨rfl,hw2⟩;subst w2) | fail)
     refine⟨trivial,?_⟩
     gi_at_call 128
     refine (callsIn_wide.2 ua.out).mono ?_;rintro e w3 ⟨rfl,b3⟩;have cj:=hide (ae.go cg.out b3);have aw:=hide (ay.out.trans (b3.mono ay.out.size));have wM:=hide (BU (Bs:=Bs) aw.out);have uQ:=HJ.out pre wr _ pO.out aw.out;have y0:=ae.cell cj.out 0;have y1:=ae.cell cj.out 1;have y2:=ae.cell cj.out 2;obtain⟨fn,tmps,assign,body,hy,hR⟩:=hY pre ⟨k,false,[38]⟩ _ uQ (by omega) (by show 1≤s.size;omega) (by rw[HA.out,←cJ.out,Hp.out];simp);unfold vV at hy;dsimp only at hy;clear b3 cg ay;have E4:(aa [38]).size=1:=rfl;gi_wp2;refine hR.mono ?_;rintro e W3 (⟨rfl,bV,aH⟩|⟨rfl,gV⟩)
     ·have eT:=aH.2 wr.heap.size cj.out.lt (.inr cj.out.eR);have t0:=(World.cell?_of_block (a:=⟨wr.heap.size,0,none⟩) eT).trans (cj.out.cell 0);have t1:=(World.cell?_of_block (a:=⟨wr.heap.size,1,none⟩) eT).trans (cj.out.cell 1);have t2:=(World.cell?_of_block (a:=⟨wr.heap.size,2,none⟩) eT).trans (cj.out.cell 2);have cQ:=hide aH;have gO:=hide bV;clear eT aH bV;gi_wp2
      go_roundw
      case rel=>exact⟨k+1,f,pre++[⟨k,false,[38]⟩],HN.out.1,int_eq (by have:=HN.out.2;omega),by simp;have:=HN.out.2;omega,by have:=HN.out;omega,by rw[←cJ.out,Hp.out];simp,gO.out,bC.out.trans (wM.out.trans cQ.out)⟩
      case measure=>have:=HN.out;simp[intOf];omega
     gi_wp2;refine bodyPost_ret (results_none rfl _ _ _) rfl ?_;exact⟨⟨_,rfl⟩,.inr ⟨_,⟨_,by rw[←cJ.out,Hp.out,List.append_assoc];rfl⟩,gV⟩⟩
    | some n0=>
     rw[he] at hE;dsimp only at hE;rw[Nat.zero_add] at hE;have ua:=hide hE;have iG:=JI he;rw[List.length_drop,cf.out] at iG;have Hp:=hide (show bY (f+1) k (D.drop k)=⟨k,true,(D.drop (k+1)).take n0⟩ :: bY f (k+n0+2) (D.drop (k+n0+2)) by rw[MT hne hz (by rw[jn];exact he),List.drop_drop,jn,show k+(n0+2)=k+n0+2 by omega]);have hxt:s.extract (k+1) (k+1+n0)=aa ((D.drop (k+1)).take n0):=by rw[ub.out,Nat.add_sub_cancel_left]
     have LI:((D.drop (k+1)).take n0).length≤s.size:=by rw[List.length_take];omega
     have hsz:(aa ((D.drop (k+1)).take n0)).size=n0:=by rw[aC,List.length_take,List.length_drop,cf.out];omega
     generalize (D.drop (k+1)).take n0=tx at *
     obtain⟨q,hq⟩:∃q,k+1+n0=q:=⟨_,rfl⟩;rw[hq] at hxt;have HN:=hide (show k+n0+2≤s.size∧0<n0+2 by omega);have hgn:(0:Int)≤(n0:Int):=by omega
     have hw2:IntKind.i64.wrap ((k:Int)+1+(n0:Int))=(q:Int):=by rw[IntWalk.i64_in _ (by omega)];omega
     have af:0≤(k:Int)+1∧(k:Int)+1≤(q:Int)∧(q:Int)≤(s.size:Int):=by omega
     have hw3:IntKind.i64.wrap ((k:Int)+(n0:Int))=(k:Int)+(n0:Int):=IntWalk.i64_in _ (by omega);have hw4:IntKind.i64.wrap ((k:Int)+(n0:Int)+2)=(k:Int)+(n0:Int)+2:=IntWalk.i64_in _ (by omega);rw[QY] at *
     clear hz aQ hne hz1 he hE jn iG hq
     gi_wp2_with (first | (refine⟨trivial,?_⟩;gi_at_call 35;refine (callsIn_wide.2 (hI _)).mono ?_;rintro e w2 ⟨rfl,hw2⟩;subst w2) | fail)
     refine⟨trivial,?_⟩
     gi_at_call 128
     refine (callsIn_wide.2 ua.out).mono ?_;rintro e w3 ⟨rfl,b3⟩;have cj:=hide (ae.go cg.out b3);have aw:=hide (ay.out.trans (b3.mono ay.out.size));have AE:w3.cell? ⟨Bs,0,none⟩=some (.string s):=(aw.out.cell (p:=⟨Bs,0,none⟩) gU).trans vg;have y0:=ae.cell cj.out 0;have y1:=ae.cell cj.out 1;have y2:=ae.cell cj.out 2;have fz:=fun i=>ae.frozen cj.out i;have aoM:wr.heap.size≠Bs:=by omega
     clear b3 cg ay;gi_wp2
     gi_region
     have ir:=hide (show ae (((w3.setCell ⟨wr.heap.size,1,none⟩ (.bool true)).setCell ⟨wr.heap.size,2,none⟩ (.string (aa tx))).drew) wr.heap.size 158 #[.int .i64 (k:Int),.bool true,.string (aa tx)] from by
      have:=ae.drew (ae.aI (ae.aI cj.out 1 (.bool true)) 2 (.string (aa tx)))
      simpa using this)
     have cG:=hide (((aw.out.setCell (p:=⟨wr.heap.size,1,none⟩) (Nat.le_refl _) (.bool true)).setCell (p:=⟨wr.heap.size,2,none⟩) (Nat.le_refl _) (.string (aa tx))).drew);clear cj aw y0 y1 y2 fz AE;generalize ((w3.setCell ⟨wr.heap.size,1,none⟩ (.bool true)).setCell ⟨wr.heap.size,2,none⟩ (.string (aa tx))).drew=W4 at *
     have CQ:=hide (BU (Bs:=Bs) cG.out);have uQ:=HJ.out pre wr _ pO.out cG.out;have y0:=ae.cell ir.out 0;have y1:=ae.cell ir.out 1;have y2:=ae.cell ir.out 2;obtain⟨fn,tmps,assign,body,hy,hR⟩:=hY pre ⟨k,true,tx⟩ _ uQ (by omega) LI (by rw[HA.out,←cJ.out,Hp.out];simp);unfold vV at hy;dsimp only at hy;gi_wp2;refine hR.mono ?_;rintro e W3 (⟨rfl,bV,aH⟩|⟨rfl,gV⟩)
     ·have eT:=aH.2 wr.heap.size ir.out.lt (.inr ir.out.eR);have t0:=(World.cell?_of_block (a:=⟨wr.heap.size,0,none⟩) eT).trans (ir.out.cell 0);have t1:=(World.cell?_of_block (a:=⟨wr.heap.size,1,none⟩) eT).trans (ir.out.cell 1);have t2:=(World.cell?_of_block (a:=⟨wr.heap.size,2,none⟩) eT).trans (ir.out.cell 2);have cQ:=hide aH;have gO:=hide bV;clear eT aH bV;gi_wp2
      go_roundw
      case rel=>exact⟨k+n0+2,f,pre++[⟨k,true,tx⟩],HN.out.1,int_eq (by have:=HN.out.2;omega),by simp;have:=HN.out.2;omega,by have:=HN.out;omega,by rw[←cJ.out,Hp.out];simp,gO.out,bC.out.trans (CQ.out.trans cQ.out)⟩
      case measure=>have:=HN.out;simp[intOf];omega
     gi_wp2;refine bodyPost_ret (results_none rfl _ _ _) rfl ?_;exact⟨⟨_,rfl⟩,.inr ⟨_,⟨_,by rw[←cJ.out,Hp.out,List.append_assoc];rfl⟩,gV⟩⟩
   have hz2:z<0:=by have:=Lib.indexByte_ge (D.drop k) 38;omega
   have yc:z = -1:=by have:=Lib.indexByte_ge (D.drop k) 38;omega
   subst yc;have Hp:=hide (show bY (f+1) k (D.drop k)=[⟨k,false,D.drop k⟩] by rw[MU hne (by omega)]);have hsz:(aa (D.drop k)).size=s.size-k:=by rw[aC,aQ]
   have hwm:IntKind.i64.wrap ((k:Int)+((s.size-k:Nat):Int))=(k:Int)+((s.size-k:Nat):Int):=IntWalk.i64_in _ (by omega);have HN:=hide (show s.size≤s.size∧k<s.size by omega);have hnil:D.drop s.size=[]:=List.drop_of_length_le (by rw[cf.out];exact Nat.le_refl _);have aaO:=hide hnil;have cg:=hide (ae.new wr 158 #[.int .i64 (k:Int),.bool false,.string (aa (D.drop k))]);have rU:=hide (BU (Bs:=Bs) (az wr (.cells #[.int .i64 (k:Int),.bool false,.string (aa (D.drop k))] 158)));have uQ:=HJ.out pre wr _ pO.out (az wr (.cells #[.int .i64 (k:Int),.bool false,.string (aa (D.drop k))] 158));obtain⟨fn,tmps,assign,body,hy,hR⟩:=hY pre ⟨k,false,D.drop k⟩ _ uQ (by omega) (by show (D.drop k).length≤s.size;omega) (by rw[HA.out,←cJ.out,Hp.out];simp);unfold vV at hy;dsimp only at hy;generalize hL:s.size-k=L0 at *
   have HL:=hide hL;clear hz aQ hne hz1 hz0 hz2 hnil hL
   gi_wp2_with (refine⟨trivial,?_⟩;gi_at_call 35;refine (callsIn_wide.2 (hI _)).mono ?_;rintro e w2 ⟨rfl,hw2⟩;subst w2)
   refine hR.mono ?_;rintro e W3 (⟨rfl,bV,aH⟩|⟨rfl,gV⟩)
   ·have eT:=aH.2 wr.heap.size cg.out.lt (.inr cg.out.eR);have t0:=(World.cell?_of_block (a:=⟨wr.heap.size,0,none⟩) eT).trans (cg.out.cell 0);have t1:=(World.cell?_of_block (a:=⟨wr.heap.size,1,none⟩) eT).trans (cg.out.cell 1);have t2:=(World.cell?_of_block (a:=⟨wr.heap.size,2,none⟩) eT).trans (cg.out.cell 2);have cQ:=hide aH;have gO:=hide bV;clear eT aH bV;gi_wp2
    go_roundw
    case rel=>exact⟨s.size,f,pre++[⟨k,false,D.drop k⟩],HN.out.1,int_eq (by have:=HL.out;have:=HN.out.2;omega),by simp;have:=HN.out.2;omega,by have:=HN.out;omega,by rw[←cJ.out,Hp.out];rw[aaO.out,Cb,List.append_nil],gO.out,bC.out.trans (rU.out.trans cQ.out)⟩
    case measure=>have:=HL.out;have:=HN.out;simp[intOf];omega
   gi_wp2;refine bodyPost_ret (results_none rfl _ _ _) rfl ?_;exact⟨⟨_,rfl⟩,.inr ⟨_,⟨_,by rw[←cJ.out,Hp.out,List.append_assoc];rfl⟩,gV⟩⟩
  gi_wp2;go_end0;exact⟨⟨_,rfl⟩,.inl ⟨pre,by rw[←cJ.out,List.drop_of_length_le (by rw[cf.out];omega),Cb,List.append_nil],pO.out⟩⟩

theorem ake(s:ByteArray)(w:World) :
  Calls Tryz.prog 93 #[.string s] w fun e w'=>e=.returned (.func (.func 127) #[] #[.pointer (some ⟨w.heap.size,0,none⟩)])∧w'=w.alloc (.cells #[.string s] 9):=by
 go_enter Tryz.func93,Tryz.ntmps93
 go_wp2;go_ret;exact⟨rfl,rfl⟩
def dP(x:dv):dv:=⟨x.at_,x.ref,x.text.take 100000⟩
theorem RR{x:dv}(h:x.text.length≤100000):dP x=x:=by unfold dP;rw[List.take_of_length_le h]
theorem akf(n:Nat)(hn:1≤n)(Bs:Nat)(s:ByteArray)(hs:s.size≤100000)(w:World)(mh:Bs<w.heap.size)(hc:w.cell? ⟨Bs,0,none⟩=some (.string s)) :
  SeqStopsK Fence.wide n Tryz.prog 127 #[.pointer (some ⟨Bs,0,none⟩)] (fun x=>vV (dP x)) (PK Bs) (fun ys=>ys=bY s.size 0 s.data.toList)
   (fun pre=>∃rest,pre++rest=bY s.size 0 s.data.toList) s.size w:=fun l J Jx W hW hJ _ hY h0=>
 akd n hn l Bs s (by omega) J Jx W hJ (Nat.lt_of_lt_of_le mh hW.size) (fun pre x W1 h1 h2 h3 _=>by have:=hY pre x W1 h1 h2;dsimp only at this;rwa[RR (Nat.le_trans h3 hs)] at this) ((hW.cell (p:=⟨Bs,0,none⟩) mh).trans hc) h0
theorem aiU{w:World}{B:Nat}(hB:B<w.heap.size)(W:World)(l:Nat)(o o':Obj)(hl:w.heap.size≤l)(ho:W.heap[l]?=some o)(hc:o.isCells=false)(_:o.isWalk=false):PK B W (W.putObj l o'):=by
 refine⟨by simp[World.putObj],fun g hg hk=>?_⟩
 have dA:g≠l:=by
  rcases hk with rfl|⟨cs,fr,hk⟩
  ·omega
  rintro rfl;rw[hk] at ho;cases ho;cases hc
 show (W.heap.setIfInBounds l o')[g]?=W.heap[g]?;exact Array.getElem?_setIfInBounds_ne (Ne.symm dA)
end
section
open Go Tk Sx
namespace Sx
def nv:List dv→Except Nat L
 | []=>.ok []
 | x :: r=>if x.ref=false∧x.text≠[38] then iZ x.text (nv r) else if x.ref then match scalar x.text with
   | some v=>iZ (cF v) (nv r)
   | none=>.error x.at_
  else .error x.at_
theorem aeo(e:Except Nat L):iZ [] e=e:=by cases e<;>simp[iZ]
theorem Ns:∀(a:L) (f k:Nat) (r:L),(38:UInt8)∉a→cP (a.length+f) k (a++r)=iZ a (cP f (k+a.length) r)
 | [],f,k,r,_=>by simp[aeo]
 | c :: a,f,k,r,h=>by
  have hc:c≠38:=fun e=>h (by rw[e];simp);have ha:(38:UInt8)∉a:=fun e=>h (List.mem_cons_of_mem _ e);rw[List.length_cons,show a.length+1+f=(a.length+f)+1 by omega,List.cons_append,Np hc,Ns a f (k+1) r ha,aen,show k+1+a.length=k+(a.length+1) by omega];rfl
theorem Vk:∀{l:L} {c:UInt8},Lib.indexByte l c<0→c∉l
 | [],c,_=>by simp
 | b :: l,c,h=>by
  unfold Lib.indexByte at h
  split at h
  ·omega
  rename_i hb
  (try dsimp only at h)
  split at h
  ·rename_i h2
   have:Lib.indexByte l c = -1:=by simpa using h2
   have ih:=Vk (l:=l) (c:=c) (by omega);intro hm
   rcases List.mem_cons.1 hm with e|e
   ·rw[e] at hb;simp at hb
   exact ih e
  rename_i h2
  have hg:=Lib.indexByte_ge l c;have:Lib.indexByte l c≠-1:=by simpa using h2
  omega
theorem L5:∀{l:L} {c:UInt8} {m:Nat},Lib.indexByte l c=m→c∉l.take m∧l[m]?=some c
 | [],c,m,h=>by simp[Lib.indexByte] at h
 | b :: l,c,m,h=>by
  unfold Lib.indexByte at h
  split at h
  ·rename_i hb
   have:m=0:=by omega
   subst this;have hb':b=c:=by simpa using hb
   simp[hb']
  rename_i hb
  (try dsimp only at h)
  split at h
  ·omega
  rename_i h2
  have hg:=Lib.indexByte_ge l c;have h3:Lib.indexByte l c≠-1:=by simpa using h2
  obtain⟨j,hj⟩:∃j:Nat,Lib.indexByte l c=j:=⟨(Lib.indexByte l c).toNat,by omega⟩;obtain⟨h4,h5⟩:=L5 hj;have:m=j+1:=by omega
  subst this;refine⟨?_,by simpa using h5⟩;rw[List.take_succ_cons];intro hm
  rcases List.mem_cons.1 hm with e|e
  ·rw[e] at hb;simp at hb
  exact h4 e
theorem XZ:∀(f:Nat) (k:Nat) (l:L) (g:Nat),l.length≤f→l.length≤g→nv (bY f k l)=cP g k l:=by
 intro f
 induction f with
 | zero=>
  intro k l g hf _;have:l=[]:=List.length_eq_zero_iff.1 (by omega);subst this;rw[Cb,F6];rfl
 | succ f ih=>
  intro k l g hf hg
  by_cases h0:l=[]
  ·subst h0;rw[Cb,F6];rfl
  have hlp:=List.length_pos_iff.2 h0;have sS:=Lib.indexByte_ge l 38
  by_cases hn:Lib.indexByte l 38<0
  ·rw[MU h0 hn];have lf:=Vk hn;have e:=Ns l (g-l.length) k [] lf;rw[List.append_nil,show l.length+(g-l.length)=g by omega,F6] at e;rw[e];unfold nv;rw[if_pos ⟨rfl,fun e=>lf (by have e2:l=[38]:=e;rw[e2];simp)⟩];rfl
  obtain⟨m,hm⟩:∃m:Nat,Lib.indexByte l 38=m:=⟨(Lib.indexByte l 38).toNat,by omega⟩;obtain⟨lf,hat⟩:=L5 hm;have jG:=(List.getElem?_eq_some_iff.1 hat).1
  by_cases qL:m=0
  ·subst qL;obtain⟨c,r,rfl⟩:∃c r,l=c :: r:=⟨_,_,(List.cons_head_tail h0).symm⟩;have hc:c=38:=by simpa using hat
   subst hc;rw[List.length_cons] at hf hg;obtain⟨g,rfl⟩:∃g',g=g'+1:=⟨g-1,by omega⟩
   cases he:ends r with
   | none=>
    rw[MS h0 hm he,XX he];unfold nv;rw[if_neg (by simp),if_neg (by simp)]
   | some n=>
    rw[MT h0 hm he];unfold nv;rw[if_neg (by simp),if_pos rfl];simp only[List.tail_cons]
    cases hs:scalar (r.take n) with
    | none=>rw[XW he hs]
    | some v=>
     rw[Nt he hs];simp only;congr 1;have e:(38 :: r:L).drop (n+2)=r.drop (n+1):=rfl;rw[e];exact ih _ _ _ (by rw[List.length_drop];omega) (by rw[List.length_drop];omega)
  rw[MV h0 hm (by omega)];unfold nv;have hne:l.take m≠[38]:=fun e=>lf (by rw[e];simp);rw[if_pos ⟨rfl,hne⟩];simp only;have hlt:(l.take m).length=m:=by rw[List.length_take];omega
  have e:=Ns (l.take m) (g-m) k (l.drop m) lf;rw[List.take_append_drop,hlt,show m+(g-m)=g by omega] at e;rw[e];congr 1;exact ih _ _ _ (by rw[List.length_drop];omega) (by rw[List.length_drop];omega)
end Sx
end
section
open Go Tk Sx
namespace Sx
def eX(x:dv):Option L:=if x.ref=false∧x.text≠[38] then some x.text else if x.ref then (scalar x.text).map fun v=>cF v else none
def kF(l:List dv):L:=l.flatMap fun x=>(eX x).getD []
theorem ah8(l:List dv)(x:dv):kF (l++[x])=kF l++(eX x).getD []:=by simp[kF]
theorem Nu{x:dv}{r:List dv}:nv (x :: r)=match eX x with
  | some t=>iZ t (nv r)
  | none=>.error x.at_:=by
 conv=>lhs;unfold nv
 unfold eX
 by_cases h:x.ref=false∧x.text≠[38]
 ·rw[if_pos h,if_pos h]
 rw[if_neg h,if_neg h]
 cases hr:x.ref with
 | false=>simp
 | true=>
  simp only[if_true]
  cases scalar x.text with
  | none=>rfl
  | some v=>rfl
theorem X0:∀{l:List dv},(∀x∈l,(eX x).isSome=true)→nv l=.ok (kF l)
 | [],_=>rfl
 | x :: r,h=>by
  rw[Nu];obtain⟨t,ht⟩:=Option.isSome_iff_exists.1 (h x (by simp));rw[ht,X0 fun y hy=>h y (List.mem_cons_of_mem _ hy)];simp[iZ,kF,ht]
theorem XY:∀{pre:List dv} {x:dv} {rest:List dv},(∀y∈pre,(eX y).isSome=true)→eX x=none→nv (pre++x :: rest)=.error x.at_
 | [],x,rest,_,hx=>by rw[List.nil_append,Nu,hx]
 | y :: pre,x,rest,h,hx=>by
  rw[List.cons_append,Nu];obtain⟨t,ht⟩:=Option.isSome_iff_exists.1 (h y (by simp));rw[ht,XY (fun z hz=>h z (List.mem_cons_of_mem _ hz)) hx];rfl
theorem alv{x:dv}(h:x.text.length≤100000):((eX x).getD []).length≤100000:=by
 unfold eX;split
 ·exact h
 split
 ·cases scalar x.text with
  | none=>simp
  | some v=>have:=MK (v:Int);simp;omega
 simp
theorem acK(x:dv):(dP x).text.length≤100000:=by unfold dP;simp only[List.length_take];omega
theorem Wy:∀{l:List dv},(kF (l.map dP)).length≤l.length*100000
 | []=>by simp[kF]
 | x :: r=>by
  have ih:=Wy (l:=r);have hx:=alv (acK x);have e:kF ((x :: r).map dP)=(eX (dP x)).getD []++kF (r.map dP):=by simp[kF]
  rw[e,List.length_append,List.length_cons];omega
theorem akg:∀(f k:Nat) (l:L),∀x∈bY f k l,x.text.length≤max 1 l.length:=by
 intro f
 induction f with
 | zero=>intro k l x hx;simp[bY] at hx
 | succ f ih=>
  intro k l x hx
  by_cases h0:l=[]
  ·subst h0;rw[Cb] at hx;cases hx
  have sS:=Lib.indexByte_ge l 38
  by_cases hn:Lib.indexByte l 38<0
  ·rw[MU h0 hn] at hx;simp only[List.mem_singleton] at hx;subst hx;exact Nat.le_max_right _ _
  obtain⟨m,hm⟩:∃m:Nat,Lib.indexByte l 38=m:=⟨(Lib.indexByte l 38).toNat,by omega⟩
  have step:∀(t:dv) (k' j:Nat),t.text.length≤max 1 l.length→x∈t :: bY f k' (l.drop j)→x.text.length≤max 1 l.length:=fun t k' j ht hm=>by
   rcases List.mem_cons.1 hm with e|e
   ·rw[e];exact ht
   have:=ih _ _ x e;rw[List.length_drop] at this;omega
  by_cases qL:m=0
  ·subst qL
   cases he:ends l.tail with
   | none=>rw[MS h0 hm he] at hx;exact step _ _ _ (by simp;omega) hx
   | some n=>rw[MT h0 hm he] at hx;exact step _ _ _ (by simp;omega) hx
  rw[MV h0 hm (by omega)] at hx;exact step _ _ _ (by simp;omega) hx
theorem Xv{s:L}(hs:s.length≤100000)(k f:Nat):(bY f k s).map dP=bY f k s:=by
 have h:=akg f k s;generalize bY f k s=r at *
 induction r with
 | nil=>rfl
 | cons x r ih=>
  rw[List.map_cons,ih fun y hy=>h y (List.mem_cons_of_mem _ hy)];congr 1;refine RR ?_;have:=h x (by simp);omega
end Sx
end
section
open Go.RowKit Tk

theorem amd(w:World)(s:ByteArray)(hg:Gl w)(ia:6≤w.heap.size)(hs:s.size≤1000000)(hS:sk s.data.toList) :
  Calls Tryz.prog 29 #[.string s] w (abv w s.data.toList):=by
 have HV:=hide (fun W=>YB s W (by omega));obtain⟨D,hD⟩:∃D,s.data.toList=D:=⟨_,rfl⟩;have HD:=hide hD;have cf:=hide (show D.length=s.size by rw[←hD,bL]);have HO:=hide (fun W k ts (h1:Gl W) (h2:6≤W.heap.size) (h3:k<s.size) (h4:qu s.data.toList k ts)=>ahT W s k h1 h2 h3 (by omega) (hS.at_ k ts h4 (by rw[bL];exact h3)).1);rw[hD] at HV HO hS ⊢;have HS:=hide hS;clear hD hS;have HG:=hide hg;clear hg;rw[HS.out.val] at HV
 go_enter Tryz.func29,Tryz.ntmps29
 go_wp2
 go_step3
 go_wp2_with fail
 refine (HV.out _).mono ?_;rintro e w1 ⟨rfl,b1⟩;have B1:=hide b1;clear b1 HV;go_wp2
 go_step3
 go_wp2
 go_loopg [2,3] s.size (fun g vl va wr=>∃(p:Nat) (xs:List Tv) (A:Option Addr) (c:Nat),g=s.size-p∧p≤s.size∧va=.int .i64 (p:Int)∧vl=.slice A xs.length c∧
  wr.ownsRow w.heap.size 82 7 (.slice A xs.length c) xs.length (rI xs)∧(∀x∈xs,x.In w.heap.size wr)∧Below w.heap.size w wr∧qu D p (xs.map (·.t)))
 case atStart=>exact⟨0,[],none,0,rfl,by omega,rfl,rfl,World.ownsRow_nil _ _ _ _,(fun x hx=>by cases hx),B1.out,.zero _⟩
 case round=>
  obtain⟨p,xs,A,c,dR,hp,rfl,rfl,ai,hi,hB,hR⟩:=hrel;have Hg:=hide dR;have jy:=hide ai;have Hi:=hide hi;have HB:=hide hB;have HR:=hide hR;clear dR ai hi hB hR B1
  by_cases hlt:p<s.size
  ·have xY:=HO.out wr p _ (HG.out.below HB.out) (by have:=HB.out.size;omega) hlt HR.out
   cases ho:Tk.one p (D.drop p) with
   | none=>
    rw[ho] at xY;have HX:=hide (show Calls Tryz.prog 53 #[.string s,.int .i64 (p:Int)] wr fun e w'=>Below wr.heap.size wr w'∧e=.returned (.tuple #[.agg #[.int .i8 0,.string ⟨#[]⟩,.slice none 0 0,.bool false,.string ⟨#[]⟩,.int .i64 0,.int .i64 0],.bool false]) from xY)
    have HP:=hide (show yP D (xs.map (·.t)) p ((p:Int)==(s.size:Int)) by
     have h:=Xu HR.out (.inr ho);rw[cf.out] at h;rw[show ((p:Int)==(s.size:Int))=decide (p=s.size) by rw[show decide (p=s.size)=decide ((p:Int)=(s.size:Int)) from decide_eq_decide.2 (by omega)];rfl];exact h)
    have l7:=hide (show xs.length≤D.length by have:=HR.out.1;have:=cf.out;rw[List.length_map] at *;omega);clear xY ho HO HR
    go_wp2_with fail
    refine HX.out.mono ?_;rintro e w2 ⟨b2,rfl⟩;have B2:=hide (b2.alloc b2.size (.cells #[.int .i8 0,.string ⟨#[]⟩,.slice none 0 0,.bool false,.string ⟨#[]⟩,.int .i64 0,.int .i64 0] 82));clear b2;have Own2:=hide (MB jy.out B2.out);have Dj:=hide (fun x hx=>(Hi.out x hx).below B2.out);have ah:=hide (HB.out.trans (B2.out.mono HB.out.size));go_wp2;rw[Exit.noGoto_ret];go_ret3;exact⟨xs,A,c,p,_,HP.out,l7.out,yD jy.out,rfl,ah.out,Reads.eH Own2.out,zQ Own2.out,Cu Own2.out,Dj.out⟩
   | some t=>
    rw[ho] at xY
    have HX:=hide (show Calls Tryz.prog 53 #[.string s,.int .i64 (p:Int)] wr fun e w'=>Below wr.heap.size wr w'∧∃A c,e=.returned (.tuple #[.agg #[.int .i8 t.kind,.string (aa t.name),.slice A t.attrs.length c,.bool t.empty,.string (aa t.text),.int .i64 (t.at_:Int),.int .i64 (t.end_:Int)],.bool true])∧
     w'.ownsRow wr.heap.size 147 3 (.slice A t.attrs.length c) t.attrs.length (jX t.attrs) from xY)
    have HN:=hide (show p<t.end_∧t.end_≤D.length∧qu D t.end_ (xs.map (·.t)++[t]) from have h:=(HS.out.at_ p _ HR.out (by rw[cf.out];exact hlt)).2 t ho;⟨h.1,h.2,akb HR.out (by rw[cf.out];exact hlt) ho h.1⟩);have l7:=hide (show xs.length≤D.length by have:=HR.out.1;have:=cf.out;rw[List.length_map] at *;omega);clear xY ho HO HR
    go_wp2_with fail
    refine HX.out.mono ?_;rintro e w2 ⟨b2,A2,c2,rfl,o2⟩;have B2:=hide b2;have N2:=hide (Tv.In.eH o2);have Own2:=hide (MB jy.out b2);have Dj:=hide (fun x hx=>(Hi.out x hx).below b2);have ah:=hide (HB.out.trans (b2.mono HB.out.size));have zK:=hide (Own2.out.alloc (.cells #[.int .i8 t.kind,.string (aa t.name),.slice A2 t.attrs.length c2,.bool t.empty,.string (aa t.text),.int .i64 (t.at_:Int),.int .i64 (t.end_:Int)] 82));have In3:=hide (fun x hx=>(Dj.out x hx).below (az w2 (.cells #[.int .i8 t.kind,.string (aa t.name),.slice A2 t.attrs.length c2,.bool t.empty,.string (aa t.text),.int .i64 (t.at_:Int),.int .i64 (t.end_:Int)] 82)));have N3:=hide ((N2.out.below (az w2 (.cells #[.int .i8 t.kind,.string (aa t.name),.slice A2 t.attrs.length c2,.bool t.empty,.string (aa t.text),.int .i64 (t.at_:Int),.int .i64 (t.end_:Int)] 82))).more HB.out.size);have aw:=hide (ah.out.alloc ah.out.size (.cells #[.int .i8 t.kind,.string (aa t.name),.slice A2 t.attrs.length c2,.bool t.empty,.string (aa t.text),.int .i64 (t.at_:Int),.int .i64 (t.end_:Int)] 82));have V3:=hide (ae.new w2 82 #[.int .i8 t.kind,.string (aa t.name),.slice A2 t.attrs.length c2,.bool t.empty,.string (aa t.text),.int .i64 (t.at_:Int),.int .i64 (t.end_:Int)])
    have HVn:=hide (show (Value.slice A xs.length c).ownBlock≠some w2.heap.size from fun e=>by have:=(Own2.out.lt _ e).2;omega);have Di:=hide (show xs.length≤1000000 by have:=l7.out;have:=cf.out;omega);clear b2 o2 N2 Own2 Dj ah B2;go_wp2;generalize w2.alloc (.cells #[.int .i8 t.kind,.string (aa t.name),.slice A2 t.attrs.length c2,.bool t.empty,.string (aa t.text),.int .i64 (t.at_:Int),.int .i64 (t.end_:Int)] 82)=W3 at *
    generalize w2.heap.size=V at *
    have y0:=V3.out.cell 0;have y1:=V3.out.cell 1;have y2:=V3.out.cell 2;have y3:=V3.out.cell 3;have y4:=V3.out.cell 4;have y5:=V3.out.cell 5;have y6:=V3.out.cell 6;have xa:∀o,(W3.alloc o).cell? ⟨V,6,none⟩=some (.int .i64 (t.end_:Int)):=fun o=>(V3.out.alloc o).cell 6
    go_region_law
     (show if Region.wanted (⟨some 25,_,_,_,_,_⟩:Oper) _=true then _ else _;refine F7 _ (by rfl) _ _ _ (by rfl) w.heap.size 82 _ 7 88 Tryz.underlying69 agw (by rfl) (by omega) (.slice A xs.length c) xs.length (rI xs) (by rfl) (by first|exact zK.out.alloc _|exact (zK.out.alloc _).drew) (Tv.row ⟨t,A2,c2⟩) rfl (amm ⟨t,A2,c2⟩) W3.heap.size (by first|exact ae.new W3 82 _|exact (ae.new W3 82 _).drew) (by rfl) (by unfold maxLen;have:=Di.out;omega) (by have:=Di.out;omega) (by have:=aw.out.size;simp[World.drew];omega) ?_;intro gg cap w8 aM aF dc;have V8:=hide (ae.grown (ae.drew (ae.alloc V3.out (.cells (Tv.row ⟨t,A2,c2⟩).toArray 82))) aF HVn.out.symm);have z6:w8.cell? ⟨V,6,none⟩=some (.int .i64 (t.end_:Int)):=V8.out.cell 6;have zy:=hide aF;have Iz:=hide aM;clear aM aF dc)
    all_goals go_wp2
    all_goals
     have OL:=hide ((aw.out.alloc aw.out.size (.cells (Tv.row ⟨t,A2,c2⟩).toArray 82)).drew);have iP:=hide (OL.out.grown zy.out OL.out.size fun j e=>(aG zK.out j e).1)
     have In8:=hide (show ∀x∈xs++[Tv.mk t A2 c2],x.In w.heap.size w8 from fun x hx=>by
      rcases List.mem_append.1 hx with hx|hx
      ·exact (In3.out x hx).grown zK.out zy.out
      simp only[List.mem_singleton] at hx;subst hx;exact N3.out.grown zK.out zy.out)
     go_roundg (s.size-t.end_)
     case measure=>have:=Hg.out;have:=HN.out.1;have:=HN.out.2.1;have:=cf.out;omega
     case rel=>exact⟨t.end_,xs++[⟨t,A2,c2⟩],some ⟨gg,0,none⟩,cap,rfl,by have:=HN.out.2.1;have:=cf.out;omega,rfl,by rw[List.length_append];rfl,by rw[List.length_append,aml];exact Iz.out,In8.out,iP.out,by rw[List.map_append];exact HN.out.2.2⟩
  have hpe:p=s.size:=by omega
  subst hpe
  have HP:=hide (show yP D (xs.map (·.t)) s.size true by
   have h:=Xu HR.out (.inl cf.out.symm);rwa[cf.out,decide_eq_true rfl] at h)
  have l7:=hide (show xs.length≤D.length by have:=HR.out.1;have:=cf.out;rw[List.length_map] at *;omega);go_wp2;rw[Exit.noGoto_ret];go_ret3;exact⟨xs,A,c,s.size,_,HP.out,l7.out,yD jy.out,rfl,HB.out,Reads.eH jy.out,zQ jy.out,Cu jy.out,Hi.out⟩
end
section
open Go.RowKit Tk

def Tk.At.g(a:At):Ga:=⟨aa a.name,aa a.value,(a.at_:Int)⟩
def Tv.g(x:Tv):Gt:=⟨x.t.kind,aa x.t.name,x.t.attrs.map At.g,x.A,x.c,x.t.empty,aa x.t.text,(x.t.at_:Int),(x.t.end_:Int)⟩
theorem abQ(l:List At):jX l=ld (l.map At.g):=by
 induction l with
 | nil=>rfl
 | cons a l ih=>unfold jX ld at ih ⊢;rw[List.flatMap_cons,List.map_cons,List.flatMap_cons,ih];rfl
theorem aka(x:Tv):x.row=z8 x.g:=by
 unfold Tv.row Ct z8 Tv.g;simp only[List.length_map]
theorem amk(xs:List Tv):rI xs=xA (xs.map Tv.g):=by
 induction xs with
 | nil=>rfl
 | cons a l ih=>unfold rI xA at ih ⊢;rw[List.flatMap_cons,List.map_cons,List.flatMap_cons,ih,aka]
theorem Tv.In.g{x:Tv}{B:Nat}{W:World}(h:x.In B W):Reads W W.heap.size 3 x.g.A x.g.ak.length (ld x.g.ak):=by
 have:=h.a;rw[abQ] at this;unfold Tv.g;simp only[List.length_map];exact this
theorem zP.of{W:World}{A:Option Addr}{xs:List Tv}{B:Nat}(h:Reads W W.heap.size 7 A xs.length (rI xs))(hi:∀x∈xs,x.In B W):zP W W.heap.size A (xs.map Tv.g):=by
 refine⟨?_,fun x hx=>?_⟩
 ·rw[List.length_map,←amk];exact h
 obtain⟨y,hy,rfl⟩:=List.mem_map.1 hx;exact (hi y hy).g
end
end Go.Proofs.YtnbmfljhbpfilaaGreatDoor
