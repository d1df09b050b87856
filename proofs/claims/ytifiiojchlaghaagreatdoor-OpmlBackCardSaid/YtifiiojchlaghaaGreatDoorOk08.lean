/- References: the iterator over a text's pieces. And more. -/
import Derived.Test.YtifiiojchlaghaaGreatDoorOk03
import Derived.Test.YtifiiojchlaghaaGreatDoorOk07
set_option linter.unusedSimpArgs false
set_option maxRecDepth 100000
set_option maxHeartbeats 8000000
set_option linter.unusedVariables false
namespace Go.Proofs.YtifiiojchlaghaaGreatDoor
section
open Go.RowKit Go.Shelf Tk Sx

attribute [local go_sem] Oper.semAt_some

namespace Sx
structure Pce where
 at_:Nat
 ref:Bool
 text:L
def rps:Nat→Nat→L→List Pce
 | 0,_,_=>[]
 | f+1,at_,l=>if l=[] then [] else
  if 0<Lib.indexByte l 38 then ⟨at_,false,l.take (Lib.indexByte l 38).toNat⟩ :: rps f (at_+(Lib.indexByte l 38).toNat) (l.drop (Lib.indexByte l 38).toNat)
  else if Lib.indexByte l 38=0 then match ends l.tail with
   | some n=>⟨at_,true,l.tail.take n⟩ :: rps f (at_+n+2) (l.drop (n+2))
   | none=>⟨at_,false,[38]⟩ :: rps f (at_+1) (l.drop 1)
  else [⟨at_,false,l⟩]
end Sx
def pcE(x:Pce):Array Value:=#[.agg #[.int .i64 (x.at_:Int),.bool x.ref,.string (bstr x.text)]]
def PK(Bs:Nat)(W W':World):Prop:=W.heap.size≤W'.heap.size∧∀g,g<W.heap.size→(g=Bs∨IsT W g 159)→W'.heap[g]?=W.heap[g]?
theorem PK.trans{Bs:Nat}{X Y Z:World}(h:PK Bs X Y)(k:PK Bs Y Z):PK Bs X Z:=⟨Nat.le_trans h.1 k.1,fun g hg hk=>by
 have e:=h.2 g hg hk;rw[←e];refine k.2 g (Nat.lt_of_lt_of_le hg h.1) ?_
 rcases hk with hk|⟨cs,fr,hk⟩
 ·exact .inl hk
 exact .inr ⟨cs,fr,e.trans hk⟩⟩
theorem pk_below{Bs:Nat}{W W':World}(h:Below W.heap.size W W'):PK Bs W W':=⟨h.size,fun g hg _=>h.block g hg⟩
theorem rps_nil{f at_:Nat}:rps f at_ []=[]:=by cases f<;>simp[rps]
theorem rps_text{f k m:Nat}{l:L}(h0:l≠[])(h:Lib.indexByte l 38=(m:Int))(hm:0<m):rps (f+1) k l=⟨k,false,l.take m⟩ :: rps f (k+m) (l.drop m):=by
 rw[rps,if_neg h0,h,if_pos (by omega),Int.toNat_natCast]
theorem rps_ref{f k n:Nat}{l:L}(h0:l≠[])(h:Lib.indexByte l 38=0)(he:ends l.tail=some n):rps (f+1) k l=⟨k,true,l.tail.take n⟩ :: rps f (k+n+2) (l.drop (n+2)):=by
 rw[rps,if_neg h0,h,if_neg (by omega),if_pos rfl,he]
theorem rps_amp{f k:Nat}{l:L}(h0:l≠[])(h:Lib.indexByte l 38=0)(he:ends l.tail=none):rps (f+1) k l=⟨k,false,[38]⟩ :: rps f (k+1) (l.drop 1):=by
 rw[rps,if_neg h0,h,if_neg (by omega),if_pos rfl,he]
theorem rps_rest{f k:Nat}{l:L}(h0:l≠[])(h:Lib.indexByte l 38<0):rps (f+1) k l=[⟨k,false,l⟩]:=by
 rw[rps,if_neg h0,if_neg (by omega),if_neg (by omega)]
theorem indexByte_lt{l:L}{c:UInt8}{k:Nat}(h:Lib.indexByte l c=k):k<l.length:=by
 induction l generalizing k with
 | nil=>simp[Lib.indexByte] at h
 | cons b l ih=>
  unfold Lib.indexByte at h
  split at h
  ·have:k=0:=by omega
   subst this;simp
  (try dsimp only at h)
  split at h
  ·omega
  rename_i h1 h2
  have hg:=Lib.indexByte_ge l c
  obtain⟨j,hj⟩:∃j:Nat,Lib.indexByte l c=j:=⟨(Lib.indexByte l c).toNat,by
   have:Lib.indexByte l c≠-1:=by simpa using h2
   omega⟩
  have:=ih hj;simp only[List.length_cons];omega

theorem rpieces1_in(n:Nat)(hn:1≤n)(l Bs:Nat)(s:ByteArray)(hs:s.size≤1000000000)
  (J Jx:List Pce→World→Prop) (W:World) (hJ:AbidesFrom W.heap.size J) (hBl:Bs<W.heap.size)
  (hY:∀pre x W,J pre W→pre.length<s.size→x.text.length≤s.size→x∈rps s.size 0 s.data.toList→YieldAt Fence.wide (n-1) Tryz.prog l (pcE x) W fun e W'=>
   (e=.returned (.bool true)∧J (pre++[x]) W'∧PK Bs W W')∨(e=.returned (.bool false)∧Jx (pre++[x]) W'))
  (hBs:W.cell? ⟨Bs,0,none⟩=some (.string s)) (h0:J [] W) :
  CallsIn Fence.wide n Tryz.prog 129 #[.func (.yield l) #[] #[],.pointer (some ⟨Bs,0,none⟩)] W fun e W'=>(∃v,e=.returned v)∧
   ((∃ys:List Pce,ys=rps s.size 0 s.data.toList∧J ys W')∨(∃pre:List Pce,(∃rest,pre++rest=rps s.size 0 s.data.toList)∧Jx pre W')):=by
 have HJ:=hide (fun pre W1 W2 (h:J pre W1) (hb:Below W1.heap.size W1 W2)=>hJ pre W1 W2 none h (grown_below hb none) (fun r e=>by cases e));refine callsIn_of_wp Tryz.func129 rfl trivial ?_ rfl;simp only[Tryz.ntmps129,List.size_toArray,List.length_cons,List.length_nil,Nat.reduceAdd,Nat.reduceSub,Array.replicate_succ,Array.replicate_zero,List.push_toArray,List.append_toArray,List.nil_append,List.cons_append];obtain⟨D,hD⟩:∃D,s.data.toList=D:=⟨_,rfl⟩;have HDl:=hide (show D.length=s.size by rw[←hD,size_list]);have hexA:∀k:Nat,s.extract k s.size=bstr (D.drop k):=fun k=>by rw[extract_end,hD]
 have HXA:=hide hexA;have HEx:=hide (show ∀a b:Nat,s.extract a b=bstr ((D.drop a).take (b-a)) from fun a b=>by rw[extract_bstr,hD]);rw[hD];obtain⟨all,hall⟩:∃all,rps s.size 0 D=all:=⟨_,rfl⟩;rw[hall];have Hall:=hide hall;have HA:=hide (show rps s.size 0 s.data.toList=all by rw[hD,hall]);have HIx:Hid (∀(q:L) W,Calls Tryz.prog 39 #[.string (bstr q),.int .u8 38] W fun e w'=>e=.returned (.int .i64 (Lib.indexByte q 38))∧w'=W):=hide (fun (q:L) W=>Tryz.strings_IndexByte (bstr q) 38 W);have HEn:=hide (fun (q:L) W (h:q.length≤1000000000)=>ends_any (bstr q) W (by rw[bstr_size];exact h));clear hall hexA hD hJ;gi_wp2
 gi_loopw [3] (fun i wr=>∃(k f:Nat) (pre:List Pce),k≤s.size∧i=.int .i64 k∧pre.length≤k∧s.size-k≤f∧pre++rps f k (D.drop k)=all∧J pre wr∧PK Bs W wr)
  (fun i _=>s.size-(intOf i).toNat)
 case atStart=>exact⟨0,s.size,[],Nat.zero_le _,rfl,Nat.le_refl _,by omega,by rw[←Hall.out];rfl,h0,⟨Nat.le_refl _,fun _ _ _=>rfl⟩⟩
 case round=>
  obtain⟨k,f,pre,hk,rfl,hpl,hf,hpre,hJs,hnx⟩:=hrel;have Hpre:=hide hpre;have HJs:=hide hJs;have Hnx:=hide hnx;have hcx:wr.cell? ⟨Bs,0,none⟩=some (.string s):=(World.cell?_of_block (a:=⟨Bs,0,none⟩) (hnx.2 Bs hBl (.inl rfl))).trans hBs;have hBw:Bs<wr.heap.size:=Nat.lt_of_lt_of_le hBl hnx.1;clear hpre hJs hnx
  by_cases hlt:k<s.size
  ·have hne:D.drop k≠[]:=fun e=>by have:=congrArg List.length e;rw[List.length_drop,HDl.out] at this;simp at this;omega
   obtain⟨f,rfl⟩:∃f',f=f'+1:=⟨f-1,by omega⟩;have hdl:(D.drop k).length=s.size-k:=by rw[List.length_drop,HDl.out]
   have hxk:=HXA.out k;have hI:=HIx.out (D.drop k);obtain⟨z,hz⟩:∃z,Lib.indexByte (D.drop k) 38=z:=⟨_,rfl⟩;rw[hz] at hI
   by_cases hz1:0<z
   ·obtain⟨m,rfl⟩:∃m:Nat,z=m:=⟨z.toNat,by omega⟩;have hml:=indexByte_lt hz;have Hp:=hide (show rps (f+1) k (D.drop k)=⟨k,false,(D.drop k).take m⟩ :: rps f (k+m) (D.drop (k+m)) by rw[rps_text hne hz (by omega),List.drop_drop]);have hx0:(bstr (D.drop k)).extract 0 m=bstr ((D.drop k).take m):=by rw[extract_bstr,bstr_list,List.drop_zero,Nat.sub_zero]
    have htl0:((D.drop k).take m).length≤s.size:=by rw[List.length_take];omega
    have hsz:(bstr ((D.drop k).take m)).size=m:=by rw[bstr_size,List.length_take];omega
    have hb:0≤(m:Int)∧(m:Int)≤((bstr (D.drop k)).size:Int):=by rw[bstr_size];omega
    have hwm:IntKind.i64.wrap ((k:Int)+(m:Int))=(k:Int)+(m:Int):=IntWalk.i64_in _ (by omega);have HN:=hide (show k+m≤s.size∧0<m by omega);have hm0:(0:Int)<(m:Int):=by omega
    generalize (D.drop k).take m=tx at *
    have HT1:=hide (Blk.new wr 159 #[.int .i64 (k:Int),.bool false,.string (bstr tx)]);have HP1:=hide (pk_below (Bs:=Bs) (below_alloc wr (.cells #[.int .i64 (k:Int),.bool false,.string (bstr tx)] 159)));have hJ1:=HJ.out pre wr _ HJs.out (below_alloc wr (.cells #[.int .i64 (k:Int),.bool false,.string (bstr tx)] 159));obtain⟨fn,tmps,assign,body,hy,hR⟩:=hY pre ⟨k,false,tx⟩ _ hJ1 (by omega) htl0 (by rw[HA.out,←Hpre.out,Hp.out];simp);unfold pcE at hy;dsimp only at hy;clear hz hdl hne hz1 hml
    gi_wp2_with (refine⟨trivial,?_⟩;gi_at_call 39;refine (callsIn_wide.2 (hI _)).mono ?_;rintro e w2 ⟨rfl,hw2⟩;subst w2)
    refine hR.mono ?_;rintro e W3 (⟨rfl,hJ3,hk3⟩|⟨rfl,hJx3⟩)
    ·have eT:=hk3.2 wr.heap.size HT1.out.lt (.inr HT1.out.isT);have t0:=(World.cell?_of_block (a:=⟨wr.heap.size,0,none⟩) eT).trans (HT1.out.cell 0);have t1:=(World.cell?_of_block (a:=⟨wr.heap.size,1,none⟩) eT).trans (HT1.out.cell 1);have t2:=(World.cell?_of_block (a:=⟨wr.heap.size,2,none⟩) eT).trans (HT1.out.cell 2);have HK3:=hide hk3;have HJ3:=hide hJ3;clear eT hk3 hJ3;gi_wp2
     go_roundw
     case rel=>exact⟨k+m,f,pre++[⟨k,false,tx⟩],HN.out.1,int_eq (by have:=HN.out.2;omega),by simp;have:=HN.out.2;omega,by have:=HN.out;omega,by rw[←Hpre.out,Hp.out];simp,HJ3.out,Hnx.out.trans (HP1.out.trans HK3.out)⟩
     case measure=>have:=HN.out;simp[intOf];omega
    gi_wp2;refine bodyPost_ret (results_none rfl _ _ _) rfl ?_;exact⟨⟨_,rfl⟩,.inr ⟨_,⟨_,by rw[←Hpre.out,Hp.out,List.append_assoc];rfl⟩,hJx3⟩⟩
   by_cases hz0:z=0
   ·subst hz0;have hk1:k+1≤s.size:=by omega
    have htl:(D.drop k).tail=D.drop (k+1):=by rw[List.tail_drop]
    have hxk1:=HXA.out (k+1);have hw1:IntKind.i64.wrap ((k:Int)+1)=(k:Int)+1:=IntWalk.i64_in _ (by omega);have hb1:0≤(k:Int)+1∧(k:Int)+1≤(s.size:Int)∧(s.size:Int)≤(s.size:Int):=by omega
    have tn1:((k:Int)+1).toNat=k+1:=by omega
    have hE:=HEn.out (D.drop (k+1)) (wr.alloc (.cells #[.int .i64 (k:Int),.bool false,.string (bstr [38])] 159)) (by rw[List.length_drop,HDl.out];omega);rw[bstr_list] at hE;unfold endsI at hE;rw[List.drop_zero] at hE;have HT1:=hide (Blk.new wr 159 #[.int .i64 (k:Int),.bool false,.string (bstr [38])]);have HB1:=hide (below_alloc wr (.cells #[.int .i64 (k:Int),.bool false,.string (bstr [38])] 159));have amp:bstr [38]=⟨#[38]⟩:=rfl
    cases he:ends (D.drop (k+1)) with
    | none=>
     rw[he] at hE;dsimp only at hE;have HEv:=hide hE;have Hp:=hide (show rps (f+1) k (D.drop k)=⟨k,false,[38]⟩ :: rps f (k+1) (D.drop (k+1)) by rw[rps_amp hne hz (by rw[htl];exact he),List.drop_drop]);have HN:=hide (show k+1≤s.size∧0<1 by omega);have hsz:(bstr [38]).size=1:=rfl;rw[amp] at *
     clear hz hdl hne hz1 he hE htl
     gi_wp2_with (first | (refine⟨trivial,?_⟩;gi_at_call 39;refine (callsIn_wide.2 (hI _)).mono ?_;rintro e w2 ⟨rfl,hw2⟩;subst w2) | fail)
     refine⟨trivial,?_⟩
     gi_at_call 130
     refine (callsIn_wide.2 HEv.out).mono ?_;rintro e w3 ⟨rfl,b3⟩;have HT3:=hide (Blk.go HT1.out b3);have HB3:=hide (HB1.out.trans (b3.mono HB1.out.size));have HP3:=hide (pk_below (Bs:=Bs) HB3.out);have hJ1:=HJ.out pre wr _ HJs.out HB3.out;have y0:=Blk.cell HT3.out 0;have y1:=Blk.cell HT3.out 1;have y2:=Blk.cell HT3.out 2;obtain⟨fn,tmps,assign,body,hy,hR⟩:=hY pre ⟨k,false,[38]⟩ _ hJ1 (by omega) (by show 1≤s.size;omega) (by rw[HA.out,←Hpre.out,Hp.out];simp);unfold pcE at hy;dsimp only at hy;clear b3 HT1 HB1;have hsz1:(bstr [38]).size=1:=rfl;gi_wp2;refine hR.mono ?_;rintro e W3 (⟨rfl,hJ3,hk3⟩|⟨rfl,hJx3⟩)
     ·have eT:=hk3.2 wr.heap.size HT3.out.lt (.inr HT3.out.isT);have t0:=(World.cell?_of_block (a:=⟨wr.heap.size,0,none⟩) eT).trans (HT3.out.cell 0);have t1:=(World.cell?_of_block (a:=⟨wr.heap.size,1,none⟩) eT).trans (HT3.out.cell 1);have t2:=(World.cell?_of_block (a:=⟨wr.heap.size,2,none⟩) eT).trans (HT3.out.cell 2);have HK3:=hide hk3;have HJ3:=hide hJ3;clear eT hk3 hJ3;gi_wp2
      go_roundw
      case rel=>exact⟨k+1,f,pre++[⟨k,false,[38]⟩],HN.out.1,int_eq (by have:=HN.out.2;omega),by simp;have:=HN.out.2;omega,by have:=HN.out;omega,by rw[←Hpre.out,Hp.out];simp,HJ3.out,Hnx.out.trans (HP3.out.trans HK3.out)⟩
      case measure=>have:=HN.out;simp[intOf];omega
     gi_wp2;refine bodyPost_ret (results_none rfl _ _ _) rfl ?_;exact⟨⟨_,rfl⟩,.inr ⟨_,⟨_,by rw[←Hpre.out,Hp.out,List.append_assoc];rfl⟩,hJx3⟩⟩
    | some n0=>
     rw[he] at hE;dsimp only at hE;rw[Nat.zero_add] at hE;have HEv:=hide hE;have hnl:=ends_le he;rw[List.length_drop,HDl.out] at hnl;have Hp:=hide (show rps (f+1) k (D.drop k)=⟨k,true,(D.drop (k+1)).take n0⟩ :: rps f (k+n0+2) (D.drop (k+n0+2)) by rw[rps_ref hne hz (by rw[htl];exact he),List.drop_drop,htl,show k+(n0+2)=k+n0+2 by omega]);have hxt:s.extract (k+1) (k+1+n0)=bstr ((D.drop (k+1)).take n0):=by rw[HEx.out,Nat.add_sub_cancel_left]
     have htl0:((D.drop (k+1)).take n0).length≤s.size:=by rw[List.length_take];omega
     have hsz:(bstr ((D.drop (k+1)).take n0)).size=n0:=by rw[bstr_size,List.length_take,List.length_drop,HDl.out];omega
     generalize (D.drop (k+1)).take n0=tx at *
     obtain⟨q,hq⟩:∃q,k+1+n0=q:=⟨_,rfl⟩;rw[hq] at hxt;have HN:=hide (show k+n0+2≤s.size∧0<n0+2 by omega);have hgn:(0:Int)≤(n0:Int):=by omega
     have hw2:IntKind.i64.wrap ((k:Int)+1+(n0:Int))=(q:Int):=by rw[IntWalk.i64_in _ (by omega)];omega
     have hb2:0≤(k:Int)+1∧(k:Int)+1≤(q:Int)∧(q:Int)≤(s.size:Int):=by omega
     have hw3:IntKind.i64.wrap ((k:Int)+(n0:Int))=(k:Int)+(n0:Int):=IntWalk.i64_in _ (by omega);have hw4:IntKind.i64.wrap ((k:Int)+(n0:Int)+2)=(k:Int)+(n0:Int)+2:=IntWalk.i64_in _ (by omega);rw[amp] at *
     clear hz hdl hne hz1 he hE htl hnl hq
     gi_wp2_with (first | (refine⟨trivial,?_⟩;gi_at_call 39;refine (callsIn_wide.2 (hI _)).mono ?_;rintro e w2 ⟨rfl,hw2⟩;subst w2) | fail)
     refine⟨trivial,?_⟩
     gi_at_call 130
     refine (callsIn_wide.2 HEv.out).mono ?_;rintro e w3 ⟨rfl,b3⟩;have HT3:=hide (Blk.go HT1.out b3);have HB3:=hide (HB1.out.trans (b3.mono HB1.out.size));have hc3:w3.cell? ⟨Bs,0,none⟩=some (.string s):=(HB3.out.cell (p:=⟨Bs,0,none⟩) hBw).trans hcx;have y0:=Blk.cell HT3.out 0;have y1:=Blk.cell HT3.out 1;have y2:=Blk.cell HT3.out 2;have fz:=fun i=>Blk.frozen HT3.out i;have hneT:wr.heap.size≠Bs:=by omega
     clear b3 HT1 HB1;gi_wp2
     gi_region
     have HT4:=hide (show Blk (((w3.setCell ⟨wr.heap.size,1,none⟩ (.bool true)).setCell ⟨wr.heap.size,2,none⟩ (.string (bstr tx))).drew) wr.heap.size 159 #[.int .i64 (k:Int),.bool true,.string (bstr tx)] from by
      have:=Blk.drew (Blk.set_ (Blk.set_ HT3.out 1 (.bool true)) 2 (.string (bstr tx)))
      simpa using this)
     have HB4:=hide (((HB3.out.setCell (p:=⟨wr.heap.size,1,none⟩) (Nat.le_refl _) (.bool true)).setCell (p:=⟨wr.heap.size,2,none⟩) (Nat.le_refl _) (.string (bstr tx))).drew);clear HT3 HB3 y0 y1 y2 fz hc3;generalize ((w3.setCell ⟨wr.heap.size,1,none⟩ (.bool true)).setCell ⟨wr.heap.size,2,none⟩ (.string (bstr tx))).drew=W4 at *
     have HP4:=hide (pk_below (Bs:=Bs) HB4.out);have hJ1:=HJ.out pre wr _ HJs.out HB4.out;have y0:=Blk.cell HT4.out 0;have y1:=Blk.cell HT4.out 1;have y2:=Blk.cell HT4.out 2;obtain⟨fn,tmps,assign,body,hy,hR⟩:=hY pre ⟨k,true,tx⟩ _ hJ1 (by omega) htl0 (by rw[HA.out,←Hpre.out,Hp.out];simp);unfold pcE at hy;dsimp only at hy;gi_wp2;refine hR.mono ?_;rintro e W3 (⟨rfl,hJ3,hk3⟩|⟨rfl,hJx3⟩)
     ·have eT:=hk3.2 wr.heap.size HT4.out.lt (.inr HT4.out.isT);have t0:=(World.cell?_of_block (a:=⟨wr.heap.size,0,none⟩) eT).trans (HT4.out.cell 0);have t1:=(World.cell?_of_block (a:=⟨wr.heap.size,1,none⟩) eT).trans (HT4.out.cell 1);have t2:=(World.cell?_of_block (a:=⟨wr.heap.size,2,none⟩) eT).trans (HT4.out.cell 2);have HK3:=hide hk3;have HJ3:=hide hJ3;clear eT hk3 hJ3;gi_wp2
      go_roundw
      case rel=>exact⟨k+n0+2,f,pre++[⟨k,true,tx⟩],HN.out.1,int_eq (by have:=HN.out.2;omega),by simp;have:=HN.out.2;omega,by have:=HN.out;omega,by rw[←Hpre.out,Hp.out];simp,HJ3.out,Hnx.out.trans (HP4.out.trans HK3.out)⟩
      case measure=>have:=HN.out;simp[intOf];omega
     gi_wp2;refine bodyPost_ret (results_none rfl _ _ _) rfl ?_;exact⟨⟨_,rfl⟩,.inr ⟨_,⟨_,by rw[←Hpre.out,Hp.out,List.append_assoc];rfl⟩,hJx3⟩⟩
   have hz2:z<0:=by have:=Lib.indexByte_ge (D.drop k) 38;omega
   have hzm:z = -1:=by have:=Lib.indexByte_ge (D.drop k) 38;omega
   subst hzm;have Hp:=hide (show rps (f+1) k (D.drop k)=[⟨k,false,D.drop k⟩] by rw[rps_rest hne (by omega)]);have hsz:(bstr (D.drop k)).size=s.size-k:=by rw[bstr_size,hdl]
   have hwm:IntKind.i64.wrap ((k:Int)+((s.size-k:Nat):Int))=(k:Int)+((s.size-k:Nat):Int):=IntWalk.i64_in _ (by omega);have HN:=hide (show s.size≤s.size∧k<s.size by omega);have hnil:D.drop s.size=[]:=List.drop_of_length_le (by rw[HDl.out];exact Nat.le_refl _);have Hnil:=hide hnil;have HT1:=hide (Blk.new wr 159 #[.int .i64 (k:Int),.bool false,.string (bstr (D.drop k))]);have HP1:=hide (pk_below (Bs:=Bs) (below_alloc wr (.cells #[.int .i64 (k:Int),.bool false,.string (bstr (D.drop k))] 159)));have hJ1:=HJ.out pre wr _ HJs.out (below_alloc wr (.cells #[.int .i64 (k:Int),.bool false,.string (bstr (D.drop k))] 159));obtain⟨fn,tmps,assign,body,hy,hR⟩:=hY pre ⟨k,false,D.drop k⟩ _ hJ1 (by omega) (by show (D.drop k).length≤s.size;omega) (by rw[HA.out,←Hpre.out,Hp.out];simp);unfold pcE at hy;dsimp only at hy;generalize hL:s.size-k=L0 at *
   have HL:=hide hL;clear hz hdl hne hz1 hz0 hz2 hnil hL
   gi_wp2_with (refine⟨trivial,?_⟩;gi_at_call 39;refine (callsIn_wide.2 (hI _)).mono ?_;rintro e w2 ⟨rfl,hw2⟩;subst w2)
   refine hR.mono ?_;rintro e W3 (⟨rfl,hJ3,hk3⟩|⟨rfl,hJx3⟩)
   ·have eT:=hk3.2 wr.heap.size HT1.out.lt (.inr HT1.out.isT);have t0:=(World.cell?_of_block (a:=⟨wr.heap.size,0,none⟩) eT).trans (HT1.out.cell 0);have t1:=(World.cell?_of_block (a:=⟨wr.heap.size,1,none⟩) eT).trans (HT1.out.cell 1);have t2:=(World.cell?_of_block (a:=⟨wr.heap.size,2,none⟩) eT).trans (HT1.out.cell 2);have HK3:=hide hk3;have HJ3:=hide hJ3;clear eT hk3 hJ3;gi_wp2
    go_roundw
    case rel=>exact⟨s.size,f,pre++[⟨k,false,D.drop k⟩],HN.out.1,int_eq (by have:=HL.out;have:=HN.out.2;omega),by simp;have:=HN.out.2;omega,by have:=HN.out;omega,by rw[←Hpre.out,Hp.out];rw[Hnil.out,rps_nil,List.append_nil],HJ3.out,Hnx.out.trans (HP1.out.trans HK3.out)⟩
    case measure=>have:=HL.out;have:=HN.out;simp[intOf];omega
   gi_wp2;refine bodyPost_ret (results_none rfl _ _ _) rfl ?_;exact⟨⟨_,rfl⟩,.inr ⟨_,⟨_,by rw[←Hpre.out,Hp.out,List.append_assoc];rfl⟩,hJx3⟩⟩
  gi_wp2;go_end0;exact⟨⟨_,rfl⟩,.inl ⟨pre,by rw[←Hpre.out,List.drop_of_length_le (by rw[HDl.out];omega),rps_nil,List.append_nil],HJs.out⟩⟩

theorem rpieces_mk(s:ByteArray)(w:World) :
  Calls Tryz.prog 91 #[.string s] w fun e w'=>e=.returned (.func (.func 129) #[] #[.pointer (some ⟨w.heap.size,0,none⟩)])∧w'=w.alloc (.cells #[.string s] 9):=by
 go_enter Tryz.func91,Tryz.ntmps91
 go_wp2;go_ret;exact⟨rfl,rfl⟩
def cutPce(x:Pce):Pce:=⟨x.at_,x.ref,x.text.take 100000⟩
theorem cutPce_id{x:Pce}(h:x.text.length≤100000):cutPce x=x:=by unfold cutPce;rw[List.take_of_length_le h]
theorem rpieces_stops(n:Nat)(hn:1≤n)(Bs:Nat)(s:ByteArray)(hs:s.size≤100000)(w:World)(hBs:Bs<w.heap.size)(hc:w.cell? ⟨Bs,0,none⟩=some (.string s)) :
  SeqStopsK Fence.wide n Tryz.prog 129 #[.pointer (some ⟨Bs,0,none⟩)] (fun x=>pcE (cutPce x)) (PK Bs) (fun ys=>ys=rps s.size 0 s.data.toList)
   (fun pre=>∃rest,pre++rest=rps s.size 0 s.data.toList) s.size w:=fun l J Jx W hW hJ _ hY h0=>
 rpieces1_in n hn l Bs s (by omega) J Jx W hJ (Nat.lt_of_lt_of_le hBs hW.size) (fun pre x W1 h1 h2 h3 _=>by have:=hY pre x W1 h1 h2;dsimp only at this;rwa[cutPce_id (Nat.le_trans h3 hs)] at this) ((hW.cell (p:=⟨Bs,0,none⟩) hBs).trans hc) h0
theorem pk_b{w:World}{B:Nat}(hB:B<w.heap.size)(W:World)(l:Nat)(o o':Obj)(hl:w.heap.size≤l)(ho:W.heap[l]?=some o)(hc:o.isCells=false)(_:o.isWalk=false):PK B W (W.putObj l o'):=by
 refine⟨by simp[World.putObj],fun g hg hk=>?_⟩
 have hgl:g≠l:=by
  rcases hk with rfl|⟨cs,fr,hk⟩
  ·omega
  rintro rfl;rw[hk] at ho;cases ho;cases hc
 show (W.heap.setIfInBounds l o')[g]?=W.heap[g]?;exact Array.getElem?_setIfInBounds_ne (Ne.symm hgl)
end
section
open Go Tk Sx
namespace Sx
def srp:List Pce→Except Nat L
 | []=>.ok []
 | x :: r=>if x.ref=false∧x.text≠[38] then glueE x.text (srp r) else if x.ref then match scalar x.text with
   | some v=>glueE (putL v) (srp r)
   | none=>.error x.at_
  else .error x.at_
theorem glueE_nil(e:Except Nat L):glueE [] e=e:=by cases e<;>simp[glueE]
theorem sref_plain:∀(a:L) (f k:Nat) (r:L),(38:UInt8)∉a→sref (a.length+f) k (a++r)=glueE a (sref f (k+a.length) r)
 | [],f,k,r,_=>by simp[glueE_nil]
 | c :: a,f,k,r,h=>by
  have hc:c≠38:=fun e=>h (by rw[e];simp);have ha:(38:UInt8)∉a:=fun e=>h (List.mem_cons_of_mem _ e);rw[List.length_cons,show a.length+1+f=(a.length+f)+1 by omega,List.cons_append,sref_byte hc,sref_plain a f (k+1) r ha,glueE_glue,show k+1+a.length=k+(a.length+1) by omega];rfl
theorem indexByte_no:∀{l:L} {c:UInt8},Lib.indexByte l c<0→c∉l
 | [],c,_=>by simp
 | b :: l,c,h=>by
  unfold Lib.indexByte at h
  split at h
  ·omega
  rename_i hb
  (try dsimp only at h)
  split at h
  ·rename_i h2
   have:Lib.indexByte l c = -1:=by simpa using h2
   have ih:=indexByte_no (l:=l) (c:=c) (by omega);intro hm
   rcases List.mem_cons.1 hm with e|e
   ·rw[e] at hb;simp at hb
   exact ih e
  rename_i h2
  have hg:=Lib.indexByte_ge l c;have:Lib.indexByte l c≠-1:=by simpa using h2
  omega
theorem indexByte_yes:∀{l:L} {c:UInt8} {m:Nat},Lib.indexByte l c=m→c∉l.take m∧l[m]?=some c
 | [],c,m,h=>by simp[Lib.indexByte] at h
 | b :: l,c,m,h=>by
  unfold Lib.indexByte at h
  split at h
  ·rename_i hb
   have:m=0:=by omega
   subst this;have hb':b=c:=by simpa using hb
   simp[hb']
  rename_i hb
  (try dsimp only at h)
  split at h
  ·omega
  rename_i h2
  have hg:=Lib.indexByte_ge l c;have h3:Lib.indexByte l c≠-1:=by simpa using h2
  obtain⟨j,hj⟩:∃j:Nat,Lib.indexByte l c=j:=⟨(Lib.indexByte l c).toNat,by omega⟩;obtain⟨h4,h5⟩:=indexByte_yes hj;have:m=j+1:=by omega
  subst this;refine⟨?_,by simpa using h5⟩;rw[List.take_succ_cons];intro hm
  rcases List.mem_cons.1 hm with e|e
  ·rw[e] at hb;simp at hb
  exact h4 e
theorem srp_is:∀(f:Nat) (k:Nat) (l:L) (g:Nat),l.length≤f→l.length≤g→srp (rps f k l)=sref g k l:=by
 intro f
 induction f with
 | zero=>
  intro k l g hf _;have:l=[]:=List.length_eq_zero_iff.1 (by omega);subst this;rw[rps_nil,sref_nil];rfl
 | succ f ih=>
  intro k l g hf hg
  by_cases h0:l=[]
  ·subst h0;rw[rps_nil,sref_nil];rfl
  have hlp:=List.length_pos_iff.2 h0;have hge:=Lib.indexByte_ge l 38
  by_cases hn:Lib.indexByte l 38<0
  ·rw[rps_rest h0 hn];have h38:=indexByte_no hn;have e:=sref_plain l (g-l.length) k [] h38;rw[List.append_nil,show l.length+(g-l.length)=g by omega,sref_nil] at e;rw[e];unfold srp;rw[if_pos ⟨rfl,fun e=>h38 (by have e2:l=[38]:=e;rw[e2];simp)⟩];rfl
  obtain⟨m,hm⟩:∃m:Nat,Lib.indexByte l 38=m:=⟨(Lib.indexByte l 38).toNat,by omega⟩;obtain⟨h38,hat⟩:=indexByte_yes hm;have hml:=(List.getElem?_eq_some_iff.1 hat).1
  by_cases hm0:m=0
  ·subst hm0;obtain⟨c,r,rfl⟩:∃c r,l=c :: r:=⟨_,_,(List.cons_head_tail h0).symm⟩;have hc:c=38:=by simpa using hat
   subst hc;rw[List.length_cons] at hf hg;obtain⟨g,rfl⟩:∃g',g=g'+1:=⟨g-1,by omega⟩
   cases he:ends r with
   | none=>
    rw[rps_amp h0 hm he,sref_none he];unfold srp;rw[if_neg (by simp),if_neg (by simp)]
   | some n=>
    rw[rps_ref h0 hm he];unfold srp;rw[if_neg (by simp),if_pos rfl];simp only[List.tail_cons]
    cases hs:scalar (r.take n) with
    | none=>rw[sref_bad he hs]
    | some v=>
     rw[sref_ref he hs];simp only;congr 1;have e:(38 :: r:L).drop (n+2)=r.drop (n+1):=rfl;rw[e];exact ih _ _ _ (by rw[List.length_drop];omega) (by rw[List.length_drop];omega)
  rw[rps_text h0 hm (by omega)];unfold srp;have hne:l.take m≠[38]:=fun e=>h38 (by rw[e];simp);rw[if_pos ⟨rfl,hne⟩];simp only;have hlt:(l.take m).length=m:=by rw[List.length_take];omega
  have e:=sref_plain (l.take m) (g-m) k (l.drop m) h38;rw[List.take_append_drop,hlt,show m+(g-m)=g by omega] at e;rw[e];congr 1;exact ih _ _ _ (by rw[List.length_drop];omega) (by rw[List.length_drop];omega)
end Sx
end
section
open Go Tk Sx
namespace Sx
def stepP(x:Pce):Option L:=if x.ref=false∧x.text≠[38] then some x.text else if x.ref then (scalar x.text).map fun v=>putL v else none
def outAll(l:List Pce):L:=l.flatMap fun x=>(stepP x).getD []
theorem outAll_snoc(l:List Pce)(x:Pce):outAll (l++[x])=outAll l++(stepP x).getD []:=by simp[outAll]
theorem srp_cons{x:Pce}{r:List Pce}:srp (x :: r)=match stepP x with
  | some t=>glueE t (srp r)
  | none=>.error x.at_:=by
 conv=>lhs;unfold srp
 unfold stepP
 by_cases h:x.ref=false∧x.text≠[38]
 ·rw[if_pos h,if_pos h]
 rw[if_neg h,if_neg h]
 cases hr:x.ref with
 | false=>simp
 | true=>
  simp only[if_true]
  cases scalar x.text with
  | none=>rfl
  | some v=>rfl
theorem srp_ok:∀{l:List Pce},(∀x∈l,(stepP x).isSome=true)→srp l=.ok (outAll l)
 | [],_=>rfl
 | x :: r,h=>by
  rw[srp_cons];obtain⟨t,ht⟩:=Option.isSome_iff_exists.1 (h x (by simp));rw[ht,srp_ok fun y hy=>h y (List.mem_cons_of_mem _ hy)];simp[glueE,outAll,ht]
theorem srp_err:∀{pre:List Pce} {x:Pce} {rest:List Pce},(∀y∈pre,(stepP y).isSome=true)→stepP x=none→srp (pre++x :: rest)=.error x.at_
 | [],x,rest,_,hx=>by rw[List.nil_append,srp_cons,hx]
 | y :: pre,x,rest,h,hx=>by
  rw[List.cons_append,srp_cons];obtain⟨t,ht⟩:=Option.isSome_iff_exists.1 (h y (by simp));rw[ht,srp_err (fun z hz=>h z (List.mem_cons_of_mem _ hz)) hx];rfl
theorem step_short{x:Pce}(h:x.text.length≤100000):((stepP x).getD []).length≤100000:=by
 unfold stepP;split
 ·exact h
 split
 ·cases scalar x.text with
  | none=>simp
  | some v=>have:=putL_short (v:Int);simp;omega
 simp
theorem cut_short(x:Pce):(cutPce x).text.length≤100000:=by unfold cutPce;simp only[List.length_take];omega
theorem outAll_short:∀{l:List Pce},(outAll (l.map cutPce)).length≤l.length*100000
 | []=>by simp[outAll]
 | x :: r=>by
  have ih:=outAll_short (l:=r);have hx:=step_short (cut_short x);have e:outAll ((x :: r).map cutPce)=(stepP (cutPce x)).getD []++outAll (r.map cutPce):=by simp[outAll]
  rw[e,List.length_append,List.length_cons];omega
theorem rps_short:∀(f k:Nat) (l:L),∀x∈rps f k l,x.text.length≤max 1 l.length:=by
 intro f
 induction f with
 | zero=>intro k l x hx;simp[rps] at hx
 | succ f ih=>
  intro k l x hx
  by_cases h0:l=[]
  ·subst h0;rw[rps_nil] at hx;cases hx
  have hge:=Lib.indexByte_ge l 38
  by_cases hn:Lib.indexByte l 38<0
  ·rw[rps_rest h0 hn] at hx;simp only[List.mem_singleton] at hx;subst hx;exact Nat.le_max_right _ _
  obtain⟨m,hm⟩:∃m:Nat,Lib.indexByte l 38=m:=⟨(Lib.indexByte l 38).toNat,by omega⟩
  have step:∀(t:Pce) (k' j:Nat),t.text.length≤max 1 l.length→x∈t :: rps f k' (l.drop j)→x.text.length≤max 1 l.length:=fun t k' j ht hm=>by
   rcases List.mem_cons.1 hm with e|e
   ·rw[e];exact ht
   have:=ih _ _ x e;rw[List.length_drop] at this;omega
  by_cases hm0:m=0
  ·subst hm0
   cases he:ends l.tail with
   | none=>rw[rps_amp h0 hm he] at hx;exact step _ _ _ (by simp;omega) hx
   | some n=>rw[rps_ref h0 hm he] at hx;exact step _ _ _ (by simp;omega) hx
  rw[rps_text h0 hm (by omega)] at hx;exact step _ _ _ (by simp;omega) hx
theorem rps_cut{s:L}(hs:s.length≤100000)(k f:Nat):(rps f k s).map cutPce=rps f k s:=by
 have h:=rps_short f k s;generalize rps f k s=r at *
 induction r with
 | nil=>rfl
 | cons x r ih=>
  rw[List.map_cons,ih fun y hy=>h y (List.mem_cons_of_mem _ hy)];congr 1;refine cutPce_id ?_;have:=h x (by simp);omega
end Sx
end
section
open Go.RowKit Tk

theorem tks_any(w:World)(s:ByteArray)(hg:Gl w)(hw6:6≤w.heap.size)(hs:s.size≤1000000)(hS:SmlT s.data.toList) :
  Calls Tryz.prog 33 #[.string s] w (TksR w s.data.toList):=by
 have HV:=hide (fun W=>valid_any s W (by omega));obtain⟨D,hD⟩:∃D,s.data.toList=D:=⟨_,rfl⟩;have HD:=hide hD;have HDl:=hide (show D.length=s.size by rw[←hD,size_list]);have HO:=hide (fun W k (h1:Gl W) (h2:6≤W.heap.size) (h3:k<s.size)=>one_any W s k h1 h2 h3 (by omega) (hS.pl k (by rw[size_list];exact h3)));rw[hD] at HV HO hS ⊢;have HS:=hide hS;clear hD hS;have HG:=hide hg;clear hg;rw[HS.out.val] at HV
 go_enter Tryz.func33,Tryz.ntmps33
 go_wp2
 go_step3
 go_wp2_with fail
 refine (HV.out _).mono ?_;rintro e w1 ⟨rfl,b1⟩;have B1:=hide b1;clear b1 HV;go_wp2
 go_step3
 go_wp2
 go_loopg [2,3] s.size (fun g vl va wr=>∃(p:Nat) (xs:List Tv) (A:Option Addr) (c:Nat),g=s.size-p∧p≤s.size∧va=.int .i64 (p:Int)∧vl=.slice A xs.length c∧
  wr.ownsRow w.heap.size 85 7 (.slice A xs.length c) xs.length (tvRows xs)∧(∀x∈xs,x.In w.heap.size wr)∧Below w.heap.size w wr∧RowT D p (xs.map (·.t)))
 case atStart=>exact⟨0,[],none,0,rfl,by omega,rfl,rfl,World.ownsRow_nil _ _ _ _,(fun x hx=>by cases hx),B1.out,.zero _⟩
 case round=>
  obtain⟨p,xs,A,c,hgg,hp,rfl,rfl,hrow,hi,hB,hR⟩:=hrel;have Hg:=hide hgg;have Hrow:=hide hrow;have Hi:=hide hi;have HB:=hide hB;have HR:=hide hR;clear hgg hrow hi hB hR B1
  by_cases hlt:p<s.size
  ·have hone:=HO.out wr p (HG.out.below HB.out) (by have:=HB.out.size;omega) hlt
   cases ho:Tk.one p (D.drop p) with
   | none=>
    rw[ho] at hone;have HX:=hide (show Calls Tryz.prog 54 #[.string s,.int .i64 (p:Int)] wr fun e w'=>Below wr.heap.size wr w'∧e=.returned (.tuple #[.agg #[.int .i8 0,.string ⟨#[]⟩,.slice none 0 0,.bool false,.string ⟨#[]⟩,.int .i64 0,.int .i64 0],.bool false]) from hone)
    have HP:=hide (show AllT D (xs.map (·.t)) p ((p:Int)==(s.size:Int)) by
     have h:=row_stop HR.out (.inr ho);rw[HDl.out] at h;rw[show ((p:Int)==(s.size:Int))=decide (p=s.size) by rw[show decide (p=s.size)=decide ((p:Int)=(s.size:Int)) from decide_eq_decide.2 (by omega)];rfl];exact h)
    have Hlen:=hide (show xs.length≤D.length by have:=HR.out.1;have:=HDl.out;rw[List.length_map] at *;omega);clear hone ho HO HR
    go_wp2_with fail
    refine HX.out.mono ?_;rintro e w2 ⟨b2,rfl⟩;have B2:=hide (b2.alloc b2.size (.cells #[.int .i8 0,.string ⟨#[]⟩,.slice none 0 0,.bool false,.string ⟨#[]⟩,.int .i64 0,.int .i64 0] 85));clear b2;have Own2:=hide (own_below Hrow.out B2.out);have In2:=hide (fun x hx=>(Hi.out x hx).below B2.out);have HB2:=hide (HB.out.trans (B2.out.mono HB.out.size));go_wp2;rw[Exit.noGoto_ret];go_ret3;exact⟨xs,A,c,p,_,HP.out,Hlen.out,own_cap Hrow.out,rfl,HB2.out,Reads.of_own Own2.out,above_own Own2.out,typed_own Own2.out,In2.out⟩
   | some t=>
    rw[ho] at hone
    have HX:=hide (show Calls Tryz.prog 54 #[.string s,.int .i64 (p:Int)] wr fun e w'=>Below wr.heap.size wr w'∧∃A c,e=.returned (.tuple #[.agg #[.int .i8 t.kind,.string (bstr t.name),.slice A t.attrs.length c,.bool t.empty,.string (bstr t.text),.int .i64 (t.at_:Int),.int .i64 (t.end_:Int)],.bool true])∧
     w'.ownsRow wr.heap.size 148 3 (.slice A t.attrs.length c) t.attrs.length (attrVs t.attrs) from hone)
    have HN:=hide (show p<t.end_∧t.end_≤D.length∧RowT D t.end_ (xs.map (·.t)++[t]) from have h:=HS.out.one p (by rw[HDl.out];exact hlt) t ho;⟨h.1,h.2,row_next HR.out (by rw[HDl.out];exact hlt) ho h.1⟩);have Hlen:=hide (show xs.length≤D.length by have:=HR.out.1;have:=HDl.out;rw[List.length_map] at *;omega);clear hone ho HO HR
    go_wp2_with fail
    refine HX.out.mono ?_;rintro e w2 ⟨b2,A2,c2,rfl,o2⟩;have B2:=hide b2;have N2:=hide (Tv.In.of_own o2);have Own2:=hide (own_below Hrow.out b2);have In2:=hide (fun x hx=>(Hi.out x hx).below b2);have HB2:=hide (HB.out.trans (b2.mono HB.out.size));have Own3:=hide (Own2.out.alloc (.cells #[.int .i8 t.kind,.string (bstr t.name),.slice A2 t.attrs.length c2,.bool t.empty,.string (bstr t.text),.int .i64 (t.at_:Int),.int .i64 (t.end_:Int)] 85));have In3:=hide (fun x hx=>(In2.out x hx).below (below_alloc w2 (.cells #[.int .i8 t.kind,.string (bstr t.name),.slice A2 t.attrs.length c2,.bool t.empty,.string (bstr t.text),.int .i64 (t.at_:Int),.int .i64 (t.end_:Int)] 85)));have N3:=hide ((N2.out.below (below_alloc w2 (.cells #[.int .i8 t.kind,.string (bstr t.name),.slice A2 t.attrs.length c2,.bool t.empty,.string (bstr t.text),.int .i64 (t.at_:Int),.int .i64 (t.end_:Int)] 85))).more HB.out.size);have HB3:=hide (HB2.out.alloc HB2.out.size (.cells #[.int .i8 t.kind,.string (bstr t.name),.slice A2 t.attrs.length c2,.bool t.empty,.string (bstr t.text),.int .i64 (t.at_:Int),.int .i64 (t.end_:Int)] 85));have V3:=hide (Blk.new w2 85 #[.int .i8 t.kind,.string (bstr t.name),.slice A2 t.attrs.length c2,.bool t.empty,.string (bstr t.text),.int .i64 (t.at_:Int),.int .i64 (t.end_:Int)])
    have HVn:=hide (show (Value.slice A xs.length c).ownBlock≠some w2.heap.size from fun e=>by have:=(Own2.out.lt _ e).2;omega);have Hxl:=hide (show xs.length≤1000000 by have:=Hlen.out;have:=HDl.out;omega);clear b2 o2 N2 Own2 In2 HB2 B2;go_wp2;generalize w2.alloc (.cells #[.int .i8 t.kind,.string (bstr t.name),.slice A2 t.attrs.length c2,.bool t.empty,.string (bstr t.text),.int .i64 (t.at_:Int),.int .i64 (t.end_:Int)] 85)=W3 at *
    generalize w2.heap.size=V at *
    have y0:=V3.out.cell 0;have y1:=V3.out.cell 1;have y2:=V3.out.cell 2;have y3:=V3.out.cell 3;have y4:=V3.out.cell 4;have y5:=V3.out.cell 5;have y6:=V3.out.cell 6;have xa:∀o,(W3.alloc o).cell? ⟨V,6,none⟩=some (.int .i64 (t.end_:Int)):=fun o=>(V3.out.alloc o).cell 6
    go_region_law
     (show if Region.wanted (⟨some 25,_,_,_,_,_⟩:Oper) _=true then _ else _;refine step_append_elem _ (by rfl) _ _ _ (by rfl) w.heap.size 85 _ 7 88 Tryz.underlying72 info_tok (by rfl) (by omega) (.slice A xs.length c) xs.length (tvRows xs) (by rfl) (by first|exact Own3.out.alloc _|exact (Own3.out.alloc _).drew) (Tv.row ⟨t,A2,c2⟩) rfl (tv_one ⟨t,A2,c2⟩) W3.heap.size (by first|exact Blk.new W3 85 _|exact (Blk.new W3 85 _).drew) (by rfl) (by unfold maxLen;have:=Hxl.out;omega) (by have:=Hxl.out;omega) (by have:=HB3.out.size;simp[World.drew];omega) ?_;intro gg cap w8 hown8 hgrow8 hlt8;have V8:=hide (Blk.grown (Blk.drew (Blk.alloc V3.out (.cells (Tv.row ⟨t,A2,c2⟩).toArray 85))) hgrow8 HVn.out.symm);have z6:w8.cell? ⟨V,6,none⟩=some (.int .i64 (t.end_:Int)):=V8.out.cell 6;have Hgrow8:=hide hgrow8;have Hown8:=hide hown8;clear hown8 hgrow8 hlt8)
    all_goals go_wp2
    all_goals
     have HBA:=hide ((HB3.out.alloc HB3.out.size (.cells (Tv.row ⟨t,A2,c2⟩).toArray 85)).drew);have HB8:=hide (HBA.out.grown Hgrow8.out HBA.out.size fun j e=>(own_isT Own3.out j e).1)
     have In8:=hide (show ∀x∈xs++[Tv.mk t A2 c2],x.In w.heap.size w8 from fun x hx=>by
      rcases List.mem_append.1 hx with hx|hx
      ·exact (In3.out x hx).grown Own3.out Hgrow8.out
      simp only[List.mem_singleton] at hx;subst hx;exact N3.out.grown Own3.out Hgrow8.out)
     go_roundg (s.size-t.end_)
     case measure=>have:=Hg.out;have:=HN.out.1;have:=HN.out.2.1;have:=HDl.out;omega
     case rel=>exact⟨t.end_,xs++[⟨t,A2,c2⟩],some ⟨gg,0,none⟩,cap,rfl,by have:=HN.out.2.1;have:=HDl.out;omega,rfl,by rw[List.length_append];rfl,by rw[List.length_append,tvRows_snoc];exact Hown8.out,In8.out,HB8.out,by rw[List.map_append];exact HN.out.2.2⟩
  have hpe:p=s.size:=by omega
  subst hpe
  have HP:=hide (show AllT D (xs.map (·.t)) s.size true by
   have h:=row_stop HR.out (.inl HDl.out.symm);rwa[HDl.out,decide_eq_true rfl] at h)
  have Hlen:=hide (show xs.length≤D.length by have:=HR.out.1;have:=HDl.out;rw[List.length_map] at *;omega);go_wp2;rw[Exit.noGoto_ret];go_ret3;exact⟨xs,A,c,s.size,_,HP.out,Hlen.out,own_cap Hrow.out,rfl,HB.out,Reads.of_own Hrow.out,above_own Hrow.out,typed_own Hrow.out,Hi.out⟩
end
section
open Go.RowKit Tk

def Tk.At.g(a:At):Ga:=⟨bstr a.name,bstr a.value,(a.at_:Int)⟩
def Tv.g(x:Tv):Gt:=⟨x.t.kind,bstr x.t.name,x.t.attrs.map At.g,x.A,x.c,x.t.empty,bstr x.t.text,(x.t.at_:Int),(x.t.end_:Int)⟩
theorem attrVs_g(l:List At):attrVs l=gas (l.map At.g):=by
 induction l with
 | nil=>rfl
 | cons a l ih=>unfold attrVs gas at ih ⊢;rw[List.flatMap_cons,List.map_cons,List.flatMap_cons,ih];rfl
theorem row_g(x:Tv):x.row=gtCells x.g:=by
 unfold Tv.row tokCells gtCells Tv.g;simp only[List.length_map]
theorem tvRows_g(xs:List Tv):tvRows xs=gts (xs.map Tv.g):=by
 induction xs with
 | nil=>rfl
 | cons a l ih=>unfold tvRows gts at ih ⊢;rw[List.flatMap_cons,List.map_cons,List.flatMap_cons,ih,row_g]
theorem Tv.In.g{x:Tv}{B:Nat}{W:World}(h:x.In B W):Reads W W.heap.size 3 x.g.A x.g.as_.length (gas x.g.as_):=by
 have:=h.a;rw[attrVs_g] at this;unfold Tv.g;simp only[List.length_map];exact this
theorem TkL.of{W:World}{A:Option Addr}{xs:List Tv}{B:Nat}(h:Reads W W.heap.size 7 A xs.length (tvRows xs))(hi:∀x∈xs,x.In B W):TkL W W.heap.size A (xs.map Tv.g):=by
 refine⟨?_,fun x hx=>?_⟩
 ·rw[List.length_map,←tvRows_g];exact h
 obtain⟨y,hy,rfl⟩:=List.mem_map.1 hx;exact (hi y hy).g
end
end Go.Proofs.YtifiiojchlaghaaGreatDoor
