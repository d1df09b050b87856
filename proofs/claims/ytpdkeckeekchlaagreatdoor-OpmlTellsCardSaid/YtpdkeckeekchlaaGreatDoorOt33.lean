/- opml.May, opml.Write's put. And more. -/
import Derived.Test.YtpdkeckeekchlaaGreatDoorOt31
import Derived.Test.YtpdkeckeekchlaaGreatDoorOt32
import Derived.Calls
set_option linter.unusedSimpArgs false
set_option maxHeartbeats 8000000
set_option linter.unusedVariables false
namespace Go.Proofs.YtpdkeckeekchlaaGreatDoor
section
open Go.RowKit Tk Sx Go.WideShapes

namespace Opm
def iB(seen:List L):List aB→Bool
 | []=>true
 | x :: r=>decide (x.pre≠[])&&(Tx.jA x.pre&&(Tx.jA x.ns&&(!decide (x.pre∈seen)&&iB (x.pre :: seen) r)))
def may(l:List aB):Bool:=iB [] l&&decide (l.length≤64)
end Opm
theorem OP(B b R:Nat)(l:L)(ss:List L)(w:World)(hB:Bx B b l w)(il:B≤w.heap.size)(hR:ae w R 9 (GA ss).toArray)(hRb:R≠b)(hn:ss.length≤1000)(hlen:l.length+ss.flatten.length≤100000000000) :
  Calls Tryz.prog 18 #[.slice (some ⟨R,0,none⟩) ss.length ss.length,.pointer (some ⟨b,0,none⟩)] w fun e w'=>(∃v,e=.returned v)∧Bx B b (l++ss.flatten) w'∧bM B b w w':=by
 obtain⟨m,hm⟩:∃m,ss.length=m:=⟨_,rfl⟩;have Hm:=ap hm;have HR:=ap hR;have HB:=ap hB;rw[hm] at hn ⊢;clear hm hR hB
 go_enter Tryz.func18,Tryz.ntmps18
 go_wp2
 go_loopg [4,7,8,9,10,11,12,13] m (fun gk v4 v7 v8 v9 v10 v11 v12 v13 wr=>∃j:Nat,v7=.int .i64 (j:Int)∧gk=m-j∧j≤m∧Bx B b (l++(ss.take j).flatten) wr∧bM B b w wr)
 case atStart=>exact⟨0,rfl,rfl,by omega,by simpa using HB.o,bM.refl _ _ _⟩
 case round=>
  obtain⟨j,rfl,au,hj,fI,bw⟩:=hrel;have dQ:=ap au;have nY:=ap fI;have pA:=ap bw;clear au fI bw
  by_cases hlt:j<m
  ·obtain⟨t,ht⟩:∃t,ss[j]?=some t:=⟨_,List.getElem?_eq_getElem (by rw[Hm.o];exact hlt)⟩;have nv:=pA.o.blk HR.o hRb (by decide)
   have hc:wr.cell? ⟨R,j,none⟩=some (.string (aa t)):=by
    rw[nv.cell j];simp[GA,ht]
   have eF:(ss.take (j+1)).flatten=(ss.take j).flatten++t:=by
    rw[List.take_add_one,ht];simp
   have hle:(l++(ss.take j).flatten).length+t.length≤140737488355328:=by
    have h1:((ss.take (j+1)).flatten).length≤ss.flatten.length:=by
     have h2:=congrArg List.length (congrArg List.flatten (List.take_append_drop (j+1) ss));rw[List.flatten_append,List.length_append] at h2;omega
    rw[eF,List.length_append] at h1;rw[List.length_append];omega
   have HW:=ap (nY.o.ws t hle (Nat.le_trans il pA.o.size));have xG:=ap eF;have iR:(0:Int)≤j∧(j:Int)<m:=by omega
   clear ht nv eF hle
   go_wp2_with fail
   refine HW.o.mono ?_;rintro e w1 ⟨⟨v,rfl⟩,ak,bZ⟩;have ax:=ap ak;have gl:=ap (pA.o.trans bZ);clear ak bZ;dsimp only;go_wp2
   go_roundg (m-(j+1))
   case measure=>have:=dQ.o;omega
   case rel=>exact⟨j+1,by first|rfl|go_num,rfl,by omega,by rw[xG.o,←List.append_assoc];exact ax.o,gl.o⟩
  have eD:j=m:=by omega
  have dg:¬(j:Int)<(m:Int):=by omega
  have HF:=ap (show Bx B b (l++ss.flatten) wr from by
   have:=nY.o;rwa[eD,←Hm.o,List.take_length] at this)
  clear eD;go_wp2;go_end0;exact⟨⟨_,rfl⟩,HF.o,pA.o⟩
theorem Rj(l:List aB)(A:Option Addr)(c:Nat)(w:World)(hR:Reads w w.heap.size 2 A l.length (aM l))(hu:∀x∈l,x.pre.length≤100000∧x.ns.length≤100000)(hl:l.length≤1000000) :
  Calls Tryz.prog 11 #[.slice A l.length c] w fun e w'=>e=.returned (.bool (Opm.may l))∧Below w.heap.size w w':=by
 obtain⟨n,hn⟩:∃n,l.length=n:=⟨_,rfl⟩;have HR:=ap hR;have HU:=ap hu;have Hn:=ap hn;have gD:=@run_makeMap Tryz.prog;have kX:=ap (fR.new w);have HL:=ap (fun (t:L) (W:World) (ht:t.length≤200000)=>VT t W ht);have hz:decide (l.length≤64)=decide (n≤64):=by rw[hn]
 have iq:Opm.may l=(Opm.iB [] l&&decide (n≤64)):=by unfold Opm.may;rw[hz]
 have qQ:=ap iq;rw[hn] at hl ⊢;clear hR hu hn hz iq
 go_enter Tryz.func11,Tryz.ntmps11
 go_wp2;clear gD;obtain⟨w0,hw0⟩:∃w0,w.alloc (.map #[] 0)=w0:=⟨_,rfl⟩;have cu:=ap (hw0▸ay w (.map #[] 0));rw[hw0] at kX ⊢;obtain⟨M,hM⟩:∃M,w.heap.size=M:=⟨_,rfl⟩;have HM:=ap hM;rw[hM] at kX;simp only[hM];clear hw0 hM
 go_loopg [2,5,9,10,11,12,13,14,15,16,17,18,19,20,21,22,23,24,25,26,27,28,29,30,31,32,33,34,35] n (fun gk v2 v5 v9 v10 v11 v12 v13 v14 v15 v16 v17 v18 v19 v20 v21 v22 v23 v24 v25 v26 v27 v28 v29 v30 v31 v32 v33 v34 v35 wr=>∃(j:Nat) (D:DataW Unit) (seen:List L),v9=.int .i64 (j:Int)∧gk=n-j∧j≤n∧fR wr M j seen D∧Opm.iB [] l=Opm.iB seen (l.drop j)∧Below w.heap.size w wr)
 case atStart=>exact⟨0,_,[],rfl,rfl,by omega,kX.o,rfl,cu.o⟩
 case round=>
  obtain⟨j,D,seen,rfl,au,hj,hs,heq,hb⟩:=hrel;have dQ:=ap au;have HS:=ap hs;have HEq:=ap heq;have HB:=ap hb;clear au hs heq hb
  by_cases hlt:j<n
  ·have cC:j<l.length:=by rw[Hn.o];exact hlt
   obtain⟨b,off,rfl,eZ,x0,x1⟩:=(HR.o.below HB.o).mo cC;obtain⟨dJ,bG⟩:=HU.o l[j] (List.getElem_mem cC);have hd:l.drop j=l[j] :: l.drop (j+1):=List.drop_eq_getElem_cons cC;obtain⟨⟨u,t⟩,hx⟩:∃x,l[j]=x:=⟨_,rfl⟩;rw[hx] at hd x0 x1 dJ bG;dsimp only at x0 x1 dJ bG;have hst:Opm.iB seen (l.drop j)=(decide (u≠[])&&(Tx.jA u&&(Tx.jA t&&(!decide (u∈seen)&&Opm.iB (u :: seen) (l.drop (j+1)))))):=by rw[hd,Opm.iB]
   have bf:=ap hst;have iR:(0:Int)≤j∧(j:Int)<n:=by omega
   have KO:=ay wr (.cells #[.string (aa u),.string (aa t)] 37);have ax:=ap (HB.o.trans (KO.mono HB.o.size));have E4:=ae.new wr 37 #[.string (aa u),.string (aa t)];have qF:=ap (HS.o.same (KO.block _ HS.o.lt));have gl:=ap E4;have k0:=E4.cell 0;have k1:=E4.cell 1;clear hd hx hst KO E4
   by_cases jM:u=[]
   ·subst jM;have e1:=vF [];have HF:=ap (show Opm.may l=false by rw[qQ.o,HEq.o,bf.o];simp);clear bf HEq;go_wp2;go_ret;rw[HF.o];exact⟨rfl,ax.o⟩
   have e1:=td jM;have kA:decide (u≠[])=true:=decide_eq_true jM;rw[kA,Bool.true_and] at bf;clear jM kA;have HF:=ap (show ∀q,Opm.iB seen (l.drop j)=q→Opm.may l=(q&&decide (n≤64)) from fun q hq=>by rw[qQ.o,HEq.o,hq]);obtain⟨q1,tY⟩:∃q,Tx.jA u=q:=⟨_,rfl⟩;obtain⟨q2,nK⟩:∃q,Tx.jA t=q:=⟨_,rfl⟩;have PO:=ap (fun W=>HL.o u W (by omega));have sF:=ap (fun W=>HL.o t W (by omega));simp only[tY] at PO;simp only[nK] at sF;rw[tY,nK] at bf;clear tY nK
   go_wp2_with fail
   refine (PO.o _).mono ?_;rintro e w2 ⟨rfl,af⟩;have ag:=ap (ax.o.trans (af.mono ax.o.size));have sJ:=ap (qF.o.same (af.block _ qF.o.lt));have gy:=gl.o.go af;have j0:=gy.cell 0;have j1:=gy.cell 1;have bm:=ap gy;clear af gy k0 k1 x0 x1;dsimp only
   cases q1 with
   | false=>
    have HF:=ap (show Opm.may l=false by rw[HF.o _ bf.o];simp);clear bf HEq;go_wp2;go_ret;rw[HF.o];exact⟨rfl,ag.o⟩
   | true=>
    go_wp2_with fail
    refine (sF.o _).mono ?_;rintro e w3 ⟨rfl,aA⟩;have aw:=ap (ag.o.trans (aA.mono ag.o.size));have Lg:=sJ.o.same (aA.block _ sJ.o.lt);have vO:=bm.o.go aA;have i0:=vO.cell 0;have HS3:=ap Lg;have n5:=ap (KD M j seen D u w3 Lg (by omega) (by unfold maxLen;omega));clear aA vO Lg j0 j1;dsimp only
    cases q2 with
    | false=>
     have HF:=ap (show Opm.may l=false by rw[HF.o _ bf.o];simp);clear bf HEq;go_wp2;go_ret;rw[HF.o];exact⟨rfl,aw.o⟩
    | true=>
     go_wp2_with fail
     refine n5.o.mono ?_;rintro e w4 ⟨rfl,nC,D',Vl⟩;have bW:=ap (aw.o.grown nC aw.o.size (fun k e=>by injection e with e;have:=HM.o;omega));have qG:=ap Vl;clear nC Vl;dsimp only;obtain⟨q3,BQ⟩:∃q,decide (u∈seen)=q:=⟨_,rfl⟩;rw[BQ] at bf ⊢;clear BQ
     cases q3 with
     | true=>
      have HF:=ap (show Opm.may l=false by rw[HF.o _ bf.o];simp);clear bf HEq;simp only[Bool.not_true];go_wp2;go_ret;rw[HF.o];exact⟨rfl,bW.o⟩
     | false=>
      have Z1:=ap (show Opm.iB [] l=Opm.iB (u :: seen) (l.drop (j+1)) by rw[HEq.o,bf.o];simp);clear bf HEq;simp only[Bool.not_false];go_wp2
      go_roundg (n-(j+1))
      case measure=>have:=dQ.o;omega
      case rel=>exact⟨j+1,_,_,by first|rfl|go_num,rfl,by omega,qG.o,Z1.o,bW.o⟩
  have eD:j=n:=by omega
  have dg:¬(j:Int)<(n:Int):=by omega
  have HF:=ap (show Opm.may l=decide (n≤64) by rw[qQ.o,HEq.o,eD,←Hn.o,List.drop_length];rfl);have hq:decide ((n:Int)≤64)=decide (n≤64):=by rw[decide_eq_decide];omega
  have Hq:=ap hq;clear eD hq;go_wp2;go_ret;rw[HF.o];refine⟨?_,HB.o⟩;show Ending.returned (.bool (decide ((n:Int)≤64)))=_;rw[Hq.o]
end
section
open Go.RowKit Tk Sx Go.WideShapes

namespace Opm
def c0:L:=[60,111,112,109,108,32,118,101,114,115,105,111,110,61,34,50,46,48,34,62,60,104,101,97,100,47,62,60,98,111,100,121,62]
def c1:L:=[60,111,117,116,108,105,110,101,32,116,101,120,116,61,34]
def c2:L:=[34,32,120,109,108,85,114,108,61,34]
def c3:L:=[34,47,62]
def c4:L:=[60,47,98,111,100,121,62,60,47,111,112,109,108,62]
def one(x:aB):L:=c1++Tx.escape true x.ns++c2++Tx.escape true x.pre++c3
theorem y8{x:aB}(h:x.pre.length≤100000∧x.ns.length≤100000):(one x).length≤1300000:=by
 unfold one;have h1:=Tx.tj true x.ns;have h2:=Tx.tj true x.pre;have h3:c1.length=15:=rfl;have h4:c2.length=10:=rfl;have h5:c3.length=3:=rfl;simp only[List.length_append];omega
theorem Tg{l:List aB}(h:∀x∈l,x.pre.length≤100000∧x.ns.length≤100000)(j:Nat):((l.take j).flatMap one).length≤1300000*l.length:=by
 have h1:∀l:List aB,(∀x∈l,x.pre.length≤100000∧x.ns.length≤100000)→(l.flatMap one).length≤1300000*l.length:=by
  intro l
  induction l with
  | nil=>intro _;simp
  | cons x l ih=>
   intro h;rw[List.flatMap_cons,List.length_append,List.length_cons];have:=ih fun y hy=>h y (List.mem_cons_of_mem _ hy);have:=y8 (h x (List.mem_cons_self ..));omega
 have h2:=h1 (l.take j) fun x hx=>h x (List.mem_of_mem_take hx);have h3:(l.take j).length≤l.length:=by rw[List.length_take];omega
 omega
def text(l:List aB):L:=c0++l.flatMap one++c4
end Opm
structure j8(B b X:Nat)(u t acc pc:L)(W0:World)(d:Prop)(W:World):Prop where
 x:ae W X 37 #[.string (aa u),.string (aa t)]
 xb:X≠b
 z:B≤W.heap.size
 pre:¬d→Bx B b acc W
 post:d→Bx B b (acc++pc) W
 t:bM B b W0 W
theorem j8.lt{B b X:Nat}{u t acc pc:L}{W0 W:World}{d:Prop}(h:j8 B b X u t acc pc W0 d W):b<W.heap.size:=by
 by_cases hd:d
 ·exact (h.post hd).lt
 exact (h.pre hd).lt
theorem j8.iff{B b X:Nat}{u t acc pc:L}{W0 W:World}{d d':Prop}(h:j8 B b X u t acc pc W0 d W)(e:d↔d'):j8 B b X u t acc pc W0 d' W:=propext e▸h
theorem j8.go{B b X:Nat}{u t acc pc:L}{W0 W W':World}{d:Prop}(h:j8 B b X u t acc pc W0 d W)(hb:Below W.heap.size W W'):j8 B b X u t acc pc W0 d W' :=
 ⟨h.x.go hb,h.xb,Nat.le_trans h.z hb.size,fun hd=>(h.pre hd).go hb,fun hd=>(h.post hd).go hb,h.t.trans (bM.b8 hb)⟩
theorem j8.put{B b X:Nat}{u t acc pc:L}{W0 W W':World}{d d':Prop}(h:j8 B b X u t acc pc W0 d W)(hd':d')(hb:Bx B b (acc++pc) W')(hk:bM B b W W'):j8 B b X u t acc pc W0 d' W' :=
 ⟨hk.blk h.x h.xb (by decide),h.xb,Nat.le_trans h.z hk.size,fun hd=>absurd hd' hd,fun _=>hb,h.t.trans hk⟩
theorem j8.start{B b X:Nat}{u t acc pc:L}{W0 W:World}(hb:Below W0.heap.size W0 W)(hx:Bx B b acc W0)(hX:ae W0 X 37 #[.string (aa u),.string (aa t)])(hne:X≠b)(hz:B≤W0.heap.size):j8 B b X u t acc pc W0 False W :=
 ⟨hX.go hb,hne,Nat.le_trans hz hb.size,fun _=>hx.go hb,fun h=>h.elim,bM.b8 hb⟩
theorem JM(l:List aB)(A:Option Addr)(c:Nat)(w:World)(hR:Reads w w.heap.size 2 A l.length (aM l))(hu:∀x∈l,x.pre.length≤100000∧x.ns.length≤100000)(hl:l.length≤1000) :
  Calls Tryz.prog 7 #[.slice A l.length c] w fun e w'=>e=.returned (if Opm.may l=true then .tuple #[.string (aa (Opm.text l)),.int .i64 0] else .tuple #[.string ⟨#[]⟩,.int .i64 2])∧Below w.heap.size w w':=by
 have qB:=ap (Rj l A c w hR hu (by omega));obtain⟨n,hn⟩:∃n,l.length=n:=⟨_,rfl⟩;have HR:=ap hR;have HU:=ap hu;have Hn:=ap hn;obtain⟨q,hq⟩:∃q,Opm.may l=q:=⟨_,rfl⟩;rw[hq,hn] at qB;rw[hq];rw[hn] at hl ⊢;clear hR hu hn hq
 go_enter Tryz.func7,Tryz.ntmps7
 go_wp2_with fail
 refine qB.o.mono ?_;rintro e w1 ⟨rfl,ak⟩;have ax:=ap ak;clear ak;dsimp only
 cases q with
 | false=>
  go_wp2;go_ret2;exact⟨rfl,ax.o⟩
 | true=>
  have hz1:=ax.o.size;have Le:=ae.new (w1.alloc (.cells #[.pointer none,.slice none 0 0] 52)) 9 #[.string (aa Opm.c0)];rw[World.size_alloc] at Le;have dA:Below w1.heap.size w1 ((w1.alloc (.cells #[.pointer none,.slice none 0 0] 52)).alloc (.cells #[.string (aa Opm.c0)] 9)):=(ay w1 _).alloc (by simp) _;have IL:=ap (show Calls Tryz.prog 18 #[.slice (some ⟨w1.heap.size+1,0,none⟩) 1 1,.pointer (some ⟨w1.heap.size,0,none⟩)] ((w1.alloc (.cells #[.pointer none,.slice none 0 0] 52)).alloc (.cells #[.string (aa Opm.c0)] 9)) fun e w'=>(∃v,e=.returned v)∧Bx w1.heap.size w1.heap.size Opm.c0 w'∧Below w1.heap.size w1 w' from (OP w1.heap.size w1.heap.size (w1.heap.size+1) [] [Opm.c0] _ ((Bx.fresh w1).go (ay _ _)) (by simp;omega) Le (by omega) (by simp) (by decide)).mono fun e w' h=>⟨h.1,h.2.1,dA.trans (h.2.2.below (Nat.le_refl _) dA.size)⟩);obtain⟨b,hb⟩:∃b,w1.heap.size=b:=⟨_,rfl⟩;have Hb:=ap hb;rw[hb] at IL hz1;have tV:Tryz.prog.follows .mixedOrders=true:=by kernel_rfl
  clear Le dA
  go_wp2_with fail
  clear hb;refine IL.o.mono ?_;rintro e w2 ⟨⟨v0,rfl⟩,wL,af⟩;have HX2:=ap wL;have ag:=ap af;have hz2:=af.size;clear wL af IL;dsimp only;go_wp2
  go_loopg [7,17,18,19,20,21,22,23,24,25,26,27,28,29,30] n (fun gk v7 v17 v18 v19 v20 v21 v22 v23 v24 v25 v26 v27 v28 v29 v30 wr=>∃j:Nat,v17=.int .i64 (j:Int)∧gk=n-j∧j≤n∧Bx b b (Opm.c0++(l.take j).flatMap Opm.one) wr∧Below b w1 wr)
  case atStart=>exact⟨0,rfl,rfl,by omega,by simpa using HX2.o,ag.o⟩
  case round=>
   obtain⟨j,rfl,au,hj,hx,Fb⟩:=hrel;have dQ:=ap au;have xA:=ap hx;have zy:=ap Fb;clear au hx Fb
   by_cases hlt:j<n
   ·have cC:j<l.length:=by rw[Hn.o];exact hlt
    obtain⟨eb,off,rfl,eZ,x0,x1⟩:=(HR.o.below ((ax.o.trans (zy.o.mono hz1)))).mo cC;obtain⟨dJ,bG⟩:=HU.o l[j] (List.getElem_mem cC)
    have hst:(l.take (j+1)).flatMap Opm.one=(l.take j).flatMap Opm.one++Opm.one l[j]:=by
     rw[List.take_add_one,List.getElem?_eq_getElem cC,List.flatMap_append];simp
    obtain⟨⟨u,t⟩,yE⟩:∃x,l[j]=x:=⟨_,rfl⟩;rw[yE] at hst x0 x1 dJ bG;dsimp only at x0 x1 dJ bG;have iR:(0:Int)≤j∧(j:Int)<n:=by omega
    have mA:=Opm.Tg HU.o j;rw[Hn.o] at mA;obtain⟨acc,gz⟩:∃acc,Opm.c0++(l.take j).flatMap Opm.one=acc:=⟨_,rfl⟩;have jI:acc.length≤2000000000:=by rw[←gz,List.length_append];have:Opm.c0.length=33:=rfl;omega
    obtain⟨pc,tX⟩:∃pc,Opm.one ⟨u,t⟩=pc:=⟨_,rfl⟩;have cz:=ap (show Opm.c0++(l.take (j+1)).flatMap Opm.one=acc++pc by rw[hst,←List.append_assoc,gz,tX]);rw[gz] at xA;have Pw:=ap (fun W=>SN true t W (by omega));have Px:=ap (fun W=>SN true u W (by omega))
    have zQ:=ap (show ∀(R:Nat) (W:World),Bx b b acc W→b≤W.heap.size→ae W R 9 #[.string (aa Opm.c1),.string (aa (Tx.escape true t)),.string (aa Opm.c2),.string (aa (Tx.escape true u)),.string (aa Opm.c3)]→R≠b→Calls Tryz.prog 18 #[.slice (some ⟨R,0,none⟩) 5 5,.pointer (some ⟨b,0,none⟩)] W fun e w'=>(∃v,e=.returned v)∧Bx b b (acc++pc) w'∧bM b b W w' from fun R W h1 h2 h3 h4=>by
     have hf:[Opm.c1,Tx.escape true t,Opm.c2,Tx.escape true u,Opm.c3].flatten=pc:=by rw[←tX];simp[Opm.one]
     have h:=OP b b R acc [Opm.c1,Tx.escape true t,Opm.c2,Tx.escape true u,Opm.c3] W h1 h2 h3 h4 (by simp) (by rw[hf,←tX];have:=Opm.y8 (x:=⟨u,t⟩) ⟨dJ,bG⟩;omega);rw[hf] at h;exact h)
    have Lj:=ae.new wr 37 #[.string (aa u),.string (aa t)];have bh:=xA.o.lt;have fI:=xA.o.go (ay wr (.cells #[.string (aa u),.string (aa t)] 37));have pR:=zy.o.alloc (Nat.le_of_lt bh) (.cells #[.string (aa u),.string (aa t)] 37);clear hst yE gz tX mA xA;go_wp2;obtain⟨X,hX⟩:∃X,wr.heap.size=X:=⟨_,rfl⟩;obtain⟨Wr,E9⟩:∃W,wr.alloc (.cells #[.string (aa u),.string (aa t)] 37)=W:=⟨_,rfl⟩;have hz:b≤Wr.heap.size:=by rw[←E9,World.size_alloc];omega
    rw[E9,hX] at Lj;rw[E9] at fI pR ⊢;rw[hX] at bh ⊢;have lF:X≠b:=by omega
    have HX:=ap Lj;have nY:=ap fI;have kS:=ap pR;clear E9 hX Lj fI pR x0 x1 zy
    refine (wpIn_wide (n:=1)).1 (C8 tV (by kernel_rfl) (fun L a W=>∃u0 u1 u2 u3 u4 u5 u6 u7 u8:Value,a=⟨List.toArray ((.slice (some ⟨eb,off,none⟩) n c) :: undef :: (.string ⟨#[]⟩) :: (.int .i64 0) :: (.pointer (some ⟨b,0,none⟩)) :: (.func (.func 18) #[] #[.pointer (some ⟨b,0,none⟩)]) :: undef :: (.pointer (some ⟨X,0,none⟩)) :: (.slice (some ⟨eb,off,none⟩) n c) :: (.bool true) :: (.bool false) :: (.func (.func 18) #[] #[.pointer (some ⟨b,0,none⟩)]) :: (.func (.func 18) #[] #[.pointer (some ⟨b,0,none⟩)]) :: (.slice (some ⟨b+1,0,none⟩) 1 1) :: v0 :: (.slice (some ⟨eb,off,none⟩) n c) :: (.int .i64 (n:Int)) :: (.int .i64 (j:Int)) :: (.bool true) :: (.pointer (some ⟨eb,off+j*2,none⟩)) :: (.agg #[.string (aa u),.string (aa t)]) :: u0 :: u1 :: u2 :: u3 :: u4 :: u5 :: u6 :: u7 :: u8 :: u30 :: undef :: undef :: undef :: undef :: []),[]⟩∧j8 b b X u t acc pc Wr (L 8) W∧(L 0→u0=.func (.func 18) #[] #[.pointer (some ⟨b,0,none⟩)])∧(L 1→u1=.pointer (some ⟨X,1,none⟩))∧(L 2→u2=.string (aa t))∧(L 3→u3=.string (aa (Tx.escape true t)))∧(L 4→u4=.pointer (some ⟨X,0,none⟩))∧(L 5→u5=.string (aa u))∧(L 6→u6=.string (aa (Tx.escape true u)))∧(L 7→∃R,u7=.slice (some ⟨R,0,none⟩) 5 5∧(L 8∨(ae W R 9 #[.string (aa Opm.c1),.string (aa (Tx.escape true t)),.string (aa Opm.c2),.string (aa (Tx.escape true u)),.string (aa Opm.c3)]∧R≠b)))) ?h0 ?hs ?_)
    case h0=>exact⟨_,_,_,_,_,_,_,_,_,rfl,(j8.start (by have:=Below.refl Wr.heap.size Wr;exact below_drewN this 1) nY.o HX.o lF hz),(·.elim),(·.elim),(·.elim),(·.elim),(·.elim),(·.elim),(·.elim),(·.elim)⟩
    case hs=>
     rintro L a W i ⟨u0,u1,u2,u3,u4,u5,u6,u7,u8,rfl,hS,p0,p1,p2,p3,p4,p5,p6,p7⟩ hi ju bk ck;obtain rfl|rfl|rfl|rfl|rfl|rfl|rfl|rfl|rfl:i=0∨i=1∨i=2∨i=3∨i=4∨i=5∨i=6∨i=7∨i=8:=by have:i<9:=hi;omega
     all_goals clear hi
     ·refine dL rfl (by kernel_rfl) (fun K hK=>?_);go_simp;refine hK _ _ ?_;(try simp only[Act.put,List.setIfInBounds_toArray,List.set_cons_zero,List.set_cons_succ]);exact⟨_,_,_,_,_,_,_,_,_,rfl,(hS.iff ⟨.inl,fun h=>h.elim id fun e=>by cases e⟩),fun _=>rfl,aj p1 (by decide),aj p2 (by decide),aj p3 (by decide),aj p4 (by decide),aj p5 (by decide),aj p6 (by decide),aj (fun h=>by obtain⟨R,e,h1⟩:=p7 h;exact⟨R,e,h1.elim (fun h=>.inl (.inl h)) fun h=>.inr ⟨h.1.go (Below.refl W.heap.size W),h.2⟩⟩) (by decide)⟩
     ·refine dL rfl (by kernel_rfl) (fun K hK=>?_);go_simp;refine hK _ _ ?_;(try simp only[Act.put,List.setIfInBounds_toArray,List.set_cons_zero,List.set_cons_succ]);exact⟨_,_,_,_,_,_,_,_,_,rfl,(hS.iff ⟨.inl,fun h=>h.elim id fun e=>by cases e⟩),aj p0 (by decide),fun _=>rfl,aj p2 (by decide),aj p3 (by decide),aj p4 (by decide),aj p5 (by decide),aj p6 (by decide),aj (fun h=>by obtain⟨R,e,h1⟩:=p7 h;exact⟨R,e,h1.elim (fun h=>.inl (.inl h)) fun h=>.inr ⟨h.1.go (Below.refl W.heap.size W),h.2⟩⟩) (by decide)⟩
     ·obtain rfl:=p1 (bk 1 (by kernel_rfl));have k1:=hS.x.cell 1;refine dL rfl (by kernel_rfl) (fun K hK=>?_);go_simp;refine hK _ _ ?_;(try simp only[Act.put,List.setIfInBounds_toArray,List.set_cons_zero,List.set_cons_succ]);exact⟨_,_,_,_,_,_,_,_,_,rfl,(hS.iff ⟨.inl,fun h=>h.elim id fun e=>by cases e⟩),aj p0 (by decide),aj p1 (by decide),fun _=>rfl,aj p3 (by decide),aj p4 (by decide),aj p5 (by decide),aj p6 (by decide),aj (fun h=>by obtain⟨R,e,h1⟩:=p7 h;exact⟨R,e,h1.elim (fun h=>.inl (.inl h)) fun h=>.inr ⟨h.1.go (Below.refl W.heap.size W),h.2⟩⟩) (by decide)⟩
     ·obtain rfl:=p2 (bk 2 (by kernel_rfl));refine dL rfl (by kernel_rfl) (fun K hK=>?_);go_simp;refine⟨trivial,(callsIn_wide.2 (Pw.o W)).mono ?_⟩;rintro e w3 ⟨rfl,aA⟩;dsimp only;refine hK _ _ ?_;(try simp only[Act.put,List.setIfInBounds_toArray,List.set_cons_zero,List.set_cons_succ]);exact⟨_,_,_,_,_,_,_,_,_,rfl,((hS.go aA).iff ⟨.inl,fun h=>h.elim id fun e=>by cases e⟩),aj p0 (by decide),aj p1 (by decide),aj p2 (by decide),fun _=>rfl,aj p4 (by decide),aj p5 (by decide),aj p6 (by decide),aj (fun h=>by obtain⟨R,e,h1⟩:=p7 h;exact⟨R,e,h1.elim (fun h=>.inl (.inl h)) fun h=>.inr ⟨h.1.go aA,h.2⟩⟩) (by decide)⟩
     ·refine dL rfl (by kernel_rfl) (fun K hK=>?_);go_simp;refine hK _ _ ?_;(try simp only[Act.put,List.setIfInBounds_toArray,List.set_cons_zero,List.set_cons_succ]);exact⟨_,_,_,_,_,_,_,_,_,rfl,(hS.iff ⟨.inl,fun h=>h.elim id fun e=>by cases e⟩),aj p0 (by decide),aj p1 (by decide),aj p2 (by decide),aj p3 (by decide),fun _=>rfl,aj p5 (by decide),aj p6 (by decide),aj (fun h=>by obtain⟨R,e,h1⟩:=p7 h;exact⟨R,e,h1.elim (fun h=>.inl (.inl h)) fun h=>.inr ⟨h.1.go (Below.refl W.heap.size W),h.2⟩⟩) (by decide)⟩
     ·obtain rfl:=p4 (bk 4 (by kernel_rfl));have k0:=hS.x.cell 0;refine dL rfl (by kernel_rfl) (fun K hK=>?_);go_simp;refine hK _ _ ?_;(try simp only[Act.put,List.setIfInBounds_toArray,List.set_cons_zero,List.set_cons_succ]);exact⟨_,_,_,_,_,_,_,_,_,rfl,(hS.iff ⟨.inl,fun h=>h.elim id fun e=>by cases e⟩),aj p0 (by decide),aj p1 (by decide),aj p2 (by decide),aj p3 (by decide),aj p4 (by decide),fun _=>rfl,aj p6 (by decide),aj (fun h=>by obtain⟨R,e,h1⟩:=p7 h;exact⟨R,e,h1.elim (fun h=>.inl (.inl h)) fun h=>.inr ⟨h.1.go (Below.refl W.heap.size W),h.2⟩⟩) (by decide)⟩
     ·obtain rfl:=p5 (bk 5 (by kernel_rfl));refine dL rfl (by kernel_rfl) (fun K hK=>?_);go_simp;refine⟨trivial,(callsIn_wide.2 (Px.o W)).mono ?_⟩;rintro e w3 ⟨rfl,aA⟩;dsimp only;refine hK _ _ ?_;(try simp only[Act.put,List.setIfInBounds_toArray,List.set_cons_zero,List.set_cons_succ]);exact⟨_,_,_,_,_,_,_,_,_,rfl,((hS.go aA).iff ⟨.inl,fun h=>h.elim id fun e=>by cases e⟩),aj p0 (by decide),aj p1 (by decide),aj p2 (by decide),aj p3 (by decide),aj p4 (by decide),aj p5 (by decide),fun _=>rfl,aj (fun h=>by obtain⟨R,e,h1⟩:=p7 h;exact⟨R,e,h1.elim (fun h=>.inl (.inl h)) fun h=>.inr ⟨h.1.go aA,h.2⟩⟩) (by decide)⟩
     ·obtain rfl:=p3 (bk 3 (by kernel_rfl));obtain rfl:=p6 (bk 6 (by kernel_rfl));refine dL rfl (by kernel_rfl) (fun K hK=>?_);go_simp;refine hK _ _ ?_;(try simp only[Act.put,List.setIfInBounds_toArray,List.set_cons_zero,List.set_cons_succ]);exact⟨_,_,_,_,_,_,_,_,_,rfl,((hS.go (ay W _)).iff ⟨.inl,fun h=>h.elim id fun e=>by cases e⟩),aj p0 (by decide),aj p1 (by decide),aj p2 (by decide),aj p3 (by decide),aj p4 (by decide),aj p5 (by decide),aj p6 (by decide),fun _=>⟨W.heap.size,rfl,.inr ⟨ae.new W _ _,by have:=hS.lt;omega⟩⟩⟩
     obtain rfl:=p0 (bk 0 (by kernel_rfl));obtain⟨R7,rfl,E8⟩:=p7 (bk 7 (by kernel_rfl));refine dL rfl (by kernel_rfl) (fun K hK=>?_);go_simp;refine⟨trivial,(callsIn_wide.2 (zQ.o R7 W (hS.pre ju) hS.z (E8.resolve_left ju).1 (E8.resolve_left ju).2)).mono ?_⟩;rintro e w3 ⟨⟨v3,rfl⟩,aA,aI⟩;dsimp only;refine hK _ _ ?_;(try simp only[Act.put,List.setIfInBounds_toArray,List.set_cons_zero,List.set_cons_succ]);exact⟨_,_,_,_,_,_,_,_,_,rfl,hS.put (by simp) aA aI,aj p0 (by decide),aj p1 (by decide),aj p2 (by decide),aj p3 (by decide),aj p4 (by decide),aj p5 (by decide),aj p6 (by decide),aj (fun h=>⟨R7,rfl,.inl (by simp)⟩) (by decide)⟩
    rintro L a w8 ⟨u0,u1,u2,u3,u4,u5,u6,u7,u8,rfl,hS,p0,p1,p2,p3,p4,p5,p6,p7⟩ hall;have h8:=hall 8 (by decide);obtain rfl:=p0 (hall 0 (by decide));obtain rfl:=p1 (hall 1 (by decide));obtain rfl:=p2 (hall 2 (by decide));obtain rfl:=p3 (hall 3 (by decide));obtain rfl:=p4 (hall 4 (by decide));obtain rfl:=p5 (hall 5 (by decide));obtain rfl:=p6 (hall 6 (by decide));obtain⟨R7,rfl,E8⟩:=p7 (hall 7 (by decide));clear p0 p1 p2 p3 p4 p5 p6 p7 hall;have ZT:=ap (show Bx b b (Opm.c0++(l.take (j+1)).flatMap Opm.one) w8 by rw[cz.o];exact hS.post h8);have ZR:=ap (kS.o.trans (hS.t.below (Nat.le_refl _) hz));clear hS h8 Pw Px zQ E8;go_wp2
    go_roundg (n-(j+1))
    case measure=>have:=dQ.o;omega
    case rel=>exact⟨j+1,by first|rfl|go_num,rfl,by omega,ZT.o,ZR.o⟩
   have eD:j=n:=by omega
   have dg:¬(j:Int)<(n:Int):=by omega
   have hx:=xA.o;rw[eD,←Hn.o,List.take_length] at hx;have mA:=Opm.Tg HU.o l.length;rw[List.take_length,Hn.o] at mA;have TZ:=ae.new wr 9 #[.string (aa Opm.c4)];have bh:=hx.lt;have hzr:w.heap.size≤wr.heap.size:=by omega
   have lH:=zy.o.alloc (Nat.le_of_lt bh) (.cells #[.string (aa Opm.c4)] 9)
   have Dw:=ap (show Calls Tryz.prog 18 #[.slice (some ⟨wr.heap.size,0,none⟩) 1 1,.pointer (some ⟨b,0,none⟩)] (wr.alloc (.cells #[.string (aa Opm.c4)] 9)) fun e w'=>(∃v,e=.returned v)∧Bx b b (Opm.text l) w'∧Below b w1 w'∧b≤w'.heap.size from (OP b b wr.heap.size _ [Opm.c4] _ (hx.go (ay _ _)) (by simp;omega) TZ (by omega) (by simp) (by
    have h1:Opm.c0.length=33:=rfl;have h2:[Opm.c4].flatten.length=14:=rfl;rw[h2,List.length_append]
    omega)).mono fun e w' h=>⟨h.1,by have:=h.2.1;simpa[Opm.text] using this,lH.trans (h.2.2.below (Nat.le_refl _) (by simp;omega)),Nat.le_trans (by simp;omega) h.2.2.size⟩)
   clear hx mA TZ lH xA zy eD
   go_wp2_with fail
   refine Dw.o.mono ?_;rintro e w5 ⟨⟨v5,rfl⟩,VC,hb5,VJ⟩;have oa:=ap (VC.str VJ);have iI:=ap hb5;clear VC Dw;dsimp only
   go_wp2_with fail
   refine oa.o.mono ?_;rintro e w6 ⟨rfl,Uk⟩;have mU:=ap (ax.o.trans ((iI.o.trans Uk).mono hz1));clear Uk;dsimp only;go_wp2;go_ret2;exact⟨rfl,mU.o⟩
end
section
open Go.RowKit Tk Sx Go.WideShapes

namespace Opm
def XG(r:Except Nat (List aB))(l:List (L×L)):Bool:=match r with
 | .ok x=>decide (x.map (fun d=>(d.pre,d.ns))=l)
 | .error _=>false
def XF(r:Except Nat (List aB))(n:Nat):Bool:=match r with
 | .ok _=>false
 | .error m=>decide (m=n)
theorem rd1:r9 tq=.ok [⟨[117],[98]⟩]:=by
 have h:XG (r9 tq) [([117],[98])]=true:=by kernel_rfl
 unfold XG at h
 split at h
 ·rename_i x hx
  have h:=of_decide_eq_true h;rw[hx]
  match x,h with
  | [⟨a,b⟩],h=>simp at h;obtain⟨rfl,rfl⟩:=h;rfl
 cases h
theorem rd2:r9 tr=.error 43:=by
 have h:XF (r9 tr) 43=true:=by kernel_rfl
 unfold XF at h
 split at h
 ·cases h
 rename_i m hm
 rw[hm,of_decide_eq_true h]
theorem ahH:may [⟨[117],[60]⟩]=true:=by kernel_rfl
def t3:L:=[60,111,112,109,108,32,118,101,114,115,105,111,110,61,34,50,46,48,34,62,60,104,101,97,100,47,62,60,98,111,100,121,62,60,111,117,116,108,105,110,101,32,116,101,120,116,61,34,38,108,116,59,34,32,120,109,108,85,114,108,61,34,117,34,47,62,60,47,98,111,100,121,62,60,47,111,112,109,108,62]
theorem amD:text [⟨[117],[60]⟩]=t3:=of_decide_eq_true (by kernel_rfl)
theorem ad7:∀e∈tq,e.attrs.length≤1000000∧∀a∈e.attrs,gM a.name∧a.val.length≤100000:=by
 intro e he;simp only[tq,List.mem_cons,List.not_mem_nil,or_false] at he
 rcases he with rfl|rfl|rfl|rfl|rfl|rfl|rfl|rfl<;>refine⟨by simp,fun a ha=>?_⟩<;>simp at ha
 ·subst ha;exact⟨⟨by decide,by decide⟩,by decide⟩
 rcases ha with rfl|rfl<;>exact⟨⟨by decide,by decide⟩,by decide⟩
theorem ad8:∀e∈tr,e.attrs.length≤1000000∧∀a∈e.attrs,gM a.name∧a.val.length≤100000:=by
 intro e he;simp only[tr,List.mem_cons,List.not_mem_nil,or_false] at he
 rcases he with rfl|rfl<;>exact⟨by simp,fun a ha=>by cases ha⟩
end Opm
theorem anm(w:World)(hg:Gl w)(jO:6≤w.heap.size):Calls Tryz.prog 6 #[] w fun e w'=>e=.returned (.bool true)∧Below w.heap.size w w':=by
 have H1:=ap (Ro Opm.t1 Opm.tq w hg jO (by decide) (by decide) Opm.aiX Opm.aec Opm.alv Opm.als Opm.ant Opm.ad7 (by decide));have H2:=ap (fun W (hb:Below w.heap.size w W)=>Ro Opm.t2 Opm.tr W (hg.below hb) (Nat.le_trans jO hb.size) (by decide) (by decide) Opm.aiY Opm.aed Opm.alw Opm.alu Opm.anu Opm.ad8 (by decide));rw[Opm.rd1] at H1;simp only[Opm.rd2] at H2;clear hg jO
 go_enter Tryz.func6,Tryz.ntmps6
 go_wp2_with fail
 refine H1.o.mono ?_;rintro e w1 ⟨ak,A,c,rfl,hc,hr⟩;obtain⟨b,off,rfl,eZ,x0,x1⟩:=hr.mo (k:=0) (by simp);simp only[List.getElem_cons_zero] at x0 x1;have ax:=ap ak;have afg:=ak.size;have HX:=ap (show w1.cell? ⟨b,off+0*2,none⟩=_∧w1.cell? ⟨b,off+0*2+1,none⟩=_ from⟨x0,x1⟩);clear ak hr x0 x1 hc H1;dsimp only
 go_wp2_with fail
 refine (H2.o w1 ax.o).mono ?_;rintro e w2 ⟨af,rfl⟩;have ag:=ap (ax.o.trans (af.mono ax.o.size));have ZQ:=ap af;have Uj:=af.size;clear af H2;dsimp only;have TY:=ae.new w2 37 #[.string (aa [117]),.string (aa [60])]
 have H3:=ap ((JM [⟨[117],[60]⟩] (some ⟨w2.heap.size,0,none⟩) 1 (w2.alloc (.cells #[.string (aa [117]),.string (aa [60])] 37)) ⟨rfl,fun _=>⟨w2.heap.size,0,rfl,by simp,fun j u hu=>by
  rw[Nat.zero_add,TY.cell j]
  simpa[aM,jH] using hu⟩⟩ (by simp) (by simp)))
 rw[Opm.ahH,if_pos rfl,Opm.amD] at H3;have aA:=ay w2 (.cells #[.string (aa [117]),.string (aa [60])] 37);have aw:=ap aA;clear TY aA
 go_wp2_with fail
 refine H3.o.mono ?_;rintro e w4 ⟨rfl,lH⟩;have bW:=ap ((ZQ.o.trans ((aw.o.trans (lH.mono aw.o.size)).mono Uj)));have kS:=ap (ax.o.trans (bW.o.mono afg));have x0:=(bW.o.cell (p:=⟨b,off+0*2,none⟩) eZ).trans HX.o.1;have x1:=(bW.o.cell (p:=⟨b,off+0*2+1,none⟩) eZ).trans HX.o.2;clear lH H3 HX;rw[Nat.zero_mul,Nat.add_zero] at x0 x1;have e1:(aa [117]).toList=[117]:=by rw[ByteArray.toList_eq,aZ]
 have e2:(aa [98]).toList=[98]:=by rw[ByteArray.toList_eq,aZ]
 have e3:(aa Opm.t3).toList=[60,111,112,109,108,32,118,101,114,115,105,111,110,61,34,50,46,48,34,62,60,104,101,97,100,47,62,60,98,111,100,121,62,60,111,117,116,108,105,110,101,32,116,101,120,116,61,34,38,108,116,59,34,32,120,109,108,85,114,108,61,34,117,34,47,62,60,47,98,111,100,121,62,60,47,111,112,109,108,62]:=by rw[ByteArray.toList_eq,aZ];rfl
 dsimp only;go_wp2;go_ret;exact⟨rfl,kS.o⟩
end
section
namespace Rec

structure bH where
 id:ByteArray
 title:ByteArray
 link:ByteArray
 bP:ByteArray
 content:ByteArray
 has:Bool
 sec:Int
 deriving DecidableEq

structure iM where
 e:bH
 read:Bool
 deriving DecidableEq

structure Rcd where
 kind:Int
 gen:Int
 url:ByteArray
 id:ByteArray
 read:Bool
 entries:List bH
 amh:ByteArray
 kept:List iM
 deriving DecidableEq

def jR(s:ByteArray):Bool:=decide (s.size≤30000)&&Utf.valid s.data.toList
def gH(has:Bool)(sec:Int):Bool:=if has then decide (-62135596800≤sec∧sec≤253402300799) else decide (sec=0)
def keeps(x:bH):Bool :=
 jR x.id&&jR x.title&&jR x.link&&jR x.bP&&jR x.content&&gH x.has x.sec&&decide (0<x.id.size) &&
  decide (x.id.size+x.title.size+x.link.size+x.bP.size+x.content.size≤30000)

def gX(s:ByteArray):Bool:=decide (0<s.size∧s.size≤64)

def below(a b:ByteArray):Bool:=Op.bytesLess a.toList b.toList

/-! ### Bytes -/

def num(n:Int):List UInt8:=[UInt8.ofNat (n % 256).toNat,UInt8.ofNat (n / 256 % 256).toNat,UInt8.ofNat (n / 65536 % 256).toNat,UInt8.ofNat (n / 16777216 % 256).toNat]
def text(s:ByteArray):List UInt8:=num s.size++s.data.toList
def flag(b:Bool):List UInt8:=[if b then 1 else 0]
def entry(x:bH):List UInt8 :=
 text x.id++text x.title++text x.link++text x.bP++text x.content++flag x.has ++
  (if x.has then num (x.sec - -62135596800)++num ((x.sec - -62135596800) / 4294967296) else [])
def ag0(x:iM):List UInt8:=entry x.e++flag x.read
def bytes(r:Rcd):List UInt8 :=
 [UInt8.ofNat (r.kind % 256).toNat] ++
  (if r.kind=0 then num r.gen
   else if r.kind=1∨r.kind=2 then text r.url
   else if r.kind=3 then text r.url++num r.entries.length++r.entries.flatMap entry
   else if r.kind=4 then text r.url++text r.id++flag r.read
   else if r.kind=5 then text r.amh++num r.kept.length++r.kept.flatMap ag0
   else [])

end Rec
end
section
open Go.RowKit Rec

def lx(x:bH):List Value:=[.string x.id,.string x.title,.string x.link,.string x.bP,.string x.content,.bool x.has,.int .i64 x.sec]
def wO(x:iM):List Value:=lx x.e++[.bool x.read]
def xS(l:List bH):List Value:=l.flatMap lx
def qm(l:List iM):List Value:=l.flatMap wO

theorem adV:∀(l:List bH) (k:Nat) (hk:k<l.length) (j:Nat),j<7→(xS l)[k*7+j]?=(lx l[k])[j]?:=by
 intro l
 induction l with
 | nil=>intro k hk;simp at hk
 | cons x l ih=>
  intro k hk j hj;have hl:(lx x).length=7:=rfl;unfold xS;rw[List.flatMap_cons]
  cases k with
  | zero=>rw[List.getElem?_append_left (by omega)];simp
  | succ k=>
   rw[List.getElem?_append_right (by omega),hl,show (k+1)*7+j-7=k*7+j from by omega];exact ih k (by simpa using hk) j hj
theorem ahf:∀(l:List iM) (k:Nat) (hk:k<l.length) (j:Nat),j<8→(qm l)[k*8+j]?=(wO l[k])[j]?:=by
 intro l
 induction l with
 | nil=>intro k hk;simp at hk
 | cons x l ih=>
  intro k hk j hj;have hl:(wO x).length=8:=rfl;unfold qm;rw[List.flatMap_cons]
  cases k with
  | zero=>rw[List.getElem?_append_left (by omega)];simp
  | succ k=>
   rw[List.getElem?_append_right (by omega),hl,show (k+1)*8+j-8=k*8+j from by omega];exact ih k (by simpa using hk) j hj

structure zv(w:World)(b o:Nat)(x:bH):Prop where
 c0:w.cell? ⟨b,o,none⟩=some (.string x.id)
 c1:w.cell? ⟨b,o+1,none⟩=some (.string x.title)
 c2:w.cell? ⟨b,o+2,none⟩=some (.string x.link)
 c3:w.cell? ⟨b,o+3,none⟩=some (.string x.bP)
 c4:w.cell? ⟨b,o+4,none⟩=some (.string x.content)
 c5:w.cell? ⟨b,o+5,none⟩=some (.bool x.has)
 c6:w.cell? ⟨b,o+6,none⟩=some (.int .i64 x.sec)
structure Am(w:World)(b o:Nat)(x:iM):Prop extends zv w b o x.e where
 c7:w.cell? ⟨b,o+7,none⟩=some (.bool x.read)

theorem zv.keep{w w':World}{b o:Nat}{x:bH}(h:zv w b o x)(hk:∀i,w'.cell? ⟨b,i,none⟩=w.cell? ⟨b,i,none⟩):zv w' b o x :=
 ⟨(hk _).trans h.c0,(hk _).trans h.c1,(hk _).trans h.c2,(hk _).trans h.c3,(hk _).trans h.c4,(hk _).trans h.c5,(hk _).trans h.c6⟩
theorem Am.keep{w w':World}{b o:Nat}{x:iM}(h:Am w b o x)(hk:∀i,w'.cell? ⟨b,i,none⟩=w.cell? ⟨b,i,none⟩):Am w' b o x :=
 ⟨h.1.keep hk,(hk _).trans h.c7⟩

section
variable {w:World} {B:Nat} {A:Option Addr}
theorem Reads.adS{l:List bH}(h:Reads w B 7 A l.length (xS l)){k:Nat}(hk:k<l.length):∃b off,A=some ⟨b,off,none⟩∧b<B∧zv w b (off+k*7) l[k]:=by
 obtain⟨b,off,hA,hb,hc⟩:=h.2 (by omega);have hx:=adV l k hk;refine⟨b,off,hA,hb,?_⟩
 constructor
 ·have:=hc (k*7+0) _ (hx 0 (by omega));simpa using this
 ·have:=hc (k*7+1) _ (hx 1 (by omega));rwa[←Nat.add_assoc] at this
 ·have:=hc (k*7+2) _ (hx 2 (by omega));rwa[←Nat.add_assoc] at this
 ·have:=hc (k*7+3) _ (hx 3 (by omega));rwa[←Nat.add_assoc] at this
 ·have:=hc (k*7+4) _ (hx 4 (by omega));rwa[←Nat.add_assoc] at this
 ·have:=hc (k*7+5) _ (hx 5 (by omega));rwa[←Nat.add_assoc] at this
 have:=hc (k*7+6) _ (hx 6 (by omega));rwa[←Nat.add_assoc] at this
theorem Reads.Ge{l:List iM}(h:Reads w B 8 A l.length (qm l)){k:Nat}(hk:k<l.length):∃b off,A=some ⟨b,off,none⟩∧b<B∧Am w b (off+k*8) l[k]:=by
 obtain⟨b,off,hA,hb,hc⟩:=h.2 (by omega);have hx:=ahf l k hk;refine⟨b,off,hA,hb,⟨⟨?_,?_,?_,?_,?_,?_,?_⟩,?_⟩⟩
 ·have:=hc (k*8+0) _ (hx 0 (by omega));simpa using this
 ·have:=hc (k*8+1) _ (hx 1 (by omega));rwa[←Nat.add_assoc] at this
 ·have:=hc (k*8+2) _ (hx 2 (by omega));rwa[←Nat.add_assoc] at this
 ·have:=hc (k*8+3) _ (hx 3 (by omega));rwa[←Nat.add_assoc] at this
 ·have:=hc (k*8+4) _ (hx 4 (by omega));rwa[←Nat.add_assoc] at this
 ·have:=hc (k*8+5) _ (hx 5 (by omega));rwa[←Nat.add_assoc] at this
 ·have:=hc (k*8+6) _ (hx 6 (by omega));rwa[←Nat.add_assoc] at this
 have:=hc (k*8+7) _ (hx 7 (by omega));rwa[←Nat.add_assoc] at this
end

end
section
open Go.RowKit Rec

theorem ri(w:World)(o o':Obj):Below w.heap.size w ((w.alloc o).alloc o'):=((Below.refl _ _).alloc (Nat.le_refl _) o).alloc (by simp) o'

end
section
open Go.RowKit Rec

theorem agE(a b:Int):(a==b)=decide (a=b):=by rw[Bool.eq_iff_iff];simp
end
end Go.Proofs.YtpdkeckeekchlaaGreatDoor
