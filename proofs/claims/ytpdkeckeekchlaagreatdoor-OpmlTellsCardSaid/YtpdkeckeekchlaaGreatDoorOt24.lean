/- NFC: a row of numbers within a block; slices.swapRangeCmpFunc, rotateCmpFunc. And more. -/
import Derived.Test.YtpdkeckeekchlaaGreatDoorOt23
import Derived.BigRegion
set_option linter.unusedSimpArgs false
set_option maxRecDepth 100000
set_option maxHeartbeats 8000000
set_option linter.unusedVariables false
namespace Go.Proofs.YtpdkeckeekchlaaGreatDoor
section
open Go.RowKit Go.WideShapes

structure aV(w:World)(g off:Nat)(pre post:List Value)(l:List Int):Prop where
 blk:ae w g 3 (pre++aq l++post).toArray
 y7:pre.length=off
section
variable {w w':World} {g off:Nat} {pre post:List Value} {l:List Int}
theorem aV.at_(h:aV w g off pre post l){j:Nat}{x:Int}(hj:l[j]?=some x):w.cell? ⟨g,off+j,none⟩=some (.int .i64 x):=by
 obtain⟨h1,_⟩:=List.getElem?_eq_some_iff.1 hj;rw[h.blk.cell,List.getElem?_toArray,←h.y7,List.getElem?_append_left (by rw[List.length_append,ui];omega),List.getElem?_append_right (by omega),Nat.add_sub_cancel_left];unfold aq;rw[List.getElem?_map,hj];rfl
theorem aV.frozen(h:aV w g off pre post l)(j:Nat):w.frozen? ⟨g,j,none⟩=false:=h.blk.frozen j
theorem aV.drew(h:aV w g off pre post l):aV w.drew g off pre post l:=⟨h.blk.drew,h.y7⟩
theorem aV.aH(h:aV w g off pre post l){j:Nat}(hj:j<l.length)(x:Int):aV (w.setCell ⟨g,off+j,none⟩ (.int .i64 x)) g off pre post (l.set j x):=by
 refine⟨?_,h.y7⟩;have:=h.blk.aH (off+j) (.int .i64 x)
 have e:(pre++aq l++post).toArray.setIfInBounds (off+j) (Value.int .i64 x)=(pre++aq (l.set j x)++post).toArray:=by
  apply Array.ext'
  rw[Array.toList_setIfInBounds];show (pre++aq l++post).set (off+j) _=pre++aq (l.set j x)++post;rw[←h.y7,List.append_assoc,List.append_assoc,List.set_append_right _ _ (by omega),Nat.add_sub_cancel_left,List.set_append_left _ _ (by rw[ui];exact hj)];unfold aq;rw[List.map_set]
 rwa[e] at this
end
theorem YG{w:World}{g off:Nat}{pre post:List Value}{P Q R:List Int}{x y:Int}{i j:Nat}(h:aV w g off pre post (P++x :: (Q++y :: R)))(hi:i=P.length)(hj:j=P.length+1+Q.length) :
  aV ((w.setCell ⟨g,off+i,none⟩ (.int .i64 y)).setCell ⟨g,off+j,none⟩ (.int .i64 x)) g off pre post (P++y :: (Q++x :: R)):=by
 have h1:=h.aH (j:=i) (by simp;omega) y;have h2:=h1.aH (j:=j) (by rw[List.length_set];simp;omega) x;rwa[Nf.YE P Q R x y hi hj] at h2
theorem YH{w:World}{g off:Nat}{pre post:List Value}{P Q R:List Int}{x y:Int}{i j:Nat}(h:aV w g off pre post (P++x :: (Q++y :: R)))(hi:i=P.length)(hj:j=P.length+1+Q.length) :
  aV ((w.setCell ⟨g,off+j,none⟩ (.int .i64 x)).setCell ⟨g,off+i,none⟩ (.int .i64 y)) g off pre post (P++y :: (Q++x :: R)):=by
 have h1:=h.aH (j:=j) (by simp;omega) x;have h2:=h1.aH (j:=i) (by rw[List.length_set];simp;omega) y;rw[List.set_comm _ _ (by omega),Nf.YE P Q R x y hi hj] at h2;exact h2
theorem CW{l:List Int}{i:Nat}{x:Int}(h:l[i]?=some x):l.drop i=x :: l.drop (i+1):=by
 obtain⟨h1,h2⟩:=List.getElem?_eq_some_iff.1 h;rw[List.drop_eq_getElem_cons h1,h2]
theorem ux{l:List Int}{i:Nat}{x:Int}(h:l[i]?=some x):l.take (i+1)=l.take i++[x]:=by
 rw[List.take_add_one,h];rfl
def swapAt(A U M V B:List Int)(i:Nat):List Int:=A++(V.take i++(U.drop i++(M++(U.take i++(V.drop i++B)))))
theorem ami(A U M V B:List Int){i:Nat}{x y:Int}(hx:U[i]?=some x)(hy:V[i]?=some y) :
  swapAt A U M V B i=(A++V.take i)++x :: ((U.drop (i+1)++(M++U.take i))++y :: (V.drop (i+1)++B))∧
  swapAt A U M V B (i+1)=(A++V.take i)++y :: ((U.drop (i+1)++(M++U.take i))++x :: (V.drop (i+1)++B)):=by
 unfold swapAt;rw[CW hx,CW hy,ux hx,ux hy]
 constructor<;>simp[List.append_assoc]
theorem NZ(A U M V B:List Int)(pre post:List Value)(g off cap n a b k:Nat)(fv:Value)(w:World)(h:aV w g off pre post (A++(U++(M++(V++B)))))(hn:n=A.length+U.length+M.length+V.length+B.length)
  (ha:a=A.length) (hb:b=A.length+U.length+M.length) (hk:k=U.length) (bu:k=V.length) (hs:n≤1000000000) :
  Calls Tryz.prog 251 #[.slice (some ⟨g,off,none⟩) n cap,.int .i64 a,.int .i64 b,.int .i64 k,fv] w fun e w'=>e=.returned (.tuple #[])∧aV w' g off pre post (A++(V++(M++(U++B))))∧ai g w w':=by
 have HR:=ap h;have Hn:=ap hn;have Ha:=ap ha;have Hb:=ap hb;have Hk:=ap hk;have sO:=ap bu;have ck:b+k≤n:=by omega
 have vV:a+k≤b:=by omega
 clear h hn ha hb hk bu
 go_enter Tryz.func251,Tryz.ntmps251
 go_wp2
 go_loopg [10] k (fun gk vk wr=>∃i:Nat,gk=k-i∧i≤k∧vk=.int .i64 (i:Int)∧aV wr g off pre post (swapAt A U M V B i)∧ai g w wr)
 case atStart=>exact⟨0,rfl,by omega,rfl,by unfold swapAt;simpa using HR.o,ai.refl _ _⟩
 case round=>
  obtain⟨i,au,hi,rfl,hr,bw⟩:=hrel;have Hg:=ap au;have HI:=ap hr;have HB:=ap bw;clear au hr bw
  by_cases hlt:i<k
  ·obtain⟨x,hx⟩:∃x,U[i]?=some x:=⟨_,List.getElem?_eq_getElem (by have:=Hk.o;omega)⟩;obtain⟨y,hy⟩:∃y,V[i]?=some y:=⟨_,List.getElem?_eq_getElem (by have:=sO.o;omega)⟩;obtain⟨e1,e2⟩:=ami A U M V B hx hy;have Mo:(V.take i).length=i:=by rw[List.length_take];have:=sO.o;omega
   have BZ:(U.take i).length=i:=by rw[List.length_take];have:=Hk.o;omega
   have Vv:(U.drop (i+1)).length=k-(i+1):=by rw[List.length_drop];have:=Hk.o;omega
   obtain⟨p,hp⟩:∃p,p=a+i:=⟨_,rfl⟩;obtain⟨q,hq⟩:∃q,q=b+i:=⟨_,rfl⟩;have P1:p=(A++V.take i).length:=by rw[List.length_append,Mo,hp,Ha.o]
   have P2:q=(A++V.take i).length+1+(U.drop (i+1)++(M++U.take i)).length:=by
    rw[List.length_append,List.length_append,List.length_append,Mo,BZ,Vv,hq,Hb.o,←Hk.o];omega
   have hz1:IntKind.i64.wrap ((a:Int)+(i:Int))=(p:Int):=by rw[IntWalk.i64_in _ (by omega)];omega
   have hz2:IntKind.i64.wrap ((b:Int)+(i:Int))=(q:Int):=by rw[IntWalk.i64_in _ (by omega)];omega
   have lR:p<n:=by omega
   have hqn:q<n:=by omega
   have ah:=HI.o;rw[e1] at ah;have c1:wr.cell? ⟨g,off+p,none⟩=some (.int .i64 x):=ah.at_ (by rw[P1,List.getElem?_append_right (Nat.le_refl _),Nat.sub_self];rfl);have c2:wr.cell? ⟨g,off+q,none⟩=some (.int .i64 y):=ah.at_ (by rw[P2,List.getElem?_append_right (by omega),show (A++V.take i).length+1+(U.drop (i+1)++(M++U.take i)).length-(A++V.take i).length=(U.drop (i+1)++(M++U.take i)).length+1 by omega,List.getElem?_cons_succ,List.getElem?_append_right (Nat.le_refl _),Nat.sub_self];rfl);have f1:=ah.frozen (off+p);have f2:=ah.frozen (off+q);have N1:=ap (YG ah P1 P2);rw[←e2] at N1
   have c3:∃u,(wr.setCell ⟨g,off+p,none⟩ (.int .i64 y)).cell? ⟨g,off+q,none⟩=some u:=by
    have:=(ah.aH (j:=p) (by rw[P1];simp) y).at_ (j:=q) (x:=y) (by rw[List.getElem?_set_ne (by omega),P2,List.getElem?_append_right (by omega),show (A++V.take i).length+1+(U.drop (i+1)++(M++U.take i)).length-(A++V.take i).length=(U.drop (i+1)++(M++U.take i)).length+1 by omega,List.getElem?_cons_succ,List.getElem?_append_right (Nat.le_refl _),Nat.sub_self];rfl);exact⟨_,this⟩
   obtain⟨u3,c3⟩:=c3;have xo:=ap (show ai g w ((wr.setCell ⟨g,off+p,none⟩ (.int .i64 y)).setCell ⟨g,off+q,none⟩ (.int .i64 x)) from (HB.o.setCell (.inl rfl) _).setCell (.inl rfl) _);clear hx hy e1 e2 Mo BZ Vv hp hq P1 P2 ah;go_wp2
   go_region
   go_wp2
   go_roundg (k-(i+1))
   case measure=>have:=Hg.o;omega
   case rel=>exact⟨i+1,rfl,by omega,by first|rfl|go_num,N1.o.drew,xo.o.drew⟩
  have hik:i=k:=by omega
  subst hik;go_wp2;go_end0;have hr:=HI.o;unfold swapAt at hr;rw[List.take_of_length_le (by have:=sO.o;omega),List.take_of_length_le (by have:=Hk.o;omega),List.drop_of_length_le (by have:=Hk.o;omega),List.drop_of_length_le (by have:=sO.o;omega)] at hr;exact⟨rfl,by simpa using hr,HB.o⟩
theorem akp(A U V B:List Int)(j:Nat):A++V++(U.take j++(U.drop j++B))=A++(V++(U++B)):=by
 rw[←List.append_assoc (U.take j),List.take_append_drop,List.append_assoc]
theorem akq(A U V B:List Int)(pre post:List Value)(g off cap n a m b:Nat)(fv:Value)(w:World)(h:aV w g off pre post (A++(U++(V++B))))(hn:n=A.length+U.length+V.length+B.length)
  (ha:a=A.length) (hm:m=A.length+U.length) (hb:b=A.length+U.length+V.length) (hU:0<U.length) (hV:0<V.length) (hs:n≤1000000000) :
  Calls Tryz.prog 242 #[.slice (some ⟨g,off,none⟩) n cap,.int .i64 a,.int .i64 m,.int .i64 b,fv] w fun e w'=>e=.returned (.tuple #[])∧aV w' g off pre post (A++(V++(U++B)))∧ai g w w':=by
 have HR:=ap h;have Hn:=ap hn;obtain⟨Lu,TP⟩:∃k,U.length=k:=⟨_,rfl⟩;obtain⟨Lv,TQ⟩:∃k,V.length=k:=⟨_,rfl⟩;have Hu:=ap TP;have Hv:=ap TQ;have Ha:=ap ha;have Hm:=ap hm;have LU:IntKind.i64.wrap ((m:Int)-(a:Int))=(Lu:Int):=by rw[IntWalk.i64_in _ (by omega)];omega
 have hbm:IntKind.i64.wrap ((b:Int)-(m:Int))=(Lv:Int):=by rw[IntWalk.i64_in _ (by omega)];omega
 have wC:m+Lv≤n:=by omega
 have Fv:Lu≤m:=by omega
 have hU':0<Lu:=by omega
 have hV':0<Lv:=by omega
 have Bn:b≤n:=by omega
 clear h hn ha hm hb hU hV TP TQ
 go_enter Tryz.func242,Tryz.ntmps242
 go_wp2
 go_loopg [10,11] (Lu+Lv) (fun gk vi vj wr=>∃(i j:Nat) (A1 U1 V1 B1:List Int),gk=i+j∧vi=.int .i64 (i:Int)∧vj=.int .i64 (j:Int)∧0<i∧0<j∧i≤Lu∧j≤Lv∧aV wr g off pre post (A1++(U1++(V1++B1)))∧U1.length=i∧V1.length=j∧A1.length+i=m∧(A1++U1++V1++B1).length=n∧A1++(V1++(U1++B1))=A++(V++(U++B))∧ai g w wr)
 case atStart=>exact⟨Lu,Lv,A,U,V,B,rfl,rfl,rfl,hU',hV',Nat.le_refl _,Nat.le_refl _,HR.o,Hu.o,Hv.o,by have:=Hm.o;have:=Hu.o;omega,by have:=Hn.o;simp only[List.length_append];omega,rfl,ai.refl _ _⟩
 case round=>
  obtain⟨i,j,A1,U1,V1,B1,au,rfl,rfl,i0,j0,iu,jv,hr,dJ,aU,lG,pX,he,bw⟩:=hrel;have Hg:=ap au;have HI:=ap hr;have HB:=ap bw;have HE:=ap he;have qW:=ap dJ;have vq:=ap aU;have sP:=ap (show n=A1.length+U1.length+V1.length+B1.length by rw[←pX];simp only[List.length_append]);obtain⟨al,iP⟩:∃k,A1.length=k:=⟨_,rfl⟩;rw[iP] at lG;have ld:=ap iP;have zX:=ap lG;have z1:IntKind.i64.wrap ((m:Int)-(i:Int))=(al:Int):=by rw[IntWalk.i64_in _ (by omega)];omega
  have alm:al≤m:=by omega
  clear au hr bw he dJ aU pX iP lG
  by_cases tQ:i=j
  ·subst tQ;have HS:=ap (NZ A1 U1 [] V1 B1 pre post g off cap n al m i fv wr (by simpa using HI.o) (by have:=sP.o;simpa using this) ld.o.symm (by have:=ld.o;have:=qW.o;have:=zX.o;simp;omega) qW.o.symm vq.o.symm hs)
   go_wp2_with fail
   refine HS.o.mono ?_;rintro e w2 ⟨rfl,bF,af⟩;have dF:=ap bF;have ag:=ap af;clear bF af;go_wp2;go_end0;refine⟨rfl,?_,HB.o.trans ag.o⟩;rw[←HE.o]
   simpa using dF.o
  have aoN:¬(i:Int)=(j:Int):=by omega
  by_cases fV:j<i
  ·have afv:(j:Int)<(i:Int):=by omega
   have z2:IntKind.i64.wrap ((i:Int)-(j:Int))=((i-j:Nat):Int):=by rw[IntWalk.i64_in _ (by omega)];omega
   have bG:U1=U1.take j++U1.drop j:=(List.take_append_drop j U1).symm;have hlt:(U1.take j).length=j:=by rw[List.length_take];have:=qW.o;omega
   have yu:(U1.drop j).length=i-j:=by rw[List.length_drop];have:=qW.o;omega
   have HS:=ap (NZ A1 (U1.take j) (U1.drop j) V1 B1 pre post g off cap n al m j fv wr (by rw[←List.append_assoc (U1.take j),←bG];exact HI.o) (by have:=sP.o;have:=qW.o;omega) ld.o.symm (by have:=ld.o;have:=qW.o;have:=zX.o;omega) hlt.symm vq.o.symm hs);have bc:=ap (show A1++V1++(U1.take j++(U1.drop j++B1))=A++(V++(U++B)) from (akp A1 U1 V1 B1 j).trans HE.o);have xD:=ap hlt;have ve:=ap yu;obtain⟨d,hd⟩:∃d,i-j=d:=⟨_,rfl⟩;rw[hd] at z2 ve;have Hd:=ap hd;clear bG hlt yu hd
   go_wp2_with fail
   refine HS.o.mono ?_;rintro e w2 ⟨rfl,bF,af⟩;have dF:=ap bF;have ag:=ap af;clear bF af;go_wp2
   go_roundg (d+j)
   case measure=>have:=Hg.o;have:=Hd.o;omega
   case rel=>
    refine⟨d,j,A1++V1,U1.drop j,U1.take j,B1,rfl,by first|rfl|go_num,by first|rfl|go_num,by have:=Hd.o;omega,j0,by have:=Hd.o;omega,jv,by simpa only [List.append_assoc] using dF.o,ve.o,xD.o,?_,?_,bc.o,HB.o.trans ag.o⟩
    ·rw[List.length_append];have:=ld.o;have:=vq.o;have:=zX.o;have:=Hd.o;omega
    have:=sP.o;have:=qW.o;have:=xD.o;have:=ve.o;have:=Hd.o;simp only[List.length_append];omega
  have afv:¬(j:Int)<(i:Int):=by omega
  have z2:IntKind.i64.wrap ((m:Int)+(j:Int))=((m+j:Nat):Int):=by rw[IntWalk.i64_in _ (by omega)];omega
  have z3:IntKind.i64.wrap (((m+j:Nat):Int)-(i:Int))=((m+j-i:Nat):Int):=by rw[IntWalk.i64_in _ (by omega)];omega
  have z4:IntKind.i64.wrap ((j:Int)-(i:Int))=((j-i:Nat):Int):=by rw[IntWalk.i64_in _ (by omega)];omega
  have cQ:V1=V1.take (j-i)++V1.drop (j-i):=(List.take_append_drop (j-i) V1).symm;have hlt:(V1.take (j-i)).length=j-i:=by rw[List.length_take];have:=vq.o;omega
  have yu:(V1.drop (j-i)).length=i:=by rw[List.length_drop];have:=vq.o;omega
  have HS:=ap (NZ A1 U1 (V1.take (j-i)) (V1.drop (j-i)) B1 pre post g off cap n al (m+j-i) i fv wr (by rw[←List.append_assoc (V1.take (j-i)),←cQ];exact HI.o) (by have:=sP.o;have:=vq.o;omega) ld.o.symm (by have:=ld.o;have:=qW.o;have:=zX.o;omega) qW.o.symm yu.symm hs);have bc:=ap (show A1++(V1.take (j-i)++(V1.drop (j-i)++(U1++B1)))=A++(V++(U++B)) by rw[←HE.o,←List.append_assoc (V1.take (j-i)),←cQ]);have xD:=ap hlt;have ve:=ap yu;obtain⟨d,hd⟩:∃d,j-i=d:=⟨_,rfl⟩;rw[hd] at z4 xD HS ve bc;have Hd:=ap hd;obtain⟨s1,hs1⟩:∃d,m+j=d:=⟨_,rfl⟩;rw[hs1] at z2 z3 HS;obtain⟨s2,BS⟩:∃d,s1-i=d:=⟨_,rfl⟩;rw[BS] at z3 HS;clear cQ hlt yu hd hs1 BS
  go_wp2_with fail
  refine HS.o.mono ?_;rintro e w2 ⟨rfl,bF,af⟩;have dF:=ap bF;have ag:=ap af;clear bF af;go_wp2
  go_roundg (d+i)
  case measure=>have:=Hg.o;have:=Hd.o;omega
  case rel=>
   refine⟨i,d,A1,V1.drop d,V1.take d,U1++B1,by omega,by first|rfl|go_num,by first|rfl|go_num,i0,by have:=Hd.o;omega,iu,by have:=Hd.o;omega,dF.o,ve.o,xD.o,zX.o▸(by have:=ld.o;omega),?_,bc.o,HB.o.trans ag.o⟩;have:=sP.o;have:=vq.o;have:=xD.o;have:=ve.o;have:=Hd.o;simp only[List.length_append];omega
end
section
open Go.RowKit Go.WideShapes

namespace Nf
theorem Yj(l:List Int)(x:Int):az (l++[x])=ins x (az l):=by
 unfold az;rw[List.foldl_append];rfl
theorem F6(x:Int):∀(S1 S2:List Int),(∀y∈S1,cls y≤cls x)→(∀y∈S2,cls x<cls y)→ins x (S1++S2)=S1++x :: S2
 | [],[],_,_=>rfl
 | [],y :: S2,_,h=>by
  rw[List.nil_append,ins,if_pos (h y (List.mem_cons_self ..))];rfl
 | y :: S1,S2,h,k=>by
  rw[List.cons_append,ins,if_neg (by have:=h y (List.mem_cons_self ..);omega),F6 x S1 S2 (fun z hz=>h z (List.mem_cons_of_mem _ hz)) k];rfl
theorem jC(l:List Int):(az l).length=l.length:=(qs l).length
theorem alB(l:List Int)(h:l.length≤1):az l=l:=by
 match l,h with
 | [],_=>rfl
 | [x],_=>rfl
end Nf
theorem aly{l:List Int}(h:0<l.length):∃m y,l=m++[y]:=by
 refine⟨l.dropLast,l.getLast (by intro e;subst e;simp at h),?_⟩;exact (List.dropLast_concat_getLast _).symm
theorem Kn{w:World}{g off:Nat}{pre post:List Value}{P Q R:List Int}{x y:Int}{i j:Nat}(h:aV w g off pre post (P++x :: (Q++y :: R)))(hi:i=P.length)(hj:j=P.length+1+Q.length) :
  w.cell? ⟨g,off+i,none⟩=some (.int .i64 x)∧w.cell? ⟨g,off+j,none⟩=some (.int .i64 y)∧(∃u,(w.setCell ⟨g,off+i,none⟩ (.int .i64 y)).cell? ⟨g,off+j,none⟩=some u)∧∃u,(w.setCell ⟨g,off+j,none⟩ (.int .i64 x)).cell? ⟨g,off+i,none⟩=some u:=by
 have e1:(P++x :: (Q++y :: R))[i]?=some x:=by rw[hi,List.getElem?_append_right (Nat.le_refl _),Nat.sub_self];rfl
 have e2:(P++x :: (Q++y :: R))[j]?=some y:=by
  rw[hj,List.getElem?_append_right (by omega),show P.length+1+Q.length-P.length=Q.length+1 by omega,List.getElem?_cons_succ,List.getElem?_append_right (Nat.le_refl _),Nat.sub_self];rfl
 have hl:j<(P++x :: (Q++y :: R)).length:=(List.getElem?_eq_some_iff.1 e2).1;have rE:i<(P++x :: (Q++y :: R)).length:=(List.getElem?_eq_some_iff.1 e1).1;exact⟨h.at_ e1,h.at_ e2,⟨_,(h.aH rE y).at_ (by rw[List.getElem?_set_ne (by omega)];exact e2)⟩,⟨_,(h.aH hl x).at_ (by rw[List.getElem?_set_ne (by omega)];exact e1)⟩⟩
theorem aV.drewN{w:World}{g off:Nat}{pre post:List Value}{l:List Int}(h:aV w g off pre post l)(n:Nat):aV (w.drewN n) g off pre post l:=⟨h.blk,h.y7⟩
theorem aV.as{w:World}{g off:Nat}{pre post:List Value}{l m:List Int}(h:aV w g off pre post l)(e:l=m):aV w g off pre post m:=e▸h
theorem agR(A l B:List Int)(pre post:List Value)(g off cap n a b:Nat)(w:World)(h:aV w g off pre post (A++(l++B)))(hn:n=A.length+l.length+B.length)
  (ha:a=A.length) (hb:b=A.length+l.length) (hs:n≤1000000000) :
  Calls Tryz.prog 234 #[.slice (some ⟨g,off,none⟩) n cap,.int .i64 a,.int .i64 b,.func (.func 187) #[] #[]] w fun e w'=>e=.returned (.tuple #[])∧aV w' g off pre post (A++(Nf.az l++B))∧ai g w w':=by
 have HR:=ap h;have Hn:=ap hn;have Ha:=ap ha;have Hb:=ap hb;have Bn:b≤n:=by omega
 have hab:a≤b:=by omega
 have HC:=ap (fun x y W=>Es x y W);have z0:IntKind.i64.wrap ((a:Int)+1)=((a+1:Nat):Int):=by rw[IntWalk.i64_in _ (by omega)];omega
 clear h hn ha hb
 go_enter Tryz.func234,Tryz.ntmps234
 go_wp2
 go_loopg [8] (b-a) (fun gk vk wr=>∃(t i:Nat),gk=b-a-t∧i=a+1+t∧(t+1≤b-a∨t=0)∧vk=.int .i64 (i:Int)∧aV wr g off pre post (A++(Nf.az (l.take (t+1))++(l.drop (t+1)++B)))∧ai g w wr)
 case atStart=>exact⟨0,a+1,rfl,rfl,.inr rfl,by first|rfl|go_num,by rw[Nf.alB _ (by rw[List.length_take];omega),←List.append_assoc (l.take _),List.take_append_drop];exact HR.o,ai.refl _ _⟩
 case round=>
  obtain⟨t,i,au,hi,ht,rfl,hr,bw⟩:=hrel;have Hg:=ap au;have HI:=ap hr;have HB:=ap bw;have Hi:=ap hi;clear au hr bw hi
  by_cases hlt:i<b
  ·obtain⟨x,hx⟩:∃x,l[t+1]?=some x:=⟨_,List.getElem?_eq_getElem (by have:=Hb.o;have:=Ha.o;have:=Hi.o;omega)⟩;have HS:=ap (show Nf.az (l.take (t+2))=Nf.ins x (Nf.az (l.take (t+1))) by rw[ux hx,Nf.Yj]);have iz:=Nf.po (l.take (t+1));have qg:(Nf.az (l.take (t+1))).length=t+1:=by rw[Nf.jC,List.length_take];have:=Hb.o;have:=Ha.o;have:=Hi.o;omega
   have hr:=HI.o;rw[CW hx] at hr;generalize Nf.az (l.take (t+1))=S at HS iz qg hr;have HU:=ap iz;have HL:=ap qg;have je:=ap hr;clear HI hx iz qg hr;go_wp2
   go_loopg [9] (t+1) (fun gj vj wj=>∃(S1 S2:List Int) (j:Nat),gj=S1.length∧S=S1++S2∧j=a+S1.length∧vj=.int .i64 (j:Int)∧(∀y∈S2,Nf.cls x<Nf.cls y)∧aV wj g off pre post (A++(S1++x :: (S2++(l.drop (t+1+1)++B))))∧ai g w wj)
   case atStart=>exact⟨S,[],i,HL.o.symm,by simp,by have:=HL.o;have:=Hi.o;omega,rfl,by simp,by simpa using je.o,HB.o⟩
   case round=>
    obtain⟨S1,S2,j,tO,hS,hj,rfl,h2,hr,bw⟩:=hrel;have sN:=ap tO;have HJ:=ap hj;have H2:=ap h2;have jZ:=ap hr;have aw:=ap bw;have DA:=ap hS;have cC:j<n:=by have:=Hb.o;have:=Ha.o;have:=Hi.o;have:=HL.o;have:=congrArg List.length hS;rw[List.length_append] at this;omega
    clear tO hj h2 hr bw hS HB je
    by_cases LM:a<j
    ·obtain⟨pJ,y,e1⟩:=aly (l:=S1) (by have:=HJ.o;omega);subst e1;obtain⟨jp,wz⟩:∃jp,jp=a+pJ.length:=⟨_,rfl⟩;have wy:j=jp+1:=by rw[HJ.o,wz,List.length_append,List.length_singleton];omega
     have mV:=ap wy;have n6:=ap wz;have z1:IntKind.i64.wrap ((j:Int)-1)=(jp:Int):=by rw[IntWalk.i64_in _ (by omega)];omega
     have ah:=jZ.o;have e3:A++(pJ++[y]++x :: (S2++(l.drop (t+1+1)++B)))=(A++pJ)++y :: ([]++x :: (S2++(l.drop (t+1+1)++B))):=by simp
     rw[e3] at ah;have p1:jp=(A++pJ).length:=by rw[List.length_append,wz,Ha.o]
     have p2:j=(A++pJ).length+1+([]:List Int).length:=by rw[←p1,wy];simp
     have c1:wr.cell? ⟨g,off+jp,none⟩=some (.int .i64 y):=ah.at_ (by rw[p1,List.getElem?_append_right (Nat.le_refl _),Nat.sub_self];rfl);have c2:wr.cell? ⟨g,off+j,none⟩=some (.int .i64 x):=ah.at_ (by rw[p2,List.getElem?_append_right (by omega),show (A++pJ).length+1+([]:List Int).length-(A++pJ).length=1 by simp];rfl);have f1:=ah.frozen (off+jp);have f2:=ah.frozen (off+j);have ZW:=ap e3;have sH:=ap p1;have jf:=ap p2;have aoV:jp<n:=by omega
     have dB:decide ((j:Int)>(a:Int))=true:=decide_eq_true (by omega);have bJ:(a:Int)<(j:Int):=by omega
     clear wz wy p1 p2 e3 ah
     by_cases hc:Nf.cls x-Nf.cls y<0
     ·obtain⟨q,hq⟩:∃q,Nf.cls x-Nf.cls y=q:=⟨_,rfl⟩;have dZ:=ap (fun W=>HC.o x y W);rw[hq] at hc dZ;have gR:decide (q<0)=true:=decide_eq_true hc;have Hq:=ap hq;clear hq
      go_wp2_with fail
      go_quiet ((go_at_call 187;refine Calls.quiet_of_same (dZ.o _)))
      clear c1 c2 f1 f2;have eB:=ap (show ai g w (wr.drewN nq) from⟨aw.o.os,aw.o.tape,aw.o.output,aw.o.size,aw.o.block⟩);have ah:=(jZ.o.drewN nq).as ZW.o;generalize wr.drewN nq=W at ah eB ⊢;obtain⟨c1,c2,_,u3,c3⟩:=Kn ah sH.o jf.o;have f1:=ah.frozen (off+jp);have f2:=ah.frozen (off+j);have N1:=ap (YH ah sH.o jf.o);clear ah;go_wp2
      go_region
      go_wp2
      go_roundg pJ.length
      case measure=>have:=sN.o;rw[this,List.length_append,List.length_singleton];omega
      case rel=>
       refine⟨pJ,y :: S2,jp,rfl,by rw[DA.o];simp,n6.o,by first|rfl|go_num,?_,(N1.o.drew).as (by simp),((eB.o.setCell (.inl rfl) _).setCell (.inl rfl) _).drew⟩;intro z hz
       rcases List.mem_cons.1 hz with rfl|hz
       ·have:=Hq.o;omega
       exact H2.o z hz
     obtain⟨q,hq⟩:∃q,Nf.cls x-Nf.cls y=q:=⟨_,rfl⟩;have dZ:=ap (fun W=>HC.o x y W);rw[hq] at hc dZ;have gR:decide (q<0)=false:=decide_eq_false hc;have Hq:=ap hq;have zi:IntKind.i64.wrap ((i:Int)+1)=((i+1:Nat):Int):=by rw[IntWalk.i64_in _ (by omega)];omega
     clear hq
     go_wp2_with fail
     go_quiet ((go_at_call 187;refine Calls.quiet_of_same (dZ.o _)))
     have eB:=ap (show ai g w (wr.drewN nq) from⟨aw.o.os,aw.o.tape,aw.o.output,aw.o.size,aw.o.block⟩);have fy:=ap (jZ.o.drewN nq);generalize wr.drewN nq=W at fy eB ⊢;clear c1 c2 f1 f2;go_wp2
     go_roundg (b-a-(t+1))
     case measure=>have:=Hg.o;have:=Hi.o;omega
     case rel=>
      refine⟨t+1,i+1,rfl,by have:=Hi.o;omega,.inl (by have:=Hi.o;omega),by first|rfl|go_num,fy.o.as ?_,eB.o⟩;rw[HS.o,DA.o,Nf.F6 x (pJ++[y]) S2 ?_ H2.o]
      ·simp
      intro z hz;have hu:=HU.o;rw[DA.o] at hu;have h3:=hu.left
      rcases List.mem_append.1 hz with hz|hz
      ·have:=h3.ED hz (List.mem_singleton.2 rfl);have:=Hq.o;omega
      rw[List.mem_singleton] at hz;subst hz;have:=Hq.o;omega
    have UL:j=a:=by have:=HJ.o;omega
    have dB:decide ((j:Int)>(a:Int))=false:=decide_eq_false (by omega);have bJ:¬(a:Int)<(j:Int):=by omega
    have zi:IntKind.i64.wrap ((i:Int)+1)=((i+1:Nat):Int):=by rw[IntWalk.i64_in _ (by omega)];omega
    have HJA:=ap UL;clear UL
    go_wp2_with fail
    go_quiet (fail)
    have eB:=ap (show ai g w (wr.drewN nq) from⟨aw.o.os,aw.o.tape,aw.o.output,aw.o.size,aw.o.block⟩);have fy:=ap (jZ.o.drewN nq);generalize wr.drewN nq=W at fy eB ⊢;go_wp2
    go_roundg (b-a-(t+1))
    case measure=>have:=Hg.o;have:=Hi.o;omega
    case rel=>
     refine⟨t+1,i+1,rfl,by have:=Hi.o;omega,.inl (by have:=Hi.o;omega),by first|rfl|go_num,fy.o.as ?_,eB.o⟩;have h0:S1=[]:=List.eq_nil_of_length_eq_zero (by have:=HJ.o;have:=HJA.o;omega);subst h0;rw[HS.o,DA.o,Nf.F6 x [] S2 (by simp) H2.o];simp
  go_wp2;go_end0;have hr:=HI.o;have hl:l.length≤t+1:=by have:=Hb.o;have:=Ha.o;have:=Hi.o;omega
  rw[List.take_of_length_le hl,List.drop_of_length_le hl] at hr;exact⟨rfl,by simpa using hr,HB.o⟩
end
section
open Go.RowKit Go.WideShapes

namespace Nf
theorem YW{v:List Int}{d:Nat}{y:Int}(h:Up v)(hy:v[d]?=some y):∀z∈v.take (d+1),cls z≤cls y:=fun z hz=>by
 obtain⟨i,hi,e⟩:=List.mem_take_iff_getElem.1 hz;exact h.at_ (List.getElem?_eq_some_iff.2 ⟨_,e⟩) hy (by omega)
theorem YV{v:List Int}{d:Nat}{y:Int}(h:Up v)(hy:v[d]?=some y):∀z∈v.drop d,cls y≤cls z:=fun z hz=>by
 obtain⟨i,hi,e⟩:=List.mem_drop_iff_getElem.1 hz;exact h.at_ hy (List.getElem?_eq_some_iff.2 ⟨_,e⟩) (by omega)
theorem alz{x:Int}{v:List Int}{k:Nat}(h:Up v)(h1:∀y∈v.take k,cls y<cls x)(h2:∀y∈v.drop k,cls x≤cls y):v.take k++x :: v.drop k=az (x :: v):=by
 refine CT ?_ ?_
 ·have hv:=h;rw[←List.take_append_drop k v] at hv;refine Up.app hv.left ?_ ?_
  ·unfold Up;rw[List.pairwise_cons];exact⟨h2,hv.right⟩
  intro a ha b hb
  rcases List.mem_cons.1 hb with rfl|hb
  ·exact Int.le_of_lt (h1 a ha)
  exact hv.ED ha hb
 have e:x :: v=([x]++v.take k)++v.drop k:=by rw[List.append_assoc,List.take_append_drop];rfl
 have e2:v.take k++x :: v.drop k=(v.take k++[x])++v.drop k:=by simp
 rw[e,e2];refine cj.app (NH ?_) (cj.refl _);intro a ha b hb;rw[List.mem_singleton] at ha;subst ha;have:=h1 b hb;omega
end Nf
theorem amj(A v B:List Int)(x:Int)(pre post:List Value)(g off cap n a m b:Nat)(w:World)(h:aV w g off pre post (A++x :: (v++B)))(hn:n=A.length+1+v.length+B.length)
  (ha:a=A.length) (hm:m=A.length+1) (hb:b=A.length+1+v.length) (hv:0<v.length) (iz:Nf.Up v) (hs:n≤1000000000) :
  Calls Tryz.prog 235 #[.slice (some ⟨g,off,none⟩) n cap,.int .i64 a,.int .i64 m,.int .i64 b,.func (.func 187) #[] #[]] w fun e w'=>e=.returned (.tuple #[])∧aV w' g off pre post (A++(Nf.az (x :: v)++B))∧ai g w w':=by
 have HR:=ap h;have Hn:=ap hn;have Ha:=ap ha;have Hm:=ap hm;have Hb:=ap hb;have HU:=ap iz;have Bn:b≤n:=by omega
 have gS:m<b:=by omega
 have Ue:a<n:=by omega
 have HC:=ap (fun x y W=>Es x y W);have z0:IntKind.i64.wrap ((m:Int)-(a:Int))=1:=by rw[IntWalk.i64_in _ (by omega)];omega
 have c0:w.cell? ⟨g,off+a,none⟩=some (.int .i64 x):=h.at_ (by rw[ha,List.getElem?_append_right (Nat.le_refl _),Nat.sub_self];rfl);clear h hn ha hm hb hv iz
 go_enter Tryz.func235,Tryz.ntmps235
 go_wp2
 go_loopg [10,11] (b-m) (fun gk vi vj wr=>∃(i j:Nat),gk=j-i∧m≤i∧i≤j∧j≤b∧vi=.int .i64 (i:Int)∧vj=.int .i64 (j:Int)∧(∀y∈v.take (i-m),Nf.cls y<Nf.cls x)∧(∀y∈v.drop (j-m),Nf.cls x≤Nf.cls y)∧aV wr g off pre post (A++x :: (v++B))∧ai g w wr)
 case atStart=>exact⟨m,b,rfl,Nat.le_refl _,by omega,Nat.le_refl _,rfl,rfl,by simp,by rw[List.drop_of_length_le (by have:=Hb.o;have:=Hm.o;omega)];simp,HR.o,ai.refl _ _⟩
 case round=>
  obtain⟨i,j,au,hmi,tQ,hjb,rfl,rfl,h1,h2,hr,bw⟩:=hrel;have Hg:=ap au;have HI:=ap hr;have HB:=ap bw;have H1:=ap h1;have H2:=ap h2;clear au hr bw h1 h2
  by_cases hlt:i<j
  ·have oP:IntKind.i64.wrap ((i:Int)+(j:Int))=((i+j:Nat):Int):=by rw[IntWalk.i64_in _ (by omega)];omega
   obtain⟨d,hd⟩:∃d,(i+j) / 2=d:=⟨_,rfl⟩;have Uy:((i:Int)+(j:Int)) / 2=(d:Int):=by omega
   have hid:i≤d:=by omega
   have Uv:d<j:=by omega
   have ym:d<n:=by omega
   clear hd oP;obtain⟨y,hy⟩:∃y,v[d-m]?=some y:=⟨_,List.getElem?_eq_getElem (by have:=Hm.o;have:=Hb.o;omega)⟩;have c1:wr.cell? ⟨g,off+d,none⟩=some (.int .i64 y):=HI.o.at_ (by rw[List.getElem?_append_right (by have:=Hm.o;omega),show d-A.length=(d-m)+1 by have:=Hm.o;omega,List.getElem?_cons_succ,List.getElem?_append_left (List.getElem?_eq_some_iff.1 hy).1];exact hy);have c2:wr.cell? ⟨g,off+a,none⟩=some (.int .i64 x):=HI.o.at_ (by rw[Ha.o,List.getElem?_append_right (Nat.le_refl _),Nat.sub_self];rfl);obtain⟨q,hq⟩:∃q,Nf.cls y-Nf.cls x=q:=⟨_,rfl⟩;have dZ:=ap (fun W=>HC.o y x W);rw[hq] at dZ;have Hq:=ap hq;have Hy:=ap hy;clear hq hy
   by_cases hc:q<0
   ·have gR:decide (q<0)=true:=decide_eq_true hc;have zd:IntKind.i64.wrap ((d:Int)+1)=((d+1:Nat):Int):=by rw[IntWalk.i64_in _ (by omega)];omega
    go_wp2_with fail
    go_quiet ((go_at_call 187;refine Calls.quiet_of_same (dZ.o _)))
    have eB:=ap (show ai g w (wr.drewN nq) from⟨HB.o.os,HB.o.tape,HB.o.output,HB.o.size,HB.o.block⟩);have fy:=ap (HI.o.drewN nq);generalize wr.drewN nq=W at fy eB ⊢;clear c1 c2;go_wp2
    go_roundg (j-(d+1))
    case measure=>have:=Hg.o;omega
    case rel=>
     refine⟨d+1,j,rfl,by omega,by omega,hjb,by first|rfl|go_num,rfl,?_,H2.o,fy.o,eB.o⟩;intro z hz;rw[show d+1-m=(d-m)+1 by omega] at hz;have:=Nf.YW HU.o Hy.o z hz;have:=Hq.o;omega
   have gR:decide (q<0)=false:=decide_eq_false hc
   go_wp2_with fail
   go_quiet ((go_at_call 187;refine Calls.quiet_of_same (dZ.o _)))
   have eB:=ap (show ai g w (wr.drewN nq) from⟨HB.o.os,HB.o.tape,HB.o.output,HB.o.size,HB.o.block⟩);have fy:=ap (HI.o.drewN nq);generalize wr.drewN nq=W at fy eB ⊢;clear c1 c2;go_wp2
   go_roundg (d-i)
   case measure=>have:=Hg.o;omega
   case rel=>
    refine⟨i,d,rfl,by omega,by omega,by omega,rfl,rfl,H1.o,?_,fy.o,eB.o⟩;intro z hz;have:=Nf.YV HU.o Hy.o z hz;have:=Hq.o;omega
  have iR:j=i:=by omega
  subst iR;have HF:=ap (Nf.alz HU.o H1.o H2.o);obtain⟨k,hk⟩:∃k,j-m=k:=⟨_,rfl⟩;rw[hk] at HF;have Hk:=ap hk;have sT:=ap (show (v.take k).length=k by rw[List.length_take];have:=Hm.o;have:=Hb.o;omega);have dF:=ap (HI.o.as (show A++x :: (v++B)=A++(x :: (v.take k++(v.drop k++B))) by rw[←List.append_assoc (v.take k),List.take_append_drop]));obtain⟨e,he⟩:∃e,a+k=e:=⟨_,rfl⟩;have z1:IntKind.i64.wrap ((j:Int)-1)=(e:Int):=by rw[IntWalk.i64_in _ (by omega)];have:=Hm.o;have:=Ha.o;omega
  have He:=ap he;have hen:e<n:=by have:=Hm.o;have:=Ha.o;omega
  clear hk he HI H1 H2;generalize v.take k=v1 at HF sT dF;generalize v.drop k=v2 at HF dF;go_wp2
  go_loopg [13] k (fun gk vk wj=>∃(t i:Nat),gk=k-t∧t≤k∧i=a+t∧vk=.int .i64 (i:Int)∧aV wj g off pre post (A++(v1.take t++x :: (v1.drop t++(v2++B))))∧ai g w wj)
  case atStart=>exact⟨0,a,rfl,by omega,rfl,rfl,by simpa using dF.o,HB.o⟩
  case round=>
   obtain⟨t,i,fV,eF,hi,rfl,hr,bw⟩:=hrel;have lf:=ap fV;have jZ:=ap hr;have aw:=ap bw;have Hi:=ap hi;clear fV hr bw hi
   by_cases dg:i<e
   ·obtain⟨y,hy⟩:∃y,v1[t]?=some y:=⟨_,List.getElem?_eq_getElem (by have:=sT.o;have:=He.o;have:=Hi.o;omega)⟩;have e3:A++(v1.take t++x :: (v1.drop t++(v2++B)))=(A++v1.take t)++x :: ([]++y :: (v1.drop (t+1)++(v2++B))):=by rw[CW hy];simp
    have e4:(A++v1.take t)++y :: ([]++x :: (v1.drop (t+1)++(v2++B)))=A++(v1.take (t+1)++x :: (v1.drop (t+1)++(v2++B))):=by rw[ux hy];simp
    have ah:=jZ.o.as e3;have p1:i=(A++v1.take t).length:=by rw[List.length_append,List.length_take];have:=sT.o;have:=Ha.o;have:=Hi.o;omega
    have p2:i+1=(A++v1.take t).length+1+([]:List Int).length:=by rw[←p1];rfl
    obtain⟨c1,c2,⟨u3,c3⟩,_⟩:=Kn ah p1 p2;have f1:=ah.frozen (off+i);have f2:=ah.frozen (off+(i+1));have N1:=ap ((YG ah p1 p2).as e4);have xo:=ap ((aw.o.setCell (p:=⟨g,off+i,none⟩) (.inl rfl) (.int .i64 y)).setCell (p:=⟨g,off+(i+1),none⟩) (.inl rfl) (.int .i64 x));have zi:IntKind.i64.wrap ((i:Int)+1)=((i+1:Nat):Int):=by rw[IntWalk.i64_in _ (by omega)];omega
    obtain⟨i1,cm⟩:∃i1,i+1=i1:=⟨_,rfl⟩;have afB:i1<n:=by omega
    rw[cm] at c2 c3 f2 N1 xo zi;have Jk:=ap cm;clear hy e3 e4 p1 p2 ah cm;go_wp2
    go_region
    go_wp2
    go_roundg (k-(t+1))
    case measure=>have:=lf.o;have:=Hi.o;have:=He.o;omega
    case rel=>exact⟨t+1,i1,rfl,by have:=Hi.o;have:=He.o;omega,by have:=Jk.o;have:=Hi.o;omega,by first|rfl|go_num,N1.o.drew,xo.o.drew⟩
   go_wp2;(try simp only[Exit.inBlock,Exit.then]);refine bodyPost_ret (results_none rfl _ _ _) rfl ?_;have Mk:t=k:=by have:=Hi.o;have:=He.o;omega
   subst Mk;have hr:=jZ.o;rw[List.take_of_length_le (by rw[sT.o];exact Nat.le_refl _),List.drop_of_length_le (by rw[sT.o];exact Nat.le_refl _)] at hr;exact⟨rfl,hr.as (by rw[←HF.o];simp),aw.o⟩
end
section
open Go.RowKit Go.WideShapes

namespace Nf
theorem NP{u:List Int}(h:Up u):az u=u:=(CT h (cj.refl u)).symm
theorem alA{x:Int}{u:List Int}{k:Nat}(h:Up u)(h1:∀y∈u.take k,cls y≤cls x)(h2:∀y∈u.drop k,cls x<cls y):u.take k++x :: u.drop k=az (u++[x]):=by
 rw[Yj,NP h]
 conv=>rhs;rw[←List.take_append_drop k u]
 rw[F6 x _ _ h1 h2]
end Nf
theorem amk(A u B:List Int)(x:Int)(pre post:List Value)(g off cap n a m b:Nat)(w:World)(h:aV w g off pre post (A++(u++x :: B)))(hn:n=A.length+u.length+1+B.length)
  (ha:a=A.length) (hm:m=A.length+u.length) (hb:b=A.length+u.length+1) (hu:1<u.length) (iz:Nf.Up u) (hs:n≤1000000000) :
  Calls Tryz.prog 235 #[.slice (some ⟨g,off,none⟩) n cap,.int .i64 a,.int .i64 m,.int .i64 b,.func (.func 187) #[] #[]] w fun e w'=>e=.returned (.tuple #[])∧aV w' g off pre post (A++(Nf.az (u++[x])++B))∧ai g w w':=by
 have HR:=ap h;have Hn:=ap hn;have Ha:=ap ha;have Hm:=ap hm;have Hb:=ap hb;have HU:=ap iz;have wC:m<n:=by omega
 have Be:a+1<m:=by omega
 have HC:=ap (fun x y W=>Es x y W);obtain⟨lu,BL⟩:∃lu,u.length=lu:=⟨_,rfl⟩;have Hlu:=ap BL;have z0:IntKind.i64.wrap ((m:Int)-(a:Int))=(lu:Int):=by rw[IntWalk.i64_in _ (by omega)];omega
 have afR:((lu:Int)==1)=false:=by
  have:¬(lu:Int)=1:=by omega
  simpa using this
 have z00:IntKind.i64.wrap ((b:Int)-(m:Int))=1:=by rw[IntWalk.i64_in _ (by omega)];omega
 clear h hn ha hm hb hu iz BL
 go_enter Tryz.func235,Tryz.ntmps235
 go_wp2
 go_loopg [14,15] (m-a) (fun gk vi vj wr=>∃(i j:Nat),gk=j-i∧a≤i∧i≤j∧j≤m∧vi=.int .i64 (i:Int)∧vj=.int .i64 (j:Int)∧(∀y∈u.take (i-a),Nf.cls y≤Nf.cls x)∧(∀y∈u.drop (j-a),Nf.cls x<Nf.cls y)∧aV wr g off pre post (A++(u++x :: B))∧ai g w wr)
 case atStart=>exact⟨a,m,rfl,Nat.le_refl _,by omega,Nat.le_refl _,rfl,rfl,by simp,by rw[List.drop_of_length_le (by have:=Hm.o;have:=Ha.o;omega)];simp,HR.o,ai.refl _ _⟩
 case round=>
  obtain⟨i,j,au,hmi,tQ,hjb,rfl,rfl,h1,h2,hr,bw⟩:=hrel;have Hg:=ap au;have HI:=ap hr;have HB:=ap bw;have H1:=ap h1;have H2:=ap h2;clear au hr bw h1 h2
  by_cases hlt:i<j
  ·have oP:IntKind.i64.wrap ((i:Int)+(j:Int))=((i+j:Nat):Int):=by rw[IntWalk.i64_in _ (by omega)];omega
   obtain⟨d,hd⟩:∃d,(i+j) / 2=d:=⟨_,rfl⟩;have Uy:((i:Int)+(j:Int)) / 2=(d:Int):=by omega
   have hid:i≤d:=by omega
   have Uv:d<j:=by omega
   have ym:d<n:=by omega
   clear hd oP;obtain⟨y,hy⟩:∃y,u[d-a]?=some y:=⟨_,List.getElem?_eq_getElem (by have:=Hm.o;have:=Ha.o;omega)⟩;have c1:wr.cell? ⟨g,off+d,none⟩=some (.int .i64 y):=HI.o.at_ (by rw[List.getElem?_append_right (by have:=Ha.o;omega),←Ha.o,List.getElem?_append_left (List.getElem?_eq_some_iff.1 hy).1];exact hy);have c2:wr.cell? ⟨g,off+m,none⟩=some (.int .i64 x):=HI.o.at_ (by rw[Hm.o,List.getElem?_append_right (by omega),List.getElem?_append_right (by omega),show A.length+u.length-A.length-u.length=0 by omega];rfl);obtain⟨q,hq⟩:∃q,Nf.cls x-Nf.cls y=q:=⟨_,rfl⟩;have dZ:=ap (fun W=>HC.o x y W);rw[hq] at dZ;have Hq:=ap hq;have Hy:=ap hy;clear hq hy
   by_cases hc:q<0
   ·have gR:decide (q<0)=true:=decide_eq_true hc
    go_wp2_with fail
    go_quiet ((go_at_call 187;refine Calls.quiet_of_same (dZ.o _)))
    have eB:=ap (show ai g w (wr.drewN nq) from⟨HB.o.os,HB.o.tape,HB.o.output,HB.o.size,HB.o.block⟩);have fy:=ap (HI.o.drewN nq);generalize wr.drewN nq=W at fy eB ⊢;clear c1 c2;go_wp2
    go_roundg (d-i)
    case measure=>have:=Hg.o;omega
    case rel=>
     refine⟨i,d,rfl,by omega,by omega,by omega,rfl,rfl,H1.o,?_,fy.o,eB.o⟩;intro z hz;have:=Nf.YV HU.o Hy.o z hz;have:=Hq.o;omega
   have gR:decide (q<0)=false:=decide_eq_false hc;have zd:IntKind.i64.wrap ((d:Int)+1)=((d+1:Nat):Int):=by rw[IntWalk.i64_in _ (by omega)];omega
   go_wp2_with fail
   go_quiet ((go_at_call 187;refine Calls.quiet_of_same (dZ.o _)))
   have eB:=ap (show ai g w (wr.drewN nq) from⟨HB.o.os,HB.o.tape,HB.o.output,HB.o.size,HB.o.block⟩);have fy:=ap (HI.o.drewN nq);generalize wr.drewN nq=W at fy eB ⊢;clear c1 c2;go_wp2
   go_roundg (j-(d+1))
   case measure=>have:=Hg.o;omega
   case rel=>
    refine⟨d+1,j,rfl,by omega,by omega,hjb,by first|rfl|go_num,rfl,?_,H2.o,fy.o,eB.o⟩;intro z hz;rw[show d+1-a=(d-a)+1 by omega] at hz;have:=Nf.YW HU.o Hy.o z hz;have:=Hq.o;omega
  have iR:j=i:=by omega
  subst iR;have HF:=ap (Nf.alA HU.o H1.o H2.o);obtain⟨k,hk⟩:∃k,j-a=k:=⟨_,rfl⟩;rw[hk] at HF;have Hk:=ap hk;have sT:=ap (show (u.take k).length=k by rw[List.length_take];have:=Hm.o;have:=Ha.o;omega);have sM:=ap (show (u.drop k).length=m-j by rw[List.length_drop];have:=Hm.o;have:=Ha.o;omega);have dF:=ap (HI.o.as (show A++(u++x :: B)=A++(u.take k++(u.drop k++x :: B)) by rw[←List.append_assoc (u.take k),List.take_append_drop]));clear hk HI H1 H2;generalize u.take k=u1 at HF sT dF;generalize u.drop k=u2 at HF dF sM;go_wp2
  go_loopg [17] (m-j) (fun gk vk wj=>∃(t i:Nat),gk=t∧t≤m-j∧i=j+t∧vk=.int .i64 (i:Int)∧aV wj g off pre post (A++(u1++(u2.take t++x :: (u2.drop t++B))))∧ai g w wj)
  case atStart=>exact⟨m-j,m,rfl,Nat.le_refl _,by omega,rfl,by rw[List.take_of_length_le (by rw[sM.o];exact Nat.le_refl _),List.drop_of_length_le (by rw[sM.o];exact Nat.le_refl _)];exact dF.o,HB.o⟩
  case round=>
   obtain⟨t,i,fV,eF,hi,rfl,hr,bw⟩:=hrel;have lf:=ap fV;have jZ:=ap hr;have aw:=ap bw;have Hi:=ap hi;clear fV hr bw hi
   by_cases dg:j<i
   ·obtain⟨t1,lV⟩:∃t1,t=t1+1:=⟨t-1,by have:=Hi.o;omega⟩;subst lV;obtain⟨y,hy⟩:∃y,u2[t1]?=some y:=⟨_,List.getElem?_eq_getElem (by have:=sM.o;omega)⟩;have e3:A++(u1++(u2.take (t1+1)++x :: (u2.drop (t1+1)++B)))=(A++(u1++u2.take t1))++y :: ([]++x :: (u2.drop (t1+1)++B)):=by rw[ux hy];simp
    have e4:(A++(u1++u2.take t1))++x :: ([]++y :: (u2.drop (t1+1)++B))=A++(u1++(u2.take t1++x :: (u2.drop t1++B))):=by rw[CW hy];simp
    obtain⟨i1,cm⟩:∃i1,i=i1+1:=⟨i-1,by omega⟩;have ah:=jZ.o.as e3;have p1:i1=(A++(u1++u2.take t1)).length:=by rw[List.length_append,List.length_append,List.length_take,sT.o];have:=sM.o;have:=Ha.o;have:=Hi.o;have:=Hk.o;omega
    have p2:i=(A++(u1++u2.take t1)).length+1+([]:List Int).length:=by rw[←p1,cm];rfl
    obtain⟨c1,c2,_,u3,c3⟩:=Kn ah p1 p2;have f1:=ah.frozen (off+i1);have f2:=ah.frozen (off+i);have N1:=ap ((YH ah p1 p2).as e4);have xo:=ap ((aw.o.setCell (p:=⟨g,off+i,none⟩) (.inl rfl) (.int .i64 y)).setCell (p:=⟨g,off+i1,none⟩) (.inl rfl) (.int .i64 x));have bB:i<n:=by have:=Hi.o;omega
    have zi:IntKind.i64.wrap ((i:Int)-1)=(i1:Int):=by rw[IntWalk.i64_in _ (by omega)];omega
    have afB:i1<n:=by have:=Hi.o;omega
    have Jk:=ap cm;clear hy e3 e4 p1 p2 ah cm;go_wp2
    go_region
    go_wp2
    go_roundg t1
    case measure=>have:=lf.o;omega
    case rel=>exact⟨t1,i1,rfl,by omega,by have:=Jk.o;have:=Hi.o;omega,by first|rfl|go_num,N1.o.drew,xo.o.drew⟩
   go_wp2;(try simp only[Exit.inBlock,Exit.then]);refine bodyPost_ret (results_none rfl _ _ _) rfl ?_;have Mk:t=0:=by have:=Hi.o;omega
   subst Mk;exact⟨rfl,jZ.o.as (by rw[←HF.o];simp),aw.o⟩
end
end Go.Proofs.YtpdkeckeekchlaaGreatDoor
