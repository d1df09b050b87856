/- NFC: a row of numbers within a block; slices.swapRangeCmpFunc, rotateCmpFunc. And more. -/
import Derived.Test.YtnbmfljhbpfilaaGreatDoorOw24
import Derived.BigRegion
import Derived.BigQuiet
set_option linter.unusedSimpArgs false
set_option maxRecDepth 100000
set_option maxHeartbeats 8000000
set_option linter.unusedVariables false
namespace Go.Proofs.YtnbmfljhbpfilaaGreatDoor
section
open Go.RowKit Go.WideShapes

structure aS(w:World)(g off:Nat)(pre post:List Value)(l:List Int):Prop where
 blk:ae w g 3 (pre++ar l++post).toArray
 yx:pre.length=off
section
variable {w w':World} {g off:Nat} {pre post:List Value} {l:List Int}
theorem aS.at_(h:aS w g off pre post l){j:Nat}{x:Int}(hj:l[j]?=some x):w.cell? ⟨g,off+j,none⟩=some (.int .i64 x):=by
 obtain⟨h1,_⟩:=List.getElem?_eq_some_iff.1 hj;rw[h.blk.cell,List.getElem?_toArray,←h.yx,List.getElem?_append_left (by rw[List.length_append,tB];omega),List.getElem?_append_right (by omega),Nat.add_sub_cancel_left];unfold ar;rw[List.getElem?_map,hj];rfl
theorem aS.frozen(h:aS w g off pre post l)(j:Nat):w.frozen? ⟨g,j,none⟩=false:=h.blk.frozen j
theorem aS.drew(h:aS w g off pre post l):aS w.drew g off pre post l:=⟨h.blk.drew,h.yx⟩
theorem aS.aI(h:aS w g off pre post l){j:Nat}(hj:j<l.length)(x:Int):aS (w.setCell ⟨g,off+j,none⟩ (.int .i64 x)) g off pre post (l.set j x):=by
 refine⟨?_,h.yx⟩;have:=h.blk.aI (off+j) (.int .i64 x)
 have e:(pre++ar l++post).toArray.setIfInBounds (off+j) (Value.int .i64 x)=(pre++ar (l.set j x)++post).toArray:=by
  apply Array.ext'
  rw[Array.toList_setIfInBounds];show (pre++ar l++post).set (off+j) _=pre++ar (l.set j x)++post;rw[←h.yx,List.append_assoc,List.append_assoc,List.set_append_right _ _ (by omega),Nat.add_sub_cancel_left,List.set_append_left _ _ (by rw[tB];exact hj)];unfold ar;rw[List.map_set]
 rwa[e] at this
end
theorem Yc{w:World}{g off:Nat}{pre post:List Value}{P Q R:List Int}{x y:Int}{i j:Nat}(h:aS w g off pre post (P++x :: (Q++y :: R)))(hi:i=P.length)(hj:j=P.length+1+Q.length) :
  aS ((w.setCell ⟨g,off+i,none⟩ (.int .i64 y)).setCell ⟨g,off+j,none⟩ (.int .i64 x)) g off pre post (P++y :: (Q++x :: R)):=by
 have h1:=h.aI (j:=i) (by simp;omega) y;have h2:=h1.aI (j:=j) (by rw[List.length_set];simp;omega) x;rwa[Nf.Ya P Q R x y hi hj] at h2
theorem Ye{w:World}{g off:Nat}{pre post:List Value}{P Q R:List Int}{x y:Int}{i j:Nat}(h:aS w g off pre post (P++x :: (Q++y :: R)))(hi:i=P.length)(hj:j=P.length+1+Q.length) :
  aS ((w.setCell ⟨g,off+j,none⟩ (.int .i64 x)).setCell ⟨g,off+i,none⟩ (.int .i64 y)) g off pre post (P++y :: (Q++x :: R)):=by
 have h1:=h.aI (j:=j) (by simp;omega) x;have h2:=h1.aI (j:=i) (by rw[List.length_set];simp;omega) y;rw[List.set_comm _ _ (by omega),Nf.Ya P Q R x y hi hj] at h2;exact h2
theorem Cp{l:List Int}{i:Nat}{x:Int}(h:l[i]?=some x):l.drop i=x :: l.drop (i+1):=by
 obtain⟨h1,h2⟩:=List.getElem?_eq_some_iff.1 h;rw[List.drop_eq_getElem_cons h1,h2]
theorem tL{l:List Int}{i:Nat}{x:Int}(h:l[i]?=some x):l.take (i+1)=l.take i++[x]:=by
 rw[List.take_add_one,h];rfl
def swapAt(A U M V B:List Int)(i:Nat):List Int:=A++(V.take i++(U.drop i++(M++(U.take i++(V.drop i++B)))))
theorem alE(A U M V B:List Int){i:Nat}{x y:Int}(hx:U[i]?=some x)(hy:V[i]?=some y) :
  swapAt A U M V B i=(A++V.take i)++x :: ((U.drop (i+1)++(M++U.take i))++y :: (V.drop (i+1)++B))∧
  swapAt A U M V B (i+1)=(A++V.take i)++y :: ((U.drop (i+1)++(M++U.take i))++x :: (V.drop (i+1)++B)):=by
 unfold swapAt;rw[Cp hx,Cp hy,tL hx,tL hy]
 constructor<;>simp[List.append_assoc]
theorem ND(A U M V B:List Int)(pre post:List Value)(g off cap n a b k:Nat)(fv:Value)(w:World)(h:aS w g off pre post (A++(U++(M++(V++B)))))(hn:n=A.length+U.length+M.length+V.length+B.length)
  (ha:a=A.length) (hb:b=A.length+U.length+M.length) (hk:k=U.length) (cu:k=V.length) (hs:n≤1000000000) :
  Calls Tryz.prog 218 #[.slice (some ⟨g,off,none⟩) n cap,.int .i64 a,.int .i64 b,.int .i64 k,fv] w fun e w'=>e=.returned (.tuple #[])∧aS w' g off pre post (A++(V++(M++(U++B))))∧ag g w w':=by
 have HR:=hide h;have Hn:=hide hn;have Ha:=hide ha;have Hb:=hide hb;have Hk:=hide hk;have r6:=hide cu;have b9:b+k≤n:=by omega
 have uX:a+k≤b:=by omega
 clear h hn ha hb hk cu
 go_enter Tryz.func218,Tryz.ntmps218
 go_wp2
 go_loopg [10] k (fun gk vk wr=>∃i:Nat,gk=k-i∧i≤k∧vk=.int .i64 (i:Int)∧aS wr g off pre post (swapAt A U M V B i)∧ag g w wr)
 case atStart=>exact⟨0,rfl,by omega,rfl,by unfold swapAt;simpa using HR.out,ag.refl _ _⟩
 case round=>
  obtain⟨i,au,hi,rfl,hr,bu⟩:=hrel;have Hg:=hide au;have HI:=hide hr;have HB:=hide bu;clear au hr bu
  by_cases hlt:i<k
  ·obtain⟨x,hx⟩:∃x,U[i]?=some x:=⟨_,List.getElem?_eq_getElem (by have:=Hk.out;omega)⟩;obtain⟨y,hy⟩:∃y,V[i]?=some y:=⟨_,List.getElem?_eq_getElem (by have:=r6.out;omega)⟩;obtain⟨e1,e2⟩:=alE A U M V B hx hy;have LM:(V.take i).length=i:=by rw[List.length_take];have:=r6.out;omega
   have U7:(U.take i).length=i:=by rw[List.length_take];have:=Hk.out;omega
   have U6:(U.drop (i+1)).length=k-(i+1):=by rw[List.length_drop];have:=Hk.out;omega
   obtain⟨p,hp⟩:∃p,p=a+i:=⟨_,rfl⟩;obtain⟨q,hq⟩:∃q,q=b+i:=⟨_,rfl⟩;have P1:p=(A++V.take i).length:=by rw[List.length_append,LM,hp,Ha.out]
   have P2:q=(A++V.take i).length+1+(U.drop (i+1)++(M++U.take i)).length:=by
    rw[List.length_append,List.length_append,List.length_append,LM,U7,U6,hq,Hb.out,←Hk.out];omega
   have hz1:IntKind.i64.wrap ((a:Int)+(i:Int))=(p:Int):=by rw[IntWalk.i64_in _ (by omega)];omega
   have hz2:IntKind.i64.wrap ((b:Int)+(i:Int))=(q:Int):=by rw[IntWalk.i64_in _ (by omega)];omega
   have lD:p<n:=by omega
   have hqn:q<n:=by omega
   have ai:=HI.out;rw[e1] at ai;have c1:wr.cell? ⟨g,off+p,none⟩=some (.int .i64 x):=ai.at_ (by rw[P1,List.getElem?_append_right (Nat.le_refl _),Nat.sub_self];rfl);have c2:wr.cell? ⟨g,off+q,none⟩=some (.int .i64 y):=ai.at_ (by rw[P2,List.getElem?_append_right (by omega),show (A++V.take i).length+1+(U.drop (i+1)++(M++U.take i)).length-(A++V.take i).length=(U.drop (i+1)++(M++U.take i)).length+1 by omega,List.getElem?_cons_succ,List.getElem?_append_right (Nat.le_refl _),Nat.sub_self];rfl);have f1:=ai.frozen (off+p);have f2:=ai.frozen (off+q);have N1:=hide (Yc ai P1 P2);rw[←e2] at N1
   have c3:∃u,(wr.setCell ⟨g,off+p,none⟩ (.int .i64 y)).cell? ⟨g,off+q,none⟩=some u:=by
    have:=(ai.aI (j:=p) (by rw[P1];simp) y).at_ (j:=q) (x:=y) (by rw[List.getElem?_set_ne (by omega),P2,List.getElem?_append_right (by omega),show (A++V.take i).length+1+(U.drop (i+1)++(M++U.take i)).length-(A++V.take i).length=(U.drop (i+1)++(M++U.take i)).length+1 by omega,List.getElem?_cons_succ,List.getElem?_append_right (Nat.le_refl _),Nat.sub_self];rfl);exact⟨_,this⟩
   obtain⟨u3,c3⟩:=c3;have wE:=hide (show ag g w ((wr.setCell ⟨g,off+p,none⟩ (.int .i64 y)).setCell ⟨g,off+q,none⟩ (.int .i64 x)) from (HB.out.setCell (.inl rfl) _).setCell (.inl rfl) _);clear hx hy e1 e2 LM U7 U6 hp hq P1 P2 ai;go_wp2
   go_region
   go_wp2
   go_roundg (k-(i+1))
   case measure=>have:=Hg.out;omega
   case rel=>exact⟨i+1,rfl,by omega,by first|rfl|go_num,N1.out.drew,wE.out.drew⟩
  have hik:i=k:=by omega
  subst hik;go_wp2;go_end0;have hr:=HI.out;unfold swapAt at hr;rw[List.take_of_length_le (by have:=r6.out;omega),List.take_of_length_le (by have:=Hk.out;omega),List.drop_of_length_le (by have:=Hk.out;omega),List.drop_of_length_le (by have:=r6.out;omega)] at hr;exact⟨rfl,by simpa using hr,HB.out⟩
theorem ajU(A U V B:List Int)(j:Nat):A++V++(U.take j++(U.drop j++B))=A++(V++(U++B)):=by
 rw[←List.append_assoc (U.take j),List.take_append_drop,List.append_assoc]
theorem ajV(A U V B:List Int)(pre post:List Value)(g off cap n a m b:Nat)(fv:Value)(w:World)(h:aS w g off pre post (A++(U++(V++B))))(hn:n=A.length+U.length+V.length+B.length)
  (ha:a=A.length) (hm:m=A.length+U.length) (hb:b=A.length+U.length+V.length) (hU:0<U.length) (hV:0<V.length) (hs:n≤1000000000) :
  Calls Tryz.prog 213 #[.slice (some ⟨g,off,none⟩) n cap,.int .i64 a,.int .i64 m,.int .i64 b,fv] w fun e w'=>e=.returned (.tuple #[])∧aS w' g off pre post (A++(V++(U++B)))∧ag g w w':=by
 have HR:=hide h;have Hn:=hide hn;obtain⟨Lu,Tm⟩:∃k,U.length=k:=⟨_,rfl⟩;obtain⟨Lv,Tp⟩:∃k,V.length=k:=⟨_,rfl⟩;have Hu:=hide Tm;have Hv:=hide Tp;have Ha:=hide ha;have Hm:=hide hm;have Li:IntKind.i64.wrap ((m:Int)-(a:Int))=(Lu:Int):=by rw[IntWalk.i64_in _ (by omega)];omega
 have hbm:IntKind.i64.wrap ((b:Int)-(m:Int))=(Lv:Int):=by rw[IntWalk.i64_in _ (by omega)];omega
 have vC:m+Lv≤n:=by omega
 have hmu:Lu≤m:=by omega
 have hU':0<Lu:=by omega
 have hV':0<Lv:=by omega
 have uZ:b≤n:=by omega
 clear h hn ha hm hb hU hV Tm Tp
 go_enter Tryz.func213,Tryz.ntmps213
 go_wp2
 go_loopg [10,11] (Lu+Lv) (fun gk vi vj wr=>∃(i j:Nat) (A1 U1 V1 B1:List Int),gk=i+j∧vi=.int .i64 (i:Int)∧vj=.int .i64 (j:Int)∧0<i∧0<j∧i≤Lu∧j≤Lv∧aS wr g off pre post (A1++(U1++(V1++B1)))∧U1.length=i∧V1.length=j∧A1.length+i=m∧(A1++U1++V1++B1).length=n∧A1++(V1++(U1++B1))=A++(V++(U++B))∧ag g w wr)
 case atStart=>exact⟨Lu,Lv,A,U,V,B,rfl,rfl,rfl,hU',hV',Nat.le_refl _,Nat.le_refl _,HR.out,Hu.out,Hv.out,by have:=Hm.out;have:=Hu.out;omega,by have:=Hn.out;simp only[List.length_append];omega,rfl,ag.refl _ _⟩
 case round=>
  obtain⟨i,j,A1,U1,V1,B1,au,rfl,rfl,i0,j0,iu,jv,hr,dJ,aX,lp,qQ,he,bu⟩:=hrel;have Hg:=hide au;have HI:=hide hr;have HB:=hide bu;have HE:=hide he;have qm:=hide dJ;have uA:=hide aX;have r7:=hide (show n=A1.length+U1.length+V1.length+B1.length by rw[←qQ];simp only[List.length_append]);obtain⟨al,fW⟩:∃k,A1.length=k:=⟨_,rfl⟩;rw[fW] at lp;have kQ:=hide fW;have zv:=hide lp;have z1:IntKind.i64.wrap ((m:Int)-(i:Int))=(al:Int):=by rw[IntWalk.i64_in _ (by omega)];omega
  have alm:al≤m:=by omega
  clear au hr bu he dJ aX qQ fW lp
  by_cases sV:i=j
  ·subst sV;have HS:=hide (ND A1 U1 [] V1 B1 pre post g off cap n al m i fv wr (by simpa using HI.out) (by have:=r7.out;simpa using this) kQ.out.symm (by have:=kQ.out;have:=qm.out;have:=zv.out;simp;omega) qm.out.symm uA.out.symm hs)
   go_wp2_with fail
   refine HS.out.mono ?_;rintro e w2 ⟨rfl,bG,af⟩;have dD:=hide bG;have ah:=hide af;clear bG af;go_wp2;go_end0;refine⟨rfl,?_,HB.out.trans ah.out⟩;rw[←HE.out]
   simpa using dD.out
  have aog:¬(i:Int)=(j:Int):=by omega
  by_cases fK:j<i
  ·have ae9:(j:Int)<(i:Int):=by omega
   have z2:IntKind.i64.wrap ((i:Int)-(j:Int))=((i-j:Nat):Int):=by rw[IntWalk.i64_in _ (by omega)];omega
   have bh:U1=U1.take j++U1.drop j:=(List.take_append_drop j U1).symm;have hlt:(U1.take j).length=j:=by rw[List.length_take];have:=qm.out;omega
   have xS:(U1.drop j).length=i-j:=by rw[List.length_drop];have:=qm.out;omega
   have HS:=hide (ND A1 (U1.take j) (U1.drop j) V1 B1 pre post g off cap n al m j fv wr (by rw[←List.append_assoc (U1.take j),←bh];exact HI.out) (by have:=r7.out;have:=qm.out;omega) kQ.out.symm (by have:=kQ.out;have:=qm.out;have:=zv.out;omega) hlt.symm uA.out.symm hs);have a8:=hide (show A1++V1++(U1.take j++(U1.drop j++B1))=A++(V++(U++B)) from (ajU A1 U1 V1 B1 j).trans HE.out);have wT:=hide hlt;have ux:=hide xS;obtain⟨d,hd⟩:∃d,i-j=d:=⟨_,rfl⟩;rw[hd] at z2 ux;have Hd:=hide hd;clear bh hlt xS hd
   go_wp2_with fail
   refine HS.out.mono ?_;rintro e w2 ⟨rfl,bG,af⟩;have dD:=hide bG;have ah:=hide af;clear bG af;go_wp2
   go_roundg (d+j)
   case measure=>have:=Hg.out;have:=Hd.out;omega
   case rel=>
    refine⟨d,j,A1++V1,U1.drop j,U1.take j,B1,rfl,by first|rfl|go_num,by first|rfl|go_num,by have:=Hd.out;omega,j0,by have:=Hd.out;omega,jv,by simpa only [List.append_assoc] using dD.out,ux.out,wT.out,?_,?_,a8.out,HB.out.trans ah.out⟩
    ·rw[List.length_append];have:=kQ.out;have:=uA.out;have:=zv.out;have:=Hd.out;omega
    have:=r7.out;have:=qm.out;have:=wT.out;have:=ux.out;have:=Hd.out;simp only[List.length_append];omega
  have ae9:¬(j:Int)<(i:Int):=by omega
  have z2:IntKind.i64.wrap ((m:Int)+(j:Int))=((m+j:Nat):Int):=by rw[IntWalk.i64_in _ (by omega)];omega
  have z3:IntKind.i64.wrap (((m+j:Nat):Int)-(i:Int))=((m+j-i:Nat):Int):=by rw[IntWalk.i64_in _ (by omega)];omega
  have z4:IntKind.i64.wrap ((j:Int)-(i:Int))=((j-i:Nat):Int):=by rw[IntWalk.i64_in _ (by omega)];omega
  have cS:V1=V1.take (j-i)++V1.drop (j-i):=(List.take_append_drop (j-i) V1).symm;have hlt:(V1.take (j-i)).length=j-i:=by rw[List.length_take];have:=uA.out;omega
  have xS:(V1.drop (j-i)).length=i:=by rw[List.length_drop];have:=uA.out;omega
  have HS:=hide (ND A1 U1 (V1.take (j-i)) (V1.drop (j-i)) B1 pre post g off cap n al (m+j-i) i fv wr (by rw[←List.append_assoc (V1.take (j-i)),←cS];exact HI.out) (by have:=r7.out;have:=uA.out;omega) kQ.out.symm (by have:=kQ.out;have:=qm.out;have:=zv.out;omega) qm.out.symm xS.symm hs);have a8:=hide (show A1++(V1.take (j-i)++(V1.drop (j-i)++(U1++B1)))=A++(V++(U++B)) by rw[←HE.out,←List.append_assoc (V1.take (j-i)),←cS]);have wT:=hide hlt;have ux:=hide xS;obtain⟨d,hd⟩:∃d,j-i=d:=⟨_,rfl⟩;rw[hd] at z4 wT HS ux a8;have Hd:=hide hd;obtain⟨s1,hs1⟩:∃d,m+j=d:=⟨_,rfl⟩;rw[hs1] at z2 z3 HS;obtain⟨s2,Bj⟩:∃d,s1-i=d:=⟨_,rfl⟩;rw[Bj] at z3 HS;clear cS hlt xS hd hs1 Bj
  go_wp2_with fail
  refine HS.out.mono ?_;rintro e w2 ⟨rfl,bG,af⟩;have dD:=hide bG;have ah:=hide af;clear bG af;go_wp2
  go_roundg (d+i)
  case measure=>have:=Hg.out;have:=Hd.out;omega
  case rel=>
   refine⟨i,d,A1,V1.drop d,V1.take d,U1++B1,by omega,by first|rfl|go_num,by first|rfl|go_num,i0,by have:=Hd.out;omega,iu,by have:=Hd.out;omega,dD.out,ux.out,wT.out,zv.out▸(by have:=kQ.out;omega),?_,a8.out,HB.out.trans ah.out⟩;have:=r7.out;have:=uA.out;have:=wT.out;have:=ux.out;have:=Hd.out;simp only[List.length_append];omega
end
section
open Go.RowKit Go.WideShapes

namespace Nf
theorem XP(l:List Int)(x:Int):aA (l++[x])=ins x (aA l):=by
 unfold aA;rw[List.foldl_append];rfl
theorem Fm(x:Int):∀(S1 S2:List Int),(∀y∈S1,cls y≤cls x)→(∀y∈S2,cls x<cls y)→ins x (S1++S2)=S1++x :: S2
 | [],[],_,_=>rfl
 | [],y :: S2,_,h=>by
  rw[List.nil_append,ins,if_pos (h y (List.mem_cons_self ..))];rfl
 | y :: S1,S2,h,k=>by
  rw[List.cons_append,ins,if_neg (by have:=h y (List.mem_cons_self ..);omega),Fm x S1 S2 (fun z hz=>h z (List.mem_cons_of_mem _ hz)) k];rfl
theorem js(l:List Int):(aA l).length=l.length:=(pK l).length
theorem akU(l:List Int)(h:l.length≤1):aA l=l:=by
 match l,h with
 | [],_=>rfl
 | [x],_=>rfl
end Nf
theorem akR{l:List Int}(h:0<l.length):∃m y,l=m++[y]:=by
 refine⟨l.dropLast,l.getLast (by intro e;subst e;simp at h),?_⟩;exact (List.dropLast_concat_getLast _).symm
theorem JM{w:World}{g off:Nat}{pre post:List Value}{P Q R:List Int}{x y:Int}{i j:Nat}(h:aS w g off pre post (P++x :: (Q++y :: R)))(hi:i=P.length)(hj:j=P.length+1+Q.length) :
  w.cell? ⟨g,off+i,none⟩=some (.int .i64 x)∧w.cell? ⟨g,off+j,none⟩=some (.int .i64 y)∧(∃u,(w.setCell ⟨g,off+i,none⟩ (.int .i64 y)).cell? ⟨g,off+j,none⟩=some u)∧∃u,(w.setCell ⟨g,off+j,none⟩ (.int .i64 x)).cell? ⟨g,off+i,none⟩=some u:=by
 have e1:(P++x :: (Q++y :: R))[i]?=some x:=by rw[hi,List.getElem?_append_right (Nat.le_refl _),Nat.sub_self];rfl
 have e2:(P++x :: (Q++y :: R))[j]?=some y:=by
  rw[hj,List.getElem?_append_right (by omega),show P.length+1+Q.length-P.length=Q.length+1 by omega,List.getElem?_cons_succ,List.getElem?_append_right (Nat.le_refl _),Nat.sub_self];rfl
 have hl:j<(P++x :: (Q++y :: R)).length:=(List.getElem?_eq_some_iff.1 e2).1;have xR:i<(P++x :: (Q++y :: R)).length:=(List.getElem?_eq_some_iff.1 e1).1;exact⟨h.at_ e1,h.at_ e2,⟨_,(h.aI xR y).at_ (by rw[List.getElem?_set_ne (by omega)];exact e2)⟩,⟨_,(h.aI hl x).at_ (by rw[List.getElem?_set_ne (by omega)];exact e1)⟩⟩
theorem aS.drewN{w:World}{g off:Nat}{pre post:List Value}{l:List Int}(h:aS w g off pre post l)(n:Nat):aS (w.drewN n) g off pre post l:=⟨h.blk,h.yx⟩
theorem aS.as{w:World}{g off:Nat}{pre post:List Value}{l m:List Int}(h:aS w g off pre post l)(e:l=m):aS w g off pre post m:=e▸h
theorem agy(A l B:List Int)(pre post:List Value)(g off cap n a b:Nat)(w:World)(h:aS w g off pre post (A++(l++B)))(hn:n=A.length+l.length+B.length)
  (ha:a=A.length) (hb:b=A.length+l.length) (hs:n≤1000000000) :
  Calls Tryz.prog 203 #[.slice (some ⟨g,off,none⟩) n cap,.int .i64 a,.int .i64 b,.func (.func 177) #[] #[]] w fun e w'=>e=.returned (.tuple #[])∧aS w' g off pre post (A++(Nf.aA l++B))∧ag g w w':=by
 have HR:=hide h;have Hn:=hide hn;have Ha:=hide ha;have Hb:=hide hb;have uZ:b≤n:=by omega
 have hab:a≤b:=by omega
 have HC:=hide (fun x y W=>Dy x y W);have z0:IntKind.i64.wrap ((a:Int)+1)=((a+1:Nat):Int):=by rw[IntWalk.i64_in _ (by omega)];omega
 clear h hn ha hb
 go_enter Tryz.func203,Tryz.ntmps203
 go_wp2
 go_loopg [8] (b-a) (fun gk vk wr=>∃(t i:Nat),gk=b-a-t∧i=a+1+t∧(t+1≤b-a∨t=0)∧vk=.int .i64 (i:Int)∧aS wr g off pre post (A++(Nf.aA (l.take (t+1))++(l.drop (t+1)++B)))∧ag g w wr)
 case atStart=>exact⟨0,a+1,rfl,rfl,.inr rfl,by first|rfl|go_num,by rw[Nf.akU _ (by rw[List.length_take];omega),←List.append_assoc (l.take _),List.take_append_drop];exact HR.out,ag.refl _ _⟩
 case round=>
  obtain⟨t,i,au,hi,ht,rfl,hr,bu⟩:=hrel;have Hg:=hide au;have HI:=hide hr;have HB:=hide bu;have Hi:=hide hi;clear au hr bu hi
  by_cases hlt:i<b
  ·obtain⟨x,hx⟩:∃x,l[t+1]?=some x:=⟨_,List.getElem?_eq_getElem (by have:=Hb.out;have:=Ha.out;have:=Hi.out;omega)⟩;have HS:=hide (show Nf.aA (l.take (t+2))=Nf.ins x (Nf.aA (l.take (t+1))) by rw[tL hx,Nf.XP]);have gZ:=Nf.oI (l.take (t+1));have pE:(Nf.aA (l.take (t+1))).length=t+1:=by rw[Nf.js,List.length_take];have:=Hb.out;have:=Ha.out;have:=Hi.out;omega
   have hr:=HI.out;rw[Cp hx] at hr;generalize Nf.aA (l.take (t+1))=S at HS gZ pE hr;have HU:=hide gZ;have HL:=hide pE;have pN:=hide hr;clear HI hx gZ pE hr;go_wp2
   go_loopg [9] (t+1) (fun gj vj wj=>∃(S1 S2:List Int) (j:Nat),gj=S1.length∧S=S1++S2∧j=a+S1.length∧vj=.int .i64 (j:Int)∧(∀y∈S2,Nf.cls x<Nf.cls y)∧aS wj g off pre post (A++(S1++x :: (S2++(l.drop (t+1+1)++B))))∧ag g w wj)
   case atStart=>exact⟨S,[],i,HL.out.symm,by simp,by have:=HL.out;have:=Hi.out;omega,rfl,by simp,by simpa using pN.out,HB.out⟩
   case round=>
    obtain⟨S1,S2,j,AU,hS,hj,rfl,h2,hr,bu⟩:=hrel;have Io:=hide AU;have HJ:=hide hj;have H2:=hide h2;have oP:=hide hr;have aw:=hide bu;have CT:=hide hS;have fy:j<n:=by have:=Hb.out;have:=Ha.out;have:=Hi.out;have:=HL.out;have:=congrArg List.length hS;rw[List.length_append] at this;omega
    clear AU hj h2 hr bu hS HB pN
    by_cases La:a<j
    ·obtain⟨oX,y,e1⟩:=akR (l:=S1) (by have:=HJ.out;omega);subst e1;obtain⟨jp,vy⟩:∃jp,jp=a+oX.length:=⟨_,rfl⟩;have vx:j=jp+1:=by rw[HJ.out,vy,List.length_append,List.length_singleton];omega
     have mG:=hide vx;have nE:=hide vy;have z1:IntKind.i64.wrap ((j:Int)-1)=(jp:Int):=by rw[IntWalk.i64_in _ (by omega)];omega
     have ai:=oP.out;have e3:A++(oX++[y]++x :: (S2++(l.drop (t+1+1)++B)))=(A++oX)++y :: ([]++x :: (S2++(l.drop (t+1+1)++B))):=by simp
     rw[e3] at ai;have p1:jp=(A++oX).length:=by rw[List.length_append,vy,Ha.out]
     have p2:j=(A++oX).length+1+([]:List Int).length:=by rw[←p1,vx];simp
     have c1:wr.cell? ⟨g,off+jp,none⟩=some (.int .i64 y):=ai.at_ (by rw[p1,List.getElem?_append_right (Nat.le_refl _),Nat.sub_self];rfl);have c2:wr.cell? ⟨g,off+j,none⟩=some (.int .i64 x):=ai.at_ (by rw[p2,List.getElem?_append_right (by omega),show (A++oX).length+1+([]:List Int).length-(A++oX).length=1 by simp];rfl);have f1:=ai.frozen (off+jp);have f2:=ai.frozen (off+j);have ZE:=hide e3;have rU:=hide p1;have jQ:=hide p2;have aon:jp<n:=by omega
     have c7:decide ((j:Int)>(a:Int))=true:=decide_eq_true (by omega);have bg:(a:Int)<(j:Int):=by omega
     clear vy vx p1 p2 e3 ai
     by_cases hc:Nf.cls x-Nf.cls y<0
     ·obtain⟨q,hq⟩:∃q,Nf.cls x-Nf.cls y=q:=⟨_,rfl⟩;have dT:=hide (fun W=>HC.out x y W);rw[hq] at hc dT;have gD:decide (q<0)=true:=decide_eq_true hc;have Hq:=hide hq;clear hq
      go_wp2_with fail
      go_quiet ((go_at_call 177;refine Calls.quiet_of_same (dT.out _)))
      clear c1 c2 f1 f2;have eh:=hide (show ag g w (wr.drewN nq) from⟨aw.out.os,aw.out.tape,aw.out.output,aw.out.size,aw.out.block⟩);have ai:=(oP.out.drewN nq).as ZE.out;generalize wr.drewN nq=W at ai eh ⊢;obtain⟨c1,c2,_,u3,c3⟩:=JM ai rU.out jQ.out;have f1:=ai.frozen (off+jp);have f2:=ai.frozen (off+j);have N1:=hide (Ye ai rU.out jQ.out);clear ai;go_wp2
      go_region
      go_wp2
      go_roundg oX.length
      case measure=>have:=Io.out;rw[this,List.length_append,List.length_singleton];omega
      case rel=>
       refine⟨oX,y :: S2,jp,rfl,by rw[CT.out];simp,nE.out,by first|rfl|go_num,?_,(N1.out.drew).as (by simp),((eh.out.setCell (.inl rfl) _).setCell (.inl rfl) _).drew⟩;intro z hz
       rcases List.mem_cons.1 hz with rfl|hz
       ·have:=Hq.out;omega
       exact H2.out z hz
     obtain⟨q,hq⟩:∃q,Nf.cls x-Nf.cls y=q:=⟨_,rfl⟩;have dT:=hide (fun W=>HC.out x y W);rw[hq] at hc dT;have gD:decide (q<0)=false:=decide_eq_false hc;have Hq:=hide hq;have zi:IntKind.i64.wrap ((i:Int)+1)=((i+1:Nat):Int):=by rw[IntWalk.i64_in _ (by omega)];omega
     clear hq
     go_wp2_with fail
     go_quiet ((go_at_call 177;refine Calls.quiet_of_same (dT.out _)))
     have eh:=hide (show ag g w (wr.drewN nq) from⟨aw.out.os,aw.out.tape,aw.out.output,aw.out.size,aw.out.block⟩);have fc:=hide (oP.out.drewN nq);generalize wr.drewN nq=W at fc eh ⊢;clear c1 c2 f1 f2;go_wp2
     go_roundg (b-a-(t+1))
     case measure=>have:=Hg.out;have:=Hi.out;omega
     case rel=>
      refine⟨t+1,i+1,rfl,by have:=Hi.out;omega,.inl (by have:=Hi.out;omega),by first|rfl|go_num,fc.out.as ?_,eh.out⟩;rw[HS.out,CT.out,Nf.Fm x (oX++[y]) S2 ?_ H2.out]
      ·simp
      intro z hz;have hu:=HU.out;rw[CT.out] at hu;have h3:=hu.left
      rcases List.mem_append.1 hz with hz|hz
      ·have:=h3.DG hz (List.mem_singleton.2 rfl);have:=Hq.out;omega
      rw[List.mem_singleton] at hz;subst hz;have:=Hq.out;omega
    have Uk:j=a:=by have:=HJ.out;omega
    have c7:decide ((j:Int)>(a:Int))=false:=decide_eq_false (by omega);have bg:¬(a:Int)<(j:Int):=by omega
    have zi:IntKind.i64.wrap ((i:Int)+1)=((i+1:Nat):Int):=by rw[IntWalk.i64_in _ (by omega)];omega
    have ZO:=hide Uk;clear Uk
    go_wp2_with fail
    go_quiet (fail)
    have eh:=hide (show ag g w (wr.drewN nq) from⟨aw.out.os,aw.out.tape,aw.out.output,aw.out.size,aw.out.block⟩);have fc:=hide (oP.out.drewN nq);generalize wr.drewN nq=W at fc eh ⊢;go_wp2
    go_roundg (b-a-(t+1))
    case measure=>have:=Hg.out;have:=Hi.out;omega
    case rel=>
     refine⟨t+1,i+1,rfl,by have:=Hi.out;omega,.inl (by have:=Hi.out;omega),by first|rfl|go_num,fc.out.as ?_,eh.out⟩;have h0:S1=[]:=List.eq_nil_of_length_eq_zero (by have:=HJ.out;have:=ZO.out;omega);subst h0;rw[HS.out,CT.out,Nf.Fm x [] S2 (by simp) H2.out];simp
  go_wp2;go_end0;have hr:=HI.out;have hl:l.length≤t+1:=by have:=Hb.out;have:=Ha.out;have:=Hi.out;omega
  rw[List.take_of_length_le hl,List.drop_of_length_le hl] at hr;exact⟨rfl,by simpa using hr,HB.out⟩
end
section
open Go.RowKit Go.WideShapes

namespace Nf
theorem Ys{v:List Int}{d:Nat}{y:Int}(h:Up v)(hy:v[d]?=some y):∀z∈v.take (d+1),cls z≤cls y:=fun z hz=>by
 obtain⟨i,hi,e⟩:=List.mem_take_iff_getElem.1 hz;exact h.at_ (List.getElem?_eq_some_iff.2 ⟨_,e⟩) hy (by omega)
theorem Yr{v:List Int}{d:Nat}{y:Int}(h:Up v)(hy:v[d]?=some y):∀z∈v.drop d,cls y≤cls z:=fun z hz=>by
 obtain⟨i,hi,e⟩:=List.mem_drop_iff_getElem.1 hz;exact h.at_ hy (List.getElem?_eq_some_iff.2 ⟨_,e⟩) (by omega)
theorem akS{x:Int}{v:List Int}{k:Nat}(h:Up v)(h1:∀y∈v.take k,cls y<cls x)(h2:∀y∈v.drop k,cls x≤cls y):v.take k++x :: v.drop k=aA (x :: v):=by
 refine Cm ?_ ?_
 ·have hv:=h;rw[←List.take_append_drop k v] at hv;refine Up.app hv.left ?_ ?_
  ·unfold Up;rw[List.pairwise_cons];exact⟨h2,hv.right⟩
  intro a ha b hb
  rcases List.mem_cons.1 hb with rfl|hb
  ·exact Int.le_of_lt (h1 a ha)
  exact hv.DG ha hb
 have e:x :: v=([x]++v.take k)++v.drop k:=by rw[List.append_assoc,List.take_append_drop];rfl
 have e2:v.take k++x :: v.drop k=(v.take k++[x])++v.drop k:=by simp
 rw[e,e2];refine b8.app (M0 ?_) (b8.refl _);intro a ha b hb;rw[List.mem_singleton] at ha;subst ha;have:=h1 b hb;omega
end Nf
theorem alF(A v B:List Int)(x:Int)(pre post:List Value)(g off cap n a m b:Nat)(w:World)(h:aS w g off pre post (A++x :: (v++B)))(hn:n=A.length+1+v.length+B.length)
  (ha:a=A.length) (hm:m=A.length+1) (hb:b=A.length+1+v.length) (hv:0<v.length) (gZ:Nf.Up v) (hs:n≤1000000000) :
  Calls Tryz.prog 204 #[.slice (some ⟨g,off,none⟩) n cap,.int .i64 a,.int .i64 m,.int .i64 b,.func (.func 177) #[] #[]] w fun e w'=>e=.returned (.tuple #[])∧aS w' g off pre post (A++(Nf.aA (x :: v)++B))∧ag g w w':=by
 have HR:=hide h;have Hn:=hide hn;have Ha:=hide ha;have Hm:=hide hm;have Hb:=hide hb;have HU:=hide gZ;have uZ:b≤n:=by omega
 have ji:m<b:=by omega
 have TG:a<n:=by omega
 have HC:=hide (fun x y W=>Dy x y W);have z0:IntKind.i64.wrap ((m:Int)-(a:Int))=1:=by rw[IntWalk.i64_in _ (by omega)];omega
 have c0:w.cell? ⟨g,off+a,none⟩=some (.int .i64 x):=h.at_ (by rw[ha,List.getElem?_append_right (Nat.le_refl _),Nat.sub_self];rfl);clear h hn ha hm hb hv gZ
 go_enter Tryz.func204,Tryz.ntmps204
 go_wp2
 go_loopg [10,11] (b-m) (fun gk vi vj wr=>∃(i j:Nat),gk=j-i∧m≤i∧i≤j∧j≤b∧vi=.int .i64 (i:Int)∧vj=.int .i64 (j:Int)∧(∀y∈v.take (i-m),Nf.cls y<Nf.cls x)∧(∀y∈v.drop (j-m),Nf.cls x≤Nf.cls y)∧aS wr g off pre post (A++x :: (v++B))∧ag g w wr)
 case atStart=>exact⟨m,b,rfl,Nat.le_refl _,by omega,Nat.le_refl _,rfl,rfl,by simp,by rw[List.drop_of_length_le (by have:=Hb.out;have:=Hm.out;omega)];simp,HR.out,ag.refl _ _⟩
 case round=>
  obtain⟨i,j,au,hmi,sV,hjb,rfl,rfl,h1,h2,hr,bu⟩:=hrel;have Hg:=hide au;have HI:=hide hr;have HB:=hide bu;have H1:=hide h1;have H2:=hide h2;clear au hr bu h1 h2
  by_cases hlt:i<j
  ·have om:IntKind.i64.wrap ((i:Int)+(j:Int))=((i+j:Nat):Int):=by rw[IntWalk.i64_in _ (by omega)];omega
   obtain⟨d,hd⟩:∃d,(i+j) / 2=d:=⟨_,rfl⟩;have T9:((i:Int)+(j:Int)) / 2=(d:Int):=by omega
   have hid:i≤d:=by omega
   have TX:d<j:=by omega
   have xK:d<n:=by omega
   clear hd om;obtain⟨y,hy⟩:∃y,v[d-m]?=some y:=⟨_,List.getElem?_eq_getElem (by have:=Hm.out;have:=Hb.out;omega)⟩;have c1:wr.cell? ⟨g,off+d,none⟩=some (.int .i64 y):=HI.out.at_ (by rw[List.getElem?_append_right (by have:=Hm.out;omega),show d-A.length=(d-m)+1 by have:=Hm.out;omega,List.getElem?_cons_succ,List.getElem?_append_left (List.getElem?_eq_some_iff.1 hy).1];exact hy);have c2:wr.cell? ⟨g,off+a,none⟩=some (.int .i64 x):=HI.out.at_ (by rw[Ha.out,List.getElem?_append_right (Nat.le_refl _),Nat.sub_self];rfl);obtain⟨q,hq⟩:∃q,Nf.cls y-Nf.cls x=q:=⟨_,rfl⟩;have dT:=hide (fun W=>HC.out y x W);rw[hq] at dT;have Hq:=hide hq;have Hy:=hide hy;clear hq hy
   by_cases hc:q<0
   ·have gD:decide (q<0)=true:=decide_eq_true hc;have zd:IntKind.i64.wrap ((d:Int)+1)=((d+1:Nat):Int):=by rw[IntWalk.i64_in _ (by omega)];omega
    go_wp2_with fail
    go_quiet ((go_at_call 177;refine Calls.quiet_of_same (dT.out _)))
    have eh:=hide (show ag g w (wr.drewN nq) from⟨HB.out.os,HB.out.tape,HB.out.output,HB.out.size,HB.out.block⟩);have fc:=hide (HI.out.drewN nq);generalize wr.drewN nq=W at fc eh ⊢;clear c1 c2;go_wp2
    go_roundg (j-(d+1))
    case measure=>have:=Hg.out;omega
    case rel=>
     refine⟨d+1,j,rfl,by omega,by omega,hjb,by first|rfl|go_num,rfl,?_,H2.out,fc.out,eh.out⟩;intro z hz;rw[show d+1-m=(d-m)+1 by omega] at hz;have:=Nf.Ys HU.out Hy.out z hz;have:=Hq.out;omega
   have gD:decide (q<0)=false:=decide_eq_false hc
   go_wp2_with fail
   go_quiet ((go_at_call 177;refine Calls.quiet_of_same (dT.out _)))
   have eh:=hide (show ag g w (wr.drewN nq) from⟨HB.out.os,HB.out.tape,HB.out.output,HB.out.size,HB.out.block⟩);have fc:=hide (HI.out.drewN nq);generalize wr.drewN nq=W at fc eh ⊢;clear c1 c2;go_wp2
   go_roundg (d-i)
   case measure=>have:=Hg.out;omega
   case rel=>
    refine⟨i,d,rfl,by omega,by omega,by omega,rfl,rfl,H1.out,?_,fc.out,eh.out⟩;intro z hz;have:=Nf.Yr HU.out Hy.out z hz;have:=Hq.out;omega
  have od:j=i:=by omega
  subst od;have HF:=hide (Nf.akS HU.out H1.out H2.out);obtain⟨k,hk⟩:∃k,j-m=k:=⟨_,rfl⟩;rw[hk] at HF;have Hk:=hide hk;have se:=hide (show (v.take k).length=k by rw[List.length_take];have:=Hm.out;have:=Hb.out;omega);have dD:=hide (HI.out.as (show A++x :: (v++B)=A++(x :: (v.take k++(v.drop k++B))) by rw[←List.append_assoc (v.take k),List.take_append_drop]));obtain⟨e,he⟩:∃e,a+k=e:=⟨_,rfl⟩;have z1:IntKind.i64.wrap ((j:Int)-1)=(e:Int):=by rw[IntWalk.i64_in _ (by omega)];have:=Hm.out;have:=Ha.out;omega
  have He:=hide he;have hen:e<n:=by have:=Hm.out;have:=Ha.out;omega
  clear hk he HI H1 H2;generalize v.take k=v1 at HF se dD;generalize v.drop k=v2 at HF dD;go_wp2
  go_loopg [13] k (fun gk vk wj=>∃(t i:Nat),gk=k-t∧t≤k∧i=a+t∧vk=.int .i64 (i:Int)∧aS wj g off pre post (A++(v1.take t++x :: (v1.drop t++(v2++B))))∧ag g w wj)
  case atStart=>exact⟨0,a,rfl,by omega,rfl,rfl,by simpa using dD.out,HB.out⟩
  case round=>
   obtain⟨t,i,fK,cN,hi,rfl,hr,bu⟩:=hrel;have kR:=hide fK;have oP:=hide hr;have aw:=hide bu;have Hi:=hide hi;clear fK hr bu hi
   by_cases dI:i<e
   ·obtain⟨y,hy⟩:∃y,v1[t]?=some y:=⟨_,List.getElem?_eq_getElem (by have:=se.out;have:=He.out;have:=Hi.out;omega)⟩;have e3:A++(v1.take t++x :: (v1.drop t++(v2++B)))=(A++v1.take t)++x :: ([]++y :: (v1.drop (t+1)++(v2++B))):=by rw[Cp hy];simp
    have e4:(A++v1.take t)++y :: ([]++x :: (v1.drop (t+1)++(v2++B)))=A++(v1.take (t+1)++x :: (v1.drop (t+1)++(v2++B))):=by rw[tL hy];simp
    have ai:=oP.out.as e3;have p1:i=(A++v1.take t).length:=by rw[List.length_append,List.length_take];have:=se.out;have:=Ha.out;have:=Hi.out;omega
    have p2:i+1=(A++v1.take t).length+1+([]:List Int).length:=by rw[←p1];rfl
    obtain⟨c1,c2,⟨u3,c3⟩,_⟩:=JM ai p1 p2;have f1:=ai.frozen (off+i);have f2:=ai.frozen (off+(i+1));have N1:=hide ((Yc ai p1 p2).as e4);have wE:=hide ((aw.out.setCell (p:=⟨g,off+i,none⟩) (.inl rfl) (.int .i64 y)).setCell (p:=⟨g,off+(i+1),none⟩) (.inl rfl) (.int .i64 x));have zi:IntKind.i64.wrap ((i:Int)+1)=((i+1:Nat):Int):=by rw[IntWalk.i64_in _ (by omega)];omega
    obtain⟨i1,cE⟩:∃i1,i+1=i1:=⟨_,rfl⟩;have aff:i1<n:=by omega
    rw[cE] at c2 c3 f2 N1 wE zi;have Iq:=hide cE;clear hy e3 e4 p1 p2 ai cE;go_wp2
    go_region
    go_wp2
    go_roundg (k-(t+1))
    case measure=>have:=kR.out;have:=Hi.out;have:=He.out;omega
    case rel=>exact⟨t+1,i1,rfl,by have:=Hi.out;have:=He.out;omega,by have:=Iq.out;have:=Hi.out;omega,by first|rfl|go_num,N1.out.drew,wE.out.drew⟩
   go_wp2;(try simp only[Exit.inBlock,Exit.then]);refine bodyPost_ret (results_none rfl _ _ _) rfl ?_;have LH:t=k:=by have:=Hi.out;have:=He.out;omega
   subst LH;have hr:=oP.out;rw[List.take_of_length_le (by rw[se.out];exact Nat.le_refl _),List.drop_of_length_le (by rw[se.out];exact Nat.le_refl _)] at hr;exact⟨rfl,hr.as (by rw[←HF.out];simp),aw.out⟩
end
section
open Go.RowKit Go.WideShapes

namespace Nf
theorem Nk{u:List Int}(h:Up u):aA u=u:=(Cm h (b8.refl u)).symm
theorem akT{x:Int}{u:List Int}{k:Nat}(h:Up u)(h1:∀y∈u.take k,cls y≤cls x)(h2:∀y∈u.drop k,cls x<cls y):u.take k++x :: u.drop k=aA (u++[x]):=by
 rw[XP,Nk h]
 conv=>rhs;rw[←List.take_append_drop k u]
 rw[Fm x _ _ h1 h2]
end Nf
theorem alG(A u B:List Int)(x:Int)(pre post:List Value)(g off cap n a m b:Nat)(w:World)(h:aS w g off pre post (A++(u++x :: B)))(hn:n=A.length+u.length+1+B.length)
  (ha:a=A.length) (hm:m=A.length+u.length) (hb:b=A.length+u.length+1) (hu:1<u.length) (gZ:Nf.Up u) (hs:n≤1000000000) :
  Calls Tryz.prog 204 #[.slice (some ⟨g,off,none⟩) n cap,.int .i64 a,.int .i64 m,.int .i64 b,.func (.func 177) #[] #[]] w fun e w'=>e=.returned (.tuple #[])∧aS w' g off pre post (A++(Nf.aA (u++[x])++B))∧ag g w w':=by
 have HR:=hide h;have Hn:=hide hn;have Ha:=hide ha;have Hm:=hide hm;have Hb:=hide hb;have HU:=hide gZ;have vC:m<n:=by omega
 have Ar:a+1<m:=by omega
 have HC:=hide (fun x y W=>Dy x y W);obtain⟨lu,AY⟩:∃lu,u.length=lu:=⟨_,rfl⟩;have Hlu:=hide AY;have z0:IntKind.i64.wrap ((m:Int)-(a:Int))=(lu:Int):=by rw[IntWalk.i64_in _ (by omega)];omega
 have afu:((lu:Int)==1)=false:=by
  have:¬(lu:Int)=1:=by omega
  simpa using this
 have z00:IntKind.i64.wrap ((b:Int)-(m:Int))=1:=by rw[IntWalk.i64_in _ (by omega)];omega
 clear h hn ha hm hb hu gZ AY
 go_enter Tryz.func204,Tryz.ntmps204
 go_wp2
 go_loopg [14,15] (m-a) (fun gk vi vj wr=>∃(i j:Nat),gk=j-i∧a≤i∧i≤j∧j≤m∧vi=.int .i64 (i:Int)∧vj=.int .i64 (j:Int)∧(∀y∈u.take (i-a),Nf.cls y≤Nf.cls x)∧(∀y∈u.drop (j-a),Nf.cls x<Nf.cls y)∧aS wr g off pre post (A++(u++x :: B))∧ag g w wr)
 case atStart=>exact⟨a,m,rfl,Nat.le_refl _,by omega,Nat.le_refl _,rfl,rfl,by simp,by rw[List.drop_of_length_le (by have:=Hm.out;have:=Ha.out;omega)];simp,HR.out,ag.refl _ _⟩
 case round=>
  obtain⟨i,j,au,hmi,sV,hjb,rfl,rfl,h1,h2,hr,bu⟩:=hrel;have Hg:=hide au;have HI:=hide hr;have HB:=hide bu;have H1:=hide h1;have H2:=hide h2;clear au hr bu h1 h2
  by_cases hlt:i<j
  ·have om:IntKind.i64.wrap ((i:Int)+(j:Int))=((i+j:Nat):Int):=by rw[IntWalk.i64_in _ (by omega)];omega
   obtain⟨d,hd⟩:∃d,(i+j) / 2=d:=⟨_,rfl⟩;have T9:((i:Int)+(j:Int)) / 2=(d:Int):=by omega
   have hid:i≤d:=by omega
   have TX:d<j:=by omega
   have xK:d<n:=by omega
   clear hd om;obtain⟨y,hy⟩:∃y,u[d-a]?=some y:=⟨_,List.getElem?_eq_getElem (by have:=Hm.out;have:=Ha.out;omega)⟩;have c1:wr.cell? ⟨g,off+d,none⟩=some (.int .i64 y):=HI.out.at_ (by rw[List.getElem?_append_right (by have:=Ha.out;omega),←Ha.out,List.getElem?_append_left (List.getElem?_eq_some_iff.1 hy).1];exact hy);have c2:wr.cell? ⟨g,off+m,none⟩=some (.int .i64 x):=HI.out.at_ (by rw[Hm.out,List.getElem?_append_right (by omega),List.getElem?_append_right (by omega),show A.length+u.length-A.length-u.length=0 by omega];rfl);obtain⟨q,hq⟩:∃q,Nf.cls x-Nf.cls y=q:=⟨_,rfl⟩;have dT:=hide (fun W=>HC.out x y W);rw[hq] at dT;have Hq:=hide hq;have Hy:=hide hy;clear hq hy
   by_cases hc:q<0
   ·have gD:decide (q<0)=true:=decide_eq_true hc
    go_wp2_with fail
    go_quiet ((go_at_call 177;refine Calls.quiet_of_same (dT.out _)))
    have eh:=hide (show ag g w (wr.drewN nq) from⟨HB.out.os,HB.out.tape,HB.out.output,HB.out.size,HB.out.block⟩);have fc:=hide (HI.out.drewN nq);generalize wr.drewN nq=W at fc eh ⊢;clear c1 c2;go_wp2
    go_roundg (d-i)
    case measure=>have:=Hg.out;omega
    case rel=>
     refine⟨i,d,rfl,by omega,by omega,by omega,rfl,rfl,H1.out,?_,fc.out,eh.out⟩;intro z hz;have:=Nf.Yr HU.out Hy.out z hz;have:=Hq.out;omega
   have gD:decide (q<0)=false:=decide_eq_false hc;have zd:IntKind.i64.wrap ((d:Int)+1)=((d+1:Nat):Int):=by rw[IntWalk.i64_in _ (by omega)];omega
   go_wp2_with fail
   go_quiet ((go_at_call 177;refine Calls.quiet_of_same (dT.out _)))
   have eh:=hide (show ag g w (wr.drewN nq) from⟨HB.out.os,HB.out.tape,HB.out.output,HB.out.size,HB.out.block⟩);have fc:=hide (HI.out.drewN nq);generalize wr.drewN nq=W at fc eh ⊢;clear c1 c2;go_wp2
   go_roundg (j-(d+1))
   case measure=>have:=Hg.out;omega
   case rel=>
    refine⟨d+1,j,rfl,by omega,by omega,hjb,by first|rfl|go_num,rfl,?_,H2.out,fc.out,eh.out⟩;intro z hz;rw[show d+1-a=(d-a)+1 by omega] at hz;have:=Nf.Ys HU.out Hy.out z hz;have:=Hq.out;omega
  have od:j=i:=by omega
  subst od;have HF:=hide (Nf.akT HU.out H1.out H2.out);obtain⟨k,hk⟩:∃k,j-a=k:=⟨_,rfl⟩;rw[hk] at HF;have Hk:=hide hk;have se:=hide (show (u.take k).length=k by rw[List.length_take];have:=Hm.out;have:=Ha.out;omega);have r5:=hide (show (u.drop k).length=m-j by rw[List.length_drop];have:=Hm.out;have:=Ha.out;omega);have dD:=hide (HI.out.as (show A++(u++x :: B)=A++(u.take k++(u.drop k++x :: B)) by rw[←List.append_assoc (u.take k),List.take_append_drop]));clear hk HI H1 H2;generalize u.take k=u1 at HF se dD;generalize u.drop k=u2 at HF dD r5;go_wp2
  go_loopg [17] (m-j) (fun gk vk wj=>∃(t i:Nat),gk=t∧t≤m-j∧i=j+t∧vk=.int .i64 (i:Int)∧aS wj g off pre post (A++(u1++(u2.take t++x :: (u2.drop t++B))))∧ag g w wj)
  case atStart=>exact⟨m-j,m,rfl,Nat.le_refl _,by omega,rfl,by rw[List.take_of_length_le (by rw[r5.out];exact Nat.le_refl _),List.drop_of_length_le (by rw[r5.out];exact Nat.le_refl _)];exact dD.out,HB.out⟩
  case round=>
   obtain⟨t,i,fK,cN,hi,rfl,hr,bu⟩:=hrel;have kR:=hide fK;have oP:=hide hr;have aw:=hide bu;have Hi:=hide hi;clear fK hr bu hi
   by_cases dI:j<i
   ·obtain⟨t1,mn⟩:∃t1,t=t1+1:=⟨t-1,by have:=Hi.out;omega⟩;subst mn;obtain⟨y,hy⟩:∃y,u2[t1]?=some y:=⟨_,List.getElem?_eq_getElem (by have:=r5.out;omega)⟩;have e3:A++(u1++(u2.take (t1+1)++x :: (u2.drop (t1+1)++B)))=(A++(u1++u2.take t1))++y :: ([]++x :: (u2.drop (t1+1)++B)):=by rw[tL hy];simp
    have e4:(A++(u1++u2.take t1))++x :: ([]++y :: (u2.drop (t1+1)++B))=A++(u1++(u2.take t1++x :: (u2.drop t1++B))):=by rw[Cp hy];simp
    obtain⟨i1,cE⟩:∃i1,i=i1+1:=⟨i-1,by omega⟩;have ai:=oP.out.as e3;have p1:i1=(A++(u1++u2.take t1)).length:=by rw[List.length_append,List.length_append,List.length_take,se.out];have:=r5.out;have:=Ha.out;have:=Hi.out;have:=Hk.out;omega
    have p2:i=(A++(u1++u2.take t1)).length+1+([]:List Int).length:=by rw[←p1,cE];rfl
    obtain⟨c1,c2,_,u3,c3⟩:=JM ai p1 p2;have f1:=ai.frozen (off+i1);have f2:=ai.frozen (off+i);have N1:=hide ((Ye ai p1 p2).as e4);have wE:=hide ((aw.out.setCell (p:=⟨g,off+i,none⟩) (.inl rfl) (.int .i64 y)).setCell (p:=⟨g,off+i1,none⟩) (.inl rfl) (.int .i64 x));have cd:i<n:=by have:=Hi.out;omega
    have zi:IntKind.i64.wrap ((i:Int)-1)=(i1:Int):=by rw[IntWalk.i64_in _ (by omega)];omega
    have aff:i1<n:=by have:=Hi.out;omega
    have Iq:=hide cE;clear hy e3 e4 p1 p2 ai cE;go_wp2
    go_region
    go_wp2
    go_roundg t1
    case measure=>have:=kR.out;omega
    case rel=>exact⟨t1,i1,rfl,by omega,by have:=Iq.out;have:=Hi.out;omega,by first|rfl|go_num,N1.out.drew,wE.out.drew⟩
   go_wp2;(try simp only[Exit.inBlock,Exit.then]);refine bodyPost_ret (results_none rfl _ _ _) rfl ?_;have LH:t=0:=by have:=Hi.out;omega
   subst LH;exact⟨rfl,oP.out.as (by rw[←HF.out];simp),aw.out⟩
end
end Go.Proofs.YtnbmfljhbpfilaaGreatDoor
