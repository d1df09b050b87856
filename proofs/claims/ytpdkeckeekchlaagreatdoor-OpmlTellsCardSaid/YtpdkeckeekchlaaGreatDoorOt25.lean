/- NFC: slices.symMergeCmpFunc by classes: the general case. Printed by genNfM.py. And more. -/
import Derived.Test.YtpdkeckeekchlaaGreatDoorOt24
set_option linter.unusedSimpArgs false
set_option maxRecDepth 100000
set_option maxHeartbeats 16000000
set_option linter.unusedVariables false
namespace Go.Proofs.YtpdkeckeekchlaaGreatDoor
section
open Go.RowKit Go.WideShapes

namespace Nf
theorem Yi{u v:List Int}(h:Up u)(k:Up v)(e:u=[]∨v=[]):az (u++v)=u++v:=by
 rcases e with rfl|rfl
 ·exact NP k
 rw[List.append_nil];exact NP h
theorem alC{u1 u2 v1 v2:List Int}(hu:Up (u1++u2))(hv:Up (v1++v2))(h1:∀x∈u2,∀y∈v1,cls y<cls x)(h2:∀x∈u1,∀y∈v2,cls x≤cls y):az (u1++v1)++az (u2++v2)=az ((u1++u2)++(v1++v2)):=by
 refine CT ?_ ?_
 ·refine Up.app (po _) (po _) ?_;intro x hx y hy;rw[(qs _).mem] at hx hy
  rcases List.mem_append.1 hx with hx|hx<;>rcases List.mem_append.1 hy with hy|hy
  ·exact hu.ED hx hy
  ·exact h2 x hx y hy
  ·exact Int.le_of_lt (h1 y hy x hx)
  exact hv.ED hx hy
 have e1:(u1++u2)++(v1++v2)=u1++((u2++v1)++v2):=by simp
 have e2:(u1++v1)++(u2++v2)=u1++((v1++u2)++v2):=by simp
 have k1:cj ((u1++u2)++(v1++v2)) ((u1++v1)++(u2++v2)):=by
  rw[e1,e2];exact (cj.refl _).app ((NH (fun x hx y hy=>by have:=h1 x hx y hy;omega)).app (cj.refl _))
 exact k1.trans ((qs _).app (qs _))
end Nf
def Rf(N:Nat):Prop:=∀(A u v B:List Int) (pre post:List Value) (g off cap n a m b:Nat) (w:World),aV w g off pre post (A++(u++(v++B)))→n=A.length+u.length+v.length+B.length→
  a=A.length→m=A.length+u.length→b=A.length+u.length+v.length→0<u.length→0<v.length→u.length+v.length≤N→Nf.Up u→Nf.Up v→n≤1000000000→
  Calls Tryz.prog 235 #[.slice (some ⟨g,off,none⟩) n cap,.int .i64 a,.int .i64 m,.int .i64 b,.func (.func 187) #[] #[]] w fun e w'=>e=.returned (.tuple #[])∧aV w' g off pre post (A++(Nf.az (u++v)++B))∧ai g w w'
structure JQ(u v:List Int)(a m nn lo hi st r:Nat):Prop where
 lo_:lo≤st
 le:st≤r
 hi_:r≤hi
 left:st=lo∨∃x y,u[st-1-a]?=some x∧v[nn-st-m]?=some y∧Nf.cls x≤Nf.cls y
 right:r=hi∨∃x y,u[r-a]?=some x∧v[nn-1-r-m]?=some y∧Nf.cls y<Nf.cls x
theorem Wy{l:List Int}{k:Nat}{z:Int}(h:z∈l.take k):∃i,i<k∧l[i]?=some z:=by
 obtain⟨i,hi,e⟩:=List.mem_take_iff_getElem.1 h;exact⟨i,by omega,List.getElem?_eq_some_iff.2 ⟨_,e⟩⟩
theorem Wx{l:List Int}{k:Nat}{z:Int}(h:z∈l.drop k):∃i,k≤i∧l[i]?=some z:=by
 obtain⟨i,hi,e⟩:=List.mem_drop_iff_getElem.1 h;exact⟨k+i,by omega,List.getElem?_eq_some_iff.2 ⟨_,e⟩⟩
theorem JQ.done{u v:List Int}{a m b nn mid lo hi st:Nat}(h:JQ u v a m nn lo hi st st)(hu:Nf.Up u)(hv:Nf.Up v)(hm:m=a+u.length)(hb:b=m+v.length)(yx:mid=(a+b) / 2)(bC:nn=mid+m)
  (nH:mid<m∧lo=nn-b∧hi=mid∨m≤mid∧lo=a∧hi=m) :
  (∀x∈u.drop (st-a),∀y∈v.take (nn-st-m),Nf.cls y<Nf.cls x)∧∀x∈u.take (st-a),∀y∈v.drop (nn-st-m),Nf.cls x≤Nf.cls y:=by
 obtain⟨l0,_,l1,hl,hr⟩:=h
 constructor
 ·intro x hx y hy;obtain⟨i,cm,ei⟩:=Wx hx;obtain⟨j,wy,ej⟩:=Wy hy;have:=(List.getElem?_eq_some_iff.1 ei).1;clear hl
  rcases hr with e|⟨x0,y0,ex,ey,hc⟩
  ·omega
  have h1:=hu.at_ ex ei cm;have h2:=hv.at_ ej ey (by omega);omega
 intro x hx y hy;obtain⟨i,cm,ei⟩:=Wy hx;obtain⟨j,wy,ej⟩:=Wx hy;have:=(List.getElem?_eq_some_iff.1 ej).1;clear hr
 rcases hl with e|⟨x0,y0,ex,ey,hc⟩
 ·omega
 have h1:=hu.at_ ei ex (by omega);have h2:=hv.at_ ey ej wy;omega
theorem alY{a b m mid nn p rZ lo hi:Nat}(yx:mid=(a+b) / 2)(bC:nn=mid+m)(hp:nn-1=p)(h0:nn-b=rZ)(Be:a+1<m)(gS:m+1<b)(nH:mid<m∧lo=rZ∧hi=mid∨m≤mid∧lo=a∧hi=m) :
  (a≤lo∧hi≤m∧lo≤hi)∧∀c,lo≤c→c<hi→c<p∧m≤p-c∧p-c<b:=by
 rcases nH with ⟨h1,h2,h3⟩|⟨h1,h2,h3⟩
 ·exact⟨⟨by omega,by omega,by omega⟩,fun c h4 h5=>by omega⟩
 exact⟨⟨by omega,by omega,by omega⟩,fun c h4 h5=>by omega⟩
theorem alX{a b m mid nn rZ lo hi st en:Nat}(yx:mid=(a+b) / 2)(bC:nn=mid+m)(h0:nn-b=rZ)(Be:a+1<m)(gS:m+1<b)(nH:mid<m∧lo=rZ∧hi=mid∨m≤mid∧lo=a∧hi=m)(h1:lo≤st)(h2:st≤hi)(he:nn-st=en) :
  (a≤st∧st≤m)∧(m≤en∧en≤b)∧en+st=mid+m:=by
 rcases nH with ⟨h3,h4,h5⟩|⟨h3,h4,h5⟩
 ·exact⟨⟨by omega,by omega⟩,⟨by omega,by omega⟩,by omega⟩
 exact⟨⟨by omega,by omega⟩,⟨by omega,by omega⟩,by omega⟩
theorem aml(N:Nat)(TI:Rf N)(A u v B:List Int)(pre post:List Value)(g off cap n a m b:Nat)(w:World)(h:aV w g off pre post (A++(u++(v++B))))(hn:n=A.length+u.length+v.length+B.length)
  (ha:a=A.length) (hm:m=A.length+u.length) (hb:b=A.length+u.length+v.length) (hu:1<u.length) (hv:1<v.length) (hN:u.length+v.length≤N+1) (iz:Nf.Up u) (hvp:Nf.Up v) (hs:n≤1000000000) :
  Calls Tryz.prog 235 #[.slice (some ⟨g,off,none⟩) n cap,.int .i64 a,.int .i64 m,.int .i64 b,.func (.func 187) #[] #[]] w fun e w'=>e=.returned (.tuple #[])∧aV w' g off pre post (A++(Nf.az (u++v)++B))∧ai g w w':=by
 have HR:=ap h;have PE:=ap TI;have Hn:=ap hn;have Ha:=ap ha;have Hm:=ap hm;have Hb:=ap hb;have HU:=ap iz;have HV:=ap hvp;have HN:=ap hN;have Bn:b≤n:=by omega
 have Be:a+1<m:=by omega
 have gS:m+1<b:=by omega
 have HC:=ap (fun x y W=>Es x y W);obtain⟨lu,BL⟩:∃lu,u.length=lu:=⟨_,rfl⟩;obtain⟨lv,kI⟩:∃lv,v.length=lv:=⟨_,rfl⟩;have Hlu:=ap BL;have Hlv:=ap kI;have z0:IntKind.i64.wrap ((m:Int)-(a:Int))=(lu:Int):=by rw[IntWalk.i64_in _ (by omega)];omega
 have afR:((lu:Int)==1)=false:=by
  have:¬(lu:Int)=1:=by omega
  simpa using this
 have z00:IntKind.i64.wrap ((b:Int)-(m:Int))=(lv:Int):=by rw[IntWalk.i64_in _ (by omega)];omega
 have ao4:((lv:Int)==1)=false:=by
  have:¬(lv:Int)=1:=by omega
  simpa using this
 obtain⟨mid,yx⟩:∃mid,mid=(a+b) / 2:=⟨_,rfl⟩;have Jm:=ap yx;have z1:((a:Int)+(b:Int)) / 2=(mid:Int):=by omega
 obtain⟨nn,bC⟩:∃nn,nn=mid+m:=⟨_,rfl⟩;have QP:=ap bC;have z2:IntKind.i64.wrap ((mid:Int)+(m:Int))=(nn:Int):=by rw[IntWalk.i64_in _ (by omega)];omega
 have z3:IntKind.i64.wrap ((nn:Int)-1)=((nn-1:Nat):Int):=by rw[IntWalk.i64_in _ (by omega)];omega
 obtain⟨p,hp⟩:∃p,nn-1=p:=⟨_,rfl⟩;rw[hp] at z3;have Hp:=ap hp;obtain⟨rZ,LR⟩:∃p,nn-b=p:=⟨_,rfl⟩;have Z4:=ap (show mid<m→IntKind.i64.wrap ((nn:Int)-(b:Int))=(rZ:Int) from fun h=>by rw[IntWalk.i64_in _ (by omega)];omega);have ao9:a<mid∧mid<b:=by omega
 obtain⟨lo,hi,nH⟩:∃lo hi,mid<m∧lo=rZ∧hi=mid∨m≤mid∧lo=a∧hi=m:=by
  by_cases h:mid<m
  ·exact⟨rZ,mid,.inl ⟨h,rfl,rfl⟩⟩
  exact⟨a,m,.inr ⟨by omega,rfl,rfl⟩⟩
 have Aa:=ap nH;obtain⟨⟨iP,tR,UU⟩,hrg⟩:=alY yx bC hp LR Be gS nH;have HRg:=ap hrg;clear hrg;have QH:=ap LR;clear h hn ha hm hb hu iz hvp hv hN BL kI yx bC hp LR TI
 go_enter Tryz.func235,Tryz.ntmps235
 go_upto_if 140 with fail
 go_cut [20,21] (fun s r wx=>s=.int .i64 (lo:Int)∧r=.int .i64 (hi:Int)∧wx=w)
 case first=>
  rcases nH with ⟨h1,rfl,rfl⟩|⟨h1,rfl,rfl⟩
  ·have z4:=Z4.o h1;go_wp2
   go_meet
   exact⟨rfl,rfl,rfl⟩
  go_wp2
  go_meet
  exact⟨rfl,rfl,rfl⟩
 case rest=>
  obtain⟨rfl,rfl,hwc⟩:=hcut;have hwc:=hwc.symm;subst hwc;clear nH;go_wp2
  go_loopg [20,21] (hi-lo) (fun gk vs vr wr=>∃(st r:Nat),gk=r-st∧vs=.int .i64 (st:Int)∧vr=.int .i64 (r:Int)∧JQ u v a m nn lo hi st r∧aV wr g off pre post (A++(u++(v++B)))∧ai g w wr)
  case atStart=>exact⟨lo,hi,rfl,rfl,rfl,⟨Nat.le_refl _,UU,Nat.le_refl _,.inl rfl,.inl rfl⟩,HR.o,ai.refl _ _⟩
  case round=>
   obtain⟨st,r,au,rfl,rfl,fL,hr,bw⟩:=hrel;have Hg:=ap au;have HI:=ap hr;have HB:=ap bw;have HS:=ap fL;have LS:=fL.lo_;have apy:=fL.le;have Md:=fL.hi_;clear au hr bw fL
   by_cases hlt:st<r
   ·have oP:IntKind.i64.wrap ((st:Int)+(r:Int))=((st+r:Nat):Int):=by rw[IntWalk.i64_in _ (by omega)];omega
    obtain⟨d,hd⟩:∃d,(st+r) / 2=d:=⟨_,rfl⟩;have Uy:((st:Int)+(r:Int)) / 2=(d:Int):=by omega
    have hid:st≤d:=by omega
    have Uv:d<r:=by omega
    obtain⟨g1,g2,g3⟩:=HRg.o d (by omega) (by omega);have ym:d<n:=by omega
    obtain⟨pd,L9⟩:∃pd,p-d=pd:=⟨_,rfl⟩;have zpd:IntKind.i64.wrap ((p:Int)-(d:Int))=(pd:Int):=by rw[IntWalk.i64_in _ (by omega)];omega
    rw[L9] at g2 g3;have apn:pd<n:=by omega
    obtain⟨x,hx⟩:∃x,u[d-a]?=some x:=⟨_,List.getElem?_eq_getElem (by have:=Hm.o;have:=Ha.o;omega)⟩;obtain⟨y,hy⟩:∃y,v[pd-m]?=some y:=⟨_,List.getElem?_eq_getElem (by have:=Hm.o;have:=Hb.o;omega)⟩;have c1:wr.cell? ⟨g,off+d,none⟩=some (.int .i64 x):=HI.o.at_ (by rw[List.getElem?_append_right (by have:=Ha.o;omega),←Ha.o,List.getElem?_append_left (List.getElem?_eq_some_iff.1 hx).1];exact hx);have c2:wr.cell? ⟨g,off+pd,none⟩=some (.int .i64 y):=HI.o.at_ (by rw[List.getElem?_append_right (by have:=Hm.o;omega),List.getElem?_append_right (by have:=Hm.o;omega),show pd-A.length-u.length=pd-m by have:=Hm.o;omega,List.getElem?_append_left (List.getElem?_eq_some_iff.1 hy).1];exact hy);obtain⟨q,hq⟩:∃q,Nf.cls y-Nf.cls x=q:=⟨_,rfl⟩;have dZ:=ap (fun W=>HC.o y x W);rw[hq] at dZ;have Hq:=ap hq;have Hx:=ap hx;have Hy:=ap hy;have QR:=ap L9;clear hq hx hy hd oP L9
    by_cases hc:q<0
    ·have gR:decide (q<0)=true:=decide_eq_true hc
     go_wp2_with fail
     go_quiet ((go_at_call 187;refine Calls.quiet_of_same (dZ.o _)))
     have eB:=ap (show ai g w (wr.drewN nq) from⟨HB.o.os,HB.o.tape,HB.o.output,HB.o.size,HB.o.block⟩);have fy:=ap (HI.o.drewN nq);generalize wr.drewN nq=W at fy eB ⊢;clear c1 c2;go_wp2
     go_roundg (d-st)
     case measure=>have:=Hg.o;omega
     case rel=>
      refine⟨st,d,rfl,rfl,rfl,⟨LS,hid,by omega,HS.o.left,.inr ⟨x,y,Hx.o,?_,by have:=Hq.o;omega⟩⟩,fy.o,eB.o⟩;rw[show nn-1-d-m=pd-m by have:=QR.o;have:=Hp.o;omega];exact Hy.o
    have gR:decide (q<0)=false:=decide_eq_false hc;have zd:IntKind.i64.wrap ((d:Int)+1)=((d+1:Nat):Int):=by rw[IntWalk.i64_in _ (by omega)];omega
    go_wp2_with fail
    go_quiet ((go_at_call 187;refine Calls.quiet_of_same (dZ.o _)))
    have eB:=ap (show ai g w (wr.drewN nq) from⟨HB.o.os,HB.o.tape,HB.o.output,HB.o.size,HB.o.block⟩);have fy:=ap (HI.o.drewN nq);generalize wr.drewN nq=W at fy eB ⊢;clear c1 c2;go_wp2
    go_roundg (r-(d+1))
    case measure=>have:=Hg.o;omega
    case rel=>
     refine⟨d+1,r,rfl,by first|rfl|go_num,rfl,⟨by omega,by omega,Md,.inr ⟨x,y,?_,?_,by have:=Hq.o;omega⟩,HS.o.right⟩,fy.o,eB.o⟩
     ·rw[Nat.add_sub_cancel];exact Hx.o
     rw[show nn-(d+1)-m=pd-m by have:=QR.o;have:=Hp.o;omega];exact Hy.o
   have eE:r=st:=by omega
   subst eE;have FH:=HS.o.done (b:=b) (mid:=mid) HU.o HV.o (by have:=Hm.o;have:=Ha.o;omega) (by have:=Hm.o;have:=Hb.o;omega) Jm.o QP.o (by have:=Aa.o;have:=QH.o;omega);obtain⟨en,hen⟩:∃en,nn-r=en:=⟨_,rfl⟩;obtain⟨⟨k1,k2⟩,⟨k3,k4⟩,k5⟩:=alX Jm.o QP.o QH.o Be gS Aa.o LS Md hen;rw[show nn-r-m=en-m by rw[hen]] at FH;have dJ:(u.take (r-a)).length=r-a:=by rw[List.length_take];have:=Hm.o;have:=Ha.o;omega
   have bG:(u.drop (r-a)).length=m-r:=by rw[List.length_drop];have:=Hm.o;have:=Ha.o;omega
   have aU:(v.take (en-m)).length=en-m:=by rw[List.length_take];have:=Hm.o;have:=Hb.o;omega
   have cQ:(v.drop (en-m)).length=b-en:=by rw[List.length_drop];have:=Hm.o;have:=Hb.o;omega
   have eu:=List.take_append_drop (r-a) u;have ev:=List.take_append_drop (en-m) v;have zV:=HU.o;have zW:=HV.o;rw[←eu] at zV;rw[←ev] at zW;have HF:=ap (Nf.alC zV zW FH.1 FH.2);rw[eu,ev] at HF;have uP:=ap (HI.o.as (show A++(u++(v++B))=A++(u.take (r-a)++(u.drop (r-a)++(v.take (en-m)++(v.drop (en-m)++B)))) by rw[←List.append_assoc (v.take _),ev,←List.append_assoc (u.take _),eu]));have mj:=ap (show (u.take (r-a)).length+(v.take (en-m)).length≤N∧(u.drop (r-a)).length+(v.drop (en-m)).length≤N by rw[dJ,bG,aU,cQ];have:=HN.o;have:=Hm.o;have:=Ha.o;have:=Hb.o;have:=Jm.o;omega);generalize u.take (r-a)=u1 at *
   generalize u.drop (r-a)=u2 at *
   generalize v.take (en-m)=v1 at *
   generalize v.drop (en-m)=v2 at *
   have U1:=ap dJ;have U2:=ap bG;have V1:=ap aU;have V2:=ap cQ;have zen:IntKind.i64.wrap ((nn:Int)-(r:Int))=(en:Int):=by rw[IntWalk.i64_in _ (by omega)];omega
   have hAn:n=A.length+u1.length+u2.length+v1.length+v2.length+B.length:=by have:=Hn.o;have:=congrArg List.length eu;have:=congrArg List.length ev;rw[List.length_append] at *;omega
   have Oj:=zV.left;have Ol:=zV.right;have Oo:=zW.left;have Oq:=zW.right;have Dz:=ap (fun (W:World) (h:aV W g off pre post (A++(u1++(u2++(v1++(v2++B)))))) (h1:r<m) (h2:m<en)=>akq (A++u1) u2 v1 (v2++B) pre post g off cap n r m en (.func (.func 187) #[] #[]) W (h.as (by simp)) (by simp only[List.length_append];omega) (by rw[List.length_append,dJ,←Ha.o];omega) (by rw[List.length_append,dJ,bG,←Ha.o];omega) (by rw[List.length_append,dJ,bG,aU,←Ha.o];omega) (by omega) (by omega) hs);have IB:=ap (fun (W:World) (h:aV W g off pre post (A++(u1++(v1++(u2++(v2++B)))))) (h1:a<r) (h2:r<mid)=>PE.o A u1 v1 (u2++(v2++B)) pre post g off cap n a r mid W h (by simp only[List.length_append];omega) Ha.o (by rw[dJ,←Ha.o];omega) (by rw[dJ,aU,←Ha.o];omega) (by omega) (by omega) mj.o.1 Oj Oo hs)
   have IY:=ap (fun (W:World) (h:aV W g off pre post (A++(Nf.az (u1++v1)++(u2++(v2++B))))) (h1:mid<en) (h2:en<b)=>PE.o (A++Nf.az (u1++v1)) u2 v2 B pre post g off cap n mid en b W (h.as (by simp)) (by rw[List.length_append,Nf.jC,List.length_append];omega) (by rw[List.length_append,Nf.jC,List.length_append,dJ,aU,←Ha.o];omega) (by rw[List.length_append,Nf.jC,List.length_append,dJ,aU,bG,←Ha.o];omega) (by rw[List.length_append,Nf.jC,List.length_append,dJ,aU,bG,cQ,←Ha.o];omega) (by omega) (by omega) mj.o.2 Ol Oq hs);have S1:=ap (fun (h:u1=[]∨v1=[])=>Nf.Yi Oj Oo h);have S2:=ap (fun (h:u2=[]∨v2=[])=>Nf.Yi Ol Oq h);clear FH dJ bG aU cQ eu ev zV zW hAn Oj Ol Oo Oq hen LS Md hlt UU iP tR
   rcases (by omega:r=a∨(a<r∧r<m)∨(a<r∧r=m)) with q1|q1|q1
   ·rcases (by omega:en=m∨(m<en∧en<b)∨(m<en∧en=b)) with q2|q2|q2
    ·exfalso;omega
    ·have d1:(r:Int)<(m:Int):=by omega
     have d2:(m:Int)<(en:Int):=by omega
     have d3:¬(a:Int)<(r:Int):=by omega
     have d4:(r:Int)<(mid:Int):=by omega
     have d5:(mid:Int)<(en:Int):=by omega
     have d6:(en:Int)<(b:Int):=by omega
     have n1:u1=[]:=List.eq_nil_of_length_eq_zero (by have:=U1.o;omega);clear q1 q2
     go_wp2_with fail
     refine (Dz.o _ uP.o (by omega) (by omega)).mono ?_;rintro e w1 ⟨rfl,dH,ak⟩;have R1:=ap (dH.as (show _=A++(u1++(v1++(u2++(v2++B)))) by simp));have B1:=ap (HB.o.trans ak);clear dH ak;have R2:=ap (R1.o.as (show _=A++(Nf.az (u1++v1)++(u2++(v2++B))) by rw[S1.o (by left;exact n1)]<;>simp));have B2:=ap B1.o
     go_wp2_with fail
     refine (IY.o _ R2.o (by omega) (by omega)).mono ?_;rintro e w3 ⟨rfl,kJ,aA⟩;have R3:=ap (kJ.as (show _=A++(Nf.az (u1++v1)++(Nf.az (u2++v2)++B)) by simp));have B3:=ap (B2.o.trans aA);clear kJ aA;clear n1;go_wp2;go_end0;exact⟨rfl,R3.o.as (by rw[←HF.o];simp),B3.o⟩
    have d1:(r:Int)<(m:Int):=by omega
    have d2:(m:Int)<(en:Int):=by omega
    have d3:¬(a:Int)<(r:Int):=by omega
    have d4:(r:Int)<(mid:Int):=by omega
    have d5:(mid:Int)<(en:Int):=by omega
    have d6:¬(en:Int)<(b:Int):=by omega
    have n1:u1=[]:=List.eq_nil_of_length_eq_zero (by have:=U1.o;omega);have n4:v2=[]:=List.eq_nil_of_length_eq_zero (by have:=V2.o;omega);clear q1 q2
    go_wp2_with fail
    refine (Dz.o _ uP.o (by omega) (by omega)).mono ?_;rintro e w1 ⟨rfl,dH,ak⟩;have R1:=ap (dH.as (show _=A++(u1++(v1++(u2++(v2++B)))) by simp));have B1:=ap (HB.o.trans ak);clear dH ak;have R2:=ap (R1.o.as (show _=A++(Nf.az (u1++v1)++(u2++(v2++B))) by rw[S1.o (by left;exact n1)]<;>simp));have B2:=ap B1.o;have R3:=ap (R2.o.as (show _=A++(Nf.az (u1++v1)++(Nf.az (u2++v2)++B)) by rw[S2.o (by right;exact n4)]<;>simp));have B3:=ap B2.o;clear n1 n4;go_wp2;go_end0;exact⟨rfl,R3.o.as (by rw[←HF.o];simp),B3.o⟩
   ·rcases (by omega:en=m∨(m<en∧en<b)∨(m<en∧en=b)) with q2|q2|q2
    ·have d1:(r:Int)<(m:Int):=by omega
     have d2:¬(m:Int)<(en:Int):=by omega
     have d3:(a:Int)<(r:Int):=by omega
     have d4:¬(r:Int)<(mid:Int):=by omega
     have d5:(mid:Int)<(en:Int):=by omega
     have d6:(en:Int)<(b:Int):=by omega
     have n3:v1=[]:=List.eq_nil_of_length_eq_zero (by have:=V1.o;omega);clear q1 q2;have R1:=ap (uP.o.as (show _=A++(u1++(v1++(u2++(v2++B)))) by rw[n3]<;>simp));have B1:=ap HB.o;have R2:=ap (R1.o.as (show _=A++(Nf.az (u1++v1)++(u2++(v2++B))) by rw[S1.o (by right;exact n3)]<;>simp));have B2:=ap B1.o
     go_wp2_with fail
     refine (IY.o _ R2.o (by omega) (by omega)).mono ?_;rintro e w3 ⟨rfl,kJ,aA⟩;have R3:=ap (kJ.as (show _=A++(Nf.az (u1++v1)++(Nf.az (u2++v2)++B)) by simp));have B3:=ap (B2.o.trans aA);clear kJ aA;clear n3;go_wp2;go_end0;exact⟨rfl,R3.o.as (by rw[←HF.o];simp),B3.o⟩
    ·have d1:(r:Int)<(m:Int):=by omega
     have d2:(m:Int)<(en:Int):=by omega
     have d3:(a:Int)<(r:Int):=by omega
     have d4:(r:Int)<(mid:Int):=by omega
     have d5:(mid:Int)<(en:Int):=by omega
     have d6:(en:Int)<(b:Int):=by omega
     clear q1 q2
     go_wp2_with fail
     refine (Dz.o _ uP.o (by omega) (by omega)).mono ?_;rintro e w1 ⟨rfl,dH,ak⟩;have R1:=ap (dH.as (show _=A++(u1++(v1++(u2++(v2++B)))) by simp));have B1:=ap (HB.o.trans ak);clear dH ak
     go_wp2_with fail
     refine (IB.o _ R1.o (by omega) (by omega)).mono ?_;rintro e w2 ⟨rfl,bF,af⟩;have R2:=ap bF;have B2:=ap (B1.o.trans af);clear bF af
     go_wp2_with fail
     refine (IY.o _ R2.o (by omega) (by omega)).mono ?_;rintro e w3 ⟨rfl,kJ,aA⟩;have R3:=ap (kJ.as (show _=A++(Nf.az (u1++v1)++(Nf.az (u2++v2)++B)) by simp));have B3:=ap (B2.o.trans aA);clear kJ aA;go_wp2;go_end0;exact⟨rfl,R3.o.as (by rw[←HF.o];simp),B3.o⟩
    have d1:(r:Int)<(m:Int):=by omega
    have d2:(m:Int)<(en:Int):=by omega
    have d3:(a:Int)<(r:Int):=by omega
    have d4:(r:Int)<(mid:Int):=by omega
    have d5:(mid:Int)<(en:Int):=by omega
    have d6:¬(en:Int)<(b:Int):=by omega
    have n4:v2=[]:=List.eq_nil_of_length_eq_zero (by have:=V2.o;omega);clear q1 q2
    go_wp2_with fail
    refine (Dz.o _ uP.o (by omega) (by omega)).mono ?_;rintro e w1 ⟨rfl,dH,ak⟩;have R1:=ap (dH.as (show _=A++(u1++(v1++(u2++(v2++B)))) by simp));have B1:=ap (HB.o.trans ak);clear dH ak
    go_wp2_with fail
    refine (IB.o _ R1.o (by omega) (by omega)).mono ?_;rintro e w2 ⟨rfl,bF,af⟩;have R2:=ap bF;have B2:=ap (B1.o.trans af);clear bF af;have R3:=ap (R2.o.as (show _=A++(Nf.az (u1++v1)++(Nf.az (u2++v2)++B)) by rw[S2.o (by right;exact n4)]<;>simp));have B3:=ap B2.o;clear n4;go_wp2;go_end0;exact⟨rfl,R3.o.as (by rw[←HF.o];simp),B3.o⟩
   rcases (by omega:en=m∨(m<en∧en<b)∨(m<en∧en=b)) with q2|q2|q2
   ·have d1:¬(r:Int)<(m:Int):=by omega
    have d2:¬(m:Int)<(en:Int):=by omega
    have d3:(a:Int)<(r:Int):=by omega
    have d4:¬(r:Int)<(mid:Int):=by omega
    have d5:¬(mid:Int)<(en:Int):=by omega
    have d6:(en:Int)<(b:Int):=by omega
    have n2:u2=[]:=List.eq_nil_of_length_eq_zero (by have:=U2.o;omega);have n3:v1=[]:=List.eq_nil_of_length_eq_zero (by have:=V1.o;omega);clear q1 q2;have R1:=ap (uP.o.as (show _=A++(u1++(v1++(u2++(v2++B)))) by rw[n2]<;>simp));have B1:=ap HB.o;have R2:=ap (R1.o.as (show _=A++(Nf.az (u1++v1)++(u2++(v2++B))) by rw[S1.o (by right;exact n3)]<;>simp));have B2:=ap B1.o;have R3:=ap (R2.o.as (show _=A++(Nf.az (u1++v1)++(Nf.az (u2++v2)++B)) by rw[S2.o (by left;exact n2)]<;>simp));have B3:=ap B2.o;clear n2 n3;go_wp2;go_end0;exact⟨rfl,R3.o.as (by rw[←HF.o];simp),B3.o⟩
   ·have d1:¬(r:Int)<(m:Int):=by omega
    have d2:(m:Int)<(en:Int):=by omega
    have d3:(a:Int)<(r:Int):=by omega
    have d4:(r:Int)<(mid:Int):=by omega
    have d5:¬(mid:Int)<(en:Int):=by omega
    have d6:(en:Int)<(b:Int):=by omega
    have n2:u2=[]:=List.eq_nil_of_length_eq_zero (by have:=U2.o;omega);clear q1 q2;have R1:=ap (uP.o.as (show _=A++(u1++(v1++(u2++(v2++B)))) by rw[n2]<;>simp));have B1:=ap HB.o
    go_wp2_with fail
    refine (IB.o _ R1.o (by omega) (by omega)).mono ?_;rintro e w2 ⟨rfl,bF,af⟩;have R2:=ap bF;have B2:=ap (B1.o.trans af);clear bF af;have R3:=ap (R2.o.as (show _=A++(Nf.az (u1++v1)++(Nf.az (u2++v2)++B)) by rw[S2.o (by left;exact n2)]<;>simp));have B3:=ap B2.o;clear n2;go_wp2;go_end0;exact⟨rfl,R3.o.as (by rw[←HF.o];simp),B3.o⟩
   exfalso;omega
end
section
open Go.RowKit Go.WideShapes

theorem WA:∀N,Rf N
 | 0=>fun A u v B pre post g off cap n a m b w h hn ha hm hb hu hv hN=>by omega
 | N+1=>fun A u v B pre post g off cap n a m b w h hn ha hm hb hu hv hN iz hvp hs=>by
  by_cases h1:u.length=1
  ·obtain⟨x,rfl⟩:=List.length_eq_one_iff.1 h1;exact amj A v B x pre post g off cap n a m b w h (by simpa using hn) ha (by simpa using hm) (by simpa using hb) hv hvp hs
  by_cases h2:v.length=1
  ·obtain⟨x,rfl⟩:=List.length_eq_one_iff.1 h2;exact amk A u B x pre post g off cap n a m b w h (by simpa using hn) ha hm (by simpa using hb) (by omega) iz hs
  exact aml N (WA N) A u v B pre post g off cap n a m b w h hn ha hm hb (by omega) (by omega) hN iz hvp hs
namespace Nf
def blk(bs:Nat)(l:List Int):List Int:=if h:bs=0∨l.length≤bs then az l else az (l.take bs)++blk bs (l.drop bs)
termination_by l.length
decreasing_by rw[List.length_drop];omega
theorem sZ{bs:Nat}{l:List Int}(h:l.length≤bs):blk bs l=az l:=by rw[blk,dif_pos (.inr h)]
theorem AH{bs:Nat}{l:List Int}(h0:0<bs)(h:bs≤l.length):blk bs l=az (l.take bs)++blk bs (l.drop bs):=by
 rcases Nat.lt_or_eq_of_le h with hlt|he
 ·conv=>lhs;rw[blk]
  rw[dif_neg (by omega)]
 rw[sZ (by omega),List.take_of_length_le (by omega),List.drop_of_length_le (by omega),sZ (by simp)];simp[az]
theorem Yh(a b:List Int):az (az a++az b)=az (a++b) :=
 CT (po _) (((qs a).app (qs b)).trans (qs _))
theorem amC(l:List Int)(a b:Nat):l.take a++(l.drop a).take b=l.take (a+b):=List.take_add.symm
theorem RQ(bs:Nat)(l:List Int):(blk bs l).length=l.length:=by
 rw[blk];split
 ·exact jC l
 rw[List.length_append,jC,RQ bs (l.drop bs),←List.length_append,List.take_append_drop]
termination_by l.length
decreasing_by rw[List.length_drop];omega
end Nf
theorem al1(l:List Int)(pre post:List Value)(g off cap n:Nat)(w:World)(h:aV w g off pre post l)(hn:n=l.length)(hs:n≤1000000000) :
  Calls Tryz.prog 218 #[.slice (some ⟨g,off,none⟩) n cap,.int .i64 n,.func (.func 187) #[] #[]] w fun e w'=>e=.returned (.tuple #[])∧aV w' g off pre post (Nf.az l)∧ai g w w':=by
 have HR:=ap h;have Hn:=ap hn;have PF:=ap (fun A l B n a b W h=>agR A l B pre post g off cap n a b W h);have PT:=ap (fun A u v B n a m b W h=>WA (u.length+v.length) A u v B pre post g off cap n a m b W h);clear h hn
 go_enter Tryz.func218,Tryz.ntmps218
 go_wp2
 go_loopg [7,8] n (fun gk va vb wr=>∃(a:Nat) (P:List Int),gk=n-a∧a≤n∧va=.int .i64 (a:Int)∧vb=.int .i64 ((a+20:Nat):Int)∧P.length=a∧aV wr g off pre post (P++l.drop a)∧P++Nf.blk 20 (l.drop a)=Nf.blk 20 l∧ai g w wr)
 case atStart=>exact⟨0,[],rfl,by omega,rfl,rfl,rfl,by simpa using HR.o,by simp,ai.refl _ _⟩
 case round=>
  obtain⟨a,P,au,Ue,rfl,rfl,hP,hr,he,bw⟩:=hrel;have Hg:=ap au;have HP:=ap hP;have HI:=ap hr;have HE:=ap he;have HB:=ap bw;clear au hP hr he bw
  by_cases hlt:a+20≤n
  ·obtain⟨b,hb⟩:∃b,a+20=b:=⟨_,rfl⟩;rw[hb] at hlt ⊢;have Hb:=ap hb;have zb:IntKind.i64.wrap ((b:Int)+20)=((b+20:Nat):Int):=by rw[IntWalk.i64_in _ (by omega)];omega
   have aT:(l.drop a).length=n-a:=by rw[List.length_drop,Hn.o]
   have hst:=Nf.AH (bs:=20) (l:=l.drop a) (by omega) (by omega);have hdd:(l.drop a).drop 20=l.drop b:=by rw[List.drop_drop,Hb.o]
   have jy:((l.drop a).take 20).length=20:=by rw[List.length_take];omega
   have hsp:(l.drop a).take 20++l.drop b=l.drop a:=by rw[←hdd,List.take_append_drop]
   have bh:(l.drop b).length=n-b:=by rw[List.length_drop,Hn.o]
   rw[hdd] at hst;have HC:=ap (PF.o P ((l.drop a).take 20) (l.drop b) n a b wr (by rw[hsp];exact HI.o) (by rw[HP.o,jy,bh];omega) HP.o.symm (by rw[HP.o,jy];omega) hs);have bc:=ap (show (P++Nf.az ((l.drop a).take 20))++Nf.blk 20 (l.drop b)=Nf.blk 20 l by rw[←HE.o,hst,List.append_assoc]);have HL:=ap (show (P++Nf.az ((l.drop a).take 20)).length=b by rw[List.length_append,Nf.jC,jy,HP.o,Hb.o]);clear hb aT hst hdd jy hsp bh
   go_wp2_with fail
   refine HC.o.mono ?_;rintro e w2 ⟨rfl,bF,af⟩;have dF:=ap bF;have ag:=ap af;clear bF af;go_wp2
   go_roundg (n-b)
   case measure=>have:=Hg.o;have:=Hb.o;omega
   case rel=>exact⟨b,_,rfl,hlt,rfl,by first|rfl|go_num,HL.o,dF.o.as (by simp),bc.o,HB.o.trans ag.o⟩
  have aT:(l.drop a).length=n-a:=by rw[List.length_drop,Hn.o]
  have dg:¬((a:Int)+20≤(n:Int)):=by omega
  have HC:=ap (PF.o P (l.drop a) [] n a n wr (HI.o.as (by simp)) (by rw[HP.o,aT];simp;omega) HP.o.symm (by rw[HP.o,aT];omega) hs);have bc:=ap (show P++(Nf.az (l.drop a)++[])=Nf.blk 20 l by rw[←HE.o,Nf.sZ (by omega),List.append_nil]);clear aT
  go_wp2_with fail
  refine HC.o.mono ?_;rintro e w2 ⟨rfl,bF,af⟩;rw[bc.o] at bF;have dF:=ap bF;have ag:=ap (HB.o.trans af);clear bF af bc HC HE HI HP;go_wp2
  go_loopg [6,7,8,9] (n+1) (fun gk vs va vb vm wq=>∃(bs:Nat),n+1-bs≤gk∧0<bs∧bs≤2*n+20∧vs=.int .i64 (bs:Int)∧aV wq g off pre post (Nf.blk bs l)∧ai g w wq)
  case atStart=>exact⟨20,by omega,by omega,by omega,rfl,dF.o,ag.o⟩
  case round=>
   obtain⟨bs,au,dA,aN,rfl,hr,bw⟩:=hrel;have Hg:=ap au;have HI:=ap hr;have aw:=ap bw;clear au hr bw dF ag
   by_cases kG:bs<n
   ·obtain⟨b2,af⟩:∃b2,2*bs=b2:=⟨_,rfl⟩;have iL:=ap af;have z2:IntKind.i64.wrap (2*(bs:Int))=(b2:Int):=by rw[IntWalk.i64_in _ (by omega)];omega
    have z3:IntKind.i64.wrap ((bs:Int)*2)=(b2:Int):=by rw[IntWalk.i64_in _ (by omega)];omega
    have Uj:b2≤2000000000:=by omega
    have Lm:0<b2:=by omega
    clear af;go_wp2
    go_loopg [7,8] n (fun gj va vb wj=>∃(a:Nat) (P:List Int),gj=n-a∧a≤n∧va=.int .i64 (a:Int)∧vb=.int .i64 ((a+b2:Nat):Int)∧P.length=a∧aV wj g off pre post (P++Nf.blk bs (l.drop a))∧P++Nf.blk b2 (l.drop a)=Nf.blk b2 l∧ai g w wj)
    case atStart=>exact⟨0,[],rfl,by omega,rfl,by first|rfl|go_num | (congr 1;omega),rfl,by simpa using HI.o,by simp,aw.o⟩
    case round=>
     obtain⟨a,P,tO,Ue,rfl,rfl,hP,hr,he,bw⟩:=hrel;have sN:=ap tO;have HP:=ap hP;have je:=ap hr;have HE:=ap he;have bW:=ap bw;clear tO hP hr he bw;have zab:IntKind.i64.wrap ((a:Int)+(bs:Int))=((a+bs:Nat):Int):=by rw[IntWalk.i64_in _ (by omega)];omega
     obtain⟨m,hm⟩:∃m,a+bs=m:=⟨_,rfl⟩;obtain⟨b,hb⟩:∃b,a+b2=b:=⟨_,rfl⟩;rw[hm] at zab;rw[hb];have Hm:=ap hm;have Hb:=ap hb;have aT:(l.drop a).length=n-a:=by rw[List.length_drop,Hn.o]
     by_cases afP:b≤n
     ·have zb:IntKind.i64.wrap ((b:Int)+(b2:Int))=((b+b2:Nat):Int):=by rw[IntWalk.i64_in _ (by omega)];omega
      have hst:=Nf.AH (bs:=bs) (l:=l.drop a) dA (by have:=iL.o;omega);have hdd:(l.drop a).drop bs=l.drop m:=by rw[List.drop_drop,Hm.o]
      rw[hdd] at hst;have jt:(l.drop m).length=n-m:=by rw[List.length_drop,Hn.o]
      have wH:=Nf.AH (bs:=bs) (l:=l.drop m) dA (by have:=iL.o;omega);have Ut:(l.drop m).drop bs=l.drop b:=by rw[List.drop_drop];congr 1;have:=iL.o;omega
      rw[Ut] at wH;have yD:=Nf.AH (bs:=b2) (l:=l.drop a) Lm (by omega);have Uu:(l.drop a).drop b2=l.drop b:=by rw[List.drop_drop,Hb.o]
      rw[Uu] at yD;have oP:(l.drop a).take bs++(l.drop m).take bs=(l.drop a).take b2:=by rw[←hdd,Nf.amC];congr 1;have:=iL.o;omega
      have l1:(Nf.az ((l.drop a).take bs)).length=bs:=by rw[Nf.jC,List.length_take];have:=iL.o;omega
      have l2:(Nf.az ((l.drop m).take bs)).length=bs:=by rw[Nf.jC,List.length_take,jt];have:=iL.o;omega
      have l3:(Nf.blk bs (l.drop b)).length=n-b:=by rw[Nf.RQ,List.length_drop,Hn.o]
      have HC:=ap (PT.o P (Nf.az ((l.drop a).take bs)) (Nf.az ((l.drop m).take bs)) (Nf.blk bs (l.drop b)) n a m b wr (je.o.as (by rw[hst,wH])) (by rw[HP.o,l1,l2,l3];have:=iL.o;omega) HP.o.symm (by rw[HP.o,l1];omega) (by rw[HP.o,l1,l2];have:=iL.o;omega) (by omega) (by omega) (Nat.le_refl _) (Nf.po _) (Nf.po _) hs);rw[Nf.Yh,oP] at HC;have bc:=ap (show (P++Nf.az ((l.drop a).take b2))++Nf.blk b2 (l.drop b)=Nf.blk b2 l by rw[←HE.o,yD,List.append_assoc]);have HL:=ap (show (P++Nf.az ((l.drop a).take b2)).length=b by rw[List.length_append,Nf.jC,List.length_take,HP.o];omega);clear hm hb aT hst hdd jt wH Ut yD Uu oP l1 l2 l3
      go_wp2_with fail
      refine HC.o.mono ?_;rintro e w2 ⟨rfl,bF,af⟩;have dF:=ap bF;have iI:=ap (bW.o.trans af);clear bF af;go_wp2
      go_roundg (n-b)
      case measure=>have:=sN.o;have:=Hb.o;omega
      case rel=>exact⟨b,_,rfl,afP,rfl,by first|rfl|go_num,HL.o,dF.o.as (by simp),bc.o,iI.o⟩
     have ao3:¬((a:Int)+(b2:Int)≤(n:Int)):=by omega
     by_cases wC:m<n
     ·have hst:=Nf.AH (bs:=bs) (l:=l.drop a) dA (by omega);have hdd:(l.drop a).drop bs=l.drop m:=by rw[List.drop_drop,Hm.o]
      rw[hdd] at hst;have jt:(l.drop m).length=n-m:=by rw[List.length_drop,Hn.o]
      have wH:=Nf.sZ (bs:=bs) (l:=l.drop m) (by have:=iL.o;omega);have yD:=Nf.sZ (bs:=b2) (l:=l.drop a) (by omega);have oP:(l.drop a).take bs++l.drop m=l.drop a:=by rw[←hdd,List.take_append_drop]
      have l1:(Nf.az ((l.drop a).take bs)).length=bs:=by rw[Nf.jC,List.length_take];have:=iL.o;omega
      have l2:(Nf.az (l.drop m)).length=n-m:=by rw[Nf.jC,jt]
      have HC:=ap (PT.o P (Nf.az ((l.drop a).take bs)) (Nf.az (l.drop m)) [] n a m n wr (je.o.as (by rw[hst,wH,List.append_nil])) (by rw[HP.o,l1,l2];simp;omega) HP.o.symm (by rw[HP.o,l1];omega) (by rw[HP.o,l1,l2];omega) (by omega) (by omega) (Nat.le_refl _) (Nf.po _) (Nf.po _) hs);rw[Nf.Yh,oP] at HC;have bc:=ap (show P++(Nf.az (l.drop a)++[])=Nf.blk b2 l by rw[←HE.o,yD,List.append_nil]);clear hm hb aT hst hdd jt wH yD oP l1 l2
      go_wp2_with fail
      refine HC.o.mono ?_;rintro e w2 ⟨rfl,bF,af⟩;rw[bc.o] at bF;have dF:=ap bF;have iI:=ap (bW.o.trans af);clear bF af;go_wp2
      go_roundg (n+1-b2)
      case measure=>have:=Hg.o;have:=iL.o;omega
      case rel=>exact⟨b2,by omega,Lm,by have:=iL.o;omega,rfl,dF.o,iI.o⟩
     have bc:=ap (show P++Nf.blk bs (l.drop a)=Nf.blk b2 l by rw[←HE.o,Nf.sZ (bs:=bs) (by omega),Nf.sZ (bs:=b2) (by omega)]);clear hm hb aT;go_wp2
     go_roundg (n+1-b2)
     case measure=>have:=Hg.o;have:=iL.o;omega
     case rel=>exact⟨b2,by omega,Lm,by have:=iL.o;omega,rfl,je.o.as bc.o,bW.o⟩
   go_wp2;go_end0;exact⟨rfl,HI.o.as (Nf.sZ (by rw[←Hn.o];omega)),aw.o⟩
theorem alD(l:List Int)(pre post:List Value)(g off cap n:Nat)(w:World)(h:aV w g off pre post l)(hn:n=l.length)(hs:n≤1000000000) :
  Calls Tryz.prog 186 #[.slice (some ⟨g,off,none⟩) n cap,.func (.func 187) #[] #[]] w fun e w'=>e=.returned (.tuple #[])∧aV w' g off pre post (Nf.az l)∧ai g w w':=by
 have HS:=ap (al1 l pre post g off cap n w h hn hs);clear h hn
 go_enter Tryz.func186,Tryz.ntmps186
 go_wp2_with fail
 refine HS.o.mono ?_;rintro e w2 ⟨rfl,bF,af⟩;have dF:=ap bF;have ag:=ap af;clear bF af;go_wp2;go_end0;exact⟨rfl,dF.o,ag.o⟩
end
section
open Go.RowKit

def akr{α:Type}(B:Nat)(Kp:World→World→Prop)(I:List α→World→Prop)(xs:List α)(W:World):Exit→Act→World→Prop
 | .normal,_,W'=>KeepsFrom B W W'∧Kp W W'∧I xs W'
 | _,_,_=>False

def uB{α:Type}(Fr:World→World→Prop)(F:Fence)(n:Nat)(P:Program)(g:Nat)(lb:Array Value)(oC:α→Array Value)(Kp:World→World→Prop)(Fact:α→World→Prop)(S:List α→Prop)(N:Nat)(W:World):Prop :=
 ∀(l:Nat) (J:List α→World→Prop),(∀s A B,J s A→Fr A B→J s B)→J [] W→
  (∀pre x W1,J pre W1→Fact x W1→pre.length<N→YieldAt F (n-1) P l (oC x) W1 fun e W'=>e=.returned (.bool true)∧J (pre++[x]) W'∧Kp W1 W')→
  CallsIn F n P g (#[.func (.yield l) #[] #[]]++lb) W fun e W'=>(∃v,e=.returned v)∧∃xs,S xs∧J xs W'

theorem Nv{α:Type}{Fr:World→World→Prop}{F:Fence}{n:Nat}{P:Program}{g:Operand}{ps:Array Tmp}{assign body:Code}{Q:Exit→Act→World→Prop}{a:Act}{w:World}(hR:∀A B,Fr A B→∀k,w.heap.size≤k→k<A.heap.size→B.heap[k]?=A.heap[k]?)
  (hro:F.round=none) (h1:1≤n) {gf:Nat} {lb:Array Value} (hg:a.eval g=.func (.func gf) #[] lb) (KR:F.fn gf) (eg:∀args w,(callFunc gf args).run P w=.ok (.enter gf args) w)
  {oC:α→Array Value} {Kp:World→World→Prop} {Fact:α→World→Prop} {S:List α→Prop} {N:Nat} (cP:∀x,(oC x).size=ps.size)
  (Mf:∀o o',uB Fr F (n-1) P gf lb oC Kp Fact S N ((w.alloc o).alloc o'))
  (yd:∀{A B C:World},Kp A B→Kp B C→Kp A C) (vP:∀(W:World) (o o':Obj),W.heap[w.heap.size+1]?=some o'→o'.isCells=false→Kp W (W.putObj (w.heap.size+1) o))
  (I:List α→World→Prop) (KU:∀s W o o',I s W→W.heap[w.heap.size+1]?=some o'→o'.isCells=false→I s (W.putObj (w.heap.size+1) o)) (pO:∀s A B,I s A→Fr A B→I s B)
  (hF:∀x W o,Fact x W→Fact x (W.putObj (w.heap.size+1) o)) (h0:∀o o',I [] ((w.alloc o).alloc o')) (a₁:α→Act)
  (Ll:∀(l:Nat) (x:α) (W:World) (K:Act→World→Prop),K (a₁ x) W→
   assign.wpIn (F.inRound l) (n-1-1) P (Exit.then K (fun _ _ _=>False)) { tmps:=(ps.zip (oC x)).foldl (fun t (p,v)=>t.setIfInBounds p v) a.tmps,defers:=[] } W)
  (Lq:∀(l:Nat) (pre:List α) (x:α) (W:World),I pre W→Fact x W→pre.length<N→w.heap.size+2≤W.heap.size→body.wpIn (F.inRound l) (n-1-1) P (akr w.heap.size Kp I (pre++[x]) W) (a₁ x) W)
  (hdone:∀(D:Nat) (xs:List α) (W:World),D=w.heap.size→S xs→I xs W→W.heap[D]?=some (.deferred (some []))→Q .normal { a with defers:={ target:=.collected D,args:=#[] } :: a.defers } W) :
  (Code.rangeFunc g ps assign body).wpIn F n P Q a w:=by
 refine wpIn_rangeFunc fun fn wk=>?_;rw[hro]
 let D:=w.heap.size
 let r0:Loop:={ state:=.ready,pending:=none,fn,tmps:=a.tmps,params:=ps,assign,body,defers:=D }
 let r1:Loop:={ state:=.busy,pending:=none,fn,tmps:=a.tmps,params:=ps,assign,body,defers:=D }
 let W0:=(w.alloc (.deferred (some []))).alloc (.loop r0)
 have hsz:W0.heap.size=D+2:=by show ((w.alloc _).alloc _).heap.size=_;simp[D]
 have nG:W0.heap[D+1]?=some (.loop r0):=by
  have:=World.alloc_heap_new (w.alloc (.deferred (some []))) (.loop r0);rwa[World.size_alloc] at this
 have oM:W0.heap[D]?=some (.deferred (some [])):=(Below.heap_alloc _ _ _ (by simp[D])).trans (World.alloc_heap_new w _)
 refine⟨D+1,[{ target:=.collected D,args:=#[] }],W0,{ target:=.fn (.func gf) lb,args:=#[.func (.yield (D+1)) #[] #[]] },W0,gf,#[.func (.yield (D+1)) #[] #[]]++lb,W0,
  run_enterLoop_outer _ _ _ _ _,by simp only[resolve,hg];simp[go_sem],fun f' wh=>by simp[Target.leads] at wh;subst wh;exact KR,by simp[invoke,go_sem,eg],fun _=>h1,?_⟩
 have VW:∀{A B:World} {k:Nat} {o:Obj},Fr A B→A.heap[k]?=some o→D≤k→B.heap[k]?=some o:=fun hb hk hlt=>
  (hR _ _ hb _ hlt (Array.getElem?_eq_some_iff.1 hk).1).trans hk
 refine (Mf _ _ (D+1) (fun pre W=>I pre W∧W.heap[D+1]?=some (.loop r0)∧W.heap[D]?=some (.deferred (some [])))
  (fun s A B h hb=>⟨pO s A B h.1 hb,VW hb h.2.1 (by omega),VW hb h.2.2 (Nat.le_refl _)⟩) ⟨h0 _ _,nG,oM⟩ ?_).mono ?_
 ·rintro pre x W ⟨hi,hl,hd⟩ hf hlen;have hlt:D+1<W.heap.size:=(Array.getElem?_eq_some_iff.1 hl).1;have hy:=run_yield (P:=P) (args:=oC x) hl (cP x);refine⟨fn,_,assign,body,hy,roundIn_of_wpIn wk (Ll _ x W _ ⟨_,run_beginRound hl rfl,?_⟩)⟩;have gC:(W.putObj (D+1) (.loop r1)).heap[D+1]?=some (.loop r1):=World.putObj_heap_same hlt;have bJ:(W.putObj (D+1) (.loop r1)).heap[D]?=some (.deferred (some [])):=(World.putObj_heap_other (by omega)).trans hd;refine wpIn_mono (Lq _ pre x _ (KU _ _ _ _ hi hl rfl) (hF _ _ _ hf) hlen (by show D+2≤(W.heap.setIfInBounds _ _).size;rw[Array.size_setIfInBounds];omega)) ?_;rintro e a3 W3 hp
  cases e with
  | normal=>
   obtain⟨aI,jJ,pT⟩:=hp;have e8:=aI.same _ _ (by omega) gC rfl;have gR:=aI.same _ _ (Nat.le_refl _) bJ rfl;have kG:=(Array.getElem?_eq_some_iff.1 e8).1;have he:=run_endRound (P:=P) none e8;exact⟨_,_,he,rfl,⟨KU _ _ _ _ pT e8 rfl,World.putObj_heap_same kG,(World.putObj_heap_other (by omega)).trans gR⟩,yd (yd (vP _ _ _ hl rfl) jJ) (vP _ _ _ e8 rfl)⟩
  | ret=>exact hp.elim
  | exit id=>exact hp.elim
  | goto t=>exact hp.elim
  | panic ch=>exact hp.elim
  | outgrown=>exact hp.elim
 rintro e W2 ⟨⟨v,rfl⟩,xs,hS,hi,hl,hd⟩;have hlt:=(Array.getElem?_eq_some_iff.1 hl).1;exact⟨none,_,run_endLoop (P:=P) hl (by simp[r0]),hdone D xs _ rfl hS (KU _ _ _ _ hi hl rfl) ((World.putObj_heap_other (by omega)).trans hd)⟩
end
end Go.Proofs.YtpdkeckeekchlaaGreatDoor
