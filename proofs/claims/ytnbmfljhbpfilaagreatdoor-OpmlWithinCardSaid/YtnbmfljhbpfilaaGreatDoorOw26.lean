/- NFC: slices.symMergeCmpFunc by classes: the general case. Printed by genNfM.py. And more. -/
import Derived.Test.YtnbmfljhbpfilaaGreatDoorOw03
import Derived.Test.YtnbmfljhbpfilaaGreatDoorOw25
import Derived.Deep.DeepCutAuto
import Derived.RangeFuncNested
set_option linter.unusedSimpArgs false
set_option maxRecDepth 100000
set_option maxHeartbeats 16000000
set_option linter.unusedVariables false
namespace Go.Proofs.YtnbmfljhbpfilaaGreatDoor
section
open Go.RowKit Go.WideShapes

namespace Nf
theorem XO{u v:List Int}(h:Up u)(k:Up v)(e:u=[]∨v=[]):aA (u++v)=u++v:=by
 rcases e with rfl|rfl
 ·exact Nk k
 rw[List.append_nil];exact Nk h
theorem akV{u1 u2 v1 v2:List Int}(hu:Up (u1++u2))(hv:Up (v1++v2))(h1:∀x∈u2,∀y∈v1,cls y<cls x)(h2:∀x∈u1,∀y∈v2,cls x≤cls y):aA (u1++v1)++aA (u2++v2)=aA ((u1++u2)++(v1++v2)):=by
 refine Cm ?_ ?_
 ·refine Up.app (oI _) (oI _) ?_;intro x hx y hy;rw[(pK _).mem] at hx hy
  rcases List.mem_append.1 hx with hx|hx<;>rcases List.mem_append.1 hy with hy|hy
  ·exact hu.DG hx hy
  ·exact h2 x hx y hy
  ·exact Int.le_of_lt (h1 y hy x hx)
  exact hv.DG hx hy
 have e1:(u1++u2)++(v1++v2)=u1++((u2++v1)++v2):=by simp
 have e2:(u1++v1)++(u2++v2)=u1++((v1++u2)++v2):=by simp
 have k1:b8 ((u1++u2)++(v1++v2)) ((u1++v1)++(u2++v2)):=by
  rw[e1,e2];exact (b8.refl _).app ((M0 (fun x hx y hy=>by have:=h1 x hx y hy;omega)).app (b8.refl _))
 exact k1.trans ((pK _).app (pK _))
end Nf
def QH(N:Nat):Prop:=∀(A u v B:List Int) (pre post:List Value) (g off cap n a m b:Nat) (w:World),aS w g off pre post (A++(u++(v++B)))→n=A.length+u.length+v.length+B.length→
  a=A.length→m=A.length+u.length→b=A.length+u.length+v.length→0<u.length→0<v.length→u.length+v.length≤N→Nf.Up u→Nf.Up v→n≤1000000000→
  Calls Tryz.prog 204 #[.slice (some ⟨g,off,none⟩) n cap,.int .i64 a,.int .i64 m,.int .i64 b,.func (.func 177) #[] #[]] w fun e w'=>e=.returned (.tuple #[])∧aS w' g off pre post (A++(Nf.aA (u++v)++B))∧ag g w w'
structure Jd(u v:List Int)(a m nn lo hi st r:Nat):Prop where
 lo_:lo≤st
 le:st≤r
 hi_:r≤hi
 left:st=lo∨∃x y,u[st-1-a]?=some x∧v[nn-st-m]?=some y∧Nf.cls x≤Nf.cls y
 right:r=hi∨∃x y,u[r-a]?=some x∧v[nn-1-r-m]?=some y∧Nf.cls y<Nf.cls x
theorem VW{l:List Int}{k:Nat}{z:Int}(h:z∈l.take k):∃i,i<k∧l[i]?=some z:=by
 obtain⟨i,hi,e⟩:=List.mem_take_iff_getElem.1 h;exact⟨i,by omega,List.getElem?_eq_some_iff.2 ⟨_,e⟩⟩
theorem VV{l:List Int}{k:Nat}{z:Int}(h:z∈l.drop k):∃i,k≤i∧l[i]?=some z:=by
 obtain⟨i,hi,e⟩:=List.mem_drop_iff_getElem.1 h;exact⟨k+i,by omega,List.getElem?_eq_some_iff.2 ⟨_,e⟩⟩
theorem Jd.done{u v:List Int}{a m b nn mid lo hi st:Nat}(h:Jd u v a m nn lo hi st st)(hu:Nf.Up u)(hv:Nf.Up v)(hm:m=a+u.length)(hb:b=m+v.length)(xV:mid=(a+b) / 2)(bz:nn=mid+m)
  (mZ:mid<m∧lo=nn-b∧hi=mid∨m≤mid∧lo=a∧hi=m) :
  (∀x∈u.drop (st-a),∀y∈v.take (nn-st-m),Nf.cls y<Nf.cls x)∧∀x∈u.take (st-a),∀y∈v.drop (nn-st-m),Nf.cls x≤Nf.cls y:=by
 obtain⟨l0,_,l1,hl,hr⟩:=h
 constructor
 ·intro x hx y hy;obtain⟨i,cE,ei⟩:=VV hx;obtain⟨j,vx,ej⟩:=VW hy;have:=(List.getElem?_eq_some_iff.1 ei).1;clear hl
  rcases hr with e|⟨x0,y0,ex,ey,hc⟩
  ·omega
  have h1:=hu.at_ ex ei cE;have h2:=hv.at_ ej ey (by omega);omega
 intro x hx y hy;obtain⟨i,cE,ei⟩:=VW hx;obtain⟨j,vx,ej⟩:=VV hy;have:=(List.getElem?_eq_some_iff.1 ej).1;clear hr
 rcases hl with e|⟨x0,y0,ex,ey,hc⟩
 ·omega
 have h1:=hu.at_ ei ex (by omega);have h2:=hv.at_ ey ej vx;omega
theorem alh{a b m mid nn p rj lo hi:Nat}(xV:mid=(a+b) / 2)(bz:nn=mid+m)(hp:nn-1=p)(h0:nn-b=rj)(Ar:a+1<m)(ji:m+1<b)(mZ:mid<m∧lo=rj∧hi=mid∨m≤mid∧lo=a∧hi=m) :
  (a≤lo∧hi≤m∧lo≤hi)∧∀c,lo≤c→c<hi→c<p∧m≤p-c∧p-c<b:=by
 rcases mZ with ⟨h1,h2,h3⟩|⟨h1,h2,h3⟩
 ·exact⟨⟨by omega,by omega,by omega⟩,fun c h4 h5=>by omega⟩
 exact⟨⟨by omega,by omega,by omega⟩,fun c h4 h5=>by omega⟩
theorem alg{a b m mid nn rj lo hi st en:Nat}(xV:mid=(a+b) / 2)(bz:nn=mid+m)(h0:nn-b=rj)(Ar:a+1<m)(ji:m+1<b)(mZ:mid<m∧lo=rj∧hi=mid∨m≤mid∧lo=a∧hi=m)(h1:lo≤st)(h2:st≤hi)(he:nn-st=en) :
  (a≤st∧st≤m)∧(m≤en∧en≤b)∧en+st=mid+m:=by
 rcases mZ with ⟨h3,h4,h5⟩|⟨h3,h4,h5⟩
 ·exact⟨⟨by omega,by omega⟩,⟨by omega,by omega⟩,by omega⟩
 exact⟨⟨by omega,by omega⟩,⟨by omega,by omega⟩,by omega⟩
theorem alH(N:Nat)(Te:QH N)(A u v B:List Int)(pre post:List Value)(g off cap n a m b:Nat)(w:World)(h:aS w g off pre post (A++(u++(v++B))))(hn:n=A.length+u.length+v.length+B.length)
  (ha:a=A.length) (hm:m=A.length+u.length) (hb:b=A.length+u.length+v.length) (hu:1<u.length) (hv:1<v.length) (hN:u.length+v.length≤N+1) (gZ:Nf.Up u) (hvp:Nf.Up v) (hs:n≤1000000000) :
  Calls Tryz.prog 204 #[.slice (some ⟨g,off,none⟩) n cap,.int .i64 a,.int .i64 m,.int .i64 b,.func (.func 177) #[] #[]] w fun e w'=>e=.returned (.tuple #[])∧aS w' g off pre post (A++(Nf.aA (u++v)++B))∧ag g w w':=by
 have HR:=hide h;have Pj:=hide Te;have Hn:=hide hn;have Ha:=hide ha;have Hm:=hide hm;have Hb:=hide hb;have HU:=hide gZ;have HV:=hide hvp;have HN:=hide hN;have uZ:b≤n:=by omega
 have Ar:a+1<m:=by omega
 have ji:m+1<b:=by omega
 have HC:=hide (fun x y W=>Dy x y W);obtain⟨lu,AY⟩:∃lu,u.length=lu:=⟨_,rfl⟩;obtain⟨lv,ko⟩:∃lv,v.length=lv:=⟨_,rfl⟩;have Hlu:=hide AY;have Hlv:=hide ko;have z0:IntKind.i64.wrap ((m:Int)-(a:Int))=(lu:Int):=by rw[IntWalk.i64_in _ (by omega)];omega
 have afu:((lu:Int)==1)=false:=by
  have:¬(lu:Int)=1:=by omega
  simpa using this
 have z00:IntKind.i64.wrap ((b:Int)-(m:Int))=(lv:Int):=by rw[IntWalk.i64_in _ (by omega)];omega
 have aox:((lv:Int)==1)=false:=by
  have:¬(lv:Int)=1:=by omega
  simpa using this
 obtain⟨mid,xV⟩:∃mid,mid=(a+b) / 2:=⟨_,rfl⟩;have Iu:=hide xV;have z1:((a:Int)+(b:Int)) / 2=(mid:Int):=by omega
 obtain⟨nn,bz⟩:∃nn,nn=mid+m:=⟨_,rfl⟩;have Qq:=hide bz;have z2:IntKind.i64.wrap ((mid:Int)+(m:Int))=(nn:Int):=by rw[IntWalk.i64_in _ (by omega)];omega
 have z3:IntKind.i64.wrap ((nn:Int)-1)=((nn-1:Nat):Int):=by rw[IntWalk.i64_in _ (by omega)];omega
 obtain⟨p,hp⟩:∃p,nn-1=p:=⟨_,rfl⟩;rw[hp] at z3;have Hp:=hide hp;obtain⟨rj,Lg⟩:∃p,nn-b=p:=⟨_,rfl⟩;have Z4:=hide (show mid<m→IntKind.i64.wrap ((nn:Int)-(b:Int))=(rj:Int) from fun h=>by rw[IntWalk.i64_in _ (by omega)];omega);have aoC:a<mid∧mid<b:=by omega
 obtain⟨lo,hi,mZ⟩:∃lo hi,mid<m∧lo=rj∧hi=mid∨m≤mid∧lo=a∧hi=m:=by
  by_cases h:mid<m
  ·exact⟨rj,mid,.inl ⟨h,rfl,rfl⟩⟩
  exact⟨a,m,.inr ⟨by omega,rfl,rfl⟩⟩
 have zz:=hide mZ;obtain⟨⟨fW,sX,Uu⟩,hrg⟩:=alh xV bz hp Lg Ar ji mZ;have HRg:=hide hrg;clear hrg;have Ql:=hide Lg;clear h hn ha hm hb hu gZ hvp hv hN AY ko xV bz hp Lg Te
 go_enter Tryz.func204,Tryz.ntmps204
 go_upto_if 140 with fail
 go_cut [20,21] (fun s r wx=>s=.int .i64 (lo:Int)∧r=.int .i64 (hi:Int)∧wx=w)
 case first=>
  rcases mZ with ⟨h1,rfl,rfl⟩|⟨h1,rfl,rfl⟩
  ·have z4:=Z4.out h1;go_wp2
   go_meet
   exact⟨rfl,rfl,rfl⟩
  go_wp2
  go_meet
  exact⟨rfl,rfl,rfl⟩
 case rest=>
  obtain⟨rfl,rfl,hwc⟩:=hcut;have hwc:=hwc.symm;subst hwc;clear mZ;go_wp2
  go_loopg [20,21] (hi-lo) (fun gk vs vr wr=>∃(st r:Nat),gk=r-st∧vs=.int .i64 (st:Int)∧vr=.int .i64 (r:Int)∧Jd u v a m nn lo hi st r∧aS wr g off pre post (A++(u++(v++B)))∧ag g w wr)
  case atStart=>exact⟨lo,hi,rfl,rfl,rfl,⟨Nat.le_refl _,Uu,Nat.le_refl _,.inl rfl,.inl rfl⟩,HR.out,ag.refl _ _⟩
  case round=>
   obtain⟨st,r,au,rfl,rfl,fC,hr,bu⟩:=hrel;have Hg:=hide au;have HI:=hide hr;have HB:=hide bu;have HS:=hide fC;have Lh:=fC.lo_;have ao0:=fC.le;have Lz:=fC.hi_;clear au hr bu fC
   by_cases hlt:st<r
   ·have om:IntKind.i64.wrap ((st:Int)+(r:Int))=((st+r:Nat):Int):=by rw[IntWalk.i64_in _ (by omega)];omega
    obtain⟨d,hd⟩:∃d,(st+r) / 2=d:=⟨_,rfl⟩;have T9:((st:Int)+(r:Int)) / 2=(d:Int):=by omega
    have hid:st≤d:=by omega
    have TX:d<r:=by omega
    obtain⟨g1,g2,g3⟩:=HRg.out d (by omega) (by omega);have xK:d<n:=by omega
    obtain⟨pd,Lq⟩:∃pd,p-d=pd:=⟨_,rfl⟩;have zpd:IntKind.i64.wrap ((p:Int)-(d:Int))=(pd:Int):=by rw[IntWalk.i64_in _ (by omega)];omega
    rw[Lq] at g2 g3;have aoR:pd<n:=by omega
    obtain⟨x,hx⟩:∃x,u[d-a]?=some x:=⟨_,List.getElem?_eq_getElem (by have:=Hm.out;have:=Ha.out;omega)⟩;obtain⟨y,hy⟩:∃y,v[pd-m]?=some y:=⟨_,List.getElem?_eq_getElem (by have:=Hm.out;have:=Hb.out;omega)⟩;have c1:wr.cell? ⟨g,off+d,none⟩=some (.int .i64 x):=HI.out.at_ (by rw[List.getElem?_append_right (by have:=Ha.out;omega),←Ha.out,List.getElem?_append_left (List.getElem?_eq_some_iff.1 hx).1];exact hx);have c2:wr.cell? ⟨g,off+pd,none⟩=some (.int .i64 y):=HI.out.at_ (by rw[List.getElem?_append_right (by have:=Hm.out;omega),List.getElem?_append_right (by have:=Hm.out;omega),show pd-A.length-u.length=pd-m by have:=Hm.out;omega,List.getElem?_append_left (List.getElem?_eq_some_iff.1 hy).1];exact hy);obtain⟨q,hq⟩:∃q,Nf.cls y-Nf.cls x=q:=⟨_,rfl⟩;have dT:=hide (fun W=>HC.out y x W);rw[hq] at dT;have Hq:=hide hq;have Hx:=hide hx;have Hy:=hide hy;have Qr:=hide Lq;clear hq hx hy hd om Lq
    by_cases hc:q<0
    ·have gD:decide (q<0)=true:=decide_eq_true hc
     go_wp2_with fail
     go_quiet ((go_at_call 177;refine Calls.quiet_of_same (dT.out _)))
     have eh:=hide (show ag g w (wr.drewN nq) from⟨HB.out.os,HB.out.tape,HB.out.output,HB.out.size,HB.out.block⟩);have fc:=hide (HI.out.drewN nq);generalize wr.drewN nq=W at fc eh ⊢;clear c1 c2;go_wp2
     go_roundg (d-st)
     case measure=>have:=Hg.out;omega
     case rel=>
      refine⟨st,d,rfl,rfl,rfl,⟨Lh,hid,by omega,HS.out.left,.inr ⟨x,y,Hx.out,?_,by have:=Hq.out;omega⟩⟩,fc.out,eh.out⟩;rw[show nn-1-d-m=pd-m by have:=Qr.out;have:=Hp.out;omega];exact Hy.out
    have gD:decide (q<0)=false:=decide_eq_false hc;have zd:IntKind.i64.wrap ((d:Int)+1)=((d+1:Nat):Int):=by rw[IntWalk.i64_in _ (by omega)];omega
    go_wp2_with fail
    go_quiet ((go_at_call 177;refine Calls.quiet_of_same (dT.out _)))
    have eh:=hide (show ag g w (wr.drewN nq) from⟨HB.out.os,HB.out.tape,HB.out.output,HB.out.size,HB.out.block⟩);have fc:=hide (HI.out.drewN nq);generalize wr.drewN nq=W at fc eh ⊢;clear c1 c2;go_wp2
    go_roundg (r-(d+1))
    case measure=>have:=Hg.out;omega
    case rel=>
     refine⟨d+1,r,rfl,by first|rfl|go_num,rfl,⟨by omega,by omega,Lz,.inr ⟨x,y,?_,?_,by have:=Hq.out;omega⟩,HS.out.right⟩,fc.out,eh.out⟩
     ·rw[Nat.add_sub_cancel];exact Hx.out
     rw[show nn-(d+1)-m=pd-m by have:=Qr.out;have:=Hp.out;omega];exact Hy.out
   have et:r=st:=by omega
   subst et;have E3:=HS.out.done (b:=b) (mid:=mid) HU.out HV.out (by have:=Hm.out;have:=Ha.out;omega) (by have:=Hm.out;have:=Hb.out;omega) Iu.out Qq.out (by have:=zz.out;have:=Ql.out;omega);obtain⟨en,hen⟩:∃en,nn-r=en:=⟨_,rfl⟩;obtain⟨⟨k1,k2⟩,⟨k3,k4⟩,k5⟩:=alg Iu.out Qq.out Ql.out Ar ji zz.out Lh Lz hen;rw[show nn-r-m=en-m by rw[hen]] at E3;have dJ:(u.take (r-a)).length=r-a:=by rw[List.length_take];have:=Hm.out;have:=Ha.out;omega
   have bh:(u.drop (r-a)).length=m-r:=by rw[List.length_drop];have:=Hm.out;have:=Ha.out;omega
   have aX:(v.take (en-m)).length=en-m:=by rw[List.length_take];have:=Hm.out;have:=Hb.out;omega
   have cS:(v.drop (en-m)).length=b-en:=by rw[List.length_drop];have:=Hm.out;have:=Hb.out;omega
   have eu:=List.take_append_drop (r-a) u;have ev:=List.take_append_drop (en-m) v;have zt:=HU.out;have zu:=HV.out;rw[←eu] at zt;rw[←ev] at zu;have HF:=hide (Nf.akV zt zu E3.1 E3.2);rw[eu,ev] at HF;have uf:=hide (HI.out.as (show A++(u++(v++B))=A++(u.take (r-a)++(u.drop (r-a)++(v.take (en-m)++(v.drop (en-m)++B)))) by rw[←List.append_assoc (v.take _),ev,←List.append_assoc (u.take _),eu]));have l7:=hide (show (u.take (r-a)).length+(v.take (en-m)).length≤N∧(u.drop (r-a)).length+(v.drop (en-m)).length≤N by rw[dJ,bh,aX,cS];have:=HN.out;have:=Hm.out;have:=Ha.out;have:=Hb.out;have:=Iu.out;omega);generalize u.take (r-a)=u1 at *
   generalize u.drop (r-a)=u2 at *
   generalize v.take (en-m)=v1 at *
   generalize v.drop (en-m)=v2 at *
   have U1:=hide dJ;have U2:=hide bh;have V1:=hide aX;have V2:=hide cS;have zen:IntKind.i64.wrap ((nn:Int)-(r:Int))=(en:Int):=by rw[IntWalk.i64_in _ (by omega)];omega
   have hAn:n=A.length+u1.length+u2.length+v1.length+v2.length+B.length:=by have:=Hn.out;have:=congrArg List.length eu;have:=congrArg List.length ev;rw[List.length_append] at *;omega
   have NT:=zt.left;have NU:=zt.right;have NX:=zu.left;have NY:=zu.right;have CS:=hide (fun (W:World) (h:aS W g off pre post (A++(u1++(u2++(v1++(v2++B)))))) (h1:r<m) (h2:m<en)=>ajV (A++u1) u2 v1 (v2++B) pre post g off cap n r m en (.func (.func 177) #[] #[]) W (h.as (by simp)) (by simp only[List.length_append];omega) (by rw[List.length_append,dJ,←Ha.out];omega) (by rw[List.length_append,dJ,bh,←Ha.out];omega) (by rw[List.length_append,dJ,bh,aX,←Ha.out];omega) (by omega) (by omega) hs);have GS:=hide (fun (W:World) (h:aS W g off pre post (A++(u1++(v1++(u2++(v2++B)))))) (h1:a<r) (h2:r<mid)=>Pj.out A u1 v1 (u2++(v2++B)) pre post g off cap n a r mid W h (by simp only[List.length_append];omega) Ha.out (by rw[dJ,←Ha.out];omega) (by rw[dJ,aX,←Ha.out];omega) (by omega) (by omega) l7.out.1 NT NX hs)
   have G9:=hide (fun (W:World) (h:aS W g off pre post (A++(Nf.aA (u1++v1)++(u2++(v2++B))))) (h1:mid<en) (h2:en<b)=>Pj.out (A++Nf.aA (u1++v1)) u2 v2 B pre post g off cap n mid en b W (h.as (by simp)) (by rw[List.length_append,Nf.js,List.length_append];omega) (by rw[List.length_append,Nf.js,List.length_append,dJ,aX,←Ha.out];omega) (by rw[List.length_append,Nf.js,List.length_append,dJ,aX,bh,←Ha.out];omega) (by rw[List.length_append,Nf.js,List.length_append,dJ,aX,bh,cS,←Ha.out];omega) (by omega) (by omega) l7.out.2 NU NY hs);have S1:=hide (fun (h:u1=[]∨v1=[])=>Nf.XO NT NX h);have S2:=hide (fun (h:u2=[]∨v2=[])=>Nf.XO NU NY h);clear E3 dJ bh aX cS eu ev zt zu hAn NT NU NX NY hen Lh Lz hlt Uu fW sX
   rcases (by omega:r=a∨(a<r∧r<m)∨(a<r∧r=m)) with q1|q1|q1
   ·rcases (by omega:en=m∨(m<en∧en<b)∨(m<en∧en=b)) with q2|q2|q2
    ·exfalso;omega
    ·have d1:(r:Int)<(m:Int):=by omega
     have d2:(m:Int)<(en:Int):=by omega
     have d3:¬(a:Int)<(r:Int):=by omega
     have d4:(r:Int)<(mid:Int):=by omega
     have d5:(mid:Int)<(en:Int):=by omega
     have d6:(en:Int)<(b:Int):=by omega
     have n1:u1=[]:=List.eq_nil_of_length_eq_zero (by have:=U1.out;omega);clear q1 q2
     go_wp2_with fail
     refine (CS.out _ uf.out (by omega) (by omega)).mono ?_;rintro e w1 ⟨rfl,dY,aq⟩;have R1:=hide (dY.as (show _=A++(u1++(v1++(u2++(v2++B)))) by simp));have B1:=hide (HB.out.trans aq);clear dY aq;have R2:=hide (R1.out.as (show _=A++(Nf.aA (u1++v1)++(u2++(v2++B))) by rw[S1.out (by left;exact n1)]<;>simp));have B2:=hide B1.out
     go_wp2_with fail
     refine (G9.out _ R2.out (by omega) (by omega)).mono ?_;rintro e w3 ⟨rfl,ku,aB⟩;have R3:=hide (ku.as (show _=A++(Nf.aA (u1++v1)++(Nf.aA (u2++v2)++B)) by simp));have B3:=hide (B2.out.trans aB);clear ku aB;clear n1;go_wp2;go_end0;exact⟨rfl,R3.out.as (by rw[←HF.out];simp),B3.out⟩
    have d1:(r:Int)<(m:Int):=by omega
    have d2:(m:Int)<(en:Int):=by omega
    have d3:¬(a:Int)<(r:Int):=by omega
    have d4:(r:Int)<(mid:Int):=by omega
    have d5:(mid:Int)<(en:Int):=by omega
    have d6:¬(en:Int)<(b:Int):=by omega
    have n1:u1=[]:=List.eq_nil_of_length_eq_zero (by have:=U1.out;omega);have n4:v2=[]:=List.eq_nil_of_length_eq_zero (by have:=V2.out;omega);clear q1 q2
    go_wp2_with fail
    refine (CS.out _ uf.out (by omega) (by omega)).mono ?_;rintro e w1 ⟨rfl,dY,aq⟩;have R1:=hide (dY.as (show _=A++(u1++(v1++(u2++(v2++B)))) by simp));have B1:=hide (HB.out.trans aq);clear dY aq;have R2:=hide (R1.out.as (show _=A++(Nf.aA (u1++v1)++(u2++(v2++B))) by rw[S1.out (by left;exact n1)]<;>simp));have B2:=hide B1.out;have R3:=hide (R2.out.as (show _=A++(Nf.aA (u1++v1)++(Nf.aA (u2++v2)++B)) by rw[S2.out (by right;exact n4)]<;>simp));have B3:=hide B2.out;clear n1 n4;go_wp2;go_end0;exact⟨rfl,R3.out.as (by rw[←HF.out];simp),B3.out⟩
   ·rcases (by omega:en=m∨(m<en∧en<b)∨(m<en∧en=b)) with q2|q2|q2
    ·have d1:(r:Int)<(m:Int):=by omega
     have d2:¬(m:Int)<(en:Int):=by omega
     have d3:(a:Int)<(r:Int):=by omega
     have d4:¬(r:Int)<(mid:Int):=by omega
     have d5:(mid:Int)<(en:Int):=by omega
     have d6:(en:Int)<(b:Int):=by omega
     have n3:v1=[]:=List.eq_nil_of_length_eq_zero (by have:=V1.out;omega);clear q1 q2;have R1:=hide (uf.out.as (show _=A++(u1++(v1++(u2++(v2++B)))) by rw[n3]<;>simp));have B1:=hide HB.out;have R2:=hide (R1.out.as (show _=A++(Nf.aA (u1++v1)++(u2++(v2++B))) by rw[S1.out (by right;exact n3)]<;>simp));have B2:=hide B1.out
     go_wp2_with fail
     refine (G9.out _ R2.out (by omega) (by omega)).mono ?_;rintro e w3 ⟨rfl,ku,aB⟩;have R3:=hide (ku.as (show _=A++(Nf.aA (u1++v1)++(Nf.aA (u2++v2)++B)) by simp));have B3:=hide (B2.out.trans aB);clear ku aB;clear n3;go_wp2;go_end0;exact⟨rfl,R3.out.as (by rw[←HF.out];simp),B3.out⟩
    ·have d1:(r:Int)<(m:Int):=by omega
     have d2:(m:Int)<(en:Int):=by omega
     have d3:(a:Int)<(r:Int):=by omega
     have d4:(r:Int)<(mid:Int):=by omega
     have d5:(mid:Int)<(en:Int):=by omega
     have d6:(en:Int)<(b:Int):=by omega
     clear q1 q2
     go_wp2_with fail
     refine (CS.out _ uf.out (by omega) (by omega)).mono ?_;rintro e w1 ⟨rfl,dY,aq⟩;have R1:=hide (dY.as (show _=A++(u1++(v1++(u2++(v2++B)))) by simp));have B1:=hide (HB.out.trans aq);clear dY aq
     go_wp2_with fail
     refine (GS.out _ R1.out (by omega) (by omega)).mono ?_;rintro e w2 ⟨rfl,bG,af⟩;have R2:=hide bG;have B2:=hide (B1.out.trans af);clear bG af
     go_wp2_with fail
     refine (G9.out _ R2.out (by omega) (by omega)).mono ?_;rintro e w3 ⟨rfl,ku,aB⟩;have R3:=hide (ku.as (show _=A++(Nf.aA (u1++v1)++(Nf.aA (u2++v2)++B)) by simp));have B3:=hide (B2.out.trans aB);clear ku aB;go_wp2;go_end0;exact⟨rfl,R3.out.as (by rw[←HF.out];simp),B3.out⟩
    have d1:(r:Int)<(m:Int):=by omega
    have d2:(m:Int)<(en:Int):=by omega
    have d3:(a:Int)<(r:Int):=by omega
    have d4:(r:Int)<(mid:Int):=by omega
    have d5:(mid:Int)<(en:Int):=by omega
    have d6:¬(en:Int)<(b:Int):=by omega
    have n4:v2=[]:=List.eq_nil_of_length_eq_zero (by have:=V2.out;omega);clear q1 q2
    go_wp2_with fail
    refine (CS.out _ uf.out (by omega) (by omega)).mono ?_;rintro e w1 ⟨rfl,dY,aq⟩;have R1:=hide (dY.as (show _=A++(u1++(v1++(u2++(v2++B)))) by simp));have B1:=hide (HB.out.trans aq);clear dY aq
    go_wp2_with fail
    refine (GS.out _ R1.out (by omega) (by omega)).mono ?_;rintro e w2 ⟨rfl,bG,af⟩;have R2:=hide bG;have B2:=hide (B1.out.trans af);clear bG af;have R3:=hide (R2.out.as (show _=A++(Nf.aA (u1++v1)++(Nf.aA (u2++v2)++B)) by rw[S2.out (by right;exact n4)]<;>simp));have B3:=hide B2.out;clear n4;go_wp2;go_end0;exact⟨rfl,R3.out.as (by rw[←HF.out];simp),B3.out⟩
   rcases (by omega:en=m∨(m<en∧en<b)∨(m<en∧en=b)) with q2|q2|q2
   ·have d1:¬(r:Int)<(m:Int):=by omega
    have d2:¬(m:Int)<(en:Int):=by omega
    have d3:(a:Int)<(r:Int):=by omega
    have d4:¬(r:Int)<(mid:Int):=by omega
    have d5:¬(mid:Int)<(en:Int):=by omega
    have d6:(en:Int)<(b:Int):=by omega
    have n2:u2=[]:=List.eq_nil_of_length_eq_zero (by have:=U2.out;omega);have n3:v1=[]:=List.eq_nil_of_length_eq_zero (by have:=V1.out;omega);clear q1 q2;have R1:=hide (uf.out.as (show _=A++(u1++(v1++(u2++(v2++B)))) by rw[n2]<;>simp));have B1:=hide HB.out;have R2:=hide (R1.out.as (show _=A++(Nf.aA (u1++v1)++(u2++(v2++B))) by rw[S1.out (by right;exact n3)]<;>simp));have B2:=hide B1.out;have R3:=hide (R2.out.as (show _=A++(Nf.aA (u1++v1)++(Nf.aA (u2++v2)++B)) by rw[S2.out (by left;exact n2)]<;>simp));have B3:=hide B2.out;clear n2 n3;go_wp2;go_end0;exact⟨rfl,R3.out.as (by rw[←HF.out];simp),B3.out⟩
   ·have d1:¬(r:Int)<(m:Int):=by omega
    have d2:(m:Int)<(en:Int):=by omega
    have d3:(a:Int)<(r:Int):=by omega
    have d4:(r:Int)<(mid:Int):=by omega
    have d5:¬(mid:Int)<(en:Int):=by omega
    have d6:(en:Int)<(b:Int):=by omega
    have n2:u2=[]:=List.eq_nil_of_length_eq_zero (by have:=U2.out;omega);clear q1 q2;have R1:=hide (uf.out.as (show _=A++(u1++(v1++(u2++(v2++B)))) by rw[n2]<;>simp));have B1:=hide HB.out
    go_wp2_with fail
    refine (GS.out _ R1.out (by omega) (by omega)).mono ?_;rintro e w2 ⟨rfl,bG,af⟩;have R2:=hide bG;have B2:=hide (B1.out.trans af);clear bG af;have R3:=hide (R2.out.as (show _=A++(Nf.aA (u1++v1)++(Nf.aA (u2++v2)++B)) by rw[S2.out (by left;exact n2)]<;>simp));have B3:=hide B2.out;clear n2;go_wp2;go_end0;exact⟨rfl,R3.out.as (by rw[←HF.out];simp),B3.out⟩
   exfalso;omega
end
section
open Go.RowKit Go.WideShapes

theorem VY:∀N,QH N
 | 0=>fun A u v B pre post g off cap n a m b w h hn ha hm hb hu hv hN=>by omega
 | N+1=>fun A u v B pre post g off cap n a m b w h hn ha hm hb hu hv hN gZ hvp hs=>by
  by_cases h1:u.length=1
  ·obtain⟨x,rfl⟩:=List.length_eq_one_iff.1 h1;exact alF A v B x pre post g off cap n a m b w h (by simpa using hn) ha (by simpa using hm) (by simpa using hb) hv hvp hs
  by_cases h2:v.length=1
  ·obtain⟨x,rfl⟩:=List.length_eq_one_iff.1 h2;exact alG A u B x pre post g off cap n a m b w h (by simpa using hn) ha hm (by simpa using hb) (by omega) gZ hs
  exact alH N (VY N) A u v B pre post g off cap n a m b w h hn ha hm hb (by omega) (by omega) hN gZ hvp hs
namespace Nf
def blk(bs:Nat)(l:List Int):List Int:=if h:bs=0∨l.length≤bs then aA l else aA (l.take bs)++blk bs (l.drop bs)
termination_by l.length
decreasing_by rw[List.length_drop];omega
theorem su{bs:Nat}{l:List Int}(h:l.length≤bs):blk bs l=aA l:=by rw[blk,dif_pos (.inr h)]
theorem zT{bs:Nat}{l:List Int}(h0:0<bs)(h:bs≤l.length):blk bs l=aA (l.take bs)++blk bs (l.drop bs):=by
 rcases Nat.lt_or_eq_of_le h with hlt|he
 ·conv=>lhs;rw[blk]
  rw[dif_neg (by omega)]
 rw[su (by omega),List.take_of_length_le (by omega),List.drop_of_length_le (by omega),su (by simp)];simp[aA]
theorem XN(a b:List Int):aA (aA a++aA b)=aA (a++b) :=
 Cm (oI _) (((pK a).app (pK b)).trans (pK _))
theorem alX(l:List Int)(a b:Nat):l.take a++(l.drop a).take b=l.take (a+b):=List.take_add.symm
theorem Rh(bs:Nat)(l:List Int):(blk bs l).length=l.length:=by
 rw[blk];split
 ·exact js l
 rw[List.length_append,js,Rh bs (l.drop bs),←List.length_append,List.take_append_drop]
termination_by l.length
decreasing_by rw[List.length_drop];omega
end Nf
theorem alk(l:List Int)(pre post:List Value)(g off cap n:Nat)(w:World)(h:aS w g off pre post l)(hn:n=l.length)(hs:n≤1000000000) :
  Calls Tryz.prog 194 #[.slice (some ⟨g,off,none⟩) n cap,.int .i64 n,.func (.func 177) #[] #[]] w fun e w'=>e=.returned (.tuple #[])∧aS w' g off pre post (Nf.aA l)∧ag g w w':=by
 have HR:=hide h;have Hn:=hide hn;have Pk:=hide (fun A l B n a b W h=>agy A l B pre post g off cap n a b W h);have Px:=hide (fun A u v B n a m b W h=>VY (u.length+v.length) A u v B pre post g off cap n a m b W h);clear h hn
 go_enter Tryz.func194,Tryz.ntmps194
 go_wp2
 go_loopg [7,8] n (fun gk va vb wr=>∃(a:Nat) (P:List Int),gk=n-a∧a≤n∧va=.int .i64 (a:Int)∧vb=.int .i64 ((a+20:Nat):Int)∧P.length=a∧aS wr g off pre post (P++l.drop a)∧P++Nf.blk 20 (l.drop a)=Nf.blk 20 l∧ag g w wr)
 case atStart=>exact⟨0,[],rfl,by omega,rfl,rfl,rfl,by simpa using HR.out,by simp,ag.refl _ _⟩
 case round=>
  obtain⟨a,P,au,TG,rfl,rfl,hP,hr,he,bu⟩:=hrel;have Hg:=hide au;have HP:=hide hP;have HI:=hide hr;have HE:=hide he;have HB:=hide bu;clear au hP hr he bu
  by_cases hlt:a+20≤n
  ·obtain⟨b,hb⟩:∃b,a+20=b:=⟨_,rfl⟩;rw[hb] at hlt ⊢;have Hb:=hide hb;have zb:IntKind.i64.wrap ((b:Int)+20)=((b+20:Nat):Int):=by rw[IntWalk.i64_in _ (by omega)];omega
   have aQ:(l.drop a).length=n-a:=by rw[List.length_drop,Hn.out]
   have hst:=Nf.zT (bs:=20) (l:=l.drop a) (by omega) (by omega);have hdd:(l.drop a).drop 20=l.drop b:=by rw[List.drop_drop,Hb.out]
   have jn:((l.drop a).take 20).length=20:=by rw[List.length_take];omega
   have hsp:(l.drop a).take 20++l.drop b=l.drop a:=by rw[←hdd,List.take_append_drop]
   have bt:(l.drop b).length=n-b:=by rw[List.length_drop,Hn.out]
   rw[hdd] at hst;have HC:=hide (Pk.out P ((l.drop a).take 20) (l.drop b) n a b wr (by rw[hsp];exact HI.out) (by rw[HP.out,jn,bt];omega) HP.out.symm (by rw[HP.out,jn];omega) hs);have a8:=hide (show (P++Nf.aA ((l.drop a).take 20))++Nf.blk 20 (l.drop b)=Nf.blk 20 l by rw[←HE.out,hst,List.append_assoc]);have HL:=hide (show (P++Nf.aA ((l.drop a).take 20)).length=b by rw[List.length_append,Nf.js,jn,HP.out,Hb.out]);clear hb aQ hst hdd jn hsp bt
   go_wp2_with fail
   refine HC.out.mono ?_;rintro e w2 ⟨rfl,bG,af⟩;have dD:=hide bG;have ah:=hide af;clear bG af;go_wp2
   go_roundg (n-b)
   case measure=>have:=Hg.out;have:=Hb.out;omega
   case rel=>exact⟨b,_,rfl,hlt,rfl,by first|rfl|go_num,HL.out,dD.out.as (by simp),a8.out,HB.out.trans ah.out⟩
  have aQ:(l.drop a).length=n-a:=by rw[List.length_drop,Hn.out]
  have dI:¬((a:Int)+20≤(n:Int)):=by omega
  have HC:=hide (Pk.out P (l.drop a) [] n a n wr (HI.out.as (by simp)) (by rw[HP.out,aQ];simp;omega) HP.out.symm (by rw[HP.out,aQ];omega) hs);have a8:=hide (show P++(Nf.aA (l.drop a)++[])=Nf.blk 20 l by rw[←HE.out,Nf.su (by omega),List.append_nil]);clear aQ
  go_wp2_with fail
  refine HC.out.mono ?_;rintro e w2 ⟨rfl,bG,af⟩;rw[a8.out] at bG;have dD:=hide bG;have ah:=hide (HB.out.trans af);clear bG af a8 HC HE HI HP;go_wp2
  go_loopg [6,7,8,9] (n+1) (fun gk vs va vb vm wq=>∃(bs:Nat),n+1-bs≤gk∧0<bs∧bs≤2*n+20∧vs=.int .i64 (bs:Int)∧aS wq g off pre post (Nf.blk bs l)∧ag g w wq)
  case atStart=>exact⟨20,by omega,by omega,by omega,rfl,dD.out,ah.out⟩
  case round=>
   obtain⟨bs,au,dz,aK,rfl,hr,bu⟩:=hrel;have Hg:=hide au;have HI:=hide hr;have aw:=hide bu;clear au hr bu dD ah
   by_cases pC:bs<n
   ·obtain⟨b2,af⟩:∃b2,2*bs=b2:=⟨_,rfl⟩;have jw:=hide af;have z2:IntKind.i64.wrap (2*(bs:Int))=(b2:Int):=by rw[IntWalk.i64_in _ (by omega)];omega
    have z3:IntKind.i64.wrap ((bs:Int)*2)=(b2:Int):=by rw[IntWalk.i64_in _ (by omega)];omega
    have TK:b2≤2000000000:=by omega
    have KA:0<b2:=by omega
    clear af;go_wp2
    go_loopg [7,8] n (fun gj va vb wj=>∃(a:Nat) (P:List Int),gj=n-a∧a≤n∧va=.int .i64 (a:Int)∧vb=.int .i64 ((a+b2:Nat):Int)∧P.length=a∧aS wj g off pre post (P++Nf.blk bs (l.drop a))∧P++Nf.blk b2 (l.drop a)=Nf.blk b2 l∧ag g w wj)
    case atStart=>exact⟨0,[],rfl,by omega,rfl,by first|rfl|go_num | (congr 1;omega),rfl,by simpa using HI.out,by simp,aw.out⟩
    case round=>
     obtain⟨a,P,AU,TG,rfl,rfl,hP,hr,he,bu⟩:=hrel;have Io:=hide AU;have HP:=hide hP;have pN:=hide hr;have HE:=hide he;have cG:=hide bu;clear AU hP hr he bu;have zab:IntKind.i64.wrap ((a:Int)+(bs:Int))=((a+bs:Nat):Int):=by rw[IntWalk.i64_in _ (by omega)];omega
     obtain⟨m,hm⟩:∃m,a+bs=m:=⟨_,rfl⟩;obtain⟨b,hb⟩:∃b,a+b2=b:=⟨_,rfl⟩;rw[hm] at zab;rw[hb];have Hm:=hide hm;have Hb:=hide hb;have aQ:(l.drop a).length=n-a:=by rw[List.length_drop,Hn.out]
     by_cases afs:b≤n
     ·have zb:IntKind.i64.wrap ((b:Int)+(b2:Int))=((b+b2:Nat):Int):=by rw[IntWalk.i64_in _ (by omega)];omega
      have hst:=Nf.zT (bs:=bs) (l:=l.drop a) dz (by have:=jw.out;omega);have hdd:(l.drop a).drop bs=l.drop m:=by rw[List.drop_drop,Hm.out]
      rw[hdd] at hst;have jG:(l.drop m).length=n-m:=by rw[List.length_drop,Hn.out]
      have vI:=Nf.zT (bs:=bs) (l:=l.drop m) dz (by have:=jw.out;omega);have TV:(l.drop m).drop bs=l.drop b:=by rw[List.drop_drop];congr 1;have:=jw.out;omega
      rw[TV] at vI;have x6:=Nf.zT (bs:=b2) (l:=l.drop a) KA (by omega);have TW:(l.drop a).drop b2=l.drop b:=by rw[List.drop_drop,Hb.out]
      rw[TW] at x6;have om:(l.drop a).take bs++(l.drop m).take bs=(l.drop a).take b2:=by rw[←hdd,Nf.alX];congr 1;have:=jw.out;omega
      have l1:(Nf.aA ((l.drop a).take bs)).length=bs:=by rw[Nf.js,List.length_take];have:=jw.out;omega
      have l2:(Nf.aA ((l.drop m).take bs)).length=bs:=by rw[Nf.js,List.length_take,jG];have:=jw.out;omega
      have l3:(Nf.blk bs (l.drop b)).length=n-b:=by rw[Nf.Rh,List.length_drop,Hn.out]
      have HC:=hide (Px.out P (Nf.aA ((l.drop a).take bs)) (Nf.aA ((l.drop m).take bs)) (Nf.blk bs (l.drop b)) n a m b wr (pN.out.as (by rw[hst,vI])) (by rw[HP.out,l1,l2,l3];have:=jw.out;omega) HP.out.symm (by rw[HP.out,l1];omega) (by rw[HP.out,l1,l2];have:=jw.out;omega) (by omega) (by omega) (Nat.le_refl _) (Nf.oI _) (Nf.oI _) hs);rw[Nf.XN,om] at HC;have a8:=hide (show (P++Nf.aA ((l.drop a).take b2))++Nf.blk b2 (l.drop b)=Nf.blk b2 l by rw[←HE.out,x6,List.append_assoc]);have HL:=hide (show (P++Nf.aA ((l.drop a).take b2)).length=b by rw[List.length_append,Nf.js,List.length_take,HP.out];omega);clear hm hb aQ hst hdd jG vI TV x6 TW om l1 l2 l3
      go_wp2_with fail
      refine HC.out.mono ?_;rintro e w2 ⟨rfl,bG,af⟩;have dD:=hide bG;have yS:=hide (cG.out.trans af);clear bG af;go_wp2
      go_roundg (n-b)
      case measure=>have:=Io.out;have:=Hb.out;omega
      case rel=>exact⟨b,_,rfl,afs,rfl,by first|rfl|go_num,HL.out,dD.out.as (by simp),a8.out,yS.out⟩
     have aow:¬((a:Int)+(b2:Int)≤(n:Int)):=by omega
     by_cases vC:m<n
     ·have hst:=Nf.zT (bs:=bs) (l:=l.drop a) dz (by omega);have hdd:(l.drop a).drop bs=l.drop m:=by rw[List.drop_drop,Hm.out]
      rw[hdd] at hst;have jG:(l.drop m).length=n-m:=by rw[List.length_drop,Hn.out]
      have vI:=Nf.su (bs:=bs) (l:=l.drop m) (by have:=jw.out;omega);have x6:=Nf.su (bs:=b2) (l:=l.drop a) (by omega);have om:(l.drop a).take bs++l.drop m=l.drop a:=by rw[←hdd,List.take_append_drop]
      have l1:(Nf.aA ((l.drop a).take bs)).length=bs:=by rw[Nf.js,List.length_take];have:=jw.out;omega
      have l2:(Nf.aA (l.drop m)).length=n-m:=by rw[Nf.js,jG]
      have HC:=hide (Px.out P (Nf.aA ((l.drop a).take bs)) (Nf.aA (l.drop m)) [] n a m n wr (pN.out.as (by rw[hst,vI,List.append_nil])) (by rw[HP.out,l1,l2];simp;omega) HP.out.symm (by rw[HP.out,l1];omega) (by rw[HP.out,l1,l2];omega) (by omega) (by omega) (Nat.le_refl _) (Nf.oI _) (Nf.oI _) hs);rw[Nf.XN,om] at HC;have a8:=hide (show P++(Nf.aA (l.drop a)++[])=Nf.blk b2 l by rw[←HE.out,x6,List.append_nil]);clear hm hb aQ hst hdd jG vI x6 om l1 l2
      go_wp2_with fail
      refine HC.out.mono ?_;rintro e w2 ⟨rfl,bG,af⟩;rw[a8.out] at bG;have dD:=hide bG;have yS:=hide (cG.out.trans af);clear bG af;go_wp2
      go_roundg (n+1-b2)
      case measure=>have:=Hg.out;have:=jw.out;omega
      case rel=>exact⟨b2,by omega,KA,by have:=jw.out;omega,rfl,dD.out,yS.out⟩
     have a8:=hide (show P++Nf.blk bs (l.drop a)=Nf.blk b2 l by rw[←HE.out,Nf.su (bs:=bs) (by omega),Nf.su (bs:=b2) (by omega)]);clear hm hb aQ;go_wp2
     go_roundg (n+1-b2)
     case measure=>have:=Hg.out;have:=jw.out;omega
     case rel=>exact⟨b2,by omega,KA,by have:=jw.out;omega,rfl,pN.out.as a8.out,cG.out⟩
   go_wp2;go_end0;exact⟨rfl,HI.out.as (Nf.su (by rw[←Hn.out];omega)),aw.out⟩
theorem akW(l:List Int)(pre post:List Value)(g off cap n:Nat)(w:World)(h:aS w g off pre post l)(hn:n=l.length)(hs:n≤1000000000) :
  Calls Tryz.prog 176 #[.slice (some ⟨g,off,none⟩) n cap,.func (.func 177) #[] #[]] w fun e w'=>e=.returned (.tuple #[])∧aS w' g off pre post (Nf.aA l)∧ag g w w':=by
 have HS:=hide (alk l pre post g off cap n w h hn hs);clear h hn
 go_enter Tryz.func176,Tryz.ntmps176
 go_wp2_with fail
 refine HS.out.mono ?_;rintro e w2 ⟨rfl,bG,af⟩;have dD:=hide bG;have ah:=hide af;clear bG af;go_wp2;go_end0;exact⟨rfl,dD.out,ah.out⟩
end
section
open Go.RowKit

def ajW{α:Type}(B:Nat)(Kp:World→World→Prop)(I:List α→World→Prop)(xs:List α)(W:World):Exit→Act→World→Prop
 | .normal,_,W'=>KeepsFrom B W W'∧Kp W W'∧I xs W'
 | _,_,_=>False

def tQ{α:Type}(Fr:World→World→Prop)(F:Fence)(n:Nat)(P:Program)(g:Nat)(lb:Array Value)(nT:α→Array Value)(Kp:World→World→Prop)(Fact:α→World→Prop)(S:List α→Prop)(N:Nat)(W:World):Prop :=
 ∀(l:Nat) (J:List α→World→Prop),(∀s A B,J s A→Fr A B→J s B)→J [] W→
  (∀pre x W1,J pre W1→Fact x W1→pre.length<N→YieldAt F (n-1) P l (nT x) W1 fun e W'=>e=.returned (.bool true)∧J (pre++[x]) W'∧Kp W1 W')→
  CallsIn F n P g (#[.func (.yield l) #[] #[]]++lb) W fun e W'=>(∃v,e=.returned v)∧∃xs,S xs∧J xs W'

theorem MM{α:Type}{Fr:World→World→Prop}{F:Fence}{n:Nat}{P:Program}{g:Operand}{ps:Array Tmp}{assign body:Code}{Q:Exit→Act→World→Prop}{a:Act}{w:World}(hR:∀A B,Fr A B→∀k,w.heap.size≤k→k<A.heap.size→B.heap[k]?=A.heap[k]?)
  (hro:F.round=none) (h1:1≤n) {gf:Nat} {lb:Array Value} (hg:a.eval g=.func (.func gf) #[] lb) (J8:F.fn gf) (eg:∀args w,(callFunc gf args).run P w=.ok (.enter gf args) w)
  {nT:α→Array Value} {Kp:World→World→Prop} {Fact:α→World→Prop} {S:List α→Prop} {N:Nat} (cM:∀x,(nT x).size=ps.size)
  (LB:∀o o',tQ Fr F (n-1) P gf lb nT Kp Fact S N ((w.alloc o).alloc o'))
  (xF:∀{A B C:World},Kp A B→Kp B C→Kp A C) (uS:∀(W:World) (o o':Obj),W.heap[w.heap.size+1]?=some o'→o'.isCells=false→Kp W (W.putObj (w.heap.size+1) o))
  (I:List α→World→Prop) (Ka:∀s W o o',I s W→W.heap[w.heap.size+1]?=some o'→o'.isCells=false→I s (W.putObj (w.heap.size+1) o)) (pq:∀s A B,I s A→Fr A B→I s B)
  (hF:∀x W o,Fact x W→Fact x (W.putObj (w.heap.size+1) o)) (h0:∀o o',I [] ((w.alloc o).alloc o')) (a₁:α→Act)
  (Kw:∀(l:Nat) (x:α) (W:World) (K:Act→World→Prop),K (a₁ x) W→
   assign.wpIn (F.inRound l) (n-1-1) P (Exit.then K (fun _ _ _=>False)) { tmps:=(ps.zip (nT x)).foldl (fun t (p,v)=>t.setIfInBounds p v) a.tmps,defers:=[] } W)
  (KE:∀(l:Nat) (pre:List α) (x:α) (W:World),I pre W→Fact x W→pre.length<N→w.heap.size+2≤W.heap.size→body.wpIn (F.inRound l) (n-1-1) P (ajW w.heap.size Kp I (pre++[x]) W) (a₁ x) W)
  (hdone:∀(D:Nat) (xs:List α) (W:World),D=w.heap.size→S xs→I xs W→W.heap[D]?=some (.deferred (some []))→Q .normal { a with defers:={ target:=.collected D,args:=#[] } :: a.defers } W) :
  (Code.rangeFunc g ps assign body).wpIn F n P Q a w:=by
 refine wpIn_rangeFunc fun fn vt=>?_;rw[hro]
 let D:=w.heap.size
 let r0:Loop:={ state:=.ready,pending:=none,fn,tmps:=a.tmps,params:=ps,assign,body,defers:=D }
 let r1:Loop:={ state:=.busy,pending:=none,fn,tmps:=a.tmps,params:=ps,assign,body,defers:=D }
 let W0:=(w.alloc (.deferred (some []))).alloc (.loop r0)
 have hsz:W0.heap.size=D+2:=by show ((w.alloc _).alloc _).heap.size=_;simp[D]
 have qJ:W0.heap[D+1]?=some (.loop r0):=by
  have:=World.alloc_heap_new (w.alloc (.deferred (some []))) (.loop r0);rwa[World.size_alloc] at this
 have n7:W0.heap[D]?=some (.deferred (some [])):=(Below.heap_alloc _ _ _ (by simp[D])).trans (World.alloc_heap_new w _)
 refine⟨D+1,[{ target:=.collected D,args:=#[] }],W0,{ target:=.fn (.func gf) lb,args:=#[.func (.yield (D+1)) #[] #[]] },W0,gf,#[.func (.yield (D+1)) #[] #[]]++lb,W0,
  run_enterLoop_outer _ _ _ _ _,by simp only[resolve,hg];simp[go_sem],fun f' vq=>by simp[Target.leads] at vq;subst vq;exact J8,by simp[invoke,go_sem,eg],fun _=>h1,?_⟩
 have Vw:∀{A B:World} {k:Nat} {o:Obj},Fr A B→A.heap[k]?=some o→D≤k→B.heap[k]?=some o:=fun hb hk hlt=>
  (hR _ _ hb _ hlt (Array.getElem?_eq_some_iff.1 hk).1).trans hk
 refine (LB _ _ (D+1) (fun pre W=>I pre W∧W.heap[D+1]?=some (.loop r0)∧W.heap[D]?=some (.deferred (some [])))
  (fun s A B h hb=>⟨pq s A B h.1 hb,Vw hb h.2.1 (by omega),Vw hb h.2.2 (Nat.le_refl _)⟩) ⟨h0 _ _,qJ,n7⟩ ?_).mono ?_
 ·rintro pre x W ⟨hi,hl,hd⟩ hf hlen;have hlt:D+1<W.heap.size:=(Array.getElem?_eq_some_iff.1 hl).1;have hy:=run_yield (P:=P) (args:=nT x) hl (cM x);refine⟨fn,_,assign,body,hy,roundIn_of_wpIn vt (Kw _ x W _ ⟨_,run_beginRound hl rfl,?_⟩)⟩;have mY:(W.putObj (D+1) (.loop r1)).heap[D+1]?=some (.loop r1):=World.putObj_heap_same hlt;have bg:(W.putObj (D+1) (.loop r1)).heap[D]?=some (.deferred (some [])):=(World.putObj_heap_other (by omega)).trans hd;refine wpIn_mono (KE _ pre x _ (Ka _ _ _ _ hi hl rfl) (hF _ _ _ hf) hlen (by show D+2≤(W.heap.setIfInBounds _ _).size;rw[Array.size_setIfInBounds];omega)) ?_;rintro e a3 W3 hp
  cases e with
  | normal=>
   obtain⟨aH,jF,pz⟩:=hp;have eQ:=aH.same _ _ (by omega) mY rfl;have gD:=aH.same _ _ (Nat.le_refl _) bg rfl;have pC:=(Array.getElem?_eq_some_iff.1 eQ).1;have he:=run_endRound (P:=P) none eQ;exact⟨_,_,he,rfl,⟨Ka _ _ _ _ pz eQ rfl,World.putObj_heap_same pC,(World.putObj_heap_other (by omega)).trans gD⟩,xF (xF (uS _ _ _ hl rfl) jF) (uS _ _ _ eQ rfl)⟩
  | ret=>exact hp.elim
  | exit id=>exact hp.elim
  | goto t=>exact hp.elim
  | panic ch=>exact hp.elim
  | outgrown=>exact hp.elim
 rintro e W2 ⟨⟨v,rfl⟩,xs,hS,hi,hl,hd⟩;have hlt:=(Array.getElem?_eq_some_iff.1 hl).1;exact⟨none,_,run_endLoop (P:=P) hl (by simp[r0]),hdone D xs _ rfl hS (Ka _ _ _ _ hi hl rfl) ((World.putObj_heap_other (by omega)).trans hd)⟩
end
end Go.Proofs.YtnbmfljhbpfilaaGreatDoor
