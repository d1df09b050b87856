/- NFC: slices.symMergeCmpFunc by classes: the general case. Printed by genNfM.py. And more. -/
import Derived.Test.YtifiiojchlaghaaGreatDoorOm03
import Derived.Test.YtifiiojchlaghaaGreatDoorOm25
import Derived.Deep.DeepCutAuto
import Derived.RangeFuncNested
set_option linter.unusedSimpArgs false
set_option maxRecDepth 100000
set_option maxHeartbeats 16000000
set_option linter.unusedVariables false
namespace Go.Proofs.YtifiiojchlaghaaGreatDoor
section
open Go.RowKit Go.WideShapes

namespace Nf
theorem Wq{u v:List Int}(h:Up u)(k:Up v)(e:u=[]∨v=[]):aC (u++v)=u++v:=by
 rcases e with rfl|rfl
 ·exact Mo k
 rw[List.append_nil];exact Mo h
theorem ai1{u1 u2 v1 v2:List Int}(hu:Up (u1++u2))(hv:Up (v1++v2))(h1:∀x∈u2,∀y∈v1,cls y<cls x)(h2:∀x∈u1,∀y∈v2,cls x≤cls y):aC (u1++v1)++aC (u2++v2)=aC ((u1++u2)++(v1++v2)):=by
 refine BU ?_ ?_
 ·refine Up.app (o5 _) (o5 _) ?_;intro x hx y hy;rw[(qb _).mem] at hx hy
  rcases List.mem_append.1 hx with hx|hx<;>rcases List.mem_append.1 hy with hy|hy
  ·exact hu.Dr hx hy
  ·exact h2 x hx y hy
  ·exact Int.le_of_lt (h1 y hy x hx)
  exact hv.Dr hx hy
 have e1:(u1++u2)++(v1++v2)=u1++((u2++v1)++v2):=by simp
 have e2:(u1++v1)++(u2++v2)=u1++((v1++u2)++v2):=by simp
 have k1:cj ((u1++u2)++(v1++v2)) ((u1++v1)++(u2++v2)):=by
  rw[e1,e2];exact (cj.refl _).app ((Mh (fun x hx y hy=>by have:=h1 x hx y hy;omega)).app (cj.refl _))
 exact k1.trans ((qb _).app (qb _))
end Nf
def Py(N:Nat):Prop:=∀(A u v B:List Int) (pre post:List Value) (g off cap n a m b:Nat) (w:World),aV w g off pre post (A++(u++(v++B)))→n=A.length+u.length+v.length+B.length→
  a=A.length→m=A.length+u.length→b=A.length+u.length+v.length→0<u.length→0<v.length→u.length+v.length≤N→Nf.Up u→Nf.Up v→n≤1000000000→
  Calls Tryz.prog 200 #[.slice (some ⟨g,off,none⟩) n cap,.int .i64 a,.int .i64 m,.int .i64 b,.func (.func 155) #[] #[]] w fun e w'=>e=.returned (.tuple #[])∧aV w' g off pre post (A++(Nf.aC (u++v)++B))∧ai g w w'
structure Ir(u v:List Int)(a m nn lo hi st r:Nat):Prop where
 lo_:lo≤st
 le:st≤r
 hi_:r≤hi
 left:st=lo∨∃x y,u[st-1-a]?=some x∧v[nn-st-m]?=some y∧Nf.cls x≤Nf.cls y
 right:r=hi∨∃x y,u[r-a]?=some x∧v[nn-1-r-m]?=some y∧Nf.cls y<Nf.cls x
theorem UH{l:List Int}{k:Nat}{z:Int}(h:z∈l.take k):∃i,i<k∧l[i]?=some z:=by
 obtain⟨i,hi,e⟩:=List.mem_take_iff_getElem.1 h;exact⟨i,by omega,List.getElem?_eq_some_iff.2 ⟨_,e⟩⟩
theorem UG{l:List Int}{k:Nat}{z:Int}(h:z∈l.drop k):∃i,k≤i∧l[i]?=some z:=by
 obtain⟨i,hi,e⟩:=List.mem_drop_iff_getElem.1 h;exact⟨k+i,by omega,List.getElem?_eq_some_iff.2 ⟨_,e⟩⟩
theorem Ir.done{u v:List Int}{a m b nn mid lo hi st:Nat}(h:Ir u v a m nn lo hi st st)(hu:Nf.Up u)(hv:Nf.Up v)(hm:m=a+u.length)(hb:b=m+v.length)(xN:mid=(a+b) / 2)(bC:nn=mid+m)
  (nu:mid<m∧lo=nn-b∧hi=mid∨m≤mid∧lo=a∧hi=m) :
  (∀x∈u.drop (st-a),∀y∈v.take (nn-st-m),Nf.cls y<Nf.cls x)∧∀x∈u.take (st-a),∀y∈v.drop (nn-st-m),Nf.cls x≤Nf.cls y:=by
 obtain⟨l0,_,l1,hl,hr⟩:=h
 constructor
 ·intro x hx y hy;obtain⟨i,cB,ei⟩:=UG hx;obtain⟨j,xH,ej⟩:=UH hy;have:=(List.getElem?_eq_some_iff.1 ei).1;clear hl
  rcases hr with e|⟨x0,y0,ex,ey,hc⟩
  ·omega
  have h1:=hu.at_ ex ei cB;have h2:=hv.at_ ej ey (by omega);omega
 intro x hx y hy;obtain⟨i,cB,ei⟩:=UH hx;obtain⟨j,xH,ej⟩:=UG hy;have:=(List.getElem?_eq_some_iff.1 ej).1;clear hr
 rcases hl with e|⟨x0,y0,ex,ey,hc⟩
 ·omega
 have h1:=hu.at_ ei ex (by omega);have h2:=hv.at_ ey ej xH;omega
theorem ajn{a b m mid nn p rJ lo hi:Nat}(xN:mid=(a+b) / 2)(bC:nn=mid+m)(hp:nn-1=p)(h0:nn-b=rJ)(Ad:a+1<m)(gH:m+1<b)(nu:mid<m∧lo=rJ∧hi=mid∨m≤mid∧lo=a∧hi=m) :
  (a≤lo∧hi≤m∧lo≤hi)∧∀c,lo≤c→c<hi→c<p∧m≤p-c∧p-c<b:=by
 rcases nu with ⟨h1,h2,h3⟩|⟨h1,h2,h3⟩
 ·exact⟨⟨by omega,by omega,by omega⟩,fun c h4 h5=>by omega⟩
 exact⟨⟨by omega,by omega,by omega⟩,fun c h4 h5=>by omega⟩
theorem ajm{a b m mid nn rJ lo hi st en:Nat}(xN:mid=(a+b) / 2)(bC:nn=mid+m)(h0:nn-b=rJ)(Ad:a+1<m)(gH:m+1<b)(nu:mid<m∧lo=rJ∧hi=mid∨m≤mid∧lo=a∧hi=m)(h1:lo≤st)(h2:st≤hi)(he:nn-st=en) :
  (a≤st∧st≤m)∧(m≤en∧en≤b)∧en+st=mid+m:=by
 rcases nu with ⟨h3,h4,h5⟩|⟨h3,h4,h5⟩
 ·exact⟨⟨by omega,by omega⟩,⟨by omega,by omega⟩,by omega⟩
 exact⟨⟨by omega,by omega⟩,⟨by omega,by omega⟩,by omega⟩
theorem ajI(N:Nat)(RE:Py N)(A u v B:List Int)(pre post:List Value)(g off cap n a m b:Nat)(w:World)(h:aV w g off pre post (A++(u++(v++B))))(hn:n=A.length+u.length+v.length+B.length)
  (ha:a=A.length) (hm:m=A.length+u.length) (hb:b=A.length+u.length+v.length) (hu:1<u.length) (hv:1<v.length) (hN:u.length+v.length≤N+1) (iz:Nf.Up u) (hvp:Nf.Up v) (hs:n≤1000000000) :
  Calls Tryz.prog 200 #[.slice (some ⟨g,off,none⟩) n cap,.int .i64 a,.int .i64 m,.int .i64 b,.func (.func 155) #[] #[]] w fun e w'=>e=.returned (.tuple #[])∧aV w' g off pre post (A++(Nf.aC (u++v)++B))∧ai g w w':=by
 have HR:=hide h;have NY:=hide RE;have Hn:=hide hn;have Ha:=hide ha;have Hm:=hide hm;have Hb:=hide hb;have HU:=hide iz;have HV:=hide hvp;have HN:=hide hN;have Am:b≤n:=by omega
 have Ad:a+1<m:=by omega
 have gH:m+1<b:=by omega
 have HC:=hide (fun x y W=>Dj x y W);obtain⟨lu,AK⟩:∃lu,u.length=lu:=⟨_,rfl⟩;obtain⟨lv,kB⟩:∃lv,v.length=lv:=⟨_,rfl⟩;have Zj:=hide AK;have Hlv:=hide kB;have z0:IntKind.i64.wrap ((m:Int)-(a:Int))=(lu:Int):=by rw[IntWalk.i64_in _ (by omega)];omega
 have adL:((lu:Int)==1)=false:=by
  have:¬(lu:Int)=1:=by omega
  simpa using this
 have z00:IntKind.i64.wrap ((b:Int)-(m:Int))=(lv:Int):=by rw[IntWalk.i64_in _ (by omega)];omega
 have amr:((lv:Int)==1)=false:=by
  have:¬(lv:Int)=1:=by omega
  simpa using this
 obtain⟨mid,xN⟩:∃mid,mid=(a+b) / 2:=⟨_,rfl⟩;have GU:=hide xN;have z1:((a:Int)+(b:Int)) / 2=(mid:Int):=by omega
 obtain⟨nn,bC⟩:∃nn,nn=mid+m:=⟨_,rfl⟩;have Ph:=hide bC;have z2:IntKind.i64.wrap ((mid:Int)+(m:Int))=(nn:Int):=by rw[IntWalk.i64_in _ (by omega)];omega
 have z3:IntKind.i64.wrap ((nn:Int)-1)=((nn-1:Nat):Int):=by rw[IntWalk.i64_in _ (by omega)];omega
 obtain⟨p,hp⟩:∃p,nn-1=p:=⟨_,rfl⟩;rw[hp] at z3;have Hp:=hide hp;obtain⟨rJ,Ks⟩:∃p,nn-b=p:=⟨_,rfl⟩;have Z4:=hide (show mid<m→IntKind.i64.wrap ((nn:Int)-(b:Int))=(rJ:Int) from fun h=>by rw[IntWalk.i64_in _ (by omega)];omega);have amv:a<mid∧mid<b:=by omega
 obtain⟨lo,hi,nu⟩:∃lo hi,mid<m∧lo=rJ∧hi=mid∨m≤mid∧lo=a∧hi=m:=by
  by_cases h:mid<m
  ·exact⟨rJ,mid,.inl ⟨h,rfl,rfl⟩⟩
  exact⟨a,m,.inr ⟨by omega,rfl,rfl⟩⟩
 have ze:=hide nu;obtain⟨⟨iN,tC,SS⟩,hrg⟩:=ajn xN bC hp Ks Ad gH nu;have YL:=hide hrg;clear hrg;have Pb:=hide Ks;clear h hn ha hm hb hu iz hvp hv hN AK kB xN bC hp Ks RE
 go_enter Tryz.func200,Tryz.ntmps200
 go_upto_if 140 with fail
 go_cut [20,21] (fun s r wx=>s=.int .i64 (lo:Int)∧r=.int .i64 (hi:Int)∧wx=w)
 case first=>
  rcases nu with ⟨h1,rfl,rfl⟩|⟨h1,rfl,rfl⟩
  ·have z4:=Z4.out h1;go_wp2
   go_meet
   exact⟨rfl,rfl,rfl⟩
  go_wp2
  go_meet
  exact⟨rfl,rfl,rfl⟩
 case rest=>
  obtain⟨rfl,rfl,hwc⟩:=hcut;have hwc:=hwc.symm;subst hwc;clear nu;go_wp2
  go_loopg [20,21] (hi-lo) (fun gk vs vr wr=>∃(st r:Nat),gk=r-st∧vs=.int .i64 (st:Int)∧vr=.int .i64 (r:Int)∧Ir u v a m nn lo hi st r∧aV wr g off pre post (A++(u++(v++B)))∧ai g w wr)
  case atStart=>exact⟨lo,hi,rfl,rfl,rfl,⟨Nat.le_refl _,SS,Nat.le_refl _,.inl rfl,.inl rfl⟩,HR.out,ai.refl _ _⟩
  case round=>
   obtain⟨st,r,aq,rfl,rfl,fT,hr,bz⟩:=hrel;have Hg:=hide aq;have HI:=hide hr;have HB:=hide bz;have HS:=hide fT;have Kt:=fT.lo_;have amT:=fT.le;have KG:=fT.hi_;clear aq hr bz fT
   by_cases hlt:st<r
   ·have oI:IntKind.i64.wrap ((st:Int)+(r:Int))=((st+r:Nat):Int):=by rw[IntWalk.i64_in _ (by omega)];omega
    obtain⟨d,hd⟩:∃d,(st+r) / 2=d:=⟨_,rfl⟩;have Sv:((st:Int)+(r:Int)) / 2=(d:Int):=by omega
    have hid:st≤d:=by omega
    have Sr:d<r:=by omega
    obtain⟨g1,g2,g3⟩:=YL.out d (by omega) (by omega);have xC:d<n:=by omega
    obtain⟨pd,KD⟩:∃pd,p-d=pd:=⟨_,rfl⟩;have zpd:IntKind.i64.wrap ((p:Int)-(d:Int))=(pd:Int):=by rw[IntWalk.i64_in _ (by omega)];omega
    rw[KD] at g2 g3;have amK:pd<n:=by omega
    obtain⟨x,hx⟩:∃x,u[d-a]?=some x:=⟨_,List.getElem?_eq_getElem (by have:=Hm.out;have:=Ha.out;omega)⟩;obtain⟨y,hy⟩:∃y,v[pd-m]?=some y:=⟨_,List.getElem?_eq_getElem (by have:=Hm.out;have:=Hb.out;omega)⟩;have c1:wr.cell? ⟨g,off+d,none⟩=some (.int .i64 x):=HI.out.at_ (by rw[List.getElem?_append_right (by have:=Ha.out;omega),←Ha.out,List.getElem?_append_left (List.getElem?_eq_some_iff.1 hx).1];exact hx);have c2:wr.cell? ⟨g,off+pd,none⟩=some (.int .i64 y):=HI.out.at_ (by rw[List.getElem?_append_right (by have:=Hm.out;omega),List.getElem?_append_right (by have:=Hm.out;omega),show pd-A.length-u.length=pd-m by have:=Hm.out;omega,List.getElem?_append_left (List.getElem?_eq_some_iff.1 hy).1];exact hy);obtain⟨q,hq⟩:∃q,Nf.cls y-Nf.cls x=q:=⟨_,rfl⟩;have eC:=hide (fun W=>HC.out y x W);rw[hq] at eC;have Hq:=hide hq;have Hx:=hide hx;have Hy:=hide hy;have Pj:=hide KD;clear hq hx hy hd oI KD
    by_cases hc:q<0
    ·have gU:decide (q<0)=true:=decide_eq_true hc
     go_wp2_with fail
     go_quiet ((go_at_call 155;refine Calls.quiet_of_same (eC.out _)))
     have eK:=hide (show ai g w (wr.drewN nq) from⟨HB.out.os,HB.out.tape,HB.out.output,HB.out.size,HB.out.block⟩);have fE:=hide (HI.out.drewN nq);generalize wr.drewN nq=W at fE eK ⊢;clear c1 c2;go_wp2
     go_roundg (d-st)
     case measure=>have:=Hg.out;omega
     case rel=>
      refine⟨st,d,rfl,rfl,rfl,⟨Kt,hid,by omega,HS.out.left,.inr ⟨x,y,Hx.out,?_,by have:=Hq.out;omega⟩⟩,fE.out,eK.out⟩;rw[show nn-1-d-m=pd-m by have:=Pj.out;have:=Hp.out;omega];exact Hy.out
    have gU:decide (q<0)=false:=decide_eq_false hc;have zd:IntKind.i64.wrap ((d:Int)+1)=((d+1:Nat):Int):=by rw[IntWalk.i64_in _ (by omega)];omega
    go_wp2_with fail
    go_quiet ((go_at_call 155;refine Calls.quiet_of_same (eC.out _)))
    have eK:=hide (show ai g w (wr.drewN nq) from⟨HB.out.os,HB.out.tape,HB.out.output,HB.out.size,HB.out.block⟩);have fE:=hide (HI.out.drewN nq);generalize wr.drewN nq=W at fE eK ⊢;clear c1 c2;go_wp2
    go_roundg (r-(d+1))
    case measure=>have:=Hg.out;omega
    case rel=>
     refine⟨d+1,r,rfl,by first|rfl|go_num,rfl,⟨by omega,by omega,KG,.inr ⟨x,y,?_,?_,by have:=Hq.out;omega⟩,HS.out.right⟩,fE.out,eK.out⟩
     ·rw[Nat.add_sub_cancel];exact Hx.out
     rw[show nn-(d+1)-m=pd-m by have:=Pj.out;have:=Hp.out;omega];exact Hy.out
   have eQ:r=st:=by omega
   subst eQ;have EI:=HS.out.done (b:=b) (mid:=mid) HU.out HV.out (by have:=Hm.out;have:=Ha.out;omega) (by have:=Hm.out;have:=Hb.out;omega) GU.out Ph.out (by have:=ze.out;have:=Pb.out;omega);obtain⟨en,hen⟩:∃en,nn-r=en:=⟨_,rfl⟩;obtain⟨⟨k1,k2⟩,⟨k3,k4⟩,k5⟩:=ajm GU.out Ph.out Pb.out Ad gH ze.out Kt KG hen;rw[show nn-r-m=en-m by rw[hen]] at EI;have dT:(u.take (r-a)).length=r-a:=by rw[List.length_take];have:=Hm.out;have:=Ha.out;omega
   have bH:(u.drop (r-a)).length=m-r:=by rw[List.length_drop];have:=Hm.out;have:=Ha.out;omega
   have bh:(v.take (en-m)).length=en-m:=by rw[List.length_take];have:=Hm.out;have:=Hb.out;omega
   have c7:(v.drop (en-m)).length=b-en:=by rw[List.length_drop];have:=Hm.out;have:=Hb.out;omega
   have eu:=List.take_append_drop (r-a) u;have ev:=List.take_append_drop (en-m) v;have yY:=HU.out;have yZ:=HV.out;rw[←eu] at yY;rw[←ev] at yZ;have HF:=hide (Nf.ai1 yY yZ EI.1 EI.2);rw[eu,ev] at HF;have uu:=hide (HI.out.as (show A++(u++(v++B))=A++(u.take (r-a)++(u.drop (r-a)++(v.take (en-m)++(v.drop (en-m)++B)))) by rw[←List.append_assoc (v.take _),ev,←List.append_assoc (u.take _),eu]));have mf:=hide (show (u.take (r-a)).length+(v.take (en-m)).length≤N∧(u.drop (r-a)).length+(v.drop (en-m)).length≤N by rw[dT,bH,bh,c7];have:=HN.out;have:=Hm.out;have:=Ha.out;have:=Hb.out;have:=GU.out;omega);generalize u.take (r-a)=u1 at *
   generalize u.drop (r-a)=u2 at *
   generalize v.take (en-m)=v1 at *
   generalize v.drop (en-m)=v2 at *
   have U1:=hide dT;have U2:=hide bH;have V1:=hide bh;have V2:=hide c7;have zen:IntKind.i64.wrap ((nn:Int)-(r:Int))=(en:Int):=by rw[IntWalk.i64_in _ (by omega)];omega
   have hAn:n=A.length+u1.length+u2.length+v1.length+v2.length+B.length:=by have:=Hn.out;have:=congrArg List.length eu;have:=congrArg List.length ev;rw[List.length_append] at *;omega
   have MO:=yY.left;have MP:=yY.right;have MR:=yZ.left;have MS:=yZ.right;have CH:=hide (fun (W:World) (h:aV W g off pre post (A++(u1++(u2++(v1++(v2++B)))))) (h1:r<m) (h2:m<en)=>ahW (A++u1) u2 v1 (v2++B) pre post g off cap n r m en (.func (.func 155) #[] #[]) W (h.as (by simp)) (by simp only[List.length_append];omega) (by rw[List.length_append,dT,←Ha.out];omega) (by rw[List.length_append,dT,bH,←Ha.out];omega) (by rw[List.length_append,dT,bH,bh,←Ha.out];omega) (by omega) (by omega) hs);have Gh:=hide (fun (W:World) (h:aV W g off pre post (A++(u1++(v1++(u2++(v2++B)))))) (h1:a<r) (h2:r<mid)=>NY.out A u1 v1 (u2++(v2++B)) pre post g off cap n a r mid W h (by simp only[List.length_append];omega) Ha.out (by rw[dT,←Ha.out];omega) (by rw[dT,bh,←Ha.out];omega) (by omega) (by omega) mf.out.1 MO MR hs)
   have GC:=hide (fun (W:World) (h:aV W g off pre post (A++(Nf.aC (u1++v1)++(u2++(v2++B))))) (h1:mid<en) (h2:en<b)=>NY.out (A++Nf.aC (u1++v1)) u2 v2 B pre post g off cap n mid en b W (h.as (by simp)) (by rw[List.length_append,Nf.jz,List.length_append];omega) (by rw[List.length_append,Nf.jz,List.length_append,dT,bh,←Ha.out];omega) (by rw[List.length_append,Nf.jz,List.length_append,dT,bh,bH,←Ha.out];omega) (by rw[List.length_append,Nf.jz,List.length_append,dT,bh,bH,c7,←Ha.out];omega) (by omega) (by omega) mf.out.2 MP MS hs);have S1:=hide (fun (h:u1=[]∨v1=[])=>Nf.Wq MO MR h);have S2:=hide (fun (h:u2=[]∨v2=[])=>Nf.Wq MP MS h);clear EI dT bH bh c7 eu ev yY yZ hAn MO MP MR MS hen Kt KG hlt SS iN tC
   rcases (by omega:r=a∨(a<r∧r<m)∨(a<r∧r=m)) with q1|q1|q1
   ·rcases (by omega:en=m∨(m<en∧en<b)∨(m<en∧en=b)) with q2|q2|q2
    ·exfalso;omega
    ·have d1:(r:Int)<(m:Int):=by omega
     have d2:(m:Int)<(en:Int):=by omega
     have d3:¬(a:Int)<(r:Int):=by omega
     have d4:(r:Int)<(mid:Int):=by omega
     have d5:(mid:Int)<(en:Int):=by omega
     have d6:(en:Int)<(b:Int):=by omega
     have n1:u1=[]:=List.eq_nil_of_length_eq_zero (by have:=U1.out;omega);clear q1 q2
     go_wp2_with fail
     refine (CH.out _ uu.out (by omega) (by omega)).mono ?_;rintro e w1 ⟨rfl,dS,au⟩;have R1:=hide (dS.as (show _=A++(u1++(v1++(u2++(v2++B)))) by simp));have B1:=hide (HB.out.trans au);clear dS au;have R2:=hide (R1.out.as (show _=A++(Nf.aC (u1++v1)++(u2++(v2++B))) by rw[S1.out (by left;exact n1)]<;>simp));have B2:=hide B1.out
     go_wp2_with fail
     refine (GC.out _ R2.out (by omega) (by omega)).mono ?_;rintro e w3 ⟨rfl,kE,aD⟩;have R3:=hide (kE.as (show _=A++(Nf.aC (u1++v1)++(Nf.aC (u2++v2)++B)) by simp));have B3:=hide (B2.out.trans aD);clear kE aD;clear n1;go_wp2;go_end0;exact⟨rfl,R3.out.as (by rw[←HF.out];simp),B3.out⟩
    have d1:(r:Int)<(m:Int):=by omega
    have d2:(m:Int)<(en:Int):=by omega
    have d3:¬(a:Int)<(r:Int):=by omega
    have d4:(r:Int)<(mid:Int):=by omega
    have d5:(mid:Int)<(en:Int):=by omega
    have d6:¬(en:Int)<(b:Int):=by omega
    have n1:u1=[]:=List.eq_nil_of_length_eq_zero (by have:=U1.out;omega);have n4:v2=[]:=List.eq_nil_of_length_eq_zero (by have:=V2.out;omega);clear q1 q2
    go_wp2_with fail
    refine (CH.out _ uu.out (by omega) (by omega)).mono ?_;rintro e w1 ⟨rfl,dS,au⟩;have R1:=hide (dS.as (show _=A++(u1++(v1++(u2++(v2++B)))) by simp));have B1:=hide (HB.out.trans au);clear dS au;have R2:=hide (R1.out.as (show _=A++(Nf.aC (u1++v1)++(u2++(v2++B))) by rw[S1.out (by left;exact n1)]<;>simp));have B2:=hide B1.out;have R3:=hide (R2.out.as (show _=A++(Nf.aC (u1++v1)++(Nf.aC (u2++v2)++B)) by rw[S2.out (by right;exact n4)]<;>simp));have B3:=hide B2.out;clear n1 n4;go_wp2;go_end0;exact⟨rfl,R3.out.as (by rw[←HF.out];simp),B3.out⟩
   ·rcases (by omega:en=m∨(m<en∧en<b)∨(m<en∧en=b)) with q2|q2|q2
    ·have d1:(r:Int)<(m:Int):=by omega
     have d2:¬(m:Int)<(en:Int):=by omega
     have d3:(a:Int)<(r:Int):=by omega
     have d4:¬(r:Int)<(mid:Int):=by omega
     have d5:(mid:Int)<(en:Int):=by omega
     have d6:(en:Int)<(b:Int):=by omega
     have n3:v1=[]:=List.eq_nil_of_length_eq_zero (by have:=V1.out;omega);clear q1 q2;have R1:=hide (uu.out.as (show _=A++(u1++(v1++(u2++(v2++B)))) by rw[n3]<;>simp));have B1:=hide HB.out;have R2:=hide (R1.out.as (show _=A++(Nf.aC (u1++v1)++(u2++(v2++B))) by rw[S1.out (by right;exact n3)]<;>simp));have B2:=hide B1.out
     go_wp2_with fail
     refine (GC.out _ R2.out (by omega) (by omega)).mono ?_;rintro e w3 ⟨rfl,kE,aD⟩;have R3:=hide (kE.as (show _=A++(Nf.aC (u1++v1)++(Nf.aC (u2++v2)++B)) by simp));have B3:=hide (B2.out.trans aD);clear kE aD;clear n3;go_wp2;go_end0;exact⟨rfl,R3.out.as (by rw[←HF.out];simp),B3.out⟩
    ·have d1:(r:Int)<(m:Int):=by omega
     have d2:(m:Int)<(en:Int):=by omega
     have d3:(a:Int)<(r:Int):=by omega
     have d4:(r:Int)<(mid:Int):=by omega
     have d5:(mid:Int)<(en:Int):=by omega
     have d6:(en:Int)<(b:Int):=by omega
     clear q1 q2
     go_wp2_with fail
     refine (CH.out _ uu.out (by omega) (by omega)).mono ?_;rintro e w1 ⟨rfl,dS,au⟩;have R1:=hide (dS.as (show _=A++(u1++(v1++(u2++(v2++B)))) by simp));have B1:=hide (HB.out.trans au);clear dS au
     go_wp2_with fail
     refine (Gh.out _ R1.out (by omega) (by omega)).mono ?_;rintro e w2 ⟨rfl,bu,ag⟩;have R2:=hide bu;have B2:=hide (B1.out.trans ag);clear bu ag
     go_wp2_with fail
     refine (GC.out _ R2.out (by omega) (by omega)).mono ?_;rintro e w3 ⟨rfl,kE,aD⟩;have R3:=hide (kE.as (show _=A++(Nf.aC (u1++v1)++(Nf.aC (u2++v2)++B)) by simp));have B3:=hide (B2.out.trans aD);clear kE aD;go_wp2;go_end0;exact⟨rfl,R3.out.as (by rw[←HF.out];simp),B3.out⟩
    have d1:(r:Int)<(m:Int):=by omega
    have d2:(m:Int)<(en:Int):=by omega
    have d3:(a:Int)<(r:Int):=by omega
    have d4:(r:Int)<(mid:Int):=by omega
    have d5:(mid:Int)<(en:Int):=by omega
    have d6:¬(en:Int)<(b:Int):=by omega
    have n4:v2=[]:=List.eq_nil_of_length_eq_zero (by have:=V2.out;omega);clear q1 q2
    go_wp2_with fail
    refine (CH.out _ uu.out (by omega) (by omega)).mono ?_;rintro e w1 ⟨rfl,dS,au⟩;have R1:=hide (dS.as (show _=A++(u1++(v1++(u2++(v2++B)))) by simp));have B1:=hide (HB.out.trans au);clear dS au
    go_wp2_with fail
    refine (Gh.out _ R1.out (by omega) (by omega)).mono ?_;rintro e w2 ⟨rfl,bu,ag⟩;have R2:=hide bu;have B2:=hide (B1.out.trans ag);clear bu ag;have R3:=hide (R2.out.as (show _=A++(Nf.aC (u1++v1)++(Nf.aC (u2++v2)++B)) by rw[S2.out (by right;exact n4)]<;>simp));have B3:=hide B2.out;clear n4;go_wp2;go_end0;exact⟨rfl,R3.out.as (by rw[←HF.out];simp),B3.out⟩
   rcases (by omega:en=m∨(m<en∧en<b)∨(m<en∧en=b)) with q2|q2|q2
   ·have d1:¬(r:Int)<(m:Int):=by omega
    have d2:¬(m:Int)<(en:Int):=by omega
    have d3:(a:Int)<(r:Int):=by omega
    have d4:¬(r:Int)<(mid:Int):=by omega
    have d5:¬(mid:Int)<(en:Int):=by omega
    have d6:(en:Int)<(b:Int):=by omega
    have n2:u2=[]:=List.eq_nil_of_length_eq_zero (by have:=U2.out;omega);have n3:v1=[]:=List.eq_nil_of_length_eq_zero (by have:=V1.out;omega);clear q1 q2;have R1:=hide (uu.out.as (show _=A++(u1++(v1++(u2++(v2++B)))) by rw[n2]<;>simp));have B1:=hide HB.out;have R2:=hide (R1.out.as (show _=A++(Nf.aC (u1++v1)++(u2++(v2++B))) by rw[S1.out (by right;exact n3)]<;>simp));have B2:=hide B1.out;have R3:=hide (R2.out.as (show _=A++(Nf.aC (u1++v1)++(Nf.aC (u2++v2)++B)) by rw[S2.out (by left;exact n2)]<;>simp));have B3:=hide B2.out;clear n2 n3;go_wp2;go_end0;exact⟨rfl,R3.out.as (by rw[←HF.out];simp),B3.out⟩
   ·have d1:¬(r:Int)<(m:Int):=by omega
    have d2:(m:Int)<(en:Int):=by omega
    have d3:(a:Int)<(r:Int):=by omega
    have d4:(r:Int)<(mid:Int):=by omega
    have d5:¬(mid:Int)<(en:Int):=by omega
    have d6:(en:Int)<(b:Int):=by omega
    have n2:u2=[]:=List.eq_nil_of_length_eq_zero (by have:=U2.out;omega);clear q1 q2;have R1:=hide (uu.out.as (show _=A++(u1++(v1++(u2++(v2++B)))) by rw[n2]<;>simp));have B1:=hide HB.out
    go_wp2_with fail
    refine (Gh.out _ R1.out (by omega) (by omega)).mono ?_;rintro e w2 ⟨rfl,bu,ag⟩;have R2:=hide bu;have B2:=hide (B1.out.trans ag);clear bu ag;have R3:=hide (R2.out.as (show _=A++(Nf.aC (u1++v1)++(Nf.aC (u2++v2)++B)) by rw[S2.out (by left;exact n2)]<;>simp));have B3:=hide B2.out;clear n2;go_wp2;go_end0;exact⟨rfl,R3.out.as (by rw[←HF.out];simp),B3.out⟩
   exfalso;omega
end
section
open Go.RowKit Go.WideShapes

theorem UJ:∀N,Py N
 | 0=>fun A u v B pre post g off cap n a m b w h hn ha hm hb hu hv hN=>by omega
 | N+1=>fun A u v B pre post g off cap n a m b w h hn ha hm hb hu hv hN iz hvp hs=>by
  by_cases h1:u.length=1
  ·obtain⟨x,rfl⟩:=List.length_eq_one_iff.1 h1;exact ajG A v B x pre post g off cap n a m b w h (by simpa using hn) ha (by simpa using hm) (by simpa using hb) hv hvp hs
  by_cases h2:v.length=1
  ·obtain⟨x,rfl⟩:=List.length_eq_one_iff.1 h2;exact ajH A u B x pre post g off cap n a m b w h (by simpa using hn) ha hm (by simpa using hb) (by omega) iz hs
  exact ajI N (UJ N) A u v B pre post g off cap n a m b w h hn ha hm hb (by omega) (by omega) hN iz hvp hs
namespace Nf
def blk(bs:Nat)(l:List Int):List Int:=if h:bs=0∨l.length≤bs then aC l else aC (l.take bs)++blk bs (l.drop bs)
termination_by l.length
decreasing_by rw[List.length_drop];omega
theorem sK{bs:Nat}{l:List Int}(h:l.length≤bs):blk bs l=aC l:=by rw[blk,dif_pos (.inr h)]
theorem zI{bs:Nat}{l:List Int}(h0:0<bs)(h:bs≤l.length):blk bs l=aC (l.take bs)++blk bs (l.drop bs):=by
 rcases Nat.lt_or_eq_of_le h with hlt|he
 ·conv=>lhs;rw[blk]
  rw[dif_neg (by omega)]
 rw[sK (by omega),List.take_of_length_le (by omega),List.drop_of_length_le (by omega),sK (by simp)];simp[aC]
theorem Wp(a b:List Int):aC (aC a++aC b)=aC (a++b) :=
 BU (o5 _) (((qb a).app (qb b)).trans (qb _))
theorem ajY(l:List Int)(a b:Nat):l.take a++(l.drop a).take b=l.take (a+b):=List.take_add.symm
theorem Qg(bs:Nat)(l:List Int):(blk bs l).length=l.length:=by
 rw[blk];split
 ·exact jz l
 rw[List.length_append,jz,Qg bs (l.drop bs),←List.length_append,List.take_append_drop]
termination_by l.length
decreasing_by rw[List.length_drop];omega
end Nf
theorem ajq(l:List Int)(pre post:List Value)(g off cap n:Nat)(w:World)(h:aV w g off pre post l)(hn:n=l.length)(hs:n≤1000000000) :
  Calls Tryz.prog 184 #[.slice (some ⟨g,off,none⟩) n cap,.int .i64 n,.func (.func 155) #[] #[]] w fun e w'=>e=.returned (.tuple #[])∧aV w' g off pre post (Nf.aC l)∧ai g w w':=by
 have HR:=hide h;have Hn:=hide hn;have NZ:=hide (fun A l B n a b W h=>aeN A l B pre post g off cap n a b W h);have Od:=hide (fun A u v B n a m b W h=>UJ (u.length+v.length) A u v B pre post g off cap n a m b W h);clear h hn
 go_enter Tryz.func184,Tryz.ntmps184
 go_wp2
 go_loopg [7,8] n (fun gk va vb wr=>∃(a:Nat) (P:List Int),gk=n-a∧a≤n∧va=.int .i64 (a:Int)∧vb=.int .i64 ((a+20:Nat):Int)∧P.length=a∧aV wr g off pre post (P++l.drop a)∧P++Nf.blk 20 (l.drop a)=Nf.blk 20 l∧ai g w wr)
 case atStart=>exact⟨0,[],rfl,by omega,rfl,rfl,rfl,by simpa using HR.out,by simp,ai.refl _ _⟩
 case round=>
  obtain⟨a,P,aq,R8,rfl,rfl,hP,hr,he,bz⟩:=hrel;have Hg:=hide aq;have HP:=hide hP;have HI:=hide hr;have HE:=hide he;have HB:=hide bz;clear aq hP hr he bz
  by_cases hlt:a+20≤n
  ·obtain⟨b,hb⟩:∃b,a+20=b:=⟨_,rfl⟩;rw[hb] at hlt ⊢;have Hb:=hide hb;have zb:IntKind.i64.wrap ((b:Int)+20)=((b+20:Nat):Int):=by rw[IntWalk.i64_in _ (by omega)];omega
   have aT:(l.drop a).length=n-a:=by rw[List.length_drop,Hn.out]
   have hst:=Nf.zI (bs:=20) (l:=l.drop a) (by omega) (by omega);have hdd:(l.drop a).drop 20=l.drop b:=by rw[List.drop_drop,Hb.out]
   have lQ:((l.drop a).take 20).length=20:=by rw[List.length_take];omega
   have hsp:(l.drop a).take 20++l.drop b=l.drop a:=by rw[←hdd,List.take_append_drop]
   have aP:(l.drop b).length=n-b:=by rw[List.length_drop,Hn.out]
   rw[hdd] at hst;have HC:=hide (NZ.out P ((l.drop a).take 20) (l.drop b) n a b wr (by rw[hsp];exact HI.out) (by rw[HP.out,lQ,aP];omega) HP.out.symm (by rw[HP.out,lQ];omega) hs);have bn:=hide (show (P++Nf.aC ((l.drop a).take 20))++Nf.blk 20 (l.drop b)=Nf.blk 20 l by rw[←HE.out,hst,List.append_assoc]);have HL:=hide (show (P++Nf.aC ((l.drop a).take 20)).length=b by rw[List.length_append,Nf.jz,lQ,HP.out,Hb.out]);clear hb aT hst hdd lQ hsp aP
   go_wp2_with fail
   refine HC.out.mono ?_;rintro e w2 ⟨rfl,bu,ag⟩;have dR:=hide bu;have ah:=hide ag;clear bu ag;go_wp2
   go_roundg (n-b)
   case measure=>have:=Hg.out;have:=Hb.out;omega
   case rel=>exact⟨b,_,rfl,hlt,rfl,by first|rfl|go_num,HL.out,dR.out.as (by simp),bn.out,HB.out.trans ah.out⟩
  have aT:(l.drop a).length=n-a:=by rw[List.length_drop,Hn.out]
  have dD:¬((a:Int)+20≤(n:Int)):=by omega
  have HC:=hide (NZ.out P (l.drop a) [] n a n wr (HI.out.as (by simp)) (by rw[HP.out,aT];simp;omega) HP.out.symm (by rw[HP.out,aT];omega) hs);have bn:=hide (show P++(Nf.aC (l.drop a)++[])=Nf.blk 20 l by rw[←HE.out,Nf.sK (by omega),List.append_nil]);clear aT
  go_wp2_with fail
  refine HC.out.mono ?_;rintro e w2 ⟨rfl,bu,ag⟩;rw[bn.out] at bu;have dR:=hide bu;have ah:=hide (HB.out.trans ag);clear bu ag bn HC HE HI HP;go_wp2
  go_loopg [6,7,8,9] (n+1) (fun gk vs va vb vm wq=>∃(bs:Nat),n+1-bs≤gk∧0<bs∧bs≤2*n+20∧vs=.int .i64 (bs:Int)∧aV wq g off pre post (Nf.blk bs l)∧ai g w wq)
  case atStart=>exact⟨20,by omega,by omega,by omega,rfl,dR.out,ah.out⟩
  case round=>
   obtain⟨bs,aq,aJ,aM,rfl,hr,bz⟩:=hrel;have Hg:=hide aq;have HI:=hide hr;have ax:=hide bz;clear aq hr bz dR ah
   by_cases oC:bs<n
   ·obtain⟨b2,ag⟩:∃b2,2*bs=b2:=⟨_,rfl⟩;have jB:=hide ag;have z2:IntKind.i64.wrap (2*(bs:Int))=(b2:Int):=by rw[IntWalk.i64_in _ (by omega)];omega
    have z3:IntKind.i64.wrap ((bs:Int)*2)=(b2:Int):=by rw[IntWalk.i64_in _ (by omega)];omega
    have Sd:b2≤2000000000:=by omega
    have JZ:0<b2:=by omega
    clear ag;go_wp2
    go_loopg [7,8] n (fun gj va vb wj=>∃(a:Nat) (P:List Int),gj=n-a∧a≤n∧va=.int .i64 (a:Int)∧vb=.int .i64 ((a+b2:Nat):Int)∧P.length=a∧aV wj g off pre post (P++Nf.blk bs (l.drop a))∧P++Nf.blk b2 (l.drop a)=Nf.blk b2 l∧ai g w wj)
    case atStart=>exact⟨0,[],rfl,by omega,rfl,by first|rfl|go_num | (congr 1;omega),rfl,by simpa using HI.out,by simp,ax.out⟩
    case round=>
     obtain⟨a,P,tv,R8,rfl,rfl,hP,hr,he,bz⟩:=hrel;have wS:=hide tv;have HP:=hide hP;have ja:=hide hr;have HE:=hide he;have cd:=hide bz;clear tv hP hr he bz;have zab:IntKind.i64.wrap ((a:Int)+(bs:Int))=((a+bs:Nat):Int):=by rw[IntWalk.i64_in _ (by omega)];omega
     obtain⟨m,hm⟩:∃m,a+bs=m:=⟨_,rfl⟩;obtain⟨b,hb⟩:∃b,a+b2=b:=⟨_,rfl⟩;rw[hm] at zab;rw[hb];have Hm:=hide hm;have Hb:=hide hb;have aT:(l.drop a).length=n-a:=by rw[List.length_drop,Hn.out]
     by_cases adJ:b≤n
     ·have zb:IntKind.i64.wrap ((b:Int)+(b2:Int))=((b+b2:Nat):Int):=by rw[IntWalk.i64_in _ (by omega)];omega
      have hst:=Nf.zI (bs:=bs) (l:=l.drop a) aJ (by have:=jB.out;omega);have hdd:(l.drop a).drop bs=l.drop m:=by rw[List.drop_drop,Hm.out]
      rw[hdd] at hst;have jJ:(l.drop m).length=n-m:=by rw[List.length_drop,Hn.out]
      have vN:=Nf.zI (bs:=bs) (l:=l.drop m) aJ (by have:=jB.out;omega);have Sn:(l.drop m).drop bs=l.drop b:=by rw[List.drop_drop];congr 1;have:=jB.out;omega
      rw[Sn] at vN;have xU:=Nf.zI (bs:=b2) (l:=l.drop a) JZ (by omega);have Sq:(l.drop a).drop b2=l.drop b:=by rw[List.drop_drop,Hb.out]
      rw[Sq] at xU;have oI:(l.drop a).take bs++(l.drop m).take bs=(l.drop a).take b2:=by rw[←hdd,Nf.ajY];congr 1;have:=jB.out;omega
      have l1:(Nf.aC ((l.drop a).take bs)).length=bs:=by rw[Nf.jz,List.length_take];have:=jB.out;omega
      have l2:(Nf.aC ((l.drop m).take bs)).length=bs:=by rw[Nf.jz,List.length_take,jJ];have:=jB.out;omega
      have l3:(Nf.blk bs (l.drop b)).length=n-b:=by rw[Nf.Qg,List.length_drop,Hn.out]
      have HC:=hide (Od.out P (Nf.aC ((l.drop a).take bs)) (Nf.aC ((l.drop m).take bs)) (Nf.blk bs (l.drop b)) n a m b wr (ja.out.as (by rw[hst,vN])) (by rw[HP.out,l1,l2,l3];have:=jB.out;omega) HP.out.symm (by rw[HP.out,l1];omega) (by rw[HP.out,l1,l2];have:=jB.out;omega) (by omega) (by omega) (Nat.le_refl _) (Nf.o5 _) (Nf.o5 _) hs);rw[Nf.Wp,oI] at HC;have bn:=hide (show (P++Nf.aC ((l.drop a).take b2))++Nf.blk b2 (l.drop b)=Nf.blk b2 l by rw[←HE.out,xU,List.append_assoc]);have HL:=hide (show (P++Nf.aC ((l.drop a).take b2)).length=b by rw[List.length_append,Nf.jz,List.length_take,HP.out];omega);clear hm hb aT hst hdd jJ vN Sn xU Sq oI l1 l2 l3
      go_wp2_with fail
      refine HC.out.mono ?_;rintro e w2 ⟨rfl,bu,ag⟩;have dR:=hide bu;have se:=hide (cd.out.trans ag);clear bu ag;go_wp2
      go_roundg (n-b)
      case measure=>have:=wS.out;have:=Hb.out;omega
      case rel=>exact⟨b,_,rfl,adJ,rfl,by first|rfl|go_num,HL.out,dR.out.as (by simp),bn.out,se.out⟩
     have amq:¬((a:Int)+(b2:Int)≤(n:Int)):=by omega
     by_cases vH:m<n
     ·have hst:=Nf.zI (bs:=bs) (l:=l.drop a) aJ (by omega);have hdd:(l.drop a).drop bs=l.drop m:=by rw[List.drop_drop,Hm.out]
      rw[hdd] at hst;have jJ:(l.drop m).length=n-m:=by rw[List.length_drop,Hn.out]
      have vN:=Nf.sK (bs:=bs) (l:=l.drop m) (by have:=jB.out;omega);have xU:=Nf.sK (bs:=b2) (l:=l.drop a) (by omega);have oI:(l.drop a).take bs++l.drop m=l.drop a:=by rw[←hdd,List.take_append_drop]
      have l1:(Nf.aC ((l.drop a).take bs)).length=bs:=by rw[Nf.jz,List.length_take];have:=jB.out;omega
      have l2:(Nf.aC (l.drop m)).length=n-m:=by rw[Nf.jz,jJ]
      have HC:=hide (Od.out P (Nf.aC ((l.drop a).take bs)) (Nf.aC (l.drop m)) [] n a m n wr (ja.out.as (by rw[hst,vN,List.append_nil])) (by rw[HP.out,l1,l2];simp;omega) HP.out.symm (by rw[HP.out,l1];omega) (by rw[HP.out,l1,l2];omega) (by omega) (by omega) (Nat.le_refl _) (Nf.o5 _) (Nf.o5 _) hs);rw[Nf.Wp,oI] at HC;have bn:=hide (show P++(Nf.aC (l.drop a)++[])=Nf.blk b2 l by rw[←HE.out,xU,List.append_nil]);clear hm hb aT hst hdd jJ vN xU oI l1 l2
      go_wp2_with fail
      refine HC.out.mono ?_;rintro e w2 ⟨rfl,bu,ag⟩;rw[bn.out] at bu;have dR:=hide bu;have se:=hide (cd.out.trans ag);clear bu ag;go_wp2
      go_roundg (n+1-b2)
      case measure=>have:=Hg.out;have:=jB.out;omega
      case rel=>exact⟨b2,by omega,JZ,by have:=jB.out;omega,rfl,dR.out,se.out⟩
     have bn:=hide (show P++Nf.blk bs (l.drop a)=Nf.blk b2 l by rw[←HE.out,Nf.sK (bs:=bs) (by omega),Nf.sK (bs:=b2) (by omega)]);clear hm hb aT;go_wp2
     go_roundg (n+1-b2)
     case measure=>have:=Hg.out;have:=jB.out;omega
     case rel=>exact⟨b2,by omega,JZ,by have:=jB.out;omega,rfl,ja.out.as bn.out,cd.out⟩
   go_wp2;go_end0;exact⟨rfl,HI.out.as (Nf.sK (by rw[←Hn.out];omega)),ax.out⟩
theorem ai2(l:List Int)(pre post:List Value)(g off cap n:Nat)(w:World)(h:aV w g off pre post l)(hn:n=l.length)(hs:n≤1000000000) :
  Calls Tryz.prog 154 #[.slice (some ⟨g,off,none⟩) n cap,.func (.func 155) #[] #[]] w fun e w'=>e=.returned (.tuple #[])∧aV w' g off pre post (Nf.aC l)∧ai g w w':=by
 have HS:=hide (ajq l pre post g off cap n w h hn hs);clear h hn
 go_enter Tryz.func154,Tryz.ntmps154
 go_wp2_with fail
 refine HS.out.mono ?_;rintro e w2 ⟨rfl,bu,ag⟩;have dR:=hide bu;have ah:=hide ag;clear bu ag;go_wp2;go_end0;exact⟨rfl,dR.out,ah.out⟩
end
section
open Go.RowKit

def ahX{α:Type}(B:Nat)(Kp:World→World→Prop)(I:List α→World→Prop)(xs:List α)(W:World):Exit→Act→World→Prop
 | .normal,_,W'=>KeepsFrom B W W'∧Kp W W'∧I xs W'
 | _,_,_=>False

def ua{α:Type}(Fr:World→World→Prop)(F:Fence)(n:Nat)(P:Program)(g:Nat)(lb:Array Value)(og:α→Array Value)(Kp:World→World→Prop)(Fact:α→World→Prop)(S:List α→Prop)(N:Nat)(W:World):Prop :=
 ∀(l:Nat) (J:List α→World→Prop),(∀s A B,J s A→Fr A B→J s B)→J [] W→
  (∀pre x W1,J pre W1→Fact x W1→pre.length<N→YieldAt F (n-1) P l (og x) W1 fun e W'=>e=.returned (.bool true)∧J (pre++[x]) W'∧Kp W1 W')→
  CallsIn F n P g (#[.func (.yield l) #[] #[]]++lb) W fun e W'=>(∃v,e=.returned v)∧∃xs,S xs∧J xs W'

theorem L1{α:Type}{Fr:World→World→Prop}{F:Fence}{n:Nat}{P:Program}{g:Operand}{ps:Array Tmp}{assign body:Code}{Q:Exit→Act→World→Prop}{a:Act}{w:World}(hR:∀A B,Fr A B→∀k,w.heap.size≤k→k<A.heap.size→B.heap[k]?=A.heap[k]?)
  (hro:F.round=none) (h1:1≤n) {gf:Nat} {lb:Array Value} (hg:a.eval g=.func (.func gf) #[] lb) (JD:F.fn gf) (eg:∀args w,(callFunc gf args).run P w=.ok (.enter gf args) w)
  {og:α→Array Value} {Kp:World→World→Prop} {Fact:α→World→Prop} {S:List α→Prop} {N:Nat} (cZ:∀x,(og x).size=ps.size)
  (KI:∀o o',ua Fr F (n-1) P gf lb og Kp Fact S N ((w.alloc o).alloc o'))
  (xu:∀{A B C:World},Kp A B→Kp B C→Kp A C) (vd:∀(W:World) (o o':Obj),W.heap[w.heap.size+1]?=some o'→o'.isCells=false→Kp W (W.putObj (w.heap.size+1) o))
  (I:List α→World→Prop) (JG:∀s W o o',I s W→W.heap[w.heap.size+1]?=some o'→o'.isCells=false→I s (W.putObj (w.heap.size+1) o)) (pI:∀s A B,I s A→Fr A B→I s B)
  (hF:∀x W o,Fact x W→Fact x (W.putObj (w.heap.size+1) o)) (h0:∀o o',I [] ((w.alloc o).alloc o')) (a₁:α→Act)
  (JY:∀(l:Nat) (x:α) (W:World) (K:Act→World→Prop),K (a₁ x) W→
   assign.wpIn (F.inRound l) (n-1-1) P (Exit.then K (fun _ _ _=>False)) { tmps:=(ps.zip (og x)).foldl (fun t (p,v)=>t.setIfInBounds p v) a.tmps,defers:=[] } W)
  (J2:∀(l:Nat) (pre:List α) (x:α) (W:World),I pre W→Fact x W→pre.length<N→w.heap.size+2≤W.heap.size→body.wpIn (F.inRound l) (n-1-1) P (ahX w.heap.size Kp I (pre++[x]) W) (a₁ x) W)
  (hdone:∀(D:Nat) (xs:List α) (W:World),D=w.heap.size→S xs→I xs W→W.heap[D]?=some (.deferred (some []))→Q .normal { a with defers:={ target:=.collected D,args:=#[] } :: a.defers } W) :
  (Code.rangeFunc g ps assign body).wpIn F n P Q a w:=by
 refine wpIn_rangeFunc fun fn vy=>?_;rw[hro]
 let D:=w.heap.size
 let r0:Loop:={ state:=.ready,pending:=none,fn,tmps:=a.tmps,params:=ps,assign,body,defers:=D }
 let r1:Loop:={ state:=.busy,pending:=none,fn,tmps:=a.tmps,params:=ps,assign,body,defers:=D }
 let W0:=(w.alloc (.deferred (some []))).alloc (.loop r0)
 have hsz:W0.heap.size=D+2:=by show ((w.alloc _).alloc _).heap.size=_;simp[D]
 have qY:W0.heap[D+1]?=some (.loop r0):=by
  have:=World.alloc_heap_new (w.alloc (.deferred (some []))) (.loop r0);rwa[World.size_alloc] at this
 have oz:W0.heap[D]?=some (.deferred (some [])):=(Below.heap_alloc _ _ _ (by simp[D])).trans (World.alloc_heap_new w _)
 refine⟨D+1,[{ target:=.collected D,args:=#[] }],W0,{ target:=.fn (.func gf) lb,args:=#[.func (.yield (D+1)) #[] #[]] },W0,gf,#[.func (.yield (D+1)) #[] #[]]++lb,W0,
  run_enterLoop_outer _ _ _ _ _,by simp only[resolve,hg];simp[go_sem],fun f' vx=>by simp[Target.leads] at vx;subst vx;exact JD,by simp[invoke,go_sem,eg],fun _=>h1,?_⟩
 have Ug:∀{A B:World} {k:Nat} {o:Obj},Fr A B→A.heap[k]?=some o→D≤k→B.heap[k]?=some o:=fun hb hk hlt=>
  (hR _ _ hb _ hlt (Array.getElem?_eq_some_iff.1 hk).1).trans hk
 refine (KI _ _ (D+1) (fun pre W=>I pre W∧W.heap[D+1]?=some (.loop r0)∧W.heap[D]?=some (.deferred (some [])))
  (fun s A B h hb=>⟨pI s A B h.1 hb,Ug hb h.2.1 (by omega),Ug hb h.2.2 (Nat.le_refl _)⟩) ⟨h0 _ _,qY,oz⟩ ?_).mono ?_
 ·rintro pre x W ⟨hi,hl,hd⟩ hf hlen;have hlt:D+1<W.heap.size:=(Array.getElem?_eq_some_iff.1 hl).1;have hy:=run_yield (P:=P) (args:=og x) hl (cZ x);refine⟨fn,_,assign,body,hy,roundIn_of_wpIn vy (JY _ x W _ ⟨_,run_beginRound hl rfl,?_⟩)⟩;have mA:(W.putObj (D+1) (.loop r1)).heap[D+1]?=some (.loop r1):=World.putObj_heap_same hlt;have bK:(W.putObj (D+1) (.loop r1)).heap[D]?=some (.deferred (some [])):=(World.putObj_heap_other (by omega)).trans hd;refine wpIn_mono (J2 _ pre x _ (JG _ _ _ _ hi hl rfl) (hF _ _ _ hf) hlen (by show D+2≤(W.heap.setIfInBounds _ _).size;rw[Array.size_setIfInBounds];omega)) ?_;rintro e a3 W3 hp
  cases e with
  | normal=>
   obtain⟨aK,jI,oB⟩:=hp;have fq:=aK.same _ _ (by omega) mA rfl;have gU:=aK.same _ _ (Nat.le_refl _) bK rfl;have oC:=(Array.getElem?_eq_some_iff.1 fq).1;have he:=run_endRound (P:=P) none fq;exact⟨_,_,he,rfl,⟨JG _ _ _ _ oB fq rfl,World.putObj_heap_same oC,(World.putObj_heap_other (by omega)).trans gU⟩,xu (xu (vd _ _ _ hl rfl) jI) (vd _ _ _ fq rfl)⟩
  | ret=>exact hp.elim
  | exit id=>exact hp.elim
  | goto t=>exact hp.elim
  | panic ch=>exact hp.elim
  | outgrown=>exact hp.elim
 rintro e W2 ⟨⟨v,rfl⟩,xs,hS,hi,hl,hd⟩;have hlt:=(Array.getElem?_eq_some_iff.1 hl).1;exact⟨none,_,run_endLoop (P:=P) hl (by simp[r0]),hdone D xs _ rfl hS (JG _ _ _ _ hi hl rfl) ((World.putObj_heap_other (by omega)).trans hd)⟩
end
end Go.Proofs.YtifiiojchlaghaaGreatDoor
