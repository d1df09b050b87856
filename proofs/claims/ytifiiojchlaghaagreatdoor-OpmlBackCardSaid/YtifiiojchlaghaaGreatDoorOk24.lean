/- NFC: slices.symMergeCmpFunc by classes: the general case. Printed by genNfM.py. And more. -/
import Derived.Test.YtifiiojchlaghaaGreatDoorOk02
import Derived.Test.YtifiiojchlaghaaGreatDoorOk23
import Derived.Deep.DeepCutAuto
import Derived.RangeFuncNested
set_option linter.unusedSimpArgs false
set_option maxRecDepth 100000
set_option maxHeartbeats 16000000
set_option linter.unusedVariables false
namespace Go.Proofs.YtifiiojchlaghaaGreatDoor
section
open Go.RowKit Go.WideShapes

namespace Nf
theorem sortR_or{u v:List Int}(h:Up u)(k:Up v)(e:u=[]∨v=[]):sortR (u++v)=u++v:=by
 rcases e with rfl|rfl
 ·exact sortR_self k
 rw[List.append_nil];exact sortR_self h
theorem sortR_two{u1 u2 v1 v2:List Int}(hu:Up (u1++u2))(hv:Up (v1++v2))(h1:∀x∈u2,∀y∈v1,cls y<cls x)(h2:∀x∈u1,∀y∈v2,cls x≤cls y):sortR (u1++v1)++sortR (u2++v2)=sortR ((u1++u2)++(v1++v2)):=by
 refine sortR_is ?_ ?_
 ·refine Up.app (sortR_up _) (sortR_up _) ?_;intro x hx y hy;rw[(sortR_same _).mem] at hx hy
  rcases List.mem_append.1 hx with hx|hx<;>rcases List.mem_append.1 hy with hy|hy
  ·exact hu.cross hx hy
  ·exact h2 x hx y hy
  ·exact Int.le_of_lt (h1 y hy x hx)
  exact hv.cross hx hy
 have e1:(u1++u2)++(v1++v2)=u1++((u2++v1)++v2):=by simp
 have e2:(u1++v1)++(u2++v2)=u1++((v1++u2)++v2):=by simp
 have k1:Same ((u1++u2)++(v1++v2)) ((u1++v1)++(u2++v2)):=by
  rw[e1,e2];exact (Same.refl _).app ((same_rot (fun x hx y hy=>by have:=h1 x hx y hy;omega)).app (Same.refl _))
 exact k1.trans ((sortR_same _).app (sortR_same _))
end Nf
def MergeSays(N:Nat):Prop:=∀(A u v B:List Int) (pre post:List Value) (g off cap n a m b:Nat) (w:World),SRow w g off pre post (A++(u++(v++B)))→n=A.length+u.length+v.length+B.length→
  a=A.length→m=A.length+u.length→b=A.length+u.length+v.length→0<u.length→0<v.length→u.length+v.length≤N→Nf.Up u→Nf.Up v→n≤1000000000→
  Calls Tryz.prog 200 #[.slice (some ⟨g,off,none⟩) n cap,.int .i64 a,.int .i64 m,.int .i64 b,.func (.func 155) #[] #[]] w fun e w'=>e=.returned (.tuple #[])∧SRow w' g off pre post (A++(Nf.sortR (u++v)++B))∧But g w w'
structure Srch(u v:List Int)(a m nn lo hi st r:Nat):Prop where
 lo_:lo≤st
 le:st≤r
 hi_:r≤hi
 left:st=lo∨∃x y,u[st-1-a]?=some x∧v[nn-st-m]?=some y∧Nf.cls x≤Nf.cls y
 right:r=hi∨∃x y,u[r-a]?=some x∧v[nn-1-r-m]?=some y∧Nf.cls y<Nf.cls x
theorem mem_take_of{l:List Int}{k:Nat}{z:Int}(h:z∈l.take k):∃i,i<k∧l[i]?=some z:=by
 obtain⟨i,hi,e⟩:=List.mem_take_iff_getElem.1 h;exact⟨i,by omega,List.getElem?_eq_some_iff.2 ⟨_,e⟩⟩
theorem mem_drop_of{l:List Int}{k:Nat}{z:Int}(h:z∈l.drop k):∃i,k≤i∧l[i]?=some z:=by
 obtain⟨i,hi,e⟩:=List.mem_drop_iff_getElem.1 h;exact⟨k+i,by omega,List.getElem?_eq_some_iff.2 ⟨_,e⟩⟩
theorem Srch.done{u v:List Int}{a m b nn mid lo hi st:Nat}(h:Srch u v a m nn lo hi st st)(hu:Nf.Up u)(hv:Nf.Up v)(hm:m=a+u.length)(hb:b=m+v.length)(hmid:mid=(a+b) / 2)(hnn:nn=mid+m)
  (hlh:mid<m∧lo=nn-b∧hi=mid∨m≤mid∧lo=a∧hi=m) :
  (∀x∈u.drop (st-a),∀y∈v.take (nn-st-m),Nf.cls y<Nf.cls x)∧∀x∈u.take (st-a),∀y∈v.drop (nn-st-m),Nf.cls x≤Nf.cls y:=by
 obtain⟨l0,_,l1,hl,hr⟩:=h
 constructor
 ·intro x hx y hy;obtain⟨i,hi1,ei⟩:=mem_drop_of hx;obtain⟨j,hj1,ej⟩:=mem_take_of hy;have:=(List.getElem?_eq_some_iff.1 ei).1;clear hl
  rcases hr with e|⟨x0,y0,ex,ey,hc⟩
  ·omega
  have h1:=hu.at_ ex ei hi1;have h2:=hv.at_ ej ey (by omega);omega
 intro x hx y hy;obtain⟨i,hi1,ei⟩:=mem_take_of hx;obtain⟨j,hj1,ej⟩:=mem_drop_of hy;have:=(List.getElem?_eq_some_iff.1 ej).1;clear hr
 rcases hl with e|⟨x0,y0,ex,ey,hc⟩
 ·omega
 have h1:=hu.at_ ei ex (by omega);have h2:=hv.at_ ey ej hj1;omega
theorem srch_rg{a b m mid nn p lo0 lo hi:Nat}(hmid:mid=(a+b) / 2)(hnn:nn=mid+m)(hp:nn-1=p)(h0:nn-b=lo0)(ham:a+1<m)(hmb:m+1<b)(hlh:mid<m∧lo=lo0∧hi=mid∨m≤mid∧lo=a∧hi=m) :
  (a≤lo∧hi≤m∧lo≤hi)∧∀c,lo≤c→c<hi→c<p∧m≤p-c∧p-c<b:=by
 rcases hlh with ⟨h1,h2,h3⟩|⟨h1,h2,h3⟩
 ·exact⟨⟨by omega,by omega,by omega⟩,fun c h4 h5=>by omega⟩
 exact⟨⟨by omega,by omega,by omega⟩,fun c h4 h5=>by omega⟩
theorem srch_end{a b m mid nn lo0 lo hi st en:Nat}(hmid:mid=(a+b) / 2)(hnn:nn=mid+m)(h0:nn-b=lo0)(ham:a+1<m)(hmb:m+1<b)(hlh:mid<m∧lo=lo0∧hi=mid∨m≤mid∧lo=a∧hi=m)(h1:lo≤st)(h2:st≤hi)(he:nn-st=en) :
  (a≤st∧st≤m)∧(m≤en∧en≤b)∧en+st=mid+m:=by
 rcases hlh with ⟨h3,h4,h5⟩|⟨h3,h4,h5⟩
 ·exact⟨⟨by omega,by omega⟩,⟨by omega,by omega⟩,by omega⟩
 exact⟨⟨by omega,by omega⟩,⟨by omega,by omega⟩,by omega⟩
theorem symMerge3_any(N:Nat)(hIH:MergeSays N)(A u v B:List Int)(pre post:List Value)(g off cap n a m b:Nat)(w:World)(h:SRow w g off pre post (A++(u++(v++B))))(hn:n=A.length+u.length+v.length+B.length)
  (ha:a=A.length) (hm:m=A.length+u.length) (hb:b=A.length+u.length+v.length) (hu:1<u.length) (hv:1<v.length) (hN:u.length+v.length≤N+1) (hup:Nf.Up u) (hvp:Nf.Up v) (hs:n≤1000000000) :
  Calls Tryz.prog 200 #[.slice (some ⟨g,off,none⟩) n cap,.int .i64 a,.int .i64 m,.int .i64 b,.func (.func 155) #[] #[]] w fun e w'=>e=.returned (.tuple #[])∧SRow w' g off pre post (A++(Nf.sortR (u++v)++B))∧But g w w':=by
 have HR:=hide h;have HIH:=hide hIH;have Hn:=hide hn;have Ha:=hide ha;have Hm:=hide hm;have Hb:=hide hb;have HU:=hide hup;have HV:=hide hvp;have HN:=hide hN;have hbn:b≤n:=by omega
 have ham:a+1<m:=by omega
 have hmb:m+1<b:=by omega
 have HC:=hide (fun x y W=>byClass_any x y W);obtain⟨lu,hlu⟩:∃lu,u.length=lu:=⟨_,rfl⟩;obtain⟨lv,hlv⟩:∃lv,v.length=lv:=⟨_,rfl⟩;have Hlu:=hide hlu;have Hlv:=hide hlv;have z0:IntKind.i64.wrap ((m:Int)-(a:Int))=(lu:Int):=by rw[IntWalk.i64_in _ (by omega)];omega
 have hlu1:((lu:Int)==1)=false:=by
  have:¬(lu:Int)=1:=by omega
  simpa using this
 have z00:IntKind.i64.wrap ((b:Int)-(m:Int))=(lv:Int):=by rw[IntWalk.i64_in _ (by omega)];omega
 have hlv1:((lv:Int)==1)=false:=by
  have:¬(lv:Int)=1:=by omega
  simpa using this
 obtain⟨mid,hmid⟩:∃mid,mid=(a+b) / 2:=⟨_,rfl⟩;have Hmid:=hide hmid;have z1:((a:Int)+(b:Int)) / 2=(mid:Int):=by omega
 obtain⟨nn,hnn⟩:∃nn,nn=mid+m:=⟨_,rfl⟩;have Hnn:=hide hnn;have z2:IntKind.i64.wrap ((mid:Int)+(m:Int))=(nn:Int):=by rw[IntWalk.i64_in _ (by omega)];omega
 have z3:IntKind.i64.wrap ((nn:Int)-1)=((nn-1:Nat):Int):=by rw[IntWalk.i64_in _ (by omega)];omega
 obtain⟨p,hp⟩:∃p,nn-1=p:=⟨_,rfl⟩;rw[hp] at z3;have Hp:=hide hp;obtain⟨lo0,hlo0⟩:∃p,nn-b=p:=⟨_,rfl⟩;have Z4:=hide (show mid<m→IntKind.i64.wrap ((nn:Int)-(b:Int))=(lo0:Int) from fun h=>by rw[IntWalk.i64_in _ (by omega)];omega);have hmidlt:a<mid∧mid<b:=by omega
 obtain⟨lo,hi,hlh⟩:∃lo hi,mid<m∧lo=lo0∧hi=mid∨m≤mid∧lo=a∧hi=m:=by
  by_cases h:mid<m
  ·exact⟨lo0,mid,.inl ⟨h,rfl,rfl⟩⟩
  exact⟨a,m,.inr ⟨by omega,rfl,rfl⟩⟩
 have Hlh:=hide hlh;obtain⟨⟨hal,him,hloh⟩,hrg⟩:=srch_rg hmid hnn hp hlo0 ham hmb hlh;have HRg:=hide hrg;clear hrg;have Hlo0:=hide hlo0;clear h hn ha hm hb hu hup hvp hv hN hlu hlv hmid hnn hp hlo0 hIH
 go_enter Tryz.func200,Tryz.ntmps200
 go_upto_if 140 with fail
 go_cut [20,21] (fun s r wx=>s=.int .i64 (lo:Int)∧r=.int .i64 (hi:Int)∧wx=w)
 case first=>
  rcases hlh with ⟨h1,rfl,rfl⟩|⟨h1,rfl,rfl⟩
  ·have z4:=Z4.out h1;go_wp2
   go_meet
   exact⟨rfl,rfl,rfl⟩
  go_wp2
  go_meet
  exact⟨rfl,rfl,rfl⟩
 case rest=>
  obtain⟨rfl,rfl,hwc⟩:=hcut;have hwc:=hwc.symm;subst hwc;clear hlh;go_wp2
  go_loopg [20,21] (hi-lo) (fun gk vs vr wr=>∃(st r:Nat),gk=r-st∧vs=.int .i64 (st:Int)∧vr=.int .i64 (r:Int)∧Srch u v a m nn lo hi st r∧SRow wr g off pre post (A++(u++(v++B)))∧But g w wr)
  case atStart=>exact⟨lo,hi,rfl,rfl,rfl,⟨Nat.le_refl _,hloh,Nat.le_refl _,.inl rfl,.inl rfl⟩,HR.out,But.refl _ _⟩
  case round=>
   obtain⟨st,r,hgk,rfl,rfl,hsr,hr,hbt⟩:=hrel;have Hg:=hide hgk;have HI:=hide hr;have HB:=hide hbt;have HS:=hide hsr;have hlst:=hsr.lo_;have hstr:=hsr.le;have hrhi:=hsr.hi_;clear hgk hr hbt hsr
   by_cases hlt:st<r
   ·have hsum:IntKind.i64.wrap ((st:Int)+(r:Int))=((st+r:Nat):Int):=by rw[IntWalk.i64_in _ (by omega)];omega
    obtain⟨d,hd⟩:∃d,(st+r) / 2=d:=⟨_,rfl⟩;have hdz:((st:Int)+(r:Int)) / 2=(d:Int):=by omega
    have hid:st≤d:=by omega
    have hdj:d<r:=by omega
    obtain⟨g1,g2,g3⟩:=HRg.out d (by omega) (by omega);have hdn:d<n:=by omega
    obtain⟨pd,hpd⟩:∃pd,p-d=pd:=⟨_,rfl⟩;have zpd:IntKind.i64.wrap ((p:Int)-(d:Int))=(pd:Int):=by rw[IntWalk.i64_in _ (by omega)];omega
    rw[hpd] at g2 g3;have hpdn:pd<n:=by omega
    obtain⟨x,hx⟩:∃x,u[d-a]?=some x:=⟨_,List.getElem?_eq_getElem (by have:=Hm.out;have:=Ha.out;omega)⟩;obtain⟨y,hy⟩:∃y,v[pd-m]?=some y:=⟨_,List.getElem?_eq_getElem (by have:=Hm.out;have:=Hb.out;omega)⟩;have c1:wr.cell? ⟨g,off+d,none⟩=some (.int .i64 x):=HI.out.at_ (by rw[List.getElem?_append_right (by have:=Ha.out;omega),←Ha.out,List.getElem?_append_left (List.getElem?_eq_some_iff.1 hx).1];exact hx);have c2:wr.cell? ⟨g,off+pd,none⟩=some (.int .i64 y):=HI.out.at_ (by rw[List.getElem?_append_right (by have:=Hm.out;omega),List.getElem?_append_right (by have:=Hm.out;omega),show pd-A.length-u.length=pd-m by have:=Hm.out;omega,List.getElem?_append_left (List.getElem?_eq_some_iff.1 hy).1];exact hy);obtain⟨q,hq⟩:∃q,Nf.cls y-Nf.cls x=q:=⟨_,rfl⟩;have HC1:=hide (fun W=>HC.out y x W);rw[hq] at HC1;have Hq:=hide hq;have Hx:=hide hx;have Hy:=hide hy;have Hpd:=hide hpd;clear hq hx hy hd hsum hpd
    by_cases hc:q<0
    ·have hd3:decide (q<0)=true:=decide_eq_true hc
     go_wp2_with fail
     go_quiet ((go_at_call 155;refine Calls.quiet_of_same (HC1.out _)))
     have HBW:=hide (show But g w (wr.drewN nq) from⟨HB.out.os,HB.out.tape,HB.out.output,HB.out.size,HB.out.block⟩);have HRW:=hide (HI.out.drewN nq);generalize wr.drewN nq=W at HRW HBW ⊢;clear c1 c2;go_wp2
     go_roundg (d-st)
     case measure=>have:=Hg.out;omega
     case rel=>
      refine⟨st,d,rfl,rfl,rfl,⟨hlst,hid,by omega,HS.out.left,.inr ⟨x,y,Hx.out,?_,by have:=Hq.out;omega⟩⟩,HRW.out,HBW.out⟩;rw[show nn-1-d-m=pd-m by have:=Hpd.out;have:=Hp.out;omega];exact Hy.out
    have hd3:decide (q<0)=false:=decide_eq_false hc;have zd:IntKind.i64.wrap ((d:Int)+1)=((d+1:Nat):Int):=by rw[IntWalk.i64_in _ (by omega)];omega
    go_wp2_with fail
    go_quiet ((go_at_call 155;refine Calls.quiet_of_same (HC1.out _)))
    have HBW:=hide (show But g w (wr.drewN nq) from⟨HB.out.os,HB.out.tape,HB.out.output,HB.out.size,HB.out.block⟩);have HRW:=hide (HI.out.drewN nq);generalize wr.drewN nq=W at HRW HBW ⊢;clear c1 c2;go_wp2
    go_roundg (r-(d+1))
    case measure=>have:=Hg.out;omega
    case rel=>
     refine⟨d+1,r,rfl,by first|rfl|go_num,rfl,⟨by omega,by omega,hrhi,.inr ⟨x,y,?_,?_,by have:=Hq.out;omega⟩,HS.out.right⟩,HRW.out,HBW.out⟩
     ·rw[Nat.add_sub_cancel];exact Hx.out
     rw[show nn-(d+1)-m=pd-m by have:=Hpd.out;have:=Hp.out;omega];exact Hy.out
   have hrr:r=st:=by omega
   subst hrr;have hsplit:=HS.out.done (b:=b) (mid:=mid) HU.out HV.out (by have:=Hm.out;have:=Ha.out;omega) (by have:=Hm.out;have:=Hb.out;omega) Hmid.out Hnn.out (by have:=Hlh.out;have:=Hlo0.out;omega);obtain⟨en,hen⟩:∃en,nn-r=en:=⟨_,rfl⟩;obtain⟨⟨k1,k2⟩,⟨k3,k4⟩,k5⟩:=srch_end Hmid.out Hnn.out Hlo0.out ham hmb Hlh.out hlst hrhi hen;rw[show nn-r-m=en-m by rw[hen]] at hsplit;have hu1:(u.take (r-a)).length=r-a:=by rw[List.length_take];have:=Hm.out;have:=Ha.out;omega
   have hu2:(u.drop (r-a)).length=m-r:=by rw[List.length_drop];have:=Hm.out;have:=Ha.out;omega
   have hv1:(v.take (en-m)).length=en-m:=by rw[List.length_take];have:=Hm.out;have:=Hb.out;omega
   have hv2:(v.drop (en-m)).length=b-en:=by rw[List.length_drop];have:=Hm.out;have:=Hb.out;omega
   have eu:=List.take_append_drop (r-a) u;have ev:=List.take_append_drop (en-m) v;have HUU:=HU.out;have HVV:=HV.out;rw[←eu] at HUU;rw[←ev] at HVV;have HF:=hide (Nf.sortR_two HUU HVV hsplit.1 hsplit.2);rw[eu,ev] at HF;have HL0:=hide (HI.out.as (show A++(u++(v++B))=A++(u.take (r-a)++(u.drop (r-a)++(v.take (en-m)++(v.drop (en-m)++B)))) by rw[←List.append_assoc (v.take _),ev,←List.append_assoc (u.take _),eu]));have Hlen:=hide (show (u.take (r-a)).length+(v.take (en-m)).length≤N∧(u.drop (r-a)).length+(v.drop (en-m)).length≤N by rw[hu1,hu2,hv1,hv2];have:=HN.out;have:=Hm.out;have:=Ha.out;have:=Hb.out;have:=Hmid.out;omega);generalize u.take (r-a)=u1 at *
   generalize u.drop (r-a)=u2 at *
   generalize v.take (en-m)=v1 at *
   generalize v.drop (en-m)=v2 at *
   have U1:=hide hu1;have U2:=hide hu2;have V1:=hide hv1;have V2:=hide hv2;have zen:IntKind.i64.wrap ((nn:Int)-(r:Int))=(en:Int):=by rw[IntWalk.i64_in _ (by omega)];omega
   have hAn:n=A.length+u1.length+u2.length+v1.length+v2.length+B.length:=by have:=Hn.out;have:=congrArg List.length eu;have:=congrArg List.length ev;rw[List.length_append] at *;omega
   have uu1:=HUU.left;have uu2:=HUU.right;have vv1:=HVV.left;have vv2:=HVV.right;have HRot:=hide (fun (W:World) (h:SRow W g off pre post (A++(u1++(u2++(v1++(v2++B)))))) (h1:r<m) (h2:m<en)=>rotate_any (A++u1) u2 v1 (v2++B) pre post g off cap n r m en (.func (.func 155) #[] #[]) W (h.as (by simp)) (by simp only[List.length_append];omega) (by rw[List.length_append,hu1,←Ha.out];omega) (by rw[List.length_append,hu1,hu2,←Ha.out];omega) (by rw[List.length_append,hu1,hu2,hv1,←Ha.out];omega) (by omega) (by omega) hs);have HLft:=hide (fun (W:World) (h:SRow W g off pre post (A++(u1++(v1++(u2++(v2++B)))))) (h1:a<r) (h2:r<mid)=>HIH.out A u1 v1 (u2++(v2++B)) pre post g off cap n a r mid W h (by simp only[List.length_append];omega) Ha.out (by rw[hu1,←Ha.out];omega) (by rw[hu1,hv1,←Ha.out];omega) (by omega) (by omega) Hlen.out.1 uu1 vv1 hs)
   have HRgt:=hide (fun (W:World) (h:SRow W g off pre post (A++(Nf.sortR (u1++v1)++(u2++(v2++B))))) (h1:mid<en) (h2:en<b)=>HIH.out (A++Nf.sortR (u1++v1)) u2 v2 B pre post g off cap n mid en b W (h.as (by simp)) (by rw[List.length_append,Nf.sortR_len,List.length_append];omega) (by rw[List.length_append,Nf.sortR_len,List.length_append,hu1,hv1,←Ha.out];omega) (by rw[List.length_append,Nf.sortR_len,List.length_append,hu1,hv1,hu2,←Ha.out];omega) (by rw[List.length_append,Nf.sortR_len,List.length_append,hu1,hv1,hu2,hv2,←Ha.out];omega) (by omega) (by omega) Hlen.out.2 uu2 vv2 hs);have S1:=hide (fun (h:u1=[]∨v1=[])=>Nf.sortR_or uu1 vv1 h);have S2:=hide (fun (h:u2=[]∨v2=[])=>Nf.sortR_or uu2 vv2 h);clear hsplit hu1 hu2 hv1 hv2 eu ev HUU HVV hAn uu1 uu2 vv1 vv2 hen hlst hrhi hlt hloh hal him
   rcases (by omega:r=a∨(a<r∧r<m)∨(a<r∧r=m)) with q1|q1|q1
   ·rcases (by omega:en=m∨(m<en∧en<b)∨(m<en∧en=b)) with q2|q2|q2
    ·exfalso;omega
    ·have d1:(r:Int)<(m:Int):=by omega
     have d2:(m:Int)<(en:Int):=by omega
     have d3:¬(a:Int)<(r:Int):=by omega
     have d4:(r:Int)<(mid:Int):=by omega
     have d5:(mid:Int)<(en:Int):=by omega
     have d6:(en:Int)<(b:Int):=by omega
     have n1:u1=[]:=List.eq_nil_of_length_eq_zero (by have:=U1.out;omega);clear q1 q2
     go_wp2_with fail
     refine (HRot.out _ HL0.out (by omega) (by omega)).mono ?_;rintro e w1 ⟨rfl,hr1,hb1⟩;have R1:=hide (hr1.as (show _=A++(u1++(v1++(u2++(v2++B)))) by simp));have B1:=hide (HB.out.trans hb1);clear hr1 hb1;have R2:=hide (R1.out.as (show _=A++(Nf.sortR (u1++v1)++(u2++(v2++B))) by rw[S1.out (by left;exact n1)]<;>simp));have B2:=hide B1.out
     go_wp2_with fail
     refine (HRgt.out _ R2.out (by omega) (by omega)).mono ?_;rintro e w3 ⟨rfl,hr3,hb3⟩;have R3:=hide (hr3.as (show _=A++(Nf.sortR (u1++v1)++(Nf.sortR (u2++v2)++B)) by simp));have B3:=hide (B2.out.trans hb3);clear hr3 hb3;clear n1;go_wp2;go_end0;exact⟨rfl,R3.out.as (by rw[←HF.out];simp),B3.out⟩
    have d1:(r:Int)<(m:Int):=by omega
    have d2:(m:Int)<(en:Int):=by omega
    have d3:¬(a:Int)<(r:Int):=by omega
    have d4:(r:Int)<(mid:Int):=by omega
    have d5:(mid:Int)<(en:Int):=by omega
    have d6:¬(en:Int)<(b:Int):=by omega
    have n1:u1=[]:=List.eq_nil_of_length_eq_zero (by have:=U1.out;omega);have n4:v2=[]:=List.eq_nil_of_length_eq_zero (by have:=V2.out;omega);clear q1 q2
    go_wp2_with fail
    refine (HRot.out _ HL0.out (by omega) (by omega)).mono ?_;rintro e w1 ⟨rfl,hr1,hb1⟩;have R1:=hide (hr1.as (show _=A++(u1++(v1++(u2++(v2++B)))) by simp));have B1:=hide (HB.out.trans hb1);clear hr1 hb1;have R2:=hide (R1.out.as (show _=A++(Nf.sortR (u1++v1)++(u2++(v2++B))) by rw[S1.out (by left;exact n1)]<;>simp));have B2:=hide B1.out;have R3:=hide (R2.out.as (show _=A++(Nf.sortR (u1++v1)++(Nf.sortR (u2++v2)++B)) by rw[S2.out (by right;exact n4)]<;>simp));have B3:=hide B2.out;clear n1 n4;go_wp2;go_end0;exact⟨rfl,R3.out.as (by rw[←HF.out];simp),B3.out⟩
   ·rcases (by omega:en=m∨(m<en∧en<b)∨(m<en∧en=b)) with q2|q2|q2
    ·have d1:(r:Int)<(m:Int):=by omega
     have d2:¬(m:Int)<(en:Int):=by omega
     have d3:(a:Int)<(r:Int):=by omega
     have d4:¬(r:Int)<(mid:Int):=by omega
     have d5:(mid:Int)<(en:Int):=by omega
     have d6:(en:Int)<(b:Int):=by omega
     have n3:v1=[]:=List.eq_nil_of_length_eq_zero (by have:=V1.out;omega);clear q1 q2;have R1:=hide (HL0.out.as (show _=A++(u1++(v1++(u2++(v2++B)))) by rw[n3]<;>simp));have B1:=hide HB.out;have R2:=hide (R1.out.as (show _=A++(Nf.sortR (u1++v1)++(u2++(v2++B))) by rw[S1.out (by right;exact n3)]<;>simp));have B2:=hide B1.out
     go_wp2_with fail
     refine (HRgt.out _ R2.out (by omega) (by omega)).mono ?_;rintro e w3 ⟨rfl,hr3,hb3⟩;have R3:=hide (hr3.as (show _=A++(Nf.sortR (u1++v1)++(Nf.sortR (u2++v2)++B)) by simp));have B3:=hide (B2.out.trans hb3);clear hr3 hb3;clear n3;go_wp2;go_end0;exact⟨rfl,R3.out.as (by rw[←HF.out];simp),B3.out⟩
    ·have d1:(r:Int)<(m:Int):=by omega
     have d2:(m:Int)<(en:Int):=by omega
     have d3:(a:Int)<(r:Int):=by omega
     have d4:(r:Int)<(mid:Int):=by omega
     have d5:(mid:Int)<(en:Int):=by omega
     have d6:(en:Int)<(b:Int):=by omega
     clear q1 q2
     go_wp2_with fail
     refine (HRot.out _ HL0.out (by omega) (by omega)).mono ?_;rintro e w1 ⟨rfl,hr1,hb1⟩;have R1:=hide (hr1.as (show _=A++(u1++(v1++(u2++(v2++B)))) by simp));have B1:=hide (HB.out.trans hb1);clear hr1 hb1
     go_wp2_with fail
     refine (HLft.out _ R1.out (by omega) (by omega)).mono ?_;rintro e w2 ⟨rfl,hr2,hb2⟩;have R2:=hide hr2;have B2:=hide (B1.out.trans hb2);clear hr2 hb2
     go_wp2_with fail
     refine (HRgt.out _ R2.out (by omega) (by omega)).mono ?_;rintro e w3 ⟨rfl,hr3,hb3⟩;have R3:=hide (hr3.as (show _=A++(Nf.sortR (u1++v1)++(Nf.sortR (u2++v2)++B)) by simp));have B3:=hide (B2.out.trans hb3);clear hr3 hb3;go_wp2;go_end0;exact⟨rfl,R3.out.as (by rw[←HF.out];simp),B3.out⟩
    have d1:(r:Int)<(m:Int):=by omega
    have d2:(m:Int)<(en:Int):=by omega
    have d3:(a:Int)<(r:Int):=by omega
    have d4:(r:Int)<(mid:Int):=by omega
    have d5:(mid:Int)<(en:Int):=by omega
    have d6:¬(en:Int)<(b:Int):=by omega
    have n4:v2=[]:=List.eq_nil_of_length_eq_zero (by have:=V2.out;omega);clear q1 q2
    go_wp2_with fail
    refine (HRot.out _ HL0.out (by omega) (by omega)).mono ?_;rintro e w1 ⟨rfl,hr1,hb1⟩;have R1:=hide (hr1.as (show _=A++(u1++(v1++(u2++(v2++B)))) by simp));have B1:=hide (HB.out.trans hb1);clear hr1 hb1
    go_wp2_with fail
    refine (HLft.out _ R1.out (by omega) (by omega)).mono ?_;rintro e w2 ⟨rfl,hr2,hb2⟩;have R2:=hide hr2;have B2:=hide (B1.out.trans hb2);clear hr2 hb2;have R3:=hide (R2.out.as (show _=A++(Nf.sortR (u1++v1)++(Nf.sortR (u2++v2)++B)) by rw[S2.out (by right;exact n4)]<;>simp));have B3:=hide B2.out;clear n4;go_wp2;go_end0;exact⟨rfl,R3.out.as (by rw[←HF.out];simp),B3.out⟩
   rcases (by omega:en=m∨(m<en∧en<b)∨(m<en∧en=b)) with q2|q2|q2
   ·have d1:¬(r:Int)<(m:Int):=by omega
    have d2:¬(m:Int)<(en:Int):=by omega
    have d3:(a:Int)<(r:Int):=by omega
    have d4:¬(r:Int)<(mid:Int):=by omega
    have d5:¬(mid:Int)<(en:Int):=by omega
    have d6:(en:Int)<(b:Int):=by omega
    have n2:u2=[]:=List.eq_nil_of_length_eq_zero (by have:=U2.out;omega);have n3:v1=[]:=List.eq_nil_of_length_eq_zero (by have:=V1.out;omega);clear q1 q2;have R1:=hide (HL0.out.as (show _=A++(u1++(v1++(u2++(v2++B)))) by rw[n2]<;>simp));have B1:=hide HB.out;have R2:=hide (R1.out.as (show _=A++(Nf.sortR (u1++v1)++(u2++(v2++B))) by rw[S1.out (by right;exact n3)]<;>simp));have B2:=hide B1.out;have R3:=hide (R2.out.as (show _=A++(Nf.sortR (u1++v1)++(Nf.sortR (u2++v2)++B)) by rw[S2.out (by left;exact n2)]<;>simp));have B3:=hide B2.out;clear n2 n3;go_wp2;go_end0;exact⟨rfl,R3.out.as (by rw[←HF.out];simp),B3.out⟩
   ·have d1:¬(r:Int)<(m:Int):=by omega
    have d2:(m:Int)<(en:Int):=by omega
    have d3:(a:Int)<(r:Int):=by omega
    have d4:(r:Int)<(mid:Int):=by omega
    have d5:¬(mid:Int)<(en:Int):=by omega
    have d6:(en:Int)<(b:Int):=by omega
    have n2:u2=[]:=List.eq_nil_of_length_eq_zero (by have:=U2.out;omega);clear q1 q2;have R1:=hide (HL0.out.as (show _=A++(u1++(v1++(u2++(v2++B)))) by rw[n2]<;>simp));have B1:=hide HB.out
    go_wp2_with fail
    refine (HLft.out _ R1.out (by omega) (by omega)).mono ?_;rintro e w2 ⟨rfl,hr2,hb2⟩;have R2:=hide hr2;have B2:=hide (B1.out.trans hb2);clear hr2 hb2;have R3:=hide (R2.out.as (show _=A++(Nf.sortR (u1++v1)++(Nf.sortR (u2++v2)++B)) by rw[S2.out (by left;exact n2)]<;>simp));have B3:=hide B2.out;clear n2;go_wp2;go_end0;exact⟨rfl,R3.out.as (by rw[←HF.out];simp),B3.out⟩
   exfalso;omega
end
section
open Go.RowKit Go.WideShapes

theorem merge_any:∀N,MergeSays N
 | 0=>fun A u v B pre post g off cap n a m b w h hn ha hm hb hu hv hN=>by omega
 | N+1=>fun A u v B pre post g off cap n a m b w h hn ha hm hb hu hv hN hup hvp hs=>by
  by_cases h1:u.length=1
  ·obtain⟨x,rfl⟩:=List.length_eq_one_iff.1 h1;exact symMerge1_any A v B x pre post g off cap n a m b w h (by simpa using hn) ha (by simpa using hm) (by simpa using hb) hv hvp hs
  by_cases h2:v.length=1
  ·obtain⟨x,rfl⟩:=List.length_eq_one_iff.1 h2;exact symMerge2_any A u B x pre post g off cap n a m b w h (by simpa using hn) ha hm (by simpa using hb) (by omega) hup hs
  exact symMerge3_any N (merge_any N) A u v B pre post g off cap n a m b w h hn ha hm hb (by omega) (by omega) hN hup hvp hs
namespace Nf
def blk(bs:Nat)(l:List Int):List Int:=if h:bs=0∨l.length≤bs then sortR l else sortR (l.take bs)++blk bs (l.drop bs)
termination_by l.length
decreasing_by rw[List.length_drop];omega
theorem blk_short{bs:Nat}{l:List Int}(h:l.length≤bs):blk bs l=sortR l:=by rw[blk,dif_pos (.inr h)]
theorem blk_step{bs:Nat}{l:List Int}(h0:0<bs)(h:bs≤l.length):blk bs l=sortR (l.take bs)++blk bs (l.drop bs):=by
 rcases Nat.lt_or_eq_of_le h with hlt|he
 ·conv=>lhs;rw[blk]
  rw[dif_neg (by omega)]
 rw[blk_short (by omega),List.take_of_length_le (by omega),List.drop_of_length_le (by omega),blk_short (by simp)];simp[sortR]
theorem sortR_both(a b:List Int):sortR (sortR a++sortR b)=sortR (a++b) :=
 sortR_is (sortR_up _) (((sortR_same a).app (sortR_same b)).trans (sortR_same _))
theorem take_more(l:List Int)(a b:Nat):l.take a++(l.drop a).take b=l.take (a+b):=List.take_add.symm
theorem blk_len(bs:Nat)(l:List Int):(blk bs l).length=l.length:=by
 rw[blk];split
 ·exact sortR_len l
 rw[List.length_append,sortR_len,blk_len bs (l.drop bs),←List.length_append,List.take_append_drop]
termination_by l.length
decreasing_by rw[List.length_drop];omega
end Nf
theorem stable_any(l:List Int)(pre post:List Value)(g off cap n:Nat)(w:World)(h:SRow w g off pre post l)(hn:n=l.length)(hs:n≤1000000000) :
  Calls Tryz.prog 184 #[.slice (some ⟨g,off,none⟩) n cap,.int .i64 n,.func (.func 155) #[] #[]] w fun e w'=>e=.returned (.tuple #[])∧SRow w' g off pre post (Nf.sortR l)∧But g w w':=by
 have HR:=hide h;have Hn:=hide hn;have HIns:=hide (fun A l B n a b W h=>insertion_any A l B pre post g off cap n a b W h);have HMrg:=hide (fun A u v B n a m b W h=>merge_any (u.length+v.length) A u v B pre post g off cap n a m b W h);clear h hn
 go_enter Tryz.func184,Tryz.ntmps184
 go_wp2
 go_loopg [7,8] n (fun gk va vb wr=>∃(a:Nat) (P:List Int),gk=n-a∧a≤n∧va=.int .i64 (a:Int)∧vb=.int .i64 ((a+20:Nat):Int)∧P.length=a∧SRow wr g off pre post (P++l.drop a)∧P++Nf.blk 20 (l.drop a)=Nf.blk 20 l∧But g w wr)
 case atStart=>exact⟨0,[],rfl,by omega,rfl,rfl,rfl,by simpa using HR.out,by simp,But.refl _ _⟩
 case round=>
  obtain⟨a,P,hgk,han,rfl,rfl,hP,hr,he,hbt⟩:=hrel;have Hg:=hide hgk;have HP:=hide hP;have HI:=hide hr;have HE:=hide he;have HB:=hide hbt;clear hgk hP hr he hbt
  by_cases hlt:a+20≤n
  ·obtain⟨b,hb⟩:∃b,a+20=b:=⟨_,rfl⟩;rw[hb] at hlt ⊢;have Hb:=hide hb;have zb:IntKind.i64.wrap ((b:Int)+20)=((b+20:Nat):Int):=by rw[IntWalk.i64_in _ (by omega)];omega
   have hdl:(l.drop a).length=n-a:=by rw[List.length_drop,Hn.out]
   have hst:=Nf.blk_step (bs:=20) (l:=l.drop a) (by omega) (by omega);have hdd:(l.drop a).drop 20=l.drop b:=by rw[List.drop_drop,Hb.out]
   have htl:((l.drop a).take 20).length=20:=by rw[List.length_take];omega
   have hsp:(l.drop a).take 20++l.drop b=l.drop a:=by rw[←hdd,List.take_append_drop]
   have hbl:(l.drop b).length=n-b:=by rw[List.length_drop,Hn.out]
   rw[hdd] at hst;have HC:=hide (HIns.out P ((l.drop a).take 20) (l.drop b) n a b wr (by rw[hsp];exact HI.out) (by rw[HP.out,htl,hbl];omega) HP.out.symm (by rw[HP.out,htl];omega) hs);have HE2:=hide (show (P++Nf.sortR ((l.drop a).take 20))++Nf.blk 20 (l.drop b)=Nf.blk 20 l by rw[←HE.out,hst,List.append_assoc]);have HL:=hide (show (P++Nf.sortR ((l.drop a).take 20)).length=b by rw[List.length_append,Nf.sortR_len,htl,HP.out,Hb.out]);clear hb hdl hst hdd htl hsp hbl
   go_wp2_with fail
   refine HC.out.mono ?_;rintro e w2 ⟨rfl,hr2,hb2⟩;have HR2:=hide hr2;have HB2:=hide hb2;clear hr2 hb2;go_wp2
   go_roundg (n-b)
   case measure=>have:=Hg.out;have:=Hb.out;omega
   case rel=>exact⟨b,_,rfl,hlt,rfl,by first|rfl|go_num,HL.out,HR2.out.as (by simp),HE2.out,HB.out.trans HB2.out⟩
  have hdl:(l.drop a).length=n-a:=by rw[List.length_drop,Hn.out]
  have hlt2:¬((a:Int)+20≤(n:Int)):=by omega
  have HC:=hide (HIns.out P (l.drop a) [] n a n wr (HI.out.as (by simp)) (by rw[HP.out,hdl];simp;omega) HP.out.symm (by rw[HP.out,hdl];omega) hs);have HE2:=hide (show P++(Nf.sortR (l.drop a)++[])=Nf.blk 20 l by rw[←HE.out,Nf.blk_short (by omega),List.append_nil]);clear hdl
  go_wp2_with fail
  refine HC.out.mono ?_;rintro e w2 ⟨rfl,hr2,hb2⟩;rw[HE2.out] at hr2;have HR2:=hide hr2;have HB2:=hide (HB.out.trans hb2);clear hr2 hb2 HE2 HC HE HI HP;go_wp2
  go_loopg [6,7,8,9] (n+1) (fun gk vs va vb vm wq=>∃(bs:Nat),n+1-bs≤gk∧0<bs∧bs≤2*n+20∧vs=.int .i64 (bs:Int)∧SRow wq g off pre post (Nf.blk bs l)∧But g w wq)
  case atStart=>exact⟨20,by omega,by omega,by omega,rfl,HR2.out,HB2.out⟩
  case round=>
   obtain⟨bs,hgk,hb0,hbs,rfl,hr,hbt⟩:=hrel;have Hg:=hide hgk;have HI:=hide hr;have HB3:=hide hbt;clear hgk hr hbt HR2 HB2
   by_cases hlt3:bs<n
   ·obtain⟨b2,hb2⟩:∃b2,2*bs=b2:=⟨_,rfl⟩;have Hb2:=hide hb2;have z2:IntKind.i64.wrap (2*(bs:Int))=(b2:Int):=by rw[IntWalk.i64_in _ (by omega)];omega
    have z3:IntKind.i64.wrap ((bs:Int)*2)=(b2:Int):=by rw[IntWalk.i64_in _ (by omega)];omega
    have hb2s:b2≤2000000000:=by omega
    have hb2p:0<b2:=by omega
    clear hb2;go_wp2
    go_loopg [7,8] n (fun gj va vb wj=>∃(a:Nat) (P:List Int),gj=n-a∧a≤n∧va=.int .i64 (a:Int)∧vb=.int .i64 ((a+b2:Nat):Int)∧P.length=a∧SRow wj g off pre post (P++Nf.blk bs (l.drop a))∧P++Nf.blk b2 (l.drop a)=Nf.blk b2 l∧But g w wj)
    case atStart=>exact⟨0,[],rfl,by omega,rfl,by first|rfl|go_num | (congr 1;omega),rfl,by simpa using HI.out,by simp,HB3.out⟩
    case round=>
     obtain⟨a,P,hgj,han,rfl,rfl,hP,hr,he,hbt⟩:=hrel;have Hgj:=hide hgj;have HP:=hide hP;have HI2:=hide hr;have HE:=hide he;have HB4:=hide hbt;clear hgj hP hr he hbt;have zab:IntKind.i64.wrap ((a:Int)+(bs:Int))=((a+bs:Nat):Int):=by rw[IntWalk.i64_in _ (by omega)];omega
     obtain⟨m,hm⟩:∃m,a+bs=m:=⟨_,rfl⟩;obtain⟨b,hb⟩:∃b,a+b2=b:=⟨_,rfl⟩;rw[hm] at zab;rw[hb];have Hm:=hide hm;have Hb:=hide hb;have hdl:(l.drop a).length=n-a:=by rw[List.length_drop,Hn.out]
     by_cases hlt4:b≤n
     ·have zb:IntKind.i64.wrap ((b:Int)+(b2:Int))=((b+b2:Nat):Int):=by rw[IntWalk.i64_in _ (by omega)];omega
      have hst:=Nf.blk_step (bs:=bs) (l:=l.drop a) hb0 (by have:=Hb2.out;omega);have hdd:(l.drop a).drop bs=l.drop m:=by rw[List.drop_drop,Hm.out]
      rw[hdd] at hst;have hml:(l.drop m).length=n-m:=by rw[List.length_drop,Hn.out]
      have hst2:=Nf.blk_step (bs:=bs) (l:=l.drop m) hb0 (by have:=Hb2.out;omega);have hdd2:(l.drop m).drop bs=l.drop b:=by rw[List.drop_drop];congr 1;have:=Hb2.out;omega
      rw[hdd2] at hst2;have hst3:=Nf.blk_step (bs:=b2) (l:=l.drop a) hb2p (by omega);have hdd3:(l.drop a).drop b2=l.drop b:=by rw[List.drop_drop,Hb.out]
      rw[hdd3] at hst3;have hsum:(l.drop a).take bs++(l.drop m).take bs=(l.drop a).take b2:=by rw[←hdd,Nf.take_more];congr 1;have:=Hb2.out;omega
      have l1:(Nf.sortR ((l.drop a).take bs)).length=bs:=by rw[Nf.sortR_len,List.length_take];have:=Hb2.out;omega
      have l2:(Nf.sortR ((l.drop m).take bs)).length=bs:=by rw[Nf.sortR_len,List.length_take,hml];have:=Hb2.out;omega
      have l3:(Nf.blk bs (l.drop b)).length=n-b:=by rw[Nf.blk_len,List.length_drop,Hn.out]
      have HC:=hide (HMrg.out P (Nf.sortR ((l.drop a).take bs)) (Nf.sortR ((l.drop m).take bs)) (Nf.blk bs (l.drop b)) n a m b wr (HI2.out.as (by rw[hst,hst2])) (by rw[HP.out,l1,l2,l3];have:=Hb2.out;omega) HP.out.symm (by rw[HP.out,l1];omega) (by rw[HP.out,l1,l2];have:=Hb2.out;omega) (by omega) (by omega) (Nat.le_refl _) (Nf.sortR_up _) (Nf.sortR_up _) hs);rw[Nf.sortR_both,hsum] at HC;have HE2:=hide (show (P++Nf.sortR ((l.drop a).take b2))++Nf.blk b2 (l.drop b)=Nf.blk b2 l by rw[←HE.out,hst3,List.append_assoc]);have HL:=hide (show (P++Nf.sortR ((l.drop a).take b2)).length=b by rw[List.length_append,Nf.sortR_len,List.length_take,HP.out];omega);clear hm hb hdl hst hdd hml hst2 hdd2 hst3 hdd3 hsum l1 l2 l3
      go_wp2_with fail
      refine HC.out.mono ?_;rintro e w2 ⟨rfl,hr2,hb2⟩;have HR2:=hide hr2;have HB5:=hide (HB4.out.trans hb2);clear hr2 hb2;go_wp2
      go_roundg (n-b)
      case measure=>have:=Hgj.out;have:=Hb.out;omega
      case rel=>exact⟨b,_,rfl,hlt4,rfl,by first|rfl|go_num,HL.out,HR2.out.as (by simp),HE2.out,HB5.out⟩
     have hlt5:¬((a:Int)+(b2:Int)≤(n:Int)):=by omega
     by_cases hmn:m<n
     ·have hst:=Nf.blk_step (bs:=bs) (l:=l.drop a) hb0 (by omega);have hdd:(l.drop a).drop bs=l.drop m:=by rw[List.drop_drop,Hm.out]
      rw[hdd] at hst;have hml:(l.drop m).length=n-m:=by rw[List.length_drop,Hn.out]
      have hst2:=Nf.blk_short (bs:=bs) (l:=l.drop m) (by have:=Hb2.out;omega);have hst3:=Nf.blk_short (bs:=b2) (l:=l.drop a) (by omega);have hsum:(l.drop a).take bs++l.drop m=l.drop a:=by rw[←hdd,List.take_append_drop]
      have l1:(Nf.sortR ((l.drop a).take bs)).length=bs:=by rw[Nf.sortR_len,List.length_take];have:=Hb2.out;omega
      have l2:(Nf.sortR (l.drop m)).length=n-m:=by rw[Nf.sortR_len,hml]
      have HC:=hide (HMrg.out P (Nf.sortR ((l.drop a).take bs)) (Nf.sortR (l.drop m)) [] n a m n wr (HI2.out.as (by rw[hst,hst2,List.append_nil])) (by rw[HP.out,l1,l2];simp;omega) HP.out.symm (by rw[HP.out,l1];omega) (by rw[HP.out,l1,l2];omega) (by omega) (by omega) (Nat.le_refl _) (Nf.sortR_up _) (Nf.sortR_up _) hs);rw[Nf.sortR_both,hsum] at HC;have HE2:=hide (show P++(Nf.sortR (l.drop a)++[])=Nf.blk b2 l by rw[←HE.out,hst3,List.append_nil]);clear hm hb hdl hst hdd hml hst2 hst3 hsum l1 l2
      go_wp2_with fail
      refine HC.out.mono ?_;rintro e w2 ⟨rfl,hr2,hb2⟩;rw[HE2.out] at hr2;have HR2:=hide hr2;have HB5:=hide (HB4.out.trans hb2);clear hr2 hb2;go_wp2
      go_roundg (n+1-b2)
      case measure=>have:=Hg.out;have:=Hb2.out;omega
      case rel=>exact⟨b2,by omega,hb2p,by have:=Hb2.out;omega,rfl,HR2.out,HB5.out⟩
     have HE2:=hide (show P++Nf.blk bs (l.drop a)=Nf.blk b2 l by rw[←HE.out,Nf.blk_short (bs:=bs) (by omega),Nf.blk_short (bs:=b2) (by omega)]);clear hm hb hdl;go_wp2
     go_roundg (n+1-b2)
     case measure=>have:=Hg.out;have:=Hb2.out;omega
     case rel=>exact⟨b2,by omega,hb2p,by have:=Hb2.out;omega,rfl,HI2.out.as HE2.out,HB4.out⟩
   go_wp2;go_end0;exact⟨rfl,HI.out.as (Nf.blk_short (by rw[←Hn.out];omega)),HB3.out⟩
theorem sortStable_any(l:List Int)(pre post:List Value)(g off cap n:Nat)(w:World)(h:SRow w g off pre post l)(hn:n=l.length)(hs:n≤1000000000) :
  Calls Tryz.prog 154 #[.slice (some ⟨g,off,none⟩) n cap,.func (.func 155) #[] #[]] w fun e w'=>e=.returned (.tuple #[])∧SRow w' g off pre post (Nf.sortR l)∧But g w w':=by
 have HS:=hide (stable_any l pre post g off cap n w h hn hs);clear h hn
 go_enter Tryz.func154,Tryz.ntmps154
 go_wp2_with fail
 refine HS.out.mono ?_;rintro e w2 ⟨rfl,hr2,hb2⟩;have HR2:=hide hr2;have HB2:=hide hb2;clear hr2 hb2;go_wp2;go_end0;exact⟨rfl,HR2.out,HB2.out⟩
end
section
open Go.RowKit

def roundEndO{α:Type}(B:Nat)(Kp:World→World→Prop)(I:List α→World→Prop)(xs:List α)(W:World):Exit→Act→World→Prop
 | .normal,_,W'=>KeepsFrom B W W'∧Kp W W'∧I xs W'
 | _,_,_=>False

def GivesOn{α:Type}(Fr:World→World→Prop)(F:Fence)(n:Nat)(P:Program)(g:Nat)(lb:Array Value)(encs:α→Array Value)(Kp:World→World→Prop)(Fact:α→World→Prop)(S:List α→Prop)(N:Nat)(W:World):Prop :=
 ∀(l:Nat) (J:List α→World→Prop),(∀s A B,J s A→Fr A B→J s B)→J [] W→
  (∀pre x W1,J pre W1→Fact x W1→pre.length<N→YieldAt F (n-1) P l (encs x) W1 fun e W'=>e=.returned (.bool true)∧J (pre++[x]) W'∧Kp W1 W')→
  CallsIn F n P g (#[.func (.yield l) #[] #[]]++lb) W fun e W'=>(∃v,e=.returned v)∧∃xs,S xs∧J xs W'

theorem range_on{α:Type}{Fr:World→World→Prop}{F:Fence}{n:Nat}{P:Program}{g:Operand}{ps:Array Tmp}{assign body:Code}{Q:Exit→Act→World→Prop}{a:Act}{w:World}(hR:∀A B,Fr A B→∀k,w.heap.size≤k→k<A.heap.size→B.heap[k]?=A.heap[k]?)
  (hro:F.round=none) (h1:1≤n) {gf:Nat} {lb:Array Value} (hg:a.eval g=.func (.func gf) #[] lb) (hFg:F.fn gf) (eg:∀args w,(callFunc gf args).run P w=.ok (.enter gf args) w)
  {encs:α→Array Value} {Kp:World→World→Prop} {Fact:α→World→Prop} {S:List α→Prop} {N:Nat} (hps:∀x,(encs x).size=ps.size)
  (hseq:∀o o',GivesOn Fr F (n-1) P gf lb encs Kp Fact S N ((w.alloc o).alloc o'))
  (hKt:∀{A B C:World},Kp A B→Kp B C→Kp A C) (hKb:∀(W:World) (o o':Obj),W.heap[w.heap.size+1]?=some o'→o'.isCells=false→Kp W (W.putObj (w.heap.size+1) o))
  (I:List α→World→Prop) (hIp:∀s W o o',I s W→W.heap[w.heap.size+1]?=some o'→o'.isCells=false→I s (W.putObj (w.heap.size+1) o)) (hIb:∀s A B,I s A→Fr A B→I s B)
  (hF:∀x W o,Fact x W→Fact x (W.putObj (w.heap.size+1) o)) (h0:∀o o',I [] ((w.alloc o).alloc o')) (a₁:α→Act)
  (hassign:∀(l:Nat) (x:α) (W:World) (K:Act→World→Prop),K (a₁ x) W→
   assign.wpIn (F.inRound l) (n-1-1) P (Exit.then K (fun _ _ _=>False)) { tmps:=(ps.zip (encs x)).foldl (fun t (p,v)=>t.setIfInBounds p v) a.tmps,defers:=[] } W)
  (hbody:∀(l:Nat) (pre:List α) (x:α) (W:World),I pre W→Fact x W→pre.length<N→w.heap.size+2≤W.heap.size→body.wpIn (F.inRound l) (n-1-1) P (roundEndO w.heap.size Kp I (pre++[x]) W) (a₁ x) W)
  (hdone:∀(D:Nat) (xs:List α) (W:World),D=w.heap.size→S xs→I xs W→W.heap[D]?=some (.deferred (some []))→Q .normal { a with defers:={ target:=.collected D,args:=#[] } :: a.defers } W) :
  (Code.rangeFunc g ps assign body).wpIn F n P Q a w:=by
 refine wpIn_rangeFunc fun fn hfn=>?_;rw[hro]
 let D:=w.heap.size
 let r0:Loop:={ state:=.ready,pending:=none,fn,tmps:=a.tmps,params:=ps,assign,body,defers:=D }
 let r1:Loop:={ state:=.busy,pending:=none,fn,tmps:=a.tmps,params:=ps,assign,body,defers:=D }
 let W0:=(w.alloc (.deferred (some []))).alloc (.loop r0)
 have hsz:W0.heap.size=D+2:=by show ((w.alloc _).alloc _).heap.size=_;simp[D]
 have hl0:W0.heap[D+1]?=some (.loop r0):=by
  have:=World.alloc_heap_new (w.alloc (.deferred (some []))) (.loop r0);rwa[World.size_alloc] at this
 have hd0:W0.heap[D]?=some (.deferred (some [])):=(Below.heap_alloc _ _ _ (by simp[D])).trans (World.alloc_heap_new w _)
 refine⟨D+1,[{ target:=.collected D,args:=#[] }],W0,{ target:=.fn (.func gf) lb,args:=#[.func (.yield (D+1)) #[] #[]] },W0,gf,#[.func (.yield (D+1)) #[] #[]]++lb,W0,
  run_enterLoop_outer _ _ _ _ _,by simp only[resolve,hg];simp[go_sem],fun f' hf'=>by simp[Target.leads] at hf';subst hf';exact hFg,by simp[invoke,go_sem,eg],fun _=>h1,?_⟩
 have keepD:∀{A B:World} {k:Nat} {o:Obj},Fr A B→A.heap[k]?=some o→D≤k→B.heap[k]?=some o:=fun hb hk hlt=>
  (hR _ _ hb _ hlt (Array.getElem?_eq_some_iff.1 hk).1).trans hk
 refine (hseq _ _ (D+1) (fun pre W=>I pre W∧W.heap[D+1]?=some (.loop r0)∧W.heap[D]?=some (.deferred (some [])))
  (fun s A B h hb=>⟨hIb s A B h.1 hb,keepD hb h.2.1 (by omega),keepD hb h.2.2 (Nat.le_refl _)⟩) ⟨h0 _ _,hl0,hd0⟩ ?_).mono ?_
 ·rintro pre x W ⟨hi,hl,hd⟩ hf hlen;have hlt:D+1<W.heap.size:=(Array.getElem?_eq_some_iff.1 hl).1;have hy:=run_yield (P:=P) (args:=encs x) hl (hps x);refine⟨fn,_,assign,body,hy,roundIn_of_wpIn hfn (hassign _ x W _ ⟨_,run_beginRound hl rfl,?_⟩)⟩;have hl2:(W.putObj (D+1) (.loop r1)).heap[D+1]?=some (.loop r1):=World.putObj_heap_same hlt;have hd2:(W.putObj (D+1) (.loop r1)).heap[D]?=some (.deferred (some [])):=(World.putObj_heap_other (by omega)).trans hd;refine wpIn_mono (hbody _ pre x _ (hIp _ _ _ _ hi hl rfl) (hF _ _ _ hf) hlen (by show D+2≤(W.heap.setIfInBounds _ _).size;rw[Array.size_setIfInBounds];omega)) ?_;rintro e a3 W3 hp
  cases e with
  | normal=>
   obtain⟨hk3,hkp,hi3⟩:=hp;have hl3:=hk3.same _ _ (by omega) hl2 rfl;have hd3:=hk3.same _ _ (Nat.le_refl _) hd2 rfl;have hlt3:=(Array.getElem?_eq_some_iff.1 hl3).1;have he:=run_endRound (P:=P) none hl3;exact⟨_,_,he,rfl,⟨hIp _ _ _ _ hi3 hl3 rfl,World.putObj_heap_same hlt3,(World.putObj_heap_other (by omega)).trans hd3⟩,hKt (hKt (hKb _ _ _ hl rfl) hkp) (hKb _ _ _ hl3 rfl)⟩
  | ret=>exact hp.elim
  | exit id=>exact hp.elim
  | goto t=>exact hp.elim
  | panic ch=>exact hp.elim
  | outgrown=>exact hp.elim
 rintro e W2 ⟨⟨v,rfl⟩,xs,hS,hi,hl,hd⟩;have hlt:=(Array.getElem?_eq_some_iff.1 hl).1;exact⟨none,_,run_endLoop (P:=P) hl (by simp[r0]),hdone D xs _ rfl hS (hIp _ _ _ _ hi hl rfl) ((World.putObj_heap_other (by omega)).trans hd)⟩
end
end Go.Proofs.YtifiiojchlaghaaGreatDoor
