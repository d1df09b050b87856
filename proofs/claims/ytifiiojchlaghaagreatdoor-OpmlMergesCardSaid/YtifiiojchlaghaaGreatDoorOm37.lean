/- NFC: what the document makes of a scalar, of two (ref10.Made, Whole). (Printed by genTdO.py.) And more. -/
import Derived.Test.YtifiiojchlaghaaGreatDoorOm00
import Derived.Test.YtifiiojchlaghaaGreatDoorOm24
import Derived.Test.YtifiiojchlaghaaGreatDoorOm32
import Derived.Test.YtifiiojchlaghaaGreatDoorOm34
import Derived.Test.YtifiiojchlaghaaGreatDoorOm36
import Derived.Laws.ResultCell
import Derived.Lib.SlBytesConst
set_option linter.unusedSimpArgs false
set_option maxRecDepth 100000
set_option maxHeartbeats 16000000
set_option linter.unusedVariables false
namespace Go.Proofs.YtifiiojchlaghaaGreatDoor
section
open Go.RowKit Go.WideShapes

namespace Nf
def afj:Option (Int×Int)→Value
 | some (a,b)=>.tuple #[.int .i64 a,.int .i64 b,.bool true]
 | none=>.tuple #[.int .i64 0,.int .i64 0,.bool false]
def afl:Option Int→Value
 | some v=>.tuple #[.int .i64 v,.bool true]
 | none=>.tuple #[.int .i64 0,.bool false]
theorem Jt{α:Type}{l:List α}{k:Nat}{x:α}(h:l[k]?=some x):l.drop k=x :: l.drop (k+1):=by
 obtain⟨hk,e⟩:=List.getElem?_eq_some_iff.1 h;rw[List.drop_eq_getElem_cons hk,e]
theorem afk{l:List Pr}{k:Nat}{x:Pr}(h:l[k]?=some x)(r:Int):mF r (l.drop k)=if x.w=r then some (x.f,x.s) else mF r (l.drop (k+1)):=by
 rw[Jt h];rfl
theorem vU{l:List Pr}{k:Nat}{x:Pr}(h:l[k]?=some x)(a b:Int):bZ a b (l.drop k)=if x.f=a∧x.s=b∧b≠0 then some x.w else bZ a b (l.drop (k+1)):=by
 rw[Jt h];rfl
theorem Vt:iE.length≤1000:=by decide +kernel
end Nf
theorem afo(r:Int):vV r=Nf.afj (Nf.Dt r):=by
 rw[Nf.abB];unfold vV
 cases Nf.made r<;>rfl
theorem akQ(a b:Int):jU a b=Nf.afl (Nf.Dx a b):=by
 rw[Nf.abL];unfold jU
 cases Nf.whole a b<;>rfl
theorem ahz(r:Int)(w:World)(h0:0≤r)(h1:r≤1114111):Calls Tryz.prog 195 #[.int .i64 r] w fun e w'=>e=.returned (vV r)∧Below w.heap.size w w':=by
 have HH:=hide (fun W=>VR r W);rw[afo];unfold Nf.Dt
 cases hg:Nf.fN r with
 | true=>
  rw[hg] at HH;rw[if_pos rfl];have hr:=of_decide_eq_true hg;obtain⟨n,hn⟩:∃n:Nat,r=44032+n:=⟨(r-44032).toNat,by omega⟩;subst hn;have hw:IntKind.i64.wrap (44032+(n:Int)-44032)=(n:Int):=by rw[IntWalk.i64_in _ (by omega)];omega
  have hm:Int.tmod (n:Int) 28=((n % 28:Nat):Int):=by rw[Int.tmod_eq_emod_of_nonneg (by omega)];omega
  have e1:(44032+(n:Int)-0xAC00) % 28=((n % 28:Nat):Int):=by omega
  have e2:(44032+(n:Int)-0xAC00) / 28=((n / 28:Nat):Int):=by omega
  rw[e1,e2];obtain⟨t,ht⟩:∃t,n % 28=t:=⟨_,rfl⟩;rw[ht] at hm ⊢;have lQ:t<28:=by omega
  by_cases hp:0<t
  ·rw[if_pos (by omega)];have kC:(0:Int)<(t:Int):=by omega
   have hq:=hr;have TL:IntKind.i64.wrap (44032+(n:Int)-(t:Int))=44032+(n:Int)-(t:Int):=by rw[IntWalk.i64_in _ (by omega)]
   clear hg hr e1 e2 ht
   go_enter Tryz.func195,Tryz.ntmps195
   go_wp2_with fail
   refine cq (HH.out _) ?_
   go_wp2;go_ret3;exact⟨rfl,Below.refl _ _⟩
  have EK:t=0:=by omega
  subst EK;rw[if_neg (by omega)];have hd:Int.tdiv (n:Int) 28=((n / 28:Nat):Int):=by rw[Int.tdiv_eq_ediv_of_nonneg (by omega)];omega
  obtain⟨k,hk⟩:∃k,n / 28=k:=⟨_,rfl⟩;rw[hk] at hd ⊢;have eE:k<400:=by omega
  have bK:Int.tdiv (k:Int) 21=((k / 21:Nat):Int):=by rw[Int.tdiv_eq_ediv_of_nonneg (by omega)];omega
  have e7:Int.tmod (k:Int) 21=((k % 21:Nat):Int):=by rw[Int.tmod_eq_emod_of_nonneg (by omega)];omega
  have e3:(k:Int) / 21=((k / 21:Nat):Int):=by omega
  have e4:(k:Int) % 21=((k % 21:Nat):Int):=by omega
  rw[e3,e4];obtain⟨a,ha⟩:∃a,k / 21=a:=⟨_,rfl⟩;obtain⟨b,hb⟩:∃b,k % 21=b:=⟨_,rfl⟩;rw[ha] at bK ⊢;rw[hb] at e7 ⊢;have iN:a<20:=by omega
  have aP:b<21:=by omega
  clear hg hr e1 e2 e3 e4 ht hk ha hb
  go_enter Tryz.func195,Tryz.ntmps195
  go_wp2_with fail
  refine cq (HH.out _) ?_
  go_wp2;go_ret3;exact⟨rfl,Below.refl _ _⟩
 | false=>
  rw[hg] at HH;simp only[Bool.false_eq_true,if_false];have HP:=hide (fun W=>VS W);obtain⟨L,hL⟩:∃L,Nf.iE=L:=⟨_,rfl⟩;have hN:=Nf.Vt;rw[hL] at HP hN ⊢;clear hg hL;obtain⟨N,ve⟩:∃N,L.length=N:=⟨_,rfl⟩;have HN:=hide ve;rw[ve] at HP hN;obtain⟨z,hz⟩:∃z,Nf.mF r L=z:=⟨_,rfl⟩;rw[hz];have HZ:=hide hz;clear ve hz
  go_enter Tryz.func195,Tryz.ntmps195
  go_wp2_with fail
  go_wp2_with fail
  refine cq (HH.out _) ?_
  go_wp2_with fail
  refine (HP.out _).mono ?_;rintro e w1 ⟨⟨A,c,rfl,ho⟩,hb⟩;have HR:=hide (Reads.dA ho);have HB:=hide hb;have hc:=rM ho;clear ho hb;go_wp2
  go_loopg [8] N (fun gk v8 wr=>∃(k:Nat),gk=N-k∧k≤N∧v8=.int .i64 (k:Int)∧Nf.mF r (L.drop k)=z∧wr=w1)
  case atStart=>exact⟨0,rfl,by omega,rfl,HZ.out,rfl⟩
  case round=>
   obtain⟨k,aq,hk,rfl,hz,rfl⟩:=hrel;have Hg:=hide aq;have Hz:=hide hz;clear aq hz
   by_cases hlt:k<N
   ·obtain⟨x,hx⟩:∃x,L[k]?=some x:=⟨_,List.getElem?_eq_getElem (by rw[HN.out];exact hlt)⟩;obtain⟨p0,p1,p2⟩:=qa L k x hx;obtain⟨gb,off,rfl,aR,hcell⟩:=HR.out.2 (by omega);have y0:=hcell _ _ p0;have y1:=hcell _ _ p1;have y2:=hcell _ _ p2;have hat:=Nf.afk hx r;rw[←Nat.add_assoc] at y1 y2;have bE:=hide (hat.symm.trans Hz.out);have fS:(0:Int)≤k∧(k:Int)<N:=by omega
    clear hat hx p0 p1 p2 hcell;obtain⟨xw,xf,xs⟩:=x;dsimp only at y0 y1 y2
    by_cases oM:xw=r
    ·have hv:some (xf,xs)=z:=by have:=bE.out;rwa[if_pos oM] at this
     subst hv;have e1:(xw==r)=true:=by simpa using oM
     clear oM
     go_wp2_with fail
     go_quiet (fail)
     go_wp2;go_ret3;exact⟨rfl,HB.out.os,HB.out.tape,HB.out.output,HB.out.size,HB.out.block⟩
    have hv:=hide (show Nf.mF r (L.drop (k+1))=z by have:=bE.out;rwa[if_neg oM] at this);have e1:(xw==r)=false:=by simpa using oM
    clear oM;go_wp2
    go_roundg (N-(k+1))
    case measure=>have:=Hg.out;omega
    case rel=>exact⟨k+1,rfl,by omega,by first|rfl|go_num,hv.out,rfl⟩
   have hv:z=none:=by
    have:=Hz.out;rw[List.drop_of_length_le (by rw[HN.out];omega)] at this;exact this.symm
   subst hv;go_wp2;go_ret3;exact⟨rfl,HB.out⟩
theorem ahP(a b:Int)(w:World)(a0:0≤a)(a1:a≤1114111)(b0:0≤b)(b1:b≤1114111):Calls Tryz.prog 177 #[.int .i64 a,.int .i64 b] w fun e w'=>e=.returned (jU a b)∧Below w.heap.size w w':=by
 have HH:=hide (fun W=>VR a W);rw[akQ];unfold Nf.Dx;have HP:=hide (fun W=>VS W);obtain⟨L,hL⟩:∃L,Nf.iE=L:=⟨_,rfl⟩;have hN:=Nf.Vt;rw[hL] at HP hN ⊢;clear hL;obtain⟨N,ve⟩:∃N,L.length=N:=⟨_,rfl⟩;have HN:=hide ve;rw[ve] at HP hN;obtain⟨z,hz⟩:∃z,Nf.bZ a b L=z:=⟨_,rfl⟩;rw[hz];have HZ:=hide hz;clear ve hz;have dU:(Lit.int .i64 a).wf=true:=WalkArith.wf_i64 (by omega);have e8:(Lit.int .i64 b).wf=true:=WalkArith.wf_i64 (by omega);have mB:IntKind.i64.wrap (a-44032)=a-44032:=IntWalk.i64_in _ (by omega)
 by_cases h1:a<4352
 ·have d1:decide (4352≤a)=false:=decide_eq_false (by omega);have lD:Nf.fN a=false:=decide_eq_false (by omega);rw[lD] at HH;rw[if_neg (by omega),if_neg (by rw[lD];simp)];clear lD h1
  go_enter Tryz.func177,Tryz.ntmps177
  go_wp2_with fail
  refine cq (HH.out _) ?_
  go_wp2_with fail
  refine (HP.out _).mono ?_;rintro e w1 ⟨⟨A,c,rfl,ho⟩,hb⟩;have HR:=hide (Reads.dA ho);have HB:=hide hb;have hc:=rM ho;clear ho hb;go_wp2
  go_loopg [7] N (fun gk v7 wr=>∃(k:Nat),gk=N-k∧k≤N∧v7=.int .i64 (k:Int)∧Nf.bZ a b (L.drop k)=z∧Below w1.heap.size w1 wr)
  case atStart=>exact⟨0,rfl,by omega,rfl,HZ.out,Below.refl _ _⟩
  case round=>
   obtain⟨k,aq,hk,rfl,hz,aP⟩:=hrel;have Hg:=hide aq;have Hz:=hide hz;have ak:=hide aP;clear aq hz aP
   by_cases hlt:k<N
   ·obtain⟨x,hx⟩:∃x,L[k]?=some x:=⟨_,List.getElem?_eq_getElem (by rw[HN.out];exact hlt)⟩;obtain⟨p0,p1,p2⟩:=qa L k x hx;obtain⟨gb,off,rfl,aR,hcell⟩:=HR.out.2 (by omega);have y0:=(ak.out.cell aR).trans (hcell _ _ p0);have y1:=(ak.out.cell aR).trans (hcell _ _ p1);have y2:=(ak.out.cell aR).trans (hcell _ _ p2);have hat:=Nf.vU hx a b;rw[←Nat.add_assoc] at y1 y2;have bE:=hide (hat.symm.trans Hz.out);have fS:(0:Int)≤k∧(k:Int)<N:=by omega
    clear hat hx p0 p1 p2 hcell aR;obtain⟨xw,xf,xs⟩:=x;dsimp only at y0 y1 y2
    by_cases aS:xf=a
    ·have t1:(xf==a)=true:=by simpa using aS
     by_cases aO:xs=b
     ·have t2:(xs==b)=true:=by simpa using aO
      by_cases aJ:b=0
      ·have t3:(b != 0)=false:=by simpa using aJ
       have hv:=hide (show Nf.bZ a b (L.drop (k+1))=z by have:=bE.out;rwa[if_neg (fun h=>h.2.2 aJ)] at this);clear aS aO aJ;go_wp2
       go_roundg (N-(k+1))
       case measure=>have:=Hg.out;omega
       case rel=>exact⟨k+1,rfl,by omega,by first|rfl|go_num,hv.out,⟨ak.out.os,ak.out.tape,ak.out.output,ak.out.size,ak.out.block⟩⟩
      have t3:(b != 0)=true:=by simpa using aJ
      have hv:some xw=z:=by have:=bE.out;rwa[if_pos ⟨aS,aO,aJ⟩] at this
      subst hv;clear aS aO aJ;go_wp2;go_ret2;exact⟨rfl,(HB.out.trans (ak.out.mono HB.out.size)).os,(HB.out.trans (ak.out.mono HB.out.size)).tape,(HB.out.trans (ak.out.mono HB.out.size)).output,(HB.out.trans (ak.out.mono HB.out.size)).size,(HB.out.trans (ak.out.mono HB.out.size)).block⟩
     have t2:(xs==b)=false:=by simpa using aO
     have hv:=hide (show Nf.bZ a b (L.drop (k+1))=z by have:=bE.out;rwa[if_neg (fun h=>aO h.2.1)] at this);clear aS aO;go_wp2
     go_roundg (N-(k+1))
     case measure=>have:=Hg.out;omega
     case rel=>exact⟨k+1,rfl,by omega,by first|rfl|go_num,hv.out,⟨ak.out.os,ak.out.tape,ak.out.output,ak.out.size,ak.out.block⟩⟩
    have t1:(xf==a)=false:=by simpa using aS
    have hv:=hide (show Nf.bZ a b (L.drop (k+1))=z by have:=bE.out;rwa[if_neg (fun h=>aS h.1)] at this);clear aS;go_wp2
    go_roundg (N-(k+1))
    case measure=>have:=Hg.out;omega
    case rel=>exact⟨k+1,rfl,by omega,by first|rfl|go_num,hv.out,⟨ak.out.os,ak.out.tape,ak.out.output,ak.out.size,ak.out.block⟩⟩
   have hv:z=none:=by
    have:=Hz.out;rw[List.drop_of_length_le (by rw[HN.out];omega)] at this;exact this.symm
   subst hv;go_wp2;go_ret2;exact⟨rfl,HB.out.trans (ak.out.mono HB.out.size)⟩
 have d1:decide (4352≤a)=true:=decide_eq_true (by omega)
 by_cases h2:a<4371
 ·have d2:decide (a<4371)=true:=decide_eq_true (by omega);have lD:Nf.fN a=false:=decide_eq_false (by omega);rw[lD] at HH
  by_cases h3:b<4449
  ·have d3:decide (4449≤b)=false:=decide_eq_false (by omega);rw[if_neg (by omega),if_neg (by rw[lD];simp)];clear lD h1 h2 h3
   go_enter Tryz.func177,Tryz.ntmps177
   go_wp2_with fail
   refine cq (HH.out _) ?_
   go_wp2_with fail
   refine (HP.out _).mono ?_;rintro e w1 ⟨⟨A,c,rfl,ho⟩,hb⟩;have HR:=hide (Reads.dA ho);have HB:=hide hb;have hc:=rM ho;clear ho hb;go_wp2
   go_loopg [7] N (fun gk v7 wr=>∃(k:Nat),gk=N-k∧k≤N∧v7=.int .i64 (k:Int)∧Nf.bZ a b (L.drop k)=z∧Below w1.heap.size w1 wr)
   case atStart=>exact⟨0,rfl,by omega,rfl,HZ.out,Below.refl _ _⟩
   case round=>
    obtain⟨k,aq,hk,rfl,hz,aP⟩:=hrel;have Hg:=hide aq;have Hz:=hide hz;have ak:=hide aP;clear aq hz aP
    by_cases hlt:k<N
    ·obtain⟨x,hx⟩:∃x,L[k]?=some x:=⟨_,List.getElem?_eq_getElem (by rw[HN.out];exact hlt)⟩;obtain⟨p0,p1,p2⟩:=qa L k x hx;obtain⟨gb,off,rfl,aR,hcell⟩:=HR.out.2 (by omega);have y0:=(ak.out.cell aR).trans (hcell _ _ p0);have y1:=(ak.out.cell aR).trans (hcell _ _ p1);have y2:=(ak.out.cell aR).trans (hcell _ _ p2);have hat:=Nf.vU hx a b;rw[←Nat.add_assoc] at y1 y2;have bE:=hide (hat.symm.trans Hz.out);have fS:(0:Int)≤k∧(k:Int)<N:=by omega
     clear hat hx p0 p1 p2 hcell aR;obtain⟨xw,xf,xs⟩:=x;dsimp only at y0 y1 y2
     by_cases aS:xf=a
     ·have t1:(xf==a)=true:=by simpa using aS
      by_cases aO:xs=b
      ·have t2:(xs==b)=true:=by simpa using aO
       by_cases aJ:b=0
       ·have t3:(b != 0)=false:=by simpa using aJ
        have hv:=hide (show Nf.bZ a b (L.drop (k+1))=z by have:=bE.out;rwa[if_neg (fun h=>h.2.2 aJ)] at this);clear aS aO aJ;go_wp2
        go_roundg (N-(k+1))
        case measure=>have:=Hg.out;omega
        case rel=>exact⟨k+1,rfl,by omega,by first|rfl|go_num,hv.out,⟨ak.out.os,ak.out.tape,ak.out.output,ak.out.size,ak.out.block⟩⟩
       have t3:(b != 0)=true:=by simpa using aJ
       have hv:some xw=z:=by have:=bE.out;rwa[if_pos ⟨aS,aO,aJ⟩] at this
       subst hv;clear aS aO aJ;go_wp2;go_ret2;exact⟨rfl,(HB.out.trans (ak.out.mono HB.out.size)).os,(HB.out.trans (ak.out.mono HB.out.size)).tape,(HB.out.trans (ak.out.mono HB.out.size)).output,(HB.out.trans (ak.out.mono HB.out.size)).size,(HB.out.trans (ak.out.mono HB.out.size)).block⟩
      have t2:(xs==b)=false:=by simpa using aO
      have hv:=hide (show Nf.bZ a b (L.drop (k+1))=z by have:=bE.out;rwa[if_neg (fun h=>aO h.2.1)] at this);clear aS aO;go_wp2
      go_roundg (N-(k+1))
      case measure=>have:=Hg.out;omega
      case rel=>exact⟨k+1,rfl,by omega,by first|rfl|go_num,hv.out,⟨ak.out.os,ak.out.tape,ak.out.output,ak.out.size,ak.out.block⟩⟩
     have t1:(xf==a)=false:=by simpa using aS
     have hv:=hide (show Nf.bZ a b (L.drop (k+1))=z by have:=bE.out;rwa[if_neg (fun h=>aS h.1)] at this);clear aS;go_wp2
     go_roundg (N-(k+1))
     case measure=>have:=Hg.out;omega
     case rel=>exact⟨k+1,rfl,by omega,by first|rfl|go_num,hv.out,⟨ak.out.os,ak.out.tape,ak.out.output,ak.out.size,ak.out.block⟩⟩
    have hv:z=none:=by
     have:=Hz.out;rw[List.drop_of_length_le (by rw[HN.out];omega)] at this;exact this.symm
    subst hv;go_wp2;go_ret2;exact⟨rfl,HB.out.trans (ak.out.mono HB.out.size)⟩
  have d3:decide (4449≤b)=true:=decide_eq_true (by omega)
  by_cases h4:b<4470
  ·have d4:decide (b<4470)=true:=decide_eq_true (by omega);rw[if_pos (by omega)];have e1:IntKind.i64.wrap (a-4352)=a-4352:=IntWalk.i64_in _ (by omega);have e2:IntKind.i64.wrap ((a-4352)*21)=(a-4352)*21:=IntWalk.i64_in _ (by omega);have e3:IntKind.i64.wrap ((a-4352)*21+b)=(a-4352)*21+b:=IntWalk.i64_in _ (by omega);have e4:IntKind.i64.wrap ((a-4352)*21+b-4449)=(a-4352)*21+b-4449:=IntWalk.i64_in _ (by omega);have e5:IntKind.i64.wrap (((a-4352)*21+b-4449)*28)=((a-4352)*21+b-4449)*28:=IntWalk.i64_in _ (by omega);have e6:IntKind.i64.wrap (44032+((a-4352)*21+b-4449)*28)=44032+((a-4352)*21+b-4449)*28:=IntWalk.i64_in _ (by omega);clear lD h1 h2 h3 h4
   go_enter Tryz.func177,Tryz.ntmps177
   go_wp2;go_ret2;exact⟨rfl,Below.refl _ _⟩
  have d4:decide (b<4470)=false:=decide_eq_false (by omega);rw[if_neg (by omega),if_neg (by rw[lD];simp)];clear lD h1 h2 h3 h4
  go_enter Tryz.func177,Tryz.ntmps177
  go_wp2_with fail
  refine cq (HH.out _) ?_
  go_wp2_with fail
  refine (HP.out _).mono ?_;rintro e w1 ⟨⟨A,c,rfl,ho⟩,hb⟩;have HR:=hide (Reads.dA ho);have HB:=hide hb;have hc:=rM ho;clear ho hb;go_wp2
  go_loopg [7] N (fun gk v7 wr=>∃(k:Nat),gk=N-k∧k≤N∧v7=.int .i64 (k:Int)∧Nf.bZ a b (L.drop k)=z∧Below w1.heap.size w1 wr)
  case atStart=>exact⟨0,rfl,by omega,rfl,HZ.out,Below.refl _ _⟩
  case round=>
   obtain⟨k,aq,hk,rfl,hz,aP⟩:=hrel;have Hg:=hide aq;have Hz:=hide hz;have ak:=hide aP;clear aq hz aP
   by_cases hlt:k<N
   ·obtain⟨x,hx⟩:∃x,L[k]?=some x:=⟨_,List.getElem?_eq_getElem (by rw[HN.out];exact hlt)⟩;obtain⟨p0,p1,p2⟩:=qa L k x hx;obtain⟨gb,off,rfl,aR,hcell⟩:=HR.out.2 (by omega);have y0:=(ak.out.cell aR).trans (hcell _ _ p0);have y1:=(ak.out.cell aR).trans (hcell _ _ p1);have y2:=(ak.out.cell aR).trans (hcell _ _ p2);have hat:=Nf.vU hx a b;rw[←Nat.add_assoc] at y1 y2;have bE:=hide (hat.symm.trans Hz.out);have fS:(0:Int)≤k∧(k:Int)<N:=by omega
    clear hat hx p0 p1 p2 hcell aR;obtain⟨xw,xf,xs⟩:=x;dsimp only at y0 y1 y2
    by_cases aS:xf=a
    ·have t1:(xf==a)=true:=by simpa using aS
     by_cases aO:xs=b
     ·have t2:(xs==b)=true:=by simpa using aO
      by_cases aJ:b=0
      ·have t3:(b != 0)=false:=by simpa using aJ
       have hv:=hide (show Nf.bZ a b (L.drop (k+1))=z by have:=bE.out;rwa[if_neg (fun h=>h.2.2 aJ)] at this);clear aS aO aJ;go_wp2
       go_roundg (N-(k+1))
       case measure=>have:=Hg.out;omega
       case rel=>exact⟨k+1,rfl,by omega,by first|rfl|go_num,hv.out,⟨ak.out.os,ak.out.tape,ak.out.output,ak.out.size,ak.out.block⟩⟩
      have t3:(b != 0)=true:=by simpa using aJ
      have hv:some xw=z:=by have:=bE.out;rwa[if_pos ⟨aS,aO,aJ⟩] at this
      subst hv;clear aS aO aJ;go_wp2;go_ret2;exact⟨rfl,(HB.out.trans (ak.out.mono HB.out.size)).os,(HB.out.trans (ak.out.mono HB.out.size)).tape,(HB.out.trans (ak.out.mono HB.out.size)).output,(HB.out.trans (ak.out.mono HB.out.size)).size,(HB.out.trans (ak.out.mono HB.out.size)).block⟩
     have t2:(xs==b)=false:=by simpa using aO
     have hv:=hide (show Nf.bZ a b (L.drop (k+1))=z by have:=bE.out;rwa[if_neg (fun h=>aO h.2.1)] at this);clear aS aO;go_wp2
     go_roundg (N-(k+1))
     case measure=>have:=Hg.out;omega
     case rel=>exact⟨k+1,rfl,by omega,by first|rfl|go_num,hv.out,⟨ak.out.os,ak.out.tape,ak.out.output,ak.out.size,ak.out.block⟩⟩
    have t1:(xf==a)=false:=by simpa using aS
    have hv:=hide (show Nf.bZ a b (L.drop (k+1))=z by have:=bE.out;rwa[if_neg (fun h=>aS h.1)] at this);clear aS;go_wp2
    go_roundg (N-(k+1))
    case measure=>have:=Hg.out;omega
    case rel=>exact⟨k+1,rfl,by omega,by first|rfl|go_num,hv.out,⟨ak.out.os,ak.out.tape,ak.out.output,ak.out.size,ak.out.block⟩⟩
   have hv:z=none:=by
    have:=Hz.out;rw[List.drop_of_length_le (by rw[HN.out];omega)] at this;exact this.symm
   subst hv;go_wp2;go_ret2;exact⟨rfl,HB.out.trans (ak.out.mono HB.out.size)⟩
 have d2:decide (a<4371)=false:=decide_eq_false (by omega);rw[if_neg (by omega)]
 cases hg:Nf.fN a with
 | false=>
  rw[hg] at HH;rw[if_neg (by simp)];clear hg h1 h2
  go_enter Tryz.func177,Tryz.ntmps177
  go_wp2_with fail
  refine cq (HH.out _) ?_
  go_wp2_with fail
  refine (HP.out _).mono ?_;rintro e w1 ⟨⟨A,c,rfl,ho⟩,hb⟩;have HR:=hide (Reads.dA ho);have HB:=hide hb;have hc:=rM ho;clear ho hb;go_wp2
  go_loopg [7] N (fun gk v7 wr=>∃(k:Nat),gk=N-k∧k≤N∧v7=.int .i64 (k:Int)∧Nf.bZ a b (L.drop k)=z∧Below w1.heap.size w1 wr)
  case atStart=>exact⟨0,rfl,by omega,rfl,HZ.out,Below.refl _ _⟩
  case round=>
   obtain⟨k,aq,hk,rfl,hz,aP⟩:=hrel;have Hg:=hide aq;have Hz:=hide hz;have ak:=hide aP;clear aq hz aP
   by_cases hlt:k<N
   ·obtain⟨x,hx⟩:∃x,L[k]?=some x:=⟨_,List.getElem?_eq_getElem (by rw[HN.out];exact hlt)⟩;obtain⟨p0,p1,p2⟩:=qa L k x hx;obtain⟨gb,off,rfl,aR,hcell⟩:=HR.out.2 (by omega);have y0:=(ak.out.cell aR).trans (hcell _ _ p0);have y1:=(ak.out.cell aR).trans (hcell _ _ p1);have y2:=(ak.out.cell aR).trans (hcell _ _ p2);have hat:=Nf.vU hx a b;rw[←Nat.add_assoc] at y1 y2;have bE:=hide (hat.symm.trans Hz.out);have fS:(0:Int)≤k∧(k:Int)<N:=by omega
    clear hat hx p0 p1 p2 hcell aR;obtain⟨xw,xf,xs⟩:=x;dsimp only at y0 y1 y2
    by_cases aS:xf=a
    ·have t1:(xf==a)=true:=by simpa using aS
     by_cases aO:xs=b
     ·have t2:(xs==b)=true:=by simpa using aO
      by_cases aJ:b=0
      ·have t3:(b != 0)=false:=by simpa using aJ
       have hv:=hide (show Nf.bZ a b (L.drop (k+1))=z by have:=bE.out;rwa[if_neg (fun h=>h.2.2 aJ)] at this);clear aS aO aJ;go_wp2
       go_roundg (N-(k+1))
       case measure=>have:=Hg.out;omega
       case rel=>exact⟨k+1,rfl,by omega,by first|rfl|go_num,hv.out,⟨ak.out.os,ak.out.tape,ak.out.output,ak.out.size,ak.out.block⟩⟩
      have t3:(b != 0)=true:=by simpa using aJ
      have hv:some xw=z:=by have:=bE.out;rwa[if_pos ⟨aS,aO,aJ⟩] at this
      subst hv;clear aS aO aJ;go_wp2;go_ret2;exact⟨rfl,(HB.out.trans (ak.out.mono HB.out.size)).os,(HB.out.trans (ak.out.mono HB.out.size)).tape,(HB.out.trans (ak.out.mono HB.out.size)).output,(HB.out.trans (ak.out.mono HB.out.size)).size,(HB.out.trans (ak.out.mono HB.out.size)).block⟩
     have t2:(xs==b)=false:=by simpa using aO
     have hv:=hide (show Nf.bZ a b (L.drop (k+1))=z by have:=bE.out;rwa[if_neg (fun h=>aO h.2.1)] at this);clear aS aO;go_wp2
     go_roundg (N-(k+1))
     case measure=>have:=Hg.out;omega
     case rel=>exact⟨k+1,rfl,by omega,by first|rfl|go_num,hv.out,⟨ak.out.os,ak.out.tape,ak.out.output,ak.out.size,ak.out.block⟩⟩
    have t1:(xf==a)=false:=by simpa using aS
    have hv:=hide (show Nf.bZ a b (L.drop (k+1))=z by have:=bE.out;rwa[if_neg (fun h=>aS h.1)] at this);clear aS;go_wp2
    go_roundg (N-(k+1))
    case measure=>have:=Hg.out;omega
    case rel=>exact⟨k+1,rfl,by omega,by first|rfl|go_num,hv.out,⟨ak.out.os,ak.out.tape,ak.out.output,ak.out.size,ak.out.block⟩⟩
   have hv:z=none:=by
    have:=Hz.out;rw[List.drop_of_length_le (by rw[HN.out];omega)] at this;exact this.symm
   subst hv;go_wp2;go_ret2;exact⟨rfl,HB.out.trans (ak.out.mono HB.out.size)⟩
 | true=>
  rw[hg] at HH;have hr:=of_decide_eq_true hg;have hm:Int.tmod (a-44032) 28=(a-44032) % 28:=Int.tmod_eq_emod_of_nonneg (by omega);obtain⟨t,ht⟩:∃t,(a-44032) % 28=t:=⟨_,rfl⟩;rw[ht] at hm ⊢
  by_cases h3:t=0
  ·have d3:(t==0)=true:=by simpa using h3
   by_cases h4:4519<b
   ·have d4:decide (4519<b)=true:=decide_eq_true h4
    by_cases h5:b<4547
    ·have d5:decide (b<4547)=true:=decide_eq_true h5;rw[if_pos ⟨rfl,h3,by omega⟩];have e1:IntKind.i64.wrap (a+b)=a+b:=IntWalk.i64_in _ (by omega);have e2:IntKind.i64.wrap (a+b-4519)=a+b-4519:=IntWalk.i64_in _ (by omega);clear hg hr ht h1 h2 h3 h4 h5
     go_enter Tryz.func177,Tryz.ntmps177
     go_wp2_with fail
     refine cq (HH.out _) ?_
     go_wp2;go_ret2;exact⟨rfl,Below.refl _ _⟩
    have d5:decide (b<4547)=false:=decide_eq_false h5;rw[if_neg (by omega)];clear hg hr ht h1 h2 h3 h4 h5
    go_enter Tryz.func177,Tryz.ntmps177
    go_wp2_with fail
    refine cq (HH.out _) ?_
    go_wp2_with fail
    refine (HP.out _).mono ?_;rintro e w1 ⟨⟨A,c,rfl,ho⟩,hb⟩;have HR:=hide (Reads.dA ho);have HB:=hide hb;have hc:=rM ho;clear ho hb;go_wp2
    go_loopg [7] N (fun gk v7 wr=>∃(k:Nat),gk=N-k∧k≤N∧v7=.int .i64 (k:Int)∧Nf.bZ a b (L.drop k)=z∧Below w1.heap.size w1 wr)
    case atStart=>exact⟨0,rfl,by omega,rfl,HZ.out,Below.refl _ _⟩
    case round=>
     obtain⟨k,aq,hk,rfl,hz,aP⟩:=hrel;have Hg:=hide aq;have Hz:=hide hz;have ak:=hide aP;clear aq hz aP
     by_cases hlt:k<N
     ·obtain⟨x,hx⟩:∃x,L[k]?=some x:=⟨_,List.getElem?_eq_getElem (by rw[HN.out];exact hlt)⟩;obtain⟨p0,p1,p2⟩:=qa L k x hx;obtain⟨gb,off,rfl,aR,hcell⟩:=HR.out.2 (by omega);have y0:=(ak.out.cell aR).trans (hcell _ _ p0);have y1:=(ak.out.cell aR).trans (hcell _ _ p1);have y2:=(ak.out.cell aR).trans (hcell _ _ p2);have hat:=Nf.vU hx a b;rw[←Nat.add_assoc] at y1 y2;have bE:=hide (hat.symm.trans Hz.out);have fS:(0:Int)≤k∧(k:Int)<N:=by omega
      clear hat hx p0 p1 p2 hcell aR;obtain⟨xw,xf,xs⟩:=x;dsimp only at y0 y1 y2
      by_cases aS:xf=a
      ·have t1:(xf==a)=true:=by simpa using aS
       by_cases aO:xs=b
       ·have t2:(xs==b)=true:=by simpa using aO
        by_cases aJ:b=0
        ·have t3:(b != 0)=false:=by simpa using aJ
         have hv:=hide (show Nf.bZ a b (L.drop (k+1))=z by have:=bE.out;rwa[if_neg (fun h=>h.2.2 aJ)] at this);clear aS aO aJ;go_wp2
         go_roundg (N-(k+1))
         case measure=>have:=Hg.out;omega
         case rel=>exact⟨k+1,rfl,by omega,by first|rfl|go_num,hv.out,⟨ak.out.os,ak.out.tape,ak.out.output,ak.out.size,ak.out.block⟩⟩
        have t3:(b != 0)=true:=by simpa using aJ
        have hv:some xw=z:=by have:=bE.out;rwa[if_pos ⟨aS,aO,aJ⟩] at this
        subst hv;clear aS aO aJ;go_wp2;go_ret2;exact⟨rfl,(HB.out.trans (ak.out.mono HB.out.size)).os,(HB.out.trans (ak.out.mono HB.out.size)).tape,(HB.out.trans (ak.out.mono HB.out.size)).output,(HB.out.trans (ak.out.mono HB.out.size)).size,(HB.out.trans (ak.out.mono HB.out.size)).block⟩
       have t2:(xs==b)=false:=by simpa using aO
       have hv:=hide (show Nf.bZ a b (L.drop (k+1))=z by have:=bE.out;rwa[if_neg (fun h=>aO h.2.1)] at this);clear aS aO;go_wp2
       go_roundg (N-(k+1))
       case measure=>have:=Hg.out;omega
       case rel=>exact⟨k+1,rfl,by omega,by first|rfl|go_num,hv.out,⟨ak.out.os,ak.out.tape,ak.out.output,ak.out.size,ak.out.block⟩⟩
      have t1:(xf==a)=false:=by simpa using aS
      have hv:=hide (show Nf.bZ a b (L.drop (k+1))=z by have:=bE.out;rwa[if_neg (fun h=>aS h.1)] at this);clear aS;go_wp2
      go_roundg (N-(k+1))
      case measure=>have:=Hg.out;omega
      case rel=>exact⟨k+1,rfl,by omega,by first|rfl|go_num,hv.out,⟨ak.out.os,ak.out.tape,ak.out.output,ak.out.size,ak.out.block⟩⟩
     have hv:z=none:=by
      have:=Hz.out;rw[List.drop_of_length_le (by rw[HN.out];omega)] at this;exact this.symm
     subst hv;go_wp2;go_ret2;exact⟨rfl,HB.out.trans (ak.out.mono HB.out.size)⟩
   have d4:decide (4519<b)=false:=decide_eq_false h4;rw[if_neg (by omega)];clear hg hr ht h1 h2 h3 h4
   go_enter Tryz.func177,Tryz.ntmps177
   go_wp2_with fail
   refine cq (HH.out _) ?_
   go_wp2_with fail
   refine (HP.out _).mono ?_;rintro e w1 ⟨⟨A,c,rfl,ho⟩,hb⟩;have HR:=hide (Reads.dA ho);have HB:=hide hb;have hc:=rM ho;clear ho hb;go_wp2
   go_loopg [7] N (fun gk v7 wr=>∃(k:Nat),gk=N-k∧k≤N∧v7=.int .i64 (k:Int)∧Nf.bZ a b (L.drop k)=z∧Below w1.heap.size w1 wr)
   case atStart=>exact⟨0,rfl,by omega,rfl,HZ.out,Below.refl _ _⟩
   case round=>
    obtain⟨k,aq,hk,rfl,hz,aP⟩:=hrel;have Hg:=hide aq;have Hz:=hide hz;have ak:=hide aP;clear aq hz aP
    by_cases hlt:k<N
    ·obtain⟨x,hx⟩:∃x,L[k]?=some x:=⟨_,List.getElem?_eq_getElem (by rw[HN.out];exact hlt)⟩;obtain⟨p0,p1,p2⟩:=qa L k x hx;obtain⟨gb,off,rfl,aR,hcell⟩:=HR.out.2 (by omega);have y0:=(ak.out.cell aR).trans (hcell _ _ p0);have y1:=(ak.out.cell aR).trans (hcell _ _ p1);have y2:=(ak.out.cell aR).trans (hcell _ _ p2);have hat:=Nf.vU hx a b;rw[←Nat.add_assoc] at y1 y2;have bE:=hide (hat.symm.trans Hz.out);have fS:(0:Int)≤k∧(k:Int)<N:=by omega
     clear hat hx p0 p1 p2 hcell aR;obtain⟨xw,xf,xs⟩:=x;dsimp only at y0 y1 y2
     by_cases aS:xf=a
     ·have t1:(xf==a)=true:=by simpa using aS
      by_cases aO:xs=b
      ·have t2:(xs==b)=true:=by simpa using aO
       by_cases aJ:b=0
       ·have t3:(b != 0)=false:=by simpa using aJ
        have hv:=hide (show Nf.bZ a b (L.drop (k+1))=z by have:=bE.out;rwa[if_neg (fun h=>h.2.2 aJ)] at this);clear aS aO aJ;go_wp2
        go_roundg (N-(k+1))
        case measure=>have:=Hg.out;omega
        case rel=>exact⟨k+1,rfl,by omega,by first|rfl|go_num,hv.out,⟨ak.out.os,ak.out.tape,ak.out.output,ak.out.size,ak.out.block⟩⟩
       have t3:(b != 0)=true:=by simpa using aJ
       have hv:some xw=z:=by have:=bE.out;rwa[if_pos ⟨aS,aO,aJ⟩] at this
       subst hv;clear aS aO aJ;go_wp2;go_ret2;exact⟨rfl,(HB.out.trans (ak.out.mono HB.out.size)).os,(HB.out.trans (ak.out.mono HB.out.size)).tape,(HB.out.trans (ak.out.mono HB.out.size)).output,(HB.out.trans (ak.out.mono HB.out.size)).size,(HB.out.trans (ak.out.mono HB.out.size)).block⟩
      have t2:(xs==b)=false:=by simpa using aO
      have hv:=hide (show Nf.bZ a b (L.drop (k+1))=z by have:=bE.out;rwa[if_neg (fun h=>aO h.2.1)] at this);clear aS aO;go_wp2
      go_roundg (N-(k+1))
      case measure=>have:=Hg.out;omega
      case rel=>exact⟨k+1,rfl,by omega,by first|rfl|go_num,hv.out,⟨ak.out.os,ak.out.tape,ak.out.output,ak.out.size,ak.out.block⟩⟩
     have t1:(xf==a)=false:=by simpa using aS
     have hv:=hide (show Nf.bZ a b (L.drop (k+1))=z by have:=bE.out;rwa[if_neg (fun h=>aS h.1)] at this);clear aS;go_wp2
     go_roundg (N-(k+1))
     case measure=>have:=Hg.out;omega
     case rel=>exact⟨k+1,rfl,by omega,by first|rfl|go_num,hv.out,⟨ak.out.os,ak.out.tape,ak.out.output,ak.out.size,ak.out.block⟩⟩
    have hv:z=none:=by
     have:=Hz.out;rw[List.drop_of_length_le (by rw[HN.out];omega)] at this;exact this.symm
    subst hv;go_wp2;go_ret2;exact⟨rfl,HB.out.trans (ak.out.mono HB.out.size)⟩
  have d3:(t==0)=false:=by simpa using h3
  rw[if_neg (fun h=>h3 h.2.1)];clear hg hr ht h1 h2 h3
  go_enter Tryz.func177,Tryz.ntmps177
  go_wp2_with fail
  refine cq (HH.out _) ?_
  go_wp2_with fail
  refine (HP.out _).mono ?_;rintro e w1 ⟨⟨A,c,rfl,ho⟩,hb⟩;have HR:=hide (Reads.dA ho);have HB:=hide hb;have hc:=rM ho;clear ho hb;go_wp2
  go_loopg [7] N (fun gk v7 wr=>∃(k:Nat),gk=N-k∧k≤N∧v7=.int .i64 (k:Int)∧Nf.bZ a b (L.drop k)=z∧Below w1.heap.size w1 wr)
  case atStart=>exact⟨0,rfl,by omega,rfl,HZ.out,Below.refl _ _⟩
  case round=>
   obtain⟨k,aq,hk,rfl,hz,aP⟩:=hrel;have Hg:=hide aq;have Hz:=hide hz;have ak:=hide aP;clear aq hz aP
   by_cases hlt:k<N
   ·obtain⟨x,hx⟩:∃x,L[k]?=some x:=⟨_,List.getElem?_eq_getElem (by rw[HN.out];exact hlt)⟩;obtain⟨p0,p1,p2⟩:=qa L k x hx;obtain⟨gb,off,rfl,aR,hcell⟩:=HR.out.2 (by omega);have y0:=(ak.out.cell aR).trans (hcell _ _ p0);have y1:=(ak.out.cell aR).trans (hcell _ _ p1);have y2:=(ak.out.cell aR).trans (hcell _ _ p2);have hat:=Nf.vU hx a b;rw[←Nat.add_assoc] at y1 y2;have bE:=hide (hat.symm.trans Hz.out);have fS:(0:Int)≤k∧(k:Int)<N:=by omega
    clear hat hx p0 p1 p2 hcell aR;obtain⟨xw,xf,xs⟩:=x;dsimp only at y0 y1 y2
    by_cases aS:xf=a
    ·have t1:(xf==a)=true:=by simpa using aS
     by_cases aO:xs=b
     ·have t2:(xs==b)=true:=by simpa using aO
      by_cases aJ:b=0
      ·have t3:(b != 0)=false:=by simpa using aJ
       have hv:=hide (show Nf.bZ a b (L.drop (k+1))=z by have:=bE.out;rwa[if_neg (fun h=>h.2.2 aJ)] at this);clear aS aO aJ;go_wp2
       go_roundg (N-(k+1))
       case measure=>have:=Hg.out;omega
       case rel=>exact⟨k+1,rfl,by omega,by first|rfl|go_num,hv.out,⟨ak.out.os,ak.out.tape,ak.out.output,ak.out.size,ak.out.block⟩⟩
      have t3:(b != 0)=true:=by simpa using aJ
      have hv:some xw=z:=by have:=bE.out;rwa[if_pos ⟨aS,aO,aJ⟩] at this
      subst hv;clear aS aO aJ;go_wp2;go_ret2;exact⟨rfl,(HB.out.trans (ak.out.mono HB.out.size)).os,(HB.out.trans (ak.out.mono HB.out.size)).tape,(HB.out.trans (ak.out.mono HB.out.size)).output,(HB.out.trans (ak.out.mono HB.out.size)).size,(HB.out.trans (ak.out.mono HB.out.size)).block⟩
     have t2:(xs==b)=false:=by simpa using aO
     have hv:=hide (show Nf.bZ a b (L.drop (k+1))=z by have:=bE.out;rwa[if_neg (fun h=>aO h.2.1)] at this);clear aS aO;go_wp2
     go_roundg (N-(k+1))
     case measure=>have:=Hg.out;omega
     case rel=>exact⟨k+1,rfl,by omega,by first|rfl|go_num,hv.out,⟨ak.out.os,ak.out.tape,ak.out.output,ak.out.size,ak.out.block⟩⟩
    have t1:(xf==a)=false:=by simpa using aS
    have hv:=hide (show Nf.bZ a b (L.drop (k+1))=z by have:=bE.out;rwa[if_neg (fun h=>aS h.1)] at this);clear aS;go_wp2
    go_roundg (N-(k+1))
    case measure=>have:=Hg.out;omega
    case rel=>exact⟨k+1,rfl,by omega,by first|rfl|go_num,hv.out,⟨ak.out.os,ak.out.tape,ak.out.output,ak.out.size,ak.out.block⟩⟩
   have hv:z=none:=by
    have:=Hz.out;rw[List.drop_of_length_le (by rw[HN.out];omega)] at this;exact this.symm
   subst hv;go_wp2;go_ret2;exact⟨rfl,HB.out.trans (ak.out.mono HB.out.size)⟩
end
section
open Go.RowKit Go.WideShapes

theorem agu(w:World)(r:Int):(w.alloc (.cells #[.int .i64 r] 3)).ownsRow w.heap.size 3 1 (.slice (some ⟨w.heap.size,0,none⟩) 1 1) 1 (ar [r]) :=
 World.ownsRow_lit w #[.int .i64 r] 1 (Nat.le_refl _) (by unfold maxLen;omega) rfl
def qI(w:World)(l:List Int)(e:Ending)(w':World):Prop:=(∃A c,e=.returned (.slice A l.length c)∧w'.ownsRow w.heap.size 3 1 (.slice A l.length c) l.length (ar l))∧Below w.heap.size w w'
theorem L3:∀(n:Nat) (r:Int) (l:List Int) (w:World),n≤4→Nf.apart n r=some l→Nf.Ok r→Calls Tryz.prog 178 #[.int .i64 r] w (qI w l)
 | 0,_,_,_,_,h,_=>by cases h
 | n+1,r,l,w,hn,h,hr=>by
  have HM:=hide (fun W=>ahz r W hr.1 hr.2);rw[Nf.apart] at h;unfold vV at HM
  cases hm:Nf.made r with
  | none=>
   rw[hm] at h HM;cases h;dsimp only at HM;clear hm
   go_enter Tryz.func178,Tryz.ntmps178
   go_wp2_with fail
   refine (HM.out _).mono ?_;rintro e w1 ⟨rfl,au⟩;have HB:=hide au;clear au;go_wp2;go_ret;refine⟨⟨_,_,rfl,(agu w1 r).mono HB.out.size⟩,HB.out.trans ((aA _ _).mono HB.out.size)⟩
  | some p=>
   obtain⟨a,b⟩:=p;rw[hm] at h HM;dsimp only at h HM;obtain⟨⟨a0,a1⟩,⟨b0,b1⟩⟩:=Nf.LC hm
   cases cn:Nf.apart n a with
   | none=>rw[cn] at h;cases h
   | some la=>
    rw[cn] at h;dsimp only at h;have IH:=hide (fun (W:World)=>L3 n a la W (by omega) cn ⟨a0,a1⟩);have lF:=Nf.zE cn
    by_cases hb:b=0
    ·subst hb;rw[if_pos rfl] at h;cases h;clear hm cn lF
     go_enter Tryz.func178,Tryz.ntmps178
     go_wp2_with fail
     refine (HM.out _).mono ?_;rintro e w1 ⟨rfl,au⟩;have HB:=hide au;clear au
     go_wp2_with fail
     refine (IH.out _).mono ?_;rintro e w2 ⟨⟨A,c,rfl,ho⟩,ag⟩;have HO:=hide (ho.mono HB.out.size);have ah:=hide (HB.out.trans (ag.mono HB.out.size));clear ho ag;go_wp2;go_ret;exact⟨⟨_,_,rfl,HO.out⟩,ah.out⟩
    rw[if_neg hb] at h;obtain⟨lb,eP,e⟩:=Option.map_eq_some_iff.1 h;subst e;have Ig:=hide (fun (W:World)=>L3 n b lb W (by omega) eP ⟨b0,b1⟩);have adG:=Nf.zE eP;have hn3:n≤3:=by omega
    have hp8:2 ^ n≤8:=Nat.pow_le_pow_right (n:=2) (by omega) hn3;have eb:(b != 0)=true:=by simpa using hb
    have amn:la.length+lb.length≤16:=by omega
    clear hm cn lF eP adG h hb hp8
    go_enter Tryz.func178,Tryz.ntmps178
    go_wp2_with fail
    refine (HM.out _).mono ?_;rintro e w1 ⟨rfl,au⟩;have HB:=hide au;clear au
    go_wp2_with fail
    refine (IH.out _).mono ?_;rintro e w2 ⟨⟨A,c,rfl,ho⟩,ag⟩;have HO:=hide (ho.mono HB.out.size);have ah:=hide (HB.out.trans (ag.mono HB.out.size));clear ho ag
    go_wp2_with fail
    refine (Ig.out _).mono ?_;rintro e w3 ⟨⟨A3,c3,rfl,ho⟩,aD⟩;have cf:=hide (yp HO.out aD);have kV:=hide (Reads.dA ho);have ax:=hide (ah.out.trans (aD.mono ah.out.size));have aM:=ax.out.size;clear ho aD;dsimp only
    go_wp2_with (at_builtin;go_loud (refine wD w3 rfl (.tmp 21) (.tmp 23) 166 rfl w.heap.size (.int .i64 0) 1 8 Tryz.underlying166 fU rfl (by omega) (.slice A la.length c) la.length (ar la) rfl cf.out w3.heap.size A3 lb.length c3 (ar lb) kV.out (EY _) rfl (by unfold maxLen;omega) (by omega) aM ?_);intro A4 c4 w4 AO nk;have sj:=hide AO;have cd:=hide (ax.out.grown nk ax.out.size (fun j e=>(aI cf.out j e).1));clear AO nk)
    go_ret;refine⟨⟨A4,c4,by rw[List.length_append];rfl,?_⟩,cd.out⟩;rw[List.length_append,iB];exact sj.out
theorem ahC(r:Int)(w:World)(hr:Nf.Ok r):Calls Tryz.prog 178 #[.int .i64 r] w (qI w (Nf.parts r)):=L3 4 r _ w (by omega) (Nf.Fl r) hr
theorem ahr(l:List Int)(A:Option Addr)(c:Nat)(w:World)(hr:Reads w w.heap.size 1 A l.length (ar l))(bY:∀x∈l,Nf.Ok x)(hn:l.length≤1000000) :
  Calls Tryz.prog 144 #[.slice A l.length c] w (qI w (Nf.bS l)):=by
 have HR:=hide hr;have ig:=hide bY;clear hr bY;obtain⟨N,hN⟩:∃N,l.length=N:=⟨_,rfl⟩;rw[hN] at hn HR ⊢;have HN:=hide hN;clear hN
 go_enter Tryz.func144,Tryz.ntmps144
 go_wp2
 go_loopg [3,4] N (fun gk v3 v4 wr=>∃(j m:Nat) (A':Option Addr) (c':Nat),gk=N-j∧j≤N∧v4=.int .i64 (j:Int)∧v3=.slice A' m c'∧(Nf.bS (l.take j)).length=m∧wr.ownsRow w.heap.size 3 1 (.slice A' m c') m (ar (Nf.bS (l.take j)))∧Below w.heap.size w wr)
 case atStart=>exact⟨0,0,none,0,rfl,by omega,rfl,rfl,rfl,World.ownsRow_nil _ _ _ _,Below.refl _ _⟩
 case round=>
  obtain⟨j,m,A',c',aq,hj,rfl,rfl,hm,ho,hb⟩:=hrel;have Hg:=hide aq;have HO:=hide ho;have HB:=hide hb;have Hm:=hide hm;clear aq ho hb hm
  by_cases hlt:j<N
  ·obtain⟨a,ha⟩:∃a,l[j]?=some a:=⟨_,List.getElem?_eq_getElem (by rw[HN.out];exact hlt)⟩;obtain⟨gb,off,rfl,dN,hcell⟩:=HR.out.2 (by omega);have y0:wr.cell? ⟨gb,off+j,none⟩=some (.int .i64 a):=(HB.out.cell dN).trans (hcell j _ (by unfold ar;rw[List.getElem?_map,ha];rfl));have HD:=hide (Nf.I7 ha);have hlen:=Nf.xh (l.take (j+1))
   have mA:m+(Nf.parts a).length≤100000000:=by
    rw[←Hm.out,←List.length_append,←HD.out];have:=List.length_take_le (j+1) l;have:=HN.out;omega
   have HP:=hide (fun W=>ahC a W (ig.out a (List.mem_of_getElem? ha)));obtain⟨pl,hpl⟩:∃pl,Nf.parts a=pl:=⟨_,rfl⟩;rw[hpl] at HD mA HP;obtain⟨q,hq⟩:∃q,pl.length=q:=⟨_,rfl⟩;have Hq:=hide hq;unfold qI at HP;rw[hq] at mA HP;clear hcell ha hlen hpl hq
   go_wp2_with fail
   refine (HP.out _).mono ?_;rintro e w3 ⟨⟨A3,c3,rfl,ho⟩,aD⟩;have cf:=hide (yp HO.out aD);have kV:=hide (Reads.dA ho);have ax:=hide (HB.out.trans (aD.mono HB.out.size));have aM:=ax.out.size;clear ho aD;dsimp only
   go_wp2_with (at_builtin;go_loud (refine wD w3 rfl (.tmp 11) (.tmp 16) 166 rfl w.heap.size (.int .i64 0) 1 8 Tryz.underlying166 fU rfl (by omega) (.slice A' m c') m _ rfl cf.out w3.heap.size A3 q c3 (ar pl) kV.out (EY _) rfl (by unfold maxLen;omega) (by omega) aM ?_);intro A4 c4 w4 AO nk;have sj:=hide AO;have cd:=hide (ax.out.grown nk ax.out.size (fun j e=>(aI cf.out j e).1));clear AO nk)
   go_roundg (N-(j+1))
   case measure=>have:=Hg.out;omega
   case rel=>exact⟨j+1,m+q,A4,c4,rfl,by omega,by first|rfl|go_num,rfl,by rw[HD.out,List.length_append,Hm.out,Hq.out],by rw[HD.out,iB];exact sj.out,cd.out⟩
  have tD:j=N:=by omega
  subst tD;go_wp2;go_ret;have hx:=HO.out;have e7:=Hm.out;rw[List.take_of_length_le (by rw[HN.out];exact Nat.le_refl _)] at hx e7;exact⟨⟨A',c',by rw[e7];rfl,by rw[e7];exact hx⟩,HB.out⟩
end
section
open Go.RowKit Go.WideShapes

end
section
open Go.RowKit Go.WideShapes

namespace Cv
end Cv
end
section
open Go.RowKit Go.WideShapes

end
section
open Go.RowKit Go.WideShapes

namespace Cv
end Cv
end
section
open Go.RowKit Go.WideShapes

namespace Cv
def rest(s:Int):Int:=(s+62135596800) % 86400
end Cv
end
section
open Go.RowKit Go.WideShapes

namespace Cv
end Cv
end
section
open Go.RowKit Go.WideShapes

namespace Cv
end Cv
end
section
namespace Cv
def ahead(y:Int):Int:=365*(y-1)+(y-1) / 4-(y-1) / 100+(y-1) / 400
end Cv
end
section
open Go.RowKit Go.WideShapes

end
end Go.Proofs.YtifiiojchlaghaaGreatDoor
