/- NFC: what the document makes of a scalar, of two (ref10.Made, Whole). (Printed by genTdO.py.) And more. -/
import Derived.Test.YtnbmfljhbpfilaaGreatDoorOw00
import Derived.Test.YtnbmfljhbpfilaaGreatDoorOw24
import Derived.Test.YtnbmfljhbpfilaaGreatDoorOw28
import Derived.Test.YtnbmfljhbpfilaaGreatDoorOw31
import Derived.Test.YtnbmfljhbpfilaaGreatDoorOw32
import Derived.Test.YtnbmfljhbpfilaaGreatDoorOw36
import Derived.Test.YtnbmfljhbpfilaaGreatDoorOw39
import Derived.Laws.ResultCell
import Derived.Lib.SlBytesConst
import Derived.Lib.UnsafeStr
set_option linter.unusedSimpArgs false
set_option maxRecDepth 100000
set_option maxHeartbeats 16000000
set_option linter.unusedVariables false
namespace Go.Proofs.YtnbmfljhbpfilaaGreatDoor
section
open Go.RowKit Go.WideShapes

namespace Nf
def ag4:Option (Int×Int)→Value
 | some (a,b)=>.tuple #[.int .i64 a,.int .i64 b,.bool true]
 | none=>.tuple #[.int .i64 0,.int .i64 0,.bool false]
def ag6:Option Int→Value
 | some v=>.tuple #[.int .i64 v,.bool true]
 | none=>.tuple #[.int .i64 0,.bool false]
theorem JY{α:Type}{l:List α}{k:Nat}{x:α}(h:l[k]?=some x):l.drop k=x :: l.drop (k+1):=by
 obtain⟨hk,e⟩:=List.getElem?_eq_some_iff.1 h;rw[List.drop_eq_getElem_cons hk,e]
theorem ag5{l:List Pr}{k:Nat}{x:Pr}(h:l[k]?=some x)(r:Int):mz r (l.drop k)=if x.w=r then some (x.f,x.s) else mz r (l.drop (k+1)):=by
 rw[JY h];rfl
theorem ag7{l:List Pr}{k:Nat}{x:Pr}(h:l[k]?=some x)(a b:Int):lM a b (l.drop k)=if x.f=a∧x.s=b∧b≠0 then some x.w else lM a b (l.drop (k+1)):=by
 rw[JY h];rfl
theorem WK:ik.length≤1000:=by decide +kernel
end Nf
theorem aha(r:Int):vQ r=Nf.ag4 (Nf.DK r):=by
 rw[Nf.ac9];unfold vQ
 cases Nf.made r<;>rfl
theorem amT(a b:Int):jO a b=Nf.ag6 (Nf.DR a b):=by
 rw[Nf.adm];unfold jO
 cases Nf.whole a b<;>rfl
theorem ajy(r:Int)(w:World)(h0:0≤r)(h1:r≤1114111):Calls Tryz.prog 181 #[.int .i64 r] w fun e w'=>e=.returned (vQ r)∧Below w.heap.size w w':=by
 have HH:=hide (fun W=>Xk r W);rw[aha];unfold Nf.DK
 cases hg:Nf.fX r with
 | true=>
  rw[hg] at HH;rw[if_pos rfl];have hr:=of_decide_eq_true hg;obtain⟨n,hn⟩:∃n:Nat,r=44032+n:=⟨(r-44032).toNat,by omega⟩;subst hn;have hw:IntKind.i64.wrap (44032+(n:Int)-44032)=(n:Int):=by rw[IntWalk.i64_in _ (by omega)];omega
  have hm:Int.tmod (n:Int) 28=((n % 28:Nat):Int):=by rw[Int.tmod_eq_emod_of_nonneg (by omega)];omega
  have e1:(44032+(n:Int)-0xAC00) % 28=((n % 28:Nat):Int):=by omega
  have e2:(44032+(n:Int)-0xAC00) / 28=((n / 28:Nat):Int):=by omega
  rw[e1,e2];obtain⟨t,ht⟩:∃t,n % 28=t:=⟨_,rfl⟩;rw[ht] at hm ⊢;have jn:t<28:=by omega
  by_cases hp:0<t
  ·rw[if_pos (by omega)];have fB:(0:Int)<(t:Int):=by omega
   have hq:=hr;have Vc:IntKind.i64.wrap (44032+(n:Int)-(t:Int))=44032+(n:Int)-(t:Int):=by rw[IntWalk.i64_in _ (by omega)]
   clear hg hr e1 e2 ht
   go_enter Tryz.func181,Tryz.ntmps181
   go_wp2_with fail
   refine cq (HH.out _) ?_
   go_wp2;go_ret3;exact⟨rfl,Below.refl _ _⟩
  have E5:t=0:=by omega
  subst E5;rw[if_neg (by omega)];have hd:Int.tdiv (n:Int) 28=((n / 28:Nat):Int):=by rw[Int.tdiv_eq_ediv_of_nonneg (by omega)];omega
  obtain⟨k,hk⟩:∃k,n / 28=k:=⟨_,rfl⟩;rw[hk] at hd ⊢;have dW:k<400:=by omega
  have bg:Int.tdiv (k:Int) 21=((k / 21:Nat):Int):=by rw[Int.tdiv_eq_ediv_of_nonneg (by omega)];omega
  have er:Int.tmod (k:Int) 21=((k % 21:Nat):Int):=by rw[Int.tmod_eq_emod_of_nonneg (by omega)];omega
  have e3:(k:Int) / 21=((k / 21:Nat):Int):=by omega
  have e4:(k:Int) % 21=((k % 21:Nat):Int):=by omega
  rw[e3,e4];obtain⟨a,ha⟩:∃a,k / 21=a:=⟨_,rfl⟩;obtain⟨b,hb⟩:∃b,k % 21=b:=⟨_,rfl⟩;rw[ha] at bg ⊢;rw[hb] at er ⊢;have fW:a<20:=by omega
  have bt:b<21:=by omega
  clear hg hr e1 e2 e3 e4 ht hk ha hb
  go_enter Tryz.func181,Tryz.ntmps181
  go_wp2_with fail
  refine cq (HH.out _) ?_
  go_wp2;go_ret3;exact⟨rfl,Below.refl _ _⟩
 | false=>
  rw[hg] at HH;simp only[Bool.false_eq_true,if_false];have HP:=hide (fun W=>Xl W);obtain⟨L,hL⟩:∃L,Nf.ik=L:=⟨_,rfl⟩;have hN:=Nf.WK;rw[hL] at HP hN ⊢;clear hg hL;obtain⟨N,uT⟩:∃N,L.length=N:=⟨_,rfl⟩;have HN:=hide uT;rw[uT] at HP hN;obtain⟨z,hz⟩:∃z,Nf.mz r L=z:=⟨_,rfl⟩;rw[hz];have HZ:=hide hz;clear uT hz
  go_enter Tryz.func181,Tryz.ntmps181
  go_wp2_with fail
  go_wp2_with fail
  refine cq (HH.out _) ?_
  go_wp2_with fail
  refine (HP.out _).mono ?_;rintro e w1 ⟨⟨A,c,rfl,ho⟩,hb⟩;have HR:=hide (Reads.eH ho);have HB:=hide hb;have hc:=MC ho;clear ho hb;go_wp2
  go_loopg [8] N (fun gk v8 wr=>∃(k:Nat),gk=N-k∧k≤N∧v8=.int .i64 (k:Int)∧Nf.mz r (L.drop k)=z∧wr=w1)
  case atStart=>exact⟨0,rfl,by omega,rfl,HZ.out,rfl⟩
  case round=>
   obtain⟨k,au,hk,rfl,hz,rfl⟩:=hrel;have Hg:=hide au;have Hz:=hide hz;clear au hz
   by_cases hlt:k<N
   ·obtain⟨x,hx⟩:∃x,L[k]?=some x:=⟨_,List.getElem?_eq_getElem (by rw[HN.out];exact hlt)⟩;obtain⟨p0,p1,p2⟩:=FT L k x hx;obtain⟨gb,off,rfl,dH,hcell⟩:=HR.out.2 (by omega);have y0:=hcell _ _ p0;have y1:=hcell _ _ p1;have y2:=hcell _ _ p2;have hat:=Nf.ag5 hx r;rw[←Nat.add_assoc] at y1 y2;have jT:=hide (hat.symm.trans Hz.out);have jh:(0:Int)≤k∧(k:Int)<N:=by omega
    clear hat hx p0 p1 p2 hcell;obtain⟨xw,xf,xs⟩:=x;dsimp only at y0 y1 y2
    by_cases oo:xw=r
    ·have hv:some (xf,xs)=z:=by have:=jT.out;rwa[if_pos oo] at this
     subst hv;have e1:(xw==r)=true:=by simpa using oo
     clear oo
     go_wp2_with fail
     go_quiet (fail)
     go_wp2;go_ret3;exact⟨rfl,HB.out.os,HB.out.tape,HB.out.output,HB.out.size,HB.out.block⟩
    have hv:=hide (show Nf.mz r (L.drop (k+1))=z by have:=jT.out;rwa[if_neg oo] at this);have e1:(xw==r)=false:=by simpa using oo
    clear oo;go_wp2
    go_roundg (N-(k+1))
    case measure=>have:=Hg.out;omega
    case rel=>exact⟨k+1,rfl,by omega,by first|rfl|go_num,hv.out,rfl⟩
   have hv:z=none:=by
    have:=Hz.out;rw[List.drop_of_length_le (by rw[HN.out];omega)] at this;exact this.symm
   subst hv;go_wp2;go_ret3;exact⟨rfl,HB.out⟩
theorem ajO(a b:Int)(w:World)(a0:0≤a)(a1:a≤1114111)(b0:0≤b)(b1:b≤1114111):Calls Tryz.prog 147 #[.int .i64 a,.int .i64 b] w fun e w'=>e=.returned (jO a b)∧Below w.heap.size w w':=by
 have HH:=hide (fun W=>Xk a W);rw[amT];unfold Nf.DR;have HP:=hide (fun W=>Xl W);obtain⟨L,hL⟩:∃L,Nf.ik=L:=⟨_,rfl⟩;have hN:=Nf.WK;rw[hL] at HP hN ⊢;clear hL;obtain⟨N,uT⟩:∃N,L.length=N:=⟨_,rfl⟩;have HN:=hide uT;rw[uT] at HP hN;obtain⟨z,hz⟩:∃z,Nf.lM a b L=z:=⟨_,rfl⟩;rw[hz];have HZ:=hide hz;clear uT hz;have dK:(Lit.int .i64 a).wf=true:=WalkArith.wf_i64 (by omega);have eE:(Lit.int .i64 b).wf=true:=WalkArith.wf_i64 (by omega);have lK:IntKind.i64.wrap (a-44032)=a-44032:=IntWalk.i64_in _ (by omega);obtain⟨hv,xN⟩:∃q,Nf.fX a=q:=⟨_,rfl⟩;rw[xN] at HH ⊢
 by_cases hA:4352≤a∧a<4371∧4449≤b∧b<4470
 ·rw[if_pos (by omega)];have d1:decide (4352≤a)=true:=decide_eq_true (by omega);have d2:decide (a<4371)=true:=decide_eq_true (by omega);have d3:decide (4449≤b)=true:=decide_eq_true (by omega);have d4:decide (b<4470)=true:=decide_eq_true (by omega);have e1:IntKind.i64.wrap (a-4352)=a-4352:=IntWalk.i64_in _ (by omega);have e2:IntKind.i64.wrap ((a-4352)*21)=(a-4352)*21:=IntWalk.i64_in _ (by omega);have e3:IntKind.i64.wrap ((a-4352)*21+b)=(a-4352)*21+b:=IntWalk.i64_in _ (by omega);have e4:IntKind.i64.wrap ((a-4352)*21+b-4449)=(a-4352)*21+b-4449:=IntWalk.i64_in _ (by omega);have e5:IntKind.i64.wrap (((a-4352)*21+b-4449)*28)=((a-4352)*21+b-4449)*28:=IntWalk.i64_in _ (by omega);have e6:IntKind.i64.wrap (44032+((a-4352)*21+b-4449)*28)=44032+((a-4352)*21+b-4449)*28:=IntWalk.i64_in _ (by omega);clear xN hA
  go_enter Tryz.func147,Tryz.ntmps147
  go_wp2;go_ret2;exact⟨rfl,Below.refl _ _⟩
 rw[if_neg (by omega)]
 by_cases hB:hv=true∧(a-44032) % 28=0∧4519<b∧b<4547
 ·obtain⟨rfl,h3,h4,h5⟩:=hB;have hr:=of_decide_eq_true xN;have d1:decide (4352≤a)=true:=decide_eq_true (by omega);have d2:decide (a<4371)=false:=decide_eq_false (by omega);have hm:Int.tmod (a-44032) 28=0:=(Int.tmod_eq_emod_of_nonneg (by omega)).trans h3;have d4:decide (4519<b)=true:=decide_eq_true h4;have d5:decide (b<4547)=true:=decide_eq_true h5;rw[if_pos ⟨rfl,h3,by omega⟩];have e1:IntKind.i64.wrap (a+b)=a+b:=IntWalk.i64_in _ (by omega);have e2:IntKind.i64.wrap (a+b-4519)=a+b-4519:=IntWalk.i64_in _ (by omega);clear xN hr h3 h4 h5 hA
  go_enter Tryz.func147,Tryz.ntmps147
  go_wp2_with fail
  refine cq (HH.out _) ?_
  go_wp2;go_ret2;exact⟨rfl,Below.refl _ _⟩
 rw[if_neg (fun h=>hB ⟨h.1,h.2.1,by omega,by omega⟩)]
 have vd:(decide (4352≤a)=false∧hv=false)∨(decide (4352≤a)=true∧decide (a<4371)=true∧decide (4449≤b)=false∧hv=false)∨(decide (4352≤a)=true∧decide (a<4371)=true∧decide (4449≤b)=true∧decide (b<4470)=false∧hv=false)∨
   (decide (4352≤a)=true∧decide (a<4371)=false∧hv=false)∨(decide (4352≤a)=true∧decide (a<4371)=false∧hv=true∧∃t,Int.tmod (a-44032) 28=t∧((t==0)=false∨((t==0)=true∧(decide (4519<b)=false∨(decide (4519<b)=true∧decide (b<4547)=false))))):=by
  simp only[decide_eq_true_eq,decide_eq_false_iff_not,beq_iff_eq,beq_eq_false_iff_ne]
  cases hv with
  | true=>
   have hr:=of_decide_eq_true xN;refine .inr (.inr (.inr (.inr ⟨by omega,by omega,rfl,_,Int.tmod_eq_emod_of_nonneg (by omega),?_⟩)));have di:¬((a-44032) % 28=0∧4519<b∧b<4547):=fun h=>hB ⟨rfl,h⟩;clear hB hA;omega
  | false=>
   simp only[and_true,Bool.false_eq_true,and_false,false_and,or_false];omega
 clear xN hA hB
 rcases vd with ⟨d1,rfl⟩|⟨d1,d2,d3,rfl⟩|⟨d1,d2,d3,d4,rfl⟩|⟨d1,d2,rfl⟩|⟨d1,d2,rfl,t,hm,d3|⟨d3,d4|⟨d4,d5⟩⟩⟩
 all_goals
  go_enter Tryz.func147,Tryz.ntmps147
  go_wp2_with fail
  refine cq (HH.out _) ?_
  go_wp2_with fail
  refine (HP.out _).mono ?_;rintro e w1 ⟨⟨A,c,rfl,ho⟩,hb⟩;have HR:=hide (Reads.eH ho);have HB:=hide hb;have hc:=MC ho;clear ho hb;go_wp2
  go_loopg [7] N (fun gk v7 wr=>∃(k:Nat),gk=N-k∧k≤N∧v7=.int .i64 (k:Int)∧Nf.lM a b (L.drop k)=z∧Below w1.heap.size w1 wr)
  case atStart=>exact⟨0,rfl,by omega,rfl,HZ.out,Below.refl _ _⟩
  case round=>
   obtain⟨k,au,hk,rfl,hz,bt⟩:=hrel;have Hg:=hide au;have Hz:=hide hz;have bM:=hide bt;clear au hz bt
   by_cases hlt:k<N
   ·obtain⟨x,hx⟩:∃x,L[k]?=some x:=⟨_,List.getElem?_eq_getElem (by rw[HN.out];exact hlt)⟩;obtain⟨p0,p1,p2⟩:=FT L k x hx;obtain⟨gb,off,rfl,dH,hcell⟩:=HR.out.2 (by omega);have y0:=(bM.out.cell dH).trans (hcell _ _ p0);have y1:=(bM.out.cell dH).trans (hcell _ _ p1);have y2:=(bM.out.cell dH).trans (hcell _ _ p2);have hat:=Nf.ag7 hx a b;rw[←Nat.add_assoc] at y1 y2;have jT:=hide (hat.symm.trans Hz.out);have jh:(0:Int)≤k∧(k:Int)<N:=by omega
    clear hat hx p0 p1 p2 hcell dH;obtain⟨xw,xf,xs⟩:=x;dsimp only at y0 y1 y2
    by_cases tv:xf=a
    ·have t1:(xf==a)=true:=by simpa using tv
     by_cases eG:xs=b
     ·have t2:(xs==b)=true:=by simpa using eG
      by_cases dz:b=0
      ·have t3:(b != 0)=false:=by simpa using dz
       have hv:=hide (show Nf.lM a b (L.drop (k+1))=z by have:=jT.out;rwa[if_neg (fun h=>h.2.2 dz)] at this);clear tv eG dz;go_wp2
       go_roundg (N-(k+1))
       case measure=>have:=Hg.out;omega
       case rel=>exact⟨k+1,rfl,by omega,by first|rfl|go_num,hv.out,⟨bM.out.os,bM.out.tape,bM.out.output,bM.out.size,bM.out.block⟩⟩
      have t3:(b != 0)=true:=by simpa using dz
      have hv:some xw=z:=by have:=jT.out;rwa[if_pos ⟨tv,eG,dz⟩] at this
      subst hv;clear tv eG dz;go_wp2;go_ret2;exact⟨rfl,(HB.out.trans (bM.out.mono HB.out.size)).os,(HB.out.trans (bM.out.mono HB.out.size)).tape,(HB.out.trans (bM.out.mono HB.out.size)).output,(HB.out.trans (bM.out.mono HB.out.size)).size,(HB.out.trans (bM.out.mono HB.out.size)).block⟩
     have t2:(xs==b)=false:=by simpa using eG
     have hv:=hide (show Nf.lM a b (L.drop (k+1))=z by have:=jT.out;rwa[if_neg (fun h=>eG h.2.1)] at this);clear tv eG;go_wp2
     go_roundg (N-(k+1))
     case measure=>have:=Hg.out;omega
     case rel=>exact⟨k+1,rfl,by omega,by first|rfl|go_num,hv.out,⟨bM.out.os,bM.out.tape,bM.out.output,bM.out.size,bM.out.block⟩⟩
    have t1:(xf==a)=false:=by simpa using tv
    have hv:=hide (show Nf.lM a b (L.drop (k+1))=z by have:=jT.out;rwa[if_neg (fun h=>tv h.1)] at this);clear tv;go_wp2
    go_roundg (N-(k+1))
    case measure=>have:=Hg.out;omega
    case rel=>exact⟨k+1,rfl,by omega,by first|rfl|go_num,hv.out,⟨bM.out.os,bM.out.tape,bM.out.output,bM.out.size,bM.out.block⟩⟩
   have hv:z=none:=by
    have:=Hz.out;rw[List.drop_of_length_le (by rw[HN.out];omega)] at this;exact this.symm
   subst hv;go_wp2;go_ret2;exact⟨rfl,HB.out.trans (bM.out.mono HB.out.size)⟩
end
section
open Go.RowKit Go.WideShapes

theorem aii(w:World)(r:Int):(w.alloc (.cells #[.int .i64 r] 3)).ownsRow w.heap.size 3 1 (.slice (some ⟨w.heap.size,0,none⟩) 1 1) 1 (ar [r]) :=
 World.ownsRow_lit w #[.int .i64 r] 1 (Nat.le_refl _) (by unfold maxLen;omega) rfl
def qp(w:World)(l:List Int)(e:Ending)(w':World):Prop:=(∃A c,e=.returned (.slice A l.length c)∧w'.ownsRow w.heap.size 3 1 (.slice A l.length c) l.length (ar l))∧Below w.heap.size w w'
theorem MN:∀(n:Nat) (r:Int) (l:List Int) (w:World),n≤4→Nf.apart n r=some l→Nf.Ok r→Calls Tryz.prog 148 #[.int .i64 r] w (qp w l)
 | 0,_,_,_,_,h,_=>by cases h
 | n+1,r,l,w,hn,h,hr=>by
  have HM:=hide (fun W=>ajy r W hr.1 hr.2);rw[Nf.apart] at h;unfold vQ at HM
  cases hm:Nf.made r with
  | none=>
   rw[hm] at h HM;cases h;dsimp only at HM;clear hm
   go_enter Tryz.func148,Tryz.ntmps148
   go_wp2_with fail
   refine (HM.out _).mono ?_;rintro e w1 ⟨rfl,aq⟩;have HB:=hide aq;clear aq;go_wp2;go_ret;refine⟨⟨_,_,rfl,(aii w1 r).mono HB.out.size⟩,HB.out.trans ((az _ _).mono HB.out.size)⟩
  | some p=>
   obtain⟨a,b⟩:=p;rw[hm] at h HM;dsimp only at h HM;obtain⟨⟨a0,a1⟩,⟨b0,b1⟩⟩:=Nf.Mn hm
   cases dB:Nf.apart n a with
   | none=>rw[dB] at h;cases h
   | some la=>
    rw[dB] at h;dsimp only at h;have IH:=hide (fun (W:World)=>MN n a la W (by omega) dB ⟨a0,a1⟩);have lz:=Nf.zR dB
    by_cases hb:b=0
    ·subst hb;rw[if_pos rfl] at h;cases h;clear hm dB lz
     go_enter Tryz.func148,Tryz.ntmps148
     go_wp2_with fail
     refine (HM.out _).mono ?_;rintro e w1 ⟨rfl,aq⟩;have HB:=hide aq;clear aq
     go_wp2_with fail
     refine (IH.out _).mono ?_;rintro e w2 ⟨⟨A,c,rfl,ho⟩,af⟩;have HO:=hide (ho.mono HB.out.size);have ah:=hide (HB.out.trans (af.mono HB.out.size));clear ho af;go_wp2;go_ret;exact⟨⟨_,_,rfl,HO.out⟩,ah.out⟩
    rw[if_neg hb] at h;obtain⟨lb,ki,e⟩:=Option.map_eq_some_iff.1 h;subst e;have IQ:=hide (fun (W:World)=>MN n b lb W (by omega) ki ⟨b0,b1⟩);have afq:=Nf.zR ki;have hn3:n≤3:=by omega
    have hp8:2 ^ n≤8:=Nat.pow_le_pow_right (n:=2) (by omega) hn3;have eb:(b != 0)=true:=by simpa using hb
    have aos:la.length+lb.length≤16:=by omega
    clear hm dB lz ki afq h hb hp8
    go_enter Tryz.func148,Tryz.ntmps148
    go_wp2_with fail
    refine (HM.out _).mono ?_;rintro e w1 ⟨rfl,aq⟩;have HB:=hide aq;clear aq
    go_wp2_with fail
    refine (IH.out _).mono ?_;rintro e w2 ⟨⟨A,c,rfl,ho⟩,af⟩;have HO:=hide (ho.mono HB.out.size);have ah:=hide (HB.out.trans (af.mono HB.out.size));clear ho af
    go_wp2_with fail
    refine (IQ.out _).mono ?_;rintro e w3 ⟨⟨A3,c3,rfl,ho⟩,aB⟩;have bZ:=hide (yE HO.out aB);have kL:=hide (Reads.eH ho);have aw:=hide (ah.out.trans (aB.mono ah.out.size));have aK:=aw.out.size;clear ho aB;dsimp only
    go_wp2_with (at_builtin;go_loud (refine wB w3 rfl (.tmp 21) (.tmp 23) 124 rfl w.heap.size (.int .i64 0) 1 8 Tryz.underlying124 fD rfl (by omega) (.slice A la.length c) la.length (ar la) rfl bZ.out w3.heap.size A3 lb.length c3 (ar lb) kL.out (Fo _) rfl (by unfold maxLen;omega) (by omega) aK ?_);intro A4 c4 w4 Ba mW;have rS:=hide Ba;have cG:=hide (aw.out.grown mW aw.out.size (fun j e=>(aG bZ.out j e).1));clear Ba mW)
    go_ret;refine⟨⟨A4,c4,by rw[List.length_append];rfl,?_⟩,cG.out⟩;rw[List.length_append,ic];exact rS.out
theorem ajB(r:Int)(w:World)(hr:Nf.Ok r):Calls Tryz.prog 148 #[.int .i64 r] w (qp w (Nf.parts r)):=MN 4 r _ w (by omega) (Nf.FM r) hr
theorem ajq(l:List Int)(A:Option Addr)(c:Nat)(w:World)(hr:Reads w w.heap.size 1 A l.length (ar l))(bF:∀x∈l,Nf.Ok x)(hn:l.length≤1000000) :
  Calls Tryz.prog 112 #[.slice A l.length c] w (qp w (Nf.bT l)):=by
 have HR:=hide hr;have fO:=hide bF;clear hr bF;obtain⟨N,hN⟩:∃N,l.length=N:=⟨_,rfl⟩;rw[hN] at hn HR ⊢;have HN:=hide hN;clear hN
 go_enter Tryz.func112,Tryz.ntmps112
 go_wp2
 go_loopg [3,4] N (fun gk v3 v4 wr=>∃(j m:Nat) (A':Option Addr) (c':Nat),gk=N-j∧j≤N∧v4=.int .i64 (j:Int)∧v3=.slice A' m c'∧(Nf.bT (l.take j)).length=m∧wr.ownsRow w.heap.size 3 1 (.slice A' m c') m (ar (Nf.bT (l.take j)))∧Below w.heap.size w wr)
 case atStart=>exact⟨0,0,none,0,rfl,by omega,rfl,rfl,rfl,World.ownsRow_nil _ _ _ _,Below.refl _ _⟩
 case round=>
  obtain⟨j,m,A',c',au,hj,rfl,rfl,hm,ho,hb⟩:=hrel;have Hg:=hide au;have HO:=hide ho;have HB:=hide hb;have Hm:=hide hm;clear au ho hb hm
  by_cases hlt:j<N
  ·obtain⟨a,ha⟩:∃a,l[j]?=some a:=⟨_,List.getElem?_eq_getElem (by rw[HN.out];exact hlt)⟩;obtain⟨gb,off,rfl,dA,hcell⟩:=HR.out.2 (by omega);have y0:wr.cell? ⟨gb,off+j,none⟩=some (.int .i64 a):=(HB.out.cell dA).trans (hcell j _ (by unfold ar;rw[List.getElem?_map,ha];rfl));have HD:=hide (Nf.JE ha);have hlen:=Nf.xq (l.take (j+1))
   have mY:m+(Nf.parts a).length≤100000000:=by
    rw[←Hm.out,←List.length_append,←HD.out];have:=List.length_take_le (j+1) l;have:=HN.out;omega
   have HP:=hide (fun W=>ajB a W (fO.out a (List.mem_of_getElem? ha)));obtain⟨pl,hpl⟩:∃pl,Nf.parts a=pl:=⟨_,rfl⟩;rw[hpl] at HD mY HP;obtain⟨q,hq⟩:∃q,pl.length=q:=⟨_,rfl⟩;have Hq:=hide hq;unfold qp at HP;rw[hq] at mY HP;clear hcell ha hlen hpl hq
   go_wp2_with fail
   refine (HP.out _).mono ?_;rintro e w3 ⟨⟨A3,c3,rfl,ho⟩,aB⟩;have bZ:=hide (yE HO.out aB);have kL:=hide (Reads.eH ho);have aw:=hide (HB.out.trans (aB.mono HB.out.size));have aK:=aw.out.size;clear ho aB;dsimp only
   go_wp2_with (at_builtin;go_loud (refine wB w3 rfl (.tmp 11) (.tmp 16) 124 rfl w.heap.size (.int .i64 0) 1 8 Tryz.underlying124 fD rfl (by omega) (.slice A' m c') m _ rfl bZ.out w3.heap.size A3 q c3 (ar pl) kL.out (Fo _) rfl (by unfold maxLen;omega) (by omega) aK ?_);intro A4 c4 w4 Ba mW;have rS:=hide Ba;have cG:=hide (aw.out.grown mW aw.out.size (fun j e=>(aG bZ.out j e).1));clear Ba mW)
   go_roundg (N-(j+1))
   case measure=>have:=Hg.out;omega
   case rel=>exact⟨j+1,m+q,A4,c4,rfl,by omega,by first|rfl|go_num,rfl,by rw[HD.out,List.length_append,Hm.out,Hq.out],by rw[HD.out,ic];exact rS.out,cG.out⟩
  have oc:j=N:=by omega
  subst oc;go_wp2;go_ret;have hx:=HO.out;have er:=Hm.out;rw[List.take_of_length_le (by rw[HN.out];exact Nat.le_refl _)] at hx er;exact⟨⟨A',c',by rw[er];rfl,by rw[er];exact hx⟩,HB.out⟩
end
section
open Go.RowKit Go.WideShapes

theorem FL{w:World}{base e g n cap:Nat}{xs:List Value}(h:w.ownsRow base e 1 (.slice (some ⟨g,0,none⟩) n cap) n xs){i:Nat}(u:Value) :
  (w.setCell ⟨g,i,none⟩ u).ownsRow base e 1 (.slice (some ⟨g,0,none⟩) n cap) n (xs.set i u):=by
 refine⟨by rw[List.length_set];exact h.1,?_⟩
 rcases h.2 with ⟨h0,_⟩|⟨g',cap',cur,e',hb,hh,h1,h2,h3,h4⟩
 ·cases h0
 cases e'
 refine .inr ⟨g,cap,cur.setIfInBounds i u,rfl,hb,?_,h1,h2,by rw[Array.size_setIfInBounds];exact h3,?_⟩
 ·simp[World.setCell,Array.getElem?_modify,hh]
 rw[Array.toList_setIfInBounds,List.take_set,h4]
theorem yC{w:World}{base e g n cap:Nat}{xs:List Value}(h:w.ownsRow base e 1 (.slice (some ⟨g,0,none⟩) n cap) n xs){i:Nat}{u:Value}(hu:xs[i]?=some u):w.cell? ⟨g,i,none⟩=some u∧w.frozen? ⟨g,i,none⟩=false:=by
 rcases h.2 with ⟨h0,_⟩|⟨g',cap',cur,e',hb,hh,h1,h2,h3,h4⟩
 ·cases h0
 cases e'
 have hc:cur[i]?=some u:=by
  rw[←h4,List.getElem?_take] at hu
  split at hu
  ·rw[Array.getElem?_toList] at hu;exact hu
  cases hu
 refine⟨?_,?_⟩
 ·rw[cell_of_row w g i _ _ _ hh];exact hc
 simp[World.frozen?,hh]
end
section
open Go.RowKit Go.WideShapes

namespace Nf
theorem acm{b c:Int}{l:List Int}(h:0<cls b∧cls b<cls c):carry c (b :: l)=b :: carry c l:=by rw[carry,if_pos h]
theorem acn{b c:Int}{l:List Int}(h:¬(0<cls b∧cls b<cls c)):carry c (b :: l)=c :: carry b l:=by rw[carry,if_neg h]
theorem Yb:∀(pre:List Int) (b c:Int) (rest:List Int) (i j:Nat),j=pre.length→i=j+1→((ar (pre++c :: b :: rest)).set i (.int .i64 c)).set j (.int .i64 b)=ar (pre++b :: c :: rest)
 | [],b,c,rest,i,j,hj,hi=>by
  subst hi;subst hj;rfl
 | x :: pre,b,c,rest,i,j,hj,hi=>by
  obtain⟨j,rfl⟩:∃k,j=k+1:=⟨pre.length,by rw[hj];rfl⟩;obtain⟨i,rfl⟩:∃k,i=k+1:=⟨j+1,by omega⟩;have:=Yb pre b c rest i j (by simpa using hj) (by omega);exact congrArg (Value.int .i64 x :: ·) this
theorem yd{l:List Int}{k:Nat}{x:Int}(h:l[k]?=some x):(ar l)[k]?=some (.int .i64 x):=by unfold ar;rw[List.getElem?_map,h];rfl
end Nf
theorem WD{w:World}{base e n cap:Nat}{A:Option Addr}{xs:List Value}(h:w.ownsRow base e 1 (.slice A n cap) n xs)(hn:0<n):∃g,A=some ⟨g,0,none⟩∧base≤g∧g<w.heap.size:=by
 obtain⟨g,cap',hv,hb,hlt⟩:=h.form hn;cases hv;exact⟨g,rfl,hb,hlt⟩
theorem ajK(l:List Int)(A:Option Addr)(c:Nat)(w:World)(hr:Reads w w.heap.size 1 A l.length (ar l))(hn:l.length≤100000000) :
  Calls Tryz.prog 111 #[.slice A l.length c] w (qp w (Nf.sort l)):=by
 have HR:=hide hr;have HS:=hide (Nf.Rl l)
 have pE:(Nf.sort l).length=l.length:=by
  rw[←Nf.Rl]
  have:∀(k:Nat) (m:List Int),(Nf.rz k m).length=m.length:=by
   intro k
   induction k with
   | zero=>intro m;rfl
   | succ k ih=>intro m;rw[Nf.rz,ih,Nf.aiJ]
  exact this _ _
 obtain⟨N,hN⟩:∃N,l.length=N:=⟨_,rfl⟩;rw[hN] at hn HR HS pE ⊢;have HN:=hide hN;have HC:=hide (fun r W=>Xi r W);clear hN hr;obtain⟨L,hL⟩:∃L,Nf.sort l=L:=⟨_,rfl⟩;rw[hL] at pE HS ⊢;clear hL;unfold qp;rw[pE];clear pE
 go_enter Tryz.func111,Tryz.ntmps111
 go_wp2_with (at_builtin;go_loud (refine wB w rfl (.tmp 8) (.tmp 9) 124 rfl w.heap.size (.int .i64 0) 1 8 Tryz.underlying124 fD rfl (by omega) (.slice none 0 0) 0 [] rfl (World.ownsRow_nil _ _ _ _) w.heap.size A N c (ar l) HR.out (Fo _) rfl (by unfold maxLen;omega) (by omega) (Nat.le_refl _) ?_);intro A1 c1 w1 og hg1;rw[Nat.zero_add,List.nil_append] at og;have eN:=hide og;have ay:=hide ((Below.refl w.heap.size w).grown hg1 (Nat.le_refl _) (fun j e=>by simp[Value.ownBlock] at e));clear og hg1)
 (try rw[Nat.zero_add])
 go_loopg [4,5,6,7] N (fun gk v4 v5 v6 v7 wr=>∃(n:Nat) (cur:List Int),gk=N-n∧n≤N∧v4=.int .i64 (n:Int)∧cur.length=N∧Nf.rz (N-n) cur=L∧wr.ownsRow w.heap.size 3 1 (.slice A1 N c1) N (ar cur)∧Below w.heap.size w wr)
 case atStart=>exact⟨0,l,rfl,by omega,rfl,HN.out,by simpa using HS.out,eN.out,ay.out⟩
 case round=>
  obtain⟨n,cur,au,Ll,rfl,hlen,cM,ho,hb⟩:=hrel;have Hg:=hide au;have HO:=hide ho;have HB:=hide hb;have l7:=hide hlen;have PF:=hide cM;clear au ho hb hlen cM
  by_cases hlt:n<N
  ·obtain⟨g,rfl,dH,dA⟩:=WD HO.out (by omega)
   obtain⟨c0,BZ,jf⟩:∃c0 BZ,cur=c0 :: BZ:=by
    cases cur with
    | nil=>have:=l7.out;simp at this;omega
    | cons x t=>exact⟨x,t,rfl⟩
   subst jf
   have ng:Nf.rz (N-n-1) (Nf.carry c0 BZ)=L:=by
    have:=PF.out;rw[show N-n=N-n-1+1 by omega] at this;exact this
   have rU:=hide ng;have gN:=hide (show ([]:List Int).length+1+BZ.length=N by have:=l7.out;simp at this ⊢;omega);clear ng;go_wp2
   rename World=>wo
   go_loopg [5,6,7] (N-1) (fun gq v5 v6 v7 wr=>∃(i j:Nat) (pre:List Int) (cc:Int) (rest:List Int),gq=N-i∧i≤N∧i=j+1∧j=pre.length∧v5=.int .i64 (i:Int)∧pre.length+1+rest.length=N∧Nf.rz (N-n-1) (pre++Nf.carry cc rest)=L∧wr.ownsRow w.heap.size 3 1 (.slice (some ⟨g,0,none⟩) N c1) N (ar (pre++cc :: rest))∧Below w.heap.size w wr)
   case atStart=>exact⟨1,0,[],c0,BZ,rfl,by omega,rfl,rfl,rfl,gN.out,rU.out,HO.out,HB.out⟩
   case round=>
    obtain⟨i,j,pre,cc,rest,sT,AV,sV,vy,rfl,eQ,cM,ho,hb⟩:=hrel;have l4:=hide sT;have aJ:=hide ho;have ah:=hide hb;have wJ:=hide eQ;have CR:=hide cM;have nE:=hide vy;have oQ:=hide sV;clear sT ho hb cM vy eQ sV
    by_cases hit:i<N
    ·obtain⟨b,rest,Ex⟩:∃b r,rest=b :: r:=by
      cases rest with
      | nil=>have h3:=wJ.out;have:=nE.out;have:=oQ.out;simp only[List.length_nil] at h3;omega
      | cons x t=>exact⟨x,t,rfl⟩
     subst Ex;obtain⟨y0,f0⟩:=yC aJ.out (i:=j) (u:=.int .i64 cc) (Nf.yd (by rw[nE.out];simp));obtain⟨y1,f1⟩:=yC aJ.out (i:=i) (u:=.int .i64 b) (Nf.yd (by rw[oQ.out,nE.out,List.getElem?_append_right (by omega)];simp));have aof:(0:Int)≤i∧(i:Int)<N:=by omega
     have aom:(0:Int)≤j∧(j:Int)<N:=by have:=oQ.out;omega
     have z1:IntKind.i64.wrap ((i:Int)-1)=(j:Int):=by rw[IntWalk.i64_in _ (by omega)];have:=oQ.out;omega
     have OQ:=hide (HC.out b);have OT:=hide (HC.out cc);have Ip:=hide (@Nf.acm b cc rest);have De:=hide (@Nf.acn b cc rest);obtain⟨kb,hkb⟩:∃k,Nf.cls b=k:=⟨_,rfl⟩;obtain⟨kc,EH⟩:∃k,Nf.cls cc=k:=⟨_,rfl⟩;rw[hkb] at OQ Ip De;rw[EH] at OT Ip De;clear hkb EH
     go_wp2_with fail
     go_wp2_with fail
     refine cq (OQ.out _) ?_
     by_cases h1:0<kb
     ·have d1:decide (0<kb)=true:=decide_eq_true h1
      go_wp2_with fail
      go_wp2_with fail
      refine cq (OT.out _) ?_
      by_cases h2:kb<kc
      ·have d2:decide (kb<kc)=true:=decide_eq_true h2;have afd:=hide (Ip.out ⟨h1,h2⟩);obtain⟨y2,f2⟩:=yC (FL aJ.out (i:=i) (.int .i64 cc)) (i:=j) (u:=.int .i64 cc) (by rw[List.getElem?_set_ne (by have:=oQ.out;omega)];exact Nf.yd (by rw[nE.out];simp));have pV:=hide (FL (FL aJ.out (i:=i) (.int .i64 cc)) (i:=j) (.int .i64 b));rw[Nf.Yb pre b cc rest i j nE.out oQ.out] at pV;clear h1 h2;go_wp2
       go_roundg (N-(i+1))
       case measure=>have:=l4.out;omega
       case rel=>
        refine⟨i+1,i,pre++[b],cc,rest,rfl,by omega,rfl,by rw[List.length_append,←nE.out];exact oQ.out,by first|rfl|go_num,?_,?_,?_,?_⟩
        ·have:=wJ.out;simp only[List.length_append,List.length_cons,List.length_nil] at this ⊢;omega
        ·rw[List.append_assoc];have:=CR.out;rw[afd.out] at this;exact this
        ·rw[List.append_assoc];exact pV.out
        exact (ah.out.setCell (p:=⟨g,i,none⟩) dH _).setCell (p:=⟨g,j,none⟩) dH _
      have d2:decide (kb<kc)=false:=decide_eq_false h2;have LD:=hide (De.out (fun h=>h2 h.2));clear h1 h2;go_wp2
      go_roundg (N-(i+1))
      case measure=>have:=l4.out;omega
      case rel=>
       refine⟨i+1,i,pre++[cc],b,rest,rfl,by omega,rfl,by rw[List.length_append,←nE.out];exact oQ.out,by first|rfl|go_num,?_,?_,?_,ah.out⟩
       ·have:=wJ.out;simp only[List.length_append,List.length_cons,List.length_nil] at this ⊢;omega
       ·rw[List.append_assoc];have:=CR.out;rw[LD.out] at this;exact this
       rw[List.append_assoc];exact aJ.out
     have d1:decide (0<kb)=false:=decide_eq_false h1;have LD:=hide (De.out (fun h=>h1 h.1));clear h1;go_wp2
     go_roundg (N-(i+1))
     case measure=>have:=l4.out;omega
     case rel=>
      refine⟨i+1,i,pre++[cc],b,rest,rfl,by omega,rfl,by rw[List.length_append,←nE.out];exact oQ.out,by first|rfl|go_num,?_,?_,?_,ah.out⟩
      ·have:=wJ.out;simp only[List.length_append,List.length_cons,List.length_nil] at this ⊢;omega
      ·rw[List.append_assoc];have:=CR.out;rw[LD.out] at this;exact this
      rw[List.append_assoc];exact aJ.out
    have afg:i=N:=by omega
    have pD:rest=[]:=by
     cases rest with
     | nil=>rfl
     | cons x t=>have h3:=wJ.out;have:=nE.out;have:=oQ.out;simp only[List.length_cons] at h3;omega
    subst pD;subst afg;have hq:(i:Int)<(i:Int)↔False:=by simp
    go_wp2
    go_roundg (i-(n+1))
    case measure=>have:=Hg.out;omega
    case rel=>exact⟨n+1,pre++[cc],rfl,by omega,by first|rfl|go_num,by have:=wJ.out;simpa using this,by have:=CR.out;rwa[show i-n-1=i-(n+1) by omega] at this,aJ.out,ah.out⟩
  have afE:n=N:=by omega
  subst afE;have hc:cur=L:=by have:=PF.out;rwa[Nat.sub_self] at this
  subst hc;go_wp2;go_ret;exact⟨⟨A1,c1,rfl,HO.out⟩,HB.out⟩
end
end Go.Proofs.YtnbmfljhbpfilaaGreatDoor
