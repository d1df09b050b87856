/- NFC: what the document makes of a scalar, of two (ref10.Made, Whole). (Printed by genTdO.py.) And more. -/
import Derived.Test.YtpdkeckeekchlaaGreatDoorOt39
import Derived.Laws.ResultCell
import Derived.Lib.SlBytesConst
import Derived.Lib.UnsafeStr
set_option linter.unusedSimpArgs false
set_option maxRecDepth 100000
set_option maxHeartbeats 16000000
set_option linter.unusedVariables false
namespace Go.Proofs.YtpdkeckeekchlaaGreatDoor
section
open Go.RowKit Go.WideShapes

namespace Nf
def ahs:Option (Int×Int)→Value
 | some (a,b)=>.tuple #[.int .i64 a,.int .i64 b,.bool true]
 | none=>.tuple #[.int .i64 0,.int .i64 0,.bool false]
def ahu:Option Int→Value
 | some v=>.tuple #[.int .i64 v,.bool true]
 | none=>.tuple #[.int .i64 0,.bool false]
theorem KF{α:Type}{l:List α}{k:Nat}{x:α}(h:l[k]?=some x):l.drop k=x :: l.drop (k+1):=by
 obtain⟨hk,e⟩:=List.getElem?_eq_some_iff.1 h;rw[List.drop_eq_getElem_cons hk,e]
theorem aht{l:List Pr}{k:Nat}{x:Pr}(h:l[k]?=some x)(r:Int):mK r (l.drop k)=if x.w=r then some (x.f,x.s) else mK r (l.drop (k+1)):=by
 rw[KF h];rfl
theorem ahv{l:List Pr}{k:Nat}{x:Pr}(h:l[k]?=some x)(a b:Int):lW a b (l.drop k)=if x.f=a∧x.s=b∧b≠0 then some x.w else lW a b (l.drop (k+1)):=by
 rw[KF h];rfl
theorem Xm:iE.length≤1000:=by decide +kernel
end Nf
theorem ahA(r:Int):wQ r=Nf.ahs (Nf.EF r):=by
 rw[Nf.ads];unfold wQ
 cases Nf.made r<;>rfl
theorem anw(a b:Int):jW a b=Nf.ahu (Nf.EI a b):=by
 rw[Nf.adD];unfold jW
 cases Nf.whole a b<;>rfl
theorem aj0(r:Int)(w:World)(h0:0≤r)(h1:r≤1114111):Calls Tryz.prog 222 #[.int .i64 r] w fun e w'=>e=.returned (wQ r)∧Below w.heap.size w w':=by
 have HH:=ap (fun W=>XK r W);rw[ahA];unfold Nf.EF
 cases hg:Nf.gA r with
 | true=>
  rw[hg] at HH;rw[if_pos rfl];have hr:=of_decide_eq_true hg;obtain⟨n,hn⟩:∃n:Nat,r=44032+n:=⟨(r-44032).toNat,by omega⟩;subst hn;have hw:IntKind.i64.wrap (44032+(n:Int)-44032)=(n:Int):=by rw[IntWalk.i64_in _ (by omega)];omega
  have hm:Int.tmod (n:Int) 28=((n % 28:Nat):Int):=by rw[Int.tmod_eq_emod_of_nonneg (by omega)];omega
  have e1:(44032+(n:Int)-0xAC00) % 28=((n % 28:Nat):Int):=by omega
  have e2:(44032+(n:Int)-0xAC00) / 28=((n / 28:Nat):Int):=by omega
  rw[e1,e2];obtain⟨t,ht⟩:∃t,n % 28=t:=⟨_,rfl⟩;rw[ht] at hm ⊢;have jy:t<28:=by omega
  by_cases hp:0<t
  ·rw[if_pos (by omega)];have jK:(0:Int)<(t:Int):=by omega
   have hq:=hr;have Vz:IntKind.i64.wrap (44032+(n:Int)-(t:Int))=44032+(n:Int)-(t:Int):=by rw[IntWalk.i64_in _ (by omega)]
   clear hg hr e1 e2 ht
   go_enter Tryz.func222,Tryz.ntmps222
   go_wp2_with fail
   refine cq (HH.o _) ?_
   go_wp2;go_ret3;exact⟨rfl,Below.refl _ _⟩
  have FJ:t=0:=by omega
  subst FJ;rw[if_neg (by omega)];have hd:Int.tdiv (n:Int) 28=((n / 28:Nat):Int):=by rw[Int.tdiv_eq_ediv_of_nonneg (by omega)];omega
  obtain⟨k,hk⟩:∃k,n / 28=k:=⟨_,rfl⟩;rw[hk] at hd ⊢;have eh:k<400:=by omega
  have bJ:Int.tdiv (k:Int) 21=((k / 21:Nat):Int):=by rw[Int.tdiv_eq_ediv_of_nonneg (by omega)];omega
  have eN:Int.tmod (k:Int) 21=((k % 21:Nat):Int):=by rw[Int.tmod_eq_emod_of_nonneg (by omega)];omega
  have e3:(k:Int) / 21=((k / 21:Nat):Int):=by omega
  have e4:(k:Int) % 21=((k % 21:Nat):Int):=by omega
  rw[e3,e4];obtain⟨a,ha⟩:∃a,k / 21=a:=⟨_,rfl⟩;obtain⟨b,hb⟩:∃b,k % 21=b:=⟨_,rfl⟩;rw[ha] at bJ ⊢;rw[hb] at eN ⊢;have iP:a<20:=by omega
  have bh:b<21:=by omega
  clear hg hr e1 e2 e3 e4 ht hk ha hb
  go_enter Tryz.func222,Tryz.ntmps222
  go_wp2_with fail
  refine cq (HH.o _) ?_
  go_wp2;go_ret3;exact⟨rfl,Below.refl _ _⟩
 | false=>
  rw[hg] at HH;simp only[Bool.false_eq_true,if_false];have HP:=ap (fun W=>XM W);obtain⟨L,hL⟩:∃L,Nf.iE=L:=⟨_,rfl⟩;have hN:=Nf.Xm;rw[hL] at HP hN ⊢;clear hg hL;obtain⟨N,vQ⟩:∃N,L.length=N:=⟨_,rfl⟩;have HN:=ap vQ;rw[vQ] at HP hN;obtain⟨z,hz⟩:∃z,Nf.mK r L=z:=⟨_,rfl⟩;rw[hz];have HZ:=ap hz;clear vQ hz
  go_enter Tryz.func222,Tryz.ntmps222
  go_wp2_with fail
  go_wp2_with fail
  refine cq (HH.o _) ?_
  go_wp2_with fail
  refine (HP.o _).mono ?_;rintro e w1 ⟨⟨A,c,rfl,ho⟩,hb⟩;have HR:=ap (Reads.cY ho);have HB:=ap hb;have hc:=Nj ho;clear ho hb;go_wp2
  go_loopg [8] N (fun gk v8 wr=>∃(k:Nat),gk=N-k∧k≤N∧v8=.int .i64 (k:Int)∧Nf.mK r (L.drop k)=z∧wr=w1)
  case atStart=>exact⟨0,rfl,by omega,rfl,HZ.o,rfl⟩
  case round=>
   obtain⟨k,au,hk,rfl,hz,rfl⟩:=hrel;have Hg:=ap au;have Hz:=ap hz;clear au hz
   by_cases hlt:k<N
   ·obtain⟨x,hx⟩:∃x,L[k]?=some x:=⟨_,List.getElem?_eq_getElem (by rw[HN.o];exact hlt)⟩;obtain⟨p0,p1,p2⟩:=GJ L k x hx;obtain⟨gb,off,rfl,dG,hcell⟩:=HR.o.2 (by omega);have y0:=hcell _ _ p0;have y1:=hcell _ _ p1;have y2:=hcell _ _ p2;have hat:=Nf.aht hx r;rw[←Nat.add_assoc] at y1 y2;have j6:=ap (hat.symm.trans Hz.o);have eM:(0:Int)≤k∧(k:Int)<N:=by omega
    clear hat hx p0 p1 p2 hcell;obtain⟨xw,xf,xs⟩:=x;dsimp only at y0 y1 y2
    by_cases oT:xw=r
    ·have hv:some (xf,xs)=z:=by have:=j6.o;rwa[if_pos oT] at this
     subst hv;have e1:(xw==r)=true:=by simpa using oT
     clear oT
     go_wp2_with fail
     go_quiet (fail)
     go_wp2;go_ret3;exact⟨rfl,HB.o.os,HB.o.tape,HB.o.output,HB.o.size,HB.o.block⟩
    have hv:=ap (show Nf.mK r (L.drop (k+1))=z by have:=j6.o;rwa[if_neg oT] at this);have e1:(xw==r)=false:=by simpa using oT
    clear oT;go_wp2
    go_roundg (N-(k+1))
    case measure=>have:=Hg.o;omega
    case rel=>exact⟨k+1,rfl,by omega,by first|rfl|go_num,hv.o,rfl⟩
   have hv:z=none:=by
    have:=Hz.o;rw[List.drop_of_length_le (by rw[HN.o];omega)] at this;exact this.symm
   subst hv;go_wp2;go_ret3;exact⟨rfl,HB.o⟩
theorem akg(a b:Int)(w:World)(a0:0≤a)(a1:a≤1114111)(b0:0≤b)(b1:b≤1114111):Calls Tryz.prog 191 #[.int .i64 a,.int .i64 b] w fun e w'=>e=.returned (jW a b)∧Below w.heap.size w w':=by
 have HH:=ap (fun W=>XK a W);rw[anw];unfold Nf.EI;have HP:=ap (fun W=>XM W);obtain⟨L,hL⟩:∃L,Nf.iE=L:=⟨_,rfl⟩;have hN:=Nf.Xm;rw[hL] at HP hN ⊢;clear hL;obtain⟨N,vQ⟩:∃N,L.length=N:=⟨_,rfl⟩;have HN:=ap vQ;rw[vQ] at HP hN;obtain⟨z,hz⟩:∃z,Nf.lW a b L=z:=⟨_,rfl⟩;rw[hz];have HZ:=ap hz;clear vQ hz;have dK:(Lit.int .i64 a).wf=true:=WalkArith.wf_i64 (by omega);have eO:(Lit.int .i64 b).wf=true:=WalkArith.wf_i64 (by omega);have jN:IntKind.i64.wrap (a-44032)=a-44032:=IntWalk.i64_in _ (by omega);obtain⟨hv,yo⟩:∃q,Nf.gA a=q:=⟨_,rfl⟩;rw[yo] at HH ⊢
 by_cases hA:4352≤a∧a<4371∧4449≤b∧b<4470
 ·rw[if_pos (by omega)];have d1:decide (4352≤a)=true:=decide_eq_true (by omega);have d2:decide (a<4371)=true:=decide_eq_true (by omega);have d3:decide (4449≤b)=true:=decide_eq_true (by omega);have d4:decide (b<4470)=true:=decide_eq_true (by omega);have e1:IntKind.i64.wrap (a-4352)=a-4352:=IntWalk.i64_in _ (by omega);have e2:IntKind.i64.wrap ((a-4352)*21)=(a-4352)*21:=IntWalk.i64_in _ (by omega);have e3:IntKind.i64.wrap ((a-4352)*21+b)=(a-4352)*21+b:=IntWalk.i64_in _ (by omega);have e4:IntKind.i64.wrap ((a-4352)*21+b-4449)=(a-4352)*21+b-4449:=IntWalk.i64_in _ (by omega);have e5:IntKind.i64.wrap (((a-4352)*21+b-4449)*28)=((a-4352)*21+b-4449)*28:=IntWalk.i64_in _ (by omega);have e6:IntKind.i64.wrap (44032+((a-4352)*21+b-4449)*28)=44032+((a-4352)*21+b-4449)*28:=IntWalk.i64_in _ (by omega);clear yo hA
  go_enter Tryz.func191,Tryz.ntmps191
  go_wp2;go_ret2;exact⟨rfl,Below.refl _ _⟩
 rw[if_neg (by omega)]
 by_cases hB:hv=true∧(a-44032) % 28=0∧4519<b∧b<4547
 ·obtain⟨rfl,h3,h4,h5⟩:=hB;have hr:=of_decide_eq_true yo;have d1:decide (4352≤a)=true:=decide_eq_true (by omega);have d2:decide (a<4371)=false:=decide_eq_false (by omega);have hm:Int.tmod (a-44032) 28=0:=(Int.tmod_eq_emod_of_nonneg (by omega)).trans h3;have d4:decide (4519<b)=true:=decide_eq_true h4;have d5:decide (b<4547)=true:=decide_eq_true h5;rw[if_pos ⟨rfl,h3,by omega⟩];have e1:IntKind.i64.wrap (a+b)=a+b:=IntWalk.i64_in _ (by omega);have e2:IntKind.i64.wrap (a+b-4519)=a+b-4519:=IntWalk.i64_in _ (by omega);clear yo hr h3 h4 h5 hA
  go_enter Tryz.func191,Tryz.ntmps191
  go_wp2_with fail
  refine cq (HH.o _) ?_
  go_wp2;go_ret2;exact⟨rfl,Below.refl _ _⟩
 rw[if_neg (fun h=>hB ⟨h.1,h.2.1,by omega,by omega⟩)]
 have Bq:(decide (4352≤a)=false∧hv=false)∨(decide (4352≤a)=true∧decide (a<4371)=true∧decide (4449≤b)=false∧hv=false)∨(decide (4352≤a)=true∧decide (a<4371)=true∧decide (4449≤b)=true∧decide (b<4470)=false∧hv=false)∨
   (decide (4352≤a)=true∧decide (a<4371)=false∧hv=false)∨(decide (4352≤a)=true∧decide (a<4371)=false∧hv=true∧∃t,Int.tmod (a-44032) 28=t∧((t==0)=false∨((t==0)=true∧(decide (4519<b)=false∨(decide (4519<b)=true∧decide (b<4547)=false))))):=by
  simp only[decide_eq_true_eq,decide_eq_false_iff_not,beq_iff_eq,beq_eq_false_iff_ne]
  cases hv with
  | true=>
   have hr:=of_decide_eq_true yo;refine .inr (.inr (.inr (.inr ⟨by omega,by omega,rfl,_,Int.tmod_eq_emod_of_nonneg (by omega),?_⟩)));have dc:¬((a-44032) % 28=0∧4519<b∧b<4547):=fun h=>hB ⟨rfl,h⟩;clear hB hA;omega
  | false=>
   simp only[and_true,Bool.false_eq_true,and_false,false_and,or_false];omega
 clear yo hA hB
 rcases Bq with ⟨d1,rfl⟩|⟨d1,d2,d3,rfl⟩|⟨d1,d2,d3,d4,rfl⟩|⟨d1,d2,rfl⟩|⟨d1,d2,rfl,t,hm,d3|⟨d3,d4|⟨d4,d5⟩⟩⟩
 all_goals
  go_enter Tryz.func191,Tryz.ntmps191
  go_wp2_with fail
  refine cq (HH.o _) ?_
  go_wp2_with fail
  refine (HP.o _).mono ?_;rintro e w1 ⟨⟨A,c,rfl,ho⟩,hb⟩;have HR:=ap (Reads.cY ho);have HB:=ap hb;have hc:=Nj ho;clear ho hb;go_wp2
  go_loopg [7] N (fun gk v7 wr=>∃(k:Nat),gk=N-k∧k≤N∧v7=.int .i64 (k:Int)∧Nf.lW a b (L.drop k)=z∧Below w1.heap.size w1 wr)
  case atStart=>exact⟨0,rfl,by omega,rfl,HZ.o,Below.refl _ _⟩
  case round=>
   obtain⟨k,au,hk,rfl,hz,bh⟩:=hrel;have Hg:=ap au;have Hz:=ap hz;have bO:=ap bh;clear au hz bh
   by_cases hlt:k<N
   ·obtain⟨x,hx⟩:∃x,L[k]?=some x:=⟨_,List.getElem?_eq_getElem (by rw[HN.o];exact hlt)⟩;obtain⟨p0,p1,p2⟩:=GJ L k x hx;obtain⟨gb,off,rfl,dG,hcell⟩:=HR.o.2 (by omega);have y0:=(bO.o.cell dG).trans (hcell _ _ p0);have y1:=(bO.o.cell dG).trans (hcell _ _ p1);have y2:=(bO.o.cell dG).trans (hcell _ _ p2);have hat:=Nf.ahv hx a b;rw[←Nat.add_assoc] at y1 y2;have j6:=ap (hat.symm.trans Hz.o);have eM:(0:Int)≤k∧(k:Int)<N:=by omega
    clear hat hx p0 p1 p2 hcell dG;obtain⟨xw,xf,xs⟩:=x;dsimp only at y0 y1 y2
    by_cases ue:xf=a
    ·have t1:(xf==a)=true:=by simpa using ue
     by_cases fg:xs=b
     ·have t2:(xs==b)=true:=by simpa using fg
      by_cases dA:b=0
      ·have t3:(b != 0)=false:=by simpa using dA
       have hv:=ap (show Nf.lW a b (L.drop (k+1))=z by have:=j6.o;rwa[if_neg (fun h=>h.2.2 dA)] at this);clear ue fg dA;go_wp2
       go_roundg (N-(k+1))
       case measure=>have:=Hg.o;omega
       case rel=>exact⟨k+1,rfl,by omega,by first|rfl|go_num,hv.o,⟨bO.o.os,bO.o.tape,bO.o.output,bO.o.size,bO.o.block⟩⟩
      have t3:(b != 0)=true:=by simpa using dA
      have hv:some xw=z:=by have:=j6.o;rwa[if_pos ⟨ue,fg,dA⟩] at this
      subst hv;clear ue fg dA;go_wp2;go_ret2;exact⟨rfl,(HB.o.trans (bO.o.mono HB.o.size)).os,(HB.o.trans (bO.o.mono HB.o.size)).tape,(HB.o.trans (bO.o.mono HB.o.size)).output,(HB.o.trans (bO.o.mono HB.o.size)).size,(HB.o.trans (bO.o.mono HB.o.size)).block⟩
     have t2:(xs==b)=false:=by simpa using fg
     have hv:=ap (show Nf.lW a b (L.drop (k+1))=z by have:=j6.o;rwa[if_neg (fun h=>fg h.2.1)] at this);clear ue fg;go_wp2
     go_roundg (N-(k+1))
     case measure=>have:=Hg.o;omega
     case rel=>exact⟨k+1,rfl,by omega,by first|rfl|go_num,hv.o,⟨bO.o.os,bO.o.tape,bO.o.output,bO.o.size,bO.o.block⟩⟩
    have t1:(xf==a)=false:=by simpa using ue
    have hv:=ap (show Nf.lW a b (L.drop (k+1))=z by have:=j6.o;rwa[if_neg (fun h=>ue h.1)] at this);clear ue;go_wp2
    go_roundg (N-(k+1))
    case measure=>have:=Hg.o;omega
    case rel=>exact⟨k+1,rfl,by omega,by first|rfl|go_num,hv.o,⟨bO.o.os,bO.o.tape,bO.o.output,bO.o.size,bO.o.block⟩⟩
   have hv:z=none:=by
    have:=Hz.o;rw[List.drop_of_length_le (by rw[HN.o];omega)] at this;exact this.symm
   subst hv;go_wp2;go_ret2;exact⟨rfl,HB.o.trans (bO.o.mono HB.o.size)⟩
end
section
open Go.RowKit Go.WideShapes

theorem aiL(w:World)(r:Int):(w.alloc (.cells #[.int .i64 r] 3)).ownsRow w.heap.size 3 1 (.slice (some ⟨w.heap.size,0,none⟩) 1 1) 1 (aq [r]) :=
 World.ownsRow_lit w #[.int .i64 r] 1 (Nat.le_refl _) (by unfold maxLen;omega) rfl
def qY(w:World)(l:List Int)(e:Ending)(w':World):Prop:=(∃A c,e=.returned (.slice A l.length c)∧w'.ownsRow w.heap.size 3 1 (.slice A l.length c) l.length (aq l))∧Below w.heap.size w w'
theorem Nw:∀(n:Nat) (r:Int) (l:List Int) (w:World),n≤4→Nf.apart n r=some l→Nf.Ok r→Calls Tryz.prog 192 #[.int .i64 r] w (qY w l)
 | 0,_,_,_,_,h,_=>by cases h
 | n+1,r,l,w,hn,h,hr=>by
  have HM:=ap (fun W=>aj0 r W hr.1 hr.2);rw[Nf.apart] at h;unfold wQ at HM
  cases hm:Nf.made r with
  | none=>
   rw[hm] at h HM;cases h;dsimp only at HM;clear hm
   go_enter Tryz.func192,Tryz.ntmps192
   go_wp2_with fail
   refine (HM.o _).mono ?_;rintro e w1 ⟨rfl,ak⟩;have HB:=ap ak;clear ak;go_wp2;go_ret;refine⟨⟨_,_,rfl,(aiL w1 r).mono HB.o.size⟩,HB.o.trans ((ay _ _).mono HB.o.size)⟩
  | some p=>
   obtain⟨a,b⟩:=p;rw[hm] at h HM;dsimp only at h HM;obtain⟨⟨a0,a1⟩,⟨b0,b1⟩⟩:=Nf.MT hm
   cases cn:Nf.apart n a with
   | none=>rw[cn] at h;cases h
   | some la=>
    rw[cn] at h;dsimp only at h;have IH:=ap (fun (W:World)=>Nw n a la W (by omega) cn ⟨a0,a1⟩);have lM:=Nf.AD cn
    by_cases hb:b=0
    ·subst hb;rw[if_pos rfl] at h;cases h;clear hm cn lM
     go_enter Tryz.func192,Tryz.ntmps192
     go_wp2_with fail
     refine (HM.o _).mono ?_;rintro e w1 ⟨rfl,ak⟩;have HB:=ap ak;clear ak
     go_wp2_with fail
     refine (IH.o _).mono ?_;rintro e w2 ⟨⟨A,c,rfl,ho⟩,af⟩;have HO:=ap (ho.mono HB.o.size);have ag:=ap (HB.o.trans (af.mono HB.o.size));clear ho af;go_wp2;go_ret;exact⟨⟨_,_,rfl,HO.o⟩,ag.o⟩
    rw[if_neg hb] at h;obtain⟨lb,fc,e⟩:=Option.map_eq_some_iff.1 h;subst e;have JF:=ap (fun (W:World)=>Nw n b lb W (by omega) fc ⟨b0,b1⟩);have afN:=Nf.AD fc;have hn3:n≤3:=by omega
    have L8:2 ^ n≤8:=Nat.pow_le_pow_right (n:=2) (by omega) hn3;have eb:(b != 0)=true:=by simpa using hb
    have ao1:la.length+lb.length≤16:=by omega
    clear hm cn lM fc afN h hb L8
    go_enter Tryz.func192,Tryz.ntmps192
    go_wp2_with fail
    refine (HM.o _).mono ?_;rintro e w1 ⟨rfl,ak⟩;have HB:=ap ak;clear ak
    go_wp2_with fail
    refine (IH.o _).mono ?_;rintro e w2 ⟨⟨A,c,rfl,ho⟩,af⟩;have HO:=ap (ho.mono HB.o.size);have ag:=ap (HB.o.trans (af.mono HB.o.size));clear ho af
    go_wp2_with fail
    refine (JF.o _).mono ?_;rintro e w3 ⟨⟨A3,c3,rfl,ho⟩,aA⟩;have cf:=ap (uq HO.o aA);have kW:=ap (Reads.cY ho);have aw:=ap (ag.o.trans (aA.mono ag.o.size));have aN:=aw.o.size;clear ho aA;dsimp only
    go_wp2_with (at_builtin;go_loud (refine xg w3 rfl (.tmp 21) (.tmp 23) 164 rfl w.heap.size (.int .i64 0) 1 8 Tryz.underlying164 fM rfl (by omega) (.slice A la.length c) la.length (aq la) rfl cf.o w3.heap.size A3 lb.length c3 (aq lb) kW.o (F7 _) rfl (by unfold maxLen;omega) (by omega) aN ?_);intro A4 c4 w4 BN nC;have sG:=ap BN;have bW:=ap (aw.o.grown nC aw.o.size (fun j e=>(aD cf.o j e).1));clear BN nC)
    go_ret;refine⟨⟨A4,c4,by rw[List.length_append];rfl,?_⟩,bW.o⟩;rw[List.length_append,iA];exact sG.o
theorem aj3(r:Int)(w:World)(hr:Nf.Ok r):Calls Tryz.prog 192 #[.int .i64 r] w (qY w (Nf.parts r)):=Nw 4 r _ w (by omega) (Nf.GF r) hr
theorem ajS(l:List Int)(A:Option Addr)(c:Nat)(w:World)(hr:Reads w w.heap.size 1 A l.length (aq l))(bK:∀x∈l,Nf.Ok x)(hn:l.length≤1000000) :
  Calls Tryz.prog 142 #[.slice A l.length c] w (qY w (Nf.bU l)):=by
 have HR:=ap hr;have ic:=ap bK;clear hr bK;obtain⟨N,hN⟩:∃N,l.length=N:=⟨_,rfl⟩;rw[hN] at hn HR ⊢;have HN:=ap hN;clear hN
 go_enter Tryz.func142,Tryz.ntmps142
 go_wp2
 go_loopg [3,4] N (fun gk v3 v4 wr=>∃(j m:Nat) (A':Option Addr) (c':Nat),gk=N-j∧j≤N∧v4=.int .i64 (j:Int)∧v3=.slice A' m c'∧(Nf.bU (l.take j)).length=m∧wr.ownsRow w.heap.size 3 1 (.slice A' m c') m (aq (Nf.bU (l.take j)))∧Below w.heap.size w wr)
 case atStart=>exact⟨0,0,none,0,rfl,by omega,rfl,rfl,rfl,World.ownsRow_nil _ _ _ _,Below.refl _ _⟩
 case round=>
  obtain⟨j,m,A',c',au,hj,rfl,rfl,hm,ho,hb⟩:=hrel;have Hg:=ap au;have HO:=ap ho;have HB:=ap hb;have Hm:=ap hm;clear au ho hb hm
  by_cases hlt:j<N
  ·obtain⟨a,ha⟩:∃a,l[j]?=some a:=⟨_,List.getElem?_eq_getElem (by rw[HN.o];exact hlt)⟩;obtain⟨gb,off,rfl,dC,hcell⟩:=HR.o.2 (by omega);have y0:wr.cell? ⟨gb,off+j,none⟩=some (.int .i64 a):=(HB.o.cell dC).trans (hcell j _ (by unfold aq;rw[List.getElem?_map,ha];rfl));have HD:=ap (Nf.Kf ha);have hlen:=Nf.xQ (l.take (j+1))
   have gC:m+(Nf.parts a).length≤100000000:=by
    rw[←Hm.o,←List.length_append,←HD.o];have:=List.length_take_le (j+1) l;have:=HN.o;omega
   have HP:=ap (fun W=>aj3 a W (ic.o a (List.mem_of_getElem? ha)));obtain⟨pl,hpl⟩:∃pl,Nf.parts a=pl:=⟨_,rfl⟩;rw[hpl] at HD gC HP;obtain⟨q,hq⟩:∃q,pl.length=q:=⟨_,rfl⟩;have Hq:=ap hq;unfold qY at HP;rw[hq] at gC HP;clear hcell ha hlen hpl hq
   go_wp2_with fail
   refine (HP.o _).mono ?_;rintro e w3 ⟨⟨A3,c3,rfl,ho⟩,aA⟩;have cf:=ap (uq HO.o aA);have kW:=ap (Reads.cY ho);have aw:=ap (HB.o.trans (aA.mono HB.o.size));have aN:=aw.o.size;clear ho aA;dsimp only
   go_wp2_with (at_builtin;go_loud (refine xg w3 rfl (.tmp 11) (.tmp 16) 164 rfl w.heap.size (.int .i64 0) 1 8 Tryz.underlying164 fM rfl (by omega) (.slice A' m c') m _ rfl cf.o w3.heap.size A3 q c3 (aq pl) kW.o (F7 _) rfl (by unfold maxLen;omega) (by omega) aN ?_);intro A4 c4 w4 BN nC;have sG:=ap BN;have bW:=ap (aw.o.grown nC aw.o.size (fun j e=>(aD cf.o j e).1));clear BN nC)
   go_roundg (N-(j+1))
   case measure=>have:=Hg.o;omega
   case rel=>exact⟨j+1,m+q,A4,c4,rfl,by omega,by first|rfl|go_num,rfl,by rw[HD.o,List.length_append,Hm.o,Hq.o],by rw[HD.o,iA];exact sG.o,bW.o⟩
  have oN:j=N:=by omega
  subst oN;go_wp2;go_ret;have hx:=HO.o;have eN:=Hm.o;rw[List.take_of_length_le (by rw[HN.o];exact Nat.le_refl _)] at hx eN;exact⟨⟨A',c',by rw[eN];rfl,by rw[eN];exact hx⟩,HB.o⟩
end
section
open Go.RowKit Go.WideShapes

theorem GD{w:World}{base e g n cap:Nat}{xs:List Value}(h:w.ownsRow base e 1 (.slice (some ⟨g,0,none⟩) n cap) n xs){i:Nat}(u:Value) :
  (w.setCell ⟨g,i,none⟩ u).ownsRow base e 1 (.slice (some ⟨g,0,none⟩) n cap) n (xs.set i u):=by
 refine⟨by rw[List.length_set];exact h.1,?_⟩
 rcases h.2 with ⟨h0,_⟩|⟨g',cap',cur,e',hb,hh,h1,h2,h3,h4⟩
 ·cases h0
 cases e'
 refine .inr ⟨g,cap,cur.setIfInBounds i u,rfl,hb,?_,h1,h2,by rw[Array.size_setIfInBounds];exact h3,?_⟩
 ·simp[World.setCell,Array.getElem?_modify,hh]
 rw[Array.toList_setIfInBounds,List.take_set,h4]
theorem ze{w:World}{base e g n cap:Nat}{xs:List Value}(h:w.ownsRow base e 1 (.slice (some ⟨g,0,none⟩) n cap) n xs){i:Nat}{u:Value}(hu:xs[i]?=some u):w.cell? ⟨g,i,none⟩=some u∧w.frozen? ⟨g,i,none⟩=false:=by
 rcases h.2 with ⟨h0,_⟩|⟨g',cap',cur,e',hb,hh,h1,h2,h3,h4⟩
 ·cases h0
 cases e'
 have hc:cur[i]?=some u:=by
  rw[←h4,List.getElem?_take] at hu
  split at hu
  ·rw[Array.getElem?_toList] at hu;exact hu
  cases hu
 refine⟨?_,?_⟩
 ·rw[cell_of_row w g i _ _ _ hh];exact hc
 simp[World.frozen?,hh]
end
section
open Go.RowKit Go.WideShapes

namespace Nf
theorem acJ{b c:Int}{l:List Int}(h:0<cls b∧cls b<cls c):carry c (b :: l)=b :: carry c l:=by rw[carry,if_pos h]
theorem acK{b c:Int}{l:List Int}(h:¬(0<cls b∧cls b<cls c)):carry c (b :: l)=c :: carry b l:=by rw[carry,if_neg h]
theorem YF:∀(pre:List Int) (b c:Int) (rest:List Int) (i j:Nat),j=pre.length→i=j+1→((aq (pre++c :: b :: rest)).set i (.int .i64 c)).set j (.int .i64 b)=aq (pre++b :: c :: rest)
 | [],b,c,rest,i,j,hj,hi=>by
  subst hi;subst hj;rfl
 | x :: pre,b,c,rest,i,j,hj,hi=>by
  obtain⟨j,rfl⟩:∃k,j=k+1:=⟨pre.length,by rw[hj];rfl⟩;obtain⟨i,rfl⟩:∃k,i=k+1:=⟨j+1,by omega⟩;have:=YF pre b c rest i j (by simpa using hj) (by omega);exact congrArg (Value.int .i64 x :: ·) this
theorem yG{l:List Int}{k:Nat}{x:Int}(h:l[k]?=some x):(aq l)[k]?=some (.int .i64 x):=by unfold aq;rw[List.getElem?_map,h];rfl
end Nf
theorem Xg{w:World}{base e n cap:Nat}{A:Option Addr}{xs:List Value}(h:w.ownsRow base e 1 (.slice A n cap) n xs)(hn:0<n):∃g,A=some ⟨g,0,none⟩∧base≤g∧g<w.heap.size:=by
 obtain⟨g,cap',hv,hb,hlt⟩:=h.form hn;cases hv;exact⟨g,rfl,hb,hlt⟩
theorem akc(l:List Int)(A:Option Addr)(c:Nat)(w:World)(hr:Reads w w.heap.size 1 A l.length (aq l))(hn:l.length≤100000000) :
  Calls Tryz.prog 141 #[.slice A l.length c] w (qY w (Nf.sort l)):=by
 have HR:=ap hr;have HS:=ap (Nf.RU l)
 have qg:(Nf.sort l).length=l.length:=by
  rw[←Nf.RU]
  have:∀(k:Nat) (m:List Int),(Nf.r8 k m).length=m.length:=by
   intro k
   induction k with
   | zero=>intro m;rfl
   | succ k ih=>intro m;rw[Nf.r8,ih,Nf.ai8]
  exact this _ _
 obtain⟨N,hN⟩:∃N,l.length=N:=⟨_,rfl⟩;rw[hN] at hn HR HS qg ⊢;have HN:=ap hN;have HC:=ap (fun r W=>XI r W);clear hN hr;obtain⟨L,hL⟩:∃L,Nf.sort l=L:=⟨_,rfl⟩;rw[hL] at qg HS ⊢;clear hL;unfold qY;rw[qg];clear qg
 go_enter Tryz.func141,Tryz.ntmps141
 go_wp2_with (at_builtin;go_loud (refine xg w rfl (.tmp 8) (.tmp 9) 164 rfl w.heap.size (.int .i64 0) 1 8 Tryz.underlying164 fM rfl (by omega) (.slice none 0 0) 0 [] rfl (World.ownsRow_nil _ _ _ _) w.heap.size A N c (aq l) HR.o (F7 _) rfl (by unfold maxLen;omega) (by omega) (Nat.le_refl _) ?_);intro A1 c1 w1 lQ hg1;rw[Nat.zero_add,List.nil_append] at lQ;have eR:=ap lQ;have ax:=ap ((Below.refl w.heap.size w).grown hg1 (Nat.le_refl _) (fun j e=>by simp[Value.ownBlock] at e));clear lQ hg1)
 (try rw[Nat.zero_add])
 go_loopg [4,5,6,7] N (fun gk v4 v5 v6 v7 wr=>∃(n:Nat) (cur:List Int),gk=N-n∧n≤N∧v4=.int .i64 (n:Int)∧cur.length=N∧Nf.r8 (N-n) cur=L∧wr.ownsRow w.heap.size 3 1 (.slice A1 N c1) N (aq cur)∧Below w.heap.size w wr)
 case atStart=>exact⟨0,l,rfl,by omega,rfl,HN.o,by simpa using HS.o,eR.o,ax.o⟩
 case round=>
  obtain⟨n,cur,au,LX,rfl,hlen,cP,ho,hb⟩:=hrel;have Hg:=ap au;have HO:=ap ho;have HB:=ap hb;have mj:=ap hlen;have Qc:=ap cP;clear au ho hb hlen cP
  by_cases hlt:n<N
  ·obtain⟨g,rfl,dG,dC⟩:=Xg HO.o (by omega)
   obtain⟨c0,CJ,lK⟩:∃c0 CJ,cur=c0 :: CJ:=by
    cases cur with
    | nil=>have:=mj.o;simp at this;omega
    | cons x t=>exact⟨x,t,rfl⟩
   subst lK
   have nJ:Nf.r8 (N-n-1) (Nf.carry c0 CJ)=L:=by
    have:=Qc.o;rw[show N-n=N-n-1+1 by omega] at this;exact this
   have sH:=ap nJ;have eI:=ap (show ([]:List Int).length+1+CJ.length=N by have:=mj.o;simp at this ⊢;omega);clear nJ;go_wp2
   rename World=>wo
   go_loopg [5,6,7] (N-1) (fun gq v5 v6 v7 wr=>∃(i j:Nat) (pre:List Int) (cc:Int) (rest:List Int),gq=N-i∧i≤N∧i=j+1∧j=pre.length∧v5=.int .i64 (i:Int)∧pre.length+1+rest.length=N∧Nf.r8 (N-n-1) (pre++Nf.carry cc rest)=L∧wr.ownsRow w.heap.size 3 1 (.slice (some ⟨g,0,none⟩) N c1) N (aq (pre++cc :: rest))∧Below w.heap.size w wr)
   case atStart=>exact⟨1,0,[],c0,CJ,rfl,by omega,rfl,rfl,rfl,eI.o,sH.o,HO.o,HB.o⟩
   case round=>
    obtain⟨i,j,pre,cc,rest,tP,BH,tQ,wz,rfl,e8,cP,ho,hb⟩:=hrel;have mi:=ap tP;have aK:=ap ho;have ag:=ap hb;have xr:=ap e8;have Dy:=ap cP;have n6:=ap wz;have pB:=ap tQ;clear tP ho hb cP wz e8 tQ
    by_cases hit:i<N
    ·obtain⟨b,rest,Fb⟩:∃b r,rest=b :: r:=by
      cases rest with
      | nil=>have h3:=xr.o;have:=n6.o;have:=pB.o;simp only[List.length_nil] at h3;omega
      | cons x t=>exact⟨x,t,rfl⟩
     subst Fb;obtain⟨y0,f0⟩:=ze aK.o (i:=j) (u:=.int .i64 cc) (Nf.yG (by rw[n6.o];simp));obtain⟨y1,f1⟩:=ze aK.o (i:=i) (u:=.int .i64 b) (Nf.yG (by rw[pB.o,n6.o,List.getElem?_append_right (by omega)];simp));have aoM:(0:Int)≤i∧(i:Int)<N:=by omega
     have aoU:(0:Int)≤j∧(j:Int)<N:=by have:=pB.o;omega
     have z1:IntKind.i64.wrap ((i:Int)-1)=(j:Int):=by rw[IntWalk.i64_in _ (by omega)];have:=pB.o;omega
     have Po:=ap (HC.o b);have Pp:=ap (HC.o cc);have Jj:=ap (@Nf.acJ b cc rest);have DY:=ap (@Nf.acK b cc rest);obtain⟨kb,hkb⟩:∃k,Nf.cls b=k:=⟨_,rfl⟩;obtain⟨kc,Fk⟩:∃k,Nf.cls cc=k:=⟨_,rfl⟩;rw[hkb] at Po Jj DY;rw[Fk] at Pp Jj DY;clear hkb Fk
     go_wp2_with fail
     go_wp2_with fail
     refine cq (Po.o _) ?_
     by_cases h1:0<kb
     ·have d1:decide (0<kb)=true:=decide_eq_true h1
      go_wp2_with fail
      go_wp2_with fail
      refine cq (Pp.o _) ?_
      by_cases h2:kb<kc
      ·have d2:decide (kb<kc)=true:=decide_eq_true h2;have afz:=ap (Jj.o ⟨h1,h2⟩);obtain⟨y2,f2⟩:=ze (GD aK.o (i:=i) (.int .i64 cc)) (i:=j) (u:=.int .i64 cc) (by rw[List.getElem?_set_ne (by have:=pB.o;omega)];exact Nf.yG (by rw[n6.o];simp));have qF:=ap (GD (GD aK.o (i:=i) (.int .i64 cc)) (i:=j) (.int .i64 b));rw[Nf.YF pre b cc rest i j n6.o pB.o] at qF;clear h1 h2;go_wp2
       go_roundg (N-(i+1))
       case measure=>have:=mi.o;omega
       case rel=>
        refine⟨i+1,i,pre++[b],cc,rest,rfl,by omega,rfl,by rw[List.length_append,←n6.o];exact pB.o,by first|rfl|go_num,?_,?_,?_,?_⟩
        ·have:=xr.o;simp only[List.length_append,List.length_cons,List.length_nil] at this ⊢;omega
        ·rw[List.append_assoc];have:=Dy.o;rw[afz.o] at this;exact this
        ·rw[List.append_assoc];exact qF.o
        exact (ag.o.setCell (p:=⟨g,i,none⟩) dG _).setCell (p:=⟨g,j,none⟩) dG _
      have d2:decide (kb<kc)=false:=decide_eq_false h2;have Mh:=ap (DY.o (fun h=>h2 h.2));clear h1 h2;go_wp2
      go_roundg (N-(i+1))
      case measure=>have:=mi.o;omega
      case rel=>
       refine⟨i+1,i,pre++[cc],b,rest,rfl,by omega,rfl,by rw[List.length_append,←n6.o];exact pB.o,by first|rfl|go_num,?_,?_,?_,ag.o⟩
       ·have:=xr.o;simp only[List.length_append,List.length_cons,List.length_nil] at this ⊢;omega
       ·rw[List.append_assoc];have:=Dy.o;rw[Mh.o] at this;exact this
       rw[List.append_assoc];exact aK.o
     have d1:decide (0<kb)=false:=decide_eq_false h1;have Mh:=ap (DY.o (fun h=>h1 h.1));clear h1;go_wp2
     go_roundg (N-(i+1))
     case measure=>have:=mi.o;omega
     case rel=>
      refine⟨i+1,i,pre++[cc],b,rest,rfl,by omega,rfl,by rw[List.length_append,←n6.o];exact pB.o,by first|rfl|go_num,?_,?_,?_,ag.o⟩
      ·have:=xr.o;simp only[List.length_append,List.length_cons,List.length_nil] at this ⊢;omega
      ·rw[List.append_assoc];have:=Dy.o;rw[Mh.o] at this;exact this
      rw[List.append_assoc];exact aK.o
    have afC:i=N:=by omega
    have qc:rest=[]:=by
     cases rest with
     | nil=>rfl
     | cons x t=>have h3:=xr.o;have:=n6.o;have:=pB.o;simp only[List.length_cons] at h3;omega
    subst qc;subst afC;have hq:(i:Int)<(i:Int)↔False:=by simp
    go_wp2
    go_roundg (i-(n+1))
    case measure=>have:=Hg.o;omega
    case rel=>exact⟨n+1,pre++[cc],rfl,by omega,by first|rfl|go_num,by have:=xr.o;simpa using this,by have:=Dy.o;rwa[show i-n-1=i-(n+1) by omega] at this,aK.o,ag.o⟩
  have af2:n=N:=by omega
  subst af2;have hc:cur=L:=by have:=Qc.o;rwa[Nat.sub_self] at this
  subst hc;go_wp2;go_ret;exact⟨⟨A1,c1,rfl,HO.o⟩,HB.o⟩
end
end Go.Proofs.YtpdkeckeekchlaaGreatDoor
