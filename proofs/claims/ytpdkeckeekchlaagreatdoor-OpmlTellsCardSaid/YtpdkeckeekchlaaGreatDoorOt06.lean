/- Tokens: a start. And more. -/
import Derived.Test.YtpdkeckeekchlaaGreatDoorOt05
import Derived.Deep.DeepCutAuto
import Derived.Laws.RangeString
import Derived.Laws.RangeAny
import Derived.Deep.Onto
import Derived.Laws.EntriesVeiled
set_option linter.unusedSimpArgs false
set_option maxRecDepth 20000
set_option maxHeartbeats 32000000
set_option linter.unusedVariables false
namespace Go.Proofs.YtpdkeckeekchlaaGreatDoor
section
open Go.RowKit Tk

def Ay(w:World)(base X T:Nat)(s:ByteArray)(k:Nat)(nm:L)(ra:Option (List At×Bool×Nat))(m:Nat)(a':Act)(wr:World):Prop :=
 ∃(g:Nat→Value) (f k':Nat) (Ls:List At) (A:Option Addr) (c:Nat),a'={ tmps:=List.toArray (.pointer (some ⟨X,0,none⟩) :: .pointer (some ⟨T,0,none⟩) :: g 2 :: g 3 :: g 4 :: g 5 :: g 6 :: g 7 :: g 8 :: g 9 :: g 10 :: g 11 :: g 12 :: g 13 :: g 14 :: g 15 :: g 16 :: g 17 :: g 18 :: g 19 :: g 20 :: g 21 :: g 22 :: g 23 :: g 24 :: g 25 :: g 26 :: g 27 :: g 28 :: g 29 :: g 30 :: g 31 :: g 32 :: g 33 :: g 34 :: g 35 :: g 36 :: g 37 :: g 38 :: g 39 :: g 40 :: g 41 :: g 42 :: g 43 :: g 44 :: g 45 :: g 46 :: g 47 :: g 48 :: g 49 :: g 50 :: g 51 :: g 52 :: g 53 :: g 54 :: g 55 :: g 56 :: g 57 :: g 58 :: g 59 :: g 60 :: g 61 :: g 62 :: g 63 :: g 64 :: g 65 :: g 66 :: g 67 :: g 68 :: g 69 :: g 70 :: g 71 :: g 72 :: g 73 :: g 74 :: g 75 :: g 76 :: []),defers:=[] }∧k'≤s.size∧k<k'∧Ls.length≤k'∧s.size-k'<f∧ig w wr base X T s k k' (aa nm) Ls A c∧ra=glue Ls (attrs f k' (s.data.toList.drop k'))∧0<m
theorem Ay.intro{w:World}{base X T:Nat}{s:ByteArray}{k:Nat}{nm:L}{ra:Option (List At×Bool×Nat)}{m:Nat}{a':Act}{wr:World}{f k':Nat}{Ls:List At}{A:Option Addr}{c:Nat} 
  (ha:a'={ tmps:=List.toArray (.pointer (some ⟨X,0,none⟩) :: .pointer (some ⟨T,0,none⟩) :: Array.getD a'.tmps 2 undef :: Array.getD a'.tmps 3 undef :: Array.getD a'.tmps 4 undef :: Array.getD a'.tmps 5 undef :: Array.getD a'.tmps 6 undef :: Array.getD a'.tmps 7 undef :: Array.getD a'.tmps 8 undef :: Array.getD a'.tmps 9 undef :: Array.getD a'.tmps 10 undef :: Array.getD a'.tmps 11 undef :: Array.getD a'.tmps 12 undef :: Array.getD a'.tmps 13 undef :: Array.getD a'.tmps 14 undef :: Array.getD a'.tmps 15 undef :: Array.getD a'.tmps 16 undef :: Array.getD a'.tmps 17 undef :: Array.getD a'.tmps 18 undef :: Array.getD a'.tmps 19 undef :: Array.getD a'.tmps 20 undef :: Array.getD a'.tmps 21 undef :: Array.getD a'.tmps 22 undef :: Array.getD a'.tmps 23 undef :: Array.getD a'.tmps 24 undef :: Array.getD a'.tmps 25 undef :: Array.getD a'.tmps 26 undef :: Array.getD a'.tmps 27 undef :: Array.getD a'.tmps 28 undef :: Array.getD a'.tmps 29 undef :: Array.getD a'.tmps 30 undef :: Array.getD a'.tmps 31 undef :: Array.getD a'.tmps 32 undef :: Array.getD a'.tmps 33 undef :: Array.getD a'.tmps 34 undef :: Array.getD a'.tmps 35 undef :: Array.getD a'.tmps 36 undef :: Array.getD a'.tmps 37 undef :: Array.getD a'.tmps 38 undef :: Array.getD a'.tmps 39 undef :: Array.getD a'.tmps 40 undef :: Array.getD a'.tmps 41 undef :: Array.getD a'.tmps 42 undef :: Array.getD a'.tmps 43 undef :: Array.getD a'.tmps 44 undef :: Array.getD a'.tmps 45 undef :: Array.getD a'.tmps 46 undef :: Array.getD a'.tmps 47 undef :: Array.getD a'.tmps 48 undef :: Array.getD a'.tmps 49 undef :: Array.getD a'.tmps 50 undef :: Array.getD a'.tmps 51 undef :: Array.getD a'.tmps 52 undef :: Array.getD a'.tmps 53 undef :: Array.getD a'.tmps 54 undef :: Array.getD a'.tmps 55 undef :: Array.getD a'.tmps 56 undef :: Array.getD a'.tmps 57 undef :: Array.getD a'.tmps 58 undef :: Array.getD a'.tmps 59 undef :: Array.getD a'.tmps 60 undef :: Array.getD a'.tmps 61 undef :: Array.getD a'.tmps 62 undef :: Array.getD a'.tmps 63 undef :: Array.getD a'.tmps 64 undef :: Array.getD a'.tmps 65 undef :: Array.getD a'.tmps 66 undef :: Array.getD a'.tmps 67 undef :: Array.getD a'.tmps 68 undef :: Array.getD a'.tmps 69 undef :: Array.getD a'.tmps 70 undef :: Array.getD a'.tmps 71 undef :: Array.getD a'.tmps 72 undef :: Array.getD a'.tmps 73 undef :: Array.getD a'.tmps 74 undef :: Array.getD a'.tmps 75 undef :: Array.getD a'.tmps 76 undef :: []),defers:=[] }) (h1:k'≤s.size) (h2:k<k') (h3:Ls.length≤k') (h4:s.size-k'<f) (h5:ig w wr base X T s k k' (aa nm) Ls A c) (h6:ra=glue Ls (attrs f k' (s.data.toList.drop k'))) (h7:0<m):Ay w base X T s k nm ra m a' wr :=
 ⟨fun i=>Array.getD a'.tmps i undef,f,k',Ls,A,c,ha,h1,h2,h3,h4,h5,h6,h7⟩

theorem al2(w:World)(base X T:Nat)(s:ByteArray)(k:Nat)(hX:Sc w X s k)(hT:T0 w T k)(hne:X≠T)(eY:6≤X)(nw:6≤T)(hg:Gl w)(hbase:base=w.heap.size)(ha:k<s.size)(hs:s.size≤1000000000) :
  Calls Tryz.prog 108 #[.pointer (some ⟨X,0,none⟩),.pointer (some ⟨T,0,none⟩)] w (eW w base X T s k (Tk.start k (s.data.toList.drop k))):=by
 obtain⟨D,hD⟩:∃D,s.data.toList=D:=⟨_,rfl⟩;have AY:D.length=s.size:=by rw[←hD,bV]
 have HN:=ap fun W j (hW:Sc W X s j) (hj:j≤s.size)=>WH W X s j hW hj hs;have HB:=ap fun W j (hW:Sc W X s j) (hj:j≤s.size)=>Ep W X s j hW hj hs
 have je:=ap fun W j (hW:Sc W X s j) (hj:j≤s.size)=>(show Calls Tryz.prog 146 #[.pointer (some ⟨X,0,none⟩),.string ⟨#[47,62]⟩] W fun e w'=>e=.returned (.bool (([47,62]:L).isPrefixOf (D.drop j)))∧Sc w' X s (if ([47,62]:L).isPrefixOf (D.drop j)=true then j+2 else j)∧ai X W w' from by
  have h:=Cj W X s ⟨#[47,62]⟩ j hW hj hs (by decide);rw[hD] at h;exact h)
 have Dj:=ap fun W j (hW:Sc W X s j) (hj:j≤s.size)=>(show Calls Tryz.prog 146 #[.pointer (some ⟨X,0,none⟩),.string ⟨#[62]⟩] W fun e w'=>e=.returned (.bool (([62]:L).isPrefixOf (D.drop j)))∧Sc w' X s (if ([62]:L).isPrefixOf (D.drop j)=true then j+1 else j)∧ai X W w' from by
  have h:=Cj W X s ⟨#[62]⟩ j hW hj hs (by decide);rw[hD] at h;exact h)
 have HV:=ap fun W j (hW:Sc W X s j) (hb:aY X T w W) (hj:j≤s.size)=>ani W X s j hW eY (hg.JZ hb eY nw) hj hs;have HP:=ap fun (v:L) W=>(show Calls Tryz.prog 54 #[.string (aa v),.int .u8 60] W fun e w'=>e=.returned (.int .i64 (Lib.indexByte v 60))∧w'=W from Tryz.strings_IndexByte (aa v) 60 W);have HD:=ap hD;rw[hD] at HN HB HV ⊢;obtain⟨m,hm⟩:∃m,take (D.drop (k+1))=m:=⟨_,rfl⟩;have jt:k+1+m≤s.size:=by have:=GV (D.drop (k+1));rw[List.length_drop,AY] at this;omega
 obtain⟨nm,cD⟩:∃nm,(D.drop (k+1)).take m=nm:=⟨_,rfl⟩;have hex:s.extract (k+1) (k+1+m)=aa nm:=by rw[oD,hD,show k+1+m-(k+1)=m by omega,cD]
 obtain⟨res,dD⟩:∃o,Tk.start k (D.drop k)=o:=⟨_,rfl⟩;obtain⟨ra,Mc⟩:∃o,attrs (s.size-k) (k+1+m) (D.drop (k+1+m))=o:=⟨_,rfl⟩;rw[dD]
 have hR:res=if m=0 then none else ra.map fun x=>⟨0,nm,x.1,x.2.1,[],k,x.2.2⟩:=by
  rw[←dD,←Mc];unfold Tk.start;rw[List.tail_drop,hm,cD,List.drop_drop,List.length_drop,AY,Nat.add_assoc k 1 m]
 have hE:((aa nm).toList==([]:L))=decide (m=0):=by
  rw[NW,←cD,Bool.eq_iff_iff,List.isEmpty_iff,decide_eq_true_eq]
  constructor
  ·intro h;have:=congrArg List.length h;rw[List.length_take,List.length_nil,List.length_drop,AY] at this;omega
  intro h;rw[h,List.take_zero]
 have HR:=ap hR;have zR:=ap Mc;have kX:=ap hX;have ee:=ap hT;have Pm:=ap hbase;have ID:=ap jt;have q1:=Sc.c1 hX;have f1:=Sc.f1 hX
 have PU:=ap (fun W (hW:Sc W X s (k+1))=>(show Calls Tryz.prog 144 #[.pointer (some ⟨X,0,none⟩)] W fun e w'=>e=.returned (.string (aa nm))∧Sc w' X s (k+1+m)∧ai X W w' from by
  have h:=HN.o W (k+1) hW (by omega);rw[hm,hex] at h;exact h))
 have cy:=ap AY;clear dD hR hX hT Mc hex jt cD hm hD AY hbase;have hw2:IntKind.i64.wrap ((k:Int)+1)=(k:Int)+1:=IntWalk.i64_in _ (by omega)
 go_enter Tryz.func108,Tryz.ntmps108
 go_wp2;refine anO 0 (Ay w base X T s k nm ra m) (fun _ wr=>s.size-xK wr X) rfl (fun agc=>?_) ?_
 ·go_wp2_with fail
  have S1:=ap (Sc.move kX.o (k+1));have T1:=ap (Tb.far (i:=1) ee.o (Ne.symm hne) (.int .i64 ((k+1:Nat):Int)));have B1:=ap ((aY.refl X T w).setCell (p:=⟨X,1,none⟩) (.inl rfl) (.int .i64 ((k+1:Nat):Int)));clear q1 f1 kX ee;refine (PU.o _ S1.o).mono ?_;rintro e w2 ⟨rfl,s2,b2⟩;have T2:=ap (T1.o.AE b2 (Ne.symm hne));have B2:=ap (B1.o.one b2);have S2:=ap s2;have f0:=Tb.f T2.o 1;have c0:=Tb.c1 T2.o;clear s2 b2 PU S1 T1 B1
  by_cases h0:m=0
  ·rw[decide_eq_true h0] at hE;have iJ:=ap (show res=none by rw[HR.o,if_pos h0]);clear h0 HR;go_wp2;simp only[Exit.jump];go_ret;exact eW.no iJ.o (B2.o.setCell (p:=⟨T,1,none⟩) (.inr (.inl rfl)) (.string (aa nm))) rfl ID.o (Sc.far (i:=1) S2.o hne (.string (aa nm))) ⟨_,_,_,_,_,_,_,Tb.MW T2.o (aa nm)⟩
  rw[decide_eq_false h0] at hE;have H0:=ap (show 0<m by omega);clear h0 HR
  have HS:=ap (show ig w (w2.setCell ⟨T,1,none⟩ (.string (aa nm))) base X T s k (k+1+m) (aa nm) [] none 0 from
   ⟨Sc.far (i:=1) S2.o hne (.string (aa nm)),Tb.MW T2.o (aa nm),World.ownsRow_nil _ _ _ _,B2.o.setCell (p:=⟨T,1,none⟩) (.inr (.inl rfl)) (.string (aa nm))⟩)
  go_wp2
  go_step3
  rename_i hK
  refine hK _ _ (agc _ _ ?_);refine Ay.intro ?_ ID.o (by omega) (Nat.zero_le _) (f:=s.size-k) (by have:=H0.o;have:=ID.o;omega) HS.o (by rw[HD.o,zR.o];simp[glue]) H0.o;rfl
 rintro a' wr ⟨g,f,k',Ls,A,c0,rfl,bZ,bu,aI,hf,tF,LH,h0⟩;have iJ:=ap (show res=ra.map fun x=>⟨0,nm,x.1,x.2.1,[],k,x.2.2⟩ by rw[HR.o,if_neg (by omega)]);have Hm0:=ap h0;clear HR h0;rw[HD.o] at LH;obtain⟨f,rfl⟩:∃f',f=f'+1:=⟨f-1,by omega⟩;obtain⟨d,hd⟩:∃d,D.drop k'=d:=⟨_,rfl⟩;obtain⟨m1,fY⟩:∃m,aS d=m:=⟨_,rfl⟩;have aT:d.length=s.size-k':=by rw[←hd,List.length_drop,cy.o]
 have rK:k'+m1≤s.size:=by have:=CB d;omega
 obtain⟨d1,dB⟩:∃d1,d.drop m1=d1:=⟨_,rfl⟩;have hdd:D.drop (k'+m1)=d1:=by rw[←dB,←hd,List.drop_drop]
 have ax:=ap (HB.o wr k' tF.sc bZ);rw[hd,fY] at ax;have kU:=ap fun W (hW:Sc W X s (k'+m1))=>je.o W (k'+m1) hW rK;have mV:=ap fun W (hW:Sc W X s (k'+m1))=>Dj.o W (k'+m1) hW rK;rw[hdd] at kU mV;have HG:=ap (show ra=glue Ls (attrs (f+1) k' d) by rw[LH,hd]);have HQ:=ap tF;have qL:=ap tF.sc.xK;have QJ:=ap rK;have Hf:=ap hf;have sO:=ap bu;have QE:=ap aI;clear HB je Dj LH tF hf bu aI bZ
 cases jK:([47,62]:L).isPrefixOf d1 with
 | true=>
  have gu:=ap (show res=some ⟨0,nm,Ls,true,[],k,k'+m1+2⟩ by
   rw[iJ.o,HG.o,aco (by rw[fY,dB];exact jK),Tw,fY];rfl)
  have Hl:=ap (show k'+m1+2≤s.size by
   have:=GH jK;rw[←hdd,List.length_drop,cy.o] at this;have e:([47,62]:L).length=2:=rfl
   omega)
  rw[jK] at kU;clear mV HG jK hd fY dB hdd rK HN HV HP
  go_wp2_with fail
  refine ax.o.mono ?_;rintro e w1 ⟨rfl,s1,b1⟩;have Q1:=ap (HQ.o.go hne b1 s1);clear s1 b1 HQ ax
  go_wp2_with fail
  refine (kU.o _ Q1.o.sc).mono ?_;rintro e w2 ⟨rfl,s2,b2⟩;replace s2:Sc w2 X s (k'+m1+2):=by simpa using s2
  have Q2:=ap (Q1.o.go hne b2 s2);have f3:=Tb.f Q2.o.tb 3;have c3:=Tb.c3 Q2.o.tb;clear s2 b2 Q1 kU;go_wp2;simp only[Exit.jump];go_ret;obtain⟨r1,r2,r3,r4⟩:=Q2.o.Ki hne;exact eW.yes (t:=⟨0,nm,Ls,true,[],k,k'+m1+2⟩) gu.o r4 rfl Hl.o (by have:=sO.o;dsimp only;omega) r1 ⟨A,c0,r2,r3⟩
 | false=>
  rw[jK] at kU
  cases nJ:([62]:L).isPrefixOf d1 with
  | true=>
   have gu:=ap (show res=some ⟨0,nm,Ls,false,[],k,k'+m1+1⟩ by
    rw[iJ.o,HG.o,acn (by rw[fY,dB];exact jK) (by rw[fY,dB];exact nJ),Tw,fY];rfl)
   have Hl:=ap (show k'+m1+1≤s.size by
    have:=GH nJ;rw[←hdd,List.length_drop,cy.o] at this;have e:([62]:L).length=1:=rfl
    omega)
   rw[nJ] at mV;clear HG jK nJ hd fY dB hdd rK HN HV HP
   go_wp2_with fail
   refine ax.o.mono ?_;rintro e w1 ⟨rfl,s1,b1⟩;have Q1:=ap (HQ.o.go hne b1 s1);clear s1 b1 HQ ax
   go_wp2_with fail
   refine (kU.o _ Q1.o.sc).mono ?_;rintro e w2 ⟨rfl,s2,b2⟩;replace s2:Sc w2 X s (k'+m1):=by simpa using s2
   have Q2:=ap (Q1.o.go hne b2 s2);clear s2 b2 Q1 kU
   go_wp2_with fail
   refine (mV.o _ Q2.o.sc).mono ?_;rintro e w3 ⟨rfl,s3,b3⟩;replace s3:Sc w3 X s (k'+m1+1):=by simpa using s3
   have Q3:=ap (Q2.o.go hne b3 s3);clear s3 b3 Q2 mV;go_wp2;simp only[Exit.jump];go_ret;exact eW.yes (t:=⟨0,nm,Ls,false,[],k,k'+m1+1⟩) gu.o Q3.o.but rfl Hl.o (by have:=sO.o;dsimp only;omega) Q3.o.sc ⟨A,c0,Q3.o.tb,Q3.o.own⟩
  | false=>
   rw[nJ] at mV
   by_cases h0:m1=0
   ·have gu:=ap (show res=none by
     rw[iJ.o,HG.o,acq (by rw[fY,dB];exact jK) (by rw[fY,dB];exact nJ) (by rw[fY];exact h0)];rfl)
    rw[decide_eq_false (show ¬0<m1 by omega)] at ax;clear HG jK nJ hd fY dB hdd rK HN HV HP h0
    go_wp2_with fail
    refine ax.o.mono ?_;rintro e w1 ⟨rfl,s1,b1⟩;have Q1:=ap (HQ.o.go hne b1 s1);clear s1 b1 HQ ax
    go_wp2_with fail
    refine (kU.o _ Q1.o.sc).mono ?_;rintro e w2 ⟨rfl,s2,b2⟩;replace s2:Sc w2 X s (k'+m1):=by simpa using s2
    have Q2:=ap (Q1.o.go hne b2 s2);clear s2 b2 Q1 kU
    go_wp2_with fail
    refine (mV.o _ Q2.o.sc).mono ?_;rintro e w3 ⟨rfl,s3,b3⟩;replace s3:Sc w3 X s (k'+m1):=by simpa using s3
    have Q3:=ap (Q2.o.go hne b3 s3);clear s3 b3 Q2 mV;go_wp2;simp only[Exit.jump];go_ret;exact eW.no gu.o Q3.o.but rfl QJ.o Q3.o.sc Q3.o.some_
   rw[decide_eq_true (show 0<m1 by omega)] at ax;obtain⟨j,hj⟩:∃j,k'+m1=j:=⟨_,rfl⟩;obtain⟨m2,eN⟩:∃m,take d1=m:=⟨_,rfl⟩;obtain⟨d2,bJ⟩:∃d2,d1.drop m2=d2:=⟨_,rfl⟩;obtain⟨o,ho⟩:∃o,eqv d2=o:=⟨_,rfl⟩;obtain⟨na,dh⟩:∃na,d1.take m2=na:=⟨_,rfl⟩;have Uw:d1.length=s.size-j:=by rw[←dB,List.length_drop,aT];omega
   have wB:m2≤s.size-j:=by have:=GV d1;omega
   rw[hj] at hdd rK kU mV QJ ax
   have HA:=ap (show attrs (f+1) k' d=if m2=0 then none else o.bind fun x=>if (60:UInt8)∈x.1 then none else (attrs f (j+m2+x.2) (d1.drop (m2+x.2))).map fun y=>(⟨na,x.1,j⟩ :: y.1,y.2) by
    rw[acp (by rw[fY,dB];exact jK) (by rw[fY,dB];exact nJ) (by rw[fY];exact h0),fY,dB,eN,bJ,ho,dh,hj])
   have uQ:=ap fun W (hW:Sc W X s j)=>(show Calls Tryz.prog 144 #[.pointer (some ⟨X,0,none⟩)] W fun e w'=>e=.returned (.string (aa na))∧Sc w' X s (j+m2)∧ai X W w' from by
    have h:=HN.o W j hW rK;rw[hdd,eN,oD,HD.o,hdd,show j+m2-j=m2 by omega,dh] at h;exact h)
   have Us:D.drop (j+m2)=d2:=by rw[←List.drop_drop,hdd,bJ]
   have pG:=ap fun W (hW:Sc W X s (j+m2)) (hb:aY X T w W)=>(show Calls Tryz.prog 147 #[.pointer (some ⟨X,0,none⟩)] W (pK W X s (j+m2) o) from by
    have h:=HV.o W (j+m2) hW hb (by omega);rw[Us,ho] at h;exact h)
   have EW:((aa na).toList==([]:L))=decide (m2=0):=by
    rw[NW,←dh,Bool.eq_iff_iff,List.isEmpty_iff,decide_eq_true_eq]
    constructor
    ·intro h;have:=congrArg List.length h;rw[List.length_take,List.length_nil,Uw] at this;omega
    intro h;rw[h,List.take_zero]
   have Hj:=ap (show k'<j by omega);have DR:=ap (show j+m2≤s.size by omega);have hDj:=ap (show ∀n,D.drop (j+n)=d1.drop n from fun n=>by rw[←List.drop_drop,hdd]);clear jK nJ hd fY dB hdd rK HN HV h0 hj eN bJ ho dh Uw wB Us aT
   go_wp2_with fail
   refine ax.o.mono ?_;rintro e w1 ⟨rfl,s1,b1⟩;have Q1:=ap (HQ.o.go hne b1 s1);clear s1 b1 HQ ax
   go_wp2_with fail
   refine (kU.o _ Q1.o.sc).mono ?_;rintro e w2 ⟨rfl,s2,b2⟩;replace s2:Sc w2 X s j:=by simpa using s2
   have Q2:=ap (Q1.o.go hne b2 s2);clear s2 b2 Q1 kU
   go_wp2_with fail
   refine (mV.o _ Q2.o.sc).mono ?_;rintro e w3 ⟨rfl,s3,b3⟩;replace s3:Sc w3 X s j:=by simpa using s3
   have Q3:=ap (Q2.o.go hne b3 s3);have c1:=Sc.c1 Q3.o.sc;clear s3 b3 Q2 mV;have HY:=ap (show w3.heap.size≠X from fun e=>by have:=ae.lt Q3.o.sc;omega);have Qr:=ap (show w3.heap.size≠T from fun e=>by have:=ae.lt Q3.o.tb;omega);have Qq:=ap (show (Value.slice A Ls.length c0).ownBlock≠some w3.heap.size from fun e=>by have:=(aD Q3.o.own _ e).2.lt;omega);have Qs:=ap Q3.o.but.size
   go_wp2_with fail
   refine (uQ.o _ (Q3.o.alloc _).sc).mono ?_;rintro e w4 ⟨rfl,s4,b4⟩;have Q4:=ap ((Q3.o.alloc _).go hne b4 s4);have Y4:=ap (b4.blk (ae.new w3 183 #[.string ⟨#[]⟩,.string ⟨#[]⟩,.int .i64 (j:Int)]) HY.o);generalize w3.heap.size=Y at *
   have y0:=Y4.o.cell 0;have fy0:=Y4.o.frozen 0;clear s4 b4 c1 Q3 uQ
   go_wp2_with fail
   have Q5:=ap (Q4.o.far (p:=⟨Y,0,none⟩) Qs.o HY.o.symm Qr.o.symm Qq.o (.string (aa na)))
   have Y5:=ap (show ae (w4.setCell ⟨Y,0,none⟩ (.string (aa na))) Y 183 #[.string (aa na),.string ⟨#[]⟩,.int .i64 (j:Int)] from by
    have:=ae.aH Y4.o 0 (.string (aa na))
    simpa using this)
   clear y0 fy0 Q4 Y4;refine (pG.o _ Q5.o.sc Q5.o.but).mono ?_;rintro e w6 ⟨b6,h6⟩
   cases o with
   | none=>
    obtain⟨rfl,k6,l6a,l6,s6⟩:=h6
    have gu:=ap (show res=none by
     rw[iJ.o,HG.o,HA.o,Option.bind_none,ite_self];rfl)
    have Q6:=ap (Q5.o.go hne b6 s6);have Y6:=ap (b6.blk Y5.o HY.o);have y0:=Y6.o.cell 0;have L6:=ap l6;clear s6 b6 l6 l6a Q5 Y5 pG HA HG
    by_cases h0:m2=0
    ·rw[decide_eq_true h0] at EW;clear h0;go_wp2;simp only[Exit.jump];go_ret;exact eW.no gu.o Q6.o.but rfl L6.o Q6.o.sc Q6.o.some_
    rw[decide_eq_false h0] at EW;clear h0;go_wp2;simp only[Exit.jump];go_ret;exact eW.no gu.o Q6.o.but rfl L6.o Q6.o.sc Q6.o.some_
   | some x=>
    obtain⟨v,n2⟩:=x;obtain⟨rfl,l6,s6⟩:=h6;dsimp only at l6 s6;have Q6:=ap (Q5.o.go hne b6 s6);have Y6:=ap (b6.blk Y5.o HY.o);have y0:=Y6.o.cell 0;have L6:=ap l6;have Dv:=ap (HP.o v);rw[Option.bind_some] at HA;have hz:=ahx v;obtain⟨z,Cf⟩:∃z,Lib.indexByte v 60=z:=⟨_,rfl⟩;rw[Cf] at Dv hz;clear s6 b6 l6 Q5 Y5 pG HP Cf
    by_cases h0:m2=0
    ·rw[decide_eq_true h0] at EW
     have gu:=ap (show res=none by
      rw[iJ.o,HG.o,HA.o,if_pos h0];rfl)
     clear h0 HA HG hz;go_wp2;simp only[Exit.jump];go_ret;exact eW.no gu.o Q6.o.but rfl L6.o Q6.o.sc Q6.o.some_
    rw[decide_eq_false h0] at EW;have H0:=ap h0;clear h0
    by_cases hz0:0≤z
    ·have gu:=ap (show res=none by
      rw[iJ.o,HG.o,HA.o,if_neg H0.o,if_pos (hz.1 hz0)];rfl)
     have oM:decide (0≤z)=true:=decide_eq_true hz0;clear HA HG hz
     go_wp2_with fail
     refine (Dv.o _).mono ?_;rintro e w7 ⟨rfl,rfl⟩;go_wp2;simp only[Exit.jump];go_ret;exact eW.no gu.o Q6.o.but rfl L6.o Q6.o.sc Q6.o.some_
    have aaA:=ap (show ra=glue (Ls++[⟨na,v,j⟩]) (attrs f (j+m2+n2) (D.drop (j+m2+n2))) by
     rw[HG.o,HA.o,if_neg H0.o,if_neg (fun h=>hz0 (hz.2 h)),aeJ,Nat.add_assoc j m2 n2,hDj.o])
    have oM:decide (0≤z)=false:=decide_eq_false hz0;have y1:=Y6.o.cell 1;have fy1:=Y6.o.frozen 1;clear HA HG hz
    go_wp2_with fail
    refine (Dv.o _).mono ?_;rintro e w7 ⟨rfl,rfl⟩;go_wp2;have Q7:=ap (Q6.o.far (p:=⟨Y,1,none⟩) Qs.o HY.o.symm Qr.o.symm Qq.o (.string (aa v)))
    have Y7:=ap (show ae (w7.setCell ⟨Y,1,none⟩ (.string (aa v))) Y 183 #[.string (aa na),.string (aa v),.int .i64 (j:Int)] from by
     have:=ae.aH Y6.o 1 (.string (aa v))
     simpa using this)
    clear y0 y1 fy1 Q6 Y6 Dv;generalize w7.setCell ⟨Y,1,none⟩ (.string (aa v))=W7 at *
    have c2:=Tb.c2 Q7.o.tb;have f2:=Tb.f Q7.o.tb 2;have y0:=Y7.o.cell 0;have y1:=Y7.o.cell 1;have y2:=Y7.o.cell 2;have xa:∀o,(W7.alloc o).cell? ⟨T,2,none⟩=some (.slice A Ls.length c0):=fun o=>Tb.c2 (ae.alloc Q7.o.tb o);have HNE:=ap (bR Q7.o.own Q7.o.tb (by decide)).symm;have HL:=ap (show Ls.length≤1000000000 by have:=QE.o;have:=Hj.o;have:=L6.o;omega);have zw:=ap (show base≤W7.heap.size by have:=Pm.o;have:=Q7.o.but.size;omega)
    go_region_law
     (show if Region.wanted (⟨some 74,_,_,_,_,_⟩:Oper) _=true then _ else _;refine GU _ (by rfl) _ _ _ (by rfl) base 183 _ 3 40 Tryz.underlying110 agM (by rfl) (by omega) (.slice A Ls.length c0) Ls.length (kg Ls) (by rfl) (by first|exact Q7.o.own.alloc _|exact (Q7.o.own.alloc _).drew) [.string (aa na),.string (aa v),.int .i64 (j:Int)] rfl (acb ⟨na,v,j⟩) W7.heap.size (by first|exact ae.new W7 183 _|exact (ae.new W7 183 _).drew) (by rfl) (by unfold maxLen;have:=HL.o;omega) (by have:=HL.o;omega) (by have:=zw.o;simp[World.drew];omega) ?_;intro gg cap w8 aP aG cX;have T8:=ap (show ae w8 T 112 #[.int .i8 0,.string (aa nm),.slice A Ls.length c0,.bool false,.string ⟨#[]⟩,.int .i64 (k:Int),.int .i64 ((0:Nat):Int)] from ae.grown (ae.drew (ae.alloc Q7.o.tb (.cells #[.string (aa na),.string (aa v),.int .i64 (j:Int)] 183))) aG HNE.o);have c2':w8.cell? ⟨T,2,none⟩=some (.slice A Ls.length c0):=T8.o.cell 2;have f2':=T8.o.frozen 2;have z8:=ap aG;have Jr:=ap aP;clear aP aG cX)
    all_goals go_wp2
    all_goals
     have Q8:=ap (Q7.o.app ⟨na,v,j⟩ Pm.o hne z8.o Jr.o)
     go_step3
     refine agV ⟨?_,?_⟩
     ·refine Ay.intro (by rfl) L6.o (by have:=sO.o;have:=Hj.o;omega) (by have:=QE.o;have:=Hj.o;simp;omega) (f:=f) (by have:=Hf.o;have:=Hj.o;have:=L6.o;omega) Q8.o (by rw[HD.o];exact aaA.o) (by have:=Hm0.o;omega)
     rw[Q8.o.sc.xK,qL.o];have:=Hj.o;have:=L6.o;omega
end
section
open Tk
def wV(l:L):Bool:=!(([60,33]:L).isPrefixOf l||([60,63]:L).isPrefixOf l)
structure xI(D:L):Prop where
 val:Utf.valid D=true
 pl:∀p,p<D.length→wV (D.drop p)=true
 one:∀p,p<D.length→∀t,Tk.one p (D.drop p)=some t→p<t.end_∧t.end_≤D.length
def N6(ts:List Tok):Nat:=(ts.getLast?.map (·.end_)).getD 0
def zu(s:L)(ts:List Tok)(n:Nat)(ok:Bool):Prop:=jD s.length 0 s=ts∧N6 ts=n∧ok=decide (n=s.length)
def vy(D:L)(p:Nat)(ts:List Tok):Prop:=ts.length≤p∧N6 ts=p∧∃f,ts.length+f=D.length∧jD D.length 0 D=ts++jD f p (D.drop p)
theorem vy.zero(D:L):vy D 0 []:=⟨Nat.le_refl _,rfl,D.length,by simp,rfl⟩
theorem akH{D:L}{p:Nat}{ts:List Tok}{t:Tok}(h:vy D p ts)(hp:p<D.length)(ho:Tk.one p (D.drop p)=some t)(h1:p<t.end_):vy D t.end_ (ts++[t]):=by
 obtain⟨hl,-,f,hf,he⟩:=h
 match f,hf with
 | 0,hf=>omega
 | f+1,hf=>
  have e0:(D.drop p).isEmpty=false:=by
   rw[Bool.eq_false_iff];intro e;have:=congrArg List.length (List.isEmpty_iff.1 e);rw[List.length_drop] at this;simp at this;omega
  refine⟨by rw[List.length_append];simp;omega,by simp[N6],f,by rw[List.length_append];simp;omega,?_⟩;rw[he,jD,e0,if_neg (by simp),ho];dsimp only;rw[List.drop_drop,Nat.add_sub_cancel' (Nat.le_of_lt h1),List.append_assoc];rfl
theorem XX{D:L}{p:Nat}{ts:List Tok}(h:vy D p ts)(ho:p=D.length∨Tk.one p (D.drop p)=none):zu D ts p (decide (p=D.length)):=by
 obtain⟨-,ht,f,-,he⟩:=h;refine⟨?_,ht,rfl⟩
 have:jD f p (D.drop p)=[]:=by
  cases f with
  | zero=>rfl
  | succ f=>
   rw[jD];split
   ·rfl
   rename_i hn
   rcases ho with ho|ho
   ·rw[ho,List.drop_length] at hn;exact absurd rfl hn
   rw[ho]
 rw[he,this,List.append_nil]
end
section
open Go.RowKit Tk

theorem RH(l:L):decide (0≤bad l) = !fine l:=by
 unfold bad fine stop
 cases h:(Utf.pieces l).find? (fun p=>!bX p.2) with
 | none=>
  have:(Utf.pieces l).all (fun p=>bX p.2)=true:=List.all_eq_true.2 fun p hp=>by
   have:=List.find?_eq_none.1 h p hp
   simpa using this
  simp[this]
 | some p=>
  have h1:=List.find?_some h;have h2:=List.mem_of_find?_eq_some h
  have:(Utf.pieces l).all (fun p=>bX p.2)=false:=by
   rw[Bool.eq_false_iff];intro ha;have:=List.all_eq_true.1 ha p h2;rw[this] at h1;cases h1
  simp[this]
def CX(t:Tok)(v:Value)(e:Nat):List Value:=[.int .i8 t.kind,.string (aa t.name),v,.bool t.empty,.string (aa t.text),.int .i64 (t.at_:Int),.int .i64 (e:Int)]
def OQ:List Value:=[.int .i8 0,.string ⟨#[]⟩,.slice none 0 0,.bool false,.string ⟨#[]⟩,.int .i64 0,.int .i64 0]
def oo(w:World)(o:Option Tok)(e:Ending)(w':World):Prop :=
 Below w.heap.size w w'∧match o with
  | none=>e=.returned (.tuple #[.agg OQ.toArray,.bool false])
  | some t=>∃A c,e=.returned (.tuple #[.agg (CX t (.slice A t.attrs.length c) t.end_).toArray,.bool true])∧w'.ownsRow w.heap.size 183 3 (.slice A t.attrs.length c) t.attrs.length (kg t.attrs)
theorem oo.no{w:World}{o:Option Tok}{e:Ending}{w':World}(ho:o=none)(hb:Below w.heap.size w w')(he:e=.returned (.tuple #[.agg OQ.toArray,.bool false])):oo w o e w':=by subst ho;exact⟨hb,he⟩
theorem oo.WK{R:Nat}{w:World}{o:Option Tok}{e:Ending}{w':World}(hR:w.heap.size=R)(ho:o=none)(hb:Below R w w')(he:e=.returned (.tuple #[.agg OQ.toArray,.bool false])):oo w o e w':=by subst hR;exact oo.no ho hb he
theorem oo.yes{w:World}{o:Option Tok}{t:Tok}{e:Ending}{w':World}{A:Option Addr}{c:Nat}(ho:o=some t)(hb:Below w.heap.size w w')(he:e=.returned (.tuple #[.agg (CX t (.slice A t.attrs.length c) t.end_).toArray,.bool true]))
  (hr:w'.ownsRow w.heap.size 183 3 (.slice A t.attrs.length c) t.attrs.length (kg t.attrs)):oo w o e w':=by subst ho;exact⟨hb,A,c,he,hr⟩
def tA(l:L):Nat:=if ([60,47]:L).isPrefixOf l then 109 else if ([60,33]:L).isPrefixOf l||([60,63]:L).isPrefixOf l then 110 else if ([60]:L).isPrefixOf l then 108 else 111
theorem ahc{l:L}(h:wV l=true):(kindOf l=0∧tA l=108)∨(kindOf l=1∧tA l=109)∨(kindOf l=3∧tA l=111):=by
 unfold wV at h;unfold kindOf tA
 cases ([60,47]:L).isPrefixOf l<;>cases h2:(([60,33]:L).isPrefixOf l||([60,63]:L).isPrefixOf l)<;>cases ([60]:L).isPrefixOf l<;>simp_all
theorem ajc(w:World)(X T:Nat)(s:ByteArray)(k:Nat)(hX:Sc w X s k)(hT:T0 w T k)(hne:X≠T)(eY:6≤X)(nw:6≤T)(hg:Gl w)(hk:k<s.size)(hs:s.size≤1000000000)(hpl:wV (s.data.toList.drop k)=true) :
  Calls Tryz.prog (tA (s.data.toList.drop k)) #[.pointer (some ⟨X,0,none⟩),.pointer (some ⟨T,0,none⟩)] w (eW w w.heap.size X T s k (Tk.piece k (s.data.toList.drop k))):=by
 unfold tA Tk.piece;split
 ·rename_i hp
  have:=GH hp;rw[List.length_drop,bV] at this;exact adN w _ X T s k hX hT hne (by have e:([60,47]:L).length=2:=rfl;omega) hs
 split
 ·rename_i hh
  unfold wV at hpl;rw[hh] at hpl;cases hpl
 split
 ·exact al2 w _ X T s k hX hT hne eY nw hg rfl hk hs
 rename_i hp
 exact amE w _ X T s k hX hT hne eY nw hg hk hs (Bool.eq_false_iff.2 hp)
def Gw(w:World)(s:ByteArray)(k:Nat):World :=
 (((w.alloc (.cells #[.int .i8 0,.string ⟨#[]⟩,.slice none 0 0,.bool false,.string ⟨#[]⟩,.int .i64 0,.int .i64 0] 112)).alloc
  (.cells #[.func (.func 108) #[] #[],.func (.func 109) #[] #[],.func (.func 110) #[] #[],.func (.func 111) #[] #[]] 176)).alloc
  (.cells #[.string s,.int .i64 (k:Int)] 178)).alloc (.cells #[.int .i8 0,.string ⟨#[]⟩,.slice none 0 0,.bool false,.string ⟨#[]⟩,.int .i64 (k:Int),.int .i64 0] 112)
structure abG(w C:World)(s:ByteArray)(k R Y X T:Nat):Prop where
 res:ae C R 112 #[.int .i8 0,.string ⟨#[]⟩,.slice none 0 0,.bool false,.string ⟨#[]⟩,.int .i64 0,.int .i64 0]
 fns:ae C Y 176 #[.func (.func 108) #[] #[],.func (.func 109) #[] #[],.func (.func 110) #[] #[],.func (.func 111) #[] #[]]
 sc:Sc C X s k
 tok:T0 C T k
 below:Below w.heap.size w C
 size:T<C.heap.size
 base:w.heap.size≤C.heap.size
 rX:R≠X
 rT:R≠T
 xT:X≠T
 xs:w.heap.size≤X
 ts:w.heap.size≤T
 rs:w.heap.size≤R
theorem ain(w:World)(s:ByteArray)(k:Nat):abG w (Gw w s k) s k w.heap.size (w.heap.size+1) (w.heap.size+1+1) (w.heap.size+1+1+1):=by
 have b0:=ae.new w 112 #[.int .i8 0,.string ⟨#[]⟩,.slice none 0 0,.bool false,.string ⟨#[]⟩,.int .i64 0,.int .i64 0];have b1:=ae.new (w.alloc (.cells #[.int .i8 0,.string ⟨#[]⟩,.slice none 0 0,.bool false,.string ⟨#[]⟩,.int .i64 0,.int .i64 0] 112)) 176 #[.func (.func 108) #[] #[],.func (.func 109) #[] #[],.func (.func 110) #[] #[],.func (.func 111) #[] #[]];rw[World.size_alloc] at b1;have b2:=ae.new ((w.alloc (.cells #[.int .i8 0,.string ⟨#[]⟩,.slice none 0 0,.bool false,.string ⟨#[]⟩,.int .i64 0,.int .i64 0] 112)).alloc (.cells #[.func (.func 108) #[] #[],.func (.func 109) #[] #[],.func (.func 110) #[] #[],.func (.func 111) #[] #[]] 176)) 178 #[.string s,.int .i64 (k:Int)];rw[World.size_alloc,World.size_alloc] at b2
 have b3:=ae.new (((w.alloc (.cells #[.int .i8 0,.string ⟨#[]⟩,.slice none 0 0,.bool false,.string ⟨#[]⟩,.int .i64 0,.int .i64 0] 112)).alloc (.cells #[.func (.func 108) #[] #[],.func (.func 109) #[] #[],.func (.func 110) #[] #[],.func (.func 111) #[] #[]] 176)).alloc (.cells #[.string s,.int .i64 (k:Int)] 178)) 112 #[.int .i8 0,.string ⟨#[]⟩,.slice none 0 0,.bool false,.string ⟨#[]⟩,.int .i64 (k:Int),.int .i64 0];rw[World.size_alloc,World.size_alloc,World.size_alloc] at b3;refine⟨((b0.alloc _).alloc _).alloc _,(b1.alloc _).alloc _,b2.alloc _,b3,?_,b3.lt,?_,by omega,by omega,by omega,by omega,by omega,by omega⟩
 ·exact (((((Below.refl _ w).alloc (Nat.le_refl _) _).alloc (by simp) _).alloc (by simp;omega) _).alloc (by simp;omega) _)
 have:=b3.lt;unfold Gw;omega
def GL(w:World)(X:Nat)(v0 v1 v2 v3 v4 v5 v6:Value):World:=(((((((w.setCell ⟨X,0,none⟩ v0).setCell ⟨X,1,none⟩ v1).setCell ⟨X,2,none⟩ v2).setCell ⟨X,3,none⟩ v3).setCell ⟨X,4,none⟩ v4).setCell ⟨X,5,none⟩ v5).setCell ⟨X,6,none⟩ v6)
theorem JX{B X:Nat}{w w1:World}(h:Below B w w1)(hX:B≤X)(v0 v1 v2 v3 v4 v5 v6:Value):Below B w (GL w1 X v0 v1 v2 v3 v4 v5 v6) :=
 ((((((h.setCell (p:=⟨X,0,none⟩) hX v0).setCell (p:=⟨X,1,none⟩) hX v1).setCell (p:=⟨X,2,none⟩) hX v2).setCell (p:=⟨X,3,none⟩) hX v3).setCell (p:=⟨X,4,none⟩) hX v4).setCell (p:=⟨X,5,none⟩) hX v5).setCell (p:=⟨X,6,none⟩) hX v6
theorem Nr{w:World}{X t:Nat}{u0 u1 u2 u3 u4 u5 u6:Value}(h:ae w X t #[u0,u1,u2,u3,u4,u5,u6])(v0 v1 v2 v3 v4 v5 v6:Value):ae (GL w X v0 v1 v2 v3 v4 v5 v6) X t #[v0,v1,v2,v3,v4,v5,v6]:=by
 have:=((((((h.aH 0 v0).aH 1 v1).aH 2 v2).aH 3 v3).aH 4 v4).aH 5 v5).aH 6 v6
 simpa[Go.Proofs.YtpdkeckeekchlaaGreatDoor.GL] using this
theorem ajp{w:World}{base e size n X:Nat}{v:Value}{xs:List Value}(h:w.ownsRow base e size v n xs)(hX:v.ownBlock≠some X)(v0 v1 v2 v3 v4 v5 v6:Value):(GL w X v0 v1 v2 v3 v4 v5 v6).ownsRow base e size v n xs :=
 ownsRow_setCell_other (ownsRow_setCell_other (ownsRow_setCell_other (ownsRow_setCell_other (ownsRow_setCell_other (ownsRow_setCell_other (ownsRow_setCell_other h (a:=⟨X,0,none⟩) hX _) (a:=⟨X,1,none⟩) hX _) (a:=⟨X,2,none⟩) hX _) (a:=⟨X,3,none⟩) hX _) (a:=⟨X,4,none⟩) hX _) (a:=⟨X,5,none⟩) hX _) (a:=⟨X,6,none⟩) hX _
theorem Ng{Q:Ending→World→Prop}{a:Act}{W:World}{R:Nat}{v0 v1 v2 v3 v4 v5 v6:Value}{b:Bool}(ha:a.tmps.getD 4 undef=.pointer (some ⟨R,0,none⟩))(h5:a.tmps.getD 5 undef=.bool b)(hd:a.defers=[])(hK:ae W R 112 #[v0,v1,v2,v3,v4,v5,v6])
  (hQ:Q (.returned (.tuple #[.agg #[v0,v1,v2,v3,v4,v5,v6],.bool b])) W):bodyPost Tryz.prog Tryz.f74 Q .ret a W:=by
 have p0:W.cell? ⟨R,0,none⟩=some v0:=hK.cell 0;have p1:W.cell? ⟨R,1,none⟩=some v1:=hK.cell 1;have p2:W.cell? ⟨R,2,none⟩=some v2:=hK.cell 2;have p3:W.cell? ⟨R,3,none⟩=some v3:=hK.cell 3;have p4:W.cell? ⟨R,4,none⟩=some v4:=hK.cell 4;have p5:W.cell? ⟨R,5,none⟩=some v5:=hK.cell 5;have p6:W.cell? ⟨R,6,none⟩=some v6:=hK.cell 6;refine bodyPost_ret (v:=.tuple #[.agg #[v0,v1,v2,v3,v4,v5,v6],.bool b]) ?_ hd hQ;obtain⟨tm,df⟩:=a;dsimp only at ha h5 ⊢;have ha':tm[4]?.getD undef=.pointer (some ⟨R,0,none⟩):=by simpa using ha
 have hb':tm[5]?.getD undef=.bool b:=by simpa using h5
 simp[results,Tryz.results74,go_sem,p0,p1,p2,p3,p4,p5,p6,ha',hb']
theorem Ni{w w':World}{base e size n:Nat}{v:Value}{xs:List Value}(h:w.ownsRow base e size v n xs)(hb:Below w.heap.size w w'):w'.ownsRow base e size v n xs :=
 h.kept (row:=some w.heap.size) ⟨hb.os,hb.tape,hb.output,hb.size,fun i hi _=>hb.block i hi⟩ (.inr fun e=>by have:=(h.lt _ e).2;omega)
theorem aY.blk{X T g t:Nat}{cs:Array Value}{w w':World}(h:aY X T w w')(hg:ae w g t cs)(hX:g≠X)(hT:g≠T):ae w' g t cs:=(h.block g hg.lt hX hT).trans hg
end
section
open Go.RowKit Tk

theorem aio(w:World)(s:ByteArray)(k:Nat)(hg:Gl w)(jO:6≤w.heap.size)(hk:k<s.size)(hs:s.size≤1000000000)(hpl:wV (s.data.toList.drop k)=true) :
  Calls Tryz.prog 74 #[.string s,.int .i64 (k:Int)] w (oo w (Tk.one k (s.data.toList.drop k))):=by
 obtain⟨l,hl⟩:∃l,s.data.toList.drop k=l:=⟨_,rfl⟩;rw[hl] at hpl;have Fk:=ahc hpl;have Dl:=ap (fun W=>ahb (s.extract k s.size) W (by rw[ko,aO,List.length_drop,bV];omega));rw[ko,hl,aZ] at Dl;have IM:=ap (fun W X T (hX:Sc W X s k) (hT:T0 W T k) (hne:X≠T) (eY:6≤X) (nw:6≤T) (hg:Gl W)=>ajc W X T s k hX hT hne eY nw hg hk hs (by rw[hl];exact hpl));rw[hl] at IM;have Qb:am (∀o W X T (hX:Sc W X s k) (hT:T0 W T k) (hne:X≠T) (eY:6≤X) (nw:6≤T) (hg:Gl W),o=Tk.piece k l→Calls Tryz.prog (tA l) #[.pointer (some ⟨X,0,none⟩),.pointer (some ⟨T,0,none⟩)] W (eW W W.heap.size X T s k o)):=ap fun o W X T hX hT hne eY nw hg h=>by subst h;exact IM.o W X T hX hT hne eY nw hg
 have HL:=ap hl;rw[hl];have hes:s.extract k s.size=aa l:=by rw[ko,hl]
 obtain⟨o,ho⟩:∃o,Tk.piece k l=o:=⟨_,rfl⟩;obtain⟨res,dD⟩:∃r,Tk.one k l=r:=⟨_,rfl⟩;have HR:=ap (show res=o.bind fun t=>if fine (l.take (t.end_-k)) then some t else none by rw[←dD,←ho];rfl);rw[dD];have Ho:=ap ho;have HG:=ap hg;clear IM hl ho dD hg hpl;generalize tA l=fn at *
 generalize kindOf l=kd at *
 obtain⟨L0,TN⟩:∃L0,aa l=L0:=⟨_,rfl⟩;rw[TN] at Dl hes;clear TN;have HW:=ap (ain w s k);obtain⟨C,hC⟩:∃C,Gw w s k=C:=⟨_,rfl⟩;rw[hC] at HW
 rcases Fk with ⟨rfl,rfl⟩|⟨rfl,rfl⟩|⟨rfl,rfl⟩
 all_goals
  go_enter Tryz.func74,Tryz.ntmps74
  go_wp2_with fail
  show Calls Tryz.prog 112 _ (Gw w s k) _;rw[hC];clear hC;refine (Dl.o _).mono ?_;rintro e w1 ⟨rfl,rfl⟩;generalize w.heap.size+1+1+1=T at *
  generalize w.heap.size+1+1=X at *
  generalize w.heap.size+1=Y at *
  have c0:=ae.cell HW.o.fns 0;have c1:=ae.cell HW.o.fns 1;have c2:=ae.cell HW.o.fns 2;have c3:=ae.cell HW.o.fns 3;have Qe:=ap HW.o.rX;have zS:=ap HW.o.rT
  go_wp2_with fail
  refine (Qb.o o w1 X T HW.o.sc HW.o.tok HW.o.xT (by have:=HW.o.xs;omega) (by have:=HW.o.ts;omega) (HG.o.below HW.o.below) Ho.o.symm).mono ?_;rintro e w2 h2;clear c0 c1 c2 c3 Qb Dl
  cases o with
  | none=>
   obtain⟨b2,rfl,⟨k',LN,s2⟩,kd,nm,ar,em,tx,at0,en,t2⟩:=h2;have gu:=ap (show res=none by rw[HR.o];rfl);have d1:=Sc.c1 s2;have c6:=Tb.c6 t2;have f6:=Tb.f t2 6;have ag:=ap (show Below w.heap.size w w2 from HW.o.below.trans (b2.below HW.o.xs HW.o.ts HW.o.base));have bm:=ap (b2.blk HW.o.res Qe.o zS.o);have Jc:=ap HW.o.ts;clear b2 LN s2 t2 HR HW;generalize iJ:w.heap.size=R at *
   have p0:=ae.cell bm.o 0;have p1:=ae.cell bm.o 1;have p2:=ae.cell bm.o 2;have p3:=ae.cell bm.o 3;have p4:=ae.cell bm.o 4;have p5:=ae.cell bm.o 5;have p6:=ae.cell bm.o 6;have r:=fun i=>ae.frozen bm.o i;have hRT:=zS.o;have hTR:=zS.o.symm;go_wp2;have zx:=ap (JX (ag.o.setCell (p:=⟨T,6,none⟩) Jc.o (.int .i64 (k':Int))) (Nat.le_refl R) (.int .i8 0) (.string ⟨#[]⟩) (.slice none 0 0) (.bool false) (.string ⟨#[]⟩) (.int .i64 0) (.int .i64 0));refine Ng rfl rfl rfl (Nr (ae.far bm.o (p:=⟨T,6,none⟩) hRT (.int .i64 (k':Int))) _ _ _ _ _ _ _) ?_;exact oo.WK iJ gu.o zx.o rfl
  | some t=>
   obtain⟨b2,rfl,oQ,LP,s2,A,c,t2,o2⟩:=h2;have gm:=ap (show res=if fine (l.take (t.end_-k)) then some t else none by rw[HR.o];rfl);have d1:=Sc.c1 s2;have c6:=Tb.c6 t2;have f6:=Tb.f t2 6;have ag:=ap (show Below w.heap.size w w2 from HW.o.below.trans (b2.below HW.o.xs HW.o.ts HW.o.base));have bm:=ap (b2.blk HW.o.res Qe.o zS.o);have kZ:=ap t2;have aK:=ap o2;have HOs:=ap (show (Value.slice A t.attrs.length c).ownBlock≠some w.heap.size from fun e=>by have:=(o2.lt _ e).1;have:=HW.o.size;have:=HW.o.ts;omega);have HOt:=ap (show (Value.slice A t.attrs.length c).ownBlock≠some T from fun e=>by have:=(o2.lt _ e).1;have:=HW.o.size;omega);have cf:=ap (o2.mono (base':=w.heap.size) HW.o.base);have Jc:=ap HW.o.ts;clear b2 s2 t2 o2 HR HW aK;generalize iJ:w.heap.size=R at *
   have hex:s.extract k t.end_=aa (l.take (t.end_-k)):=by rw[oD,HL.o]
   obtain⟨tx,qi⟩:∃tx,l.take (t.end_-k)=tx:=⟨_,rfl⟩;rw[qi] at hex gm;have Ij:=ap (fun W=>JW (aa tx) W (by rw[aO,←qi,List.length_take];omega));rw[aZ] at Ij;have oL:=RH tx;have JA:=ap oQ;clear qi
   go_wp2_with fail
   have cB:=ap (Tb.adM kZ.o t.end_);have br:=ap (ae.far bm.o (p:=⟨T,6,none⟩) zS.o (.int .i64 (t.end_:Int)));have sG:=ap (ownsRow_setCell_other cf.o (a:=⟨T,6,none⟩) HOt.o (.int .i64 (t.end_:Int)));have aw:=ap (ag.o.setCell (p:=⟨T,6,none⟩) Jc.o (.int .i64 (t.end_:Int)));clear kZ bm cf ag d1 c6 f6;generalize w2.setCell ⟨T,6,none⟩ (.int .i64 (t.end_:Int))=W3 at *
   refine (Ij.o _).mono ?_;rintro e w4 ⟨rfl,b4⟩;have iK:=ap (ae.go cB.o b4);have kV:=ap (ae.go br.o b4);have HO5:=ap (Ni sG.o b4);have bW:=ap (aw.o.trans (b4.mono (by have:=aw.o.size;omega)));clear b4 cB br sG aw Ij;have p0:=ae.cell kV.o 0;have p1:=ae.cell kV.o 1;have p2:=ae.cell kV.o 2;have p3:=ae.cell kV.o 3;have p4:=ae.cell kV.o 4;have p5:=ae.cell kV.o 5;have p6:=ae.cell kV.o 6;have r:=fun i=>ae.frozen kV.o i;have q0:=Tb.c0 iK.o;have q1:=Tb.c1 iK.o;have q2:=Tb.c2 iK.o;have q3:=Tb.c3 iK.o;have q4:=Tb.c4 iK.o;have q5:=Tb.c5 iK.o;have q6:=Tb.c6 iK.o;generalize bad tx=z at *
   cases hf:fine tx with
   | false=>
    rw[hf] at oL;have gu:=ap (show res=none by rw[gm.o,hf];rfl);clear hf gm;go_wp2;refine Ng rfl rfl rfl (Nr kV.o _ _ _ _ _ _ _) ?_;exact oo.WK iJ gu.o (JX bW.o (Nat.le_refl R) _ _ _ _ _ _ _) rfl
   | true=>
    rw[hf] at oL;have gu:=ap (show res=some t by rw[gm.o,hf];rfl);clear hf gm;go_wp2;refine Ng rfl rfl rfl (Nr kV.o _ _ _ _ _ _ _) ?_;subst iJ;exact oo.yes gu.o (JX bW.o (Nat.le_refl _) _ _ _ _ _ _ _) rfl (ajp HO5.o HOs.o _ _ _ _ _ _ _)
end
end Go.Proofs.YtpdkeckeekchlaaGreatDoor
