/- Tokens: a start. And more. -/
import Derived.Test.YtnbmfljhbpfilaaGreatDoorOw00
import Derived.Test.YtnbmfljhbpfilaaGreatDoorOw06
import Derived.Deep.DeepCutAuto
import Derived.Laws.RangeString
import Derived.Laws.RangeAny
set_option linter.unusedSimpArgs false
set_option maxRecDepth 20000
set_option maxHeartbeats 32000000
set_option linter.unusedVariables false
namespace Go.Proofs.YtnbmfljhbpfilaaGreatDoor
section
open Go.RowKit Tk

def zN(w:World)(base X T:Nat)(s:ByteArray)(k:Nat)(nm:L)(ra:Option (List At×Bool×Nat))(m:Nat)(a':Act)(wr:World):Prop :=
 ∃(g:Nat→Value) (f k':Nat) (Ls:List At) (A:Option Addr) (c:Nat),a'={ tmps:=List.toArray (.pointer (some ⟨X,0,none⟩) :: .pointer (some ⟨T,0,none⟩) :: g 2 :: g 3 :: g 4 :: g 5 :: g 6 :: g 7 :: g 8 :: g 9 :: g 10 :: g 11 :: g 12 :: g 13 :: g 14 :: g 15 :: g 16 :: g 17 :: g 18 :: g 19 :: g 20 :: g 21 :: g 22 :: g 23 :: g 24 :: g 25 :: g 26 :: g 27 :: g 28 :: g 29 :: g 30 :: g 31 :: g 32 :: g 33 :: g 34 :: g 35 :: g 36 :: g 37 :: g 38 :: g 39 :: g 40 :: g 41 :: g 42 :: g 43 :: g 44 :: g 45 :: g 46 :: g 47 :: g 48 :: g 49 :: g 50 :: g 51 :: g 52 :: g 53 :: g 54 :: g 55 :: g 56 :: g 57 :: g 58 :: g 59 :: g 60 :: g 61 :: g 62 :: g 63 :: g 64 :: g 65 :: g 66 :: g 67 :: g 68 :: g 69 :: g 70 :: g 71 :: g 72 :: g 73 :: g 74 :: g 75 :: g 76 :: []),defers:=[] }∧k'≤s.size∧k<k'∧Ls.length≤k'∧s.size-k'<f∧gQ w wr base X T s k k' (aa nm) Ls A c∧ra=glue Ls (attrs f k' (s.data.toList.drop k'))∧0<m
theorem zN.intro{w:World}{base X T:Nat}{s:ByteArray}{k:Nat}{nm:L}{ra:Option (List At×Bool×Nat)}{m:Nat}{a':Act}{wr:World}{f k':Nat}{Ls:List At}{A:Option Addr}{c:Nat} 
  (ha:a'={ tmps:=List.toArray (.pointer (some ⟨X,0,none⟩) :: .pointer (some ⟨T,0,none⟩) :: Array.getD a'.tmps 2 undef :: Array.getD a'.tmps 3 undef :: Array.getD a'.tmps 4 undef :: Array.getD a'.tmps 5 undef :: Array.getD a'.tmps 6 undef :: Array.getD a'.tmps 7 undef :: Array.getD a'.tmps 8 undef :: Array.getD a'.tmps 9 undef :: Array.getD a'.tmps 10 undef :: Array.getD a'.tmps 11 undef :: Array.getD a'.tmps 12 undef :: Array.getD a'.tmps 13 undef :: Array.getD a'.tmps 14 undef :: Array.getD a'.tmps 15 undef :: Array.getD a'.tmps 16 undef :: Array.getD a'.tmps 17 undef :: Array.getD a'.tmps 18 undef :: Array.getD a'.tmps 19 undef :: Array.getD a'.tmps 20 undef :: Array.getD a'.tmps 21 undef :: Array.getD a'.tmps 22 undef :: Array.getD a'.tmps 23 undef :: Array.getD a'.tmps 24 undef :: Array.getD a'.tmps 25 undef :: Array.getD a'.tmps 26 undef :: Array.getD a'.tmps 27 undef :: Array.getD a'.tmps 28 undef :: Array.getD a'.tmps 29 undef :: Array.getD a'.tmps 30 undef :: Array.getD a'.tmps 31 undef :: Array.getD a'.tmps 32 undef :: Array.getD a'.tmps 33 undef :: Array.getD a'.tmps 34 undef :: Array.getD a'.tmps 35 undef :: Array.getD a'.tmps 36 undef :: Array.getD a'.tmps 37 undef :: Array.getD a'.tmps 38 undef :: Array.getD a'.tmps 39 undef :: Array.getD a'.tmps 40 undef :: Array.getD a'.tmps 41 undef :: Array.getD a'.tmps 42 undef :: Array.getD a'.tmps 43 undef :: Array.getD a'.tmps 44 undef :: Array.getD a'.tmps 45 undef :: Array.getD a'.tmps 46 undef :: Array.getD a'.tmps 47 undef :: Array.getD a'.tmps 48 undef :: Array.getD a'.tmps 49 undef :: Array.getD a'.tmps 50 undef :: Array.getD a'.tmps 51 undef :: Array.getD a'.tmps 52 undef :: Array.getD a'.tmps 53 undef :: Array.getD a'.tmps 54 undef :: Array.getD a'.tmps 55 undef :: Array.getD a'.tmps 56 undef :: Array.getD a'.tmps 57 undef :: Array.getD a'.tmps 58 undef :: Array.getD a'.tmps 59 undef :: Array.getD a'.tmps 60 undef :: Array.getD a'.tmps 61 undef :: Array.getD a'.tmps 62 undef :: Array.getD a'.tmps 63 undef :: Array.getD a'.tmps 64 undef :: Array.getD a'.tmps 65 undef :: Array.getD a'.tmps 66 undef :: Array.getD a'.tmps 67 undef :: Array.getD a'.tmps 68 undef :: Array.getD a'.tmps 69 undef :: Array.getD a'.tmps 70 undef :: Array.getD a'.tmps 71 undef :: Array.getD a'.tmps 72 undef :: Array.getD a'.tmps 73 undef :: Array.getD a'.tmps 74 undef :: Array.getD a'.tmps 75 undef :: Array.getD a'.tmps 76 undef :: []),defers:=[] }) (h1:k'≤s.size) (h2:k<k') (h3:Ls.length≤k') (h4:s.size-k'<f) (h5:gQ w wr base X T s k k' (aa nm) Ls A c) (h6:ra=glue Ls (attrs f k' (s.data.toList.drop k'))) (h7:0<m):zN w base X T s k nm ra m a' wr :=
 ⟨fun i=>Array.getD a'.tmps i undef,f,k',Ls,A,c,ha,h1,h2,h3,h4,h5,h6,h7⟩

theorem aln(w:World)(base X T:Nat)(s:ByteArray)(k:Nat)(hX:Sc w X s k)(hT:T0 w T k)(hne:X≠T)(bN:6≤X)(gC:6≤T)(hg:Gl w)(hbase:base=w.heap.size)(ha:k<s.size)(hs:s.size≤1000000000) :
  Calls Tryz.prog 85 #[.pointer (some ⟨X,0,none⟩),.pointer (some ⟨T,0,none⟩)] w (dU w base X T s k (Tk.start k (s.data.toList.drop k))):=by
 obtain⟨D,hD⟩:∃D,s.data.toList=D:=⟨_,rfl⟩;have Af:D.length=s.size:=by rw[←hD,bL]
 have HN:=hide fun W j (hW:Sc W X s j) (hj:j≤s.size)=>V5 W X s j hW hj hs;have HB:=hide fun W j (hW:Sc W X s j) (hj:j≤s.size)=>xj W X s j hW hj hs
 have pN:=hide fun W j (hW:Sc W X s j) (hj:j≤s.size)=>(show Calls Tryz.prog 117 #[.pointer (some ⟨X,0,none⟩),.string ⟨#[47,62]⟩] W fun e w'=>e=.returned (.bool (([47,62]:L).isPrefixOf (D.drop j)))∧Sc w' X s (if ([47,62]:L).isPrefixOf (D.drop j)=true then j+2 else j)∧ag X W w' from by
  have h:=rh W X s ⟨#[47,62]⟩ j hW hj hs (by decide);rw[hD] at h;exact h)
 have Ph:=hide fun W j (hW:Sc W X s j) (hj:j≤s.size)=>(show Calls Tryz.prog 117 #[.pointer (some ⟨X,0,none⟩),.string ⟨#[62]⟩] W fun e w'=>e=.returned (.bool (([62]:L).isPrefixOf (D.drop j)))∧Sc w' X s (if ([62]:L).isPrefixOf (D.drop j)=true then j+1 else j)∧ag X W w' from by
  have h:=rh W X s ⟨#[62]⟩ j hW hj hs (by decide);rw[hD] at h;exact h)
 have HV:=hide fun W j (hW:Sc W X s j) (hb:aR X T w W) (hj:j≤s.size)=>YF W X s j hW bN (hg.Dw hb bN gC) hj hs;have HP:=hide fun (v:L) W=>(show Calls Tryz.prog 35 #[.string (aa v),.int .u8 60] W fun e w'=>e=.returned (.int .i64 (Lib.indexByte v 60))∧w'=W from Tryz.strings_IndexByte (aa v) 60 W);have HD:=hide hD;rw[hD] at HN HB HV ⊢;obtain⟨m,hm⟩:∃m,take (D.drop (k+1))=m:=⟨_,rfl⟩;have jG:k+1+m≤s.size:=by have:=F8 (D.drop (k+1));rw[List.length_drop,Af] at this;omega
 obtain⟨nm,cR⟩:∃nm,(D.drop (k+1)).take m=nm:=⟨_,rfl⟩;have hex:s.extract (k+1) (k+1+m)=aa nm:=by rw[mg,hD,show k+1+m-(k+1)=m by omega,cR]
 obtain⟨res,dC⟩:∃o,Tk.start k (D.drop k)=o:=⟨_,rfl⟩;obtain⟨ra,Ly⟩:∃o,attrs (s.size-k) (k+1+m) (D.drop (k+1+m))=o:=⟨_,rfl⟩;rw[dC]
 have hR:res=if m=0 then none else ra.map fun x=>⟨0,nm,x.1,x.2.1,[],k,x.2.2⟩:=by
  rw[←dC,←Ly];unfold Tk.start;rw[List.tail_drop,hm,cR,List.drop_drop,List.length_drop,Af,Nat.add_assoc k 1 m]
 have hE:((aa nm).toList==([]:L))=decide (m=0):=by
  rw[NA,←cR,Bool.eq_iff_iff,List.isEmpty_iff,decide_eq_true_eq]
  constructor
  ·intro h;have:=congrArg List.length h;rw[List.length_take,List.length_nil,List.length_drop,Af] at this;omega
  intro h;rw[h,List.take_zero]
 have HR:=hide hR;have HRA:=hide Ly;have kM:=hide hX;have dE:=hide hT;have OM:=hide hbase;have GU:=hide jG;have q1:=Sc.c1 hX;have f1:=Sc.f1 hX
 have Py:=hide (fun W (hW:Sc W X s (k+1))=>(show Calls Tryz.prog 115 #[.pointer (some ⟨X,0,none⟩)] W fun e w'=>e=.returned (.string (aa nm))∧Sc w' X s (k+1+m)∧ag X W w' from by
  have h:=HN.out W (k+1) hW (by omega);rw[hm,hex] at h;exact h))
 have cf:=hide Af;clear dC hR hX hT Ly hex jG cR hm hD Af hbase;have hw2:IntKind.i64.wrap ((k:Int)+1)=(k:Int)+1:=IntWalk.i64_in _ (by omega)
 go_enter Tryz.func85,Tryz.ntmps85
 go_wp2;refine anc 0 (zN w base X T s k nm ra m) (fun _ wr=>s.size-xe wr X) rfl (fun afQ=>?_) ?_
 ·go_wp2_with fail
  have S1:=hide (Sc.move kM.out (k+1));have T1:=hide (Tb.far (i:=1) dE.out (Ne.symm hne) (.int .i64 ((k+1:Nat):Int)));have B1:=hide ((aR.refl X T w).setCell (p:=⟨X,1,none⟩) (.inl rfl) (.int .i64 ((k+1:Nat):Int)));clear q1 f1 kM dE;refine (Py.out _ S1.out).mono ?_;rintro e w2 ⟨rfl,s2,b2⟩;have T2:=hide (T1.out.xg b2 (Ne.symm hne));have B2:=hide (B1.out.one b2);have S2:=hide s2;have f0:=Tb.f T2.out 1;have c0:=Tb.c1 T2.out;clear s2 b2 Py S1 T1 B1
  by_cases h0:m=0
  ·rw[decide_eq_true h0] at hE;have iq:=hide (show res=none by rw[HR.out,if_pos h0]);clear h0 HR;go_wp2;simp only[Exit.jump];go_ret;exact dU.no iq.out (B2.out.setCell (p:=⟨T,1,none⟩) (.inr (.inl rfl)) (.string (aa nm))) rfl GU.out (Sc.far (i:=1) S2.out hne (.string (aa nm))) ⟨_,_,_,_,_,_,_,Tb.Ms T2.out (aa nm)⟩
  rw[decide_eq_false h0] at hE;have H0:=hide (show 0<m by omega);clear h0 HR
  have HS:=hide (show gQ w (w2.setCell ⟨T,1,none⟩ (.string (aa nm))) base X T s k (k+1+m) (aa nm) [] none 0 from
   ⟨Sc.far (i:=1) S2.out hne (.string (aa nm)),Tb.Ms T2.out (aa nm),World.ownsRow_nil _ _ _ _,B2.out.setCell (p:=⟨T,1,none⟩) (.inr (.inl rfl)) (.string (aa nm))⟩)
  go_wp2
  go_step3
  rename_i hK
  refine hK _ _ (afQ _ _ ?_);refine zN.intro ?_ GU.out (by omega) (Nat.zero_le _) (f:=s.size-k) (by have:=H0.out;have:=GU.out;omega) HS.out (by rw[HD.out,HRA.out];simp[glue]) H0.out;rfl
 rintro a' wr ⟨g,f,k',Ls,A,c0,rfl,cn,cu,aH,hf,sK,KY,h0⟩;have iq:=hide (show res=ra.map fun x=>⟨0,nm,x.1,x.2.1,[],k,x.2.2⟩ by rw[HR.out,if_neg (by omega)]);have Hm0:=hide h0;clear HR h0;rw[HD.out] at KY;obtain⟨f,rfl⟩:∃f',f=f'+1:=⟨f-1,by omega⟩;obtain⟨d,hd⟩:∃d,D.drop k'=d:=⟨_,rfl⟩;obtain⟨m1,fA⟩:∃m,aL d=m:=⟨_,rfl⟩;have aQ:d.length=s.size-k':=by rw[←hd,List.length_drop,cf.out]
 have qO:k'+m1≤s.size:=by have:=BP d;omega
 obtain⟨d1,c7⟩:∃d1,d.drop m1=d1:=⟨_,rfl⟩;have hdd:D.drop (k'+m1)=d1:=by rw[←c7,←hd,List.drop_drop]
 have ay:=hide (HB.out wr k' sK.sc cn);rw[hd,fA] at ay;have kK:=hide fun W (hW:Sc W X s (k'+m1))=>pN.out W (k'+m1) hW qO;have mG:=hide fun W (hW:Sc W X s (k'+m1))=>Ph.out W (k'+m1) hW qO;rw[hdd] at kK mG;have HG:=hide (show ra=glue Ls (attrs (f+1) k' d) by rw[KY,hd]);have HQ:=hide sK;have qa:=hide sK.sc.xe;have Qm:=hide qO;have Hf:=hide hf;have r6:=hide cu;have Qj:=hide aH;clear HB pN Ph KY sK hf cu aH cn
 cases fB:([47,62]:L).isPrefixOf d1 with
 | true=>
  have fQ:=hide (show res=some ⟨0,nm,Ls,true,[],k,k'+m1+2⟩ by
   rw[iq.out,HG.out,abX (by rw[fA,c7];exact fB),SR,fA];rfl)
  have Hl:=hide (show k'+m1+2≤s.size by
   have:=yF fB;rw[←hdd,List.length_drop,cf.out] at this;have e:([47,62]:L).length=2:=rfl
   omega)
  rw[fB] at kK;clear mG HG fB hd fA c7 hdd qO HN HV HP
  go_wp2_with fail
  refine ay.out.mono ?_;rintro e w1 ⟨rfl,s1,b1⟩;have Q1:=hide (HQ.out.go hne b1 s1);clear s1 b1 HQ ay
  go_wp2_with fail
  refine (kK.out _ Q1.out.sc).mono ?_;rintro e w2 ⟨rfl,s2,b2⟩;replace s2:Sc w2 X s (k'+m1+2):=by simpa using s2
  have Q2:=hide (Q1.out.go hne b2 s2);have f3:=Tb.f Q2.out.tb 3;have c3:=Tb.c3 Q2.out.tb;clear s2 b2 Q1 kK;go_wp2;simp only[Exit.jump];go_ret;obtain⟨r1,r2,r3,r4⟩:=Q2.out.JG hne;exact dU.yes (t:=⟨0,nm,Ls,true,[],k,k'+m1+2⟩) fQ.out r4 rfl Hl.out (by have:=r6.out;dsimp only;omega) r1 ⟨A,c0,r2,r3⟩
 | false=>
  rw[fB] at kK
  cases ng:([62]:L).isPrefixOf d1 with
  | true=>
   have fQ:=hide (show res=some ⟨0,nm,Ls,false,[],k,k'+m1+1⟩ by
    rw[iq.out,HG.out,abW (by rw[fA,c7];exact fB) (by rw[fA,c7];exact ng),SR,fA];rfl)
   have Hl:=hide (show k'+m1+1≤s.size by
    have:=yF ng;rw[←hdd,List.length_drop,cf.out] at this;have e:([62]:L).length=1:=rfl
    omega)
   rw[ng] at mG;clear HG fB ng hd fA c7 hdd qO HN HV HP
   go_wp2_with fail
   refine ay.out.mono ?_;rintro e w1 ⟨rfl,s1,b1⟩;have Q1:=hide (HQ.out.go hne b1 s1);clear s1 b1 HQ ay
   go_wp2_with fail
   refine (kK.out _ Q1.out.sc).mono ?_;rintro e w2 ⟨rfl,s2,b2⟩;replace s2:Sc w2 X s (k'+m1):=by simpa using s2
   have Q2:=hide (Q1.out.go hne b2 s2);clear s2 b2 Q1 kK
   go_wp2_with fail
   refine (mG.out _ Q2.out.sc).mono ?_;rintro e w3 ⟨rfl,s3,b3⟩;replace s3:Sc w3 X s (k'+m1+1):=by simpa using s3
   have Q3:=hide (Q2.out.go hne b3 s3);clear s3 b3 Q2 mG;go_wp2;simp only[Exit.jump];go_ret;exact dU.yes (t:=⟨0,nm,Ls,false,[],k,k'+m1+1⟩) fQ.out Q3.out.but rfl Hl.out (by have:=r6.out;dsimp only;omega) Q3.out.sc ⟨A,c0,Q3.out.tb,Q3.out.own⟩
  | false=>
   rw[ng] at mG
   by_cases h0:m1=0
   ·have fQ:=hide (show res=none by
     rw[iq.out,HG.out,ab1 (by rw[fA,c7];exact fB) (by rw[fA,c7];exact ng) (by rw[fA];exact h0)];rfl)
    rw[decide_eq_false (show ¬0<m1 by omega)] at ay;clear HG fB ng hd fA c7 hdd qO HN HV HP h0
    go_wp2_with fail
    refine ay.out.mono ?_;rintro e w1 ⟨rfl,s1,b1⟩;have Q1:=hide (HQ.out.go hne b1 s1);clear s1 b1 HQ ay
    go_wp2_with fail
    refine (kK.out _ Q1.out.sc).mono ?_;rintro e w2 ⟨rfl,s2,b2⟩;replace s2:Sc w2 X s (k'+m1):=by simpa using s2
    have Q2:=hide (Q1.out.go hne b2 s2);clear s2 b2 Q1 kK
    go_wp2_with fail
    refine (mG.out _ Q2.out.sc).mono ?_;rintro e w3 ⟨rfl,s3,b3⟩;replace s3:Sc w3 X s (k'+m1):=by simpa using s3
    have Q3:=hide (Q2.out.go hne b3 s3);clear s3 b3 Q2 mG;go_wp2;simp only[Exit.jump];go_ret;exact dU.no fQ.out Q3.out.but rfl Qm.out Q3.out.sc Q3.out.some_
   rw[decide_eq_true (show 0<m1 by omega)] at ay;obtain⟨j,hj⟩:∃j,k'+m1=j:=⟨_,rfl⟩;obtain⟨m2,er⟩:∃m,take d1=m:=⟨_,rfl⟩;obtain⟨d2,bg⟩:∃d2,d1.drop m2=d2:=⟨_,rfl⟩;obtain⟨o,ho⟩:∃o,eqv d2=o:=⟨_,rfl⟩;obtain⟨na,gF⟩:∃na,d1.take m2=na:=⟨_,rfl⟩;have TY:d1.length=s.size-j:=by rw[←c7,List.length_drop,aQ];omega
   have vB:m2≤s.size-j:=by have:=F8 d1;omega
   rw[hj] at hdd qO kK mG Qm ay
   have HA:=hide (show attrs (f+1) k' d=if m2=0 then none else o.bind fun x=>if (60:UInt8)∈x.1 then none else (attrs f (j+m2+x.2) (d1.drop (m2+x.2))).map fun y=>(⟨na,x.1,j⟩ :: y.1,y.2) by
    rw[abZ (by rw[fA,c7];exact fB) (by rw[fA,c7];exact ng) (by rw[fA];exact h0),fA,c7,er,bg,ho,gF,hj])
   have uh:=hide fun W (hW:Sc W X s j)=>(show Calls Tryz.prog 115 #[.pointer (some ⟨X,0,none⟩)] W fun e w'=>e=.returned (.string (aa na))∧Sc w' X s (j+m2)∧ag X W w' from by
    have h:=HN.out W j hW qO;rw[hdd,er,mg,HD.out,hdd,show j+m2-j=m2 by omega,gF] at h;exact h)
   have TT:D.drop (j+m2)=d2:=by rw[←List.drop_drop,hdd,bg]
   have oV:=hide fun W (hW:Sc W X s (j+m2)) (hb:aR X T w W)=>(show Calls Tryz.prog 118 #[.pointer (some ⟨X,0,none⟩)] W (nN W X s (j+m2) o) from by
    have h:=HV.out W (j+m2) hW hb (by omega);rw[TT,ho] at h;exact h)
   have Ef:((aa na).toList==([]:L))=decide (m2=0):=by
    rw[NA,←gF,Bool.eq_iff_iff,List.isEmpty_iff,decide_eq_true_eq]
    constructor
    ·intro h;have:=congrArg List.length h;rw[List.length_take,List.length_nil,TY] at this;omega
    intro h;rw[h,List.take_zero]
   have Hj:=hide (show k'<j by omega);have C8:=hide (show j+m2≤s.size by omega);have hDj:=hide (show ∀n,D.drop (j+n)=d1.drop n from fun n=>by rw[←List.drop_drop,hdd]);clear fB ng hd fA c7 hdd qO HN HV h0 hj er bg ho gF TY vB TT aQ
   go_wp2_with fail
   refine ay.out.mono ?_;rintro e w1 ⟨rfl,s1,b1⟩;have Q1:=hide (HQ.out.go hne b1 s1);clear s1 b1 HQ ay
   go_wp2_with fail
   refine (kK.out _ Q1.out.sc).mono ?_;rintro e w2 ⟨rfl,s2,b2⟩;replace s2:Sc w2 X s j:=by simpa using s2
   have Q2:=hide (Q1.out.go hne b2 s2);clear s2 b2 Q1 kK
   go_wp2_with fail
   refine (mG.out _ Q2.out.sc).mono ?_;rintro e w3 ⟨rfl,s3,b3⟩;replace s3:Sc w3 X s j:=by simpa using s3
   have Q3:=hide (Q2.out.go hne b3 s3);have c1:=Sc.c1 Q3.out.sc;clear s3 b3 Q2 mG;have HY:=hide (show w3.heap.size≠X from fun e=>by have:=ae.lt Q3.out.sc;omega);have PX:=hide (show w3.heap.size≠T from fun e=>by have:=ae.lt Q3.out.tb;omega);have PW:=hide (show (Value.slice A Ls.length c0).ownBlock≠some w3.heap.size from fun e=>by have:=(aG Q3.out.own _ e).2.lt;omega);have PY:=hide Q3.out.but.size
   go_wp2_with fail
   refine (uh.out _ (Q3.out.alloc _).sc).mono ?_;rintro e w4 ⟨rfl,s4,b4⟩;have Q4:=hide ((Q3.out.alloc _).go hne b4 s4);have Y4:=hide (b4.blk (ae.new w3 147 #[.string ⟨#[]⟩,.string ⟨#[]⟩,.int .i64 (j:Int)]) HY.out);generalize w3.heap.size=Y at *
   have y0:=Y4.out.cell 0;have fy0:=Y4.out.frozen 0;clear s4 b4 c1 Q3 uh
   go_wp2_with fail
   have Q5:=hide (Q4.out.far (p:=⟨Y,0,none⟩) PY.out HY.out.symm PX.out.symm PW.out (.string (aa na)))
   have Y5:=hide (show ae (w4.setCell ⟨Y,0,none⟩ (.string (aa na))) Y 147 #[.string (aa na),.string ⟨#[]⟩,.int .i64 (j:Int)] from by
    have:=ae.aI Y4.out 0 (.string (aa na))
    simpa using this)
   clear y0 fy0 Q4 Y4;refine (oV.out _ Q5.out.sc Q5.out.but).mono ?_;rintro e w6 ⟨b6,h6⟩
   cases o with
   | none=>
    obtain⟨rfl,k6,l6a,l6,s6⟩:=h6
    have fQ:=hide (show res=none by
     rw[iq.out,HG.out,HA.out,Option.bind_none,ite_self];rfl)
    have Q6:=hide (Q5.out.go hne b6 s6);have Y6:=hide (b6.blk Y5.out HY.out);have y0:=Y6.out.cell 0;have L6:=hide l6;clear s6 b6 l6 l6a Q5 Y5 oV HA HG
    by_cases h0:m2=0
    ·rw[decide_eq_true h0] at Ef;clear h0;go_wp2;simp only[Exit.jump];go_ret;exact dU.no fQ.out Q6.out.but rfl L6.out Q6.out.sc Q6.out.some_
    rw[decide_eq_false h0] at Ef;clear h0;go_wp2;simp only[Exit.jump];go_ret;exact dU.no fQ.out Q6.out.but rfl L6.out Q6.out.sc Q6.out.some_
   | some x=>
    obtain⟨v,n2⟩:=x;obtain⟨rfl,l6,s6⟩:=h6;dsimp only at l6 s6;have Q6:=hide (Q5.out.go hne b6 s6);have Y6:=hide (b6.blk Y5.out HY.out);have y0:=Y6.out.cell 0;have L6:=hide l6;have CP:=hide (HP.out v);rw[Option.bind_some] at HA;have hz:=ag9 v;obtain⟨z,Bp⟩:∃z,Lib.indexByte v 60=z:=⟨_,rfl⟩;rw[Bp] at CP hz;clear s6 b6 l6 Q5 Y5 oV HP Bp
    by_cases h0:m2=0
    ·rw[decide_eq_true h0] at Ef
     have fQ:=hide (show res=none by
      rw[iq.out,HG.out,HA.out,if_pos h0];rfl)
     clear h0 HA HG hz;go_wp2;simp only[Exit.jump];go_ret;exact dU.no fQ.out Q6.out.but rfl L6.out Q6.out.sc Q6.out.some_
    rw[decide_eq_false h0] at Ef;have H0:=hide h0;clear h0
    by_cases hz0:0≤z
    ·have fQ:=hide (show res=none by
      rw[iq.out,HG.out,HA.out,if_neg H0.out,if_pos (hz.1 hz0)];rfl)
     have n7:decide (0≤z)=true:=decide_eq_true hz0;clear HA HG hz
     go_wp2_with fail
     refine (CP.out _).mono ?_;rintro e w7 ⟨rfl,rfl⟩;go_wp2;simp only[Exit.jump];go_ret;exact dU.no fQ.out Q6.out.but rfl L6.out Q6.out.sc Q6.out.some_
    have aag:=hide (show ra=glue (Ls++[⟨na,v,j⟩]) (attrs f (j+m2+n2) (D.drop (j+m2+n2))) by
     rw[HG.out,HA.out,if_neg H0.out,if_neg (fun h=>hz0 (hz.2 h)),aep,Nat.add_assoc j m2 n2,hDj.out])
    have n7:decide (0≤z)=false:=decide_eq_false hz0;have y1:=Y6.out.cell 1;have fy1:=Y6.out.frozen 1;clear HA HG hz
    go_wp2_with fail
    refine (CP.out _).mono ?_;rintro e w7 ⟨rfl,rfl⟩;go_wp2;have Q7:=hide (Q6.out.far (p:=⟨Y,1,none⟩) PY.out HY.out.symm PX.out.symm PW.out (.string (aa v)))
    have Y7:=hide (show ae (w7.setCell ⟨Y,1,none⟩ (.string (aa v))) Y 147 #[.string (aa na),.string (aa v),.int .i64 (j:Int)] from by
     have:=ae.aI Y6.out 1 (.string (aa v))
     simpa using this)
    clear y0 y1 fy1 Q6 Y6 CP;generalize w7.setCell ⟨Y,1,none⟩ (.string (aa v))=W7 at *
    have c2:=Tb.c2 Q7.out.tb;have f2:=Tb.f Q7.out.tb 2;have y0:=Y7.out.cell 0;have y1:=Y7.out.cell 1;have y2:=Y7.out.cell 2;have xa:∀o,(W7.alloc o).cell? ⟨T,2,none⟩=some (.slice A Ls.length c0):=fun o=>Tb.c2 (ae.alloc Q7.out.tb o);have ZX:=hide (cU Q7.out.own Q7.out.tb (by decide)).symm;have HL:=hide (show Ls.length≤1000000000 by have:=Qj.out;have:=Hj.out;have:=L6.out;omega);have Zw:=hide (show base≤W7.heap.size by have:=OM.out;have:=Q7.out.but.size;omega)
    go_region_law
     (show if Region.wanted (⟨some 74,_,_,_,_,_⟩:Oper) _=true then _ else _;refine F7 _ (by rfl) _ _ _ (by rfl) base 147 _ 3 40 Tryz.underlying80 agt (by rfl) (by omega) (.slice A Ls.length c0) Ls.length (jX Ls) (by rfl) (by first|exact Q7.out.own.alloc _|exact (Q7.out.own.alloc _).drew) [.string (aa na),.string (aa v),.int .i64 (j:Int)] rfl (abM ⟨na,v,j⟩) W7.heap.size (by first|exact ae.new W7 147 _|exact (ae.new W7 147 _).drew) (by rfl) (by unfold maxLen;have:=HL.out;omega) (by have:=HL.out;omega) (by have:=Zw.out;simp[World.drew];omega) ?_;intro gg cap w8 aM aF dc;have T8:=hide (show ae w8 T 82 #[.int .i8 0,.string (aa nm),.slice A Ls.length c0,.bool false,.string ⟨#[]⟩,.int .i64 (k:Int),.int .i64 ((0:Nat):Int)] from ae.grown (ae.drew (ae.alloc Q7.out.tb (.cells #[.string (aa na),.string (aa v),.int .i64 (j:Int)] 147))) aF ZX.out);have c2':w8.cell? ⟨T,2,none⟩=some (.slice A Ls.length c0):=T8.out.cell 2;have f2':=T8.out.frozen 2;have zy:=hide aF;have Iz:=hide aM;clear aM aF dc)
    all_goals go_wp2
    all_goals
     have Q8:=hide (Q7.out.app ⟨na,v,j⟩ OM.out hne zy.out Iz.out)
     go_step3
     refine agD ⟨?_,?_⟩
     ·refine zN.intro (by rfl) L6.out (by have:=r6.out;have:=Hj.out;omega) (by have:=Qj.out;have:=Hj.out;simp;omega) (f:=f) (by have:=Hf.out;have:=Hj.out;have:=L6.out;omega) Q8.out (by rw[HD.out];exact aag.out) (by have:=Hm0.out;omega)
     rw[Q8.out.sc.xe,qa.out];have:=Hj.out;have:=L6.out;omega
end
section
open Go.RowKit Tk

structure Sk(w W:World)(X T:Nat)(s:ByteArray)(k k':Nat)(kd:Int)(tx:L):Prop where
 sc:Sc W X s k'
 tb:Tb W T kd ⟨#[]⟩ (.slice none 0 0) false (aa tx) k 0
 but:aR X T w W
section
variable {w W W':World} {base X T:Nat} {s:ByteArray} {k k' j:Nat} {kd:Int} {tx:L} {o:Option Tok} {e:Ending}
theorem Sk.go(h:Sk w W X T s k k' kd tx)(hne:X≠T)(hb:ag X W W')(hs:Sc W' X s j):Sk w W' X T s k j kd tx:=⟨hs,h.tb.xg hb (Ne.symm hne),h.but.one hb⟩
theorem Sk.gl(h:Sk w W X T s k k' kd tx)(hg:Gl w)(bN:6≤X)(gC:6≤T):Gl W:=hg.Dw h.but bN gC
theorem Sk.yes(h:Sk w W X T s k k' kd tx)(ho:o=some ⟨kd,[],[],false,tx,k,k'⟩)(he:e=.returned (.bool true))(hl:k'≤s.size)(hk:k<k'):dU w base X T s k o e W :=
 dU.yes (t:=⟨kd,[],[],false,tx,k,k'⟩) ho h.but he hl hk h.sc ⟨none,0,h.tb,World.ownsRow_nil _ _ _ _⟩
theorem Sk.first(hX:Sc w X s k)(hT:T0 w T k)(hne:X≠T):Sk w (w.setCell ⟨T,0,none⟩ (.int .i8 4)) X T s k k 4 [] :=
 ⟨Sc.far hX hne _,Tb.Me hT 4,(aR.refl X T w).setCell (.inr (.inl rfl)) _⟩
theorem Sk.move(h:Sk w W X T s k k' kd tx)(hne:X≠T)(j:Nat):Sk w (W.setCell ⟨X,1,none⟩ (.int .i64 (j:Int))) X T s k j kd tx :=
 ⟨Sc.move h.sc j,Tb.far h.tb (Ne.symm hne) _,h.but.setCell (p:=⟨X,1,none⟩) (.inl rfl) _⟩
theorem Sk.Vu(h:Sk w W X T s k k' kd tx)(hne:X≠T)(hs:s.size≤1000000000)(q:L)(hq:q.length≤1000)(ha:k'≤s.size)(hp:q.isPrefixOf (s.data.toList.drop k')=true) :
  Calls Tryz.prog 117 #[.pointer (some ⟨X,0,none⟩),.string (aa q)] W fun e w'=>e=.returned (.bool true)∧Sk w w' X T s k (k'+q.length) kd tx∧k'+q.length≤s.size:=by
 refine (rh W X s (aa q) k' h.sc ha hs (by rw[aC];exact hq)).mono ?_;rintro e w' ⟨rfl,h1,h2⟩;rw[aP,hp,if_pos rfl,aC] at h1;rw[aP,hp];have h3:=yF hp;rw[List.length_drop,bL] at h3;exact⟨rfl,h.go hne h2 h1,by omega⟩
theorem Sk.Vt(h:Sk w W X T s k k' kd tx)(hne:X≠T)(hs:s.size≤1000000000)(q:L)(hq:q.length≤1000)(ha:k'≤s.size)(hp:q.isPrefixOf (s.data.toList.drop k')=false) :
  Calls Tryz.prog 117 #[.pointer (some ⟨X,0,none⟩),.string (aa q)] W fun e w'=>e=.returned (.bool false)∧Sk w w' X T s k k' kd tx:=by
 refine (rh W X s (aa q) k' h.sc ha hs (by rw[aC];exact hq)).mono ?_;rintro e w' ⟨rfl,h1,h2⟩;rw[aP,hp,if_neg (by simp)] at h1;rw[aP,hp];exact⟨rfl,h.go hne h2 h1⟩
theorem Sk.Gb(h:Sk w W X T s k k' kd tx)(hne:X≠T)(hg:Gl w)(bN:6≤X)(gC:6≤T)(hs:s.size≤1000000000)(q:L)(hq:q.length≤1000)(ha:k'≤s.size){n:Nat}(hn:till q (s.data.toList.drop k')=some n) :
  Calls Tryz.prog 119 #[.pointer (some ⟨X,0,none⟩),.string (aa q)] W fun e w'=>e=.returned (.tuple #[.string (aa ((s.data.toList.drop k').take n)),.bool true])∧Sk w w' X T s k (k'+n+q.length) kd tx∧k'+n+q.length≤s.size:=by
 refine (Go.Proofs.YtnbmfljhbpfilaaGreatDoor.Gb W X s (aa q) k' n hn h.sc bN (h.gl hg bN gC) ha hs (by rw[aC];exact hq)).mono ?_;rintro e w' ⟨rfl,h1,h2⟩;rw[aC] at h1;rw[mg,show k'+n-k'=n by omega];have h3:=(Cr hn).2;rw[List.length_drop,bL] at h3;exact⟨rfl,h.go hne h2 h1,by omega⟩
end
end
section
open Tk
def FR(l:L):Bool:=!(([60,33]:L).isPrefixOf l||([60,63]:L).isPrefixOf l)
def NG(ts:List Tok):Nat:=(ts.getLast?.map (·.end_)).getD 0
def yP(s:L)(ts:List Tok)(n:Nat)(ok:Bool):Prop:=eY s.length 0 s=ts∧NG ts=n∧ok=decide (n=s.length)
def qu(D:L)(p:Nat)(ts:List Tok):Prop:=ts.length≤p∧NG ts=p∧∃f,ts.length+f=D.length∧eY D.length 0 D=ts++eY f p (D.drop p)
def rL:L:=[60,63,120,109,108,32,118,101,114,115,105,111,110,61,34,49,46,48,34,63,62]
def yN:L:=[60,33,45,45,32,121,32,45,45,62]
def Pl(p:Nat)(l:L):Prop:=FR l=true∨(p=0∧∃r,l=rL++r)∨∃r,l=yN++r
structure sk(D:L):Prop where
 val:Utf.valid D=true
 at_:∀p ts,qu D p ts→p<D.length→Pl p (D.drop p)∧∀t,Tk.one p (D.drop p)=some t→p<t.end_∧t.end_≤D.length
theorem qu.zero(D:L):qu D 0 []:=⟨Nat.le_refl _,rfl,D.length,by simp,rfl⟩
theorem akb{D:L}{p:Nat}{ts:List Tok}{t:Tok}(h:qu D p ts)(hp:p<D.length)(ho:Tk.one p (D.drop p)=some t)(h1:p<t.end_):qu D t.end_ (ts++[t]):=by
 obtain⟨hl,-,f,hf,he⟩:=h
 match f,hf with
 | 0,hf=>omega
 | f+1,hf=>
  have e0:(D.drop p).isEmpty=false:=by
   rw[Bool.eq_false_iff];intro e;have:=congrArg List.length (List.isEmpty_iff.1 e);rw[List.length_drop] at this;simp at this;omega
  refine⟨by rw[List.length_append];simp;omega,by simp[NG],f,by rw[List.length_append];simp;omega,?_⟩;rw[he,eY,e0,if_neg (by simp),ho];dsimp only;rw[List.drop_drop,Nat.add_sub_cancel' (Nat.le_of_lt h1),List.append_assoc];rfl
theorem Xu{D:L}{p:Nat}{ts:List Tok}(h:qu D p ts)(ho:p=D.length∨Tk.one p (D.drop p)=none):yP D ts p (decide (p=D.length)):=by
 obtain⟨-,ht,f,-,he⟩:=h;refine⟨?_,ht,rfl⟩
 have:eY f p (D.drop p)=[]:=by
  cases f with
  | zero=>rfl
  | succ f=>
   rw[eY];split
   ·rfl
   rename_i hn
   rcases ho with ho|ho
   ·rw[ho,List.drop_length] at hn;exact absurd rfl hn
   rw[ho]
 rw[he,this,List.append_nil]
end
section
open Go.RowKit Tk

theorem Rf(w:World)(X:Nat)(s:ByteArray)(k:Nat)(hX:Sc w X s k)(ha:k≤s.size)(hs:s.size≤1000000000)(h0:aL (s.data.toList.drop k)=0) :
  Calls Tryz.prog 116 #[.pointer (some ⟨X,0,none⟩)] w fun e w'=>e=.returned (.bool false)∧Sc w' X s k∧ag X w w':=by
 refine (xj w X s k hX ha hs).mono ?_;rintro e w' ⟨rfl,h1,h2⟩;rw[h0] at h1 ⊢;exact⟨rfl,h1,h2⟩
theorem aiz(w:World)(X:Nat)(s:ByteArray)(k:Nat)(hX:Sc w X s k)(ha:k≤s.size)(hs:s.size≤1000000000)(h0:aL (s.data.toList.drop k)=0)(n:ByteArray)(f:Nat) :
  Calls Tryz.prog 152 #[.pointer (some ⟨X,0,none⟩),.string n,.func (.func f) #[] #[]] w fun e w'=>e=.returned (.tuple #[.bool false,.bool true])∧Sc w' X s k∧ag X w w':=by
 have HB:=hide (Rf w X s k hX ha hs h0);have q1:=Sc.c1 hX;clear h0 hX ha hs
 go_enter Tryz.func152,Tryz.ntmps152
 go_wp2_with fail
 clear q1;refine HB.out.mono ?_;rintro e w1 ⟨rfl,h1,b1⟩;have B1:=hide b1;have S1:=hide h1;have f1:=Sc.f1 h1;have q1:=Sc.c1 h1;clear b1 h1;go_wp2;go_ret2;exact⟨rfl,Sc.move S1.out k,B1.out.setCell (.inl rfl) _⟩
theorem aiC(w:World)(X:Nat)(s:ByteArray)(k:Nat)(r:L)(hX:Sc w X s k)(bN:6≤X)(hg:Gl w)(ha:k+14≤s.size)(hs:s.size≤1000000000)(hd:s.data.toList.drop k=[32,118,101,114,115,105,111,110,61,34,49,46,48,34]++r) :
  Calls Tryz.prog 152 #[.pointer (some ⟨X,0,none⟩),.string ⟨#[118,101,114,115,105,111,110]⟩,.func (.func 153) #[] #[]] w fun e w'=>e=.returned (.tuple #[.bool true,.bool true])∧Sc w' X s (k+14)∧ag X w w':=by
 have HB:=hide (show Calls Tryz.prog 116 #[.pointer (some ⟨X,0,none⟩)] w fun e w'=>e=.returned (.bool true)∧Sc w' X s (k+1)∧ag X w w' from by
  have:=xj w X s k hX (by omega) hs;rwa[hd,show aL ([32,118,101,114,115,105,111,110,61,34,49,46,48,34]++r)=1 from rfl] at this)
 have HI:=hide fun W (hW:Sc W X s (k+1))=>(show Calls Tryz.prog 117 #[.pointer (some ⟨X,0,none⟩),.string ⟨#[118,101,114,115,105,111,110]⟩] W fun e w'=>e=.returned (.bool true)∧Sc w' X s (k+8)∧ag X W w' from by
  have:=rh W X s ⟨#[118,101,114,115,105,111,110]⟩ (k+1) hW (by omega) hs (by decide);rw[mf,hd] at this;exact this)
 have HV:=hide fun W (hW:Sc W X s (k+8)) (hb:ag X w W)=>(show Calls Tryz.prog 118 #[.pointer (some ⟨X,0,none⟩)] W (nN W X s (k+8) (some ([49,46,48],6))) from by
  have:=YF W X s (k+8) hW bN (hg.but hb bN) (by omega) hs;rw[mf,hd] at this;exact this)
 have HM:=hide fun W=>(show Calls Tryz.prog 153 #[.string (aa [49,46,48])] W fun e w'=>e=.returned (.bool true)∧Below W.heap.size W w' from amJ (aa [49,46,48]) W (by decide));clear hd hg bN;have q1:=Sc.c1 hX
 go_enter Tryz.func152,Tryz.ntmps152
 go_wp2_with fail
 clear q1;refine HB.out.mono ?_;rintro e w1 ⟨rfl,h1,b1⟩;have B1:=hide b1;have S1:=hide h1;clear b1 h1
 go_wp2_with fail
 refine (HI.out _ S1.out).mono ?_;rintro e w2 ⟨rfl,h2,b2⟩;have B2:=hide (B1.out.trans b2);have S2:=hide h2;clear b2 h2
 go_wp2_with fail
 refine (HV.out _ S2.out B2.out).mono ?_;rintro e w3 ⟨b3,rfl,-,h3⟩;have B3:=hide (B2.out.trans b3);have S3:=hide h3;clear b3 h3 HV HI HB
 go_wp2_with fail
 refine (HM.out _).mono ?_;rintro e w4 ⟨rfl,b4⟩;have B4:=hide (B3.out.go b4);have S4:=hide (ae.go S3.out b4);clear b4;go_wp2;go_ret2;exact⟨rfl,S4.out,B4.out⟩
theorem acX(w:World)(X:Nat)(s:ByteArray)(r:L)(hX:Sc w X s 5)(bN:6≤X)(hg:Gl w)(ha:21≤s.size)(hs:s.size≤1000000000)(hd:s.data.toList.drop 5=[32,118,101,114,115,105,111,110,61,34,49,46,48,34]++63 :: 62 :: r) :
  Calls Tryz.prog 121 #[.pointer (some ⟨X,0,none⟩)] w fun e w'=>e=.returned (.bool true)∧Sc w' X s 21∧ag X w w':=by
 have HV:=hide (aiC w X s 5 _ hX bN hg (by omega) hs hd);have hn:s.data.toList.drop 19=63 :: 62 :: r:=by rw[show 19=5+14 from rfl,mf,hd];rfl
 have HN:=hide fun W (hW:Sc W X s 19)=>aiz W X s 19 hW (by omega) hs (by rw[hn];rfl);have HB:=hide fun W (hW:Sc W X s 19)=>Rf W X s 19 hW (by omega) hs (by rw[hn];rfl)
 have HI:=hide fun W (hW:Sc W X s 19)=>(show Calls Tryz.prog 117 #[.pointer (some ⟨X,0,none⟩),.string ⟨#[63,62]⟩] W fun e w'=>e=.returned (.bool true)∧Sc w' X s 21∧ag X W w' from by
  have:=rh W X s ⟨#[63,62]⟩ 19 hW (by omega) hs (by decide);rw[hn] at this;exact this)
 clear hd hg bN hn
 go_enter Tryz.func121,Tryz.ntmps121
 go_wp2_with fail
 refine HV.out.mono ?_;rintro e w1 ⟨rfl,s1,b1⟩;have S1:=hide s1;have B1:=hide b1;clear s1 b1
 go_wp2_with fail
 refine (HN.out _ S1.out _ _).mono ?_;rintro e w2 ⟨rfl,s2,b2⟩;have S2:=hide s2;have B2:=hide (B1.out.trans b2);clear s2 b2
 go_wp2_with fail
 refine (HN.out _ S2.out _ _).mono ?_;rintro e w3 ⟨rfl,s3,b3⟩;have S3:=hide s3;have B3:=hide (B2.out.trans b3);clear s3 b3
 go_wp2_with fail
 refine (HB.out _ S3.out).mono ?_;rintro e w4 ⟨rfl,s4,b4⟩;have S4:=hide s4;have B4:=hide (B3.out.trans b4);clear s4 b4
 go_wp2_with fail
 refine (HI.out _ S4.out).mono ?_;rintro e w5 ⟨rfl,s5,b5⟩;have S5:=hide s5;have B5:=hide (B4.out.trans b5);clear s5 b5;go_wp2;go_ret;exact⟨rfl,S5.out,B5.out⟩
theorem akJ(w:World)(base X T:Nat)(s:ByteArray)(k:Nat)(hX:Sc w X s k)(hT:T0 w T k)(hne:X≠T)(bN:6≤X)(gC:6≤T)(hg:Gl w)(hk:k≤s.size)(hs:s.size≤1000000000)(hp:(k=0∧∃r,s.data.toList.drop k=rL++r)∨∃r,s.data.toList.drop k=yN++r) :
  Calls Tryz.prog 87 #[.pointer (some ⟨X,0,none⟩),.pointer (some ⟨T,0,none⟩)] w (dU w base X T s k (Tk.skip k (s.data.toList.drop k))):=by
 have HQ:=hide (Sk.first hX hT hne);have f0:=Tb.f hT 0;have c0:=Tb.c0 hT;have HG:=hide hg;have hlen:(s.data.toList.drop k).length=s.size-k:=by rw[List.length_drop,bL]
 rcases hp with ⟨rfl,r,hr⟩|⟨r,hr⟩
 ·have HR:=hide (show Tk.skip 0 (s.data.toList.drop 0)=some ⟨4,[],[],false,[],0,21⟩ by rw[hr];kernel_rfl);rw[hr,List.length_append,show rL.length=21 from rfl] at hlen;have hd:s.data.toList.drop 5=[32,118,101,114,115,105,111,110,61,34,49,46,48,34]++63 :: 62 :: r:=by rw[show 5=0+5 from rfl,mf,hr];rfl
  have he5:((s.extract 0 5).toList==([60,63,120,109,108]:L))=true:=by
   rw[mg,X8,aP,hr];rfl
  have hle:5≤s.size:=by omega
  have hd5:decide ((5:Int)<(s.size:Int))=true:=decide_eq_true (by omega);have J4:s.data.toList[5]?=some 32:=by rw[←List.head?_drop,hd];rfl
  have aoe:=rb s 5 32 J4;have h5:5<s.size:=by omega
  have hs5:s[5]'h5=32:=(List.getElem?_eq_some_iff.1 J4).2;have ju:=hide (fun W=>(show Calls Tryz.prog 120 #[.int .u8 ((s[5]'h5).toNat:Nat)] W fun e w'=>e=.returned (.bool true)∧w'=W from by rw[hs5];exact Nn 32 W));have ZC:=hide fun W (hW:Sc W X s 5) (h6:Gl W)=>acX W X s r hW bN h6 (by omega) hs hd;have H1:=hide fun W (h:Sk w W X T s 0 0 4 [])=>(h.Vt hne hs [60,33,45,45] (by decide) hk (by rw[hr];rfl));have H2:=hide fun W (h:Sk w W X T s 0 0 4 [])=>(h.Vt hne hs [60,33,91,67,68,65,84,65,91] (by decide) hk (by rw[hr];rfl));rw[HR.out];have L21:=hide (show 21≤s.size by omega);clear hX hT hg hr hlen hd J4 hs5 HR
  go_enter Tryz.func87,Tryz.ntmps87
  go_wp2_with fail
  refine (H1.out _ HQ.out).mono ?_;rintro e w1 ⟨rfl,h1⟩;have Q1:=hide h1;clear h1 f0 c0
  go_wp2_with fail
  refine (H2.out _ Q1.out).mono ?_;rintro e w2 ⟨rfl,h2⟩;have Q2:=hide h2;clear h2;have q0:=Sc.c0 Q2.out.sc;have q1:=Sc.c1 Q2.out.sc;have f1:=Sc.f1 Q2.out.sc
  go_wp2_with fail
  refine cq (ju.out _) ?_
  go_wp2_with fail
  have Q3:=hide (Q2.out.move hne 5);refine (ZC.out _ Q3.out.sc (Q3.out.gl HG.out bN gC)).mono ?_;rintro e w4 ⟨rfl,s4,b4⟩;have Q4:=hide (Q3.out.go hne b4 s4);clear b4 s4;go_wp2;go_ret;exact Q4.out.yes rfl rfl L21.out (by decide)
 have HR:=hide (show Tk.skip k (s.data.toList.drop k)=some ⟨4,[],[],false,[],k,k+4+3+2+1⟩ by rw[hr];kernel_rfl);rw[hr,List.length_append,show yN.length=10 from rfl] at hlen;have h4:s.data.toList.drop (k+4)=[32,121,32,45,45,62]++r:=by rw[mf,hr];rfl
 have h9:s.data.toList.drop (k+4+3+2)=62 :: r:=by rw[show k+4+3+2=k+9 from rfl,mf,hr];rfl
 have H1:=hide fun W (h:Sk w W X T s k k 4 [])=>(h.Vu hne hs [60,33,45,45] (by decide) hk (by rw[hr];rfl));have H2:=hide fun W (h:Sk w W X T s k (k+4) 4 [])=>(h.Gb hne HG.out bN gC hs [45,45] (by decide) (by omega) (n:=3) (by rw[h4];kernel_rfl));have H3:=hide fun W (h:Sk w W X T s k (k+4+3+2) 4 [])=>(h.Vu hne hs [62] (by decide) (by omega) (by rw[h9];rfl));rw[HR.out];clear hX hT hg hr hlen h4 h9 HR
 go_enter Tryz.func87,Tryz.ntmps87
 go_wp2_with fail
 refine (H1.out _ HQ.out).mono ?_;rintro e w1 ⟨rfl,h1,-⟩;have Q1:=hide h1;clear h1 f0 c0
 go_wp2_with fail
 refine (H2.out _ Q1.out).mono ?_;rintro e w2 ⟨rfl,h2,-⟩;have Q2:=hide h2;clear h2
 go_wp2_with fail
 refine (H3.out _ Q2.out).mono ?_;rintro e w3 ⟨rfl,h3,l3⟩;have Q3:=hide h3;have L3:=hide l3;clear h3 l3;go_wp2;go_ret;exact Q3.out.yes rfl rfl L3.out (by omega)
end
end Go.Proofs.YtnbmfljhbpfilaaGreatDoor
