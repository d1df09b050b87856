/- Tokens: a start. And more. -/
import Derived.Test.YtifiiojchlaghaaGreatDoorOk00
import Derived.Test.YtifiiojchlaghaaGreatDoorOk04
import Derived.Test.YtifiiojchlaghaaGreatDoorOk05
import Derived.Deep.DeepCutAuto
import Derived.Laws.RangeString
import Derived.Laws.RangeAny
import Derived.Deep.Onto
import Derived.Laws.EntriesVeiled
set_option linter.unusedSimpArgs false
set_option maxRecDepth 20000
set_option maxHeartbeats 32000000
set_option linter.unusedVariables false
namespace Go.Proofs.YtifiiojchlaghaaGreatDoor
section
open Go.RowKit Tk

def StJ(w:World)(base X T:Nat)(s:ByteArray)(k:Nat)(nm:L)(ra:Option (List At×Bool×Nat))(m:Nat)(a':Act)(wr:World):Prop :=
 ∃(g:Nat→Value) (f k':Nat) (Ls:List At) (A:Option Addr) (c:Nat),a'={ tmps:=List.toArray (.pointer (some ⟨X,0,none⟩) :: .pointer (some ⟨T,0,none⟩) :: g 2 :: g 3 :: g 4 :: g 5 :: g 6 :: g 7 :: g 8 :: g 9 :: g 10 :: g 11 :: g 12 :: g 13 :: g 14 :: g 15 :: g 16 :: g 17 :: g 18 :: g 19 :: g 20 :: g 21 :: g 22 :: g 23 :: g 24 :: g 25 :: g 26 :: g 27 :: g 28 :: g 29 :: g 30 :: g 31 :: g 32 :: g 33 :: g 34 :: g 35 :: g 36 :: g 37 :: g 38 :: g 39 :: g 40 :: g 41 :: g 42 :: g 43 :: g 44 :: g 45 :: g 46 :: g 47 :: g 48 :: g 49 :: g 50 :: g 51 :: g 52 :: g 53 :: g 54 :: g 55 :: g 56 :: g 57 :: g 58 :: g 59 :: g 60 :: g 61 :: g 62 :: g 63 :: g 64 :: g 65 :: g 66 :: g 67 :: g 68 :: g 69 :: g 70 :: g 71 :: g 72 :: g 73 :: g 74 :: g 75 :: g 76 :: []),defers:=[] }∧k'≤s.size∧k<k'∧Ls.length≤k'∧s.size-k'<f∧St1 w wr base X T s k k' (bstr nm) Ls A c∧ra=glue Ls (attrs f k' (s.data.toList.drop k'))∧0<m
theorem StJ.intro{w:World}{base X T:Nat}{s:ByteArray}{k:Nat}{nm:L}{ra:Option (List At×Bool×Nat)}{m:Nat}{a':Act}{wr:World}{f k':Nat}{Ls:List At}{A:Option Addr}{c:Nat} 
  (ha:a'={ tmps:=List.toArray (.pointer (some ⟨X,0,none⟩) :: .pointer (some ⟨T,0,none⟩) :: Array.getD a'.tmps 2 undef :: Array.getD a'.tmps 3 undef :: Array.getD a'.tmps 4 undef :: Array.getD a'.tmps 5 undef :: Array.getD a'.tmps 6 undef :: Array.getD a'.tmps 7 undef :: Array.getD a'.tmps 8 undef :: Array.getD a'.tmps 9 undef :: Array.getD a'.tmps 10 undef :: Array.getD a'.tmps 11 undef :: Array.getD a'.tmps 12 undef :: Array.getD a'.tmps 13 undef :: Array.getD a'.tmps 14 undef :: Array.getD a'.tmps 15 undef :: Array.getD a'.tmps 16 undef :: Array.getD a'.tmps 17 undef :: Array.getD a'.tmps 18 undef :: Array.getD a'.tmps 19 undef :: Array.getD a'.tmps 20 undef :: Array.getD a'.tmps 21 undef :: Array.getD a'.tmps 22 undef :: Array.getD a'.tmps 23 undef :: Array.getD a'.tmps 24 undef :: Array.getD a'.tmps 25 undef :: Array.getD a'.tmps 26 undef :: Array.getD a'.tmps 27 undef :: Array.getD a'.tmps 28 undef :: Array.getD a'.tmps 29 undef :: Array.getD a'.tmps 30 undef :: Array.getD a'.tmps 31 undef :: Array.getD a'.tmps 32 undef :: Array.getD a'.tmps 33 undef :: Array.getD a'.tmps 34 undef :: Array.getD a'.tmps 35 undef :: Array.getD a'.tmps 36 undef :: Array.getD a'.tmps 37 undef :: Array.getD a'.tmps 38 undef :: Array.getD a'.tmps 39 undef :: Array.getD a'.tmps 40 undef :: Array.getD a'.tmps 41 undef :: Array.getD a'.tmps 42 undef :: Array.getD a'.tmps 43 undef :: Array.getD a'.tmps 44 undef :: Array.getD a'.tmps 45 undef :: Array.getD a'.tmps 46 undef :: Array.getD a'.tmps 47 undef :: Array.getD a'.tmps 48 undef :: Array.getD a'.tmps 49 undef :: Array.getD a'.tmps 50 undef :: Array.getD a'.tmps 51 undef :: Array.getD a'.tmps 52 undef :: Array.getD a'.tmps 53 undef :: Array.getD a'.tmps 54 undef :: Array.getD a'.tmps 55 undef :: Array.getD a'.tmps 56 undef :: Array.getD a'.tmps 57 undef :: Array.getD a'.tmps 58 undef :: Array.getD a'.tmps 59 undef :: Array.getD a'.tmps 60 undef :: Array.getD a'.tmps 61 undef :: Array.getD a'.tmps 62 undef :: Array.getD a'.tmps 63 undef :: Array.getD a'.tmps 64 undef :: Array.getD a'.tmps 65 undef :: Array.getD a'.tmps 66 undef :: Array.getD a'.tmps 67 undef :: Array.getD a'.tmps 68 undef :: Array.getD a'.tmps 69 undef :: Array.getD a'.tmps 70 undef :: Array.getD a'.tmps 71 undef :: Array.getD a'.tmps 72 undef :: Array.getD a'.tmps 73 undef :: Array.getD a'.tmps 74 undef :: Array.getD a'.tmps 75 undef :: Array.getD a'.tmps 76 undef :: []),defers:=[] }) (h1:k'≤s.size) (h2:k<k') (h3:Ls.length≤k') (h4:s.size-k'<f) (h5:St1 w wr base X T s k k' (bstr nm) Ls A c) (h6:ra=glue Ls (attrs f k' (s.data.toList.drop k'))) (h7:0<m):StJ w base X T s k nm ra m a' wr :=
 ⟨fun i=>Array.getD a'.tmps i undef,f,k',Ls,A,c,ha,h1,h2,h3,h4,h5,h6,h7⟩

theorem start_any(w:World)(base X T:Nat)(s:ByteArray)(k:Nat)(hX:Sc w X s k)(hT:T0 w T k)(hne:X≠T)(hX6:6≤X)(hT6:6≤T)(hg:Gl w)(hbase:base=w.heap.size)(ha:k<s.size)(hs:s.size≤1000000000) :
  Calls Tryz.prog 83 #[.pointer (some ⟨X,0,none⟩),.pointer (some ⟨T,0,none⟩)] w (PieceR w base X T s k (Tk.start k (s.data.toList.drop k))):=by
 obtain⟨D,hD⟩:∃D,s.data.toList=D:=⟨_,rfl⟩;have hDl:D.length=s.size:=by rw[←hD,size_list]
 have HN:=hide fun W j (hW:Sc W X s j) (hj:j≤s.size)=>name_any W X s j hW hj hs;have HB:=hide fun W j (hW:Sc W X s j) (hj:j≤s.size)=>blanks_any W X s j hW hj hs
 have HI2:=hide fun W j (hW:Sc W X s j) (hj:j≤s.size)=>(show Calls Tryz.prog 119 #[.pointer (some ⟨X,0,none⟩),.string ⟨#[47,62]⟩] W fun e w'=>e=.returned (.bool (([47,62]:L).isPrefixOf (D.drop j)))∧Sc w' X s (if ([47,62]:L).isPrefixOf (D.drop j)=true then j+2 else j)∧But X W w' from by
  have h:=isp_any W X s ⟨#[47,62]⟩ j hW hj hs (by decide);rw[hD] at h;exact h)
 have HI1:=hide fun W j (hW:Sc W X s j) (hj:j≤s.size)=>(show Calls Tryz.prog 119 #[.pointer (some ⟨X,0,none⟩),.string ⟨#[62]⟩] W fun e w'=>e=.returned (.bool (([62]:L).isPrefixOf (D.drop j)))∧Sc w' X s (if ([62]:L).isPrefixOf (D.drop j)=true then j+1 else j)∧But X W w' from by
  have h:=isp_any W X s ⟨#[62]⟩ j hW hj hs (by decide);rw[hD] at h;exact h)
 have HV:=hide fun W j (hW:Sc W X s j) (hb:But2 X T w W) (hj:j≤s.size)=>value_any W X s j hW hX6 (hg.but2 hb hX6 hT6) hj hs;have HP:=hide fun (v:L) W=>(show Calls Tryz.prog 39 #[.string (bstr v),.int .u8 60] W fun e w'=>e=.returned (.int .i64 (Lib.indexByte v 60))∧w'=W from Tryz.strings_IndexByte (bstr v) 60 W);have HD:=hide hD;rw[hD] at HN HB HV ⊢;obtain⟨m,hm⟩:∃m,take (D.drop (k+1))=m:=⟨_,rfl⟩;have hml:k+1+m≤s.size:=by have:=take_le (D.drop (k+1));rw[List.length_drop,hDl] at this;omega
 obtain⟨nm,hnm⟩:∃nm,(D.drop (k+1)).take m=nm:=⟨_,rfl⟩;have hex:s.extract (k+1) (k+1+m)=bstr nm:=by rw[extract_bstr,hD,show k+1+m-(k+1)=m by omega,hnm]
 obtain⟨res,hres⟩:∃o,Tk.start k (D.drop k)=o:=⟨_,rfl⟩;obtain⟨ra,hra⟩:∃o,attrs (s.size-k) (k+1+m) (D.drop (k+1+m))=o:=⟨_,rfl⟩;rw[hres]
 have hR:res=if m=0 then none else ra.map fun x=>⟨0,nm,x.1,x.2.1,[],k,x.2.2⟩:=by
  rw[←hres,←hra];unfold Tk.start;rw[List.tail_drop,hm,hnm,List.drop_drop,List.length_drop,hDl,Nat.add_assoc k 1 m]
 have hE:((bstr nm).toList==([]:L))=decide (m=0):=by
  rw[str_emp',←hnm,Bool.eq_iff_iff,List.isEmpty_iff,decide_eq_true_eq]
  constructor
  ·intro h;have:=congrArg List.length h;rw[List.length_take,List.length_nil,List.length_drop,hDl] at this;omega
  intro h;rw[h,List.take_zero]
 have HR:=hide hR;have HRA:=hide hra;have HS0:=hide hX;have HT0:=hide hT;have HBS:=hide hbase;have HML:=hide hml;have q1:=Sc.c1 hX;have f1:=Sc.f1 hX
 have HN0:=hide (fun W (hW:Sc W X s (k+1))=>(show Calls Tryz.prog 117 #[.pointer (some ⟨X,0,none⟩)] W fun e w'=>e=.returned (.string (bstr nm))∧Sc w' X s (k+1+m)∧But X W w' from by
  have h:=HN.out W (k+1) hW (by omega);rw[hm,hex] at h;exact h))
 have HDl:=hide hDl;clear hres hR hX hT hra hex hml hnm hm hD hDl hbase;have hw2:IntKind.i64.wrap ((k:Int)+1)=(k:Int)+1:=IntWalk.i64_in _ (by omega)
 go_enter Tryz.func83,Tryz.ntmps83
 go_wp2;refine wp_scope_one 0 (StJ w base X T s k nm ra m) (fun _ wr=>s.size-atOf wr X) rfl (fun hpass=>?_) ?_
 ·go_wp2_with fail
  have S1:=hide (Sc.move HS0.out (k+1));have T1:=hide (Tb.far (i:=1) HT0.out (Ne.symm hne) (.int .i64 ((k+1:Nat):Int)));have B1:=hide ((But2.refl X T w).setCell (p:=⟨X,1,none⟩) (.inl rfl) (.int .i64 ((k+1:Nat):Int)));clear q1 f1 HS0 HT0;refine (HN0.out _ S1.out).mono ?_;rintro e w2 ⟨rfl,s2,b2⟩;have T2:=hide (T1.out.at_but b2 (Ne.symm hne));have B2:=hide (B1.out.one b2);have S2:=hide s2;have f0:=Tb.f T2.out 1;have c0:=Tb.c1 T2.out;clear s2 b2 HN0 S1 T1 B1
  by_cases h0:m=0
  ·rw[decide_eq_true h0] at hE;have HR0:=hide (show res=none by rw[HR.out,if_pos h0]);clear h0 HR;go_wp2;simp only[Exit.jump];go_ret;exact PieceR.no HR0.out (B2.out.setCell (p:=⟨T,1,none⟩) (.inr (.inl rfl)) (.string (bstr nm))) rfl HML.out (Sc.far (i:=1) S2.out hne (.string (bstr nm))) ⟨_,_,_,_,_,_,_,Tb.name_ T2.out (bstr nm)⟩
  rw[decide_eq_false h0] at hE;have H0:=hide (show 0<m by omega);clear h0 HR
  have HS:=hide (show St1 w (w2.setCell ⟨T,1,none⟩ (.string (bstr nm))) base X T s k (k+1+m) (bstr nm) [] none 0 from
   ⟨Sc.far (i:=1) S2.out hne (.string (bstr nm)),Tb.name_ T2.out (bstr nm),World.ownsRow_nil _ _ _ _,B2.out.setCell (p:=⟨T,1,none⟩) (.inr (.inl rfl)) (.string (bstr nm))⟩)
  go_wp2
  go_step3
  rename_i hK
  refine hK _ _ (hpass _ _ ?_);refine StJ.intro ?_ HML.out (by omega) (Nat.zero_le _) (f:=s.size-k) (by have:=H0.out;have:=HML.out;omega) HS.out (by rw[HD.out,HRA.out];simp[glue]) H0.out;rfl
 rintro a' wr ⟨g,f,k',Ls,A,c0,rfl,hk1,hk2,hk3,hf,hSt,hglue,h0⟩;have HR0:=hide (show res=ra.map fun x=>⟨0,nm,x.1,x.2.1,[],k,x.2.2⟩ by rw[HR.out,if_neg (by omega)]);have Hm0:=hide h0;clear HR h0;rw[HD.out] at hglue;obtain⟨f,rfl⟩:∃f',f=f'+1:=⟨f-1,by omega⟩;obtain⟨d,hd⟩:∃d,D.drop k'=d:=⟨_,rfl⟩;obtain⟨m1,hm1⟩:∃m,nsp d=m:=⟨_,rfl⟩;have hdl:d.length=s.size-k':=by rw[←hd,List.length_drop,HDl.out]
 have hml1:k'+m1≤s.size:=by have:=nsp_le d;omega
 obtain⟨d1,hd1⟩:∃d1,d.drop m1=d1:=⟨_,rfl⟩;have hdd:D.drop (k'+m1)=d1:=by rw[←hd1,←hd,List.drop_drop]
 have HB1:=hide (HB.out wr k' hSt.sc hk1);rw[hd,hm1] at HB1;have HJ2:=hide fun W (hW:Sc W X s (k'+m1))=>HI2.out W (k'+m1) hW hml1;have HJ1:=hide fun W (hW:Sc W X s (k'+m1))=>HI1.out W (k'+m1) hW hml1;rw[hdd] at HJ2 HJ1;have HG:=hide (show ra=glue Ls (attrs (f+1) k' d) by rw[hglue,hd]);have HQ:=hide hSt;have Hat:=hide hSt.sc.atOf;have Hm1:=hide hml1;have Hf:=hide hf;have Hk2:=hide hk2;have Hk3:=hide hk3;clear HB HI2 HI1 hglue hSt hf hk2 hk3 hk1
 cases hp2:([47,62]:L).isPrefixOf d1 with
 | true=>
  have HRr:=hide (show res=some ⟨0,nm,Ls,true,[],k,k'+m1+2⟩ by
   rw[HR0.out,HG.out,attrs_end2 (by rw[hm1,hd1];exact hp2),glue_end,hm1];rfl)
  have Hl:=hide (show k'+m1+2≤s.size by
   have:=pfx_len hp2;rw[←hdd,List.length_drop,HDl.out] at this;have e:([47,62]:L).length=2:=rfl
   omega)
  rw[hp2] at HJ2;clear HJ1 HG hp2 hd hm1 hd1 hdd hml1 HN HV HP
  go_wp2_with fail
  refine HB1.out.mono ?_;rintro e w1 ⟨rfl,s1,b1⟩;have Q1:=hide (HQ.out.go hne b1 s1);clear s1 b1 HQ HB1
  go_wp2_with fail
  refine (HJ2.out _ Q1.out.sc).mono ?_;rintro e w2 ⟨rfl,s2,b2⟩;replace s2:Sc w2 X s (k'+m1+2):=by simpa using s2
  have Q2:=hide (Q1.out.go hne b2 s2);have f3:=Tb.f Q2.out.tb 3;have c3:=Tb.c3 Q2.out.tb;clear s2 b2 Q1 HJ2;go_wp2;simp only[Exit.jump];go_ret;obtain⟨r1,r2,r3,r4⟩:=Q2.out.empty_ hne;exact PieceR.yes (t:=⟨0,nm,Ls,true,[],k,k'+m1+2⟩) HRr.out r4 rfl Hl.out (by have:=Hk2.out;dsimp only;omega) r1 ⟨A,c0,r2,r3⟩
 | false=>
  rw[hp2] at HJ2
  cases hp1:([62]:L).isPrefixOf d1 with
  | true=>
   have HRr:=hide (show res=some ⟨0,nm,Ls,false,[],k,k'+m1+1⟩ by
    rw[HR0.out,HG.out,attrs_end1 (by rw[hm1,hd1];exact hp2) (by rw[hm1,hd1];exact hp1),glue_end,hm1];rfl)
   have Hl:=hide (show k'+m1+1≤s.size by
    have:=pfx_len hp1;rw[←hdd,List.length_drop,HDl.out] at this;have e:([62]:L).length=1:=rfl
    omega)
   rw[hp1] at HJ1;clear HG hp2 hp1 hd hm1 hd1 hdd hml1 HN HV HP
   go_wp2_with fail
   refine HB1.out.mono ?_;rintro e w1 ⟨rfl,s1,b1⟩;have Q1:=hide (HQ.out.go hne b1 s1);clear s1 b1 HQ HB1
   go_wp2_with fail
   refine (HJ2.out _ Q1.out.sc).mono ?_;rintro e w2 ⟨rfl,s2,b2⟩;replace s2:Sc w2 X s (k'+m1):=by simpa using s2
   have Q2:=hide (Q1.out.go hne b2 s2);clear s2 b2 Q1 HJ2
   go_wp2_with fail
   refine (HJ1.out _ Q2.out.sc).mono ?_;rintro e w3 ⟨rfl,s3,b3⟩;replace s3:Sc w3 X s (k'+m1+1):=by simpa using s3
   have Q3:=hide (Q2.out.go hne b3 s3);clear s3 b3 Q2 HJ1;go_wp2;simp only[Exit.jump];go_ret;exact PieceR.yes (t:=⟨0,nm,Ls,false,[],k,k'+m1+1⟩) HRr.out Q3.out.but rfl Hl.out (by have:=Hk2.out;dsimp only;omega) Q3.out.sc ⟨A,c0,Q3.out.tb,Q3.out.own⟩
  | false=>
   rw[hp1] at HJ1
   by_cases h0:m1=0
   ·have HRr:=hide (show res=none by
     rw[HR0.out,HG.out,attrs_tight (by rw[hm1,hd1];exact hp2) (by rw[hm1,hd1];exact hp1) (by rw[hm1];exact h0)];rfl)
    rw[decide_eq_false (show ¬0<m1 by omega)] at HB1;clear HG hp2 hp1 hd hm1 hd1 hdd hml1 HN HV HP h0
    go_wp2_with fail
    refine HB1.out.mono ?_;rintro e w1 ⟨rfl,s1,b1⟩;have Q1:=hide (HQ.out.go hne b1 s1);clear s1 b1 HQ HB1
    go_wp2_with fail
    refine (HJ2.out _ Q1.out.sc).mono ?_;rintro e w2 ⟨rfl,s2,b2⟩;replace s2:Sc w2 X s (k'+m1):=by simpa using s2
    have Q2:=hide (Q1.out.go hne b2 s2);clear s2 b2 Q1 HJ2
    go_wp2_with fail
    refine (HJ1.out _ Q2.out.sc).mono ?_;rintro e w3 ⟨rfl,s3,b3⟩;replace s3:Sc w3 X s (k'+m1):=by simpa using s3
    have Q3:=hide (Q2.out.go hne b3 s3);clear s3 b3 Q2 HJ1;go_wp2;simp only[Exit.jump];go_ret;exact PieceR.no HRr.out Q3.out.but rfl Hm1.out Q3.out.sc Q3.out.some_
   rw[decide_eq_true (show 0<m1 by omega)] at HB1;obtain⟨j,hj⟩:∃j,k'+m1=j:=⟨_,rfl⟩;obtain⟨m2,hm2⟩:∃m,take d1=m:=⟨_,rfl⟩;obtain⟨d2,hd2⟩:∃d2,d1.drop m2=d2:=⟨_,rfl⟩;obtain⟨o,ho⟩:∃o,eqv d2=o:=⟨_,rfl⟩;obtain⟨na,hna⟩:∃na,d1.take m2=na:=⟨_,rfl⟩;have hdl1:d1.length=s.size-j:=by rw[←hd1,List.length_drop,hdl];omega
   have hml2:m2≤s.size-j:=by have:=take_le d1;omega
   rw[hj] at hdd hml1 HJ2 HJ1 Hm1 HB1
   have HA:=hide (show attrs (f+1) k' d=if m2=0 then none else o.bind fun x=>if (60:UInt8)∈x.1 then none else (attrs f (j+m2+x.2) (d1.drop (m2+x.2))).map fun y=>(⟨na,x.1,j⟩ :: y.1,y.2) by
    rw[attrs_more (by rw[hm1,hd1];exact hp2) (by rw[hm1,hd1];exact hp1) (by rw[hm1];exact h0),hm1,hd1,hm2,hd2,ho,hna,hj])
   have HNa:=hide fun W (hW:Sc W X s j)=>(show Calls Tryz.prog 117 #[.pointer (some ⟨X,0,none⟩)] W fun e w'=>e=.returned (.string (bstr na))∧Sc w' X s (j+m2)∧But X W w' from by
    have h:=HN.out W j hW hml1;rw[hdd,hm2,extract_bstr,HD.out,hdd,show j+m2-j=m2 by omega,hna] at h;exact h)
   have hd2':D.drop (j+m2)=d2:=by rw[←List.drop_drop,hdd,hd2]
   have HVa:=hide fun W (hW:Sc W X s (j+m2)) (hb:But2 X T w W)=>(show Calls Tryz.prog 120 #[.pointer (some ⟨X,0,none⟩)] W (ValR W X s (j+m2) o) from by
    have h:=HV.out W (j+m2) hW hb (by omega);rw[hd2',ho] at h;exact h)
   have hEa:((bstr na).toList==([]:L))=decide (m2=0):=by
    rw[str_emp',←hna,Bool.eq_iff_iff,List.isEmpty_iff,decide_eq_true_eq]
    constructor
    ·intro h;have:=congrArg List.length h;rw[List.length_take,List.length_nil,hdl1] at this;omega
    intro h;rw[h,List.take_zero]
   have Hj:=hide (show k'<j by omega);have Hml2:=hide (show j+m2≤s.size by omega);have hDj:=hide (show ∀n,D.drop (j+n)=d1.drop n from fun n=>by rw[←List.drop_drop,hdd]);clear hp2 hp1 hd hm1 hd1 hdd hml1 HN HV h0 hj hm2 hd2 ho hna hdl1 hml2 hd2' hdl
   go_wp2_with fail
   refine HB1.out.mono ?_;rintro e w1 ⟨rfl,s1,b1⟩;have Q1:=hide (HQ.out.go hne b1 s1);clear s1 b1 HQ HB1
   go_wp2_with fail
   refine (HJ2.out _ Q1.out.sc).mono ?_;rintro e w2 ⟨rfl,s2,b2⟩;replace s2:Sc w2 X s j:=by simpa using s2
   have Q2:=hide (Q1.out.go hne b2 s2);clear s2 b2 Q1 HJ2
   go_wp2_with fail
   refine (HJ1.out _ Q2.out.sc).mono ?_;rintro e w3 ⟨rfl,s3,b3⟩;replace s3:Sc w3 X s j:=by simpa using s3
   have Q3:=hide (Q2.out.go hne b3 s3);have c1:=Sc.c1 Q3.out.sc;clear s3 b3 Q2 HJ1;have HY:=hide (show w3.heap.size≠X from fun e=>by have:=Blk.lt Q3.out.sc;omega);have HYT:=hide (show w3.heap.size≠T from fun e=>by have:=Blk.lt Q3.out.tb;omega);have HYO:=hide (show (Value.slice A Ls.length c0).ownBlock≠some w3.heap.size from fun e=>by have:=(own_isT Q3.out.own _ e).2.lt;omega);have HYw:=hide Q3.out.but.size
   go_wp2_with fail
   refine (HNa.out _ (Q3.out.alloc _).sc).mono ?_;rintro e w4 ⟨rfl,s4,b4⟩;have Q4:=hide ((Q3.out.alloc _).go hne b4 s4);have Y4:=hide (b4.blk (Blk.new w3 148 #[.string ⟨#[]⟩,.string ⟨#[]⟩,.int .i64 (j:Int)]) HY.out);generalize w3.heap.size=Y at *
   have y0:=Y4.out.cell 0;have fy0:=Y4.out.frozen 0;clear s4 b4 c1 Q3 HNa
   go_wp2_with fail
   have Q5:=hide (Q4.out.far (p:=⟨Y,0,none⟩) HYw.out HY.out.symm HYT.out.symm HYO.out (.string (bstr na)))
   have Y5:=hide (show Blk (w4.setCell ⟨Y,0,none⟩ (.string (bstr na))) Y 148 #[.string (bstr na),.string ⟨#[]⟩,.int .i64 (j:Int)] from by
    have:=Blk.set_ Y4.out 0 (.string (bstr na))
    simpa using this)
   clear y0 fy0 Q4 Y4;refine (HVa.out _ Q5.out.sc Q5.out.but).mono ?_;rintro e w6 ⟨b6,h6⟩
   cases o with
   | none=>
    obtain⟨rfl,k6,l6a,l6,s6⟩:=h6
    have HRr:=hide (show res=none by
     rw[HR0.out,HG.out,HA.out,Option.bind_none,ite_self];rfl)
    have Q6:=hide (Q5.out.go hne b6 s6);have Y6:=hide (b6.blk Y5.out HY.out);have y0:=Y6.out.cell 0;have L6:=hide l6;clear s6 b6 l6 l6a Q5 Y5 HVa HA HG
    by_cases h0:m2=0
    ·rw[decide_eq_true h0] at hEa;clear h0;go_wp2;simp only[Exit.jump];go_ret;exact PieceR.no HRr.out Q6.out.but rfl L6.out Q6.out.sc Q6.out.some_
    rw[decide_eq_false h0] at hEa;clear h0;go_wp2;simp only[Exit.jump];go_ret;exact PieceR.no HRr.out Q6.out.but rfl L6.out Q6.out.sc Q6.out.some_
   | some x=>
    obtain⟨v,n2⟩:=x;obtain⟨rfl,l6,s6⟩:=h6;dsimp only at l6 s6;have Q6:=hide (Q5.out.go hne b6 s6);have Y6:=hide (b6.blk Y5.out HY.out);have y0:=Y6.out.cell 0;have L6:=hide l6;have HP':=hide (HP.out v);rw[Option.bind_some] at HA;have hz:=lt_in v;obtain⟨z,hze⟩:∃z,Lib.indexByte v 60=z:=⟨_,rfl⟩;rw[hze] at HP' hz;clear s6 b6 l6 Q5 Y5 HVa HP hze
    by_cases h0:m2=0
    ·rw[decide_eq_true h0] at hEa
     have HRr:=hide (show res=none by
      rw[HR0.out,HG.out,HA.out,if_pos h0];rfl)
     clear h0 HA HG hz;go_wp2;simp only[Exit.jump];go_ret;exact PieceR.no HRr.out Q6.out.but rfl L6.out Q6.out.sc Q6.out.some_
    rw[decide_eq_false h0] at hEa;have H0:=hide h0;clear h0
    by_cases hz0:0≤z
    ·have HRr:=hide (show res=none by
      rw[HR0.out,HG.out,HA.out,if_neg H0.out,if_pos (hz.1 hz0)];rfl)
     have hd0:decide (0≤z)=true:=decide_eq_true hz0;clear HA HG hz
     go_wp2_with fail
     refine (HP'.out _).mono ?_;rintro e w7 ⟨rfl,rfl⟩;go_wp2;simp only[Exit.jump];go_ret;exact PieceR.no HRr.out Q6.out.but rfl L6.out Q6.out.sc Q6.out.some_
    have HRA2:=hide (show ra=glue (Ls++[⟨na,v,j⟩]) (attrs f (j+m2+n2) (D.drop (j+m2+n2))) by
     rw[HG.out,HA.out,if_neg H0.out,if_neg (fun h=>hz0 (hz.2 h)),glue_more,Nat.add_assoc j m2 n2,hDj.out])
    have hd0:decide (0≤z)=false:=decide_eq_false hz0;have y1:=Y6.out.cell 1;have fy1:=Y6.out.frozen 1;clear HA HG hz
    go_wp2_with fail
    refine (HP'.out _).mono ?_;rintro e w7 ⟨rfl,rfl⟩;go_wp2;have Q7:=hide (Q6.out.far (p:=⟨Y,1,none⟩) HYw.out HY.out.symm HYT.out.symm HYO.out (.string (bstr v)))
    have Y7:=hide (show Blk (w7.setCell ⟨Y,1,none⟩ (.string (bstr v))) Y 148 #[.string (bstr na),.string (bstr v),.int .i64 (j:Int)] from by
     have:=Blk.set_ Y6.out 1 (.string (bstr v))
     simpa using this)
    clear y0 y1 fy1 Q6 Y6 HP';generalize w7.setCell ⟨Y,1,none⟩ (.string (bstr v))=W7 at *
    have c2:=Tb.c2 Q7.out.tb;have f2:=Tb.f Q7.out.tb 2;have y0:=Y7.out.cell 0;have y1:=Y7.out.cell 1;have y2:=Y7.out.cell 2;have xa:∀o,(W7.alloc o).cell? ⟨T,2,none⟩=some (.slice A Ls.length c0):=fun o=>Tb.c2 (Blk.alloc Q7.out.tb o);have HNE:=hide (own_blk_ne Q7.out.own Q7.out.tb (by decide)).symm;have HL:=hide (show Ls.length≤1000000000 by have:=Hk3.out;have:=Hj.out;have:=L6.out;omega);have HB7:=hide (show base≤W7.heap.size by have:=HBS.out;have:=Q7.out.but.size;omega)
    go_region_law
     (show if Region.wanted (⟨some 74,_,_,_,_,_⟩:Oper) _=true then _ else _;refine step_append_elem _ (by rfl) _ _ _ (by rfl) base 148 _ 3 40 Tryz.underlying83 info_att (by rfl) (by omega) (.slice A Ls.length c0) Ls.length (attrVs Ls) (by rfl) (by first|exact Q7.out.own.alloc _|exact (Q7.out.own.alloc _).drew) [.string (bstr na),.string (bstr v),.int .i64 (j:Int)] rfl (att_one ⟨na,v,j⟩) W7.heap.size (by first|exact Blk.new W7 148 _|exact (Blk.new W7 148 _).drew) (by rfl) (by unfold maxLen;have:=HL.out;omega) (by have:=HL.out;omega) (by have:=HB7.out;simp[World.drew];omega) ?_;intro gg cap w8 hown8 hgrow8 hlt8;have T8:=hide (show Blk w8 T 85 #[.int .i8 0,.string (bstr nm),.slice A Ls.length c0,.bool false,.string ⟨#[]⟩,.int .i64 (k:Int),.int .i64 ((0:Nat):Int)] from Blk.grown (Blk.drew (Blk.alloc Q7.out.tb (.cells #[.string (bstr na),.string (bstr v),.int .i64 (j:Int)] 148))) hgrow8 HNE.out);have c2':w8.cell? ⟨T,2,none⟩=some (.slice A Ls.length c0):=T8.out.cell 2;have f2':=T8.out.frozen 2;have Hgrow8:=hide hgrow8;have Hown8:=hide hown8;clear hown8 hgrow8 hlt8)
    all_goals go_wp2
    all_goals
     have Q8:=hide (Q7.out.app ⟨na,v,j⟩ HBS.out hne Hgrow8.out Hown8.out)
     go_step3
     refine jump_goto ⟨?_,?_⟩
     ·refine StJ.intro (by rfl) L6.out (by have:=Hk2.out;have:=Hj.out;omega) (by have:=Hk3.out;have:=Hj.out;simp;omega) (f:=f) (by have:=Hf.out;have:=Hj.out;have:=L6.out;omega) Q8.out (by rw[HD.out];exact HRA2.out) (by have:=Hm0.out;omega)
     rw[Q8.out.sc.atOf,Hat.out];have:=Hj.out;have:=L6.out;omega
end
section
open Tk
def plnAt(l:L):Bool:=!(([60,33]:L).isPrefixOf l||([60,63]:L).isPrefixOf l)
structure SmlT(D:L):Prop where
 val:Utf.valid D=true
 pl:∀p,p<D.length→plnAt (D.drop p)=true
 one:∀p,p<D.length→∀t,Tk.one p (D.drop p)=some t→p<t.end_∧t.end_≤D.length
def tend(ts:List Tok):Nat:=(ts.getLast?.map (·.end_)).getD 0
def AllT(s:L)(ts:List Tok)(n:Nat)(ok:Bool):Prop:=toks s.length 0 s=ts∧tend ts=n∧ok=decide (n=s.length)
def RowT(D:L)(p:Nat)(ts:List Tok):Prop:=ts.length≤p∧tend ts=p∧∃f,ts.length+f=D.length∧toks D.length 0 D=ts++toks f p (D.drop p)
theorem RowT.zero(D:L):RowT D 0 []:=⟨Nat.le_refl _,rfl,D.length,by simp,rfl⟩
theorem row_next{D:L}{p:Nat}{ts:List Tok}{t:Tok}(h:RowT D p ts)(hp:p<D.length)(ho:Tk.one p (D.drop p)=some t)(h1:p<t.end_):RowT D t.end_ (ts++[t]):=by
 obtain⟨hl,-,f,hf,he⟩:=h
 match f,hf with
 | 0,hf=>omega
 | f+1,hf=>
  have e0:(D.drop p).isEmpty=false:=by
   rw[Bool.eq_false_iff];intro e;have:=congrArg List.length (List.isEmpty_iff.1 e);rw[List.length_drop] at this;simp at this;omega
  refine⟨by rw[List.length_append];simp;omega,by simp[tend],f,by rw[List.length_append];simp;omega,?_⟩;rw[he,toks,e0,if_neg (by simp),ho];dsimp only;rw[List.drop_drop,Nat.add_sub_cancel' (Nat.le_of_lt h1),List.append_assoc];rfl
theorem row_stop{D:L}{p:Nat}{ts:List Tok}(h:RowT D p ts)(ho:p=D.length∨Tk.one p (D.drop p)=none):AllT D ts p (decide (p=D.length)):=by
 obtain⟨-,ht,f,-,he⟩:=h;refine⟨?_,ht,rfl⟩
 have:toks f p (D.drop p)=[]:=by
  cases f with
  | zero=>rfl
  | succ f=>
   rw[toks];split
   ·rfl
   rename_i hn
   rcases ho with ho|ho
   ·rw[ho,List.drop_length] at hn;exact absurd rfl hn
   rw[ho]
 rw[he,this,List.append_nil]
end
section
open Go.RowKit Tk

theorem bad_fine(l:L):decide (0≤bad l) = !fine l:=by
 unfold bad fine stop
 cases h:(Utf.pieces l).find? (fun p=>!charOk p.2) with
 | none=>
  have:(Utf.pieces l).all (fun p=>charOk p.2)=true:=List.all_eq_true.2 fun p hp=>by
   have:=List.find?_eq_none.1 h p hp
   simpa using this
  simp[this]
 | some p=>
  have h1:=List.find?_some h;have h2:=List.mem_of_find?_eq_some h
  have:(Utf.pieces l).all (fun p=>charOk p.2)=false:=by
   rw[Bool.eq_false_iff];intro ha;have:=List.all_eq_true.1 ha p h2;rw[this] at h1;cases h1
  simp[this]
def tokCells(t:Tok)(v:Value)(e:Nat):List Value:=[.int .i8 t.kind,.string (bstr t.name),v,.bool t.empty,.string (bstr t.text),.int .i64 (t.at_:Int),.int .i64 (e:Int)]
def zeroTok:List Value:=[.int .i8 0,.string ⟨#[]⟩,.slice none 0 0,.bool false,.string ⟨#[]⟩,.int .i64 0,.int .i64 0]
def OneR(w:World)(o:Option Tok)(e:Ending)(w':World):Prop :=
 Below w.heap.size w w'∧match o with
  | none=>e=.returned (.tuple #[.agg zeroTok.toArray,.bool false])
  | some t=>∃A c,e=.returned (.tuple #[.agg (tokCells t (.slice A t.attrs.length c) t.end_).toArray,.bool true])∧w'.ownsRow w.heap.size 148 3 (.slice A t.attrs.length c) t.attrs.length (attrVs t.attrs)
theorem OneR.no{w:World}{o:Option Tok}{e:Ending}{w':World}(ho:o=none)(hb:Below w.heap.size w w')(he:e=.returned (.tuple #[.agg zeroTok.toArray,.bool false])):OneR w o e w':=by subst ho;exact⟨hb,he⟩
theorem OneR.no'{R:Nat}{w:World}{o:Option Tok}{e:Ending}{w':World}(hR:w.heap.size=R)(ho:o=none)(hb:Below R w w')(he:e=.returned (.tuple #[.agg zeroTok.toArray,.bool false])):OneR w o e w':=by subst hR;exact OneR.no ho hb he
theorem OneR.yes{w:World}{o:Option Tok}{t:Tok}{e:Ending}{w':World}{A:Option Addr}{c:Nat}(ho:o=some t)(hb:Below w.heap.size w w')(he:e=.returned (.tuple #[.agg (tokCells t (.slice A t.attrs.length c) t.end_).toArray,.bool true]))
  (hr:w'.ownsRow w.heap.size 148 3 (.slice A t.attrs.length c) t.attrs.length (attrVs t.attrs)):OneR w o e w':=by subst ho;exact⟨hb,A,c,he,hr⟩
def fnOf(l:L):Nat:=if ([60,47]:L).isPrefixOf l then 84 else if ([60,33]:L).isPrefixOf l||([60,63]:L).isPrefixOf l then 85 else if ([60]:L).isPrefixOf l then 83 else 86
theorem kind_cases{l:L}(h:plnAt l=true):(kindOf l=0∧fnOf l=83)∨(kindOf l=1∧fnOf l=84)∨(kindOf l=3∧fnOf l=86):=by
 unfold plnAt at h;unfold kindOf fnOf
 cases ([60,47]:L).isPrefixOf l<;>cases h2:(([60,33]:L).isPrefixOf l||([60,63]:L).isPrefixOf l)<;>cases ([60]:L).isPrefixOf l<;>simp_all
theorem piece_call(w:World)(X T:Nat)(s:ByteArray)(k:Nat)(hX:Sc w X s k)(hT:T0 w T k)(hne:X≠T)(hX6:6≤X)(hT6:6≤T)(hg:Gl w)(hk:k<s.size)(hs:s.size≤1000000000)(hpl:plnAt (s.data.toList.drop k)=true) :
  Calls Tryz.prog (fnOf (s.data.toList.drop k)) #[.pointer (some ⟨X,0,none⟩),.pointer (some ⟨T,0,none⟩)] w (PieceR w w.heap.size X T s k (Tk.piece k (s.data.toList.drop k))):=by
 unfold fnOf Tk.piece;split
 ·rename_i hp
  have:=pfx_len hp;rw[List.length_drop,size_list] at this;exact end_any w _ X T s k hX hT hne (by have e:([60,47]:L).length=2:=rfl;omega) hs
 split
 ·rename_i hh
  unfold plnAt at hpl;rw[hh] at hpl;cases hpl
 split
 ·exact start_any w _ X T s k hX hT hne hX6 hT6 hg rfl hk hs
 rename_i hp
 exact text_any w _ X T s k hX hT hne hX6 hT6 hg hk hs (Bool.eq_false_iff.2 hp)
def oneW(w:World)(s:ByteArray)(k:Nat):World :=
 (((w.alloc (.cells #[.int .i8 0,.string ⟨#[]⟩,.slice none 0 0,.bool false,.string ⟨#[]⟩,.int .i64 0,.int .i64 0] 85)).alloc
  (.cells #[.func (.func 83) #[] #[],.func (.func 84) #[] #[],.func (.func 85) #[] #[],.func (.func 86) #[] #[]] 141)).alloc
  (.cells #[.string s,.int .i64 (k:Int)] 143)).alloc (.cells #[.int .i8 0,.string ⟨#[]⟩,.slice none 0 0,.bool false,.string ⟨#[]⟩,.int .i64 (k:Int),.int .i64 0] 85)
structure OneW(w C:World)(s:ByteArray)(k R Y X T:Nat):Prop where
 res:Blk C R 85 #[.int .i8 0,.string ⟨#[]⟩,.slice none 0 0,.bool false,.string ⟨#[]⟩,.int .i64 0,.int .i64 0]
 fns:Blk C Y 141 #[.func (.func 83) #[] #[],.func (.func 84) #[] #[],.func (.func 85) #[] #[],.func (.func 86) #[] #[]]
 sc:Sc C X s k
 tok:T0 C T k
 below:Below w.heap.size w C
 size:T<C.heap.size
 base:w.heap.size≤C.heap.size
 rX:R≠X
 rT:R≠T
 xT:X≠T
 xs:w.heap.size≤X
 ts:w.heap.size≤T
 rs:w.heap.size≤R
theorem oneW_is(w:World)(s:ByteArray)(k:Nat):OneW w (oneW w s k) s k w.heap.size (w.heap.size+1) (w.heap.size+1+1) (w.heap.size+1+1+1):=by
 have b0:=Blk.new w 85 #[.int .i8 0,.string ⟨#[]⟩,.slice none 0 0,.bool false,.string ⟨#[]⟩,.int .i64 0,.int .i64 0];have b1:=Blk.new (w.alloc (.cells #[.int .i8 0,.string ⟨#[]⟩,.slice none 0 0,.bool false,.string ⟨#[]⟩,.int .i64 0,.int .i64 0] 85)) 141 #[.func (.func 83) #[] #[],.func (.func 84) #[] #[],.func (.func 85) #[] #[],.func (.func 86) #[] #[]];rw[World.size_alloc] at b1;have b2:=Blk.new ((w.alloc (.cells #[.int .i8 0,.string ⟨#[]⟩,.slice none 0 0,.bool false,.string ⟨#[]⟩,.int .i64 0,.int .i64 0] 85)).alloc (.cells #[.func (.func 83) #[] #[],.func (.func 84) #[] #[],.func (.func 85) #[] #[],.func (.func 86) #[] #[]] 141)) 143 #[.string s,.int .i64 (k:Int)];rw[World.size_alloc,World.size_alloc] at b2
 have b3:=Blk.new (((w.alloc (.cells #[.int .i8 0,.string ⟨#[]⟩,.slice none 0 0,.bool false,.string ⟨#[]⟩,.int .i64 0,.int .i64 0] 85)).alloc (.cells #[.func (.func 83) #[] #[],.func (.func 84) #[] #[],.func (.func 85) #[] #[],.func (.func 86) #[] #[]] 141)).alloc (.cells #[.string s,.int .i64 (k:Int)] 143)) 85 #[.int .i8 0,.string ⟨#[]⟩,.slice none 0 0,.bool false,.string ⟨#[]⟩,.int .i64 (k:Int),.int .i64 0];rw[World.size_alloc,World.size_alloc,World.size_alloc] at b3;refine⟨((b0.alloc _).alloc _).alloc _,(b1.alloc _).alloc _,b2.alloc _,b3,?_,b3.lt,?_,by omega,by omega,by omega,by omega,by omega,by omega⟩
 ·exact (((((Below.refl _ w).alloc (Nat.le_refl _) _).alloc (by simp) _).alloc (by simp;omega) _).alloc (by simp;omega) _)
 have:=b3.lt;unfold oneW;omega
def put7(w:World)(X:Nat)(v0 v1 v2 v3 v4 v5 v6:Value):World:=(((((((w.setCell ⟨X,0,none⟩ v0).setCell ⟨X,1,none⟩ v1).setCell ⟨X,2,none⟩ v2).setCell ⟨X,3,none⟩ v3).setCell ⟨X,4,none⟩ v4).setCell ⟨X,5,none⟩ v5).setCell ⟨X,6,none⟩ v6)
theorem below_put7{B X:Nat}{w w1:World}(h:Below B w w1)(hX:B≤X)(v0 v1 v2 v3 v4 v5 v6:Value):Below B w (put7 w1 X v0 v1 v2 v3 v4 v5 v6) :=
 ((((((h.setCell (p:=⟨X,0,none⟩) hX v0).setCell (p:=⟨X,1,none⟩) hX v1).setCell (p:=⟨X,2,none⟩) hX v2).setCell (p:=⟨X,3,none⟩) hX v3).setCell (p:=⟨X,4,none⟩) hX v4).setCell (p:=⟨X,5,none⟩) hX v5).setCell (p:=⟨X,6,none⟩) hX v6
theorem put7_blk{w:World}{X t:Nat}{u0 u1 u2 u3 u4 u5 u6:Value}(h:Blk w X t #[u0,u1,u2,u3,u4,u5,u6])(v0 v1 v2 v3 v4 v5 v6:Value):Blk (put7 w X v0 v1 v2 v3 v4 v5 v6) X t #[v0,v1,v2,v3,v4,v5,v6]:=by
 have:=((((((h.set_ 0 v0).set_ 1 v1).set_ 2 v2).set_ 3 v3).set_ 4 v4).set_ 5 v5).set_ 6 v6
 simpa[Go.Proofs.YtifiiojchlaghaaGreatDoor.put7] using this
theorem put7_own{w:World}{base e size n X:Nat}{v:Value}{xs:List Value}(h:w.ownsRow base e size v n xs)(hX:v.ownBlock≠some X)(v0 v1 v2 v3 v4 v5 v6:Value):(put7 w X v0 v1 v2 v3 v4 v5 v6).ownsRow base e size v n xs :=
 ownsRow_setCell_other (ownsRow_setCell_other (ownsRow_setCell_other (ownsRow_setCell_other (ownsRow_setCell_other (ownsRow_setCell_other (ownsRow_setCell_other h (a:=⟨X,0,none⟩) hX _) (a:=⟨X,1,none⟩) hX _) (a:=⟨X,2,none⟩) hX _) (a:=⟨X,3,none⟩) hX _) (a:=⟨X,4,none⟩) hX _) (a:=⟨X,5,none⟩) hX _) (a:=⟨X,6,none⟩) hX _
theorem one_ret{Q:Ending→World→Prop}{a:Act}{W:World}{R:Nat}{v0 v1 v2 v3 v4 v5 v6:Value}{b:Bool}(ha:a.tmps.getD 4 undef=.pointer (some ⟨R,0,none⟩))(h5:a.tmps.getD 5 undef=.bool b)(hd:a.defers=[])(hK:Blk W R 85 #[v0,v1,v2,v3,v4,v5,v6])
  (hQ:Q (.returned (.tuple #[.agg #[v0,v1,v2,v3,v4,v5,v6],.bool b])) W):bodyPost Tryz.prog Tryz.f54 Q .ret a W:=by
 have p0:W.cell? ⟨R,0,none⟩=some v0:=hK.cell 0;have p1:W.cell? ⟨R,1,none⟩=some v1:=hK.cell 1;have p2:W.cell? ⟨R,2,none⟩=some v2:=hK.cell 2;have p3:W.cell? ⟨R,3,none⟩=some v3:=hK.cell 3;have p4:W.cell? ⟨R,4,none⟩=some v4:=hK.cell 4;have p5:W.cell? ⟨R,5,none⟩=some v5:=hK.cell 5;have p6:W.cell? ⟨R,6,none⟩=some v6:=hK.cell 6;refine bodyPost_ret (v:=.tuple #[.agg #[v0,v1,v2,v3,v4,v5,v6],.bool b]) ?_ hd hQ;obtain⟨tm,df⟩:=a;dsimp only at ha h5 ⊢;have ha':tm[4]?.getD undef=.pointer (some ⟨R,0,none⟩):=by simpa using ha
 have hb':tm[5]?.getD undef=.bool b:=by simpa using h5
 simp[results,Tryz.results54,go_sem,p0,p1,p2,p3,p4,p5,p6,ha',hb']
theorem own_below{w w':World}{base e size n:Nat}{v:Value}{xs:List Value}(h:w.ownsRow base e size v n xs)(hb:Below w.heap.size w w'):w'.ownsRow base e size v n xs :=
 h.kept (row:=some w.heap.size) ⟨hb.os,hb.tape,hb.output,hb.size,fun i hi _=>hb.block i hi⟩ (.inr fun e=>by have:=(h.lt _ e).2;omega)
theorem But2.blk{X T g t:Nat}{cs:Array Value}{w w':World}(h:But2 X T w w')(hg:Blk w g t cs)(hX:g≠X)(hT:g≠T):Blk w' g t cs:=(h.block g hg.lt hX hT).trans hg
end
section
open Go.RowKit Tk

theorem one_any(w:World)(s:ByteArray)(k:Nat)(hg:Gl w)(hw6:6≤w.heap.size)(hk:k<s.size)(hs:s.size≤1000000000)(hpl:plnAt (s.data.toList.drop k)=true) :
  Calls Tryz.prog 54 #[.string s,.int .i64 (k:Int)] w (OneR w (Tk.one k (s.data.toList.drop k))):=by
 obtain⟨l,hl⟩:∃l,s.data.toList.drop k=l:=⟨_,rfl⟩;rw[hl] at hpl;have hkc:=kind_cases hpl;have HKi:=hide (fun W=>kind_any (s.extract k s.size) W (by rw[extract_end,bstr_size,List.length_drop,size_list];omega));rw[extract_end,hl,bstr_list] at HKi;have HPc:=hide (fun W X T (hX:Sc W X s k) (hT:T0 W T k) (hne:X≠T) (hX6:6≤X) (hT6:6≤T) (hg:Gl W)=>piece_call W X T s k hX hT hne hX6 hT6 hg hk hs (by rw[hl];exact hpl));rw[hl] at HPc;have HPc':Hid (∀o W X T (hX:Sc W X s k) (hT:T0 W T k) (hne:X≠T) (hX6:6≤X) (hT6:6≤T) (hg:Gl W),o=Tk.piece k l→Calls Tryz.prog (fnOf l) #[.pointer (some ⟨X,0,none⟩),.pointer (some ⟨T,0,none⟩)] W (PieceR W W.heap.size X T s k o)):=hide fun o W X T hX hT hne hX6 hT6 hg h=>by subst h;exact HPc.out W X T hX hT hne hX6 hT6 hg
 have HL:=hide hl;rw[hl];have hes:s.extract k s.size=bstr l:=by rw[extract_end,hl]
 obtain⟨o,ho⟩:∃o,Tk.piece k l=o:=⟨_,rfl⟩;obtain⟨res,hres⟩:∃r,Tk.one k l=r:=⟨_,rfl⟩;have HR:=hide (show res=o.bind fun t=>if fine (l.take (t.end_-k)) then some t else none by rw[←hres,←ho];rfl);rw[hres];have Ho:=hide ho;have HG:=hide hg;clear HPc hl ho hres hg hpl;generalize fnOf l=fn at *
 generalize kindOf l=kd at *
 obtain⟨L0,hL0⟩:∃L0,bstr l=L0:=⟨_,rfl⟩;rw[hL0] at HKi hes;clear hL0;have HW:=hide (oneW_is w s k);obtain⟨C,hC⟩:∃C,oneW w s k=C:=⟨_,rfl⟩;rw[hC] at HW
 rcases hkc with ⟨rfl,rfl⟩|⟨rfl,rfl⟩|⟨rfl,rfl⟩
 all_goals
  go_enter Tryz.func54,Tryz.ntmps54
  go_wp2_with fail
  show Calls Tryz.prog 87 _ (oneW w s k) _;rw[hC];clear hC;refine (HKi.out _).mono ?_;rintro e w1 ⟨rfl,rfl⟩;generalize w.heap.size+1+1+1=T at *
  generalize w.heap.size+1+1=X at *
  generalize w.heap.size+1=Y at *
  have c0:=Blk.cell HW.out.fns 0;have c1:=Blk.cell HW.out.fns 1;have c2:=Blk.cell HW.out.fns 2;have c3:=Blk.cell HW.out.fns 3;have HRX:=hide HW.out.rX;have HRT:=hide HW.out.rT
  go_wp2_with fail
  refine (HPc'.out o w1 X T HW.out.sc HW.out.tok HW.out.xT (by have:=HW.out.xs;omega) (by have:=HW.out.ts;omega) (HG.out.below HW.out.below) Ho.out.symm).mono ?_;rintro e w2 h2;clear c0 c1 c2 c3 HPc' HKi
  cases o with
  | none=>
   obtain⟨b2,rfl,⟨k',hk',s2⟩,kd,nm,as_,em,tx,at0,en,t2⟩:=h2;have HRr:=hide (show res=none by rw[HR.out];rfl);have d1:=Sc.c1 s2;have c6:=Tb.c6 t2;have f6:=Tb.f t2 6;have HB2:=hide (show Below w.heap.size w w2 from HW.out.below.trans (b2.below HW.out.xs HW.out.ts HW.out.base));have HK2:=hide (b2.blk HW.out.res HRX.out HRT.out);have HTs:=hide HW.out.ts;clear b2 hk' s2 t2 HR HW;generalize HR0:w.heap.size=R at *
   have p0:=Blk.cell HK2.out 0;have p1:=Blk.cell HK2.out 1;have p2:=Blk.cell HK2.out 2;have p3:=Blk.cell HK2.out 3;have p4:=Blk.cell HK2.out 4;have p5:=Blk.cell HK2.out 5;have p6:=Blk.cell HK2.out 6;have r:=fun i=>Blk.frozen HK2.out i;have hRT:=HRT.out;have hTR:=HRT.out.symm;go_wp2;have HBe:=hide (below_put7 (HB2.out.setCell (p:=⟨T,6,none⟩) HTs.out (.int .i64 (k':Int))) (Nat.le_refl R) (.int .i8 0) (.string ⟨#[]⟩) (.slice none 0 0) (.bool false) (.string ⟨#[]⟩) (.int .i64 0) (.int .i64 0));refine one_ret rfl rfl rfl (put7_blk (Blk.far HK2.out (p:=⟨T,6,none⟩) hRT (.int .i64 (k':Int))) _ _ _ _ _ _ _) ?_;exact OneR.no' HR0 HRr.out HBe.out rfl
  | some t=>
   obtain⟨b2,rfl,hte,hkt,s2,A,c,t2,o2⟩:=h2;have HR1:=hide (show res=if fine (l.take (t.end_-k)) then some t else none by rw[HR.out];rfl);have d1:=Sc.c1 s2;have c6:=Tb.c6 t2;have f6:=Tb.f t2 6;have HB2:=hide (show Below w.heap.size w w2 from HW.out.below.trans (b2.below HW.out.xs HW.out.ts HW.out.base));have HK2:=hide (b2.blk HW.out.res HRX.out HRT.out);have HT2:=hide t2;have HO2:=hide o2;have HOs:=hide (show (Value.slice A t.attrs.length c).ownBlock≠some w.heap.size from fun e=>by have:=(o2.lt _ e).1;have:=HW.out.size;have:=HW.out.ts;omega);have HOt:=hide (show (Value.slice A t.attrs.length c).ownBlock≠some T from fun e=>by have:=(o2.lt _ e).1;have:=HW.out.size;omega);have HO3:=hide (o2.mono (base':=w.heap.size) HW.out.base);have HTs:=hide HW.out.ts;clear b2 s2 t2 o2 HR HW HO2;generalize HR0:w.heap.size=R at *
   have hex:s.extract k t.end_=bstr (l.take (t.end_-k)):=by rw[extract_bstr,HL.out]
   obtain⟨tx,htx⟩:∃tx,l.take (t.end_-k)=tx:=⟨_,rfl⟩;rw[htx] at hex HR1;have HBa:=hide (fun W=>bad_any (bstr tx) W (by rw[bstr_size,←htx,List.length_take];omega));rw[bstr_list] at HBa;have hbf:=bad_fine tx;have Hte:=hide hte;clear htx
   go_wp2_with fail
   have HT3:=hide (Tb.end__ HT2.out t.end_);have HK3:=hide (Blk.far HK2.out (p:=⟨T,6,none⟩) HRT.out (.int .i64 (t.end_:Int)));have HO4:=hide (ownsRow_setCell_other HO3.out (a:=⟨T,6,none⟩) HOt.out (.int .i64 (t.end_:Int)));have HB3:=hide (HB2.out.setCell (p:=⟨T,6,none⟩) HTs.out (.int .i64 (t.end_:Int)));clear HT2 HK2 HO3 HB2 d1 c6 f6;generalize w2.setCell ⟨T,6,none⟩ (.int .i64 (t.end_:Int))=W3 at *
   refine (HBa.out _).mono ?_;rintro e w4 ⟨rfl,b4⟩;have HT4:=hide (Blk.go HT3.out b4);have HK4:=hide (Blk.go HK3.out b4);have HO5:=hide (own_below HO4.out b4);have HB4:=hide (HB3.out.trans (b4.mono (by have:=HB3.out.size;omega)));clear b4 HT3 HK3 HO4 HB3 HBa;have p0:=Blk.cell HK4.out 0;have p1:=Blk.cell HK4.out 1;have p2:=Blk.cell HK4.out 2;have p3:=Blk.cell HK4.out 3;have p4:=Blk.cell HK4.out 4;have p5:=Blk.cell HK4.out 5;have p6:=Blk.cell HK4.out 6;have r:=fun i=>Blk.frozen HK4.out i;have q0:=Tb.c0 HT4.out;have q1:=Tb.c1 HT4.out;have q2:=Tb.c2 HT4.out;have q3:=Tb.c3 HT4.out;have q4:=Tb.c4 HT4.out;have q5:=Tb.c5 HT4.out;have q6:=Tb.c6 HT4.out;generalize bad tx=z at *
   cases hf:fine tx with
   | false=>
    rw[hf] at hbf;have HRr:=hide (show res=none by rw[HR1.out,hf];rfl);clear hf HR1;go_wp2;refine one_ret rfl rfl rfl (put7_blk HK4.out _ _ _ _ _ _ _) ?_;exact OneR.no' HR0 HRr.out (below_put7 HB4.out (Nat.le_refl R) _ _ _ _ _ _ _) rfl
   | true=>
    rw[hf] at hbf;have HRr:=hide (show res=some t by rw[HR1.out,hf];rfl);clear hf HR1;go_wp2;refine one_ret rfl rfl rfl (put7_blk HK4.out _ _ _ _ _ _ _) ?_;subst HR0;exact OneR.yes HRr.out (below_put7 HB4.out (Nat.le_refl _) _ _ _ _ _ _ _) rfl (put7_own HO5.out HOs.out _ _ _ _ _ _ _)
end
end Go.Proofs.YtifiiojchlaghaaGreatDoor
