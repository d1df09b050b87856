/- OpmlMerges: the law's walk. (Printed by genOpL.py.) -/
import Derived.Test.YtifiiojchlaghaaGreatDoorOm39
import Derived.Test.YtifiiojchlaghaaGreatDoorOm41
set_option linter.unusedSimpArgs false
set_option maxRecDepth 100000
set_option maxHeartbeats 16000000
set_option linter.unusedVariables false
namespace Go.Proofs.YtifiiojchlaghaaGreatDoor
section
open Go.RowKit Tk Sx Go.WideShapes

structure Ol(W:World)(A:Option Addr)(n c k:Nat)(l:List ay):Prop where
 r:Reads W W.heap.size 2 A n (bj l)
 e:l.length=n
 cp:n≤c
 kp:n≤k
 u:∀x∈l,x.pre.length≤300∧x.ns.length≤300
theorem Ol.go{W W':World}{A:Option Addr}{n c k:Nat}{l:List ay}(h:Ol W A n c k l)(hb:Below W.heap.size W W'):Ol W' A n c k l:=⟨(h.r.below hb).more hb.size,h.e,h.cp,h.kp,h.u⟩
theorem Ol.none(W:World):Ol W none 0 0 0 []:=⟨Reads.none_,rfl,Nat.le_refl _,Nat.le_refl _,fun _ h=>by cases h⟩
theorem vZ{l1 l2:List ay}{A1 A2:Option Addr}{n1 n2 c1 c2 k1 k2:Nat}{W:World}(h1:Ol W A1 n1 c1 k1 l1)(h2:Ol W A2 n2 c2 k2 l2)(hk:k1+k2≤1000) :
  Calls Tryz.prog 13 #[.slice A1 n1 c1,.slice A2 n2 c2] W fun e w'=>∃A' n' c',e=.returned (.slice A' n' c')∧Ol w' A' n' c' (k1+k2) (Opm.di l1 l2)∧Below W.heap.size W w':=by
 have e1:=h1.e;have e2:=h2.e;have g1:=h1.kp;have g2:=h2.kp;subst e1;subst e2;refine (ZL l1 l2 A1 A2 c1 c2 W h1.r h2.r (by omega) (by omega) (fun x hx=>?_)).mono ?_
 ·rcases List.mem_append.1 hx with h|h
  ·have:=(h1.u x h).1;omega
  have:=(h2.u x h).1;omega
 rintro e w' ⟨A',c',rfl,ho,hb⟩;have hl:=Opm.Bt l1 [];have mA:=Opm.Bt l2 (Opm.e9 [] l1)
 have hm:(Opm.di l1 l2).length≤k1+k2:=by
  unfold Opm.di;simp only[List.length_nil] at hl;omega
 refine⟨A',_,c',rfl,⟨Reads.dA ho,rfl,Vi ho,hm,fun x hx=>?_⟩,hb⟩
 rcases Opm.afy hx with h|h
 ·exact h1.u x h
 exact h2.u x h
theorem BB{l1 l2:List ay}{A1 A2:Option Addr}{n1 n2 c1 c2 k1 k2:Nat}{W:World}(h1:Ol W A1 n1 c1 k1 l1)(h2:Ol W A2 n2 c2 k2 l2)(hk:k1≤1000)(he:l1=l2) :
  Calls Tryz.prog 10 #[.slice A1 n1 c1,.slice A2 n2 c2] W fun e w'=>e=.returned (.bool true)∧Below W.heap.size W w':=by
 have e1:=h1.e;have e2:=h2.e;have g1:=h1.kp;subst e1;subst e2;refine (ZZ l1 l2 A1 A2 c1 c2 _ _ W h1.r h2.r (by omega)).mono ?_;rintro e w' ⟨rfl,k,rfl⟩;rw[decide_eq_true he];exact⟨rfl,below_drewN (Below.refl _ _) k⟩
theorem afc(la lb lc:List ay)(A B C:Option Addr)(ca cb cc:Nat)(w:World)(hg:Gl w)(jM:6≤w.heap.size)(hA:Reads w w.heap.size 2 A la.length (bj la))(hB:Reads w w.heap.size 2 B lb.length (bj lb))(hC:Reads w w.heap.size 2 C lc.length (bj lc))
  (cn:la.length≤ca∧ca≤maxLen) (eP:lb.length≤cb∧cb≤maxLen) (hlc:lc.length≤cc∧cc≤maxLen) :
  Calls Tryz.prog 4 #[.slice A la.length ca,.slice B lb.length cb,.slice C lc.length cc] w fun e w'=>e=.returned (.bool true)∧Below w.heap.size w w':=by
 have uB:=hide (fun W (hb:Below w.heap.size w W)=>akH W (hg.below hb) (Nat.le_trans jM hb.size));have F8:=hide (FO la A ca w.heap.size w hA (Nat.le_trans cn.1 cn.2));have kU:=hide (fun (hf:la.length≤70∧∀y∈la,y.pre.length≤300∧y.ns.length≤300) W (hb:Below w.heap.size w W)=>Im la A ca W ((hA.below hb).more hb.size) (fun y hy=>by have:=hf.2 y hy;omega) (by omega) cn.1);have Oi:=hide (fun (hf:la.length≤70∧∀y∈la,y.pre.length≤300∧y.ns.length≤300) W (hb:Below w.heap.size w W)=>(show Ol W A la.length ca 70 la from⟨(hA.below hb).more hb.size,rfl,cn.1,hf.1,hf.2⟩));obtain⟨na,dy⟩:∃n,la.length=n:=⟨_,rfl⟩;have fj:=hide dy;simp only[dy] at F8 kU Oi ⊢;obtain⟨ga,jH⟩:∃q,Opm.great la=q:=⟨_,rfl⟩;obtain⟨ma,vF⟩:∃q,Opm.may la=q:=⟨_,rfl⟩;rw[jH] at F8;simp only[vF] at kU;have JL:=fun h=>Opm.Ju (l:=la) (jH.trans h);rw[dy] at JL cn;have Yv:=hide JL;have YU:=hide (fun h=>Opm.LG (l:=la) (vF.trans h));have Hla:=hide cn;clear dy jH vF hA cn JL;have F9:=hide (FO lb B cb w.heap.size w hB (Nat.le_trans eP.1 eP.2))
 have ql:=hide (fun (hf:lb.length≤70∧∀y∈lb,y.pre.length≤300∧y.ns.length≤300) W (hb:Below w.heap.size w W)=>Im lb B cb W ((hB.below hb).more hb.size) (fun y hy=>by have:=hf.2 y hy;omega) (by omega) eP.1);have Oj:=hide (fun (hf:lb.length≤70∧∀y∈lb,y.pre.length≤300∧y.ns.length≤300) W (hb:Below w.heap.size w W)=>(show Ol W B lb.length cb 70 lb from⟨(hB.below hb).more hb.size,rfl,eP.1,hf.1,hf.2⟩));obtain⟨nb,eF⟩:∃n,lb.length=n:=⟨_,rfl⟩;have GX:=hide eF;simp only[eF] at F9 ql Oj ⊢;obtain⟨gb,aR⟩:∃q,Opm.great lb=q:=⟨_,rfl⟩;obtain⟨mb,gH⟩:∃q,Opm.may lb=q:=⟨_,rfl⟩;rw[aR] at F9;simp only[gH] at ql;have JM:=fun h=>Opm.Ju (l:=lb) (aR.trans h);rw[eF] at JM eP;have Yw:=hide JM;have YV:=hide (fun h=>Opm.LG (l:=lb) (gH.trans h));have Hlb:=hide eP;clear eF aR gH hB eP JM;have Gc:=hide (FO lc C cc w.heap.size w hC (Nat.le_trans hlc.1 hlc.2));have Gk:=hide (fun (hf:lc.length≤70∧∀y∈lc,y.pre.length≤300∧y.ns.length≤300) W (hb:Below w.heap.size w W)=>Im lc C cc W ((hC.below hb).more hb.size) (fun y hy=>by have:=hf.2 y hy;omega) (by omega) hlc.1)
 have Om:=hide (fun (hf:lc.length≤70∧∀y∈lc,y.pre.length≤300∧y.ns.length≤300) W (hb:Below w.heap.size w W)=>(show Ol W C lc.length cc 70 lc from⟨(hC.below hb).more hb.size,rfl,hlc.1,hf.1,hf.2⟩));obtain⟨nc,tG⟩:∃n,lc.length=n:=⟨_,rfl⟩;have Hnc:=hide tG;simp only[tG] at Gc Gk Om ⊢;obtain⟨gc,Ki⟩:∃q,Opm.great lc=q:=⟨_,rfl⟩;obtain⟨mc,Eu⟩:∃q,Opm.may lc=q:=⟨_,rfl⟩;rw[Ki] at Gc;simp only[Eu] at Gk;have JN:=fun h=>Opm.Ju (l:=lc) (Ki.trans h);rw[tG] at JN hlc;have Yx:=hide JN;have YW:=hide (fun h=>Opm.LG (l:=lc) (Eu.trans h));have Pa:=hide hlc;clear tG Ki Eu hC hlc JN;clear hg jM
 go_enter Tryz.func4,Tryz.ntmps4
 go_wp2_with fail
 refine cq F8.out ?_;dsimp only
 cases ga with
 | true=>
  go_wp2_with fail
  refine (uB.out _ (Below.refl w.heap.size w)).mono ?_;rintro e wz ⟨rfl,gG⟩;have HZ:=hide ((Below.refl w.heap.size w).trans (gG.mono (Below.refl w.heap.size w).size));clear gG;dsimp only;go_wp2;go_ret;exact⟨rfl,HZ.out⟩
 | false=>
  have Ry:=Yv.out rfl;have NU:=hide Ry;clear Ry
  go_wp2_with fail
  refine cq F9.out ?_;dsimp only
  cases gb with
  | true=>
   go_wp2_with fail
   refine (uB.out _ (Below.refl w.heap.size w)).mono ?_;rintro e wz ⟨rfl,gG⟩;have HZ:=hide ((Below.refl w.heap.size w).trans (gG.mono (Below.refl w.heap.size w).size));clear gG;dsimp only;go_wp2;go_ret;exact⟨rfl,HZ.out⟩
  | false=>
   have Rz:=Yw.out rfl;have NV:=hide Rz;clear Rz
   go_wp2_with fail
   refine cq Gc.out ?_;dsimp only
   cases gc with
   | true=>
    go_wp2_with fail
    refine (uB.out _ (Below.refl w.heap.size w)).mono ?_;rintro e wz ⟨rfl,gG⟩;have HZ:=hide ((Below.refl w.heap.size w).trans (gG.mono (Below.refl w.heap.size w).size));clear gG;dsimp only;go_wp2;go_ret;exact⟨rfl,HZ.out⟩
   | false=>
    have RA:=Yx.out rfl;have NW:=hide RA;clear RA
    go_wp2_with fail
    refine (kU.out NU.out _ (Below.refl w.heap.size w)).mono ?_;rintro e w1 ⟨rfl,hb⟩;have az:=hide ((Below.refl w.heap.size w).trans (hb.mono (Below.refl w.heap.size w).size));clear hb;dsimp only
    cases ma with
    | false=>
     go_wp2_with fail
     refine (uB.out _ az.out).mono ?_;rintro e wz ⟨rfl,gG⟩;have HZ:=hide (az.out.trans (gG.mono az.out.size));clear gG;dsimp only;go_wp2;go_ret;exact⟨rfl,HZ.out⟩
    | true=>
     have xz:=YU.out rfl
     go_wp2_with fail
     refine (ql.out NV.out _ az.out).mono ?_;rintro e w2 ⟨rfl,hb⟩;have ah:=hide (az.out.trans (hb.mono az.out.size));clear hb;dsimp only
     cases mb with
     | false=>
      go_wp2_with fail
      refine (uB.out _ ah.out).mono ?_;rintro e wz ⟨rfl,gG⟩;have HZ:=hide (ah.out.trans (gG.mono ah.out.size));clear gG;dsimp only;go_wp2;go_ret;exact⟨rfl,HZ.out⟩
     | true=>
      have Eb:=YV.out rfl
      go_wp2_with fail
      refine (Gk.out NW.out _ ah.out).mono ?_;rintro e w3 ⟨rfl,hb⟩;have ax:=hide (ah.out.trans (hb.mono ah.out.size));clear hb;dsimp only
      cases mc with
      | false=>
       go_wp2_with fail
       refine (uB.out _ ax.out).mono ?_;rintro e wz ⟨rfl,gG⟩;have HZ:=hide (ax.out.trans (gG.mono ax.out.size));clear gG;dsimp only;go_wp2;go_ret;exact⟨rfl,HZ.out⟩
      | true=>
       have RY:=YW.out rfl;have JF:=Opm.afF xz Eb;have X2:=hide (Opm.afE xz Eb RY);have YO:=hide (Opm.afH xz);have Yu:=hide (Opm.afG xz);have X1:=hide (Opm.afD xz Eb);rw[fj.out,GX.out] at JF;have jW:=hide JF;have dg:=hide (Oi.out NU.out w3 ax.out);have ee:=hide (Oj.out NV.out w3 ax.out);have eL:=hide (Om.out NW.out w3 ax.out);clear xz Eb RY JF
       go_wp2_with fail
       refine (vZ dg.out ee.out (by omega)).mono ?_;rintro e w4 ⟨AM,nM,cM,rfl,hO,hb⟩;have HM:=hide hO;have cd:=hide (ax.out.trans (hb.mono ax.out.size));replace dg:=hide (dg.out.go hb);replace ee:=hide (ee.out.go hb);replace eL:=hide (eL.out.go hb);clear hO hb;dsimp only;have RN:=HM.out.e;have hMc:=HM.out.cp;have cB:(na:Int)≤nM:=by have:=jW.out.2.1;omega
       have aY:(nM:Int)≤na+nb:=by have:=jW.out.2.2;omega
       have oB:(na:Int)≤cM:=by omega
       have hi5:na≤70∧nb≤70:=⟨dg.out.kp,ee.out.kp⟩
       have Yo:=hide (show Ol w4 AM na cM 70 ((Opm.di la lb).take la.length) from by
        have h:=HM.out.r;rw[←RN] at h;have h2:=h.QR (j:=la.length) (by rw[fj.out];omega);rw[List.length_take,Nat.min_eq_left (by rw[fj.out];omega),fj.out] at h2;exact⟨by rw[fj.out];exact h2,by rw[List.length_take,fj.out];omega,by omega,by omega,fun x hx=>HM.out.u x (List.mem_of_mem_take hx)⟩)
       clear RN
       go_wp2_with fail
       refine (BB Yo.out dg.out (by omega) (by rw[fj.out];exact jW.out.1)).mono ?_;rintro e w5 ⟨rfl,hb⟩;have se:=hide (cd.out.trans (hb.mono cd.out.size));replace dg:=hide (dg.out.go hb);replace ee:=hide (ee.out.go hb);replace eL:=hide (eL.out.go hb);replace HM:=hide (HM.out.go hb);clear hb;dsimp only
       go_wp2_with fail
       refine (vZ HM.out eL.out (by omega)).mono ?_;rintro e w6 ⟨AP,nP,cP,rfl,hO,hb⟩;have HP:=hide hO;have Cm:=hide (se.out.trans (hb.mono se.out.size));replace dg:=hide (dg.out.go hb);replace ee:=hide (ee.out.go hb);replace eL:=hide (eL.out.go hb);replace HM:=hide (HM.out.go hb);clear hO hb;dsimp only
       go_wp2_with fail
       refine (vZ ee.out eL.out (by omega)).mono ?_;rintro e w7 ⟨AQ,nQ,cQ,rfl,hO,hb⟩;have HQ:=hide hO;have Cn:=hide (Cm.out.trans (hb.mono Cm.out.size));replace dg:=hide (dg.out.go hb);replace ee:=hide (ee.out.go hb);replace eL:=hide (eL.out.go hb);replace HM:=hide (HM.out.go hb);replace HP:=hide (HP.out.go hb);clear hO hb;dsimp only
       go_wp2_with fail
       refine (vZ dg.out HQ.out (by omega)).mono ?_;rintro e w8 ⟨AS,nS,cS,rfl,hO,hb⟩;have HS:=hide hO;have gO:=hide (Cn.out.trans (hb.mono Cn.out.size));replace dg:=hide (dg.out.go hb);replace ee:=hide (ee.out.go hb);replace eL:=hide (eL.out.go hb);replace HM:=hide (HM.out.go hb);replace HP:=hide (HP.out.go hb);clear hO hb;dsimp only
       go_wp2_with fail
       refine (BB HP.out HS.out (by omega) X2.out).mono ?_;rintro e w9 ⟨rfl,hb⟩;have Co:=hide (gO.out.trans (hb.mono gO.out.size));replace dg:=hide (dg.out.go hb);replace ee:=hide (ee.out.go hb);replace eL:=hide (eL.out.go hb);replace HM:=hide (HM.out.go hb);clear hb;dsimp only
       go_wp2_with fail
       refine (vZ dg.out dg.out (by omega)).mono ?_;rintro e kP ⟨AT,nT,cT,rfl,hO,hb⟩;have HT:=hide hO;have Ny:=hide (Co.out.trans (hb.mono Co.out.size));replace dg:=hide (dg.out.go hb);replace ee:=hide (ee.out.go hb);replace eL:=hide (eL.out.go hb);replace HM:=hide (HM.out.go hb);clear hO hb;dsimp only
       go_wp2_with fail
       refine (BB HT.out dg.out (by omega) YO.out).mono ?_;rintro e tY ⟨rfl,hb⟩;have Nz:=hide (Ny.out.trans (hb.mono Ny.out.size));replace dg:=hide (dg.out.go hb);replace ee:=hide (ee.out.go hb);replace eL:=hide (eL.out.go hb);replace HM:=hide (HM.out.go hb);clear hb;dsimp only;have qo:=hide (Ol.none tY)
       go_wp2_with fail
       refine (vZ qo.out dg.out (by omega)).mono ?_;rintro e Ce ⟨AV,nV,cV,rfl,hO,hb⟩;have HV:=hide hO;have Cl:=hide (Nz.out.trans (hb.mono Nz.out.size));replace dg:=hide (dg.out.go hb);replace ee:=hide (ee.out.go hb);replace eL:=hide (eL.out.go hb);replace HM:=hide (HM.out.go hb);clear hO hb;dsimp only
       go_wp2_with fail
       refine (BB HV.out dg.out (by omega) Yu.out).mono ?_;rintro e w13 ⟨rfl,hb⟩;have NA:=hide (Cl.out.trans (hb.mono Cl.out.size));replace dg:=hide (dg.out.go hb);replace ee:=hide (ee.out.go hb);replace eL:=hide (eL.out.go hb);replace HM:=hide (HM.out.go hb);clear hb;dsimp only
       go_wp2_with fail
       refine (vZ HM.out ee.out (by omega)).mono ?_;rintro e w14 ⟨AX,nX,cX,rfl,hO,hb⟩;have HX:=hide hO;have NB:=hide (NA.out.trans (hb.mono NA.out.size));replace dg:=hide (dg.out.go hb);replace ee:=hide (ee.out.go hb);replace eL:=hide (eL.out.go hb);replace HM:=hide (HM.out.go hb);clear hO hb;dsimp only
       go_wp2_with fail
       refine (BB HX.out HM.out (by omega) X1.out).mono ?_;rintro e w15 ⟨rfl,hb⟩;have FW:=hide (NB.out.trans (hb.mono NB.out.size));replace dg:=hide (dg.out.go hb);replace ee:=hide (ee.out.go hb);replace eL:=hide (eL.out.go hb);clear hb;dsimp only
       go_wp2_with fail
       refine (uB.out _ FW.out).mono ?_;rintro e wz ⟨rfl,gG⟩;have HZ:=hide (FW.out.trans (gG.mono FW.out.size));clear gG;dsimp only;go_wp2;go_ret;exact⟨rfl,HZ.out⟩
end
end Go.Proofs.YtifiiojchlaghaaGreatDoor
