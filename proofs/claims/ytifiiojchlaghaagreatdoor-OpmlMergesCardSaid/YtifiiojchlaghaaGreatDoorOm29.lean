/- NFC: scalars composed: nfc.compose. And more. -/
import Derived.Test.YtifiiojchlaghaaGreatDoorOm04
import Derived.Test.YtifiiojchlaghaaGreatDoorOm28
import Derived.Maps.OwnIn
set_option linter.unusedSimpArgs false
set_option maxRecDepth 100000
set_option maxHeartbeats 8000000
set_option linter.unusedVariables false
namespace Go.Proofs.YtifiiojchlaghaaGreatDoor
section
open Go.RowKit Go.WideShapes

namespace Nf
structure jV(s:Cs):Prop where
 lU : -1≤s.st
 qd:s.st<s.out.length
 qX : -1≤s.hi
 cB:s.hi≤240
 ok:∀x∈s.out,Ok x
theorem abb:jV ⟨[],-1,-1⟩:=⟨by simp,by simp,by simp,by simp,fun x hx=>by cases hx⟩
theorem QD{s:Cs}{r v:Int}(h0:0≤s.st∧s.hi<cls r)(hw:whole (s.out.getD s.st.toNat 0) r=some v):gR s r=⟨s.out.set s.st.toNat v,s.st,s.hi⟩:=by
 unfold gR;rw[if_pos h0,hw]
theorem xd{s:Cs}{r:Int}(h:(0≤s.st∧s.hi<cls r)→whole (s.out.getD s.st.toNat 0) r=none)(hc:cls r=0):gR s r=⟨s.out++[r],s.out.length,-1⟩:=by
 unfold gR
 by_cases h0:0≤s.st∧s.hi<cls r
 ·rw[if_pos h0,h h0,if_pos hc]
 rw[if_neg h0,if_pos hc]
theorem zN{s:Cs}{r:Int}(h:(0≤s.st∧s.hi<cls r)→whole (s.out.getD s.st.toNat 0) r=none)(hc:cls r≠0):gR s r=⟨s.out++[r],s.st,max s.hi (cls r)⟩:=by
 unfold gR
 by_cases h0:0≤s.st∧s.hi<cls r
 ·rw[if_pos h0,h h0,if_neg hc]
 rw[if_neg h0,if_neg hc]
theorem jV.app{out:List Int}{st iH hi' r:Int}(h:∀x∈out,Ok x)(hr:Ok r)(h0 : -1≤iH)(h1:iH≤out.length)(h2 : -1≤hi')(h3:hi'≤240):jV ⟨out++[r],iH,hi'⟩ :=
 ⟨h0,by simp;omega,h2,h3,fun x hx=>by
  rcases List.mem_append.1 hx with hx|hx
  ·exact h x hx
  rw[List.mem_singleton] at hx;subst hx;exact hr⟩
theorem Ro{l:List Int}{k:Nat}{x:Int}(h:l[k]?=some x):l.getD k 0=x:=by
 rw[List.getD_eq_getElem?_getD,h];rfl
theorem jV.set{out:List Int}{st hi v:Int}{k:Nat}(h:jV ⟨out,st,hi⟩)(hv:Ok v):jV ⟨out.set k v,st,hi⟩ :=
 ⟨h.lU,by have:=h.qd;simpa using this,h.qX,h.cB,fun x hx=>by
  rcases List.mem_or_eq_of_mem_set hx with hx|hx
  ·exact h.ok x hx
  subst hx;exact hv⟩
theorem jV.step{s:Cs}{r:Int}(h:jV s)(hr:Ok r):jV (gR s r):=by
 have hc:=n8 r
 by_cases h0:0≤s.st∧s.hi<cls r
 ·cases hw:whole (s.out.getD s.st.toNat 0) r with
  | some v=>
   rw[QD h0 hw];obtain⟨x,hx⟩:∃x,s.out[s.st.toNat]?=some x:=⟨_,List.getElem?_eq_getElem (by have:=h.qd;omega)⟩;rw[Ro hx] at hw;exact jV.set h (Xs hw (h.ok x (List.mem_of_getElem? hx)))
  | none=>
   by_cases h1:cls r=0
   ·rw[xd (fun _=>hw) h1];exact jV.app (st:=0) h.ok hr (by omega) (by omega) (by omega) (by omega)
   rw[zN (fun _=>hw) h1];exact jV.app (st:=0) h.ok hr h.lU (by have:=h.qd;omega) (by have:=h.qX;omega) (by have:=h.cB;omega)
 by_cases h1:cls r=0
 ·rw[xd (fun h=>absurd h h0) h1];exact jV.app (st:=0) h.ok hr (by omega) (by omega) (by omega) (by omega)
 rw[zN (fun h=>absurd h h0) h1];exact jV.app (st:=0) h.ok hr h.lU (by have:=h.qd;omega) (by have:=h.qX;omega) (by have:=h.cB;omega)
theorem QC(s:Cs)(r:Int):(gR s r).out.length≤s.out.length+1:=by
 unfold gR;split
 ·simp
 split<;>simp
def dJ(l:List Int)(j:Nat):Cs:=(l.take j).foldl gR ⟨[],-1,-1⟩
theorem QB{l:List Int}{j:Nat}{r:Int}(h:l[j]?=some r):dJ l (j+1)=gR (dJ l j) r:=by
 unfold dJ;rw[List.take_add_one,h,List.foldl_append];rfl
theorem IX{l:List Int}(h:∀x∈l,Ok x):∀j,jV (dJ l j)∧(dJ l j).out.length≤j
 | 0=>⟨by unfold dJ;simpa using abb,by unfold dJ;simp⟩
 | j+1=>by
  obtain⟨h1,h2⟩:=IX h j
  cases hr:l[j]? with
  | none=>
   have e:dJ l (j+1)=dJ l j:=by unfold dJ;rw[List.take_add_one,hr];simp
   rw[e];exact⟨h1,by omega⟩
  | some r=>
   rw[QB hr];have:=QC (dJ l j) r;exact⟨h1.step (h r (List.mem_of_getElem? hr)),by omega⟩
end Nf
theorem ai.akd{R:Nat}{w w':World}(h:ai R w w'):w.grownBy w' (some R):=⟨h.os,h.tape,h.output,h.size,fun k hk hne=>h.block k hk (fun e=>hne (by rw[e]))⟩
theorem Ve{w w':World}{base mb n c:Nat}{A:Option Addr}{xs:List Value}{D:DataW Unit}{k:Nat}(h:w.ownsRow base 3 1 (.slice A n c) n xs)(hm:gP w mb k D)(hb:ai mb w w'):w'.ownsRow base 3 1 (.slice A n c) n xs :=
 h.kept hb.akd (by
  cases hv:(Value.slice A n c).ownBlock with
  | none=>exact .inl rfl
  | some g=>
   refine .inr fun e=>?_;injection e with e
   exact hm.UW g 3 (aI h g hv).2 e)
theorem gP.kept{w w':World}{base mb n c k:Nat}{A:Option Addr}{xs:List Value}{D:DataW Unit}(hm:gP w mb k D)(h:w.ownsRow base 3 1 (.slice A n c) n xs)(hg:w.grownBy w' (Value.slice A n c).ownBlock):gP w' mb k D :=
 hm.same (hg.block mb hm.lt fun e=>hm.UW mb 3 (aI h mb e.symm).2 rfl)
theorem aa3(l:List Int)(A:Option Addr)(c:Nat)(w:World)(hr:Reads w w.heap.size 1 A l.length (ar l))(bY:∀x∈l,Nf.Ok x)(hs:l.length≤20000000) :
  Calls Tryz.prog 110 #[.slice A l.length c] w fun e w'=>∃A' c',e=.returned (.slice A' (Nf.compose l).length c')∧w'.ownsRow w.heap.size 3 1 (.slice A' (Nf.compose l).length c') (Nf.compose l).length (ar (Nf.compose l))∧Below w.heap.size w w':=by
 obtain⟨L,hL⟩:∃L,l.length=L:=⟨_,rfl⟩;have HL:=hide hL;rw[hL] at hr hs;rw[hL];have HR:=hide hr;have ig:=hide bY;have FZ:=hide (Nf.IX bY);have ui:=hide (fun r W=>Dn r W);have ir:=@run_makeMap Tryz.prog;clear hL hr bY
 go_enter Tryz.func110,Tryz.ntmps110
 go_wp2;have qj:=hide ((gP.new w).same (W':=(w.alloc (.map #[] 0)).alloc (.cells #[.map (some w.heap.size)] 189)) (Below.heap_alloc _ _ _ (by simp)))
 have ur:=hide (show ae ((w.alloc (.map #[] 0)).alloc (.cells #[.map (some w.heap.size)] 189)) (w.heap.size+1) 189 #[.map (some w.heap.size)] by
  have:=ae.new (w.alloc (.map #[] 0)) 189 #[.map (some w.heap.size)];rwa[World.size_alloc] at this)
 have kR:=hide ((aA w (.map #[] 0)).trans ((aA (w.alloc (.map #[] 0)) (.cells #[.map (some w.heap.size)] 189)).mono (by simp)))
 go_loopg [2,5,6,16] L (fun gk v2 v5 v6 v16 wr=>∃(j n:Nat) (A':Option Addr) (c':Nat) (D:DataW Unit),gk=L-j∧j≤L∧v16=.int .i64 (j:Int)∧v2=.slice A' (Nf.dJ l j).out.length c'∧v5=.int .i64 (Nf.dJ l j).st∧v6=.int .i64 (Nf.dJ l j).hi∧
  wr.ownsRow w.heap.size 3 1 (.slice A' (Nf.dJ l j).out.length c') (Nf.dJ l j).out.length (ar (Nf.dJ l j).out)∧gP wr w.heap.size n D∧n≤j∧ae wr (w.heap.size+1) 189 #[.map (some w.heap.size)]∧Below w.heap.size w wr)
 case atStart=>exact⟨0,0,none,0,.map [],rfl,by omega,rfl,rfl,rfl,rfl,World.ownsRow_nil _ _ _ _,qj.out,Nat.le_refl _,ur.out,kR.out⟩
 case round=>
  obtain⟨j,n,A',c',D,aq,hj,rfl,rfl,rfl,rfl,ho,hm,EA,hk,hb⟩:=hrel;have Hg:=hide aq;have HB:=hide hb;have HM:=hide hm;have HK:=hide hk;clear aq hb hm hk
  by_cases hlt:j<L
  ·obtain⟨r,iw⟩:∃r,l[j]?=some r:=⟨_,List.getElem?_eq_getElem (by rw[HL.out];exact hlt)⟩;obtain⟨gb,off,rfl,dN,hcell⟩:=HR.out.2 (by omega);have y0:wr.cell? ⟨gb,off+j,none⟩=some (.int .i64 r):=(HB.out.cell dN).trans (hcell j _ (by unfold ar;rw[List.getElem?_map,iw];rfl));have HN:=hide (Nf.QB iw);obtain⟨hcs,jG⟩:=FZ.out j;have jC:=hide (ig.out r (List.mem_of_getElem? iw));obtain⟨⟨out,st,hi⟩,hs0⟩:∃s,Nf.dJ l j=s:=⟨_,rfl⟩;have kW:=hide hs0;rw[hs0] at hcs jG ho HN ⊢;dsimp only at hcs jG ho ⊢;have X5:=hide hcs;have HO:=hide ho;obtain⟨m,hm⟩:∃m,out.length=m:=⟨_,rfl⟩;have Hm:=hide hm;rw[hm] at jG HO ⊢;obtain⟨cr,lC⟩:∃cr,Nf.cls r=cr:=⟨_,rfl⟩;have eC:=hide (fun W=>ui.out r W);rw[lC] at eC;have jd:=hide lC;have Tw:=hcs.lU;have adp:=hcs.qX;have adq:=hcs.cB;have aeg:st<(m:Int):=by rw[←hm];exact hcs.qd
   have ade:0≤cr∧cr≤240:=by rw[←lC];exact Nf.n8 r
   dsimp only at Tw adp adq;clear hcell iw hs0 hcs ho hm lC
   by_cases Aj:0≤st∧hi<cr
   ·obtain⟨h0,h1⟩:=Aj;obtain⟨k,rfl⟩:∃k:Nat,st=k:=⟨st.toNat,by omega⟩;obtain⟨x,hx⟩:∃x,out[k]?=some x:=⟨_,List.getElem?_eq_getElem (by rw[Hm.out];omega)⟩;obtain⟨g,cap,mz,aR,SE⟩:=HO.out.form (by omega);injection mz with hA _ xB
    subst hA;subst xB;have q1:wr.cell? ⟨g,k,none⟩=some (.int .i64 x):=(HO.out.cellAt k (by omega)).trans (by unfold ar;rw[List.getElem?_map,hx];rfl);have Hx:=hide hx;have ZB:=hide (X5.out.ok x (List.mem_of_getElem? hx));have AJ:k<m:=by omega
    have CC:=hide (af2 x r (w.heap.size+1) w.heap.size n D wr ZB.out jC.out HK.out HM.out (by omega));have OX:=hide (show (out.getD ((k:Int)).toNat 0)=x by rw[Int.toNat_natCast];exact Nf.Ro Hx.out);clear hx aR SE
    cases hw:Nf.whole x r with
    | some v=>
     have HV:=hide (show jU x r=.tuple #[.int .i64 v,.bool true] by unfold jU;rw[hw]);have Hw:=hide hw;rw[HV.out] at CC;clear hw HV
     go_wp2_with fail
     go_wp2_with fail
     refine cq (eC.out _) ?_
     go_wp2_with fail
     refine CC.out.mono ?_;rintro e w2 ⟨n',D',rfl,e7,Kv,ag⟩;have uv:=hide e7;have ah:=hide (HB.out.trans (ag.below (Nat.le_refl _) HB.out.size));have aL:=hide (Ve HO.out HM.out ag);have cK:=hide (ag.blk HK.out (by omega));have q2:=(aL.out.cellAt k (by omega)).trans (show _=some (Value.int .i64 x) by unfold ar;rw[List.getElem?_map,Hx.out];rfl);have f2:=aL.out.frozenAt k;have hst:=aL.out.stored k (.int .i64 v);have cf:=hide hst.1;have lY:=hide (uv.out.kept aL.out (show w2.grownBy (w2.setCell ⟨g,k,none⟩ (.int .i64 v)) (Value.slice (some ⟨g,0,none⟩) m c').ownBlock from hst.2));have cD:=hide (cK.out.grown hst.2 (fun e=>dc aL.out cK.out (by decide) e.symm));have ax:=hide (ah.out.setCell (p:=⟨g,k,none⟩) (by exact (aI aL.out g rfl).1) (.int .i64 v));clear e7 ag hst q1;dsimp only;go_wp2
     go_roundg (L-(j+1))
     case measure=>have:=Hg.out;omega
     case rel=>
      have e1:Nf.dJ l (j+1)=⟨out.set k v,(k:Int),hi⟩:=by
       rw[HN.out,Nf.QD (s:=⟨out,(k:Int),hi⟩) (v:=v) ⟨by omega,by rw[jd.out];exact h1⟩ (by show Nf.whole (out.getD ((k:Int)).toNat 0) r=some v;rw[OX.out];exact Hw.out)];simp only[Int.toNat_natCast]
      have e2:(out.set k v).length=m:=by rw[List.length_set,Hm.out]
      refine⟨j+1,n',some ⟨g,0,none⟩,c',D',rfl,by omega,by first|rfl|go_num,by rw[e1,e2],by rw[e1],by rw[e1],?_,lY.out,by omega,cD.out,ax.out⟩;rw[e1,e2];have:=cf.out;unfold ar at this ⊢;rw[List.map_set];exact this
    | none=>
     have HV:=hide (show jU x r=.tuple #[.int .i64 0,.bool false] by unfold jU;rw[hw]);have Hw:=hide (show Nf.whole (out.getD ((k:Int)).toNat 0) r=none by rw[OX.out];exact hw);rw[HV.out] at CC;clear hw HV
     go_wp2_with fail
     go_wp2_with fail
     refine cq (eC.out _) ?_
     go_wp2_with fail
     refine CC.out.mono ?_;rintro e w2 ⟨n',D',rfl,e7,Kv,ag⟩;have uv:=hide e7;have ah:=hide (HB.out.trans (ag.below (Nat.le_refl _) HB.out.size));have aL:=hide (Ve HO.out HM.out ag);have cK:=hide (ag.blk HK.out (by omega));obtain⟨WJ,vN⟩:∃WJ:Int,WJ=(k:Int):=⟨_,rfl⟩;clear e7 ag q1;dsimp only
     by_cases hz:cr=0
     ·have Hz:=hide hz;have hzd:decide (cr=0)=true:=decide_eq_true hz;have hzb:(cr==0)=true:=by simp[hz]
      have zl:IntKind.i64.wrap (((m+1:Nat):Int)-1)=(m:Int):=by rw[IntWalk.i64_in _ (by omega)];omega
      clear hz;have gH:m≤20000000:=by omega
      have aM:=ah.out.size
      go_wp2_with (at_builtin;go_loud (refine fy w2 rfl (.tmp 44) (.tmp 46) 166 rfl w.heap.size (.int .i64 0) 1 8 Tryz.underlying166 fU rfl (by omega) _ m (ar out) rfl aL.out rfl (by simp[Value.oneCell']) rfl (by unfold maxLen;omega) (by omega) aM ?_);intro g cap w3 bX bB _ _ _;have cf:=hide (show w3.ownsRow w.heap.size 3 1 (.slice (some ⟨g,0,none⟩) (m+1) cap) (m+1) (ar (out++[r])) from (iB out [r]).symm▸bX);have lY:=hide (uv.out.kept aL.out bB);have cD:=hide (cK.out.grown bB (fun e=>dc aL.out cK.out (by decide) e.symm));have ax:=hide (ah.out.grown bB ah.out.size (fun k e=>(aI aL.out k e).1));clear bX bB)
      go_roundg (L-(j+1))
      case measure=>have:=Hg.out;omega
      case rel=>
       have e1:Nf.dJ l (j+1)=⟨out++[r],m,-1⟩:=by
        rw[HN.out,Nf.xd (s:=⟨out,(k:Int),hi⟩) (fun _=>Hw.out) (by rw[jd.out];exact Hz.out)];simp only[Hm.out]
       have e2:(out++[r]).length=m+1:=by rw[List.length_append,Hm.out];rfl
       refine⟨j+1,n',some ⟨g,0,none⟩,cap,D',rfl,by omega,by first|rfl|go_num,by rw[e1,e2],by rw[e1]<;>first|rfl|go_num,by rw[e1],by rw[e1,e2];exact cf.out,lY.out,by omega,cD.out,ax.out⟩
     have Hz:=hide hz;have hzd:decide (cr=0)=false:=decide_eq_false hz;have hzb:(cr==0)=false:=by simp[hz]
     have zl:IntKind.i64.wrap (((m+1:Nat):Int)-1)=(m:Int):=by rw[IntWalk.i64_in _ (by omega)];omega
     obtain⟨mx,hmx⟩:∃mx,max hi cr=mx:=⟨_,rfl⟩;have zg:=hide hmx;have gH:m≤20000000:=by omega
     have aM:=ah.out.size
     go_wp2_with (at_builtin;go_loud (refine fy w2 rfl (.tmp 44) (.tmp 46) 166 rfl w.heap.size (.int .i64 0) 1 8 Tryz.underlying166 fU rfl (by omega) _ m (ar out) rfl aL.out rfl (by simp[Value.oneCell']) rfl (by unfold maxLen;omega) (by omega) aM ?_);intro g cap w3 bX bB _ _ _;have cf:=hide (show w3.ownsRow w.heap.size 3 1 (.slice (some ⟨g,0,none⟩) (m+1) cap) (m+1) (ar (out++[r])) from (iB out [r]).symm▸bX);have lY:=hide (uv.out.kept aL.out bB);have cD:=hide (cK.out.grown bB (fun e=>dc aL.out cK.out (by decide) e.symm));have ax:=hide (ah.out.grown bB ah.out.size (fun k e=>(aI aL.out k e).1));clear bX bB)
     go_roundg (L-(j+1))
     case measure=>have:=Hg.out;omega
     case rel=>
      have e1:Nf.dJ l (j+1)=⟨out++[r],(k:Int),mx⟩:=by
       rw[HN.out,Nf.zN (s:=⟨out,(k:Int),hi⟩) (fun _=>Hw.out) (by rw[jd.out];exact Hz.out)];simp only[jd.out,zg.out]
      have e2:(out++[r]).length=m+1:=by rw[List.length_append,Hm.out];rfl
      refine⟨j+1,n',some ⟨g,0,none⟩,cap,D',rfl,by omega,by first|rfl|go_num,by rw[e1,e2],by rw[e1]<;>first|rfl|go_num,by rw[e1],by rw[e1,e2];exact cf.out,lY.out,by omega,cD.out,ax.out⟩
   have CL:=hide Aj
   by_cases h0:0≤st
   ·have h1:¬hi<cr:=fun h=>Aj ⟨h0,h⟩;clear Aj
    go_wp2_with fail
    go_wp2_with fail
    refine cq (eC.out _) ?_
    by_cases hz:cr=0
    ·have Hz:=hide hz;have hzd:decide (cr=0)=true:=decide_eq_true hz;have hzb:(cr==0)=true:=by simp[hz]
     have zl:IntKind.i64.wrap (((m+1:Nat):Int)-1)=(m:Int):=by rw[IntWalk.i64_in _ (by omega)];omega
     clear hz;have gH:m≤20000000:=by omega
     have aM:=HB.out.size
     go_wp2_with (at_builtin;go_loud (refine fy wr rfl (.tmp 44) (.tmp 46) 166 rfl w.heap.size (.int .i64 0) 1 8 Tryz.underlying166 fU rfl (by omega) _ m (ar out) rfl HO.out rfl (by simp[Value.oneCell']) rfl (by unfold maxLen;omega) (by omega) aM ?_);intro g cap w3 bX bB _ _ _;have cf:=hide (show w3.ownsRow w.heap.size 3 1 (.slice (some ⟨g,0,none⟩) (m+1) cap) (m+1) (ar (out++[r])) from (iB out [r]).symm▸bX);have lY:=hide (HM.out.kept HO.out bB);have cD:=hide (HK.out.grown bB (fun e=>dc HO.out HK.out (by decide) e.symm));have ax:=hide (HB.out.grown bB HB.out.size (fun k e=>(aI HO.out k e).1));clear bX bB)
     go_roundg (L-(j+1))
     case measure=>have:=Hg.out;omega
     case rel=>
      have e1:Nf.dJ l (j+1)=⟨out++[r],m,-1⟩:=by
       rw[HN.out,Nf.xd (s:=⟨out,st,hi⟩) (fun h=>absurd h (by rw[jd.out];exact CL.out)) (by rw[jd.out];exact Hz.out)];simp only[Hm.out]
      have e2:(out++[r]).length=m+1:=by rw[List.length_append,Hm.out];rfl
      refine⟨j+1,n,some ⟨g,0,none⟩,cap,D,rfl,by omega,by first|rfl|go_num,by rw[e1,e2],by rw[e1]<;>first|rfl|go_num,by rw[e1],by rw[e1,e2];exact cf.out,lY.out,by omega,cD.out,ax.out⟩
    have Hz:=hide hz;have hzd:decide (cr=0)=false:=decide_eq_false hz;have hzb:(cr==0)=false:=by simp[hz]
    have zl:IntKind.i64.wrap (((m+1:Nat):Int)-1)=(m:Int):=by rw[IntWalk.i64_in _ (by omega)];omega
    obtain⟨mx,hmx⟩:∃mx,max hi cr=mx:=⟨_,rfl⟩;have zg:=hide hmx;have gH:m≤20000000:=by omega
    have aM:=HB.out.size
    go_wp2_with (at_builtin;go_loud (refine fy wr rfl (.tmp 44) (.tmp 46) 166 rfl w.heap.size (.int .i64 0) 1 8 Tryz.underlying166 fU rfl (by omega) _ m (ar out) rfl HO.out rfl (by simp[Value.oneCell']) rfl (by unfold maxLen;omega) (by omega) aM ?_);intro g cap w3 bX bB _ _ _;have cf:=hide (show w3.ownsRow w.heap.size 3 1 (.slice (some ⟨g,0,none⟩) (m+1) cap) (m+1) (ar (out++[r])) from (iB out [r]).symm▸bX);have lY:=hide (HM.out.kept HO.out bB);have cD:=hide (HK.out.grown bB (fun e=>dc HO.out HK.out (by decide) e.symm));have ax:=hide (HB.out.grown bB HB.out.size (fun k e=>(aI HO.out k e).1));clear bX bB)
    go_roundg (L-(j+1))
    case measure=>have:=Hg.out;omega
    case rel=>
     have e1:Nf.dJ l (j+1)=⟨out++[r],st,mx⟩:=by
      rw[HN.out,Nf.zN (s:=⟨out,st,hi⟩) (fun h=>absurd h (by rw[jd.out];exact CL.out)) (by rw[jd.out];exact Hz.out)];simp only[jd.out,zg.out]
     have e2:(out++[r]).length=m+1:=by rw[List.length_append,Hm.out];rfl
     refine⟨j+1,n,some ⟨g,0,none⟩,cap,D,rfl,by omega,by first|rfl|go_num,by rw[e1,e2],by rw[e1]<;>first|rfl|go_num,by rw[e1],by rw[e1,e2];exact cf.out,lY.out,by omega,cD.out,ax.out⟩
   clear Aj
   go_wp2_with fail
   go_wp2_with fail
   refine cq (eC.out _) ?_
   by_cases hz:cr=0
   ·have Hz:=hide hz;have hzd:decide (cr=0)=true:=decide_eq_true hz;have hzb:(cr==0)=true:=by simp[hz]
    have zl:IntKind.i64.wrap (((m+1:Nat):Int)-1)=(m:Int):=by rw[IntWalk.i64_in _ (by omega)];omega
    clear hz;have gH:m≤20000000:=by omega
    have aM:=HB.out.size
    go_wp2_with (at_builtin;go_loud (refine fy wr rfl (.tmp 44) (.tmp 46) 166 rfl w.heap.size (.int .i64 0) 1 8 Tryz.underlying166 fU rfl (by omega) _ m (ar out) rfl HO.out rfl (by simp[Value.oneCell']) rfl (by unfold maxLen;omega) (by omega) aM ?_);intro g cap w3 bX bB _ _ _;have cf:=hide (show w3.ownsRow w.heap.size 3 1 (.slice (some ⟨g,0,none⟩) (m+1) cap) (m+1) (ar (out++[r])) from (iB out [r]).symm▸bX);have lY:=hide (HM.out.kept HO.out bB);have cD:=hide (HK.out.grown bB (fun e=>dc HO.out HK.out (by decide) e.symm));have ax:=hide (HB.out.grown bB HB.out.size (fun k e=>(aI HO.out k e).1));clear bX bB)
    go_roundg (L-(j+1))
    case measure=>have:=Hg.out;omega
    case rel=>
     have e1:Nf.dJ l (j+1)=⟨out++[r],m,-1⟩:=by
      rw[HN.out,Nf.xd (s:=⟨out,st,hi⟩) (fun h=>absurd h (by rw[jd.out];exact CL.out)) (by rw[jd.out];exact Hz.out)];simp only[Hm.out]
     have e2:(out++[r]).length=m+1:=by rw[List.length_append,Hm.out];rfl
     refine⟨j+1,n,some ⟨g,0,none⟩,cap,D,rfl,by omega,by first|rfl|go_num,by rw[e1,e2],by rw[e1]<;>first|rfl|go_num,by rw[e1],by rw[e1,e2];exact cf.out,lY.out,by omega,cD.out,ax.out⟩
   have Hz:=hide hz;have hzd:decide (cr=0)=false:=decide_eq_false hz;have hzb:(cr==0)=false:=by simp[hz]
   have zl:IntKind.i64.wrap (((m+1:Nat):Int)-1)=(m:Int):=by rw[IntWalk.i64_in _ (by omega)];omega
   obtain⟨mx,hmx⟩:∃mx,max hi cr=mx:=⟨_,rfl⟩;have zg:=hide hmx;have gH:m≤20000000:=by omega
   have aM:=HB.out.size
   go_wp2_with (at_builtin;go_loud (refine fy wr rfl (.tmp 44) (.tmp 46) 166 rfl w.heap.size (.int .i64 0) 1 8 Tryz.underlying166 fU rfl (by omega) _ m (ar out) rfl HO.out rfl (by simp[Value.oneCell']) rfl (by unfold maxLen;omega) (by omega) aM ?_);intro g cap w3 bX bB _ _ _;have cf:=hide (show w3.ownsRow w.heap.size 3 1 (.slice (some ⟨g,0,none⟩) (m+1) cap) (m+1) (ar (out++[r])) from (iB out [r]).symm▸bX);have lY:=hide (HM.out.kept HO.out bB);have cD:=hide (HK.out.grown bB (fun e=>dc HO.out HK.out (by decide) e.symm));have ax:=hide (HB.out.grown bB HB.out.size (fun k e=>(aI HO.out k e).1));clear bX bB)
   go_roundg (L-(j+1))
   case measure=>have:=Hg.out;omega
   case rel=>
    have e1:Nf.dJ l (j+1)=⟨out++[r],st,mx⟩:=by
     rw[HN.out,Nf.zN (s:=⟨out,st,hi⟩) (fun h=>absurd h (by rw[jd.out];exact CL.out)) (by rw[jd.out];exact Hz.out)];simp only[jd.out,zg.out]
    have e2:(out++[r]).length=m+1:=by rw[List.length_append,Hm.out];rfl
    refine⟨j+1,n,some ⟨g,0,none⟩,cap,D,rfl,by omega,by first|rfl|go_num,by rw[e1,e2],by rw[e1]<;>first|rfl|go_num,by rw[e1],by rw[e1,e2];exact cf.out,lY.out,by omega,cD.out,ax.out⟩
  go_wp2;go_ret;have xI:j=L:=by omega
  have e1:Nf.dJ l j=l.foldl Nf.gR ⟨[],-1,-1⟩:=by unfold Nf.dJ;rw[List.take_of_length_le (by rw[HL.out];omega)]
  have e2:(Nf.dJ l j).out=Nf.compose l:=by rw[e1];rfl
  rw[e2] at ho ⊢;exact⟨_,_,rfl,ho,HB.out⟩
end
section
open Go.RowKit Go.Shelf

attribute [local go_sem] Oper.semAt_some

theorem Cc{w w':World}{b e size n:Nat}{v:Value}{xs:List Value}(h:w.ownsRow b e size v n xs)(hb:Below w.heap.size w w'):w'.ownsRow b e size v n xs:=by
 refine⟨h.1,?_⟩
 rcases h.2 with hn|⟨g,cap,cur,rfl,jo,et,rest⟩
 ·exact .inl hn
 exact .inr ⟨g,cap,cur,rfl,jo,(hb.block g (Array.getElem?_eq_some_iff.1 et).1).trans et,rest⟩
theorem W8{w:World}{b e size n t:Nat}{v:Value}{xs:List Value}{p:Addr}{cs:Array Value}(h:w.ownsRow b e size v n xs)(hp:ae w p.block t cs)(ht:e≠t)(u:Value):(w.setCell p u).ownsRow b e size v n xs :=
 ownsRow_setCell_other h (dc h hp ht) u
def bo(l:List UInt8):List Int:=(Utf.pieces l).map (·.2)
def Right(l:List UInt8):Prop:=∀p∈Utf.pieces l,0≤p.2
def Da(w:World)(pre:List Pc)(W:World):Prop :=
 (∀x∈pre,0≤x.1.2)∧(∃v,Boxed W w.heap.size 166 v∧W.ownsRow w.heap.size 3 1 v pre.length (ar (pre.map (·.1.2))))∧(∃u,Boxed W (w.heap.size+1) 4 u)∧(∃u,Boxed W (w.heap.size+1+1) 9 u)∧Below w.heap.size w W
def PT(w:World)(c:Code)(pre:List Pc)(W:World):Prop:=(c=.ret∧∃x∈pre,x.1.2<0)∧Boxed W w.heap.size 166 (.slice none 0 0)∧Boxed W (w.heap.size+1) 4 (.bool false)∧Below w.heap.size w W
theorem Z5(w:World):OwnFrom (w.heap.size+1+1+1) (Da w):=by
 rintro s X Y row ⟨h0,⟨v,hv,hr⟩,⟨u,hu⟩,⟨u2,bH⟩,h3⟩ hg aj
 have hne:∀{B:Nat} {t:TypeId} {u:Value},Boxed X B t u→some B≠row:=fun h e=>by
  obtain⟨_,o,ho,hc⟩:=aj _ e.symm;rw[show X.heap[_]?=_ from h] at ho;cases ho;cases hc
 refine⟨h0,⟨v,hv.kept hg (hne hv),hr.kept hg ?_⟩,⟨u,hu.kept hg (hne hu)⟩,⟨u2,bH.kept hg (hne bH)⟩,h3.grown hg h3.size (fun k e=>by have:=(aj k e).1;omega)⟩
 rcases hr.2 with ⟨rfl,_⟩|⟨g,cap,cur,rfl,_,aR,_⟩
 ·exact .inl rfl
 refine .inr fun e'=>?_;obtain⟨_,o,ho,hc⟩:=aj g (by simpa[Value.ownBlock] using e'.symm);rw[aR] at ho;cases ho;cases hc
theorem Z6(w:World)(c:Code):OwnFrom (w.heap.size+1+1+1) (PT w c):=by
 rintro s X Y row ⟨h0,hv,hu,h3⟩ hg aj
 have hne:∀{B:Nat} {t:TypeId} {u:Value},Boxed X B t u→some B≠row:=fun h e=>by
  obtain⟨_,o,ho,hc⟩:=aj _ e.symm;rw[show X.heap[_]?=_ from h] at ho;cases ho;cases hc
 exact⟨h0,hv.kept hg (hne hv),hu.kept hg (hne hu),h3.grown hg h3.size (fun k e=>by have:=(aj k e).1;omega)⟩
theorem akv{w W W2 w1:World}{pre:List Pc}{x:Pc}{v v':Value}(h:Da w pre W)(hx:0≤x.1.2)(hW:Below W.heap.size W W2)(hv:Boxed W w.heap.size 166 v)(aj:W.ownsRow w.heap.size 3 1 v pre.length (ar (pre.map (·.1.2))))
  (hown:w1.ownsRow w.heap.size 3 1 v' (pre.length+1) (ar (pre.map (·.1.2))++[.int .i64 x.1.2])) (hgrow:W2.grownBy w1 v.ownBlock) :
  Boxed w1 w.heap.size 166 v∧KeepsOthers W (w1.setCell ⟨w.heap.size,0,none⟩ v')∧fo (w.heap.size+1+1) W (w1.setCell ⟨w.heap.size,0,none⟩ v')∧Da w (pre++[x]) (w1.setCell ⟨w.heap.size,0,none⟩ v'):=by
 obtain⟨h0,-,⟨u,hu⟩,⟨u2,bH⟩,h3⟩:=h;have c7:Boxed W2 w.heap.size 166 v:=hv.kept (cR hW none) (by simp);have TD:Boxed W2 (w.heap.size+1) 4 u:=hu.kept (cR hW none) (by simp);have TE:Boxed W2 (w.heap.size+1+1) 9 u2:=bH.kept (cR hW none) (by simp);have lO:W2.ownsRow w.heap.size 3 1 v pre.length (ar (pre.map (·.1.2))):=Cc aj hW;have bh:Boxed w1 w.heap.size 166 v:=c7.kept hgrow (c7.not_row (by decide) lO);have dT:Boxed w1 (w.heap.size+1) 4 u:=TD.kept hgrow (TD.not_row (by decide) lO);have TF:Boxed w1 (w.heap.size+1+1) 9 u2:=TE.kept hgrow (TE.not_row (by decide) lO);have hlen:(pre++[x]).length=pre.length+1:=by simp
 refine⟨bh,?_,?_,?_,⟨v',bh.set v',?_⟩,⟨u,?_⟩,⟨u2,?_⟩,?_⟩
 ·refine ((mH hW).trans (KeepsOthers.of_grownBy hgrow fun j o ej hj=>?_)).trans (KeepsOthers.setCell _ _ _);obtain⟨_,cs,fr,h⟩:=aI lO j ej;rw[h] at hj;cases hj;rfl
 ·exact (Below.heap_setCell _ _ _ _ (by simp;omega)).trans (TF.trans bH.symm)
 ·intro y hy
  rcases List.mem_append.1 hy with hy|hy
  ·exact h0 y hy
  simp only[List.mem_singleton] at hy;rw[hy];exact hx
 ·rw[hlen,show ar ((pre++[x]).map (·.1.2))=ar (pre.map (·.1.2))++[.int .i64 x.1.2] by simp[ar]];exact hown.kept (grownBy_setCell' w1 _ v') (.inr (bh.not_row (by decide) hown).symm)
 ·exact dT.kept (grownBy_setCell' w1 _ v') (by simp)
 ·exact TF.kept (grownBy_setCell' w1 _ v') (by simp;omega)
 exact ((h3.trans (hW.mono h3.size)).grown hgrow (Nat.le_trans h3.size hW.size) fun j ej=>(aI lO j ej).1).setCell (p:=⟨w.heap.size,0,none⟩) (Nat.le_refl _) v'
theorem Xd(b:ByteArray)(w:World)(hs:b.size≤1000000000) :
  Calls Tryz.prog 146 #[.string b] w fun e w'=>Below w.heap.size w w'∧((Right b.data.toList∧∃A c,e=.returned (.tuple #[.slice A (bo b.data.toList).length c,.bool true])∧Reads w' w'.heap.size 1 A (bo b.data.toList).length (ar (bo b.data.toList)))∨(¬Right b.data.toList∧e=.returned (.tuple #[.slice none 0 0,.bool false]))):=by
 refine (callsIn_wide (n:=5)).1 ?_;refine callsIn_of_wp_marks Tryz.func146 rfl trivial ?_ rfl;simp only[Tryz.ntmps146,List.size_toArray,List.length_cons,List.length_nil,Nat.reduceAdd,Nat.reduceSub,Array.replicate_succ,Array.replicate_zero,List.push_toArray,List.append_toArray,List.nil_append,List.cons_append]
 gi_wp2_with (refine⟨trivial,?_⟩;gi_at_call 108;refine (callsIn_wide.2 (VB _ _)).mono ?_;rintro e w' ⟨rfl,rfl⟩)
 have b0:=Boxed.new w 166 (.slice none 0 0);have b1:=Boxed.new (w.alloc (.cells #[.slice none 0 0] 166)) 4 (.bool false);rw[World.size_alloc] at b1;have b2:=Boxed.new ((w.alloc (.cells #[.slice none 0 0] 166)).alloc (.cells #[.bool false] 4)) 9 (.string b);rw[World.size_alloc,World.size_alloc] at b2
 have qT:Below w.heap.size w (((w.alloc (.cells #[.slice none 0 0] 166)).alloc (.cells #[.bool false] 4)).alloc (.cells #[.string b] 9)) :=
  (((Below.refl _ w).alloc (Nat.le_refl _) _).alloc (by simp) _).alloc (by simp;omega) _
 refine wpIn_rangeFunc_ownG rfl (by omega) (gf:=145) (lb:=#[.pointer (some ⟨w.heap.size+1+1,0,none⟩)]) rfl trivial (enters_of Tryz.func145 (by kernel_rfl) rfl)
  (VE (5-1) (by omega) (w.heap.size+1+1) b hs _ (by simp) b2.cell) fo.trans (BS (by simp)) (Below.refl _ _) (fun _=>rfl)
  (Da w) (PT w) (by simpa using Z5 w) (fun c=>by simpa using Z6 w c)
  ⟨fun x hx=>(by cases hx),⟨_,(b0.alloc _).alloc _,World.ownsRow_nil _ _ _ _⟩,⟨_,b1.alloc _⟩,⟨_,b2⟩,qT⟩
  (fun x=>{ tmps:=#[.string b,undef,.pointer (some ⟨w.heap.size,0,none⟩),.pointer (some ⟨w.heap.size+1,0,none⟩),undef,.int .i64 x.1.2,.string b,.func (.func 145) #[] #[.pointer (some ⟨w.heap.size+1+1,0,none⟩)],.int .i64 (x.1.1:Int),.int .i64 x.1.2,undef,undef,undef,undef,undef,undef,undef],defers:=[] }) ?assign ?body ?done ?stop
 case assign=>
  intro l x W K hK;gi_wp2;exact hK
 case body=>
  rintro l pre x W hI hlen;have HI:=hide hI;obtain⟨-,⟨v,hv,aj⟩,⟨u,hu⟩,-,hB⟩:=hI;obtain⟨A,c,rfl⟩:=rN aj;have hc0:=hv.cell;have Ay:=hv.frozen;have ni:=hu.frozen;have cU:=hu.cell;have mn:=hB.size
  by_cases hr:x.1.2<0
  ·have hd:decide (x.1.2<0)=true:=decide_eq_true hr;have Hr:=hide hr;have HB:=hide hB;clear hr hB aj;gi_wp2;exact⟨((KeepsOthers.setCell _ _ _).trans (KeepsOthers.setCell _ _ _)).from _,⟨rfl,x,by simp,Hr.out⟩,(hv.set (.slice none 0 0)).other (by omega) _,(hu.other (by omega) _).set _,(HB.out.setCell (p:=⟨w.heap.size,0,none⟩) (Nat.le_refl _) _).setCell (p:=⟨w.heap.size+1,0,none⟩) (by show w.heap.size≤w.heap.size+1;omega) _⟩
  have hd:decide (x.1.2<0)=false:=decide_eq_false hr;have Hr:=hide (show 0≤x.1.2 by omega);obtain⟨i,hi,hz,hsize,hby⟩:=info_parts fU;have HV:=hide hv;have HR:=hide aj;obtain⟨m,hm⟩:∃m,pre.length=m:=⟨_,rfl⟩;have Hm:=hide hm;rw[hm] at aj hc0 hlen;have hK:=ae.new W 3 #[.int .i64 x.1.2];have eF:=aA W (.cells #[.int .i64 x.1.2] 3);clear hr hm
  gi_wp2_with (gi_at_builtin;go_must (refine wpListIn_append_own_at _ rfl (.tmp 12) (.tmp 14) 166 rfl w.heap.size 3 i (.int .i64 0) 1 8 Tryz.underlying166 hi hz hsize hby rfl (by omega) (.slice A m c) m (ar (pre.map (·.1.2))) rfl (aj.alloc _) ⟨W.heap.size,0,none⟩ 1 1 [.int .i64 x.1.2] rfl rfl (fun j u hj=>World.news_of_block hK j u (by simpa using hj)) (by intro u hu;simp only[List.mem_singleton] at hu;rw[hu];rfl) (by unfold maxLen;omega) (by omega) (by simp;omega) ?_);intro v8 w8 aN aF _ _;obtain⟨A8,c8,rfl⟩:=rN aN;have SI:=(HV.out.kept (cR eF none) (by simp)).kept aF (by have h9:=(HV.out.kept (cR eF none) (by simp)).not_row (by decide) (Cc HR.out eF);rw[Hm.out] at h9;exact h9);have hc8:=SI.cell;have hf8:=SI.frozen)
  have AR:=aN;have vA:=aF;rw[←Hm.out] at AR vA;obtain⟨-,s2,s3,s4⟩:=akv HI.out Hr.out eF HV.out HR.out AR vA;rw[Hm.out] at s2 s3 s4;exact⟨s2.from _,s3,s4⟩
 case done=>
  rintro D ys W hD ew ⟨h0,⟨v,hv,aj⟩,⟨u,hu⟩,-,hB⟩ hK;obtain⟨A,c,rfl⟩:=rN aj;have hc0:=hv.cell;have Ay:=hv.frozen;have ni:=hu.frozen;have cU:=hu.cell;have Le:ys.map (·.1)=Utf.pieces b.data.toList:=ew;have k8:=hide (show ys.map (·.1.2)=bo b.data.toList by unfold bo;rw[←Le,List.map_map];rfl);have zf:=hide (show ys.length=(bo b.data.toList).length by rw[←k8.out,List.length_map]);obtain⟨n,hn⟩:∃n,ys.length=n:=⟨_,rfl⟩;rw[hn] at aj hv hc0 zf;rw[k8.out] at aj
  have YN:=hide (show Right b.data.toList from fun p hp=>by
   rw[←Le] at hp;obtain⟨x,hx,e⟩:=List.mem_map.1 hp;rw[←e];exact h0 x hx)
  clear ew Le hn h0;gi_wp2;have k0:ae W w.heap.size 166 #[.slice A n c]:=hv;have k1:ae W (w.heap.size+1) 4 #[u]:=hu;obtain⟨W2,qW⟩:∃W2,(W.setCell ⟨w.heap.size,0,none⟩ (.slice A n c)).setCell ⟨w.heap.size+1,0,none⟩ (.bool true)=W2:=⟨_,rfl⟩;have r0:ae W2 w.heap.size 166 #[.slice A n c]:=by rw[←qW];exact (k0.aG 0 _).far (p:=⟨w.heap.size+1,0,none⟩) (by simp) _
  have r1:ae W2 (w.heap.size+1) 4 #[.bool true]:=by rw[←qW];exact (k1.far (p:=⟨w.heap.size,0,none⟩) (by simp) _).aG 0 _
  have rD:W2.heap[D]?=some (.deferred (some [])):=by rw[←qW];exact (Below.heap_setCell _ _ _ _ (by simp at hD ⊢;omega)).trans ((Below.heap_setCell _ _ _ _ (by simp at hD ⊢;omega)).trans hK)
  have rB:Below w.heap.size w W2:=by rw[←qW];exact (hB.setCell (p:=⟨w.heap.size,0,none⟩) (Nat.le_refl _) _).setCell (p:=⟨w.heap.size+1,0,none⟩) (by simp) _
  have rR:W2.ownsRow w.heap.size 3 1 (.slice A n c) n (ar (bo b.data.toList)):=by rw[←qW];exact W8 (p:=⟨w.heap.size+1,0,none⟩) (W8 (p:=⟨w.heap.size,0,none⟩) aj k0 (by decide) _) (k1.far (p:=⟨w.heap.size,0,none⟩) (by simp) _) (by decide) _
  rw[qW];refine⟨by simp,.inl ⟨_,_,rfl,run_takeDeferred rD,?_⟩⟩;have q0:=cell_kept (r0.cell 0) (grownBy_putObj' _ D (.deferred none)) (fun r e=>by cases e;exact⟨_,rD,rfl⟩);have q1:=cell_kept (r1.cell 0) (grownBy_putObj' _ D (.deferred none)) (fun r e=>by cases e;exact⟨_,rD,rfl⟩)
  have qR:(W2.putObj D (.deferred none)).ownsRow w.heap.size 3 1 (.slice A n c) n (ar (bo b.data.toList)):=rR.kept (grownBy_putObj' _ D (.deferred none)) (by
   rcases rR.2 with ⟨hv,_⟩|⟨g,cap,cur,hv,_,aR,_⟩
   ·cases hv;exact .inl rfl
   cases hv;refine .inr fun e=>?_;injection e with e
   subst e;rw[rD] at aR
   cases aR)
  refine⟨.tuple #[.slice A n c,.bool true],?_,?_⟩
  ·simp[results,Tryz.results146,go_sem,q0,q1]
  refine⟨rB.trans (belowK_b (w:=w) (Nat.le_refl _) _ D _ _ (by simp at hD;omega) rD rfl rfl),.inl ⟨YN.out,A,c,by rw[←zf.out],?_⟩⟩;rw[←zf.out];exact Reads.dA qR
 case stop=>
  rintro D c pre W hD ⟨rest,hsp⟩ ⟨⟨rfl,x,hx,tN⟩,hv,hu,hB⟩ hK
  have Yy:=hide (show ¬Right b.data.toList from fun h=>by
   have:=h x.1 (by rw[←hsp];exact List.mem_append_left _ (List.mem_map_of_mem hx))
   omega)
  gi_wp2;refine⟨by simp,.inl ⟨_,_,rfl,run_takeDeferred hK,?_⟩⟩;have q0:=cell_kept hv.cell (grownBy_putObj' _ D (.deferred none)) (fun r e=>by cases e;exact⟨_,hK,rfl⟩);have q1:=cell_kept hu.cell (grownBy_putObj' _ D (.deferred none)) (fun r e=>by cases e;exact⟨_,hK,rfl⟩);refine⟨.tuple #[.slice none 0 0,.bool false],?_,?_⟩
  ·simp[results,Tryz.results146,go_sem,q0,q1]
  exact⟨hB.trans (belowK_b (w:=w) (Nat.le_refl _) _ D _ _ (by simp at hD;omega) hK rfl rfl),.inr ⟨Yy.out,rfl⟩⟩
end
section
open Go.RowKit Go.WideShapes

namespace Nf
def bytesOf(l:List Int):List UInt8:=l.flatMap fun r=>(Utf.put r).map bv
def jR(l:List Int):Option (List UInt8):=if l.all Utf.isScalar then some (bytesOf l) else none
theorem Qm{l:List Int}{j:Nat}{r:Int}(h:l[j]?=some r):bytesOf (l.take (j+1))=bytesOf (l.take j)++(Utf.put r).map bv:=by
 unfold bytesOf;rw[List.take_add_one,h,List.flatMap_append];simp
theorem IJ(l:List Int):(bytesOf l).length≤4*l.length:=by
 unfold bytesOf
 induction l with
 | nil=>simp
 | cons x l ih=>
  rw[List.flatMap_cons,List.length_append,List.length_cons,List.length_map];have:=yt x;omega
end Nf
def nH(l:List Int):Value:=match Nf.jR l with
 | some x=>.tuple #[.string (aa x),.bool true]
 | none=>.tuple #[.string ⟨#[]⟩,.bool false]
theorem My{t:ByteArray}{l:List UInt8}(h:gC t l):t=aa l:=by
 unfold gC at h;subst h;rfl
theorem Xf(l:List Int)(A:Option Addr)(c:Nat)(w:World)(hr:Reads w w.heap.size 1 A l.length (ar l))(hs:l.length≤100000000) :
  Calls Tryz.prog 147 #[.slice A l.length c] w fun e w'=>e=.returned (nH l)∧Below w.heap.size w w':=by
 obtain⟨L,hL⟩:∃L,l.length=L:=⟨_,rfl⟩;have HL:=hide hL;rw[hL] at hr hs;rw[hL];have HR:=hide hr;have Gw:=hide (fun r W h=>LZ r W h);have ux:=hide (fun r W h=>VL r W h);clear hL hr
 go_enter Tryz.func147,Tryz.ntmps147
 go_wp2
 go_loopg [4,11] L (fun gk v4 v11 wr=>∃(j:Nat) (A':Option Addr) (c' m:Nat),gk=L-j∧j≤L∧v11=.int .i64 (j:Int)∧v4=.slice A' m c'∧m=(Nf.bytesOf (l.take j)).length∧wr.ownsRow w.heap.size 5 1 (.slice A' m c') m (cA (Nf.bytesOf (l.take j)))∧(∀x∈l.take j,Utf.isScalar x=true)∧Below w.heap.size w wr)
 case atStart=>exact⟨0,none,0,0,rfl,by omega,rfl,rfl,rfl,World.ownsRow_nil _ _ _ _,by simp,Below.refl _ _⟩
 case round=>
  obtain⟨j,A',c',m,aq,hj,rfl,rfl,hm,ho,hsc,hb⟩:=hrel;have Hg:=hide aq;have HO:=hide ho;have bt:=hide hsc;have HB:=hide hb;have Hm:=hide hm;clear aq ho hsc hb hm
  by_cases hlt:j<L
  ·obtain⟨r,iw⟩:∃r,l[j]?=some r:=⟨_,List.getElem?_eq_getElem (by rw[HL.out];exact hlt)⟩;obtain⟨gb,off,rfl,dN,hcell⟩:=HR.out.2 (by omega);have y0:wr.cell? ⟨gb,off+j,none⟩=some (.int .i64 r):=(HB.out.cell dN).trans (hcell j _ (by unfold ar;rw[List.getElem?_map,iw];rfl));have HN:=hide (Nf.Qm iw);have yU:=hide iw;have gH:m≤400000000:=by rw[Hm.out];refine Nat.le_trans (Nf.IJ _) ?_;rw[List.length_take];omega
   clear hcell iw
   cases fT:Utf.isScalar r with
   | false=>
    have HP:=hide (ux.out r wr fT)
    have HV:=hide (show nH l=.tuple #[.string ⟨#[]⟩,.bool false] by
     unfold nH Nf.jR
     rw[if_neg (fun h=>by
      have:=List.all_eq_true.1 h r (List.mem_of_getElem? yU.out);rw[fT] at this
      cases this)])
    clear fT
    go_wp2_with fail
    refine HP.out.mono ?_;rintro e w2 ⟨rfl,hw2⟩;subst hw2;dsimp only;go_wp2;go_ret2;exact⟨by rw[HV.out];rfl,HB.out⟩
   | true=>
    have HP:=hide (Gw.out r wr fT);have G9:=hide fT;have cZ:((Utf.put r).map bv).length≤4:=by rw[List.length_map];exact yt r
    obtain⟨pl,hpl⟩:∃pl,(Utf.put r).map bv=pl:=⟨_,rfl⟩;rw[hpl] at cZ HP HN;clear fT hpl
    go_wp2_with fail
    refine HP.out.mono ?_;rintro e w2 ⟨⟨t,rfl,ht⟩,ag⟩;have HT:=hide ht;have ah:=hide (HB.out.trans (ag.mono HB.out.size));have aL:=hide (Cc HO.out ag);have aM:=ah.out.size;have CR:=hide cZ;clear ht ag;dsimp only
    go_wp2_with (at_builtin;go_loud (refine Xz w2 rfl (.tmp 22) (.tmp 23) 37 9 rfl w.heap.size 5 Tryz.underlying37 Tryz.underlying9 vS _ m (Nf.bytesOf (l.take j)) rfl aL.out t pl HT.out rfl (by omega) aM ?_);intro A3 c3 w3 bX bB;have cf:=hide bX;have ax:=hide (ah.out.grown bB ah.out.size (fun k e=>(aI aL.out k e).1));clear bX bB)
    go_roundg (L-(j+1))
    case measure=>have:=Hg.out;omega
    case rel=>
     refine⟨j+1,A3,c3,m+pl.length,rfl,by omega,by first|rfl|go_num,rfl,by rw[HN.out,List.length_append,←Hm.out],by rw[HN.out];exact cf.out,?_,ax.out⟩;rw[tW yU.out];intro x hx
     rcases List.mem_append.1 hx with hx|hx
     ·exact bt.out x hx
     rw[List.mem_singleton] at hx;subst hx;exact G9.out
  have xI:j=L:=by omega
  have eR:l.take j=l:=List.take_of_length_le (by rw[HL.out];omega);have HT:=hide eR;have aL:=hide (show wr.ownsRow w.heap.size 5 1 (.slice A' m c') m (cA (Nf.bytesOf l)) by have:=HO.out;rwa[eR] at this)
  have HV:=hide (show nH l=.tuple #[.string (aa (Nf.bytesOf l)),.bool true] by
    have hh:=bt.out;rw[eR] at hh;unfold nH Nf.jR;rw[if_pos (List.all_eq_true.2 hh)])
  clear xI eR
  go_wp2_with (refine o6 rfl 37 9 5 _ rfl Tryz.underlying37 Tryz.underlying5 Tryz.underlying9 w.heap.size _ m (by rfl) (Nf.bytesOf l) aL.out ?_;intro t ht;have Ht:=hide (My ht);clear ht)
  go_ret2;exact⟨by rw[HV.out,←Ht.out];rfl,HB.out⟩
end
end Go.Proofs.YtifiiojchlaghaaGreatDoor
