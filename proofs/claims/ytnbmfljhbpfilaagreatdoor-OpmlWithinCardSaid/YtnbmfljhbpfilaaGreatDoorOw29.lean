/- NFC: scalars composed: nfc.compose. And more. -/
import Derived.Test.YtnbmfljhbpfilaaGreatDoorOw04
import Derived.Test.YtnbmfljhbpfilaaGreatDoorOw28
import Derived.Maps.OwnIn
set_option linter.unusedSimpArgs false
set_option maxRecDepth 100000
set_option maxHeartbeats 8000000
set_option linter.unusedVariables false
namespace Go.Proofs.YtnbmfljhbpfilaaGreatDoor
section
open Go.RowKit Go.WideShapes

namespace Nf
structure jP(s:Cs):Prop where
 eK : -1≤s.st
 pL:s.st<s.out.length
 qI : -1≤s.hi
 cE:s.hi≤240
 ok:∀x∈s.out,Ok x
theorem acF:jP ⟨[],-1,-1⟩:=⟨by simp,by simp,by simp,by simp,fun x hx=>by cases hx⟩
theorem RQ{s:Cs}{r v:Int}(h0:0≤s.st∧s.hi<cls r)(hw:whole (s.out.getD s.st.toNat 0) r=some v):gA s r=⟨s.out.set s.st.toNat v,s.st,s.hi⟩:=by
 unfold gA;rw[if_pos h0,hw]
theorem xn{s:Cs}{r:Int}(h:(0≤s.st∧s.hi<cls r)→whole (s.out.getD s.st.toNat 0) r=none)(hc:cls r=0):gA s r=⟨s.out++[r],s.out.length,-1⟩:=by
 unfold gA
 by_cases h0:0≤s.st∧s.hi<cls r
 ·rw[if_pos h0,h h0,if_pos hc]
 rw[if_neg h0,if_pos hc]
theorem zW{s:Cs}{r:Int}(h:(0≤s.st∧s.hi<cls r)→whole (s.out.getD s.st.toNat 0) r=none)(hc:cls r≠0):gA s r=⟨s.out++[r],s.st,max s.hi (cls r)⟩:=by
 unfold gA
 by_cases h0:0≤s.st∧s.hi<cls r
 ·rw[if_pos h0,h h0,if_neg hc]
 rw[if_neg h0,if_neg hc]
theorem jP.app{out:List Int}{st st' hi' r:Int}(h:∀x∈out,Ok x)(hr:Ok r)(h0 : -1≤st')(h1:st'≤out.length)(h2 : -1≤hi')(h3:hi'≤240):jP ⟨out++[r],st',hi'⟩ :=
 ⟨h0,by simp;omega,h2,h3,fun x hx=>by
  rcases List.mem_append.1 hx with hx|hx
  ·exact h x hx
  rw[List.mem_singleton] at hx;subst hx;exact hr⟩
theorem SQ{l:List Int}{k:Nat}{x:Int}(h:l[k]?=some x):l.getD k 0=x:=by
 rw[List.getD_eq_getElem?_getD,h];rfl
theorem jP.set{out:List Int}{st hi v:Int}{k:Nat}(h:jP ⟨out,st,hi⟩)(hv:Ok v):jP ⟨out.set k v,st,hi⟩ :=
 ⟨h.eK,by have:=h.pL;simpa using this,h.qI,h.cE,fun x hx=>by
  rcases List.mem_or_eq_of_mem_set hx with hx|hx
  ·exact h.ok x hx
  subst hx;exact hv⟩
theorem jP.step{s:Cs}{r:Int}(h:jP s)(hr:Ok r):jP (gA s r):=by
 have hc:=nP r
 by_cases h0:0≤s.st∧s.hi<cls r
 ·cases hw:whole (s.out.getD s.st.toNat 0) r with
  | some v=>
   rw[RQ h0 hw];obtain⟨x,hx⟩:∃x,s.out[s.st.toNat]?=some x:=⟨_,List.getElem?_eq_getElem (by have:=h.pL;omega)⟩;rw[SQ hx] at hw;exact jP.set h (YM hw (h.ok x (List.mem_of_getElem? hx)))
  | none=>
   by_cases h1:cls r=0
   ·rw[xn (fun _=>hw) h1];exact jP.app (st:=0) h.ok hr (by omega) (by omega) (by omega) (by omega)
   rw[zW (fun _=>hw) h1];exact jP.app (st:=0) h.ok hr h.eK (by have:=h.pL;omega) (by have:=h.qI;omega) (by have:=h.cE;omega)
 by_cases h1:cls r=0
 ·rw[xn (fun h=>absurd h h0) h1];exact jP.app (st:=0) h.ok hr (by omega) (by omega) (by omega) (by omega)
 rw[zW (fun h=>absurd h h0) h1];exact jP.app (st:=0) h.ok hr h.eK (by have:=h.pL;omega) (by have:=h.qI;omega) (by have:=h.cE;omega)
theorem RP(s:Cs)(r:Int):(gA s r).out.length≤s.out.length+1:=by
 unfold gA;split
 ·simp
 split<;>simp
def dx(l:List Int)(j:Nat):Cs:=(l.take j).foldl gA ⟨[],-1,-1⟩
theorem RO{l:List Int}{j:Nat}{r:Int}(h:l[j]?=some r):dx l (j+1)=gA (dx l j) r:=by
 unfold dx;rw[List.take_add_one,h,List.foldl_append];rfl
theorem JB{l:List Int}(h:∀x∈l,Ok x):∀j,jP (dx l j)∧(dx l j).out.length≤j
 | 0=>⟨by unfold dx;simpa using acF,by unfold dx;simp⟩
 | j+1=>by
  obtain⟨h1,h2⟩:=JB h j
  cases hr:l[j]? with
  | none=>
   have e:dx l (j+1)=dx l j:=by unfold dx;rw[List.take_add_one,hr];simp
   rw[e];exact⟨h1,by omega⟩
  | some r=>
   rw[RO hr];have:=RP (dx l j) r;exact⟨h1.step (h r (List.mem_of_getElem? hr)),by omega⟩
end Nf
theorem ag.ame{R:Nat}{w w':World}(h:ag R w w'):w.grownBy w' (some R):=⟨h.os,h.tape,h.output,h.size,fun k hk hne=>h.block k hk (fun e=>hne (by rw[e]))⟩
theorem Wz{w w':World}{base mb n c:Nat}{A:Option Addr}{xs:List Value}{D:DataW Unit}{k:Nat}(h:w.ownsRow base 3 1 (.slice A n c) n xs)(hm:gw w mb k D)(hb:ag mb w w'):w'.ownsRow base 3 1 (.slice A n c) n xs :=
 h.kept hb.ame (by
  cases hv:(Value.slice A n c).ownBlock with
  | none=>exact .inl rfl
  | some g=>
   refine .inr fun e=>?_;injection e with e
   exact hm.Wc g 3 (aG h g hv).2 e)
theorem gw.kept{w w':World}{base mb n c k:Nat}{A:Option Addr}{xs:List Value}{D:DataW Unit}(hm:gw w mb k D)(h:w.ownsRow base 3 1 (.slice A n c) n xs)(hg:w.grownBy w' (Value.slice A n c).ownBlock):gw w' mb k D :=
 hm.same (hg.block mb hm.lt fun e=>hm.Wc mb 3 (aG h mb e.symm).2 rfl)
theorem acz(l:List Int)(A:Option Addr)(c:Nat)(w:World)(hr:Reads w w.heap.size 1 A l.length (ar l))(bF:∀x∈l,Nf.Ok x)(hs:l.length≤20000000) :
  Calls Tryz.prog 138 #[.slice A l.length c] w fun e w'=>∃A' c',e=.returned (.slice A' (Nf.compose l).length c')∧w'.ownsRow w.heap.size 3 1 (.slice A' (Nf.compose l).length c') (Nf.compose l).length (ar (Nf.compose l))∧Below w.heap.size w w':=by
 obtain⟨L,hL⟩:∃L,l.length=L:=⟨_,rfl⟩;have HL:=hide hL;rw[hL] at hr hs;rw[hL];have HR:=hide hr;have fO:=hide bF;have GI:=hide (Nf.JB bF);have tX:=hide (fun r W=>DC r W);have jk:=@run_makeMap Tryz.prog;clear hL hr bF
 go_enter Tryz.func138,Tryz.ntmps138
 go_wp2;have pQ:=hide ((gw.new w).same (W':=(w.alloc (.map #[] 0)).alloc (.cells #[.map (some w.heap.size)] 207)) (Below.heap_alloc _ _ _ (by simp)))
 have ue:=hide (show ae ((w.alloc (.map #[] 0)).alloc (.cells #[.map (some w.heap.size)] 207)) (w.heap.size+1) 207 #[.map (some w.heap.size)] by
  have:=ae.new (w.alloc (.map #[] 0)) 207 #[.map (some w.heap.size)];rwa[World.size_alloc] at this)
 have kJ:=hide ((az w (.map #[] 0)).trans ((az (w.alloc (.map #[] 0)) (.cells #[.map (some w.heap.size)] 207)).mono (by simp)))
 go_loopg [2,5,6,16] L (fun gk v2 v5 v6 v16 wr=>∃(j n:Nat) (A':Option Addr) (c':Nat) (D:DataW Unit),gk=L-j∧j≤L∧v16=.int .i64 (j:Int)∧v2=.slice A' (Nf.dx l j).out.length c'∧v5=.int .i64 (Nf.dx l j).st∧v6=.int .i64 (Nf.dx l j).hi∧
  wr.ownsRow w.heap.size 3 1 (.slice A' (Nf.dx l j).out.length c') (Nf.dx l j).out.length (ar (Nf.dx l j).out)∧gw wr w.heap.size n D∧n≤j∧ae wr (w.heap.size+1) 207 #[.map (some w.heap.size)]∧Below w.heap.size w wr)
 case atStart=>exact⟨0,0,none,0,.map [],rfl,by omega,rfl,rfl,rfl,rfl,World.ownsRow_nil _ _ _ _,pQ.out,Nat.le_refl _,ue.out,kJ.out⟩
 case round=>
  obtain⟨j,n,A',c',D,au,hj,rfl,rfl,rfl,rfl,ho,hm,ER,hk,hb⟩:=hrel;have Hg:=hide au;have HB:=hide hb;have HM:=hide hm;have HK:=hide hk;clear au hb hm hk
  by_cases hlt:j<L
  ·obtain⟨r,gX⟩:∃r,l[j]?=some r:=⟨_,List.getElem?_eq_getElem (by rw[HL.out];exact hlt)⟩;obtain⟨gb,off,rfl,dA,hcell⟩:=HR.out.2 (by omega);have y0:wr.cell? ⟨gb,off+j,none⟩=some (.int .i64 r):=(HB.out.cell dA).trans (hcell j _ (by unfold ar;rw[List.getElem?_map,gX];rfl));have HN:=hide (Nf.RO gX);obtain⟨hcs,jD⟩:=GI.out j;have jx:=hide (fO.out r (List.mem_of_getElem? gX));obtain⟨⟨out,st,hi⟩,hs0⟩:∃s,Nf.dx l j=s:=⟨_,rfl⟩;have kM:=hide hs0;rw[hs0] at hcs jD ho HN ⊢;dsimp only at hcs jD ho ⊢;have ZA:=hide hcs;have HO:=hide ho;obtain⟨m,hm⟩:∃m,out.length=m:=⟨_,rfl⟩;have Hm:=hide hm;rw[hm] at jD HO ⊢;obtain⟨cr,jf⟩:∃cr,Nf.cls r=cr:=⟨_,rfl⟩;have dT:=hide (fun W=>tX.out r W);rw[jf] at dT;have iT:=hide jf;have UW:=hcs.eK;have afb:=hcs.qI;have afc:=hcs.cE;have afZ:st<(m:Int):=by rw[←hm];exact hcs.pL
   have aeY:0≤cr∧cr≤240:=by rw[←jf];exact Nf.nP r
   dsimp only at UW afb afc;clear hcell gX hs0 hcs ho hm jf
   by_cases AA:0≤st∧hi<cr
   ·obtain⟨h0,h1⟩:=AA;obtain⟨k,rfl⟩:∃k:Nat,st=k:=⟨st.toNat,by omega⟩;obtain⟨x,hx⟩:∃x,out[k]?=some x:=⟨_,List.getElem?_eq_getElem (by rw[Hm.out];omega)⟩;obtain⟨g,cap,mm,dH,Uh⟩:=HO.out.form (by omega);injection mm with hA _ xJ
    subst hA;subst xJ;have q1:wr.cell? ⟨g,k,none⟩=some (.int .i64 x):=(HO.out.cellAt k (by omega)).trans (by unfold ar;rw[List.getElem?_map,hx];rfl);have Hx:=hide hx;have Hxo:=hide (ZA.out.ok x (List.mem_of_getElem? hx));have EI:k<m:=by omega
    have CN:=hide (ahK x r (w.heap.size+1) w.heap.size n D wr Hxo.out jx.out HK.out HM.out (by omega));have Qg:=hide (show (out.getD ((k:Int)).toNat 0)=x by rw[Int.toNat_natCast];exact Nf.SQ Hx.out);clear hx dH Uh
    cases hw:Nf.whole x r with
    | some v=>
     have HV:=hide (show jO x r=.tuple #[.int .i64 v,.bool true] by unfold jO;rw[hw]);have Hw:=hide hw;rw[HV.out] at CN;clear hw HV
     go_wp2_with fail
     go_wp2_with fail
     refine cq (dT.out _) ?_
     go_wp2_with fail
     refine CN.out.mono ?_;rintro e w2 ⟨n',D',rfl,er,Lk,af⟩;have ug:=hide er;have ah:=hide (HB.out.trans (af.below (Nat.le_refl _) HB.out.size));have aJ:=hide (Wz HO.out HM.out af);have cH:=hide (af.blk HK.out (by omega));have q2:=(aJ.out.cellAt k (by omega)).trans (show _=some (Value.int .i64 x) by unfold ar;rw[List.getElem?_map,Hx.out];rfl);have f2:=aJ.out.frozenAt k;have hst:=aJ.out.stored k (.int .i64 v);have bZ:=hide hst.1;have lU:=hide (ug.out.kept aJ.out (show w2.grownBy (w2.setCell ⟨g,k,none⟩ (.int .i64 v)) (Value.slice (some ⟨g,0,none⟩) m c').ownBlock from hst.2));have cQ:=hide (cH.out.grown hst.2 (fun e=>cU aJ.out cH.out (by decide) e.symm));have aw:=hide (ah.out.setCell (p:=⟨g,k,none⟩) (by exact (aG aJ.out g rfl).1) (.int .i64 v));clear er af hst q1;dsimp only;go_wp2
     go_roundg (L-(j+1))
     case measure=>have:=Hg.out;omega
     case rel=>
      have e1:Nf.dx l (j+1)=⟨out.set k v,(k:Int),hi⟩:=by
       rw[HN.out,Nf.RQ (s:=⟨out,(k:Int),hi⟩) (v:=v) ⟨by omega,by rw[iT.out];exact h1⟩ (by show Nf.whole (out.getD ((k:Int)).toNat 0) r=some v;rw[Qg.out];exact Hw.out)];simp only[Int.toNat_natCast]
      have e2:(out.set k v).length=m:=by rw[List.length_set,Hm.out]
      refine⟨j+1,n',some ⟨g,0,none⟩,c',D',rfl,by omega,by first|rfl|go_num,by rw[e1,e2],by rw[e1],by rw[e1],?_,lU.out,by omega,cQ.out,aw.out⟩;rw[e1,e2];have:=bZ.out;unfold ar at this ⊢;rw[List.map_set];exact this
    | none=>
     have HV:=hide (show jO x r=.tuple #[.int .i64 0,.bool false] by unfold jO;rw[hw]);have Hw:=hide (show Nf.whole (out.getD ((k:Int)).toNat 0) r=none by rw[Qg.out];exact hw);rw[HV.out] at CN;clear hw HV
     go_wp2_with fail
     go_wp2_with fail
     refine cq (dT.out _) ?_
     go_wp2_with fail
     refine CN.out.mono ?_;rintro e w2 ⟨n',D',rfl,er,Lk,af⟩;have ug:=hide er;have ah:=hide (HB.out.trans (af.below (Nat.le_refl _) HB.out.size));have aJ:=hide (Wz HO.out HM.out af);have cH:=hide (af.blk HK.out (by omega));obtain⟨X1,vI⟩:∃X1:Int,X1=(k:Int):=⟨_,rfl⟩;clear er af q1;dsimp only
     by_cases hz:cr=0
     ·have Hz:=hide hz;have hzd:decide (cr=0)=true:=decide_eq_true hz;have hzb:(cr==0)=true:=by simp[hz]
      have zl:IntKind.i64.wrap (((m+1:Nat):Int)-1)=(m:Int):=by rw[IntWalk.i64_in _ (by omega)];omega
      clear hz;have ji:m≤20000000:=by omega
      have aK:=ah.out.size
      go_wp2_with (at_builtin;go_loud (refine fG w2 rfl (.tmp 44) (.tmp 46) 124 rfl w.heap.size (.int .i64 0) 1 8 Tryz.underlying124 fD rfl (by omega) _ m (ar out) rfl aJ.out rfl (by simp[Value.oneCell']) rfl (by unfold maxLen;omega) (by omega) aK ?_);intro g cap w3 bW bw _ _ _;have bZ:=hide (show w3.ownsRow w.heap.size 3 1 (.slice (some ⟨g,0,none⟩) (m+1) cap) (m+1) (ar (out++[r])) from (ic out [r]).symm▸bW);have lU:=hide (ug.out.kept aJ.out bw);have cQ:=hide (cH.out.grown bw (fun e=>cU aJ.out cH.out (by decide) e.symm));have aw:=hide (ah.out.grown bw ah.out.size (fun k e=>(aG aJ.out k e).1));clear bW bw)
      go_roundg (L-(j+1))
      case measure=>have:=Hg.out;omega
      case rel=>
       have e1:Nf.dx l (j+1)=⟨out++[r],m,-1⟩:=by
        rw[HN.out,Nf.xn (s:=⟨out,(k:Int),hi⟩) (fun _=>Hw.out) (by rw[iT.out];exact Hz.out)];simp only[Hm.out]
       have e2:(out++[r]).length=m+1:=by rw[List.length_append,Hm.out];rfl
       refine⟨j+1,n',some ⟨g,0,none⟩,cap,D',rfl,by omega,by first|rfl|go_num,by rw[e1,e2],by rw[e1]<;>first|rfl|go_num,by rw[e1],by rw[e1,e2];exact bZ.out,lU.out,by omega,cQ.out,aw.out⟩
     have Hz:=hide hz;have hzd:decide (cr=0)=false:=decide_eq_false hz;have hzb:(cr==0)=false:=by simp[hz]
     have zl:IntKind.i64.wrap (((m+1:Nat):Int)-1)=(m:Int):=by rw[IntWalk.i64_in _ (by omega)];omega
     obtain⟨mx,hmx⟩:∃mx,max hi cr=mx:=⟨_,rfl⟩;have zD:=hide hmx;have ji:m≤20000000:=by omega
     have aK:=ah.out.size
     go_wp2_with (at_builtin;go_loud (refine fG w2 rfl (.tmp 44) (.tmp 46) 124 rfl w.heap.size (.int .i64 0) 1 8 Tryz.underlying124 fD rfl (by omega) _ m (ar out) rfl aJ.out rfl (by simp[Value.oneCell']) rfl (by unfold maxLen;omega) (by omega) aK ?_);intro g cap w3 bW bw _ _ _;have bZ:=hide (show w3.ownsRow w.heap.size 3 1 (.slice (some ⟨g,0,none⟩) (m+1) cap) (m+1) (ar (out++[r])) from (ic out [r]).symm▸bW);have lU:=hide (ug.out.kept aJ.out bw);have cQ:=hide (cH.out.grown bw (fun e=>cU aJ.out cH.out (by decide) e.symm));have aw:=hide (ah.out.grown bw ah.out.size (fun k e=>(aG aJ.out k e).1));clear bW bw)
     go_roundg (L-(j+1))
     case measure=>have:=Hg.out;omega
     case rel=>
      have e1:Nf.dx l (j+1)=⟨out++[r],(k:Int),mx⟩:=by
       rw[HN.out,Nf.zW (s:=⟨out,(k:Int),hi⟩) (fun _=>Hw.out) (by rw[iT.out];exact Hz.out)];simp only[iT.out,zD.out]
      have e2:(out++[r]).length=m+1:=by rw[List.length_append,Hm.out];rfl
      refine⟨j+1,n',some ⟨g,0,none⟩,cap,D',rfl,by omega,by first|rfl|go_num,by rw[e1,e2],by rw[e1]<;>first|rfl|go_num,by rw[e1],by rw[e1,e2];exact bZ.out,lU.out,by omega,cQ.out,aw.out⟩
   have CX:=hide AA
   by_cases h0:0≤st
   ·have h1:¬hi<cr:=fun h=>AA ⟨h0,h⟩;clear AA
    go_wp2_with fail
    go_wp2_with fail
    refine cq (dT.out _) ?_
    by_cases hz:cr=0
    ·have Hz:=hide hz;have hzd:decide (cr=0)=true:=decide_eq_true hz;have hzb:(cr==0)=true:=by simp[hz]
     have zl:IntKind.i64.wrap (((m+1:Nat):Int)-1)=(m:Int):=by rw[IntWalk.i64_in _ (by omega)];omega
     clear hz;have ji:m≤20000000:=by omega
     have aK:=HB.out.size
     go_wp2_with (at_builtin;go_loud (refine fG wr rfl (.tmp 44) (.tmp 46) 124 rfl w.heap.size (.int .i64 0) 1 8 Tryz.underlying124 fD rfl (by omega) _ m (ar out) rfl HO.out rfl (by simp[Value.oneCell']) rfl (by unfold maxLen;omega) (by omega) aK ?_);intro g cap w3 bW bw _ _ _;have bZ:=hide (show w3.ownsRow w.heap.size 3 1 (.slice (some ⟨g,0,none⟩) (m+1) cap) (m+1) (ar (out++[r])) from (ic out [r]).symm▸bW);have lU:=hide (HM.out.kept HO.out bw);have cQ:=hide (HK.out.grown bw (fun e=>cU HO.out HK.out (by decide) e.symm));have aw:=hide (HB.out.grown bw HB.out.size (fun k e=>(aG HO.out k e).1));clear bW bw)
     go_roundg (L-(j+1))
     case measure=>have:=Hg.out;omega
     case rel=>
      have e1:Nf.dx l (j+1)=⟨out++[r],m,-1⟩:=by
       rw[HN.out,Nf.xn (s:=⟨out,st,hi⟩) (fun h=>absurd h (by rw[iT.out];exact CX.out)) (by rw[iT.out];exact Hz.out)];simp only[Hm.out]
      have e2:(out++[r]).length=m+1:=by rw[List.length_append,Hm.out];rfl
      refine⟨j+1,n,some ⟨g,0,none⟩,cap,D,rfl,by omega,by first|rfl|go_num,by rw[e1,e2],by rw[e1]<;>first|rfl|go_num,by rw[e1],by rw[e1,e2];exact bZ.out,lU.out,by omega,cQ.out,aw.out⟩
    have Hz:=hide hz;have hzd:decide (cr=0)=false:=decide_eq_false hz;have hzb:(cr==0)=false:=by simp[hz]
    have zl:IntKind.i64.wrap (((m+1:Nat):Int)-1)=(m:Int):=by rw[IntWalk.i64_in _ (by omega)];omega
    obtain⟨mx,hmx⟩:∃mx,max hi cr=mx:=⟨_,rfl⟩;have zD:=hide hmx;have ji:m≤20000000:=by omega
    have aK:=HB.out.size
    go_wp2_with (at_builtin;go_loud (refine fG wr rfl (.tmp 44) (.tmp 46) 124 rfl w.heap.size (.int .i64 0) 1 8 Tryz.underlying124 fD rfl (by omega) _ m (ar out) rfl HO.out rfl (by simp[Value.oneCell']) rfl (by unfold maxLen;omega) (by omega) aK ?_);intro g cap w3 bW bw _ _ _;have bZ:=hide (show w3.ownsRow w.heap.size 3 1 (.slice (some ⟨g,0,none⟩) (m+1) cap) (m+1) (ar (out++[r])) from (ic out [r]).symm▸bW);have lU:=hide (HM.out.kept HO.out bw);have cQ:=hide (HK.out.grown bw (fun e=>cU HO.out HK.out (by decide) e.symm));have aw:=hide (HB.out.grown bw HB.out.size (fun k e=>(aG HO.out k e).1));clear bW bw)
    go_roundg (L-(j+1))
    case measure=>have:=Hg.out;omega
    case rel=>
     have e1:Nf.dx l (j+1)=⟨out++[r],st,mx⟩:=by
      rw[HN.out,Nf.zW (s:=⟨out,st,hi⟩) (fun h=>absurd h (by rw[iT.out];exact CX.out)) (by rw[iT.out];exact Hz.out)];simp only[iT.out,zD.out]
     have e2:(out++[r]).length=m+1:=by rw[List.length_append,Hm.out];rfl
     refine⟨j+1,n,some ⟨g,0,none⟩,cap,D,rfl,by omega,by first|rfl|go_num,by rw[e1,e2],by rw[e1]<;>first|rfl|go_num,by rw[e1],by rw[e1,e2];exact bZ.out,lU.out,by omega,cQ.out,aw.out⟩
   clear AA
   go_wp2_with fail
   go_wp2_with fail
   refine cq (dT.out _) ?_
   by_cases hz:cr=0
   ·have Hz:=hide hz;have hzd:decide (cr=0)=true:=decide_eq_true hz;have hzb:(cr==0)=true:=by simp[hz]
    have zl:IntKind.i64.wrap (((m+1:Nat):Int)-1)=(m:Int):=by rw[IntWalk.i64_in _ (by omega)];omega
    clear hz;have ji:m≤20000000:=by omega
    have aK:=HB.out.size
    go_wp2_with (at_builtin;go_loud (refine fG wr rfl (.tmp 44) (.tmp 46) 124 rfl w.heap.size (.int .i64 0) 1 8 Tryz.underlying124 fD rfl (by omega) _ m (ar out) rfl HO.out rfl (by simp[Value.oneCell']) rfl (by unfold maxLen;omega) (by omega) aK ?_);intro g cap w3 bW bw _ _ _;have bZ:=hide (show w3.ownsRow w.heap.size 3 1 (.slice (some ⟨g,0,none⟩) (m+1) cap) (m+1) (ar (out++[r])) from (ic out [r]).symm▸bW);have lU:=hide (HM.out.kept HO.out bw);have cQ:=hide (HK.out.grown bw (fun e=>cU HO.out HK.out (by decide) e.symm));have aw:=hide (HB.out.grown bw HB.out.size (fun k e=>(aG HO.out k e).1));clear bW bw)
    go_roundg (L-(j+1))
    case measure=>have:=Hg.out;omega
    case rel=>
     have e1:Nf.dx l (j+1)=⟨out++[r],m,-1⟩:=by
      rw[HN.out,Nf.xn (s:=⟨out,st,hi⟩) (fun h=>absurd h (by rw[iT.out];exact CX.out)) (by rw[iT.out];exact Hz.out)];simp only[Hm.out]
     have e2:(out++[r]).length=m+1:=by rw[List.length_append,Hm.out];rfl
     refine⟨j+1,n,some ⟨g,0,none⟩,cap,D,rfl,by omega,by first|rfl|go_num,by rw[e1,e2],by rw[e1]<;>first|rfl|go_num,by rw[e1],by rw[e1,e2];exact bZ.out,lU.out,by omega,cQ.out,aw.out⟩
   have Hz:=hide hz;have hzd:decide (cr=0)=false:=decide_eq_false hz;have hzb:(cr==0)=false:=by simp[hz]
   have zl:IntKind.i64.wrap (((m+1:Nat):Int)-1)=(m:Int):=by rw[IntWalk.i64_in _ (by omega)];omega
   obtain⟨mx,hmx⟩:∃mx,max hi cr=mx:=⟨_,rfl⟩;have zD:=hide hmx;have ji:m≤20000000:=by omega
   have aK:=HB.out.size
   go_wp2_with (at_builtin;go_loud (refine fG wr rfl (.tmp 44) (.tmp 46) 124 rfl w.heap.size (.int .i64 0) 1 8 Tryz.underlying124 fD rfl (by omega) _ m (ar out) rfl HO.out rfl (by simp[Value.oneCell']) rfl (by unfold maxLen;omega) (by omega) aK ?_);intro g cap w3 bW bw _ _ _;have bZ:=hide (show w3.ownsRow w.heap.size 3 1 (.slice (some ⟨g,0,none⟩) (m+1) cap) (m+1) (ar (out++[r])) from (ic out [r]).symm▸bW);have lU:=hide (HM.out.kept HO.out bw);have cQ:=hide (HK.out.grown bw (fun e=>cU HO.out HK.out (by decide) e.symm));have aw:=hide (HB.out.grown bw HB.out.size (fun k e=>(aG HO.out k e).1));clear bW bw)
   go_roundg (L-(j+1))
   case measure=>have:=Hg.out;omega
   case rel=>
    have e1:Nf.dx l (j+1)=⟨out++[r],st,mx⟩:=by
     rw[HN.out,Nf.zW (s:=⟨out,st,hi⟩) (fun h=>absurd h (by rw[iT.out];exact CX.out)) (by rw[iT.out];exact Hz.out)];simp only[iT.out,zD.out]
    have e2:(out++[r]).length=m+1:=by rw[List.length_append,Hm.out];rfl
    refine⟨j+1,n,some ⟨g,0,none⟩,cap,D,rfl,by omega,by first|rfl|go_num,by rw[e1,e2],by rw[e1]<;>first|rfl|go_num,by rw[e1],by rw[e1,e2];exact bZ.out,lU.out,by omega,cQ.out,aw.out⟩
  go_wp2;go_ret;have xP:j=L:=by omega
  have e1:Nf.dx l j=l.foldl Nf.gA ⟨[],-1,-1⟩:=by unfold Nf.dx;rw[List.take_of_length_le (by rw[HL.out];omega)]
  have e2:(Nf.dx l j).out=Nf.compose l:=by rw[e1];rfl
  rw[e2] at ho ⊢;exact⟨_,_,rfl,ho,HB.out⟩
end
section
open Go.RowKit Go.Shelf

attribute [local go_sem] Oper.semAt_some

theorem Cw{w w':World}{b e size n:Nat}{v:Value}{xs:List Value}(h:w.ownsRow b e size v n xs)(hb:Below w.heap.size w w'):w'.ownsRow b e size v n xs:=by
 refine⟨h.1,?_⟩
 rcases h.2 with hn|⟨g,cap,cur,rfl,jd,dR,rest⟩
 ·exact .inl hn
 exact .inr ⟨g,cap,cur,rfl,jd,(hb.block g (Array.getElem?_eq_some_iff.1 dR).1).trans dR,rest⟩
theorem Yq{w:World}{b e size n t:Nat}{v:Value}{xs:List Value}{p:Addr}{cs:Array Value}(h:w.ownsRow b e size v n xs)(hp:ae w p.block t cs)(ht:e≠t)(u:Value):(w.setCell p u).ownsRow b e size v n xs :=
 ownsRow_setCell_other h (cU h hp ht) u
def bc(l:List UInt8):List Int:=(Utf.pieces l).map (·.2)
def Right(l:List UInt8):Prop:=∀p∈Utf.pieces l,0≤p.2
def Dp(w:World)(pre:List Pc)(W:World):Prop :=
 (∀x∈pre,0≤x.1.2)∧(∃v,Boxed W w.heap.size 124 v∧W.ownsRow w.heap.size 3 1 v pre.length (ar (pre.map (·.1.2))))∧(∃u,Boxed W (w.heap.size+1) 4 u)∧(∃u,Boxed W (w.heap.size+1+1) 9 u)∧Below w.heap.size w W
def QW(w:World)(c:Code)(pre:List Pc)(W:World):Prop:=(c=.ret∧∃x∈pre,x.1.2<0)∧Boxed W w.heap.size 124 (.slice none 0 0)∧Boxed W (w.heap.size+1) 4 (.bool false)∧Below w.heap.size w W
theorem abw(w:World):OwnFrom (w.heap.size+1+1+1) (Dp w):=by
 rintro s X Y row ⟨h0,⟨v,hv,hr⟩,⟨u,hu⟩,⟨u2,bh⟩,h3⟩ hg ai
 have hne:∀{B:Nat} {t:TypeId} {u:Value},Boxed X B t u→some B≠row:=fun h e=>by
  obtain⟨_,o,ho,hc⟩:=ai _ e.symm;rw[show X.heap[_]?=_ from h] at ho;cases ho;cases hc
 refine⟨h0,⟨v,hv.kept hg (hne hv),hr.kept hg ?_⟩,⟨u,hu.kept hg (hne hu)⟩,⟨u2,bh.kept hg (hne bh)⟩,h3.grown hg h3.size (fun k e=>by have:=(ai k e).1;omega)⟩
 rcases hr.2 with ⟨rfl,_⟩|⟨g,cap,cur,rfl,_,dH,_⟩
 ·exact .inl rfl
 refine .inr fun e'=>?_;obtain⟨_,o,ho,hc⟩:=ai g (by simpa[Value.ownBlock] using e'.symm);rw[dH] at ho;cases ho;cases hc
theorem abx(w:World)(c:Code):OwnFrom (w.heap.size+1+1+1) (QW w c):=by
 rintro s X Y row ⟨h0,hv,hu,h3⟩ hg ai
 have hne:∀{B:Nat} {t:TypeId} {u:Value},Boxed X B t u→some B≠row:=fun h e=>by
  obtain⟨_,o,ho,hc⟩:=ai _ e.symm;rw[show X.heap[_]?=_ from h] at ho;cases ho;cases hc
 exact⟨h0,hv.kept hg (hne hv),hu.kept hg (hne hu),h3.grown hg h3.size (fun k e=>by have:=(ai k e).1;omega)⟩
theorem amv{w W W2 w1:World}{pre:List Pc}{x:Pc}{v v':Value}(h:Dp w pre W)(hx:0≤x.1.2)(hW:Below W.heap.size W W2)(hv:Boxed W w.heap.size 124 v)(ai:W.ownsRow w.heap.size 3 1 v pre.length (ar (pre.map (·.1.2))))
  (hown:w1.ownsRow w.heap.size 3 1 v' (pre.length+1) (ar (pre.map (·.1.2))++[.int .i64 x.1.2])) (hgrow:W2.grownBy w1 v.ownBlock) :
  Boxed w1 w.heap.size 124 v∧KeepsOthers W (w1.setCell ⟨w.heap.size,0,none⟩ v')∧eP (w.heap.size+1+1) W (w1.setCell ⟨w.heap.size,0,none⟩ v')∧Dp w (pre++[x]) (w1.setCell ⟨w.heap.size,0,none⟩ v'):=by
 obtain⟨h0,-,⟨u,hu⟩,⟨u2,bh⟩,h3⟩:=h;have cS:Boxed W2 w.heap.size 124 v:=hv.kept (cK hW none) (by simp);have U3:Boxed W2 (w.heap.size+1) 4 u:=hu.kept (cK hW none) (by simp);have U4:Boxed W2 (w.heap.size+1+1) 9 u2:=bh.kept (cK hW none) (by simp);have lH:W2.ownsRow w.heap.size 3 1 v pre.length (ar (pre.map (·.1.2))):=Cw ai hW;have aX:Boxed w1 w.heap.size 124 v:=cS.kept hgrow (cS.not_row (by decide) lH);have dJ:Boxed w1 (w.heap.size+1) 4 u:=U3.kept hgrow (U3.not_row (by decide) lH);have U5:Boxed w1 (w.heap.size+1+1) 9 u2:=U4.kept hgrow (U4.not_row (by decide) lH);have hlen:(pre++[x]).length=pre.length+1:=by simp
 refine⟨aX,?_,?_,?_,⟨v',aX.set v',?_⟩,⟨u,?_⟩,⟨u2,?_⟩,?_⟩
 ·refine ((mA hW).trans (KeepsOthers.of_grownBy hgrow fun j o ej hj=>?_)).trans (KeepsOthers.setCell _ _ _);obtain⟨_,cs,fr,h⟩:=aG lH j ej;rw[h] at hj;cases hj;rfl
 ·exact (Below.heap_setCell _ _ _ _ (by simp;omega)).trans (U5.trans bh.symm)
 ·intro y hy
  rcases List.mem_append.1 hy with hy|hy
  ·exact h0 y hy
  simp only[List.mem_singleton] at hy;rw[hy];exact hx
 ·rw[hlen,show ar ((pre++[x]).map (·.1.2))=ar (pre.map (·.1.2))++[.int .i64 x.1.2] by simp[ar]];exact hown.kept (grownBy_setCell' w1 _ v') (.inr (aX.not_row (by decide) hown).symm)
 ·exact dJ.kept (grownBy_setCell' w1 _ v') (by simp)
 ·exact U5.kept (grownBy_setCell' w1 _ v') (by simp;omega)
 exact ((h3.trans (hW.mono h3.size)).grown hgrow (Nat.le_trans h3.size hW.size) fun j ej=>(aG lH j ej).1).setCell (p:=⟨w.heap.size,0,none⟩) (Nat.le_refl _) v'
theorem Yw(b:ByteArray)(w:World)(hs:b.size≤1000000000) :
  Calls Tryz.prog 168 #[.string b] w fun e w'=>Below w.heap.size w w'∧((Right b.data.toList∧∃A c,e=.returned (.tuple #[.slice A (bc b.data.toList).length c,.bool true])∧Reads w' w'.heap.size 1 A (bc b.data.toList).length (ar (bc b.data.toList)))∨(¬Right b.data.toList∧e=.returned (.tuple #[.slice none 0 0,.bool false]))):=by
 refine (callsIn_wide (n:=5)).1 ?_;refine callsIn_of_wp_marks Tryz.func168 rfl trivial ?_ rfl;simp only[Tryz.ntmps168,List.size_toArray,List.length_cons,List.length_nil,Nat.reduceAdd,Nat.reduceSub,Array.replicate_succ,Array.replicate_zero,List.push_toArray,List.append_toArray,List.nil_append,List.cons_append]
 gi_wp2_with (refine⟨trivial,?_⟩;gi_at_call 114;refine (callsIn_wide.2 (WW _ _)).mono ?_;rintro e w' ⟨rfl,rfl⟩)
 have b0:=Boxed.new w 124 (.slice none 0 0);have b1:=Boxed.new (w.alloc (.cells #[.slice none 0 0] 124)) 4 (.bool false);rw[World.size_alloc] at b1;have b2:=Boxed.new ((w.alloc (.cells #[.slice none 0 0] 124)).alloc (.cells #[.bool false] 4)) 9 (.string b);rw[World.size_alloc,World.size_alloc] at b2
 have qE:Below w.heap.size w (((w.alloc (.cells #[.slice none 0 0] 124)).alloc (.cells #[.bool false] 4)).alloc (.cells #[.string b] 9)) :=
  (((Below.refl _ w).alloc (Nat.le_refl _) _).alloc (by simp) _).alloc (by simp;omega) _
 refine wpIn_rangeFunc_ownG rfl (by omega) (gf:=150) (lb:=#[.pointer (some ⟨w.heap.size+1+1,0,none⟩)]) rfl trivial (enters_of Tryz.func150 (by kernel_rfl) rfl)
  (WZ (5-1) (by omega) (w.heap.size+1+1) b hs _ (by simp) b2.cell) eP.trans (Ck (by simp)) (Below.refl _ _) (fun _=>rfl)
  (Dp w) (QW w) (by simpa using abw w) (fun c=>by simpa using abx w c)
  ⟨fun x hx=>(by cases hx),⟨_,(b0.alloc _).alloc _,World.ownsRow_nil _ _ _ _⟩,⟨_,b1.alloc _⟩,⟨_,b2⟩,qE⟩
  (fun x=>{ tmps:=#[.string b,undef,.pointer (some ⟨w.heap.size,0,none⟩),.pointer (some ⟨w.heap.size+1,0,none⟩),undef,.int .i64 x.1.2,.string b,.func (.func 150) #[] #[.pointer (some ⟨w.heap.size+1+1,0,none⟩)],.int .i64 (x.1.1:Int),.int .i64 x.1.2,undef,undef,undef,undef,undef,undef,undef],defers:=[] }) ?assign ?body ?done ?stop
 case assign=>
  intro l x W K hK;gi_wp2;exact hK
 case body=>
  rintro l pre x W hI hlen;have HI:=hide hI;obtain⟨-,⟨v,hv,ai⟩,⟨u,hu⟩,-,hB⟩:=hI;obtain⟨A,c,rfl⟩:=rq ai;have hc0:=hv.cell;have AL:=hv.frozen;have ly:=hu.frozen;have dG:=hu.cell;have mh:=hB.size
  by_cases hr:x.1.2<0
  ·have hd:decide (x.1.2<0)=true:=decide_eq_true hr;have Hr:=hide hr;have HB:=hide hB;clear hr hB ai;gi_wp2;exact⟨((KeepsOthers.setCell _ _ _).trans (KeepsOthers.setCell _ _ _)).from _,⟨rfl,x,by simp,Hr.out⟩,(hv.set (.slice none 0 0)).other (by omega) _,(hu.other (by omega) _).set _,(HB.out.setCell (p:=⟨w.heap.size,0,none⟩) (Nat.le_refl _) _).setCell (p:=⟨w.heap.size+1,0,none⟩) (by show w.heap.size≤w.heap.size+1;omega) _⟩
  have hd:decide (x.1.2<0)=false:=decide_eq_false hr;have Hr:=hide (show 0≤x.1.2 by omega);obtain⟨i,hi,hz,hsize,hby⟩:=info_parts fD;have HV:=hide hv;have HR:=hide ai;obtain⟨m,hm⟩:∃m,pre.length=m:=⟨_,rfl⟩;have Hm:=hide hm;rw[hm] at ai hc0 hlen;have hK:=ae.new W 3 #[.int .i64 x.1.2];have kr:=az W (.cells #[.int .i64 x.1.2] 3);clear hr hm
  gi_wp2_with (gi_at_builtin;go_must (refine wpListIn_append_own_at _ rfl (.tmp 12) (.tmp 14) 124 rfl w.heap.size 3 i (.int .i64 0) 1 8 Tryz.underlying124 hi hz hsize hby rfl (by omega) (.slice A m c) m (ar (pre.map (·.1.2))) rfl (ai.alloc _) ⟨W.heap.size,0,none⟩ 1 1 [.int .i64 x.1.2] rfl rfl (fun j u hj=>World.news_of_block hK j u (by simpa using hj)) (by intro u hu;simp only[List.mem_singleton] at hu;rw[hu];rfl) (by unfold maxLen;omega) (by omega) (by simp;omega) ?_);intro v8 w8 aM aF _ _;obtain⟨A8,c8,rfl⟩:=rq aM;have Ul:=(HV.out.kept (cK kr none) (by simp)).kept aF (by have h9:=(HV.out.kept (cK kr none) (by simp)).not_row (by decide) (Cw HR.out kr);rw[Hm.out] at h9;exact h9);have hc8:=Ul.cell;have hf8:=Ul.frozen)
  have Bc:=aM;have vw:=aF;rw[←Hm.out] at Bc vw;obtain⟨-,s2,s3,s4⟩:=amv HI.out Hr.out kr HV.out HR.out Bc vw;rw[Hm.out] at s2 s3 s4;exact⟨s2.from _,s3,s4⟩
 case done=>
  rintro D ys W hD dS ⟨h0,⟨v,hv,ai⟩,⟨u,hu⟩,-,hB⟩ hK;obtain⟨A,c,rfl⟩:=rq ai;have hc0:=hv.cell;have AL:=hv.frozen;have ly:=hu.frozen;have dG:=hu.cell;have LV:ys.map (·.1)=Utf.pieces b.data.toList:=dS;have kV:=hide (show ys.map (·.1.2)=bc b.data.toList by unfold bc;rw[←LV,List.map_map];rfl);have zC:=hide (show ys.length=(bc b.data.toList).length by rw[←kV.out,List.length_map]);obtain⟨n,hn⟩:∃n,ys.length=n:=⟨_,rfl⟩;rw[hn] at ai hv hc0 zC;rw[kV.out] at ai
  have HRt:=hide (show Right b.data.toList from fun p hp=>by
   rw[←LV] at hp;obtain⟨x,hx,e⟩:=List.mem_map.1 hp;rw[←e];exact h0 x hx)
  clear dS LV hn h0;gi_wp2;have k0:ae W w.heap.size 124 #[.slice A n c]:=hv;have k1:ae W (w.heap.size+1) 4 #[u]:=hu;obtain⟨W2,qH⟩:∃W2,(W.setCell ⟨w.heap.size,0,none⟩ (.slice A n c)).setCell ⟨w.heap.size+1,0,none⟩ (.bool true)=W2:=⟨_,rfl⟩;have r0:ae W2 w.heap.size 124 #[.slice A n c]:=by rw[←qH];exact (k0.aI 0 _).far (p:=⟨w.heap.size+1,0,none⟩) (by simp) _
  have r1:ae W2 (w.heap.size+1) 4 #[.bool true]:=by rw[←qH];exact (k1.far (p:=⟨w.heap.size,0,none⟩) (by simp) _).aI 0 _
  have rD:W2.heap[D]?=some (.deferred (some [])):=by rw[←qH];exact (Below.heap_setCell _ _ _ _ (by simp at hD ⊢;omega)).trans ((Below.heap_setCell _ _ _ _ (by simp at hD ⊢;omega)).trans hK)
  have rB:Below w.heap.size w W2:=by rw[←qH];exact (hB.setCell (p:=⟨w.heap.size,0,none⟩) (Nat.le_refl _) _).setCell (p:=⟨w.heap.size+1,0,none⟩) (by simp) _
  have rR:W2.ownsRow w.heap.size 3 1 (.slice A n c) n (ar (bc b.data.toList)):=by rw[←qH];exact Yq (p:=⟨w.heap.size+1,0,none⟩) (Yq (p:=⟨w.heap.size,0,none⟩) ai k0 (by decide) _) (k1.far (p:=⟨w.heap.size,0,none⟩) (by simp) _) (by decide) _
  rw[qH];refine⟨by simp,.inl ⟨_,_,rfl,run_takeDeferred rD,?_⟩⟩;have q0:=cell_kept (r0.cell 0) (grownBy_putObj' _ D (.deferred none)) (fun r e=>by cases e;exact⟨_,rD,rfl⟩);have q1:=cell_kept (r1.cell 0) (grownBy_putObj' _ D (.deferred none)) (fun r e=>by cases e;exact⟨_,rD,rfl⟩)
  have qR:(W2.putObj D (.deferred none)).ownsRow w.heap.size 3 1 (.slice A n c) n (ar (bc b.data.toList)):=rR.kept (grownBy_putObj' _ D (.deferred none)) (by
   rcases rR.2 with ⟨hv,_⟩|⟨g,cap,cur,hv,_,dH,_⟩
   ·cases hv;exact .inl rfl
   cases hv;refine .inr fun e=>?_;injection e with e
   subst e;rw[rD] at dH
   cases dH)
  refine⟨.tuple #[.slice A n c,.bool true],?_,?_⟩
  ·simp[results,Tryz.results168,go_sem,q0,q1]
  refine⟨rB.trans (belowK_b (w:=w) (Nat.le_refl _) _ D _ _ (by simp at hD;omega) rD rfl rfl),.inl ⟨HRt.out,A,c,by rw[←zC.out],?_⟩⟩;rw[←zC.out];exact Reads.eH qR
 case stop=>
  rintro D c pre W hD ⟨rest,hsp⟩ ⟨⟨rfl,x,hx,tz⟩,hv,hu,hB⟩ hK
  have Z0:=hide (show ¬Right b.data.toList from fun h=>by
   have:=h x.1 (by rw[←hsp];exact List.mem_append_left _ (List.mem_map_of_mem hx))
   omega)
  gi_wp2;refine⟨by simp,.inl ⟨_,_,rfl,run_takeDeferred hK,?_⟩⟩;have q0:=cell_kept hv.cell (grownBy_putObj' _ D (.deferred none)) (fun r e=>by cases e;exact⟨_,hK,rfl⟩);have q1:=cell_kept hu.cell (grownBy_putObj' _ D (.deferred none)) (fun r e=>by cases e;exact⟨_,hK,rfl⟩);refine⟨.tuple #[.slice none 0 0,.bool false],?_,?_⟩
  ·simp[results,Tryz.results168,go_sem,q0,q1]
  exact⟨hB.trans (belowK_b (w:=w) (Nat.le_refl _) _ D _ _ (by simp at hD;omega) hK rfl rfl),.inr ⟨Z0.out,rfl⟩⟩
end
section
open Go.RowKit Go.WideShapes

namespace Nf
def bytesOf(l:List Int):List UInt8:=l.flatMap fun r=>(Utf.put r).map bv
def jM(l:List Int):Option (List UInt8):=if l.all Utf.isScalar then some (bytesOf l) else none
theorem Ro{l:List Int}{j:Nat}{r:Int}(h:l[j]?=some r):bytesOf (l.take (j+1))=bytesOf (l.take j)++(Utf.put r).map bv:=by
 unfold bytesOf;rw[List.take_add_one,h,List.flatMap_append];simp
theorem Js(l:List Int):(bytesOf l).length≤4*l.length:=by
 unfold bytesOf
 induction l with
 | nil=>simp
 | cons x l ih=>
  rw[List.flatMap_cons,List.length_append,List.length_cons,List.length_map];have:=yI x;omega
end Nf
def nw(l:List Int):Value:=match Nf.jM l with
 | some x=>.tuple #[.string (aa x),.bool true]
 | none=>.tuple #[.string ⟨#[]⟩,.bool false]
theorem NB{t:ByteArray}{l:List UInt8}(h:fT t l):t=aa l:=by
 unfold fT at h;subst h;rfl
theorem Yy(l:List Int)(A:Option Addr)(c:Nat)(w:World)(hr:Reads w w.heap.size 1 A l.length (ar l))(hs:l.length≤100000000) :
  Calls Tryz.prog 169 #[.slice A l.length c] w fun e w'=>e=.returned (nw l)∧Below w.heap.size w w':=by
 obtain⟨L,hL⟩:∃L,l.length=L:=⟨_,rfl⟩;have HL:=hide hL;rw[hL] at hr hs;rw[hL];have HR:=hide hr;have G7:=hide (fun r W h=>ML r W h);have uj:=hide (fun r W h=>Xd r W h);clear hL hr
 go_enter Tryz.func169,Tryz.ntmps169
 go_wp2
 go_loopg [4,11] L (fun gk v4 v11 wr=>∃(j:Nat) (A':Option Addr) (c' m:Nat),gk=L-j∧j≤L∧v11=.int .i64 (j:Int)∧v4=.slice A' m c'∧m=(Nf.bytesOf (l.take j)).length∧wr.ownsRow w.heap.size 5 1 (.slice A' m c') m (cm (Nf.bytesOf (l.take j)))∧(∀x∈l.take j,Utf.isScalar x=true)∧Below w.heap.size w wr)
 case atStart=>exact⟨0,none,0,0,rfl,by omega,rfl,rfl,rfl,World.ownsRow_nil _ _ _ _,by simp,Below.refl _ _⟩
 case round=>
  obtain⟨j,A',c',m,au,hj,rfl,rfl,hm,ho,hsc,hb⟩:=hrel;have Hg:=hide au;have HO:=hide ho;have br:=hide hsc;have HB:=hide hb;have Hm:=hide hm;clear au ho hsc hb hm
  by_cases hlt:j<L
  ·obtain⟨r,gX⟩:∃r,l[j]?=some r:=⟨_,List.getElem?_eq_getElem (by rw[HL.out];exact hlt)⟩;obtain⟨gb,off,rfl,dA,hcell⟩:=HR.out.2 (by omega);have y0:wr.cell? ⟨gb,off+j,none⟩=some (.int .i64 r):=(HB.out.cell dA).trans (hcell j _ (by unfold ar;rw[List.getElem?_map,gX];rfl));have HN:=hide (Nf.Ro gX);have zq:=hide gX;have ji:m≤400000000:=by rw[Hm.out];refine Nat.le_trans (Nf.Js _) ?_;rw[List.length_take];omega
   clear hcell gX
   cases fC:Utf.isScalar r with
   | false=>
    have HP:=hide (uj.out r wr fC)
    have HV:=hide (show nw l=.tuple #[.string ⟨#[]⟩,.bool false] by
     unfold nw Nf.jM
     rw[if_neg (fun h=>by
      have:=List.all_eq_true.1 h r (List.mem_of_getElem? zq.out);rw[fC] at this
      cases this)])
    clear fC
    go_wp2_with fail
    refine HP.out.mono ?_;rintro e w2 ⟨rfl,hw2⟩;subst hw2;dsimp only;go_wp2;go_ret2;exact⟨by rw[HV.out];rfl,HB.out⟩
   | true=>
    have HP:=hide (G7.out r wr fC);have IG:=hide fC;have cM:((Utf.put r).map bv).length≤4:=by rw[List.length_map];exact yI r
    obtain⟨pl,hpl⟩:∃pl,(Utf.put r).map bv=pl:=⟨_,rfl⟩;rw[hpl] at cM HP HN;clear fC hpl
    go_wp2_with fail
    refine HP.out.mono ?_;rintro e w2 ⟨⟨t,rfl,ht⟩,af⟩;have HT:=hide ht;have ah:=hide (HB.out.trans (af.mono HB.out.size));have aJ:=hide (Cw HO.out af);have aK:=ah.out.size;have Da:=hide cM;clear ht af;dsimp only
    go_wp2_with (at_builtin;go_loud (refine YT w2 rfl (.tmp 22) (.tmp 23) 58 9 rfl w.heap.size 5 Tryz.underlying58 Tryz.underlying9 vM _ m (Nf.bytesOf (l.take j)) rfl aJ.out t pl HT.out rfl (by omega) aK ?_);intro A3 c3 w3 bW bw;have bZ:=hide bW;have aw:=hide (ah.out.grown bw ah.out.size (fun k e=>(aG aJ.out k e).1));clear bW bw)
    go_roundg (L-(j+1))
    case measure=>have:=Hg.out;omega
    case rel=>
     refine⟨j+1,A3,c3,m+pl.length,rfl,by omega,by first|rfl|go_num,rfl,by rw[HN.out,List.length_append,←Hm.out],by rw[HN.out];exact bZ.out,?_,aw.out⟩;rw[tL zq.out];intro x hx
     rcases List.mem_append.1 hx with hx|hx
     ·exact br.out x hx
     rw[List.mem_singleton] at hx;subst hx;exact IG.out
  have xP:j=L:=by omega
  have cN:l.take j=l:=List.take_of_length_le (by rw[HL.out];omega);have HT:=hide cN;have aJ:=hide (show wr.ownsRow w.heap.size 5 1 (.slice A' m c') m (cm (Nf.bytesOf l)) by have:=HO.out;rwa[cN] at this)
  have HV:=hide (show nw l=.tuple #[.string (aa (Nf.bytesOf l)),.bool true] by
    have hh:=br.out;rw[cN] at hh;unfold nw Nf.jM;rw[if_pos (List.all_eq_true.2 hh)])
  clear xP cN
  go_wp2_with (refine oK rfl 58 9 5 _ rfl Tryz.underlying58 Tryz.underlying5 Tryz.underlying9 w.heap.size _ m (by rfl) (Nf.bytesOf l) aJ.out ?_;intro t ht;have Ht:=hide (NB ht);clear ht)
  go_ret2;exact⟨by rw[HV.out,←Ht.out];rfl,HB.out⟩
end
end Go.Proofs.YtnbmfljhbpfilaaGreatDoor
