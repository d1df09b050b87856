/- NFC: scalars composed: nfc.compose. And more. -/
import Derived.Test.YtpdkeckeekchlaaGreatDoorOt27
import Derived.Maps.OwnIn
set_option linter.unusedSimpArgs false
set_option maxRecDepth 100000
set_option maxHeartbeats 8000000
set_option linter.unusedVariables false
namespace Go.Proofs.YtpdkeckeekchlaaGreatDoor
section
open Go.RowKit Go.WideShapes

namespace Nf
structure jX(s:Cs):Prop where
 lZ : -1≤s.st
 qu:s.st<s.o.length
 rC : -1≤s.hi
 cm:s.hi≤240
 ok:∀x∈s.o,Ok x
theorem ac1:jX ⟨[],-1,-1⟩:=⟨by simp,by simp,by simp,by simp,fun x hx=>by cases hx⟩
theorem Sv{s:Cs}{r v:Int}(h0:0≤s.st∧s.hi<cls r)(hw:whole (s.o.getD s.st.toNat 0) r=some v):gN s r=⟨s.o.set s.st.toNat v,s.st,s.hi⟩:=by
 unfold gN;rw[if_pos h0,hw]
theorem xN{s:Cs}{r:Int}(h:(0≤s.st∧s.hi<cls r)→whole (s.o.getD s.st.toNat 0) r=none)(hc:cls r=0):gN s r=⟨s.o++[r],s.o.length,-1⟩:=by
 unfold gN
 by_cases h0:0≤s.st∧s.hi<cls r
 ·rw[if_pos h0,h h0,if_pos hc]
 rw[if_neg h0,if_pos hc]
theorem AL{s:Cs}{r:Int}(h:(0≤s.st∧s.hi<cls r)→whole (s.o.getD s.st.toNat 0) r=none)(hc:cls r≠0):gN s r=⟨s.o++[r],s.st,max s.hi (cls r)⟩:=by
 unfold gN
 by_cases h0:0≤s.st∧s.hi<cls r
 ·rw[if_pos h0,h h0,if_neg hc]
 rw[if_neg h0,if_neg hc]
theorem jX.app{out:List Int}{st iH hi' r:Int}(h:∀x∈out,Ok x)(hr:Ok r)(h0 : -1≤iH)(h1:iH≤out.length)(h2 : -1≤hi')(h3:hi'≤240):jX ⟨out++[r],iH,hi'⟩ :=
 ⟨h0,by simp;omega,h2,h3,fun x hx=>by
  rcases List.mem_append.1 hx with hx|hx
  ·exact h x hx
  rw[List.mem_singleton] at hx;subst hx;exact hr⟩
theorem Tu{l:List Int}{k:Nat}{x:Int}(h:l[k]?=some x):l.getD k 0=x:=by
 rw[List.getD_eq_getElem?_getD,h];rfl
theorem jX.set{out:List Int}{st hi v:Int}{k:Nat}(h:jX ⟨out,st,hi⟩)(hv:Ok v):jX ⟨out.set k v,st,hi⟩ :=
 ⟨h.lZ,by have:=h.qu;simpa using this,h.rC,h.cm,fun x hx=>by
  rcases List.mem_or_eq_of_mem_set hx with hx|hx
  ·exact h.ok x hx
  subst hx;exact hv⟩
theorem jX.step{s:Cs}{r:Int}(h:jX s)(hr:Ok r):jX (gN s r):=by
 have hc:=oy r
 by_cases h0:0≤s.st∧s.hi<cls r
 ·cases hw:whole (s.o.getD s.st.toNat 0) r with
  | some v=>
   rw[Sv h0 hw];obtain⟨x,hx⟩:∃x,s.o[s.st.toNat]?=some x:=⟨_,List.getElem?_eq_getElem (by have:=h.qu;omega)⟩;rw[Tu hx] at hw;exact jX.set h (Zh hw (h.ok x (List.mem_of_getElem? hx)))
  | none=>
   by_cases h1:cls r=0
   ·rw[xN (fun _=>hw) h1];exact jX.app (st:=0) h.ok hr (by omega) (by omega) (by omega) (by omega)
   rw[AL (fun _=>hw) h1];exact jX.app (st:=0) h.ok hr h.lZ (by have:=h.qu;omega) (by have:=h.rC;omega) (by have:=h.cm;omega)
 by_cases h1:cls r=0
 ·rw[xN (fun h=>absurd h h0) h1];exact jX.app (st:=0) h.ok hr (by omega) (by omega) (by omega) (by omega)
 rw[AL (fun h=>absurd h h0) h1];exact jX.app (st:=0) h.ok hr h.lZ (by have:=h.qu;omega) (by have:=h.rC;omega) (by have:=h.cm;omega)
theorem Su(s:Cs)(r:Int):(gN s r).o.length≤s.o.length+1:=by
 unfold gN;split
 ·simp
 split<;>simp
def dx(l:List Int)(j:Nat):Cs:=(l.take j).foldl gN ⟨[],-1,-1⟩
theorem Ss{l:List Int}{j:Nat}{r:Int}(h:l[j]?=some r):dx l (j+1)=gN (dx l j) r:=by
 unfold dx;rw[List.take_add_one,h,List.foldl_append];rfl
theorem J9{l:List Int}(h:∀x∈l,Ok x):∀j,jX (dx l j)∧(dx l j).o.length≤j
 | 0=>⟨by unfold dx;simpa using ac1,by unfold dx;simp⟩
 | j+1=>by
  obtain⟨h1,h2⟩:=J9 h j
  cases hr:l[j]? with
  | none=>
   have e:dx l (j+1)=dx l j:=by unfold dx;rw[List.take_add_one,hr];simp
   rw[e];exact⟨h1,by omega⟩
  | some r=>
   rw[Ss hr];have:=Su (dx l j) r;exact⟨h1.step (h r (List.mem_of_getElem? hr)),by omega⟩
end Nf
theorem ai.amR{R:Nat}{w w':World}(h:ai R w w'):w.grownBy w' (some R):=⟨h.os,h.tape,h.output,h.size,fun k hk hne=>h.block k hk (fun e=>hne (by rw[e]))⟩
theorem Xb{w w':World}{base mb n c:Nat}{A:Option Addr}{xs:List Value}{D:DataW Unit}{k:Nat}(h:w.ownsRow base 3 1 (.slice A n c) n xs)(hm:gK w mb k D)(hb:ai mb w w'):w'.ownsRow base 3 1 (.slice A n c) n xs :=
 h.kept hb.amR (by
  cases hv:(Value.slice A n c).ownBlock with
  | none=>exact .inl rfl
  | some g=>
   refine .inr fun e=>?_;injection e with e
   exact hm.WM g 3 (aD h g hv).2 e)
theorem gK.kept{w w':World}{base mb n c k:Nat}{A:Option Addr}{xs:List Value}{D:DataW Unit}(hm:gK w mb k D)(h:w.ownsRow base 3 1 (.slice A n c) n xs)(hg:w.grownBy w' (Value.slice A n c).ownBlock):gK w' mb k D :=
 hm.same (hg.block mb hm.lt fun e=>hm.WM mb 3 (aD h mb e.symm).2 rfl)
theorem acT(l:List Int)(A:Option Addr)(c:Nat)(w:World)(hr:Reads w w.heap.size 1 A l.length (aq l))(bK:∀x∈l,Nf.Ok x)(hs:l.length≤20000000) :
  Calls Tryz.prog 130 #[.slice A l.length c] w fun e w'=>∃A' c',e=.returned (.slice A' (Nf.compose l).length c')∧w'.ownsRow w.heap.size 3 1 (.slice A' (Nf.compose l).length c') (Nf.compose l).length (aq (Nf.compose l))∧Below w.heap.size w w':=by
 obtain⟨L,hL⟩:∃L,l.length=L:=⟨_,rfl⟩;have HL:=ap hL;rw[hL] at hr hs;rw[hL];have HR:=ap hr;have ic:=ap bK;have Io:=ap (Nf.J9 bK);have uJ:=ap (fun r W=>EA r W);have gD:=@run_makeMap Tryz.prog;clear hL hr bK
 go_enter Tryz.func130,Tryz.ntmps130
 go_wp2;have qA:=ap ((gK.new w).same (W':=(w.alloc (.map #[] 0)).alloc (.cells #[.map (some w.heap.size)] 234)) (Below.heap_alloc _ _ _ (by simp)))
 have ia:=ap (show ae ((w.alloc (.map #[] 0)).alloc (.cells #[.map (some w.heap.size)] 234)) (w.heap.size+1) 234 #[.map (some w.heap.size)] by
  have:=ae.new (w.alloc (.map #[] 0)) 234 #[.map (some w.heap.size)];rwa[World.size_alloc] at this)
 have cu:=ap ((ay w (.map #[] 0)).trans ((ay (w.alloc (.map #[] 0)) (.cells #[.map (some w.heap.size)] 234)).mono (by simp)))
 go_loopg [2,5,6,16] L (fun gk v2 v5 v6 v16 wr=>∃(j n:Nat) (A':Option Addr) (c':Nat) (D:DataW Unit),gk=L-j∧j≤L∧v16=.int .i64 (j:Int)∧v2=.slice A' (Nf.dx l j).o.length c'∧v5=.int .i64 (Nf.dx l j).st∧v6=.int .i64 (Nf.dx l j).hi∧
  wr.ownsRow w.heap.size 3 1 (.slice A' (Nf.dx l j).o.length c') (Nf.dx l j).o.length (aq (Nf.dx l j).o)∧gK wr w.heap.size n D∧n≤j∧ae wr (w.heap.size+1) 234 #[.map (some w.heap.size)]∧Below w.heap.size w wr)
 case atStart=>exact⟨0,0,none,0,.map [],rfl,by omega,rfl,rfl,rfl,rfl,World.ownsRow_nil _ _ _ _,qA.o,Nat.le_refl _,ia.o,cu.o⟩
 case round=>
  obtain⟨j,n,A',c',D,au,hj,rfl,rfl,rfl,rfl,ho,hm,Fy,hk,hb⟩:=hrel;have Hg:=ap au;have HB:=ap hb;have HM:=ap hm;have HK:=ap hk;clear au hb hm hk
  by_cases hlt:j<L
  ·obtain⟨r,ir⟩:∃r,l[j]?=some r:=⟨_,List.getElem?_eq_getElem (by rw[HL.o];exact hlt)⟩;obtain⟨gb,off,rfl,dC,hcell⟩:=HR.o.2 (by omega);have y0:wr.cell? ⟨gb,off+j,none⟩=some (.int .i64 r):=(HB.o.cell dC).trans (hcell j _ (by unfold aq;rw[List.getElem?_map,ir];rfl));have HN:=ap (Nf.Ss ir);obtain⟨hcs,jI⟩:=Io.o j;have jE:=ap (ic.o r (List.mem_of_getElem? ir));obtain⟨⟨out,st,hi⟩,hs0⟩:∃s,Nf.dx l j=s:=⟨_,rfl⟩;have kX:=ap hs0;rw[hs0] at hcs jI ho HN ⊢;dsimp only at hcs jI ho ⊢;have ZU:=ap hcs;have HO:=ap ho;obtain⟨m,hm⟩:∃m,out.length=m:=⟨_,rfl⟩;have Hm:=ap hm;rw[hm] at jI HO ⊢;obtain⟨cr,lK⟩:∃cr,Nf.cls r=cr:=⟨_,rfl⟩;have dZ:=ap (fun W=>uJ.o r W);rw[lK] at dZ;have jh:=ap lK;have Vn:=hcs.lZ;have afx:=hcs.rC;have afy:=hcs.cm;have agl:st<(m:Int):=by rw[←hm];exact hcs.qu
   have afl:0≤cr∧cr≤240:=by rw[←lK];exact Nf.oy r
   dsimp only at Vn afx afy;clear hcell ir hs0 hcs ho hm lK
   by_cases Bl:0≤st∧hi<cr
   ·obtain⟨h0,h1⟩:=Bl;obtain⟨k,rfl⟩:∃k:Nat,st=k:=⟨st.toNat,by omega⟩;obtain⟨x,hx⟩:∃x,out[k]?=some x:=⟨_,List.getElem?_eq_getElem (by rw[Hm.o];omega)⟩;obtain⟨g,cap,mE,dG,UI⟩:=HO.o.form (by omega);injection mE with hA _ yi
    subst hA;subst yi;have q1:wr.cell? ⟨g,k,none⟩=some (.int .i64 x):=(HO.o.cellAt k (by omega)).trans (by unfold aq;rw[List.getElem?_map,hx];rfl);have Hx:=ap hx;have Hxo:=ap (ZU.o.ok x (List.mem_of_getElem? hx));have BK:k<m:=by omega
    have Dt:=ap (aia x r (w.heap.size+1) w.heap.size n D wr Hxo.o jE.o HK.o HM.o (by omega));have QB:=ap (show (out.getD ((k:Int)).toNat 0)=x by rw[Int.toNat_natCast];exact Nf.Tu Hx.o);clear hx dG UI
    cases hw:Nf.whole x r with
    | some v=>
     have HV:=ap (show jW x r=.tuple #[.int .i64 v,.bool true] by unfold jW;rw[hw]);have Hw:=ap hw;rw[HV.o] at Dt;clear hw HV
     go_wp2_with fail
     go_wp2_with fail
     refine cq (dZ.o _) ?_
     go_wp2_with fail
     refine Dt.o.mono ?_;rintro e w2 ⟨n',D',rfl,eN,LW,af⟩;have n8:=ap eN;have ag:=ap (HB.o.trans (af.below (Nat.le_refl _) HB.o.size));have aK:=ap (Xb HO.o HM.o af);have bm:=ap (af.blk HK.o (by omega));have q2:=(aK.o.cellAt k (by omega)).trans (show _=some (Value.int .i64 x) by unfold aq;rw[List.getElem?_map,Hx.o];rfl);have f2:=aK.o.frozenAt k;have hst:=aK.o.stored k (.int .i64 v);have cf:=ap hst.1;have l8:=ap (n8.o.kept aK.o (show w2.grownBy (w2.setCell ⟨g,k,none⟩ (.int .i64 v)) (Value.slice (some ⟨g,0,none⟩) m c').ownBlock from hst.2));have br:=ap (bm.o.grown hst.2 (fun e=>bR aK.o bm.o (by decide) e.symm));have aw:=ap (ag.o.setCell (p:=⟨g,k,none⟩) (by exact (aD aK.o g rfl).1) (.int .i64 v));clear eN af hst q1;dsimp only;go_wp2
     go_roundg (L-(j+1))
     case measure=>have:=Hg.o;omega
     case rel=>
      have e1:Nf.dx l (j+1)=⟨out.set k v,(k:Int),hi⟩:=by
       rw[HN.o,Nf.Sv (s:=⟨out,(k:Int),hi⟩) (v:=v) ⟨by omega,by rw[jh.o];exact h1⟩ (by show Nf.whole (out.getD ((k:Int)).toNat 0) r=some v;rw[QB.o];exact Hw.o)];simp only[Int.toNat_natCast]
      have e2:(out.set k v).length=m:=by rw[List.length_set,Hm.o]
      refine⟨j+1,n',some ⟨g,0,none⟩,c',D',rfl,by omega,by first|rfl|go_num,by rw[e1,e2],by rw[e1],by rw[e1],?_,l8.o,by omega,br.o,aw.o⟩;rw[e1,e2];have:=cf.o;unfold aq at this ⊢;rw[List.map_set];exact this
    | none=>
     have HV:=ap (show jW x r=.tuple #[.int .i64 0,.bool false] by unfold jW;rw[hw]);have Hw:=ap (show Nf.whole (out.getD ((k:Int)).toNat 0) r=none by rw[QB.o];exact hw);rw[HV.o] at Dt;clear hw HV
     go_wp2_with fail
     go_wp2_with fail
     refine cq (dZ.o _) ?_
     go_wp2_with fail
     refine Dt.o.mono ?_;rintro e w2 ⟨n',D',rfl,eN,LW,af⟩;have n8:=ap eN;have ag:=ap (HB.o.trans (af.below (Nat.le_refl _) HB.o.size));have aK:=ap (Xb HO.o HM.o af);have bm:=ap (af.blk HK.o (by omega));obtain⟨Yz,wH⟩:∃Yz:Int,Yz=(k:Int):=⟨_,rfl⟩;clear eN af q1;dsimp only
     by_cases hz:cr=0
     ·have Hz:=ap hz;have hzd:decide (cr=0)=true:=decide_eq_true hz;have hzb:(cr==0)=true:=by simp[hz]
      have zl:IntKind.i64.wrap (((m+1:Nat):Int)-1)=(m:Int):=by rw[IntWalk.i64_in _ (by omega)];omega
      clear hz;have gS:m≤20000000:=by omega
      have aN:=ag.o.size
      go_wp2_with (at_builtin;go_loud (refine et w2 rfl (.tmp 44) (.tmp 46) 164 rfl w.heap.size (.int .i64 0) 1 8 Tryz.underlying164 fM rfl (by omega) _ m (aq out) rfl aK.o rfl (by simp[Value.oneCell']) rfl (by unfold maxLen;omega) (by omega) aN ?_);intro g cap w3 b7 bz _ _ _;have cf:=ap (show w3.ownsRow w.heap.size 3 1 (.slice (some ⟨g,0,none⟩) (m+1) cap) (m+1) (aq (out++[r])) from (iA out [r]).symm▸b7);have l8:=ap (n8.o.kept aK.o bz);have br:=ap (bm.o.grown bz (fun e=>bR aK.o bm.o (by decide) e.symm));have aw:=ap (ag.o.grown bz ag.o.size (fun k e=>(aD aK.o k e).1));clear b7 bz)
      go_roundg (L-(j+1))
      case measure=>have:=Hg.o;omega
      case rel=>
       have e1:Nf.dx l (j+1)=⟨out++[r],m,-1⟩:=by
        rw[HN.o,Nf.xN (s:=⟨out,(k:Int),hi⟩) (fun _=>Hw.o) (by rw[jh.o];exact Hz.o)];simp only[Hm.o]
       have e2:(out++[r]).length=m+1:=by rw[List.length_append,Hm.o];rfl
       refine⟨j+1,n',some ⟨g,0,none⟩,cap,D',rfl,by omega,by first|rfl|go_num,by rw[e1,e2],by rw[e1]<;>first|rfl|go_num,by rw[e1],by rw[e1,e2];exact cf.o,l8.o,by omega,br.o,aw.o⟩
     have Hz:=ap hz;have hzd:decide (cr=0)=false:=decide_eq_false hz;have hzb:(cr==0)=false:=by simp[hz]
     have zl:IntKind.i64.wrap (((m+1:Nat):Int)-1)=(m:Int):=by rw[IntWalk.i64_in _ (by omega)];omega
     obtain⟨mx,hmx⟩:∃mx,max hi cr=mx:=⟨_,rfl⟩;have Af:=ap hmx;have gS:m≤20000000:=by omega
     have aN:=ag.o.size
     go_wp2_with (at_builtin;go_loud (refine et w2 rfl (.tmp 44) (.tmp 46) 164 rfl w.heap.size (.int .i64 0) 1 8 Tryz.underlying164 fM rfl (by omega) _ m (aq out) rfl aK.o rfl (by simp[Value.oneCell']) rfl (by unfold maxLen;omega) (by omega) aN ?_);intro g cap w3 b7 bz _ _ _;have cf:=ap (show w3.ownsRow w.heap.size 3 1 (.slice (some ⟨g,0,none⟩) (m+1) cap) (m+1) (aq (out++[r])) from (iA out [r]).symm▸b7);have l8:=ap (n8.o.kept aK.o bz);have br:=ap (bm.o.grown bz (fun e=>bR aK.o bm.o (by decide) e.symm));have aw:=ap (ag.o.grown bz ag.o.size (fun k e=>(aD aK.o k e).1));clear b7 bz)
     go_roundg (L-(j+1))
     case measure=>have:=Hg.o;omega
     case rel=>
      have e1:Nf.dx l (j+1)=⟨out++[r],(k:Int),mx⟩:=by
       rw[HN.o,Nf.AL (s:=⟨out,(k:Int),hi⟩) (fun _=>Hw.o) (by rw[jh.o];exact Hz.o)];simp only[jh.o,Af.o]
      have e2:(out++[r]).length=m+1:=by rw[List.length_append,Hm.o];rfl
      refine⟨j+1,n',some ⟨g,0,none⟩,cap,D',rfl,by omega,by first|rfl|go_num,by rw[e1,e2],by rw[e1]<;>first|rfl|go_num,by rw[e1],by rw[e1,e2];exact cf.o,l8.o,by omega,br.o,aw.o⟩
   have DJ:=ap Bl
   by_cases h0:0≤st
   ·have h1:¬hi<cr:=fun h=>Bl ⟨h0,h⟩;clear Bl
    go_wp2_with fail
    go_wp2_with fail
    refine cq (dZ.o _) ?_
    by_cases hz:cr=0
    ·have Hz:=ap hz;have hzd:decide (cr=0)=true:=decide_eq_true hz;have hzb:(cr==0)=true:=by simp[hz]
     have zl:IntKind.i64.wrap (((m+1:Nat):Int)-1)=(m:Int):=by rw[IntWalk.i64_in _ (by omega)];omega
     clear hz;have gS:m≤20000000:=by omega
     have aN:=HB.o.size
     go_wp2_with (at_builtin;go_loud (refine et wr rfl (.tmp 44) (.tmp 46) 164 rfl w.heap.size (.int .i64 0) 1 8 Tryz.underlying164 fM rfl (by omega) _ m (aq out) rfl HO.o rfl (by simp[Value.oneCell']) rfl (by unfold maxLen;omega) (by omega) aN ?_);intro g cap w3 b7 bz _ _ _;have cf:=ap (show w3.ownsRow w.heap.size 3 1 (.slice (some ⟨g,0,none⟩) (m+1) cap) (m+1) (aq (out++[r])) from (iA out [r]).symm▸b7);have l8:=ap (HM.o.kept HO.o bz);have br:=ap (HK.o.grown bz (fun e=>bR HO.o HK.o (by decide) e.symm));have aw:=ap (HB.o.grown bz HB.o.size (fun k e=>(aD HO.o k e).1));clear b7 bz)
     go_roundg (L-(j+1))
     case measure=>have:=Hg.o;omega
     case rel=>
      have e1:Nf.dx l (j+1)=⟨out++[r],m,-1⟩:=by
       rw[HN.o,Nf.xN (s:=⟨out,st,hi⟩) (fun h=>absurd h (by rw[jh.o];exact DJ.o)) (by rw[jh.o];exact Hz.o)];simp only[Hm.o]
      have e2:(out++[r]).length=m+1:=by rw[List.length_append,Hm.o];rfl
      refine⟨j+1,n,some ⟨g,0,none⟩,cap,D,rfl,by omega,by first|rfl|go_num,by rw[e1,e2],by rw[e1]<;>first|rfl|go_num,by rw[e1],by rw[e1,e2];exact cf.o,l8.o,by omega,br.o,aw.o⟩
    have Hz:=ap hz;have hzd:decide (cr=0)=false:=decide_eq_false hz;have hzb:(cr==0)=false:=by simp[hz]
    have zl:IntKind.i64.wrap (((m+1:Nat):Int)-1)=(m:Int):=by rw[IntWalk.i64_in _ (by omega)];omega
    obtain⟨mx,hmx⟩:∃mx,max hi cr=mx:=⟨_,rfl⟩;have Af:=ap hmx;have gS:m≤20000000:=by omega
    have aN:=HB.o.size
    go_wp2_with (at_builtin;go_loud (refine et wr rfl (.tmp 44) (.tmp 46) 164 rfl w.heap.size (.int .i64 0) 1 8 Tryz.underlying164 fM rfl (by omega) _ m (aq out) rfl HO.o rfl (by simp[Value.oneCell']) rfl (by unfold maxLen;omega) (by omega) aN ?_);intro g cap w3 b7 bz _ _ _;have cf:=ap (show w3.ownsRow w.heap.size 3 1 (.slice (some ⟨g,0,none⟩) (m+1) cap) (m+1) (aq (out++[r])) from (iA out [r]).symm▸b7);have l8:=ap (HM.o.kept HO.o bz);have br:=ap (HK.o.grown bz (fun e=>bR HO.o HK.o (by decide) e.symm));have aw:=ap (HB.o.grown bz HB.o.size (fun k e=>(aD HO.o k e).1));clear b7 bz)
    go_roundg (L-(j+1))
    case measure=>have:=Hg.o;omega
    case rel=>
     have e1:Nf.dx l (j+1)=⟨out++[r],st,mx⟩:=by
      rw[HN.o,Nf.AL (s:=⟨out,st,hi⟩) (fun h=>absurd h (by rw[jh.o];exact DJ.o)) (by rw[jh.o];exact Hz.o)];simp only[jh.o,Af.o]
     have e2:(out++[r]).length=m+1:=by rw[List.length_append,Hm.o];rfl
     refine⟨j+1,n,some ⟨g,0,none⟩,cap,D,rfl,by omega,by first|rfl|go_num,by rw[e1,e2],by rw[e1]<;>first|rfl|go_num,by rw[e1],by rw[e1,e2];exact cf.o,l8.o,by omega,br.o,aw.o⟩
   clear Bl
   go_wp2_with fail
   go_wp2_with fail
   refine cq (dZ.o _) ?_
   by_cases hz:cr=0
   ·have Hz:=ap hz;have hzd:decide (cr=0)=true:=decide_eq_true hz;have hzb:(cr==0)=true:=by simp[hz]
    have zl:IntKind.i64.wrap (((m+1:Nat):Int)-1)=(m:Int):=by rw[IntWalk.i64_in _ (by omega)];omega
    clear hz;have gS:m≤20000000:=by omega
    have aN:=HB.o.size
    go_wp2_with (at_builtin;go_loud (refine et wr rfl (.tmp 44) (.tmp 46) 164 rfl w.heap.size (.int .i64 0) 1 8 Tryz.underlying164 fM rfl (by omega) _ m (aq out) rfl HO.o rfl (by simp[Value.oneCell']) rfl (by unfold maxLen;omega) (by omega) aN ?_);intro g cap w3 b7 bz _ _ _;have cf:=ap (show w3.ownsRow w.heap.size 3 1 (.slice (some ⟨g,0,none⟩) (m+1) cap) (m+1) (aq (out++[r])) from (iA out [r]).symm▸b7);have l8:=ap (HM.o.kept HO.o bz);have br:=ap (HK.o.grown bz (fun e=>bR HO.o HK.o (by decide) e.symm));have aw:=ap (HB.o.grown bz HB.o.size (fun k e=>(aD HO.o k e).1));clear b7 bz)
    go_roundg (L-(j+1))
    case measure=>have:=Hg.o;omega
    case rel=>
     have e1:Nf.dx l (j+1)=⟨out++[r],m,-1⟩:=by
      rw[HN.o,Nf.xN (s:=⟨out,st,hi⟩) (fun h=>absurd h (by rw[jh.o];exact DJ.o)) (by rw[jh.o];exact Hz.o)];simp only[Hm.o]
     have e2:(out++[r]).length=m+1:=by rw[List.length_append,Hm.o];rfl
     refine⟨j+1,n,some ⟨g,0,none⟩,cap,D,rfl,by omega,by first|rfl|go_num,by rw[e1,e2],by rw[e1]<;>first|rfl|go_num,by rw[e1],by rw[e1,e2];exact cf.o,l8.o,by omega,br.o,aw.o⟩
   have Hz:=ap hz;have hzd:decide (cr=0)=false:=decide_eq_false hz;have hzb:(cr==0)=false:=by simp[hz]
   have zl:IntKind.i64.wrap (((m+1:Nat):Int)-1)=(m:Int):=by rw[IntWalk.i64_in _ (by omega)];omega
   obtain⟨mx,hmx⟩:∃mx,max hi cr=mx:=⟨_,rfl⟩;have Af:=ap hmx;have gS:m≤20000000:=by omega
   have aN:=HB.o.size
   go_wp2_with (at_builtin;go_loud (refine et wr rfl (.tmp 44) (.tmp 46) 164 rfl w.heap.size (.int .i64 0) 1 8 Tryz.underlying164 fM rfl (by omega) _ m (aq out) rfl HO.o rfl (by simp[Value.oneCell']) rfl (by unfold maxLen;omega) (by omega) aN ?_);intro g cap w3 b7 bz _ _ _;have cf:=ap (show w3.ownsRow w.heap.size 3 1 (.slice (some ⟨g,0,none⟩) (m+1) cap) (m+1) (aq (out++[r])) from (iA out [r]).symm▸b7);have l8:=ap (HM.o.kept HO.o bz);have br:=ap (HK.o.grown bz (fun e=>bR HO.o HK.o (by decide) e.symm));have aw:=ap (HB.o.grown bz HB.o.size (fun k e=>(aD HO.o k e).1));clear b7 bz)
   go_roundg (L-(j+1))
   case measure=>have:=Hg.o;omega
   case rel=>
    have e1:Nf.dx l (j+1)=⟨out++[r],st,mx⟩:=by
     rw[HN.o,Nf.AL (s:=⟨out,st,hi⟩) (fun h=>absurd h (by rw[jh.o];exact DJ.o)) (by rw[jh.o];exact Hz.o)];simp only[jh.o,Af.o]
    have e2:(out++[r]).length=m+1:=by rw[List.length_append,Hm.o];rfl
    refine⟨j+1,n,some ⟨g,0,none⟩,cap,D,rfl,by omega,by first|rfl|go_num,by rw[e1,e2],by rw[e1]<;>first|rfl|go_num,by rw[e1],by rw[e1,e2];exact cf.o,l8.o,by omega,br.o,aw.o⟩
  go_wp2;go_ret;have yq:j=L:=by omega
  have e1:Nf.dx l j=l.foldl Nf.gN ⟨[],-1,-1⟩:=by unfold Nf.dx;rw[List.take_of_length_le (by rw[HL.o];omega)]
  have e2:(Nf.dx l j).o=Nf.compose l:=by rw[e1];rfl
  rw[e2] at ho ⊢;exact⟨_,_,rfl,ho,HB.o⟩
end
section
open Go.RowKit Go.Shelf

attribute [local go_sem] Oper.semAt_some

theorem CZ{w w':World}{b e size n:Nat}{v:Value}{xs:List Value}(h:w.ownsRow b e size v n xs)(hb:Below w.heap.size w w'):w'.ownsRow b e size v n xs:=by
 refine⟨h.1,?_⟩
 rcases h.2 with hn|⟨g,cap,cur,rfl,jr,dT,rest⟩
 ·exact .inl hn
 exact .inr ⟨g,cap,cur,rfl,jr,(hb.block g (Array.getElem?_eq_some_iff.1 dT).1).trans dT,rest⟩
theorem YU{w:World}{b e size n t:Nat}{v:Value}{xs:List Value}{p:Addr}{cs:Array Value}(h:w.ownsRow b e size v n xs)(hp:ae w p.block t cs)(ht:e≠t)(u:Value):(w.setCell p u).ownsRow b e size v n xs :=
 ownsRow_setCell_other h (bR h hp ht) u
def bn(l:List UInt8):List Int:=(Utf.pieces l).map (·.2)
def Right(l:List UInt8):Prop:=∀p∈Utf.pieces l,0≤p.2
def Ei(w:World)(pre:List Pc)(W:World):Prop :=
 (∀x∈pre,0≤x.1.2)∧(∃v,Boxed W w.heap.size 164 v∧W.ownsRow w.heap.size 3 1 v pre.length (aq (pre.map (·.1.2))))∧(∃u,Boxed W (w.heap.size+1) 4 u)∧(∃u,Boxed W (w.heap.size+1+1) 9 u)∧Below w.heap.size w W
def RA(w:World)(c:Code)(pre:List Pc)(W:World):Prop:=(c=.ret∧∃x∈pre,x.1.2<0)∧Boxed W w.heap.size 164 (.slice none 0 0)∧Boxed W (w.heap.size+1) 4 (.bool false)∧Below w.heap.size w W
theorem abU(w:World):OwnFrom (w.heap.size+1+1+1) (Ei w):=by
 rintro s X Y row ⟨h0,⟨v,hv,hr⟩,⟨u,hu⟩,⟨u2,bG⟩,h3⟩ hg ah
 have hne:∀{B:Nat} {t:TypeId} {u:Value},Boxed X B t u→some B≠row:=fun h e=>by
  obtain⟨_,o,ho,hc⟩:=ah _ e.symm;rw[show X.heap[_]?=_ from h] at ho;cases ho;cases hc
 refine⟨h0,⟨v,hv.kept hg (hne hv),hr.kept hg ?_⟩,⟨u,hu.kept hg (hne hu)⟩,⟨u2,bG.kept hg (hne bG)⟩,h3.grown hg h3.size (fun k e=>by have:=(ah k e).1;omega)⟩
 rcases hr.2 with ⟨rfl,_⟩|⟨g,cap,cur,rfl,_,dG,_⟩
 ·exact .inl rfl
 refine .inr fun e'=>?_;obtain⟨_,o,ho,hc⟩:=ah g (by simpa[Value.ownBlock] using e'.symm);rw[dG] at ho;cases ho;cases hc
theorem abV(w:World)(c:Code):OwnFrom (w.heap.size+1+1+1) (RA w c):=by
 rintro s X Y row ⟨h0,hv,hu,h3⟩ hg ah
 have hne:∀{B:Nat} {t:TypeId} {u:Value},Boxed X B t u→some B≠row:=fun h e=>by
  obtain⟨_,o,ho,hc⟩:=ah _ e.symm;rw[show X.heap[_]?=_ from h] at ho;cases ho;cases hc
 exact⟨h0,hv.kept hg (hne hv),hu.kept hg (hne hu),h3.grown hg h3.size (fun k e=>by have:=(ah k e).1;omega)⟩
theorem am8{w W W2 w1:World}{pre:List Pc}{x:Pc}{v v':Value}(h:Ei w pre W)(hx:0≤x.1.2)(hW:Below W.heap.size W W2)(hv:Boxed W w.heap.size 164 v)(ah:W.ownsRow w.heap.size 3 1 v pre.length (aq (pre.map (·.1.2))))
  (hown:w1.ownsRow w.heap.size 3 1 v' (pre.length+1) (aq (pre.map (·.1.2))++[.int .i64 x.1.2])) (hgrow:W2.grownBy w1 v.ownBlock) :
  Boxed w1 w.heap.size 164 v∧KeepsOthers W (w1.setCell ⟨w.heap.size,0,none⟩ v')∧eX (w.heap.size+1+1) W (w1.setCell ⟨w.heap.size,0,none⟩ v')∧Ei w (pre++[x]) (w1.setCell ⟨w.heap.size,0,none⟩ v'):=by
 obtain⟨h0,-,⟨u,hu⟩,⟨u2,bG⟩,h3⟩:=h;have cQ:Boxed W2 w.heap.size 164 v:=hv.kept (cM hW none) (by simp);have Vs:Boxed W2 (w.heap.size+1) 4 u:=hu.kept (cM hW none) (by simp);have Vt:Boxed W2 (w.heap.size+1+1) 9 u2:=bG.kept (cM hW none) (by simp);have lU:W2.ownsRow w.heap.size 3 1 v pre.length (aq (pre.map (·.1.2))):=CZ ah hW;have aU:Boxed w1 w.heap.size 164 v:=cQ.kept hgrow (cQ.not_row (by decide) lU);have dJ:Boxed w1 (w.heap.size+1) 4 u:=Vs.kept hgrow (Vs.not_row (by decide) lU);have Vu:Boxed w1 (w.heap.size+1+1) 9 u2:=Vt.kept hgrow (Vt.not_row (by decide) lU);have hlen:(pre++[x]).length=pre.length+1:=by simp
 refine⟨aU,?_,?_,?_,⟨v',aU.set v',?_⟩,⟨u,?_⟩,⟨u2,?_⟩,?_⟩
 ·refine ((mN hW).trans (KeepsOthers.of_grownBy hgrow fun j o ej hj=>?_)).trans (KeepsOthers.setCell _ _ _);obtain⟨_,cs,fr,h⟩:=aD lU j ej;rw[h] at hj;cases hj;rfl
 ·exact (Below.heap_setCell _ _ _ _ (by simp;omega)).trans (Vu.trans bG.symm)
 ·intro y hy
  rcases List.mem_append.1 hy with hy|hy
  ·exact h0 y hy
  simp only[List.mem_singleton] at hy;rw[hy];exact hx
 ·rw[hlen,show aq ((pre++[x]).map (·.1.2))=aq (pre.map (·.1.2))++[.int .i64 x.1.2] by simp[aq]];exact hown.kept (grownBy_setCell' w1 _ v') (.inr (aU.not_row (by decide) hown).symm)
 ·exact dJ.kept (grownBy_setCell' w1 _ v') (by simp)
 ·exact Vu.kept (grownBy_setCell' w1 _ v') (by simp;omega)
 exact ((h3.trans (hW.mono h3.size)).grown hgrow (Nat.le_trans h3.size hW.size) fun j ej=>(aD lU j ej).1).setCell (p:=⟨w.heap.size,0,none⟩) (Nat.le_refl _) v'
theorem YZ(b:ByteArray)(w:World)(hs:b.size≤1000000000) :
  Calls Tryz.prog 178 #[.string b] w fun e w'=>Below w.heap.size w w'∧((Right b.data.toList∧∃A c,e=.returned (.tuple #[.slice A (bn b.data.toList).length c,.bool true])∧Reads w' w'.heap.size 1 A (bn b.data.toList).length (aq (bn b.data.toList)))∨(¬Right b.data.toList∧e=.returned (.tuple #[.slice none 0 0,.bool false]))):=by
 refine (callsIn_wide (n:=5)).1 ?_;refine callsIn_of_wp_marks Tryz.func178 rfl trivial ?_ rfl;simp only[Tryz.ntmps178,List.size_toArray,List.length_cons,List.length_nil,Nat.reduceAdd,Nat.reduceSub,Array.replicate_succ,Array.replicate_zero,List.push_toArray,List.append_toArray,List.nil_append,List.cons_append]
 gi_wp2_with (refine⟨trivial,?_⟩;gi_at_call 128;refine (callsIn_wide.2 (Xu _ _)).mono ?_;rintro e w' ⟨rfl,rfl⟩)
 have b0:=Boxed.new w 164 (.slice none 0 0);have b1:=Boxed.new (w.alloc (.cells #[.slice none 0 0] 164)) 4 (.bool false);rw[World.size_alloc] at b1;have b2:=Boxed.new ((w.alloc (.cells #[.slice none 0 0] 164)).alloc (.cells #[.bool false] 4)) 9 (.string b);rw[World.size_alloc,World.size_alloc] at b2
 have rq:Below w.heap.size w (((w.alloc (.cells #[.slice none 0 0] 164)).alloc (.cells #[.bool false] 4)).alloc (.cells #[.string b] 9)) :=
  (((Below.refl _ w).alloc (Nat.le_refl _) _).alloc (by simp) _).alloc (by simp;omega) _
 refine wpIn_rangeFunc_ownG rfl (by omega) (gf:=177) (lb:=#[.pointer (some ⟨w.heap.size+1+1,0,none⟩)]) rfl trivial (enters_of Tryz.func177 (by kernel_rfl) rfl)
  (Xx (5-1) (by omega) (w.heap.size+1+1) b hs _ (by simp) b2.cell) eX.trans (CS (by simp)) (Below.refl _ _) (fun _=>rfl)
  (Ei w) (RA w) (by simpa using abU w) (fun c=>by simpa using abV w c)
  ⟨fun x hx=>(by cases hx),⟨_,(b0.alloc _).alloc _,World.ownsRow_nil _ _ _ _⟩,⟨_,b1.alloc _⟩,⟨_,b2⟩,rq⟩
  (fun x=>{ tmps:=#[.string b,undef,.pointer (some ⟨w.heap.size,0,none⟩),.pointer (some ⟨w.heap.size+1,0,none⟩),undef,.int .i64 x.1.2,.string b,.func (.func 177) #[] #[.pointer (some ⟨w.heap.size+1+1,0,none⟩)],.int .i64 (x.1.1:Int),.int .i64 x.1.2,undef,undef,undef,undef,undef,undef,undef],defers:=[] }) ?assign ?body ?done ?stop
 case assign=>
  intro l x W K hK;gi_wp2;exact hK
 case body=>
  rintro l pre x W hI hlen;have HI:=ap hI;obtain⟨-,⟨v,hv,ah⟩,⟨u,hu⟩,-,hB⟩:=hI;obtain⟨A,c,rfl⟩:=r6 ah;have hc0:=hv.cell;have Bw:=hv.frozen;have nz:=hu.frozen;have cR:=hu.cell;have mz:=hB.size
  by_cases hr:x.1.2<0
  ·have hd:decide (x.1.2<0)=true:=decide_eq_true hr;have Hr:=ap hr;have HB:=ap hB;clear hr hB ah;gi_wp2;exact⟨((KeepsOthers.setCell _ _ _).trans (KeepsOthers.setCell _ _ _)).from _,⟨rfl,x,by simp,Hr.o⟩,(hv.set (.slice none 0 0)).other (by omega) _,(hu.other (by omega) _).set _,(HB.o.setCell (p:=⟨w.heap.size,0,none⟩) (Nat.le_refl _) _).setCell (p:=⟨w.heap.size+1,0,none⟩) (by show w.heap.size≤w.heap.size+1;omega) _⟩
  have hd:decide (x.1.2<0)=false:=decide_eq_false hr;have Hr:=ap (show 0≤x.1.2 by omega);obtain⟨i,hi,hz,hsize,hby⟩:=info_parts fM;have HV:=ap hv;have HR:=ap ah;obtain⟨m,hm⟩:∃m,pre.length=m:=⟨_,rfl⟩;have Hm:=ap hm;rw[hm] at ah hc0 hlen;have hK:=ae.new W 3 #[.int .i64 x.1.2];have dU:=ay W (.cells #[.int .i64 x.1.2] 3);clear hr hm
  gi_wp2_with (gi_at_builtin;go_must (refine wpListIn_append_own_at _ rfl (.tmp 12) (.tmp 14) 164 rfl w.heap.size 3 i (.int .i64 0) 1 8 Tryz.underlying164 hi hz hsize hby rfl (by omega) (.slice A m c) m (aq (pre.map (·.1.2))) rfl (ah.alloc _) ⟨W.heap.size,0,none⟩ 1 1 [.int .i64 x.1.2] rfl rfl (fun j u hj=>World.news_of_block hK j u (by simpa using hj)) (by intro u hu;simp only[List.mem_singleton] at hu;rw[hu];rfl) (by unfold maxLen;omega) (by omega) (by simp;omega) ?_);intro v8 w8 aP aG _ _;obtain⟨A8,c8,rfl⟩:=r6 aP;have UN:=(HV.o.kept (cM dU none) (by simp)).kept aG (by have h9:=(HV.o.kept (cM dU none) (by simp)).not_row (by decide) (CZ HR.o dU);rw[Hm.o] at h9;exact h9);have Ur:=UN.cell;have hf8:=UN.frozen)
  have tW:=aP;have mD:=aG;rw[←Hm.o] at tW mD;obtain⟨-,s2,s3,s4⟩:=am8 HI.o Hr.o dU HV.o HR.o tW mD;rw[Hm.o] at s2 s3 s4;exact⟨s2.from _,s3,s4⟩
 case done=>
  rintro D ys W hD dW ⟨h0,⟨v,hv,ah⟩,⟨u,hu⟩,-,hB⟩ hK;obtain⟨A,c,rfl⟩:=r6 ah;have hc0:=hv.cell;have Bw:=hv.frozen;have nz:=hu.frozen;have cR:=hu.cell;have My:ys.map (·.1)=Utf.pieces b.data.toList:=dW;have lh:=ap (show ys.map (·.1.2)=bn b.data.toList by unfold bn;rw[←My,List.map_map];rfl);have Ad:=ap (show ys.length=(bn b.data.toList).length by rw[←lh.o,List.length_map]);obtain⟨n,hn⟩:∃n,ys.length=n:=⟨_,rfl⟩;rw[hn] at ah hv hc0 Ad;rw[lh.o] at ah
  have HRt:=ap (show Right b.data.toList from fun p hp=>by
   rw[←My] at hp;obtain⟨x,hx,e⟩:=List.mem_map.1 hp;rw[←e];exact h0 x hx)
  clear dW My hn h0;gi_wp2;have k0:ae W w.heap.size 164 #[.slice A n c]:=hv;have k1:ae W (w.heap.size+1) 4 #[u]:=hu;obtain⟨W2,rA⟩:∃W2,(W.setCell ⟨w.heap.size,0,none⟩ (.slice A n c)).setCell ⟨w.heap.size+1,0,none⟩ (.bool true)=W2:=⟨_,rfl⟩;have r0:ae W2 w.heap.size 164 #[.slice A n c]:=by rw[←rA];exact (k0.aH 0 _).far (p:=⟨w.heap.size+1,0,none⟩) (by simp) _
  have r1:ae W2 (w.heap.size+1) 4 #[.bool true]:=by rw[←rA];exact (k1.far (p:=⟨w.heap.size,0,none⟩) (by simp) _).aH 0 _
  have rD:W2.heap[D]?=some (.deferred (some [])):=by rw[←rA];exact (Below.heap_setCell _ _ _ _ (by simp at hD ⊢;omega)).trans ((Below.heap_setCell _ _ _ _ (by simp at hD ⊢;omega)).trans hK)
  have rB:Below w.heap.size w W2:=by rw[←rA];exact (hB.setCell (p:=⟨w.heap.size,0,none⟩) (Nat.le_refl _) _).setCell (p:=⟨w.heap.size+1,0,none⟩) (by simp) _
  have rR:W2.ownsRow w.heap.size 3 1 (.slice A n c) n (aq (bn b.data.toList)):=by rw[←rA];exact YU (p:=⟨w.heap.size+1,0,none⟩) (YU (p:=⟨w.heap.size,0,none⟩) ah k0 (by decide) _) (k1.far (p:=⟨w.heap.size,0,none⟩) (by simp) _) (by decide) _
  rw[rA];refine⟨by simp,.inl ⟨_,_,rfl,run_takeDeferred rD,?_⟩⟩;have q0:=cell_kept (r0.cell 0) (grownBy_putObj' _ D (.deferred none)) (fun r e=>by cases e;exact⟨_,rD,rfl⟩);have q1:=cell_kept (r1.cell 0) (grownBy_putObj' _ D (.deferred none)) (fun r e=>by cases e;exact⟨_,rD,rfl⟩)
  have qR:(W2.putObj D (.deferred none)).ownsRow w.heap.size 3 1 (.slice A n c) n (aq (bn b.data.toList)):=rR.kept (grownBy_putObj' _ D (.deferred none)) (by
   rcases rR.2 with ⟨hv,_⟩|⟨g,cap,cur,hv,_,dG,_⟩
   ·cases hv;exact .inl rfl
   cases hv;refine .inr fun e=>?_;injection e with e
   subst e;rw[rD] at dG
   cases dG)
  refine⟨.tuple #[.slice A n c,.bool true],?_,?_⟩
  ·simp[results,Tryz.results178,go_sem,q0,q1]
  refine⟨rB.trans (belowK_b (w:=w) (Nat.le_refl _) _ D _ _ (by simp at hD;omega) rD rfl rfl),.inl ⟨HRt.o,A,c,by rw[←Ad.o],?_⟩⟩;rw[←Ad.o];exact Reads.cY qR
 case stop=>
  rintro D c pre W hD ⟨rest,hsp⟩ ⟨⟨rfl,x,hx,uf⟩,hv,hu,hB⟩ hK
  have HNr:=ap (show ¬Right b.data.toList from fun h=>by
   have:=h x.1 (by rw[←hsp];exact List.mem_append_left _ (List.mem_map_of_mem hx))
   omega)
  gi_wp2;refine⟨by simp,.inl ⟨_,_,rfl,run_takeDeferred hK,?_⟩⟩;have q0:=cell_kept hv.cell (grownBy_putObj' _ D (.deferred none)) (fun r e=>by cases e;exact⟨_,hK,rfl⟩);have q1:=cell_kept hu.cell (grownBy_putObj' _ D (.deferred none)) (fun r e=>by cases e;exact⟨_,hK,rfl⟩);refine⟨.tuple #[.slice none 0 0,.bool false],?_,?_⟩
  ·simp[results,Tryz.results178,go_sem,q0,q1]
  exact⟨hB.trans (belowK_b (w:=w) (Nat.le_refl _) _ D _ _ (by simp at hD;omega) hK rfl rfl),.inr ⟨HNr.o,rfl⟩⟩
end
section
open Go.RowKit Go.WideShapes

namespace Nf
def bytesOf(l:List Int):List UInt8:=l.flatMap fun r=>(Utf.put r).map bv
def jT(l:List Int):Option (List UInt8):=if l.all Utf.isScalar then some (bytesOf l) else none
theorem RY{l:List Int}{j:Nat}{r:Int}(h:l[j]?=some r):bytesOf (l.take (j+1))=bytesOf (l.take j)++(Utf.put r).map bv:=by
 unfold bytesOf;rw[List.take_add_one,h,List.flatMap_append];simp
theorem J1(l:List Int):(bytesOf l).length≤4*l.length:=by
 unfold bytesOf
 induction l with
 | nil=>simp
 | cons x l ih=>
  rw[List.flatMap_cons,List.length_append,List.length_cons,List.length_map];have:=zj x;omega
end Nf
def nU(l:List Int):Value:=match Nf.jT l with
 | some x=>.tuple #[.string (aa x),.bool true]
 | none=>.tuple #[.string ⟨#[]⟩,.bool false]
theorem NX{t:ByteArray}{l:List UInt8}(h:fS t l):t=aa l:=by
 unfold fS at h;subst h;rfl
theorem Y3(l:List Int)(A:Option Addr)(c:Nat)(w:World)(hr:Reads w w.heap.size 1 A l.length (aq l))(hs:l.length≤100000000) :
  Calls Tryz.prog 179 #[.slice A l.length c] w fun e w'=>e=.returned (nU l)∧Below w.heap.size w w':=by
 obtain⟨L,hL⟩:∃L,l.length=L:=⟨_,rfl⟩;have HL:=ap hL;rw[hL] at hr hs;rw[hL];have HR:=ap hr;have IU:=ap (fun r W h=>Nt r W h);have uS:=ap (fun r W h=>XD r W h);clear hL hr
 go_enter Tryz.func179,Tryz.ntmps179
 go_wp2
 go_loopg [4,11] L (fun gk v4 v11 wr=>∃(j:Nat) (A':Option Addr) (c' m:Nat),gk=L-j∧j≤L∧v11=.int .i64 (j:Int)∧v4=.slice A' m c'∧m=(Nf.bytesOf (l.take j)).length∧wr.ownsRow w.heap.size 5 1 (.slice A' m c') m (bE (Nf.bytesOf (l.take j)))∧(∀x∈l.take j,Utf.isScalar x=true)∧Below w.heap.size w wr)
 case atStart=>exact⟨0,none,0,0,rfl,by omega,rfl,rfl,rfl,World.ownsRow_nil _ _ _ _,by simp,Below.refl _ _⟩
 case round=>
  obtain⟨j,A',c',m,au,hj,rfl,rfl,hm,ho,hsc,hb⟩:=hrel;have Hg:=ap au;have HO:=ap ho;have bt:=ap hsc;have HB:=ap hb;have Hm:=ap hm;clear au ho hsc hb hm
  by_cases hlt:j<L
  ·obtain⟨r,ir⟩:∃r,l[j]?=some r:=⟨_,List.getElem?_eq_getElem (by rw[HL.o];exact hlt)⟩;obtain⟨gb,off,rfl,dC,hcell⟩:=HR.o.2 (by omega);have y0:wr.cell? ⟨gb,off+j,none⟩=some (.int .i64 r):=(HB.o.cell dC).trans (hcell j _ (by unfold aq;rw[List.getElem?_map,ir];rfl));have HN:=ap (Nf.RY ir);have zT:=ap ir;have gS:m≤400000000:=by rw[Hm.o];refine Nat.le_trans (Nf.J1 _) ?_;rw[List.length_take];omega
   clear hcell ir
   cases fL:Utf.isScalar r with
   | false=>
    have HP:=ap (uS.o r wr fL)
    have HV:=ap (show nU l=.tuple #[.string ⟨#[]⟩,.bool false] by
     unfold nU Nf.jT
     rw[if_neg (fun h=>by
      have:=List.all_eq_true.1 h r (List.mem_of_getElem? zT.o);rw[fL] at this
      cases this)])
    clear fL
    go_wp2_with fail
    refine HP.o.mono ?_;rintro e w2 ⟨rfl,hw2⟩;subst hw2;dsimp only;go_wp2;go_ret2;exact⟨by rw[HV.o];rfl,HB.o⟩
   | true=>
    have HP:=ap (IU.o r wr fL);have Jy:=ap fL;have cP:((Utf.put r).map bv).length≤4:=by rw[List.length_map];exact zj r
    obtain⟨pl,hpl⟩:∃pl,(Utf.put r).map bv=pl:=⟨_,rfl⟩;rw[hpl] at cP HP HN;clear fL hpl
    go_wp2_with fail
    refine HP.o.mono ?_;rintro e w2 ⟨⟨t,rfl,ht⟩,af⟩;have HT:=ap ht;have ag:=ap (HB.o.trans (af.mono HB.o.size));have aK:=ap (CZ HO.o af);have aN:=ag.o.size;have DV:=ap cP;clear ht af;dsimp only
    go_wp2_with (at_builtin;go_loud (refine OM w2 rfl (.tmp 22) (.tmp 23) 50 9 rfl w.heap.size 5 Tryz.underlying50 Tryz.underlying9 wM _ m (Nf.bytesOf (l.take j)) rfl aK.o t pl HT.o rfl (by omega) aN ?_);intro A3 c3 w3 b7 bz;have cf:=ap b7;have aw:=ap (ag.o.grown bz ag.o.size (fun k e=>(aD aK.o k e).1));clear b7 bz)
    go_roundg (L-(j+1))
    case measure=>have:=Hg.o;omega
    case rel=>
     refine⟨j+1,A3,c3,m+pl.length,rfl,by omega,by first|rfl|go_num,rfl,by rw[HN.o,List.length_append,←Hm.o],by rw[HN.o];exact cf.o,?_,aw.o⟩;rw[ux zT.o];intro x hx
     rcases List.mem_append.1 hx with hx|hx
     ·exact bt.o x hx
     rw[List.mem_singleton] at hx;subst hx;exact Jy.o
  have yq:j=L:=by omega
  have eF:l.take j=l:=List.take_of_length_le (by rw[HL.o];omega);have HT:=ap eF;have aK:=ap (show wr.ownsRow w.heap.size 5 1 (.slice A' m c') m (bE (Nf.bytesOf l)) by have:=HO.o;rwa[eF] at this)
  have HV:=ap (show nU l=.tuple #[.string (aa (Nf.bytesOf l)),.bool true] by
    have hh:=bt.o;rw[eF] at hh;unfold nU Nf.jT;rw[if_pos (List.all_eq_true.2 hh)])
  clear yq eF
  go_wp2_with (refine nW rfl 50 9 5 _ rfl Tryz.underlying50 Tryz.underlying5 Tryz.underlying9 w.heap.size _ m (by rfl) (Nf.bytesOf l) aK.o ?_;intro t ht;have Ht:=ap (NX ht);clear ht)
  go_ret2;exact⟨by rw[HV.o,←Ht.o];rfl,HB.o⟩
end
end Go.Proofs.YtpdkeckeekchlaaGreatDoor
