/- NFC: scalars composed: nfc.compose. And more. -/
import Derived.Test.YtifiiojchlaghaaGreatDoorOk03
import Derived.Test.YtifiiojchlaghaaGreatDoorOk26
import Derived.Maps.OwnIn
set_option linter.unusedSimpArgs false
set_option maxRecDepth 100000
set_option maxHeartbeats 8000000
set_option linter.unusedVariables false
namespace Go.Proofs.YtifiiojchlaghaaGreatDoor
section
open Go.RowKit Go.WideShapes

namespace Nf
structure CsOk(s:Cs):Prop where
 st0 : -1≤s.st
 st1:s.st<s.out.length
 hi0 : -1≤s.hi
 hi1:s.hi≤240
 ok:∀x∈s.out,Ok x
theorem csOk0:CsOk ⟨[],-1,-1⟩:=⟨by simp,by simp,by simp,by simp,fun x hx=>by cases hx⟩
theorem cstep_set{s:Cs}{r v:Int}(h0:0≤s.st∧s.hi<cls r)(hw:whole (s.out.getD s.st.toNat 0) r=some v):cstep s r=⟨s.out.set s.st.toNat v,s.st,s.hi⟩:=by
 unfold cstep;rw[if_pos h0,hw]
theorem cstep_app0{s:Cs}{r:Int}(h:(0≤s.st∧s.hi<cls r)→whole (s.out.getD s.st.toNat 0) r=none)(hc:cls r=0):cstep s r=⟨s.out++[r],s.out.length,-1⟩:=by
 unfold cstep
 by_cases h0:0≤s.st∧s.hi<cls r
 ·rw[if_pos h0,h h0,if_pos hc]
 rw[if_neg h0,if_pos hc]
theorem cstep_app1{s:Cs}{r:Int}(h:(0≤s.st∧s.hi<cls r)→whole (s.out.getD s.st.toNat 0) r=none)(hc:cls r≠0):cstep s r=⟨s.out++[r],s.st,max s.hi (cls r)⟩:=by
 unfold cstep
 by_cases h0:0≤s.st∧s.hi<cls r
 ·rw[if_pos h0,h h0,if_neg hc]
 rw[if_neg h0,if_neg hc]
theorem CsOk.app{out:List Int}{st st' hi' r:Int}(h:∀x∈out,Ok x)(hr:Ok r)(h0 : -1≤st')(h1:st'≤out.length)(h2 : -1≤hi')(h3:hi'≤240):CsOk ⟨out++[r],st',hi'⟩ :=
 ⟨h0,by simp;omega,h2,h3,fun x hx=>by
  rcases List.mem_append.1 hx with hx|hx
  ·exact h x hx
  rw[List.mem_singleton] at hx;subst hx;exact hr⟩
theorem getD_of{l:List Int}{k:Nat}{x:Int}(h:l[k]?=some x):l.getD k 0=x:=by
 rw[List.getD_eq_getElem?_getD,h];rfl
theorem CsOk.set{out:List Int}{st hi v:Int}{k:Nat}(h:CsOk ⟨out,st,hi⟩)(hv:Ok v):CsOk ⟨out.set k v,st,hi⟩ :=
 ⟨h.st0,by have:=h.st1;simpa using this,h.hi0,h.hi1,fun x hx=>by
  rcases List.mem_or_eq_of_mem_set hx with hx|hx
  ·exact h.ok x hx
  subst hx;exact hv⟩
theorem CsOk.step{s:Cs}{r:Int}(h:CsOk s)(hr:Ok r):CsOk (cstep s r):=by
 have hc:=cls_le r
 by_cases h0:0≤s.st∧s.hi<cls r
 ·cases hw:whole (s.out.getD s.st.toNat 0) r with
  | some v=>
   rw[cstep_set h0 hw];obtain⟨x,hx⟩:∃x,s.out[s.st.toNat]?=some x:=⟨_,List.getElem?_eq_getElem (by have:=h.st1;omega)⟩;rw[getD_of hx] at hw;exact CsOk.set h (whole_ok hw (h.ok x (List.mem_of_getElem? hx)))
  | none=>
   by_cases h1:cls r=0
   ·rw[cstep_app0 (fun _=>hw) h1];exact CsOk.app (st:=0) h.ok hr (by omega) (by omega) (by omega) (by omega)
   rw[cstep_app1 (fun _=>hw) h1];exact CsOk.app (st:=0) h.ok hr h.st0 (by have:=h.st1;omega) (by have:=h.hi0;omega) (by have:=h.hi1;omega)
 by_cases h1:cls r=0
 ·rw[cstep_app0 (fun h=>absurd h h0) h1];exact CsOk.app (st:=0) h.ok hr (by omega) (by omega) (by omega) (by omega)
 rw[cstep_app1 (fun h=>absurd h h0) h1];exact CsOk.app (st:=0) h.ok hr h.st0 (by have:=h.st1;omega) (by have:=h.hi0;omega) (by have:=h.hi1;omega)
theorem cstep_len(s:Cs)(r:Int):(cstep s r).out.length≤s.out.length+1:=by
 unfold cstep;split
 ·simp
 split<;>simp
def csAt(l:List Int)(j:Nat):Cs:=(l.take j).foldl cstep ⟨[],-1,-1⟩
theorem csAt_next{l:List Int}{j:Nat}{r:Int}(h:l[j]?=some r):csAt l (j+1)=cstep (csAt l j) r:=by
 unfold csAt;rw[List.take_add_one,h,List.foldl_append];rfl
theorem csAt_ok{l:List Int}(h:∀x∈l,Ok x):∀j,CsOk (csAt l j)∧(csAt l j).out.length≤j
 | 0=>⟨by unfold csAt;simpa using csOk0,by unfold csAt;simp⟩
 | j+1=>by
  obtain⟨h1,h2⟩:=csAt_ok h j
  cases hr:l[j]? with
  | none=>
   have e:csAt l (j+1)=csAt l j:=by unfold csAt;rw[List.take_add_one,hr];simp
   rw[e];exact⟨h1,by omega⟩
  | some r=>
   rw[csAt_next hr];have:=cstep_len (csAt l j) r;exact⟨h1.step (h r (List.mem_of_getElem? hr)),by omega⟩
end Nf
theorem But.toGrown{R:Nat}{w w':World}(h:But R w w'):w.grownBy w' (some R):=⟨h.os,h.tape,h.output,h.size,fun k hk hne=>h.block k hk (fun e=>hne (by rw[e]))⟩
theorem own_but{w w':World}{base mb n c:Nat}{A:Option Addr}{xs:List Value}{D:DataW Unit}{k:Nat}(h:w.ownsRow base 3 1 (.slice A n c) n xs)(hm:Memo w mb k D)(hb:But mb w w'):w'.ownsRow base 3 1 (.slice A n c) n xs :=
 h.kept hb.toGrown (by
  cases hv:(Value.slice A n c).ownBlock with
  | none=>exact .inl rfl
  | some g=>
   refine .inr fun e=>?_;injection e with e
   exact hm.notCells g 3 (own_isT h g hv).2 e)
theorem Memo.kept{w w':World}{base mb n c k:Nat}{A:Option Addr}{xs:List Value}{D:DataW Unit}(hm:Memo w mb k D)(h:w.ownsRow base 3 1 (.slice A n c) n xs)(hg:w.grownBy w' (Value.slice A n c).ownBlock):Memo w' mb k D :=
 hm.same (hg.block mb hm.lt fun e=>hm.notCells mb 3 (own_isT h mb e.symm).2 rfl)
theorem compose_any(l:List Int)(A:Option Addr)(c:Nat)(w:World)(hr:Reads w w.heap.size 1 A l.length (intVs l))(hok:∀x∈l,Nf.Ok x)(hs:l.length≤20000000) :
  Calls Tryz.prog 110 #[.slice A l.length c] w fun e w'=>∃A' c',e=.returned (.slice A' (Nf.compose l).length c')∧w'.ownsRow w.heap.size 3 1 (.slice A' (Nf.compose l).length c') (Nf.compose l).length (intVs (Nf.compose l))∧Below w.heap.size w w':=by
 obtain⟨L,hL⟩:∃L,l.length=L:=⟨_,rfl⟩;have HL:=hide hL;rw[hL] at hr hs;rw[hL];have HR:=hide hr;have HOk:=hide hok;have HCs:=hide (Nf.csAt_ok hok);have HCl:=hide (fun r W=>class_any r W);have hmm:=@run_makeMap Tryz.prog;clear hL hr hok
 go_enter Tryz.func110,Tryz.ntmps110
 go_wp2;have HM0:=hide ((Memo.new w).same (W':=(w.alloc (.map #[] 0)).alloc (.cells #[.map (some w.heap.size)] 189)) (Below.heap_alloc _ _ _ (by simp)))
 have HK0:=hide (show Blk ((w.alloc (.map #[] 0)).alloc (.cells #[.map (some w.heap.size)] 189)) (w.heap.size+1) 189 #[.map (some w.heap.size)] by
  have:=Blk.new (w.alloc (.map #[] 0)) 189 #[.map (some w.heap.size)];rwa[World.size_alloc] at this)
 have HB0:=hide ((below_alloc w (.map #[] 0)).trans ((below_alloc (w.alloc (.map #[] 0)) (.cells #[.map (some w.heap.size)] 189)).mono (by simp)))
 go_loopg [2,5,6,16] L (fun gk v2 v5 v6 v16 wr=>∃(j n:Nat) (A':Option Addr) (c':Nat) (D:DataW Unit),gk=L-j∧j≤L∧v16=.int .i64 (j:Int)∧v2=.slice A' (Nf.csAt l j).out.length c'∧v5=.int .i64 (Nf.csAt l j).st∧v6=.int .i64 (Nf.csAt l j).hi∧
  wr.ownsRow w.heap.size 3 1 (.slice A' (Nf.csAt l j).out.length c') (Nf.csAt l j).out.length (intVs (Nf.csAt l j).out)∧Memo wr w.heap.size n D∧n≤j∧Blk wr (w.heap.size+1) 189 #[.map (some w.heap.size)]∧Below w.heap.size w wr)
 case atStart=>exact⟨0,0,none,0,.map [],rfl,by omega,rfl,rfl,rfl,rfl,World.ownsRow_nil _ _ _ _,HM0.out,Nat.le_refl _,HK0.out,HB0.out⟩
 case round=>
  obtain⟨j,n,A',c',D,hgk,hj,rfl,rfl,rfl,rfl,ho,hm,hnj,hk,hb⟩:=hrel;have Hg:=hide hgk;have HB:=hide hb;have HM:=hide hm;have HK:=hide hk;clear hgk hb hm hk
  by_cases hlt:j<L
  ·obtain⟨r,hrj⟩:∃r,l[j]?=some r:=⟨_,List.getElem?_eq_getElem (by rw[HL.out];exact hlt)⟩;obtain⟨gb,off,rfl,hgl,hcell⟩:=HR.out.2 (by omega);have y0:wr.cell? ⟨gb,off+j,none⟩=some (.int .i64 r):=(HB.out.cell hgl).trans (hcell j _ (by unfold intVs;rw[List.getElem?_map,hrj];rfl));have HN:=hide (Nf.csAt_next hrj);obtain⟨hcs,hcl⟩:=HCs.out j;have Hro:=hide (HOk.out r (List.mem_of_getElem? hrj));obtain⟨⟨out,st,hi⟩,hs0⟩:∃s,Nf.csAt l j=s:=⟨_,rfl⟩;have HS0:=hide hs0;rw[hs0] at hcs hcl ho HN ⊢;dsimp only at hcs hcl ho ⊢;have HCS:=hide hcs;have HO:=hide ho;obtain⟨m,hm⟩:∃m,out.length=m:=⟨_,rfl⟩;have Hm:=hide hm;rw[hm] at hcl HO ⊢;obtain⟨cr,hcr⟩:∃cr,Nf.cls r=cr:=⟨_,rfl⟩;have HC1:=hide (fun W=>HCl.out r W);rw[hcr] at HC1;have Hcr:=hide hcr;have hst0:=hcs.st0;have hhi0:=hcs.hi0;have hhi1:=hcs.hi1;have hst1:st<(m:Int):=by rw[←hm];exact hcs.st1
   have hcr0:0≤cr∧cr≤240:=by rw[←hcr];exact Nf.cls_le r
   dsimp only at hst0 hhi0 hhi1;clear hcell hrj hs0 hcs ho hm hcr
   by_cases hblk:0≤st∧hi<cr
   ·obtain⟨h0,h1⟩:=hblk;obtain⟨k,rfl⟩:∃k:Nat,st=k:=⟨st.toNat,by omega⟩;obtain⟨x,hx⟩:∃x,out[k]?=some x:=⟨_,List.getElem?_eq_getElem (by rw[Hm.out];omega)⟩;obtain⟨g,cap,hgv,hgb,hgl2⟩:=HO.out.form (by omega);injection hgv with hA _ hcap
    subst hA;subst hcap;have q1:wr.cell? ⟨g,k,none⟩=some (.int .i64 x):=(HO.out.cellAt k (by omega)).trans (by unfold intVs;rw[List.getElem?_map,hx];rfl);have Hx:=hide hx;have Hxo:=hide (HCS.out.ok x (List.mem_of_getElem? hx));have hkm:k<m:=by omega
    have HOf:=hide (of_any x r (w.heap.size+1) w.heap.size n D wr Hxo.out Hro.out HK.out HM.out (by omega));have Hgd:=hide (show (out.getD ((k:Int)).toNat 0)=x by rw[Int.toNat_natCast];exact Nf.getD_of Hx.out);clear hx hgb hgl2
    cases hw:Nf.whole x r with
    | some v=>
     have HV:=hide (show wholeV x r=.tuple #[.int .i64 v,.bool true] by unfold wholeV;rw[hw]);have Hw:=hide hw;rw[HV.out] at HOf;clear hw HV
     go_wp2_with fail
     go_wp2_with fail
     refine cq (HC1.out _) ?_
     go_wp2_with fail
     refine HOf.out.mono ?_;rintro e w2 ⟨n',D',rfl,hm2,hn2,hb2⟩;have HM2:=hide hm2;have HB2:=hide (HB.out.trans (hb2.below (Nat.le_refl _) HB.out.size));have HO2:=hide (own_but HO.out HM.out hb2);have HK2:=hide (hb2.blk HK.out (by omega));have q2:=(HO2.out.cellAt k (by omega)).trans (show _=some (Value.int .i64 x) by unfold intVs;rw[List.getElem?_map,Hx.out];rfl);have f2:=HO2.out.frozenAt k;have hst:=HO2.out.stored k (.int .i64 v);have HO3:=hide hst.1;have HM3:=hide (HM2.out.kept HO2.out (show w2.grownBy (w2.setCell ⟨g,k,none⟩ (.int .i64 v)) (Value.slice (some ⟨g,0,none⟩) m c').ownBlock from hst.2));have HK3:=hide (HK2.out.grown hst.2 (fun e=>own_blk_ne HO2.out HK2.out (by decide) e.symm));have HB3:=hide (HB2.out.setCell (p:=⟨g,k,none⟩) (by exact (own_isT HO2.out g rfl).1) (.int .i64 v));clear hm2 hb2 hst q1;dsimp only;go_wp2
     go_roundg (L-(j+1))
     case measure=>have:=Hg.out;omega
     case rel=>
      have e1:Nf.csAt l (j+1)=⟨out.set k v,(k:Int),hi⟩:=by
       rw[HN.out,Nf.cstep_set (s:=⟨out,(k:Int),hi⟩) (v:=v) ⟨by omega,by rw[Hcr.out];exact h1⟩ (by show Nf.whole (out.getD ((k:Int)).toNat 0) r=some v;rw[Hgd.out];exact Hw.out)];simp only[Int.toNat_natCast]
      have e2:(out.set k v).length=m:=by rw[List.length_set,Hm.out]
      refine⟨j+1,n',some ⟨g,0,none⟩,c',D',rfl,by omega,by first|rfl|go_num,by rw[e1,e2],by rw[e1],by rw[e1],?_,HM3.out,by omega,HK3.out,HB3.out⟩;rw[e1,e2];have:=HO3.out;unfold intVs at this ⊢;rw[List.map_set];exact this
    | none=>
     have HV:=hide (show wholeV x r=.tuple #[.int .i64 0,.bool false] by unfold wholeV;rw[hw]);have Hw:=hide (show Nf.whole (out.getD ((k:Int)).toNat 0) r=none by rw[Hgd.out];exact hw);rw[HV.out] at HOf;clear hw HV
     go_wp2_with fail
     go_wp2_with fail
     refine cq (HC1.out _) ?_
     go_wp2_with fail
     refine HOf.out.mono ?_;rintro e w2 ⟨n',D',rfl,hm2,hn2,hb2⟩;have HM2:=hide hm2;have HB2:=hide (HB.out.trans (hb2.below (Nat.le_refl _) HB.out.size));have HO2:=hide (own_but HO.out HM.out hb2);have HK2:=hide (hb2.blk HK.out (by omega));obtain⟨st2,hst2⟩:∃st2:Int,st2=(k:Int):=⟨_,rfl⟩;clear hm2 hb2 q1;dsimp only
     by_cases hz:cr=0
     ·have Hz:=hide hz;have hzd:decide (cr=0)=true:=decide_eq_true hz;have hzb:(cr==0)=true:=by simp[hz]
      have zl:IntKind.i64.wrap (((m+1:Nat):Int)-1)=(m:Int):=by rw[IntWalk.i64_in _ (by omega)];omega
      clear hz;have hmb:m≤20000000:=by omega
      have hbs:=HB2.out.size
      go_wp2_with (at_builtin;go_loud (refine wpList_append_elem w2 rfl (.tmp 44) (.tmp 46) 166 rfl w.heap.size (.int .i64 0) 1 8 Tryz.underlying166 info_int rfl (by omega) _ m (intVs out) rfl HO2.out rfl (by simp[Value.oneCell']) rfl (by unfold maxLen;omega) (by omega) hbs ?_);intro g cap w3 ho3 hg3 _ _ _;have HO3:=hide (show w3.ownsRow w.heap.size 3 1 (.slice (some ⟨g,0,none⟩) (m+1) cap) (m+1) (intVs (out++[r])) from (intVs_app out [r]).symm▸ho3);have HM3:=hide (HM2.out.kept HO2.out hg3);have HK3:=hide (HK2.out.grown hg3 (fun e=>own_blk_ne HO2.out HK2.out (by decide) e.symm));have HB3:=hide (HB2.out.grown hg3 HB2.out.size (fun k e=>(own_isT HO2.out k e).1));clear ho3 hg3)
      go_roundg (L-(j+1))
      case measure=>have:=Hg.out;omega
      case rel=>
       have e1:Nf.csAt l (j+1)=⟨out++[r],m,-1⟩:=by
        rw[HN.out,Nf.cstep_app0 (s:=⟨out,(k:Int),hi⟩) (fun _=>Hw.out) (by rw[Hcr.out];exact Hz.out)];simp only[Hm.out]
       have e2:(out++[r]).length=m+1:=by rw[List.length_append,Hm.out];rfl
       refine⟨j+1,n',some ⟨g,0,none⟩,cap,D',rfl,by omega,by first|rfl|go_num,by rw[e1,e2],by rw[e1]<;>first|rfl|go_num,by rw[e1],by rw[e1,e2];exact HO3.out,HM3.out,by omega,HK3.out,HB3.out⟩
     have Hz:=hide hz;have hzd:decide (cr=0)=false:=decide_eq_false hz;have hzb:(cr==0)=false:=by simp[hz]
     have zl:IntKind.i64.wrap (((m+1:Nat):Int)-1)=(m:Int):=by rw[IntWalk.i64_in _ (by omega)];omega
     obtain⟨mx,hmx⟩:∃mx,max hi cr=mx:=⟨_,rfl⟩;have Hmx:=hide hmx;have hmb:m≤20000000:=by omega
     have hbs:=HB2.out.size
     go_wp2_with (at_builtin;go_loud (refine wpList_append_elem w2 rfl (.tmp 44) (.tmp 46) 166 rfl w.heap.size (.int .i64 0) 1 8 Tryz.underlying166 info_int rfl (by omega) _ m (intVs out) rfl HO2.out rfl (by simp[Value.oneCell']) rfl (by unfold maxLen;omega) (by omega) hbs ?_);intro g cap w3 ho3 hg3 _ _ _;have HO3:=hide (show w3.ownsRow w.heap.size 3 1 (.slice (some ⟨g,0,none⟩) (m+1) cap) (m+1) (intVs (out++[r])) from (intVs_app out [r]).symm▸ho3);have HM3:=hide (HM2.out.kept HO2.out hg3);have HK3:=hide (HK2.out.grown hg3 (fun e=>own_blk_ne HO2.out HK2.out (by decide) e.symm));have HB3:=hide (HB2.out.grown hg3 HB2.out.size (fun k e=>(own_isT HO2.out k e).1));clear ho3 hg3)
     go_roundg (L-(j+1))
     case measure=>have:=Hg.out;omega
     case rel=>
      have e1:Nf.csAt l (j+1)=⟨out++[r],(k:Int),mx⟩:=by
       rw[HN.out,Nf.cstep_app1 (s:=⟨out,(k:Int),hi⟩) (fun _=>Hw.out) (by rw[Hcr.out];exact Hz.out)];simp only[Hcr.out,Hmx.out]
      have e2:(out++[r]).length=m+1:=by rw[List.length_append,Hm.out];rfl
      refine⟨j+1,n',some ⟨g,0,none⟩,cap,D',rfl,by omega,by first|rfl|go_num,by rw[e1,e2],by rw[e1]<;>first|rfl|go_num,by rw[e1],by rw[e1,e2];exact HO3.out,HM3.out,by omega,HK3.out,HB3.out⟩
   have Hblk:=hide hblk
   by_cases h0:0≤st
   ·have h1:¬hi<cr:=fun h=>hblk ⟨h0,h⟩;clear hblk
    go_wp2_with fail
    go_wp2_with fail
    refine cq (HC1.out _) ?_
    by_cases hz:cr=0
    ·have Hz:=hide hz;have hzd:decide (cr=0)=true:=decide_eq_true hz;have hzb:(cr==0)=true:=by simp[hz]
     have zl:IntKind.i64.wrap (((m+1:Nat):Int)-1)=(m:Int):=by rw[IntWalk.i64_in _ (by omega)];omega
     clear hz;have hmb:m≤20000000:=by omega
     have hbs:=HB.out.size
     go_wp2_with (at_builtin;go_loud (refine wpList_append_elem wr rfl (.tmp 44) (.tmp 46) 166 rfl w.heap.size (.int .i64 0) 1 8 Tryz.underlying166 info_int rfl (by omega) _ m (intVs out) rfl HO.out rfl (by simp[Value.oneCell']) rfl (by unfold maxLen;omega) (by omega) hbs ?_);intro g cap w3 ho3 hg3 _ _ _;have HO3:=hide (show w3.ownsRow w.heap.size 3 1 (.slice (some ⟨g,0,none⟩) (m+1) cap) (m+1) (intVs (out++[r])) from (intVs_app out [r]).symm▸ho3);have HM3:=hide (HM.out.kept HO.out hg3);have HK3:=hide (HK.out.grown hg3 (fun e=>own_blk_ne HO.out HK.out (by decide) e.symm));have HB3:=hide (HB.out.grown hg3 HB.out.size (fun k e=>(own_isT HO.out k e).1));clear ho3 hg3)
     go_roundg (L-(j+1))
     case measure=>have:=Hg.out;omega
     case rel=>
      have e1:Nf.csAt l (j+1)=⟨out++[r],m,-1⟩:=by
       rw[HN.out,Nf.cstep_app0 (s:=⟨out,st,hi⟩) (fun h=>absurd h (by rw[Hcr.out];exact Hblk.out)) (by rw[Hcr.out];exact Hz.out)];simp only[Hm.out]
      have e2:(out++[r]).length=m+1:=by rw[List.length_append,Hm.out];rfl
      refine⟨j+1,n,some ⟨g,0,none⟩,cap,D,rfl,by omega,by first|rfl|go_num,by rw[e1,e2],by rw[e1]<;>first|rfl|go_num,by rw[e1],by rw[e1,e2];exact HO3.out,HM3.out,by omega,HK3.out,HB3.out⟩
    have Hz:=hide hz;have hzd:decide (cr=0)=false:=decide_eq_false hz;have hzb:(cr==0)=false:=by simp[hz]
    have zl:IntKind.i64.wrap (((m+1:Nat):Int)-1)=(m:Int):=by rw[IntWalk.i64_in _ (by omega)];omega
    obtain⟨mx,hmx⟩:∃mx,max hi cr=mx:=⟨_,rfl⟩;have Hmx:=hide hmx;have hmb:m≤20000000:=by omega
    have hbs:=HB.out.size
    go_wp2_with (at_builtin;go_loud (refine wpList_append_elem wr rfl (.tmp 44) (.tmp 46) 166 rfl w.heap.size (.int .i64 0) 1 8 Tryz.underlying166 info_int rfl (by omega) _ m (intVs out) rfl HO.out rfl (by simp[Value.oneCell']) rfl (by unfold maxLen;omega) (by omega) hbs ?_);intro g cap w3 ho3 hg3 _ _ _;have HO3:=hide (show w3.ownsRow w.heap.size 3 1 (.slice (some ⟨g,0,none⟩) (m+1) cap) (m+1) (intVs (out++[r])) from (intVs_app out [r]).symm▸ho3);have HM3:=hide (HM.out.kept HO.out hg3);have HK3:=hide (HK.out.grown hg3 (fun e=>own_blk_ne HO.out HK.out (by decide) e.symm));have HB3:=hide (HB.out.grown hg3 HB.out.size (fun k e=>(own_isT HO.out k e).1));clear ho3 hg3)
    go_roundg (L-(j+1))
    case measure=>have:=Hg.out;omega
    case rel=>
     have e1:Nf.csAt l (j+1)=⟨out++[r],st,mx⟩:=by
      rw[HN.out,Nf.cstep_app1 (s:=⟨out,st,hi⟩) (fun h=>absurd h (by rw[Hcr.out];exact Hblk.out)) (by rw[Hcr.out];exact Hz.out)];simp only[Hcr.out,Hmx.out]
     have e2:(out++[r]).length=m+1:=by rw[List.length_append,Hm.out];rfl
     refine⟨j+1,n,some ⟨g,0,none⟩,cap,D,rfl,by omega,by first|rfl|go_num,by rw[e1,e2],by rw[e1]<;>first|rfl|go_num,by rw[e1],by rw[e1,e2];exact HO3.out,HM3.out,by omega,HK3.out,HB3.out⟩
   clear hblk
   go_wp2_with fail
   go_wp2_with fail
   refine cq (HC1.out _) ?_
   by_cases hz:cr=0
   ·have Hz:=hide hz;have hzd:decide (cr=0)=true:=decide_eq_true hz;have hzb:(cr==0)=true:=by simp[hz]
    have zl:IntKind.i64.wrap (((m+1:Nat):Int)-1)=(m:Int):=by rw[IntWalk.i64_in _ (by omega)];omega
    clear hz;have hmb:m≤20000000:=by omega
    have hbs:=HB.out.size
    go_wp2_with (at_builtin;go_loud (refine wpList_append_elem wr rfl (.tmp 44) (.tmp 46) 166 rfl w.heap.size (.int .i64 0) 1 8 Tryz.underlying166 info_int rfl (by omega) _ m (intVs out) rfl HO.out rfl (by simp[Value.oneCell']) rfl (by unfold maxLen;omega) (by omega) hbs ?_);intro g cap w3 ho3 hg3 _ _ _;have HO3:=hide (show w3.ownsRow w.heap.size 3 1 (.slice (some ⟨g,0,none⟩) (m+1) cap) (m+1) (intVs (out++[r])) from (intVs_app out [r]).symm▸ho3);have HM3:=hide (HM.out.kept HO.out hg3);have HK3:=hide (HK.out.grown hg3 (fun e=>own_blk_ne HO.out HK.out (by decide) e.symm));have HB3:=hide (HB.out.grown hg3 HB.out.size (fun k e=>(own_isT HO.out k e).1));clear ho3 hg3)
    go_roundg (L-(j+1))
    case measure=>have:=Hg.out;omega
    case rel=>
     have e1:Nf.csAt l (j+1)=⟨out++[r],m,-1⟩:=by
      rw[HN.out,Nf.cstep_app0 (s:=⟨out,st,hi⟩) (fun h=>absurd h (by rw[Hcr.out];exact Hblk.out)) (by rw[Hcr.out];exact Hz.out)];simp only[Hm.out]
     have e2:(out++[r]).length=m+1:=by rw[List.length_append,Hm.out];rfl
     refine⟨j+1,n,some ⟨g,0,none⟩,cap,D,rfl,by omega,by first|rfl|go_num,by rw[e1,e2],by rw[e1]<;>first|rfl|go_num,by rw[e1],by rw[e1,e2];exact HO3.out,HM3.out,by omega,HK3.out,HB3.out⟩
   have Hz:=hide hz;have hzd:decide (cr=0)=false:=decide_eq_false hz;have hzb:(cr==0)=false:=by simp[hz]
   have zl:IntKind.i64.wrap (((m+1:Nat):Int)-1)=(m:Int):=by rw[IntWalk.i64_in _ (by omega)];omega
   obtain⟨mx,hmx⟩:∃mx,max hi cr=mx:=⟨_,rfl⟩;have Hmx:=hide hmx;have hmb:m≤20000000:=by omega
   have hbs:=HB.out.size
   go_wp2_with (at_builtin;go_loud (refine wpList_append_elem wr rfl (.tmp 44) (.tmp 46) 166 rfl w.heap.size (.int .i64 0) 1 8 Tryz.underlying166 info_int rfl (by omega) _ m (intVs out) rfl HO.out rfl (by simp[Value.oneCell']) rfl (by unfold maxLen;omega) (by omega) hbs ?_);intro g cap w3 ho3 hg3 _ _ _;have HO3:=hide (show w3.ownsRow w.heap.size 3 1 (.slice (some ⟨g,0,none⟩) (m+1) cap) (m+1) (intVs (out++[r])) from (intVs_app out [r]).symm▸ho3);have HM3:=hide (HM.out.kept HO.out hg3);have HK3:=hide (HK.out.grown hg3 (fun e=>own_blk_ne HO.out HK.out (by decide) e.symm));have HB3:=hide (HB.out.grown hg3 HB.out.size (fun k e=>(own_isT HO.out k e).1));clear ho3 hg3)
   go_roundg (L-(j+1))
   case measure=>have:=Hg.out;omega
   case rel=>
    have e1:Nf.csAt l (j+1)=⟨out++[r],st,mx⟩:=by
     rw[HN.out,Nf.cstep_app1 (s:=⟨out,st,hi⟩) (fun h=>absurd h (by rw[Hcr.out];exact Hblk.out)) (by rw[Hcr.out];exact Hz.out)];simp only[Hcr.out,Hmx.out]
    have e2:(out++[r]).length=m+1:=by rw[List.length_append,Hm.out];rfl
    refine⟨j+1,n,some ⟨g,0,none⟩,cap,D,rfl,by omega,by first|rfl|go_num,by rw[e1,e2],by rw[e1]<;>first|rfl|go_num,by rw[e1],by rw[e1,e2];exact HO3.out,HM3.out,by omega,HK3.out,HB3.out⟩
  go_wp2;go_ret;have hjL:j=L:=by omega
  have e1:Nf.csAt l j=l.foldl Nf.cstep ⟨[],-1,-1⟩:=by unfold Nf.csAt;rw[List.take_of_length_le (by rw[HL.out];omega)]
  have e2:(Nf.csAt l j).out=Nf.compose l:=by rw[e1];rfl
  rw[e2] at ho ⊢;exact⟨_,_,rfl,ho,HB.out⟩
end
section
open Go.RowKit Go.Shelf

attribute [local go_sem] Oper.semAt_some

theorem uown_go{w w':World}{b e size n:Nat}{v:Value}{xs:List Value}(h:w.ownsRow b e size v n xs)(hb:Below w.heap.size w w'):w'.ownsRow b e size v n xs:=by
 refine⟨h.1,?_⟩
 rcases h.2 with hn|⟨g,cap,cur,rfl,hbg,hgg,rest⟩
 ·exact .inl hn
 exact .inr ⟨g,cap,cur,rfl,hbg,(hb.block g (Array.getElem?_eq_some_iff.1 hgg).1).trans hgg,rest⟩
theorem uown_far{w:World}{b e size n t:Nat}{v:Value}{xs:List Value}{p:Addr}{cs:Array Value}(h:w.ownsRow b e size v n xs)(hp:Blk w p.block t cs)(ht:e≠t)(u:Value):(w.setCell p u).ownsRow b e size v n xs :=
 ownsRow_setCell_other h (own_blk_ne h hp ht) u
def uscals(l:List UInt8):List Int:=(Utf.pieces l).map (·.2)
def Right(l:List UInt8):Prop:=∀p∈Utf.pieces l,0≤p.2
def UsI(w:World)(pre:List Pc)(W:World):Prop :=
 (∀x∈pre,0≤x.1.2)∧(∃v,Boxed W w.heap.size 166 v∧W.ownsRow w.heap.size 3 1 v pre.length (intVs (pre.map (·.1.2))))∧(∃u,Boxed W (w.heap.size+1) 4 u)∧(∃u,Boxed W (w.heap.size+1+1) 9 u)∧Below w.heap.size w W
def UsX(w:World)(c:Code)(pre:List Pc)(W:World):Prop:=(c=.ret∧∃x∈pre,x.1.2<0)∧Boxed W w.heap.size 166 (.slice none 0 0)∧Boxed W (w.heap.size+1) 4 (.bool false)∧Below w.heap.size w W
theorem UsI_own(w:World):OwnFrom (w.heap.size+1+1+1) (UsI w):=by
 rintro s X Y row ⟨h0,⟨v,hv,hr⟩,⟨u,hu⟩,⟨u2,hu2⟩,h3⟩ hg hrow
 have hne:∀{B:Nat} {t:TypeId} {u:Value},Boxed X B t u→some B≠row:=fun h e=>by
  obtain⟨_,o,ho,hc⟩:=hrow _ e.symm;rw[show X.heap[_]?=_ from h] at ho;cases ho;cases hc
 refine⟨h0,⟨v,hv.kept hg (hne hv),hr.kept hg ?_⟩,⟨u,hu.kept hg (hne hu)⟩,⟨u2,hu2.kept hg (hne hu2)⟩,h3.grown hg h3.size (fun k e=>by have:=(hrow k e).1;omega)⟩
 rcases hr.2 with ⟨rfl,_⟩|⟨g,cap,cur,rfl,_,hgb,_⟩
 ·exact .inl rfl
 refine .inr fun e'=>?_;obtain⟨_,o,ho,hc⟩:=hrow g (by simpa[Value.ownBlock] using e'.symm);rw[hgb] at ho;cases ho;cases hc
theorem UsX_own(w:World)(c:Code):OwnFrom (w.heap.size+1+1+1) (UsX w c):=by
 rintro s X Y row ⟨h0,hv,hu,h3⟩ hg hrow
 have hne:∀{B:Nat} {t:TypeId} {u:Value},Boxed X B t u→some B≠row:=fun h e=>by
  obtain⟨_,o,ho,hc⟩:=hrow _ e.symm;rw[show X.heap[_]?=_ from h] at ho;cases ho;cases hc
 exact⟨h0,hv.kept hg (hne hv),hu.kept hg (hne hu),h3.grown hg h3.size (fun k e=>by have:=(hrow k e).1;omega)⟩
theorem us_step{w W W2 w1:World}{pre:List Pc}{x:Pc}{v v':Value}(h:UsI w pre W)(hx:0≤x.1.2)(hW:Below W.heap.size W W2)(hv:Boxed W w.heap.size 166 v)(hrow:W.ownsRow w.heap.size 3 1 v pre.length (intVs (pre.map (·.1.2))))
  (hown:w1.ownsRow w.heap.size 3 1 v' (pre.length+1) (intVs (pre.map (·.1.2))++[.int .i64 x.1.2])) (hgrow:W2.grownBy w1 v.ownBlock) :
  Boxed w1 w.heap.size 166 v∧KeepsOthers W (w1.setCell ⟨w.heap.size,0,none⟩ v')∧SameBlk (w.heap.size+1+1) W (w1.setCell ⟨w.heap.size,0,none⟩ v')∧UsI w (pre++[x]) (w1.setCell ⟨w.heap.size,0,none⟩ v'):=by
 obtain⟨h0,-,⟨u,hu⟩,⟨u2,hu2⟩,h3⟩:=h;have hv2:Boxed W2 w.heap.size 166 v:=hv.kept (grown_below hW none) (by simp);have hu':Boxed W2 (w.heap.size+1) 4 u:=hu.kept (grown_below hW none) (by simp);have hu2':Boxed W2 (w.heap.size+1+1) 9 u2:=hu2.kept (grown_below hW none) (by simp);have hrow2:W2.ownsRow w.heap.size 3 1 v pre.length (intVs (pre.map (·.1.2))):=uown_go hrow hW;have hv1:Boxed w1 w.heap.size 166 v:=hv2.kept hgrow (hv2.not_row (by decide) hrow2);have hu1:Boxed w1 (w.heap.size+1) 4 u:=hu'.kept hgrow (hu'.not_row (by decide) hrow2);have hu21:Boxed w1 (w.heap.size+1+1) 9 u2:=hu2'.kept hgrow (hu2'.not_row (by decide) hrow2);have hlen:(pre++[x]).length=pre.length+1:=by simp
 refine⟨hv1,?_,?_,?_,⟨v',hv1.set v',?_⟩,⟨u,?_⟩,⟨u2,?_⟩,?_⟩
 ·refine ((others_below hW).trans (KeepsOthers.of_grownBy hgrow fun j o ej hj=>?_)).trans (KeepsOthers.setCell _ _ _);obtain⟨_,cs,fr,h⟩:=own_isT hrow2 j ej;rw[h] at hj;cases hj;rfl
 ·exact (Below.heap_setCell _ _ _ _ (by simp;omega)).trans (hu21.trans hu2.symm)
 ·intro y hy
  rcases List.mem_append.1 hy with hy|hy
  ·exact h0 y hy
  simp only[List.mem_singleton] at hy;rw[hy];exact hx
 ·rw[hlen,show intVs ((pre++[x]).map (·.1.2))=intVs (pre.map (·.1.2))++[.int .i64 x.1.2] by simp[intVs]];exact hown.kept (grownBy_setCell' w1 _ v') (.inr (hv1.not_row (by decide) hown).symm)
 ·exact hu1.kept (grownBy_setCell' w1 _ v') (by simp)
 ·exact hu21.kept (grownBy_setCell' w1 _ v') (by simp;omega)
 exact ((h3.trans (hW.mono h3.size)).grown hgrow (Nat.le_trans h3.size hW.size) fun j ej=>(own_isT hrow2 j ej).1).setCell (p:=⟨w.heap.size,0,none⟩) (Nat.le_refl _) v'
theorem uscal_any(b:ByteArray)(w:World)(hs:b.size≤1000000000) :
  Calls Tryz.prog 146 #[.string b] w fun e w'=>Below w.heap.size w w'∧((Right b.data.toList∧∃A c,e=.returned (.tuple #[.slice A (uscals b.data.toList).length c,.bool true])∧Reads w' w'.heap.size 1 A (uscals b.data.toList).length (intVs (uscals b.data.toList)))∨(¬Right b.data.toList∧e=.returned (.tuple #[.slice none 0 0,.bool false]))):=by
 refine (callsIn_wide (n:=5)).1 ?_;refine callsIn_of_wp_marks Tryz.func146 rfl trivial ?_ rfl;simp only[Tryz.ntmps146,List.size_toArray,List.length_cons,List.length_nil,Nat.reduceAdd,Nat.reduceSub,Array.replicate_succ,Array.replicate_zero,List.push_toArray,List.append_toArray,List.nil_append,List.cons_append]
 gi_wp2_with (refine⟨trivial,?_⟩;gi_at_call 108;refine (callsIn_wide.2 (pieces_any _ _)).mono ?_;rintro e w' ⟨rfl,rfl⟩)
 have b0:=Boxed.new w 166 (.slice none 0 0);have b1:=Boxed.new (w.alloc (.cells #[.slice none 0 0] 166)) 4 (.bool false);rw[World.size_alloc] at b1;have b2:=Boxed.new ((w.alloc (.cells #[.slice none 0 0] 166)).alloc (.cells #[.bool false] 4)) 9 (.string b);rw[World.size_alloc,World.size_alloc] at b2
 have hB0:Below w.heap.size w (((w.alloc (.cells #[.slice none 0 0] 166)).alloc (.cells #[.bool false] 4)).alloc (.cells #[.string b] 9)) :=
  (((Below.refl _ w).alloc (Nat.le_refl _) _).alloc (by simp) _).alloc (by simp;omega) _
 refine wpIn_rangeFunc_ownG rfl (by omega) (gf:=145) (lb:=#[.pointer (some ⟨w.heap.size+1+1,0,none⟩)]) rfl trivial (enters_of Tryz.func145 (by kernel_rfl) rfl)
  (pieces_stops (5-1) (by omega) (w.heap.size+1+1) b hs _ (by simp) b2.cell) SameBlk.trans (sameBlk_b (by simp)) (Below.refl _ _) (fun _=>rfl)
  (UsI w) (UsX w) (by simpa using UsI_own w) (fun c=>by simpa using UsX_own w c)
  ⟨fun x hx=>(by cases hx),⟨_,(b0.alloc _).alloc _,World.ownsRow_nil _ _ _ _⟩,⟨_,b1.alloc _⟩,⟨_,b2⟩,hB0⟩
  (fun x=>{ tmps:=#[.string b,undef,.pointer (some ⟨w.heap.size,0,none⟩),.pointer (some ⟨w.heap.size+1,0,none⟩),undef,.int .i64 x.1.2,.string b,.func (.func 145) #[] #[.pointer (some ⟨w.heap.size+1+1,0,none⟩)],.int .i64 (x.1.1:Int),.int .i64 x.1.2,undef,undef,undef,undef,undef,undef,undef],defers:=[] }) ?assign ?body ?done ?stop
 case assign=>
  intro l x W K hK;gi_wp2;exact hK
 case body=>
  rintro l pre x W hI hlen;have HI:=hide hI;obtain⟨-,⟨v,hv,hrow⟩,⟨u,hu⟩,-,hB⟩:=hI;obtain⟨A,c,rfl⟩:=own_form hrow;have hc0:=hv.cell;have hf0:=hv.frozen;have hf1:=hu.frozen;have hc1:=hu.cell;have hBs:=hB.size
  by_cases hr:x.1.2<0
  ·have hd:decide (x.1.2<0)=true:=decide_eq_true hr;have Hr:=hide hr;have HB:=hide hB;clear hr hB hrow;gi_wp2;exact⟨((KeepsOthers.setCell _ _ _).trans (KeepsOthers.setCell _ _ _)).from _,⟨rfl,x,by simp,Hr.out⟩,(hv.set (.slice none 0 0)).other (by omega) _,(hu.other (by omega) _).set _,(HB.out.setCell (p:=⟨w.heap.size,0,none⟩) (Nat.le_refl _) _).setCell (p:=⟨w.heap.size+1,0,none⟩) (by show w.heap.size≤w.heap.size+1;omega) _⟩
  have hd:decide (x.1.2<0)=false:=decide_eq_false hr;have Hr:=hide (show 0≤x.1.2 by omega);obtain⟨i,hi,hz,hsize,hby⟩:=info_parts info_int;have HV:=hide hv;have HR:=hide hrow;obtain⟨m,hm⟩:∃m,pre.length=m:=⟨_,rfl⟩;have Hm:=hide hm;rw[hm] at hrow hc0 hlen;have hK:=Blk.new W 3 #[.int .i64 x.1.2];have hnb:=below_alloc W (.cells #[.int .i64 x.1.2] 3);clear hr hm
  gi_wp2_with (gi_at_builtin;go_must (refine wpListIn_append_own_at _ rfl (.tmp 12) (.tmp 14) 166 rfl w.heap.size 3 i (.int .i64 0) 1 8 Tryz.underlying166 hi hz hsize hby rfl (by omega) (.slice A m c) m (intVs (pre.map (·.1.2))) rfl (hrow.alloc _) ⟨W.heap.size,0,none⟩ 1 1 [.int .i64 x.1.2] rfl rfl (fun j u hj=>World.news_of_block hK j u (by simpa using hj)) (by intro u hu;simp only[List.mem_singleton] at hu;rw[hu];rfl) (by unfold maxLen;omega) (by omega) (by simp;omega) ?_);intro v8 w8 hown8 hgrow8 _ _;obtain⟨A8,c8,rfl⟩:=own_form hown8;have hk8:=(HV.out.kept (grown_below hnb none) (by simp)).kept hgrow8 (by have h9:=(HV.out.kept (grown_below hnb none) (by simp)).not_row (by decide) (uown_go HR.out hnb);rw[Hm.out] at h9;exact h9);have hc8:=hk8.cell;have hf8:=hk8.frozen)
  have hown9:=hown8;have hgrow9:=hgrow8;rw[←Hm.out] at hown9 hgrow9;obtain⟨-,s2,s3,s4⟩:=us_step HI.out Hr.out hnb HV.out HR.out hown9 hgrow9;rw[Hm.out] at s2 s3 s4;exact⟨s2.from _,s3,s4⟩
 case done=>
  rintro D ys W hD hys ⟨h0,⟨v,hv,hrow⟩,⟨u,hu⟩,-,hB⟩ hK;obtain⟨A,c,rfl⟩:=own_form hrow;have hc0:=hv.cell;have hf0:=hv.frozen;have hf1:=hu.frozen;have hc1:=hu.cell;have hys2:ys.map (·.1)=Utf.pieces b.data.toList:=hys;have Hsc:=hide (show ys.map (·.1.2)=uscals b.data.toList by unfold uscals;rw[←hys2,List.map_map];rfl);have Hln:=hide (show ys.length=(uscals b.data.toList).length by rw[←Hsc.out,List.length_map]);obtain⟨n,hn⟩:∃n,ys.length=n:=⟨_,rfl⟩;rw[hn] at hrow hv hc0 Hln;rw[Hsc.out] at hrow
  have HRt:=hide (show Right b.data.toList from fun p hp=>by
   rw[←hys2] at hp;obtain⟨x,hx,e⟩:=List.mem_map.1 hp;rw[←e];exact h0 x hx)
  clear hys hys2 hn h0;gi_wp2;have k0:Blk W w.heap.size 166 #[.slice A n c]:=hv;have k1:Blk W (w.heap.size+1) 4 #[u]:=hu;obtain⟨W2,hW2⟩:∃W2,(W.setCell ⟨w.heap.size,0,none⟩ (.slice A n c)).setCell ⟨w.heap.size+1,0,none⟩ (.bool true)=W2:=⟨_,rfl⟩;have r0:Blk W2 w.heap.size 166 #[.slice A n c]:=by rw[←hW2];exact (k0.set_ 0 _).far (p:=⟨w.heap.size+1,0,none⟩) (by simp) _
  have r1:Blk W2 (w.heap.size+1) 4 #[.bool true]:=by rw[←hW2];exact (k1.far (p:=⟨w.heap.size,0,none⟩) (by simp) _).set_ 0 _
  have rD:W2.heap[D]?=some (.deferred (some [])):=by rw[←hW2];exact (Below.heap_setCell _ _ _ _ (by simp at hD ⊢;omega)).trans ((Below.heap_setCell _ _ _ _ (by simp at hD ⊢;omega)).trans hK)
  have rB:Below w.heap.size w W2:=by rw[←hW2];exact (hB.setCell (p:=⟨w.heap.size,0,none⟩) (Nat.le_refl _) _).setCell (p:=⟨w.heap.size+1,0,none⟩) (by simp) _
  have rR:W2.ownsRow w.heap.size 3 1 (.slice A n c) n (intVs (uscals b.data.toList)):=by rw[←hW2];exact uown_far (p:=⟨w.heap.size+1,0,none⟩) (uown_far (p:=⟨w.heap.size,0,none⟩) hrow k0 (by decide) _) (k1.far (p:=⟨w.heap.size,0,none⟩) (by simp) _) (by decide) _
  rw[hW2];refine⟨by simp,.inl ⟨_,_,rfl,run_takeDeferred rD,?_⟩⟩;have q0:=cell_kept (r0.cell 0) (grownBy_putObj' _ D (.deferred none)) (fun r e=>by cases e;exact⟨_,rD,rfl⟩);have q1:=cell_kept (r1.cell 0) (grownBy_putObj' _ D (.deferred none)) (fun r e=>by cases e;exact⟨_,rD,rfl⟩)
  have qR:(W2.putObj D (.deferred none)).ownsRow w.heap.size 3 1 (.slice A n c) n (intVs (uscals b.data.toList)):=rR.kept (grownBy_putObj' _ D (.deferred none)) (by
   rcases rR.2 with ⟨hv,_⟩|⟨g,cap,cur,hv,_,hgb,_⟩
   ·cases hv;exact .inl rfl
   cases hv;refine .inr fun e=>?_;injection e with e
   subst e;rw[rD] at hgb
   cases hgb)
  refine⟨.tuple #[.slice A n c,.bool true],?_,?_⟩
  ·simp[results,Tryz.results146,go_sem,q0,q1]
  refine⟨rB.trans (belowK_b (w:=w) (Nat.le_refl _) _ D _ _ (by simp at hD;omega) rD rfl rfl),.inl ⟨HRt.out,A,c,by rw[←Hln.out],?_⟩⟩;rw[←Hln.out];exact Reads.of_own qR
 case stop=>
  rintro D c pre W hD ⟨rest,hsp⟩ ⟨⟨rfl,x,hx,hxn⟩,hv,hu,hB⟩ hK
  have HNr:=hide (show ¬Right b.data.toList from fun h=>by
   have:=h x.1 (by rw[←hsp];exact List.mem_append_left _ (List.mem_map_of_mem hx))
   omega)
  gi_wp2;refine⟨by simp,.inl ⟨_,_,rfl,run_takeDeferred hK,?_⟩⟩;have q0:=cell_kept hv.cell (grownBy_putObj' _ D (.deferred none)) (fun r e=>by cases e;exact⟨_,hK,rfl⟩);have q1:=cell_kept hu.cell (grownBy_putObj' _ D (.deferred none)) (fun r e=>by cases e;exact⟨_,hK,rfl⟩);refine⟨.tuple #[.slice none 0 0,.bool false],?_,?_⟩
  ·simp[results,Tryz.results146,go_sem,q0,q1]
  exact⟨hB.trans (belowK_b (w:=w) (Nat.le_refl _) _ D _ _ (by simp at hD;omega) hK rfl rfl),.inr ⟨HNr.out,rfl⟩⟩
end
section
open Go.RowKit Go.WideShapes

namespace Nf
def bytesOf(l:List Int):List UInt8:=l.flatMap fun r=>(Utf.put r).map bv
def textOf(l:List Int):Option (List UInt8):=if l.all Utf.isScalar then some (bytesOf l) else none
theorem bytesOf_next{l:List Int}{j:Nat}{r:Int}(h:l[j]?=some r):bytesOf (l.take (j+1))=bytesOf (l.take j)++(Utf.put r).map bv:=by
 unfold bytesOf;rw[List.take_add_one,h,List.flatMap_append];simp
theorem bytesOf_len(l:List Int):(bytesOf l).length≤4*l.length:=by
 unfold bytesOf
 induction l with
 | nil=>simp
 | cons x l ih=>
  rw[List.flatMap_cons,List.length_append,List.length_cons,List.length_map];have:=put_short x;omega
end Nf
def textV(l:List Int):Value:=match Nf.textOf l with
 | some x=>.tuple #[.string (bstr x),.bool true]
 | none=>.tuple #[.string ⟨#[]⟩,.bool false]
theorem str_is{t:ByteArray}{l:List UInt8}(h:StrIs t l):t=bstr l:=by
 unfold StrIs at h;subst h;rfl
theorem utext_any(l:List Int)(A:Option Addr)(c:Nat)(w:World)(hr:Reads w w.heap.size 1 A l.length (intVs l))(hs:l.length≤100000000) :
  Calls Tryz.prog 147 #[.slice A l.length c] w fun e w'=>e=.returned (textV l)∧Below w.heap.size w w':=by
 obtain⟨L,hL⟩:∃L,l.length=L:=⟨_,rfl⟩;have HL:=hide hL;rw[hL] at hr hs;rw[hL];have HR:=hide hr;have HPy:=hide (fun r W h=>put_yes r W h);have HPn:=hide (fun r W h=>put_no r W h);clear hL hr
 go_enter Tryz.func147,Tryz.ntmps147
 go_wp2
 go_loopg [4,11] L (fun gk v4 v11 wr=>∃(j:Nat) (A':Option Addr) (c' m:Nat),gk=L-j∧j≤L∧v11=.int .i64 (j:Int)∧v4=.slice A' m c'∧m=(Nf.bytesOf (l.take j)).length∧wr.ownsRow w.heap.size 5 1 (.slice A' m c') m (byteVs (Nf.bytesOf (l.take j)))∧(∀x∈l.take j,Utf.isScalar x=true)∧Below w.heap.size w wr)
 case atStart=>exact⟨0,none,0,0,rfl,by omega,rfl,rfl,rfl,World.ownsRow_nil _ _ _ _,by simp,Below.refl _ _⟩
 case round=>
  obtain⟨j,A',c',m,hgk,hj,rfl,rfl,hm,ho,hsc,hb⟩:=hrel;have Hg:=hide hgk;have HO:=hide ho;have HSc:=hide hsc;have HB:=hide hb;have Hm:=hide hm;clear hgk ho hsc hb hm
  by_cases hlt:j<L
  ·obtain⟨r,hrj⟩:∃r,l[j]?=some r:=⟨_,List.getElem?_eq_getElem (by rw[HL.out];exact hlt)⟩;obtain⟨gb,off,rfl,hgl,hcell⟩:=HR.out.2 (by omega);have y0:wr.cell? ⟨gb,off+j,none⟩=some (.int .i64 r):=(HB.out.cell hgl).trans (hcell j _ (by unfold intVs;rw[List.getElem?_map,hrj];rfl));have HN:=hide (Nf.bytesOf_next hrj);have HRj:=hide hrj;have hmb:m≤400000000:=by rw[Hm.out];refine Nat.le_trans (Nf.bytesOf_len _) ?_;rw[List.length_take];omega
   clear hcell hrj
   cases hsr:Utf.isScalar r with
   | false=>
    have HP:=hide (HPn.out r wr hsr)
    have HV:=hide (show textV l=.tuple #[.string ⟨#[]⟩,.bool false] by
     unfold textV Nf.textOf
     rw[if_neg (fun h=>by
      have:=List.all_eq_true.1 h r (List.mem_of_getElem? HRj.out);rw[hsr] at this
      cases this)])
    clear hsr
    go_wp2_with fail
    refine HP.out.mono ?_;rintro e w2 ⟨rfl,hw2⟩;subst hw2;dsimp only;go_wp2;go_ret2;exact⟨by rw[HV.out];rfl,HB.out⟩
   | true=>
    have HP:=hide (HPy.out r wr hsr);have Hsr:=hide hsr;have hps:((Utf.put r).map bv).length≤4:=by rw[List.length_map];exact put_short r
    obtain⟨pl,hpl⟩:∃pl,(Utf.put r).map bv=pl:=⟨_,rfl⟩;rw[hpl] at hps HP HN;clear hsr hpl
    go_wp2_with fail
    refine HP.out.mono ?_;rintro e w2 ⟨⟨t,rfl,ht⟩,hb2⟩;have HT:=hide ht;have HB2:=hide (HB.out.trans (hb2.mono HB.out.size));have HO2:=hide (uown_go HO.out hb2);have hbs:=HB2.out.size;have Hps:=hide hps;clear ht hb2;dsimp only
    go_wp2_with (at_builtin;go_loud (refine wpList_append_str w2 rfl (.tmp 22) (.tmp 23) 37 9 rfl w.heap.size 5 Tryz.underlying37 Tryz.underlying9 info_u8 _ m (Nf.bytesOf (l.take j)) rfl HO2.out t pl HT.out rfl (by omega) hbs ?_);intro A3 c3 w3 ho3 hg3;have HO3:=hide ho3;have HB3:=hide (HB2.out.grown hg3 HB2.out.size (fun k e=>(own_isT HO2.out k e).1));clear ho3 hg3)
    go_roundg (L-(j+1))
    case measure=>have:=Hg.out;omega
    case rel=>
     refine⟨j+1,A3,c3,m+pl.length,rfl,by omega,by first|rfl|go_num,rfl,by rw[HN.out,List.length_append,←Hm.out],by rw[HN.out];exact HO3.out,?_,HB3.out⟩;rw[take_next HRj.out];intro x hx
     rcases List.mem_append.1 hx with hx|hx
     ·exact HSc.out x hx
     rw[List.mem_singleton] at hx;subst hx;exact Hsr.out
  have hjL:j=L:=by omega
  have htk:l.take j=l:=List.take_of_length_le (by rw[HL.out];omega);have HT:=hide htk;have HO2:=hide (show wr.ownsRow w.heap.size 5 1 (.slice A' m c') m (byteVs (Nf.bytesOf l)) by have:=HO.out;rwa[htk] at this)
  have HV:=hide (show textV l=.tuple #[.string (bstr (Nf.bytesOf l)),.bool true] by
    have hh:=HSc.out;rw[htk] at hh;unfold textV Nf.textOf;rw[if_pos (List.all_eq_true.2 hh)])
  clear hjL htk
  go_wp2_with (refine wpList_to_string rfl 37 9 5 _ rfl Tryz.underlying37 Tryz.underlying5 Tryz.underlying9 w.heap.size _ m (by rfl) (Nf.bytesOf l) HO2.out ?_;intro t ht;have Ht:=hide (str_is ht);clear ht)
  go_ret2;exact⟨by rw[HV.out,←Ht.out];rfl,HB.out⟩
end
end Go.Proofs.YtifiiojchlaghaaGreatDoor
