/- NFC: the document's Decomposed, Composed, Nfc (ref12). And more. -/
import Derived.Test.YtifiiojchlaghaaGreatDoorOm08
import Derived.Test.YtifiiojchlaghaaGreatDoorOm30
import Derived.Test.YtifiiojchlaghaaGreatDoorOm31
import Derived.Test.YtifiiojchlaghaaGreatDoorOm32
import Derived.Test.YtifiiojchlaghaaGreatDoorOm33
import Derived.Test.YtifiiojchlaghaaGreatDoorOm34
import Derived.Test.YtifiiojchlaghaaGreatDoorOm38
import Derived.OrdersIn
import Derived.RangeFuncCalls
set_option linter.unusedSimpArgs false
set_option maxRecDepth 100000
set_option maxHeartbeats 16000000
set_option linter.unusedVariables false
namespace Go.Proofs.YtifiiojchlaghaaGreatDoor
section
open Go.RowKit Go.WideShapes

theorem QZ:∀l:List (Nat×Int),Utf.dK l<0↔∀p∈l,0≤p.2
 | []=>by simp[Utf.dK]
 | p :: l=>by
  by_cases h:p.2<0
  ·rw[Utf.Ji l h]
   constructor
   ·intro h2;omega
   intro h2;have:=h2 p (List.mem_cons_self ..);omega
  rw[Utf.Jj l h,QZ l]
  constructor
  ·intro h2 q hq
   rcases List.mem_cons.1 hq with rfl|hq
   ·omega
   exact h2 q hq
  exact fun h2 q hq=>h2 q (List.mem_cons_of_mem _ hq)
theorem VW(l:List UInt8):Utf.valid l=true↔Right l:=by
 rw[Utf.Xn,decide_eq_true_iff];exact QZ _
theorem VT(s:ByteArray)(w:World)(hs:s.size≤1000000000):Calls Tryz.prog 101 #[.string s] w fun e w'=>Below w.heap.size w w'∧((Right s.data.toList∧∃A c,e=.returned (.tuple #[.slice A (bo s.data.toList).length c,.bool true])∧Reads w' w'.heap.size 1 A (bo s.data.toList).length (ar (bo s.data.toList)))∨(¬Right s.data.toList∧∃v,e=.returned (.tuple #[v,.bool false]))):=by
 by_cases hR:Right s.data.toList
 ·exact (ahK s w hs ((VW _).2 hR)).mono (by rintro e w' ⟨A,c,he,hb,hr⟩;exact⟨hb,.inl ⟨hR,A,c,he,hr⟩⟩)
 have hv:Utf.valid s.data.toList=false:=by
  cases h:Utf.valid s.data.toList with
  | false=>rfl
  | true=>exact absurd ((VW _).1 h) hR
 refine (Wc s w hs).mono ?_;rintro e w' ⟨v,he,hb⟩;rw[hv] at he;exact⟨hb,.inr ⟨hR,v,he⟩⟩
theorem ai4(l:List Int):(Nf.sort l).length=l.length:=Nf.Mg _ _ (Nat.lt_succ_self _)
theorem ahs(s:ByteArray)(w:World)(hs:s.size≤250000) :
  Calls Tryz.prog 105 #[.string s] w fun e w'=>e=.returned (.string (aa (Nf.gS s.data.toList)))∧Below w.heap.size w w':=by
 have bt:=hide (VT s w (by omega));have hl:=yw s.data.toList;rw[b9] at hl
 by_cases hR:Right s.data.toList
 ·have HV:=hide (show Nf.gS s.data.toList=(Nf.jR (Nf.dec (bo s.data.toList))).getD [] by unfold Nf.gS Nf.via;rw[if_pos hR]);have ig:=hide (FF hR);have HR:=hide hR;have aT:=Nf.xh (bo s.data.toList);have pQ:=ai4 (Nf.bS (bo s.data.toList));have HD:=hide (fun A c W h=>ahr (bo s.data.toList) A c W h ig.out (by omega));have mP:=hide (fun A c W h=>ahL (Nf.bS (bo s.data.toList)) A c W h (by omega));have HT:=hide (fun A c W h=>VV (Nf.sort (Nf.bS (bo s.data.toList))) A c W h (by omega));obtain⟨bb,jm⟩:=FB (Nf.dec (bo s.data.toList));unfold Nf.dec at jm;have ue:=hide jm;clear hR hl aT pQ jm;rw[HV.out];unfold Nf.dec;unfold qI at HD mP;generalize bo s.data.toList=l at *
  go_enter Tryz.func105,Tryz.ntmps105
  go_wp2_with fail
  refine bt.out.mono ?_;rintro e w1 ⟨au,⟨_,A,c,rfl,hr⟩|⟨hn,_⟩⟩
  ·have az:=hide au;have gy:=hide hr;clear au hr;dsimp only
   go_wp2_with fail
   refine (HD.out A c w1 gy.out).mono ?_;rintro e w2 ⟨⟨A2,c2,rfl,bG⟩,ag⟩;have aL:=hide bG;have ah:=hide (az.out.trans (ag.mono az.out.size));clear bG ag;dsimp only
   go_wp2_with fail
   refine (mP.out A2 c2 w2 (Reads.dA aL.out)).mono ?_;rintro e w3 ⟨⟨A3,c3,rfl,bX⟩,aD⟩;have cf:=hide bX;have ax:=hide (ah.out.trans (aD.mono ah.out.size));clear bX aD;dsimp only
   go_wp2_with fail
   refine (HT.out A3 c3 w3 (Reads.dA cf.out)).mono ?_;rintro e w4 ⟨rfl,lz⟩;have cd:=hide (ax.out.trans (lz.mono ax.out.size));clear lz;rw[ue.out];dsimp only;go_wp2;go_ret;exact⟨rfl,cd.out⟩
  exact absurd HR.out hn
 have HV:=hide (show Nf.gS s.data.toList=s.data.toList by unfold Nf.gS Nf.via;rw[if_neg hR]);have HR:=hide hR;clear hR hl;rw[HV.out]
 go_enter Tryz.func105,Tryz.ntmps105
 go_wp2_with fail
 refine bt.out.mono ?_;rintro e w1 ⟨au,⟨h1,_⟩|⟨_,v,rfl⟩⟩
 ·exact absurd h1 HR.out
 have az:=hide au;clear au;dsimp only;go_wp2;go_ret;exact⟨rfl,az.out⟩
theorem ahq(s:ByteArray)(w:World)(hs:s.size≤16000000) :
  Calls Tryz.prog 104 #[.string s] w fun e w'=>e=.returned (.string (aa (Nf.jF s.data.toList)))∧Below w.heap.size w w':=by
 have bt:=hide (VT s w (by omega));have hl:=yw s.data.toList;rw[b9] at hl
 by_cases hR:Right s.data.toList
 ·have HV:=hide (show Nf.jF s.data.toList=(Nf.jR (Nf.compose (bo s.data.toList))).getD [] by unfold Nf.jF Nf.via;rw[if_pos hR]);have ig:=hide (FF hR);have HR:=hide hR;have aT:=Nf.IW (bo s.data.toList);have HD:=hide (fun A c W h=>ahp (bo s.data.toList) A c W h ig.out (by omega));have HT:=hide (fun A c W h=>VV (Nf.compose (bo s.data.toList)) A c W h (by omega));obtain⟨bb,jm⟩:=FB (Nf.compose (bo s.data.toList));have ue:=hide jm;clear hR hl aT jm;rw[HV.out];unfold qI at HD;generalize bo s.data.toList=l at *
  go_enter Tryz.func104,Tryz.ntmps104
  go_wp2_with fail
  refine bt.out.mono ?_;rintro e w1 ⟨au,⟨_,A,c,rfl,hr⟩|⟨hn,_⟩⟩
  ·have az:=hide au;have gy:=hide hr;clear au hr;dsimp only
   go_wp2_with fail
   refine (HD.out A c w1 gy.out).mono ?_;rintro e w2 ⟨⟨A2,c2,rfl,bG⟩,ag⟩;have aL:=hide bG;have ah:=hide (az.out.trans (ag.mono az.out.size));clear bG ag;dsimp only
   go_wp2_with fail
   refine (HT.out A2 c2 w2 (Reads.dA aL.out)).mono ?_;rintro e w4 ⟨rfl,lz⟩;have cd:=hide (ah.out.trans (lz.mono ah.out.size));clear lz;rw[ue.out];dsimp only;go_wp2;go_ret;exact⟨rfl,cd.out⟩
  exact absurd HR.out hn
 have HV:=hide (show Nf.jF s.data.toList=s.data.toList by unfold Nf.jF Nf.via;rw[if_neg hR]);have HR:=hide hR;clear hR hl;rw[HV.out]
 go_enter Tryz.func104,Tryz.ntmps104
 go_wp2_with fail
 refine bt.out.mono ?_;rintro e w1 ⟨au,⟨h1,_⟩|⟨_,v,rfl⟩⟩
 ·exact absurd h1 HR.out
 have az:=hide au;clear au;dsimp only;go_wp2;go_ret;exact⟨rfl,az.out⟩
theorem ahA(s:ByteArray)(w:World)(hs:s.size≤250000) :
  Calls Tryz.prog 73 #[.string s] w fun e w'=>e=.returned (.string (aa (Nf.nD s.data.toList)))∧Below w.heap.size w w':=by
 rw[Nf.afR];have H1:=hide (ahs s w hs);have hl:=Nf.Ja s.data.toList;rw[b9] at hl;have H2:=hide (fun W=>ahq (aa (Nf.gS s.data.toList)) W (by rw[aW];omega));rw[bg] at H2;clear hl hs
 go_enter Tryz.func73,Tryz.ntmps73
 go_wp2_with fail
 refine H1.out.mono ?_;rintro e w1 ⟨rfl,au⟩;have az:=hide au;clear au;dsimp only
 go_wp2_with fail
 refine (H2.out _).mono ?_;rintro e w2 ⟨rfl,ag⟩;have ah:=hide (az.out.trans (ag.mono az.out.size));clear ag;dsimp only;go_wp2;go_ret;exact⟨rfl,ah.out⟩
end
section
open Go.RowKit Go.WideShapes

theorem ahy(l:List UInt8)(w:World)(hs:l.length≤200000) :
  Calls Tryz.prog 47 #[.string (aa l)] w fun e w'=>e=.returned (.string (aa (Tx.line l)))∧Below w.heap.size w w':=by
 have H1:=hide (ahB (aa l) w (by rw[aW];omega));rw[bg] at H1;have nv:=Tx.yj l;have H2:=hide (fun W=>ahA (aa (Tx.one l)) W (by rw[aW];omega));rw[bg] at H2;clear nv
 go_enter Tryz.func47,Tryz.ntmps47
 go_wp2_with fail
 refine H1.out.mono ?_;rintro e w1 ⟨rfl,hb⟩;have HB:=hide hb;clear hb;dsimp only
 go_wp2_with fail
 refine (H2.out w1).mono ?_;rintro e w2 ⟨rfl,hb⟩;have ah:=hide (HB.out.trans (hb.mono HB.out.size));clear hb;dsimp only;go_wp2;go_ret;exact⟨rfl,ah.out⟩
theorem aho(l:List UInt8)(w:World)(hs:l.length≤200000) :
  Calls Tryz.prog 46 #[.string (aa l)] w fun e w'=>e=.returned (.bool (Tx.right l))∧Below w.heap.size w w':=by
 have H1:=hide (ahO (aa l) w (by rw[aW];omega));have H2:=hide (fun W=>ahm (aa l) W (by rw[aW];omega));rw[bg] at H1 H2;unfold Tx.right
 cases hv:Utf.valid l with
 | false=>
  rw[hv] at H1;clear hv
  go_enter Tryz.func46,Tryz.ntmps46
  go_wp2_with fail
  refine H1.out.mono ?_;rintro e w1 ⟨rfl,hb⟩;have HB:=hide hb;clear hb;dsimp only;go_wp2;go_ret;exact⟨rfl,HB.out⟩
 | true=>
  rw[hv] at H1;clear hv;obtain⟨q,hq⟩:∃q,Tk.bad l=q:=⟨_,rfl⟩;rw[hq] at H2 ⊢;clear hq
  go_enter Tryz.func46,Tryz.ntmps46
  go_wp2_with fail
  refine H1.out.mono ?_;rintro e w1 ⟨rfl,hb⟩;have HB:=hide hb;clear hb;dsimp only
  go_wp2_with fail
  refine (H2.out w1).mono ?_;rintro e w2 ⟨rfl,hw2⟩;subst hw2;have ah:=HB;dsimp only;go_wp2;go_ret;exact⟨by rw[Bool.true_and];rfl,ah.out⟩
theorem ahu(l:List UInt8)(w:World)(hs:l.length≤200000) :
  Calls Tryz.prog 26 #[.string (aa l)] w fun e w'=>e=.returned (.bool (Tx.jN l))∧Below w.heap.size w w':=by
 have H1:=hide (aho l w hs);have H2:=hide (fun W=>ahy l W hs);unfold Tx.jN
 cases hv:Tx.right l with
 | false=>
  rw[hv] at H1;clear hv
  go_enter Tryz.func26,Tryz.ntmps26
  go_wp2_with fail
  refine H1.out.mono ?_;rintro e w1 ⟨rfl,hb⟩;have HB:=hide hb;clear hb;dsimp only;go_wp2;go_ret;exact⟨rfl,HB.out⟩
 | true=>
  rw[hv] at H1;clear hv
  by_cases he:Tx.line l=l
  ·rw[decide_eq_true he];rw[he] at H2;clear he
   go_enter Tryz.func26,Tryz.ntmps26
   go_wp2_with fail
   refine H1.out.mono ?_;rintro e w1 ⟨rfl,hb⟩;have HB:=hide hb;clear hb;dsimp only
   go_wp2_with fail
   refine (H2.out w1).mono ?_;rintro e w2 ⟨rfl,hb⟩;have ah:=hide (HB.out.trans (hb.mono HB.out.size));clear hb;dsimp only;go_wp2;go_ret;exact⟨rfl,ah.out⟩
  rw[decide_eq_false he];have hne:=Qi he;have hbq:=Qh he;clear he;generalize Tx.line l=m at *
  go_enter Tryz.func26,Tryz.ntmps26
  go_wp2_with fail
  refine H1.out.mono ?_;rintro e w1 ⟨rfl,hb⟩;have HB:=hide hb;clear hb;dsimp only
  go_wp2_with fail
  refine (H2.out w1).mono ?_;rintro e w2 ⟨rfl,hb⟩;have ah:=hide (HB.out.trans (hb.mono HB.out.size));clear hb;dsimp only;go_wp2;go_ret;exact⟨rfl,ah.out⟩
end
section
open Go.RowKit Tk Sx Go.WideShapes

namespace Opm
def Bz(x:ay)(ahead:List ay):Bool:=decide (x.pre≠[])&&(Tx.jN x.pre&&(Tx.jN x.ns && !decide (x.pre∈ahead.map (·.pre))))
theorem afx(l:List ay):∀(k:Nat) (seen:List L),(∀u,u∈seen↔u∈(l.take k).map (·.pre))→gJ seen (l.drop k)=match l[k]? with
  | some x=>Bz x (l.take k)&&gJ (x.pre :: seen) (l.drop (k+1))
  | none=>true:=by
 intro k seen hs
 cases h:l[k]? with
 | none=>
  rw[List.drop_of_length_le (List.getElem?_eq_none_iff.1 h)];rfl
 | some x=>
  obtain⟨h1,h2⟩:=List.getElem?_eq_some_iff.1 h;rw[List.drop_eq_getElem_cons h1,h2,gJ];unfold Bz;simp only[hs,Bool.and_assoc]
end Opm
theorem Reads.QR{w:World}{B:Nat}{A:Option Addr}{l:List ay}(h:Reads w B 2 A l.length (bj l)){j:Nat}(hj:j≤l.length):Reads w B 2 A (l.take j).length (bj (l.take j)):=by
 have hd:bj l=bj (l.take j)++bj (l.drop j):=by unfold bj;rw[←List.flatMap_append,List.take_append_drop]
 refine⟨by rw[abm],fun hn=>?_⟩;obtain⟨b,off,e,hb,hc⟩:=h.2 (by rw[List.length_take] at hn;omega);refine⟨b,off,e,hb,fun i u hu=>hc i u ?_⟩;rw[hd,List.getElem?_append_left (List.getElem?_eq_some_iff.1 hu).1];exact hu
theorem Im(l:List ay)(A:Option Addr)(c:Nat)(w:World)(hR:Reads w w.heap.size 2 A l.length (bj l))(hu:∀x∈l,x.pre.length≤100000∧x.ns.length≤100000)(hl:l.length≤1000000)(hc:l.length≤c) :
  Calls Tryz.prog 12 #[.slice A l.length c] w fun e w'=>e=.returned (.bool (Opm.may l))∧Below w.heap.size w w':=by
 obtain⟨n,hn⟩:∃n,l.length=n:=⟨_,rfl⟩;have HR:=hide hR;have HU:=hide hu;have Hn:=hide hn;have HL:=hide (fun (t:L) (W:World) (ht:t.length≤200000)=>ahu t W ht);have lH:Opm.may l=(Opm.gJ [] l&&decide (n≤64)):=by unfold Opm.may;rw[hn]
 obtain⟨q,hq⟩:∃q,Opm.may l=q:=⟨_,rfl⟩;rw[hq] at lH ⊢;have qD:=hide lH;rw[hn] at hl hc ⊢;clear hR hu hn lH hq
 by_cases JA:64<n
 ·have h1:(64:Int)<n:=by omega
  have HF:=hide (show q=false by rw[qD.out,decide_eq_false (by omega)];simp)
  go_enter Tryz.func12,Tryz.ntmps12
  go_wp2;go_ret;rw[HF.out];exact⟨rfl,Below.refl _ _⟩
 have h1:¬(64:Int)<n:=by omega
 have lH:=qD.out;rw[decide_eq_true (by omega),Bool.and_true] at lH;have qD:=hide lH;clear lH
 go_enter Tryz.func12,Tryz.ntmps12
 go_wp2
 go_loopg [2,3,7,8,9,10,11,12,13,14,15,16,17,18,19,20,21,22,23,24,25,26,27,28,29,30,31,32,33,34,35,36,37,38,39,40,41,42,43,44,45,46,47] n (fun gk v2 v3 v7 v8 v9 v10 v11 v12 v13 v14 v15 v16 v17 v18 v19 v20 v21 v22 v23 v24 v25 v26 v27 v28 v29 v30 v31 v32 v33 v34 v35 v36 v37 v38 v39 v40 v41 v42 v43 v44 v45 v46 v47 wr=>∃(j:Nat) (seen:List L),v3=.int .i64 (j:Int)∧gk=n-j∧j≤n∧(∀u,u∈seen↔u∈(l.take j).map (·.pre))∧Opm.gJ [] l=Opm.gJ seen (l.drop j)∧Below w.heap.size w wr)
 case atStart=>exact⟨0,[],rfl,rfl,by omega,fun u=>by simp,rfl,Below.refl _ _⟩
 case round=>
  obtain⟨j,seen,rfl,aq,hj,oH,heq,hb⟩:=hrel;have eM:=hide aq;have su:=hide oH;have hstep:=Opm.afx l j seen oH;have HEq:=hide heq;have HB:=hide hb;clear aq oH heq hb
  by_cases hlt:j<n
  ·have cB:(j:Int)<n:=by omega
   have fR:j<l.length:=by rw[Hn.out];exact hlt
   have hg:l[j]?=some l[j]:=List.getElem?_eq_getElem fR;obtain⟨dT,bH⟩:=HU.out l[j] (List.getElem_mem fR);have hA:=(HR.out.pF fR);obtain⟨⟨u,t⟩,hx⟩:∃x,l[j]=x:=⟨_,rfl⟩;rw[hg] at hstep;rw[hx] at hA hstep dT bH;dsimp only at hstep dT bH;obtain⟨b,off,rfl,jl,x0,x1⟩:=hA;have np:(0:Int)≤j∧(j:Int)<n:=by omega
   have hjc:(j:Int)≤n∧(j:Int)≤c:=by omega
   have fh:=hide (fun W (h:Below w.heap.size w W)=>(h.cell jl).trans x0);have gA:=hide (fun W (h:Below w.heap.size w W)=>(h.cell jl).trans x1);have Oc:=hide (fun W=>HL.out u W (by omega));have Oa:=hide (fun W=>HL.out t W (by omega));have sg:=hide (fun W (h:Below w.heap.size w W)=>ac8 (l.take j) (some ⟨b,off,none⟩) c w.heap.size u W ((HR.out.below h).QR (by rw[Hn.out];omega)) (by rw[List.length_take];omega));have hF:Opm.Bz ⟨u,t⟩ (l.take j)=false→q=false:=fun h=>by rw[qD.out,HEq.out,hstep,h,Bool.false_and]
   have hT:Opm.Bz ⟨u,t⟩ (l.take j)=true→Opm.gJ [] l=Opm.gJ (u :: seen) (l.drop (j+1)):=fun h=>by rw[HEq.out,hstep,h,Bool.true_and]
   have RX:∀z,z∈u :: seen↔z∈(l.take (j+1)).map (·.pre):=fun z=>by
    rw[List.take_add_one,hg,hx,List.map_append,List.mem_append,List.mem_cons,su.out];simp[or_comm]
   obtain⟨q3,AU⟩:∃q3,decide (u∈(l.take j).map (·.pre))=q3:=⟨_,rfl⟩;obtain⟨q1,pO⟩:∃q1,Tx.jN u=q1:=⟨_,rfl⟩;obtain⟨q2,oG⟩:∃q2,Tx.jN t=q2:=⟨_,rfl⟩;unfold Opm.Bz at hF hT;have SQ:(l.take j).length=j:=by rw[List.length_take];omega
   simp only[pO] at Oc hF hT;simp only[oG] at Oa hF hT;simp only[AU] at sg hF hT;simp only[SQ] at sg;have HT:=hide hT;have yG:=hide hF;have uy:=hide RX;clear hstep hg hx hF hT RX pO oG AU SQ x0 x1
   by_cases jL:u=[]
   ·subst jL;have e1:=uS [];have HF:=hide (yG.out (by simp));go_wp2;refine wp_region_held_drew (S:=fun W=>Below w.heap.size w W) (by kernel_rfl) (below_drewN HB.out 1) (fun hHeld=>?_);change wpAnyH _ _ _ _ _ 35 #[false,false,false,false,false,false,false,false,false,false,false,false,false,false,false,false,false,false,false,false,false,false,false,false,false,false,false,false,false,false,false,false,false,false,false] _ _;iterate 7 (refine aB (v:=?_) rfl rfl hHeld ?_ ?_;rotate_left;(· (intro W hSw;have q0:=fh.out W hSw;have q1:=gA.out W hSw;go_simp;try with_reducible rfl));(try simp only[nx,List.set]))
    iterate 7 (refine vY rfl rfl hHeld ?_;(try simp only[nx,List.set]))
    iterate 2 (refine aB (v:=?_) rfl rfl hHeld ?_ ?_;rotate_left;(· (intro W hSw;have q0:=fh.out W hSw;have q1:=gA.out W hSw;go_simp;try with_reducible rfl));(try simp only[nx,List.set]))
    iterate 7 (refine vY rfl rfl hHeld ?_;(try simp only[nx,List.set]))
    iterate 2 (refine aB (v:=?_) rfl rfl hHeld ?_ ?_;rotate_left;(· (intro W hSw;have q0:=fh.out W hSw;have q1:=gA.out W hSw;go_simp;try with_reducible rfl));(try simp only[nx,List.set]))
    iterate 9 (refine vY rfl rfl hHeld ?_;(try simp only[nx,List.set]))
    (refine aB (v:=?_) rfl rfl hHeld ?_ ?_;rotate_left;(· (intro W hSw;have q0:=fh.out W hSw;have q1:=gA.out W hSw;go_simp;try with_reducible rfl));(try simp only[nx,List.set]));refine wpAnyH_done (by kernel_rfl) ?_ _;have HH:=hide hHeld;clear hHeld;go_wp2;go_ret;rw[HF.out];exact⟨rfl,HH.out⟩
   have e1:=sM jL;have ky:decide (u≠[])=true:=decide_eq_true jL;rw[ky,Bool.true_and] at yG HT;clear jL ky;go_wp2;refine wp_region_held_drew (S:=fun W=>Below w.heap.size w W) (by kernel_rfl) (below_drewN HB.out 1) (fun hHeld=>?_);change wpAnyH _ _ _ _ _ 35 #[false,false,false,false,false,false,false,false,false,false,false,false,false,false,false,false,false,false,false,false,false,false,false,false,false,false,false,false,false,false,false,false,false,false,false] _ _;iterate 7 (refine aB (v:=?_) rfl rfl hHeld ?_ ?_;rotate_left;(· (intro W hSw;have q0:=fh.out W hSw;have q1:=gA.out W hSw;go_simp;try with_reducible rfl));(try simp only[nx,List.set]))
   iterate 5 (refine aB (v:=?_) rfl rfl hHeld ?_ ?_;rotate_left;(· (intro W hSw;have q0:=fh.out W hSw;have q1:=gA.out W hSw;go_simp;try with_reducible rfl));(try simp only[nx,List.set]))
   refine jr (i:=12) rfl (by kernel_rfl) (by kernel_rfl) (fun K hK=>?_);go_simp;refine (Oc.out _).mono ?_;rintro e W2 ⟨rfl,ag⟩;(try dsimp only);refine hK.out _ _ ?_ (fun bc=>?_)
   ·exact hHeld.trans (ag.mono hHeld.size)
   clear hK K hHeld ag;have hHeld:=bc;clear bc;(try simp only[Act.put,List.setIfInBounds_toArray,List.set_cons_zero,List.set_cons_succ])
   cases q1 with
   | false=>
    have HF:=hide (yG.out rfl);(refine aB (v:=?_) rfl rfl hHeld ?_ ?_;rotate_left;(· (intro W hSw;have q0:=fh.out W hSw;have q1:=gA.out W hSw;go_simp;try with_reducible rfl));(try simp only[nx,List.set]));iterate 2 (refine aB (v:=?_) rfl rfl hHeld ?_ ?_;rotate_left;(· (intro W hSw;have q0:=fh.out W hSw;have q1:=gA.out W hSw;go_simp;try with_reducible rfl));(try simp only[nx,List.set]))
    iterate 7 (refine vY rfl rfl hHeld ?_;(try simp only[nx,List.set]))
    iterate 2 (refine aB (v:=?_) rfl rfl hHeld ?_ ?_;rotate_left;(· (intro W hSw;have q0:=fh.out W hSw;have q1:=gA.out W hSw;go_simp;try with_reducible rfl));(try simp only[nx,List.set]))
    iterate 9 (refine vY rfl rfl hHeld ?_;(try simp only[nx,List.set]))
    (refine aB (v:=?_) rfl rfl hHeld ?_ ?_;rotate_left;(· (intro W hSw;have q0:=fh.out W hSw;have q1:=gA.out W hSw;go_simp;try with_reducible rfl));(try simp only[nx,List.set]));refine wpAnyH_done (by kernel_rfl) ?_ _;have HH:=hide hHeld;clear hHeld;go_wp2;go_ret;rw[HF.out];exact⟨rfl,HH.out⟩
   | true=>
    (refine aB (v:=?_) rfl rfl hHeld ?_ ?_;rotate_left;(· (intro W hSw;have q0:=fh.out W hSw;have q1:=gA.out W hSw;go_simp;try with_reducible rfl));(try simp only[nx,List.set]));iterate 2 (refine aB (v:=?_) rfl rfl hHeld ?_ ?_;rotate_left;(· (intro W hSw;have q0:=fh.out W hSw;have q1:=gA.out W hSw;go_simp;try with_reducible rfl));(try simp only[nx,List.set]))
    iterate 5 (refine aB (v:=?_) rfl rfl hHeld ?_ ?_;rotate_left;(· (intro W hSw;have q0:=fh.out W hSw;have q1:=gA.out W hSw;go_simp;try with_reducible rfl));(try simp only[nx,List.set]))
    refine jr (i:=21) rfl (by kernel_rfl) (by kernel_rfl) (fun K hK=>?_);go_simp;refine (Oa.out _).mono ?_;rintro e W2 ⟨rfl,ag⟩;(try dsimp only);refine hK.out _ _ ?_ (fun bc=>?_)
    ·exact hHeld.trans (ag.mono hHeld.size)
    clear hK K hHeld ag;have hHeld:=bc;clear bc;(try simp only[Act.put,List.setIfInBounds_toArray,List.set_cons_zero,List.set_cons_succ])
    cases q2 with
    | false=>
     have HF:=hide (yG.out rfl);(refine aB (v:=?_) rfl rfl hHeld ?_ ?_;rotate_left;(· (intro W hSw;have q0:=fh.out W hSw;have q1:=gA.out W hSw;go_simp;try with_reducible rfl));(try simp only[nx,List.set]));iterate 2 (refine aB (v:=?_) rfl rfl hHeld ?_ ?_;rotate_left;(· (intro W hSw;have q0:=fh.out W hSw;have q1:=gA.out W hSw;go_simp;try with_reducible rfl));(try simp only[nx,List.set]))
     iterate 9 (refine vY rfl rfl hHeld ?_;(try simp only[nx,List.set]))
     (refine aB (v:=?_) rfl rfl hHeld ?_ ?_;rotate_left;(· (intro W hSw;have q0:=fh.out W hSw;have q1:=gA.out W hSw;go_simp;try with_reducible rfl));(try simp only[nx,List.set]));refine wpAnyH_done (by kernel_rfl) ?_ _;have HH:=hide hHeld;clear hHeld;go_wp2;go_ret;rw[HF.out];exact⟨rfl,HH.out⟩
    | true=>
     (refine aB (v:=?_) rfl rfl hHeld ?_ ?_;rotate_left;(· (intro W hSw;have q0:=fh.out W hSw;have q1:=gA.out W hSw;go_simp;try with_reducible rfl));(try simp only[nx,List.set]));iterate 2 (refine aB (v:=?_) rfl rfl hHeld ?_ ?_;rotate_left;(· (intro W hSw;have q0:=fh.out W hSw;have q1:=gA.out W hSw;go_simp;try with_reducible rfl));(try simp only[nx,List.set]))
     iterate 8 (refine aB (v:=?_) rfl rfl hHeld ?_ ?_;rotate_left;(· (intro W hSw;have q0:=fh.out W hSw;have q1:=gA.out W hSw;go_simp;try with_reducible rfl));(try simp only[nx,List.set]))
     refine jr (i:=33) rfl (by kernel_rfl) (by kernel_rfl) (fun K hK=>?_);go_simp;refine (sg.out _ hHeld).mono ?_;rintro e W2 ⟨rfl,hw2⟩;subst W2;(try dsimp only);refine hK.out _ _ hHeld (fun bc=>?_);clear hK K bc;(try simp only[Act.put,List.setIfInBounds_toArray,List.set_cons_zero,List.set_cons_succ])
     cases q3 with
     | true=>
      have HF:=hide (yG.out rfl);(refine aB (v:=?_) rfl rfl hHeld ?_ ?_;rotate_left;(· (intro W hSw;have q0:=fh.out W hSw;have q1:=gA.out W hSw;go_simp;try with_reducible rfl));(try simp only[nx,List.set]));refine wpAnyH_done (by kernel_rfl) ?_ _;have HH:=hide hHeld;clear hHeld;go_wp2;go_ret;rw[HF.out];exact⟨rfl,HH.out⟩
     | false=>
      have bn:=hide (HT.out rfl);(refine aB (v:=?_) rfl rfl hHeld ?_ ?_;rotate_left;(· (intro W hSw;have q0:=fh.out W hSw;have q1:=gA.out W hSw;go_simp;try with_reducible rfl));(try simp only[nx,List.set]));refine wpAnyH_done (by kernel_rfl) ?_ _;have HH:=hide hHeld;clear hHeld;go_wp2
      go_roundg (n-(j+1))
      case measure=>have:=eM.out;omega
      case rel=>exact⟨j+1,_,by first|rfl|go_num,rfl,by omega,uy.out,bn.out,HH.out⟩
  have cB:¬(j:Int)<n:=by omega
  have eO:j=n:=by omega
  have HF:=hide (show q=true by
   rw[qD.out,HEq.out,hstep,List.getElem?_eq_none (by rw[Hn.out];omega)])
  clear eO hstep;go_wp2;go_ret;rw[HF.out];exact⟨rfl,HB.out⟩
end
section
open Go

def QN(md:Region.Mode)(ops:Array Oper):Bool:=(List.range ops.size).all fun i=>((ops[i]?).map fun o=>o.after.all fun e=>!Region.binds md e||decide (e.on<i)).getD false
def PU(p:Prop):Prop:=p
theorem akI{p:Prop}(h:PU p):p:=h
def wC(md:Region.Mode)(ops:Array Oper)(i j:Nat):Bool:=((ops[i]?).map fun o=>o.after.any fun e=>Region.binds md e&&e.on==j).getD false
theorem af{a b c:Prop}(h:a→c)(hb:¬b):a∨b→c:=fun h2=>h2.elim h fun h3=>absurd h3 hb
section
variable {F:Fence} {n:Nat} {P:Program} {ops:Array Oper} {Q:Exit→Act→World→Prop} {md:Region.Mode} {Iv:(Nat→Prop)→Act→World→Prop}
theorem Ln{listed:Array Bool}{i:Nat}(hi:i<listed.size):(fun k=>(listed.setIfInBounds i true).getD k false=true)=fun k=>listed.getD k false=true∨k=i:=by
 funext k
 by_cases h:k=i
 ·subst h;simp[Array.getD,hi]
 simp only[Array.getD_eq_getD_getElem?,Array.getElem?_setIfInBounds,if_neg (fun e:i=k=>h e.symm),h,or_false]
theorem ak1(hl:QN md ops=true)
  (hstep:∀(L:Nat→Prop) (a:Act) (w:World) (i:Nat),Iv L a w→i<ops.size→¬L i→(∀j,wC md ops i j=true→L j)→(∀j,wC md ops j i=true→¬L j)→wpOpIn F n P ops Q i (Iv fun k=>L k∨k=i) a w)
  (hdone:∀(L:Nat→Prop) (a:Act) (w:World),Iv L a w→(∀i,i<ops.size→L i)→Q .normal a w) :
  ∀(fuel:Nat) (listed:Array Bool) (a:Act) (w:World),listed.size=ops.size→(∀j k,listed.getD j false=true→wC md ops j k=true→listed.getD k false=true)→listed.toList.count false≤fuel→Iv (fun k=>listed.getD k false=true) a w→wpAnyIn F n P md ops Q fuel listed a w:=by
 have hall:∀(listed:Array Bool),listed.size=ops.size→Region.ready md ops listed=[]→∀i,i<ops.size→listed.getD i false=true:=by
  intro listed hs hr i
  induction i using Nat.strongRecOn with
  | _ i ih=>
   intro hi
   cases hv:listed.getD i false with
   | true=>rfl
   | false=>
    exfalso
    have hm:i∈Region.ready md ops listed:=by
     unfold Region.ready;rw[List.mem_filter];refine⟨List.mem_range.2 hi,?_⟩
     have h1:listed.getD i true=false:=by
      simp only[Array.getD,hs,hi,dif_pos] at hv ⊢;exact hv
     have h2:=List.all_eq_true.1 hl i (List.mem_range.2 hi);rw[Array.getElem?_eq_getElem hi] at h2 ⊢;simp only[Option.map_some,Option.getD_some] at h2 ⊢;rw[h1,Bool.not_false,Bool.true_and,Array.all_eq_true'];intro e he;have h3:=Array.all_eq_true'.1 h2 e he
     cases hb:Region.binds md e with
     | false=>rfl
     | true=>
      rw[hb] at h3;have h4:e.on<i:=by simpa using h3
      rw[ih _ h4 (by omega),Bool.or_true]
    rw[hr] at hm;cases hm
 intro fuel
 induction fuel with
 | zero=>
  intro listed a w hs jG hc hI
  have h0:∀i,i<listed.size→listed.getD i true=true:=by
   intro i hi;have:=List.count_eq_zero.1 (Nat.le_zero.1 hc);simp only[Array.getD,hi,dif_pos]
   cases hv:listed[i] with
   | true=>exact hv
   | false=>exact absurd (hv▸Array.getElem_mem_toList hi) this
  have hr:Region.ready md ops listed=[]:=by
   unfold Region.ready;rw[List.filter_eq_nil_iff];intro i hi;rw[h0 i (by rw[hs];exact List.mem_range.1 hi)];simp
  exact⟨hr,hdone _ a w hI (hall listed hs hr)⟩
 | succ fuel ih=>
  intro listed a w hs jG hc hI;refine⟨fun hr=>hdone _ a w hI (hall listed hs hr),fun i hi=>?_⟩;unfold Region.ready at hi;rw[List.mem_filter] at hi;obtain⟨cB,aY⟩:=hi;have cB:=List.mem_range.1 cB;have ho:ops[i]?=some ops[i]:=Array.getElem?_eq_getElem cB;rw[ho] at aY;simp only[Option.map_some,Option.getD_some,Bool.and_eq_true,Bool.not_eq_true'] at aY
  have SZ:¬listed.getD i false=true:=fun h=>by
   have h1:=aY.1;simp only[Array.getD,hs,cB,dif_pos] at h h1;rw[h] at h1;cases h1
  have Su:∀j,wC md ops i j=true→listed.getD j false=true:=fun j hj=>by
   unfold wC at hj;rw[ho] at hj;simp only[Option.map_some,Option.getD_some] at hj;obtain⟨e,he,hb⟩:=Array.any_eq_true'.1 hj;simp only[Bool.and_eq_true,beq_iff_eq] at hb;have:=Array.all_eq_true'.1 aY.2 e he;rw[hb.1,hb.2] at this
   simpa using this
  refine wpOpIn_mono (fun a' w' h=>ih _ a' w' (by simpa using hs) ?_ ?_ ?_) (hstep _ a w i hI cB SZ Su fun j hj hl=>SZ (jG j i hl hj))
  ·intro j k hj hw;have h1:=congrFun (Ln (listed:=listed) (i:=i) (by rw[hs];exact cB)) j;have h2:=congrFun (Ln (listed:=listed) (i:=i) (by rw[hs];exact cB)) k;rw[h1] at hj;rw[h2]
   rcases hj with hj|rfl
   ·exact .inl (jG j k hj hw)
   exact .inl (Su k hw)
  ·have hlt:i<listed.toList.length:=by simpa[hs] using cB
   have hf:listed.toList[i]=false:=by
    have:=aY.1
    simpa[Array.getD,hs,cB] using this
   rw[Array.toList_setIfInBounds,List.count_set hlt,hf];have Tf:0<listed.toList.count false:=List.count_pos_iff.2 (hf▸List.getElem_mem hlt);show listed.toList.count false-1+0≤fuel;omega
  rw[Ln (by rw[hs];exact cB)];exact h
theorem Cg{id:Nat}{a:Act}{w:World}(hm:P.follows .mixedOrders=true)(hl:QN .any ops=true)(Iv:(Nat→Prop)→Act→World→Prop)(h0:Iv (fun _=>False) a w.drew)
  (hstep:∀(L:Nat→Prop) (a:Act) (w:World) (i:Nat),Iv L a w→i<ops.size→¬L i→(∀j,wC .any ops i j=true→L j)→(∀j,wC .any ops j i=true→¬L j)→wpOpIn F n P ops Q i (Iv fun k=>L k∨k=i) a w)
  (hdone:∀(L:Nat→Prop) (a:Act) (w:World),Iv L a w→(∀i,i<ops.size→L i)→Q .normal a w):(Code.region id ops true).wpIn F n P Q a w:=by
 refine wpIn_region_any hm (ak1 hl hstep hdone _ _ _ _ (by simp) (fun j k h=>by simp[Array.getD] at h) (by simp) ?_)
 have:(fun k=>(Array.replicate ops.size false).getD k false=true)=fun _=>False:=by
  funext k
  simp[Array.getD]
 rw[this];exact h0
theorem bN{i:Nat}{o:Oper}{K:Act→World→Prop}{a:Act}{w:World}(ho:ops[i]?=some o)(hw:Region.wanted o (yielded ops a.tmps)=true)(h:∀K':Act→World→Prop,(∀a w,K a w→K' a w)→Oper.wpIn F n P o a w K' Q):wpOpIn F n P ops Q i K a w:=by
 unfold wpOpIn;rw[ho];dsimp only;rw[if_pos hw];exact h K fun _ _ h=>h
end
end
end Go.Proofs.YtifiiojchlaghaaGreatDoor
