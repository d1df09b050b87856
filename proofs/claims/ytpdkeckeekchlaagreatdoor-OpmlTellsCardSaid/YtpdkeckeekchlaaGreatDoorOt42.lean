/- opml: the document's May. And more. -/
import Derived.Test.YtpdkeckeekchlaaGreatDoorOt41
set_option linter.unusedSimpArgs false
set_option maxRecDepth 100000
set_option maxHeartbeats 16000000
set_option linter.unusedVariables false
namespace Go.Proofs.YtpdkeckeekchlaaGreatDoor
section
open Go.RowKit Tk Sx Go.WideShapes

namespace Opm
def CD(x:aB)(ahead:List aB):Bool:=decide (x.pre≠[])&&(Tx.jA x.pre&&(Tx.jA x.ns && !decide (x.pre∈ahead.map (·.pre))))
theorem ahI(l:List aB):∀(k:Nat) (seen:List L),(∀u,u∈seen↔u∈(l.take k).map (·.pre))→iB seen (l.drop k)=match l[k]? with
  | some x=>CD x (l.take k)&&iB (x.pre :: seen) (l.drop (k+1))
  | none=>true:=by
 intro k seen hs
 cases h:l[k]? with
 | none=>
  rw[List.drop_of_length_le (List.getElem?_eq_none_iff.1 h)];rfl
 | some x=>
  obtain⟨h1,h2⟩:=List.getElem?_eq_some_iff.1 h;rw[List.drop_eq_getElem_cons h1,h2,iB];unfold CD;simp only[hs,Bool.and_assoc]
end Opm
theorem Reads.adC{w:World}{B:Nat}{A:Option Addr}{l:List aB}(h:Reads w B 2 A l.length (aM l)){j:Nat}(hj:j≤l.length):Reads w B 2 A (l.take j).length (aM (l.take j)):=by
 have hd:aM l=aM (l.take j)++aM (l.drop j):=by unfold aM;rw[←List.flatMap_append,List.take_append_drop]
 refine⟨by rw[ade],fun hn=>?_⟩;obtain⟨b,off,e,hb,hc⟩:=h.2 (by rw[List.length_take] at hn;omega);refine⟨b,off,e,hb,fun i u hu=>hc i u ?_⟩;rw[hd,List.getElem?_append_left (List.getElem?_eq_some_iff.1 hu).1];exact hu
theorem Re(l:List aB)(A:Option Addr)(c:Nat)(w:World)(hR:Reads w w.heap.size 2 A l.length (aM l))(hu:∀x∈l,x.pre.length≤100000∧x.ns.length≤100000)(hl:l.length≤1000000)(hc:l.length≤c) :
  Calls Tryz.prog 12 #[.slice A l.length c] w fun e w'=>e=.returned (.bool (Opm.may l))∧Below w.heap.size w w':=by
 obtain⟨n,hn⟩:∃n,l.length=n:=⟨_,rfl⟩;have HR:=ap hR;have HU:=ap hu;have Hn:=ap hn;have HL:=ap (fun (t:L) (W:World) (ht:t.length≤200000)=>XL t W ht);have iq:Opm.may l=(Opm.iB [] l&&decide (n≤64)):=by unfold Opm.may;rw[hn]
 obtain⟨q,hq⟩:∃q,Opm.may l=q:=⟨_,rfl⟩;rw[hq] at iq ⊢;have qQ:=ap iq;rw[hn] at hl hc ⊢;clear hR hu hn iq hq
 by_cases KM:64<n
 ·have h1:(64:Int)<n:=by omega
  have HF:=ap (show q=false by rw[qQ.o,decide_eq_false (by omega)];simp)
  go_enter Tryz.func12,Tryz.ntmps12
  go_wp2;go_ret;rw[HF.o];exact⟨rfl,Below.refl _ _⟩
 have h1:¬(64:Int)<n:=by omega
 have iq:=qQ.o;rw[decide_eq_true (by omega),Bool.and_true] at iq;have qQ:=ap iq;clear iq
 go_enter Tryz.func12,Tryz.ntmps12
 go_wp2
 go_loopg [2,3,7,8,9,10,11,12,13,14,15,16,17,18,19,20,21,22,23,24,25,26,27,28,29,30,31,32,33,34,35,36,37,38,39,40,41,42,43,44,45,46,47] n (fun gk v2 v3 v7 v8 v9 v10 v11 v12 v13 v14 v15 v16 v17 v18 v19 v20 v21 v22 v23 v24 v25 v26 v27 v28 v29 v30 v31 v32 v33 v34 v35 v36 v37 v38 v39 v40 v41 v42 v43 v44 v45 v46 v47 wr=>∃(j:Nat) (seen:List L),v3=.int .i64 (j:Int)∧gk=n-j∧j≤n∧(∀u,u∈seen↔u∈(l.take j).map (·.pre))∧Opm.iB [] l=Opm.iB seen (l.drop j)∧Below w.heap.size w wr)
 case atStart=>exact⟨0,[],rfl,rfl,by omega,fun u=>by simp,rfl,Below.refl _ _⟩
 case round=>
  obtain⟨j,seen,rfl,au,hj,dI,heq,hb⟩:=hrel;have dQ:=ap au;have oc:=ap dI;have hstep:=Opm.ahI l j seen dI;have HEq:=ap heq;have HB:=ap hb;clear au dI heq hb
  by_cases hlt:j<n
  ·have cm:(j:Int)<n:=by omega
   have cC:j<l.length:=by rw[Hn.o];exact hlt
   have hg:l[j]?=some l[j]:=List.getElem?_eq_getElem cC;obtain⟨dJ,bG⟩:=HU.o l[j] (List.getElem_mem cC);have hA:=(HR.o.mo cC);obtain⟨⟨u,t⟩,hx⟩:∃x,l[j]=x:=⟨_,rfl⟩;rw[hg] at hstep;rw[hx] at hA hstep dJ bG;dsimp only at hstep dJ bG;obtain⟨b,off,rfl,eZ,x0,x1⟩:=hA;have iR:(0:Int)≤j∧(j:Int)<n:=by omega
   have hjc:(j:Int)≤n∧(j:Int)≤c:=by omega
   have eU:=ap (fun W (h:Below w.heap.size w W)=>(h.cell eZ).trans x0);have gv:=ap (fun W (h:Below w.heap.size w W)=>(h.cell eZ).trans x1);have PS:=ap (fun W=>HL.o u W (by omega));have qz:=ap (fun W=>HL.o t W (by omega));have sB:=ap (fun W (h:Below w.heap.size w W)=>Uh (l.take j) (some ⟨b,off,none⟩) c w.heap.size u W ((HR.o.below h).adC (by rw[Hn.o];omega)) (by rw[List.length_take];omega));have hF:Opm.CD ⟨u,t⟩ (l.take j)=false→q=false:=fun h=>by rw[qQ.o,HEq.o,hstep,h,Bool.false_and]
   have hT:Opm.CD ⟨u,t⟩ (l.take j)=true→Opm.iB [] l=Opm.iB (u :: seen) (l.drop (j+1)):=fun h=>by rw[HEq.o,hstep,h,Bool.true_and]
   have Ua:∀z,z∈u :: seen↔z∈(l.take (j+1)).map (·.pre):=fun z=>by
    rw[List.take_add_one,hg,hx,List.map_append,List.mem_append,List.mem_cons,oc.o];simp[or_comm]
   obtain⟨q3,BQ⟩:∃q3,decide (u∈(l.take j).map (·.pre))=q3:=⟨_,rfl⟩;obtain⟨q1,tY⟩:∃q1,Tx.jA u=q1:=⟨_,rfl⟩;obtain⟨q2,nK⟩:∃q2,Tx.jA t=q2:=⟨_,rfl⟩;unfold Opm.CD at hF hT;have Fm:(l.take j).length=j:=by rw[List.length_take];omega
   simp only[tY] at PS hF hT;simp only[nK] at qz hF hT;simp only[BQ] at sB hF hT;simp only[Fm] at sB;have HT:=ap hT;have zE:=ap hF;have uV:=ap Ua;clear hstep hg hx hF hT Ua tY nK BQ Fm x0 x1
   by_cases jM:u=[]
   ·subst jM;have e1:=vF [];have HF:=ap (zE.o (by simp));go_wp2;refine wp_region_held_drew (S:=fun W=>Below w.heap.size w W) (by kernel_rfl) (below_drewN HB.o 1) (fun hHeld=>?_);change wpAnyH _ _ _ _ _ 35 #[false,false,false,false,false,false,false,false,false,false,false,false,false,false,false,false,false,false,false,false,false,false,false,false,false,false,false,false,false,false,false,false,false,false,false] _ _;iterate 7 (refine aJ (v:=?_) rfl rfl hHeld ?_ ?_;rotate_left;(· (intro W hSw;have q0:=eU.o W hSw;have q1:=gv.o W hSw;go_simp;try with_reducible rfl));(try simp only[nx,List.set]))
    iterate 7 (refine mM rfl rfl hHeld ?_;(try simp only[nx,List.set]))
    iterate 2 (refine aJ (v:=?_) rfl rfl hHeld ?_ ?_;rotate_left;(· (intro W hSw;have q0:=eU.o W hSw;have q1:=gv.o W hSw;go_simp;try with_reducible rfl));(try simp only[nx,List.set]))
    iterate 7 (refine mM rfl rfl hHeld ?_;(try simp only[nx,List.set]))
    iterate 2 (refine aJ (v:=?_) rfl rfl hHeld ?_ ?_;rotate_left;(· (intro W hSw;have q0:=eU.o W hSw;have q1:=gv.o W hSw;go_simp;try with_reducible rfl));(try simp only[nx,List.set]))
    iterate 9 (refine mM rfl rfl hHeld ?_;(try simp only[nx,List.set]))
    (refine aJ (v:=?_) rfl rfl hHeld ?_ ?_;rotate_left;(· (intro W hSw;have q0:=eU.o W hSw;have q1:=gv.o W hSw;go_simp;try with_reducible rfl));(try simp only[nx,List.set]));refine wpAnyH_done (by kernel_rfl) ?_ _;have HH:=ap hHeld;clear hHeld;go_wp2;go_ret;rw[HF.o];exact⟨rfl,HH.o⟩
   have e1:=td jM;have kA:decide (u≠[])=true:=decide_eq_true jM;rw[kA,Bool.true_and] at zE HT;clear jM kA;go_wp2;refine wp_region_held_drew (S:=fun W=>Below w.heap.size w W) (by kernel_rfl) (below_drewN HB.o 1) (fun hHeld=>?_);change wpAnyH _ _ _ _ _ 35 #[false,false,false,false,false,false,false,false,false,false,false,false,false,false,false,false,false,false,false,false,false,false,false,false,false,false,false,false,false,false,false,false,false,false,false] _ _;iterate 7 (refine aJ (v:=?_) rfl rfl hHeld ?_ ?_;rotate_left;(· (intro W hSw;have q0:=eU.o W hSw;have q1:=gv.o W hSw;go_simp;try with_reducible rfl));(try simp only[nx,List.set]))
   iterate 5 (refine aJ (v:=?_) rfl rfl hHeld ?_ ?_;rotate_left;(· (intro W hSw;have q0:=eU.o W hSw;have q1:=gv.o W hSw;go_simp;try with_reducible rfl));(try simp only[nx,List.set]))
   refine fU (i:=12) rfl (by kernel_rfl) (by kernel_rfl) (fun K hK=>?_);go_simp;refine (PS.o _).mono ?_;rintro e W2 ⟨rfl,af⟩;(try dsimp only);refine hK.out _ _ ?_ (fun aL=>?_)
   ·exact hHeld.trans (af.mono hHeld.size)
   clear hK K hHeld af;have hHeld:=aL;clear aL;(try simp only[Act.put,List.setIfInBounds_toArray,List.set_cons_zero,List.set_cons_succ])
   cases q1 with
   | false=>
    have HF:=ap (zE.o rfl);(refine aJ (v:=?_) rfl rfl hHeld ?_ ?_;rotate_left;(· (intro W hSw;have q0:=eU.o W hSw;have q1:=gv.o W hSw;go_simp;try with_reducible rfl));(try simp only[nx,List.set]));iterate 2 (refine aJ (v:=?_) rfl rfl hHeld ?_ ?_;rotate_left;(· (intro W hSw;have q0:=eU.o W hSw;have q1:=gv.o W hSw;go_simp;try with_reducible rfl));(try simp only[nx,List.set]))
    iterate 7 (refine mM rfl rfl hHeld ?_;(try simp only[nx,List.set]))
    iterate 2 (refine aJ (v:=?_) rfl rfl hHeld ?_ ?_;rotate_left;(· (intro W hSw;have q0:=eU.o W hSw;have q1:=gv.o W hSw;go_simp;try with_reducible rfl));(try simp only[nx,List.set]))
    iterate 9 (refine mM rfl rfl hHeld ?_;(try simp only[nx,List.set]))
    (refine aJ (v:=?_) rfl rfl hHeld ?_ ?_;rotate_left;(· (intro W hSw;have q0:=eU.o W hSw;have q1:=gv.o W hSw;go_simp;try with_reducible rfl));(try simp only[nx,List.set]));refine wpAnyH_done (by kernel_rfl) ?_ _;have HH:=ap hHeld;clear hHeld;go_wp2;go_ret;rw[HF.o];exact⟨rfl,HH.o⟩
   | true=>
    (refine aJ (v:=?_) rfl rfl hHeld ?_ ?_;rotate_left;(· (intro W hSw;have q0:=eU.o W hSw;have q1:=gv.o W hSw;go_simp;try with_reducible rfl));(try simp only[nx,List.set]));iterate 2 (refine aJ (v:=?_) rfl rfl hHeld ?_ ?_;rotate_left;(· (intro W hSw;have q0:=eU.o W hSw;have q1:=gv.o W hSw;go_simp;try with_reducible rfl));(try simp only[nx,List.set]))
    iterate 5 (refine aJ (v:=?_) rfl rfl hHeld ?_ ?_;rotate_left;(· (intro W hSw;have q0:=eU.o W hSw;have q1:=gv.o W hSw;go_simp;try with_reducible rfl));(try simp only[nx,List.set]))
    refine fU (i:=21) rfl (by kernel_rfl) (by kernel_rfl) (fun K hK=>?_);go_simp;refine (qz.o _).mono ?_;rintro e W2 ⟨rfl,af⟩;(try dsimp only);refine hK.out _ _ ?_ (fun aL=>?_)
    ·exact hHeld.trans (af.mono hHeld.size)
    clear hK K hHeld af;have hHeld:=aL;clear aL;(try simp only[Act.put,List.setIfInBounds_toArray,List.set_cons_zero,List.set_cons_succ])
    cases q2 with
    | false=>
     have HF:=ap (zE.o rfl);(refine aJ (v:=?_) rfl rfl hHeld ?_ ?_;rotate_left;(· (intro W hSw;have q0:=eU.o W hSw;have q1:=gv.o W hSw;go_simp;try with_reducible rfl));(try simp only[nx,List.set]));iterate 2 (refine aJ (v:=?_) rfl rfl hHeld ?_ ?_;rotate_left;(· (intro W hSw;have q0:=eU.o W hSw;have q1:=gv.o W hSw;go_simp;try with_reducible rfl));(try simp only[nx,List.set]))
     iterate 9 (refine mM rfl rfl hHeld ?_;(try simp only[nx,List.set]))
     (refine aJ (v:=?_) rfl rfl hHeld ?_ ?_;rotate_left;(· (intro W hSw;have q0:=eU.o W hSw;have q1:=gv.o W hSw;go_simp;try with_reducible rfl));(try simp only[nx,List.set]));refine wpAnyH_done (by kernel_rfl) ?_ _;have HH:=ap hHeld;clear hHeld;go_wp2;go_ret;rw[HF.o];exact⟨rfl,HH.o⟩
    | true=>
     (refine aJ (v:=?_) rfl rfl hHeld ?_ ?_;rotate_left;(· (intro W hSw;have q0:=eU.o W hSw;have q1:=gv.o W hSw;go_simp;try with_reducible rfl));(try simp only[nx,List.set]));iterate 2 (refine aJ (v:=?_) rfl rfl hHeld ?_ ?_;rotate_left;(· (intro W hSw;have q0:=eU.o W hSw;have q1:=gv.o W hSw;go_simp;try with_reducible rfl));(try simp only[nx,List.set]))
     iterate 8 (refine aJ (v:=?_) rfl rfl hHeld ?_ ?_;rotate_left;(· (intro W hSw;have q0:=eU.o W hSw;have q1:=gv.o W hSw;go_simp;try with_reducible rfl));(try simp only[nx,List.set]))
     refine fU (i:=33) rfl (by kernel_rfl) (by kernel_rfl) (fun K hK=>?_);go_simp;refine (sB.o _ hHeld).mono ?_;rintro e W2 ⟨rfl,hw2⟩;subst W2;(try dsimp only);refine hK.out _ _ hHeld (fun aL=>?_);clear hK K aL;(try simp only[Act.put,List.setIfInBounds_toArray,List.set_cons_zero,List.set_cons_succ])
     cases q3 with
     | true=>
      have HF:=ap (zE.o rfl);(refine aJ (v:=?_) rfl rfl hHeld ?_ ?_;rotate_left;(· (intro W hSw;have q0:=eU.o W hSw;have q1:=gv.o W hSw;go_simp;try with_reducible rfl));(try simp only[nx,List.set]));refine wpAnyH_done (by kernel_rfl) ?_ _;have HH:=ap hHeld;clear hHeld;go_wp2;go_ret;rw[HF.o];exact⟨rfl,HH.o⟩
     | false=>
      have bc:=ap (HT.o rfl);(refine aJ (v:=?_) rfl rfl hHeld ?_ ?_;rotate_left;(· (intro W hSw;have q0:=eU.o W hSw;have q1:=gv.o W hSw;go_simp;try with_reducible rfl));(try simp only[nx,List.set]));refine wpAnyH_done (by kernel_rfl) ?_ _;have HH:=ap hHeld;clear hHeld;go_wp2
      go_roundg (n-(j+1))
      case measure=>have:=dQ.o;omega
      case rel=>exact⟨j+1,_,by first|rfl|go_num,rfl,by omega,uV.o,bc.o,HH.o⟩
  have cm:¬(j:Int)<n:=by omega
  have eD:j=n:=by omega
  have HF:=ap (show q=true by
   rw[qQ.o,HEq.o,hstep,List.getElem?_eq_none (by rw[Hn.o];omega)])
  clear eD hstep;go_wp2;go_ret;rw[HF.o];exact⟨rfl,HB.o⟩
end
section
open Go.RowKit Tk Sx Go.WideShapes

theorem XR(l:List aB)(A:Option Addr)(c:Nat)(w:World)(hR:Reads w w.heap.size 2 A l.length (aM l))(hu:∀x∈l,x.pre.length≤300∧x.ns.length≤300)(hl:l.length≤70)(hc:l.length≤c) :
  Calls Tryz.prog 8 #[.slice A l.length c] w fun e w'=>e=.returned (if Opm.may l=true then .tuple #[.string (aa (Opm.text l)),.int .i64 0] else .tuple #[.string ⟨#[]⟩,.int .i64 2])∧Below w.heap.size w w':=by
 have qB:=ap (Re l A c w hR (fun y hy=>by have:=hu y hy;omega) (by omega) hc);obtain⟨n,hn⟩:∃n,l.length=n:=⟨_,rfl⟩;have HR:=ap hR;have HN:=ap hn;have aas:=ap (fun (x:aB) W (hx:x∈l)=>abF x W (hu x hx).1 (hu x hx).2);have HU:=ap hu;rw[hn] at qB hl ⊢;clear hR hu hc hn
 cases iq:Opm.may l with
 | false=>
  rw[iq] at qB;rw[if_neg (by simp)];clear iq
  go_enter Tryz.func8,Tryz.ntmps8
  go_wp2_with fail
  refine qB.o.mono ?_;rintro e w1 ⟨rfl,b1⟩;go_wp2;go_ret2;exact⟨rfl,b1⟩
 | true=>
  rw[iq] at qB;rw[if_pos rfl];clear iq
  go_enter Tryz.func8,Tryz.ntmps8
  go_wp2_with fail
  refine qB.o.mono ?_;rintro e w1 ⟨rfl,b1⟩;have B1:=ap b1;clear b1 qB;go_wp2
  go_loopg [4,5,9,10,11,12,13,14,15,16,17,18,19,20,21] n (fun gk v4 v5 v9 v10 v11 v12 v13 v14 v15 v16 v17 v18 v19 v20 v21 wr=>∃(j:Nat) (p:L),gk=n-j∧j≤n∧v5=.int .i64 (j:Int)∧v4=.string (aa p)∧p++((l.drop j).flatMap Opm.one++Opm.c4)=Opm.text l∧p.length≤1000+4000*j∧Below w.heap.size w wr)
  case atStart=>exact⟨0,Opm.c0,rfl,Nat.zero_le _,rfl,rfl,by rw[List.drop_zero,Opm.text,List.append_assoc],by decide,B1.o⟩
  case round=>
   obtain⟨j,p,au,hj,rfl,rfl,hp,hpl,hB⟩:=hrel;have dQ:=ap au;have HB:=ap hB;have HP:=ap hp;have DU:=ap hpl;clear au hB hp hpl
   by_cases hlt:j<n
   ·have fX:(j:Int)<n:=by omega
    have cC:j<l.length:=by rw[HN.o];exact hlt
    have hj0:(0:Int)≤j∧(j:Int)<n:=by omega
    obtain⟨x,hx⟩:∃x,l[j]=x:=⟨_,rfl⟩;have dV:x∈l:=by rw[←hx];exact List.getElem_mem cC
    have HO:=ap (fun W=>aas.o x W dV);have oR:=HU.o x dV;have h1:=Tx.tj true x.ns;have h2:=Tx.tj true x.pre
    have h3:(Opm.one x).length=28+(Tx.escape true x.ns).length+(Tx.escape true x.pre).length:=by
     unfold Opm.one;simp only[List.length_append];rw[show Opm.c1.length=15 from rfl,show Opm.c2.length=10 from rfl,show Opm.c3.length=3 from rfl];omega
    have hpl:=DU.o
    have jf:=ap (show (p++Opm.one x)++((l.drop (j+1)).flatMap Opm.one++Opm.c4)=Opm.text l by
     rw[←HP.o,List.drop_eq_getElem_cons cC,hx,List.flatMap_cons]
     simp)
    have abd:=ap (show (p++Opm.one x).length≤1000+4000*(j+1) by rw[List.length_append];omega);obtain⟨bb,off,rfl,-,x0,x1⟩:=(HR.o.below HB.o).mo cC;rw[hx] at x0 x1;have z1:IntKind.i64.wrap ((j:Int)+1)=((j+1:Nat):Int):=by rw[IntWalk.i64_in _ (by omega)];omega
    have s1:¬9223372036854775807<(aa p).size+(aa (Opm.one x)).size:=by rw[aO,aO];omega
    have e1:aa p++aa (Opm.one x)=aa (p++Opm.one x):=vB _ _;clear hx dV oR h1 h2 h3 hpl cC
    go_wp2_with fail
    refine (HO.o _).mono ?_;rintro e w3 ⟨rfl,b3⟩;have aw:=ap (HB.o.trans (b3.mono HB.o.size));clear b3;go_wp2
    go_roundg (n-(j+1))
    case measure=>have:=dQ.o;omega
    case rel=>exact⟨j+1,p++Opm.one x,rfl,by omega,by first|rfl|go_num,rfl,jf.o,abd.o,aw.o⟩
   obtain rfl:j=n:=by omega
   have fX:¬(j:Int)<j:=by omega
   have hp:p++Opm.c4=Opm.text l:=by
    have:=HP.o;rwa[List.drop_of_length_le (by rw[HN.o];exact Nat.le_refl _),List.flatMap_nil,List.nil_append] at this
   have hpl:=DU.o;have s1:¬9223372036854775807<(aa p).size+(⟨#[60,47,98,111,100,121,62,60,47,111,112,109,108,62]⟩:ByteArray).size:=by rw[aO];show ¬_<_+14;omega
   have e1:aa p++(⟨#[60,47,98,111,100,121,62,60,47,111,112,109,108,62]⟩:ByteArray)=aa (Opm.text l):=by rw[←hp,←vB];rfl
   clear hp hpl hlt;go_wp2;go_ret2;exact⟨rfl,HB.o⟩
end
section
open Go.RowKit Rec Tk Sx Go.WideShapes

namespace Opm
def tv(x:Sb):List aB:=if Tx.jA x.u.data.toList=true then [⟨x.u.data.toList,[]⟩] else []
def fG(l:List Sb):List aB:=l.flatMap tv
theorem SQ{l:List Sb}{k:Nat}(h:k<l.length):fG (l.take (k+1))=fG (l.take k)++tv l[k]:=by unfold fG;rw[List.take_succ_eq_append_getElem h,List.flatMap_append];simp
theorem Km:∀l:List Sb,(fG l).length≤l.length
 | []=>Nat.le_refl _
 | x :: l=>by
  have h:(tv x).length≤1:=by unfold tv;split<;>simp
  have h2:=Km l;have h3:fG (x :: l)=tv x++fG l:=rfl;rw[h3,List.length_append,List.length_cons];omega
theorem Ww{l:List Sb}(h:mayS l=true):l.length≤8∧(∀x∈l,x.u.size≤64)∧∀y∈fG l,y.pre.length≤64∧y.ns.length≤64:=by
 unfold mayS at h;simp only[Bool.and_eq_true,decide_eq_true_eq] at h
 have hu:∀x∈l,x.u.size≤64:=fun x hx=>by
  obtain⟨j,hj,rfl⟩:=List.getElem_of_mem hx;have:=Up.of h.1 hj;unfold okS gX at this;simp only[Bool.and_eq_true,decide_eq_true_eq] at this;exact this.1.2
 refine⟨h.2,hu,fun y hy=>?_⟩;obtain⟨x,hx,hy⟩:=List.mem_flatMap.1 hy;unfold tv at hy
 split at hy
 ·obtain rfl:=List.mem_singleton.1 hy;exact⟨by show x.u.data.toList.length≤64;rw[Array.length_toList];exact hu x hx,Nat.zero_le _⟩
 cases hy
noncomputable def exV (l:List Sb):Value:=if mayS l=true then (if may (fG l)=true then .tuple #[.string (aa (text (fG l))),.int .i64 0] else .tuple #[.string ⟨#[]⟩,.int .i64 2]) else .tuple #[.string ⟨#[]⟩,.int .i64 2]
end Opm
theorem ahy(A:Option Addr)(c:Nat)(l:List Sb)(w:World)(hL:ot w w.heap.size A l)(hs:xH l) :
  Calls Tryz.prog 9 #[.agg #[.slice A l.length c]] w fun e w'=>e=.returned (Opm.exV l)∧Below w.heap.size w w':=by
 have HM:=ap fun W hb=>ahz A c l W (hL.below hb) hs;have HV:=ap (show Opm.exV l=if mayS l=true then _ else _ from rfl);have HL:=ap hL;have mZ:=ap (fun h=>Opm.Ww (l:=l) h);obtain⟨m,hm⟩:∃m,mayS l=m:=⟨_,rfl⟩;rw[hm] at HM HV mZ;obtain⟨n,hn⟩:∃n,l.length=n:=⟨_,rfl⟩;rw[hn] at HM mZ ⊢;have Hn:=ap hn;have cu:=ap (ay w (.cells #[.slice A n c] 25));have ia:=ap (ae.new w 25 #[.slice A n c]);clear hL hs hm hn
 go_enter Tryz.func9,Tryz.ntmps9
 go_wp2_with fail
 refine (HM.o _ cu.o).mono ?_;rintro e w1 ⟨rfl,hb⟩;have ax:=ap (cu.o.trans (hb.mono cu.o.size));have gl:=ap (ia.o.below hb ia.o.lt);have q0:=gl.o.cell 0;clear hb ia cu HM
 cases m with
 | false=>
  go_wp2;go_ret2;rw[HV.o];exact⟨rfl,ax.o⟩
 | true=>
  rw[if_pos rfl] at HV;obtain⟨Fw,hu,hy⟩:=mZ.o rfl;have HU:=ap hu;have HY:=ap hy;clear hu hy mZ;go_wp2
  go_loopg [4,6,13,14,15,16,17,18,19,20,21,22,23,24,25,26] n (fun g v4 v6 v13 v14 v15 v16 v17 v18 v19 v20 v21 v22 v23 v24 v25 v26 wr=>∃(k p:Nat) (A2:Option Addr) (c2:Nat),g=n-k∧k≤n∧v13=.int .i64 (k:Int)∧v4=.slice A2 p c2∧(Opm.fG (l.take k)).length=p∧wr.ownsRow (w.heap.size+1) 37 2 (.slice A2 p c2) p (aM (Opm.fG (l.take k)))∧Below w.heap.size w wr∧ae wr w.heap.size 25 #[.slice A n c])
  case atStart=>exact⟨0,0,none,0,rfl,Nat.zero_le _,rfl,rfl,rfl,World.ownsRow_nil _ _ _ _,ax.o,gl.o⟩
  case round=>
   obtain⟨k,p,A2,c2,hg,js,rfl,rfl,hp,ah,hB,hK⟩:=hrel;have Hg:=ap hg;have Hp:=ap hp;have bI:=ap ah;have HB:=ap hB;have HK:=ap hK;have k0:=hK.cell 0;have L8:p≤8:=by have:=Opm.Km (l.take k);rw[hp,List.length_take] at this;omega
   clear hg hp ah hB hK ax gl q0
   by_cases hlt:k<n
   ·have h1:k<l.length:=by rw[Hn.o];exact hlt
    obtain⟨b,off,rfl,hb,x0,x1⟩:=(HL.o.a.below HB.o).sb h1;have aX:=Opm.SQ h1;have oR:=HU.o _ (List.getElem_mem h1);have j1:(0:Int)≤(k:Int)∧(k:Int)<(n:Int):=by omega
    obtain⟨x,ex⟩:∃x,l[k]=x:=⟨_,rfl⟩;rw[ex] at x0 x1 aX oR;unfold Opm.tv at aX;have HI:=ap (fun W=>show Calls Tryz.prog 24 #[.string x.u] W _ from VT x.u.data.toList W (by rw[Array.length_toList];exact Nat.le_trans oR (by omega)));obtain⟨q,hq⟩:∃q,Tx.jA x.u.data.toList=q:=⟨_,rfl⟩;rw[hq] at HI aX;have aQ:=ap aX;clear aX hq ex oR h1;have pD:=ap (ae.new wr 41 #[.string x.u,.slice x.A x.ks.length x.c]);have mU:=ap (ay wr (.cells #[.string x.u,.slice x.A x.ks.length x.c] 41));have QT:=ap (bI.o.alloc (.cells #[.string x.u,.slice x.A x.ks.length x.c] 41));have mW:=ap (HK.o.alloc (.cells #[.string x.u,.slice x.A x.ks.length x.c] 41))
    go_wp2_with fail
    refine (HI.o _).mono ?_;rintro e w2 ⟨rfl,af⟩;have z0:=(pD.o.below af pD.o.lt).cell 0;have ag:=ap (HB.o.trans ((mU.o.trans (af.mono mU.o.size)).mono HB.o.size));have bm:=ap (mW.o.below af mW.o.lt);have qU:=ap (uq QT.o af);clear af pD mU QT mW HI k0 x0 x1
    cases q with
    | false=>
     rw[if_neg (by decide),List.append_nil] at aQ;go_wp2
     go_roundg (n-(k+1))
     case measure=>have:=Hg.o;omega
     case rel=>exact⟨k+1,p,A2,c2,rfl,by omega,by first|rfl|go_num,rfl,by rw[aQ.o];exact Hp.o,by rw[aQ.o];exact qU.o,ag.o,bm.o⟩
    | true=>
     rw[if_pos rfl] at aQ;have hbase:w.heap.size+1≤(w2.alloc (.cells #[.string x.u,.string ⟨#[]⟩] 37)).heap.size:=by have:=bm.o.lt;simp;omega
     go_wp2_with (at_builtin;go_loud (refine et w2 (cs:=[.string x.u,.string ⟨#[]⟩]) rfl (.tmp 20) (.tmp 24) 22 rfl (w.heap.size+1) (.agg #[.string ⟨#[]⟩,.string ⟨#[]⟩]) 2 32 Tryz.underlying22 Ch rfl (by omega) (.slice A2 p c2) p (aM (Opm.fG (l.take k))) rfl qU.o rfl (by simp[Value.oneCell']) rfl (by unfold maxLen;omega) (by omega) bm.o.lt ?_);intro g cap jc jw kC kE Fq vW;have qD:=ap jw;have jY:=ap kC;clear jw kC)
     have aw:=ap (ag.o.grown jY.o ag.o.size (fun j e=>by have:=(aD qU.o j e).1;omega));have br:=ap (ae.grown bm.o jY.o (bR qU.o bm.o (by decide)).symm)
     go_roundg (n-(k+1))
     case measure=>have:=Hg.o;omega
     case rel=>exact⟨k+1,p+1,some ⟨g,0,none⟩,cap,rfl,by omega,by first|rfl|go_num,rfl,by rw[aQ.o,List.length_append,Hp.o];rfl,by rw[aQ.o,show aM (Opm.fG (l.take k)++[⟨x.u.data.toList,[]⟩])=aM (Opm.fG (l.take k))++[.string x.u,.string ⟨#[]⟩] by simp[aM,jH];exact⟨rfl,rfl⟩];exact qD.o,aw.o,br.o⟩
   obtain rfl:k=n:=by omega
   rw[show l.take k=l from List.take_of_length_le (by rw[Hn.o];exact Nat.le_refl _)] at Hp bI;have HW:=ap (JM (Opm.fG l) A2 c2 wr (by rw[Hp.o];exact Reads.cY bI.o) (fun y hy=>by have:=HY.o y hy;omega) (by rw[Hp.o];omega));rw[Hp.o] at HW;obtain⟨q,hq⟩:∃q,Opm.may (Opm.fG l)=q:=⟨_,rfl⟩;rw[hq] at HW HV;clear hq Hp bI HY HU;cases q
   all_goals
    go_wp2_with fail
    refine HW.o.mono ?_;rintro e w2 ⟨rfl,af⟩;have ag:=ap (HB.o.trans (af.mono HB.o.size));clear af HW;simp only[if_true,reduceCtorEq,if_false] at HV ⊢;go_wp2;go_ret2;rw[HV.o];exact⟨rfl,ag.o⟩
theorem ajE(A:Option Addr)(c:Nat)(l:List Sb)(w:World)(hL:ot w w.heap.size A l)(hs:xH l) :
  Calls Tryz.prog 10 #[.agg #[.slice A l.length c]] w fun e w'=>e=.returned (Opm.exV l)∧Below w.heap.size w w':=by
 have HM:=ap fun W hb=>ajG A c l W (hL.below hb) hs;have HV:=ap (show Opm.exV l=if mayS l=true then _ else _ from rfl);have HL:=ap hL;have mZ:=ap (fun h=>Opm.Ww (l:=l) h);obtain⟨m,hm⟩:∃m,mayS l=m:=⟨_,rfl⟩;rw[hm] at HM HV mZ;obtain⟨n,hn⟩:∃n,l.length=n:=⟨_,rfl⟩;rw[hn] at HM mZ ⊢;have Hn:=ap hn;have cu:=ap (ay w (.cells #[.slice A n c] 25));have ia:=ap (ae.new w 25 #[.slice A n c]);clear hL hs hm hn
 go_enter Tryz.func10,Tryz.ntmps10
 go_wp2_with fail
 refine (HM.o _ cu.o).mono ?_;rintro e w1 ⟨rfl,hb⟩;have ax:=ap (cu.o.trans (hb.mono cu.o.size));have gl:=ap (ia.o.below hb ia.o.lt);have q0:=gl.o.cell 0;clear hb ia cu HM
 cases m with
 | false=>
  go_wp2;go_ret2;rw[HV.o];exact⟨rfl,ax.o⟩
 | true=>
  rw[if_pos rfl] at HV;obtain⟨Fw,hu,hy⟩:=mZ.o rfl;have HU:=ap hu;have HY:=ap hy;clear hu hy mZ;go_wp2
  go_loopg [4,5,9,10,11,12,13,14,15,16,17,18,19,20,21,22,23,24,25,26,27,28,29,30,31,32] n (fun g v4 v5 v9 v10 v11 v12 v13 v14 v15 v16 v17 v18 v19 v20 v21 v22 v23 v24 v25 v26 v27 v28 v29 v30 v31 v32 wr=>∃(k p:Nat) (A2:Option Addr) (c2:Nat),g=n-k∧k≤n∧v5=.int .i64 (k:Int)∧v4=.slice A2 p c2∧(Opm.fG (l.take k)).length=p∧wr.ownsRow (w.heap.size+1) 37 2 (.slice A2 p c2) p (aM (Opm.fG (l.take k)))∧Below w.heap.size w wr∧ae wr w.heap.size 25 #[.slice A n c])
  case atStart=>exact⟨0,0,none,0,rfl,Nat.zero_le _,rfl,rfl,rfl,World.ownsRow_nil _ _ _ _,ax.o,gl.o⟩
  case round=>
   obtain⟨k,p,A2,c2,hg,js,rfl,rfl,hp,ah,hB,hK⟩:=hrel;have Hg:=ap hg;have Hp:=ap hp;have bI:=ap ah;have HB:=ap hB;have HK:=ap hK;have k0:=hK.cell 0;have L8:p≤8:=by have:=Opm.Km (l.take k);rw[hp,List.length_take] at this;omega
   clear hg hp ah hB hK ax gl q0
   by_cases hlt:k<n
   ·have h1:k<l.length:=by rw[Hn.o];exact hlt
    obtain⟨b,off,rfl,hb,x0,x1⟩:=(HL.o.a.below HB.o).sb h1;have aX:=Opm.SQ h1;have oR:=HU.o _ (List.getElem_mem h1);have j1:(0:Int)≤(k:Int)∧(k:Int)<(n:Int):=by omega
    obtain⟨x,ex⟩:∃x,l[k]=x:=⟨_,rfl⟩;rw[ex] at x0 x1 aX oR;unfold Opm.tv at aX;have HI:=ap (fun W=>show Calls Tryz.prog 26 #[.string x.u] W _ from XL x.u.data.toList W (by rw[Array.length_toList];exact Nat.le_trans oR (by omega)));obtain⟨q,hq⟩:∃q,Tx.jA x.u.data.toList=q:=⟨_,rfl⟩;rw[hq] at HI aX;have aQ:=ap aX;clear aX hq ex oR h1
    go_wp2_with fail
    refine (HI.o _).mono ?_;rintro e w2 ⟨rfl,af⟩;have z0:=ox af x0;have z1:=ox af k0;have ag:=ap (HB.o.trans (af.mono HB.o.size));have bm:=ap (HK.o.below af HK.o.lt);have qU:=ap (uq bI.o af);clear af HI k0 x0 x1
    cases q with
    | false=>
     rw[if_neg (by decide),List.append_nil] at aQ;go_wp2
     go_roundg (n-(k+1))
     case measure=>have:=Hg.o;omega
     case rel=>exact⟨k+1,p,A2,c2,rfl,by omega,by first|rfl|go_num,rfl,by rw[aQ.o];exact Hp.o,by rw[aQ.o];exact qU.o,ag.o,bm.o⟩
    | true=>
     rw[if_pos rfl] at aQ;have hbase:w.heap.size+1≤(w2.alloc (.cells #[.string x.u,.string ⟨#[]⟩] 37)).heap.size:=by have:=bm.o.lt;simp;omega
     go_wp2_with (at_builtin;go_loud (refine et w2 (cs:=[.string x.u,.string ⟨#[]⟩]) rfl (.tmp 23) (.tmp 31) 22 rfl (w.heap.size+1) (.agg #[.string ⟨#[]⟩,.string ⟨#[]⟩]) 2 32 Tryz.underlying22 Ch rfl (by omega) (.slice A2 p c2) p (aM (Opm.fG (l.take k))) rfl qU.o rfl (by simp[Value.oneCell']) rfl (by unfold maxLen;omega) (by omega) bm.o.lt ?_);intro g cap jc jw kC kE Fq vW;have qD:=ap jw;have jY:=ap kC;clear jw kC)
     have aw:=ap (ag.o.grown jY.o ag.o.size (fun j e=>by have:=(aD qU.o j e).1;omega));have br:=ap (ae.grown bm.o jY.o (bR qU.o bm.o (by decide)).symm)
     go_roundg (n-(k+1))
     case measure=>have:=Hg.o;omega
     case rel=>exact⟨k+1,p+1,some ⟨g,0,none⟩,cap,rfl,by omega,by first|rfl|go_num,rfl,by rw[aQ.o,List.length_append,Hp.o];rfl,by rw[aQ.o,show aM (Opm.fG (l.take k)++[⟨x.u.data.toList,[]⟩])=aM (Opm.fG (l.take k))++[.string x.u,.string ⟨#[]⟩] by simp[aM,jH];exact⟨rfl,rfl⟩];exact qD.o,aw.o,br.o⟩
   obtain rfl:k=n:=by omega
   rw[show l.take k=l from List.take_of_length_le (by rw[Hn.o];exact Nat.le_refl _)] at Hp bI;have HW:=ap (XR (Opm.fG l) A2 c2 wr (by rw[Hp.o];exact Reads.cY bI.o) (fun y hy=>by have:=HY.o y hy;omega) (by rw[Hp.o];omega) (by rw[Hp.o];exact Xf bI.o));rw[Hp.o] at HW;obtain⟨q,hq⟩:∃q,Opm.may (Opm.fG l)=q:=⟨_,rfl⟩;rw[hq] at HW HV;clear hq Hp bI HY HU;cases q
   all_goals
    go_wp2_with fail
    refine HW.o.mono ?_;rintro e w2 ⟨rfl,af⟩;have ag:=ap (HB.o.trans (af.mono HB.o.size));clear af HW;simp only[if_true,reduceCtorEq,if_false] at HV ⊢;go_wp2;go_ret2;rw[HV.o];exact⟨rfl,ag.o⟩
end
section
open Go.RowKit Tk Sx Go.WideShapes

theorem ajH(la lb:List aB)(A B:Option Addr)(ca cb:Nat)(w:World)(hA:Reads w w.heap.size 2 A la.length (aM la))(hB:Reads w w.heap.size 2 B lb.length (aM lb))(cn:la.length≤1000)(fc:lb.length≤1000) :
  Calls Tryz.prog 15 #[.slice A la.length ca,.slice B lb.length cb] w fun e w'=>∃A' c',e=.returned (.slice A' (Opm.gh la lb).length c')∧w'.ownsRow w.heap.size 37 2 (.slice A' (Opm.gh la lb).length c') (Opm.gh la lb).length (aM (Opm.gh la lb))∧Below w.heap.size w w':=by
 have HM:=ap (show Opm.gh la lb=Opm.eG [] (la++lb) by unfold Opm.gh Opm.eG;rw[List.foldl_append]);obtain⟨na,dh⟩:∃n,la.length=n:=⟨_,rfl⟩;obtain⟨nb,dU⟩:∃n,lb.length=n:=⟨_,rfl⟩;have HA:=ap hA;have HB:=ap hB;have eK:=ap dh;have sQ:=ap dU;rw[dh] at cn ⊢;rw[dU] at fc ⊢;clear hA hB dh dU;have ha:IntKind.i64.wrap ((na:Int)+nb)=((na+nb:Nat):Int):=by rw[IntWalk.i64_in _ (by omega)];omega
 go_enter Tryz.func15,Tryz.ntmps15
 go_wp2
 go_loopg [5,6,7,8,9,10,11,12,13,14,15,16,17,18,19,20,21,22,23,24,25,26,27,28,29,30,31,32,33,34,35,36,37,38,39,40,41] (na+nb) (fun g v5 v6 v7 v8 v9 v10 v11 v12 v13 v14 v15 v16 v17 v18 v19 v20 v21 v22 v23 v24 v25 v26 v27 v28 v29 v30 v31 v32 v33 v34 v35 v36 v37 v38 v39 v40 v41 wr=>∃(i p:Nat) (Ao:Option Addr) (co:Nat),g=na+nb-i∧i≤na+nb∧v6=.int .i64 (i:Int)∧v5=.slice Ao p co∧(Opm.eG [] ((la++lb).take i)).length=p∧wr.ownsRow w.heap.size 37 2 (.slice Ao p co) p (aM (Opm.eG [] ((la++lb).take i)))∧Below w.heap.size w wr)
 case atStart=>exact⟨0,0,none,0,rfl,Nat.zero_le _,rfl,rfl,rfl,World.ownsRow_nil _ _ _ _,Below.refl _ _⟩
 case round=>
  obtain⟨i,p,Ao,co,hg,bB,rfl,rfl,hp,ah,hb⟩:=hrel;have Hg:=ap hg;have Hp:=ap hp;have bI:=ap ah;have kS:=ap hb;have jK:p≤2000:=by have:=Opm.yV ((la++lb).take i) [];rw[hp,List.length_take] at this;simp at this;omega
  clear hg hp ah hb
  by_cases hlt:i<na+nb
  ·have fX:(i:Int)<((na+nb:Nat):Int):=by omega
   have pU:i<(la++lb).length:=by rw[List.length_append,eK.o,sQ.o];exact hlt
   have dI:=Opm.WD [] ((la++lb).take i) (la++lb)[i];rw[show (la++lb).take i++[(la++lb)[i]]=(la++lb).take (i+1) by rw[List.take_add_one,List.getElem?_eq_getElem pU];rfl] at dI;obtain⟨acc,gz⟩:∃acc,Opm.eG [] ((la++lb).take i)=acc:=⟨_,rfl⟩;rw[gz] at Hp bI dI;obtain⟨⟨u,t⟩,hx⟩:∃x,(la++lb)[i]=x:=⟨_,rfl⟩;rw[hx] at dI;have ie:=ap dI
   have HH:=ap (fun (W:World) (hb:Below wr.heap.size wr W)=>by
    have h:=Uh acc Ao co W.heap.size u W (by rw[Hp.o];exact ((Reads.cY bI.o).below hb).more hb.size) (by rw[Hp.o];omega);rw[Hp.o] at h;exact h)
   have HK:=ap (ae.new wr 37 #[.string (aa u),.string (aa t)]);have Im:=ap (ay wr (.cells #[.string (aa u),.string (aa t)] 37));have IZ:=ap (bI.o.alloc (.cells #[.string (aa u),.string (aa t)] 37));have fI:=kS.o.size;obtain⟨q,hq⟩:∃q,decide (u∈acc.map (·.pre))=q:=⟨_,rfl⟩;rw[hq] at HH;have Hq:=ap hq;have z0:=HK.o.cell 0;have z1:=HK.o.cell 1;clear dI gz hq
   by_cases LK:i<na
   case' pos=>
    have cm:(i:Int)<na:=by omega
    have hj:i<la.length:=by rw[eK.o];exact LK
    rw[List.getElem_append_left hj] at hx;obtain⟨b,off,rfl,eZ,x0,x1⟩:=(HA.o.below kS.o).mo hj;rw[hx] at x0 x1;have iR:(0:Int)≤i∧(i:Int)<na:=by omega
    have y0:=((ay wr (.cells #[.string ⟨#[]⟩,.string ⟨#[]⟩] 37)).cell (p:=⟨b,off+i*2,none⟩) (show b<_ from Nat.lt_of_lt_of_le eZ fI)).trans x0;have y1:=((ay wr (.cells #[.string ⟨#[]⟩,.string ⟨#[]⟩] 37)).cell (p:=⟨b,off+i*2+1,none⟩) (show b<_ from Nat.lt_of_lt_of_le eZ fI)).trans x1
   case' neg=>
    have cm:¬(i:Int)<na:=by omega
    have hj:i-na<lb.length:=by rw[sQ.o];omega
    rw[List.getElem_append_right (by rw[eK.o];omega)] at hx;simp only[eK.o] at hx;obtain⟨b,off,rfl,eZ,x0,x1⟩:=(HB.o.below kS.o).mo hj;rw[hx] at x0 x1;have hjw:IntKind.i64.wrap ((i:Int)-na)=(i:Int)-na:=IntWalk.i64_in _ (by omega);have iR:(0:Int)≤(i:Int)-na∧(i:Int)-na<nb:=by omega
    have hjt:((i:Int)-na).toNat=i-na:=by omega
    have cC:(na:Int)≤i:=by omega
    have y0:=((ay wr (.cells #[.string ⟨#[]⟩,.string ⟨#[]⟩] 37)).cell (p:=⟨b,off+(i-na)*2,none⟩) (show b<_ from Nat.lt_of_lt_of_le eZ fI)).trans x0;have y1:=((ay wr (.cells #[.string ⟨#[]⟩,.string ⟨#[]⟩] 37)).cell (p:=⟨b,off+(i-na)*2+1,none⟩) (show b<_ from Nat.lt_of_lt_of_le eZ fI)).trans x1
   all_goals
    go_wp2_with fail
    refine cq (HH.o _ Im.o) ?_;have ag:=ap (kS.o.trans (Im.o.mono fI));clear x0 x1 y0 y1 iR HH kS hx hj eZ Im HK;generalize wr.alloc (.cells #[.string (aa u),.string (aa t)] 37)=W3 at *
    cases q with
    | true=>
     rw[show Opm.lq acc ⟨u,t⟩=acc by simp only[Opm.lq];rw[if_pos (of_decide_eq_true Hq.o)]] at ie;go_wp2
     go_roundg (na+nb-(i+1))
     case measure=>have:=Hg.o;omega
     case rel=>exact⟨i+1,p,Ao,co,rfl,by omega,by first|rfl|go_num,rfl,by rw[ie.o];exact Hp.o,by rw[ie.o];exact IZ.o,ag.o⟩
    | false=>
     rw[show Opm.lq acc ⟨u,t⟩=acc++[⟨u,t⟩] by simp only[Opm.lq];rw[if_neg (of_decide_eq_false Hq.o)]] at ie
     go_wp2_with (at_builtin;go_loud (refine et _ (cs:=[.string (aa u),.string (aa t)]) rfl (.tmp 38) (.tmp 40) 22 rfl w.heap.size (.agg #[.string ⟨#[]⟩,.string ⟨#[]⟩]) 2 32 Tryz.underlying22 Ch rfl (by omega) (.slice Ao p co) p (aM acc) rfl IZ.o rfl (by simp[Value.oneCell']) rfl (by unfold maxLen;omega) (by omega) ag.o.size ?_);intro g cap jc jw kC kE Fq vW;have qD:=ap jw;have jY:=ap kC;clear jw kC)
     have aw:=ap (ag.o.grown jY.o ag.o.size (fun j e=>by have:=(aD IZ.o j e).1;omega))
     go_roundg (na+nb-(i+1))
     case measure=>have:=Hg.o;omega
     case rel=>exact⟨i+1,p+1,some ⟨g,0,none⟩,cap,rfl,by omega,by first|rfl|go_num,rfl,by rw[ie.o,List.length_append,Hp.o];rfl,by rw[ie.o,show aM (acc++[⟨u,t⟩])=aM acc++[.string (aa u),.string (aa t)] by simp[aM,jH]];exact qD.o,aw.o⟩
  have fX:¬(i:Int)<((na+nb:Nat):Int):=by omega
  have hF:Opm.eG [] ((la++lb).take i)=Opm.gh la lb:=by rw[HM.o,List.take_of_length_le (by rw[List.length_append,eK.o,sQ.o];omega)]
  rw[hF] at Hp bI;clear hF;go_wp2;go_ret;rw[Hp.o];exact⟨Ao,co,rfl,bI.o,kS.o⟩
end
end Go.Proofs.YtpdkeckeekchlaaGreatDoor
