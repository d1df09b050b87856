/- opml: the document's May. And more. -/
import Derived.Test.YtnbmfljhbpfilaaGreatDoorOw32
import Derived.Test.YtnbmfljhbpfilaaGreatDoorOw35
import Derived.Test.YtnbmfljhbpfilaaGreatDoorOw36
import Derived.Test.YtnbmfljhbpfilaaGreatDoorOw38
import Derived.Test.YtnbmfljhbpfilaaGreatDoorOw41
set_option linter.unusedSimpArgs false
set_option maxRecDepth 100000
set_option maxHeartbeats 32000000
set_option linter.unusedVariables false
namespace Go.Proofs.YtnbmfljhbpfilaaGreatDoor
section
open Go.RowKit Tk Sx Go.WideShapes

namespace Opm
def BQ(x:ax)(ahead:List ax):Bool:=decide (x.pre≠[])&&(Tx.gI x.pre&&(Tx.gI x.ns && !decide (x.pre∈ahead.map (·.pre))))
theorem ahi(l:List ax):∀(k:Nat) (seen:List L),(∀u,u∈seen↔u∈(l.take k).map (·.pre))→gh seen (l.drop k)=match l[k]? with
  | some x=>BQ x (l.take k)&&gh (x.pre :: seen) (l.drop (k+1))
  | none=>true:=by
 intro k seen hs
 cases h:l[k]? with
 | none=>
  rw[List.drop_of_length_le (List.getElem?_eq_none_iff.1 h)];rfl
 | some x=>
  obtain⟨h1,h2⟩:=List.getElem?_eq_some_iff.1 h;rw[List.drop_eq_getElem_cons h1,h2,gh];unfold BQ;simp only[hs,Bool.and_assoc]
end Opm
theorem Reads.adl{w:World}{B:Nat}{A:Option Addr}{l:List ax}(h:Reads w B 2 A l.length (bP l)){j:Nat}(hj:j≤l.length):Reads w B 2 A (l.take j).length (bP (l.take j)):=by
 have hd:bP l=bP (l.take j)++bP (l.drop j):=by unfold bP;rw[←List.flatMap_append,List.take_append_drop]
 refine⟨by rw[acR],fun hn=>?_⟩;obtain⟨b,off,e,hb,hc⟩:=h.2 (by rw[List.length_take] at hn;omega);refine⟨b,off,e,hb,fun i u hu=>hc i u ?_⟩;rw[hd,List.getElem?_append_left (List.getElem?_eq_some_iff.1 hu).1];exact hu
theorem abb(l:List ax)(A:Option Addr)(c:Nat)(w:World)(hR:Reads w w.heap.size 2 A l.length (bP l))(hu:∀x∈l,x.pre.length≤100000∧x.ns.length≤100000)(hl:l.length≤1000000)(hc:l.length≤c) :
  Calls Tryz.prog 5 #[.slice A l.length c] w fun e w'=>e=.returned (.bool (Opm.may l))∧Below w.heap.size w w':=by
 obtain⟨n,hn⟩:∃n,l.length=n:=⟨_,rfl⟩;have HR:=hide hR;have HU:=hide hu;have Hn:=hide hn;have HL:=hide (fun (t:L) (W:World) (ht:t.length≤200000)=>ajt t W ht);have fZ:Opm.may l=(Opm.gh [] l&&decide (n≤64)):=by unfold Opm.may;rw[hn]
 obtain⟨q,hq⟩:∃q,Opm.may l=q:=⟨_,rfl⟩;rw[hq] at fZ ⊢;have qh:=hide fZ;rw[hn] at hl hc ⊢;clear hR hu hn fZ hq
 by_cases J5:64<n
 ·have h1:(64:Int)<n:=by omega
  have HF:=hide (show q=false by rw[qh.out,decide_eq_false (by omega)];simp)
  go_enter Tryz.func5,Tryz.ntmps5
  go_wp2;go_ret;rw[HF.out];exact⟨rfl,Below.refl _ _⟩
 have h1:¬(64:Int)<n:=by omega
 have fZ:=qh.out;rw[decide_eq_true (by omega),Bool.and_true] at fZ;have qh:=hide fZ;clear fZ
 go_enter Tryz.func5,Tryz.ntmps5
 go_wp2
 go_loopg [2,3,7,8,9,10,11,12,13,14,15,16,17,18,19,20,21,22,23,24,25,26,27,28,29,30,31,32,33,34,35,36,37,38,39,40,41,42,43,44,45,46,47] n (fun gk v2 v3 v7 v8 v9 v10 v11 v12 v13 v14 v15 v16 v17 v18 v19 v20 v21 v22 v23 v24 v25 v26 v27 v28 v29 v30 v31 v32 v33 v34 v35 v36 v37 v38 v39 v40 v41 v42 v43 v44 v45 v46 v47 wr=>∃(j:Nat) (seen:List L),v3=.int .i64 (j:Int)∧gk=n-j∧j≤n∧(∀u,u∈seen↔u∈(l.take j).map (·.pre))∧Opm.gh [] l=Opm.gh seen (l.drop j)∧Below w.heap.size w wr)
 case atStart=>exact⟨0,[],rfl,rfl,by omega,fun u=>by simp,rfl,Below.refl _ _⟩
 case round=>
  obtain⟨j,seen,rfl,au,hj,x5,heq,hb⟩:=hrel;have dF:=hide au;have rY:=hide x5;have hstep:=Opm.ahi l j seen x5;have HEq:=hide heq;have HB:=hide hb;clear au x5 heq hb
  by_cases hlt:j<n
  ·have cE:(j:Int)<n:=by omega
   have fy:j<l.length:=by rw[Hn.out];exact hlt
   have hg:l[j]?=some l[j]:=List.getElem?_eq_getElem fy;obtain⟨dJ,bh⟩:=HU.out l[j] (List.getElem_mem fy);have hA:=(HR.out.o5 fy);obtain⟨⟨u,t⟩,hx⟩:∃x,l[j]=x:=⟨_,rfl⟩;rw[hg] at hstep;rw[hx] at hA hstep dJ bh;dsimp only at hstep dJ bh;obtain⟨b,off,rfl,jC,x0,x1⟩:=hA;have od:(0:Int)≤j∧(j:Int)<n:=by omega
   have Lc:(j:Int)≤n∧(j:Int)≤c:=by omega
   have eO:=hide (fun W (h:Below w.heap.size w W)=>(h.cell jC).trans x0);have fR:=hide (fun W (h:Below w.heap.size w W)=>(h.cell jC).trans x1);have Pw:=hide (fun W=>HL.out u W (by omega));have Pu:=hide (fun W=>HL.out t W (by omega));have rP:=hide (fun W (h:Below w.heap.size w W)=>aeU (l.take j) (some ⟨b,off,none⟩) c w.heap.size u W ((HR.out.below h).adl (by rw[Hn.out];omega)) (by rw[List.length_take];omega));have hF:Opm.BQ ⟨u,t⟩ (l.take j)=false→q=false:=fun h=>by rw[qh.out,HEq.out,hstep,h,Bool.false_and]
   have hT:Opm.BQ ⟨u,t⟩ (l.take j)=true→Opm.gh [] l=Opm.gh (u :: seen) (l.drop (j+1)):=fun h=>by rw[HEq.out,hstep,h,Bool.true_and]
   have TC:∀z,z∈u :: seen↔z∈(l.take (j+1)).map (·.pre):=fun z=>by
    rw[List.take_add_one,hg,hx,List.map_append,List.mem_append,List.mem_cons,rY.out];simp[or_comm]
   obtain⟨q3,Bi⟩:∃q3,decide (u∈(l.take j).map (·.pre))=q3:=⟨_,rfl⟩;obtain⟨q1,td⟩:∃q1,Tx.gI u=q1:=⟨_,rfl⟩;obtain⟨q2,oh⟩:∃q2,Tx.gI t=q2:=⟨_,rfl⟩;unfold Opm.BQ at hF hT;have Ut:(l.take j).length=j:=by rw[List.length_take];omega
   simp only[td] at Pw hF hT;simp only[oh] at Pu hF hT;simp only[Bi] at rP hF hT;simp only[Ut] at rP;have HT:=hide hT;have yZ:=hide hF;have uo:=hide TC;clear hstep hg hx hF hT TC td oh Bi Ut x0 x1
   by_cases jI:u=[]
   ·subst jI;have e1:=uJ [];have HF:=hide (yZ.out (by simp));go_wp2;refine wp_region_held_drew (S:=fun W=>Below w.heap.size w W) (by kernel_rfl) (below_drewN HB.out 1) (fun hHeld=>?_);change wpAnyH _ _ _ _ _ 35 #[false,false,false,false,false,false,false,false,false,false,false,false,false,false,false,false,false,false,false,false,false,false,false,false,false,false,false,false,false,false,false,false,false,false,false] _ _;iterate 7 (refine aY (v:=?_) rfl rfl hHeld ?_ ?_;rotate_left;(· (intro W hSw;have q0:=eO.out W hSw;have q1:=fR.out W hSw;go_simp;try with_reducible rfl));(try simp only[nx,List.set]))
    iterate 7 (refine vT rfl rfl hHeld ?_;(try simp only[nx,List.set]))
    iterate 2 (refine aY (v:=?_) rfl rfl hHeld ?_ ?_;rotate_left;(· (intro W hSw;have q0:=eO.out W hSw;have q1:=fR.out W hSw;go_simp;try with_reducible rfl));(try simp only[nx,List.set]))
    iterate 7 (refine vT rfl rfl hHeld ?_;(try simp only[nx,List.set]))
    iterate 2 (refine aY (v:=?_) rfl rfl hHeld ?_ ?_;rotate_left;(· (intro W hSw;have q0:=eO.out W hSw;have q1:=fR.out W hSw;go_simp;try with_reducible rfl));(try simp only[nx,List.set]))
    iterate 9 (refine vT rfl rfl hHeld ?_;(try simp only[nx,List.set]))
    (refine aY (v:=?_) rfl rfl hHeld ?_ ?_;rotate_left;(· (intro W hSw;have q0:=eO.out W hSw;have q1:=fR.out W hSw;go_simp;try with_reducible rfl));(try simp only[nx,List.set]));refine wpAnyH_done (by kernel_rfl) ?_ _;have HH:=hide hHeld;clear hHeld;go_wp2;go_ret;rw[HF.out];exact⟨rfl,HH.out⟩
   have e1:=sx jI;have ke:decide (u≠[])=true:=decide_eq_true jI;rw[ke,Bool.true_and] at yZ HT;clear jI ke;go_wp2;refine wp_region_held_drew (S:=fun W=>Below w.heap.size w W) (by kernel_rfl) (below_drewN HB.out 1) (fun hHeld=>?_);change wpAnyH _ _ _ _ _ 35 #[false,false,false,false,false,false,false,false,false,false,false,false,false,false,false,false,false,false,false,false,false,false,false,false,false,false,false,false,false,false,false,false,false,false,false] _ _;iterate 7 (refine aY (v:=?_) rfl rfl hHeld ?_ ?_;rotate_left;(· (intro W hSw;have q0:=eO.out W hSw;have q1:=fR.out W hSw;go_simp;try with_reducible rfl));(try simp only[nx,List.set]))
   iterate 5 (refine aY (v:=?_) rfl rfl hHeld ?_ ?_;rotate_left;(· (intro W hSw;have q0:=eO.out W hSw;have q1:=fR.out W hSw;go_simp;try with_reducible rfl));(try simp only[nx,List.set]))
   refine jg (i:=12) rfl (by kernel_rfl) (by kernel_rfl) (fun K hK=>?_);go_simp;refine (Pw.out _).mono ?_;rintro e W2 ⟨rfl,af⟩;(try dsimp only);refine hK.out _ _ ?_ (fun aV=>?_)
   ·exact hHeld.trans (af.mono hHeld.size)
   clear hK K hHeld af;have hHeld:=aV;clear aV;(try simp only[Act.put,List.setIfInBounds_toArray,List.set_cons_zero,List.set_cons_succ])
   cases q1 with
   | false=>
    have HF:=hide (yZ.out rfl);(refine aY (v:=?_) rfl rfl hHeld ?_ ?_;rotate_left;(· (intro W hSw;have q0:=eO.out W hSw;have q1:=fR.out W hSw;go_simp;try with_reducible rfl));(try simp only[nx,List.set]));iterate 2 (refine aY (v:=?_) rfl rfl hHeld ?_ ?_;rotate_left;(· (intro W hSw;have q0:=eO.out W hSw;have q1:=fR.out W hSw;go_simp;try with_reducible rfl));(try simp only[nx,List.set]))
    iterate 7 (refine vT rfl rfl hHeld ?_;(try simp only[nx,List.set]))
    iterate 2 (refine aY (v:=?_) rfl rfl hHeld ?_ ?_;rotate_left;(· (intro W hSw;have q0:=eO.out W hSw;have q1:=fR.out W hSw;go_simp;try with_reducible rfl));(try simp only[nx,List.set]))
    iterate 9 (refine vT rfl rfl hHeld ?_;(try simp only[nx,List.set]))
    (refine aY (v:=?_) rfl rfl hHeld ?_ ?_;rotate_left;(· (intro W hSw;have q0:=eO.out W hSw;have q1:=fR.out W hSw;go_simp;try with_reducible rfl));(try simp only[nx,List.set]));refine wpAnyH_done (by kernel_rfl) ?_ _;have HH:=hide hHeld;clear hHeld;go_wp2;go_ret;rw[HF.out];exact⟨rfl,HH.out⟩
   | true=>
    (refine aY (v:=?_) rfl rfl hHeld ?_ ?_;rotate_left;(· (intro W hSw;have q0:=eO.out W hSw;have q1:=fR.out W hSw;go_simp;try with_reducible rfl));(try simp only[nx,List.set]));iterate 2 (refine aY (v:=?_) rfl rfl hHeld ?_ ?_;rotate_left;(· (intro W hSw;have q0:=eO.out W hSw;have q1:=fR.out W hSw;go_simp;try with_reducible rfl));(try simp only[nx,List.set]))
    iterate 5 (refine aY (v:=?_) rfl rfl hHeld ?_ ?_;rotate_left;(· (intro W hSw;have q0:=eO.out W hSw;have q1:=fR.out W hSw;go_simp;try with_reducible rfl));(try simp only[nx,List.set]))
    refine jg (i:=21) rfl (by kernel_rfl) (by kernel_rfl) (fun K hK=>?_);go_simp;refine (Pu.out _).mono ?_;rintro e W2 ⟨rfl,af⟩;(try dsimp only);refine hK.out _ _ ?_ (fun aV=>?_)
    ·exact hHeld.trans (af.mono hHeld.size)
    clear hK K hHeld af;have hHeld:=aV;clear aV;(try simp only[Act.put,List.setIfInBounds_toArray,List.set_cons_zero,List.set_cons_succ])
    cases q2 with
    | false=>
     have HF:=hide (yZ.out rfl);(refine aY (v:=?_) rfl rfl hHeld ?_ ?_;rotate_left;(· (intro W hSw;have q0:=eO.out W hSw;have q1:=fR.out W hSw;go_simp;try with_reducible rfl));(try simp only[nx,List.set]));iterate 2 (refine aY (v:=?_) rfl rfl hHeld ?_ ?_;rotate_left;(· (intro W hSw;have q0:=eO.out W hSw;have q1:=fR.out W hSw;go_simp;try with_reducible rfl));(try simp only[nx,List.set]))
     iterate 9 (refine vT rfl rfl hHeld ?_;(try simp only[nx,List.set]))
     (refine aY (v:=?_) rfl rfl hHeld ?_ ?_;rotate_left;(· (intro W hSw;have q0:=eO.out W hSw;have q1:=fR.out W hSw;go_simp;try with_reducible rfl));(try simp only[nx,List.set]));refine wpAnyH_done (by kernel_rfl) ?_ _;have HH:=hide hHeld;clear hHeld;go_wp2;go_ret;rw[HF.out];exact⟨rfl,HH.out⟩
    | true=>
     (refine aY (v:=?_) rfl rfl hHeld ?_ ?_;rotate_left;(· (intro W hSw;have q0:=eO.out W hSw;have q1:=fR.out W hSw;go_simp;try with_reducible rfl));(try simp only[nx,List.set]));iterate 2 (refine aY (v:=?_) rfl rfl hHeld ?_ ?_;rotate_left;(· (intro W hSw;have q0:=eO.out W hSw;have q1:=fR.out W hSw;go_simp;try with_reducible rfl));(try simp only[nx,List.set]))
     iterate 8 (refine aY (v:=?_) rfl rfl hHeld ?_ ?_;rotate_left;(· (intro W hSw;have q0:=eO.out W hSw;have q1:=fR.out W hSw;go_simp;try with_reducible rfl));(try simp only[nx,List.set]))
     refine jg (i:=33) rfl (by kernel_rfl) (by kernel_rfl) (fun K hK=>?_);go_simp;refine (rP.out _ hHeld).mono ?_;rintro e W2 ⟨rfl,hw2⟩;subst W2;(try dsimp only);refine hK.out _ _ hHeld (fun aV=>?_);clear hK K aV;(try simp only[Act.put,List.setIfInBounds_toArray,List.set_cons_zero,List.set_cons_succ])
     cases q3 with
     | true=>
      have HF:=hide (yZ.out rfl);(refine aY (v:=?_) rfl rfl hHeld ?_ ?_;rotate_left;(· (intro W hSw;have q0:=eO.out W hSw;have q1:=fR.out W hSw;go_simp;try with_reducible rfl));(try simp only[nx,List.set]));refine wpAnyH_done (by kernel_rfl) ?_ _;have HH:=hide hHeld;clear hHeld;go_wp2;go_ret;rw[HF.out];exact⟨rfl,HH.out⟩
     | false=>
      have a8:=hide (HT.out rfl);(refine aY (v:=?_) rfl rfl hHeld ?_ ?_;rotate_left;(· (intro W hSw;have q0:=eO.out W hSw;have q1:=fR.out W hSw;go_simp;try with_reducible rfl));(try simp only[nx,List.set]));refine wpAnyH_done (by kernel_rfl) ?_ _;have HH:=hide hHeld;clear hHeld;go_wp2
      go_roundg (n-(j+1))
      case measure=>have:=dF.out;omega
      case rel=>exact⟨j+1,_,by first|rfl|go_num,rfl,by omega,uo.out,a8.out,HH.out⟩
  have cE:¬(j:Int)<n:=by omega
  have fx:j=n:=by omega
  have HF:=hide (show q=true by
   rw[qh.out,HEq.out,hstep,List.getElem?_eq_none (by rw[Hn.out];omega)])
  clear fx hstep;go_wp2;go_ret;rw[HF.out];exact⟨rfl,HB.out⟩
end
section
open Go.RowKit Tk Sx Go.WideShapes

theorem agW(l:List ax)(A:Option Addr)(c:Nat)(kf kt kd:Int)(w:World)(hg:Gl w)(ia:6≤w.heap.size)(hR:Reads w w.heap.size 2 A l.length (bP l))(hc:l.length≤c∧c≤maxLen) :
  Calls Tryz.prog 3 #[.slice A l.length c,.int .i64 kf,.int .i64 kt,.int .i64 kd] w fun e w'=>e=.returned (.bool true)∧Below w.heap.size w w':=by
 have Ih:=hide (fun W (hb:Below w.heap.size w W)=>amK W (hg.below hb) (Nat.le_trans ia hb.size));have HG:=hide (Zp l A c w.heap.size w hR (Nat.le_trans hc.1 hc.2))
 cases hgr:Opm.great l with
 | true=>
  rw[hgr] at HG;clear hg ia hR hc hgr
  go_enter Tryz.func3,Tryz.ntmps3
  go_wp2_with fail
  refine cq HG.out ?_
  go_wp2_with fail
  refine (Ih.out _ (Below.refl _ _)).mono ?_;rintro e w2 ⟨rfl,b2⟩;go_wp2;go_ret;exact⟨rfl,b2⟩
 | false=>
  rw[hgr] at HG;obtain⟨hl,hu⟩:=Opm.aer hgr;have bh:∀x∈l,x.pre.length≤100000∧x.ns.length≤100000:=fun y hy=>by have:=hu y hy;omega
  have pR:=hide (abb l A c w hR bh (by omega) hc.1)
  cases fZ:Opm.may l with
  | false=>
   rw[fZ] at pR;clear hg ia hR hc hgr hl hu bh fZ;generalize l.length=n at *
   go_enter Tryz.func3,Tryz.ntmps3
   go_wp2_with fail
   refine cq HG.out ?_
   go_wp2_with fail
   refine pR.out.mono ?_;rintro e w2 ⟨rfl,b2⟩;have B2:=hide b2;clear b2
   go_wp2_with fail
   refine (Ih.out _ B2.out).mono ?_;rintro e w3 ⟨rfl,b3⟩;have B3:=hide (B2.out.trans (b3.mono B2.out.size));clear b3;go_wp2;go_ret;exact⟨rfl,B3.out⟩
  | true=>
   rw[fZ] at pR;obtain⟨bF,EO⟩:=Opm.ahj fZ hu;have Ia:=hide (fun W (hb:Below w.heap.size w W) B cb (hB:Reads W W.heap.size 2 B l.length (bP l))=>abq l l A B c cb _ _ W (hR.below hb) hB (by omega));simp only[decide_true] at Ia;obtain⟨n,hn⟩:∃n,l.length=n:=⟨_,rfl⟩;obtain⟨N1,hN1⟩:∃k,n+1=k:=⟨_,rfl⟩;obtain⟨m1,fA,a1,b1,f,hf,ly⟩:=Mq kf (n:=N1) (by omega);obtain⟨m2,er,a2,b2,t,ht,mn⟩:=Mq kt (n:=N1) (by omega);obtain⟨m3,AZ,a3,b3,d,hd,c7⟩:=Mq kd (n:=10) (by omega);rw[show ((10:Nat):Int)=10 from rfl] at AZ hd a3 b3;obtain⟨T,hT⟩:∃k,f+t=k:=⟨_,rfl⟩;rw[hn] at hl EO;have q0:IntKind.i64.wrap ((n:Int)+1)=(N1:Int):=by rw[IntWalk.i64_in _ (by omega)];omega
   have q1:IntKind.i64.wrap (m1+(N1:Int))=m1+(N1:Int):=IntWalk.i64_in _ (by omega);have q2:IntKind.i64.wrap (m2+(N1:Int))=m2+(N1:Int):=IntWalk.i64_in _ (by omega);have q3:IntKind.i64.wrap ((f:Int)+(t:Int))=(T:Int):=by rw[IntWalk.i64_in _ (by omega)];omega
   have q4:IntKind.i64.wrap (m3+10)=m3+10:=IntWalk.i64_in _ (by omega);have q5:¬N1=0:=by omega
   obtain⟨wv,b,jo,x4,hlen⟩:=Opm.agX (f:=f) (t:=T) (d:=d) (l:=l) (by omega) bF (by omega);obtain⟨hp,n8,jf,tj,qT⟩:=x4.text (by decide) hlen
   have um:=hide (fun W (hb:Below w.heap.size w W)=>Jb (Opm.gM wv) (Opm.eo b) W (hg.below hb) (Nat.le_trans ia hb.size) hlen jf hp n8 tj qT (x4.whole (by decide)).1 x4.few (by
    have h1:=x4.evs;have h2:wv.length≤(Opm.gM wv).length:=by simp only[Opm.gM,List.length_append];omega
    have h3:(Opm.eo b).length=b.length+12:=by simp[Opm.eo,Opm.j4,Opm.sA]
    omega))
   simp only[x4.read (by decide) fZ] at um;obtain⟨wk,x7⟩:∃p,Opm.gT f T (Opm.fj d) 0 l (Opm.wH,Opm.eC d)=p:=⟨_,rfl⟩;rw[x7,hn] at jo;have HTx:=hide jo;obtain⟨T0,Ko⟩:∃T,aa (Opm.gM wv)=T:=⟨_,rfl⟩;simp only[Ko] at um;have dE:=hide Ko;have PQ:=hide x7;have fO:=hide bF;have HR:=hide hR;have HN:=hide hn;have Z7:=hide (fun (x:ax) W (hx:x∈l)=>abi x W (hu x hx).1 (hu x hx).2);have nB:=hide (Opm.Dq d);have Hd:=hide (show d≤9 by omega);have aaL:=hide EO;clear hg ia hR hgr hu bh fZ hp n8 jf tj qT hlen x4 jo Ko x7 bF a1 b1 a2 b2 a3 b3 ly mn hN1 hT c7;rw[hn] at HG pR hc ⊢;simp only[hn] at Ia;clear hn
   go_enter Tryz.func3,Tryz.ntmps3
   go_wp2_with fail
   refine cq HG.out ?_
   go_wp2_with fail
   refine pR.out.mono ?_;rintro e w2 ⟨rfl,b2⟩;have B2:=hide b2;clear b2 pR HG;go_wp2
   go_loopg [11,12,13,48,49,50,51,52,53,54,55,56,57,58,59,60,61,62,63] d (fun gk v11 v12 v13 v48 v49 v50 v51 v52 v53 v54 v55 v56 v57 v58 v59 v60 v61 v62 v63 wr=>∃i:Nat,gk=d-i∧i≤d∧v13=.int .i64 (i:Int)∧v11=.string (aa (Opm.fj i))∧v12=.string (aa (Opm.eC i))∧wr=w2)
   case atStart=>exact⟨0,rfl,Nat.zero_le _,rfl,rfl,rfl,rfl⟩
   case round=>
    obtain⟨i,au,hi,rfl,rfl,rfl,hwr⟩:=hrel;subst hwr;have dF:=hide au;clear au
    by_cases hlt:i<d
    ·have fL:(i:Int)<d:=by omega
     have fW:=Opm.Dq i
     have Be:Int.tmod (i:Int) 2=0∨Int.tmod (i:Int) 2=1:=by
      rw[Int.tmod_eq_emod_of_nonneg (by omega)];omega
     have TU:=Hd.out;have z1:IntKind.i64.wrap ((i:Int)+1)=((i+1:Nat):Int):=by rw[IntWalk.i64_in _ (by omega)];omega
     have s1:¬9223372036854775807<(aa (Opm.fj i)).size+(⟨#[60,111,117,116,108,105,110,101,32,116,101,120,116,61,34,103,34,32,120,109,108,85,114,108,61,34,32,34,62]⟩:ByteArray).size:=by rw[aC];show ¬_<_+29;omega
     have s2:¬9223372036854775807<(⟨#[60,47,111,117,116,108,105,110,101,62,10]⟩:ByteArray).size+(aa (Opm.eC i)).size:=by rw[aC];show ¬_<11+_;omega
     have s3:¬9223372036854775807<(aa (Opm.fj i)).size+(⟨#[60,120,32,120,109,108,85,114,108,61,34,110,111,34,62,116]⟩:ByteArray).size:=by rw[aC];show ¬_<_+16;omega
     have s4:¬9223372036854775807<(⟨#[60,33,45,45,32,121,32,45,45,62,60,47,120,62]⟩:ByteArray).size+(aa (Opm.eC i)).size:=by rw[aC];show ¬_<14+_;omega
     rcases Be with Be|Be
     ·have fB:i % 2=0:=by rw[Int.tmod_eq_emod_of_nonneg (by omega)] at Be;omega
      have t1:aa (Opm.fj i)++(⟨#[60,111,117,116,108,105,110,101,32,116,101,120,116,61,34,103,34,32,120,109,108,85,114,108,61,34,32,34,62]⟩:ByteArray)=aa (Opm.fj (i+1)):=by rw[Opm.fj,if_pos fB,←jA];rfl
      have t2:(⟨#[60,47,111,117,116,108,105,110,101,62,10]⟩:ByteArray)++aa (Opm.eC i)=aa (Opm.eC (i+1)):=by rw[Opm.eC,if_pos fB,←jA];rfl
      clear fW TU fB;go_wp2
      go_roundg (d-(i+1))
      case measure=>have:=dF.out;omega
      case rel=>exact⟨i+1,rfl,by omega,by first|rfl|go_num,rfl,rfl,rfl⟩
     have fB:¬i % 2=0:=by rw[Int.tmod_eq_emod_of_nonneg (by omega)] at Be;omega
     have t1:aa (Opm.fj i)++(⟨#[60,120,32,120,109,108,85,114,108,61,34,110,111,34,62,116]⟩:ByteArray)=aa (Opm.fj (i+1)):=by rw[Opm.fj,if_neg fB,←jA];rfl
     have t2:(⟨#[60,33,45,45,32,121,32,45,45,62,60,47,120,62]⟩:ByteArray)++aa (Opm.eC i)=aa (Opm.eC (i+1)):=by rw[Opm.eC,if_neg fB,←jA];rfl
     clear fW TU fB;go_wp2
     go_roundg (d-(i+1))
     case measure=>have:=dF.out;omega
     case rel=>exact⟨i+1,rfl,by omega,by first|rfl|go_num,rfl,rfl,rfl⟩
    have hid:i=d:=by omega
    subst hid;have fL:¬(i:Int)<i:=by omega
    have Zt:=hide nB.out;clear hi hlt;obtain⟨a,ha⟩:∃a,Opm.fj i=a:=⟨_,rfl⟩;have OH:=hide (show a.length≤300 by rw[←ha];have:=nB.out.1;have:=Hd.out;omega);have bM:=hide (show (Opm.eC i).length≤300 by have:=nB.out.2;have:=Hd.out;omega);rw[ha] at PQ ⊢;clear ha Zt nB;go_wp2
    go_loopg [10,12,14,64,65,66,67,68,69,70,71,72,73,74,75,76,77,78,79,80,81,82,83,84,85,86,87,88,89,90,91,92,93,94,95] n (fun gk v10 v12 v14 v64 v65 v66 v67 v68 v69 v70 v71 v72 v73 v74 v75 v76 v77 v78 v79 v80 v81 v82 v83 v84 v85 v86 v87 v88 v89 v90 v91 v92 v93 v94 v95 wr=>∃(j:Nat) (p:L×L),gk=n-j∧j≤n∧v14=.int .i64 (j:Int)∧v10=.string (aa p.1)∧v12=.string (aa p.2)∧Opm.gT f T a j (l.drop j) p=wk∧p.1.length+p.2.length≤1000+4000*j∧Below w.heap.size w wr)
    case atStart=>exact⟨0,(Opm.wH,Opm.eC i),rfl,Nat.zero_le _,rfl,rfl,rfl,PQ.out,by have:=bM.out;show 75+(Opm.eC i).length≤1000;omega,B2.out⟩
    case round=>
     obtain⟨j,p,au,hj,rfl,rfl,rfl,hgo,hpl,hB⟩:=hrel;have dF:=hide au;have HB:=hide hB;have wR:=hide hgo;have zE:=hide hpl;clear au hB hgo hpl
     by_cases hlt:j<n
     ·have fL:(j:Int)<n:=by omega
      have fy:j<l.length:=by rw[HN.out];exact hlt
      have hj0:(0:Int)≤j∧(j:Int)<n:=by omega
      obtain⟨x,hx⟩:∃x,l[j]=x:=⟨_,rfl⟩;have eG:l[j]?=some x:=by rw[List.getElem?_eq_getElem fy,hx]
      have eF:=List.mem_of_getElem? eG;have HO:=hide (fun W=>Z7.out x W eF);have My:Opm.qq [x]:=fun y hy=>by rw[List.mem_singleton] at hy;rw[hy];exact fO.out x eF
      have hgo:=wR.out;rw[Opm.aeq eG] at hgo;have Bh:=Opm.ai3 (f:=f) (t:=T) (i:=j) (a:=a) My OH.out zE.out;have SW:=Opm.vP [x] My;rw[show Opm.fE [x]=Opm.ie x by simp[Opm.fE],List.length_singleton] at SW;have H7:=HR.out.below HB.out;obtain⟨bb,off,rfl,-,x0,x1⟩:=H7.o5 fy;rw[hx] at x0 x1;have z1:IntKind.i64.wrap ((j:Int)+1)=((j+1:Nat):Int):=by rw[IntWalk.i64_in _ (by omega)];omega
      have hpl:=zE.out;have hA3:=OH.out;have EO:=aaL.out;have pB:(Opm.ie x).length=(Opm.one x).length+1:=by rw[Opm.ie,List.length_append];rfl
      obtain⟨q,hq⟩:∃q,(if j=f then p.1++a else p.1)=q:=⟨_,rfl⟩;have hql:q.length≤p.1.length+a.length:=by rw[←hq];split<;>simp
      have s2:¬9223372036854775807<(aa q).size+(aa (Opm.one x)).size:=by rw[aC,aC];omega
      have s3:¬9223372036854775807<(aa (q++Opm.one x)).size+(⟨#[10]⟩:ByteArray).size:=by rw[aC,List.length_append];show ¬_<_+1;omega
      have s4:¬9223372036854775807<(aa (q++Opm.ie x)).size+(aa p.2).size:=by rw[aC,aC,List.length_append];omega
      have e2:aa q++aa (Opm.one x)=aa (q++Opm.one x):=jA _ _;have e3:aa (q++Opm.one x)++(⟨#[10]⟩:ByteArray)=aa (q++Opm.ie x):=by rw[Opm.ie,←List.append_assoc,←jA (q++Opm.one x)];rfl
      have e4:aa (q++Opm.ie x)++aa p.2=aa (q++(Opm.ie x++p.2)):=by rw[jA,List.append_assoc]
      have HRc:=hide H7
      have Lc:(j=f∧((j:Int)==(f:Int))=true∧aa p.1++aa a=aa q∧¬9223372036854775807<(aa p.1).size+(aa a).size)∨(¬j=f∧((j:Int)==(f:Int))=false∧aa p.1=aa q):=by
       by_cases h:j=f
       ·refine .inl ⟨h,by rw[h];exact beq_self_eq_true _,?_,by rw[aC,aC];omega⟩;rw[←hq,if_pos h,jA]
       refine .inr ⟨h,by rw[beq_eq_false_iff_ne];omega,?_⟩;rw[←hq,if_neg h]
      have hput:Opm.cF f T j a x p=if j+1=T∧f<T then (q++(Opm.ie x++p.2),[]) else (q++Opm.ie x,p.2):=by unfold Opm.cF;rw[hq,List.append_assoc]
      rw[hput] at hgo Bh;have xZ:(((j:Int)+1=(T:Int)∧f<T)∧j+1=T∧f<T)∨((¬(j:Int)+1=(T:Int)∨((j:Int)+1=(T:Int)∧¬f<T))∧¬(j+1=T∧f<T)):=by omega
      clear hput hx eG eF My SW hpl hA3 EO pB hql H7 fy;obtain⟨P1,Ki⟩:∃P,aa p.1=P:=⟨_,rfl⟩;obtain⟨Q1,Kk⟩:∃Q,aa q=Q:=⟨_,rfl⟩;rw[Ki,Kk] at Lc;rw[Kk] at s2 e2;rw[Ki];clear Ki Kk hq
      rcases xZ with ⟨⟨g1,g2⟩,hg⟩|⟨g1|⟨g1,g2⟩,hg⟩<;>rcases Lc with ⟨-,g3,e1,s1⟩|⟨-,g3,rfl⟩
      all_goals
       first|rw[if_pos hg] at hgo Bh|rw[if_neg hg] at hgo Bh
       clear hg;have wR:=hide hgo;have Qs:=hide Bh;clear hgo Bh
       go_wp2_with fail
       refine (HO.out _).mono ?_;rintro e w3 ⟨rfl,b3⟩;have aw:=hide (HB.out.trans (b3.mono HB.out.size));clear b3;go_wp2
       go_roundg (n-(j+1))
       case measure=>have:=dF.out;omega
       case rel=>first|exact⟨j+1,(q++(Opm.ie x++p.2),[]),rfl,by omega,by first|rfl|go_num,rfl,rfl,wR.out,Qs.out,aw.out⟩|exact⟨j+1,(q++Opm.ie x,p.2),rfl,by omega,by first|rfl|go_num,rfl,rfl,wR.out,Qs.out,aw.out⟩
     obtain rfl:j=n:=by omega
     have fL:¬(j:Int)<j:=by omega
     have EW:p=wk:=by
      have:=wR.out;rwa[List.drop_of_length_le (by rw[HN.out];exact Nat.le_refl _),Opm.gT] at this
     subst EW;have hpl:=zE.out;have jo:=HTx.out
     have vd:((f:Int)<j∧aa p.1++aa p.2=aa (p.1++p.2)∧aa (p.1++p.2)++(⟨#[60,47,98,111,100,121,62,60,98,111,100,121,62,60,111,117,116,108,105,110,101,32,120,109,108,85,114,108,61,34,110,111,34,47,62,60,47,98,111,100,121,62,60,47,111,112,109,108,62]⟩:ByteArray)=T0)∨(¬(f:Int)<j∧aa p.1++(⟨#[60,47,98,111,100,121,62,60,98,111,100,121,62,60,111,117,116,108,105,110,101,32,120,109,108,85,114,108,61,34,110,111,34,47,62,60,47,98,111,100,121,62,60,47,111,112,109,108,62]⟩:ByteArray)=T0):=by
      rw[←dE.out,←jo]
      by_cases h:f<j
      ·exact .inl ⟨by omega,jA _ _,by rw[if_pos h,←jA (p.1++p.2)];rfl⟩
      exact .inr ⟨by omega,by rw[if_neg h,←jA];rfl⟩
     have s1:¬9223372036854775807<(aa p.1).size+(aa p.2).size:=by rw[aC,aC];omega
     have s2:¬9223372036854775807<(aa (p.1++p.2)).size+(⟨#[60,47,98,111,100,121,62,60,98,111,100,121,62,60,111,117,116,108,105,110,101,32,120,109,108,85,114,108,61,34,110,111,34,47,62,60,47,98,111,100,121,62,60,47,111,112,109,108,62]⟩:ByteArray).size:=by rw[aC,List.length_append];show ¬_<_+49;omega
     have s3:¬9223372036854775807<(aa p.1).size+(⟨#[60,47,98,111,100,121,62,60,98,111,100,121,62,60,111,117,116,108,105,110,101,32,120,109,108,85,114,108,61,34,110,111,34,47,62,60,47,98,111,100,121,62,60,47,111,112,109,108,62]⟩:ByteArray).size:=by rw[aC];show ¬_<_+49;omega
     clear hpl jo hlt wR
     rcases vd with ⟨g1,e1,e2⟩|⟨g1,e2⟩
     all_goals
      go_wp2_with fail
      refine (um.out _ HB.out).mono ?_;rintro e w3 ⟨b3,B,cb,rfl,AG,hB⟩;have B3:=hide (HB.out.trans (b3.mono HB.out.size));rw[HN.out] at hB ⊢;have RB:=hide hB;clear b3 AG hB
      go_wp2_with fail
      refine (Ia.out _ B3.out B cb RB.out).mono ?_;rintro e w4 ⟨rfl,k,rfl⟩;have B4:=hide (below_drewN B3.out k)
      go_wp2_with fail
      refine (Ih.out _ B4.out).mono ?_;rintro e w5 ⟨rfl,b5⟩;have B5:=hide (B4.out.trans (b5.mono B4.out.size));clear b5;go_wp2;go_ret;exact⟨rfl,B5.out⟩
end
end Go.Proofs.YtnbmfljhbpfilaaGreatDoor
