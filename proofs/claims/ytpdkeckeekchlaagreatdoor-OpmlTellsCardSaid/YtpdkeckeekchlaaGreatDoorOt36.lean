/- model: whether a state may be. And more. -/
import Derived.Test.YtpdkeckeekchlaaGreatDoorOt35
set_option linter.unusedSimpArgs false
set_option maxRecDepth 100000
set_option maxHeartbeats 16000000
set_option linter.unusedVariables false
namespace Go.Proofs.YtpdkeckeekchlaaGreatDoor
section
open Go.RowKit Rec Tk Sx Go.WideShapes

theorem Wi(a:List UInt8):Op.bytesLess a a=false:=by
 have:=yJ a a
 cases h:Op.bytesLess a a
 ·rfl
 rw[h] at this;simp at this
theorem Gk:∀a b c:List UInt8,Op.bytesLess a b=true→Op.bytesLess b c=true→Op.bytesLess a c=true
 | _,[],_,h,_=>by rename_i a _;cases a<;>simp[Op.bytesLess] at h
 | [],_ :: _,[],_,h=>by simp[Op.bytesLess] at h
 | [],_ :: _,_ :: _,_,_=>rfl
 | _ :: _,_ :: _,[],_,h=>by simp[Op.bytesLess] at h
 | x :: a,y :: b,z :: c,h,h'=>by
  simp only[Op.bytesLess,Bool.or_eq_true,Bool.and_eq_true,decide_eq_true_eq,beq_iff_eq,UInt8.lt_iff_toNat_lt] at h h' ⊢
  rcases h with h|⟨rfl,h⟩<;>rcases h' with h' | ⟨rfl,h'⟩
  ·exact .inl (by omega)
  ·exact .inl h
  ·exact .inl h'
  exact .inr ⟨rfl,Gk a b c h h'⟩
namespace Rec
theorem Up.lt{α:Type}{ok:α→Bool}{ky:α→ByteArray}{l:List α}{k:Nat}(hu:Up ok ky l k):∀(j i:Nat) (hj:j<l.length) (hi:i<l.length),i<j→j<k→below (ky l[i]) (ky l[j])=true
 | 0,_,_,_,h,_=>absurd h (by omega)
 | j+1,i,hj,hi,h,hk=>by
  have h1:=(hu (j+1) hj hk).2 (by omega)
  rcases Nat.lt_or_ge i j with h2|h2
  ·exact Gk _ _ _ (hu.lt j i (by omega) hi h2 (by omega)) h1
  obtain rfl:i=j:=by omega
  exact h1
theorem alh{ks:List iM}{j j':Nat}(hu:Up mJ kid ks j)(hj:j<ks.length)(hj':j'<j)(h:ks[j'].e.id=ks[j].e.id):rs mJ kid ks=false :=
 Up.no hj fun _=>⟨by omega,by
  cases hb:below (kid ks[j-1]) (kid ks[j])
  ·rfl
  have h2:below (kid ks[j']) (kid ks[j])=true:=by
   rcases Nat.lt_or_ge j' (j-1) with h3|h3
   ·exact Gk _ _ _ (hu.lt (j-1) j' (by omega) (by omega) h3 (by omega)) hb
   obtain rfl:j'=j-1:=by omega
   exact hb
  unfold below kid at h2;rw[h,Wi] at h2
  cases h2⟩
theorem agY{x:bH}(h:keeps x=true):Op.bytesLess [] x.id.toList=true:=by
 unfold keeps at h;simp only[Bool.and_eq_true,decide_eq_true_eq] at h;have h1:=h.1.2;have:x.id.toList≠[]:=fun e=>by rw[toList_nil] at e;omega
 cases hx:x.id.toList with
 | nil=>exact absurd hx this
 | cons a b=>rfl
end Rec

theorem ahN(x:Sb)(w:World)(hn:x.ks.length≤maxLen):Calls Tryz.prog 39 #[.agg #[.string x.u,.slice x.A x.ks.length x.c]] w fun e w'=>e=.returned (.bool (gX x.u&&decide (x.ks.length≤32)))∧Below w.heap.size w w':=by
 have HM:=ap (fun W=>ajF x.u W);unfold ja at HM;generalize x.ks.length=n at *
 have hd:decide ((n:Int)≤32)=decide (n≤32):=by rw[decide_eq_decide];omega
 have hk:=ae.new w 41 #[.string x.u,.slice x.A n x.c];have hb:=ay w (.cells #[.string x.u,.slice x.A n x.c] 41);have HK:=ap hk;have HB:=ap hb;clear hk hb;obtain⟨o,ho⟩:∃o,gX x.u=o:=⟨_,rfl⟩;rw[ho] at HM ⊢;clear ho;cases o
 all_goals
  go_enter Tryz.func39,Tryz.ntmps39
  go_wp2_with fail
  refine (HM.o _).mono ?_;rintro e w1 ⟨rfl,hb⟩;have q1:=(HK.o.below hb HK.o.lt).cell 1;have ax:=ap (mm HB.o hb (Nat.le_refl _));clear hb;go_wp2;go_ret;exact⟨aC (aR (by first|rfl|simpa using hd)),ax.o⟩
theorem ahz(A:Option Addr)(c:Nat)(l:List Sb)(w:World)(hL:ot w w.heap.size A l)(hs:xH l) :
  Calls Tryz.prog 23 #[.agg #[.slice A l.length c]] w fun e w'=>e=.returned (.bool (mayS l))∧Below w.heap.size w w':=by
 obtain⟨n,hn⟩:∃n,l.length=n:=⟨_,rfl⟩;have HL:=ap hL;have HS:=ap hs.2;have HV:=ap (show mayS l=(rs okS Sb.u l&&decide (n≤8)) by unfold mayS;rw[hn]);have pX:n≤1000:=by rw[←hn];exact hs.1
 rw[hn];have Hn:=ap hn;have gD:=@run_makeMap Tryz.prog;have hk:=(ae.new w 25 #[.slice A n c]).alloc (.map #[] 0);have hb:=(ay w (.cells #[.slice A n c] 25)).alloc (by simp) (.map #[] 0);have mF:=j9.new (w.alloc (.cells #[.slice A n c] 25));rw[World.size_alloc] at mF;have HK:=ap hk;have HB:=ap hb;have Qh:=ap mF;clear hn hL hs hk hb mF
 go_enter Tryz.func23,Tryz.ntmps23
 go_wp2;clear gD;generalize (w.alloc (.cells #[.slice A n c] 25)).alloc (.map #[] 0)=w0 at *
 go_loopg [2,4,5,6,8,9,14,15,16,17,18,19,20,21,22,23,24,25,26,27,28,29,30,31,32,33,34,35,36,37,38,39,40,41,42,43,44,45,46,47,48,49,50,51,52,53,54,55,56,57,58,59,60,61,62,63,64,65,66,67,68,69,70,71,72,73] n (fun gk v2 v4 v5 v6 v8 v9 v14 v15 v16 v17 v18 v19 v20 v21 v22 v23 v24 v25 v26 v27 v28 v29 v30 v31 v32 v33 v34 v35 v36 v37 v38 v39 v40 v41 v42 v43 v44 v45 v46 v47 v48 v49 v50 v51 v52 v53 v54 v55 v56 v57 v58 v59 v60 v61 v62 v63 v64 v65 v66 v67 v68 v69 v70 v71 v72 v73 wr=>∃(i m:Nat) (seen:List Nm) (D:DataW Unit),gk=n-i∧i≤n∧v14=.int .i64 (i:Int)∧ae wr w.heap.size 25 #[.slice A n c]∧Below w.heap.size w wr∧j9 wr (w.heap.size+1) m seen D∧m≤i*1000∧(∀p∈seen,∃(j:Nat) (hj:j<l.length),j<i∧p.ns=l[j].u.data.toList)∧Up okS Sb.u l i)
 case atStart=>exact⟨0,0,[],_,rfl,Nat.zero_le _,rfl,HK.o,HB.o,Qh.o,by omega,fun _ h=>(by cases h),Up.zero⟩
 case round=>
  obtain⟨i,m,seen,D,hg,hi,rfl,hk,hb,mF,hm,dI,hu⟩:=hrel;have Hg:=ap hg;have gl:=ap hk;have ax:=ap hb;have DC:=ap mF;have oc:=ap dI;have Hu:=ap hu
  rename World=>wo
  clear hg hk hb mF dI hu HK HB Qh
  by_cases hlt:i<n
  ·have h1:i<l.length:=by rw[Hn.o];exact hlt
   have h2:i-1<l.length:=by omega
   obtain⟨b,off,rfl,hb,x0,x1⟩:=(HL.o.below ax.o).a.sb h1;obtain⟨b',CC,e1,-,y0,-⟩:=(HL.o.below ax.o).a.sb h2;injection e1 with e1
   injection e1 with e1 e2 _
   subst e1 e2;have fg:=HS.o _ (List.getElem_mem h1);have yt:=HL.o.k _ (List.getElem_mem h1);have cz:=ap fun vI vJ=>Hu.o.next h1 vI vJ;have dt:=ap (Up.no (ok:=okS) (ky:=Sb.u) h1)
   have qz:=ap (fun (h:0<i→below l[i-1].u l[i].u=true) (j:Nat) (hj:j<l.length) (fW:j<i)=>show below l[j].u l[i].u=true from by
    rcases Nat.lt_or_ge j (i-1) with h3|h3
    ·exact Gk _ _ _ (Hu.o.lt (i-1) j h2 hj h3 (by omega)) (h (by omega))
    obtain rfl:j=i-1:=by omega
    exact h (by omega))
   have aaI:=ap (fun j (hj:j<l.length) (fW:j<i+1)=>show j<i∨l[j].u=l[i].u from by
    rcases Nat.lt_or_ge j i with h3|h3
    ·exact .inl h3
    obtain rfl:j=i:=by omega
    exact .inr rfl)
   simp only[okS,below] at cz dt qz;obtain⟨x,hx⟩:∃x,l[i]=x:=⟨_,rfl⟩;obtain⟨y,hy⟩:∃y,l[i-1]=y:=⟨_,rfl⟩;simp only[hx] at x0 x1 fg yt cz dt qz aaI;simp only[hy] at y0 cz dt qz;have Hx:=ap hx;obtain⟨oR,js,tT⟩:=fg;have V:=ap fun W=>ahN x W (by unfold maxLen;omega);have PN:=ap yt;have HKz:=ap tT;clear hx hy yt tT;obtain⟨XA,Uc⟩:∃A,x.A=A:=⟨_,rfl⟩;simp only[Uc] at x1 V PN;clear Uc;obtain⟨N,hN⟩:∃N,x.ks.length=N:=⟨_,rfl⟩;rw[hN] at x1 V js;have HN:=ap hN;clear hN;obtain⟨mu,Fv⟩:∃c,(gX x.u&&decide (N≤32))=c:=⟨_,rfl⟩;rw[Fv] at V;have QL:=ap Fv;clear Fv;have j1:(0:Int)≤(i:Int)∧(i:Int)<(n:Int):=by omega
   obtain⟨lt,rG⟩:∃c,Op.bytesLess y.u.toList x.u.toList=c:=⟨_,rfl⟩;rw[rG] at cz dt qz;have aa4:=ap rG;have Ea:=ap (yJ y.u.toList x.u.toList);have pV:=(gl.o.alloc (.cells #[.string x.u,.slice XA N x.c] 41));have IA:=ap pV;have mW:=ap (ae.new wo 41 #[.string x.u,.slice XA N x.c]);have iI:=ap (ay wo (.cells #[.string x.u,.slice XA N x.c] 41));have y5:=(iI.o.cell (p:=⟨b,off+(i-1)*2,none⟩) (J3 y0)).trans y0;clear rG h2 pV;go_wp2;obtain⟨w5,Cc⟩:∃w5,wo.alloc (.cells #[.string x.u,.slice XA N x.c] 41)=w5:=⟨_,rfl⟩;simp only[Cc] at IA mW iI y5 ⊢;obtain⟨P,hP⟩:∃P,wo.heap.size=P:=⟨_,rfl⟩;simp only[hP] at mW ⊢;have HP:=ap (show w.heap.size+1≠P from fun e=>by have:=DC.o.lt;omega);clear Cc hP;refine wp_region_held_drew (S:=fun W=>ae W P 41 #[.string x.u,.slice XA N x.c]∧ae W w.heap.size 25 #[.slice (some ⟨b,off,none⟩) n c]∧W.cell? ⟨b,off+(i-1)*2,none⟩=some (.string y.u)∧Below w5.heap.size w5 W) (by kernel_rfl) ⟨mW.o,IA.o,y5,(Below.refl _ _).drew⟩ (fun hHeld=>?_);change wpAnyH _ _ _ _ _ 19 (List.toArray [false,false,false,false,false,false,false,false,false,false,false,false,false,false,false,false,false,false,false]) _ _
   (refine aJ (v:=?_) rfl rfl hHeld ?_ ?_;rotate_left;(· (intro w hSw;have q0:=hSw.1.cell 0;have q1:=hSw.1.cell 1;have q2:=hSw.2.1.cell 0;have q3:=hSw.2.2.1;go_simp;try with_reducible rfl));(try simp only[nx,List.set]));refine fU (i:=1) rfl (by kernel_rfl) (by kernel_rfl) (fun K hK=>?_);go_simp;refine (V.o _).mono ?_;rintro e w' ⟨rfl,hb⟩;(try dsimp only);refine hK.out _ _ ⟨hHeld.1.below hb hHeld.1.lt,hHeld.2.1.below hb hHeld.2.1.lt,ox hb hHeld.2.2.1,mm hHeld.2.2.2 hb (Nat.le_refl _)⟩ (fun aL=>?_);clear hK K hHeld;have hHeld:=aL;clear aL hb V y0 y5 IA mW;(try simp only[Act.put,List.setIfInBounds_toArray,List.set_cons_zero,List.set_cons_succ])
   cases mu with
   | false=>
    iterate 2 (refine aJ (v:=?_) rfl rfl hHeld ?_ ?_;rotate_left;(· (intro w hSw;have q0:=hSw.1.cell 0;have q1:=hSw.1.cell 1;have q2:=hSw.2.1.cell 0;have q3:=hSw.2.2.1;go_simp;try with_reducible rfl));(try simp only[nx,List.set]))
    iterate 14 (refine mM rfl rfl hHeld ?_;(try simp only[nx,List.set]))
    (refine aJ (v:=?_) rfl rfl hHeld ?_ ?_;rotate_left;(· (intro w hSw;have q0:=hSw.1.cell 0;have q1:=hSw.1.cell 1;have q2:=hSw.2.1.cell 0;have q3:=hSw.2.2.1;go_simp;try with_reducible rfl));(try simp only[nx,List.set]));refine wpAnyH_done (by kernel_rfl) ?_ _;have B:=ap (ax.o.trans ((iI.o.trans (hHeld.2.2.2.mono iI.o.size)).mono ax.o.size));clear hHeld;go_wp2;go_ret
    exact⟨aC (aR (by
     rw[HV.o,dt.o fun h=>by
      have h2:=QL.o;rw[HN.o] at h;simp only[Bool.and_eq_true,Bool.and_eq_false_iff] at h h2
      rcases h2 with h2|h2
      ·rw[h2] at h;cases h.1
      rw[h2] at h;cases h.2.2]
     rfl)),B.o⟩
   | true=>
    rcases Nat.eq_zero_or_pos i with h0|h0
    case' inl=>
     have i0:¬(0:Int)<(i:Int):=by omega
     iterate 5 (refine aJ (v:=?_) rfl rfl hHeld ?_ ?_;rotate_left;(· (intro w hSw;have q0:=hSw.1.cell 0;have q1:=hSw.1.cell 1;have q2:=hSw.2.1.cell 0;have q3:=hSw.2.2.1;go_simp;try with_reducible rfl));(try simp only[nx,List.set]))
     iterate 10 (refine mM rfl rfl hHeld ?_;(try simp only[nx,List.set]))
     iterate 2 (refine aJ (v:=?_) rfl rfl hHeld ?_ ?_;rotate_left;(· (intro w hSw;have q0:=hSw.1.cell 0;have q1:=hSw.1.cell 1;have q2:=hSw.2.1.cell 0;have q3:=hSw.2.2.1;go_simp;try with_reducible rfl));(try simp only[nx,List.set]))
     refine wpAnyH_done (by kernel_rfl) ?_ _;have bh:0<i→lt=true:=fun h=>absurd h (by omega)
    case' inr=>
     have i0:(0:Int)<(i:Int):=by omega
     have iw:IntKind.i64.wrap ((i:Int)-1)=(i:Int)-1:=IntWalk.i64_in _ (by omega);have i1:(0:Int)≤(i:Int)-1∧(i:Int)-1<(n:Int):=by omega
     have i2:((i:Int)-1).toNat=i-1:=by omega
     have i4:(1:Int)≤(i:Int):=by omega
     iterate 17 (refine aJ (v:=?_) rfl rfl hHeld ?_ ?_;rotate_left;(· (intro w hSw;have q0:=hSw.1.cell 0;have q1:=hSw.1.cell 1;have q2:=hSw.2.1.cell 0;have q3:=hSw.2.2.1;go_simp;try with_reducible rfl));(try simp only[nx,List.set]))
     refine wpAnyH_done (by kernel_rfl) ?_ _;rw[aa4.o];cases lt
     case' false=>
      have B:=ap (ax.o.trans ((iI.o.trans (hHeld.2.2.2.mono iI.o.size)).mono ax.o.size));clear hHeld;go_wp2;go_ret;exact⟨aC (aR (by rw[HV.o,dt.o fun _=>⟨h0,by trivial⟩];rfl)),B.o⟩
     have bh:0<i→true=true:=fun _=>rfl
    all_goals
     have HF:=ap (show rs mJ kid x.ks=false→mayS l=false from fun h=>HV.o.trans (by rw[dt.o fun h2=>by rw[h] at h2;simp at h2];rfl));have DF:=ap (qz.o bh);have PV:=ap (fun h=>cz.o h bh);clear dt qz cz bh h0;have KP:=iI.o.trans (hHeld.2.2.2.mono iI.o.size);have mU:=ap (ax.o.trans (KP.mono ax.o.size));have PX:=ap (show ae w' P 41 _ from hHeld.1);have pD:=ap (show ae w' w.heap.size 25 _ from hHeld.2.1);have Qi:=ap (DC.o.same (KP.block _ DC.o.lt));have q1:=hHeld.1.cell 1;clear hHeld KP DC;go_wp2
     rename World=>wm
     go_loopg [2,6,8,9,41,42,43,44,45,46,47,48,49,50,51,52,53,54,55,56,57,58,59,60,61,62,63,64,65,66,67,68,69,70,71,72] N (fun gj v2 v6 v8 v9 v41 v42 v43 v44 v45 v46 v47 v48 v49 v50 v51 v52 v53 v54 v55 v56 v57 v58 v59 v60 v61 v62 v63 v64 v65 v66 v67 v68 v69 v70 v71 v72 wr=>∃(j m:Nat) (seen:List Nm) (D:DataW Unit) (lv:ByteArray),gj=N-j∧j≤N∧v41=.int .i64 (j:Int)∧v6=.string lv∧(j=0→lv=⟨#[]⟩)∧(∀h:j-1<x.ks.length,0<j→lv=x.ks[j-1].e.id)∧ae wr P 41 #[.string x.u,.slice XA N x.c]∧ae wr w.heap.size 25 #[.slice (some ⟨b,off,none⟩) n c]∧Below w.heap.size w wr∧j9 wr (w.heap.size+1) m seen D∧m≤i*1000+j∧(∀p∈seen,(∃(j':Nat) (hj:j'<l.length),j'<i∧p.ns=l[j'].u.data.toList)∨p.ns=x.u.data.toList∧∃(j':Nat) (hj:j'<x.ks.length),j'<j∧p.loc=x.ks[j'].e.id.data.toList)∧Up mJ kid x.ks j)
     case atStart=>exact⟨0,m,seen,D,_,rfl,Nat.zero_le _,rfl,rfl,fun _=>rfl,fun _ h=>absurd h (by omega),PX.o,pD.o,mU.o,Qi.o,hm,fun p hp=>.inl (oc.o p hp),Up.zero⟩
     case round=>
      obtain⟨j,m,seen,D,lv,hg,hj,rfl,rfl,nG,rE,hp,hk,hb,mF,hm,dI,hu⟩:=hrel;have sN:=ap hg;have Hl0:=ap nG;have QG:=ap rE;have Dx:=ap hp;have Dm:=ap hk;have uG:=ap hb;have uU:=ap mF;have DD:=ap dI;have Eb:=ap hu;clear hg nG rE hp hk hb mF dI hu PX pD mU Qi oc
      by_cases Fm:j<N
      ·have cC:j<x.ks.length:=by rw[HN.o];exact Fm
       have qj:=HKz.o _ (List.getElem_mem cC);obtain⟨b2,Nd,rfl,-,hz⟩:=(PN.o.below uG.o).Ge cC;have IJ:=ap (fun vI vJ=>Eb.o.next cC vI vJ);have Dr:=ap (Up.no (ok:=mJ) (ky:=kid) cC);simp only[mJ,kid,below] at IJ Dr
       have xm:=ap (fun (hk:keeps x.ks[j].e=true) (hlt:Op.bytesLess lv.toList x.ks[j].e.id.toList=false)=>Dr.o fun _=>by
        rcases Nat.eq_zero_or_pos j with h0|h0
        ·rw[Hl0.o h0,show (⟨#[]⟩:ByteArray).toList=[] from by rw[ByteArray.toList_eq],agY hk] at hlt;cases hlt
        exact⟨h0,by rw[←QG.o _ h0];exact hlt⟩)
       have De:=ap (fun (hk:keeps x.ks[j].e=false)=>Dr.o fun h=>by rw[hk] at h;cases h);have sy:=ap (fun (hk:keeps x.ks[j].e=true) (hlt:Op.bytesLess lv.toList x.ks[j].e.id.toList=true)=>IJ.o hk fun h0=>by rw[←QG.o _ h0];exact hlt)
       have Df:=ap (fun (h:(⟨x.u.data.toList,x.ks[j].e.id.data.toList⟩:Nm)∈seen)=>show rs mJ kid x.ks=false from by
        rcases DD.o _ h with ⟨j',hj',fW,e⟩|⟨-,j',hj',iR,e⟩
        ·have h2:=DF.o j' hj' fW;rw[show x.u=l[j'].u from congrArg aa e,Wi] at h2;cases h2
        exact alh Eb.o cC iR (congrArg aa e.symm))
       have xn:=ap (show ∀p∈(⟨x.u.data.toList,x.ks[j].e.id.data.toList⟩:Nm) :: seen,(∃(j':Nat) (hj:j'<l.length),j'<i∧p.ns=l[j'].u.data.toList)∨p.ns=x.u.data.toList∧∃(j':Nat) (hj:j'<x.ks.length),j'<j+1∧p.loc=x.ks[j'].e.id.data.toList from fun p hp=>by
        rcases List.mem_cons.1 hp with rfl|hp
        ·exact .inr ⟨rfl,j,cC,by omega,rfl⟩
        rcases DD.o p hp with h|⟨h,j',hj',iR,e⟩
        ·exact .inl h
        exact .inr ⟨h,j',hj',by omega,e⟩)
       have Ph:=ap (show ∀h:j+1-1<x.ks.length,0<j+1→x.ks[j].e.id=x.ks[j+1-1].e.id from fun _ _=>rfl);have sK:=ap (show gM ⟨x.u.data.toList,x.ks[j].e.id.data.toList⟩ from⟨by show x.u.data.toList.length≤_;rw[Array.length_toList];exact Nat.le_trans oR (by omega),by show x.ks[j].e.id.data.toList.length≤_;rw[Array.length_toList];exact Nat.le_trans (qj 0 (by omega)) (by omega)⟩);clear IJ Dr;obtain⟨z,ez⟩:∃z,x.ks[j]=z:=⟨_,rfl⟩;simp only[ez] at qj hz De xm sy Df xn Ph sK;obtain⟨nm,cD⟩:∃p,(⟨x.u.data.toList,z.e.id.data.toList⟩:Nm)=p:=⟨_,rfl⟩;have gS:=uU.o.lt;have mF:=(uU.o.same (Below.heap_alloc wr (.cells #[.string z.e.id,.string z.e.title,.string z.e.link,.string z.e.bP,.string z.e.content,.bool z.e.has,.int .i64 z.e.sec,.bool z.read] 93) _ gS)).same (Below.heap_alloc _ (.cells #[.string x.u,.string z.e.id] 95) _ (by simp;omega));have Bz:=mF.find sK.o;have Fl:=V0 sK.o;unfold nR at Bz Fl;simp only[vC] at Bz Fl;simp only[cD] at Bz Fl Df xn sK;obtain⟨q,hq⟩:∃q,decide (nm∈seen)=q:=⟨_,rfl⟩;rw[hq] at Bz;have Hq:=ap hq;have HSk:=ap mF;have c0:=hz.c0;have c1:=hz.c1;have c2:=hz.c2;have c3:=hz.c3;have c4:=hz.c4;have c5:=hz.c5;have c6:=hz.c6;have c7:=hz.c7
       have p0:=(Dx.o.alloc (.cells #[.string z.e.id,.string z.e.title,.string z.e.link,.string z.e.bP,.string z.e.content,.bool z.e.has,.int .i64 z.e.sec,.bool z.read] 93)).cell 0;have j2:(0:Int)≤(j:Int)∧(j:Int)<(N:Int):=by omega
       have V2:=ap (fun W=>VX z.e W (fun k hk=>Nat.le_trans (qj k hk) (by omega)));unfold lx at V2;have sD:=ap ((ae.new wr 93 #[.string z.e.id,.string z.e.title,.string z.e.link,.string z.e.bP,.string z.e.content,.bool z.e.has,.int .i64 z.e.sec,.bool z.read]).alloc (.cells #[.string x.u,.string z.e.id] 95));have n7:=ap (ae.new (wr.alloc (.cells #[.string z.e.id,.string z.e.title,.string z.e.link,.string z.e.bP,.string z.e.content,.bool z.e.has,.int .i64 z.e.sec,.bool z.read] 93)) 95 #[.string x.u,.string z.e.id]);have ag:=ap (ri wr (.cells #[.string z.e.id,.string z.e.title,.string z.e.link,.string z.e.bP,.string z.e.content,.bool z.e.has,.int .i64 z.e.sec,.bool z.read] 93) (.cells #[.string x.u,.string z.e.id] 95));clear hq cD ez mF gS hz qj
       cases q with
       | true=>
        go_wp2;go_ret;exact⟨aC (aR (HF.o (Df.o (of_decide_eq_true Hq.o))).symm),uG.o.trans (ag.o.mono uG.o.size)⟩
       | false=>
        go_wp2_with fail
        obtain⟨kz,tT⟩:∃c,keeps z.e=c:=⟨_,rfl⟩;rw[tT] at V2 De xm sy;obtain⟨l2,gC⟩:∃c,Op.bytesLess lv.toList z.e.id.toList=c:=⟨_,rfl⟩;rw[gC] at xm sy;have Fo:=yJ z.e.id.toList lv.toList;rw[gC] at Fo;have QI:=ap Fo;clear tT gC Fo Bz c0 c1 c2 c3 c4 c5 c6 c7 p0;refine (V2.o _).mono ?_;rintro e w8 ⟨rfl,hb⟩;have pQ:=ag.o.trans (hb.mono ag.o.size);have PY:=ap (Dx.o.below pQ Dx.o.lt);have Dk:=ap (Dm.o.below pQ Dm.o.lt);have dY:=ap (uG.o.trans (pQ.mono uG.o.size));have uT:=ap (uU.o.same (pQ.block _ uU.o.lt));have k8:=sD.o.below hb sD.o.lt;have k9:=n7.o.below hb n7.o.lt;rw[World.size_alloc] at k9;have e0:=k8.cell 0;have e1:=k9.cell 0;have e2:=k9.cell 1;have PQ:=ap k8;have Mt:w.heap.size+1≠wr.heap.size:=fun e=>by have:=uU.o.lt;omega
        clear pQ hb k8 k9 ag sD n7 HSk V2 Dx Dm uG uU
        cases kz with
        | false=>
         go_wp2;go_ret;exact⟨aC (aR (HF.o (De.o (by trivial))).symm),dY.o⟩
        | true=>
         have Fo:=QI.o;clear QI De Df
         cases l2 with
         | false=>
          go_wp2;go_ret;exact⟨aC (aR (HF.o (xm.o (by trivial) (by trivial))).symm),dY.o⟩
         | true=>
          have dU:m<maxLen:=by unfold maxLen;omega
          obtain⟨w9,Vk,tW,mD⟩:=(uT.o.same (W':=w8.drew) rfl).own.update (t:=86) Wh Tryz.underlying86 dU (key:=.agg #[.string x.u,.string z.e.id]) (val:=.bool true) Fl (plainElem_bool Tryz.underlying4 true);have hne:∀k,k≠w.heap.size+1→some k≠some (w.heap.size+1):=fun k h e=>h (by injection e);have e9:=(PQ.o.drew.grown mD (hne _ Mt.symm)).cell 0;have HP9:=ap (PY.o.drew.grown mD (hne _ HP.o.symm));have n7:=ap (Dk.o.drew.grown mD (hne _ (by omega)));have uE:=ap (dY.o.drew.grown mD dY.o.size (fun k e=>by injection e with e;omega));have HS9:=ap ((uT.o.same (W':=w8.drew) rfl).next sK.o tW);clear tW mD hne PY Dk dY uT PQ;go_wp2
          go_region
          go_wp2
          go_roundg (N-(j+1))
          case measure=>have:=sN.o;omega
          case rel=>exact⟨j+1,m+1,nm :: seen,_,z.e.id,rfl,by omega,by first|rfl|go_num,rfl,fun h=>absurd h (by omega),Ph.o,HP9.o,n7.o,uE.o,HS9.o,by omega,xn.o,sy.o (by trivial) (by trivial)⟩
      have hU:=ap (PV.o (by rw[Eb.o.all (by rw[HN.o];omega),HN.o,Bool.true_and];exact QL.o))
      have od:=ap (show ∀p∈seen,∃(j':Nat) (hj:j'<l.length),j'<i+1∧p.ns=l[j'].u.data.toList from fun p hp=>by
       rcases DD.o p hp with ⟨j',hj',h,e⟩|⟨e,-⟩
       ·exact⟨j',hj',by omega,e⟩
       exact⟨i,h1,by omega,by rw[e,Hx.o]⟩)
      clear DF PV Eb DD;go_wp2
      go_roundg (n-(i+1))
      case measure=>have:=Hg.o;omega
      case rel=>exact⟨i+1,m,seen,D,rfl,by omega,by first|rfl|go_num,Dm.o,uG.o,uU.o,by omega,od.o,hU.o⟩
  have k0:=gl.o.cell 0;have HU:=ap (Hu.o.all (by rw[Hn.o];omega));go_wp2;go_ret;exact⟨aC (aR (by rw[HV.o,HU.o,Bool.true_and,decide_eq_decide];omega)),ax.o⟩
end
section
open Go.RowKit Rec
attribute [local go_sem ↓] Go.wp_at_zero Go.wp_at_succ

theorem ajG(A:Option Addr)(c:Nat)(l:List Sb)(w:World)(hL:ot w w.heap.size A l)(hs:xH l) :
  Calls Tryz.prog 25 #[.agg #[.slice A l.length c]] w fun e w'=>e=.returned (.bool (mayS l))∧Below w.heap.size w w':=by
 obtain⟨n,hn⟩:∃n,l.length=n:=⟨_,rfl⟩;have HL:=ap hL;have HS:=ap hs.2;have HV:=ap (show mayS l=(rs okS Sb.u l&&decide (n≤8)) by unfold mayS;rw[hn]);have hl:n≤1000:=by rw[←hn];exact hs.1
 rw[hn];have Hn:=ap hn;have HK:=ap (ae.new w 25 #[.slice A n c]);have HB:=ap (ay w (.cells #[.slice A n c] 25));clear hn hL hs
 go_enter Tryz.func25,Tryz.ntmps25
 go_wp2
 go_loopg [3] n (fun g vi wr=>∃k:Nat,g=n-k∧k≤n∧vi=.int .i64 k∧Up okS Sb.u l k∧ae wr w.heap.size 25 #[.slice A n c]∧Below w.heap.size w wr)
 case atStart=>exact⟨0,rfl,Nat.zero_le _,rfl,Up.zero,HK.o,HB.o⟩
 case round=>
  obtain⟨k,hg,hk,rfl,hu,bZ,kb⟩:=hrel;have Hg:=ap hg;have Hu:=ap hu;have Kb:=ap kb;have K1:=ap bZ;clear hg hu HK HB
  by_cases hlt:k<n
  ·have h1:k<l.length:=by rw[Hn.o];exact hlt
   obtain⟨b,off,rfl,hb,x0,x1⟩:=(HL.o.below Kb.o).a.sb h1;have h2:k-1<l.length:=by omega
   obtain⟨b',CC,e1,-,y0,-⟩:=(HL.o.below Kb.o).a.sb h2;injection e1 with e1
   injection e1 with e1 e2 _
   subst e1 e2;have dV:=List.getElem_mem h1;have V:=ap fun W (hb:Below w.heap.size w W)=>ahJ l[k] W (((HL.o.below hb).k _ dV)) (by have:=(HS.o _ dV).2.1;omega) (fun y hy k hk=>Nat.le_trans ((HS.o _ dV).2.2 y hy k hk) (by omega));have cz:=ap fun vI vJ=>Hu.o.next h1 vI vJ;have dt:=ap (Up.no (ok:=okS) (ky:=Sb.u) h1);simp only[below] at cz dt;generalize l[k]=x at *
   generalize l[k-1]=y at *
   clear dV h1 h2;have j1:(0:Int)≤(k:Int)∧(k:Int)<(n:Int):=by omega
   obtain⟨lt,rG⟩:∃c,Op.bytesLess y.u.toList x.u.toList=c:=⟨_,rfl⟩;have wJ:=yJ x.u.toList y.u.toList;rw[rG] at cz dt wJ;have Ea:=ap wJ;obtain⟨kx,tS⟩:∃c,okS x=c:=⟨_,rfl⟩;rw[tS] at cz dt V;clear rG tS wJ;generalize x.ks.length=N at *
   generalize x.A=XA at *
   have k0:=K1.o.cell 0;go_wp2;refine wp_region_held_drew (S:=fun W=>ae W w.heap.size 25 #[.slice (some ⟨b,off,none⟩) n c]∧W.cell? ⟨b,off+k*2,none⟩=some (.string x.u)∧W.cell? ⟨b,off+k*2+1,none⟩=some (.slice XA N x.c)∧W.cell? ⟨b,off+(k-1)*2,none⟩=some (.string y.u)∧Below w.heap.size w W) (by kernel_rfl) ⟨K1.o,x0,x1,y0,Kb.o.drew⟩ (fun hHeld=>?_);change wpAnyH _ _ _ _ _ 27 (List.toArray [false,false,false,false,false,false,false,false,false,false,false,false,false,false,false,false,false,false,false,false,false,false,false,false,false,false,false]) _ _;iterate 5 (refine aJ (v:=?_) rfl rfl hHeld ?_ ?_;rotate_left;(· (intro w hSw;have q0:=hSw.1.cell 0;have q1:=hSw.2.1;have q2:=hSw.2.2.1;have q3:=hSw.2.2.2.1;go_simp;try with_reducible rfl));(try simp only[nx,List.set]))
   refine fU (i:=5) rfl (by kernel_rfl) (by kernel_rfl) (fun K hK=>?_);go_simp;refine (V.o _ hHeld.2.2.2.2).mono ?_;rintro e w' ⟨rfl,hb⟩;(try dsimp only);refine hK.out _ _ ⟨hHeld.1.below hb hHeld.1.lt,ox hb hHeld.2.1,ox hb hHeld.2.2.1,ox hb hHeld.2.2.2.1,mm hHeld.2.2.2.2 hb (Nat.le_refl _)⟩ (fun aL=>?_);clear hK K hHeld;have hHeld:=aL;clear aL hb V x0 x1 y0;(try simp only[Act.put,List.setIfInBounds_toArray,List.set_cons_zero,List.set_cons_succ])
   cases kx with
   | false=>
    iterate 2 (refine aJ (v:=?_) rfl rfl hHeld ?_ ?_;rotate_left;(· (intro w hSw;have q0:=hSw.1.cell 0;have q1:=hSw.2.1;have q2:=hSw.2.2.1;have q3:=hSw.2.2.2.1;go_simp;try with_reducible rfl));(try simp only[nx,List.set]))
    iterate 18 (refine mM rfl rfl hHeld ?_;(try simp only[nx,List.set]))
    (refine aJ (v:=?_) rfl rfl hHeld ?_ ?_;rotate_left;(· (intro w hSw;have q0:=hSw.1.cell 0;have q1:=hSw.2.1;have q2:=hSw.2.2.1;have q3:=hSw.2.2.2.1;go_simp;try with_reducible rfl));(try simp only[nx,List.set]));refine wpAnyH_done (by kernel_rfl) ?_ _;have B:=ap hHeld.2.2.2.2;have KK:=ap hHeld.1;clear hHeld;go_wp2;go_ret;exact⟨aC (aR (by rw[HV.o,dt.o (fun h=>by cases h)];rfl)),B.o⟩
   | true=>
    by_cases h0:0<k
    ·have i0:(0:Int)<(k:Int):=by omega
     have iw:IntKind.i64.wrap ((k:Int)-1)=(k:Int)-1:=IntWalk.i64_in _ (by omega);have i1:(0:Int)≤(k:Int)-1∧(k:Int)-1<(n:Int):=by omega
     have i2:((k:Int)-1).toNat=k-1:=by omega
     have i4:(1:Int)≤(k:Int):=by omega
     iterate 21 (refine aJ (v:=?_) rfl rfl hHeld ?_ ?_;rotate_left;(· (intro w hSw;have q0:=hSw.1.cell 0;have q1:=hSw.2.1;have q2:=hSw.2.2.1;have q3:=hSw.2.2.2.1;go_simp;try with_reducible rfl));(try simp only[nx,List.set]))
     refine wpAnyH_done (by kernel_rfl) ?_ _;have B:=ap hHeld.2.2.2.2;have KK:=ap hHeld.1;clear hHeld;rw[Ea.o];cases lt
     ·go_wp2;go_ret;exact⟨aC (aR (by rw[HV.o,dt.o (fun _=>⟨h0,by trivial⟩)];rfl)),B.o⟩
     go_wp2
     go_roundg (n-(k+1))
     case measure=>have:=Hg.o;omega
     case rel=>exact⟨k+1,rfl,by omega,by go_num,cz.o (by trivial) fun _=>by trivial,KK.o,B.o⟩
    have i0:¬(0:Int)<(k:Int):=by omega
    iterate 5 (refine aJ (v:=?_) rfl rfl hHeld ?_ ?_;rotate_left;(· (intro w hSw;have q0:=hSw.1.cell 0;have q1:=hSw.2.1;have q2:=hSw.2.2.1;have q3:=hSw.2.2.2.1;go_simp;try with_reducible rfl));(try simp only[nx,List.set]))
    iterate 14 (refine mM rfl rfl hHeld ?_;(try simp only[nx,List.set]))
    iterate 2 (refine aJ (v:=?_) rfl rfl hHeld ?_ ?_;rotate_left;(· (intro w hSw;have q0:=hSw.1.cell 0;have q1:=hSw.2.1;have q2:=hSw.2.2.1;have q3:=hSw.2.2.2.1;go_simp;try with_reducible rfl));(try simp only[nx,List.set]))
    refine wpAnyH_done (by kernel_rfl) ?_ _;have B:=ap hHeld.2.2.2.2;have KK:=ap hHeld.1;clear hHeld;go_wp2
    go_roundg (n-(k+1))
    case measure=>have:=Hg.o;omega
    case rel=>exact⟨k+1,rfl,by omega,by go_num,cz.o (by trivial) fun h=>absurd h h0,KK.o,B.o⟩
  have q0:=K1.o.cell 0;go_wp2;go_ret;exact⟨aC (aR (by rw[HV.o,Hu.o.all (by rw[Hn.o];omega),Bool.true_and,decide_eq_decide];omega)),Kb.o⟩
end
section
open Go.RowKit Tk Sx Go.WideShapes

namespace Opm
def oF(x:aB):Bool:=decide (300<x.pre.length)||decide (300<x.ns.length)
def great(l:List aB):Bool:=(l.take 71).any oF||decide (70<l.length)
theorem Ty{l:List aB}(h:great l=false):l.length≤70∧∀x∈l,x.pre.length≤300∧x.ns.length≤300:=by
 unfold great at h;simp only[Bool.or_eq_false_iff,decide_eq_false_iff_not,List.any_eq_false] at h;have hl:l.length≤70:=by omega
 refine⟨hl,fun x hx=>?_⟩;have h1:=h.1 x (by rw[List.take_of_length_le (by omega)];exact hx);unfold oF at h1;simp only[Bool.or_eq_true,decide_eq_true_eq,not_or] at h1;omega
end Opm
theorem Pf(l:List aB)(A:Option Addr)(c B:Nat)(w:World)(hR:Reads w B 2 A l.length (aM l))(hm:l.length≤maxLen) :
  Calls Tryz.prog 4 #[.slice A l.length c] w fun e w'=>e=.returned (.bool (Opm.great l))∧w'=w:=by
 obtain⟨n,hn⟩:∃n,l.length=n:=⟨_,rfl⟩;have HR:=ap hR;have Hn:=ap hn;have Hg:=ap (show Opm.great l=((l.take 71).any Opm.oF||decide (70<n)) by unfold Opm.great;rw[hn]);rw[hn] at hm ⊢;clear hR hn;have eN:(n:Int)≤9223372036854775807:=by unfold maxLen at hm;omega
 go_enter Tryz.func4,Tryz.ntmps4
 go_wp2
 go_loopg [2,3,4,5,6,7,8,9,10,11,12,13,14,15,16,17,18,19,20,21,22,23,24,25,26,27,28,29] n (fun gk v2 v3 v4 v5 v6 v7 v8 v9 v10 v11 v12 v13 v14 v15 v16 v17 v18 v19 v20 v21 v22 v23 v24 v25 v26 v27 v28 v29 wr=>∃j:Nat,v3=.int .i64 (j:Int)∧gk=n-j∧j≤n∧j≤71∧(l.take j).any Opm.oF=false∧wr=w)
 case atStart=>exact⟨0,rfl,rfl,by omega,by omega,rfl,rfl⟩
 case round=>
  obtain⟨j,rfl,au,hj,aoR,UF,rfl⟩:=hrel;have dQ:=ap au;have QA:=ap UF;clear au UF
  by_cases hlt:j<n
  ·have dg:decide ((j:Int)<(n:Int))=true:=decide_eq_true (by omega)
   by_cases h70:j≤70
   ·have aeU:decide ((j:Int)≤70)=true:=decide_eq_true (by omega);have cC:j<l.length:=by rw[Hn.o];exact hlt
    obtain⟨b,off,rfl,eZ,x0,x1⟩:=HR.o.mo cC
    have hst:(l.take (j+1)).any Opm.oF=((l.take j).any Opm.oF||Opm.oF l[j]):=by
     rw[List.take_add_one,List.getElem?_eq_getElem cC,List.any_append];simp
    rw[QA.o,Bool.false_or] at hst
    have fV:Opm.oF l[j]=true→Opm.great l=true:=fun h=>by
     rw[Hg.o];have:(l.take 71).any Opm.oF=true:=List.any_eq_true.2 ⟨l[j],List.mem_take_iff_getElem.2 ⟨j,by omega,rfl⟩,h⟩;rw[this];rfl
    obtain⟨⟨u,t⟩,hx⟩:∃x,l[j]=x:=⟨_,rfl⟩;rw[hx] at hst fV x0 x1;unfold Opm.oF at hst fV;dsimp only at x0 x1 hst fV;have iR:(0:Int)≤j∧(j:Int)<n:=by omega
    have z0:=aO u;have z1:=aO t;have bf:=ap hst;have lf:=ap fV;clear hst fV hx
    by_cases hu:300<u.length
    ·have bG:decide ((300:Int)<(u.length:Int))=true:=decide_eq_true (by omega);have HF:=ap (lf.o (by rw[decide_eq_true hu];rfl));clear bf lf hu;go_wp2;go_ret;rw[HF.o];exact⟨rfl,rfl⟩
    have bG:decide ((300:Int)<(u.length:Int))=false:=decide_eq_false (by omega);rw[decide_eq_false hu,Bool.false_or] at bf lf;clear hu
    by_cases ht:300<t.length
    ·have fe:decide ((300:Int)<(t.length:Int))=true:=decide_eq_true (by omega);have HF:=ap (lf.o (decide_eq_true ht));clear bf lf ht;go_wp2;go_ret;rw[HF.o];exact⟨rfl,rfl⟩
    have fe:decide ((300:Int)<(t.length:Int))=false:=decide_eq_false (by omega);rw[decide_eq_false ht] at bf;clear lf ht;go_wp2
    go_roundg (n-(j+1))
    case measure=>have:=dQ.o;omega
    case rel=>exact⟨j+1,by first|rfl|go_num,rfl,by omega,by omega,bf.o,rfl⟩
   have aeU:decide ((j:Int)≤70)=false:=decide_eq_false (by omega);have HF:=ap (show Opm.great l=true by rw[Hg.o,decide_eq_true (show 70<n by omega)];simp);have aph:decide ((70:Int)<(n:Int))=true:=decide_eq_true (by omega);have cm:(j:Int)<n:=by omega
   have pS:¬(j:Int)≤70:=by omega
   have pT:(70:Int)<n:=by omega
   go_wp2;go_ret;rw[HF.o];exact⟨rfl,rfl⟩
  have cm:¬(j:Int)<n:=by omega
  have eD:j=n:=by omega
  have hF:Opm.great l=decide (70<n):=by
   rw[Hg.o]
   have:(l.take 71).any Opm.oF=false:=by
    have h:=QA.o;rwa[eD,←Hn.o,List.take_length,←List.take_of_length_le (l:=l) (i:=71) (by rw[Hn.o];omega)] at h
   rw[this,Bool.false_or]
  by_cases h7:70<n
  ·have pS:(70:Int)<n:=by omega
   rw[decide_eq_true h7] at hF;have HF:=ap hF;clear eD hF;go_wp2;go_ret;rw[HF.o];exact⟨rfl,rfl⟩
  have pS:¬(70:Int)<n:=by omega
  rw[decide_eq_false h7] at hF;have HF:=ap hF;clear eD hF;go_wp2;go_ret;rw[HF.o];exact⟨rfl,rfl⟩
instance:DecidableEq aB:=fun x y=>decidable_of_iff (x.pre=y.pre∧x.ns=y.ns) (by cases x;cases y;simp)
theorem SI(w:World)(k n:Nat):∃m,(w.drewN k).drewN n=w.drewN m:=⟨k+n,by simp[World.drewN,Nat.add_assoc]⟩
theorem RT{a b:L}(h:a≠b):¬(aa a).toList=(aa b).toList:=fun e=>h ((JY a b).1 e)
theorem abO(la lb:List aB)(A B:Option Addr)(ca cb Na Nb:Nat)(w:World)(hA:Reads w Na 2 A la.length (aM la))(hB:Reads w Nb 2 B lb.length (aM lb))(hl:la.length≤1000000000) :
  Calls Tryz.prog 13 #[.slice A la.length ca,.slice B lb.length cb] w fun e w'=>e=.returned (.bool (decide (la=lb)))∧∃k,w'=w.drewN k:=by
 obtain⟨n,hn⟩:∃n,la.length=n:=⟨_,rfl⟩;obtain⟨m,hm⟩:∃n,lb.length=n:=⟨_,rfl⟩;have HA:=ap hA;have HB:=ap hB;have Hn:=ap hn;have Hm:=ap hm;rw[hn] at hl;rw[hn,hm];clear hA hB hn hm
 by_cases cD:n=m
 ·subst cD
  go_enter Tryz.func13,Tryz.ntmps13
  go_wp2
  go_loopg [4,5,11,12,13,14,15,16,17,18,19,20,21,22,23,24,25] n (fun gk v4 v5 v11 v12 v13 v14 v15 v16 v17 v18 v19 v20 v21 v22 v23 v24 v25 wr=>∃j:Nat,v5=.int .i64 (j:Int)∧gk=n-j∧j≤n∧la.take j=lb.take j∧∃k,wr=w.drewN k)
  case atStart=>exact⟨0,rfl,rfl,by omega,rfl,0,rfl⟩
  case round=>
   obtain⟨j,rfl,au,hj,eF,k,rfl⟩:=hrel;have dQ:=ap au;have xG:=ap eF;clear au eF
   by_cases hlt:j<n
   ·have cm:(j:Int)<n:=by omega
    have LM:j<la.length:=by rw[Hn.o];exact hlt
    have hjb:j<lb.length:=by rw[Hm.o];exact hlt
    obtain⟨b,off,rfl,eZ,x0,x1⟩:=HA.o.mo LM;obtain⟨b',CC,rfl,aoy,y0,y1⟩:=HB.o.mo hjb;have iR:(0:Int)≤j∧(j:Int)<n:=by omega
    have lG:la.take (j+1)=la.take j++[la[j]]:=by rw[List.take_add_one,List.getElem?_eq_getElem LM];rfl
    have ak:lb.take (j+1)=lb.take j++[lb[j]]:=by rw[List.take_add_one,List.getElem?_eq_getElem hjb];rfl
    have hne:la[j]≠lb[j]→decide (la=lb)=false:=fun h=>decide_eq_false fun e=>h (by subst e;rfl);obtain⟨⟨u,t⟩,hx⟩:∃x,la[j]=x:=⟨_,rfl⟩;obtain⟨⟨u',t'⟩,hy⟩:∃x,lb[j]=x:=⟨_,rfl⟩;rw[hx] at x0 x1 lG hne;rw[hy] at y0 y1 ak hne;dsimp only at x0 x1 y0 y1
    by_cases hu:u=u'
    ·subst hu
     by_cases ht:t=t'
     ·subst ht;have HT:=ap (show la.take (j+1)=lb.take (j+1) by rw[lG,ak,xG.o]);clear hx hy lG ak hne;go_wp2
      go_quiet (fail)
      go_wp2
      go_roundg (n-(j+1))
      case measure=>have:=dQ.o;omega
      case rel=>exact⟨j+1,by first|rfl|go_num,rfl,by omega,HT.o,_,rfl⟩
     have HF:=ap (hne (fun e=>ht (aB.mk.inj e).2));have h1:=RT ht;clear hx hy lG ak hne ht;go_wp2
     go_quiet (fail)
     go_wp2;go_ret;rw[HF.o];exact⟨rfl,SI _ _ _⟩
    have HF:=ap (hne (fun e=>hu (aB.mk.inj e).1));have h1:=RT hu;clear hx hy lG ak hne hu;go_wp2
    go_quiet (fail)
    go_wp2;go_ret;rw[HF.o];exact⟨rfl,SI _ _ _⟩
   have cm:¬(j:Int)<n:=by omega
   have eD:j=n:=by omega
   have HF:=ap (show decide (la=lb)=true from decide_eq_true (by
    have h:=xG.o;rwa[eD,List.take_of_length_le (by rw[Hn.o];exact Nat.le_refl _),List.take_of_length_le (by rw[Hm.o];exact Nat.le_refl _)] at h))
   clear eD;go_wp2;go_ret;rw[HF.o];exact⟨rfl,_,rfl⟩
 have cm:¬(n:Int)=m:=by omega
 have HF:=ap (show decide (la=lb)=false from decide_eq_false fun e=>cD (by rw[←Hn.o,←Hm.o,e]));clear cD
 go_enter Tryz.func13,Tryz.ntmps13
 go_wp2;go_ret;rw[HF.o];exact⟨rfl,0,rfl⟩
theorem Uh(l:List aB)(A:Option Addr)(c B:Nat)(u:L)(w:World)(hR:Reads w B 2 A l.length (aM l))(hl:l.length≤1000000000) :
  Calls Tryz.prog 28 #[.slice A l.length c,.string (aa u)] w fun e w'=>e=.returned (.bool (decide (u∈l.map (·.pre))))∧w'=w:=by
 obtain⟨n,hn⟩:∃n,l.length=n:=⟨_,rfl⟩;have HR:=ap hR;have Hn:=ap hn;obtain⟨q,hq⟩:∃q,decide (u∈l.map (·.pre))=q:=⟨_,rfl⟩;have Hq:=ap hq;rw[hn] at hl;rw[hn,hq];clear hR hn hq
 go_enter Tryz.func28,Tryz.ntmps28
 go_wp2
 go_loopg [4,5,6,7,8,9,10,11,12,13,14,15,16,17,18] n (fun gk v4 v5 v6 v7 v8 v9 v10 v11 v12 v13 v14 v15 v16 v17 v18 wr=>∃j:Nat,v5=.int .i64 (j:Int)∧gk=n-j∧j≤n∧u∉(l.take j).map (·.pre)∧wr=w)
 case atStart=>exact⟨0,rfl,rfl,by omega,by simp,rfl⟩
 case round=>
  obtain⟨j,rfl,au,hj,hno,rfl⟩:=hrel;have dQ:=ap au;have fB:=ap hno;clear au hno
  by_cases hlt:j<n
  ·have cm:(j:Int)<n:=by omega
   have cC:j<l.length:=by rw[Hn.o];exact hlt
   obtain⟨b,off,rfl,eZ,x0,x1⟩:=HR.o.mo cC;have iR:(0:Int)≤j∧(j:Int)<n:=by omega
   have lG:l.take (j+1)=l.take j++[l[j]]:=by rw[List.take_add_one,List.getElem?_eq_getElem cC];rfl
   have bB:l[j]∈l:=List.getElem_mem cC;obtain⟨⟨v,t⟩,hx⟩:∃x,l[j]=x:=⟨_,rfl⟩;rw[hx] at x0 x1 lG bB;dsimp only at x0 x1;have he:=Eo v u
   by_cases hu:v=u
   ·rw[decide_eq_true hu] at he;have HF:=ap (show q=true from Hq.o▸decide_eq_true (List.mem_map.2 ⟨_,bB,hu⟩));clear hx lG bB hu;go_wp2;go_ret;rw[HF.o];exact⟨rfl,rfl⟩
   rw[decide_eq_false hu] at he
   have HN:=ap (show u∉(l.take (j+1)).map (·.pre) from by
    rw[lG,List.map_append,List.mem_append];rintro (h|h)
    ·exact fB.o h
    rw[List.map_singleton,List.mem_singleton] at h;exact hu h.symm)
   clear hx lG bB hu;go_wp2
   go_roundg (n-(j+1))
   case measure=>have:=dQ.o;omega
   case rel=>exact⟨j+1,by first|rfl|go_num,rfl,by omega,HN.o,rfl⟩
  have cm:¬(j:Int)<n:=by omega
  have eD:j=n:=by omega
  have HF:=ap (show q=false from Hq.o▸decide_eq_false (by
   have h:=fB.o;rwa[eD,List.take_of_length_le (by rw[Hn.o];exact Nat.le_refl _)] at h))
  clear eD;go_wp2;go_ret;rw[HF.o];exact⟨rfl,rfl⟩
end
end Go.Proofs.YtpdkeckeekchlaaGreatDoor
