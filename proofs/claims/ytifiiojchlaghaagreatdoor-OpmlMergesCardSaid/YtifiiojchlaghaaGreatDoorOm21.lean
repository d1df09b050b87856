/- events.grow: the tree of events that are whole. And more. -/
import Derived.Test.YtifiiojchlaghaaGreatDoorOm04
import Derived.Test.YtifiiojchlaghaaGreatDoorOm20
set_option linter.unusedSimpArgs false
set_option maxRecDepth 100000
set_option maxHeartbeats 16000000
set_option linter.unusedVariables false
namespace Go.Proofs.YtifiiojchlaghaaGreatDoor
section
open Go.RowKit Tk Sx Go.WideShapes

structure PH(xs:List Ew):Prop where
 len:xs.length≤10000000
 few:∀x∈xs,x.e.attrs.length≤1000000
 nm:∀x∈xs,∀a∈x.e.attrs,j7 a.name
def PS(W:World)(B T mb:Nat)(A:Option Addr)(n c:Nat)(m:List (Nat×Nat)):Prop :=
 B≤T∧B≤mb∧(∃d:Int,ae W T 122 #[.slice A n c,.map (some mb),.int .i64 d])∧∃(k:Nat) (D:DataW Unit),fZ W mb k m D∧k≤n
theorem j8.cap{W:World}{base n c:Nat}{A:Option Addr}{l:List Nat}(h:j8 W base A n c l):n≤c:=by
 rcases h with h|h
 ·exact yo h
 omega
theorem j8.cut{W:World}{base m c sb so p:Nat}{l:List Nat}(h:j8 W base (some ⟨sb,so,none⟩) (m+1) c (l++[p]))(hm:l.length=m):j8 W base (some ⟨sb,so,none⟩) m m l:=by
 have hr:=h.reads;refine .inr ⟨rfl,⟨by rw[afN,hm];omega,fun hp=>?_⟩,(fun e=>by cases e),h.aaE⟩;obtain⟨b,off,e,hlt,hc⟩:=hr.2 (by omega);refine⟨b,off,e,hlt,fun j u hu=>hc j u ?_⟩;rw[LM,List.getElem?_append_left (List.getElem?_eq_some_iff.1 hu).1];exact hu
theorem Xb(l:List Ev):∀i,(Evs.upto l i).1.length≤i
 | 0=>by simp[Evs.upto]
 | i+1=>by
  have ih:=Xb l i;rw[Evs.upto]
  cases l[i]? with
  | none=>dsimp only;omega
  | some e=>
   dsimp only;unfold Evs.lV;split
   ·rw[List.length_append];simp;omega
   split
   ·rw[List.length_dropLast];omega
   omega
theorem acG(xs:List Ew)(A:Option Addr)(c:Nat)(w:World)(hL:pk w w.heap.size A xs)(hW:Evs.qM (xs.map (·.e)))(hS:PH xs) :
  Calls Tryz.prog 67 #[.slice A xs.length c] w fun e w'=>Below w.heap.size w w'∧∃T mb,e=.returned (.pointer (some ⟨T,0,none⟩))∧PS w' w.heap.size T mb A xs.length c (Evs.gT (xs.map (·.e))):=by
 have HL:=hide hL;have HS:=hide hS;have hN:=hS.len;have fC:=hide (fun i e (h:(xs.map (·.e))[i]?=some e)=>Evs.MU hW h);have jb:=hide (fun i e (h:(xs.map (·.e))[i]?=some e)=>Evs.MM h);have Yz:=hide (Xb (xs.map (·.e)));have uk:=hide (show Evs.gT (xs.map (·.e))=(Evs.upto (xs.map (·.e)) xs.length).2 by unfold Evs.gT;rw[List.length_map]);have hne:xs.length≠0:=fun h=>hW.ne (by rw[List.eq_nil_of_length_eq_zero h];rfl)
 have Oz:=hide (show (Evs.upto (xs.map (·.e)) xs.length).1=[] by
  have h:=Evs.MN (xs.map (·.e)) xs.length (by simp);rw[List.take_of_length_le (by simp),hW.shut] at h
  simpa using h)
 obtain⟨N,JK⟩:∃N,xs.length=N:=⟨_,rfl⟩;have HN:=hide JK;rw[JK] at uk Oz hN hne ⊢;obtain⟨EL,Rx⟩:∃l,Evs.gT (xs.map (·.e))=l:=⟨_,rfl⟩;rw[Rx] at uk ⊢;have ir:=@run_makeMap Tryz.prog;clear hL hS hW JK Rx
 go_enter Tryz.func67,Tryz.ntmps67
 go_wp2
 go_step3
 go_wp2
 go_step3
 go_wp2;clear ir;have qj:=hide ((fZ.new w).same (W':=(w.alloc (.map #[] 0)).alloc (.cells #[.slice A N c,.map (some w.heap.size),.int .i64 0] 122)) (Below.heap_alloc _ _ _ (by simp)))
 have eD:=hide (show ae ((w.alloc (.map #[] 0)).alloc (.cells #[.slice A N c,.map (some w.heap.size),.int .i64 0] 122)) (w.heap.size+1) 122 #[.slice A N c,.map (some w.heap.size),.int .i64 0] from by
  have:=ae.new (w.alloc (.map #[] 0)) 122 #[.slice A N c,.map (some w.heap.size),.int .i64 0];rwa[World.size_alloc] at this)
 have kR:=hide ((aA w (.map #[] 0)).trans ((aA (w.alloc (.map #[] 0)) (.cells #[.slice A N c,.map (some w.heap.size),.int .i64 0] 122)).mono (by simp)));have OJ:=hide (show ((w.alloc (.map #[] 0)).alloc (.cells #[.slice A N c,.map (some w.heap.size),.int .i64 0] 122)).heap.size=w.heap.size+2 by simp);obtain⟨W0,oq⟩:∃W0,(w.alloc (.map #[] 0)).alloc (.cells #[.slice A N c,.map (some w.heap.size),.int .i64 0] 122)=W0:=⟨_,rfl⟩;rw[oq] at qj eD kR OJ ⊢;clear oq
 go_loopg [4,5,6,7,8,15,23,37,55] N (fun gk v4 v5 v6 v7 v8 v15 v23 v37 v55 wr=>∃(i no co km:Nat) (Ao:Option Addr) (D:DataW Unit) (dp:Int),gk=N-i∧i≤N∧v15=.int .i64 (i:Int)∧v4=.slice Ao no co∧(Evs.upto (xs.map (·.e)) i).1.length=no∧j8 wr (w.heap.size+2) Ao no co (Evs.upto (xs.map (·.e)) i).1∧
  fZ wr w.heap.size km (Evs.upto (xs.map (·.e)) i).2 D∧km≤i∧ae wr (w.heap.size+1) 122 #[.slice A N c,.map (some w.heap.size),.int .i64 dp]∧Below w.heap.size w wr∧w.heap.size+2≤wr.heap.size)
 case atStart=>exact⟨0,0,0,0,none,_,0,rfl,by omega,rfl,rfl,rfl,.inl (World.ownsRow_nil _ _ _ _),qj.out,by omega,eD.out,kR.out,by rw[OJ.out];exact Nat.le_refl _⟩
 case round=>
  obtain⟨i,no,co,km,Ao,D,dp,aq,hi,rfl,rfl,hno,hst,SW,AJ,rA,hb,aM⟩:=hrel;have eM:=hide aq;have HSt:=hide hst;have jY:=hide SW;have lZ:=hide rA;have HB:=hide hb;have qp:=hide hno;have amI:no≤i:=by rw[←hno];exact Yz.out i
  clear aq hst SW rA hb hno
  by_cases hlt:i<N
  ·obtain⟨x,hx⟩:∃x,xs[i]?=some x:=⟨_,List.getElem?_eq_getElem (by rw[HN.out];exact hlt)⟩;have iA:=List.mem_of_getElem? hx;have xV:(xs.map (·.e))[i]?=some x.e:=by rw[List.getElem?_map,hx];rfl
   obtain⟨SC,J4⟩:=fC.out i _ xV;have bD:=jb.out i _ xV;have Cy:=hide (HL.out.below HB.out);obtain⟨b,off,rfl,jl,hy⟩:=Cy.out.at_ hx;have ry:=Cy.out.sub x iA;have sf:=hide (fun (W:World) (h:Below wr.heap.size wr W)=>acb x W SC ((ry.below (h.mono (by omega))).more (Nat.le_trans (by omega) h.size)) (HS.out.few x iA) (HS.out.nm x iA));have y0:=hy.c0;have y1:=hy.c1;have y2:=hy.c2;have y3:=hy.c3;have y4:=hy.c4;unfold er at sf;obtain⟨O,hO⟩:∃O,(Evs.upto (xs.map (·.e)) i).1=O:=⟨_,rfl⟩;obtain⟨M,hM⟩:∃M,(Evs.upto (xs.map (·.e)) i).2=M:=⟨_,rfl⟩;have hnx1:Evs.upto (xs.map (·.e)) (i+1)=Evs.lV (O,M) i x.e:=by rw[bD,←hO,←hM]
   rw[hO] at J4 HSt qp;rw[hM] at jY;have Hxp:=hide (fun (h:0<i)=>(show ∃q,xs[i-1]?=some q from⟨_,List.getElem?_eq_getElem (by rw[HN.out];omega)⟩));clear bD hO hM xV iA SC ry hy;obtain⟨⟨kd,⟨ns,loc⟩,aw,tx⟩,Ax,cx⟩:=x;dsimp only at y0 y1 y2 y3 y4 sf J4 hnx1
   rcases J4 with ⟨rfl,h0⟩|⟨rfl,O',p,rfl,hpi,lJ⟩|⟨rfl,Ez,q,qX,hq,hqk⟩
   ·rw[show ((0:Nat):Int)=0 from rfl] at y0 sf;have tK:Evs.lV (O,M) i ⟨0,⟨ns,loc⟩,aw,tx⟩=(O++[i],M):=by unfold Evs.lV;rw[if_pos rfl]
    have dB:=hide (hnx1.trans tK)
    have ado:(no=0∧i=0)∨((no:Int)==0)=false:=by
     by_cases hO:O=[]
     ·exact .inl ⟨by rw[←qp.out,hO];rfl,h0 hO⟩
     refine .inr ?_;rw[beq_eq_false_iff_ne];have:no≠0:=fun h=>hO (List.eq_nil_of_length_eq_zero (by rw[qp.out];exact h));omega
    clear hnx1 tK h0;have lX:=hide (aA wr (.cells #[.int .i8 0,.string (aa ns),.string (aa loc),.slice Ax aw.length cx,.string (aa tx)] 62));have ur:=hide (ae.new wr 62 #[.int .i8 0,.string (aa ns),.string (aa loc),.slice Ax aw.length cx,.string (aa tx)]);have HF:=hide (sf.out _ lX.out)
    go_wp2_with fail
    refine HF.out.mono ?_;rintro e w2 ⟨rfl,ag⟩;have fF:=hide (lX.out.trans (ag.mono lX.out.size));have cK:=hide (ur.out.go ag);have qw:=hide (HSt.out.kept fF.out.size (fun k hk _ _=>fF.out.block k hk));have wM:=hide (jY.out.same (fF.out.block _ jY.out.lt));have wP:=hide (lZ.out.go fF.out);have ah:=hide (HB.out.trans (fF.out.mono HB.out.size));have cG:w.heap.size+2≤w2.heap.size:=Nat.le_trans aM fF.out.size;have k0:=cK.out.cell 0;clear ag y0 y1 y2 y3 y4
    rcases ado with ⟨hg1,cH⟩|hg1
    ·subst hg1;subst cH;dsimp only
     go_wp2_with (at_builtin;go_loud (refine Xy rfl (.tmp 41) (.tmp 43) 166 rfl Tryz.underlying166 (w.heap.size+2) Ao 0 co O 0 rfl qw.out rfl (by omega) cG ?_);intro g8 dx w8 ahY aN aF vJ;have vz:∀k,k<w.heap.size+2→k<w2.heap.size→w8.heap[k]?=w2.heap[k]?:=fun k h1 h2=>aF.block k h2 (fun e=>by have:=(vJ k e.symm).1;omega);have uz:=hide ((vz _ (by omega) (by omega)).trans wP.out);have Gp:=hide (wM.out.same (vz _ (by omega) (by omega)));have gO:=hide (ah.out.grown aF ah.out.size (fun k e=>by have:=(vJ k e).1;omega));have cL:=hide aN;have J3:=Nat.le_trans cG aF.size;have q2:=ae.cell uz.out 2;have f2:=ae.frozen uz.out 2;clear aN aF vJ vz)
     go_roundg (N-(0+1))
     case measure=>have:=eM.out;omega
     case rel=>
      have hz:(w8.setCell ⟨w.heap.size+1,2,none⟩ (.int .i64 (max dp 1))).heap.size=w8.heap.size:=by simp[World.setCell]
      have KP:ae (w8.setCell ⟨w.heap.size+1,2,none⟩ (.int .i64 (max dp 1))) (w.heap.size+1) 122 #[.slice (some ⟨b,off,none⟩) N c,.map (some w.heap.size),.int .i64 (max dp 1)]:=by
       have:=ae.aG uz.out 2 (.int .i64 (max dp 1))
       simpa using this
      refine⟨0+1,0+1,dx,km,some ⟨g8,0,none⟩,D,(max dp 1),rfl,by omega,by first|rfl|go_num,rfl,by rw[dB.out];show (O++[0]).length=_;rw[List.length_append,qp.out];rfl,?_,?_,by omega,KP,gO.out.setCell (p:=⟨w.heap.size+1,2,none⟩) (by show _≤w.heap.size+1;omega) _,by rw[hz];exact J3⟩
      ·rw[dB.out];exact .inl (ownsRow_setCell_other cL.out (by simp[Value.ownBlock];have:=(aI cL.out g8 rfl).1;omega) _)
      rw[dB.out];exact Gp.out.same (Below.heap_setCell _ _ _ _ (by show w.heap.size≠w.heap.size+1;omega))
    dsimp only
    go_wp2_with (at_builtin;go_loud (refine Xy rfl (.tmp 41) (.tmp 43) 166 rfl Tryz.underlying166 (w.heap.size+2) Ao no co O i rfl qw.out rfl (by omega) cG ?_);intro g8 dx w8 ahY aN aF vJ;have vz:∀k,k<w.heap.size+2→k<w2.heap.size→w8.heap[k]?=w2.heap[k]?:=fun k h1 h2=>aF.block k h2 (fun e=>by have:=(vJ k e.symm).1;omega);have uz:=hide ((vz _ (by omega) (by omega)).trans wP.out);have Gp:=hide (wM.out.same (vz _ (by omega) (by omega)));have gO:=hide (ah.out.grown aF ah.out.size (fun k e=>by have:=(vJ k e).1;omega));have cL:=hide aN;have J3:=Nat.le_trans cG aF.size;have q2:=ae.cell uz.out 2;have f2:=ae.frozen uz.out 2;clear aN aF vJ vz)
    go_roundg (N-(i+1))
    case measure=>have:=eM.out;omega
    case rel=>
     have hz:(w8.setCell ⟨w.heap.size+1,2,none⟩ (.int .i64 (max dp ((no:Int)+1)))).heap.size=w8.heap.size:=by simp[World.setCell]
     have KP:ae (w8.setCell ⟨w.heap.size+1,2,none⟩ (.int .i64 (max dp ((no:Int)+1)))) (w.heap.size+1) 122 #[.slice (some ⟨b,off,none⟩) N c,.map (some w.heap.size),.int .i64 (max dp ((no:Int)+1))]:=by
      have:=ae.aG uz.out 2 (.int .i64 (max dp ((no:Int)+1)))
      simpa using this
     refine⟨i+1,no+1,dx,km,some ⟨g8,0,none⟩,D,(max dp ((no:Int)+1)),rfl,by omega,by first|rfl|go_num,rfl,by rw[dB.out];show (O++[i]).length=_;rw[List.length_append,qp.out];rfl,?_,?_,by omega,KP,gO.out.setCell (p:=⟨w.heap.size+1,2,none⟩) (by show _≤w.heap.size+1;omega) _,by rw[hz];exact J3⟩
     ·rw[dB.out];exact .inl (ownsRow_setCell_other cL.out (by simp[Value.ownBlock];have:=(aI cL.out g8 rfl).1;omega) _)
     rw[dB.out];exact Gp.out.same (Below.heap_setCell _ _ _ _ (by show w.heap.size≠w.heap.size+1;omega))
   ·rw[show ((1:Nat):Int)=1 from rfl] at y0 sf;have tK:Evs.lV (O'++[p],M) i ⟨1,⟨ns,loc⟩,aw,tx⟩=(O',(p,i) :: M):=by unfold Evs.lV;rw[if_neg (show ¬(1:Nat)=0 by decide),if_pos rfl];simp
    have dB:=hide (hnx1.trans tK);obtain⟨m,hm⟩:∃m,O'.length=m:=⟨_,rfl⟩;have dh:no=m+1:=by rw[←qp.out,List.length_append,hm];rfl
    have Hm:=hide hm;subst dh;have hg1:(((m+1:Nat):Int)==0)=false:=by rw[beq_eq_false_iff_ne];omega
    have cH:((m:Int)+1==0)=false:=by rw[beq_eq_false_iff_ne];omega
    have zm:IntKind.i64.wrap (((m+1:Nat):Int)-1)=(m:Int):=by rw[IntWalk.i64_in _ (by omega)];omega
    have zm2:IntKind.i64.wrap ((m:Int)+1-1)=(m:Int):=by rw[IntWalk.i64_in _ (by omega)];omega
    have hxp:∃z,xs[p]?=some z:=⟨_,List.getElem?_eq_getElem (by rw[HN.out];omega)⟩;obtain⟨z,hz⟩:=hxp
    have Bk:z.e.name=⟨ns,loc⟩:=by
     unfold Evs.kL at lJ;rw[List.getElem?_map,hz] at lJ;exact lJ
    obtain⟨b2,U5,eA,gG,xW⟩:=Cy.out.at_ hz;cases eA;have p1:=xW.c1;have p2:=xW.c2;rw[Bk] at p1 p2;dsimp only at p1 p2;have ED:(0:Int)≤p∧(p:Int)<N:=by omega
    have hp9:p≤1000000000:=by omega
    clear hnx1 tK hz Bk xW lJ hm;have lX:=hide (aA wr (.cells #[.int .i8 1,.string (aa ns),.string (aa loc),.slice Ax aw.length cx,.string (aa tx)] 62));have ur:=hide (ae.new wr 62 #[.int .i8 1,.string (aa ns),.string (aa loc),.slice Ax aw.length cx,.string (aa tx)]);have HF:=hide (sf.out _ lX.out)
    go_wp2_with fail
    refine HF.out.mono ?_;rintro e w2 ⟨rfl,ag⟩;have fF:=hide (lX.out.trans (ag.mono lX.out.size));have cK:=hide (ur.out.go ag);have qw:=hide (HSt.out.kept fF.out.size (fun k hk _ _=>fF.out.block k hk));have wM:=hide (jY.out.same (fF.out.block _ jY.out.lt));have wP:=hide (lZ.out.go fF.out);have ah:=hide (HB.out.trans (fF.out.mono HB.out.size));have cG:w.heap.size+2≤w2.heap.size:=Nat.le_trans aM fF.out.size;have k0:=cK.out.cell 0;have k1:=cK.out.cell 1;have k2:=cK.out.cell 2;have r1:=(fF.out.cell (bI p1)).trans p1;have r2:=(fF.out.cell (bI p2)).trans p2;obtain⟨sb,so,rfl,rq,hsc⟩:=qw.out.reads.2 (by omega);have s0:=hsc m _ (afM (p:=p) (by rw[List.getElem?_append_right (by rw[Hm.out];exact Nat.le_refl _),Hm.out,Nat.sub_self];rfl));have amx:(0:Int)≤m∧(m:Int)<((m+1:Nat):Int):=by omega
    clear ag y0 y1 y2 y3 y4 p1 p2 hsc;dsimp only
    go_wp2_with fail
    go_quiet (fail)
    have GF:=hide (show j8 (w2.drewN nq) (w.heap.size+2) (some ⟨sb,so,none⟩) (m+1) co (O'++[p]) from qw.out.kept (Nat.le_refl _) (fun _ _ _ _=>rfl));have Gn:=hide (show fZ (w2.drewN nq) w.heap.size km M D from wM.out.same rfl);have GG:=hide (wP.out.drewN nq);have ax:=hide (show Below w.heap.size w (w2.drewN nq) from⟨ah.out.os,ah.out.tape,ah.out.output,ah.out.size,ah.out.block⟩);have mq:w.heap.size+2≤(w2.drewN nq).heap.size:=cG;have s3:(w2.drewN nq).cell? ⟨sb,so+m,none⟩=some (.int .i64 (p:Int)):=s0;clear k0 k1 k2 r1 r2 s0;generalize w2.drewN nq=W at GF Gn GG ax mq s3 ⊢;have t1:=GG.out.cell 1;have eF:km<maxLen:=by unfold maxLen;omega
    obtain⟨w9,aee,AR,vA⟩:=(Gn.out.same (W':=W.drew) rfl).own.update (t:=120) pV Tryz.underlying120 eF (key:=.int .i64 (p:Int)) (val:=.int .i64 (i:Int)) (keyOf_int hp9) (plainElem_int Tryz.underlying3 (WalkArith.wf_i64 (by omega)))
    go_wp2_with fail
    have xB:=GF.out.cap;have Eu:m≤co:=by omega
    clear xB
    go_region
    go_wp2;have fP:∀k,k<W.heap.size→k≠w.heap.size→w9.heap[k]?=W.heap[k]?:=fun k h1 h2=>vA.block k h1 (fun e=>h2 (by injection e));have nz:W.heap.size≤w9.heap.size:=vA.size;have Yn:=hide ((Gn.out.same (W':=W.drew) rfl).next AR);have YR:=hide ((GF.out.cut Hm.out).kept nz (fun k h1 _ h2=>fP k h1 (by omega)));have YS:=hide ((fP _ (by omega) (by omega)).trans GG.out);have Co:=hide ((ax.out.drew).grown vA ax.out.size (fun k e=>by injection e with e;omega));clear aee AR vA
    go_roundg (N-(i+1))
    case measure=>have:=eM.out;omega
    case rel=>exact⟨i+1,m,m,km+1,some ⟨sb,so,none⟩,_,dp,rfl,by omega,by first|rfl|go_num,rfl,by rw[dB.out];exact Hm.out,by rw[dB.out];exact YR.out,by rw[dB.out];exact Yn.out,by omega,YS.out,Co.out,Nat.le_trans mq nz⟩
   rw[show ((2:Nat):Int)=2 from rfl] at y0 sf;have tK:Evs.lV (O,M) i ⟨2,⟨ns,loc⟩,aw,tx⟩=(O,M):=by unfold Evs.lV;rw[if_neg (show ¬(2:Nat)=0 by decide),if_neg (show ¬(2:Nat)=1 by decide)]
   have dB:=hide (hnx1.trans tK)
   have hg1:((no:Int)==0)=false:=by
    rw[beq_eq_false_iff_ne];have:no≠0:=fun h=>Ez (List.eq_nil_of_length_eq_zero (by rw[qp.out];exact h));omega
   obtain⟨j,hj⟩:∃j,j+1=i:=⟨i-1,by omega⟩
   have EE:∃z,xs[j]?=some z∧z.e=q:=by
    rw[show i-1=j by omega,List.getElem?_map] at hq;exact Option.map_eq_some_iff.1 hq
   obtain⟨z,hz,Bi⟩:=EE;obtain⟨b2,U5,eA,ag,xW⟩:=Cy.out.at_ hz;cases eA;have p0:=xW.c0;rw[Bi] at p0;have oG:((q.kind:Int)==2)=false:=by rw[beq_eq_false_iff_ne];omega
   have z1:IntKind.i64.wrap ((i:Int)-1)=(j:Int):=by rw[IntWalk.i64_in _ (by omega)];omega
   have np:(0:Int)≤j∧(j:Int)<N:=by omega
   have Hj:=hide hj;obtain⟨qk,Tl⟩:∃k:Int,(q.kind:Int)=k:=⟨_,rfl⟩;rw[Tl] at p0 oG;clear hnx1 tK Ez hq hqk hz Bi xW hj Tl qX;have lX:=hide (aA wr (.cells #[.int .i8 2,.string (aa ns),.string (aa loc),.slice Ax aw.length cx,.string (aa tx)] 62));have ur:=hide (ae.new wr 62 #[.int .i8 2,.string (aa ns),.string (aa loc),.slice Ax aw.length cx,.string (aa tx)]);have HF:=hide (sf.out _ lX.out)
   go_wp2_with fail
   refine HF.out.mono ?_;rintro e w2 ⟨rfl,ag⟩;have fF:=hide (lX.out.trans (ag.mono lX.out.size));have cK:=hide (ur.out.go ag);have qw:=hide (HSt.out.kept fF.out.size (fun k hk _ _=>fF.out.block k hk));have wM:=hide (jY.out.same (fF.out.block _ jY.out.lt));have wP:=hide (lZ.out.go fF.out);have ah:=hide (HB.out.trans (fF.out.mono HB.out.size));have cG:w.heap.size+2≤w2.heap.size:=Nat.le_trans aM fF.out.size;have k0:=cK.out.cell 0;have p2:=(fF.out.cell (bI p0)).trans p0;clear ag y0 y1 y2 y3 y4 p0;dsimp only;go_wp2
   go_roundg (N-(i+1))
   case measure=>have:=eM.out;omega
   case rel=>exact⟨i+1,no,co,km,Ao,D,dp,rfl,by omega,by first|rfl|go_num,rfl,by rw[dB.out];exact qp.out,by rw[dB.out];exact qw.out,by rw[dB.out];exact wM.out,by omega,wP.out,ah.out,cG⟩
  have AE:i=N:=by omega
  subst AE;have adZ:no=0:=by rw[←qp.out,Oz.out];rfl
  subst adZ;have qX:((i:Int)==0)=false:=by rw[beq_eq_false_iff_ne];omega
  go_wp2;go_ret;refine⟨HB.out,w.heap.size+1,w.heap.size,rfl,by omega,Nat.le_refl _,⟨dp,lZ.out⟩,km,D,?_,AJ⟩;rw[uk.out];exact jY.out
end
section
open Go.RowKit Tk Sx Go.WideShapes

namespace Evs
def uT(l:List Ev)(p:Nat):Nat:=(bO p (gT l)).getD 0
end Evs
structure nK(W:World)(B:Nat)(A:Option Addr)(c:Nat)(xs:List Ew):Prop where
 l:pk W B A xs
 hB:B≤W.heap.size
 w:Evs.qM (xs.map (·.e))
 s:PH xs
 c:xs.length≤c
theorem nK.go{W W':World}{B c:Nat}{A:Option Addr}{xs:List Ew}(h:nK W B A c xs)(hb:Below W.heap.size W W'):nK W' B A c xs:=⟨h.l.below (hb.mono h.hB),Nat.le_trans h.hB hb.size,h.w,h.s,h.c⟩
theorem fZ.val{W:World}{mb n p:Nat}{m:List (Nat×Nat)}{D:DataW Unit}(h:fZ W mb n m D){c:Int}(hc:D.atKey (jO p) (.lit (.int .i64 0))=.lit (.int .i64 c)):c=(((Evs.bO p m).getD 0:Nat):Int):=by
 cases hl:Evs.bO p m with
 | none=>
  have h2:=(h.no p hl).2;rw[h2,DataW.lit.injEq,Lit.int.injEq] at hc;exact hc.2.symm
 | some k=>
  have h2:=(h.yes p k hl).2;rw[h2,DataW.lit.injEq,Lit.int.injEq] at hc;exact hc.2.symm
theorem fZ.find{W:World}{mb n p:Nat}{m:List (Nat×Nat)}{D:DataW Unit}(h:fZ W mb n m D)(hp:p≤1000000000) :
  (Instr.lookup 120 (.map (some mb)) (.int .i64 (p:Int)) false).run Tryz.prog W=.ok (.int .i64 (((Evs.bO p m).getD 0:Nat):Int)) W:=by
 obtain⟨c,hrun,hc,_⟩:=h.own.lookup_int pV Tryz.underlying120 Tryz.underlying3 (pg W) (keyOf_int hp);rw[hrun,h.val hc]
theorem fZ.find_ok{W:World}{mb n p:Nat}{m:List (Nat×Nat)}{D:DataW Unit}(h:fZ W mb n m D)(hp:p≤1000000000) :
  (Instr.lookup 120 (.map (some mb)) (.int .i64 (p:Int)) true).run Tryz.prog W=.ok (.tuple #[.int .i64 (((Evs.bO p m).getD 0:Nat):Int),.bool (Evs.bO p m).isSome]) W:=by
 obtain⟨v,ps,hrun,hv⟩:=h.own.look_ok pV Tryz.underlying120 (pg W) (plainElem_int Tryz.underlying3 (by decide)) (keyOf_int hp);obtain⟨c,rfl,hc,_⟩:=plainElem_int_inv Tryz.underlying3 hv
 have hb:Maps.has D (jO p)=(Evs.bO p m).isSome:=by
  cases hl:Evs.bO p m with
  | none=>exact (h.no p hl).1
  | some k=>exact (h.yes p k hl).1
 rw[hrun,h.val (congrArg Prod.fst hc),hb]
theorem Iz(xs:List Ew)(A:Option Addr)(c B i:Nat)(x:Ew)(w:World)(h:nK w B A c xs)(hx:xs[i]?=some x)(hk:x.e.kind=0) :
  Calls Tryz.prog 41 #[.slice A xs.length c,.int .i64 (i:Int)] w fun e w'=>Below w.heap.size w w'∧∃T mb,e=.returned (.pointer (some ⟨T,0,none⟩))∧PS w' w.heap.size T mb A xs.length c (Evs.gT (xs.map (·.e))):=by
 have HG:=hide (fun W (hb:Below w.heap.size w W)=>acG xs A c W ((h.l.more h.hB).below hb |>.more hb.size) h.w h.s);obtain⟨b,off,rfl,hb,hy⟩:=h.l.at_ hx;have y0:=hy.c0;rw[hk] at y0;rw[show ((0:Nat):Int)=0 from rfl] at y0;have tB:=(List.getElem?_eq_some_iff.1 hx).1;have hn:=h.s.len;obtain⟨N,hN⟩:∃N,xs.length=N:=⟨_,rfl⟩;rw[hN] at HG tB hn ⊢;have SG:(0:Int)≤i∧(i:Int)<N:=by omega
 clear h hx hk hy hN
 go_enter Tryz.func41,Tryz.ntmps41
 go_wp2_with fail
 refine (HG.out _ (Below.refl _ _)).mono ?_;rintro e w2 ⟨ag,T,mb,rfl,ht⟩;have ah:=hide ag;have HT:=hide ht;clear ag ht y0;dsimp only;go_wp2;go_ret;exact⟨ah.out,T,mb,rfl,HT.out⟩
theorem XN(xs:List Ew)(A:Option Addr)(c B i:Nat)(x:Ew)(w:World)(h:nK w B A c xs)(hx:xs[i]?=some x)(hk:x.e.kind=0) :
  Calls Tryz.prog 44 #[.slice A xs.length c,.int .i64 (i:Int)] w fun e w'=>e=.returned (.tuple #[.int .i64 ((Evs.uT (xs.map (·.e)) i:Nat):Int),.bool true])∧Below w.heap.size w w':=by
 have HG:=hide (Iz xs A c B i x w h hx hk);have tB:=(List.getElem?_eq_some_iff.1 hx).1;have hn:=h.s.len;unfold Evs.uT;obtain⟨l,hl⟩:∃l,Evs.gT (xs.map (·.e))=l:=⟨_,rfl⟩;rw[hl] at HG ⊢;obtain⟨N,hN⟩:∃N,xs.length=N:=⟨_,rfl⟩;rw[hN] at HG tB hn ⊢;obtain⟨z,hz⟩:∃z:Int,(((Evs.bO i l).getD 0:Nat):Int)=z:=⟨_,rfl⟩;rw[hz];have Hz:=hide hz;clear h hx hk hN hl hz
 go_enter Tryz.func44,Tryz.ntmps44
 go_wp2_with fail
 refine HG.out.mono ?_;rintro e w2 ⟨ag,T,mb,rfl,hT,gH,⟨d,rA⟩,k,D,hm,vC⟩;have ah:=hide ag;have t1:=rA.cell 1;have hf:=hm.find (p:=i) (by omega);rw[Hz.out] at hf;clear ag hm rA;dsimp only;go_wp2;go_ret2;exact⟨rfl,ah.out⟩
end
section
open Go.RowKit Tk Sx Go.WideShapes

namespace Evs
def mD(n:Nm):List fA→Option Nat
 | []=>none
 | a :: r=>if a.name=n then some 0 else (mD n r).map (· + 1)
def ke(n:Nm)(l:List fA):Option L:=(mD n l).bind fun k=>(l[k]?).map (·.val)
theorem ES{n:Nm}:∀{l:List fA} {k:Nat},mD n l=some k→∃a,l[k]?=some a∧a.name=n
 | [],k,h=>by cases h
 | a :: r,k,h=>by
  unfold mD at h
  split at h
  ·rename_i ha
   cases h;exact⟨a,rfl,ha⟩
  obtain⟨j,hj,e⟩:=Option.map_eq_some_iff.1 h;subst e;obtain⟨b,hb,hn⟩:=ES hj;exact⟨b,by simpa using hb,hn⟩
theorem aeC{n:Nm}{l:List fA}{k:Nat}{a:fA}(h:l[k]?=some a):mD n (l.drop k)=if a.name=n then some 0 else (mD n (l.drop (k+1))).map (· + 1):=by
 obtain⟨hk,e⟩:=List.getElem?_eq_some_iff.1 h;rw[List.drop_eq_getElem_cons hk,e];rfl
end Evs
theorem aan(a:fA)(n:Nm)(nb:Nat)(w:World)(hn:ae w nb 57 #[.string (aa n.ns),.string (aa n.loc)]) :
  Calls Tryz.prog 70 #[.agg #[.string (aa a.name.ns),.string (aa a.name.loc),.string (aa a.val)],.pointer (some ⟨nb,0,none⟩)] w fun e w'=>e=.returned (.bool (fL a.name n))∧Below w.heap.size w w':=by
 have hE:=fun W=>DA W a.name n;obtain⟨q,hq⟩:∃q,fL a.name n=q:=⟨_,rfl⟩;simp only[hq] at hE;rw[hq];have HO:=hide (aA w (.cells #[.string (aa a.name.ns),.string (aa a.name.loc),.string (aa a.val)] 125));have t0:=(hn.go HO.out).cell 0;have t1:=(hn.go HO.out).cell 1;clear hq hn
 go_enter Tryz.func70,Tryz.ntmps70
 go_wp2;go_ret;exact⟨rfl,HO.out⟩
def Lg(o:Option Nat):Value:=match o with
 | some k=>.int .i64 (k:Int)
 | none=>.int .i64 (-1)
theorem aeF(l:List fA)(A:Option Addr)(c:Nat)(n:Nm)(nb:Nat)(w:World)(hr:Reads w w.heap.size 3 A l.length (jh l))(hn:ae w nb 57 #[.string (aa n.ns),.string (aa n.loc)])(hl:l.length≤1000000) :
  Calls Tryz.prog 69 #[.slice A l.length c,.func (.func 70) #[] #[.pointer (some ⟨nb,0,none⟩)]] w fun e w'=>e=.returned (Lg (Evs.mD n l))∧Below w.heap.size w w':=by
 obtain⟨N,hN⟩:∃N,l.length=N:=⟨_,rfl⟩;have HN:=hide hN;rw[hN] at hr hl ⊢;have HR:=hide hr;have Hn:=hide hn;have HA:=hide (fun a W h=>aan a n nb W h);obtain⟨z,hz⟩:∃z,Evs.mD n l=z:=⟨_,rfl⟩;rw[hz];have Hz:=hide hz;clear hr hn hN hz
 go_enter Tryz.func69,Tryz.ntmps69
 go_wp2
 go_loopg [5,8] N (fun gk v5 v8 wr=>∃i:Nat,gk=N-i∧i≤N∧v8=.int .i64 (i:Int)∧(Evs.mD n (l.drop i)).map (· + i)=z∧Below w.heap.size w wr)
 case atStart=>exact⟨0,rfl,by omega,rfl,by rw[←Hz.out];simp,Below.refl _ _⟩
 case round=>
  obtain⟨i,aq,hi,rfl,hzz,hb⟩:=hrel;have eM:=hide aq;have HB:=hide hb;have Ie:=hide hzz;clear aq hb hzz
  by_cases hlt:i<N
  ·obtain⟨a,ha⟩:∃a,l[i]?=some a:=⟨_,List.getElem?_eq_getElem (by rw[HN.out];exact hlt)⟩;obtain⟨b,off,rfl,jl,hx⟩:=IA (by rw[HN.out];exact HR.out.below HB.out) ha;have x0:=hx.c0;have x1:=hx.c1;have x2:=hx.c2;have hd:=Evs.aeC (n:=n) ha;have X0:=hide (HA.out a wr (Hn.out.go HB.out));have Hd:=hide hd;clear ha hx hd
   go_wp2_with fail
   refine X0.out.mono ?_;rintro e w2 ⟨rfl,ag⟩;have ah:=hide (HB.out.trans (ag.mono HB.out.size));clear ag;dsimp only
   cases hq:fL a.name n with
   | true=>
    have hv:some i=z:=by
     have:=Ie.out;rw[Hd.out,if_pos ((zO _ _).1 hq)] at this
     simpa using this
    subst hv;clear hq;go_wp2;go_ret;exact⟨rfl,ah.out⟩
   | false=>
    have hv:=hide (show (Evs.mD n (l.drop (i+1))).map (· + (i+1))=z by
     have:=Ie.out;rw[Hd.out,if_neg (fun h=>by rw[(zO _ _).2 h] at hq;cases hq)] at this;rw[←this,Option.map_map];congr 1
     funext j
     simp only[Function.comp]
     omega)
    clear hq;go_wp2
    go_roundg (N-(i+1))
    case measure=>have:=eM.out;omega
    case rel=>exact⟨i+1,rfl,by omega,by first|rfl|go_num,hv.out,ah.out⟩
  have Bk:z=none:=by
   have:=Ie.out;rw[List.drop_of_length_le (by rw[HN.out];omega)] at this;exact this.symm
  subst Bk;go_wp2;go_ret;exact⟨rfl,HB.out⟩
def PX(o:Option L):Value:=match o with
 | some v=>.tuple #[.string (aa v),.bool true]
 | none=>.tuple #[.string ⟨#[]⟩,.bool false]
theorem XG(xs:List Ew)(A:Option Addr)(c B i:Nat)(x:Ew)(n:Nm)(w:World)(h:nK w B A c xs)(hx:xs[i]?=some x)(hk:x.e.kind=0) :
  Calls Tryz.prog 45 #[.slice A xs.length c,.int .i64 (i:Int),.agg #[.string (aa n.ns),.string (aa n.loc)]] w fun e w'=>e=.returned (PX (Evs.ke n x.e.attrs))∧Below w.heap.size w w':=by
 have HO:=hide (aA w (.cells #[.string (aa n.ns),.string (aa n.loc)] 57));have HK:=hide (ae.new w 57 #[.string (aa n.ns),.string (aa n.loc)]);have HG:=hide (Iz xs A c B i x (w.alloc (.cells #[.string (aa n.ns),.string (aa n.loc)] 57)) (h.go (aA w _)) hx hk);have iA:=List.mem_of_getElem? hx;have tB:=(List.getElem?_eq_some_iff.1 hx).1;have bC:=h.s.len;have Az:=h.s.few x iA;have hB:=h.hB;have HL:=hide h.l;have ZA:=hide iA;have Hx:=hide hx;obtain⟨N,hN⟩:∃N,xs.length=N:=⟨_,rfl⟩;rw[hN] at HG tB bC ⊢;have SG:(0:Int)≤i∧(i:Int)<N:=by omega
 obtain⟨z,hz⟩:∃z,Evs.ke n x.e.attrs=z:=⟨_,rfl⟩;rw[hz];have Hz:=hide hz;clear h hx hk hN iA hz
 go_enter Tryz.func45,Tryz.ntmps45
 go_wp2_with fail
 refine HG.out.mono ?_;rintro e w2 ⟨ag,T,mb,rfl,-⟩;have ah:=hide (HO.out.trans (ag.mono (by simp)));have cK:=hide (HK.out.go ag);clear ag;have si:=hide (HL.out.below (ah.out.mono hB));obtain⟨b,off,rfl,jl,hy⟩:=si.out.at_ Hx.out;have y3:=hy.c3;have ry:=si.out.sub x ZA.out;have HI:=hide (aeF x.e.attrs x.A x.c n w.heap.size w2 (ry.more (Nat.le_trans hB ah.out.size)) cK.out Az);have Zv:=hide ry;clear hy ry;dsimp only
 go_wp2_with fail
 refine HI.out.mono ?_;rintro e w3 ⟨rfl,aD⟩;have ax:=hide (ah.out.trans (aD.mono ah.out.size));have y3':=(aD.cell (bI y3)).trans y3;have vK:=Zv.out.below (aD.mono (Nat.le_trans hB ah.out.size));clear aD y3;dsimp only
 cases hi:Evs.mD n x.e.attrs with
 | none=>
  have hv:z=none:=by rw[←Hz.out];unfold Evs.ke;rw[hi];rfl
  subst hv;clear hi vK;unfold Lg;dsimp only;go_wp2;go_ret2;exact⟨rfl,ax.out⟩
 | some k=>
  obtain⟨a,ha,-⟩:=Evs.ES hi;have hv:z=some a.val:=by rw[←Hz.out];unfold Evs.ke;rw[hi];show ((x.e.attrs[k]?).map (·.val))=_;rw[ha];rfl
  subst hv;obtain⟨b2,U5,eA,ag,ou⟩:=IA vK ha;have a2:=ou.c2;have eE:=(List.getElem?_eq_some_iff.1 ha).1;obtain⟨m,hm⟩:∃m,x.e.attrs.length=m:=⟨_,rfl⟩;rw[eA,hm] at y3';rw[hm] at eE Az;have fS:(0:Int)≤k∧(k:Int)<m:=by omega
  clear hi vK ha ou hm;unfold Lg;dsimp only;go_wp2;go_ret2;exact⟨rfl,ax.out⟩
end
section
open Go.RowKit Go.Shelf Tk Sx Go.WideShapes

attribute [local go_sem] Oper.semAt_some

namespace Evs
def iV(m:List (Nat×Nat))(en:Nat):Nat→Nat→List Nat
 | 0,_=>[]
 | f+1,k=>if k<en then match bO k m with
  | some e=>k :: iV m en f (e+1)
  | none=>iV m en f (k+1)
  else []
def Ck(m:List (Nat×Nat)):Prop:=∀p k,bO p m=some k→p≤k
theorem MK(l:List Ev):∀i,Ck (upto l i).2∧∀p k,bO p (upto l i).2=some k→k<i
 | 0=>⟨fun p k h=>(by cases h),fun p k h=>(by cases h)⟩
 | i+1=>by
  obtain⟨ih,ET⟩:=MK l i;have hlt:=ML l i;rw[upto]
  cases l[i]? with
  | none=>exact⟨ih,fun p k h=>by have:=ET p k h;omega⟩
  | some e=>
   dsimp only;unfold lV;split
   ·exact⟨ih,fun p k h=>by have:=ET p k h;omega⟩
   split
   ·have hg:(upto l i).1.getLastD 0≤i:=by
     cases hl:(upto l i).1.getLast? with
     | none=>rw[List.getLastD_eq_getLast?,hl];exact Nat.zero_le _
     | some q=>
      have:=hlt q (List.mem_of_getLast? hl);rw[List.getLastD_eq_getLast?,hl];show q≤i;omega
    refine⟨fun p k h=>?_,fun p k h=>?_⟩
    ·unfold bO at h
     split at h
     ·rename_i he
      cases h;dsimp only at he ⊢;omega
     exact ih p k h
    unfold bO at h
    split at h
    ·cases h;exact Nat.lt_succ_self _
    have:=ET p k h;omega
   exact⟨ih,fun p k h=>by have:=ET p k h;omega⟩
def rH(l:List Ev)(i:Nat):List Nat:=iV (gT l) (uT l i) l.length (i+1)
end Evs
def mU(L:List Nat)(W W':World):Prop:=∀k∈L,W'.heap[k]?=W.heap[k]?
theorem mU.trans{L:List Nat}{X Y Z:World}(h:mU L X Y)(k:mU L Y Z):mU L X Z:=fun b hb=>(k b hb).trans (h b hb)
abbrev Kd(N:Nat):={ x:Nat // x<N }
theorem ae0(n:Nat)(hn:1≤n)(l Ib Tb T mb i nn:Nat)(A:Option Addr)(N c:Nat)(d:Int)(m:List (Nat×Nat))(D:DataW Unit)(hi:i<N)(hN:N≤10000000)(hf:Evs.Ck m)(pL:∀p k,Evs.bO p m=some k→k<N)(kz:(Evs.bO i m).getD 0≤N)
  (J Jx:List (Kd N)→World→Prop) (W:World) (hJ:AbidesFrom W.heap.size J)
  (hY:∀(pre:List (Kd N)) (x:Kd N) (W:World),J pre W→pre.length<N→YieldAt Fence.wide (n-1) Tryz.prog l #[.int .i64 (x.1:Int)] W fun e W'=>
   (e=.returned (.bool true)∧J (pre++[x]) W'∧mU [Ib,Tb,T,mb] W W')∨(e=.returned (.bool false)∧Jx (pre++[x]) W'))
  (pI:W.cell? ⟨Ib,0,none⟩=some (.int .i64 (i:Int))) (vp:W.cell? ⟨Tb,0,none⟩=some (.pointer (some ⟨T,0,none⟩))) (hT:ae W T 122 #[.slice A N c,.map (some mb),.int .i64 d]) (hm:fZ W mb nn m D) (h0:J [] W) :
  CallsIn Fence.wide n Tryz.prog 68 #[.func (.yield l) #[] #[],.pointer (some ⟨Ib,0,none⟩),.pointer (some ⟨Tb,0,none⟩)] W fun e W'=>(∃v,e=.returned v)∧
   ((∃ys:List (Kd N),ys.map (·.1)=Evs.iV m ((Evs.bO i m).getD 0) N (i+1)∧J ys W')∨(∃pre:List (Kd N),(∃rest,pre.map (·.1)++rest=Evs.iV m ((Evs.bO i m).getD 0) N (i+1))∧Jx pre W')):=by
 refine callsIn_of_wp Tryz.func68 rfl trivial ?_ rfl;simp only[Tryz.ntmps68,List.size_toArray,List.length_cons,List.length_nil,Nat.reduceAdd,Nat.reduceSub,Array.replicate_succ,Array.replicate_zero,List.push_toArray,List.append_toArray,List.nil_append,List.cons_append];obtain⟨en,hen⟩:∃en,(Evs.bO i m).getD 0=en:=⟨_,rfl⟩;have OQ:=hide hen;rw[hen] at kz ⊢;obtain⟨all,hall⟩:∃all,Evs.iV m en N (i+1)=all:=⟨_,rfl⟩;rw[hall];have l5:=hide hall;have Hf:=hide hf;have HJ:=hide hJ;clear hall hen hf hJ;gi_wp2
 gi_loopw [4,5,6] (fun v4 v5 v6 wr=>∃(k f:Nat) (pre:List (Kd N)),k≤N+1∧v4=.int .i64 (k:Int)∧pre.length+i+1≤k∧en≤k+f∧pre.map (·.1)++Evs.iV m en f k=all∧J pre wr∧mU [Ib,Tb,T,mb] W wr)
  (fun v4 _ _ _=>N+1-(intOf v4).toNat)
 case atStart=>exact⟨i+1,N,[],by omega,by first|rfl|go_num,by simp,by omega,l5.out,h0,fun _ _=>rfl⟩
 case round=>
  obtain⟨k,f,pre,hk,rfl,hpl,hkf,jt,jk,jI⟩:=hrel;have cN:=hide jt;have qi:=hide jI;have qh:=hide jk;clear jt jI jk;have lI:Ib<W.heap.size:=bI pI;have cI:wr.cell? ⟨Ib,0,none⟩=some (.int .i64 (i:Int)):=(World.cell?_of_block (a:=⟨Ib,0,none⟩) (qi.out Ib (by simp))).trans pI;have cT:wr.cell? ⟨Tb,0,none⟩=some (.pointer (some ⟨T,0,none⟩)):=(World.cell?_of_block (a:=⟨Tb,0,none⟩) (qi.out Tb (by simp))).trans vp;have kT:ae wr T 122 #[.slice A N c,.map (some mb),.int .i64 d]:=(qi.out T (by simp)).trans hT;have c1:=kT.cell 1;have Ey:=hm.same (qi.out mb (by simp));have fi:=Ey.find (p:=i) (by omega);have fk:=Ey.find_ok (p:=k) (by omega);rw[OQ.out] at fi;have fS:(0:Int)≤k∧(k:Int)≤N+1:=by omega
  have tE:=Ey.same (W':=wr.drew) rfl;have fid:=tE.find (p:=i) (by omega);have DD:=tE.find_ok (p:=k) (by omega);rw[OQ.out] at fid;have Zl:=hide tE;have yK:=hide (HJ.out pre wr wr.drew none qh.out ⟨rfl,rfl,rfl,Nat.le_refl _,fun _ _ _=>rfl⟩ (fun r e=>by cases e));have mO:=hide (show mU [Ib,Tb,T,mb] W wr.drew from qi.out);clear Ey tE
  by_cases hlt:k<en
  ·have dD:(k:Int)<(en:Int):=by omega
   have nr:k<N:=by omega
   obtain⟨f,rfl⟩:∃g,f=g+1:=⟨f-1,by omega⟩
   have hstep:Evs.iV m en (f+1) k=match Evs.bO k m with
    | some e=>k :: Evs.iV m en f (e+1)
    | none=>Evs.iV m en f (k+1):=by rw[Evs.iV,if_pos hlt]
   cases hl:Evs.bO k m with
   | none=>
    rw[hl] at DD hstep;dsimp only at hstep;have bf:=hide hstep;have Hl:=hide hl;simp only[Option.getD_none,Option.isSome_none] at DD;clear hstep hl fk;gi_wp2
    gi_region
    gi_wp2
    go_roundw
    case rel=>exact⟨k+1,f,pre,by omega,by first|rfl|go_num,by omega,by omega,by rw[←cN.out,bf.out],yK.out,mO.out⟩
    case measure=>simp[intOf];omega
   | some e=>
    rw[hl] at DD hstep;dsimp only at hstep;have bf:=hide hstep;have xJ:=Hf.out k e hl;have heN:=pL k e hl;have Hl:=hide hl;simp only[Option.getD_some,Option.isSome_some] at DD;clear hstep hl fk;obtain⟨fn,tmps,assign,body,hy,hR⟩:=hY pre ⟨k,nr⟩ wr.drew yK.out (by omega);gi_wp2
    gi_region
    gi_wp2;refine hR.mono ?_;rintro e3 W3 (⟨rfl,bU,aK⟩|⟨rfl,iq⟩)
    ·gi_wp2
     go_roundw
     case rel=>exact⟨e+1,f,pre++[⟨k,nr⟩],by omega,by first|rfl|go_num,by rw[List.length_append];simp;omega,by omega,by rw[←cN.out,bf.out,List.map_append,List.append_assoc];rfl,bU,mO.out.trans aK⟩
     case measure=>simp[intOf];omega
    gi_wp2;refine bodyPost_ret (results_none rfl _ _ _) rfl ?_;exact⟨⟨_,rfl⟩,.inr ⟨_,⟨_,by rw[←cN.out,bf.out,List.map_append,List.append_assoc];rfl⟩,iq⟩⟩
  have dD:¬(k:Int)<(en:Int):=by omega
  have hnil:Evs.iV m en f k=[]:=by
   cases f with
   | zero=>rfl
   | succ f=>rw[Evs.iV,if_neg hlt]
  gi_wp2
  gi_region
  gi_wp2;go_end0;refine⟨⟨_,rfl⟩,.inl ⟨pre,?_,yK.out⟩⟩;rw[←cN.out,hnil,List.append_nil]
theorem ae1(T i:Nat)(w:World):Calls Tryz.prog 42 #[.pointer (some ⟨T,0,none⟩),.int .i64 (i:Int)] w fun e w'=>
  e=.returned (.func (.func 68) #[] #[.pointer (some ⟨w.heap.size+1,0,none⟩),.pointer (some ⟨w.heap.size,0,none⟩)])∧w'=(w.alloc (.cells #[.pointer (some ⟨T,0,none⟩)] 91)).alloc (.cells #[.int .i64 (i:Int)] 3):=by
 go_enter Tryz.func42,Tryz.ntmps42
 go_wp2;go_ret;exact⟨rfl,rfl⟩
theorem ae2(n:Nat)(hn:1≤n)(Ib Tb T mb i nn:Nat)(A:Option Addr)(N c:Nat)(d:Int)(m:List (Nat×Nat))(D:DataW Unit)(hi:i<N)(hN:N≤10000000)(hf:Evs.Ck m)(pL:∀p k,Evs.bO p m=some k→k<N)(kz:(Evs.bO i m).getD 0≤N)(w:World)
  (pI:w.cell? ⟨Ib,0,none⟩=some (.int .i64 (i:Int))) (vp:w.cell? ⟨Tb,0,none⟩=some (.pointer (some ⟨T,0,none⟩))) (hT:ae w T 122 #[.slice A N c,.map (some mb),.int .i64 d]) (hm:fZ w mb nn m D) :
  SeqStopsK Fence.wide n Tryz.prog 68 #[.pointer (some ⟨Ib,0,none⟩),.pointer (some ⟨Tb,0,none⟩)] (fun x:Kd N=>#[Value.int .i64 (x.1:Int)]) (mU [Ib,Tb,T,mb]) (fun ys=>ys.map (·.1)=Evs.iV m ((Evs.bO i m).getD 0) N (i+1))
   (fun pre=>∃rest,pre.map (·.1)++rest=Evs.iV m ((Evs.bO i m).getD 0) N (i+1)) N w:=fun l J Jx W hW hJ _ hY h0=>
 ae0 n hn l Ib Tb T mb i nn A N c d m D hi hN hf pL kz J Jx W hJ hY ((hW.cell (bI pI)).trans pI) ((hW.cell (bI vp)).trans vp) (hT.go hW) (hm.same (hW.block _ hm.lt)) h0
end
end Go.Proofs.YtifiiojchlaghaaGreatDoor
