/- events.grow: the tree of events that are whole. And more. -/
import Derived.Test.YtnbmfljhbpfilaaGreatDoorOw04
import Derived.Test.YtnbmfljhbpfilaaGreatDoorOw20
set_option linter.unusedSimpArgs false
set_option maxRecDepth 100000
set_option maxHeartbeats 16000000
set_option linter.unusedVariables false
namespace Go.Proofs.YtnbmfljhbpfilaaGreatDoor
section
open Go.RowKit Tk Sx Go.WideShapes

structure QO(xs:List Ew):Prop where
 len:xs.length≤10000000
 few:∀x∈xs,x.e.attrs.length≤1000000
 nm:∀x∈xs,∀a∈x.e.attrs,gP a.name
def QV(W:World)(B T mb:Nat)(A:Option Addr)(n c:Nat)(m:List (Nat×Nat)):Prop :=
 B≤T∧B≤mb∧(∃d:Int,ae W T 119 #[.slice A n c,.map (some mb),.int .i64 d])∧∃(k:Nat) (D:DataW Unit),fJ W mb k m D∧k≤n
theorem jW.cap{W:World}{base n c:Nat}{A:Option Addr}{l:List Nat}(h:jW W base A n c l):n≤c:=by
 rcases h with h|h
 ·exact yD h
 omega
theorem jW.cut{W:World}{base m c sb so p:Nat}{l:List Nat}(h:jW W base (some ⟨sb,so,none⟩) (m+1) c (l++[p]))(hm:l.length=m):jW W base (some ⟨sb,so,none⟩) m m l:=by
 have hr:=h.reads;refine .inr ⟨rfl,⟨by rw[ahv,hm];omega,fun hp=>?_⟩,(fun e=>by cases e),h.ab6⟩;obtain⟨b,off,e,hlt,hc⟩:=hr.2 (by omega);refine⟨b,off,e,hlt,fun j u hu=>hc j u ?_⟩;rw[Mu,List.getElem?_append_left (List.getElem?_eq_some_iff.1 hu).1];exact hu
theorem Yu(l:List Ev):∀i,(Evs.upto l i).1.length≤i
 | 0=>by simp[Evs.upto]
 | i+1=>by
  have ih:=Yu l i;rw[Evs.upto]
  cases l[i]? with
  | none=>dsimp only;omega
  | some e=>
   dsimp only;unfold Evs.jt;split
   ·rw[List.length_append];simp;omega
   split
   ·rw[List.length_dropLast];omega
   omega
theorem aes(xs:List Ew)(A:Option Addr)(c:Nat)(w:World)(hL:oN w w.heap.size A xs)(hW:Evs.oY (xs.map (·.e)))(hS:QO xs) :
  Calls Tryz.prog 66 #[.slice A xs.length c] w fun e w'=>Below w.heap.size w w'∧∃T mb,e=.returned (.pointer (some ⟨T,0,none⟩))∧QV w' w.heap.size T mb A xs.length c (Evs.fq (xs.map (·.e))):=by
 have HL:=hide hL;have HS:=hide hS;have hN:=hS.len;have e8:=hide (fun i e (h:(xs.map (·.e))[i]?=some e)=>Evs.Og hW h);have iQ:=hide (fun i e (h:(xs.map (·.e))[i]?=some e)=>Evs.Gf h);have Z1:=hide (Yu (xs.map (·.e)));have tZ:=hide (show Evs.fq (xs.map (·.e))=(Evs.upto (xs.map (·.e)) xs.length).2 by unfold Evs.fq;rw[List.length_map]);have hne:xs.length≠0:=fun h=>hW.ne (by rw[List.eq_nil_of_length_eq_zero h];rfl)
 have PN:=hide (show (Evs.upto (xs.map (·.e)) xs.length).1=[] by
  have h:=Evs.NS (xs.map (·.e)) xs.length (by simp);rw[List.take_of_length_le (by simp),hW.shut] at h
  simpa using h)
 obtain⟨N,Kg⟩:∃N,xs.length=N:=⟨_,rfl⟩;have HN:=hide Kg;rw[Kg] at tZ PN hN hne ⊢;obtain⟨EL,S9⟩:∃l,Evs.fq (xs.map (·.e))=l:=⟨_,rfl⟩;rw[S9] at tZ ⊢;have jk:=@run_makeMap Tryz.prog;clear hL hS hW Kg S9
 go_enter Tryz.func66,Tryz.ntmps66
 go_wp2
 go_step3
 go_wp2
 go_step3
 go_wp2;clear jk;have pQ:=hide ((fJ.new w).same (W':=(w.alloc (.map #[] 0)).alloc (.cells #[.slice A N c,.map (some w.heap.size),.int .i64 0] 119)) (Below.heap_alloc _ _ _ (by simp)))
 have dE:=hide (show ae ((w.alloc (.map #[] 0)).alloc (.cells #[.slice A N c,.map (some w.heap.size),.int .i64 0] 119)) (w.heap.size+1) 119 #[.slice A N c,.map (some w.heap.size),.int .i64 0] from by
  have:=ae.new (w.alloc (.map #[] 0)) 119 #[.slice A N c,.map (some w.heap.size),.int .i64 0];rwa[World.size_alloc] at this)
 have kJ:=hide ((az w (.map #[] 0)).trans ((az (w.alloc (.map #[] 0)) (.cells #[.slice A N c,.map (some w.heap.size),.int .i64 0] 119)).mono (by simp)));have PZ:=hide (show ((w.alloc (.map #[] 0)).alloc (.cells #[.slice A N c,.map (some w.heap.size),.int .i64 0] 119)).heap.size=w.heap.size+2 by simp);obtain⟨W0,nW⟩:∃W0,(w.alloc (.map #[] 0)).alloc (.cells #[.slice A N c,.map (some w.heap.size),.int .i64 0] 119)=W0:=⟨_,rfl⟩;rw[nW] at pQ dE kJ PZ ⊢;clear nW
 go_loopg [4,5,6,7,8,15,23,37,55] N (fun gk v4 v5 v6 v7 v8 v15 v23 v37 v55 wr=>∃(i no co km:Nat) (Ao:Option Addr) (D:DataW Unit) (dp:Int),gk=N-i∧i≤N∧v15=.int .i64 (i:Int)∧v4=.slice Ao no co∧(Evs.upto (xs.map (·.e)) i).1.length=no∧jW wr (w.heap.size+2) Ao no co (Evs.upto (xs.map (·.e)) i).1∧
  fJ wr w.heap.size km (Evs.upto (xs.map (·.e)) i).2 D∧km≤i∧ae wr (w.heap.size+1) 119 #[.slice A N c,.map (some w.heap.size),.int .i64 dp]∧Below w.heap.size w wr∧w.heap.size+2≤wr.heap.size)
 case atStart=>exact⟨0,0,0,0,none,_,0,rfl,by omega,rfl,rfl,rfl,.inl (World.ownsRow_nil _ _ _ _),pQ.out,by omega,dE.out,kJ.out,by rw[PZ.out];exact Nat.le_refl _⟩
 case round=>
  obtain⟨i,no,co,km,Ao,D,dp,au,hi,rfl,rfl,hno,hst,Ux,EI,qY,hb,aK⟩:=hrel;have dF:=hide au;have HSt:=hide hst;have mI:=hide Ux;have lV:=hide qY;have HB:=hide hb;have pT:=hide hno;have aoP:no≤i:=by rw[←hno];exact Z1.out i
  clear au hst Ux qY hb hno
  by_cases hlt:i<N
  ·obtain⟨x,hx⟩:∃x,xs[i]?=some x:=⟨_,List.getElem?_eq_getElem (by rw[HN.out];exact hlt)⟩;have eF:=List.mem_of_getElem? hx;have x8:(xs.map (·.e))[i]?=some x.e:=by rw[List.getElem?_map,hx];rfl
   obtain⟨Uf,vd⟩:=e8.out i _ x8;have bB:=iQ.out i _ x8;have CJ:=hide (HL.out.below HB.out);obtain⟨b,off,rfl,jC,hy⟩:=CJ.out.at_ hx;have qV:=CJ.out.sub x eF;have rO:=hide (fun (W:World) (h:Below wr.heap.size wr W)=>adO x W Uf ((qV.below (h.mono (by omega))).more (Nat.le_trans (by omega) h.size)) (HS.out.few x eF) (HS.out.nm x eF));have y0:=hy.c0;have y1:=hy.c1;have y2:=hy.c2;have y3:=hy.c3;have y4:=hy.c4;unfold dQ at rO;obtain⟨O,hO⟩:∃O,(Evs.upto (xs.map (·.e)) i).1=O:=⟨_,rfl⟩;obtain⟨M,hM⟩:∃M,(Evs.upto (xs.map (·.e)) i).2=M:=⟨_,rfl⟩;have hnx1:Evs.upto (xs.map (·.e)) (i+1)=Evs.jt (O,M) i x.e:=by rw[bB,←hO,←hM]
   rw[hO] at vd HSt pT;rw[hM] at mI;have Hxp:=hide (fun (h:0<i)=>(show ∃q,xs[i-1]?=some q from⟨_,List.getElem?_eq_getElem (by rw[HN.out];omega)⟩));clear bB hO hM x8 eF Uf qV hy;obtain⟨⟨kd,⟨ns,loc⟩,ak,tx⟩,Ax,cx⟩:=x;dsimp only at y0 y1 y2 y3 y4 rO vd hnx1
   rcases vd with ⟨rfl,h0⟩|⟨rfl,O',p,rfl,hpi,lD⟩|⟨rfl,EP,q,qI,hq,hqk⟩
   ·rw[show ((0:Nat):Int)=0 from rfl] at y0 rO;have tq:Evs.jt (O,M) i ⟨0,⟨ns,loc⟩,ak,tx⟩=(O++[i],M):=by unfold Evs.jt;rw[if_pos rfl]
    have bC:=hide (hnx1.trans tq)
    have afa:(no=0∧i=0)∨((no:Int)==0)=false:=by
     by_cases hO:O=[]
     ·exact .inl ⟨by rw[←pT.out,hO];rfl,h0 hO⟩
     refine .inr ?_;rw[beq_eq_false_iff_ne];have:no≠0:=fun h=>hO (List.eq_nil_of_length_eq_zero (by rw[pT.out];exact h));omega
    clear hnx1 tq h0;have lT:=hide (az wr (.cells #[.int .i8 0,.string (aa ns),.string (aa loc),.slice Ax ak.length cx,.string (aa tx)] 50));have ue:=hide (ae.new wr 50 #[.int .i8 0,.string (aa ns),.string (aa loc),.slice Ax ak.length cx,.string (aa tx)]);have HF:=hide (rO.out _ lT.out)
    go_wp2_with fail
    refine HF.out.mono ?_;rintro e w2 ⟨rfl,af⟩;have fe:=hide (lT.out.trans (af.mono lT.out.size));have cH:=hide (ue.out.go af);have pY:=hide (HSt.out.kept fe.out.size (fun k hk _ _=>fe.out.block k hk));have wK:=hide (mI.out.same (fe.out.block _ mI.out.lt));have wN:=hide (lV.out.go fe.out);have ah:=hide (HB.out.trans (fe.out.mono HB.out.size));have cC:w.heap.size+2≤w2.heap.size:=Nat.le_trans aK fe.out.size;have k0:=cH.out.cell 0;clear af y0 y1 y2 y3 y4
    rcases afa with ⟨hg1,cD⟩|hg1
    ·subst hg1;subst cD;dsimp only
     go_wp2_with (at_builtin;go_loud (refine YS rfl (.tmp 41) (.tmp 43) 124 rfl Tryz.underlying124 (w.heap.size+2) Ao 0 co O 0 rfl pY.out rfl (by omega) cC ?_);intro g8 dw w8 ajX aM aF vE;have vu:∀k,k<w.heap.size+2→k<w2.heap.size→w8.heap[k]?=w2.heap[k]?:=fun k h1 h2=>aF.block k h2 (fun e=>by have:=(vE k e.symm).1;omega);have uq:=hide ((vu _ (by omega) (by omega)).trans wN.out);have GX:=hide (wK.out.same (vu _ (by omega) (by omega)));have iP:=hide (ah.out.grown aF ah.out.size (fun k e=>by have:=(vE k e).1;omega));have cX:=hide aM;have KF:=Nat.le_trans cC aF.size;have q2:=ae.cell uq.out 2;have f2:=ae.frozen uq.out 2;clear aM aF vE vu)
     go_roundg (N-(0+1))
     case measure=>have:=dF.out;omega
     case rel=>
      have hz:(w8.setCell ⟨w.heap.size+1,2,none⟩ (.int .i64 (max dp 1))).heap.size=w8.heap.size:=by simp[World.setCell]
      have LG:ae (w8.setCell ⟨w.heap.size+1,2,none⟩ (.int .i64 (max dp 1))) (w.heap.size+1) 119 #[.slice (some ⟨b,off,none⟩) N c,.map (some w.heap.size),.int .i64 (max dp 1)]:=by
       have:=ae.aI uq.out 2 (.int .i64 (max dp 1))
       simpa using this
      refine⟨0+1,0+1,dw,km,some ⟨g8,0,none⟩,D,(max dp 1),rfl,by omega,by first|rfl|go_num,rfl,by rw[bC.out];show (O++[0]).length=_;rw[List.length_append,pT.out];rfl,?_,?_,by omega,LG,iP.out.setCell (p:=⟨w.heap.size+1,2,none⟩) (by show _≤w.heap.size+1;omega) _,by rw[hz];exact KF⟩
      ·rw[bC.out];exact .inl (ownsRow_setCell_other cX.out (by simp[Value.ownBlock];have:=(aG cX.out g8 rfl).1;omega) _)
      rw[bC.out];exact GX.out.same (Below.heap_setCell _ _ _ _ (by show w.heap.size≠w.heap.size+1;omega))
    dsimp only
    go_wp2_with (at_builtin;go_loud (refine YS rfl (.tmp 41) (.tmp 43) 124 rfl Tryz.underlying124 (w.heap.size+2) Ao no co O i rfl pY.out rfl (by omega) cC ?_);intro g8 dw w8 ajX aM aF vE;have vu:∀k,k<w.heap.size+2→k<w2.heap.size→w8.heap[k]?=w2.heap[k]?:=fun k h1 h2=>aF.block k h2 (fun e=>by have:=(vE k e.symm).1;omega);have uq:=hide ((vu _ (by omega) (by omega)).trans wN.out);have GX:=hide (wK.out.same (vu _ (by omega) (by omega)));have iP:=hide (ah.out.grown aF ah.out.size (fun k e=>by have:=(vE k e).1;omega));have cX:=hide aM;have KF:=Nat.le_trans cC aF.size;have q2:=ae.cell uq.out 2;have f2:=ae.frozen uq.out 2;clear aM aF vE vu)
    go_roundg (N-(i+1))
    case measure=>have:=dF.out;omega
    case rel=>
     have hz:(w8.setCell ⟨w.heap.size+1,2,none⟩ (.int .i64 (max dp ((no:Int)+1)))).heap.size=w8.heap.size:=by simp[World.setCell]
     have LG:ae (w8.setCell ⟨w.heap.size+1,2,none⟩ (.int .i64 (max dp ((no:Int)+1)))) (w.heap.size+1) 119 #[.slice (some ⟨b,off,none⟩) N c,.map (some w.heap.size),.int .i64 (max dp ((no:Int)+1))]:=by
      have:=ae.aI uq.out 2 (.int .i64 (max dp ((no:Int)+1)))
      simpa using this
     refine⟨i+1,no+1,dw,km,some ⟨g8,0,none⟩,D,(max dp ((no:Int)+1)),rfl,by omega,by first|rfl|go_num,rfl,by rw[bC.out];show (O++[i]).length=_;rw[List.length_append,pT.out];rfl,?_,?_,by omega,LG,iP.out.setCell (p:=⟨w.heap.size+1,2,none⟩) (by show _≤w.heap.size+1;omega) _,by rw[hz];exact KF⟩
     ·rw[bC.out];exact .inl (ownsRow_setCell_other cX.out (by simp[Value.ownBlock];have:=(aG cX.out g8 rfl).1;omega) _)
     rw[bC.out];exact GX.out.same (Below.heap_setCell _ _ _ _ (by show w.heap.size≠w.heap.size+1;omega))
   ·rw[show ((1:Nat):Int)=1 from rfl] at y0 rO;have tq:Evs.jt (O'++[p],M) i ⟨1,⟨ns,loc⟩,ak,tx⟩=(O',(p,i) :: M):=by unfold Evs.jt;rw[if_neg (show ¬(1:Nat)=0 by decide),if_pos rfl];simp
    have bC:=hide (hnx1.trans tq);obtain⟨m,hm⟩:∃m,O'.length=m:=⟨_,rfl⟩;have cR:no=m+1:=by rw[←pT.out,List.length_append,hm];rfl
    have Hm:=hide hm;subst cR;have hg1:(((m+1:Nat):Int)==0)=false:=by rw[beq_eq_false_iff_ne];omega
    have cD:((m:Int)+1==0)=false:=by rw[beq_eq_false_iff_ne];omega
    have zm:IntKind.i64.wrap (((m+1:Nat):Int)-1)=(m:Int):=by rw[IntWalk.i64_in _ (by omega)];omega
    have zm2:IntKind.i64.wrap ((m:Int)+1-1)=(m:Int):=by rw[IntWalk.i64_in _ (by omega)];omega
    have hxp:∃z,xs[p]?=some z:=⟨_,List.getElem?_eq_getElem (by rw[HN.out];omega)⟩;obtain⟨z,hz⟩:=hxp
    have Br:z.e.name=⟨ns,loc⟩:=by
     unfold Evs.iK at lD;rw[List.getElem?_map,hz] at lD;exact lD
    obtain⟨b2,Wm,eA,hbz,x9⟩:=CJ.out.at_ hz;cases eA;have p1:=x9.c1;have p2:=x9.c2;rw[Br] at p1 p2;dsimp only at p1 p2;have EU:(0:Int)≤p∧(p:Int)<N:=by omega
    have hp9:p≤1000000000:=by omega
    clear hnx1 tq hz Br x9 lD hm;have lT:=hide (az wr (.cells #[.int .i8 1,.string (aa ns),.string (aa loc),.slice Ax ak.length cx,.string (aa tx)] 50));have ue:=hide (ae.new wr 50 #[.int .i8 1,.string (aa ns),.string (aa loc),.slice Ax ak.length cx,.string (aa tx)]);have HF:=hide (rO.out _ lT.out)
    go_wp2_with fail
    refine HF.out.mono ?_;rintro e w2 ⟨rfl,af⟩;have fe:=hide (lT.out.trans (af.mono lT.out.size));have cH:=hide (ue.out.go af);have pY:=hide (HSt.out.kept fe.out.size (fun k hk _ _=>fe.out.block k hk));have wK:=hide (mI.out.same (fe.out.block _ mI.out.lt));have wN:=hide (lV.out.go fe.out);have ah:=hide (HB.out.trans (fe.out.mono HB.out.size));have cC:w.heap.size+2≤w2.heap.size:=Nat.le_trans aK fe.out.size;have k0:=cH.out.cell 0;have k1:=cH.out.cell 1;have k2:=cH.out.cell 2;have r1:=(fe.out.cell (dN p1)).trans p1;have r2:=(fe.out.cell (dN p2)).trans p2;obtain⟨sb,so,rfl,qU,hsc⟩:=pY.out.reads.2 (by omega);have s0:=hsc m _ (ahu (p:=p) (by rw[List.getElem?_append_right (by rw[Hm.out];exact Nat.le_refl _),Hm.out,Nat.sub_self];rfl));have aoE:(0:Int)≤m∧(m:Int)<((m+1:Nat):Int):=by omega
    clear af y0 y1 y2 y3 y4 p1 p2 hsc;dsimp only
    go_wp2_with fail
    go_quiet (fail)
    have Ic:=hide (show jW (w2.drewN nq) (w.heap.size+2) (some ⟨sb,so,none⟩) (m+1) co (O'++[p]) from pY.out.kept (Nat.le_refl _) (fun _ _ _ _=>rfl));have GW:=hide (show fJ (w2.drewN nq) w.heap.size km M D from wK.out.same rfl);have Ie:=hide (wN.out.drewN nq);have aw:=hide (show Below w.heap.size w (w2.drewN nq) from⟨ah.out.os,ah.out.tape,ah.out.output,ah.out.size,ah.out.block⟩);have mj:w.heap.size+2≤(w2.drewN nq).heap.size:=cC;have s3:(w2.drewN nq).cell? ⟨sb,so+m,none⟩=some (.int .i64 (p:Int)):=s0;clear k0 k1 k2 r1 r2 s0;generalize w2.drewN nq=W at Ic GW Ie aw mj s3 ⊢;have t1:=Ie.out.cell 1;have kr:km<maxLen:=by unfold maxLen;omega
    obtain⟨w9,afX,Bc,vw⟩:=(GW.out.same (W':=W.drew) rfl).own.update (t:=117) Mg Tryz.underlying117 kr (key:=.int .i64 (p:Int)) (val:=.int .i64 (i:Int)) (keyOf_int hp9) (plainElem_int Tryz.underlying3 (WalkArith.wf_i64 (by omega)))
    go_wp2_with fail
    have xJ:=Ic.out.cap;have hmc:m≤co:=by omega
    clear xJ
    go_region
    go_wp2;have jE:∀k,k<W.heap.size→k≠w.heap.size→w9.heap[k]?=W.heap[k]?:=fun k h1 h2=>vw.block k h1 (fun e=>h2 (by injection e));have vF:W.heap.size≤w9.heap.size:=vw.size;have ZU:=hide ((GW.out.same (W':=W.drew) rfl).next Bc);have aam:=hide ((Ic.out.cut Hm.out).kept vF (fun k h1 _ h2=>jE k h1 (by omega)));have aao:=hide ((jE _ (by omega) (by omega)).trans Ie.out);have Zx:=hide ((aw.out.drew).grown vw aw.out.size (fun k e=>by injection e with e;omega));clear afX Bc vw
    go_roundg (N-(i+1))
    case measure=>have:=dF.out;omega
    case rel=>exact⟨i+1,m,m,km+1,some ⟨sb,so,none⟩,_,dp,rfl,by omega,by first|rfl|go_num,rfl,by rw[bC.out];exact Hm.out,by rw[bC.out];exact aam.out,by rw[bC.out];exact ZU.out,by omega,aao.out,Zx.out,Nat.le_trans mj vF⟩
   rw[show ((2:Nat):Int)=2 from rfl] at y0 rO;have tq:Evs.jt (O,M) i ⟨2,⟨ns,loc⟩,ak,tx⟩=(O,M):=by unfold Evs.jt;rw[if_neg (show ¬(2:Nat)=0 by decide),if_neg (show ¬(2:Nat)=1 by decide)]
   have bC:=hide (hnx1.trans tq)
   have hg1:((no:Int)==0)=false:=by
    rw[beq_eq_false_iff_ne];have:no≠0:=fun h=>EP (List.eq_nil_of_length_eq_zero (by rw[pT.out];exact h));omega
   obtain⟨j,hj⟩:∃j,j+1=i:=⟨i-1,by omega⟩
   have EX:∃z,xs[j]?=some z∧z.e=q:=by
    rw[show i-1=j by omega,List.getElem?_map] at hq;exact Option.map_eq_some_iff.1 hq
   obtain⟨z,hz,Bp⟩:=EX;obtain⟨b2,Wm,eA,af,x9⟩:=CJ.out.at_ hz;cases eA;have p0:=x9.c0;rw[Bp] at p0;have oh:((q.kind:Int)==2)=false:=by rw[beq_eq_false_iff_ne];omega
   have z1:IntKind.i64.wrap ((i:Int)-1)=(j:Int):=by rw[IntWalk.i64_in _ (by omega)];omega
   have od:(0:Int)≤j∧(j:Int)<N:=by omega
   have Hj:=hide hj;obtain⟨qk,UM⟩:∃k:Int,(q.kind:Int)=k:=⟨_,rfl⟩;rw[UM] at p0 oh;clear hnx1 tq EP hq hqk hz Bp x9 hj UM qI;have lT:=hide (az wr (.cells #[.int .i8 2,.string (aa ns),.string (aa loc),.slice Ax ak.length cx,.string (aa tx)] 50));have ue:=hide (ae.new wr 50 #[.int .i8 2,.string (aa ns),.string (aa loc),.slice Ax ak.length cx,.string (aa tx)]);have HF:=hide (rO.out _ lT.out)
   go_wp2_with fail
   refine HF.out.mono ?_;rintro e w2 ⟨rfl,af⟩;have fe:=hide (lT.out.trans (af.mono lT.out.size));have cH:=hide (ue.out.go af);have pY:=hide (HSt.out.kept fe.out.size (fun k hk _ _=>fe.out.block k hk));have wK:=hide (mI.out.same (fe.out.block _ mI.out.lt));have wN:=hide (lV.out.go fe.out);have ah:=hide (HB.out.trans (fe.out.mono HB.out.size));have cC:w.heap.size+2≤w2.heap.size:=Nat.le_trans aK fe.out.size;have k0:=cH.out.cell 0;have p2:=(fe.out.cell (dN p0)).trans p0;clear af y0 y1 y2 y3 y4 p0;dsimp only;go_wp2
   go_roundg (N-(i+1))
   case measure=>have:=dF.out;omega
   case rel=>exact⟨i+1,no,co,km,Ao,D,dp,rfl,by omega,by first|rfl|go_num,rfl,by rw[bC.out];exact pT.out,by rw[bC.out];exact pY.out,by rw[bC.out];exact wK.out,by omega,wN.out,ah.out,cC⟩
  have AV:i=N:=by omega
  subst AV;have afH:no=0:=by rw[←pT.out,PN.out];rfl
  subst afH;have qI:((i:Int)==0)=false:=by rw[beq_eq_false_iff_ne];omega
  go_wp2;go_ret;refine⟨HB.out,w.heap.size+1,w.heap.size,rfl,by omega,Nat.le_refl _,⟨dp,lV.out⟩,km,D,?_,EI⟩;rw[tZ.out];exact mI.out
end
section
open Go.RowKit Tk Sx Go.WideShapes

namespace Evs
def o8(l:List Ev)(p:Nat):Nat:=(bj p (fq l)).getD 0
end Evs
structure nA(W:World)(B:Nat)(A:Option Addr)(c:Nat)(xs:List Ew):Prop where
 l:oN W B A xs
 hB:B≤W.heap.size
 w:Evs.oY (xs.map (·.e))
 s:QO xs
 c:xs.length≤c
theorem nA.go{W W':World}{B c:Nat}{A:Option Addr}{xs:List Ew}(h:nA W B A c xs)(hb:Below W.heap.size W W'):nA W' B A c xs:=⟨h.l.below (hb.mono h.hB),Nat.le_trans h.hB hb.size,h.w,h.s,h.c⟩
theorem fJ.val{W:World}{mb n p:Nat}{m:List (Nat×Nat)}{D:DataW Unit}(h:fJ W mb n m D){c:Int}(hc:D.atKey (jJ p) (.lit (.int .i64 0))=.lit (.int .i64 c)):c=(((Evs.bj p m).getD 0:Nat):Int):=by
 cases hl:Evs.bj p m with
 | none=>
  have h2:=(h.no p hl).2;rw[h2,DataW.lit.injEq,Lit.int.injEq] at hc;exact hc.2.symm
 | some k=>
  have h2:=(h.yes p k hl).2;rw[h2,DataW.lit.injEq,Lit.int.injEq] at hc;exact hc.2.symm
theorem fJ.find{W:World}{mb n p:Nat}{m:List (Nat×Nat)}{D:DataW Unit}(h:fJ W mb n m D)(hp:p≤1000000000) :
  (Instr.lookup 117 (.map (some mb)) (.int .i64 (p:Int)) false).run Tryz.prog W=.ok (.int .i64 (((Evs.bj p m).getD 0:Nat):Int)) W:=by
 obtain⟨c,hrun,hc,_⟩:=h.own.lookup_int Mg Tryz.underlying117 Tryz.underlying3 (rM W) (keyOf_int hp);rw[hrun,h.val hc]
theorem fJ.find_ok{W:World}{mb n p:Nat}{m:List (Nat×Nat)}{D:DataW Unit}(h:fJ W mb n m D)(hp:p≤1000000000) :
  (Instr.lookup 117 (.map (some mb)) (.int .i64 (p:Int)) true).run Tryz.prog W=.ok (.tuple #[.int .i64 (((Evs.bj p m).getD 0:Nat):Int),.bool (Evs.bj p m).isSome]) W:=by
 obtain⟨v,ps,hrun,hv⟩:=h.own.look_ok Mg Tryz.underlying117 (rM W) (plainElem_int Tryz.underlying3 (by decide)) (keyOf_int hp);obtain⟨c,rfl,hc,_⟩:=plainElem_int_inv Tryz.underlying3 hv
 have hb:Maps.has D (jJ p)=(Evs.bj p m).isSome:=by
  cases hl:Evs.bj p m with
  | none=>exact (h.no p hl).1
  | some k=>exact (h.yes p k hl).1
 rw[hrun,h.val (congrArg Prod.fst hc),hb]
theorem Ji(xs:List Ew)(A:Option Addr)(c B i:Nat)(x:Ew)(w:World)(h:nA w B A c xs)(hx:xs[i]?=some x)(hk:x.e.kind=0) :
  Calls Tryz.prog 37 #[.slice A xs.length c,.int .i64 (i:Int)] w fun e w'=>Below w.heap.size w w'∧∃T mb,e=.returned (.pointer (some ⟨T,0,none⟩))∧QV w' w.heap.size T mb A xs.length c (Evs.fq (xs.map (·.e))):=by
 have HG:=hide (fun W (hb:Below w.heap.size w W)=>aes xs A c W ((h.l.more h.hB).below hb |>.more hb.size) h.w h.s);obtain⟨b,off,rfl,hb,hy⟩:=h.l.at_ hx;have y0:=hy.c0;rw[hk] at y0;rw[show ((0:Nat):Int)=0 from rfl] at y0;have sW:=(List.getElem?_eq_some_iff.1 hx).1;have hn:=h.s.len;obtain⟨N,hN⟩:∃N,xs.length=N:=⟨_,rfl⟩;rw[hN] at HG sW hn ⊢;have Uj:(0:Int)≤i∧(i:Int)<N:=by omega
 clear h hx hk hy hN
 go_enter Tryz.func37,Tryz.ntmps37
 go_wp2_with fail
 refine (HG.out _ (Below.refl _ _)).mono ?_;rintro e w2 ⟨af,T,mb,rfl,ht⟩;have ah:=hide af;have HT:=hide ht;clear af ht y0;dsimp only;go_wp2;go_ret;exact⟨ah.out,T,mb,rfl,HT.out⟩
theorem Zf(xs:List Ew)(A:Option Addr)(c B i:Nat)(x:Ew)(w:World)(h:nA w B A c xs)(hx:xs[i]?=some x)(hk:x.e.kind=0) :
  Calls Tryz.prog 40 #[.slice A xs.length c,.int .i64 (i:Int)] w fun e w'=>e=.returned (.tuple #[.int .i64 ((Evs.o8 (xs.map (·.e)) i:Nat):Int),.bool true])∧Below w.heap.size w w':=by
 have HG:=hide (Ji xs A c B i x w h hx hk);have sW:=(List.getElem?_eq_some_iff.1 hx).1;have hn:=h.s.len;unfold Evs.o8;obtain⟨l,hl⟩:∃l,Evs.fq (xs.map (·.e))=l:=⟨_,rfl⟩;rw[hl] at HG ⊢;obtain⟨N,hN⟩:∃N,xs.length=N:=⟨_,rfl⟩;rw[hN] at HG sW hn ⊢;obtain⟨z,hz⟩:∃z:Int,(((Evs.bj i l).getD 0:Nat):Int)=z:=⟨_,rfl⟩;rw[hz];have Hz:=hide hz;clear h hx hk hN hl hz
 go_enter Tryz.func40,Tryz.ntmps40
 go_wp2_with fail
 refine HG.out.mono ?_;rintro e w2 ⟨af,T,mb,rfl,hT,ji,⟨d,qY⟩,k,D,hm,vz⟩;have ah:=hide af;have t1:=qY.cell 1;have hf:=hm.find (p:=i) (by omega);rw[Hz.out] at hf;clear af hm qY;dsimp only;go_wp2;go_ret2;exact⟨rfl,ah.out⟩
end
section
open Go.RowKit Tk Sx Go.WideShapes

namespace Evs
def mq(n:Nm):List eZ→Option Nat
 | []=>none
 | a :: r=>if a.name=n then some 0 else (mq n r).map (· + 1)
def iz(n:Nm)(l:List eZ):Option L:=(mq n l).bind fun k=>(l[k]?).map (·.val)
theorem Fj{n:Nm}:∀{l:List eZ} {k:Nat},mq n l=some k→∃a,l[k]?=some a∧a.name=n
 | [],k,h=>by cases h
 | a :: r,k,h=>by
  unfold mq at h
  split at h
  ·rename_i ha
   cases h;exact⟨a,rfl,ha⟩
  obtain⟨j,hj,e⟩:=Option.map_eq_some_iff.1 h;subst e;obtain⟨b,hb,hn⟩:=Fj hj;exact⟨b,by simpa using hb,hn⟩
theorem agm{n:Nm}{l:List eZ}{k:Nat}{a:eZ}(h:l[k]?=some a):mq n (l.drop k)=if a.name=n then some 0 else (mq n (l.drop (k+1))).map (· + 1):=by
 obtain⟨hk,e⟩:=List.getElem?_eq_some_iff.1 h;rw[List.drop_eq_getElem_cons hk,e];rfl
end Evs
theorem abO(a:eZ)(n:Nm)(nb:Nat)(w:World)(hn:ae w nb 45 #[.string (aa n.ns),.string (aa n.loc)]) :
  Calls Tryz.prog 69 #[.agg #[.string (aa a.name.ns),.string (aa a.name.loc),.string (aa a.val)],.pointer (some ⟨nb,0,none⟩)] w fun e w'=>e=.returned (.bool (eD a.name n))∧Below w.heap.size w w':=by
 have hE:=fun W=>DV W a.name n;obtain⟨q,hq⟩:∃q,eD a.name n=q:=⟨_,rfl⟩;simp only[hq] at hE;rw[hq];have HO:=hide (az w (.cells #[.string (aa a.name.ns),.string (aa a.name.loc),.string (aa a.val)] 122));have t0:=(hn.go HO.out).cell 0;have t1:=(hn.go HO.out).cell 1;clear hq hn
 go_enter Tryz.func69,Tryz.ntmps69
 go_wp2;go_ret;exact⟨rfl,HO.out⟩
def LX(o:Option Nat):Value:=match o with
 | some k=>.int .i64 (k:Int)
 | none=>.int .i64 (-1)
theorem agp(l:List eZ)(A:Option Addr)(c:Nat)(n:Nm)(nb:Nat)(w:World)(hr:Reads w w.heap.size 3 A l.length (iX l))(hn:ae w nb 45 #[.string (aa n.ns),.string (aa n.loc)])(hl:l.length≤1000000) :
  Calls Tryz.prog 68 #[.slice A l.length c,.func (.func 69) #[] #[.pointer (some ⟨nb,0,none⟩)]] w fun e w'=>e=.returned (LX (Evs.mq n l))∧Below w.heap.size w w':=by
 obtain⟨N,hN⟩:∃N,l.length=N:=⟨_,rfl⟩;have HN:=hide hN;rw[hN] at hr hl ⊢;have HR:=hide hr;have Hn:=hide hn;have HA:=hide (fun a W h=>abO a n nb W h);obtain⟨z,hz⟩:∃z,Evs.mq n l=z:=⟨_,rfl⟩;rw[hz];have Hz:=hide hz;clear hr hn hN hz
 go_enter Tryz.func68,Tryz.ntmps68
 go_wp2
 go_loopg [5,8] N (fun gk v5 v8 wr=>∃i:Nat,gk=N-i∧i≤N∧v8=.int .i64 (i:Int)∧(Evs.mq n (l.drop i)).map (· + i)=z∧Below w.heap.size w wr)
 case atStart=>exact⟨0,rfl,by omega,rfl,by rw[←Hz.out];simp,Below.refl _ _⟩
 case round=>
  obtain⟨i,au,hi,rfl,hzz,hb⟩:=hrel;have dF:=hide au;have HB:=hide hb;have IP:=hide hzz;clear au hb hzz
  by_cases hlt:i<N
  ·obtain⟨a,ha⟩:∃a,l[i]?=some a:=⟨_,List.getElem?_eq_getElem (by rw[HN.out];exact hlt)⟩;obtain⟨b,off,rfl,jC,hx⟩:=Jj (by rw[HN.out];exact HR.out.below HB.out) ha;have x0:=hx.c0;have x1:=hx.c1;have x2:=hx.c2;have hd:=Evs.agm (n:=n) ha;have Zs:=hide (HA.out a wr (Hn.out.go HB.out));have Hd:=hide hd;clear ha hx hd
   go_wp2_with fail
   refine Zs.out.mono ?_;rintro e w2 ⟨rfl,af⟩;have ah:=hide (HB.out.trans (af.mono HB.out.size));clear af;dsimp only
   cases hq:eD a.name n with
   | true=>
    have hv:some i=z:=by
     have:=IP.out;rw[Hd.out,if_pos ((zZ _ _).1 hq)] at this
     simpa using this
    subst hv;clear hq;go_wp2;go_ret;exact⟨rfl,ah.out⟩
   | false=>
    have hv:=hide (show (Evs.mq n (l.drop (i+1))).map (· + (i+1))=z by
     have:=IP.out;rw[Hd.out,if_neg (fun h=>by rw[(zZ _ _).2 h] at hq;cases hq)] at this;rw[←this,Option.map_map];congr 1
     funext j
     simp only[Function.comp]
     omega)
    clear hq;go_wp2
    go_roundg (N-(i+1))
    case measure=>have:=dF.out;omega
    case rel=>exact⟨i+1,rfl,by omega,by first|rfl|go_num,hv.out,ah.out⟩
  have Br:z=none:=by
   have:=IP.out;rw[List.drop_of_length_le (by rw[HN.out];omega)] at this;exact this.symm
  subst Br;go_wp2;go_ret;exact⟨rfl,HB.out⟩
def Q0(o:Option L):Value:=match o with
 | some v=>.tuple #[.string (aa v),.bool true]
 | none=>.tuple #[.string ⟨#[]⟩,.bool false]
theorem Y8(xs:List Ew)(A:Option Addr)(c B i:Nat)(x:Ew)(n:Nm)(w:World)(h:nA w B A c xs)(hx:xs[i]?=some x)(hk:x.e.kind=0) :
  Calls Tryz.prog 41 #[.slice A xs.length c,.int .i64 (i:Int),.agg #[.string (aa n.ns),.string (aa n.loc)]] w fun e w'=>e=.returned (Q0 (Evs.iz n x.e.attrs))∧Below w.heap.size w w':=by
 have HO:=hide (az w (.cells #[.string (aa n.ns),.string (aa n.loc)] 45));have HK:=hide (ae.new w 45 #[.string (aa n.ns),.string (aa n.loc)]);have HG:=hide (Ji xs A c B i x (w.alloc (.cells #[.string (aa n.ns),.string (aa n.loc)] 45)) (h.go (az w _)) hx hk);have eF:=List.mem_of_getElem? hx;have sW:=(List.getElem?_eq_some_iff.1 hx).1;have bz:=h.s.len;have AO:=h.s.few x eF;have hB:=h.hB;have HL:=hide h.l;have Hxm:=hide eF;have Hx:=hide hx;obtain⟨N,hN⟩:∃N,xs.length=N:=⟨_,rfl⟩;rw[hN] at HG sW bz ⊢;have Uj:(0:Int)≤i∧(i:Int)<N:=by omega
 obtain⟨z,hz⟩:∃z,Evs.iz n x.e.attrs=z:=⟨_,rfl⟩;rw[hz];have Hz:=hide hz;clear h hx hk hN eF hz
 go_enter Tryz.func41,Tryz.ntmps41
 go_wp2_with fail
 refine HG.out.mono ?_;rintro e w2 ⟨af,T,mb,rfl,-⟩;have ah:=hide (HO.out.trans (af.mono (by simp)));have cH:=hide (HK.out.go af);clear af;have rQ:=hide (HL.out.below (ah.out.mono hB));obtain⟨b,off,rfl,jC,hy⟩:=rQ.out.at_ Hx.out;have y3:=hy.c3;have qV:=rQ.out.sub x Hxm.out;have HI:=hide (agp x.e.attrs x.A x.c n w.heap.size w2 (qV.more (Nat.le_trans hB ah.out.size)) cH.out AO);have aaT:=hide qV;clear hy qV;dsimp only
 go_wp2_with fail
 refine HI.out.mono ?_;rintro e w3 ⟨rfl,aB⟩;have aw:=hide (ah.out.trans (aB.mono ah.out.size));have y3':=(aB.cell (dN y3)).trans y3;have x3:=aaT.out.below (aB.mono (Nat.le_trans hB ah.out.size));clear aB y3;dsimp only
 cases hi:Evs.mq n x.e.attrs with
 | none=>
  have hv:z=none:=by rw[←Hz.out];unfold Evs.iz;rw[hi];rfl
  subst hv;clear hi x3;unfold LX;dsimp only;go_wp2;go_ret2;exact⟨rfl,aw.out⟩
 | some k=>
  obtain⟨a,ha,-⟩:=Evs.Fj hi;have hv:z=some a.val:=by rw[←Hz.out];unfold Evs.iz;rw[hi];show ((x.e.attrs[k]?).map (·.val))=_;rw[ha];rfl
  subst hv;obtain⟨b2,Wm,eA,af,Aq⟩:=Jj x3 ha;have a2:=Aq.c2;have dW:=(List.getElem?_eq_some_iff.1 ha).1;obtain⟨m,hm⟩:∃m,x.e.attrs.length=m:=⟨_,rfl⟩;rw[eA,hm] at y3';rw[hm] at dW AO;have jh:(0:Int)≤k∧(k:Int)<m:=by omega
  clear hi x3 ha Aq hm;unfold LX;dsimp only;go_wp2;go_ret2;exact⟨rfl,aw.out⟩
end
section
open Go.RowKit Go.Shelf Tk Sx Go.WideShapes

attribute [local go_sem] Oper.semAt_some

namespace Evs
def gK(m:List (Nat×Nat))(en:Nat):Nat→Nat→List Nat
 | 0,_=>[]
 | f+1,k=>if k<en then match bj k m with
  | some e=>k :: gK m en f (e+1)
  | none=>gK m en f (k+1)
  else []
def CD(m:List (Nat×Nat)):Prop:=∀p k,bj p m=some k→p≤k
theorem NQ(l:List Ev):∀i,CD (upto l i).2∧∀p k,bj p (upto l i).2=some k→k<i
 | 0=>⟨fun p k h=>(by cases h),fun p k h=>(by cases h)⟩
 | i+1=>by
  obtain⟨ih,Fk⟩:=NQ l i;have hlt:=NR l i;rw[upto]
  cases l[i]? with
  | none=>exact⟨ih,fun p k h=>by have:=Fk p k h;omega⟩
  | some e=>
   dsimp only;unfold jt;split
   ·exact⟨ih,fun p k h=>by have:=Fk p k h;omega⟩
   split
   ·have hg:(upto l i).1.getLastD 0≤i:=by
     cases hl:(upto l i).1.getLast? with
     | none=>rw[List.getLastD_eq_getLast?,hl];exact Nat.zero_le _
     | some q=>
      have:=hlt q (List.mem_of_getLast? hl);rw[List.getLastD_eq_getLast?,hl];show q≤i;omega
    refine⟨fun p k h=>?_,fun p k h=>?_⟩
    ·unfold bj at h
     split at h
     ·rename_i he
      cases h;dsimp only at he ⊢;omega
     exact ih p k h
    unfold bj at h
    split at h
    ·cases h;exact Nat.lt_succ_self _
    have:=Fk p k h;omega
   exact⟨ih,fun p k h=>by have:=Fk p k h;omega⟩
def ou(l:List Ev)(i:Nat):List Nat:=gK (fq l) (o8 l i) l.length (i+1)
end Evs
def mL(L:List Nat)(W W':World):Prop:=∀k∈L,W'.heap[k]?=W.heap[k]?
theorem mL.trans{L:List Nat}{X Y Z:World}(h:mL L X Y)(k:mL L Y Z):mL L X Z:=fun b hb=>(k b hb).trans (h b hb)
abbrev Kd(N:Nat):={ x:Nat // x<N }
theorem agL(n:Nat)(hn:1≤n)(l Ib Tb T mb i nn:Nat)(A:Option Addr)(N c:Nat)(d:Int)(m:List (Nat×Nat))(D:DataW Unit)(hi:i<N)(hN:N≤10000000)(hf:Evs.CD m)(pA:∀p k,Evs.bj p m=some k→k<N)(kg:(Evs.bj i m).getD 0≤N)
  (J Jx:List (Kd N)→World→Prop) (W:World) (hJ:AbidesFrom W.heap.size J)
  (hY:∀(pre:List (Kd N)) (x:Kd N) (W:World),J pre W→pre.length<N→YieldAt Fence.wide (n-1) Tryz.prog l #[.int .i64 (x.1:Int)] W fun e W'=>
   (e=.returned (.bool true)∧J (pre++[x]) W'∧mL [Ib,Tb,T,mb] W W')∨(e=.returned (.bool false)∧Jx (pre++[x]) W'))
  (pq:W.cell? ⟨Ib,0,none⟩=some (.int .i64 (i:Int))) (uW:W.cell? ⟨Tb,0,none⟩=some (.pointer (some ⟨T,0,none⟩))) (hT:ae W T 119 #[.slice A N c,.map (some mb),.int .i64 d]) (hm:fJ W mb nn m D) (h0:J [] W) :
  CallsIn Fence.wide n Tryz.prog 67 #[.func (.yield l) #[] #[],.pointer (some ⟨Ib,0,none⟩),.pointer (some ⟨Tb,0,none⟩)] W fun e W'=>(∃v,e=.returned v)∧
   ((∃ys:List (Kd N),ys.map (·.1)=Evs.gK m ((Evs.bj i m).getD 0) N (i+1)∧J ys W')∨(∃pre:List (Kd N),(∃rest,pre.map (·.1)++rest=Evs.gK m ((Evs.bj i m).getD 0) N (i+1))∧Jx pre W')):=by
 refine callsIn_of_wp Tryz.func67 rfl trivial ?_ rfl;simp only[Tryz.ntmps67,List.size_toArray,List.length_cons,List.length_nil,Nat.reduceAdd,Nat.reduceSub,Array.replicate_succ,Array.replicate_zero,List.push_toArray,List.append_toArray,List.nil_append,List.cons_append];obtain⟨en,hen⟩:∃en,(Evs.bj i m).getD 0=en:=⟨_,rfl⟩;have Qc:=hide hen;rw[hen] at kg ⊢;obtain⟨all,hall⟩:∃all,Evs.gK m en N (i+1)=all:=⟨_,rfl⟩;rw[hall];have lX:=hide hall;have Hf:=hide hf;have HJ:=hide hJ;clear hall hen hf hJ;gi_wp2
 gi_loopw [4,5,6] (fun v4 v5 v6 wr=>∃(k f:Nat) (pre:List (Kd N)),k≤N+1∧v4=.int .i64 (k:Int)∧pre.length+i+1≤k∧en≤k+f∧pre.map (·.1)++Evs.gK m en f k=all∧J pre wr∧mL [Ib,Tb,T,mb] W wr)
  (fun v4 _ _ _=>N+1-(intOf v4).toNat)
 case atStart=>exact⟨i+1,N,[],by omega,by first|rfl|go_num,by simp,by omega,lX.out,h0,fun _ _=>rfl⟩
 case round=>
  obtain⟨k,f,pre,hk,rfl,hpl,hkf,jl,ja,jF⟩:=hrel;have cJ:=hide jl;have pP:=hide jF;have pO:=hide ja;clear jl jF ja;have lI:Ib<W.heap.size:=dN pq;have cI:wr.cell? ⟨Ib,0,none⟩=some (.int .i64 (i:Int)):=(World.cell?_of_block (a:=⟨Ib,0,none⟩) (pP.out Ib (by simp))).trans pq;have cT:wr.cell? ⟨Tb,0,none⟩=some (.pointer (some ⟨T,0,none⟩)):=(World.cell?_of_block (a:=⟨Tb,0,none⟩) (pP.out Tb (by simp))).trans uW;have kT:ae wr T 119 #[.slice A N c,.map (some mb),.int .i64 d]:=(pP.out T (by simp)).trans hT;have c1:=kT.cell 1;have EN:=hm.same (pP.out mb (by simp));have fi:=EN.find (p:=i) (by omega);have fk:=EN.find_ok (p:=k) (by omega);rw[Qc.out] at fi;have jh:(0:Int)≤k∧(k:Int)≤N+1:=by omega
  have sY:=EN.same (W':=wr.drew) rfl;have fid:=sY.find (p:=i) (by omega);have Ea:=sY.find_ok (p:=k) (by omega);rw[Qc.out] at fid;have Hmd:=hide sY;have za:=hide (HJ.out pre wr wr.drew none pO.out ⟨rfl,rfl,rfl,Nat.le_refl _,fun _ _ _=>rfl⟩ (fun r e=>by cases e));have mH:=hide (show mL [Ib,Tb,T,mb] W wr.drew from pP.out);clear EN sY
  by_cases hlt:k<en
  ·have dI:(k:Int)<(en:Int):=by omega
   have mX:k<N:=by omega
   obtain⟨f,rfl⟩:∃g,f=g+1:=⟨f-1,by omega⟩
   have hstep:Evs.gK m en (f+1) k=match Evs.bj k m with
    | some e=>k :: Evs.gK m en f (e+1)
    | none=>Evs.gK m en f (k+1):=by rw[Evs.gK,if_pos hlt]
   cases hl:Evs.bj k m with
   | none=>
    rw[hl] at Ea hstep;dsimp only at hstep;have aW:=hide hstep;have Hl:=hide hl;simp only[Option.getD_none,Option.isSome_none] at Ea;clear hstep hl fk;gi_wp2
    gi_region
    gi_wp2
    go_roundw
    case rel=>exact⟨k+1,f,pre,by omega,by first|rfl|go_num,by omega,by omega,by rw[←cJ.out,aW.out],za.out,mH.out⟩
    case measure=>simp[intOf];omega
   | some e=>
    rw[hl] at Ea hstep;dsimp only at hstep;have aW:=hide hstep;have xQ:=Hf.out k e hl;have heN:=pA k e hl;have Hl:=hide hl;simp only[Option.getD_some,Option.isSome_some] at Ea;clear hstep hl fk;obtain⟨fn,tmps,assign,body,hy,hR⟩:=hY pre ⟨k,mX⟩ wr.drew za.out (by omega);gi_wp2
    gi_region
    gi_wp2;refine hR.mono ?_;rintro e3 W3 (⟨rfl,bV,aH⟩|⟨rfl,gV⟩)
    ·gi_wp2
     go_roundw
     case rel=>exact⟨e+1,f,pre++[⟨k,mX⟩],by omega,by first|rfl|go_num,by rw[List.length_append];simp;omega,by omega,by rw[←cJ.out,aW.out,List.map_append,List.append_assoc];rfl,bV,mH.out.trans aH⟩
     case measure=>simp[intOf];omega
    gi_wp2;refine bodyPost_ret (results_none rfl _ _ _) rfl ?_;exact⟨⟨_,rfl⟩,.inr ⟨_,⟨_,by rw[←cJ.out,aW.out,List.map_append,List.append_assoc];rfl⟩,gV⟩⟩
  have dI:¬(k:Int)<(en:Int):=by omega
  have hnil:Evs.gK m en f k=[]:=by
   cases f with
   | zero=>rfl
   | succ f=>rw[Evs.gK,if_neg hlt]
  gi_wp2
  gi_region
  gi_wp2;go_end0;refine⟨⟨_,rfl⟩,.inl ⟨pre,?_,za.out⟩⟩;rw[←cJ.out,hnil,List.append_nil]
theorem agM(T i:Nat)(w:World):Calls Tryz.prog 38 #[.pointer (some ⟨T,0,none⟩),.int .i64 (i:Int)] w fun e w'=>
  e=.returned (.func (.func 67) #[] #[.pointer (some ⟨w.heap.size+1,0,none⟩),.pointer (some ⟨w.heap.size,0,none⟩)])∧w'=(w.alloc (.cells #[.pointer (some ⟨T,0,none⟩)] 88)).alloc (.cells #[.int .i64 (i:Int)] 3):=by
 go_enter Tryz.func38,Tryz.ntmps38
 go_wp2;go_ret;exact⟨rfl,rfl⟩
theorem agN(n:Nat)(hn:1≤n)(Ib Tb T mb i nn:Nat)(A:Option Addr)(N c:Nat)(d:Int)(m:List (Nat×Nat))(D:DataW Unit)(hi:i<N)(hN:N≤10000000)(hf:Evs.CD m)(pA:∀p k,Evs.bj p m=some k→k<N)(kg:(Evs.bj i m).getD 0≤N)(w:World)
  (pq:w.cell? ⟨Ib,0,none⟩=some (.int .i64 (i:Int))) (uW:w.cell? ⟨Tb,0,none⟩=some (.pointer (some ⟨T,0,none⟩))) (hT:ae w T 119 #[.slice A N c,.map (some mb),.int .i64 d]) (hm:fJ w mb nn m D) :
  SeqStopsK Fence.wide n Tryz.prog 67 #[.pointer (some ⟨Ib,0,none⟩),.pointer (some ⟨Tb,0,none⟩)] (fun x:Kd N=>#[Value.int .i64 (x.1:Int)]) (mL [Ib,Tb,T,mb]) (fun ys=>ys.map (·.1)=Evs.gK m ((Evs.bj i m).getD 0) N (i+1))
   (fun pre=>∃rest,pre.map (·.1)++rest=Evs.gK m ((Evs.bj i m).getD 0) N (i+1)) N w:=fun l J Jx W hW hJ _ hY h0=>
 agL n hn l Ib Tb T mb i nn A N c d m D hi hN hf pA kg J Jx W hJ hY ((hW.cell (dN pq)).trans pq) ((hW.cell (dN uW)).trans uW) (hT.go hW) (hm.same (hW.block _ hm.lt)) h0
end
end Go.Proofs.YtnbmfljhbpfilaaGreatDoor
