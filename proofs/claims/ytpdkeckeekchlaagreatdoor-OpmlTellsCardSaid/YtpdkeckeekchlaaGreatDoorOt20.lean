/- events.grow: the tree of events that are whole. And more. -/
import Derived.Test.YtpdkeckeekchlaaGreatDoorOt19
set_option linter.unusedSimpArgs false
set_option maxRecDepth 100000
set_option maxHeartbeats 16000000
set_option linter.unusedVariables false
namespace Go.Proofs.YtpdkeckeekchlaaGreatDoor
section
open Go.RowKit Tk Sx Go.WideShapes

structure Rq(xs:List Ew):Prop where
 len:xs.length≤10000000
 few:∀x∈xs,x.e.attrs.length≤1000000
 nm:∀x∈xs,∀a∈x.e.attrs,gM a.name
def Rz(W:World)(B T mb:Nat)(A:Option Addr)(n c:Nat)(m:List (Nat×Nat)):Prop :=
 B≤T∧B≤mb∧(∃d:Int,ae W T 152 #[.slice A n c,.map (some mb),.int .i64 d])∧∃(k:Nat) (D:DataW Unit),fQ W mb k m D∧k≤n
theorem ke.cap{W:World}{base n c:Nat}{A:Option Addr}{l:List Nat}(h:ke W base A n c l):n≤c:=by
 rcases h with h|h
 ·exact zf h
 omega
theorem ke.cut{W:World}{base m c sb so p:Nat}{l:List Nat}(h:ke W base (some ⟨sb,so,none⟩) (m+1) c (l++[p]))(hm:l.length=m):ke W base (some ⟨sb,so,none⟩) m m l:=by
 have hr:=h.reads;refine .inr ⟨rfl,⟨by rw[ahT,hm];omega,fun hp=>?_⟩,(fun e=>by cases e),h.acv⟩;obtain⟨b,off,e,hlt,hc⟩:=hr.2 (by omega);refine⟨b,off,e,hlt,fun j u hu=>hc j u ?_⟩;rw[MX,List.getElem?_append_left (List.getElem?_eq_some_iff.1 hu).1];exact hu
theorem YX(l:List Ev):∀i,(Evs.upto l i).1.length≤i
 | 0=>by simp[Evs.upto]
 | i+1=>by
  have ih:=YX l i;rw[Evs.upto]
  cases l[i]? with
  | none=>dsimp only;omega
  | some e=>
   dsimp only;unfold Evs.l4;split
   ·rw[List.length_append];simp;omega
   split
   ·rw[List.length_dropLast];omega
   omega
theorem aeM(xs:List Ew)(A:Option Addr)(c:Nat)(w:World)(hL:pz w w.heap.size A xs)(hW:Evs.rf (xs.map (·.e)))(hS:Rq xs) :
  Calls Tryz.prog 87 #[.slice A xs.length c] w fun e w'=>Below w.heap.size w w'∧∃T mb,e=.returned (.pointer (some ⟨T,0,none⟩))∧Rz w' w.heap.size T mb A xs.length c (Evs.gP (xs.map (·.e))):=by
 have HL:=ap hL;have HS:=ap hS;have hN:=hS.len;have fw:=ap (fun i e (h:(xs.map (·.e))[i]?=some e)=>Evs.OD hW h);have cz:=ap (fun i e (h:(xs.map (·.e))[i]?=some e)=>Evs.Oh h);have HNu:=ap (YX (xs.map (·.e)));have uM:=ap (show Evs.gP (xs.map (·.e))=(Evs.upto (xs.map (·.e)) xs.length).2 by unfold Evs.gP;rw[List.length_map]);have hne:xs.length≠0:=fun h=>hW.ne (by rw[List.eq_nil_of_length_eq_zero h];rfl)
 have Qj:=ap (show (Evs.upto (xs.map (·.e)) xs.length).1=[] by
  have h:=Evs.Oi (xs.map (·.e)) xs.length (by simp);rw[List.take_of_length_le (by simp),hW.shut] at h
  simpa using h)
 obtain⟨N,La⟩:∃N,xs.length=N:=⟨_,rfl⟩;have HN:=ap La;rw[La] at uM Qj hN hne ⊢;obtain⟨EL,TF⟩:∃l,Evs.gP (xs.map (·.e))=l:=⟨_,rfl⟩;rw[TF] at uM ⊢;have gD:=@run_makeMap Tryz.prog;clear hL hS hW La TF
 go_enter Tryz.func87,Tryz.ntmps87
 go_wp2
 go_step3
 go_wp2
 go_step3
 go_wp2;clear gD;have qA:=ap ((fQ.new w).same (W':=(w.alloc (.map #[] 0)).alloc (.cells #[.slice A N c,.map (some w.heap.size),.int .i64 0] 152)) (Below.heap_alloc _ _ _ (by simp)))
 have ee:=ap (show ae ((w.alloc (.map #[] 0)).alloc (.cells #[.slice A N c,.map (some w.heap.size),.int .i64 0] 152)) (w.heap.size+1) 152 #[.slice A N c,.map (some w.heap.size),.int .i64 0] from by
  have:=ae.new (w.alloc (.map #[] 0)) 152 #[.slice A N c,.map (some w.heap.size),.int .i64 0];rwa[World.size_alloc] at this)
 have cu:=ap ((ay w (.map #[] 0)).trans ((ay (w.alloc (.map #[] 0)) (.cells #[.slice A N c,.map (some w.heap.size),.int .i64 0] 152)).mono (by simp)));have Qt:=ap (show ((w.alloc (.map #[] 0)).alloc (.cells #[.slice A N c,.map (some w.heap.size),.int .i64 0] 152)).heap.size=w.heap.size+2 by simp);obtain⟨W0,jo⟩:∃W0,(w.alloc (.map #[] 0)).alloc (.cells #[.slice A N c,.map (some w.heap.size),.int .i64 0] 152)=W0:=⟨_,rfl⟩;rw[jo] at qA ee cu Qt ⊢;clear jo
 go_loopg [4,5,6,7,8,15,23,37,55] N (fun gk v4 v5 v6 v7 v8 v15 v23 v37 v55 wr=>∃(i no co km:Nat) (Ao:Option Addr) (D:DataW Unit) (dp:Int),gk=N-i∧i≤N∧v15=.int .i64 (i:Int)∧v4=.slice Ao no co∧(Evs.upto (xs.map (·.e)) i).1.length=no∧ke wr (w.heap.size+2) Ao no co (Evs.upto (xs.map (·.e)) i).1∧
  fQ wr w.heap.size km (Evs.upto (xs.map (·.e)) i).2 D∧km≤i∧ae wr (w.heap.size+1) 152 #[.slice A N c,.map (some w.heap.size),.int .i64 dp]∧Below w.heap.size w wr∧w.heap.size+2≤wr.heap.size)
 case atStart=>exact⟨0,0,0,0,none,_,0,rfl,by omega,rfl,rfl,rfl,.inl (World.ownsRow_nil _ _ _ _),qA.o,by omega,ee.o,cu.o,by rw[Qt.o];exact Nat.le_refl _⟩
 case round=>
  obtain⟨i,no,co,km,Ao,D,dp,au,hi,rfl,rfl,hno,hst,UY,BK,rQ,hb,aN⟩:=hrel;have dQ:=ap au;have HSt:=ap hst;have j3:=ap UY;have l9:=ap rQ;have HB:=ap hb;have dt:=ap hno;have apl:no≤i:=by rw[←hno];exact HNu.o i
  clear au hst UY rQ hb hno
  by_cases hlt:i<N
  ·obtain⟨x,hx⟩:∃x,xs[i]?=some x:=⟨_,List.getElem?_eq_getElem (by rw[HN.o];exact hlt)⟩;have dV:=List.mem_of_getElem? hx;have yE:(xs.map (·.e))[i]?=some x.e:=by rw[List.getElem?_map,hx];rfl
   obtain⟨UG,Bq⟩:=fw.o i _ yE;have aX:=cz.o i _ yE;have Dn:=ap (HL.o.below HB.o);obtain⟨b,off,rfl,eZ,hy⟩:=Dn.o.at_ hx;have rN:=Dn.o.sub x dV;have sA:=ap (fun (W:World) (h:Below wr.heap.size wr W)=>aea x W UG ((rN.below (h.mono (by omega))).more (Nat.le_trans (by omega) h.size)) (HS.o.few x dV) (HS.o.nm x dV));have y0:=hy.c0;have y1:=hy.c1;have y2:=hy.c2;have y3:=hy.c3;have y4:=hy.c4;unfold dS at sA;obtain⟨O,hO⟩:∃O,(Evs.upto (xs.map (·.e)) i).1=O:=⟨_,rfl⟩;obtain⟨M,hM⟩:∃M,(Evs.upto (xs.map (·.e)) i).2=M:=⟨_,rfl⟩;have hnx1:Evs.upto (xs.map (·.e)) (i+1)=Evs.l4 (O,M) i x.e:=by rw[aX,←hO,←hM]
   rw[hO] at Bq HSt dt;rw[hM] at j3;have Hxp:=ap (fun (h:0<i)=>(show ∃q,xs[i-1]?=some q from⟨_,List.getElem?_eq_getElem (by rw[HN.o];omega)⟩));clear aX hO hM yE dV UG rN hy;obtain⟨⟨kd,⟨ns,loc⟩,ar,tx⟩,Ax,cx⟩:=x;dsimp only at y0 y1 y2 y3 y4 sA Bq hnx1
   rcases Bq with ⟨rfl,h0⟩|⟨rfl,O',p,rfl,hpi,lR⟩|⟨rfl,Fx,q,rC,hq,hqk⟩
   ·rw[show ((0:Nat):Int)=0 from rfl] at y0 sA;have ua:Evs.l4 (O,M) i ⟨0,⟨ns,loc⟩,ar,tx⟩=(O++[i],M):=by unfold Evs.l4;rw[if_pos rfl]
    have aQ:=ap (hnx1.trans ua)
    have afw:(no=0∧i=0)∨((no:Int)==0)=false:=by
     by_cases hO:O=[]
     ·exact .inl ⟨by rw[←dt.o,hO];rfl,h0 hO⟩
     refine .inr ?_;rw[beq_eq_false_iff_ne];have:no≠0:=fun h=>hO (List.eq_nil_of_length_eq_zero (by rw[dt.o];exact h));omega
    clear hnx1 ua h0;have l7:=ap (ay wr (.cells #[.int .i8 0,.string (aa ns),.string (aa loc),.slice Ax ar.length cx,.string (aa tx)] 79));have ia:=ap (ae.new wr 79 #[.int .i8 0,.string (aa ns),.string (aa loc),.slice Ax ar.length cx,.string (aa tx)]);have HF:=ap (sA.o _ l7.o)
    go_wp2_with fail
    refine HF.o.mono ?_;rintro e w2 ⟨rfl,af⟩;have dP:=ap (l7.o.trans (af.mono l7.o.size));have bm:=ap (ia.o.go af);have qH:=ap (HSt.o.kept dP.o.size (fun k hk _ _=>dP.o.block k hk));have xu:=ap (j3.o.same (dP.o.block _ j3.o.lt));have xz:=ap (l9.o.go dP.o);have ag:=ap (HB.o.trans (dP.o.mono HB.o.size));have cJ:w.heap.size+2≤w2.heap.size:=Nat.le_trans aN dP.o.size;have k0:=bm.o.cell 0;clear af y0 y1 y2 y3 y4
    rcases afw with ⟨hg1,cK⟩|hg1
    ·subst hg1;subst cK;dsimp only
     go_wp2_with (at_builtin;go_loud (refine Zn rfl (.tmp 41) (.tmp 43) 164 rfl Tryz.underlying164 (w.heap.size+2) Ao 0 co O 0 rfl qH.o rfl (by omega) cJ ?_);intro g8 dw w8 aks aP aG wE;have wu:∀k,k<w.heap.size+2→k<w2.heap.size→w8.heap[k]?=w2.heap[k]?:=fun k h1 h2=>aG.block k h2 (fun e=>by have:=(wE k e.symm).1;omega);have uW:=ap ((wu _ (by omega) (by omega)).trans xz.o);have II:=ap (xu.o.same (wu _ (by omega) (by omega)));have dY:=ap (ag.o.grown aG ag.o.size (fun k e=>by have:=(wE k e).1;omega));have cU:=ap aP;have Lr:=Nat.le_trans cJ aG.size;have q2:=ae.cell uW.o 2;have f2:=ae.frozen uW.o 2;clear aP aG wE wu)
     go_roundg (N-(0+1))
     case measure=>have:=dQ.o;omega
     case rel=>
      have hz:(w8.setCell ⟨w.heap.size+1,2,none⟩ (.int .i64 (max dp 1))).heap.size=w8.heap.size:=by simp[World.setCell]
      have Mj:ae (w8.setCell ⟨w.heap.size+1,2,none⟩ (.int .i64 (max dp 1))) (w.heap.size+1) 152 #[.slice (some ⟨b,off,none⟩) N c,.map (some w.heap.size),.int .i64 (max dp 1)]:=by
       have:=ae.aH uW.o 2 (.int .i64 (max dp 1))
       simpa using this
      refine⟨0+1,0+1,dw,km,some ⟨g8,0,none⟩,D,(max dp 1),rfl,by omega,by first|rfl|go_num,rfl,by rw[aQ.o];show (O++[0]).length=_;rw[List.length_append,dt.o];rfl,?_,?_,by omega,Mj,dY.o.setCell (p:=⟨w.heap.size+1,2,none⟩) (by show _≤w.heap.size+1;omega) _,by rw[hz];exact Lr⟩
      ·rw[aQ.o];exact .inl (ownsRow_setCell_other cU.o (by simp[Value.ownBlock];have:=(aD cU.o g8 rfl).1;omega) _)
      rw[aQ.o];exact II.o.same (Below.heap_setCell _ _ _ _ (by show w.heap.size≠w.heap.size+1;omega))
    dsimp only
    go_wp2_with (at_builtin;go_loud (refine Zn rfl (.tmp 41) (.tmp 43) 164 rfl Tryz.underlying164 (w.heap.size+2) Ao no co O i rfl qH.o rfl (by omega) cJ ?_);intro g8 dw w8 aks aP aG wE;have wu:∀k,k<w.heap.size+2→k<w2.heap.size→w8.heap[k]?=w2.heap[k]?:=fun k h1 h2=>aG.block k h2 (fun e=>by have:=(wE k e.symm).1;omega);have uW:=ap ((wu _ (by omega) (by omega)).trans xz.o);have II:=ap (xu.o.same (wu _ (by omega) (by omega)));have dY:=ap (ag.o.grown aG ag.o.size (fun k e=>by have:=(wE k e).1;omega));have cU:=ap aP;have Lr:=Nat.le_trans cJ aG.size;have q2:=ae.cell uW.o 2;have f2:=ae.frozen uW.o 2;clear aP aG wE wu)
    go_roundg (N-(i+1))
    case measure=>have:=dQ.o;omega
    case rel=>
     have hz:(w8.setCell ⟨w.heap.size+1,2,none⟩ (.int .i64 (max dp ((no:Int)+1)))).heap.size=w8.heap.size:=by simp[World.setCell]
     have Mj:ae (w8.setCell ⟨w.heap.size+1,2,none⟩ (.int .i64 (max dp ((no:Int)+1)))) (w.heap.size+1) 152 #[.slice (some ⟨b,off,none⟩) N c,.map (some w.heap.size),.int .i64 (max dp ((no:Int)+1))]:=by
      have:=ae.aH uW.o 2 (.int .i64 (max dp ((no:Int)+1)))
      simpa using this
     refine⟨i+1,no+1,dw,km,some ⟨g8,0,none⟩,D,(max dp ((no:Int)+1)),rfl,by omega,by first|rfl|go_num,rfl,by rw[aQ.o];show (O++[i]).length=_;rw[List.length_append,dt.o];rfl,?_,?_,by omega,Mj,dY.o.setCell (p:=⟨w.heap.size+1,2,none⟩) (by show _≤w.heap.size+1;omega) _,by rw[hz];exact Lr⟩
     ·rw[aQ.o];exact .inl (ownsRow_setCell_other cU.o (by simp[Value.ownBlock];have:=(aD cU.o g8 rfl).1;omega) _)
     rw[aQ.o];exact II.o.same (Below.heap_setCell _ _ _ _ (by show w.heap.size≠w.heap.size+1;omega))
   ·rw[show ((1:Nat):Int)=1 from rfl] at y0 sA;have ua:Evs.l4 (O'++[p],M) i ⟨1,⟨ns,loc⟩,ar,tx⟩=(O',(p,i) :: M):=by unfold Evs.l4;rw[if_neg (show ¬(1:Nat)=0 by decide),if_pos rfl];simp
    have aQ:=ap (hnx1.trans ua);obtain⟨m,hm⟩:∃m,O'.length=m:=⟨_,rfl⟩;have cD:no=m+1:=by rw[←dt.o,List.length_append,hm];rfl
    have Hm:=ap hm;subst cD;have hg1:(((m+1:Nat):Int)==0)=false:=by rw[beq_eq_false_iff_ne];omega
    have cK:((m:Int)+1==0)=false:=by rw[beq_eq_false_iff_ne];omega
    have zm:IntKind.i64.wrap (((m+1:Nat):Int)-1)=(m:Int):=by rw[IntWalk.i64_in _ (by omega)];omega
    have zm2:IntKind.i64.wrap ((m:Int)+1-1)=(m:Int):=by rw[IntWalk.i64_in _ (by omega)];omega
    have hxp:∃z,xs[p]?=some z:=⟨_,List.getElem?_eq_getElem (by rw[HN.o];omega)⟩;obtain⟨z,hz⟩:=hxp
    have Cg:z.e.name=⟨ns,loc⟩:=by
     unfold Evs.kP at lR;rw[List.getElem?_map,hz] at lR;exact lR
    obtain⟨b2,Nd,eA,hbz,yF⟩:=Dn.o.at_ hz;cases eA;have p1:=yF.c1;have p2:=yF.c2;rw[Cg] at p1 p2;dsimp only at p1 p2;have FC:(0:Int)≤p∧(p:Int)<N:=by omega
    have hp9:p≤1000000000:=by omega
    clear hnx1 ua hz Cg yF lR hm;have l7:=ap (ay wr (.cells #[.int .i8 1,.string (aa ns),.string (aa loc),.slice Ax ar.length cx,.string (aa tx)] 79));have ia:=ap (ae.new wr 79 #[.int .i8 1,.string (aa ns),.string (aa loc),.slice Ax ar.length cx,.string (aa tx)]);have HF:=ap (sA.o _ l7.o)
    go_wp2_with fail
    refine HF.o.mono ?_;rintro e w2 ⟨rfl,af⟩;have dP:=ap (l7.o.trans (af.mono l7.o.size));have bm:=ap (ia.o.go af);have qH:=ap (HSt.o.kept dP.o.size (fun k hk _ _=>dP.o.block k hk));have xu:=ap (j3.o.same (dP.o.block _ j3.o.lt));have xz:=ap (l9.o.go dP.o);have ag:=ap (HB.o.trans (dP.o.mono HB.o.size));have cJ:w.heap.size+2≤w2.heap.size:=Nat.le_trans aN dP.o.size;have k0:=bm.o.cell 0;have k1:=bm.o.cell 1;have k2:=bm.o.cell 2;have r1:=(dP.o.cell (dE p1)).trans p1;have r2:=(dP.o.cell (dE p2)).trans p2;obtain⟨sb,so,rfl,rM,hsc⟩:=qH.o.reads.2 (by omega);have s0:=hsc m _ (ahS (p:=p) (by rw[List.getElem?_append_right (by rw[Hm.o];exact Nat.le_refl _),Hm.o,Nat.sub_self];rfl));have apb:(0:Int)≤m∧(m:Int)<((m+1:Nat):Int):=by omega
    clear af y0 y1 y2 y3 y4 p1 p2 hsc;dsimp only
    go_wp2_with fail
    go_quiet (fail)
    have Ja:=ap (show ke (w2.drewN nq) (w.heap.size+2) (some ⟨sb,so,none⟩) (m+1) co (O'++[p]) from qH.o.kept (Nat.le_refl _) (fun _ _ _ _=>rfl));have IG:=ap (show fQ (w2.drewN nq) w.heap.size km M D from xu.o.same rfl);have Jb:=ap (xz.o.drewN nq);have aw:=ap (show Below w.heap.size w (w2.drewN nq) from⟨ag.o.os,ag.o.tape,ag.o.output,ag.o.size,ag.o.block⟩);have mB:w.heap.size+2≤(w2.drewN nq).heap.size:=cJ;have s3:(w2.drewN nq).cell? ⟨sb,so+m,none⟩=some (.int .i64 (p:Int)):=s0;clear k0 k1 k2 r1 r2 s0;generalize w2.drewN nq=W at Ja IG Jb aw mB s3 ⊢;have t1:=Jb.o.cell 1;have dU:km<maxLen:=by unfold maxLen;omega
    obtain⟨w9,Vk,tW,mD⟩:=(IG.o.same (W':=W.drew) rfl).own.update (t:=150) MM Tryz.underlying150 dU (key:=.int .i64 (p:Int)) (val:=.int .i64 (i:Int)) (keyOf_int hp9) (plainElem_int Tryz.underlying3 (WalkArith.wf_i64 (by omega)))
    go_wp2_with fail
    have yi:=Ja.o.cap;have hmc:m≤co:=by omega
    clear yi
    go_region
    go_wp2;have fK:∀k,k<W.heap.size→k≠w.heap.size→w9.heap[k]?=W.heap[k]?:=fun k h1 h2=>mD.block k h1 (fun e=>h2 (by injection e));have nM:W.heap.size≤w9.heap.size:=mD.size;have aah:=ap ((IG.o.same (W':=W.drew) rfl).next tW);have aaJ:=ap ((Ja.o.cut Hm.o).kept nM (fun k h1 _ h2=>fK k h1 (by omega)));have aaL:=ap ((fK _ (by omega) (by omega)).trans Jb.o);have uE:=ap ((aw.o.drew).grown mD aw.o.size (fun k e=>by injection e with e;omega));clear Vk tW mD
    go_roundg (N-(i+1))
    case measure=>have:=dQ.o;omega
    case rel=>exact⟨i+1,m,m,km+1,some ⟨sb,so,none⟩,_,dp,rfl,by omega,by first|rfl|go_num,rfl,by rw[aQ.o];exact Hm.o,by rw[aQ.o];exact aaJ.o,by rw[aQ.o];exact aah.o,by omega,aaL.o,uE.o,Nat.le_trans mB nM⟩
   rw[show ((2:Nat):Int)=2 from rfl] at y0 sA;have ua:Evs.l4 (O,M) i ⟨2,⟨ns,loc⟩,ar,tx⟩=(O,M):=by unfold Evs.l4;rw[if_neg (show ¬(2:Nat)=0 by decide),if_neg (show ¬(2:Nat)=1 by decide)]
   have aQ:=ap (hnx1.trans ua)
   have hg1:((no:Int)==0)=false:=by
    rw[beq_eq_false_iff_ne];have:no≠0:=fun h=>Fx (List.eq_nil_of_length_eq_zero (by rw[dt.o];exact h));omega
   obtain⟨j,hj⟩:∃j,j+1=i:=⟨i-1,by omega⟩
   have FD:∃z,xs[j]?=some z∧z.e=q:=by
    rw[show i-1=j by omega,List.getElem?_map] at hq;exact Option.map_eq_some_iff.1 hq
   obtain⟨z,hz,Cf⟩:=FD;obtain⟨b2,Nd,eA,af,yF⟩:=Dn.o.at_ hz;cases eA;have p0:=yF.c0;rw[Cf] at p0;have nK:((q.kind:Int)==2)=false:=by rw[beq_eq_false_iff_ne];omega
   have z1:IntKind.i64.wrap ((i:Int)-1)=(j:Int):=by rw[IntWalk.i64_in _ (by omega)];omega
   have iR:(0:Int)≤j∧(j:Int)<N:=by omega
   have Hj:=ap hj;obtain⟨qk,Vf⟩:∃k:Int,(q.kind:Int)=k:=⟨_,rfl⟩;rw[Vf] at p0 nK;clear hnx1 ua Fx hq hqk hz Cf yF hj Vf rC;have l7:=ap (ay wr (.cells #[.int .i8 2,.string (aa ns),.string (aa loc),.slice Ax ar.length cx,.string (aa tx)] 79));have ia:=ap (ae.new wr 79 #[.int .i8 2,.string (aa ns),.string (aa loc),.slice Ax ar.length cx,.string (aa tx)]);have HF:=ap (sA.o _ l7.o)
   go_wp2_with fail
   refine HF.o.mono ?_;rintro e w2 ⟨rfl,af⟩;have dP:=ap (l7.o.trans (af.mono l7.o.size));have bm:=ap (ia.o.go af);have qH:=ap (HSt.o.kept dP.o.size (fun k hk _ _=>dP.o.block k hk));have xu:=ap (j3.o.same (dP.o.block _ j3.o.lt));have xz:=ap (l9.o.go dP.o);have ag:=ap (HB.o.trans (dP.o.mono HB.o.size));have cJ:w.heap.size+2≤w2.heap.size:=Nat.le_trans aN dP.o.size;have k0:=bm.o.cell 0;have p2:=(dP.o.cell (dE p0)).trans p0;clear af y0 y1 y2 y3 y4 p0;dsimp only;go_wp2
   go_roundg (N-(i+1))
   case measure=>have:=dQ.o;omega
   case rel=>exact⟨i+1,no,co,km,Ao,D,dp,rfl,by omega,by first|rfl|go_num,rfl,by rw[aQ.o];exact dt.o,by rw[aQ.o];exact qH.o,by rw[aQ.o];exact xu.o,by omega,xz.o,ag.o,cJ⟩
  have BH:i=N:=by omega
  subst BH;have af5:no=0:=by rw[←dt.o,Qj.o];rfl
  subst af5;have rC:((i:Int)==0)=false:=by rw[beq_eq_false_iff_ne];omega
  go_wp2;go_ret;refine⟨HB.o,w.heap.size+1,w.heap.size,rfl,by omega,Nat.le_refl _,⟨dp,l9.o⟩,km,D,?_,BK⟩;rw[uM.o];exact j3.o
end
section
open Go.RowKit Tk Sx Go.WideShapes

namespace Evs
def vG(l:List Ev)(p:Nat):Nat:=(bQ p (gP l)).getD 0
end Evs
structure nX(W:World)(B:Nat)(A:Option Addr)(c:Nat)(xs:List Ew):Prop where
 l:pz W B A xs
 hB:B≤W.heap.size
 w:Evs.rf (xs.map (·.e))
 s:Rq xs
 c:xs.length≤c
theorem nX.go{W W':World}{B c:Nat}{A:Option Addr}{xs:List Ew}(h:nX W B A c xs)(hb:Below W.heap.size W W'):nX W' B A c xs:=⟨h.l.below (hb.mono h.hB),Nat.le_trans h.hB hb.size,h.w,h.s,h.c⟩
theorem fQ.val{W:World}{mb n p:Nat}{m:List (Nat×Nat)}{D:DataW Unit}(h:fQ W mb n m D){c:Int}(hc:D.atKey (jP p) (.lit (.int .i64 0))=.lit (.int .i64 c)):c=(((Evs.bQ p m).getD 0:Nat):Int):=by
 cases hl:Evs.bQ p m with
 | none=>
  have h2:=(h.no p hl).2;rw[h2,DataW.lit.injEq,Lit.int.injEq] at hc;exact hc.2.symm
 | some k=>
  have h2:=(h.yes p k hl).2;rw[h2,DataW.lit.injEq,Lit.int.injEq] at hc;exact hc.2.symm
theorem fQ.find{W:World}{mb n p:Nat}{m:List (Nat×Nat)}{D:DataW Unit}(h:fQ W mb n m D)(hp:p≤1000000000) :
  (Instr.lookup 150 (.map (some mb)) (.int .i64 (p:Int)) false).run Tryz.prog W=.ok (.int .i64 (((Evs.bQ p m).getD 0:Nat):Int)) W:=by
 obtain⟨c,hrun,hc,_⟩:=h.own.lookup_int MM Tryz.underlying150 Tryz.underlying3 (sw W) (keyOf_int hp);rw[hrun,h.val hc]
theorem fQ.find_ok{W:World}{mb n p:Nat}{m:List (Nat×Nat)}{D:DataW Unit}(h:fQ W mb n m D)(hp:p≤1000000000) :
  (Instr.lookup 150 (.map (some mb)) (.int .i64 (p:Int)) true).run Tryz.prog W=.ok (.tuple #[.int .i64 (((Evs.bQ p m).getD 0:Nat):Int),.bool (Evs.bQ p m).isSome]) W:=by
 obtain⟨v,ps,hrun,hv⟩:=h.own.look_ok MM Tryz.underlying150 (sw W) (plainElem_int Tryz.underlying3 (by decide)) (keyOf_int hp);obtain⟨c,rfl,hc,_⟩:=plainElem_int_inv Tryz.underlying3 hv
 have hb:Maps.has D (jP p)=(Evs.bQ p m).isSome:=by
  cases hl:Evs.bQ p m with
  | none=>exact (h.no p hl).1
  | some k=>exact (h.yes p k hl).1
 rw[hrun,h.val (congrArg Prod.fst hc),hb]
theorem JU(xs:List Ew)(A:Option Addr)(c B i:Nat)(x:Ew)(w:World)(h:nX w B A c xs)(hx:xs[i]?=some x)(hk:x.e.kind=0) :
  Calls Tryz.prog 56 #[.slice A xs.length c,.int .i64 (i:Int)] w fun e w'=>Below w.heap.size w w'∧∃T mb,e=.returned (.pointer (some ⟨T,0,none⟩))∧Rz w' w.heap.size T mb A xs.length c (Evs.gP (xs.map (·.e))):=by
 have HG:=ap (fun W (hb:Below w.heap.size w W)=>aeM xs A c W ((h.l.more h.hB).below hb |>.more hb.size) h.w h.s);obtain⟨b,off,rfl,hb,hy⟩:=h.l.at_ hx;have y0:=hy.c0;rw[hk] at y0;rw[show ((0:Nat):Int)=0 from rfl] at y0;have pU:=(List.getElem?_eq_some_iff.1 hx).1;have hn:=h.s.len;obtain⟨N,hN⟩:∃N,xs.length=N:=⟨_,rfl⟩;rw[hN] at HG pU hn ⊢;have UK:(0:Int)≤i∧(i:Int)<N:=by omega
 clear h hx hk hy hN
 go_enter Tryz.func56,Tryz.ntmps56
 go_wp2_with fail
 refine (HG.o _ (Below.refl _ _)).mono ?_;rintro e w2 ⟨af,T,mb,rfl,ht⟩;have ag:=ap af;have HT:=ap ht;clear af ht y0;dsimp only;go_wp2;go_ret;exact⟨ag.o,T,mb,rfl,HT.o⟩
theorem ZC(xs:List Ew)(A:Option Addr)(c B i:Nat)(x:Ew)(w:World)(h:nX w B A c xs)(hx:xs[i]?=some x)(hk:x.e.kind=0) :
  Calls Tryz.prog 59 #[.slice A xs.length c,.int .i64 (i:Int)] w fun e w'=>e=.returned (.tuple #[.int .i64 ((Evs.vG (xs.map (·.e)) i:Nat):Int),.bool true])∧Below w.heap.size w w':=by
 have HG:=ap (JU xs A c B i x w h hx hk);have pU:=(List.getElem?_eq_some_iff.1 hx).1;have hn:=h.s.len;unfold Evs.vG;obtain⟨l,hl⟩:∃l,Evs.gP (xs.map (·.e))=l:=⟨_,rfl⟩;rw[hl] at HG ⊢;obtain⟨N,hN⟩:∃N,xs.length=N:=⟨_,rfl⟩;rw[hN] at HG pU hn ⊢;obtain⟨z,hz⟩:∃z:Int,(((Evs.bQ i l).getD 0:Nat):Int)=z:=⟨_,rfl⟩;rw[hz];have Hz:=ap hz;clear h hx hk hN hl hz
 go_enter Tryz.func59,Tryz.ntmps59
 go_wp2_with fail
 refine HG.o.mono ?_;rintro e w2 ⟨af,T,mb,rfl,hT,gS,⟨d,rQ⟩,k,D,hm,js⟩;have ag:=ap af;have t1:=rQ.cell 1;have hf:=hm.find (p:=i) (by omega);rw[Hz.o] at hf;clear af hm rQ;dsimp only;go_wp2;go_ret2;exact⟨rfl,ag.o⟩
end
section
open Go.RowKit Tk Sx Go.WideShapes

namespace Evs
def mH(n:Nm):List ft→Option Nat
 | []=>none
 | a :: r=>if a.name=n then some 0 else (mH n r).map (· + 1)
def kf(n:Nm)(l:List ft):Option L:=(mH n l).bind fun k=>(l[k]?).map (·.val)
theorem FY{n:Nm}:∀{l:List ft} {k:Nat},mH n l=some k→∃a,l[k]?=some a∧a.name=n
 | [],k,h=>by cases h
 | a :: r,k,h=>by
  unfold mH at h
  split at h
  ·rename_i ha
   cases h;exact⟨a,rfl,ha⟩
  obtain⟨j,hj,e⟩:=Option.map_eq_some_iff.1 h;subst e;obtain⟨b,hb,hn⟩:=FY hj;exact⟨b,by simpa using hb,hn⟩
theorem agF{n:Nm}{l:List ft}{k:Nat}{a:ft}(h:l[k]?=some a):mH n (l.drop k)=if a.name=n then some 0 else (mH n (l.drop (k+1))).map (· + 1):=by
 obtain⟨hk,e⟩:=List.getElem?_eq_some_iff.1 h;rw[List.drop_eq_getElem_cons hk,e];rfl
end Evs
theorem ace(a:ft)(n:Nm)(nb:Nat)(w:World)(hn:ae w nb 75 #[.string (aa n.ns),.string (aa n.loc)]) :
  Calls Tryz.prog 90 #[.agg #[.string (aa a.name.ns),.string (aa a.name.loc),.string (aa a.val)],.pointer (some ⟨nb,0,none⟩)] w fun e w'=>e=.returned (.bool (fF a.name n))∧Below w.heap.size w w':=by
 have hE:=fun W=>EM W a.name n;obtain⟨q,hq⟩:∃q,fF a.name n=q:=⟨_,rfl⟩;simp only[hq] at hE;rw[hq];have HO:=ap (ay w (.cells #[.string (aa a.name.ns),.string (aa a.name.loc),.string (aa a.val)] 155));have t0:=(hn.go HO.o).cell 0;have t1:=(hn.go HO.o).cell 1;clear hq hn
 go_enter Tryz.func90,Tryz.ntmps90
 go_wp2;go_ret;exact⟨rfl,HO.o⟩
def MA(o:Option Nat):Value:=match o with
 | some k=>.int .i64 (k:Int)
 | none=>.int .i64 (-1)
theorem agI(l:List ft)(A:Option Addr)(c:Nat)(n:Nm)(nb:Nat)(w:World)(hr:Reads w w.heap.size 3 A l.length (jl l))(hn:ae w nb 75 #[.string (aa n.ns),.string (aa n.loc)])(hl:l.length≤1000000) :
  Calls Tryz.prog 89 #[.slice A l.length c,.func (.func 90) #[] #[.pointer (some ⟨nb,0,none⟩)]] w fun e w'=>e=.returned (MA (Evs.mH n l))∧Below w.heap.size w w':=by
 obtain⟨N,hN⟩:∃N,l.length=N:=⟨_,rfl⟩;have HN:=ap hN;rw[hN] at hr hl ⊢;have HR:=ap hr;have Hn:=ap hn;have HA:=ap (fun a W h=>ace a n nb W h);obtain⟨z,hz⟩:∃z,Evs.mH n l=z:=⟨_,rfl⟩;rw[hz];have Hz:=ap hz;clear hr hn hN hz
 go_enter Tryz.func89,Tryz.ntmps89
 go_wp2
 go_loopg [5,8] N (fun gk v5 v8 wr=>∃i:Nat,gk=N-i∧i≤N∧v8=.int .i64 (i:Int)∧(Evs.mH n (l.drop i)).map (· + i)=z∧Below w.heap.size w wr)
 case atStart=>exact⟨0,rfl,by omega,rfl,by rw[←Hz.o];simp,Below.refl _ _⟩
 case round=>
  obtain⟨i,au,hi,rfl,hzz,hb⟩:=hrel;have dQ:=ap au;have HB:=ap hb;have JE:=ap hzz;clear au hb hzz
  by_cases hlt:i<N
  ·obtain⟨a,ha⟩:∃a,l[i]?=some a:=⟨_,List.getElem?_eq_getElem (by rw[HN.o];exact hlt)⟩;obtain⟨b,off,rfl,eZ,hx⟩:=JV (by rw[HN.o];exact HR.o.below HB.o) ha;have x0:=hx.c0;have x1:=hx.c1;have x2:=hx.c2;have hd:=Evs.agF (n:=n) ha;have xm:=ap (HA.o a wr (Hn.o.go HB.o));have Hd:=ap hd;clear ha hx hd
   go_wp2_with fail
   refine xm.o.mono ?_;rintro e w2 ⟨rfl,af⟩;have ag:=ap (HB.o.trans (af.mono HB.o.size));clear af;dsimp only
   cases hq:fF a.name n with
   | true=>
    have hv:some i=z:=by
     have:=JE.o;rw[Hd.o,if_pos ((AP _ _).1 hq)] at this
     simpa using this
    subst hv;clear hq;go_wp2;go_ret;exact⟨rfl,ag.o⟩
   | false=>
    have hv:=ap (show (Evs.mH n (l.drop (i+1))).map (· + (i+1))=z by
     have:=JE.o;rw[Hd.o,if_neg (fun h=>by rw[(AP _ _).2 h] at hq;cases hq)] at this;rw[←this,Option.map_map];congr 1
     funext j
     simp only[Function.comp]
     omega)
    clear hq;go_wp2
    go_roundg (N-(i+1))
    case measure=>have:=dQ.o;omega
    case rel=>exact⟨i+1,rfl,by omega,by first|rfl|go_num,hv.o,ag.o⟩
  have Cg:z=none:=by
   have:=JE.o;rw[List.drop_of_length_le (by rw[HN.o];omega)] at this;exact this.symm
  subst Cg;go_wp2;go_ret;exact⟨rfl,HB.o⟩
def RG(o:Option L):Value:=match o with
 | some v=>.tuple #[.string (aa v),.bool true]
 | none=>.tuple #[.string ⟨#[]⟩,.bool false]
theorem Zv(xs:List Ew)(A:Option Addr)(c B i:Nat)(x:Ew)(n:Nm)(w:World)(h:nX w B A c xs)(hx:xs[i]?=some x)(hk:x.e.kind=0) :
  Calls Tryz.prog 60 #[.slice A xs.length c,.int .i64 (i:Int),.agg #[.string (aa n.ns),.string (aa n.loc)]] w fun e w'=>e=.returned (RG (Evs.kf n x.e.attrs))∧Below w.heap.size w w':=by
 have HO:=ap (ay w (.cells #[.string (aa n.ns),.string (aa n.loc)] 75));have HK:=ap (ae.new w 75 #[.string (aa n.ns),.string (aa n.loc)]);have HG:=ap (JU xs A c B i x (w.alloc (.cells #[.string (aa n.ns),.string (aa n.loc)] 75)) (h.go (ay w _)) hx hk);have dV:=List.mem_of_getElem? hx;have pU:=(List.getElem?_eq_some_iff.1 hx).1;have bC:=h.s.len;have BB:=h.s.few x dV;have hB:=h.hB;have HL:=ap h.l;have Hxm:=ap dV;have Hx:=ap hx;obtain⟨N,hN⟩:∃N,xs.length=N:=⟨_,rfl⟩;rw[hN] at HG pU bC ⊢;have UK:(0:Int)≤i∧(i:Int)<N:=by omega
 obtain⟨z,hz⟩:∃z,Evs.kf n x.e.attrs=z:=⟨_,rfl⟩;rw[hz];have Hz:=ap hz;clear h hx hk hN dV hz
 go_enter Tryz.func60,Tryz.ntmps60
 go_wp2_with fail
 refine HG.o.mono ?_;rintro e w2 ⟨af,T,mb,rfl,-⟩;have ag:=ap (HO.o.trans (af.mono (by simp)));have bm:=ap (HK.o.go af);clear af;have sF:=ap (HL.o.below (ag.o.mono hB));obtain⟨b,off,rfl,eZ,hy⟩:=sF.o.at_ Hx.o;have y3:=hy.c3;have rN:=sF.o.sub x Hxm.o;have HI:=ap (agI x.e.attrs x.A x.c n w.heap.size w2 (rN.more (Nat.le_trans hB ag.o.size)) bm.o BB);have abh:=ap rN;clear hy rN;dsimp only
 go_wp2_with fail
 refine HI.o.mono ?_;rintro e w3 ⟨rfl,aA⟩;have aw:=ap (ag.o.trans (aA.mono ag.o.size));have y3':=(aA.cell (dE y3)).trans y3;have qd:=abh.o.below (aA.mono (Nat.le_trans hB ag.o.size));clear aA y3;dsimp only
 cases hi:Evs.mH n x.e.attrs with
 | none=>
  have hv:z=none:=by rw[←Hz.o];unfold Evs.kf;rw[hi];rfl
  subst hv;clear hi qd;unfold MA;dsimp only;go_wp2;go_ret2;exact⟨rfl,aw.o⟩
 | some k=>
  obtain⟨a,ha,-⟩:=Evs.FY hi;have hv:z=some a.val:=by rw[←Hz.o];unfold Evs.kf;rw[hi];show ((x.e.attrs[k]?).map (·.val))=_;rw[ha];rfl
  subst hv;obtain⟨b2,Nd,eA,af,oI⟩:=JV qd ha;have a2:=oI.c2;have eh:=(List.getElem?_eq_some_iff.1 ha).1;obtain⟨m,hm⟩:∃m,x.e.attrs.length=m:=⟨_,rfl⟩;rw[eA,hm] at y3';rw[hm] at eh BB;have eM:(0:Int)≤k∧(k:Int)<m:=by omega
  clear hi qd ha oI hm;unfold MA;dsimp only;go_wp2;go_ret2;exact⟨rfl,aw.o⟩
end
section
open Go.RowKit Go.Shelf Tk Sx Go.WideShapes

attribute [local go_sem] Oper.semAt_some

namespace Evs
def iX(m:List (Nat×Nat))(en:Nat):Nat→Nat→List Nat
 | 0,_=>[]
 | f+1,k=>if k<en then match bQ k m with
  | some e=>k :: iX m en f (e+1)
  | none=>iX m en f (k+1)
  else []
def Dd(m:List (Nat×Nat)):Prop:=∀p k,bQ p m=some k→p≤k
theorem Oe(l:List Ev):∀i,Dd (upto l i).2∧∀p k,bQ p (upto l i).2=some k→k<i
 | 0=>⟨fun p k h=>(by cases h),fun p k h=>(by cases h)⟩
 | i+1=>by
  obtain⟨ih,FZ⟩:=Oe l i;have hlt:=Og l i;rw[upto]
  cases l[i]? with
  | none=>exact⟨ih,fun p k h=>by have:=FZ p k h;omega⟩
  | some e=>
   dsimp only;unfold l4;split
   ·exact⟨ih,fun p k h=>by have:=FZ p k h;omega⟩
   split
   ·have hg:(upto l i).1.getLastD 0≤i:=by
     cases hl:(upto l i).1.getLast? with
     | none=>rw[List.getLastD_eq_getLast?,hl];exact Nat.zero_le _
     | some q=>
      have:=hlt q (List.mem_of_getLast? hl);rw[List.getLastD_eq_getLast?,hl];show q≤i;omega
    refine⟨fun p k h=>?_,fun p k h=>?_⟩
    ·unfold bQ at h
     split at h
     ·rename_i he
      cases h;dsimp only at he ⊢;omega
     exact ih p k h
    unfold bQ at h
    split at h
    ·cases h;exact Nat.lt_succ_self _
    have:=FZ p k h;omega
   exact⟨ih,fun p k h=>by have:=FZ p k h;omega⟩
def rW(l:List Ev)(i:Nat):List Nat:=iX (gP l) (vG l i) l.length (i+1)
end Evs
def ng(L:List Nat)(W W':World):Prop:=∀k∈L,W'.heap[k]?=W.heap[k]?
theorem ng.trans{L:List Nat}{X Y Z:World}(h:ng L X Y)(k:ng L Y Z):ng L X Z:=fun b hb=>(k b hb).trans (h b hb)
abbrev Kd(N:Nat):={ x:Nat // x<N }
theorem ag8(n:Nat)(hn:1≤n)(l Ib Tb T mb i nn:Nat)(A:Option Addr)(N c:Nat)(d:Int)(m:List (Nat×Nat))(D:DataW Unit)(hi:i<N)(hN:N≤10000000)(hf:Evs.Dd m)(pW:∀p k,Evs.bQ p m=some k→k<N)(kB:(Evs.bQ i m).getD 0≤N)
  (J Jx:List (Kd N)→World→Prop) (W:World) (hJ:AbidesFrom W.heap.size J)
  (hY:∀(pre:List (Kd N)) (x:Kd N) (W:World),J pre W→pre.length<N→YieldAt Fence.wide (n-1) Tryz.prog l #[.int .i64 (x.1:Int)] W fun e W'=>
   (e=.returned (.bool true)∧J (pre++[x]) W'∧ng [Ib,Tb,T,mb] W W')∨(e=.returned (.bool false)∧Jx (pre++[x]) W'))
  (pO:W.cell? ⟨Ib,0,none⟩=some (.int .i64 (i:Int))) (vU:W.cell? ⟨Tb,0,none⟩=some (.pointer (some ⟨T,0,none⟩))) (hT:ae W T 152 #[.slice A N c,.map (some mb),.int .i64 d]) (hm:fQ W mb nn m D) (h0:J [] W) :
  CallsIn Fence.wide n Tryz.prog 88 #[.func (.yield l) #[] #[],.pointer (some ⟨Ib,0,none⟩),.pointer (some ⟨Tb,0,none⟩)] W fun e W'=>(∃v,e=.returned v)∧
   ((∃ys:List (Kd N),ys.map (·.1)=Evs.iX m ((Evs.bQ i m).getD 0) N (i+1)∧J ys W')∨(∃pre:List (Kd N),(∃rest,pre.map (·.1)++rest=Evs.iX m ((Evs.bQ i m).getD 0) N (i+1))∧Jx pre W')):=by
 refine callsIn_of_wp Tryz.func88 rfl trivial ?_ rfl;simp only[Tryz.ntmps88,List.size_toArray,List.length_cons,List.length_nil,Nat.reduceAdd,Nat.reduceSub,Array.replicate_succ,Array.replicate_zero,List.push_toArray,List.append_toArray,List.nil_append,List.cons_append];obtain⟨en,hen⟩:∃en,(Evs.bQ i m).getD 0=en:=⟨_,rfl⟩;have Qx:=ap hen;rw[hen] at kB ⊢;obtain⟨all,hall⟩:∃all,Evs.iX m en N (i+1)=all:=⟨_,rfl⟩;rw[hall];have mf:=ap hall;have Hf:=ap hf;have HJ:=ap hJ;clear hall hen hf hJ;gi_wp2
 gi_loopw [4,5,6] (fun v4 v5 v6 wr=>∃(k f:Nat) (pre:List (Kd N)),k≤N+1∧v4=.int .i64 (k:Int)∧pre.length+i+1≤k∧en≤k+f∧pre.map (·.1)++Evs.iX m en f k=all∧J pre wr∧ng [Ib,Tb,T,mb] W wr)
  (fun v4 _ _ _=>N+1-(intOf v4).toNat)
 case atStart=>exact⟨i+1,N,[],by omega,by first|rfl|go_num,by simp,by omega,mf.o,h0,fun _ _=>rfl⟩
 case round=>
  obtain⟨k,f,pre,hk,rfl,hpl,hkf,jx,jn,jJ⟩:=hrel;have cL:=ap jx;have qy:=ap jJ;have qx:=ap jn;clear jx jJ jn;have lI:Ib<W.heap.size:=dE pO;have cI:wr.cell? ⟨Ib,0,none⟩=some (.int .i64 (i:Int)):=(World.cell?_of_block (a:=⟨Ib,0,none⟩) (qy.o Ib (by simp))).trans pO;have cT:wr.cell? ⟨Tb,0,none⟩=some (.pointer (some ⟨T,0,none⟩)):=(World.cell?_of_block (a:=⟨Tb,0,none⟩) (qy.o Tb (by simp))).trans vU;have kT:ae wr T 152 #[.slice A N c,.map (some mb),.int .i64 d]:=(qy.o T (by simp)).trans hT;have c1:=kT.cell 1;have Fu:=hm.same (qy.o mb (by simp));have fi:=Fu.find (p:=i) (by omega);have fk:=Fu.find_ok (p:=k) (by omega);rw[Qx.o] at fi;have eM:(0:Int)≤k∧(k:Int)≤N+1:=by omega
  have tU:=Fu.same (W':=wr.drew) rfl;have fid:=tU.find (p:=i) (by omega);have EP:=tU.find_ok (p:=k) (by omega);rw[Qx.o] at fid;have Hmd:=ap tU;have zI:=ap (HJ.o pre wr wr.drew none qx.o ⟨rfl,rfl,rfl,Nat.le_refl _,fun _ _ _=>rfl⟩ (fun r e=>by cases e));have mX:=ap (show ng [Ib,Tb,T,mb] W wr.drew from qy.o);clear Fu tU
  by_cases hlt:k<en
  ·have dg:(k:Int)<(en:Int):=by omega
   have nE:k<N:=by omega
   obtain⟨f,rfl⟩:∃g,f=g+1:=⟨f-1,by omega⟩
   have hstep:Evs.iX m en (f+1) k=match Evs.bQ k m with
    | some e=>k :: Evs.iX m en f (e+1)
    | none=>Evs.iX m en f (k+1):=by rw[Evs.iX,if_pos hlt]
   cases hl:Evs.bQ k m with
   | none=>
    rw[hl] at EP hstep;dsimp only at hstep;have bf:=ap hstep;have Hl:=ap hl;simp only[Option.getD_none,Option.isSome_none] at EP;clear hstep hl fk;gi_wp2
    gi_region
    gi_wp2
    go_roundw
    case rel=>exact⟨k+1,f,pre,by omega,by first|rfl|go_num,by omega,by omega,by rw[←cL.o,bf.o],zI.o,mX.o⟩
    case measure=>simp[intOf];omega
   | some e=>
    rw[hl] at EP hstep;dsimp only at hstep;have bf:=ap hstep;have yr:=Hf.o k e hl;have heN:=pW k e hl;have Hl:=ap hl;simp only[Option.getD_some,Option.isSome_some] at EP;clear hstep hl fk;obtain⟨fn,tmps,assign,body,hy,hR⟩:=hY pre ⟨k,nE⟩ wr.drew zI.o (by omega);gi_wp2
    gi_region
    gi_wp2;refine hR.mono ?_;rintro e3 W3 (⟨rfl,bY,aI⟩|⟨rfl,im⟩)
    ·gi_wp2
     go_roundw
     case rel=>exact⟨e+1,f,pre++[⟨k,nE⟩],by omega,by first|rfl|go_num,by rw[List.length_append];simp;omega,by omega,by rw[←cL.o,bf.o,List.map_append,List.append_assoc];rfl,bY,mX.o.trans aI⟩
     case measure=>simp[intOf];omega
    gi_wp2;refine bodyPost_ret (results_none rfl _ _ _) rfl ?_;exact⟨⟨_,rfl⟩,.inr ⟨_,⟨_,by rw[←cL.o,bf.o,List.map_append,List.append_assoc];rfl⟩,im⟩⟩
  have dg:¬(k:Int)<(en:Int):=by omega
  have hnil:Evs.iX m en f k=[]:=by
   cases f with
   | zero=>rfl
   | succ f=>rw[Evs.iX,if_neg hlt]
  gi_wp2
  gi_region
  gi_wp2;go_end0;refine⟨⟨_,rfl⟩,.inl ⟨pre,?_,zI.o⟩⟩;rw[←cL.o,hnil,List.append_nil]
theorem ag9(T i:Nat)(w:World):Calls Tryz.prog 57 #[.pointer (some ⟨T,0,none⟩),.int .i64 (i:Int)] w fun e w'=>
  e=.returned (.func (.func 88) #[] #[.pointer (some ⟨w.heap.size+1,0,none⟩),.pointer (some ⟨w.heap.size,0,none⟩)])∧w'=(w.alloc (.cells #[.pointer (some ⟨T,0,none⟩)] 118)).alloc (.cells #[.int .i64 (i:Int)] 3):=by
 go_enter Tryz.func57,Tryz.ntmps57
 go_wp2;go_ret;exact⟨rfl,rfl⟩
theorem aha(n:Nat)(hn:1≤n)(Ib Tb T mb i nn:Nat)(A:Option Addr)(N c:Nat)(d:Int)(m:List (Nat×Nat))(D:DataW Unit)(hi:i<N)(hN:N≤10000000)(hf:Evs.Dd m)(pW:∀p k,Evs.bQ p m=some k→k<N)(kB:(Evs.bQ i m).getD 0≤N)(w:World)
  (pO:w.cell? ⟨Ib,0,none⟩=some (.int .i64 (i:Int))) (vU:w.cell? ⟨Tb,0,none⟩=some (.pointer (some ⟨T,0,none⟩))) (hT:ae w T 152 #[.slice A N c,.map (some mb),.int .i64 d]) (hm:fQ w mb nn m D) :
  SeqStopsK Fence.wide n Tryz.prog 88 #[.pointer (some ⟨Ib,0,none⟩),.pointer (some ⟨Tb,0,none⟩)] (fun x:Kd N=>#[Value.int .i64 (x.1:Int)]) (ng [Ib,Tb,T,mb]) (fun ys=>ys.map (·.1)=Evs.iX m ((Evs.bQ i m).getD 0) N (i+1))
   (fun pre=>∃rest,pre.map (·.1)++rest=Evs.iX m ((Evs.bQ i m).getD 0) N (i+1)) N w:=fun l J Jx W hW hJ _ hY h0=>
 ag8 n hn l Ib Tb T mb i nn A N c d m D hi hN hf pW kB J Jx W hJ hY ((hW.cell (dE pO)).trans pO) ((hW.cell (dE vU)).trans vU) (hT.go hW) (hm.same (hW.block _ hm.lt)) h0
end
end Go.Proofs.YtpdkeckeekchlaaGreatDoor
