/- events.grow: the tree of events that are whole. And more. -/
import Derived.Test.YtifiiojchlaghaaGreatDoorOk03
import Derived.Test.YtifiiojchlaghaaGreatDoorOk18
set_option linter.unusedSimpArgs false
set_option maxRecDepth 100000
set_option maxHeartbeats 16000000
set_option linter.unusedVariables false
namespace Go.Proofs.YtifiiojchlaghaaGreatDoor
section
open Go.RowKit Tk Sx Go.WideShapes

structure SmallE(xs:List Ew):Prop where
 len:xs.length≤10000000
 few:∀x∈xs,x.e.attrs.length≤1000000
 nm:∀x∈xs,∀a∈x.e.attrs,SmallN a.name
def TreeAt(W:World)(B T mb:Nat)(A:Option Addr)(n c:Nat)(m:List (Nat×Nat)):Prop :=
 B≤T∧B≤mb∧(∃d:Int,Blk W T 122 #[.slice A n c,.map (some mb),.int .i64 d])∧∃(k:Nat) (D:DataW Unit),MapI W mb k m D∧k≤n
theorem Stk.cap{W:World}{base n c:Nat}{A:Option Addr}{l:List Nat}(h:Stk W base A n c l):n≤c:=by
 rcases h with h|h
 ·exact own_cap h
 omega
theorem Stk.cut{W:World}{base m c sb so p:Nat}{l:List Nat}(h:Stk W base (some ⟨sb,so,none⟩) (m+1) c (l++[p]))(hm:l.length=m):Stk W base (some ⟨sb,so,none⟩) m m l:=by
 have hr:=h.reads;refine .inr ⟨rfl,⟨by rw[natVs_len,hm];omega,fun hp=>?_⟩,(fun e=>by cases e),h.base_⟩;obtain⟨b,off,e,hlt,hc⟩:=hr.2 (by omega);refine⟨b,off,e,hlt,fun j u hu=>hc j u ?_⟩;rw[natVs_app,List.getElem?_append_left (List.getElem?_eq_some_iff.1 hu).1];exact hu
theorem upto_num(l:List Ev):∀i,(Evs.upto l i).1.length≤i
 | 0=>by simp[Evs.upto]
 | i+1=>by
  have ih:=upto_num l i;rw[Evs.upto]
  cases l[i]? with
  | none=>dsimp only;omega
  | some e=>
   dsimp only;unfold Evs.stp;split
   ·rw[List.length_append];simp;omega
   split
   ·rw[List.length_dropLast];omega
   omega
theorem grow_any(xs:List Ew)(A:Option Addr)(c:Nat)(w:World)(hL:EvL w w.heap.size A xs)(hW:Evs.Whl (xs.map (·.e)))(hS:SmallE xs) :
  Calls Tryz.prog 67 #[.slice A xs.length c] w fun e w'=>Below w.heap.size w w'∧∃T mb,e=.returned (.pointer (some ⟨T,0,none⟩))∧TreeAt w' w.heap.size T mb A xs.length c (Evs.endsOf (xs.map (·.e))):=by
 have HL:=hide hL;have HS:=hide hS;have hN:=hS.len;have HAt:=hide (fun i e (h:(xs.map (·.e))[i]?=some e)=>Evs.whl_at hW h);have HNx:=hide (fun i e (h:(xs.map (·.e))[i]?=some e)=>Evs.upto_next h);have HNu:=hide (upto_num (xs.map (·.e)));have HEnd:=hide (show Evs.endsOf (xs.map (·.e))=(Evs.upto (xs.map (·.e)) xs.length).2 by unfold Evs.endsOf;rw[List.length_map]);have hne:xs.length≠0:=fun h=>hW.ne (by rw[List.eq_nil_of_length_eq_zero h];rfl)
 have HShut:=hide (show (Evs.upto (xs.map (·.e)) xs.length).1=[] by
  have h:=Evs.upto_opn (xs.map (·.e)) xs.length (by simp);rw[List.take_of_length_le (by simp),hW.shut] at h
  simpa using h)
 obtain⟨N,hNN⟩:∃N,xs.length=N:=⟨_,rfl⟩;have HN:=hide hNN;rw[hNN] at HEnd HShut hN hne ⊢;obtain⟨EL,hEL⟩:∃l,Evs.endsOf (xs.map (·.e))=l:=⟨_,rfl⟩;rw[hEL] at HEnd ⊢;have hmm:=@run_makeMap Tryz.prog;clear hL hS hW hNN hEL
 go_enter Tryz.func67,Tryz.ntmps67
 go_wp2
 go_step3
 go_wp2
 go_step3
 go_wp2;clear hmm;have HM0:=hide ((MapI.new w).same (W':=(w.alloc (.map #[] 0)).alloc (.cells #[.slice A N c,.map (some w.heap.size),.int .i64 0] 122)) (Below.heap_alloc _ _ _ (by simp)))
 have HT0:=hide (show Blk ((w.alloc (.map #[] 0)).alloc (.cells #[.slice A N c,.map (some w.heap.size),.int .i64 0] 122)) (w.heap.size+1) 122 #[.slice A N c,.map (some w.heap.size),.int .i64 0] from by
  have:=Blk.new (w.alloc (.map #[] 0)) 122 #[.slice A N c,.map (some w.heap.size),.int .i64 0];rwa[World.size_alloc] at this)
 have HB0:=hide ((below_alloc w (.map #[] 0)).trans ((below_alloc (w.alloc (.map #[] 0)) (.cells #[.slice A N c,.map (some w.heap.size),.int .i64 0] 122)).mono (by simp)));have HZ0:=hide (show ((w.alloc (.map #[] 0)).alloc (.cells #[.slice A N c,.map (some w.heap.size),.int .i64 0] 122)).heap.size=w.heap.size+2 by simp);obtain⟨W0,hW0⟩:∃W0,(w.alloc (.map #[] 0)).alloc (.cells #[.slice A N c,.map (some w.heap.size),.int .i64 0] 122)=W0:=⟨_,rfl⟩;rw[hW0] at HM0 HT0 HB0 HZ0 ⊢;clear hW0
 go_loopg [4,5,6,7,8,15,23,37,55] N (fun gk v4 v5 v6 v7 v8 v15 v23 v37 v55 wr=>∃(i no co km:Nat) (Ao:Option Addr) (D:DataW Unit) (dp:Int),gk=N-i∧i≤N∧v15=.int .i64 (i:Int)∧v4=.slice Ao no co∧(Evs.upto (xs.map (·.e)) i).1.length=no∧Stk wr (w.heap.size+2) Ao no co (Evs.upto (xs.map (·.e)) i).1∧
  MapI wr w.heap.size km (Evs.upto (xs.map (·.e)) i).2 D∧km≤i∧Blk wr (w.heap.size+1) 122 #[.slice A N c,.map (some w.heap.size),.int .i64 dp]∧Below w.heap.size w wr∧w.heap.size+2≤wr.heap.size)
 case atStart=>exact⟨0,0,0,0,none,_,0,rfl,by omega,rfl,rfl,rfl,.inl (World.ownsRow_nil _ _ _ _),HM0.out,by omega,HT0.out,HB0.out,by rw[HZ0.out];exact Nat.le_refl _⟩
 case round=>
  obtain⟨i,no,co,km,Ao,D,dp,hgk,hi,rfl,rfl,hno,hst,hmp,hkm,htr,hb,hbs⟩:=hrel;have Hgk:=hide hgk;have HSt:=hide hst;have HMp:=hide hmp;have HTr:=hide htr;have HB:=hide hb;have HNo:=hide hno;have hnoi:no≤i:=by rw[←hno];exact HNu.out i
  clear hgk hst hmp htr hb hno
  by_cases hlt:i<N
  ·obtain⟨x,hx⟩:∃x,xs[i]?=some x:=⟨_,List.getElem?_eq_getElem (by rw[HN.out];exact hlt)⟩;have hxm:=List.mem_of_getElem? hx;have hxe:(xs.map (·.e))[i]?=some x.e:=by rw[List.getElem?_map,hx];rfl
   obtain⟨hfld,hcase⟩:=HAt.out i _ hxe;have hnx:=HNx.out i _ hxe;have HLr:=hide (HL.out.below HB.out);obtain⟨b,off,rfl,hbB,hy⟩:=HLr.out.at_ hx;have hsub:=HLr.out.sub x hxm;have HFl:=hide (fun (W:World) (h:Below wr.heap.size wr W)=>fields_any x W hfld ((hsub.below (h.mono (by omega))).more (Nat.le_trans (by omega) h.size)) (HS.out.few x hxm) (HS.out.nm x hxm));have y0:=hy.c0;have y1:=hy.c1;have y2:=hy.c2;have y3:=hy.c3;have y4:=hy.c4;unfold ewCells at HFl;obtain⟨O,hO⟩:∃O,(Evs.upto (xs.map (·.e)) i).1=O:=⟨_,rfl⟩;obtain⟨M,hM⟩:∃M,(Evs.upto (xs.map (·.e)) i).2=M:=⟨_,rfl⟩;have hnx1:Evs.upto (xs.map (·.e)) (i+1)=Evs.stp (O,M) i x.e:=by rw[hnx,←hO,←hM]
   rw[hO] at hcase HSt HNo;rw[hM] at HMp;have Hxp:=hide (fun (h:0<i)=>(show ∃q,xs[i-1]?=some q from⟨_,List.getElem?_eq_getElem (by rw[HN.out];omega)⟩));clear hnx hO hM hxe hxm hfld hsub hy;obtain⟨⟨kd,⟨ns,loc⟩,as_,tx⟩,Ax,cx⟩:=x;dsimp only at y0 y1 y2 y3 y4 HFl hcase hnx1
   rcases hcase with ⟨rfl,h0⟩|⟨rfl,O',p,rfl,hpi,hpn⟩|⟨rfl,hne2,q,hi0,hq,hqk⟩
   ·rw[show ((0:Nat):Int)=0 from rfl] at y0 HFl;have hstp:Evs.stp (O,M) i ⟨0,⟨ns,loc⟩,as_,tx⟩=(O++[i],M):=by unfold Evs.stp;rw[if_pos rfl]
    have Hnx:=hide (hnx1.trans hstp)
    have hguard:(no=0∧i=0)∨((no:Int)==0)=false:=by
     by_cases hO:O=[]
     ·exact .inl ⟨by rw[←HNo.out,hO];rfl,h0 hO⟩
     refine .inr ?_;rw[beq_eq_false_iff_ne];have:no≠0:=fun h=>hO (List.eq_nil_of_length_eq_zero (by rw[HNo.out];exact h));omega
    clear hnx1 hstp h0;have HC0:=hide (below_alloc wr (.cells #[.int .i8 0,.string (bstr ns),.string (bstr loc),.slice Ax as_.length cx,.string (bstr tx)] 62));have HK0:=hide (Blk.new wr 62 #[.int .i8 0,.string (bstr ns),.string (bstr loc),.slice Ax as_.length cx,.string (bstr tx)]);have HF:=hide (HFl.out _ HC0.out)
    go_wp2_with fail
    refine HF.out.mono ?_;rintro e w2 ⟨rfl,hb2⟩;have HW2:=hide (HC0.out.trans (hb2.mono HC0.out.size));have HK2:=hide (HK0.out.go hb2);have HSt2:=hide (HSt.out.kept HW2.out.size (fun k hk _ _=>HW2.out.block k hk));have HMp2:=hide (HMp.out.same (HW2.out.block _ HMp.out.lt));have HTr2:=hide (HTr.out.go HW2.out);have HB2:=hide (HB.out.trans (HW2.out.mono HB.out.size));have hbs2:w.heap.size+2≤w2.heap.size:=Nat.le_trans hbs HW2.out.size;have k0:=HK2.out.cell 0;clear hb2 y0 y1 y2 y3 y4
    rcases hguard with ⟨hg1,hg2⟩|hg1
    ·subst hg1;subst hg2;dsimp only
     go_wp2_with (at_builtin;go_loud (refine wpList_append_stk rfl (.tmp 41) (.tmp 43) 166 rfl Tryz.underlying166 (w.heap.size+2) Ao 0 co O 0 rfl HSt2.out rfl (by omega) hbs2 ?_);intro g8 cap8 w8 row8 hown8 hgrow8 hrow8;have hg8:∀k,k<w.heap.size+2→k<w2.heap.size→w8.heap[k]?=w2.heap[k]?:=fun k h1 h2=>hgrow8.block k h2 (fun e=>by have:=(hrow8 k e.symm).1;omega);have HTr8:=hide ((hg8 _ (by omega) (by omega)).trans HTr2.out);have HMp8:=hide (HMp2.out.same (hg8 _ (by omega) (by omega)));have HB8:=hide (HB2.out.grown hgrow8 HB2.out.size (fun k e=>by have:=(hrow8 k e).1;omega));have HO8:=hide hown8;have hbs8:=Nat.le_trans hbs2 hgrow8.size;have q2:=Blk.cell HTr8.out 2;have f2:=Blk.frozen HTr8.out 2;clear hown8 hgrow8 hrow8 hg8)
     go_roundg (N-(0+1))
     case measure=>have:=Hgk.out;omega
     case rel=>
      have hz:(w8.setCell ⟨w.heap.size+1,2,none⟩ (.int .i64 (max dp 1))).heap.size=w8.heap.size:=by simp[World.setCell]
      have ht9:Blk (w8.setCell ⟨w.heap.size+1,2,none⟩ (.int .i64 (max dp 1))) (w.heap.size+1) 122 #[.slice (some ⟨b,off,none⟩) N c,.map (some w.heap.size),.int .i64 (max dp 1)]:=by
       have:=Blk.set_ HTr8.out 2 (.int .i64 (max dp 1))
       simpa using this
      refine⟨0+1,0+1,cap8,km,some ⟨g8,0,none⟩,D,(max dp 1),rfl,by omega,by first|rfl|go_num,rfl,by rw[Hnx.out];show (O++[0]).length=_;rw[List.length_append,HNo.out];rfl,?_,?_,by omega,ht9,HB8.out.setCell (p:=⟨w.heap.size+1,2,none⟩) (by show _≤w.heap.size+1;omega) _,by rw[hz];exact hbs8⟩
      ·rw[Hnx.out];exact .inl (ownsRow_setCell_other HO8.out (by simp[Value.ownBlock];have:=(own_isT HO8.out g8 rfl).1;omega) _)
      rw[Hnx.out];exact HMp8.out.same (Below.heap_setCell _ _ _ _ (by show w.heap.size≠w.heap.size+1;omega))
    dsimp only
    go_wp2_with (at_builtin;go_loud (refine wpList_append_stk rfl (.tmp 41) (.tmp 43) 166 rfl Tryz.underlying166 (w.heap.size+2) Ao no co O i rfl HSt2.out rfl (by omega) hbs2 ?_);intro g8 cap8 w8 row8 hown8 hgrow8 hrow8;have hg8:∀k,k<w.heap.size+2→k<w2.heap.size→w8.heap[k]?=w2.heap[k]?:=fun k h1 h2=>hgrow8.block k h2 (fun e=>by have:=(hrow8 k e.symm).1;omega);have HTr8:=hide ((hg8 _ (by omega) (by omega)).trans HTr2.out);have HMp8:=hide (HMp2.out.same (hg8 _ (by omega) (by omega)));have HB8:=hide (HB2.out.grown hgrow8 HB2.out.size (fun k e=>by have:=(hrow8 k e).1;omega));have HO8:=hide hown8;have hbs8:=Nat.le_trans hbs2 hgrow8.size;have q2:=Blk.cell HTr8.out 2;have f2:=Blk.frozen HTr8.out 2;clear hown8 hgrow8 hrow8 hg8)
    go_roundg (N-(i+1))
    case measure=>have:=Hgk.out;omega
    case rel=>
     have hz:(w8.setCell ⟨w.heap.size+1,2,none⟩ (.int .i64 (max dp ((no:Int)+1)))).heap.size=w8.heap.size:=by simp[World.setCell]
     have ht9:Blk (w8.setCell ⟨w.heap.size+1,2,none⟩ (.int .i64 (max dp ((no:Int)+1)))) (w.heap.size+1) 122 #[.slice (some ⟨b,off,none⟩) N c,.map (some w.heap.size),.int .i64 (max dp ((no:Int)+1))]:=by
      have:=Blk.set_ HTr8.out 2 (.int .i64 (max dp ((no:Int)+1)))
      simpa using this
     refine⟨i+1,no+1,cap8,km,some ⟨g8,0,none⟩,D,(max dp ((no:Int)+1)),rfl,by omega,by first|rfl|go_num,rfl,by rw[Hnx.out];show (O++[i]).length=_;rw[List.length_append,HNo.out];rfl,?_,?_,by omega,ht9,HB8.out.setCell (p:=⟨w.heap.size+1,2,none⟩) (by show _≤w.heap.size+1;omega) _,by rw[hz];exact hbs8⟩
     ·rw[Hnx.out];exact .inl (ownsRow_setCell_other HO8.out (by simp[Value.ownBlock];have:=(own_isT HO8.out g8 rfl).1;omega) _)
     rw[Hnx.out];exact HMp8.out.same (Below.heap_setCell _ _ _ _ (by show w.heap.size≠w.heap.size+1;omega))
   ·rw[show ((1:Nat):Int)=1 from rfl] at y0 HFl;have hstp:Evs.stp (O'++[p],M) i ⟨1,⟨ns,loc⟩,as_,tx⟩=(O',(p,i) :: M):=by unfold Evs.stp;rw[if_neg (show ¬(1:Nat)=0 by decide),if_pos rfl];simp
    have Hnx:=hide (hnx1.trans hstp);obtain⟨m,hm⟩:∃m,O'.length=m:=⟨_,rfl⟩;have hnm:no=m+1:=by rw[←HNo.out,List.length_append,hm];rfl
    have Hm:=hide hm;subst hnm;have hg1:(((m+1:Nat):Int)==0)=false:=by rw[beq_eq_false_iff_ne];omega
    have hg2:((m:Int)+1==0)=false:=by rw[beq_eq_false_iff_ne];omega
    have zm:IntKind.i64.wrap (((m+1:Nat):Int)-1)=(m:Int):=by rw[IntWalk.i64_in _ (by omega)];omega
    have zm2:IntKind.i64.wrap ((m:Int)+1-1)=(m:Int):=by rw[IntWalk.i64_in _ (by omega)];omega
    have hxp:∃z,xs[p]?=some z:=⟨_,List.getElem?_eq_getElem (by rw[HN.out];omega)⟩;obtain⟨z,hz⟩:=hxp
    have hzn:z.e.name=⟨ns,loc⟩:=by
     unfold Evs.nmAt at hpn;rw[List.getElem?_map,hz] at hpn;exact hpn
    obtain⟨b2,off2,eA,hbz,hzc⟩:=HLr.out.at_ hz;cases eA;have p1:=hzc.c1;have p2:=hzc.c2;rw[hzn] at p1 p2;dsimp only at p1 p2;have hpp:(0:Int)≤p∧(p:Int)<N:=by omega
    have hp9:p≤1000000000:=by omega
    clear hnx1 hstp hz hzn hzc hpn hm;have HC0:=hide (below_alloc wr (.cells #[.int .i8 1,.string (bstr ns),.string (bstr loc),.slice Ax as_.length cx,.string (bstr tx)] 62));have HK0:=hide (Blk.new wr 62 #[.int .i8 1,.string (bstr ns),.string (bstr loc),.slice Ax as_.length cx,.string (bstr tx)]);have HF:=hide (HFl.out _ HC0.out)
    go_wp2_with fail
    refine HF.out.mono ?_;rintro e w2 ⟨rfl,hb2⟩;have HW2:=hide (HC0.out.trans (hb2.mono HC0.out.size));have HK2:=hide (HK0.out.go hb2);have HSt2:=hide (HSt.out.kept HW2.out.size (fun k hk _ _=>HW2.out.block k hk));have HMp2:=hide (HMp.out.same (HW2.out.block _ HMp.out.lt));have HTr2:=hide (HTr.out.go HW2.out);have HB2:=hide (HB.out.trans (HW2.out.mono HB.out.size));have hbs2:w.heap.size+2≤w2.heap.size:=Nat.le_trans hbs HW2.out.size;have k0:=HK2.out.cell 0;have k1:=HK2.out.cell 1;have k2:=HK2.out.cell 2;have r1:=(HW2.out.cell (lt_of_cell p1)).trans p1;have r2:=(HW2.out.cell (lt_of_cell p2)).trans p2;obtain⟨sb,so,rfl,hsb,hsc⟩:=HSt2.out.reads.2 (by omega);have s0:=hsc m _ (natVs_at (p:=p) (by rw[List.getElem?_append_right (by rw[Hm.out];exact Nat.le_refl _),Hm.out,Nat.sub_self];rfl));have hmm2:(0:Int)≤m∧(m:Int)<((m+1:Nat):Int):=by omega
    clear hb2 y0 y1 y2 y3 y4 p1 p2 hsc;dsimp only
    go_wp2_with fail
    go_quiet (fail)
    have HSt3:=hide (show Stk (w2.drewN nq) (w.heap.size+2) (some ⟨sb,so,none⟩) (m+1) co (O'++[p]) from HSt2.out.kept (Nat.le_refl _) (fun _ _ _ _=>rfl));have HMp3:=hide (show MapI (w2.drewN nq) w.heap.size km M D from HMp2.out.same rfl);have HTr3:=hide (HTr2.out.drewN nq);have HB3:=hide (show Below w.heap.size w (w2.drewN nq) from⟨HB2.out.os,HB2.out.tape,HB2.out.output,HB2.out.size,HB2.out.block⟩);have hbs3:w.heap.size+2≤(w2.drewN nq).heap.size:=hbs2;have s3:(w2.drewN nq).cell? ⟨sb,so+m,none⟩=some (.int .i64 (p:Int)):=s0;clear k0 k1 k2 r1 r2 s0;generalize w2.drewN nq=W at HSt3 HMp3 HTr3 HB3 hbs3 s3 ⊢;have t1:=HTr3.out.cell 1;have hnb:km<maxLen:=by unfold maxLen;omega
    obtain⟨w9,hrun9,hown9,hgrow9⟩:=(HMp3.out.same (W':=W.drew) rfl).own.update (t:=120) law_intE Tryz.underlying120 hnb (key:=.int .i64 (p:Int)) (val:=.int .i64 (i:Int)) (keyOf_int hp9) (plainElem_int Tryz.underlying3 (WalkArith.wf_i64 (by omega)))
    go_wp2_with fail
    have hcap:=HSt3.out.cap;have hmc:m≤co:=by omega
    clear hcap
    go_region
    go_wp2;have hg9:∀k,k<W.heap.size→k≠w.heap.size→w9.heap[k]?=W.heap[k]?:=fun k h1 h2=>hgrow9.block k h1 (fun e=>h2 (by injection e));have hs9:W.heap.size≤w9.heap.size:=hgrow9.size;have HMp9:=hide ((HMp3.out.same (W':=W.drew) rfl).next hown9);have HSt9:=hide ((HSt3.out.cut Hm.out).kept hs9 (fun k h1 _ h2=>hg9 k h1 (by omega)));have HTr9:=hide ((hg9 _ (by omega) (by omega)).trans HTr3.out);have HB9:=hide ((HB3.out.drew).grown hgrow9 HB3.out.size (fun k e=>by injection e with e;omega));clear hrun9 hown9 hgrow9
    go_roundg (N-(i+1))
    case measure=>have:=Hgk.out;omega
    case rel=>exact⟨i+1,m,m,km+1,some ⟨sb,so,none⟩,_,dp,rfl,by omega,by first|rfl|go_num,rfl,by rw[Hnx.out];exact Hm.out,by rw[Hnx.out];exact HSt9.out,by rw[Hnx.out];exact HMp9.out,by omega,HTr9.out,HB9.out,Nat.le_trans hbs3 hs9⟩
   rw[show ((2:Nat):Int)=2 from rfl] at y0 HFl;have hstp:Evs.stp (O,M) i ⟨2,⟨ns,loc⟩,as_,tx⟩=(O,M):=by unfold Evs.stp;rw[if_neg (show ¬(2:Nat)=0 by decide),if_neg (show ¬(2:Nat)=1 by decide)]
   have Hnx:=hide (hnx1.trans hstp)
   have hg1:((no:Int)==0)=false:=by
    rw[beq_eq_false_iff_ne];have:no≠0:=fun h=>hne2 (List.eq_nil_of_length_eq_zero (by rw[HNo.out];exact h));omega
   obtain⟨j,hj⟩:∃j,j+1=i:=⟨i-1,by omega⟩
   have hqe:∃z,xs[j]?=some z∧z.e=q:=by
    rw[show i-1=j by omega,List.getElem?_map] at hq;exact Option.map_eq_some_iff.1 hq
   obtain⟨z,hz,hze⟩:=hqe;obtain⟨b2,off2,eA,hb2,hzc⟩:=HLr.out.at_ hz;cases eA;have p0:=hzc.c0;rw[hze] at p0;have hq2:((q.kind:Int)==2)=false:=by rw[beq_eq_false_iff_ne];omega
   have z1:IntKind.i64.wrap ((i:Int)-1)=(j:Int):=by rw[IntWalk.i64_in _ (by omega)];omega
   have hjj:(0:Int)≤j∧(j:Int)<N:=by omega
   have Hj:=hide hj;obtain⟨qk,hqk2⟩:∃k:Int,(q.kind:Int)=k:=⟨_,rfl⟩;rw[hqk2] at p0 hq2;clear hnx1 hstp hne2 hq hqk hz hze hzc hj hqk2 hi0;have HC0:=hide (below_alloc wr (.cells #[.int .i8 2,.string (bstr ns),.string (bstr loc),.slice Ax as_.length cx,.string (bstr tx)] 62));have HK0:=hide (Blk.new wr 62 #[.int .i8 2,.string (bstr ns),.string (bstr loc),.slice Ax as_.length cx,.string (bstr tx)]);have HF:=hide (HFl.out _ HC0.out)
   go_wp2_with fail
   refine HF.out.mono ?_;rintro e w2 ⟨rfl,hb2⟩;have HW2:=hide (HC0.out.trans (hb2.mono HC0.out.size));have HK2:=hide (HK0.out.go hb2);have HSt2:=hide (HSt.out.kept HW2.out.size (fun k hk _ _=>HW2.out.block k hk));have HMp2:=hide (HMp.out.same (HW2.out.block _ HMp.out.lt));have HTr2:=hide (HTr.out.go HW2.out);have HB2:=hide (HB.out.trans (HW2.out.mono HB.out.size));have hbs2:w.heap.size+2≤w2.heap.size:=Nat.le_trans hbs HW2.out.size;have k0:=HK2.out.cell 0;have p2:=(HW2.out.cell (lt_of_cell p0)).trans p0;clear hb2 y0 y1 y2 y3 y4 p0;dsimp only;go_wp2
   go_roundg (N-(i+1))
   case measure=>have:=Hgk.out;omega
   case rel=>exact⟨i+1,no,co,km,Ao,D,dp,rfl,by omega,by first|rfl|go_num,rfl,by rw[Hnx.out];exact HNo.out,by rw[Hnx.out];exact HSt2.out,by rw[Hnx.out];exact HMp2.out,by omega,HTr2.out,HB2.out,hbs2⟩
  have hiN:i=N:=by omega
  subst hiN;have hno0:no=0:=by rw[←HNo.out,HShut.out];rfl
  subst hno0;have hi0:((i:Int)==0)=false:=by rw[beq_eq_false_iff_ne];omega
  go_wp2;go_ret;refine⟨HB.out,w.heap.size+1,w.heap.size,rfl,by omega,Nat.le_refl _,⟨dp,HTr.out⟩,km,D,?_,hkm⟩;rw[HEnd.out];exact HMp.out
end
section
open Go.RowKit Tk Sx Go.WideShapes

namespace Evs
def endAt(l:List Ev)(p:Nat):Nat:=(lookE p (endsOf l)).getD 0
end Evs
structure EvW(W:World)(B:Nat)(A:Option Addr)(c:Nat)(xs:List Ew):Prop where
 l:EvL W B A xs
 hB:B≤W.heap.size
 w:Evs.Whl (xs.map (·.e))
 s:SmallE xs
 c:xs.length≤c
theorem EvW.go{W W':World}{B c:Nat}{A:Option Addr}{xs:List Ew}(h:EvW W B A c xs)(hb:Below W.heap.size W W'):EvW W' B A c xs:=⟨h.l.below (hb.mono h.hB),Nat.le_trans h.hB hb.size,h.w,h.s,h.c⟩
theorem MapI.val{W:World}{mb n p:Nat}{m:List (Nat×Nat)}{D:DataW Unit}(h:MapI W mb n m D){c:Int}(hc:D.atKey (klI p) (.lit (.int .i64 0))=.lit (.int .i64 c)):c=(((Evs.lookE p m).getD 0:Nat):Int):=by
 cases hl:Evs.lookE p m with
 | none=>
  have h2:=(h.no p hl).2;rw[h2,DataW.lit.injEq,Lit.int.injEq] at hc;exact hc.2.symm
 | some k=>
  have h2:=(h.yes p k hl).2;rw[h2,DataW.lit.injEq,Lit.int.injEq] at hc;exact hc.2.symm
theorem MapI.find{W:World}{mb n p:Nat}{m:List (Nat×Nat)}{D:DataW Unit}(h:MapI W mb n m D)(hp:p≤1000000000) :
  (Instr.lookup 120 (.map (some mb)) (.int .i64 (p:Int)) false).run Tryz.prog W=.ok (.int .i64 (((Evs.lookE p m).getD 0:Nat):Int)) W:=by
 obtain⟨c,hrun,hc,_⟩:=h.own.lookup_int law_intE Tryz.underlying120 Tryz.underlying3 (zero_int W) (keyOf_int hp);rw[hrun,h.val hc]
theorem MapI.find_ok{W:World}{mb n p:Nat}{m:List (Nat×Nat)}{D:DataW Unit}(h:MapI W mb n m D)(hp:p≤1000000000) :
  (Instr.lookup 120 (.map (some mb)) (.int .i64 (p:Int)) true).run Tryz.prog W=.ok (.tuple #[.int .i64 (((Evs.lookE p m).getD 0:Nat):Int),.bool (Evs.lookE p m).isSome]) W:=by
 obtain⟨v,ps,hrun,hv⟩:=h.own.look_ok law_intE Tryz.underlying120 (zero_int W) (plainElem_int Tryz.underlying3 (by decide)) (keyOf_int hp);obtain⟨c,rfl,hc,_⟩:=plainElem_int_inv Tryz.underlying3 hv
 have hb:Maps.has D (klI p)=(Evs.lookE p m).isSome:=by
  cases hl:Evs.lookE p m with
  | none=>exact (h.no p hl).1
  | some k=>exact (h.yes p k hl).1
 rw[hrun,h.val (congrArg Prod.fst hc),hb]
theorem at_any(xs:List Ew)(A:Option Addr)(c B i:Nat)(x:Ew)(w:World)(h:EvW w B A c xs)(hx:xs[i]?=some x)(hk:x.e.kind=0) :
  Calls Tryz.prog 41 #[.slice A xs.length c,.int .i64 (i:Int)] w fun e w'=>Below w.heap.size w w'∧∃T mb,e=.returned (.pointer (some ⟨T,0,none⟩))∧TreeAt w' w.heap.size T mb A xs.length c (Evs.endsOf (xs.map (·.e))):=by
 have HG:=hide (fun W (hb:Below w.heap.size w W)=>grow_any xs A c W ((h.l.more h.hB).below hb |>.more hb.size) h.w h.s);obtain⟨b,off,rfl,hb,hy⟩:=h.l.at_ hx;have y0:=hy.c0;rw[hk] at y0;rw[show ((0:Nat):Int)=0 from rfl] at y0;have hil:=(List.getElem?_eq_some_iff.1 hx).1;have hn:=h.s.len;obtain⟨N,hN⟩:∃N,xs.length=N:=⟨_,rfl⟩;rw[hN] at HG hil hn ⊢;have hii:(0:Int)≤i∧(i:Int)<N:=by omega
 clear h hx hk hy hN
 go_enter Tryz.func41,Tryz.ntmps41
 go_wp2_with fail
 refine (HG.out _ (Below.refl _ _)).mono ?_;rintro e w2 ⟨hb2,T,mb,rfl,ht⟩;have HB2:=hide hb2;have HT:=hide ht;clear hb2 ht y0;dsimp only;go_wp2;go_ret;exact⟨HB2.out,T,mb,rfl,HT.out⟩
theorem End_any(xs:List Ew)(A:Option Addr)(c B i:Nat)(x:Ew)(w:World)(h:EvW w B A c xs)(hx:xs[i]?=some x)(hk:x.e.kind=0) :
  Calls Tryz.prog 44 #[.slice A xs.length c,.int .i64 (i:Int)] w fun e w'=>e=.returned (.tuple #[.int .i64 ((Evs.endAt (xs.map (·.e)) i:Nat):Int),.bool true])∧Below w.heap.size w w':=by
 have HG:=hide (at_any xs A c B i x w h hx hk);have hil:=(List.getElem?_eq_some_iff.1 hx).1;have hn:=h.s.len;unfold Evs.endAt;obtain⟨l,hl⟩:∃l,Evs.endsOf (xs.map (·.e))=l:=⟨_,rfl⟩;rw[hl] at HG ⊢;obtain⟨N,hN⟩:∃N,xs.length=N:=⟨_,rfl⟩;rw[hN] at HG hil hn ⊢;obtain⟨z,hz⟩:∃z:Int,(((Evs.lookE i l).getD 0:Nat):Int)=z:=⟨_,rfl⟩;rw[hz];have Hz:=hide hz;clear h hx hk hN hl hz
 go_enter Tryz.func44,Tryz.ntmps44
 go_wp2_with fail
 refine HG.out.mono ?_;rintro e w2 ⟨hb2,T,mb,rfl,hT,hmb,⟨d,htr⟩,k,D,hm,hkn⟩;have HB2:=hide hb2;have t1:=htr.cell 1;have hf:=hm.find (p:=i) (by omega);rw[Hz.out] at hf;clear hb2 hm htr;dsimp only;go_wp2;go_ret2;exact⟨rfl,HB2.out⟩
end
section
open Go.RowKit Tk Sx Go.WideShapes

namespace Evs
def idxNm(n:Nm):List Att→Option Nat
 | []=>none
 | a :: r=>if a.name=n then some 0 else (idxNm n r).map (· + 1)
def attrOf(n:Nm)(l:List Att):Option L:=(idxNm n l).bind fun k=>(l[k]?).map (·.val)
theorem idxNm_at{n:Nm}:∀{l:List Att} {k:Nat},idxNm n l=some k→∃a,l[k]?=some a∧a.name=n
 | [],k,h=>by cases h
 | a :: r,k,h=>by
  unfold idxNm at h
  split at h
  ·rename_i ha
   cases h;exact⟨a,rfl,ha⟩
  obtain⟨j,hj,e⟩:=Option.map_eq_some_iff.1 h;subst e;obtain⟨b,hb,hn⟩:=idxNm_at hj;exact⟨b,by simpa using hb,hn⟩
theorem idxNm_drop{n:Nm}{l:List Att}{k:Nat}{a:Att}(h:l[k]?=some a):idxNm n (l.drop k)=if a.name=n then some 0 else (idxNm n (l.drop (k+1))).map (· + 1):=by
 obtain⟨hk,e⟩:=List.getElem?_eq_some_iff.1 h;rw[List.drop_eq_getElem_cons hk,e];rfl
end Evs
theorem attr1_any(a:Att)(n:Nm)(nb:Nat)(w:World)(hn:Blk w nb 57 #[.string (bstr n.ns),.string (bstr n.loc)]) :
  Calls Tryz.prog 70 #[.agg #[.string (bstr a.name.ns),.string (bstr a.name.loc),.string (bstr a.val)],.pointer (some ⟨nb,0,none⟩)] w fun e w'=>e=.returned (.bool (eqNm a.name n))∧Below w.heap.size w w':=by
 have hE:=fun W=>eql_nm W a.name n;obtain⟨q,hq⟩:∃q,eqNm a.name n=q:=⟨_,rfl⟩;simp only[hq] at hE;rw[hq];have HO:=hide (below_alloc w (.cells #[.string (bstr a.name.ns),.string (bstr a.name.loc),.string (bstr a.val)] 125));have t0:=(hn.go HO.out).cell 0;have t1:=(hn.go HO.out).cell 1;clear hq hn
 go_enter Tryz.func70,Tryz.ntmps70
 go_wp2;go_ret;exact⟨rfl,HO.out⟩
def idxV(o:Option Nat):Value:=match o with
 | some k=>.int .i64 (k:Int)
 | none=>.int .i64 (-1)
theorem index_any(l:List Att)(A:Option Addr)(c:Nat)(n:Nm)(nb:Nat)(w:World)(hr:Reads w w.heap.size 3 A l.length (atts l))(hn:Blk w nb 57 #[.string (bstr n.ns),.string (bstr n.loc)])(hl:l.length≤1000000) :
  Calls Tryz.prog 69 #[.slice A l.length c,.func (.func 70) #[] #[.pointer (some ⟨nb,0,none⟩)]] w fun e w'=>e=.returned (idxV (Evs.idxNm n l))∧Below w.heap.size w w':=by
 obtain⟨N,hN⟩:∃N,l.length=N:=⟨_,rfl⟩;have HN:=hide hN;rw[hN] at hr hl ⊢;have HR:=hide hr;have Hn:=hide hn;have HA:=hide (fun a W h=>attr1_any a n nb W h);obtain⟨z,hz⟩:∃z,Evs.idxNm n l=z:=⟨_,rfl⟩;rw[hz];have Hz:=hide hz;clear hr hn hN hz
 go_enter Tryz.func69,Tryz.ntmps69
 go_wp2
 go_loopg [5,8] N (fun gk v5 v8 wr=>∃i:Nat,gk=N-i∧i≤N∧v8=.int .i64 (i:Int)∧(Evs.idxNm n (l.drop i)).map (· + i)=z∧Below w.heap.size w wr)
 case atStart=>exact⟨0,rfl,by omega,rfl,by rw[←Hz.out];simp,Below.refl _ _⟩
 case round=>
  obtain⟨i,hgk,hi,rfl,hzz,hb⟩:=hrel;have Hgk:=hide hgk;have HB:=hide hb;have Hzz:=hide hzz;clear hgk hb hzz
  by_cases hlt:i<N
  ·obtain⟨a,ha⟩:∃a,l[i]?=some a:=⟨_,List.getElem?_eq_getElem (by rw[HN.out];exact hlt)⟩;obtain⟨b,off,rfl,hbB,hx⟩:=atts_at (by rw[HN.out];exact HR.out.below HB.out) ha;have x0:=hx.c0;have x1:=hx.c1;have x2:=hx.c2;have hd:=Evs.idxNm_drop (n:=n) ha;have HA1:=hide (HA.out a wr (Hn.out.go HB.out));have Hd:=hide hd;clear ha hx hd
   go_wp2_with fail
   refine HA1.out.mono ?_;rintro e w2 ⟨rfl,hb2⟩;have HB2:=hide (HB.out.trans (hb2.mono HB.out.size));clear hb2;dsimp only
   cases hq:eqNm a.name n with
   | true=>
    have hv:some i=z:=by
     have:=Hzz.out;rw[Hd.out,if_pos ((eqNm_iff _ _).1 hq)] at this
     simpa using this
    subst hv;clear hq;go_wp2;go_ret;exact⟨rfl,HB2.out⟩
   | false=>
    have hv:=hide (show (Evs.idxNm n (l.drop (i+1))).map (· + (i+1))=z by
     have:=Hzz.out;rw[Hd.out,if_neg (fun h=>by rw[(eqNm_iff _ _).2 h] at hq;cases hq)] at this;rw[←this,Option.map_map];congr 1
     funext j
     simp only[Function.comp]
     omega)
    clear hq;go_wp2
    go_roundg (N-(i+1))
    case measure=>have:=Hgk.out;omega
    case rel=>exact⟨i+1,rfl,by omega,by first|rfl|go_num,hv.out,HB2.out⟩
  have hzn:z=none:=by
   have:=Hzz.out;rw[List.drop_of_length_le (by rw[HN.out];omega)] at this;exact this.symm
  subst hzn;go_wp2;go_ret;exact⟨rfl,HB.out⟩
def attrV(o:Option L):Value:=match o with
 | some v=>.tuple #[.string (bstr v),.bool true]
 | none=>.tuple #[.string ⟨#[]⟩,.bool false]
theorem Attr_any(xs:List Ew)(A:Option Addr)(c B i:Nat)(x:Ew)(n:Nm)(w:World)(h:EvW w B A c xs)(hx:xs[i]?=some x)(hk:x.e.kind=0) :
  Calls Tryz.prog 45 #[.slice A xs.length c,.int .i64 (i:Int),.agg #[.string (bstr n.ns),.string (bstr n.loc)]] w fun e w'=>e=.returned (attrV (Evs.attrOf n x.e.attrs))∧Below w.heap.size w w':=by
 have HO:=hide (below_alloc w (.cells #[.string (bstr n.ns),.string (bstr n.loc)] 57));have HK:=hide (Blk.new w 57 #[.string (bstr n.ns),.string (bstr n.loc)]);have HG:=hide (at_any xs A c B i x (w.alloc (.cells #[.string (bstr n.ns),.string (bstr n.loc)] 57)) (h.go (below_alloc w _)) hx hk);have hxm:=List.mem_of_getElem? hx;have hil:=(List.getElem?_eq_some_iff.1 hx).1;have hnn:=h.s.len;have hfew:=h.s.few x hxm;have hB:=h.hB;have HL:=hide h.l;have Hxm:=hide hxm;have Hx:=hide hx;obtain⟨N,hN⟩:∃N,xs.length=N:=⟨_,rfl⟩;rw[hN] at HG hil hnn ⊢;have hii:(0:Int)≤i∧(i:Int)<N:=by omega
 obtain⟨z,hz⟩:∃z,Evs.attrOf n x.e.attrs=z:=⟨_,rfl⟩;rw[hz];have Hz:=hide hz;clear h hx hk hN hxm hz
 go_enter Tryz.func45,Tryz.ntmps45
 go_wp2_with fail
 refine HG.out.mono ?_;rintro e w2 ⟨hb2,T,mb,rfl,-⟩;have HB2:=hide (HO.out.trans (hb2.mono (by simp)));have HK2:=hide (HK.out.go hb2);clear hb2;have HL2:=hide (HL.out.below (HB2.out.mono hB));obtain⟨b,off,rfl,hbB,hy⟩:=HL2.out.at_ Hx.out;have y3:=hy.c3;have hsub:=HL2.out.sub x Hxm.out;have HI:=hide (index_any x.e.attrs x.A x.c n w.heap.size w2 (hsub.more (Nat.le_trans hB HB2.out.size)) HK2.out hfew);have Hsub:=hide hsub;clear hy hsub;dsimp only
 go_wp2_with fail
 refine HI.out.mono ?_;rintro e w3 ⟨rfl,hb3⟩;have HB3:=hide (HB2.out.trans (hb3.mono HB2.out.size));have y3':=(hb3.cell (lt_of_cell y3)).trans y3;have hs3:=Hsub.out.below (hb3.mono (Nat.le_trans hB HB2.out.size));clear hb3 y3;dsimp only
 cases hi:Evs.idxNm n x.e.attrs with
 | none=>
  have hv:z=none:=by rw[←Hz.out];unfold Evs.attrOf;rw[hi];rfl
  subst hv;clear hi hs3;unfold idxV;dsimp only;go_wp2;go_ret2;exact⟨rfl,HB3.out⟩
 | some k=>
  obtain⟨a,ha,-⟩:=Evs.idxNm_at hi;have hv:z=some a.val:=by rw[←Hz.out];unfold Evs.attrOf;rw[hi];show ((x.e.attrs[k]?).map (·.val))=_;rw[ha];rfl
  subst hv;obtain⟨b2,off2,eA,hb2,hac⟩:=atts_at hs3 ha;have a2:=hac.c2;have hkl:=(List.getElem?_eq_some_iff.1 ha).1;obtain⟨m,hm⟩:∃m,x.e.attrs.length=m:=⟨_,rfl⟩;rw[eA,hm] at y3';rw[hm] at hkl hfew;have hkk:(0:Int)≤k∧(k:Int)<m:=by omega
  clear hi hs3 ha hac hm;unfold idxV;dsimp only;go_wp2;go_ret2;exact⟨rfl,HB3.out⟩
end
section
open Go.RowKit Go.Shelf Tk Sx Go.WideShapes

attribute [local go_sem] Oper.semAt_some

namespace Evs
def kidsN(m:List (Nat×Nat))(en:Nat):Nat→Nat→List Nat
 | 0,_=>[]
 | f+1,k=>if k<en then match lookE k m with
  | some e=>k :: kidsN m en f (e+1)
  | none=>kidsN m en f (k+1)
  else []
def Fwd(m:List (Nat×Nat)):Prop:=∀p k,lookE p m=some k→p≤k
theorem upto_fwd(l:List Ev):∀i,Fwd (upto l i).2∧∀p k,lookE p (upto l i).2=some k→k<i
 | 0=>⟨fun p k h=>(by cases h),fun p k h=>(by cases h)⟩
 | i+1=>by
  obtain⟨ih,ih2⟩:=upto_fwd l i;have hlt:=upto_lt l i;rw[upto]
  cases l[i]? with
  | none=>exact⟨ih,fun p k h=>by have:=ih2 p k h;omega⟩
  | some e=>
   dsimp only;unfold stp;split
   ·exact⟨ih,fun p k h=>by have:=ih2 p k h;omega⟩
   split
   ·have hg:(upto l i).1.getLastD 0≤i:=by
     cases hl:(upto l i).1.getLast? with
     | none=>rw[List.getLastD_eq_getLast?,hl];exact Nat.zero_le _
     | some q=>
      have:=hlt q (List.mem_of_getLast? hl);rw[List.getLastD_eq_getLast?,hl];show q≤i;omega
    refine⟨fun p k h=>?_,fun p k h=>?_⟩
    ·unfold lookE at h
     split at h
     ·rename_i he
      cases h;dsimp only at he ⊢;omega
     exact ih p k h
    unfold lookE at h
    split at h
    ·cases h;exact Nat.lt_succ_self _
    have:=ih2 p k h;omega
   exact⟨ih,fun p k h=>by have:=ih2 p k h;omega⟩
def kidsOf(l:List Ev)(i:Nat):List Nat:=kidsN (endsOf l) (endAt l i) l.length (i+1)
end Evs
def KeepB(L:List Nat)(W W':World):Prop:=∀k∈L,W'.heap[k]?=W.heap[k]?
theorem KeepB.trans{L:List Nat}{X Y Z:World}(h:KeepB L X Y)(k:KeepB L Y Z):KeepB L X Z:=fun b hb=>(k b hb).trans (h b hb)
abbrev Kd(N:Nat):={ x:Nat // x<N }
theorem kids1_in(n:Nat)(hn:1≤n)(l Ib Tb T mb i nn:Nat)(A:Option Addr)(N c:Nat)(d:Int)(m:List (Nat×Nat))(D:DataW Unit)(hi:i<N)(hN:N≤10000000)(hf:Evs.Fwd m)(hlast:∀p k,Evs.lookE p m=some k→k<N)(hend:(Evs.lookE i m).getD 0≤N)
  (J Jx:List (Kd N)→World→Prop) (W:World) (hJ:AbidesFrom W.heap.size J)
  (hY:∀(pre:List (Kd N)) (x:Kd N) (W:World),J pre W→pre.length<N→YieldAt Fence.wide (n-1) Tryz.prog l #[.int .i64 (x.1:Int)] W fun e W'=>
   (e=.returned (.bool true)∧J (pre++[x]) W'∧KeepB [Ib,Tb,T,mb] W W')∨(e=.returned (.bool false)∧Jx (pre++[x]) W'))
  (hIb:W.cell? ⟨Ib,0,none⟩=some (.int .i64 (i:Int))) (hTb:W.cell? ⟨Tb,0,none⟩=some (.pointer (some ⟨T,0,none⟩))) (hT:Blk W T 122 #[.slice A N c,.map (some mb),.int .i64 d]) (hm:MapI W mb nn m D) (h0:J [] W) :
  CallsIn Fence.wide n Tryz.prog 68 #[.func (.yield l) #[] #[],.pointer (some ⟨Ib,0,none⟩),.pointer (some ⟨Tb,0,none⟩)] W fun e W'=>(∃v,e=.returned v)∧
   ((∃ys:List (Kd N),ys.map (·.1)=Evs.kidsN m ((Evs.lookE i m).getD 0) N (i+1)∧J ys W')∨(∃pre:List (Kd N),(∃rest,pre.map (·.1)++rest=Evs.kidsN m ((Evs.lookE i m).getD 0) N (i+1))∧Jx pre W')):=by
 refine callsIn_of_wp Tryz.func68 rfl trivial ?_ rfl;simp only[Tryz.ntmps68,List.size_toArray,List.length_cons,List.length_nil,Nat.reduceAdd,Nat.reduceSub,Array.replicate_succ,Array.replicate_zero,List.push_toArray,List.append_toArray,List.nil_append,List.cons_append];obtain⟨en,hen⟩:∃en,(Evs.lookE i m).getD 0=en:=⟨_,rfl⟩;have Hen:=hide hen;rw[hen] at hend ⊢;obtain⟨all,hall⟩:∃all,Evs.kidsN m en N (i+1)=all:=⟨_,rfl⟩;rw[hall];have Hall:=hide hall;have Hf:=hide hf;have HJ:=hide hJ;clear hall hen hf hJ;gi_wp2
 gi_loopw [4,5,6] (fun v4 v5 v6 wr=>∃(k f:Nat) (pre:List (Kd N)),k≤N+1∧v4=.int .i64 (k:Int)∧pre.length+i+1≤k∧en≤k+f∧pre.map (·.1)++Evs.kidsN m en f k=all∧J pre wr∧KeepB [Ib,Tb,T,mb] W wr)
  (fun v4 _ _ _=>N+1-(intOf v4).toNat)
 case atStart=>exact⟨i+1,N,[],by omega,by first|rfl|go_num,by simp,by omega,Hall.out,h0,fun _ _=>rfl⟩
 case round=>
  obtain⟨k,f,pre,hk,rfl,hpl,hkf,hpre,hJs,hkp⟩:=hrel;have Hpre:=hide hpre;have HKp:=hide hkp;have HJs:=hide hJs;clear hpre hkp hJs;have lI:Ib<W.heap.size:=lt_of_cell hIb;have cI:wr.cell? ⟨Ib,0,none⟩=some (.int .i64 (i:Int)):=(World.cell?_of_block (a:=⟨Ib,0,none⟩) (HKp.out Ib (by simp))).trans hIb;have cT:wr.cell? ⟨Tb,0,none⟩=some (.pointer (some ⟨T,0,none⟩)):=(World.cell?_of_block (a:=⟨Tb,0,none⟩) (HKp.out Tb (by simp))).trans hTb;have kT:Blk wr T 122 #[.slice A N c,.map (some mb),.int .i64 d]:=(HKp.out T (by simp)).trans hT;have c1:=kT.cell 1;have hmr:=hm.same (HKp.out mb (by simp));have fi:=hmr.find (p:=i) (by omega);have fk:=hmr.find_ok (p:=k) (by omega);rw[Hen.out] at fi;have hkk:(0:Int)≤k∧(k:Int)≤N+1:=by omega
  have hmd:=hmr.same (W':=wr.drew) rfl;have fid:=hmd.find (p:=i) (by omega);have fkd:=hmd.find_ok (p:=k) (by omega);rw[Hen.out] at fid;have Hmd:=hide hmd;have HJd:=hide (HJ.out pre wr wr.drew none HJs.out ⟨rfl,rfl,rfl,Nat.le_refl _,fun _ _ _=>rfl⟩ (fun r e=>by cases e));have HKd:=hide (show KeepB [Ib,Tb,T,mb] W wr.drew from HKp.out);clear hmr hmd
  by_cases hlt:k<en
  ·have hlt2:(k:Int)<(en:Int):=by omega
   have hkN:k<N:=by omega
   obtain⟨f,rfl⟩:∃g,f=g+1:=⟨f-1,by omega⟩
   have hstep:Evs.kidsN m en (f+1) k=match Evs.lookE k m with
    | some e=>k :: Evs.kidsN m en f (e+1)
    | none=>Evs.kidsN m en f (k+1):=by rw[Evs.kidsN,if_pos hlt]
   cases hl:Evs.lookE k m with
   | none=>
    rw[hl] at fkd hstep;dsimp only at hstep;have Hst:=hide hstep;have Hl:=hide hl;simp only[Option.getD_none,Option.isSome_none] at fkd;clear hstep hl fk;gi_wp2
    gi_region
    gi_wp2
    go_roundw
    case rel=>exact⟨k+1,f,pre,by omega,by first|rfl|go_num,by omega,by omega,by rw[←Hpre.out,Hst.out],HJd.out,HKd.out⟩
    case measure=>simp[intOf];omega
   | some e=>
    rw[hl] at fkd hstep;dsimp only at hstep;have Hst:=hide hstep;have hke:=Hf.out k e hl;have heN:=hlast k e hl;have Hl:=hide hl;simp only[Option.getD_some,Option.isSome_some] at fkd;clear hstep hl fk;obtain⟨fn,tmps,assign,body,hy,hR⟩:=hY pre ⟨k,hkN⟩ wr.drew HJd.out (by omega);gi_wp2
    gi_region
    gi_wp2;refine hR.mono ?_;rintro e3 W3 (⟨rfl,hJ3,hk3⟩|⟨rfl,hJx3⟩)
    ·gi_wp2
     go_roundw
     case rel=>exact⟨e+1,f,pre++[⟨k,hkN⟩],by omega,by first|rfl|go_num,by rw[List.length_append];simp;omega,by omega,by rw[←Hpre.out,Hst.out,List.map_append,List.append_assoc];rfl,hJ3,HKd.out.trans hk3⟩
     case measure=>simp[intOf];omega
    gi_wp2;refine bodyPost_ret (results_none rfl _ _ _) rfl ?_;exact⟨⟨_,rfl⟩,.inr ⟨_,⟨_,by rw[←Hpre.out,Hst.out,List.map_append,List.append_assoc];rfl⟩,hJx3⟩⟩
  have hlt2:¬(k:Int)<(en:Int):=by omega
  have hnil:Evs.kidsN m en f k=[]:=by
   cases f with
   | zero=>rfl
   | succ f=>rw[Evs.kidsN,if_neg hlt]
  gi_wp2
  gi_region
  gi_wp2;go_end0;refine⟨⟨_,rfl⟩,.inl ⟨pre,?_,HJd.out⟩⟩;rw[←Hpre.out,hnil,List.append_nil]
theorem kids_mk(T i:Nat)(w:World):Calls Tryz.prog 42 #[.pointer (some ⟨T,0,none⟩),.int .i64 (i:Int)] w fun e w'=>
  e=.returned (.func (.func 68) #[] #[.pointer (some ⟨w.heap.size+1,0,none⟩),.pointer (some ⟨w.heap.size,0,none⟩)])∧w'=(w.alloc (.cells #[.pointer (some ⟨T,0,none⟩)] 91)).alloc (.cells #[.int .i64 (i:Int)] 3):=by
 go_enter Tryz.func42,Tryz.ntmps42
 go_wp2;go_ret;exact⟨rfl,rfl⟩
theorem kids_stops(n:Nat)(hn:1≤n)(Ib Tb T mb i nn:Nat)(A:Option Addr)(N c:Nat)(d:Int)(m:List (Nat×Nat))(D:DataW Unit)(hi:i<N)(hN:N≤10000000)(hf:Evs.Fwd m)(hlast:∀p k,Evs.lookE p m=some k→k<N)(hend:(Evs.lookE i m).getD 0≤N)(w:World)
  (hIb:w.cell? ⟨Ib,0,none⟩=some (.int .i64 (i:Int))) (hTb:w.cell? ⟨Tb,0,none⟩=some (.pointer (some ⟨T,0,none⟩))) (hT:Blk w T 122 #[.slice A N c,.map (some mb),.int .i64 d]) (hm:MapI w mb nn m D) :
  SeqStopsK Fence.wide n Tryz.prog 68 #[.pointer (some ⟨Ib,0,none⟩),.pointer (some ⟨Tb,0,none⟩)] (fun x:Kd N=>#[Value.int .i64 (x.1:Int)]) (KeepB [Ib,Tb,T,mb]) (fun ys=>ys.map (·.1)=Evs.kidsN m ((Evs.lookE i m).getD 0) N (i+1))
   (fun pre=>∃rest,pre.map (·.1)++rest=Evs.kidsN m ((Evs.lookE i m).getD 0) N (i+1)) N w:=fun l J Jx W hW hJ _ hY h0=>
 kids1_in n hn l Ib Tb T mb i nn A N c d m D hi hN hf hlast hend J Jx W hJ hY ((hW.cell (lt_of_cell hIb)).trans hIb) ((hW.cell (lt_of_cell hTb)).trans hTb) (hT.go hW) (hm.same (hW.block _ hm.lt)) h0
end
end Go.Proofs.YtifiiojchlaghaaGreatDoor
