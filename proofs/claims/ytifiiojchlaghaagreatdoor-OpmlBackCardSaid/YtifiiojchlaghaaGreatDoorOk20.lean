/- events.First: the first child of a name. And more. -/
import Derived.Test.YtifiiojchlaghaaGreatDoorOk00
import Derived.Test.YtifiiojchlaghaaGreatDoorOk01
import Derived.Test.YtifiiojchlaghaaGreatDoorOk14
import Derived.Test.YtifiiojchlaghaaGreatDoorOk18
import Derived.Test.YtifiiojchlaghaaGreatDoorOk19
import Derived.Shelf.RegionOpen
set_option linter.unusedSimpArgs false
set_option maxRecDepth 100000
set_option maxHeartbeats 8000000
set_option linter.unusedVariables false
namespace Go.Proofs.YtifiiojchlaghaaGreatDoor
section
open Go.RowKit Go.Shelf Tk Sx Go.WideShapes

attribute [local go_sem] Oper.semAt_some

namespace Evs
def firstIn(l:List Ev)(n:Nm)(ks:List Nat):Option Nat:=ks.find? fun k=>decide (nmAt l k=n)
end Evs
def firstV(o:Option Nat):Value:=match o with
 | some k=>.tuple #[.int .i64 (k:Int),.bool true]
 | none=>.tuple #[.int .i64 0,.bool false]
theorem keepB_b{w:World}{L:List Nat}(hL:∀k∈L,k<w.heap.size)(W:World)(l:Nat)(o o':Obj)(hl:w.heap.size≤l)(_:W.heap[l]?=some o)(_:o.isCells=false)(_:o.isWalk=false):KeepB L W (W.putObj l o') :=
 fun k hk=>World.putObj_heap_other (by have:=hL k hk;omega)
theorem blk_rowE{X:World}{B:Nat}{t:TypeId}{cs:Array Value}{row:Option Nat}{n:Nat}(hrow:∀r,row=some r→n≤r∧∃o:Obj,X.heap[r]?=some o∧o.isCells=false)(h:Blk X B t cs):some B≠row:=fun e=>by
 obtain⟨_,o,ho,hc⟩:=hrow _ e.symm;rw[show X.heap[_]?=_ from h] at ho;cases ho;cases hc
structure FsC(w:World)(v:Value)(n:Nm)(W:World):Prop where
 l:Blk W w.heap.size 50 #[v]
 n:Blk W (w.heap.size+1) 57 #[.string (bstr n.ns),.string (bstr n.loc)]
 b:Below w.heap.size w W
theorem FsC.kept{w X Y:World}{v:Value}{n:Nm}{row:Option Nat}{z:Nat}(h:FsC w v n X)(hz:w.heap.size≤z)(hg:X.grownBy Y row)(hrow:∀r,row=some r→z≤r∧∃o:Obj,X.heap[r]?=some o∧o.isCells=false):FsC w v n Y :=
 ⟨h.l.grown hg (blk_rowE hrow h.l),h.n.grown hg (blk_rowE hrow h.n),h.b.grown hg h.b.size (fun k e=>by have:=(hrow k e).1;omega)⟩
def FsI(w:World)(v:Value)(n:Nm)(l:List Ev){N:Nat}(pre:List (Kd N))(W:World):Prop :=
 (∀p∈pre,Evs.nmAt l p.1≠n)∧(∃u,Blk W (w.heap.size+1+1) 3 #[u])∧(∃u,Blk W (w.heap.size+1+1+1) 4 #[u])∧FsC w v n W
def FsX(w:World)(v:Value)(n:Nm)(l:List Ev){N:Nat}(c:Code)(pre:List (Kd N))(W:World):Prop :=
 c=.ret∧∃pre0 x,pre=pre0++[x]∧(∀p∈pre0,Evs.nmAt l p.1≠n)∧Evs.nmAt l x.1=n∧Blk W (w.heap.size+1+1) 3 #[.int .i64 (x.1:Int)]∧Blk W (w.heap.size+1+1+1) 4 #[.bool true]∧FsC w v n W
theorem FsI_own(w:World)(v:Value)(n:Nm)(l:List Ev){N z:Nat}(hz:w.heap.size≤z):OwnFrom z (FsI w v n l (N:=N)):=by
 rintro s X Y row ⟨h1,⟨u,hu⟩,⟨u2,hu2⟩,h3⟩ hg hrow;exact⟨h1,⟨u,hu.grown hg (blk_rowE hrow hu)⟩,⟨u2,hu2.grown hg (blk_rowE hrow hu2)⟩,h3.kept hz hg hrow⟩
theorem FsX_own(w:World)(v:Value)(n:Nm)(l:List Ev){N z:Nat}(hz:w.heap.size≤z)(c:Code):OwnFrom z (FsX w v n l (N:=N) c):=by
 rintro s X Y row ⟨h1,p,x,h2,h4,h5,hu,hu2,h3⟩ hg hrow;exact⟨h1,p,x,h2,h4,h5,hu.grown hg (blk_rowE hrow hu),hu2.grown hg (blk_rowE hrow hu2),h3.kept hz hg hrow⟩
theorem First_any(xs:List Ew)(A:Option Addr)(c B i:Nat)(x:Ew)(n:Nm)(w:World)(h:EvW w B A c xs)(hx:xs[i]?=some x)(hk:x.e.kind=0) :
  Calls Tryz.prog 22 #[.slice A xs.length c,.int .i64 (i:Int),.agg #[.string (bstr n.ns),.string (bstr n.loc)]] w fun e w'=>e=.returned (firstV (Evs.firstIn (xs.map (·.e)) n (Evs.kidsOf (xs.map (·.e)) i)))∧Below w.heap.size w w':=by
 refine (callsIn_wide (n:=5)).1 ?_;refine callsIn_of_wp_marks Tryz.func22 rfl trivial ?_ rfl;simp only[Tryz.ntmps22,List.size_toArray,List.length_cons,List.length_nil,Nat.reduceAdd,Nat.reduceSub,Array.replicate_succ,Array.replicate_zero,List.push_toArray,List.append_toArray,List.nil_append,List.cons_append];have hAt:=fun W (hb:Below w.heap.size w W)=>at_any xs A c B i x W (h.go hb) hx hk;have HAt:=hide hAt;clear hAt;have hl:=h.l;have hil:=(List.getElem?_eq_some_iff.1 hx).1;have hnn:=h.s.len;have hBw:=h.hB;have HL:=hide hl;have HFw:=hide (Evs.upto_fwd (xs.map (·.e)) (xs.map (·.e)).length);rw[List.length_map] at HFw;have HKd:=hide (show Evs.kidsOf (xs.map (·.e)) i=Evs.kidsN (Evs.endsOf (xs.map (·.e))) ((Evs.lookE i (Evs.endsOf (xs.map (·.e)))).getD 0) xs.length (i+1) by unfold Evs.kidsOf Evs.endAt;rw[List.length_map]);have HEo:=hide (show Evs.endsOf (xs.map (·.e))=(Evs.upto (xs.map (·.e)) xs.length).2 by unfold Evs.endsOf;rw[List.length_map]);have HXs:=hide (fun k (hk:k<xs.length)=>(show ∃y,xs[k]?=some y from⟨_,List.getElem?_eq_getElem hk⟩));obtain⟨N,hN⟩:∃N,xs.length=N:=⟨_,rfl⟩;rw[hN] at HAt hil hnn HFw HKd HEo HXs ⊢;clear hl h hx hk hN
 have HB4:=hide (((((below_alloc w (.cells #[.slice A N c] 50)).alloc (by simp) (.cells #[.string (bstr n.ns),.string (bstr n.loc)] 57)).alloc (by simp;omega) (.cells #[.int .i64 0] 3)).alloc (by simp;omega) (.cells #[.bool false] 4)));have f0:=(((Blk.new w 50 #[.slice A N c]).alloc (.cells #[.string (bstr n.ns),.string (bstr n.loc)] 57)).alloc (.cells #[.int .i64 0] 3)).alloc (.cells #[.bool false] 4);have f1:=((Blk.new (w.alloc (.cells #[.slice A N c] 50)) 57 #[.string (bstr n.ns),.string (bstr n.loc)]).alloc (.cells #[.int .i64 0] 3)).alloc (.cells #[.bool false] 4);have f2:=(Blk.new ((w.alloc (.cells #[.slice A N c] 50)).alloc (.cells #[.string (bstr n.ns),.string (bstr n.loc)] 57)) 3 #[.int .i64 0]).alloc (.cells #[.bool false] 4);have f3:=Blk.new (((w.alloc (.cells #[.slice A N c] 50)).alloc (.cells #[.string (bstr n.ns),.string (bstr n.loc)] 57)).alloc (.cells #[.int .i64 0] 3)) 4 #[.bool false];have hz4:((((w.alloc (.cells #[.slice A N c] 50)).alloc (.cells #[.string (bstr n.ns),.string (bstr n.loc)] 57)).alloc (.cells #[.int .i64 0] 3)).alloc (.cells #[.bool false] 4)).heap.size=w.heap.size+4:=by simp
 rw[World.size_alloc] at f1;rw[World.size_alloc,World.size_alloc] at f2;rw[World.size_alloc,World.size_alloc,World.size_alloc] at f3;obtain⟨W4,hW4⟩:∃W,(((w.alloc (.cells #[.slice A N c] 50)).alloc (.cells #[.string (bstr n.ns),.string (bstr n.loc)] 57)).alloc (.cells #[.int .i64 0] 3)).alloc (.cells #[.bool false] 4)=W:=⟨_,rfl⟩;have HW4:=hide hW4;have HA4:=hide (HAt.out _ HB4.out);rw[hW4] at HB4 f0 f1 f2 f3 hz4;have F0:=hide f0;have F1:=hide f1;have F2:=hide f2;have F3:=hide f3;clear hW4 f0 f1 f2 f3
 gi_wp2_with (refine⟨trivial,?_⟩;gi_at_call 41;refine (callsIn_wide.2 HA4.out).mono ?_;rintro e w2 ⟨hb2,T,mb,rfl,hT⟩)
 rw[HW4.out] at hb2 hT;obtain⟨hT1,hmb1,⟨d,htr⟩,nn,D,hm,hnn2⟩:=hT;have HB2:=hide (HB4.out.trans (hb2.mono HB4.out.size));have G0:=hide (F0.out.go hb2);have G1:=hide (F1.out.go hb2);have G2:=hide (F2.out.go hb2);have G3:=hide (F3.out.go hb2);have hz2:w.heap.size+4≤w2.heap.size:=by have:=hb2.size;omega
 rw[hz4] at hT1 hmb1;clear hb2 F0 F1 F2 F3 HA4 HW4 HB4 HAt hz4
 gi_wp2_with (refine⟨trivial,?_⟩;gi_at_call 42;refine (callsIn_wide.2 (kids_mk T i _)).mono ?_;rintro e w3 ⟨rfl,hw3⟩)
 obtain⟨R,hR⟩:∃R,w2.heap.size=R:=⟨_,rfl⟩;have hbw3:Below w2.heap.size w2 w3:=by rw[hw3];exact (below_alloc w2 _).trans ((below_alloc _ _).mono (by simp))
 have hTb:w3.cell? ⟨R,0,none⟩=some (.pointer (some ⟨T,0,none⟩)):=by
  have:=((Blk.new w2 91 #[.pointer (some ⟨T,0,none⟩)]).alloc (.cells #[.int .i64 (i:Int)] 3)).cell 0;rw[←hw3,hR] at this;exact this
 have hIb:w3.cell? ⟨R+1,0,none⟩=some (.int .i64 (i:Int)):=by
  have:=(Blk.new (w2.alloc (.cells #[.pointer (some ⟨T,0,none⟩)] 91)) 3 #[.int .i64 (i:Int)]).cell 0;rw[World.size_alloc,←hw3,hR] at this;exact this
 have hz3:w3.heap.size=R+2:=by rw[hw3,←hR];simp
 have HB3:=hide (HB2.out.trans (hbw3.mono HB2.out.size));have hC3:FsC w (.slice A N c) n w3:=⟨G0.out.go hbw3,G1.out.go hbw3,HB3.out⟩;have hI0:FsI w (.slice A N c) n (xs.map (·.e)) (N:=N) [] w3:=⟨(fun p hp=>by cases hp),⟨_,G2.out.go hbw3⟩,⟨_,G3.out.go hbw3⟩,hC3⟩;have hT3:=htr.go hbw3;have hm3:=hm.same (hbw3.block _ hm.lt);rw[←hw3];have hTlt:=htr.lt;have hmlt:=hm.lt;rw[hR];have HI0:=hide hI0;have hfw:Evs.Fwd (Evs.endsOf (xs.map (·.e))):=by rw[HEo.out];exact HFw.out.1
 have hlast:∀p k,Evs.lookE p (Evs.endsOf (xs.map (·.e)))=some k→k<N:=by rw[HEo.out];exact HFw.out.2
 have hend:(Evs.lookE i (Evs.endsOf (xs.map (·.e)))).getD 0≤N:=by
  cases he:Evs.lookE i (Evs.endsOf (xs.map (·.e))) with
  | none=>exact Nat.zero_le _
  | some k=>have:=hlast i k he;show k≤N;omega
 have hst:=kids_stops (5-1) (by omega) (R+1) R T mb i nn A N c d (Evs.endsOf (xs.map (·.e))) D hil hnn hfw hlast hend w3 hIb hTb hT3 hm3;have Hst:=hide hst;have hzw:w.heap.size≤w3.heap.size:=HB3.out.size;rw[hR] at hTlt hmlt hz2;clear hw3 hbw3 hC3 hI0 hT3 hm3 hfw hlast hend hst htr hm hIb hTb hR G0 G1 G2 G3 HB2
 refine wpIn_rangeFunc_ownG rfl (by omega) (gf:=68) (lb:=#[.pointer (some ⟨R+1,0,none⟩),.pointer (some ⟨R,0,none⟩)]) rfl trivial (enters_of Tryz.func68 (by kernel_rfl) rfl)
  Hst.out KeepB.trans (keepB_b (by simp;omega)) (Below.refl _ _) (fun _=>rfl)
  (FsI w (.slice A N c) n (xs.map (·.e))) (FsX w (.slice A N c) n (xs.map (·.e))) (FsI_own w _ n _ hzw) (fun c'=>FsX_own w _ n _ hzw c')
  HI0.out
  (fun x=>{ tmps:=#[.slice A N c,.int .i64 (i:Int),.agg #[.string (bstr n.ns),.string (bstr n.loc)],.pointer (some ⟨w.heap.size,0,none⟩),undef,.pointer (some ⟨w.heap.size+1,0,none⟩),.pointer (some ⟨w.heap.size+1+1,0,none⟩),.pointer (some ⟨w.heap.size+1+1+1,0,none⟩),
   .pointer (some ⟨T,0,none⟩),.int .i64 (x.1:Int),.slice A N c,.int .i64 (i:Int),.pointer (some ⟨T,0,none⟩),.pointer (some ⟨T,0,none⟩),.bool false,.pointer (some ⟨T,0,none⟩),.int .i64 (i:Int),
   .func (.func 68) #[] #[.pointer (some ⟨R+1,0,none⟩),.pointer (some ⟨R,0,none⟩)],.int .i64 (x.1:Int),undef,undef,undef,undef,undef,undef,undef,undef],defers:=[] }) ?assign ?body ?done ?stop
 case assign=>
  intro l x W K hK;gi_wp2;exact hK
 case body=>
  rintro l pre x W ⟨hp,⟨u,hu⟩,⟨u2,hu2⟩,hC⟩ hlen;have HP:=hide hp;have HC:=hide hC;obtain⟨y,hy⟩:=HXs.out x.1 x.2;have hxl:=x.2;obtain⟨b,off,eA,hbB,hyc⟩:=(HL.out.below (hC.b.mono hBw)).at_ hy;subst eA;have hnm:Evs.nmAt (xs.map (·.e)) x.1=y.e.name:=by unfold Evs.nmAt;rw[List.getElem?_map,hy];rfl
  have y1:=hyc.c1;have y2:=hyc.c2;have c0:=hC.l.cell 0;have n0:=hC.n.cell 0;have n1:=hC.n.cell 1;have hE:=fun W=>eql_nm W y.e.name n;have hxx:(0:Int)≤x.1∧(x.1:Int)<N:=by omega
  have HNm:=hide hnm;have HU:=hide hu;have HU2:=hide hu2;have hmix:Tryz.prog.follows .mixedOrders=true:=by kernel_rfl
  have hbd:Below w.heap.size w W.drew:=below_drewN hC.b 1;have hbd2:W.drew.heap=W.heap:=rfl
  cases hq:eqNm y.e.name n with
  | false=>
   simp only[hq] at hE;have hne:Evs.nmAt (xs.map (·.e)) x.1≠n:=fun e=>by rw[HNm.out] at e;rw[(eqNm_iff _ _).2 e] at hq;cases hq
   have HF:=hide (show KeepsFrom w3.heap.size W W.drew∧KeepB [R+1,R,T,mb] W W.drew∧FsI w (.slice (some ⟨b,off,none⟩) N c) n (xs.map (·.e)) (pre++[x]) W.drew from⟨(KeepsOthers.drew W).from _,fun _ _=>rfl,fun p hp=>by
    rcases List.mem_append.1 hp with hp|hp
    ·exact HP.out p hp
    rw[show p=x by simpa using hp];exact hne,⟨u,hu⟩,⟨u2,hu2⟩,hC.l,hC.n,hbd⟩)
   clear hp hC hy hyc hnm hu hu2 hq hne hbd hbd2;gi_wp2
   gi_region_with_o (fail)
   all_goals (gi_wp2;exact HF.out)
  | true=>
   simp only[hq] at hE;have heq:=hide (show Evs.nmAt (xs.map (·.e)) x.1=n from by rw[HNm.out];exact (eqNm_iff _ _).1 hq);have hc1:=hu.cell 0;have hc2:=hu2.cell 0;have hf1:=hu.frozen 0;have hf2:=hu2.frozen 0
   have HF:=hide (show FsX w (.slice (some ⟨b,off,none⟩) N c) n (xs.map (·.e)) .ret (pre++[x]) ((W.drew.setCell ⟨w.heap.size+1+1,0,none⟩ (.int .i64 (x.1:Int))).setCell ⟨w.heap.size+1+1+1,0,none⟩ (.bool true)) from by
    refine⟨rfl,pre,x,rfl,HP.out,heq.out,?_,?_,?_,?_,?_⟩
    ·exact (hu.drew.set_ 0 (.int .i64 (x.1:Int))).far (by dsimp only;omega) _
    ·exact ((hu2.drew.far (by dsimp only;omega) _).set_ 0 _)
    ·exact (hC.l.drew.far (by dsimp only;omega) _).far (by dsimp only;omega) _
    ·exact (hC.n.drew.far (by dsimp only;omega) _).far (by dsimp only;omega) _
    exact (hbd.setCell (p:=⟨w.heap.size+1+1,0,none⟩) (by dsimp only;omega) _).setCell (p:=⟨w.heap.size+1+1+1,0,none⟩) (by dsimp only;omega) _)
   have hsl1:w.heap.size+1+1<W.heap.size:=hu.lt;have hsl2:w.heap.size+1+1+1<W.heap.size:=hu2.lt;clear hp hC hy hyc hnm hu hu2 hq hbd hbd2;gi_wp2
   gi_region_with_o (fail)
   all_goals (gi_wp2;exact⟨(((KeepsOthers.drew W).trans (KeepsOthers.setCell _ _ _)).trans (KeepsOthers.setCell _ _ _)).from _,HF.out⟩)
 case done=>
  rintro D ys W hD hys ⟨hp,⟨v,hv⟩,⟨u,hu⟩,hC⟩ hK;have hc:=hv.cell 0;have hf:=hv.frozen 0;have hc':=hu.cell 0;have hf':=hu.frozen 0
  have Hn:=hide (show Evs.firstIn (xs.map (·.e)) n (Evs.kidsOf (xs.map (·.e)) i)=none from by
   rw[HKd.out,←hys]
   exact List.find?_eq_none.2 fun k hk=>by
    obtain⟨p,hp',rfl⟩:=List.mem_map.1 hk;simp[hp p hp'])
  clear hys hp;gi_wp2;have hv2:=(hv.set_ 0 (.int .i64 0)).far (p:=⟨w.heap.size+1+1+1,0,none⟩) (by dsimp only;omega) (.bool false);have hu2:=(hu.far (p:=⟨w.heap.size+1+1,0,none⟩) (by dsimp only;omega) (.int .i64 0)).set_ 0 (.bool false);have hK2:=((KeepsOthers.setCell W ⟨w.heap.size+1+1,0,none⟩ (.int .i64 0)).trans (KeepsOthers.setCell _ ⟨w.heap.size+1+1+1,0,none⟩ (.bool false))).same D _ hK rfl;refine⟨by simp,.inl ⟨_,_,rfl,run_takeDeferred hK2,?_⟩⟩;have hc2:=cell_kept (hv2.cell 0) (grownBy_putObj' _ D (.deferred none)) (fun r e=>by cases e;exact⟨_,hK2,rfl⟩);have hc3:=cell_kept (hu2.cell 0) (grownBy_putObj' _ D (.deferred none)) (fun r e=>by cases e;exact⟨_,hK2,rfl⟩);refine⟨.tuple #[.int .i64 0,.bool false],?_,?_⟩
  ·simp[results,Tryz.results22,go_sem,hc2,hc3]
  exact⟨by rw[Hn.out];rfl,((hC.b.setCell (p:=⟨w.heap.size+1+1,0,none⟩) (by dsimp only;omega) _).setCell (p:=⟨w.heap.size+1+1+1,0,none⟩) (by dsimp only;omega) _).trans (belowK_b (w:=w) (Nat.le_refl _) _ D _ _ (by omega) hK2 rfl rfl)⟩
 case stop=>
  rintro D c' pre W hD ⟨rest,hsp⟩ ⟨rfl,pre0,x,rfl,hp,hx,hv,hu,hC⟩ hK;have hc:=hv.cell 0;have hf:=hv.frozen 0;have hc':=hu.cell 0;have hf':=hu.frozen 0
  have Hn:=hide (show Evs.firstIn (xs.map (·.e)) n (Evs.kidsOf (xs.map (·.e)) i)=some x.1 from by
   rw[HKd.out,←hsp,List.map_append,List.append_assoc];unfold Evs.firstIn
   rw[List.find?_append,List.find?_eq_none.2 (fun k hk=>by
    obtain⟨p,hp',rfl⟩:=List.mem_map.1 hk;simp[hp p hp'])]
   simp[hx])
  clear hsp hp hx;gi_wp2;refine⟨by simp,.inl ⟨_,_,rfl,run_takeDeferred hK,?_⟩⟩;have hc2:=cell_kept (hv.cell 0) (grownBy_putObj' _ D (.deferred none)) (fun r e=>by cases e;exact⟨_,hK,rfl⟩);have hc3:=cell_kept (hu.cell 0) (grownBy_putObj' _ D (.deferred none)) (fun r e=>by cases e;exact⟨_,hK,rfl⟩);refine⟨.tuple #[.int .i64 (x.1:Int),.bool true],?_,?_⟩
  ·simp[results,Tryz.results22,go_sem,hc2,hc3]
  exact⟨by rw[Hn.out];rfl,hC.b.trans (belowK_b (w:=w) (Nat.le_refl _) _ D _ _ (by omega) hK rfl rfl)⟩
end
section
open Go.RowKit Go.Shelf Tk Sx Go.WideShapes

attribute [local go_sem] Oper.semAt_some

namespace Opm
def hit(l:List Ev)(n:Nm)(k:Nat):Bool:=match l[k]? with
 | some e=>decide (e.kind=0)&&eqNm e.name n
 | none=>false
def elemsN(l:List Ev)(n:Nm)(en:Nat):Nat→Nat→List Nat
 | 0,_=>[]
 | f+1,k=>if k<en then (if hit l n k=true then k :: elemsN l n en f (k+1) else elemsN l n en f (k+1)) else []
def elemsOf(l:List Ev)(n:Nm)(i:Nat):List Nat:=elemsN l n (Evs.endAt l i) l.length i
end Opm
abbrev Ke(N:Nat)(l:List Ev)(n:Nm):={ x:Nat // x<N∧Opm.hit l n x=true }
def KpO(B:Nat)(L:List Nat)(W W':World):Prop:=Below B W W'∧KeepB L W W'
theorem KpO.trans{B:Nat}{L:List Nat}{X Y Z:World}(h:KpO B L X Y)(k:KpO B L Y Z):KpO B L X Z:=⟨h.1.trans k.1,h.2.trans k.2⟩
theorem KpO.refl(B:Nat)(L:List Nat)(W:World):KpO B L W W:=⟨Below.refl _ _,fun _ _=>rfl⟩
def Yd(p a b:Prop):Prop:=(p∧a)∨(¬p∧b)
theorem elems1_in(n:Nat)(hn:1≤n)(l Lb Ab Nb i B:Nat)(A:Option Addr)(c N:Nat)(xs:List Ew)(x:Ew)(nm:Nm)(hN:xs.length=N)
  (J Jx:List (Ke N (xs.map (·.e)) nm)→World→Prop) (W:World) (hJ:AbidesFrom W.heap.size J)
  (hY:∀(pre:List (Ke N (xs.map (·.e)) nm)) (x:Ke N (xs.map (·.e)) nm) (W:World),J pre W→pre.length<N→YieldAt Fence.wide (n-1) Tryz.prog l #[.int .i64 (x.1:Int)] W fun e W'=>
   (e=.returned (.bool true)∧J (pre++[x]) W'∧KpO B [Lb,Ab,Nb] W W')∨(e=.returned (.bool false)∧Jx (pre++[x]) W'))
  (hE:EvW W B A c xs) (hx:xs[i]?=some x) (hk:x.e.kind=0)
  (hLb:Blk W Lb 50 #[.slice A N c]) (hAb:Blk W Ab 3 #[.int .i64 (i:Int)]) (hNb:Blk W Nb 57 #[.string (bstr nm.ns),.string (bstr nm.loc)]) (h0:J [] W) :
  CallsIn Fence.wide n Tryz.prog 43 #[.func (.yield l) #[] #[],.pointer (some ⟨Lb,0,none⟩),.pointer (some ⟨Ab,0,none⟩),.pointer (some ⟨Nb,0,none⟩)] W fun e W'=>(∃v,e=.returned v)∧
   ((∃ys:List (Ke N (xs.map (·.e)) nm),ys.map (·.1)=Opm.elemsOf (xs.map (·.e)) nm i∧J ys W')∨(∃pre:List (Ke N (xs.map (·.e)) nm),(∃rest,pre.map (·.1)++rest=Opm.elemsOf (xs.map (·.e)) nm i)∧Jx pre W')):=by
 refine callsIn_of_wp Tryz.func43 rfl trivial ?_ rfl;simp only[Tryz.ntmps43,List.size_toArray,List.length_cons,List.length_nil,Nat.reduceAdd,Nat.reduceSub,Array.replicate_succ,Array.replicate_zero,List.push_toArray,List.append_toArray,List.nil_append,List.cons_append]
 have hlast:∀p k,Evs.lookE p (Evs.endsOf (xs.map (·.e)))=some k→k<N:=by
  have:=(Evs.upto_fwd (xs.map (·.e)) (xs.map (·.e)).length).2;rw[List.length_map,hN] at this;unfold Evs.endsOf;rwa[List.length_map,hN]
 obtain⟨en,hen⟩:∃en,Evs.endAt (xs.map (·.e)) i=en:=⟨_,rfl⟩
 have hend:en≤N:=by
  rw[←hen];unfold Evs.endAt
  cases he:Evs.lookE i (Evs.endsOf (xs.map (·.e))) with
  | none=>exact Nat.zero_le _
  | some k=>have:=hlast i k he;show k≤N;omega
 obtain⟨all,hall⟩:∃all,Opm.elemsOf (xs.map (·.e)) nm i=all:=⟨_,rfl⟩;have hst:Opm.elemsN (xs.map (·.e)) nm en N i=all:=by rw[←hall,←hen,←hN];unfold Opm.elemsOf;rw[List.length_map]
 have HE:=hide (End_any xs A c B i x W hE hx hk);have hiN:i<N:=by have:=(List.getElem?_eq_some_iff.1 hx).1;omega
 rw[hN,hen] at HE;rw[hall];have hnn:=hE.s.len;rw[hN] at hnn;have Hall:=hide hst;have HJ:=hide hJ;have HEW:=hide hE;have HXs:=hide (fun k (hk:k<N)=>(show ∃y,xs[k]?=some y from⟨_,List.getElem?_eq_getElem (by omega)⟩));have l0:=hLb.cell 0;have a0:=hAb.cell 0;have lL:=hLb.lt;have lA:=hAb.lt;have lN:=hNb.lt;have HL:=hide hLb;have HA:=hide hAb;have HN:=hide hNb;have H0:=hide h0;clear hall hen hst hJ hE hx hk hLb hAb hNb h0 hlast hN
 gi_wp2_with (refine⟨trivial,?_⟩;gi_at_call 44;refine (callsIn_wide.2 HE.out).mono ?_;rintro e w2 ⟨rfl,hb2⟩;have a2:=(HA.out.go hb2).cell 0)
 have HJ2:=hide (HJ.out [] W w2 none H0.out (grown_below hb2 none) (fun r e=>by cases e));have HEW2:=hide (HEW.out.go hb2);have HL2:=hide (HL.out.go hb2);have HN2:=hide (HN.out.go hb2);have hsz:=hb2.size;have HJw:=hide (show AbidesFrom w2.heap.size J from fun s X Y row hs hg hr=>HJ.out s X Y row hs hg (fun r e=>⟨Nat.le_trans hsz (hr r e).1,(hr r e).2⟩));clear H0 HE HEW HL HN HA a0 l0 a2 hb2 HJ
 gi_loopw [7] (fun v7 wr=>∃(k f:Nat) (pre:List (Ke N (xs.map (·.e)) nm)),k≤N∧v7=.int .i64 (k:Int)∧pre.length≤k∧N≤k+f∧pre.map (·.1)++Opm.elemsN (xs.map (·.e)) nm en f k=all∧J pre wr∧KpO B [Lb,Ab,Nb] w2 wr)
  (fun v7 _=>N+1-(intOf v7).toNat)
 case atStart=>exact⟨i,N,[],by omega,by first|rfl|go_num,by simp,by omega,Hall.out,HJ2.out,KpO.refl _ _ _⟩
 case round=>
  obtain⟨k,f,pre,hk,rfl,hpl,hkf,hpre,hJs,hkp⟩:=hrel;have Hpre:=hide hpre;have HKp:=hide hkp;have lk:=(HL2.out.lt:Lb<w2.heap.size);have c1:=(show Blk wr Lb 50 #[.slice A N c] from (hkp.2 Lb (by simp)).trans HL2.out).cell 0;have kN:=(show Blk wr Nb 57 #[.string (bstr nm.ns),.string (bstr nm.loc)] from (hkp.2 Nb (by simp)).trans HN2.out);have n0:=kN.cell 0;have n1:=kN.cell 1;have HJd:=hide (HJw.out pre wr wr.drew none hJs ⟨rfl,rfl,rfl,Nat.le_refl _,fun _ _ _=>rfl⟩ (fun r e=>by cases e));have HKd:=hide (show KpO B [Lb,Ab,Nb] w2 wr.drew from⟨below_drewN hkp.1 1,hkp.2⟩);have HJm:=hide (fun m=>HJw.out pre wr (wr.drewN m) none hJs ⟨rfl,rfl,rfl,Nat.le_refl _,fun _ _ _=>rfl⟩ (fun r e=>by cases e));have HKm:=hide (fun m=>(show KpO B [Lb,Ab,Nb] w2 (wr.drewN m) from⟨below_drewN hkp.1 m,hkp.2⟩));have hel:=hide (HEW2.out.l.below hkp.1);have HJs:=hide hJs;clear hpre hkp hJs kN
  by_cases hlt:k<en
  ·have hlt2:(k:Int)<(en:Int):=by omega
   have hkN:k<N:=by omega
   have hkk:(0:Int)≤k∧(k:Int)<N:=by omega
   obtain⟨f,rfl⟩:∃g,f=g+1:=⟨f-1,by omega⟩;obtain⟨y,hy⟩:=HXs.out k hkN;have hh:Opm.hit (xs.map (·.e)) nm k=(decide (y.e.kind=0)&&eqNm y.e.name nm):=by unfold Opm.hit;rw[List.getElem?_map,hy];rfl
   have hstep:Opm.elemsN (xs.map (·.e)) nm en (f+1) k=if (decide (y.e.kind=0)&&eqNm y.e.name nm)=true then k :: Opm.elemsN (xs.map (·.e)) nm en f (k+1) else Opm.elemsN (xs.map (·.e)) nm en f (k+1):=by rw[Opm.elemsN,if_pos hlt,hh]
   obtain⟨b,off,rfl,hbB,hyc⟩:=hel.out.at_ hy;have y0:=hyc.c0;have y1:=hyc.c1;have y2:=hyc.c2;have hE:=fun W=>eql_nm W y.e.name nm;clear hyc hy hel
   by_cases hkd:y.e.kind=0
   ·rw[hkd] at y0;rw[show ((0:Nat):Int)=0 from rfl] at y0
    cases hq:eqNm y.e.name nm with
    | false=>
     rw[hq,hkd,Bool.and_false,if_neg (by simp)] at hstep;simp only[hq] at hE;have Hst:=hide hstep;clear hstep hq hkd hh;gi_wp2;refine wpIn_region_quiet_lit rfl (by kernel_rfl) (by kernel_rfl) ?_
     repeat (gi_big_quiet_step (fail))
     refine BigFrame.wpQuietIn_skip (fun _ _ _ _=>trivial) (by kernel_rfl) ?_;simp only[Act.put,List.setIfInBounds_toArray,List.set_cons_zero,List.set_cons_succ]
     repeat (gi_big_quiet_step (fail))
     refine wpQuietIn_nil ?_;rintro _ ⟨nq,rfl⟩;gi_wp2
     go_roundw
     case rel=>exact⟨k+1,f,pre,by omega,by first|rfl|go_num,by omega,by omega,by rw[←Hpre.out,Hst.out],HJm.out nq,HKm.out nq⟩
     case measure=>simp[intOf];omega
    | true=>
     have hhit:Opm.hit (xs.map (·.e)) nm k=true:=by rw[hh,hq,hkd];rfl
     rw[hq,hkd,Bool.and_true,if_pos (by simp)] at hstep;simp only[hq] at hE;have Hst:=hide hstep;clear hstep hq hkd hh;obtain⟨fn,tmps,assign,body,hyi,hR⟩:=hY pre ⟨k,hkN,hhit⟩ wr.drew HJd.out (by omega);have hmix:Tryz.prog.follows .mixedOrders=true:=by kernel_rfl
     gi_wp2
     have HR:=hide (show RoundIn Fence.wide (n-1) Tryz.prog l fn tmps assign body wr.drew (fun e W'=>∃bb,e=.returned (.bool bb)∧Yd (bb=true) (J (pre++[⟨k,hkN,hhit⟩]) W'∧KpO B [Lb,Ab,Nb] wr.drew W') (Jx (pre++[⟨k,hkN,hhit⟩]) W')) from hR.mono (by
      rintro e3 W3 (⟨rfl,hJ3,hk3⟩|⟨rfl,hJx3⟩)
      ·exact⟨true,rfl,.inl ⟨rfl,hJ3,hk3⟩⟩
      exact⟨false,rfl,.inr ⟨by simp,hJx3⟩⟩))
     clear hR
     gi_region_with_o (refine HR.out.mono ?_;rintro e3 W3 ⟨bb,rfl,h3⟩)
     all_goals
      rcases h3 with ⟨rfl,hJ3,hk3⟩|⟨hbb,hJx3⟩
      ·gi_wp2
       go_roundw
       case rel=>exact⟨k+1,f,pre++[⟨k,hkN,hhit⟩],by omega,by first|rfl|go_num,by rw[List.length_append];simp;omega,by omega,by rw[←Hpre.out,Hst.out,List.map_append,List.append_assoc];rfl,hJ3,HKd.out.trans hk3⟩
       case measure=>simp[intOf];omega
      cases bb with
      | true=>exact absurd rfl hbb
      | false=>
       gi_wp2;refine bodyPost_ret (results_none rfl _ _ _) rfl ?_;exact⟨⟨_,rfl⟩,.inr ⟨_,⟨_,by rw[←Hpre.out,Hst.out,List.map_append,List.append_assoc];rfl⟩,hJx3⟩⟩
   have hq0:decide (y.e.kind=0)=false:=decide_eq_false hkd;have hkz:((y.e.kind:Int)==0)=false:=beq_eq_false_iff_ne.2 (by omega);rw[hq0,Bool.false_and,if_neg (by simp)] at hstep;have Hst:=hide hstep;clear hstep hq0 hkd hE hh;gi_wp2;refine wpIn_region_quiet_lit rfl (by kernel_rfl) (by kernel_rfl) ?_
   repeat (gi_big_quiet_step (fail))
   refine BigFrame.wpQuietIn_skip (fun _ _ _ _=>trivial) (by kernel_rfl) ?_;simp only[Act.put,List.setIfInBounds_toArray,List.set_cons_zero,List.set_cons_succ]
   repeat (gi_big_quiet_step (fail))
   refine wpQuietIn_nil ?_;rintro _ ⟨nq,rfl⟩;gi_wp2
   go_roundw
   case rel=>exact⟨k+1,f,pre,by omega,by first|rfl|go_num,by omega,by omega,by rw[←Hpre.out,Hst.out],HJm.out nq,HKm.out nq⟩
   case measure=>simp[intOf];omega
  have hlt2:¬(k:Int)<(en:Int):=by omega
  have hnil:Opm.elemsN (xs.map (·.e)) nm en f k=[]:=by
   cases f with
   | zero=>rfl
   | succ f=>rw[Opm.elemsN,if_neg hlt]
  gi_wp2;go_end0;refine⟨⟨_,rfl⟩,.inl ⟨pre,?_,HJs.out⟩⟩;show pre.map (·.1)=all;rw[←Hpre.out,hnil,List.append_nil]
end
section
open Go.RowKit Tk Sx Go.WideShapes

theorem keyOf_st{x:L}(h:x.length≤1000000000):keyOf Tryz.prog 9 (.string (bstr x))=some (.string x):=WideMaps.keyOf_string_mk Tryz.underlying9 (by rw[bstr_size];unfold maxLen;omega)
structure SeenS(W:World)(mb n:Nat)(seen:List L)(D:DataW Unit):Prop where
 own:W.ownsMap Tryz.prog 9 (plainElem Tryz.prog 4) mb n D
 is:Maps.IsMap D
 ok:∀x:L,D.atKey (.string x) (.lit (.bool false))=.lit (.bool (decide (x∈seen)))
theorem SeenS.new(w:World):SeenS (w.alloc (.map #[] 0)) w.heap.size 0 [] (.map []):=⟨World.ownsMap_made _ _ _ _,Maps.isMap_empty,fun _=>by simp[DataW.atKey]⟩
theorem SeenS.same{W W':World}{mb n:Nat}{seen:List L}{D:DataW Unit}(h:SeenS W mb n seen D)(e:W'.heap[mb]?=W.heap[mb]?):SeenS W' mb n seen D:=⟨map_same h.own e,h.is,h.ok⟩
theorem SeenS.lt{W:World}{mb n:Nat}{seen:List L}{D:DataW Unit}(h:SeenS W mb n seen D):mb<W.heap.size:=h.own.lt
theorem SeenS.next{W W':World}{mb n:Nat}{seen:List L}{D:DataW Unit}{x:L}(h:SeenS W mb n seen D)(ho:W'.ownsMap Tryz.prog 9 (plainElem Tryz.prog 4) mb (n+1) (D.put (.string x) (.lit (.bool true)))):SeenS W' mb (n+1) (x :: seen) (D.put (.string x) (.lit (.bool true))):=by
 refine⟨ho,h.is.put _ _,fun y=>?_⟩
 by_cases hm:y=x
 ·subst hm;rw[Maps.atKey_put_same h.is (by simp[WideAt.IsKeyLit])];simp
 rw[Maps.atKey_put_other (by intro e;injection e with e;exact hm e),h.ok y];simp[hm]
theorem SeenS.find{W:World}{mb n:Nat}{seen:List L}{D:DataW Unit}(h:SeenS W mb n seen D){x:L}(hx:x.length≤1000000000) :
  (Instr.lookup 49 (.map (some mb)) (.string (bstr x)) false).run Tryz.prog W=.ok (.bool (decide (x∈seen))) W:=by
 obtain⟨v,ps,hrun,hv⟩:=h.own.lookup law_str Tryz.underlying49 (zero_boolE W) (plainElem_bool Tryz.underlying4 false) (keyOf_st hx);obtain⟨c,rfl,hc⟩:=plain_bool_invE Tryz.underlying4 hv;simp only[Prod.mk.injEq] at hc;have hr:=hc.1;rw[h.ok x] at hr;simp only[DataW.lit.injEq,Lit.bool.injEq] at hr;subst hr;exact hrun
theorem fresh_any(mb n:Nat)(seen:List L)(D:DataW Unit)(u:L)(w:World)(h:SeenS w mb n seen D)(hu:u.length≤1000000000)(hn:n<maxLen) :
  Calls Tryz.prog 19 #[.map (some mb),.string (bstr u)] w fun e w'=>e=.returned (.bool (!decide (u∈seen)))∧w.grownBy w' (some mb)∧∃D',SeenS w' mb (n+1) (u :: seen) D':=by
 have hf:=h.find hu;have H:=hide h;have hk:=keyOf_st hu;have Hk:=hide hk;obtain⟨q,hq⟩:∃q,decide (u∈seen)=q:=⟨_,rfl⟩;rw[hq] at hf ⊢;clear h hq hk
 go_enter Tryz.func19,Tryz.ntmps19
 go_wp2_with (at_mapUpdate;refine wpList_mapUpdate_own _ rfl _ _ _ 49 rfl 9 4 law_str Tryz.underlying49 _ mb n D rfl H.out.own hn _ _ _ (by rfl) (by rfl) Hk.out _ [] (plainElem_bool Tryz.underlying4 true) ?_;intro w8 hown8 hgrow8;have HS8:=hide (H.out.next hown8);have HG8:=hide hgrow8;clear hown8 hgrow8)
 go_ret;exact⟨rfl,HG8.out,_,HS8.out⟩
theorem oname_ret{N:Nat}{v0 v1:Value}{a:Act}{W:World}{Q:Ending→World→Prop}(ha:a.tmps.getD 2 undef=.pointer (some ⟨N,0,none⟩))(hK:Blk W N 57 #[v0,v1])(hd:a.defers=[])(hQ:Q (.returned (.agg #[v0,v1])) W):bodyPost Tryz.prog Tryz.f23 Q .ret a W :=
 bodyPost_ret (results_cell_row (fn:=Tryz.f23) rfl a.tmps W N 57 #[v0,v1] (0,0) _ ha hK Tryz.underlying57 rfl (by kernel_rfl)) hd hQ
theorem oname_any(l:L)(w:World):Calls Tryz.prog 23 #[.string (bstr l)] w fun e w'=>e=.returned (.agg #[.string (bstr []),.string (bstr l)])∧Below w.heap.size w w':=by
 have HO:=hide ((below_alloc w (.cells #[.string (bstr []),.string (bstr l)] 57)))
 go_enter Tryz.func23,Tryz.ntmps23
 go_wp2;refine oname_ret rfl (Blk.new w 57 #[.string (bstr []),.string (bstr l)]) rfl ?_;exact⟨rfl,HO.out⟩
end
section
namespace Nf
def cls(r:Int):Int :=
 if r<0x300∨r>0x345 then 0
 else if r≤0x314∨r=0x340∨r=0x341 then 230
 else if r=0x315 then 232
 else if r≤0x319∨(r≥0x323∧r≤0x326) then 220
 else if r=0x31B then 216
 else if r=0x327∨r=0x328 then 202
 else if r=0x338 then 1
 else if r=0x345 then 240
 else 0
theorem cls_le(r:Int):0≤cls r∧cls r≤240:=by
 unfold cls
 repeat' split
 all_goals omega
def rowOf(mark:Int):List Int→List Int→List ((Int×Int)×Int)
 | a :: l,w :: ws=>((a,mark),w) :: rowOf mark l ws
 | _,_=>[]
def l300:List Int:=[65,69,73,79,85,97,101,105,111,117]
def l301:List Int:=[65,69,73,79,85,89,97,101,105,111,117,121,0xEA,0xFC]
def l302:List Int:=[65,69,73,79,85,97,101,105,111,117,0x1EB9]
def l303:List Int:=[65,78,79,97,110,111]
def l304:List Int:=[0xFC]
def l306:List Int:=[0x418,0x438]
def l308:List Int:=[65,69,73,79,85,97,101,105,111,117,121,0x415,0x435]
def l30A:List Int:=[65,97]
def l30C:List Int:=[67,83,90,99,115,122]
def l323:List Int:=[101]
def l327:List Int:=[67,99]
def w300:List Int:=[0xC0,0xC8,0xCC,0xD2,0xD9,0xE0,0xE8,0xEC,0xF2,0xF9]
def w301:List Int:=[0xC1,0xC9,0xCD,0xD3,0xDA,0xDD,0xE1,0xE9,0xED,0xF3,0xFA,0xFD,0x1EBF,0x1D8]
def w302:List Int:=[0xC2,0xCA,0xCE,0xD4,0xDB,0xE2,0xEA,0xEE,0xF4,0xFB,0x1EC7]
def w303:List Int:=[0xC3,0xD1,0xD5,0xE3,0xF1,0xF5]
def w304:List Int:=[0x1D6]
def w306:List Int:=[0x419,0x439]
def w308:List Int:=[0xC4,0xCB,0xCF,0xD6,0xDC,0xE4,0xEB,0xEF,0xF6,0xFC,0xFF,0x401,0x451]
def w30A:List Int:=[0xC5,0xE5]
def w30C:List Int:=[0x10C,0x160,0x17D,0x10D,0x161,0x17E]
def w323:List Int:=[0x1EB9]
def w327:List Int:=[0xC7,0xE7]
def table:List ((Int×Int)×Int) :=
 rowOf 0x300 l300 w300++rowOf 0x301 l301 w301++rowOf 0x302 l302 w302++rowOf 0x303 l303 w303++rowOf 0x304 l304 w304++rowOf 0x306 l306 w306++rowOf 0x308 l308 w308++rowOf 0x30A l30A w30A++rowOf 0x30C l30C w30C++rowOf 0x323 l323 w323++rowOf 0x327 l327 w327
def doubles:List (Int×Int):=[(0x340,0x300),(0x341,0x301),(0x2126,0x3A9),(0x212A,75),(0x212B,0xC5)]
def lookW(p:Int×Int):List ((Int×Int)×Int)→Option Int
 | []=>none
 | x :: l=>if x.1=p then some x.2 else lookW p l
def lookM(w:Int):List ((Int×Int)×Int)→Option (Int×Int)
 | []=>none
 | x :: l=>if x.2=w then some x.1 else lookM w l
def lookD(r:Int):List (Int×Int)→Option Int
 | []=>none
 | x :: l=>if x.1=r then some x.2 else lookD r l
theorem table_keys:(table.map (·.1)).Nodup:=by decide +kernel
theorem table_vals:(table.map (·.2)).Nodup:=by decide +kernel
def hangul(r:Int):Bool:=decide (0xAC00≤r∧r<0xAC00+11172)
def made(r:Int):Option (Int×Int) :=
 if hangul r then
  if 0<(r-0xAC00) % 28 then some (r-(r-0xAC00) % 28,0x11A7+(r-0xAC00) % 28)
  else some (0x1100+(r-0xAC00) / 28 / 21,0x1161+(r-0xAC00) / 28 % 21)
 else match lookM r table with
  | some p=>some p
  | none=>(lookD r doubles).map fun a=>(a,0)
def apart:Nat→Int→Option (List Int)
 | 0,_=>none
 | n+1,r=>match made r with
  | none=>some [r]
  | some (a,b)=>match apart n a with
   | none=>none
   | some l=>if b=0 then some l else (apart n b).map fun m=>l++m
theorem look_low:∀x∈table,x.2<0x1100∨(0x1E00≤x.2∧x.2<0x2000):=by decide +kernel
theorem lookM_none{r:Int}:∀{l:List ((Int×Int)×Int)},(∀x∈l,x.2≠r)→lookM r l=none
 | [],_=>rfl
 | x :: l,h=>by rw[lookM,if_neg (h x (List.mem_cons_self ..))];exact lookM_none fun y hy=>h y (List.mem_cons_of_mem _ hy)
theorem lookM_mem{r:Int}{p:Int×Int}:∀{l:List ((Int×Int)×Int)},lookM r l=some p→(p,r)∈l
 | [],h=>by cases h
 | x :: l,h=>by
  rw[lookM] at h
  split at h
  ·rename_i hx;cases h;subst hx;exact List.mem_cons_self ..
  exact List.mem_cons_of_mem _ (lookM_mem h)
theorem lookD_mem{r a:Int}:∀{l:List (Int×Int)},lookD r l=some a→(r,a)∈l
 | [],h=>by cases h
 | x :: l,h=>by
  rw[lookD] at h
  split at h
  ·rename_i hx;cases h;subst hx;exact List.mem_cons_self ..
  exact List.mem_cons_of_mem _ (lookD_mem h)
theorem lookD_none{r:Int}:∀{l:List (Int×Int)},(∀x∈l,x.1≠r)→lookD r l=none
 | [],_=>rfl
 | x :: l,h=>by rw[lookD,if_neg (h x (List.mem_cons_self ..))];exact lookD_none fun y hy=>h y (List.mem_cons_of_mem _ hy)
theorem made_jamo{r:Int}(h0:0x1100≤r)(h1:r<0x1E00):made r=none:=by
 unfold made;have h:hangul r=false:=decide_eq_false (by omega)
 rw[h,lookM_none (fun x hx=>by have:=look_low x hx;omega),lookD_none (fun x hx=>by
  simp only[doubles,List.mem_cons,List.not_mem_nil,or_false] at hx
  rcases hx with rfl|rfl|rfl|rfl|rfl<;>simp<;>omega)]
 rfl
theorem apart_jamo{n:Nat}{r:Int}(h0:0x1100≤r)(h1:r<0x1E00):apart (n+1) r=some [r]:=by rw[apart,made_jamo h0 h1]
theorem apart_two{n:Nat}{r:Int}(h:hangul r=true)(hm:(r-0xAC00) % 28=0):∃l,apart (n+2) r=some l:=by
 have hr:=of_decide_eq_true h
 have e:made r=some (0x1100+(r-0xAC00) / 28 / 21,0x1161+(r-0xAC00) / 28 % 21):=by
  unfold made;rw[if_pos h,if_neg (by omega)]
 rw[apart,e];dsimp only;rw[apart_jamo (by omega) (by omega),apart_jamo (by omega) (by omega)];dsimp only;rw[if_neg (by omega)];exact⟨_,rfl⟩
theorem apart_three{n:Nat}{r:Int}(h:hangul r=true):∃l,apart (n+3) r=some l:=by
 have hr:=of_decide_eq_true h
 by_cases hm:0<(r-0xAC00) % 28
 ·have e:made r=some (r-(r-0xAC00) % 28,0x11A7+(r-0xAC00) % 28):=by
   unfold made;rw[if_pos h,if_pos hm]
  have h2:hangul (r-(r-0xAC00) % 28)=true:=decide_eq_true (by omega);obtain⟨l,hl⟩:=apart_two (n:=n) h2 (by omega);rw[apart,e];dsimp only;rw[hl,apart_jamo (by omega) (by omega)];dsimp only;rw[if_neg (by omega)];exact⟨_,rfl⟩
 exact apart_two (n:=n+1) h (by omega)
theorem apart_table:∀x∈table,(apart 3 x.1.1).isSome=true∧(apart 3 x.1.2).isSome=true:=by decide +kernel
theorem apart_doubles:∀x∈doubles,(apart 3 x.2).isSome=true:=by decide +kernel
theorem apart_some(r:Int):∃l,apart 4 r=some l:=by
 by_cases h:hangul r=true
 ·exact apart_three (n:=1) h
 have hf:hangul r=false:=by simpa using h
 cases hm:lookM r table with
 | some p=>
  have e:made r=some p:=by unfold made;rw[hf,hm];rfl
  obtain⟨h1,h2⟩:=apart_table _ (lookM_mem hm);obtain⟨l,hl⟩:=Option.isSome_iff_exists.1 h1;obtain⟨m,hm2⟩:=Option.isSome_iff_exists.1 h2;dsimp only at hl hm2;rw[apart,e];dsimp only;rw[hl];dsimp only;split
  ·exact⟨_,rfl⟩
  rw[hm2];exact⟨_,rfl⟩
 | none=>
  cases hd:lookD r doubles with
  | none=>
   have e:made r=none:=by unfold made;rw[hf,hm,hd];rfl
   exact⟨_,by rw[apart,e]⟩
  | some a=>
   have e:made r=some (a,0):=by unfold made;rw[hf,hm,hd];rfl
   obtain⟨l,hl⟩:=Option.isSome_iff_exists.1 (apart_doubles _ (lookD_mem hd));dsimp only at hl;exact⟨l,by rw[apart,e];dsimp only;rw[hl];rfl⟩
def parts(r:Int):List Int:=(apart 4 r).getD []
theorem parts_is(r:Int):apart 4 r=some (parts r):=by
 obtain⟨l,hl⟩:=apart_some r;unfold parts;rw[hl];rfl
def whole(a b:Int):Option Int :=
 if (0x1100≤a∧a<0x1100+19)∧(0x1161≤b∧b<0x1161+21) then some (0xAC00+((a-0x1100)*21+b-0x1161)*28)
 else if hangul a=true∧(a-0xAC00) % 28=0∧(0x11A8≤b∧b<0x11A8+27) then some (a+b-0x11A7)
 else lookW (a,b) table
def marks(l:List Int):List Int:=l.takeWhile fun r=>decide (0<cls r)
def runs:Nat→List Int→List (List Int)
 | 0,_=>[]
 | _+1,[]=>[]
 | n+1,r :: l=>(r :: marks l) :: runs n (l.drop (marks l).length)
def ins(x:Int):List Int→List Int
 | []=>[x]
 | y :: l=>if cls x<cls y then x :: y :: l else y :: ins x l
def sortR(l:List Int):List Int:=l.foldl (fun acc x=>ins x acc) []
def sort(l:List Int):List Int:=(runs (l.length+1) l).flatMap sortR
structure Cs where
 out:List Int
 st:Int
 hi:Int
def cstep(s:Cs)(r:Int):Cs :=
 match (if 0≤s.st∧s.hi<cls r then whole (s.out.getD s.st.toNat 0) r else none) with
 | some w=>⟨s.out.set s.st.toNat w,s.st,s.hi⟩
 | none=>if cls r=0 then ⟨s.out++[r],s.out.length,-1⟩ else ⟨s.out++[r],s.st,max s.hi (cls r)⟩
def compose(l:List Int):List Int:=(l.foldl cstep ⟨[],-1,-1⟩).out
end Nf
end
section
open Go.RowKit

theorem class_any(r:Int)(w:World):Calls Tryz.prog 150 #[.int .i64 r] w fun e w'=>e=.returned (.int .i64 (Nf.cls r))∧w'=w:=by
 obtain⟨c,hc⟩:∃c,Nf.cls r=c:=⟨_,rfl⟩;rw[hc];unfold Nf.cls at hc
 by_cases h1:r<0x300∨r>0x345
 ·rw[if_pos h1] at hc;subst hc
  rcases h1 with h1|h1
  ·skip
   have g0:r<768:=by omega
   clear h1
   go_enter Tryz.func150,Tryz.ntmps150
   go_wp2;go_ret;exact⟨rfl,rfl⟩
  skip
  have g0:¬r<768:=by omega
  have g1:837<r:=by omega
  clear h1
  go_enter Tryz.func150,Tryz.ntmps150
  go_wp2;go_ret;exact⟨rfl,rfl⟩
 rw[if_neg h1] at hc
 by_cases h2:r≤0x314∨r=0x340∨r=0x341
 ·rw[if_pos h2] at hc;subst hc
  rcases h2 with h2|h2|h2
  ·skip
   have g0:¬r<768:=by omega
   have g1:¬837<r:=by omega
   have g2:r≤788:=by omega
   clear h1 h2
   go_enter Tryz.func150,Tryz.ntmps150
   go_wp2;go_ret;exact⟨rfl,rfl⟩
  ·subst h2;clear h1
   go_enter Tryz.func150,Tryz.ntmps150
   go_wp2;go_ret;exact⟨rfl,rfl⟩
  subst h2;clear h1
  go_enter Tryz.func150,Tryz.ntmps150
  go_wp2;go_ret;exact⟨rfl,rfl⟩
 rw[if_neg h2] at hc
 by_cases h3:r=0x315
 ·rw[if_pos h3] at hc;subst hc;subst h3;clear h1 h2
  go_enter Tryz.func150,Tryz.ntmps150
  go_wp2;go_ret;exact⟨rfl,rfl⟩
 rw[if_neg h3] at hc
 by_cases h4:r≤0x319∨(r≥0x323∧r≤0x326)
 ·rw[if_pos h4] at hc;subst hc
  rcases h4 with h4|h4
  ·skip
   have g0:¬r<768:=by omega
   have g1:¬837<r:=by omega
   have g2:¬r≤788:=by omega
   have g3:¬r=832:=by omega
   have g4:¬r=833:=by omega
   have g5:¬r=789:=by omega
   have g6:r≤793:=by omega
   clear h1 h2 h3 h4
   go_enter Tryz.func150,Tryz.ntmps150
   go_wp2;go_ret;exact⟨rfl,rfl⟩
  skip
  have g0:¬r<768:=by omega
  have g1:¬837<r:=by omega
  have g2:¬r≤788:=by omega
  have g3:¬r=832:=by omega
  have g4:¬r=833:=by omega
  have g5:¬r=789:=by omega
  have g6:¬r≤793:=by omega
  have g7:803≤r:=by omega
  have g8:r≤806:=by omega
  clear h1 h2 h3 h4
  go_enter Tryz.func150,Tryz.ntmps150
  go_wp2;go_ret;exact⟨rfl,rfl⟩
 rw[if_neg h4] at hc
 by_cases h5:r=0x31B
 ·rw[if_pos h5] at hc;subst hc;subst h5;clear h1 h2 h3 h4
  go_enter Tryz.func150,Tryz.ntmps150
  go_wp2;go_ret;exact⟨rfl,rfl⟩
 rw[if_neg h5] at hc
 by_cases h6:r=0x327∨r=0x328
 ·rw[if_pos h6] at hc;subst hc
  rcases h6 with h6|h6
  ·subst h6;clear h1 h2 h3 h4 h5
   go_enter Tryz.func150,Tryz.ntmps150
   go_wp2;go_ret;exact⟨rfl,rfl⟩
  subst h6;clear h1 h2 h3 h4 h5
  go_enter Tryz.func150,Tryz.ntmps150
  go_wp2;go_ret;exact⟨rfl,rfl⟩
 rw[if_neg h6] at hc
 by_cases h7:r=0x338
 ·rw[if_pos h7] at hc;subst hc;subst h7;clear h1 h2 h3 h4 h5 h6
  go_enter Tryz.func150,Tryz.ntmps150
  go_wp2;go_ret;exact⟨rfl,rfl⟩
 rw[if_neg h7] at hc
 by_cases h8:r=0x345
 ·rw[if_pos h8] at hc;subst hc;subst h8;clear h1 h2 h3 h4 h5 h6 h7
  go_enter Tryz.func150,Tryz.ntmps150
  go_wp2;go_ret;exact⟨rfl,rfl⟩
 rw[if_neg h8] at hc;subst hc;have g0:¬r<768:=by omega
 have g1:¬837<r:=by omega
 have g2:¬r≤788:=by omega
 have g3:¬r=832:=by omega
 have g4:¬r=833:=by omega
 have g5:¬r=789:=by omega
 have g6:¬r≤793:=by omega
 have g7:¬r=795:=by omega
 have g8:¬r=807:=by omega
 have g9:¬r=808:=by omega
 have g10:¬r=824:=by omega
 have g11:¬r=837:=by omega
 by_cases hx:803≤r
 ·have g20:¬r≤806:=by omega
  clear h1 h2 h3 h4 h5 h6 h7 h8
  go_enter Tryz.func150,Tryz.ntmps150
  go_wp2;go_ret;exact⟨rfl,rfl⟩
 clear h1 h2 h3 h4 h5 h6 h7 h8
 go_enter Tryz.func150,Tryz.ntmps150
 go_wp2;go_ret;exact⟨rfl,rfl⟩
theorem in_any(r a n:Int)(w:World)(h:IntKind.i64.wrap (a+n)=a+n):Calls Tryz.prog 179 #[.int .i64 r,.int .i64 a,.int .i64 n] w fun e w'=>e=.returned (.bool (decide (a≤r∧r<a+n)))∧w'=w:=by
 by_cases h1:a≤r
 ·rw[show decide (a≤r∧r<a+n)=decide (r<a+n) by simp[h1]]
  go_enter Tryz.func179,Tryz.ntmps179
  go_wp2;go_ret;exact⟨rfl,rfl⟩
 rw[show decide (a≤r∧r<a+n)=false by simp[h1]]
 go_enter Tryz.func179,Tryz.ntmps179
 go_wp2;go_ret;exact⟨rfl,rfl⟩
theorem hangul_any(r:Int)(w:World):Calls Tryz.prog 180 #[.int .i64 r] w fun e w'=>e=.returned (.bool (Nf.hangul r))∧w'=w:=by
 unfold Nf.hangul
 by_cases h1:44032≤r
 ·rw[show decide (0xAC00≤r∧r<0xAC00+11172)=decide (r<55204) by simp[h1]]
  go_enter Tryz.func180,Tryz.ntmps180
  go_wp2;go_ret;exact⟨rfl,rfl⟩
 rw[show decide (0xAC00≤r∧r<0xAC00+11172)=false by simp[h1]]
 go_enter Tryz.func180,Tryz.ntmps180
 go_wp2;go_ret;exact⟨rfl,rfl⟩
theorem byClass_any(a b:Int)(w:World):Calls Tryz.prog 155 #[.int .i64 a,.int .i64 b] w fun e w'=>e=.returned (.int .i64 (Nf.cls a-Nf.cls b))∧w'=w:=by
 have HA:=hide (fun W=>class_any a W);have HB:=hide (fun W=>class_any b W);have hw:IntKind.i64.wrap (Nf.cls a-Nf.cls b)=Nf.cls a-Nf.cls b:=IntWalk.i64_in _ (by have:=Nf.cls_le a;have:=Nf.cls_le b;omega);generalize Nf.cls a=ca at *
 generalize Nf.cls b=cb at *
 go_enter Tryz.func155,Tryz.ntmps155
 go_wp2_with fail
 refine cq (HA.out _) ?_
 go_wp2_with fail
 refine cq (HB.out _) ?_
 go_wp2;go_ret;exact⟨rfl,rfl⟩
end
end Go.Proofs.YtifiiojchlaghaaGreatDoor
