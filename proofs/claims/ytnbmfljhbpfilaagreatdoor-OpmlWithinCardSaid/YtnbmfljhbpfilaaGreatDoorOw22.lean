/- events.First: the first child of a name. And more. -/
import Derived.Test.YtnbmfljhbpfilaaGreatDoorOw00
import Derived.Test.YtnbmfljhbpfilaaGreatDoorOw01
import Derived.Test.YtnbmfljhbpfilaaGreatDoorOw16
import Derived.Test.YtnbmfljhbpfilaaGreatDoorOw20
import Derived.Test.YtnbmfljhbpfilaaGreatDoorOw21
import Derived.Shelf.RegionOpen
set_option linter.unusedSimpArgs false
set_option maxRecDepth 100000
set_option maxHeartbeats 8000000
set_option linter.unusedVariables false
namespace Go.Proofs.YtnbmfljhbpfilaaGreatDoor
section
open Go.RowKit Go.Shelf Tk Sx Go.WideShapes

attribute [local go_sem] Oper.semAt_some

namespace Evs
def pk(l:List Ev)(n:Nm)(ks:List Nat):Option Nat:=ks.find? fun k=>decide (iK l k=n)
end Evs
def Sw(o:Option Nat):Value:=match o with
 | some k=>.tuple #[.int .i64 (k:Int),.bool true]
 | none=>.tuple #[.int .i64 0,.bool false]
theorem agE{w:World}{L:List Nat}(hL:∀k∈L,k<w.heap.size)(W:World)(l:Nat)(o o':Obj)(hl:w.heap.size≤l)(_:W.heap[l]?=some o)(_:o.isCells=false)(_:o.isWalk=false):mL L W (W.putObj l o') :=
 fun k hk=>World.putObj_heap_other (by have:=hL k hk;omega)
theorem mN{X:World}{B:Nat}{t:TypeId}{cs:Array Value}{row:Option Nat}{n:Nat}(ai:∀r,row=some r→n≤r∧∃o:Obj,X.heap[r]?=some o∧o.isCells=false)(h:ae X B t cs):some B≠row:=fun e=>by
 obtain⟨_,o,ho,hc⟩:=ai _ e.symm;rw[show X.heap[_]?=_ from h] at ho;cases ho;cases hc
structure wD(w:World)(v:Value)(n:Nm)(W:World):Prop where
 l:ae W w.heap.size 38 #[v]
 n:ae W (w.heap.size+1) 45 #[.string (aa n.ns),.string (aa n.loc)]
 b:Below w.heap.size w W
theorem wD.kept{w X Y:World}{v:Value}{n:Nm}{row:Option Nat}{z:Nat}(h:wD w v n X)(hz:w.heap.size≤z)(hg:X.grownBy Y row)(ai:∀r,row=some r→z≤r∧∃o:Obj,X.heap[r]?=some o∧o.isCells=false):wD w v n Y :=
 ⟨h.l.grown hg (mN ai h.l),h.n.grown hg (mN ai h.n),h.b.grown hg h.b.size (fun k e=>by have:=(ai k e).1;omega)⟩
def CC(w:World)(v:Value)(n:Nm)(l:List Ev){N:Nat}(pre:List (Kd N))(W:World):Prop :=
 (∀p∈pre,Evs.iK l p.1≠n)∧(∃u,ae W (w.heap.size+1+1) 3 #[u])∧(∃u,ae W (w.heap.size+1+1+1) 4 #[u])∧wD w v n W
def Gv(w:World)(v:Value)(n:Nm)(l:List Ev){N:Nat}(c:Code)(pre:List (Kd N))(W:World):Prop :=
 c=.ret∧∃il x,pre=il++[x]∧(∀p∈il,Evs.iK l p.1≠n)∧Evs.iK l x.1=n∧ae W (w.heap.size+1+1) 3 #[.int .i64 (x.1:Int)]∧ae W (w.heap.size+1+1+1) 4 #[.bool true]∧wD w v n W
theorem Zm(w:World)(v:Value)(n:Nm)(l:List Ev){N z:Nat}(hz:w.heap.size≤z):OwnFrom z (CC w v n l (N:=N)):=by
 rintro s X Y row ⟨h1,⟨u,hu⟩,⟨u2,bh⟩,h3⟩ hg ai;exact⟨h1,⟨u,hu.grown hg (mN ai hu)⟩,⟨u2,bh.grown hg (mN ai bh)⟩,h3.kept hz hg ai⟩
theorem Zn(w:World)(v:Value)(n:Nm)(l:List Ev){N z:Nat}(hz:w.heap.size≤z)(c:Code):OwnFrom z (Gv w v n l (N:=N) c):=by
 rintro s X Y row ⟨h1,p,x,h2,h4,h5,hu,bh,h3⟩ hg ai;exact⟨h1,p,x,h2,h4,h5,hu.grown hg (mN ai hu),bh.grown hg (mN ai bh),h3.kept hz hg ai⟩
theorem Zh(xs:List Ew)(A:Option Addr)(c B i:Nat)(x:Ew)(n:Nm)(w:World)(h:nA w B A c xs)(hx:xs[i]?=some x)(hk:x.e.kind=0) :
  Calls Tryz.prog 16 #[.slice A xs.length c,.int .i64 (i:Int),.agg #[.string (aa n.ns),.string (aa n.loc)]] w fun e w'=>e=.returned (Sw (Evs.pk (xs.map (·.e)) n (Evs.ou (xs.map (·.e)) i)))∧Below w.heap.size w w':=by
 refine (callsIn_wide (n:=5)).1 ?_;refine callsIn_of_wp_marks Tryz.func16 rfl trivial ?_ rfl;simp only[Tryz.ntmps16,List.size_toArray,List.length_cons,List.length_nil,Nat.reduceAdd,Nat.reduceSub,Array.replicate_succ,Array.replicate_zero,List.push_toArray,List.append_toArray,List.nil_append,List.cons_append];have xC:=fun W (hb:Below w.heap.size w W)=>Ji xs A c B i x W (h.go hb) hx hk;have e8:=hide xC;clear xC;have hl:=h.l;have sW:=(List.getElem?_eq_some_iff.1 hx).1;have bz:=h.s.len;have gU:=h.hB;have HL:=hide hl;have CG:=hide (Evs.NQ (xs.map (·.e)) (xs.map (·.e)).length);rw[List.length_map] at CG;have mH:=hide (show Evs.ou (xs.map (·.e)) i=Evs.gK (Evs.fq (xs.map (·.e))) ((Evs.bj i (Evs.fq (xs.map (·.e)))).getD 0) xs.length (i+1) by unfold Evs.ou Evs.o8;rw[List.length_map]);have GJ:=hide (show Evs.fq (xs.map (·.e))=(Evs.upto (xs.map (·.e)) xs.length).2 by unfold Evs.fq;rw[List.length_map]);have fI:=hide (fun k (hk:k<xs.length)=>(show ∃y,xs[k]?=some y from⟨_,List.getElem?_eq_getElem hk⟩));obtain⟨N,hN⟩:∃N,xs.length=N:=⟨_,rfl⟩;rw[hN] at e8 sW bz CG mH GJ fI ⊢;clear hl h hx hk hN
 have cG:=hide (((((az w (.cells #[.slice A N c] 38)).alloc (by simp) (.cells #[.string (aa n.ns),.string (aa n.loc)] 45)).alloc (by simp;omega) (.cells #[.int .i64 0] 3)).alloc (by simp;omega) (.cells #[.bool false] 4)));have f0:=(((ae.new w 38 #[.slice A N c]).alloc (.cells #[.string (aa n.ns),.string (aa n.loc)] 45)).alloc (.cells #[.int .i64 0] 3)).alloc (.cells #[.bool false] 4);have f1:=((ae.new (w.alloc (.cells #[.slice A N c] 38)) 45 #[.string (aa n.ns),.string (aa n.loc)]).alloc (.cells #[.int .i64 0] 3)).alloc (.cells #[.bool false] 4);have f2:=(ae.new ((w.alloc (.cells #[.slice A N c] 38)).alloc (.cells #[.string (aa n.ns),.string (aa n.loc)] 45)) 3 #[.int .i64 0]).alloc (.cells #[.bool false] 4);have f3:=ae.new (((w.alloc (.cells #[.slice A N c] 38)).alloc (.cells #[.string (aa n.ns),.string (aa n.loc)] 45)).alloc (.cells #[.int .i64 0] 3)) 4 #[.bool false];have pG:((((w.alloc (.cells #[.slice A N c] 38)).alloc (.cells #[.string (aa n.ns),.string (aa n.loc)] 45)).alloc (.cells #[.int .i64 0] 3)).alloc (.cells #[.bool false] 4)).heap.size=w.heap.size+4:=by simp
 rw[World.size_alloc] at f1;rw[World.size_alloc,World.size_alloc] at f2;rw[World.size_alloc,World.size_alloc,World.size_alloc] at f3;obtain⟨W4,Ks⟩:∃W,(((w.alloc (.cells #[.slice A N c] 38)).alloc (.cells #[.string (aa n.ns),.string (aa n.loc)] 45)).alloc (.cells #[.int .i64 0] 3)).alloc (.cells #[.bool false] 4)=W:=⟨_,rfl⟩;have PR:=hide Ks;have OI:=hide (e8.out _ cG.out);rw[Ks] at cG f0 f1 f2 f3 pG;have F0:=hide f0;have F1:=hide f1;have F2:=hide f2;have F3:=hide f3;clear Ks f0 f1 f2 f3
 gi_wp2_with (refine⟨trivial,?_⟩;gi_at_call 37;refine (callsIn_wide.2 OI.out).mono ?_;rintro e w2 ⟨af,T,mb,rfl,hT⟩)
 rw[PR.out] at af hT;obtain⟨hT1,afx,⟨d,qY⟩,nn,D,hm,aoO⟩:=hT;have ah:=hide (cG.out.trans (af.mono cG.out.size));have G0:=hide (F0.out.go af);have G1:=hide (F1.out.go af);have G2:=hide (F2.out.go af);have G3:=hide (F3.out.go af);have hz2:w.heap.size+4≤w2.heap.size:=by have:=af.size;omega
 rw[pG] at hT1 afx;clear af F0 F1 F2 F3 OI PR cG e8 pG
 gi_wp2_with (refine⟨trivial,?_⟩;gi_at_call 38;refine (callsIn_wide.2 (agM T i _)).mono ?_;rintro e w3 ⟨rfl,hw3⟩)
 obtain⟨R,hR⟩:∃R,w2.heap.size=R:=⟨_,rfl⟩;have sN:Below w2.heap.size w2 w3:=by rw[hw3];exact (az w2 _).trans ((az _ _).mono (by simp))
 have uW:w3.cell? ⟨R,0,none⟩=some (.pointer (some ⟨T,0,none⟩)):=by
  have:=((ae.new w2 88 #[.pointer (some ⟨T,0,none⟩)]).alloc (.cells #[.int .i64 (i:Int)] 3)).cell 0;rw[←hw3,hR] at this;exact this
 have pq:w3.cell? ⟨R+1,0,none⟩=some (.int .i64 (i:Int)):=by
  have:=(ae.new (w2.alloc (.cells #[.pointer (some ⟨T,0,none⟩)] 88)) 3 #[.int .i64 (i:Int)]).cell 0;rw[World.size_alloc,←hw3,hR] at this;exact this
 have hz3:w3.heap.size=R+2:=by rw[hw3,←hR];simp
 have aw:=hide (ah.out.trans (sN.mono ah.out.size));have SZ:wD w (.slice A N c) n w3:=⟨G0.out.go sN,G1.out.go sN,aw.out⟩;have Ag:CC w (.slice A N c) n (xs.map (·.e)) (N:=N) [] w3:=⟨(fun p hp=>by cases hp),⟨_,G2.out.go sN⟩,⟨_,G3.out.go sN⟩,SZ⟩;have cB:=qY.go sN;have AZ:=hm.same (sN.block _ hm.lt);rw[←hw3];have aeP:=qY.lt;have afA:=hm.lt;rw[hR];have gN:=hide Ag;have hfw:Evs.CD (Evs.fq (xs.map (·.e))):=by rw[GJ.out];exact CG.out.1
 have pA:∀p k,Evs.bj p (Evs.fq (xs.map (·.e)))=some k→k<N:=by rw[GJ.out];exact CG.out.2
 have kg:(Evs.bj i (Evs.fq (xs.map (·.e)))).getD 0≤N:=by
  cases he:Evs.bj i (Evs.fq (xs.map (·.e))) with
  | none=>exact Nat.zero_le _
  | some k=>have:=pA i k he;show k≤N;omega
 have hst:=agN (5-1) (by omega) (R+1) R T mb i nn A N c d (Evs.fq (xs.map (·.e))) D sW bz hfw pA kg w3 pq uW cB AZ;have aW:=hide hst;have Fg:w.heap.size≤w3.heap.size:=aw.out.size;rw[hR] at aeP afA hz2;clear hw3 sN SZ Ag cB AZ hfw pA kg hst qY hm pq uW hR G0 G1 G2 G3 ah
 refine wpIn_rangeFunc_ownG rfl (by omega) (gf:=67) (lb:=#[.pointer (some ⟨R+1,0,none⟩),.pointer (some ⟨R,0,none⟩)]) rfl trivial (enters_of Tryz.func67 (by kernel_rfl) rfl)
  aW.out mL.trans (agE (by simp;omega)) (Below.refl _ _) (fun _=>rfl)
  (CC w (.slice A N c) n (xs.map (·.e))) (Gv w (.slice A N c) n (xs.map (·.e))) (Zm w _ n _ Fg) (fun c'=>Zn w _ n _ Fg c')
  gN.out
  (fun x=>{ tmps:=#[.slice A N c,.int .i64 (i:Int),.agg #[.string (aa n.ns),.string (aa n.loc)],.pointer (some ⟨w.heap.size,0,none⟩),undef,.pointer (some ⟨w.heap.size+1,0,none⟩),.pointer (some ⟨w.heap.size+1+1,0,none⟩),.pointer (some ⟨w.heap.size+1+1+1,0,none⟩),
   .pointer (some ⟨T,0,none⟩),.int .i64 (x.1:Int),.slice A N c,.int .i64 (i:Int),.pointer (some ⟨T,0,none⟩),.pointer (some ⟨T,0,none⟩),.bool false,.pointer (some ⟨T,0,none⟩),.int .i64 (i:Int),
   .func (.func 67) #[] #[.pointer (some ⟨R+1,0,none⟩),.pointer (some ⟨R,0,none⟩)],.int .i64 (x.1:Int),undef,undef,undef,undef,undef,undef,undef,undef],defers:=[] }) ?assign ?body ?done ?stop
 case assign=>
  intro l x W K hK;gi_wp2;exact hK
 case body=>
  rintro l pre x W ⟨hp,⟨u,hu⟩,⟨u2,bh⟩,hC⟩ hlen;have HP:=hide hp;have HC:=hide hC;obtain⟨y,hy⟩:=fI.out x.1 x.2;have jq:=x.2;obtain⟨b,off,eA,jC,q9⟩:=(HL.out.below (hC.b.mono gU)).at_ hy;subst eA;have cR:Evs.iK (xs.map (·.e)) x.1=y.e.name:=by unfold Evs.iK;rw[List.getElem?_map,hy];rfl
  have y1:=q9.c1;have y2:=q9.c2;have c0:=hC.l.cell 0;have n0:=hC.n.cell 0;have n1:=hC.n.cell 1;have hE:=fun W=>DV W y.e.name n;have hxx:(0:Int)≤x.1∧(x.1:Int)<N:=by omega
  have eM:=hide cR;have HU:=hide hu;have HU2:=hide bh;have sZ:Tryz.prog.follows .mixedOrders=true:=by kernel_rfl
  have jc:Below w.heap.size w W.drew:=below_drewN hC.b 1;have Ay:W.drew.heap=W.heap:=rfl
  cases hq:eD y.e.name n with
  | false=>
   simp only[hq] at hE;have hne:Evs.iK (xs.map (·.e)) x.1≠n:=fun e=>by rw[eM.out] at e;rw[(zZ _ _).2 e] at hq;cases hq
   have HF:=hide (show KeepsFrom w3.heap.size W W.drew∧mL [R+1,R,T,mb] W W.drew∧CC w (.slice (some ⟨b,off,none⟩) N c) n (xs.map (·.e)) (pre++[x]) W.drew from⟨(KeepsOthers.drew W).from _,fun _ _=>rfl,fun p hp=>by
    rcases List.mem_append.1 hp with hp|hp
    ·exact HP.out p hp
    rw[show p=x by simpa using hp];exact hne,⟨u,hu⟩,⟨u2,bh⟩,hC.l,hC.n,jc⟩)
   clear hp hC hy q9 cR hu bh hq hne jc Ay;gi_wp2
   gi_region_with_o (fail)
   all_goals (gi_wp2;exact HF.out)
  | true=>
   simp only[hq] at hE;have heq:=hide (show Evs.iK (xs.map (·.e)) x.1=n from by rw[eM.out];exact (zZ _ _).1 hq);have dG:=hu.cell 0;have bf:=bh.cell 0;have ly:=hu.frozen 0;have xM:=bh.frozen 0
   have HF:=hide (show Gv w (.slice (some ⟨b,off,none⟩) N c) n (xs.map (·.e)) .ret (pre++[x]) ((W.drew.setCell ⟨w.heap.size+1+1,0,none⟩ (.int .i64 (x.1:Int))).setCell ⟨w.heap.size+1+1+1,0,none⟩ (.bool true)) from by
    refine⟨rfl,pre,x,rfl,HP.out,heq.out,?_,?_,?_,?_,?_⟩
    ·exact (hu.drew.aI 0 (.int .i64 (x.1:Int))).far (by dsimp only;omega) _
    ·exact ((bh.drew.far (by dsimp only;omega) _).aI 0 _)
    ·exact (hC.l.drew.far (by dsimp only;omega) _).far (by dsimp only;omega) _
    ·exact (hC.n.drew.far (by dsimp only;omega) _).far (by dsimp only;omega) _
    exact (jc.setCell (p:=⟨w.heap.size+1+1,0,none⟩) (by dsimp only;omega) _).setCell (p:=⟨w.heap.size+1+1+1,0,none⟩) (by dsimp only;omega) _)
   have aoY:w.heap.size+1+1<W.heap.size:=hu.lt;have aoZ:w.heap.size+1+1+1<W.heap.size:=bh.lt;clear hp hC hy q9 cR hu bh hq jc Ay;gi_wp2
   gi_region_with_o (fail)
   all_goals (gi_wp2;exact⟨(((KeepsOthers.drew W).trans (KeepsOthers.setCell _ _ _)).trans (KeepsOthers.setCell _ _ _)).from _,HF.out⟩)
 case done=>
  rintro D ys W hD dS ⟨hp,⟨v,hv⟩,⟨u,hu⟩,hC⟩ hK;have hc:=hv.cell 0;have hf:=hv.frozen 0;have hc':=hu.cell 0;have vq:=hu.frozen 0
  have Hn:=hide (show Evs.pk (xs.map (·.e)) n (Evs.ou (xs.map (·.e)) i)=none from by
   rw[mH.out,←dS]
   exact List.find?_eq_none.2 fun k hk=>by
    obtain⟨p,Lp,rfl⟩:=List.mem_map.1 hk;simp[hp p Lp])
  clear dS hp;gi_wp2;have cS:=(hv.aI 0 (.int .i64 0)).far (p:=⟨w.heap.size+1+1+1,0,none⟩) (by dsimp only;omega) (.bool false);have bh:=(hu.far (p:=⟨w.heap.size+1+1,0,none⟩) (by dsimp only;omega) (.int .i64 0)).aI 0 (.bool false);have fV:=((KeepsOthers.setCell W ⟨w.heap.size+1+1,0,none⟩ (.int .i64 0)).trans (KeepsOthers.setCell _ ⟨w.heap.size+1+1+1,0,none⟩ (.bool false))).same D _ hK rfl;refine⟨by simp,.inl ⟨_,_,rfl,run_takeDeferred fV,?_⟩⟩;have bf:=cell_kept (cS.cell 0) (grownBy_putObj' _ D (.deferred none)) (fun r e=>by cases e;exact⟨_,fV,rfl⟩);have AE:=cell_kept (bh.cell 0) (grownBy_putObj' _ D (.deferred none)) (fun r e=>by cases e;exact⟨_,fV,rfl⟩);refine⟨.tuple #[.int .i64 0,.bool false],?_,?_⟩
  ·simp[results,Tryz.results16,go_sem,bf,AE]
  exact⟨by rw[Hn.out];rfl,((hC.b.setCell (p:=⟨w.heap.size+1+1,0,none⟩) (by dsimp only;omega) _).setCell (p:=⟨w.heap.size+1+1+1,0,none⟩) (by dsimp only;omega) _).trans (belowK_b (w:=w) (Nat.le_refl _) _ D _ _ (by omega) fV rfl rfl)⟩
 case stop=>
  rintro D c' pre W hD ⟨rest,hsp⟩ ⟨rfl,il,x,rfl,hp,hx,hv,hu,hC⟩ hK;have hc:=hv.cell 0;have hf:=hv.frozen 0;have hc':=hu.cell 0;have vq:=hu.frozen 0
  have Hn:=hide (show Evs.pk (xs.map (·.e)) n (Evs.ou (xs.map (·.e)) i)=some x.1 from by
   rw[mH.out,←hsp,List.map_append,List.append_assoc];unfold Evs.pk
   rw[List.find?_append,List.find?_eq_none.2 (fun k hk=>by
    obtain⟨p,Lp,rfl⟩:=List.mem_map.1 hk;simp[hp p Lp])]
   simp[hx])
  clear hsp hp hx;gi_wp2;refine⟨by simp,.inl ⟨_,_,rfl,run_takeDeferred hK,?_⟩⟩;have bf:=cell_kept (hv.cell 0) (grownBy_putObj' _ D (.deferred none)) (fun r e=>by cases e;exact⟨_,hK,rfl⟩);have AE:=cell_kept (hu.cell 0) (grownBy_putObj' _ D (.deferred none)) (fun r e=>by cases e;exact⟨_,hK,rfl⟩);refine⟨.tuple #[.int .i64 (x.1:Int),.bool true],?_,?_⟩
  ·simp[results,Tryz.results16,go_sem,bf,AE]
  exact⟨by rw[Hn.out];rfl,hC.b.trans (belowK_b (w:=w) (Nat.le_refl _) _ D _ _ (by omega) hK rfl rfl)⟩
end
section
open Go.RowKit Go.Shelf Tk Sx Go.WideShapes

attribute [local go_sem] Oper.semAt_some

namespace Opm
def hit(l:List Ev)(n:Nm)(k:Nat):Bool:=match l[k]? with
 | some e=>decide (e.kind=0)&&eD e.name n
 | none=>false
def kZ(l:List Ev)(n:Nm)(en:Nat):Nat→Nat→List Nat
 | 0,_=>[]
 | f+1,k=>if k<en then (if hit l n k=true then k :: kZ l n en f (k+1) else kZ l n en f (k+1)) else []
def k8(l:List Ev)(n:Nm)(i:Nat):List Nat:=kZ l n (Evs.o8 l i) l.length i
end Opm
abbrev Ke(N:Nat)(l:List Ev)(n:Nm):={ x:Nat // x<N∧Opm.hit l n x=true }
def iU(B:Nat)(L:List Nat)(W W':World):Prop:=Below B W W'∧mL L W W'
theorem iU.trans{B:Nat}{L:List Nat}{X Y Z:World}(h:iU B L X Y)(k:iU B L Y Z):iU B L X Z:=⟨h.1.trans k.1,h.2.trans k.2⟩
theorem iU.refl(B:Nat)(L:List Nat)(W:World):iU B L W W:=⟨Below.refl _ _,fun _ _=>rfl⟩
def Yd(p a b:Prop):Prop:=(p∧a)∨(¬p∧b)
theorem adq(n:Nat)(hn:1≤n)(l Lb Ab Nb i B:Nat)(A:Option Addr)(c N:Nat)(xs:List Ew)(x:Ew)(nm:Nm)(hN:xs.length=N)
  (J Jx:List (Ke N (xs.map (·.e)) nm)→World→Prop) (W:World) (hJ:AbidesFrom W.heap.size J)
  (hY:∀(pre:List (Ke N (xs.map (·.e)) nm)) (x:Ke N (xs.map (·.e)) nm) (W:World),J pre W→pre.length<N→YieldAt Fence.wide (n-1) Tryz.prog l #[.int .i64 (x.1:Int)] W fun e W'=>
   (e=.returned (.bool true)∧J (pre++[x]) W'∧iU B [Lb,Ab,Nb] W W')∨(e=.returned (.bool false)∧Jx (pre++[x]) W'))
  (hE:nA W B A c xs) (hx:xs[i]?=some x) (hk:x.e.kind=0)
  (xG:ae W Lb 38 #[.slice A N c]) (xB:ae W Ab 3 #[.int .i64 (i:Int)]) (Ak:ae W Nb 45 #[.string (aa nm.ns),.string (aa nm.loc)]) (h0:J [] W) :
  CallsIn Fence.wide n Tryz.prog 39 #[.func (.yield l) #[] #[],.pointer (some ⟨Lb,0,none⟩),.pointer (some ⟨Ab,0,none⟩),.pointer (some ⟨Nb,0,none⟩)] W fun e W'=>(∃v,e=.returned v)∧
   ((∃ys:List (Ke N (xs.map (·.e)) nm),ys.map (·.1)=Opm.k8 (xs.map (·.e)) nm i∧J ys W')∨(∃pre:List (Ke N (xs.map (·.e)) nm),(∃rest,pre.map (·.1)++rest=Opm.k8 (xs.map (·.e)) nm i)∧Jx pre W')):=by
 refine callsIn_of_wp Tryz.func39 rfl trivial ?_ rfl;simp only[Tryz.ntmps39,List.size_toArray,List.length_cons,List.length_nil,Nat.reduceAdd,Nat.reduceSub,Array.replicate_succ,Array.replicate_zero,List.push_toArray,List.append_toArray,List.nil_append,List.cons_append]
 have pA:∀p k,Evs.bj p (Evs.fq (xs.map (·.e)))=some k→k<N:=by
  have:=(Evs.NQ (xs.map (·.e)) (xs.map (·.e)).length).2;rw[List.length_map,hN] at this;unfold Evs.fq;rwa[List.length_map,hN]
 obtain⟨en,hen⟩:∃en,Evs.o8 (xs.map (·.e)) i=en:=⟨_,rfl⟩
 have kg:en≤N:=by
  rw[←hen];unfold Evs.o8
  cases he:Evs.bj i (Evs.fq (xs.map (·.e))) with
  | none=>exact Nat.zero_le _
  | some k=>have:=pA i k he;show k≤N;omega
 obtain⟨all,hall⟩:∃all,Opm.k8 (xs.map (·.e)) nm i=all:=⟨_,rfl⟩;have hst:Opm.kZ (xs.map (·.e)) nm en N i=all:=by rw[←hall,←hen,←hN];unfold Opm.k8;rw[List.length_map]
 have HE:=hide (Zf xs A c B i x W hE hx hk);have AV:i<N:=by have:=(List.getElem?_eq_some_iff.1 hx).1;omega
 rw[hN,hen] at HE;rw[hall];have bz:=hE.s.len;rw[hN] at bz;have lX:=hide hst;have HJ:=hide hJ;have OY:=hide hE;have fI:=hide (fun k (hk:k<N)=>(show ∃y,xs[k]?=some y from⟨_,List.getElem?_eq_getElem (by omega)⟩));have l0:=xG.cell 0;have a0:=xB.cell 0;have lL:=xG.lt;have lA:=xB.lt;have lN:=Ak.lt;have HL:=hide xG;have HA:=hide xB;have HN:=hide Ak;have H0:=hide h0;clear hall hen hst hJ hE hx hk xG xB Ak h0 pA hN
 gi_wp2_with (refine⟨trivial,?_⟩;gi_at_call 40;refine (callsIn_wide.2 HE.out).mono ?_;rintro e w2 ⟨rfl,af⟩;have a2:=(HA.out.go af).cell 0)
 have kK:=hide (HJ.out [] W w2 none H0.out (cK af none) (fun r e=>by cases e));have ZG:=hide (OY.out.go af);have rQ:=hide (HL.out.go af);have ZV:=hide (HN.out.go af);have hsz:=af.size;have Pn:=hide (show AbidesFrom w2.heap.size J from fun s X Y row hs hg hr=>HJ.out s X Y row hs hg (fun r e=>⟨Nat.le_trans hsz (hr r e).1,(hr r e).2⟩));clear H0 HE OY HL HN HA a0 l0 a2 af HJ
 gi_loopw [7] (fun v7 wr=>∃(k f:Nat) (pre:List (Ke N (xs.map (·.e)) nm)),k≤N∧v7=.int .i64 (k:Int)∧pre.length≤k∧N≤k+f∧pre.map (·.1)++Opm.kZ (xs.map (·.e)) nm en f k=all∧J pre wr∧iU B [Lb,Ab,Nb] w2 wr)
  (fun v7 _=>N+1-(intOf v7).toNat)
 case atStart=>exact⟨i,N,[],by omega,by first|rfl|go_num,by simp,by omega,lX.out,kK.out,iU.refl _ _ _⟩
 case round=>
  obtain⟨k,f,pre,hk,rfl,hpl,hkf,jl,ja,jF⟩:=hrel;have cJ:=hide jl;have pP:=hide jF;have lk:=(rQ.out.lt:Lb<w2.heap.size);have c1:=(show ae wr Lb 38 #[.slice A N c] from (jF.2 Lb (by simp)).trans rQ.out).cell 0;have kN:=(show ae wr Nb 45 #[.string (aa nm.ns),.string (aa nm.loc)] from (jF.2 Nb (by simp)).trans ZV.out);have n0:=kN.cell 0;have n1:=kN.cell 1;have za:=hide (Pn.out pre wr wr.drew none ja ⟨rfl,rfl,rfl,Nat.le_refl _,fun _ _ _=>rfl⟩ (fun r e=>by cases e));have mH:=hide (show iU B [Lb,Ab,Nb] w2 wr.drew from⟨below_drewN jF.1 1,jF.2⟩);have Pm:=hide (fun m=>Pn.out pre wr (wr.drewN m) none ja ⟨rfl,rfl,rfl,Nat.le_refl _,fun _ _ _=>rfl⟩ (fun r e=>by cases e));have Pp:=hide (fun m=>(show iU B [Lb,Ab,Nb] w2 (wr.drewN m) from⟨below_drewN jF.1 m,jF.2⟩));have sP:=hide (ZG.out.l.below jF.1);have pO:=hide ja;clear jl jF ja kN
  by_cases hlt:k<en
  ·have dI:(k:Int)<(en:Int):=by omega
   have mX:k<N:=by omega
   have jh:(0:Int)≤k∧(k:Int)<N:=by omega
   obtain⟨f,rfl⟩:∃g,f=g+1:=⟨f-1,by omega⟩;obtain⟨y,hy⟩:=fI.out k mX;have hh:Opm.hit (xs.map (·.e)) nm k=(decide (y.e.kind=0)&&eD y.e.name nm):=by unfold Opm.hit;rw[List.getElem?_map,hy];rfl
   have hstep:Opm.kZ (xs.map (·.e)) nm en (f+1) k=if (decide (y.e.kind=0)&&eD y.e.name nm)=true then k :: Opm.kZ (xs.map (·.e)) nm en f (k+1) else Opm.kZ (xs.map (·.e)) nm en f (k+1):=by rw[Opm.kZ,if_pos hlt,hh]
   obtain⟨b,off,rfl,jC,q9⟩:=sP.out.at_ hy;have y0:=q9.c0;have y1:=q9.c1;have y2:=q9.c2;have hE:=fun W=>DV W y.e.name nm;clear q9 hy sP
   by_cases kh:y.e.kind=0
   ·rw[kh] at y0;rw[show ((0:Nat):Int)=0 from rfl] at y0
    cases hq:eD y.e.name nm with
    | false=>
     rw[hq,kh,Bool.and_false,if_neg (by simp)] at hstep;simp only[hq] at hE;have aW:=hide hstep;clear hstep hq kh hh;gi_wp2;refine wpIn_region_quiet_lit rfl (by kernel_rfl) (by kernel_rfl) ?_
     repeat (gi_big_quiet_step (fail))
     refine BigFrame.wpQuietIn_skip (fun _ _ _ _=>trivial) (by kernel_rfl) ?_;simp only[Act.put,List.setIfInBounds_toArray,List.set_cons_zero,List.set_cons_succ]
     repeat (gi_big_quiet_step (fail))
     refine wpQuietIn_nil ?_;rintro _ ⟨nq,rfl⟩;gi_wp2
     go_roundw
     case rel=>exact⟨k+1,f,pre,by omega,by first|rfl|go_num,by omega,by omega,by rw[←cJ.out,aW.out],Pm.out nq,Pp.out nq⟩
     case measure=>simp[intOf];omega
    | true=>
     have ED:Opm.hit (xs.map (·.e)) nm k=true:=by rw[hh,hq,kh];rfl
     rw[hq,kh,Bool.and_true,if_pos (by simp)] at hstep;simp only[hq] at hE;have aW:=hide hstep;clear hstep hq kh hh;obtain⟨fn,tmps,assign,body,hyi,hR⟩:=hY pre ⟨k,mX,ED⟩ wr.drew za.out (by omega);have sZ:Tryz.prog.follows .mixedOrders=true:=by kernel_rfl
     gi_wp2
     have HR:=hide (show RoundIn Fence.wide (n-1) Tryz.prog l fn tmps assign body wr.drew (fun e W'=>∃bb,e=.returned (.bool bb)∧Yd (bb=true) (J (pre++[⟨k,mX,ED⟩]) W'∧iU B [Lb,Ab,Nb] wr.drew W') (Jx (pre++[⟨k,mX,ED⟩]) W')) from hR.mono (by
      rintro e3 W3 (⟨rfl,bV,aH⟩|⟨rfl,gV⟩)
      ·exact⟨true,rfl,.inl ⟨rfl,bV,aH⟩⟩
      exact⟨false,rfl,.inr ⟨by simp,gV⟩⟩))
     clear hR
     gi_region_with_o (refine HR.out.mono ?_;rintro e3 W3 ⟨bb,rfl,h3⟩)
     all_goals
      rcases h3 with ⟨rfl,bV,aH⟩|⟨jb,gV⟩
      ·gi_wp2
       go_roundw
       case rel=>exact⟨k+1,f,pre++[⟨k,mX,ED⟩],by omega,by first|rfl|go_num,by rw[List.length_append];simp;omega,by omega,by rw[←cJ.out,aW.out,List.map_append,List.append_assoc];rfl,bV,mH.out.trans aH⟩
       case measure=>simp[intOf];omega
      cases bb with
      | true=>exact absurd rfl jb
      | false=>
       gi_wp2;refine bodyPost_ret (results_none rfl _ _ _) rfl ?_;exact⟨⟨_,rfl⟩,.inr ⟨_,⟨_,by rw[←cJ.out,aW.out,List.map_append,List.append_assoc];rfl⟩,gV⟩⟩
   have Lr:decide (y.e.kind=0)=false:=decide_eq_false kh;have Uo:((y.e.kind:Int)==0)=false:=beq_eq_false_iff_ne.2 (by omega);rw[Lr,Bool.false_and,if_neg (by simp)] at hstep;have aW:=hide hstep;clear hstep Lr kh hE hh;gi_wp2;refine wpIn_region_quiet_lit rfl (by kernel_rfl) (by kernel_rfl) ?_
   repeat (gi_big_quiet_step (fail))
   refine BigFrame.wpQuietIn_skip (fun _ _ _ _=>trivial) (by kernel_rfl) ?_;simp only[Act.put,List.setIfInBounds_toArray,List.set_cons_zero,List.set_cons_succ]
   repeat (gi_big_quiet_step (fail))
   refine wpQuietIn_nil ?_;rintro _ ⟨nq,rfl⟩;gi_wp2
   go_roundw
   case rel=>exact⟨k+1,f,pre,by omega,by first|rfl|go_num,by omega,by omega,by rw[←cJ.out,aW.out],Pm.out nq,Pp.out nq⟩
   case measure=>simp[intOf];omega
  have dI:¬(k:Int)<(en:Int):=by omega
  have hnil:Opm.kZ (xs.map (·.e)) nm en f k=[]:=by
   cases f with
   | zero=>rfl
   | succ f=>rw[Opm.kZ,if_neg hlt]
  gi_wp2;go_end0;refine⟨⟨_,rfl⟩,.inl ⟨pre,?_,pO.out⟩⟩;show pre.map (·.1)=all;rw[←cJ.out,hnil,List.append_nil]
end
section
open Go.RowKit Tk Sx Go.WideShapes

theorem Vz{x:L}(h:x.length≤1000000000):keyOf Tryz.prog 9 (.string (aa x))=some (.string x):=WideMaps.keyOf_string_mk Tryz.underlying9 (by rw[aC];unfold maxLen;omega)
structure gz(W:World)(mb n:Nat)(seen:List L)(D:DataW Unit):Prop where
 own:W.ownsMap Tryz.prog 9 (plainElem Tryz.prog 4) mb n D
 is:Maps.IsMap D
 ok:∀x:L,D.atKey (.string x) (.lit (.bool false))=.lit (.bool (decide (x∈seen)))
theorem gz.new(w:World):gz (w.alloc (.map #[] 0)) w.heap.size 0 [] (.map []):=⟨World.ownsMap_made _ _ _ _,Maps.isMap_empty,fun _=>by simp[DataW.atKey]⟩
theorem gz.same{W W':World}{mb n:Nat}{seen:List L}{D:DataW Unit}(h:gz W mb n seen D)(e:W'.heap[mb]?=W.heap[mb]?):gz W' mb n seen D:=⟨ox h.own e,h.is,h.ok⟩
theorem gz.lt{W:World}{mb n:Nat}{seen:List L}{D:DataW Unit}(h:gz W mb n seen D):mb<W.heap.size:=h.own.lt
theorem gz.next{W W':World}{mb n:Nat}{seen:List L}{D:DataW Unit}{x:L}(h:gz W mb n seen D)(ho:W'.ownsMap Tryz.prog 9 (plainElem Tryz.prog 4) mb (n+1) (D.put (.string x) (.lit (.bool true)))):gz W' mb (n+1) (x :: seen) (D.put (.string x) (.lit (.bool true))):=by
 refine⟨ho,h.is.put _ _,fun y=>?_⟩
 by_cases hm:y=x
 ·subst hm;rw[Maps.atKey_put_same h.is (by simp[WideAt.IsKeyLit])];simp
 rw[Maps.atKey_put_other (by intro e;injection e with e;exact hm e),h.ok y];simp[hm]
theorem gz.find{W:World}{mb n:Nat}{seen:List L}{D:DataW Unit}(h:gz W mb n seen D){x:L}(hx:x.length≤1000000000) :
  (Instr.lookup 52 (.map (some mb)) (.string (aa x)) false).run Tryz.prog W=.ok (.bool (decide (x∈seen))) W:=by
 obtain⟨v,ps,hrun,hv⟩:=h.own.lookup tD Tryz.underlying52 (YZ W) (plainElem_bool Tryz.underlying4 false) (Vz hx);obtain⟨c,rfl,hc⟩:=W8 Tryz.underlying4 hv;simp only[Prod.mk.injEq] at hc;have hr:=hc.1;rw[h.ok x] at hr;simp only[DataW.lit.injEq,Lit.bool.injEq] at hr;subst hr;exact hrun
theorem SF(mb n:Nat)(seen:List L)(D:DataW Unit)(u:L)(w:World)(h:gz w mb n seen D)(hu:u.length≤1000000000)(hn:n<maxLen) :
  Calls Tryz.prog 20 #[.map (some mb),.string (aa u)] w fun e w'=>e=.returned (.bool (!decide (u∈seen)))∧w.grownBy w' (some mb)∧∃D',gz w' mb (n+1) (u :: seen) D':=by
 have hf:=h.find hu;have H:=hide h;have hk:=Vz hu;have Hk:=hide hk;obtain⟨q,hq⟩:∃q,decide (u∈seen)=q:=⟨_,rfl⟩;rw[hq] at hf ⊢;clear h hq hk
 go_enter Tryz.func20,Tryz.ntmps20
 go_wp2_with (at_mapUpdate;refine wpList_mapUpdate_own _ rfl _ _ _ 52 rfl 9 4 tD Tryz.underlying52 _ mb n D rfl H.out.own hn _ _ _ (by rfl) (by rfl) Hk.out _ [] (plainElem_bool Tryz.underlying4 true) ?_;intro w8 aM aF;have H8:=hide (H.out.next aM);have ek:=hide aF;clear aM aF)
 go_ret;exact⟨rfl,ek.out,_,H8.out⟩
theorem ahQ{N:Nat}{v0 v1:Value}{a:Act}{W:World}{Q:Ending→World→Prop}(ha:a.tmps.getD 2 undef=.pointer (some ⟨N,0,none⟩))(hK:ae W N 45 #[v0,v1])(hd:a.defers=[])(hQ:Q (.returned (.agg #[v0,v1])) W):bodyPost Tryz.prog Tryz.f17 Q .ret a W :=
 bodyPost_ret (results_cell_row (fn:=Tryz.f17) rfl a.tmps W N 45 #[v0,v1] (0,0) _ ha hK Tryz.underlying45 rfl (by kernel_rfl)) hd hQ
theorem Wt(l:L)(w:World):Calls Tryz.prog 17 #[.string (aa l)] w fun e w'=>e=.returned (.agg #[.string (aa []),.string (aa l)])∧Below w.heap.size w w':=by
 have HO:=hide ((az w (.cells #[.string (aa []),.string (aa l)] 45)))
 go_enter Tryz.func17,Tryz.ntmps17
 go_wp2;refine ahQ rfl (ae.new w 45 #[.string (aa []),.string (aa l)]) rfl ?_;exact⟨rfl,HO.out⟩
end
section
namespace Nf
def cls(r:Int):Int :=
 if r<0x300∨r>0x345 then 0
 else if r≤0x314∨r=0x340∨r=0x341 then 230
 else if r=0x315 then 232
 else if r≤0x319∨(r≥0x323∧r≤0x326) then 220
 else if r=0x31B then 216
 else if r=0x327∨r=0x328 then 202
 else if r=0x338 then 1
 else if r=0x345 then 240
 else 0
theorem nP(r:Int):0≤cls r∧cls r≤240:=by
 unfold cls
 repeat' split
 all_goals omega
def rowOf(mark:Int):List Int→List Int→List ((Int×Int)×Int)
 | a :: l,w :: ws=>((a,mark),w) :: rowOf mark l ws
 | _,_=>[]
def tC:List Int:=[65,69,73,79,85,97,101,105,111,117]
def BB:List Int:=[65,69,73,79,85,89,97,101,105,111,117,121,0xEA,0xFC]
def BC:List Int:=[65,69,73,79,85,97,101,105,111,117,0x1EB9]
def BD:List Int:=[65,78,79,97,110,111]
def BF:List Int:=[0xFC]
def BG:List Int:=[0x418,0x438]
def BH:List Int:=[65,69,73,79,85,97,101,105,111,117,121,0x415,0x435]
def BI:List Int:=[65,97]
def BJ:List Int:=[67,83,90,99,115,122]
def BK:List Int:=[101]
def BL:List Int:=[67,99]
def yM:List Int:=[0xC0,0xC8,0xCC,0xD2,0xD9,0xE0,0xE8,0xEC,0xF2,0xF9]
def NZ:List Int:=[0xC1,0xC9,0xCD,0xD3,0xDA,0xDD,0xE1,0xE9,0xED,0xF3,0xFA,0xFD,0x1EBF,0x1D8]
def N5:List Int:=[0xC2,0xCA,0xCE,0xD4,0xDB,0xE2,0xEA,0xEE,0xF4,0xFB,0x1EC7]
def N6:List Int:=[0xC3,0xD1,0xD5,0xE3,0xF1,0xF5]
def N7:List Int:=[0x1D6]
def N8:List Int:=[0x419,0x439]
def N9:List Int:=[0xC4,0xCB,0xCF,0xD6,0xDC,0xE4,0xEB,0xEF,0xF6,0xFC,0xFF,0x401,0x451]
def Oa:List Int:=[0xC5,0xE5]
def Oc:List Int:=[0x10C,0x160,0x17D,0x10D,0x161,0x17E]
def Od:List Int:=[0x1EB9]
def Oe:List Int:=[0xC7,0xE7]
def table:List ((Int×Int)×Int) :=
 rowOf 0x300 tC yM++rowOf 0x301 BB NZ++rowOf 0x302 BC N5++rowOf 0x303 BD N6++rowOf 0x304 BF N7++rowOf 0x306 BG N8++rowOf 0x308 BH N9++rowOf 0x30A BI Oa++rowOf 0x30C BJ Oc++rowOf 0x323 BK Od++rowOf 0x327 BL Oe
def j2:List (Int×Int):=[(0x340,0x300),(0x341,0x301),(0x2126,0x3A9),(0x212A,75),(0x212B,0xC5)]
def lookW(p:Int×Int):List ((Int×Int)×Int)→Option Int
 | []=>none
 | x :: l=>if x.1=p then some x.2 else lookW p l
def eU(w:Int):List ((Int×Int)×Int)→Option (Int×Int)
 | []=>none
 | x :: l=>if x.2=w then some x.1 else eU w l
def jK(r:Int):List (Int×Int)→Option Int
 | []=>none
 | x :: l=>if x.1=r then some x.2 else jK r l
theorem alO:(table.map (·.1)).Nodup:=by decide +kernel
theorem alS:(table.map (·.2)).Nodup:=by decide +kernel
def fX(r:Int):Bool:=decide (0xAC00≤r∧r<0xAC00+11172)
def made(r:Int):Option (Int×Int) :=
 if fX r then
  if 0<(r-0xAC00) % 28 then some (r-(r-0xAC00) % 28,0x11A7+(r-0xAC00) % 28)
  else some (0x1100+(r-0xAC00) / 28 / 21,0x1161+(r-0xAC00) / 28 % 21)
 else match eU r table with
  | some p=>some p
  | none=>(jK r j2).map fun a=>(a,0)
def apart:Nat→Int→Option (List Int)
 | 0,_=>none
 | n+1,r=>match made r with
  | none=>some [r]
  | some (a,b)=>match apart n a with
   | none=>none
   | some l=>if b=0 then some l else (apart n b).map fun m=>l++m
theorem VT:∀x∈table,x.2<0x1100∨(0x1E00≤x.2∧x.2<0x2000):=by decide +kernel
theorem Mj{r:Int}:∀{l:List ((Int×Int)×Int)},(∀x∈l,x.2≠r)→eU r l=none
 | [],_=>rfl
 | x :: l,h=>by rw[eU,if_neg (h x (List.mem_cons_self ..))];exact Mj fun y hy=>h y (List.mem_cons_of_mem _ hy)
theorem yh{r:Int}{p:Int×Int}:∀{l:List ((Int×Int)×Int)},eU r l=some p→(p,r)∈l
 | [],h=>by cases h
 | x :: l,h=>by
  rw[eU] at h
  split at h
  ·rename_i hx;cases h;subst hx;exact List.mem_cons_self ..
  exact List.mem_cons_of_mem _ (yh h)
theorem Fy{r a:Int}:∀{l:List (Int×Int)},jK r l=some a→(r,a)∈l
 | [],h=>by cases h
 | x :: l,h=>by
  rw[jK] at h
  split at h
  ·rename_i hx;cases h;subst hx;exact List.mem_cons_self ..
  exact List.mem_cons_of_mem _ (Fy h)
theorem Mi{r:Int}:∀{l:List (Int×Int)},(∀x∈l,x.1≠r)→jK r l=none
 | [],_=>rfl
 | x :: l,h=>by rw[jK,if_neg (h x (List.mem_cons_self ..))];exact Mi fun y hy=>h y (List.mem_cons_of_mem _ hy)
theorem ahc{r:Int}(h0:0x1100≤r)(h1:r<0x1E00):made r=none:=by
 unfold made;have h:fX r=false:=decide_eq_false (by omega)
 rw[h,Mj (fun x hx=>by have:=VT x hx;omega),Mi (fun x hx=>by
  simp only[j2,List.mem_cons,List.not_mem_nil,or_false] at hx
  rcases hx with rfl|rfl|rfl|rfl|rfl<;>simp<;>omega)]
 rfl
theorem Jh{n:Nat}{r:Int}(h0:0x1100≤r)(h1:r<0x1E00):apart (n+1) r=some [r]:=by rw[apart,ahc h0 h1]
theorem QZ{n:Nat}{r:Int}(h:fX r=true)(hm:(r-0xAC00) % 28=0):∃l,apart (n+2) r=some l:=by
 have hr:=of_decide_eq_true h
 have e:made r=some (0x1100+(r-0xAC00) / 28 / 21,0x1161+(r-0xAC00) / 28 % 21):=by
  unfold made;rw[if_pos h,if_neg (by omega)]
 rw[apart,e];dsimp only;rw[Jh (by omega) (by omega),Jh (by omega) (by omega)];dsimp only;rw[if_neg (by omega)];exact⟨_,rfl⟩
theorem abE{n:Nat}{r:Int}(h:fX r=true):∃l,apart (n+3) r=some l:=by
 have hr:=of_decide_eq_true h
 by_cases hm:0<(r-0xAC00) % 28
 ·have e:made r=some (r-(r-0xAC00) % 28,0x11A7+(r-0xAC00) % 28):=by
   unfold made;rw[if_pos h,if_pos hm]
  have h2:fX (r-(r-0xAC00) % 28)=true:=decide_eq_true (by omega);obtain⟨l,hl⟩:=QZ (n:=n) h2 (by omega);rw[apart,e];dsimp only;rw[hl,Jh (by omega) (by omega)];dsimp only;rw[if_neg (by omega)];exact⟨_,rfl⟩
 exact QZ (n:=n+1) h (by omega)
theorem abD:∀x∈table,(apart 3 x.1.1).isSome=true∧(apart 3 x.1.2).isSome=true:=by decide +kernel
theorem abB:∀x∈j2,(apart 3 x.2).isSome=true:=by decide +kernel
theorem abC(r:Int):∃l,apart 4 r=some l:=by
 by_cases h:fX r=true
 ·exact abE (n:=1) h
 have hf:fX r=false:=by simpa using h
 cases hm:eU r table with
 | some p=>
  have e:made r=some p:=by unfold made;rw[hf,hm];rfl
  obtain⟨h1,h2⟩:=abD _ (yh hm);obtain⟨l,hl⟩:=Option.isSome_iff_exists.1 h1;obtain⟨m,er⟩:=Option.isSome_iff_exists.1 h2;dsimp only at hl er;rw[apart,e];dsimp only;rw[hl];dsimp only;split
  ·exact⟨_,rfl⟩
  rw[er];exact⟨_,rfl⟩
 | none=>
  cases hd:jK r j2 with
  | none=>
   have e:made r=none:=by unfold made;rw[hf,hm,hd];rfl
   exact⟨_,by rw[apart,e]⟩
  | some a=>
   have e:made r=some (a,0):=by unfold made;rw[hf,hm,hd];rfl
   obtain⟨l,hl⟩:=Option.isSome_iff_exists.1 (abB _ (Fy hd));dsimp only at hl;exact⟨l,by rw[apart,e];dsimp only;rw[hl];rfl⟩
def parts(r:Int):List Int:=(apart 4 r).getD []
theorem FM(r:Int):apart 4 r=some (parts r):=by
 obtain⟨l,hl⟩:=abC r;unfold parts;rw[hl];rfl
def whole(a b:Int):Option Int :=
 if (0x1100≤a∧a<0x1100+19)∧(0x1161≤b∧b<0x1161+21) then some (0xAC00+((a-0x1100)*21+b-0x1161)*28)
 else if fX a=true∧(a-0xAC00) % 28=0∧(0x11A8≤b∧b<0x11A8+27) then some (a+b-0x11A7)
 else lookW (a,b) table
def marks(l:List Int):List Int:=l.takeWhile fun r=>decide (0<cls r)
def runs:Nat→List Int→List (List Int)
 | 0,_=>[]
 | _+1,[]=>[]
 | n+1,r :: l=>(r :: marks l) :: runs n (l.drop (marks l).length)
def ins(x:Int):List Int→List Int
 | []=>[x]
 | y :: l=>if cls x<cls y then x :: y :: l else y :: ins x l
def aA(l:List Int):List Int:=l.foldl (fun acc x=>ins x acc) []
def sort(l:List Int):List Int:=(runs (l.length+1) l).flatMap aA
structure Cs where
 out:List Int
 st:Int
 hi:Int
def gA(s:Cs)(r:Int):Cs :=
 match (if 0≤s.st∧s.hi<cls r then whole (s.out.getD s.st.toNat 0) r else none) with
 | some w=>⟨s.out.set s.st.toNat w,s.st,s.hi⟩
 | none=>if cls r=0 then ⟨s.out++[r],s.out.length,-1⟩ else ⟨s.out++[r],s.st,max s.hi (cls r)⟩
def compose(l:List Int):List Int:=(l.foldl gA ⟨[],-1,-1⟩).out
end Nf
end
section
open Go.RowKit

theorem DC(r:Int)(w:World):Calls Tryz.prog 172 #[.int .i64 r] w fun e w'=>e=.returned (.int .i64 (Nf.cls r))∧w'=w:=by
 obtain⟨c,hc⟩:∃c,Nf.cls r=c:=⟨_,rfl⟩;rw[hc];unfold Nf.cls at hc
 by_cases h1:r<0x300∨r>0x345
 ·rw[if_pos h1] at hc;subst hc
  rcases h1 with h1|h1
  ·skip
   have g0:r<768:=by omega
   clear h1
   go_enter Tryz.func172,Tryz.ntmps172
   go_wp2;go_ret;exact⟨rfl,rfl⟩
  skip
  have g0:¬r<768:=by omega
  have g1:837<r:=by omega
  clear h1
  go_enter Tryz.func172,Tryz.ntmps172
  go_wp2;go_ret;exact⟨rfl,rfl⟩
 rw[if_neg h1] at hc
 by_cases h2:r≤0x314∨r=0x340∨r=0x341
 ·rw[if_pos h2] at hc;subst hc
  rcases h2 with h2|h2|h2
  ·skip
   have g0:¬r<768:=by omega
   have g1:¬837<r:=by omega
   have g2:r≤788:=by omega
   clear h1 h2
   go_enter Tryz.func172,Tryz.ntmps172
   go_wp2;go_ret;exact⟨rfl,rfl⟩
  ·subst h2;clear h1
   go_enter Tryz.func172,Tryz.ntmps172
   go_wp2;go_ret;exact⟨rfl,rfl⟩
  subst h2;clear h1
  go_enter Tryz.func172,Tryz.ntmps172
  go_wp2;go_ret;exact⟨rfl,rfl⟩
 rw[if_neg h2] at hc
 by_cases h3:r=0x315
 ·rw[if_pos h3] at hc;subst hc;subst h3;clear h1 h2
  go_enter Tryz.func172,Tryz.ntmps172
  go_wp2;go_ret;exact⟨rfl,rfl⟩
 rw[if_neg h3] at hc
 by_cases h4:r≤0x319∨(r≥0x323∧r≤0x326)
 ·rw[if_pos h4] at hc;subst hc
  rcases h4 with h4|h4
  ·skip
   have g0:¬r<768:=by omega
   have g1:¬837<r:=by omega
   have g2:¬r≤788:=by omega
   have g3:¬r=832:=by omega
   have g4:¬r=833:=by omega
   have g5:¬r=789:=by omega
   have g6:r≤793:=by omega
   clear h1 h2 h3 h4
   go_enter Tryz.func172,Tryz.ntmps172
   go_wp2;go_ret;exact⟨rfl,rfl⟩
  skip
  have g0:¬r<768:=by omega
  have g1:¬837<r:=by omega
  have g2:¬r≤788:=by omega
  have g3:¬r=832:=by omega
  have g4:¬r=833:=by omega
  have g5:¬r=789:=by omega
  have g6:¬r≤793:=by omega
  have g7:803≤r:=by omega
  have g8:r≤806:=by omega
  clear h1 h2 h3 h4
  go_enter Tryz.func172,Tryz.ntmps172
  go_wp2;go_ret;exact⟨rfl,rfl⟩
 rw[if_neg h4] at hc
 by_cases h5:r=0x31B
 ·rw[if_pos h5] at hc;subst hc;subst h5;clear h1 h2 h3 h4
  go_enter Tryz.func172,Tryz.ntmps172
  go_wp2;go_ret;exact⟨rfl,rfl⟩
 rw[if_neg h5] at hc
 by_cases h6:r=0x327∨r=0x328
 ·rw[if_pos h6] at hc;subst hc
  rcases h6 with h6|h6
  ·subst h6;clear h1 h2 h3 h4 h5
   go_enter Tryz.func172,Tryz.ntmps172
   go_wp2;go_ret;exact⟨rfl,rfl⟩
  subst h6;clear h1 h2 h3 h4 h5
  go_enter Tryz.func172,Tryz.ntmps172
  go_wp2;go_ret;exact⟨rfl,rfl⟩
 rw[if_neg h6] at hc
 by_cases h7:r=0x338
 ·rw[if_pos h7] at hc;subst hc;subst h7;clear h1 h2 h3 h4 h5 h6
  go_enter Tryz.func172,Tryz.ntmps172
  go_wp2;go_ret;exact⟨rfl,rfl⟩
 rw[if_neg h7] at hc
 by_cases h8:r=0x345
 ·rw[if_pos h8] at hc;subst hc;subst h8;clear h1 h2 h3 h4 h5 h6 h7
  go_enter Tryz.func172,Tryz.ntmps172
  go_wp2;go_ret;exact⟨rfl,rfl⟩
 rw[if_neg h8] at hc;subst hc;have g0:¬r<768:=by omega
 have g1:¬837<r:=by omega
 have g2:¬r≤788:=by omega
 have g3:¬r=832:=by omega
 have g4:¬r=833:=by omega
 have g5:¬r=789:=by omega
 have g6:¬r≤793:=by omega
 have g7:¬r=795:=by omega
 have g8:¬r=807:=by omega
 have g9:¬r=808:=by omega
 have g10:¬r=824:=by omega
 have g11:¬r=837:=by omega
 by_cases hx:803≤r
 ·have g20:¬r≤806:=by omega
  clear h1 h2 h3 h4 h5 h6 h7 h8
  go_enter Tryz.func172,Tryz.ntmps172
  go_wp2;go_ret;exact⟨rfl,rfl⟩
 clear h1 h2 h3 h4 h5 h6 h7 h8
 go_enter Tryz.func172,Tryz.ntmps172
 go_wp2;go_ret;exact⟨rfl,rfl⟩
theorem LZ(r a n:Int)(w:World)(h:IntKind.i64.wrap (a+n)=a+n):Calls Tryz.prog 189 #[.int .i64 r,.int .i64 a,.int .i64 n] w fun e w'=>e=.returned (.bool (decide (a≤r∧r<a+n)))∧w'=w:=by
 by_cases h1:a≤r
 ·rw[show decide (a≤r∧r<a+n)=decide (r<a+n) by simp[h1]]
  go_enter Tryz.func189,Tryz.ntmps189
  go_wp2;go_ret;exact⟨rfl,rfl⟩
 rw[show decide (a≤r∧r<a+n)=false by simp[h1]]
 go_enter Tryz.func189,Tryz.ntmps189
 go_wp2;go_ret;exact⟨rfl,rfl⟩
theorem TH(r:Int)(w:World):Calls Tryz.prog 190 #[.int .i64 r] w fun e w'=>e=.returned (.bool (Nf.fX r))∧w'=w:=by
 unfold Nf.fX
 by_cases h1:44032≤r
 ·rw[show decide (0xAC00≤r∧r<0xAC00+11172)=decide (r<55204) by simp[h1]]
  go_enter Tryz.func190,Tryz.ntmps190
  go_wp2;go_ret;exact⟨rfl,rfl⟩
 rw[show decide (0xAC00≤r∧r<0xAC00+11172)=false by simp[h1]]
 go_enter Tryz.func190,Tryz.ntmps190
 go_wp2;go_ret;exact⟨rfl,rfl⟩
theorem Dy(a b:Int)(w:World):Calls Tryz.prog 177 #[.int .i64 a,.int .i64 b] w fun e w'=>e=.returned (.int .i64 (Nf.cls a-Nf.cls b))∧w'=w:=by
 have HA:=hide (fun W=>DC a W);have HB:=hide (fun W=>DC b W);have hw:IntKind.i64.wrap (Nf.cls a-Nf.cls b)=Nf.cls a-Nf.cls b:=IntWalk.i64_in _ (by have:=Nf.nP a;have:=Nf.nP b;omega);generalize Nf.cls a=ca at *
 generalize Nf.cls b=cb at *
 go_enter Tryz.func177,Tryz.ntmps177
 go_wp2_with fail
 refine cq (HA.out _) ?_
 go_wp2_with fail
 refine cq (HB.out _) ?_
 go_wp2;go_ret;exact⟨rfl,rfl⟩
end
end Go.Proofs.YtnbmfljhbpfilaaGreatDoor
