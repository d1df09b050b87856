/- events.First: the first child of a name. And more. -/
import Derived.Test.YtpdkeckeekchlaaGreatDoorOt20
set_option linter.unusedSimpArgs false
set_option maxRecDepth 100000
set_option maxHeartbeats 8000000
set_option linter.unusedVariables false
namespace Go.Proofs.YtpdkeckeekchlaaGreatDoor
section
open Go.RowKit Go.Shelf Tk Sx Go.WideShapes

attribute [local go_sem] Oper.semAt_some

namespace Evs
def tz(l:List Ev)(n:Nm)(ks:List Nat):Option Nat:=ks.find? fun k=>decide (kP l k=n)
end Evs
def SY(o:Option Nat):Value:=match o with
 | some k=>.tuple #[.int .i64 (k:Int),.bool true]
 | none=>.tuple #[.int .i64 0,.bool false]
theorem agW{w:World}{L:List Nat}(hL:∀k∈L,k<w.heap.size)(W:World)(l:Nat)(o o':Obj)(hl:w.heap.size≤l)(_:W.heap[l]?=some o)(_:o.isCells=false)(_:o.isWalk=false):ng L W (W.putObj l o') :=
 fun k hk=>World.putObj_heap_other (by have:=hL k hk;omega)
theorem ni{X:World}{B:Nat}{t:TypeId}{cs:Array Value}{row:Option Nat}{n:Nat}(ah:∀r,row=some r→n≤r∧∃o:Obj,X.heap[r]?=some o∧o.isCells=false)(h:ae X B t cs):some B≠row:=fun e=>by
 obtain⟨_,o,ho,hc⟩:=ah _ e.symm;rw[show X.heap[_]?=_ from h] at ho;cases ho;cases hc
structure xl(w:World)(v:Value)(n:Nm)(W:World):Prop where
 l:ae W w.heap.size 68 #[v]
 n:ae W (w.heap.size+1) 75 #[.string (aa n.ns),.string (aa n.loc)]
 b:Below w.heap.size w W
theorem xl.kept{w X Y:World}{v:Value}{n:Nm}{row:Option Nat}{z:Nat}(h:xl w v n X)(hz:w.heap.size≤z)(hg:X.grownBy Y row)(ah:∀r,row=some r→z≤r∧∃o:Obj,X.heap[r]?=some o∧o.isCells=false):xl w v n Y :=
 ⟨h.l.grown hg (ni ah h.l),h.n.grown hg (ni ah h.n),h.b.grown hg h.b.size (fun k e=>by have:=(ah k e).1;omega)⟩
def Dc(w:World)(v:Value)(n:Nm)(l:List Ev){N:Nat}(pre:List (Kd N))(W:World):Prop :=
 (∀p∈pre,Evs.kP l p.1≠n)∧(∃u,ae W (w.heap.size+1+1) 3 #[u])∧(∃u,ae W (w.heap.size+1+1+1) 4 #[u])∧xl w v n W
def H8(w:World)(v:Value)(n:Nm)(l:List Ev){N:Nat}(c:Code)(pre:List (Kd N))(W:World):Prop :=
 c=.ret∧∃iF x,pre=iF++[x]∧(∀p∈iF,Evs.kP l p.1≠n)∧Evs.kP l x.1=n∧ae W (w.heap.size+1+1) 3 #[.int .i64 (x.1:Int)]∧ae W (w.heap.size+1+1+1) 4 #[.bool true]∧xl w v n W
theorem ZK(w:World)(v:Value)(n:Nm)(l:List Ev){N z:Nat}(hz:w.heap.size≤z):OwnFrom z (Dc w v n l (N:=N)):=by
 rintro s X Y row ⟨h1,⟨u,hu⟩,⟨u2,bG⟩,h3⟩ hg ah;exact⟨h1,⟨u,hu.grown hg (ni ah hu)⟩,⟨u2,bG.grown hg (ni ah bG)⟩,h3.kept hz hg ah⟩
theorem ZL(w:World)(v:Value)(n:Nm)(l:List Ev){N z:Nat}(hz:w.heap.size≤z)(c:Code):OwnFrom z (H8 w v n l (N:=N) c):=by
 rintro s X Y row ⟨h1,p,x,h2,h4,h5,hu,bG,h3⟩ hg ah;exact⟨h1,p,x,h2,h4,h5,hu.grown hg (ni ah hu),bG.grown hg (ni ah bG),h3.kept hz hg ah⟩
theorem ZF(xs:List Ew)(A:Option Addr)(c B i:Nat)(x:Ew)(n:Nm)(w:World)(h:nX w B A c xs)(hx:xs[i]?=some x)(hk:x.e.kind=0) :
  Calls Tryz.prog 32 #[.slice A xs.length c,.int .i64 (i:Int),.agg #[.string (aa n.ns),.string (aa n.loc)]] w fun e w'=>e=.returned (SY (Evs.tz (xs.map (·.e)) n (Evs.rW (xs.map (·.e)) i)))∧Below w.heap.size w w':=by
 refine (callsIn_wide (n:=5)).1 ?_;refine callsIn_of_wp_marks Tryz.func32 rfl trivial ?_ rfl;simp only[Tryz.ntmps32,List.size_toArray,List.length_cons,List.length_nil,Nat.reduceAdd,Nat.reduceSub,Array.replicate_succ,Array.replicate_zero,List.push_toArray,List.append_toArray,List.nil_append,List.cons_append];have x8:=fun W (hb:Below w.heap.size w W)=>JU xs A c B i x W (h.go hb) hx hk;have fw:=ap x8;clear x8;have hl:=h.l;have pU:=(List.getElem?_eq_some_iff.1 hx).1;have bC:=h.s.len;have il:=h.hB;have HL:=ap hl;have Di:=ap (Evs.Oe (xs.map (·.e)) (xs.map (·.e)).length);rw[List.length_map] at Di;have mX:=ap (show Evs.rW (xs.map (·.e)) i=Evs.iX (Evs.gP (xs.map (·.e))) ((Evs.bQ i (Evs.gP (xs.map (·.e)))).getD 0) xs.length (i+1) by unfold Evs.rW Evs.vG;rw[List.length_map]);have Ip:=ap (show Evs.gP (xs.map (·.e))=(Evs.upto (xs.map (·.e)) xs.length).2 by unfold Evs.gP;rw[List.length_map]);have fP:=ap (fun k (hk:k<xs.length)=>(show ∃y,xs[k]?=some y from⟨_,List.getElem?_eq_getElem hk⟩));obtain⟨N,hN⟩:∃N,xs.length=N:=⟨_,rfl⟩;rw[hN] at fw pU bC Di mX Ip fP ⊢;clear hl h hx hk hN
 have bW:=ap (((((ay w (.cells #[.slice A N c] 68)).alloc (by simp) (.cells #[.string (aa n.ns),.string (aa n.loc)] 75)).alloc (by simp;omega) (.cells #[.int .i64 0] 3)).alloc (by simp;omega) (.cells #[.bool false] 4)));have f0:=(((ae.new w 68 #[.slice A N c]).alloc (.cells #[.string (aa n.ns),.string (aa n.loc)] 75)).alloc (.cells #[.int .i64 0] 3)).alloc (.cells #[.bool false] 4);have f1:=((ae.new (w.alloc (.cells #[.slice A N c] 68)) 75 #[.string (aa n.ns),.string (aa n.loc)]).alloc (.cells #[.int .i64 0] 3)).alloc (.cells #[.bool false] 4);have f2:=(ae.new ((w.alloc (.cells #[.slice A N c] 68)).alloc (.cells #[.string (aa n.ns),.string (aa n.loc)] 75)) 3 #[.int .i64 0]).alloc (.cells #[.bool false] 4);have f3:=ae.new (((w.alloc (.cells #[.slice A N c] 68)).alloc (.cells #[.string (aa n.ns),.string (aa n.loc)] 75)).alloc (.cells #[.int .i64 0] 3)) 4 #[.bool false];have oV:((((w.alloc (.cells #[.slice A N c] 68)).alloc (.cells #[.string (aa n.ns),.string (aa n.loc)] 75)).alloc (.cells #[.int .i64 0] 3)).alloc (.cells #[.bool false] 4)).heap.size=w.heap.size+4:=by simp
 rw[World.size_alloc] at f1;rw[World.size_alloc,World.size_alloc] at f2;rw[World.size_alloc,World.size_alloc,World.size_alloc] at f3;obtain⟨W4,Lh⟩:∃W,(((w.alloc (.cells #[.slice A N c] 68)).alloc (.cells #[.string (aa n.ns),.string (aa n.loc)] 75)).alloc (.cells #[.int .i64 0] 3)).alloc (.cells #[.bool false] 4)=W:=⟨_,rfl⟩;have Qk:=ap Lh;have xn:=ap (fw.o _ bW.o);rw[Lh] at bW f0 f1 f2 f3 oV;have F0:=ap f0;have F1:=ap f1;have F2:=ap f2;have F3:=ap f3;clear Lh f0 f1 f2 f3
 gi_wp2_with (refine⟨trivial,?_⟩;gi_at_call 56;refine (callsIn_wide.2 xn.o).mono ?_;rintro e w2 ⟨af,T,mb,rfl,hT⟩)
 rw[Qk.o] at af hT;obtain⟨hT1,afU,⟨d,rQ⟩,nn,D,hm,apk⟩:=hT;have ag:=ap (bW.o.trans (af.mono bW.o.size));have G0:=ap (F0.o.go af);have G1:=ap (F1.o.go af);have G2:=ap (F2.o.go af);have G3:=ap (F3.o.go af);have hz2:w.heap.size+4≤w2.heap.size:=by have:=af.size;omega
 rw[oV] at hT1 afU;clear af F0 F1 F2 F3 xn Qk bW fw oV
 gi_wp2_with (refine⟨trivial,?_⟩;gi_at_call 57;refine (callsIn_wide.2 (ag9 T i _)).mono ?_;rintro e w3 ⟨rfl,hw3⟩)
 obtain⟨R,hR⟩:∃R,w2.heap.size=R:=⟨_,rfl⟩;have tH:Below w2.heap.size w2 w3:=by rw[hw3];exact (ay w2 _).trans ((ay _ _).mono (by simp))
 have vU:w3.cell? ⟨R,0,none⟩=some (.pointer (some ⟨T,0,none⟩)):=by
  have:=((ae.new w2 118 #[.pointer (some ⟨T,0,none⟩)]).alloc (.cells #[.int .i64 (i:Int)] 3)).cell 0;rw[←hw3,hR] at this;exact this
 have pO:w3.cell? ⟨R+1,0,none⟩=some (.int .i64 (i:Int)):=by
  have:=(ae.new (w2.alloc (.cells #[.pointer (some ⟨T,0,none⟩)] 118)) 3 #[.int .i64 (i:Int)]).cell 0;rw[World.size_alloc,←hw3,hR] at this;exact this
 have VI:w3.heap.size=R+2:=by rw[hw3,←hR];simp
 have aw:=ap (ag.o.trans (tH.mono ag.o.size));have TD:xl w (.slice A N c) n w3:=⟨G0.o.go tH,G1.o.go tH,aw.o⟩;have tE:Dc w (.slice A N c) n (xs.map (·.e)) (N:=N) [] w3:=⟨(fun p hp=>by cases hp),⟨_,G2.o.go tH⟩,⟨_,G3.o.go tH⟩,TD⟩;have cH:=rQ.go tH;have yv:=hm.same (tH.block _ hm.lt);rw[←hw3];have afb:=rQ.lt;have afX:=hm.lt;rw[hR];have eI:=ap tE;have hfw:Evs.Dd (Evs.gP (xs.map (·.e))):=by rw[Ip.o];exact Di.o.1
 have pW:∀p k,Evs.bQ p (Evs.gP (xs.map (·.e)))=some k→k<N:=by rw[Ip.o];exact Di.o.2
 have kB:(Evs.bQ i (Evs.gP (xs.map (·.e)))).getD 0≤N:=by
  cases he:Evs.bQ i (Evs.gP (xs.map (·.e))) with
  | none=>exact Nat.zero_le _
  | some k=>have:=pW i k he;show k≤N;omega
 have hst:=aha (5-1) (by omega) (R+1) R T mb i nn A N c d (Evs.gP (xs.map (·.e))) D pU bC hfw pW kB w3 pO vU cH yv;have bf:=ap hst;have FV:w.heap.size≤w3.heap.size:=aw.o.size;rw[hR] at afb afX hz2;clear hw3 tH TD tE cH yv hfw pW kB hst rQ hm pO vU hR G0 G1 G2 G3 ag
 refine wpIn_rangeFunc_ownG rfl (by omega) (gf:=88) (lb:=#[.pointer (some ⟨R+1,0,none⟩),.pointer (some ⟨R,0,none⟩)]) rfl trivial (enters_of Tryz.func88 (by kernel_rfl) rfl)
  bf.o ng.trans (agW (by simp;omega)) (Below.refl _ _) (fun _=>rfl)
  (Dc w (.slice A N c) n (xs.map (·.e))) (H8 w (.slice A N c) n (xs.map (·.e))) (ZK w _ n _ FV) (fun c'=>ZL w _ n _ FV c')
  eI.o
  (fun x=>{ tmps:=#[.slice A N c,.int .i64 (i:Int),.agg #[.string (aa n.ns),.string (aa n.loc)],.pointer (some ⟨w.heap.size,0,none⟩),undef,.pointer (some ⟨w.heap.size+1,0,none⟩),.pointer (some ⟨w.heap.size+1+1,0,none⟩),.pointer (some ⟨w.heap.size+1+1+1,0,none⟩),
   .pointer (some ⟨T,0,none⟩),.int .i64 (x.1:Int),.slice A N c,.int .i64 (i:Int),.pointer (some ⟨T,0,none⟩),.pointer (some ⟨T,0,none⟩),.bool false,.pointer (some ⟨T,0,none⟩),.int .i64 (i:Int),
   .func (.func 88) #[] #[.pointer (some ⟨R+1,0,none⟩),.pointer (some ⟨R,0,none⟩)],.int .i64 (x.1:Int),undef,undef,undef,undef,undef,undef,undef,undef],defers:=[] }) ?assign ?body ?done ?stop
 case assign=>
  intro l x W K hK;gi_wp2;exact hK
 case body=>
  rintro l pre x W ⟨hp,⟨u,hu⟩,⟨u2,bG⟩,hC⟩ hlen;have HP:=ap hp;have HC:=ap hC;obtain⟨y,hy⟩:=fP.o x.1 x.2;have jz:=x.2;obtain⟨b,off,eA,eZ,rV⟩:=(HL.o.below (hC.b.mono il)).at_ hy;subst eA;have cD:Evs.kP (xs.map (·.e)) x.1=y.e.name:=by unfold Evs.kP;rw[List.getElem?_map,hy];rfl
  have y1:=rV.c1;have y2:=rV.c2;have c0:=hC.l.cell 0;have n0:=hC.n.cell 0;have n1:=hC.n.cell 1;have hE:=fun W=>EM W y.e.name n;have hxx:(0:Int)≤x.1∧(x.1:Int)<N:=by omega
  have eQ:=ap cD;have HU:=ap hu;have HU2:=ap bG;have tV:Tryz.prog.follows .mixedOrders=true:=by kernel_rfl
  have jq:Below w.heap.size w W.drew:=below_drewN hC.b 1;have Bj:W.drew.heap=W.heap:=rfl
  cases hq:fF y.e.name n with
  | false=>
   simp only[hq] at hE;have hne:Evs.kP (xs.map (·.e)) x.1≠n:=fun e=>by rw[eQ.o] at e;rw[(AP _ _).2 e] at hq;cases hq
   have HF:=ap (show KeepsFrom w3.heap.size W W.drew∧ng [R+1,R,T,mb] W W.drew∧Dc w (.slice (some ⟨b,off,none⟩) N c) n (xs.map (·.e)) (pre++[x]) W.drew from⟨(KeepsOthers.drew W).from _,fun _ _=>rfl,fun p hp=>by
    rcases List.mem_append.1 hp with hp|hp
    ·exact HP.o p hp
    rw[show p=x by simpa using hp];exact hne,⟨u,hu⟩,⟨u2,bG⟩,hC.l,hC.n,jq⟩)
   clear hp hC hy rV cD hu bG hq hne jq Bj;gi_wp2
   gi_region_with_o (fail)
   all_goals (gi_wp2;exact HF.o)
  | true=>
   simp only[hq] at hE;have heq:=ap (show Evs.kP (xs.map (·.e)) x.1=n from by rw[eQ.o];exact (AP _ _).1 hq);have cR:=hu.cell 0;have bj:=bG.cell 0;have nz:=hu.frozen 0;have nA:=bG.frozen 0
   have HF:=ap (show H8 w (.slice (some ⟨b,off,none⟩) N c) n (xs.map (·.e)) .ret (pre++[x]) ((W.drew.setCell ⟨w.heap.size+1+1,0,none⟩ (.int .i64 (x.1:Int))).setCell ⟨w.heap.size+1+1+1,0,none⟩ (.bool true)) from by
    refine⟨rfl,pre,x,rfl,HP.o,heq.o,?_,?_,?_,?_,?_⟩
    ·exact (hu.drew.aH 0 (.int .i64 (x.1:Int))).far (by dsimp only;omega) _
    ·exact ((bG.drew.far (by dsimp only;omega) _).aH 0 _)
    ·exact (hC.l.drew.far (by dsimp only;omega) _).far (by dsimp only;omega) _
    ·exact (hC.n.drew.far (by dsimp only;omega) _).far (by dsimp only;omega) _
    exact (jq.setCell (p:=⟨w.heap.size+1+1,0,none⟩) (by dsimp only;omega) _).setCell (p:=⟨w.heap.size+1+1+1,0,none⟩) (by dsimp only;omega) _)
   have apw:w.heap.size+1+1<W.heap.size:=hu.lt;have apx:w.heap.size+1+1+1<W.heap.size:=bG.lt;clear hp hC hy rV cD hu bG hq jq Bj;gi_wp2
   gi_region_with_o (fail)
   all_goals (gi_wp2;exact⟨(((KeepsOthers.drew W).trans (KeepsOthers.setCell _ _ _)).trans (KeepsOthers.setCell _ _ _)).from _,HF.o⟩)
 case done=>
  rintro D ys W hD dW ⟨hp,⟨v,hv⟩,⟨u,hu⟩,hC⟩ hK;have hc:=hv.cell 0;have hf:=hv.frozen 0;have hc':=hu.cell 0;have wh:=hu.frozen 0
  have Hn:=ap (show Evs.tz (xs.map (·.e)) n (Evs.rW (xs.map (·.e)) i)=none from by
   rw[mX.o,←dW]
   exact List.find?_eq_none.2 fun k hk=>by
    obtain⟨p,L5,rfl⟩:=List.mem_map.1 hk;simp[hp p L5])
  clear dW hp;gi_wp2;have cQ:=(hv.aH 0 (.int .i64 0)).far (p:=⟨w.heap.size+1+1+1,0,none⟩) (by dsimp only;omega) (.bool false);have bG:=(hu.far (p:=⟨w.heap.size+1+1,0,none⟩) (by dsimp only;omega) (.int .i64 0)).aH 0 (.bool false);have gy:=((KeepsOthers.setCell W ⟨w.heap.size+1+1,0,none⟩ (.int .i64 0)).trans (KeepsOthers.setCell _ ⟨w.heap.size+1+1+1,0,none⟩ (.bool false))).same D _ hK rfl;refine⟨by simp,.inl ⟨_,_,rfl,run_takeDeferred gy,?_⟩⟩;have bj:=cell_kept (cQ.cell 0) (grownBy_putObj' _ D (.deferred none)) (fun r e=>by cases e;exact⟨_,gy,rfl⟩);have Bp:=cell_kept (bG.cell 0) (grownBy_putObj' _ D (.deferred none)) (fun r e=>by cases e;exact⟨_,gy,rfl⟩);refine⟨.tuple #[.int .i64 0,.bool false],?_,?_⟩
  ·simp[results,Tryz.results32,go_sem,bj,Bp]
  exact⟨by rw[Hn.o];rfl,((hC.b.setCell (p:=⟨w.heap.size+1+1,0,none⟩) (by dsimp only;omega) _).setCell (p:=⟨w.heap.size+1+1+1,0,none⟩) (by dsimp only;omega) _).trans (belowK_b (w:=w) (Nat.le_refl _) _ D _ _ (by omega) gy rfl rfl)⟩
 case stop=>
  rintro D c' pre W hD ⟨rest,hsp⟩ ⟨rfl,iF,x,rfl,hp,hx,hv,hu,hC⟩ hK;have hc:=hv.cell 0;have hf:=hv.frozen 0;have hc':=hu.cell 0;have wh:=hu.frozen 0
  have Hn:=ap (show Evs.tz (xs.map (·.e)) n (Evs.rW (xs.map (·.e)) i)=some x.1 from by
   rw[mX.o,←hsp,List.map_append,List.append_assoc];unfold Evs.tz
   rw[List.find?_append,List.find?_eq_none.2 (fun k hk=>by
    obtain⟨p,L5,rfl⟩:=List.mem_map.1 hk;simp[hp p L5])]
   simp[hx])
  clear hsp hp hx;gi_wp2;refine⟨by simp,.inl ⟨_,_,rfl,run_takeDeferred hK,?_⟩⟩;have bj:=cell_kept (hv.cell 0) (grownBy_putObj' _ D (.deferred none)) (fun r e=>by cases e;exact⟨_,hK,rfl⟩);have Bp:=cell_kept (hu.cell 0) (grownBy_putObj' _ D (.deferred none)) (fun r e=>by cases e;exact⟨_,hK,rfl⟩);refine⟨.tuple #[.int .i64 (x.1:Int),.bool true],?_,?_⟩
  ·simp[results,Tryz.results32,go_sem,bj,Bp]
  exact⟨by rw[Hn.o];rfl,hC.b.trans (belowK_b (w:=w) (Nat.le_refl _) _ D _ _ (by omega) hK rfl rfl)⟩
end
section
open Go.RowKit Go.Shelf Tk Sx Go.WideShapes

attribute [local go_sem] Oper.semAt_some

namespace Opm
def hit(l:List Ev)(n:Nm)(k:Nat):Bool:=match l[k]? with
 | some e=>decide (e.kind=0)&&fF e.name n
 | none=>false
def oB(l:List Ev)(n:Nm)(en:Nat):Nat→Nat→List Nat
 | 0,_=>[]
 | f+1,k=>if k<en then (if hit l n k=true then k :: oB l n en f (k+1) else oB l n en f (k+1)) else []
def nr(l:List Ev)(n:Nm)(i:Nat):List Nat:=oB l n (Evs.vG l i) l.length i
end Opm
abbrev Ke(N:Nat)(l:List Ev)(n:Nm):={ x:Nat // x<N∧Opm.hit l n x=true }
def ji(B:Nat)(L:List Nat)(W W':World):Prop:=Below B W W'∧ng L W W'
theorem ji.trans{B:Nat}{L:List Nat}{X Y Z:World}(h:ji B L X Y)(k:ji B L Y Z):ji B L X Z:=⟨h.1.trans k.1,h.2.trans k.2⟩
theorem ji.refl(B:Nat)(L:List Nat)(W:World):ji B L W W:=⟨Below.refl _ _,fun _ _=>rfl⟩
def Yd(p a b:Prop):Prop:=(p∧a)∨(¬p∧b)
theorem adH(n:Nat)(hn:1≤n)(l Lb Ab Nb i B:Nat)(A:Option Addr)(c N:Nat)(xs:List Ew)(x:Ew)(nm:Nm)(hN:xs.length=N)
  (J Jx:List (Ke N (xs.map (·.e)) nm)→World→Prop) (W:World) (hJ:AbidesFrom W.heap.size J)
  (hY:∀(pre:List (Ke N (xs.map (·.e)) nm)) (x:Ke N (xs.map (·.e)) nm) (W:World),J pre W→pre.length<N→YieldAt Fence.wide (n-1) Tryz.prog l #[.int .i64 (x.1:Int)] W fun e W'=>
   (e=.returned (.bool true)∧J (pre++[x]) W'∧ji B [Lb,Ab,Nb] W W')∨(e=.returned (.bool false)∧Jx (pre++[x]) W'))
  (hE:nX W B A c xs) (hx:xs[i]?=some x) (hk:x.e.kind=0)
  (vR:ae W Lb 68 #[.slice A N c]) (xZ:ae W Ab 3 #[.int .i64 (i:Int)]) (Ba:ae W Nb 75 #[.string (aa nm.ns),.string (aa nm.loc)]) (h0:J [] W) :
  CallsIn Fence.wide n Tryz.prog 58 #[.func (.yield l) #[] #[],.pointer (some ⟨Lb,0,none⟩),.pointer (some ⟨Ab,0,none⟩),.pointer (some ⟨Nb,0,none⟩)] W fun e W'=>(∃v,e=.returned v)∧
   ((∃ys:List (Ke N (xs.map (·.e)) nm),ys.map (·.1)=Opm.nr (xs.map (·.e)) nm i∧J ys W')∨(∃pre:List (Ke N (xs.map (·.e)) nm),(∃rest,pre.map (·.1)++rest=Opm.nr (xs.map (·.e)) nm i)∧Jx pre W')):=by
 refine callsIn_of_wp Tryz.func58 rfl trivial ?_ rfl;simp only[Tryz.ntmps58,List.size_toArray,List.length_cons,List.length_nil,Nat.reduceAdd,Nat.reduceSub,Array.replicate_succ,Array.replicate_zero,List.push_toArray,List.append_toArray,List.nil_append,List.cons_append]
 have pW:∀p k,Evs.bQ p (Evs.gP (xs.map (·.e)))=some k→k<N:=by
  have:=(Evs.Oe (xs.map (·.e)) (xs.map (·.e)).length).2;rw[List.length_map,hN] at this;unfold Evs.gP;rwa[List.length_map,hN]
 obtain⟨en,hen⟩:∃en,Evs.vG (xs.map (·.e)) i=en:=⟨_,rfl⟩
 have kB:en≤N:=by
  rw[←hen];unfold Evs.vG
  cases he:Evs.bQ i (Evs.gP (xs.map (·.e))) with
  | none=>exact Nat.zero_le _
  | some k=>have:=pW i k he;show k≤N;omega
 obtain⟨all,hall⟩:∃all,Opm.nr (xs.map (·.e)) nm i=all:=⟨_,rfl⟩;have hst:Opm.oB (xs.map (·.e)) nm en N i=all:=by rw[←hall,←hen,←hN];unfold Opm.nr;rw[List.length_map]
 have HE:=ap (ZC xs A c B i x W hE hx hk);have BH:i<N:=by have:=(List.getElem?_eq_some_iff.1 hx).1;omega
 rw[hN,hen] at HE;rw[hall];have bC:=hE.s.len;rw[hN] at bC;have mf:=ap hst;have HJ:=ap hJ;have Pt:=ap hE;have fP:=ap (fun k (hk:k<N)=>(show ∃y,xs[k]?=some y from⟨_,List.getElem?_eq_getElem (by omega)⟩));have l0:=vR.cell 0;have a0:=xZ.cell 0;have lL:=vR.lt;have lA:=xZ.lt;have lN:=Ba.lt;have HL:=ap vR;have HA:=ap xZ;have HN:=ap Ba;have H0:=ap h0;clear hall hen hst hJ hE hx hk vR xZ Ba h0 pW hN
 gi_wp2_with (refine⟨trivial,?_⟩;gi_at_call 59;refine (callsIn_wide.2 HE.o).mono ?_;rintro e w2 ⟨rfl,af⟩;have a2:=(HA.o.go af).cell 0)
 have kU:=ap (HJ.o [] W w2 none H0.o (cM af none) (fun r e=>by cases e));have ZY:=ap (Pt.o.go af);have sF:=ap (HL.o.go af);have zO:=ap (HN.o.go af);have hsz:=af.size;have PH:=ap (show AbidesFrom w2.heap.size J from fun s X Y row hs hg hr=>HJ.o s X Y row hs hg (fun r e=>⟨Nat.le_trans hsz (hr r e).1,(hr r e).2⟩));clear H0 HE Pt HL HN HA a0 l0 a2 af HJ
 gi_loopw [7] (fun v7 wr=>∃(k f:Nat) (pre:List (Ke N (xs.map (·.e)) nm)),k≤N∧v7=.int .i64 (k:Int)∧pre.length≤k∧N≤k+f∧pre.map (·.1)++Opm.oB (xs.map (·.e)) nm en f k=all∧J pre wr∧ji B [Lb,Ab,Nb] w2 wr)
  (fun v7 _=>N+1-(intOf v7).toNat)
 case atStart=>exact⟨i,N,[],by omega,by first|rfl|go_num,by simp,by omega,mf.o,kU.o,ji.refl _ _ _⟩
 case round=>
  obtain⟨k,f,pre,hk,rfl,hpl,hkf,jx,jn,jJ⟩:=hrel;have cL:=ap jx;have qy:=ap jJ;have lk:=(sF.o.lt:Lb<w2.heap.size);have c1:=(show ae wr Lb 68 #[.slice A N c] from (jJ.2 Lb (by simp)).trans sF.o).cell 0;have kN:=(show ae wr Nb 75 #[.string (aa nm.ns),.string (aa nm.loc)] from (jJ.2 Nb (by simp)).trans zO.o);have n0:=kN.cell 0;have n1:=kN.cell 1;have zI:=ap (PH.o pre wr wr.drew none jn ⟨rfl,rfl,rfl,Nat.le_refl _,fun _ _ _=>rfl⟩ (fun r e=>by cases e));have mX:=ap (show ji B [Lb,Ab,Nb] w2 wr.drew from⟨below_drewN jJ.1 1,jJ.2⟩);have PG:=ap (fun m=>PH.o pre wr (wr.drewN m) none jn ⟨rfl,rfl,rfl,Nat.le_refl _,fun _ _ _=>rfl⟩ (fun r e=>by cases e));have PL:=ap (fun m=>(show ji B [Lb,Ab,Nb] w2 (wr.drewN m) from⟨below_drewN jJ.1 m,jJ.2⟩));have tJ:=ap (ZY.o.l.below jJ.1);have qx:=ap jn;clear jx jJ jn kN
  by_cases hlt:k<en
  ·have dg:(k:Int)<(en:Int):=by omega
   have nE:k<N:=by omega
   have eM:(0:Int)≤k∧(k:Int)<N:=by omega
   obtain⟨f,rfl⟩:∃g,f=g+1:=⟨f-1,by omega⟩;obtain⟨y,hy⟩:=fP.o k nE;have hh:Opm.hit (xs.map (·.e)) nm k=(decide (y.e.kind=0)&&fF y.e.name nm):=by unfold Opm.hit;rw[List.getElem?_map,hy];rfl
   have hstep:Opm.oB (xs.map (·.e)) nm en (f+1) k=if (decide (y.e.kind=0)&&fF y.e.name nm)=true then k :: Opm.oB (xs.map (·.e)) nm en f (k+1) else Opm.oB (xs.map (·.e)) nm en f (k+1):=by rw[Opm.oB,if_pos hlt,hh]
   obtain⟨b,off,rfl,eZ,rV⟩:=tJ.o.at_ hy;have y0:=rV.c0;have y1:=rV.c1;have y2:=rV.c2;have hE:=fun W=>EM W y.e.name nm;clear rV hy tJ
   by_cases kF:y.e.kind=0
   ·rw[kF] at y0;rw[show ((0:Nat):Int)=0 from rfl] at y0
    cases hq:fF y.e.name nm with
    | false=>
     rw[hq,kF,Bool.and_false,if_neg (by simp)] at hstep;simp only[hq] at hE;have bf:=ap hstep;clear hstep hq kF hh;gi_wp2;refine wpIn_region_quiet_lit rfl (by kernel_rfl) (by kernel_rfl) ?_
     repeat (gi_big_quiet_step (fail))
     refine BigFrame.wpQuietIn_skip (fun _ _ _ _=>trivial) (by kernel_rfl) ?_;simp only[Act.put,List.setIfInBounds_toArray,List.set_cons_zero,List.set_cons_succ]
     repeat (gi_big_quiet_step (fail))
     refine wpQuietIn_nil ?_;rintro _ ⟨nq,rfl⟩;gi_wp2
     go_roundw
     case rel=>exact⟨k+1,f,pre,by omega,by first|rfl|go_num,by omega,by omega,by rw[←cL.o,bf.o],PG.o nq,PL.o nq⟩
     case measure=>simp[intOf];omega
    | true=>
     have Fh:Opm.hit (xs.map (·.e)) nm k=true:=by rw[hh,hq,kF];rfl
     rw[hq,kF,Bool.and_true,if_pos (by simp)] at hstep;simp only[hq] at hE;have bf:=ap hstep;clear hstep hq kF hh;obtain⟨fn,tmps,assign,body,hyi,hR⟩:=hY pre ⟨k,nE,Fh⟩ wr.drew zI.o (by omega);have tV:Tryz.prog.follows .mixedOrders=true:=by kernel_rfl
     gi_wp2
     have HR:=ap (show RoundIn Fence.wide (n-1) Tryz.prog l fn tmps assign body wr.drew (fun e W'=>∃bb,e=.returned (.bool bb)∧Yd (bb=true) (J (pre++[⟨k,nE,Fh⟩]) W'∧ji B [Lb,Ab,Nb] wr.drew W') (Jx (pre++[⟨k,nE,Fh⟩]) W')) from hR.mono (by
      rintro e3 W3 (⟨rfl,bY,aI⟩|⟨rfl,im⟩)
      ·exact⟨true,rfl,.inl ⟨rfl,bY,aI⟩⟩
      exact⟨false,rfl,.inr ⟨by simp,im⟩⟩))
     clear hR
     gi_region_with_o (refine HR.o.mono ?_;rintro e3 W3 ⟨bb,rfl,h3⟩)
     all_goals
      rcases h3 with ⟨rfl,bY,aI⟩|⟨gQ,im⟩
      ·gi_wp2
       go_roundw
       case rel=>exact⟨k+1,f,pre++[⟨k,nE,Fh⟩],by omega,by first|rfl|go_num,by rw[List.length_append];simp;omega,by omega,by rw[←cL.o,bf.o,List.map_append,List.append_assoc];rfl,bY,mX.o.trans aI⟩
       case measure=>simp[intOf];omega
      cases bb with
      | true=>exact absurd rfl gQ
      | false=>
       gi_wp2;refine bodyPost_ret (results_none rfl _ _ _) rfl ?_;exact⟨⟨_,rfl⟩,.inr ⟨_,⟨_,by rw[←cL.o,bf.o,List.map_append,List.append_assoc];rfl⟩,im⟩⟩
   have Ma:decide (y.e.kind=0)=false:=decide_eq_false kF;have tT:((y.e.kind:Int)==0)=false:=beq_eq_false_iff_ne.2 (by omega);rw[Ma,Bool.false_and,if_neg (by simp)] at hstep;have bf:=ap hstep;clear hstep Ma kF hE hh;gi_wp2;refine wpIn_region_quiet_lit rfl (by kernel_rfl) (by kernel_rfl) ?_
   repeat (gi_big_quiet_step (fail))
   refine BigFrame.wpQuietIn_skip (fun _ _ _ _=>trivial) (by kernel_rfl) ?_;simp only[Act.put,List.setIfInBounds_toArray,List.set_cons_zero,List.set_cons_succ]
   repeat (gi_big_quiet_step (fail))
   refine wpQuietIn_nil ?_;rintro _ ⟨nq,rfl⟩;gi_wp2
   go_roundw
   case rel=>exact⟨k+1,f,pre,by omega,by first|rfl|go_num,by omega,by omega,by rw[←cL.o,bf.o],PG.o nq,PL.o nq⟩
   case measure=>simp[intOf];omega
  have dg:¬(k:Int)<(en:Int):=by omega
  have hnil:Opm.oB (xs.map (·.e)) nm en f k=[]:=by
   cases f with
   | zero=>rfl
   | succ f=>rw[Opm.oB,if_neg hlt]
  gi_wp2;go_end0;refine⟨⟨_,rfl⟩,.inl ⟨pre,?_,qx.o⟩⟩;show pre.map (·.1)=all;rw[←cL.o,hnil,List.append_nil]
end
section
open Go.RowKit Tk Sx Go.WideShapes

theorem V5{x:L}(h:x.length≤1000000000):keyOf Tryz.prog 9 (.string (aa x))=some (.string x):=WideMaps.keyOf_string_mk Tryz.underlying9 (by rw[aO];unfold maxLen;omega)
structure fR(W:World)(mb n:Nat)(seen:List L)(D:DataW Unit):Prop where
 own:W.ownsMap Tryz.prog 9 (plainElem Tryz.prog 4) mb n D
 is:Maps.IsMap D
 ok:∀x:L,D.atKey (.string x) (.lit (.bool false))=.lit (.bool (decide (x∈seen)))
theorem fR.new(w:World):fR (w.alloc (.map #[] 0)) w.heap.size 0 [] (.map []):=⟨World.ownsMap_made _ _ _ _,Maps.isMap_empty,fun _=>by simp[DataW.atKey]⟩
theorem fR.same{W W':World}{mb n:Nat}{seen:List L}{D:DataW Unit}(h:fR W mb n seen D)(e:W'.heap[mb]?=W.heap[mb]?):fR W' mb n seen D:=⟨nO h.own e,h.is,h.ok⟩
theorem fR.lt{W:World}{mb n:Nat}{seen:List L}{D:DataW Unit}(h:fR W mb n seen D):mb<W.heap.size:=h.own.lt
theorem fR.next{W W':World}{mb n:Nat}{seen:List L}{D:DataW Unit}{x:L}(h:fR W mb n seen D)(ho:W'.ownsMap Tryz.prog 9 (plainElem Tryz.prog 4) mb (n+1) (D.put (.string x) (.lit (.bool true)))):fR W' mb (n+1) (x :: seen) (D.put (.string x) (.lit (.bool true))):=by
 refine⟨ho,h.is.put _ _,fun y=>?_⟩
 by_cases hm:y=x
 ·subst hm;rw[Maps.atKey_put_same h.is (by simp[WideAt.IsKeyLit])];simp
 rw[Maps.atKey_put_other (by intro e;injection e with e;exact hm e),h.ok y];simp[hm]
theorem fR.find{W:World}{mb n:Nat}{seen:List L}{D:DataW Unit}(h:fR W mb n seen D){x:L}(hx:x.length≤1000000000) :
  (Instr.lookup 64 (.map (some mb)) (.string (aa x)) false).run Tryz.prog W=.ok (.bool (decide (x∈seen))) W:=by
 obtain⟨v,ps,hrun,hv⟩:=h.own.lookup uk Tryz.underlying64 (OT W) (plainElem_bool Tryz.underlying4 false) (V5 hx);obtain⟨c,rfl,hc⟩:=Nq Tryz.underlying4 hv;simp only[Prod.mk.injEq] at hc;have hr:=hc.1;rw[h.ok x] at hr;simp only[DataW.lit.injEq,Lit.bool.injEq] at hr;subst hr;exact hrun
theorem KD(mb n:Nat)(seen:List L)(D:DataW Unit)(u:L)(w:World)(h:fR w mb n seen D)(hu:u.length≤1000000000)(hn:n<maxLen) :
  Calls Tryz.prog 27 #[.map (some mb),.string (aa u)] w fun e w'=>e=.returned (.bool (!decide (u∈seen)))∧w.grownBy w' (some mb)∧∃D',fR w' mb (n+1) (u :: seen) D':=by
 have hf:=h.find hu;have H:=ap h;have hk:=V5 hu;have Hk:=ap hk;obtain⟨q,hq⟩:∃q,decide (u∈seen)=q:=⟨_,rfl⟩;rw[hq] at hf ⊢;clear h hq hk
 go_enter Tryz.func27,Tryz.ntmps27
 go_wp2_with (at_mapUpdate;refine wpList_mapUpdate_own _ rfl _ _ _ 64 rfl 9 4 uk Tryz.underlying64 _ mb n D rfl H.o.own hn _ _ _ (by rfl) (by rfl) Hk.o _ [] (plainElem_bool Tryz.underlying4 true) ?_;intro w8 aP aG;have uT:=ap (H.o.next aP);have eC:=ap aG;clear aP aG)
 go_ret;exact⟨rfl,eC.o,_,uT.o⟩
theorem ail{N:Nat}{v0 v1:Value}{a:Act}{W:World}{Q:Ending→World→Prop}(ha:a.tmps.getD 2 undef=.pointer (some ⟨N,0,none⟩))(hK:ae W N 75 #[v0,v1])(hd:a.defers=[])(hQ:Q (.returned (.agg #[v0,v1])) W):bodyPost Tryz.prog Tryz.f33 Q .ret a W :=
 bodyPost_ret (results_cell_row (fn:=Tryz.f33) rfl a.tmps W N 75 #[v0,v1] (0,0) _ ha hK Tryz.underlying75 rfl (by kernel_rfl)) hd hQ
theorem WY(l:L)(w:World):Calls Tryz.prog 33 #[.string (aa l)] w fun e w'=>e=.returned (.agg #[.string (aa []),.string (aa l)])∧Below w.heap.size w w':=by
 have HO:=ap ((ay w (.cells #[.string (aa []),.string (aa l)] 75)))
 go_enter Tryz.func33,Tryz.ntmps33
 go_wp2;refine ail rfl (ae.new w 75 #[.string (aa []),.string (aa l)]) rfl ?_;exact⟨rfl,HO.o⟩
end
section
namespace Nf
def cls(r:Int):Int :=
 if r<0x300∨r>0x345 then 0
 else if r≤0x314∨r=0x340∨r=0x341 then 230
 else if r=0x315 then 232
 else if r≤0x319∨(r≥0x323∧r≤0x326) then 220
 else if r=0x31B then 216
 else if r=0x327∨r=0x328 then 202
 else if r=0x338 then 1
 else if r=0x345 then 240
 else 0
theorem oy(r:Int):0≤cls r∧cls r≤240:=by
 unfold cls
 repeat' split
 all_goals omega
def rowOf(mark:Int):List Int→List Int→List ((Int×Int)×Int)
 | a :: l,w :: ws=>((a,mark),w) :: rowOf mark l ws
 | _,_=>[]
def uj:List Int:=[65,69,73,79,85,97,101,105,111,117]
def Cm:List Int:=[65,69,73,79,85,89,97,101,105,111,117,121,0xEA,0xFC]
def Cn:List Int:=[65,69,73,79,85,97,101,105,111,117,0x1EB9]
def Co:List Int:=[65,78,79,97,110,111]
def Cp:List Int:=[0xFC]
def Cq:List Int:=[0x418,0x438]
def Cr:List Int:=[65,69,73,79,85,97,101,105,111,117,121,0x415,0x435]
def Ct:List Int:=[65,97]
def Cu:List Int:=[67,83,90,99,115,122]
def Cw:List Int:=[101]
def Cx:List Int:=[67,99]
def zr:List Int:=[0xC0,0xC8,0xCC,0xD2,0xD9,0xE0,0xE8,0xEC,0xF2,0xF9]
def Ot:List Int:=[0xC1,0xC9,0xCD,0xD3,0xDA,0xDD,0xE1,0xE9,0xED,0xF3,0xFA,0xFD,0x1EBF,0x1D8]
def Ou:List Int:=[0xC2,0xCA,0xCE,0xD4,0xDB,0xE2,0xEA,0xEE,0xF4,0xFB,0x1EC7]
def Ov:List Int:=[0xC3,0xD1,0xD5,0xE3,0xF1,0xF5]
def Ow:List Int:=[0x1D6]
def Ox:List Int:=[0x419,0x439]
def Oy:List Int:=[0xC4,0xCB,0xCF,0xD6,0xDC,0xE4,0xEB,0xEF,0xF6,0xFC,0xFF,0x401,0x451]
def Oz:List Int:=[0xC5,0xE5]
def OA:List Int:=[0x10C,0x160,0x17D,0x10D,0x161,0x17E]
def OB:List Int:=[0x1EB9]
def OC:List Int:=[0xC7,0xE7]
def table:List ((Int×Int)×Int) :=
 rowOf 0x300 uj zr++rowOf 0x301 Cm Ot++rowOf 0x302 Cn Ou++rowOf 0x303 Co Ov++rowOf 0x304 Cp Ow++rowOf 0x306 Cq Ox++rowOf 0x308 Cr Oy++rowOf 0x30A Ct Oz++rowOf 0x30C Cu OA++rowOf 0x323 Cw OB++rowOf 0x327 Cx OC
def ki:List (Int×Int):=[(0x340,0x300),(0x341,0x301),(0x2126,0x3A9),(0x212A,75),(0x212B,0xC5)]
def lookW(p:Int×Int):List ((Int×Int)×Int)→Option Int
 | []=>none
 | x :: l=>if x.1=p then some x.2 else lookW p l
def fj(w:Int):List ((Int×Int)×Int)→Option (Int×Int)
 | []=>none
 | x :: l=>if x.2=w then some x.1 else fj w l
def jQ(r:Int):List (Int×Int)→Option Int
 | []=>none
 | x :: l=>if x.1=r then some x.2 else jQ r l
theorem amt:(table.map (·.1)).Nodup:=by decide +kernel
theorem amx:(table.map (·.2)).Nodup:=by decide +kernel
def gA(r:Int):Bool:=decide (0xAC00≤r∧r<0xAC00+11172)
def made(r:Int):Option (Int×Int) :=
 if gA r then
  if 0<(r-0xAC00) % 28 then some (r-(r-0xAC00) % 28,0x11A7+(r-0xAC00) % 28)
  else some (0x1100+(r-0xAC00) / 28 / 21,0x1161+(r-0xAC00) / 28 % 21)
 else match fj r table with
  | some p=>some p
  | none=>(jQ r ki).map fun a=>(a,0)
def apart:Nat→Int→Option (List Int)
 | 0,_=>none
 | n+1,r=>match made r with
  | none=>some [r]
  | some (a,b)=>match apart n a with
   | none=>none
   | some l=>if b=0 then some l else (apart n b).map fun m=>l++m
theorem Wu:∀x∈table,x.2<0x1100∨(0x1E00≤x.2∧x.2<0x2000):=by decide +kernel
theorem MP{r:Int}:∀{l:List ((Int×Int)×Int)},(∀x∈l,x.2≠r)→fj r l=none
 | [],_=>rfl
 | x :: l,h=>by rw[fj,if_neg (h x (List.mem_cons_self ..))];exact MP fun y hy=>h y (List.mem_cons_of_mem _ hy)
theorem yK{r:Int}{p:Int×Int}:∀{l:List ((Int×Int)×Int)},fj r l=some p→(p,r)∈l
 | [],h=>by cases h
 | x :: l,h=>by
  rw[fj] at h
  split at h
  ·rename_i hx;cases h;subst hx;exact List.mem_cons_self ..
  exact List.mem_cons_of_mem _ (yK h)
theorem Gn{r a:Int}:∀{l:List (Int×Int)},jQ r l=some a→(r,a)∈l
 | [],h=>by cases h
 | x :: l,h=>by
  rw[jQ] at h
  split at h
  ·rename_i hx;cases h;subst hx;exact List.mem_cons_self ..
  exact List.mem_cons_of_mem _ (Gn h)
theorem MO{r:Int}:∀{l:List (Int×Int)},(∀x∈l,x.1≠r)→jQ r l=none
 | [],_=>rfl
 | x :: l,h=>by rw[jQ,if_neg (h x (List.mem_cons_self ..))];exact MO fun y hy=>h y (List.mem_cons_of_mem _ hy)
theorem ahC{r:Int}(h0:0x1100≤r)(h1:r<0x1E00):made r=none:=by
 unfold made;have h:gA r=false:=decide_eq_false (by omega)
 rw[h,MP (fun x hx=>by have:=Wu x hx;omega),MO (fun x hx=>by
  simp only[ki,List.mem_cons,List.not_mem_nil,or_false] at hx
  rcases hx with rfl|rfl|rfl|rfl|rfl<;>simp<;>omega)]
 rfl
theorem JT{n:Nat}{r:Int}(h0:0x1100≤r)(h1:r<0x1E00):apart (n+1) r=some [r]:=by rw[apart,ahC h0 h1]
theorem RF{n:Nat}{r:Int}(h:gA r=true)(hm:(r-0xAC00) % 28=0):∃l,apart (n+2) r=some l:=by
 have hr:=of_decide_eq_true h
 have e:made r=some (0x1100+(r-0xAC00) / 28 / 21,0x1161+(r-0xAC00) / 28 % 21):=by
  unfold made;rw[if_pos h,if_neg (by omega)]
 rw[apart,e];dsimp only;rw[JT (by omega) (by omega),JT (by omega) (by omega)];dsimp only;rw[if_neg (by omega)];exact⟨_,rfl⟩
theorem ab3{n:Nat}{r:Int}(h:gA r=true):∃l,apart (n+3) r=some l:=by
 have hr:=of_decide_eq_true h
 by_cases hm:0<(r-0xAC00) % 28
 ·have e:made r=some (r-(r-0xAC00) % 28,0x11A7+(r-0xAC00) % 28):=by
   unfold made;rw[if_pos h,if_pos hm]
  have h2:gA (r-(r-0xAC00) % 28)=true:=decide_eq_true (by omega);obtain⟨l,hl⟩:=RF (n:=n) h2 (by omega);rw[apart,e];dsimp only;rw[hl,JT (by omega) (by omega)];dsimp only;rw[if_neg (by omega)];exact⟨_,rfl⟩
 exact RF (n:=n+1) h (by omega)
theorem ab2:∀x∈table,(apart 3 x.1.1).isSome=true∧(apart 3 x.1.2).isSome=true:=by decide +kernel
theorem ab0:∀x∈ki,(apart 3 x.2).isSome=true:=by decide +kernel
theorem ab1(r:Int):∃l,apart 4 r=some l:=by
 by_cases h:gA r=true
 ·exact ab3 (n:=1) h
 have hf:gA r=false:=by simpa using h
 cases hm:fj r table with
 | some p=>
  have e:made r=some p:=by unfold made;rw[hf,hm];rfl
  obtain⟨h1,h2⟩:=ab2 _ (yK hm);obtain⟨l,hl⟩:=Option.isSome_iff_exists.1 h1;obtain⟨m,eN⟩:=Option.isSome_iff_exists.1 h2;dsimp only at hl eN;rw[apart,e];dsimp only;rw[hl];dsimp only;split
  ·exact⟨_,rfl⟩
  rw[eN];exact⟨_,rfl⟩
 | none=>
  cases hd:jQ r ki with
  | none=>
   have e:made r=none:=by unfold made;rw[hf,hm,hd];rfl
   exact⟨_,by rw[apart,e]⟩
  | some a=>
   have e:made r=some (a,0):=by unfold made;rw[hf,hm,hd];rfl
   obtain⟨l,hl⟩:=Option.isSome_iff_exists.1 (ab0 _ (Gn hd));dsimp only at hl;exact⟨l,by rw[apart,e];dsimp only;rw[hl];rfl⟩
def parts(r:Int):List Int:=(apart 4 r).getD []
theorem GF(r:Int):apart 4 r=some (parts r):=by
 obtain⟨l,hl⟩:=ab1 r;unfold parts;rw[hl];rfl
def whole(a b:Int):Option Int :=
 if (0x1100≤a∧a<0x1100+19)∧(0x1161≤b∧b<0x1161+21) then some (0xAC00+((a-0x1100)*21+b-0x1161)*28)
 else if gA a=true∧(a-0xAC00) % 28=0∧(0x11A8≤b∧b<0x11A8+27) then some (a+b-0x11A7)
 else lookW (a,b) table
def marks(l:List Int):List Int:=l.takeWhile fun r=>decide (0<cls r)
def runs:Nat→List Int→List (List Int)
 | 0,_=>[]
 | _+1,[]=>[]
 | n+1,r :: l=>(r :: marks l) :: runs n (l.drop (marks l).length)
def ins(x:Int):List Int→List Int
 | []=>[x]
 | y :: l=>if cls x<cls y then x :: y :: l else y :: ins x l
def az(l:List Int):List Int:=l.foldl (fun acc x=>ins x acc) []
def sort(l:List Int):List Int:=(runs (l.length+1) l).flatMap az
structure Cs where
 o:List Int
 st:Int
 hi:Int
def gN(s:Cs)(r:Int):Cs :=
 match (if 0≤s.st∧s.hi<cls r then whole (s.o.getD s.st.toNat 0) r else none) with
 | some w=>⟨s.o.set s.st.toNat w,s.st,s.hi⟩
 | none=>if cls r=0 then ⟨s.o++[r],s.o.length,-1⟩ else ⟨s.o++[r],s.st,max s.hi (cls r)⟩
def compose(l:List Int):List Int:=(l.foldl gN ⟨[],-1,-1⟩).o
end Nf
end
section
open Go.RowKit

theorem EA(r:Int)(w:World):Calls Tryz.prog 182 #[.int .i64 r] w fun e w'=>e=.returned (.int .i64 (Nf.cls r))∧w'=w:=by
 obtain⟨c,hc⟩:∃c,Nf.cls r=c:=⟨_,rfl⟩;rw[hc];unfold Nf.cls at hc
 by_cases h1:r<0x300∨r>0x345
 ·rw[if_pos h1] at hc;subst hc
  rcases h1 with h1|h1
  ·skip
   have g0:r<768:=by omega
   clear h1
   go_enter Tryz.func182,Tryz.ntmps182
   go_wp2;go_ret;exact⟨rfl,rfl⟩
  skip
  have g0:¬r<768:=by omega
  have g1:837<r:=by omega
  clear h1
  go_enter Tryz.func182,Tryz.ntmps182
  go_wp2;go_ret;exact⟨rfl,rfl⟩
 rw[if_neg h1] at hc
 by_cases h2:r≤0x314∨r=0x340∨r=0x341
 ·rw[if_pos h2] at hc;subst hc
  rcases h2 with h2|h2|h2
  ·skip
   have g0:¬r<768:=by omega
   have g1:¬837<r:=by omega
   have g2:r≤788:=by omega
   clear h1 h2
   go_enter Tryz.func182,Tryz.ntmps182
   go_wp2;go_ret;exact⟨rfl,rfl⟩
  ·subst h2;clear h1
   go_enter Tryz.func182,Tryz.ntmps182
   go_wp2;go_ret;exact⟨rfl,rfl⟩
  subst h2;clear h1
  go_enter Tryz.func182,Tryz.ntmps182
  go_wp2;go_ret;exact⟨rfl,rfl⟩
 rw[if_neg h2] at hc
 by_cases h3:r=0x315
 ·rw[if_pos h3] at hc;subst hc;subst h3;clear h1 h2
  go_enter Tryz.func182,Tryz.ntmps182
  go_wp2;go_ret;exact⟨rfl,rfl⟩
 rw[if_neg h3] at hc
 by_cases h4:r≤0x319∨(r≥0x323∧r≤0x326)
 ·rw[if_pos h4] at hc;subst hc
  rcases h4 with h4|h4
  ·skip
   have g0:¬r<768:=by omega
   have g1:¬837<r:=by omega
   have g2:¬r≤788:=by omega
   have g3:¬r=832:=by omega
   have g4:¬r=833:=by omega
   have g5:¬r=789:=by omega
   have g6:r≤793:=by omega
   clear h1 h2 h3 h4
   go_enter Tryz.func182,Tryz.ntmps182
   go_wp2;go_ret;exact⟨rfl,rfl⟩
  skip
  have g0:¬r<768:=by omega
  have g1:¬837<r:=by omega
  have g2:¬r≤788:=by omega
  have g3:¬r=832:=by omega
  have g4:¬r=833:=by omega
  have g5:¬r=789:=by omega
  have g6:¬r≤793:=by omega
  have g7:803≤r:=by omega
  have g8:r≤806:=by omega
  clear h1 h2 h3 h4
  go_enter Tryz.func182,Tryz.ntmps182
  go_wp2;go_ret;exact⟨rfl,rfl⟩
 rw[if_neg h4] at hc
 by_cases h5:r=0x31B
 ·rw[if_pos h5] at hc;subst hc;subst h5;clear h1 h2 h3 h4
  go_enter Tryz.func182,Tryz.ntmps182
  go_wp2;go_ret;exact⟨rfl,rfl⟩
 rw[if_neg h5] at hc
 by_cases h6:r=0x327∨r=0x328
 ·rw[if_pos h6] at hc;subst hc
  rcases h6 with h6|h6
  ·subst h6;clear h1 h2 h3 h4 h5
   go_enter Tryz.func182,Tryz.ntmps182
   go_wp2;go_ret;exact⟨rfl,rfl⟩
  subst h6;clear h1 h2 h3 h4 h5
  go_enter Tryz.func182,Tryz.ntmps182
  go_wp2;go_ret;exact⟨rfl,rfl⟩
 rw[if_neg h6] at hc
 by_cases h7:r=0x338
 ·rw[if_pos h7] at hc;subst hc;subst h7;clear h1 h2 h3 h4 h5 h6
  go_enter Tryz.func182,Tryz.ntmps182
  go_wp2;go_ret;exact⟨rfl,rfl⟩
 rw[if_neg h7] at hc
 by_cases h8:r=0x345
 ·rw[if_pos h8] at hc;subst hc;subst h8;clear h1 h2 h3 h4 h5 h6 h7
  go_enter Tryz.func182,Tryz.ntmps182
  go_wp2;go_ret;exact⟨rfl,rfl⟩
 rw[if_neg h8] at hc;subst hc;have g0:¬r<768:=by omega
 have g1:¬837<r:=by omega
 have g2:¬r≤788:=by omega
 have g3:¬r=832:=by omega
 have g4:¬r=833:=by omega
 have g5:¬r=789:=by omega
 have g6:¬r≤793:=by omega
 have g7:¬r=795:=by omega
 have g8:¬r=807:=by omega
 have g9:¬r=808:=by omega
 have g10:¬r=824:=by omega
 have g11:¬r=837:=by omega
 by_cases hx:803≤r
 ·have g20:¬r≤806:=by omega
  clear h1 h2 h3 h4 h5 h6 h7 h8
  go_enter Tryz.func182,Tryz.ntmps182
  go_wp2;go_ret;exact⟨rfl,rfl⟩
 clear h1 h2 h3 h4 h5 h6 h7 h8
 go_enter Tryz.func182,Tryz.ntmps182
 go_wp2;go_ret;exact⟨rfl,rfl⟩
theorem MC(r a n:Int)(w:World)(h:IntKind.i64.wrap (a+n)=a+n):Calls Tryz.prog 213 #[.int .i64 r,.int .i64 a,.int .i64 n] w fun e w'=>e=.returned (.bool (decide (a≤r∧r<a+n)))∧w'=w:=by
 by_cases h1:a≤r
 ·rw[show decide (a≤r∧r<a+n)=decide (r<a+n) by simp[h1]]
  go_enter Tryz.func213,Tryz.ntmps213
  go_wp2;go_ret;exact⟨rfl,rfl⟩
 rw[show decide (a≤r∧r<a+n)=false by simp[h1]]
 go_enter Tryz.func213,Tryz.ntmps213
 go_wp2;go_ret;exact⟨rfl,rfl⟩
theorem Uf(r:Int)(w:World):Calls Tryz.prog 214 #[.int .i64 r] w fun e w'=>e=.returned (.bool (Nf.gA r))∧w'=w:=by
 unfold Nf.gA
 by_cases h1:44032≤r
 ·rw[show decide (0xAC00≤r∧r<0xAC00+11172)=decide (r<55204) by simp[h1]]
  go_enter Tryz.func214,Tryz.ntmps214
  go_wp2;go_ret;exact⟨rfl,rfl⟩
 rw[show decide (0xAC00≤r∧r<0xAC00+11172)=false by simp[h1]]
 go_enter Tryz.func214,Tryz.ntmps214
 go_wp2;go_ret;exact⟨rfl,rfl⟩
theorem Es(a b:Int)(w:World):Calls Tryz.prog 187 #[.int .i64 a,.int .i64 b] w fun e w'=>e=.returned (.int .i64 (Nf.cls a-Nf.cls b))∧w'=w:=by
 have HA:=ap (fun W=>EA a W);have HB:=ap (fun W=>EA b W);have hw:IntKind.i64.wrap (Nf.cls a-Nf.cls b)=Nf.cls a-Nf.cls b:=IntWalk.i64_in _ (by have:=Nf.oy a;have:=Nf.oy b;omega);generalize Nf.cls a=ca at *
 generalize Nf.cls b=cb at *
 go_enter Tryz.func187,Tryz.ntmps187
 go_wp2_with fail
 refine cq (HA.o _) ?_
 go_wp2_with fail
 refine cq (HB.o _) ?_
 go_wp2;go_ret;exact⟨rfl,rfl⟩
end
end Go.Proofs.YtpdkeckeekchlaaGreatDoor
