/- events.First: the first child of a name. And more. -/
import Derived.Test.YtifiiojchlaghaaGreatDoorOm00
import Derived.Test.YtifiiojchlaghaaGreatDoorOm01
import Derived.Test.YtifiiojchlaghaaGreatDoorOm16
import Derived.Test.YtifiiojchlaghaaGreatDoorOm20
import Derived.Test.YtifiiojchlaghaaGreatDoorOm21
import Derived.Shelf.RegionOpen
set_option linter.unusedSimpArgs false
set_option maxRecDepth 100000
set_option maxHeartbeats 8000000
set_option linter.unusedVariables false
namespace Go.Proofs.YtifiiojchlaghaaGreatDoor
section
open Go.RowKit Go.Shelf Tk Sx Go.WideShapes

attribute [local go_sem] Oper.semAt_some

namespace Evs
def sQ(l:List Ev)(n:Nm)(ks:List Nat):Option Nat:=ks.find? fun k=>decide (kL l k=n)
end Evs
def Q9(o:Option Nat):Value:=match o with
 | some k=>.tuple #[.int .i64 (k:Int),.bool true]
 | none=>.tuple #[.int .i64 0,.bool false]
theorem aeT{w:World}{L:List Nat}(hL:∀k∈L,k<w.heap.size)(W:World)(l:Nat)(o o':Obj)(hl:w.heap.size≤l)(_:W.heap[l]?=some o)(_:o.isCells=false)(_:o.isWalk=false):mU L W (W.putObj l o') :=
 fun k hk=>World.putObj_heap_other (by have:=hL k hk;omega)
theorem mV{X:World}{B:Nat}{t:TypeId}{cs:Array Value}{row:Option Nat}{n:Nat}(aj:∀r,row=some r→n≤r∧∃o:Obj,X.heap[r]?=some o∧o.isCells=false)(h:ae X B t cs):some B≠row:=fun e=>by
 obtain⟨_,o,ho,hc⟩:=aj _ e.symm;rw[show X.heap[_]?=_ from h] at ho;cases ho;cases hc
structure wH(w:World)(v:Value)(n:Nm)(W:World):Prop where
 l:ae W w.heap.size 50 #[v]
 n:ae W (w.heap.size+1) 57 #[.string (aa n.ns),.string (aa n.loc)]
 b:Below w.heap.size w W
theorem wH.kept{w X Y:World}{v:Value}{n:Nm}{row:Option Nat}{z:Nat}(h:wH w v n X)(hz:w.heap.size≤z)(hg:X.grownBy Y row)(aj:∀r,row=some r→z≤r∧∃o:Obj,X.heap[r]?=some o∧o.isCells=false):wH w v n Y :=
 ⟨h.l.grown hg (mV aj h.l),h.n.grown hg (mV aj h.n),h.b.grown hg h.b.size (fun k e=>by have:=(aj k e).1;omega)⟩
def Cj(w:World)(v:Value)(n:Nm)(l:List Ev){N:Nat}(pre:List (Kd N))(W:World):Prop :=
 (∀p∈pre,Evs.kL l p.1≠n)∧(∃u,ae W (w.heap.size+1+1) 3 #[u])∧(∃u,ae W (w.heap.size+1+1+1) 4 #[u])∧wH w v n W
def FN(w:World)(v:Value)(n:Nm)(l:List Ev){N:Nat}(c:Code)(pre:List (Kd N))(W:World):Prop :=
 c=.ret∧∃iF x,pre=iF++[x]∧(∀p∈iF,Evs.kL l p.1≠n)∧Evs.kL l x.1=n∧ae W (w.heap.size+1+1) 3 #[.int .i64 (x.1:Int)]∧ae W (w.heap.size+1+1+1) 4 #[.bool true]∧wH w v n W
theorem XU(w:World)(v:Value)(n:Nm)(l:List Ev){N z:Nat}(hz:w.heap.size≤z):OwnFrom z (Cj w v n l (N:=N)):=by
 rintro s X Y row ⟨h1,⟨u,hu⟩,⟨u2,bH⟩,h3⟩ hg aj;exact⟨h1,⟨u,hu.grown hg (mV aj hu)⟩,⟨u2,bH.grown hg (mV aj bH)⟩,h3.kept hz hg aj⟩
theorem XV(w:World)(v:Value)(n:Nm)(l:List Ev){N z:Nat}(hz:w.heap.size≤z)(c:Code):OwnFrom z (FN w v n l (N:=N) c):=by
 rintro s X Y row ⟨h1,p,x,h2,h4,h5,hu,bH,h3⟩ hg aj;exact⟨h1,p,x,h2,h4,h5,hu.grown hg (mV aj hu),bH.grown hg (mV aj bH),h3.kept hz hg aj⟩
theorem XP(xs:List Ew)(A:Option Addr)(c B i:Nat)(x:Ew)(n:Nm)(w:World)(h:nK w B A c xs)(hx:xs[i]?=some x)(hk:x.e.kind=0) :
  Calls Tryz.prog 22 #[.slice A xs.length c,.int .i64 (i:Int),.agg #[.string (aa n.ns),.string (aa n.loc)]] w fun e w'=>e=.returned (Q9 (Evs.sQ (xs.map (·.e)) n (Evs.rH (xs.map (·.e)) i)))∧Below w.heap.size w w':=by
 refine (callsIn_wide (n:=5)).1 ?_;refine callsIn_of_wp_marks Tryz.func22 rfl trivial ?_ rfl;simp only[Tryz.ntmps22,List.size_toArray,List.length_cons,List.length_nil,Nat.reduceAdd,Nat.reduceSub,Array.replicate_succ,Array.replicate_zero,List.push_toArray,List.append_toArray,List.nil_append,List.cons_append];have xq:=fun W (hb:Below w.heap.size w W)=>Iz xs A c B i x W (h.go hb) hx hk;have fC:=hide xq;clear xq;have hl:=h.l;have tB:=(List.getElem?_eq_some_iff.1 hx).1;have bC:=h.s.len;have im:=h.hB;have HL:=hide hl;have Ct:=hide (Evs.MK (xs.map (·.e)) (xs.map (·.e)).length);rw[List.length_map] at Ct;have mO:=hide (show Evs.rH (xs.map (·.e)) i=Evs.iV (Evs.gT (xs.map (·.e))) ((Evs.bO i (Evs.gT (xs.map (·.e)))).getD 0) xs.length (i+1) by unfold Evs.rH Evs.uT;rw[List.length_map]);have F4:=hide (show Evs.gT (xs.map (·.e))=(Evs.upto (xs.map (·.e)) xs.length).2 by unfold Evs.gT;rw[List.length_map]);have fY:=hide (fun k (hk:k<xs.length)=>(show ∃y,xs[k]?=some y from⟨_,List.getElem?_eq_getElem hk⟩));obtain⟨N,hN⟩:∃N,xs.length=N:=⟨_,rfl⟩;rw[hN] at fC tB bC Ct mO F4 fY ⊢;clear hl h hx hk hN
 have cd:=hide (((((aA w (.cells #[.slice A N c] 50)).alloc (by simp) (.cells #[.string (aa n.ns),.string (aa n.loc)] 57)).alloc (by simp;omega) (.cells #[.int .i64 0] 3)).alloc (by simp;omega) (.cells #[.bool false] 4)));have f0:=(((ae.new w 50 #[.slice A N c]).alloc (.cells #[.string (aa n.ns),.string (aa n.loc)] 57)).alloc (.cells #[.int .i64 0] 3)).alloc (.cells #[.bool false] 4);have f1:=((ae.new (w.alloc (.cells #[.slice A N c] 50)) 57 #[.string (aa n.ns),.string (aa n.loc)]).alloc (.cells #[.int .i64 0] 3)).alloc (.cells #[.bool false] 4);have f2:=(ae.new ((w.alloc (.cells #[.slice A N c] 50)).alloc (.cells #[.string (aa n.ns),.string (aa n.loc)] 57)) 3 #[.int .i64 0]).alloc (.cells #[.bool false] 4);have f3:=ae.new (((w.alloc (.cells #[.slice A N c] 50)).alloc (.cells #[.string (aa n.ns),.string (aa n.loc)] 57)).alloc (.cells #[.int .i64 0] 3)) 4 #[.bool false];have pT:((((w.alloc (.cells #[.slice A N c] 50)).alloc (.cells #[.string (aa n.ns),.string (aa n.loc)] 57)).alloc (.cells #[.int .i64 0] 3)).alloc (.cells #[.bool false] 4)).heap.size=w.heap.size+4:=by simp
 rw[World.size_alloc] at f1;rw[World.size_alloc,World.size_alloc] at f2;rw[World.size_alloc,World.size_alloc,World.size_alloc] at f3;obtain⟨W4,JU⟩:∃W,(((w.alloc (.cells #[.slice A N c] 50)).alloc (.cells #[.string (aa n.ns),.string (aa n.loc)] 57)).alloc (.cells #[.int .i64 0] 3)).alloc (.cells #[.bool false] 4)=W:=⟨_,rfl⟩;have OB:=hide JU;have Nw:=hide (fC.out _ cd.out);rw[JU] at cd f0 f1 f2 f3 pT;have F0:=hide f0;have F1:=hide f1;have F2:=hide f2;have F3:=hide f3;clear JU f0 f1 f2 f3
 gi_wp2_with (refine⟨trivial,?_⟩;gi_at_call 41;refine (callsIn_wide.2 Nw.out).mono ?_;rintro e w2 ⟨ag,T,mb,rfl,hT⟩)
 rw[OB.out] at ag hT;obtain⟨hT1,adO,⟨d,rA⟩,nn,D,hm,amH⟩:=hT;have ah:=hide (cd.out.trans (ag.mono cd.out.size));have G0:=hide (F0.out.go ag);have G1:=hide (F1.out.go ag);have G2:=hide (F2.out.go ag);have G3:=hide (F3.out.go ag);have hz2:w.heap.size+4≤w2.heap.size:=by have:=ag.size;omega
 rw[pT] at hT1 adO;clear ag F0 F1 F2 F3 Nw OB cd fC pT
 gi_wp2_with (refine⟨trivial,?_⟩;gi_at_call 42;refine (callsIn_wide.2 (ae1 T i _)).mono ?_;rintro e w3 ⟨rfl,hw3⟩)
 obtain⟨R,hR⟩:∃R,w2.heap.size=R:=⟨_,rfl⟩;have sY:Below w2.heap.size w2 w3:=by rw[hw3];exact (aA w2 _).trans ((aA _ _).mono (by simp))
 have vp:w3.cell? ⟨R,0,none⟩=some (.pointer (some ⟨T,0,none⟩)):=by
  have:=((ae.new w2 91 #[.pointer (some ⟨T,0,none⟩)]).alloc (.cells #[.int .i64 (i:Int)] 3)).cell 0;rw[←hw3,hR] at this;exact this
 have pI:w3.cell? ⟨R+1,0,none⟩=some (.int .i64 (i:Int)):=by
  have:=(ae.new (w2.alloc (.cells #[.pointer (some ⟨T,0,none⟩)] 91)) 3 #[.int .i64 (i:Int)]).cell 0;rw[World.size_alloc,←hw3,hR] at this;exact this
 have hz3:w3.heap.size=R+2:=by rw[hw3,←hR];simp
 have ax:=hide (ah.out.trans (sY.mono ah.out.size));have Ru:wH w (.slice A N c) n w3:=⟨G0.out.go sY,G1.out.go sY,ax.out⟩;have sU:Cj w (.slice A N c) n (xs.map (·.e)) (N:=N) [] w3:=⟨(fun p hp=>by cases hp),⟨_,G2.out.go sY⟩,⟨_,G3.out.go sY⟩,Ru⟩;have cF:=rA.go sY;have xM:=hm.same (sY.block _ hm.lt);rw[←hw3];have ac3:=rA.lt;have adR:=hm.lt;rw[hR];have eX:=hide sU;have hfw:Evs.Ck (Evs.gT (xs.map (·.e))):=by rw[F4.out];exact Ct.out.1
 have pL:∀p k,Evs.bO p (Evs.gT (xs.map (·.e)))=some k→k<N:=by rw[F4.out];exact Ct.out.2
 have kz:(Evs.bO i (Evs.gT (xs.map (·.e)))).getD 0≤N:=by
  cases he:Evs.bO i (Evs.gT (xs.map (·.e))) with
  | none=>exact Nat.zero_le _
  | some k=>have:=pL i k he;show k≤N;omega
 have hst:=ae2 (5-1) (by omega) (R+1) R T mb i nn A N c d (Evs.gT (xs.map (·.e))) D tB bC hfw pL kz w3 pI vp cF xM;have bf:=hide hst;have EO:w.heap.size≤w3.heap.size:=ax.out.size;rw[hR] at ac3 adR hz2;clear hw3 sY Ru sU cF xM hfw pL kz hst rA hm pI vp hR G0 G1 G2 G3 ah
 refine wpIn_rangeFunc_ownG rfl (by omega) (gf:=68) (lb:=#[.pointer (some ⟨R+1,0,none⟩),.pointer (some ⟨R,0,none⟩)]) rfl trivial (enters_of Tryz.func68 (by kernel_rfl) rfl)
  bf.out mU.trans (aeT (by simp;omega)) (Below.refl _ _) (fun _=>rfl)
  (Cj w (.slice A N c) n (xs.map (·.e))) (FN w (.slice A N c) n (xs.map (·.e))) (XU w _ n _ EO) (fun c'=>XV w _ n _ EO c')
  eX.out
  (fun x=>{ tmps:=#[.slice A N c,.int .i64 (i:Int),.agg #[.string (aa n.ns),.string (aa n.loc)],.pointer (some ⟨w.heap.size,0,none⟩),undef,.pointer (some ⟨w.heap.size+1,0,none⟩),.pointer (some ⟨w.heap.size+1+1,0,none⟩),.pointer (some ⟨w.heap.size+1+1+1,0,none⟩),
   .pointer (some ⟨T,0,none⟩),.int .i64 (x.1:Int),.slice A N c,.int .i64 (i:Int),.pointer (some ⟨T,0,none⟩),.pointer (some ⟨T,0,none⟩),.bool false,.pointer (some ⟨T,0,none⟩),.int .i64 (i:Int),
   .func (.func 68) #[] #[.pointer (some ⟨R+1,0,none⟩),.pointer (some ⟨R,0,none⟩)],.int .i64 (x.1:Int),undef,undef,undef,undef,undef,undef,undef,undef],defers:=[] }) ?assign ?body ?done ?stop
 case assign=>
  intro l x W K hK;gi_wp2;exact hK
 case body=>
  rintro l pre x W ⟨hp,⟨u,hu⟩,⟨u2,bH⟩,hC⟩ hlen;have HP:=hide hp;have HC:=hide hC;obtain⟨y,hy⟩:=fY.out x.1 x.2;have jw:=x.2;obtain⟨b,off,eA,jl,rF⟩:=(HL.out.below (hC.b.mono im)).at_ hy;subst eA;have dh:Evs.kL (xs.map (·.e)) x.1=y.e.name:=by unfold Evs.kL;rw[List.getElem?_map,hy];rfl
  have y1:=rF.c1;have y2:=rF.c2;have c0:=hC.l.cell 0;have n0:=hC.n.cell 0;have n1:=hC.n.cell 1;have hE:=fun W=>DA W y.e.name n;have hxx:(0:Int)≤x.1∧(x.1:Int)<N:=by omega
  have eY:=hide dh;have HU:=hide hu;have HU2:=hide bH;have tF:Tryz.prog.follows .mixedOrders=true:=by kernel_rfl
  have jn:Below w.heap.size w W.drew:=below_drewN hC.b 1;have Ah:W.drew.heap=W.heap:=rfl
  cases hq:fL y.e.name n with
  | false=>
   simp only[hq] at hE;have hne:Evs.kL (xs.map (·.e)) x.1≠n:=fun e=>by rw[eY.out] at e;rw[(zO _ _).2 e] at hq;cases hq
   have HF:=hide (show KeepsFrom w3.heap.size W W.drew∧mU [R+1,R,T,mb] W W.drew∧Cj w (.slice (some ⟨b,off,none⟩) N c) n (xs.map (·.e)) (pre++[x]) W.drew from⟨(KeepsOthers.drew W).from _,fun _ _=>rfl,fun p hp=>by
    rcases List.mem_append.1 hp with hp|hp
    ·exact HP.out p hp
    rw[show p=x by simpa using hp];exact hne,⟨u,hu⟩,⟨u2,bH⟩,hC.l,hC.n,jn⟩)
   clear hp hC hy rF dh hu bH hq hne jn Ah;gi_wp2
   gi_region_with_o (fail)
   all_goals (gi_wp2;exact HF.out)
  | true=>
   simp only[hq] at hE;have heq:=hide (show Evs.kL (xs.map (·.e)) x.1=n from by rw[eY.out];exact (zO _ _).1 hq);have cU:=hu.cell 0;have bk:=bH.cell 0;have ni:=hu.frozen 0;have xE:=bH.frozen 0
   have HF:=hide (show FN w (.slice (some ⟨b,off,none⟩) N c) n (xs.map (·.e)) .ret (pre++[x]) ((W.drew.setCell ⟨w.heap.size+1+1,0,none⟩ (.int .i64 (x.1:Int))).setCell ⟨w.heap.size+1+1+1,0,none⟩ (.bool true)) from by
    refine⟨rfl,pre,x,rfl,HP.out,heq.out,?_,?_,?_,?_,?_⟩
    ·exact (hu.drew.aG 0 (.int .i64 (x.1:Int))).far (by dsimp only;omega) _
    ·exact ((bH.drew.far (by dsimp only;omega) _).aG 0 _)
    ·exact (hC.l.drew.far (by dsimp only;omega) _).far (by dsimp only;omega) _
    ·exact (hC.n.drew.far (by dsimp only;omega) _).far (by dsimp only;omega) _
    exact (jn.setCell (p:=⟨w.heap.size+1+1,0,none⟩) (by dsimp only;omega) _).setCell (p:=⟨w.heap.size+1+1+1,0,none⟩) (by dsimp only;omega) _)
   have amR:w.heap.size+1+1<W.heap.size:=hu.lt;have amS:w.heap.size+1+1+1<W.heap.size:=bH.lt;clear hp hC hy rF dh hu bH hq jn Ah;gi_wp2
   gi_region_with_o (fail)
   all_goals (gi_wp2;exact⟨(((KeepsOthers.drew W).trans (KeepsOthers.setCell _ _ _)).trans (KeepsOthers.setCell _ _ _)).from _,HF.out⟩)
 case done=>
  rintro D ys W hD ew ⟨hp,⟨v,hv⟩,⟨u,hu⟩,hC⟩ hK;have hc:=hv.cell 0;have hf:=hv.frozen 0;have hc':=hu.cell 0;have vx:=hu.frozen 0
  have Hn:=hide (show Evs.sQ (xs.map (·.e)) n (Evs.rH (xs.map (·.e)) i)=none from by
   rw[mO.out,←ew]
   exact List.find?_eq_none.2 fun k hk=>by
    obtain⟨p,KB,rfl⟩:=List.mem_map.1 hk;simp[hp p KB])
  clear ew hp;gi_wp2;have c7:=(hv.aG 0 (.int .i64 0)).far (p:=⟨w.heap.size+1+1+1,0,none⟩) (by dsimp only;omega) (.bool false);have bH:=(hu.far (p:=⟨w.heap.size+1+1,0,none⟩) (by dsimp only;omega) (.int .i64 0)).aG 0 (.bool false);have gF:=((KeepsOthers.setCell W ⟨w.heap.size+1+1,0,none⟩ (.int .i64 0)).trans (KeepsOthers.setCell _ ⟨w.heap.size+1+1+1,0,none⟩ (.bool false))).same D _ hK rfl;refine⟨by simp,.inl ⟨_,_,rfl,run_takeDeferred gF,?_⟩⟩;have bk:=cell_kept (c7.cell 0) (grownBy_putObj' _ D (.deferred none)) (fun r e=>by cases e;exact⟨_,gF,rfl⟩);have Ar:=cell_kept (bH.cell 0) (grownBy_putObj' _ D (.deferred none)) (fun r e=>by cases e;exact⟨_,gF,rfl⟩);refine⟨.tuple #[.int .i64 0,.bool false],?_,?_⟩
  ·simp[results,Tryz.results22,go_sem,bk,Ar]
  exact⟨by rw[Hn.out];rfl,((hC.b.setCell (p:=⟨w.heap.size+1+1,0,none⟩) (by dsimp only;omega) _).setCell (p:=⟨w.heap.size+1+1+1,0,none⟩) (by dsimp only;omega) _).trans (belowK_b (w:=w) (Nat.le_refl _) _ D _ _ (by omega) gF rfl rfl)⟩
 case stop=>
  rintro D c' pre W hD ⟨rest,hsp⟩ ⟨rfl,iF,x,rfl,hp,hx,hv,hu,hC⟩ hK;have hc:=hv.cell 0;have hf:=hv.frozen 0;have hc':=hu.cell 0;have vx:=hu.frozen 0
  have Hn:=hide (show Evs.sQ (xs.map (·.e)) n (Evs.rH (xs.map (·.e)) i)=some x.1 from by
   rw[mO.out,←hsp,List.map_append,List.append_assoc];unfold Evs.sQ
   rw[List.find?_append,List.find?_eq_none.2 (fun k hk=>by
    obtain⟨p,KB,rfl⟩:=List.mem_map.1 hk;simp[hp p KB])]
   simp[hx])
  clear hsp hp hx;gi_wp2;refine⟨by simp,.inl ⟨_,_,rfl,run_takeDeferred hK,?_⟩⟩;have bk:=cell_kept (hv.cell 0) (grownBy_putObj' _ D (.deferred none)) (fun r e=>by cases e;exact⟨_,hK,rfl⟩);have Ar:=cell_kept (hu.cell 0) (grownBy_putObj' _ D (.deferred none)) (fun r e=>by cases e;exact⟨_,hK,rfl⟩);refine⟨.tuple #[.int .i64 (x.1:Int),.bool true],?_,?_⟩
  ·simp[results,Tryz.results22,go_sem,bk,Ar]
  exact⟨by rw[Hn.out];rfl,hC.b.trans (belowK_b (w:=w) (Nat.le_refl _) _ D _ _ (by omega) hK rfl rfl)⟩
end
section
open Go.RowKit Go.Shelf Tk Sx Go.WideShapes

attribute [local go_sem] Oper.semAt_some

namespace Opm
def hit(l:List Ev)(n:Nm)(k:Nat):Bool:=match l[k]? with
 | some e=>decide (e.kind=0)&&fL e.name n
 | none=>false
def od(l:List Ev)(n:Nm)(en:Nat):Nat→Nat→List Nat
 | 0,_=>[]
 | f+1,k=>if k<en then (if hit l n k=true then k :: od l n en f (k+1) else od l n en f (k+1)) else []
def mY(l:List Ev)(n:Nm)(i:Nat):List Nat:=od l n (Evs.uT l i) l.length i
end Opm
abbrev Ke(N:Nat)(l:List Ev)(n:Nm):={ x:Nat // x<N∧Opm.hit l n x=true }
def jf(B:Nat)(L:List Nat)(W W':World):Prop:=Below B W W'∧mU L W W'
theorem jf.trans{B:Nat}{L:List Nat}{X Y Z:World}(h:jf B L X Y)(k:jf B L Y Z):jf B L X Z:=⟨h.1.trans k.1,h.2.trans k.2⟩
theorem jf.refl(B:Nat)(L:List Nat)(W:World):jf B L W W:=⟨Below.refl _ _,fun _ _=>rfl⟩
def Yd(p a b:Prop):Prop:=(p∧a)∨(¬p∧b)
theorem abP(n:Nat)(hn:1≤n)(l Lb Ab Nb i B:Nat)(A:Option Addr)(c N:Nat)(xs:List Ew)(x:Ew)(nm:Nm)(hN:xs.length=N)
  (J Jx:List (Ke N (xs.map (·.e)) nm)→World→Prop) (W:World) (hJ:AbidesFrom W.heap.size J)
  (hY:∀(pre:List (Ke N (xs.map (·.e)) nm)) (x:Ke N (xs.map (·.e)) nm) (W:World),J pre W→pre.length<N→YieldAt Fence.wide (n-1) Tryz.prog l #[.int .i64 (x.1:Int)] W fun e W'=>
   (e=.returned (.bool true)∧J (pre++[x]) W'∧jf B [Lb,Ab,Nb] W W')∨(e=.returned (.bool false)∧Jx (pre++[x]) W'))
  (hE:nK W B A c xs) (hx:xs[i]?=some x) (hk:x.e.kind=0)
  (xx:ae W Lb 50 #[.slice A N c]) (xp:ae W Ab 3 #[.int .i64 (i:Int)]) (z8:ae W Nb 57 #[.string (aa nm.ns),.string (aa nm.loc)]) (h0:J [] W) :
  CallsIn Fence.wide n Tryz.prog 43 #[.func (.yield l) #[] #[],.pointer (some ⟨Lb,0,none⟩),.pointer (some ⟨Ab,0,none⟩),.pointer (some ⟨Nb,0,none⟩)] W fun e W'=>(∃v,e=.returned v)∧
   ((∃ys:List (Ke N (xs.map (·.e)) nm),ys.map (·.1)=Opm.mY (xs.map (·.e)) nm i∧J ys W')∨(∃pre:List (Ke N (xs.map (·.e)) nm),(∃rest,pre.map (·.1)++rest=Opm.mY (xs.map (·.e)) nm i)∧Jx pre W')):=by
 refine callsIn_of_wp Tryz.func43 rfl trivial ?_ rfl;simp only[Tryz.ntmps43,List.size_toArray,List.length_cons,List.length_nil,Nat.reduceAdd,Nat.reduceSub,Array.replicate_succ,Array.replicate_zero,List.push_toArray,List.append_toArray,List.nil_append,List.cons_append]
 have pL:∀p k,Evs.bO p (Evs.gT (xs.map (·.e)))=some k→k<N:=by
  have:=(Evs.MK (xs.map (·.e)) (xs.map (·.e)).length).2;rw[List.length_map,hN] at this;unfold Evs.gT;rwa[List.length_map,hN]
 obtain⟨en,hen⟩:∃en,Evs.uT (xs.map (·.e)) i=en:=⟨_,rfl⟩
 have kz:en≤N:=by
  rw[←hen];unfold Evs.uT
  cases he:Evs.bO i (Evs.gT (xs.map (·.e))) with
  | none=>exact Nat.zero_le _
  | some k=>have:=pL i k he;show k≤N;omega
 obtain⟨all,hall⟩:∃all,Opm.mY (xs.map (·.e)) nm i=all:=⟨_,rfl⟩;have hst:Opm.od (xs.map (·.e)) nm en N i=all:=by rw[←hall,←hen,←hN];unfold Opm.mY;rw[List.length_map]
 have HE:=hide (XN xs A c B i x W hE hx hk);have AE:i<N:=by have:=(List.getElem?_eq_some_iff.1 hx).1;omega
 rw[hN,hen] at HE;rw[hall];have bC:=hE.s.len;rw[hN] at bC;have l5:=hide hst;have HJ:=hide hJ;have NL:=hide hE;have fY:=hide (fun k (hk:k<N)=>(show ∃y,xs[k]?=some y from⟨_,List.getElem?_eq_getElem (by omega)⟩));have l0:=xx.cell 0;have a0:=xp.cell 0;have lL:=xx.lt;have lA:=xp.lt;have lN:=z8.lt;have HL:=hide xx;have HA:=hide xp;have HN:=hide z8;have H0:=hide h0;clear hall hen hst hJ hE hx hk xx xp z8 h0 pL hN
 gi_wp2_with (refine⟨trivial,?_⟩;gi_at_call 44;refine (callsIn_wide.2 HE.out).mono ?_;rintro e w2 ⟨rfl,ag⟩;have a2:=(HA.out.go ag).cell 0)
 have kS:=hide (HJ.out [] W w2 none H0.out (cR ag none) (fun r e=>by cases e));have X9:=hide (NL.out.go ag);have si:=hide (HL.out.go ag);have Yp:=hide (HN.out.go ag);have hsz:=ag.size;have N5:=hide (show AbidesFrom w2.heap.size J from fun s X Y row hs hg hr=>HJ.out s X Y row hs hg (fun r e=>⟨Nat.le_trans hsz (hr r e).1,(hr r e).2⟩));clear H0 HE NL HL HN HA a0 l0 a2 ag HJ
 gi_loopw [7] (fun v7 wr=>∃(k f:Nat) (pre:List (Ke N (xs.map (·.e)) nm)),k≤N∧v7=.int .i64 (k:Int)∧pre.length≤k∧N≤k+f∧pre.map (·.1)++Opm.od (xs.map (·.e)) nm en f k=all∧J pre wr∧jf B [Lb,Ab,Nb] w2 wr)
  (fun v7 _=>N+1-(intOf v7).toNat)
 case atStart=>exact⟨i,N,[],by omega,by first|rfl|go_num,by simp,by omega,l5.out,kS.out,jf.refl _ _ _⟩
 case round=>
  obtain⟨k,f,pre,hk,rfl,hpl,hkf,jt,jk,jI⟩:=hrel;have cN:=hide jt;have qi:=hide jI;have lk:=(si.out.lt:Lb<w2.heap.size);have c1:=(show ae wr Lb 50 #[.slice A N c] from (jI.2 Lb (by simp)).trans si.out).cell 0;have kN:=(show ae wr Nb 57 #[.string (aa nm.ns),.string (aa nm.loc)] from (jI.2 Nb (by simp)).trans Yp.out);have n0:=kN.cell 0;have n1:=kN.cell 1;have yK:=hide (N5.out pre wr wr.drew none jk ⟨rfl,rfl,rfl,Nat.le_refl _,fun _ _ _=>rfl⟩ (fun r e=>by cases e));have mO:=hide (show jf B [Lb,Ab,Nb] w2 wr.drew from⟨below_drewN jI.1 1,jI.2⟩);have N0:=hide (fun m=>N5.out pre wr (wr.drewN m) none jk ⟨rfl,rfl,rfl,Nat.le_refl _,fun _ _ _=>rfl⟩ (fun r e=>by cases e));have N7:=hide (fun m=>(show jf B [Lb,Ab,Nb] w2 (wr.drewN m) from⟨below_drewN jI.1 m,jI.2⟩));have s9:=hide (X9.out.l.below jI.1);have qh:=hide jk;clear jt jI jk kN
  by_cases hlt:k<en
  ·have dD:(k:Int)<(en:Int):=by omega
   have nr:k<N:=by omega
   have fS:(0:Int)≤k∧(k:Int)<N:=by omega
   obtain⟨f,rfl⟩:∃g,f=g+1:=⟨f-1,by omega⟩;obtain⟨y,hy⟩:=fY.out k nr;have hh:Opm.hit (xs.map (·.e)) nm k=(decide (y.e.kind=0)&&fL y.e.name nm):=by unfold Opm.hit;rw[List.getElem?_map,hy];rfl
   have hstep:Opm.od (xs.map (·.e)) nm en (f+1) k=if (decide (y.e.kind=0)&&fL y.e.name nm)=true then k :: Opm.od (xs.map (·.e)) nm en f (k+1) else Opm.od (xs.map (·.e)) nm en f (k+1):=by rw[Opm.od,if_pos hlt,hh]
   obtain⟨b,off,rfl,jl,rF⟩:=s9.out.at_ hy;have y0:=rF.c0;have y1:=rF.c1;have y2:=rF.c2;have hE:=fun W=>DA W y.e.name nm;clear rF hy s9
   by_cases kA:y.e.kind=0
   ·rw[kA] at y0;rw[show ((0:Nat):Int)=0 from rfl] at y0
    cases hq:fL y.e.name nm with
    | false=>
     rw[hq,kA,Bool.and_false,if_neg (by simp)] at hstep;simp only[hq] at hE;have bf:=hide hstep;clear hstep hq kA hh;gi_wp2;refine wpIn_region_quiet_lit rfl (by kernel_rfl) (by kernel_rfl) ?_
     repeat (gi_big_quiet_step (fail))
     refine BigFrame.wpQuietIn_skip (fun _ _ _ _=>trivial) (by kernel_rfl) ?_;simp only[Act.put,List.setIfInBounds_toArray,List.set_cons_zero,List.set_cons_succ]
     repeat (gi_big_quiet_step (fail))
     refine wpQuietIn_nil ?_;rintro _ ⟨nq,rfl⟩;gi_wp2
     go_roundw
     case rel=>exact⟨k+1,f,pre,by omega,by first|rfl|go_num,by omega,by omega,by rw[←cN.out,bf.out],N0.out nq,N7.out nq⟩
     case measure=>simp[intOf];omega
    | true=>
     have Em:Opm.hit (xs.map (·.e)) nm k=true:=by rw[hh,hq,kA];rfl
     rw[hq,kA,Bool.and_true,if_pos (by simp)] at hstep;simp only[hq] at hE;have bf:=hide hstep;clear hstep hq kA hh;obtain⟨fn,tmps,assign,body,hyi,hR⟩:=hY pre ⟨k,nr,Em⟩ wr.drew yK.out (by omega);have tF:Tryz.prog.follows .mixedOrders=true:=by kernel_rfl
     gi_wp2
     have HR:=hide (show RoundIn Fence.wide (n-1) Tryz.prog l fn tmps assign body wr.drew (fun e W'=>∃bb,e=.returned (.bool bb)∧Yd (bb=true) (J (pre++[⟨k,nr,Em⟩]) W'∧jf B [Lb,Ab,Nb] wr.drew W') (Jx (pre++[⟨k,nr,Em⟩]) W')) from hR.mono (by
      rintro e3 W3 (⟨rfl,bU,aK⟩|⟨rfl,iq⟩)
      ·exact⟨true,rfl,.inl ⟨rfl,bU,aK⟩⟩
      exact⟨false,rfl,.inr ⟨by simp,iq⟩⟩))
     clear hR
     gi_region_with_o (refine HR.out.mono ?_;rintro e3 W3 ⟨bb,rfl,h3⟩)
     all_goals
      rcases h3 with ⟨rfl,bU,aK⟩|⟨jm,iq⟩
      ·gi_wp2
       go_roundw
       case rel=>exact⟨k+1,f,pre++[⟨k,nr,Em⟩],by omega,by first|rfl|go_num,by rw[List.length_append];simp;omega,by omega,by rw[←cN.out,bf.out,List.map_append,List.append_assoc];rfl,bU,mO.out.trans aK⟩
       case measure=>simp[intOf];omega
      cases bb with
      | true=>exact absurd rfl jm
      | false=>
       gi_wp2;refine bodyPost_ret (results_none rfl _ _ _) rfl ?_;exact⟨⟨_,rfl⟩,.inr ⟨_,⟨_,by rw[←cN.out,bf.out,List.map_append,List.append_assoc];rfl⟩,iq⟩⟩
   have KE:decide (y.e.kind=0)=false:=decide_eq_false kA;have SL:((y.e.kind:Int)==0)=false:=beq_eq_false_iff_ne.2 (by omega);rw[KE,Bool.false_and,if_neg (by simp)] at hstep;have bf:=hide hstep;clear hstep KE kA hE hh;gi_wp2;refine wpIn_region_quiet_lit rfl (by kernel_rfl) (by kernel_rfl) ?_
   repeat (gi_big_quiet_step (fail))
   refine BigFrame.wpQuietIn_skip (fun _ _ _ _=>trivial) (by kernel_rfl) ?_;simp only[Act.put,List.setIfInBounds_toArray,List.set_cons_zero,List.set_cons_succ]
   repeat (gi_big_quiet_step (fail))
   refine wpQuietIn_nil ?_;rintro _ ⟨nq,rfl⟩;gi_wp2
   go_roundw
   case rel=>exact⟨k+1,f,pre,by omega,by first|rfl|go_num,by omega,by omega,by rw[←cN.out,bf.out],N0.out nq,N7.out nq⟩
   case measure=>simp[intOf];omega
  have dD:¬(k:Int)<(en:Int):=by omega
  have hnil:Opm.od (xs.map (·.e)) nm en f k=[]:=by
   cases f with
   | zero=>rfl
   | succ f=>rw[Opm.od,if_neg hlt]
  gi_wp2;go_end0;refine⟨⟨_,rfl⟩,.inl ⟨pre,?_,qh.out⟩⟩;show pre.map (·.1)=all;rw[←cN.out,hnil,List.append_nil]
end
section
open Go.RowKit Tk Sx Go.WideShapes

theorem Uj{x:L}(h:x.length≤1000000000):keyOf Tryz.prog 9 (.string (aa x))=some (.string x):=WideMaps.keyOf_string_mk Tryz.underlying9 (by rw[aW];unfold maxLen;omega)
structure gh(W:World)(mb n:Nat)(seen:List L)(D:DataW Unit):Prop where
 own:W.ownsMap Tryz.prog 9 (plainElem Tryz.prog 4) mb n D
 is:Maps.IsMap D
 ok:∀x:L,D.atKey (.string x) (.lit (.bool false))=.lit (.bool (decide (x∈seen)))
theorem gh.new(w:World):gh (w.alloc (.map #[] 0)) w.heap.size 0 [] (.map []):=⟨World.ownsMap_made _ _ _ _,Maps.isMap_empty,fun _=>by simp[DataW.atKey]⟩
theorem gh.same{W W':World}{mb n:Nat}{seen:List L}{D:DataW Unit}(h:gh W mb n seen D)(e:W'.heap[mb]?=W.heap[mb]?):gh W' mb n seen D:=⟨oT h.own e,h.is,h.ok⟩
theorem gh.lt{W:World}{mb n:Nat}{seen:List L}{D:DataW Unit}(h:gh W mb n seen D):mb<W.heap.size:=h.own.lt
theorem gh.next{W W':World}{mb n:Nat}{seen:List L}{D:DataW Unit}{x:L}(h:gh W mb n seen D)(ho:W'.ownsMap Tryz.prog 9 (plainElem Tryz.prog 4) mb (n+1) (D.put (.string x) (.lit (.bool true)))):gh W' mb (n+1) (x :: seen) (D.put (.string x) (.lit (.bool true))):=by
 refine⟨ho,h.is.put _ _,fun y=>?_⟩
 by_cases hm:y=x
 ·subst hm;rw[Maps.atKey_put_same h.is (by simp[WideAt.IsKeyLit])];simp
 rw[Maps.atKey_put_other (by intro e;injection e with e;exact hm e),h.ok y];simp[hm]
theorem gh.find{W:World}{mb n:Nat}{seen:List L}{D:DataW Unit}(h:gh W mb n seen D){x:L}(hx:x.length≤1000000000) :
  (Instr.lookup 49 (.map (some mb)) (.string (aa x)) false).run Tryz.prog W=.ok (.bool (decide (x∈seen))) W:=by
 obtain⟨v,ps,hrun,hv⟩:=h.own.lookup oR Tryz.underlying49 (XD W) (plainElem_bool Tryz.underlying4 false) (Uj hx);obtain⟨c,rfl,hc⟩:=VG Tryz.underlying4 hv;simp only[Prod.mk.injEq] at hc;have hr:=hc.1;rw[h.ok x] at hr;simp only[DataW.lit.injEq,Lit.bool.injEq] at hr;subst hr;exact hrun
theorem Jr(mb n:Nat)(seen:List L)(D:DataW Unit)(u:L)(w:World)(h:gh w mb n seen D)(hu:u.length≤1000000000)(hn:n<maxLen) :
  Calls Tryz.prog 19 #[.map (some mb),.string (aa u)] w fun e w'=>e=.returned (.bool (!decide (u∈seen)))∧w.grownBy w' (some mb)∧∃D',gh w' mb (n+1) (u :: seen) D':=by
 have hf:=h.find hu;have H:=hide h;have hk:=Uj hu;have Hk:=hide hk;obtain⟨q,hq⟩:∃q,decide (u∈seen)=q:=⟨_,rfl⟩;rw[hq] at hf ⊢;clear h hq hk
 go_enter Tryz.func19,Tryz.ntmps19
 go_wp2_with (at_mapUpdate;refine wpList_mapUpdate_own _ rfl _ _ _ 49 rfl 9 4 oR Tryz.underlying49 _ mb n D rfl H.out.own hn _ _ _ (by rfl) (by rfl) Hk.out _ [] (plainElem_bool Tryz.underlying4 true) ?_;intro w8 aN aF;have GD:=hide (H.out.next aN);have dH:=hide aF;clear aN aF)
 go_ret;exact⟨rfl,dH.out,_,GD.out⟩
theorem af6{N:Nat}{v0 v1:Value}{a:Act}{W:World}{Q:Ending→World→Prop}(ha:a.tmps.getD 2 undef=.pointer (some ⟨N,0,none⟩))(hK:ae W N 57 #[v0,v1])(hd:a.defers=[])(hQ:Q (.returned (.agg #[v0,v1])) W):bodyPost Tryz.prog Tryz.f23 Q .ret a W :=
 bodyPost_ret (results_cell_row (fn:=Tryz.f23) rfl a.tmps W N 57 #[v0,v1] (0,0) _ ha hK Tryz.underlying57 rfl (by kernel_rfl)) hd hQ
theorem U9(l:L)(w:World):Calls Tryz.prog 23 #[.string (aa l)] w fun e w'=>e=.returned (.agg #[.string (aa []),.string (aa l)])∧Below w.heap.size w w':=by
 have HO:=hide ((aA w (.cells #[.string (aa []),.string (aa l)] 57)))
 go_enter Tryz.func23,Tryz.ntmps23
 go_wp2;refine af6 rfl (ae.new w 57 #[.string (aa []),.string (aa l)]) rfl ?_;exact⟨rfl,HO.out⟩
end
section
namespace Nf
def cls(r:Int):Int :=
 if r<0x300∨r>0x345 then 0
 else if r≤0x314∨r=0x340∨r=0x341 then 230
 else if r=0x315 then 232
 else if r≤0x319∨(r≥0x323∧r≤0x326) then 220
 else if r=0x31B then 216
 else if r=0x327∨r=0x328 then 202
 else if r=0x338 then 1
 else if r=0x345 then 240
 else 0
theorem n8(r:Int):0≤cls r∧cls r≤240:=by
 unfold cls
 repeat' split
 all_goals omega
def rowOf(mark:Int):List Int→List Int→List ((Int×Int)×Int)
 | a :: l,w :: ws=>((a,mark),w) :: rowOf mark l ws
 | _,_=>[]
def cJ:List Int:=[65,69,73,79,85,97,101,105,111,117]
def dz:List Int:=[65,69,73,79,85,89,97,101,105,111,117,121,0xEA,0xFC]
def dV:List Int:=[65,69,73,79,85,97,101,105,111,117,0x1EB9]
def eU:List Int:=[65,78,79,97,110,111]
def fV:List Int:=[0xFC]
def gY:List Int:=[0x418,0x438]
def jx:List Int:=[65,69,73,79,85,97,101,105,111,117,121,0x415,0x435]
def lR:List Int:=[65,97]
def oP:List Int:=[67,83,90,99,115,122]
def tQ:List Int:=[101]
def Bp:List Int:=[67,99]
def dr:List Int:=[0xC0,0xC8,0xCC,0xD2,0xD9,0xE0,0xE8,0xEC,0xF2,0xF9]
def dQ:List Int:=[0xC1,0xC9,0xCD,0xD3,0xDA,0xDD,0xE1,0xE9,0xED,0xF3,0xFA,0xFD,0x1EBF,0x1D8]
def eJ:List Int:=[0xC2,0xCA,0xCE,0xD4,0xDB,0xE2,0xEA,0xEE,0xF4,0xFB,0x1EC7]
def fx:List Int:=[0xC3,0xD1,0xD5,0xE3,0xF1,0xF5]
def gM:List Int:=[0x1D6]
def iY:List Int:=[0x419,0x439]
def kQ:List Int:=[0xC4,0xCB,0xCF,0xD6,0xDC,0xE4,0xEB,0xEF,0xF6,0xFC,0xFF,0x401,0x451]
def nI:List Int:=[0xC5,0xE5]
def r6:List Int:=[0x10C,0x160,0x17D,0x10D,0x161,0x17E]
def yx:List Int:=[0x1EB9]
def MT:List Int:=[0xC7,0xE7]
def table:List ((Int×Int)×Int) :=
 rowOf 0x300 cJ dr++rowOf 0x301 dz dQ++rowOf 0x302 dV eJ++rowOf 0x303 eU fx++rowOf 0x304 fV gM++rowOf 0x306 gY iY++rowOf 0x308 jx kQ++rowOf 0x30A lR nI++rowOf 0x30C oP r6++rowOf 0x323 tQ yx++rowOf 0x327 Bp MT
def kh:List (Int×Int):=[(0x340,0x300),(0x341,0x301),(0x2126,0x3A9),(0x212A,75),(0x212B,0xC5)]
def lookW(p:Int×Int):List ((Int×Int)×Int)→Option Int
 | []=>none
 | x :: l=>if x.1=p then some x.2 else lookW p l
def fu(w:Int):List ((Int×Int)×Int)→Option (Int×Int)
 | []=>none
 | x :: l=>if x.2=w then some x.1 else fu w l
def jP(r:Int):List (Int×Int)→Option Int
 | []=>none
 | x :: l=>if x.1=r then some x.2 else jP r l
theorem ajP:(table.map (·.1)).Nodup:=by decide +kernel
theorem ajT:(table.map (·.2)).Nodup:=by decide +kernel
def fN(r:Int):Bool:=decide (0xAC00≤r∧r<0xAC00+11172)
def made(r:Int):Option (Int×Int) :=
 if fN r then
  if 0<(r-0xAC00) % 28 then some (r-(r-0xAC00) % 28,0x11A7+(r-0xAC00) % 28)
  else some (0x1100+(r-0xAC00) / 28 / 21,0x1161+(r-0xAC00) / 28 % 21)
 else match fu r table with
  | some p=>some p
  | none=>(jP r kh).map fun a=>(a,0)
def apart:Nat→Int→Option (List Int)
 | 0,_=>none
 | n+1,r=>match made r with
  | none=>some [r]
  | some (a,b)=>match apart n a with
   | none=>none
   | some l=>if b=0 then some l else (apart n b).map fun m=>l++m
theorem UC:∀x∈table,x.2<0x1100∨(0x1E00≤x.2∧x.2<0x2000):=by decide +kernel
theorem Ly{r:Int}:∀{l:List ((Int×Int)×Int)},(∀x∈l,x.2≠r)→fu r l=none
 | [],_=>rfl
 | x :: l,h=>by rw[fu,if_neg (h x (List.mem_cons_self ..))];exact Ly fun y hy=>h y (List.mem_cons_of_mem _ hy)
theorem xZ{r:Int}{p:Int×Int}:∀{l:List ((Int×Int)×Int)},fu r l=some p→(p,r)∈l
 | [],h=>by cases h
 | x :: l,h=>by
  rw[fu] at h
  split at h
  ·rename_i hx;cases h;subst hx;exact List.mem_cons_self ..
  exact List.mem_cons_of_mem _ (xZ h)
theorem E7{r a:Int}:∀{l:List (Int×Int)},jP r l=some a→(r,a)∈l
 | [],h=>by cases h
 | x :: l,h=>by
  rw[jP] at h
  split at h
  ·rename_i hx;cases h;subst hx;exact List.mem_cons_self ..
  exact List.mem_cons_of_mem _ (E7 h)
theorem Lx{r:Int}:∀{l:List (Int×Int)},(∀x∈l,x.1≠r)→jP r l=none
 | [],_=>rfl
 | x :: l,h=>by rw[jP,if_neg (h x (List.mem_cons_self ..))];exact Lx fun y hy=>h y (List.mem_cons_of_mem _ hy)
theorem afq{r:Int}(h0:0x1100≤r)(h1:r<0x1E00):made r=none:=by
 unfold made;have h:fN r=false:=decide_eq_false (by omega)
 rw[h,Ly (fun x hx=>by have:=UC x hx;omega),Lx (fun x hx=>by
  simp only[kh,List.mem_cons,List.not_mem_nil,or_false] at hx
  rcases hx with rfl|rfl|rfl|rfl|rfl<;>simp<;>omega)]
 rfl
theorem Iy{n:Nat}{r:Int}(h0:0x1100≤r)(h1:r<0x1E00):apart (n+1) r=some [r]:=by rw[apart,afq h0 h1]
theorem PW{n:Nat}{r:Int}(h:fN r=true)(hm:(r-0xAC00) % 28=0):∃l,apart (n+2) r=some l:=by
 have hr:=of_decide_eq_true h
 have e:made r=some (0x1100+(r-0xAC00) / 28 / 21,0x1161+(r-0xAC00) / 28 % 21):=by
  unfold made;rw[if_pos h,if_neg (by omega)]
 rw[apart,e];dsimp only;rw[Iy (by omega) (by omega),Iy (by omega) (by omega)];dsimp only;rw[if_neg (by omega)];exact⟨_,rfl⟩
theorem aae{n:Nat}{r:Int}(h:fN r=true):∃l,apart (n+3) r=some l:=by
 have hr:=of_decide_eq_true h
 by_cases hm:0<(r-0xAC00) % 28
 ·have e:made r=some (r-(r-0xAC00) % 28,0x11A7+(r-0xAC00) % 28):=by
   unfold made;rw[if_pos h,if_pos hm]
  have h2:fN (r-(r-0xAC00) % 28)=true:=decide_eq_true (by omega);obtain⟨l,hl⟩:=PW (n:=n) h2 (by omega);rw[apart,e];dsimp only;rw[hl,Iy (by omega) (by omega)];dsimp only;rw[if_neg (by omega)];exact⟨_,rfl⟩
 exact PW (n:=n+1) h (by omega)
theorem aad:∀x∈table,(apart 3 x.1.1).isSome=true∧(apart 3 x.1.2).isSome=true:=by decide +kernel
theorem aab:∀x∈kh,(apart 3 x.2).isSome=true:=by decide +kernel
theorem aac(r:Int):∃l,apart 4 r=some l:=by
 by_cases h:fN r=true
 ·exact aae (n:=1) h
 have hf:fN r=false:=by simpa using h
 cases hm:fu r table with
 | some p=>
  have e:made r=some p:=by unfold made;rw[hf,hm];rfl
  obtain⟨h1,h2⟩:=aad _ (xZ hm);obtain⟨l,hl⟩:=Option.isSome_iff_exists.1 h1;obtain⟨m,e7⟩:=Option.isSome_iff_exists.1 h2;dsimp only at hl e7;rw[apart,e];dsimp only;rw[hl];dsimp only;split
  ·exact⟨_,rfl⟩
  rw[e7];exact⟨_,rfl⟩
 | none=>
  cases hd:jP r kh with
  | none=>
   have e:made r=none:=by unfold made;rw[hf,hm,hd];rfl
   exact⟨_,by rw[apart,e]⟩
  | some a=>
   have e:made r=some (a,0):=by unfold made;rw[hf,hm,hd];rfl
   obtain⟨l,hl⟩:=Option.isSome_iff_exists.1 (aab _ (E7 hd));dsimp only at hl;exact⟨l,by rw[apart,e];dsimp only;rw[hl];rfl⟩
def parts(r:Int):List Int:=(apart 4 r).getD []
theorem Fl(r:Int):apart 4 r=some (parts r):=by
 obtain⟨l,hl⟩:=aac r;unfold parts;rw[hl];rfl
def whole(a b:Int):Option Int :=
 if (0x1100≤a∧a<0x1100+19)∧(0x1161≤b∧b<0x1161+21) then some (0xAC00+((a-0x1100)*21+b-0x1161)*28)
 else if fN a=true∧(a-0xAC00) % 28=0∧(0x11A8≤b∧b<0x11A8+27) then some (a+b-0x11A7)
 else lookW (a,b) table
def marks(l:List Int):List Int:=l.takeWhile fun r=>decide (0<cls r)
def runs:Nat→List Int→List (List Int)
 | 0,_=>[]
 | _+1,[]=>[]
 | n+1,r :: l=>(r :: marks l) :: runs n (l.drop (marks l).length)
def ins(x:Int):List Int→List Int
 | []=>[x]
 | y :: l=>if cls x<cls y then x :: y :: l else y :: ins x l
def aC(l:List Int):List Int:=l.foldl (fun acc x=>ins x acc) []
def sort(l:List Int):List Int:=(runs (l.length+1) l).flatMap aC
structure Cs where
 out:List Int
 st:Int
 hi:Int
def gR(s:Cs)(r:Int):Cs :=
 match (if 0≤s.st∧s.hi<cls r then whole (s.out.getD s.st.toNat 0) r else none) with
 | some w=>⟨s.out.set s.st.toNat w,s.st,s.hi⟩
 | none=>if cls r=0 then ⟨s.out++[r],s.out.length,-1⟩ else ⟨s.out++[r],s.st,max s.hi (cls r)⟩
def compose(l:List Int):List Int:=(l.foldl gR ⟨[],-1,-1⟩).out
end Nf
end
section
open Go.RowKit

theorem Dn(r:Int)(w:World):Calls Tryz.prog 150 #[.int .i64 r] w fun e w'=>e=.returned (.int .i64 (Nf.cls r))∧w'=w:=by
 obtain⟨c,hc⟩:∃c,Nf.cls r=c:=⟨_,rfl⟩;rw[hc];unfold Nf.cls at hc
 by_cases h1:r<0x300∨r>0x345
 ·rw[if_pos h1] at hc;subst hc
  rcases h1 with h1|h1
  ·skip
   have g0:r<768:=by omega
   clear h1
   go_enter Tryz.func150,Tryz.ntmps150
   go_wp2;go_ret;exact⟨rfl,rfl⟩
  skip
  have g0:¬r<768:=by omega
  have g1:837<r:=by omega
  clear h1
  go_enter Tryz.func150,Tryz.ntmps150
  go_wp2;go_ret;exact⟨rfl,rfl⟩
 rw[if_neg h1] at hc
 by_cases h2:r≤0x314∨r=0x340∨r=0x341
 ·rw[if_pos h2] at hc;subst hc
  rcases h2 with h2|h2|h2
  ·skip
   have g0:¬r<768:=by omega
   have g1:¬837<r:=by omega
   have g2:r≤788:=by omega
   clear h1 h2
   go_enter Tryz.func150,Tryz.ntmps150
   go_wp2;go_ret;exact⟨rfl,rfl⟩
  ·subst h2;clear h1
   go_enter Tryz.func150,Tryz.ntmps150
   go_wp2;go_ret;exact⟨rfl,rfl⟩
  subst h2;clear h1
  go_enter Tryz.func150,Tryz.ntmps150
  go_wp2;go_ret;exact⟨rfl,rfl⟩
 rw[if_neg h2] at hc
 by_cases h3:r=0x315
 ·rw[if_pos h3] at hc;subst hc;subst h3;clear h1 h2
  go_enter Tryz.func150,Tryz.ntmps150
  go_wp2;go_ret;exact⟨rfl,rfl⟩
 rw[if_neg h3] at hc
 by_cases h4:r≤0x319∨(r≥0x323∧r≤0x326)
 ·rw[if_pos h4] at hc;subst hc
  rcases h4 with h4|h4
  ·skip
   have g0:¬r<768:=by omega
   have g1:¬837<r:=by omega
   have g2:¬r≤788:=by omega
   have g3:¬r=832:=by omega
   have g4:¬r=833:=by omega
   have g5:¬r=789:=by omega
   have g6:r≤793:=by omega
   clear h1 h2 h3 h4
   go_enter Tryz.func150,Tryz.ntmps150
   go_wp2;go_ret;exact⟨rfl,rfl⟩
  skip
  have g0:¬r<768:=by omega
  have g1:¬837<r:=by omega
  have g2:¬r≤788:=by omega
  have g3:¬r=832:=by omega
  have g4:¬r=833:=by omega
  have g5:¬r=789:=by omega
  have g6:¬r≤793:=by omega
  have g7:803≤r:=by omega
  have g8:r≤806:=by omega
  clear h1 h2 h3 h4
  go_enter Tryz.func150,Tryz.ntmps150
  go_wp2;go_ret;exact⟨rfl,rfl⟩
 rw[if_neg h4] at hc
 by_cases h5:r=0x31B
 ·rw[if_pos h5] at hc;subst hc;subst h5;clear h1 h2 h3 h4
  go_enter Tryz.func150,Tryz.ntmps150
  go_wp2;go_ret;exact⟨rfl,rfl⟩
 rw[if_neg h5] at hc
 by_cases h6:r=0x327∨r=0x328
 ·rw[if_pos h6] at hc;subst hc
  rcases h6 with h6|h6
  ·subst h6;clear h1 h2 h3 h4 h5
   go_enter Tryz.func150,Tryz.ntmps150
   go_wp2;go_ret;exact⟨rfl,rfl⟩
  subst h6;clear h1 h2 h3 h4 h5
  go_enter Tryz.func150,Tryz.ntmps150
  go_wp2;go_ret;exact⟨rfl,rfl⟩
 rw[if_neg h6] at hc
 by_cases h7:r=0x338
 ·rw[if_pos h7] at hc;subst hc;subst h7;clear h1 h2 h3 h4 h5 h6
  go_enter Tryz.func150,Tryz.ntmps150
  go_wp2;go_ret;exact⟨rfl,rfl⟩
 rw[if_neg h7] at hc
 by_cases h8:r=0x345
 ·rw[if_pos h8] at hc;subst hc;subst h8;clear h1 h2 h3 h4 h5 h6 h7
  go_enter Tryz.func150,Tryz.ntmps150
  go_wp2;go_ret;exact⟨rfl,rfl⟩
 rw[if_neg h8] at hc;subst hc;have g0:¬r<768:=by omega
 have g1:¬837<r:=by omega
 have g2:¬r≤788:=by omega
 have g3:¬r=832:=by omega
 have g4:¬r=833:=by omega
 have g5:¬r=789:=by omega
 have g6:¬r≤793:=by omega
 have g7:¬r=795:=by omega
 have g8:¬r=807:=by omega
 have g9:¬r=808:=by omega
 have g10:¬r=824:=by omega
 have g11:¬r=837:=by omega
 by_cases hx:803≤r
 ·have g20:¬r≤806:=by omega
  clear h1 h2 h3 h4 h5 h6 h7 h8
  go_enter Tryz.func150,Tryz.ntmps150
  go_wp2;go_ret;exact⟨rfl,rfl⟩
 clear h1 h2 h3 h4 h5 h6 h7 h8
 go_enter Tryz.func150,Tryz.ntmps150
 go_wp2;go_ret;exact⟨rfl,rfl⟩
theorem Lh(r a n:Int)(w:World)(h:IntKind.i64.wrap (a+n)=a+n):Calls Tryz.prog 179 #[.int .i64 r,.int .i64 a,.int .i64 n] w fun e w'=>e=.returned (.bool (decide (a≤r∧r<a+n)))∧w'=w:=by
 by_cases h1:a≤r
 ·rw[show decide (a≤r∧r<a+n)=decide (r<a+n) by simp[h1]]
  go_enter Tryz.func179,Tryz.ntmps179
  go_wp2;go_ret;exact⟨rfl,rfl⟩
 rw[show decide (a≤r∧r<a+n)=false by simp[h1]]
 go_enter Tryz.func179,Tryz.ntmps179
 go_wp2;go_ret;exact⟨rfl,rfl⟩
theorem R9(r:Int)(w:World):Calls Tryz.prog 180 #[.int .i64 r] w fun e w'=>e=.returned (.bool (Nf.fN r))∧w'=w:=by
 unfold Nf.fN
 by_cases h1:44032≤r
 ·rw[show decide (0xAC00≤r∧r<0xAC00+11172)=decide (r<55204) by simp[h1]]
  go_enter Tryz.func180,Tryz.ntmps180
  go_wp2;go_ret;exact⟨rfl,rfl⟩
 rw[show decide (0xAC00≤r∧r<0xAC00+11172)=false by simp[h1]]
 go_enter Tryz.func180,Tryz.ntmps180
 go_wp2;go_ret;exact⟨rfl,rfl⟩
theorem Dj(a b:Int)(w:World):Calls Tryz.prog 155 #[.int .i64 a,.int .i64 b] w fun e w'=>e=.returned (.int .i64 (Nf.cls a-Nf.cls b))∧w'=w:=by
 have HA:=hide (fun W=>Dn a W);have HB:=hide (fun W=>Dn b W);have hw:IntKind.i64.wrap (Nf.cls a-Nf.cls b)=Nf.cls a-Nf.cls b:=IntWalk.i64_in _ (by have:=Nf.n8 a;have:=Nf.n8 b;omega);generalize Nf.cls a=ca at *
 generalize Nf.cls b=cb at *
 go_enter Tryz.func155,Tryz.ntmps155
 go_wp2_with fail
 refine cq (HA.out _) ?_
 go_wp2_with fail
 refine cq (HB.out _) ?_
 go_wp2;go_ret;exact⟨rfl,rfl⟩
end
end Go.Proofs.YtifiiojchlaghaaGreatDoor
