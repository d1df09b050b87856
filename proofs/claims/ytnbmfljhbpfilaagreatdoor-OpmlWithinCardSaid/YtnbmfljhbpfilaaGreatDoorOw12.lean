/- References: the program's Strict. -/
import Derived.Test.YtnbmfljhbpfilaaGreatDoorOw10
import Derived.Test.YtnbmfljhbpfilaaGreatDoorOw11
set_option linter.unusedSimpArgs false
set_option maxRecDepth 100000
set_option maxHeartbeats 8000000
set_option linter.unusedVariables false
namespace Go.Proofs.YtnbmfljhbpfilaaGreatDoor
section
open Go.RowKit Go.Shelf Tk Sx

attribute [local go_sem] Oper.semAt_some

def FD(X:World)(row:Option Nat):Prop:=∀r,row=some r→∃o:Obj,X.heap[r]?=some o∧o.isCells=false
theorem sr{X:World}{g t:Nat}{cs:Array Value}{row:Option Nat}(h:ae X g t cs)(hr:FD X row):some g≠row:=by
 intro e;obtain⟨o,ho,hc⟩:=hr _ e.symm;rw[show X.heap[g]?=_ from h] at ho;cases ho;cases hc
theorem Rg{T B b:Nat}{bs:List Value}{X Y:World}{row:Option Nat}(h:Lib.IsBuilder T 5 B b bs X)(hg:X.grownBy Y row)(hr:FD X row):Lib.IsBuilder T 5 B b bs Y:=by
 have one:∀p,Lib.BuilderAt T 5 B b p bs X→Lib.BuilderAt T 5 B b p bs Y:=fun p hp=>by
  obtain⟨hB,v,hb,hown,hne⟩:=hp;refine⟨hB,v,ae.grown (show ae X b T #[p,v] from hb) hg (sr (show ae X b T #[p,v] from hb) hr),hown.kept (row:=row) hg ?_,hne⟩
  cases hv:v.ownBlock with
  | none=>exact .inl rfl
  | some k=>
   refine .inr fun e=>?_;obtain⟨o,ho,hc⟩:=hr k e.symm;obtain⟨cs,fr,hh⟩:=(aG hown k hv).2;rw[hh] at ho;cases ho;cases hc
 exact h.imp (one _) (one _)
def zO(w:World)(s:ByteArray)(pre:List dv)(W:World):Prop :=
 (∀x∈pre.map dP,(eX x).isSome=true)∧Lib.IsBuilder 60 5 w.heap.size (w.heap.size+1+1+1) (Lib.strCells (aa (kF (pre.map dP)))) W∧
 ae W w.heap.size 9 #[.string ⟨#[]⟩]∧ae W (w.heap.size+1) 3 #[.int .i64 0]∧ae W (w.heap.size+1+1) 28 #[.int .i64 0]∧ae W (w.heap.size+1+1+1+1) 9 #[.string s]∧Below w.heap.size w W
def Je(w:World)(c:Code)(pre:List dv)(W:World):Prop :=
 c=.ret∧∃il x,pre=il++[x]∧(∀y∈il.map dP,(eX y).isSome=true)∧eX (dP x)=none∧
 ae W w.heap.size 9 #[.string ⟨#[]⟩]∧ae W (w.heap.size+1) 3 #[.int .i64 (x.at_:Int)]∧ae W (w.heap.size+1+1) 28 #[.int .i64 50]∧Below w.heap.size w W
theorem abr(w:World)(s:ByteArray)(B:Nat)(hB:w.heap.size≤B):OwnFrom B (zO w s):=by
 rintro pre X Y row ⟨h1,h2,h3,h4,h5,h6,h7⟩ hg ai;have hr:FD X row:=fun r e=>(ai r e).2;exact⟨h1,Rg h2 hg hr,h3.grown hg (sr h3 hr),h4.grown hg (sr h4 hr),h5.grown hg (sr h5 hr),h6.grown hg (sr h6 hr),h7.grown hg h7.size (fun k e=>by have:=(ai k e).1;omega)⟩
theorem abt(w:World)(c:Code)(B:Nat)(hB:w.heap.size≤B):OwnFrom B (Je w c):=by
 rintro pre X Y row ⟨h1,p,x,h2,h3,h4,h5,h6,h7,h8⟩ hg ai;have hr:FD X row:=fun r e=>(ai r e).2;exact⟨h1,p,x,h2,h3,h4,h5.grown hg (sr h5 hr),h6.grown hg (sr h6 hr),h7.grown hg (sr h7 hr),h8.grown hg h8.size (fun k e=>by have:=(ai k e).1;omega)⟩

theorem acg{R:Nat}{W W':World}{cs zV:Array Value}(h:bK R (R+1+1+1) W W')(hb:ae W (R+1+1+1) 60 cs)(h4:ae W (R+1+1+1+1) 9 zV):KeepsOthers W W'∧PK (R+1+1+1+1) W W':=by
 have nt:∀{k:Nat} {o:Obj},W.heap[k]?=some o→(∀c f,o≠.cells c 5 f)→¬bO W k 5:=fun ho hn ⟨c,f,hh⟩=>by rw[hh] at ho;cases ho;exact hn _ _ rfl
 refine⟨⟨h.size,fun k o hk ho=>?_⟩,h.size,fun g hg hk=>?_⟩
 ·refine (h.block k (Array.getElem?_eq_some_iff.1 hk).1 (fun e=>?_) (.inr (nt hk fun c f e=>by subst e;cases ho))).trans hk;subst e;rw[show W.heap[_]?=_ from hb] at hk;cases hk;cases ho
 rcases hk with rfl|⟨c,f,hk⟩
 ·exact h.block _ hg (by omega) (.inr (nt h4 fun c f e=>by injection e with _ e2;exact absurd e2 (by decide)))
 refine h.block g hg (fun e=>?_) (.inr (nt hk fun c f e=>by injection e with _ e2;exact absurd e2 (by decide)));subst e;rw[show W.heap[_]?=_ from hb] at hk;injection hk with hk
 injection hk with _ hk
 exact absurd hk (by decide)
theorem acb{T B b:Nat}{bs:List Value}{W:World}(h:Lib.IsBuilder T 5 B b bs W):∃cs,ae W b T cs:=by
 rcases h with ⟨_,v,hb,_⟩|⟨_,v,hb,_⟩<;>exact⟨_,hb⟩
theorem alB(a b:L):Lib.strCells (aa a)++Lib.strCells (aa b)=Lib.strCells (aa (a++b)):=by simp[Lib.strCells,aa]
theorem QS{w:World}{s:ByteArray}{pre:List dv}{x:dv}{W W':World}{t:L}(h:zO w s pre W)(hx:eX (dP x)=some t)(hb:bK w.heap.size (w.heap.size+1+1+1) W W')
  (AD:Lib.IsBuilder 60 5 w.heap.size (w.heap.size+1+1+1) (Lib.strCells (aa (kF (pre.map dP)))++Lib.strCells (aa t)) W') :
  KeepsOthers W W'∧PK (w.heap.size+1+1+1+1) W W'∧zO w s (pre++[x]) W':=by
 obtain⟨h1,h2,k0,k1,k2,k4,hB⟩:=h;obtain⟨cs,hcs⟩:=acb h2;obtain⟨p1,p2⟩:=acg hb hcs k4;refine⟨p1,p2,?_,?_,hb.blk k0 (by omega) (by decide),hb.blk k1 (by omega) (by decide),hb.blk k2 (by omega) (by decide),hb.blk k4 (by omega) (by decide),hB.trans (hb.below (by omega) hB.size)⟩
 ·intro y hy;rw[List.map_append,List.mem_append] at hy
  rcases hy with hy|hy
  ·exact h1 y hy
  simp only[List.map_cons,List.map_nil,List.mem_singleton] at hy;subst hy;rw[hx];rfl
 rw[List.map_append,List.map_cons,List.map_nil,ah8,hx,Option.getD_some,←alB];exact AD

structure cY(w:World)(v0 v1 v2:Value)(at_ H:Nat)(W0 W:World):Prop where
 b0:ae W w.heap.size 9 #[v0]
 b1:ae W (w.heap.size+1) 3 #[v1]
 b2:ae W (w.heap.size+1+1) 28 #[v2]
 y0:W.cell? ⟨H,0,none⟩=some (.int .i64 (at_:Int))
 hH:w.heap.size+1+1<H
 hb:Below w.heap.size w W
 hk:KeepsOthers W0 W
abbrev QT(w:World):=cY w (.string ⟨#[]⟩) (.int .i64 0) (.int .i64 0)
section
variable {w W0 W W1:World} {v0 v1 v2:Value} {at_ H:Nat}
theorem cY.c0(h:cY w v0 v1 v2 at_ H W0 W):W.cell? ⟨w.heap.size,0,none⟩=some v0:=h.b0.cell 0
theorem cY.c1(h:cY w v0 v1 v2 at_ H W0 W):W.cell? ⟨w.heap.size+1,0,none⟩=some v1:=h.b1.cell 0
theorem cY.c2(h:cY w v0 v1 v2 at_ H W0 W):W.cell? ⟨w.heap.size+1+1,0,none⟩=some v2:=h.b2.cell 0
theorem cY.f0(h:cY w v0 v1 v2 at_ H W0 W):W.frozen? ⟨w.heap.size,0,none⟩=false:=h.b0.frozen 0
theorem cY.f1(h:cY w v0 v1 v2 at_ H W0 W):W.frozen? ⟨w.heap.size+1,0,none⟩=false:=h.b1.frozen 0
theorem cY.f2(h:cY w v0 v1 v2 at_ H W0 W):W.frozen? ⟨w.heap.size+1+1,0,none⟩=false:=h.b2.frozen 0
theorem cY.all(h:cY w v0 v1 v2 at_ H W0 W):W.cell? ⟨H,0,none⟩=some (.int .i64 (at_:Int))∧W.cell? ⟨w.heap.size,0,none⟩=some v0∧W.cell? ⟨w.heap.size+1,0,none⟩=some v1∧W.cell? ⟨w.heap.size+1+1,0,none⟩=some v2∧
  W.frozen? ⟨w.heap.size,0,none⟩=false∧W.frozen? ⟨w.heap.size+1,0,none⟩=false∧W.frozen? ⟨w.heap.size+1+1,0,none⟩=false:=⟨h.y0,h.c0,h.c1,h.c2,h.f0,h.f1,h.f2⟩
theorem cY.go(h:cY w v0 v1 v2 at_ H W0 W)(b:Below W.heap.size W W1):cY w v0 v1 v2 at_ H W0 W1 :=
 ⟨h.b0.go b,h.b1.go b,h.b2.go b,(b.cell (p:=⟨H,0,none⟩) (dN h.y0)).trans h.y0,h.hH,h.hb.trans (b.mono h.hb.size),h.hk.trans (mA b)⟩
theorem cY.drew(h:cY w v0 v1 v2 at_ H W0 W):cY w v0 v1 v2 at_ H W0 W.drew:=h.go (Below.refl _ _).drew
theorem Ng{W:World}{p q:Addr}{u v:Value}(h:W.cell? p=some v)(hn:p.block≠q.block):(W.setCell q u).cell? p=some v:=(World.cell?_of_block (Below.heap_setCell W q u p.block hn)).trans h
theorem cY.s0(h:cY w v0 v1 v2 at_ H W0 W)(u:Value):cY w u v1 v2 at_ H W0 (W.setCell ⟨w.heap.size,0,none⟩ u) :=
 ⟨h.b0.aI 0 u,h.b1.far (by simp) _,h.b2.far (by simp;omega) _,Ng h.y0 (by have:=h.hH;simp;omega),h.hH,h.hb.setCell (p:=⟨w.heap.size,0,none⟩) (Nat.le_refl _) _,h.hk.trans (KeepsOthers.setCell _ _ _)⟩
theorem cY.s1(h:cY w v0 v1 v2 at_ H W0 W)(u:Value):cY w v0 u v2 at_ H W0 (W.setCell ⟨w.heap.size+1,0,none⟩ u) :=
 ⟨h.b0.far (by simp) _,h.b1.aI 0 u,h.b2.far (by simp) _,Ng h.y0 (by have:=h.hH;simp;omega),h.hH,h.hb.setCell (p:=⟨w.heap.size+1,0,none⟩) (by simp) _,h.hk.trans (KeepsOthers.setCell _ _ _)⟩
theorem cY.s2(h:cY w v0 v1 v2 at_ H W0 W)(u:Value):cY w v0 v1 u at_ H W0 (W.setCell ⟨w.heap.size+1+1,0,none⟩ u) :=
 ⟨h.b0.far (by simp;omega) _,h.b1.far (by simp) _,h.b2.aI 0 u,Ng h.y0 (by have:=h.hH;simp;omega),h.hH,h.hb.setCell (p:=⟨w.heap.size+1+1,0,none⟩) (by simp;omega) _,h.hk.trans (KeepsOthers.setCell _ _ _)⟩
theorem cY.leave{B:Nat}{pre:List dv}{x:dv}(h:cY w (.string ⟨#[]⟩) (.int .i64 (x.at_:Int)) (.int .i64 50) x.at_ H W0 W)(hp:∀y∈pre.map dP,(eX y).isSome=true)(hx:eX (dP x)=none):KeepsFrom B W0 W∧Je w .ret (pre++[x]) W :=
 ⟨h.hk.from _,rfl,pre,x,rfl,hp,hx,h.b0,h.b1,h.b2,h.hb⟩
end

theorem NC(s:ByteArray)(w:World)(hs:s.size≤100000) :
  Calls Tryz.prog 62 #[.string s] w fun e w'=>e=.returned (iL (cP s.size 0 s.data.toList))∧Below w.heap.size w w':=by
 refine (callsIn_wide (n:=5)).1 ?_;refine callsIn_of_wp_marks Tryz.func62 rfl trivial ?_ rfl;simp only[Tryz.ntmps62,List.size_toArray,List.length_cons,List.length_nil,Nat.reduceAdd,Nat.reduceSub,Array.replicate_succ,Array.replicate_zero,List.push_toArray,List.append_toArray,List.nil_append,List.cons_append]
 gi_wp2_with (refine⟨trivial,?_⟩;gi_at_call 93;refine (callsIn_wide.2 (ake _ _)).mono ?_;rintro e w' ⟨rfl,rfl⟩)
 have Ag:zO w s [] (((((w.alloc (.cells #[.string ⟨#[]⟩] 9)).alloc (.cells #[.int .i64 0] 3)).alloc (.cells #[.int .i64 0] 28)).alloc (.cells #[.pointer none,.slice none 0 0] 60)).alloc (.cells #[.string s] 9)):=by
  have b0:=((((ae.new w 9 #[.string ⟨#[]⟩]).alloc (.cells #[.int .i64 0] 3)).alloc (.cells #[.int .i64 0] 28)).alloc (.cells #[.pointer none,.slice none 0 0] 60)).alloc (.cells #[.string s] 9);have b1:=(((ae.new (w.alloc (.cells #[.string ⟨#[]⟩] 9)) 3 #[.int .i64 0]).alloc (.cells #[.int .i64 0] 28)).alloc (.cells #[.pointer none,.slice none 0 0] 60)).alloc (.cells #[.string s] 9);have b2:=((ae.new ((w.alloc (.cells #[.string ⟨#[]⟩] 9)).alloc (.cells #[.int .i64 0] 3)) 28 #[.int .i64 0]).alloc (.cells #[.pointer none,.slice none 0 0] 60)).alloc (.cells #[.string s] 9);have b3:=(ae.new (((w.alloc (.cells #[.string ⟨#[]⟩] 9)).alloc (.cells #[.int .i64 0] 3)).alloc (.cells #[.int .i64 0] 28)) 60 #[.pointer none,.slice none 0 0]).alloc (.cells #[.string s] 9);have b4:=ae.new ((((w.alloc (.cells #[.string ⟨#[]⟩] 9)).alloc (.cells #[.int .i64 0] 3)).alloc (.cells #[.int .i64 0] 28)).alloc (.cells #[.pointer none,.slice none 0 0] 60)) 9 #[.string s];simp only[World.size_alloc] at b1 b2 b3 b4;refine⟨(fun x hx=>by cases hx),.inl ⟨by omega,.slice none 0 0,b3,World.ownsRow_nil _ _ _ _,by simp[Value.ownBlock]⟩,b0,b1,b2,b4,?_⟩
  exact (((((Below.refl _ w).alloc (Nat.le_refl _) _).alloc (by simp) _).alloc (by simp;omega) _).alloc (by simp;omega) _).alloc (by simp;omega) _
 refine ajg rfl (by omega) (gf:=127) (lb:=#[.pointer (some ⟨w.heap.size+1+1+1+1,0,none⟩)]) rfl trivial (enters_of Tryz.func127 (by kernel_rfl) rfl)
  (akf (5-1) (by omega) (w.heap.size+1+1+1+1) s hs _ (by simp) (Ag.2.2.2.2.2.1.cell 0)) PK.trans (aiU (by simp)) (fun W o=>BU (az W o)) (fun _=>rfl)
  (zO w s) (Je w) (abr w s _ (by simp;omega)) (fun c=>abt w c _ (by simp;omega)) Ag
  (fun x=>.cells #[.int .i64 (x.at_:Int),.bool x.ref,.string (aa (x.text.take 100000))] 158)
  (fun x H=>{ tmps:=#[.string s,undef,.pointer (some ⟨w.heap.size,0,none⟩),.pointer (some ⟨w.heap.size+1,0,none⟩),.pointer (some ⟨w.heap.size+1+1,0,none⟩),.pointer (some ⟨w.heap.size+1+1+1,0,none⟩),.pointer (some ⟨H,0,none⟩),undef,undef,undef,undef,.string s,.func (.func 127) #[] #[.pointer (some ⟨w.heap.size+1+1+1+1,0,none⟩)],.agg #[.int .i64 (x.at_:Int),.bool x.ref,.string (aa (x.text.take 100000))],undef,undef,undef,undef,undef,undef,undef,undef,undef,undef,undef,undef,undef,undef,undef,undef,undef,undef,undef,undef,undef,undef,undef,undef,undef,undef,undef,undef,undef,undef,undef,undef,undef,undef],defers:=[] }) ?assign ?body ?done ?stop
 case assign=>
  intro l x W K hK;simp only[vV,dP];gi_wp2;exact hK
 case body=>
  rintro l pre x H W hI hlen hH Ek Ej;have HI:=hide hI;obtain⟨h1,h2,k0,k1,k2,k4,hB⟩:=hI;have nd:=Wy (l:=pre);obtain⟨t,ht⟩:∃t,x.text.take 100000=t:=⟨_,rfl⟩;have jn:t.length≤100000:=by rw[←ht,List.length_take];omega
  have hcut:dP x=⟨x.at_,x.ref,t⟩:=by unfold dP;rw[ht]
  rw[ht] at Ek ⊢;have kH:ae W H 158 #[.int .i64 (x.at_:Int),.bool x.ref,.string (aa t)]:=Ek
  have Vb:=hide (fun (q:L) W1 (hq:q.length≤100000) (hb:Lib.IsBuilder 60 5 w.heap.size (w.heap.size+1+1+1) (Lib.strCells (aa (kF (pre.map dP)))) W1) (hs1:w.heap.size≤W1.heap.size)=>
   YV w.heap.size (w.heap.size+1+1+1) _ (aa q) W1 hb (by rw[Lib.strCells_length,aC,aC];have:=Nat.mul_le_mul_right 100000 (Nat.le_trans (Nat.le_of_lt hlen) hs);omega) hs1)
  have hq:((aa t).toList==[38])=decide (t=[38]):=kz (aa t) [38];have HH:=hide (show ae W H 158 _ from Ek);have rP:=hide (show w.heap.size+1+1<H by simp at hH;omega);have H2:=hide h2;have HB:=hide hB;obtain⟨ref,afV⟩:∃r,x.ref=r:=⟨_,rfl⟩;rw[afV] at kH hcut ⊢;have y0:=kH.cell 0;have y1:=kH.cell 1;have y2:=kH.cell 2;clear h1 h2 hB Ek nd
  cases ref with
  | false=>
   by_cases lf:t=[38]
   ·have ve:=hide (show eX (dP x)=none by rw[hcut];unfold eX;rw[if_neg (fun h=>h.2 lf),if_neg (by simp)]);rw[decide_eq_true lf] at hq;have hsc:=hide (fun W1=>XA t W1 (by omega));have dE:=hide (show QT w x.at_ H W W from⟨k0,k1,k2,HH.out.cell 0,rP.out,HB.out,KeepsOthers.refl _⟩);clear k0 k1 k2 k4 hcut ht Ej rP;obtain⟨ov,UG⟩:∃ov,scalar t=ov:=⟨_,rfl⟩;rw[UG] at hsc;clear UG lf
    cases ov with
    | none=>
     gi_wp2_with (refine⟨trivial,?_⟩;gi_at_call 94;refine (CallsIn.inRound l (callsIn_wide.2 (hsc.out _))).mono ?_;rintro e w1 ⟨rfl,b1⟩;unfold oA;have y1:=(kH.go b1).cell 1)
     have T0:=dE.out.go b1;clear dE hsc y0 y1 y2;refine wpIn_region_any (by kernel_rfl) ?_;have T1:=T0.drew;clear T0;change wpAnyIn _ _ _ _ _ _ 5 #[false,false,false,false,false] _ (World.drew _);generalize World.drew _=W1 at T1 ⊢;refine wpAnyIn_ready (rs:=[0,2]) (by kernel_rfl) (by simp) (mr rfl (by kernel_rfl) (fun K hK=>?_) (mr rfl (by kernel_rfl) (fun K hK=>?_) AllReadyIn.nil));obtain⟨z0,c0,c1,c2,f0,f1,f2⟩:=T1.all;go_simp;refine hK _ _ ?_;clear z0 c0 c1 c2 f0 f1 f2 hK K;(try simp only[Act.put,List.setIfInBounds_toArray,List.set_cons_zero,List.set_cons_succ]);refine wpAnyIn_ready (rs:=[1,2]) (by kernel_rfl) (by simp) (mr rfl (by kernel_rfl) (fun K hK=>?_) (mr rfl (by kernel_rfl) (fun K hK=>?_) AllReadyIn.nil));obtain⟨z0,c0,c1,c2,f0,f1,f2⟩:=T1.all;go_simp;refine hK _ _ ?_;clear z0 c0 c1 c2 f0 f1 f2 hK K;(try simp only[Act.put,List.setIfInBounds_toArray,List.set_cons_zero,List.set_cons_succ]);refine iI (i:=2) rfl (by kernel_rfl) (by kernel_rfl) (fun K hK=>?_);obtain⟨z0,c0,c1,c2,f0,f1,f2⟩:=T1.all;go_simp;refine hK _ _ ?_;clear z0 c0 c1 c2 f0 f1 f2 hK K;(try simp only[Act.put,List.setIfInBounds_toArray,List.set_cons_zero,List.set_cons_succ]);have T2:=T1.s0 (.string ⟨#[]⟩);clear T1;generalize World.setCell _ ⟨w.heap.size,0,none⟩ (.string ⟨#[]⟩)=W2 at T2 ⊢;rotate_left
     obtain⟨z0,c0,c1,c2,f0,f1,f2⟩:=T1.all;go_simp;refine hK _ _ ?_;clear z0 c0 c1 c2 f0 f1 f2 hK K;(try simp only[Act.put,List.setIfInBounds_toArray,List.set_cons_zero,List.set_cons_succ]);have T2:=T1.s0 (.string ⟨#[]⟩);clear T1;generalize World.setCell _ ⟨w.heap.size,0,none⟩ (.string ⟨#[]⟩)=W2 at T2 ⊢;refine iI (i:=1) rfl (by kernel_rfl) (by kernel_rfl) (fun K hK=>?_);obtain⟨z0,c0,c1,c2,f0,f1,f2⟩:=T2.all;go_simp;refine hK _ _ ?_;clear z0 c0 c1 c2 f0 f1 f2 hK K;(try simp only[Act.put,List.setIfInBounds_toArray,List.set_cons_zero,List.set_cons_succ]);rotate_left;obtain⟨z0,c0,c1,c2,f0,f1,f2⟩:=T1.all;go_simp;refine hK _ _ ?_;clear z0 c0 c1 c2 f0 f1 f2 hK K;(try simp only[Act.put,List.setIfInBounds_toArray,List.set_cons_zero,List.set_cons_succ]);have T2:=T1.s0 (.string ⟨#[]⟩);clear T1;generalize World.setCell _ ⟨w.heap.size,0,none⟩ (.string ⟨#[]⟩)=W2 at T2 ⊢;refine iI (i:=0) rfl (by kernel_rfl) (by kernel_rfl) (fun K hK=>?_);obtain⟨z0,c0,c1,c2,f0,f1,f2⟩:=T2.all;go_simp;refine hK _ _ ?_;clear z0 c0 c1 c2 f0 f1 f2 hK K;(try simp only[Act.put,List.setIfInBounds_toArray,List.set_cons_zero,List.set_cons_succ]);refine iI (i:=1) rfl (by kernel_rfl) (by kernel_rfl) (fun K hK=>?_);obtain⟨z0,c0,c1,c2,f0,f1,f2⟩:=T2.all;go_simp;refine hK _ _ ?_;clear z0 c0 c1 c2 f0 f1 f2 hK K
     (try simp only[Act.put,List.setIfInBounds_toArray,List.set_cons_zero,List.set_cons_succ])
     all_goals
      refine iI (i:=3) rfl (by kernel_rfl) (by kernel_rfl) (fun K hK=>?_);obtain⟨z0,c0,c1,c2,f0,f1,f2⟩:=T2.all;go_simp;refine hK _ _ ?_;clear z0 c0 c1 c2 f0 f1 f2 hK K;(try simp only[Act.put,List.setIfInBounds_toArray,List.set_cons_zero,List.set_cons_succ]);have T3:=T2.s1 (.int .i64 (x.at_:Int));clear T2;generalize World.setCell _ ⟨w.heap.size+1,0,none⟩ (.int .i64 (x.at_:Int))=W3 at T3 ⊢;refine iI (i:=4) rfl (by kernel_rfl) (by kernel_rfl) (fun K hK=>?_);obtain⟨z0,c0,c1,c2,f0,f1,f2⟩:=T3.all;go_simp;refine hK _ _ ?_;clear z0 c0 c1 c2 f0 f1 f2 hK K;(try simp only[Act.put,List.setIfInBounds_toArray,List.set_cons_zero,List.set_cons_succ]);have T4:=T3.s2 (.int .i64 50);clear T3;generalize World.setCell _ ⟨w.heap.size+1+1,0,none⟩ (.int .i64 50)=W4 at T4 ⊢;refine⟨by kernel_rfl,?_⟩;have HT:=hide T4;gi_wp2;exact HT.out.leave HI.out.1 ve.out
    | some v=>
     gi_wp2_with (refine⟨trivial,?_⟩;gi_at_call 94;refine (CallsIn.inRound l (callsIn_wide.2 (hsc.out _))).mono ?_;rintro e w1 ⟨rfl,b1⟩;unfold oA;have y1:=(kH.go b1).cell 1)
     have T0:=dE.out.go b1;clear dE hsc y0 y1 y2;refine wpIn_region_any (by kernel_rfl) ?_;have T1:=T0.drew;clear T0;change wpAnyIn _ _ _ _ _ _ 5 #[false,false,false,false,false] _ (World.drew _);generalize World.drew _=W1 at T1 ⊢;refine wpAnyIn_ready (rs:=[0,2]) (by kernel_rfl) (by simp) (mr rfl (by kernel_rfl) (fun K hK=>?_) (mr rfl (by kernel_rfl) (fun K hK=>?_) AllReadyIn.nil));obtain⟨z0,c0,c1,c2,f0,f1,f2⟩:=T1.all;go_simp;refine hK _ _ ?_;clear z0 c0 c1 c2 f0 f1 f2 hK K;(try simp only[Act.put,List.setIfInBounds_toArray,List.set_cons_zero,List.set_cons_succ]);refine wpAnyIn_ready (rs:=[1,2]) (by kernel_rfl) (by simp) (mr rfl (by kernel_rfl) (fun K hK=>?_) (mr rfl (by kernel_rfl) (fun K hK=>?_) AllReadyIn.nil));obtain⟨z0,c0,c1,c2,f0,f1,f2⟩:=T1.all;go_simp;refine hK _ _ ?_;clear z0 c0 c1 c2 f0 f1 f2 hK K;(try simp only[Act.put,List.setIfInBounds_toArray,List.set_cons_zero,List.set_cons_succ]);refine iI (i:=2) rfl (by kernel_rfl) (by kernel_rfl) (fun K hK=>?_);obtain⟨z0,c0,c1,c2,f0,f1,f2⟩:=T1.all;go_simp;refine hK _ _ ?_;clear z0 c0 c1 c2 f0 f1 f2 hK K;(try simp only[Act.put,List.setIfInBounds_toArray,List.set_cons_zero,List.set_cons_succ]);have T2:=T1.s0 (.string ⟨#[]⟩);clear T1;generalize World.setCell _ ⟨w.heap.size,0,none⟩ (.string ⟨#[]⟩)=W2 at T2 ⊢;rotate_left
     obtain⟨z0,c0,c1,c2,f0,f1,f2⟩:=T1.all;go_simp;refine hK _ _ ?_;clear z0 c0 c1 c2 f0 f1 f2 hK K;(try simp only[Act.put,List.setIfInBounds_toArray,List.set_cons_zero,List.set_cons_succ]);have T2:=T1.s0 (.string ⟨#[]⟩);clear T1;generalize World.setCell _ ⟨w.heap.size,0,none⟩ (.string ⟨#[]⟩)=W2 at T2 ⊢;refine iI (i:=1) rfl (by kernel_rfl) (by kernel_rfl) (fun K hK=>?_);obtain⟨z0,c0,c1,c2,f0,f1,f2⟩:=T2.all;go_simp;refine hK _ _ ?_;clear z0 c0 c1 c2 f0 f1 f2 hK K;(try simp only[Act.put,List.setIfInBounds_toArray,List.set_cons_zero,List.set_cons_succ]);rotate_left;obtain⟨z0,c0,c1,c2,f0,f1,f2⟩:=T1.all;go_simp;refine hK _ _ ?_;clear z0 c0 c1 c2 f0 f1 f2 hK K;(try simp only[Act.put,List.setIfInBounds_toArray,List.set_cons_zero,List.set_cons_succ]);have T2:=T1.s0 (.string ⟨#[]⟩);clear T1;generalize World.setCell _ ⟨w.heap.size,0,none⟩ (.string ⟨#[]⟩)=W2 at T2 ⊢;refine iI (i:=0) rfl (by kernel_rfl) (by kernel_rfl) (fun K hK=>?_);obtain⟨z0,c0,c1,c2,f0,f1,f2⟩:=T2.all;go_simp;refine hK _ _ ?_;clear z0 c0 c1 c2 f0 f1 f2 hK K;(try simp only[Act.put,List.setIfInBounds_toArray,List.set_cons_zero,List.set_cons_succ]);refine iI (i:=1) rfl (by kernel_rfl) (by kernel_rfl) (fun K hK=>?_);obtain⟨z0,c0,c1,c2,f0,f1,f2⟩:=T2.all;go_simp;refine hK _ _ ?_;clear z0 c0 c1 c2 f0 f1 f2 hK K
     (try simp only[Act.put,List.setIfInBounds_toArray,List.set_cons_zero,List.set_cons_succ])
     all_goals
      refine iI (i:=3) rfl (by kernel_rfl) (by kernel_rfl) (fun K hK=>?_);obtain⟨z0,c0,c1,c2,f0,f1,f2⟩:=T2.all;go_simp;refine hK _ _ ?_;clear z0 c0 c1 c2 f0 f1 f2 hK K;(try simp only[Act.put,List.setIfInBounds_toArray,List.set_cons_zero,List.set_cons_succ]);have T3:=T2.s1 (.int .i64 (x.at_:Int));clear T2;generalize World.setCell _ ⟨w.heap.size+1,0,none⟩ (.int .i64 (x.at_:Int))=W3 at T3 ⊢;refine iI (i:=4) rfl (by kernel_rfl) (by kernel_rfl) (fun K hK=>?_);obtain⟨z0,c0,c1,c2,f0,f1,f2⟩:=T3.all;go_simp;refine hK _ _ ?_;clear z0 c0 c1 c2 f0 f1 f2 hK K;(try simp only[Act.put,List.setIfInBounds_toArray,List.set_cons_zero,List.set_cons_succ]);have T4:=T3.s2 (.int .i64 50);clear T3;generalize World.setCell _ ⟨w.heap.size+1+1,0,none⟩ (.int .i64 50)=W4 at T4 ⊢;refine⟨by kernel_rfl,?_⟩;have HT:=hide T4;gi_wp2;exact HT.out.leave HI.out.1 ve.out
   have hst:=hide (show eX (dP x)=some t by rw[hcut];unfold eX;rw[if_pos ⟨rfl,lf⟩]);rw[decide_eq_false lf] at hq;clear k0 k1 k2 k4 hcut ht lf Ej
   gi_wp2_with (refine⟨trivial,?_⟩;gi_at_call 25;refine (CallsIn.inRound l (callsIn_wide.2 (Vb.out t _ jn H2.out HB.out.size))).mono ?_;rintro e w1 ⟨rfl,AD,bu⟩)
   have hn:=QS HI.out hst.out bu AD;exact⟨hn.1.from _,hn.2.1,hn.2.2⟩
  | true=>
   have hsc:=hide (fun W1=>XA t W1 (by omega));have LC:=fun v (h:scalar t=some v)=>akA h
   cases hs1:scalar t with
   | none=>
    rw[hs1] at hsc;have ve:=hide (show eX (dP x)=none by rw[hcut];unfold eX;rw[if_neg (by simp),if_pos rfl,hs1];rfl);have dE:=hide (show QT w x.at_ H W W from⟨k0,k1,k2,HH.out.cell 0,rP.out,HB.out,KeepsOthers.refl _⟩);clear k0 k1 k2 k4 hcut ht Ej rP LC hs1
    gi_wp2_with (refine⟨trivial,?_⟩;gi_at_call 94;refine (CallsIn.inRound l (callsIn_wide.2 (hsc.out _))).mono ?_;rintro e w1 ⟨rfl,b1⟩;unfold oA;have y1:=(kH.go b1).cell 1)
    have T0:=dE.out.go b1;clear dE hsc y0 y1 y2;refine wpIn_region_any (by kernel_rfl) ?_;have T1:=T0.drew;clear T0;change wpAnyIn _ _ _ _ _ _ 5 #[false,false,false,false,false] _ (World.drew _);generalize World.drew _=W1 at T1 ⊢;refine wpAnyIn_ready (rs:=[0,2]) (by kernel_rfl) (by simp) (mr rfl (by kernel_rfl) (fun K hK=>?_) (mr rfl (by kernel_rfl) (fun K hK=>?_) AllReadyIn.nil));obtain⟨z0,c0,c1,c2,f0,f1,f2⟩:=T1.all;go_simp;refine hK _ _ ?_;clear z0 c0 c1 c2 f0 f1 f2 hK K;(try simp only[Act.put,List.setIfInBounds_toArray,List.set_cons_zero,List.set_cons_succ]);refine wpAnyIn_ready (rs:=[1,2]) (by kernel_rfl) (by simp) (mr rfl (by kernel_rfl) (fun K hK=>?_) (mr rfl (by kernel_rfl) (fun K hK=>?_) AllReadyIn.nil));obtain⟨z0,c0,c1,c2,f0,f1,f2⟩:=T1.all;go_simp;refine hK _ _ ?_;clear z0 c0 c1 c2 f0 f1 f2 hK K;(try simp only[Act.put,List.setIfInBounds_toArray,List.set_cons_zero,List.set_cons_succ]);refine iI (i:=2) rfl (by kernel_rfl) (by kernel_rfl) (fun K hK=>?_);obtain⟨z0,c0,c1,c2,f0,f1,f2⟩:=T1.all;go_simp;refine hK _ _ ?_;clear z0 c0 c1 c2 f0 f1 f2 hK K;(try simp only[Act.put,List.setIfInBounds_toArray,List.set_cons_zero,List.set_cons_succ]);have T2:=T1.s0 (.string ⟨#[]⟩);clear T1;generalize World.setCell _ ⟨w.heap.size,0,none⟩ (.string ⟨#[]⟩)=W2 at T2 ⊢;rotate_left
    obtain⟨z0,c0,c1,c2,f0,f1,f2⟩:=T1.all;go_simp;refine hK _ _ ?_;clear z0 c0 c1 c2 f0 f1 f2 hK K;(try simp only[Act.put,List.setIfInBounds_toArray,List.set_cons_zero,List.set_cons_succ]);have T2:=T1.s0 (.string ⟨#[]⟩);clear T1;generalize World.setCell _ ⟨w.heap.size,0,none⟩ (.string ⟨#[]⟩)=W2 at T2 ⊢;refine iI (i:=1) rfl (by kernel_rfl) (by kernel_rfl) (fun K hK=>?_);obtain⟨z0,c0,c1,c2,f0,f1,f2⟩:=T2.all;go_simp;refine hK _ _ ?_;clear z0 c0 c1 c2 f0 f1 f2 hK K;(try simp only[Act.put,List.setIfInBounds_toArray,List.set_cons_zero,List.set_cons_succ]);rotate_left;obtain⟨z0,c0,c1,c2,f0,f1,f2⟩:=T1.all;go_simp;refine hK _ _ ?_;clear z0 c0 c1 c2 f0 f1 f2 hK K;(try simp only[Act.put,List.setIfInBounds_toArray,List.set_cons_zero,List.set_cons_succ]);have T2:=T1.s0 (.string ⟨#[]⟩);clear T1;generalize World.setCell _ ⟨w.heap.size,0,none⟩ (.string ⟨#[]⟩)=W2 at T2 ⊢;refine iI (i:=0) rfl (by kernel_rfl) (by kernel_rfl) (fun K hK=>?_);obtain⟨z0,c0,c1,c2,f0,f1,f2⟩:=T2.all;go_simp;refine hK _ _ ?_;clear z0 c0 c1 c2 f0 f1 f2 hK K;(try simp only[Act.put,List.setIfInBounds_toArray,List.set_cons_zero,List.set_cons_succ]);refine iI (i:=1) rfl (by kernel_rfl) (by kernel_rfl) (fun K hK=>?_);obtain⟨z0,c0,c1,c2,f0,f1,f2⟩:=T2.all;go_simp;refine hK _ _ ?_;clear z0 c0 c1 c2 f0 f1 f2 hK K
    (try simp only[Act.put,List.setIfInBounds_toArray,List.set_cons_zero,List.set_cons_succ])
    all_goals
     refine iI (i:=3) rfl (by kernel_rfl) (by kernel_rfl) (fun K hK=>?_);obtain⟨z0,c0,c1,c2,f0,f1,f2⟩:=T2.all;go_simp;refine hK _ _ ?_;clear z0 c0 c1 c2 f0 f1 f2 hK K;(try simp only[Act.put,List.setIfInBounds_toArray,List.set_cons_zero,List.set_cons_succ]);have T3:=T2.s1 (.int .i64 (x.at_:Int));clear T2;generalize World.setCell _ ⟨w.heap.size+1,0,none⟩ (.int .i64 (x.at_:Int))=W3 at T3 ⊢;refine iI (i:=4) rfl (by kernel_rfl) (by kernel_rfl) (fun K hK=>?_);obtain⟨z0,c0,c1,c2,f0,f1,f2⟩:=T3.all;go_simp;refine hK _ _ ?_;clear z0 c0 c1 c2 f0 f1 f2 hK K;(try simp only[Act.put,List.setIfInBounds_toArray,List.set_cons_zero,List.set_cons_succ]);have T4:=T3.s2 (.int .i64 50);clear T3;generalize World.setCell _ ⟨w.heap.size+1+1,0,none⟩ (.int .i64 50)=W4 at T4 ⊢;refine⟨by kernel_rfl,?_⟩;have HT:=hide T4;gi_wp2;exact HT.out.leave HI.out.1 ve.out
   | some v=>
    rw[hs1] at hsc;have hst:=hide (show eX (dP x)=some (cF v) by rw[hcut];unfold eX;rw[if_neg (by simp),if_pos rfl,hs1];rfl);have hpu:=hide (fun W1=>air (v:Int) W1 (LC v hs1));have hpl:=MK (v:Int);clear k0 k1 k2 k4 hcut ht Ej LC hs1
    gi_wp2_with (refine⟨trivial,?_⟩;gi_at_call 94;refine (CallsIn.inRound l (callsIn_wide.2 (hsc.out _))).mono ?_;rintro e w1 ⟨rfl,b1⟩;unfold oA;have y1:=(kH.go b1).cell 1)
    refine⟨trivial,?_⟩
    gi_at_call 95
    refine (CallsIn.inRound l (callsIn_wide.2 (hpu.out _))).mono ?_;rintro e w2 ⟨rfl,b2⟩;have bt:Below W.heap.size W w2:=b1.trans (b2.mono b1.size);have di:Lib.IsBuilder 60 5 w.heap.size (w.heap.size+1+1+1) (Lib.strCells (aa (kF (pre.map dP)))) w2:=Rg H2.out (cK bt none) (fun r e=>by cases e)
    gi_wp2_with (refine⟨trivial,?_⟩;gi_at_call 25;refine (CallsIn.inRound l (callsIn_wide.2 (Vb.out (cF v) _ (by omega) di (Nat.le_trans HB.out.size bt.size)))).mono ?_;rintro e w3 ⟨rfl,AD,bu⟩)
    have hn:=QS HI.out hst.out ((bK.bX bt).trans bu) AD;exact⟨hn.1.from _,hn.2.1,hn.2.2⟩
 case done=>
  rintro D ys W hD dS ⟨h1,h2,k0,k1,k2,k4,hB⟩ hK;have hD0:s.data.toList.length=s.size:=bL s;obtain⟨out,hout⟩:∃out,kF (ys.map dP)=out:=⟨_,rfl⟩
  have Hr:=hide (show iL (cP s.size 0 s.data.toList)=.tuple #[.string (aa out),.int .i64 (-1),.int .i64 0] from by
   have e1:=XZ s.size 0 s.data.toList s.size (by omega) (by omega);have e2:=Xv (s:=s.data.toList) (by omega) 0 s.size;rw[←e1,←e2,←dS,X0 h1,hout]
   rfl)
  rw[hout] at h2;have hst:=hide (Tryz.Builder_String_any_k w.heap.size (w.heap.size+1+1+1) out W (Lib.IsBuilderF.of h2) hB.size);have HB:=hide hB;have K0:=hide k0;have K1:=hide k1;have K2:=hide k2;have HK:=hide hK;have cf:=hide (show w.heap.size+1+1+1<D by simp at hD;omega);clear dS h1 h2 k0 k1 k2 k4 hB hK hout
  gi_wp2_with (refine⟨trivial,?_⟩;gi_at_call 27;refine (callsIn_wide.2 hst.out).mono ?_;rintro e w2 ⟨rfl,-,af,bE⟩;have k0:ae w2 w.heap.size 9 #[.string ⟨#[]⟩]:=bE _ _ K0.out (fun e=>by injection e with e;omega) (by intro c fz e;cases e);have k1:ae w2 (w.heap.size+1) 3 #[.int .i64 0]:=bE _ _ K1.out (fun e=>by injection e with e;omega) (by intro c fz e;cases e);have k2:ae w2 (w.heap.size+1+1) 28 #[.int .i64 0]:=bE _ _ K2.out (fun e=>by injection e with e;omega) (by intro c fz e;cases e);have kD:w2.heap[D]?=some (.deferred (some [])):=bE _ _ HK.out (fun e=>by injection e with e;have:=cf.out;omega) (by intro c fz e;cases e);have p0:=k0.cell 0;have f0:=k0.frozen 0;have p1:=k1.cell 0;have f1:=k1.frozen 0;have p2:=k2.cell 0;have f2:=k2.frozen 0)
  obtain⟨W3,xI⟩:∃W3,((w2.setCell ⟨w.heap.size,0,none⟩ (.string ⟨out.toArray⟩)).setCell ⟨w.heap.size+1,0,none⟩ (.int .i64 (-1))).setCell ⟨w.heap.size+1+1,0,none⟩ (.int .i64 0)=W3:=⟨_,rfl⟩;have r0:ae W3 w.heap.size 9 #[.string ⟨out.toArray⟩]:=by rw[←xI];exact ((k0.aI 0 _).far (p:=⟨w.heap.size+1,0,none⟩) (by simp) _).far (p:=⟨w.heap.size+1+1,0,none⟩) (by simp;omega) _
  have r1:ae W3 (w.heap.size+1) 3 #[.int .i64 (-1)]:=by rw[←xI];exact ((k1.far (p:=⟨w.heap.size,0,none⟩) (by simp) _).aI 0 _).far (p:=⟨w.heap.size+1+1,0,none⟩) (by simp) _
  have r2:ae W3 (w.heap.size+1+1) 28 #[.int .i64 0]:=by rw[←xI];exact ((k2.far (p:=⟨w.heap.size,0,none⟩) (by simp;omega) _).far (p:=⟨w.heap.size+1,0,none⟩) (by simp) _).aI 0 _
  have rD:W3.heap[D]?=some (.deferred (some [])):=by
   rw[←xI];have:=cf.out;exact (Below.heap_setCell _ _ _ _ (by simp;omega)).trans ((Below.heap_setCell _ _ _ _ (by simp;omega)).trans ((Below.heap_setCell _ _ _ _ (by simp;omega)).trans kD))
  have rB:Below w.heap.size w W3:=by
   rw[←xI];exact (((HB.out.trans af).setCell (p:=⟨w.heap.size,0,none⟩) (Nat.le_refl _) _).setCell (p:=⟨w.heap.size+1,0,none⟩) (by simp) _).setCell (p:=⟨w.heap.size+1+1,0,none⟩) (by simp;omega) _
  rw[xI];refine⟨by simp,.inl ⟨_,_,rfl,run_takeDeferred rD,?_⟩⟩;have g0:=cell_kept (r0.cell 0) (grownBy_putObj' _ D (.deferred none)) (fun r e=>by cases e;exact⟨_,rD,rfl⟩);have g1:=cell_kept (r1.cell 0) (grownBy_putObj' _ D (.deferred none)) (fun r e=>by cases e;exact⟨_,rD,rfl⟩);have g2:=cell_kept (r2.cell 0) (grownBy_putObj' _ D (.deferred none)) (fun r e=>by cases e;exact⟨_,rD,rfl⟩);refine⟨.tuple #[.string ⟨out.toArray⟩,.int .i64 (-1),.int .i64 0],?_,?_⟩
  ·simp[results,Tryz.results62,go_sem,g0,g1,g2]
  exact⟨aO Hr.out.symm,rB.trans (belowK_b (w:=w) (Nat.le_refl _) _ D _ _ (by have:=cf.out;omega) rD rfl rfl)⟩
 case stop=>
  rintro D c pre W hD ⟨rest,hsp⟩ ⟨rfl,il,x,rfl,hp,hx,k0,k1,k2,hB⟩ hK;have hD0:s.data.toList.length=s.size:=bL s
  have Hr:=hide (show iL (cP s.size 0 s.data.toList)=.tuple #[.string ⟨#[]⟩,.int .i64 (x.at_:Int),.int .i64 50] from by
   have e1:=XZ s.size 0 s.data.toList s.size (by omega) (by omega);have e2:=Xv (s:=s.data.toList) (by omega) 0 s.size;rw[←e1,←e2,←hsp,List.map_append,List.map_append,List.map_cons,List.map_nil,List.append_assoc,List.singleton_append,XY hp hx]
   rfl)
  clear hsp hp hx;gi_wp2;refine⟨by simp,.inl ⟨_,_,rfl,run_takeDeferred hK,?_⟩⟩;have g0:=cell_kept (k0.cell 0) (grownBy_putObj' _ D (.deferred none)) (fun r e=>by cases e;exact⟨_,hK,rfl⟩);have g1:=cell_kept (k1.cell 0) (grownBy_putObj' _ D (.deferred none)) (fun r e=>by cases e;exact⟨_,hK,rfl⟩);have g2:=cell_kept (k2.cell 0) (grownBy_putObj' _ D (.deferred none)) (fun r e=>by cases e;exact⟨_,hK,rfl⟩);refine⟨.tuple #[.string ⟨#[]⟩,.int .i64 (x.at_:Int),.int .i64 50],?_,?_⟩
  ·simp[results,Tryz.results62,go_sem,g0,g1,g2]
  exact⟨aO Hr.out.symm,hB.trans (belowK_b (w:=w) (Nat.le_refl _) _ D _ _ (by simp at hD;omega) hK rfl rfl)⟩
end
end Go.Proofs.YtnbmfljhbpfilaaGreatDoor
