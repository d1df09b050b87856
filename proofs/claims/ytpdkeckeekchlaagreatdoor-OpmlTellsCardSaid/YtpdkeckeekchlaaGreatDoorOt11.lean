/- References: the program's Strict. -/
import Derived.Test.YtpdkeckeekchlaaGreatDoorOt09
import Derived.Test.YtpdkeckeekchlaaGreatDoorOt10
set_option linter.unusedSimpArgs false
set_option maxRecDepth 100000
set_option maxHeartbeats 8000000
set_option linter.unusedVariables false
namespace Go.Proofs.YtpdkeckeekchlaaGreatDoor
section
open Go.RowKit Go.Shelf Tk Sx

attribute [local go_sem] Oper.semAt_some

def Gs(X:World)(row:Option Nat):Prop:=∀r,row=some r→∃o:Obj,X.heap[r]?=some o∧o.isCells=false
theorem sY{X:World}{g t:Nat}{cs:Array Value}{row:Option Nat}(h:ae X g t cs)(hr:Gs X row):some g≠row:=by
 intro e;obtain⟨o,ho,hc⟩:=hr _ e.symm;rw[show X.heap[g]?=_ from h] at ho;cases ho;cases hc
theorem RP{T B b:Nat}{bs:List Value}{X Y:World}{row:Option Nat}(h:Lib.IsBuilder T 5 B b bs X)(hg:X.grownBy Y row)(hr:Gs X row):Lib.IsBuilder T 5 B b bs Y:=by
 have one:∀p,Lib.BuilderAt T 5 B b p bs X→Lib.BuilderAt T 5 B b p bs Y:=fun p hp=>by
  obtain⟨hB,v,hb,hown,hne⟩:=hp;refine⟨hB,v,ae.grown (show ae X b T #[p,v] from hb) hg (sY (show ae X b T #[p,v] from hb) hr),hown.kept (row:=row) hg ?_,hne⟩
  cases hv:v.ownBlock with
  | none=>exact .inl rfl
  | some k=>
   refine .inr fun e=>?_;obtain⟨o,ho,hc⟩:=hr k e.symm;obtain⟨cs,fr,hh⟩:=(aD hown k hv).2;rw[hh] at ho;cases ho;cases hc
 exact h.imp (one _) (one _)
def Az(w:World)(s:ByteArray)(pre:List dv)(W:World):Prop :=
 (∀x∈pre.map dR,(fq x).isSome=true)∧Lib.IsBuilder 52 5 w.heap.size (w.heap.size+1+1+1) (Lib.strCells (aa (kQ (pre.map dR)))) W∧
 ae W w.heap.size 9 #[.string ⟨#[]⟩]∧ae W (w.heap.size+1) 3 #[.int .i64 0]∧ae W (w.heap.size+1+1) 29 #[.int .i64 0]∧ae W (w.heap.size+1+1+1+1) 9 #[.string s]∧Below w.heap.size w W
def JR(w:World)(c:Code)(pre:List dv)(W:World):Prop :=
 c=.ret∧∃iF x,pre=iF++[x]∧(∀y∈iF.map dR,(fq y).isSome=true)∧fq (dR x)=none∧
 ae W w.heap.size 9 #[.string ⟨#[]⟩]∧ae W (w.heap.size+1) 3 #[.int .i64 (x.at_:Int)]∧ae W (w.heap.size+1+1) 29 #[.int .i64 50]∧Below w.heap.size w W
theorem abQ(w:World)(s:ByteArray)(B:Nat)(hB:w.heap.size≤B):OwnFrom B (Az w s):=by
 rintro pre X Y row ⟨h1,h2,h3,h4,h5,h6,h7⟩ hg ah;have hr:Gs X row:=fun r e=>(ah r e).2;exact⟨h1,RP h2 hg hr,h3.grown hg (sY h3 hr),h4.grown hg (sY h4 hr),h5.grown hg (sY h5 hr),h6.grown hg (sY h6 hr),h7.grown hg h7.size (fun k e=>by have:=(ah k e).1;omega)⟩
theorem abR(w:World)(c:Code)(B:Nat)(hB:w.heap.size≤B):OwnFrom B (JR w c):=by
 rintro pre X Y row ⟨h1,p,x,h2,h3,h4,h5,h6,h7,h8⟩ hg ah;have hr:Gs X row:=fun r e=>(ah r e).2;exact⟨h1,p,x,h2,h3,h4,h5.grown hg (sY h5 hr),h6.grown hg (sY h6 hr),h7.grown hg (sY h7 hr),h8.grown hg h8.size (fun k e=>by have:=(ah k e).1;omega)⟩

theorem acE{R:Nat}{W W':World}{cs AK:Array Value}(h:bM R (R+1+1+1) W W')(hb:ae W (R+1+1+1) 52 cs)(h4:ae W (R+1+1+1+1) 9 AK):KeepsOthers W W'∧PK (R+1+1+1+1) W W':=by
 have nt:∀{k:Nat} {o:Obj},W.heap[k]?=some o→(∀c f,o≠.cells c 5 f)→¬bN W k 5:=fun ho hn ⟨c,f,hh⟩=>by rw[hh] at ho;cases ho;exact hn _ _ rfl
 refine⟨⟨h.size,fun k o hk ho=>?_⟩,h.size,fun g hg hk=>?_⟩
 ·refine (h.block k (Array.getElem?_eq_some_iff.1 hk).1 (fun e=>?_) (.inr (nt hk fun c f e=>by subst e;cases ho))).trans hk;subst e;rw[show W.heap[_]?=_ from hb] at hk;cases hk;cases ho
 rcases hk with rfl|⟨c,f,hk⟩
 ·exact h.block _ hg (by omega) (.inr (nt h4 fun c f e=>by injection e with _ e2;exact absurd e2 (by decide)))
 refine h.block g hg (fun e=>?_) (.inr (nt hk fun c f e=>by injection e with _ e2;exact absurd e2 (by decide)));subst e;rw[show W.heap[_]?=_ from hb] at hk;injection hk with hk
 injection hk with _ hk
 exact absurd hk (by decide)
theorem acA{T B b:Nat}{bs:List Value}{W:World}(h:Lib.IsBuilder T 5 B b bs W):∃cs,ae W b T cs:=by
 rcases h with ⟨_,v,hb,_⟩|⟨_,v,hb,_⟩<;>exact⟨_,hb⟩
theorem amc(a b:L):Lib.strCells (aa a)++Lib.strCells (aa b)=Lib.strCells (aa (a++b)):=by simp[Lib.strCells,aa]
theorem Rv{w:World}{s:ByteArray}{pre:List dv}{x:dv}{W W':World}{t:L}(h:Az w s pre W)(hx:fq (dR x)=some t)(hb:bM w.heap.size (w.heap.size+1+1+1) W W')
  (Bo:Lib.IsBuilder 52 5 w.heap.size (w.heap.size+1+1+1) (Lib.strCells (aa (kQ (pre.map dR)))++Lib.strCells (aa t)) W') :
  KeepsOthers W W'∧PK (w.heap.size+1+1+1+1) W W'∧Az w s (pre++[x]) W':=by
 obtain⟨h1,h2,k0,k1,k2,k4,hB⟩:=h;obtain⟨cs,hcs⟩:=acA h2;obtain⟨p1,p2⟩:=acE hb hcs k4;refine⟨p1,p2,?_,?_,hb.blk k0 (by omega) (by decide),hb.blk k1 (by omega) (by decide),hb.blk k2 (by omega) (by decide),hb.blk k4 (by omega) (by decide),hB.trans (hb.below (by omega) hB.size)⟩
 ·intro y hy;rw[List.map_append,List.mem_append] at hy
  rcases hy with hy|hy
  ·exact h1 y hy
  simp only[List.map_cons,List.map_nil,List.mem_singleton] at hy;subst hy;rw[hx];rfl
 rw[List.map_append,List.map_cons,List.map_nil,aiC,hx,Option.getD_some,←amc];exact Bo

structure cV(w:World)(v0 v1 v2:Value)(at_ H:Nat)(W0 W:World):Prop where
 b0:ae W w.heap.size 9 #[v0]
 b1:ae W (w.heap.size+1) 3 #[v1]
 b2:ae W (w.heap.size+1+1) 29 #[v2]
 y0:W.cell? ⟨H,0,none⟩=some (.int .i64 (at_:Int))
 hH:w.heap.size+1+1<H
 hb:Below w.heap.size w W
 hk:KeepsOthers W0 W
abbrev Rx(w:World):=cV w (.string ⟨#[]⟩) (.int .i64 0) (.int .i64 0)
section
variable {w W0 W W1:World} {v0 v1 v2:Value} {at_ H:Nat}
theorem cV.c0(h:cV w v0 v1 v2 at_ H W0 W):W.cell? ⟨w.heap.size,0,none⟩=some v0:=h.b0.cell 0
theorem cV.c1(h:cV w v0 v1 v2 at_ H W0 W):W.cell? ⟨w.heap.size+1,0,none⟩=some v1:=h.b1.cell 0
theorem cV.c2(h:cV w v0 v1 v2 at_ H W0 W):W.cell? ⟨w.heap.size+1+1,0,none⟩=some v2:=h.b2.cell 0
theorem cV.f0(h:cV w v0 v1 v2 at_ H W0 W):W.frozen? ⟨w.heap.size,0,none⟩=false:=h.b0.frozen 0
theorem cV.f1(h:cV w v0 v1 v2 at_ H W0 W):W.frozen? ⟨w.heap.size+1,0,none⟩=false:=h.b1.frozen 0
theorem cV.f2(h:cV w v0 v1 v2 at_ H W0 W):W.frozen? ⟨w.heap.size+1+1,0,none⟩=false:=h.b2.frozen 0
theorem cV.all(h:cV w v0 v1 v2 at_ H W0 W):W.cell? ⟨H,0,none⟩=some (.int .i64 (at_:Int))∧W.cell? ⟨w.heap.size,0,none⟩=some v0∧W.cell? ⟨w.heap.size+1,0,none⟩=some v1∧W.cell? ⟨w.heap.size+1+1,0,none⟩=some v2∧
  W.frozen? ⟨w.heap.size,0,none⟩=false∧W.frozen? ⟨w.heap.size+1,0,none⟩=false∧W.frozen? ⟨w.heap.size+1+1,0,none⟩=false:=⟨h.y0,h.c0,h.c1,h.c2,h.f0,h.f1,h.f2⟩
theorem cV.go(h:cV w v0 v1 v2 at_ H W0 W)(b:Below W.heap.size W W1):cV w v0 v1 v2 at_ H W0 W1 :=
 ⟨h.b0.go b,h.b1.go b,h.b2.go b,(b.cell (p:=⟨H,0,none⟩) (dE h.y0)).trans h.y0,h.hH,h.hb.trans (b.mono h.hb.size),h.hk.trans (mN b)⟩
theorem cV.drew(h:cV w v0 v1 v2 at_ H W0 W):cV w v0 v1 v2 at_ H W0 W.drew:=h.go (Below.refl _ _).drew
theorem NK{W:World}{p q:Addr}{u v:Value}(h:W.cell? p=some v)(hn:p.block≠q.block):(W.setCell q u).cell? p=some v:=(World.cell?_of_block (Below.heap_setCell W q u p.block hn)).trans h
theorem cV.s0(h:cV w v0 v1 v2 at_ H W0 W)(u:Value):cV w u v1 v2 at_ H W0 (W.setCell ⟨w.heap.size,0,none⟩ u) :=
 ⟨h.b0.aH 0 u,h.b1.far (by simp) _,h.b2.far (by simp;omega) _,NK h.y0 (by have:=h.hH;simp;omega),h.hH,h.hb.setCell (p:=⟨w.heap.size,0,none⟩) (Nat.le_refl _) _,h.hk.trans (KeepsOthers.setCell _ _ _)⟩
theorem cV.s1(h:cV w v0 v1 v2 at_ H W0 W)(u:Value):cV w v0 u v2 at_ H W0 (W.setCell ⟨w.heap.size+1,0,none⟩ u) :=
 ⟨h.b0.far (by simp) _,h.b1.aH 0 u,h.b2.far (by simp) _,NK h.y0 (by have:=h.hH;simp;omega),h.hH,h.hb.setCell (p:=⟨w.heap.size+1,0,none⟩) (by simp) _,h.hk.trans (KeepsOthers.setCell _ _ _)⟩
theorem cV.s2(h:cV w v0 v1 v2 at_ H W0 W)(u:Value):cV w v0 v1 u at_ H W0 (W.setCell ⟨w.heap.size+1+1,0,none⟩ u) :=
 ⟨h.b0.far (by simp;omega) _,h.b1.far (by simp) _,h.b2.aH 0 u,NK h.y0 (by have:=h.hH;simp;omega),h.hH,h.hb.setCell (p:=⟨w.heap.size+1+1,0,none⟩) (by simp;omega) _,h.hk.trans (KeepsOthers.setCell _ _ _)⟩
theorem cV.leave{B:Nat}{pre:List dv}{x:dv}(h:cV w (.string ⟨#[]⟩) (.int .i64 (x.at_:Int)) (.int .i64 50) x.at_ H W0 W)(hp:∀y∈pre.map dR,(fq y).isSome=true)(hx:fq (dR x)=none):KeepsFrom B W0 W∧JR w .ret (pre++[x]) W :=
 ⟨h.hk.from _,rfl,pre,x,rfl,hp,hx,h.b0,h.b1,h.b2,h.hb⟩
end

theorem NY(s:ByteArray)(w:World)(hs:s.size≤100000) :
  Calls Tryz.prog 83 #[.string s] w fun e w'=>e=.returned (iZ (dm s.size 0 s.data.toList))∧Below w.heap.size w w':=by
 refine (callsIn_wide (n:=5)).1 ?_;refine callsIn_of_wp_marks Tryz.func83 rfl trivial ?_ rfl;simp only[Tryz.ntmps83,List.size_toArray,List.length_cons,List.length_nil,Nat.reduceAdd,Nat.reduceSub,Array.replicate_succ,Array.replicate_zero,List.push_toArray,List.append_toArray,List.nil_append,List.cons_append]
 gi_wp2_with (refine⟨trivial,?_⟩;gi_at_call 116;refine (callsIn_wide.2 (akK _ _)).mono ?_;rintro e w' ⟨rfl,rfl⟩)
 have tE:Az w s [] (((((w.alloc (.cells #[.string ⟨#[]⟩] 9)).alloc (.cells #[.int .i64 0] 3)).alloc (.cells #[.int .i64 0] 29)).alloc (.cells #[.pointer none,.slice none 0 0] 52)).alloc (.cells #[.string s] 9)):=by
  have b0:=((((ae.new w 9 #[.string ⟨#[]⟩]).alloc (.cells #[.int .i64 0] 3)).alloc (.cells #[.int .i64 0] 29)).alloc (.cells #[.pointer none,.slice none 0 0] 52)).alloc (.cells #[.string s] 9);have b1:=(((ae.new (w.alloc (.cells #[.string ⟨#[]⟩] 9)) 3 #[.int .i64 0]).alloc (.cells #[.int .i64 0] 29)).alloc (.cells #[.pointer none,.slice none 0 0] 52)).alloc (.cells #[.string s] 9);have b2:=((ae.new ((w.alloc (.cells #[.string ⟨#[]⟩] 9)).alloc (.cells #[.int .i64 0] 3)) 29 #[.int .i64 0]).alloc (.cells #[.pointer none,.slice none 0 0] 52)).alloc (.cells #[.string s] 9);have b3:=(ae.new (((w.alloc (.cells #[.string ⟨#[]⟩] 9)).alloc (.cells #[.int .i64 0] 3)).alloc (.cells #[.int .i64 0] 29)) 52 #[.pointer none,.slice none 0 0]).alloc (.cells #[.string s] 9);have b4:=ae.new ((((w.alloc (.cells #[.string ⟨#[]⟩] 9)).alloc (.cells #[.int .i64 0] 3)).alloc (.cells #[.int .i64 0] 29)).alloc (.cells #[.pointer none,.slice none 0 0] 52)) 9 #[.string s];simp only[World.size_alloc] at b1 b2 b3 b4;refine⟨(fun x hx=>by cases hx),.inl ⟨by omega,.slice none 0 0,b3,World.ownsRow_nil _ _ _ _,by simp[Value.ownBlock]⟩,b0,b1,b2,b4,?_⟩
  exact (((((Below.refl _ w).alloc (Nat.le_refl _) _).alloc (by simp) _).alloc (by simp;omega) _).alloc (by simp;omega) _).alloc (by simp;omega) _
 refine ajI rfl (by omega) (gf:=156) (lb:=#[.pointer (some ⟨w.heap.size+1+1+1+1,0,none⟩)]) rfl trivial (enters_of Tryz.func156 (by kernel_rfl) rfl)
  (akL (5-1) (by omega) (w.heap.size+1+1+1+1) s hs _ (by simp) (tE.2.2.2.2.2.1.cell 0)) PK.trans (ajh (by simp)) (fun W o=>CH (ay W o)) (fun _=>rfl)
  (Az w s) (JR w) (abQ w s _ (by simp;omega)) (fun c=>abR w c _ (by simp;omega)) tE
  (fun x=>.cells #[.int .i64 (x.at_:Int),.bool x.ref,.string (aa (x.text.take 100000))] 194)
  (fun x H=>{ tmps:=#[.string s,undef,.pointer (some ⟨w.heap.size,0,none⟩),.pointer (some ⟨w.heap.size+1,0,none⟩),.pointer (some ⟨w.heap.size+1+1,0,none⟩),.pointer (some ⟨w.heap.size+1+1+1,0,none⟩),.pointer (some ⟨H,0,none⟩),undef,undef,undef,undef,.string s,.func (.func 156) #[] #[.pointer (some ⟨w.heap.size+1+1+1+1,0,none⟩)],.agg #[.int .i64 (x.at_:Int),.bool x.ref,.string (aa (x.text.take 100000))],undef,undef,undef,undef,undef,undef,undef,undef,undef,undef,undef,undef,undef,undef,undef,undef,undef,undef,undef,undef,undef,undef,undef,undef,undef,undef,undef,undef,undef,undef,undef,undef,undef,undef],defers:=[] }) ?assign ?body ?done ?stop
 case assign=>
  intro l x W K hK;simp only[wU,dR];gi_wp2;exact hK
 case body=>
  rintro l pre x H W hI hlen hH E3 E0;have HI:=ap hI;obtain⟨h1,h2,k0,k1,k2,k4,hB⟩:=hI;have nI:=Xa (l:=pre);obtain⟨t,ht⟩:∃t,x.text.take 100000=t:=⟨_,rfl⟩;have jy:t.length≤100000:=by rw[←ht,List.length_take];omega
  have hcut:dR x=⟨x.at_,x.ref,t⟩:=by unfold dR;rw[ht]
  rw[ht] at E3 ⊢;have kH:ae W H 194 #[.int .i64 (x.at_:Int),.bool x.ref,.string (aa t)]:=E3
  have Vy:=ap (fun (q:L) W1 (hq:q.length≤100000) (hb:Lib.IsBuilder 52 5 w.heap.size (w.heap.size+1+1+1) (Lib.strCells (aa (kQ (pre.map dR)))) W1) (hs1:w.heap.size≤W1.heap.size)=>
   Zp w.heap.size (w.heap.size+1+1+1) _ (aa q) W1 hb (by rw[Lib.strCells_length,aO,aO];have:=Nat.mul_le_mul_right 100000 (Nat.le_trans (Nat.le_of_lt hlen) hs);omega) hs1)
  have hq:((aa t).toList==[38])=decide (t=[38]):=kL (aa t) [38];have HH:=ap (show ae W H 194 _ from E3);have sB:=ap (show w.heap.size+1+1<H by simp at hH;omega);have H2:=ap h2;have HB:=ap hB;obtain⟨ref,agh⟩:∃r,x.ref=r:=⟨_,rfl⟩;rw[agh] at kH hcut ⊢;have y0:=kH.cell 0;have y1:=kH.cell 1;have y2:=kH.cell 2;clear h1 h2 hB E3 nI
  cases ref with
  | false=>
   by_cases lB:t=[38]
   ·have vY:=ap (show fq (dR x)=none by rw[hcut];unfold fq;rw[if_neg (fun h=>h.2 lB),if_neg (by simp)]);rw[decide_eq_true lB] at hq;have hsc:=ap (fun W1=>X3 t W1 (by omega));have ee:=ap (show Rx w x.at_ H W W from⟨k0,k1,k2,HH.o.cell 0,sB.o,HB.o,KeepsOthers.refl _⟩);clear k0 k1 k2 k4 hcut ht E0 sB;obtain⟨ov,U8⟩:∃ov,scalar t=ov:=⟨_,rfl⟩;rw[U8] at hsc;clear U8 lB
    cases ov with
    | none=>
     gi_wp2_with (refine⟨trivial,?_⟩;gi_at_call 117;refine (CallsIn.inRound l (callsIn_wide.2 (hsc.o _))).mono ?_;rintro e w1 ⟨rfl,b1⟩;unfold o5;have y1:=(kH.go b1).cell 1)
     have T0:=ee.o.go b1;clear ee hsc y0 y1 y2;refine wpIn_region_any (by kernel_rfl) ?_;have T1:=T0.drew;clear T0;change wpAnyIn _ _ _ _ _ _ 5 #[false,false,false,false,false] _ (World.drew _);generalize World.drew _=W1 at T1 ⊢;refine wpAnyIn_ready (rs:=[0,2]) (by kernel_rfl) (by simp) (mI rfl (by kernel_rfl) (fun K hK=>?_) (mI rfl (by kernel_rfl) (fun K hK=>?_) AllReadyIn.nil));obtain⟨z0,c0,c1,c2,f0,f1,f2⟩:=T1.all;go_simp;refine hK _ _ ?_;clear z0 c0 c1 c2 f0 f1 f2 hK K;(try simp only[Act.put,List.setIfInBounds_toArray,List.set_cons_zero,List.set_cons_succ]);refine wpAnyIn_ready (rs:=[1,2]) (by kernel_rfl) (by simp) (mI rfl (by kernel_rfl) (fun K hK=>?_) (mI rfl (by kernel_rfl) (fun K hK=>?_) AllReadyIn.nil));obtain⟨z0,c0,c1,c2,f0,f1,f2⟩:=T1.all;go_simp;refine hK _ _ ?_;clear z0 c0 c1 c2 f0 f1 f2 hK K;(try simp only[Act.put,List.setIfInBounds_toArray,List.set_cons_zero,List.set_cons_succ]);refine iW (i:=2) rfl (by kernel_rfl) (by kernel_rfl) (fun K hK=>?_);obtain⟨z0,c0,c1,c2,f0,f1,f2⟩:=T1.all;go_simp;refine hK _ _ ?_;clear z0 c0 c1 c2 f0 f1 f2 hK K;(try simp only[Act.put,List.setIfInBounds_toArray,List.set_cons_zero,List.set_cons_succ]);have T2:=T1.s0 (.string ⟨#[]⟩);clear T1;generalize World.setCell _ ⟨w.heap.size,0,none⟩ (.string ⟨#[]⟩)=W2 at T2 ⊢;rotate_left
     obtain⟨z0,c0,c1,c2,f0,f1,f2⟩:=T1.all;go_simp;refine hK _ _ ?_;clear z0 c0 c1 c2 f0 f1 f2 hK K;(try simp only[Act.put,List.setIfInBounds_toArray,List.set_cons_zero,List.set_cons_succ]);have T2:=T1.s0 (.string ⟨#[]⟩);clear T1;generalize World.setCell _ ⟨w.heap.size,0,none⟩ (.string ⟨#[]⟩)=W2 at T2 ⊢;refine iW (i:=1) rfl (by kernel_rfl) (by kernel_rfl) (fun K hK=>?_);obtain⟨z0,c0,c1,c2,f0,f1,f2⟩:=T2.all;go_simp;refine hK _ _ ?_;clear z0 c0 c1 c2 f0 f1 f2 hK K;(try simp only[Act.put,List.setIfInBounds_toArray,List.set_cons_zero,List.set_cons_succ]);rotate_left;obtain⟨z0,c0,c1,c2,f0,f1,f2⟩:=T1.all;go_simp;refine hK _ _ ?_;clear z0 c0 c1 c2 f0 f1 f2 hK K;(try simp only[Act.put,List.setIfInBounds_toArray,List.set_cons_zero,List.set_cons_succ]);have T2:=T1.s0 (.string ⟨#[]⟩);clear T1;generalize World.setCell _ ⟨w.heap.size,0,none⟩ (.string ⟨#[]⟩)=W2 at T2 ⊢;refine iW (i:=0) rfl (by kernel_rfl) (by kernel_rfl) (fun K hK=>?_);obtain⟨z0,c0,c1,c2,f0,f1,f2⟩:=T2.all;go_simp;refine hK _ _ ?_;clear z0 c0 c1 c2 f0 f1 f2 hK K;(try simp only[Act.put,List.setIfInBounds_toArray,List.set_cons_zero,List.set_cons_succ]);refine iW (i:=1) rfl (by kernel_rfl) (by kernel_rfl) (fun K hK=>?_);obtain⟨z0,c0,c1,c2,f0,f1,f2⟩:=T2.all;go_simp;refine hK _ _ ?_;clear z0 c0 c1 c2 f0 f1 f2 hK K
     (try simp only[Act.put,List.setIfInBounds_toArray,List.set_cons_zero,List.set_cons_succ])
     all_goals
      refine iW (i:=3) rfl (by kernel_rfl) (by kernel_rfl) (fun K hK=>?_);obtain⟨z0,c0,c1,c2,f0,f1,f2⟩:=T2.all;go_simp;refine hK _ _ ?_;clear z0 c0 c1 c2 f0 f1 f2 hK K;(try simp only[Act.put,List.setIfInBounds_toArray,List.set_cons_zero,List.set_cons_succ]);have T3:=T2.s1 (.int .i64 (x.at_:Int));clear T2;generalize World.setCell _ ⟨w.heap.size+1,0,none⟩ (.int .i64 (x.at_:Int))=W3 at T3 ⊢;refine iW (i:=4) rfl (by kernel_rfl) (by kernel_rfl) (fun K hK=>?_);obtain⟨z0,c0,c1,c2,f0,f1,f2⟩:=T3.all;go_simp;refine hK _ _ ?_;clear z0 c0 c1 c2 f0 f1 f2 hK K;(try simp only[Act.put,List.setIfInBounds_toArray,List.set_cons_zero,List.set_cons_succ]);have T4:=T3.s2 (.int .i64 50);clear T3;generalize World.setCell _ ⟨w.heap.size+1+1,0,none⟩ (.int .i64 50)=W4 at T4 ⊢;refine⟨by kernel_rfl,?_⟩;have HT:=ap T4;gi_wp2;exact HT.o.leave HI.o.1 vY.o
    | some v=>
     gi_wp2_with (refine⟨trivial,?_⟩;gi_at_call 117;refine (CallsIn.inRound l (callsIn_wide.2 (hsc.o _))).mono ?_;rintro e w1 ⟨rfl,b1⟩;unfold o5;have y1:=(kH.go b1).cell 1)
     have T0:=ee.o.go b1;clear ee hsc y0 y1 y2;refine wpIn_region_any (by kernel_rfl) ?_;have T1:=T0.drew;clear T0;change wpAnyIn _ _ _ _ _ _ 5 #[false,false,false,false,false] _ (World.drew _);generalize World.drew _=W1 at T1 ⊢;refine wpAnyIn_ready (rs:=[0,2]) (by kernel_rfl) (by simp) (mI rfl (by kernel_rfl) (fun K hK=>?_) (mI rfl (by kernel_rfl) (fun K hK=>?_) AllReadyIn.nil));obtain⟨z0,c0,c1,c2,f0,f1,f2⟩:=T1.all;go_simp;refine hK _ _ ?_;clear z0 c0 c1 c2 f0 f1 f2 hK K;(try simp only[Act.put,List.setIfInBounds_toArray,List.set_cons_zero,List.set_cons_succ]);refine wpAnyIn_ready (rs:=[1,2]) (by kernel_rfl) (by simp) (mI rfl (by kernel_rfl) (fun K hK=>?_) (mI rfl (by kernel_rfl) (fun K hK=>?_) AllReadyIn.nil));obtain⟨z0,c0,c1,c2,f0,f1,f2⟩:=T1.all;go_simp;refine hK _ _ ?_;clear z0 c0 c1 c2 f0 f1 f2 hK K;(try simp only[Act.put,List.setIfInBounds_toArray,List.set_cons_zero,List.set_cons_succ]);refine iW (i:=2) rfl (by kernel_rfl) (by kernel_rfl) (fun K hK=>?_);obtain⟨z0,c0,c1,c2,f0,f1,f2⟩:=T1.all;go_simp;refine hK _ _ ?_;clear z0 c0 c1 c2 f0 f1 f2 hK K;(try simp only[Act.put,List.setIfInBounds_toArray,List.set_cons_zero,List.set_cons_succ]);have T2:=T1.s0 (.string ⟨#[]⟩);clear T1;generalize World.setCell _ ⟨w.heap.size,0,none⟩ (.string ⟨#[]⟩)=W2 at T2 ⊢;rotate_left
     obtain⟨z0,c0,c1,c2,f0,f1,f2⟩:=T1.all;go_simp;refine hK _ _ ?_;clear z0 c0 c1 c2 f0 f1 f2 hK K;(try simp only[Act.put,List.setIfInBounds_toArray,List.set_cons_zero,List.set_cons_succ]);have T2:=T1.s0 (.string ⟨#[]⟩);clear T1;generalize World.setCell _ ⟨w.heap.size,0,none⟩ (.string ⟨#[]⟩)=W2 at T2 ⊢;refine iW (i:=1) rfl (by kernel_rfl) (by kernel_rfl) (fun K hK=>?_);obtain⟨z0,c0,c1,c2,f0,f1,f2⟩:=T2.all;go_simp;refine hK _ _ ?_;clear z0 c0 c1 c2 f0 f1 f2 hK K;(try simp only[Act.put,List.setIfInBounds_toArray,List.set_cons_zero,List.set_cons_succ]);rotate_left;obtain⟨z0,c0,c1,c2,f0,f1,f2⟩:=T1.all;go_simp;refine hK _ _ ?_;clear z0 c0 c1 c2 f0 f1 f2 hK K;(try simp only[Act.put,List.setIfInBounds_toArray,List.set_cons_zero,List.set_cons_succ]);have T2:=T1.s0 (.string ⟨#[]⟩);clear T1;generalize World.setCell _ ⟨w.heap.size,0,none⟩ (.string ⟨#[]⟩)=W2 at T2 ⊢;refine iW (i:=0) rfl (by kernel_rfl) (by kernel_rfl) (fun K hK=>?_);obtain⟨z0,c0,c1,c2,f0,f1,f2⟩:=T2.all;go_simp;refine hK _ _ ?_;clear z0 c0 c1 c2 f0 f1 f2 hK K;(try simp only[Act.put,List.setIfInBounds_toArray,List.set_cons_zero,List.set_cons_succ]);refine iW (i:=1) rfl (by kernel_rfl) (by kernel_rfl) (fun K hK=>?_);obtain⟨z0,c0,c1,c2,f0,f1,f2⟩:=T2.all;go_simp;refine hK _ _ ?_;clear z0 c0 c1 c2 f0 f1 f2 hK K
     (try simp only[Act.put,List.setIfInBounds_toArray,List.set_cons_zero,List.set_cons_succ])
     all_goals
      refine iW (i:=3) rfl (by kernel_rfl) (by kernel_rfl) (fun K hK=>?_);obtain⟨z0,c0,c1,c2,f0,f1,f2⟩:=T2.all;go_simp;refine hK _ _ ?_;clear z0 c0 c1 c2 f0 f1 f2 hK K;(try simp only[Act.put,List.setIfInBounds_toArray,List.set_cons_zero,List.set_cons_succ]);have T3:=T2.s1 (.int .i64 (x.at_:Int));clear T2;generalize World.setCell _ ⟨w.heap.size+1,0,none⟩ (.int .i64 (x.at_:Int))=W3 at T3 ⊢;refine iW (i:=4) rfl (by kernel_rfl) (by kernel_rfl) (fun K hK=>?_);obtain⟨z0,c0,c1,c2,f0,f1,f2⟩:=T3.all;go_simp;refine hK _ _ ?_;clear z0 c0 c1 c2 f0 f1 f2 hK K;(try simp only[Act.put,List.setIfInBounds_toArray,List.set_cons_zero,List.set_cons_succ]);have T4:=T3.s2 (.int .i64 50);clear T3;generalize World.setCell _ ⟨w.heap.size+1+1,0,none⟩ (.int .i64 50)=W4 at T4 ⊢;refine⟨by kernel_rfl,?_⟩;have HT:=ap T4;gi_wp2;exact HT.o.leave HI.o.1 vY.o
   have hst:=ap (show fq (dR x)=some t by rw[hcut];unfold fq;rw[if_pos ⟨rfl,lB⟩]);rw[decide_eq_false lB] at hq;clear k0 k1 k2 k4 hcut ht lB E0
   gi_wp2_with (refine⟨trivial,?_⟩;gi_at_call 19;refine (CallsIn.inRound l (callsIn_wide.2 (Vy.o t _ jy H2.o HB.o.size))).mono ?_;rintro e w1 ⟨rfl,Bo,bw⟩)
   have hn:=Rv HI.o hst.o bw Bo;exact⟨hn.1.from _,hn.2.1,hn.2.2⟩
  | true=>
   have hsc:=ap (fun W1=>X3 t W1 (by omega));have Mg:=fun v (h:scalar t=some v)=>alf h
   cases hs1:scalar t with
   | none=>
    rw[hs1] at hsc;have vY:=ap (show fq (dR x)=none by rw[hcut];unfold fq;rw[if_neg (by simp),if_pos rfl,hs1];rfl);have ee:=ap (show Rx w x.at_ H W W from⟨k0,k1,k2,HH.o.cell 0,sB.o,HB.o,KeepsOthers.refl _⟩);clear k0 k1 k2 k4 hcut ht E0 sB Mg hs1
    gi_wp2_with (refine⟨trivial,?_⟩;gi_at_call 117;refine (CallsIn.inRound l (callsIn_wide.2 (hsc.o _))).mono ?_;rintro e w1 ⟨rfl,b1⟩;unfold o5;have y1:=(kH.go b1).cell 1)
    have T0:=ee.o.go b1;clear ee hsc y0 y1 y2;refine wpIn_region_any (by kernel_rfl) ?_;have T1:=T0.drew;clear T0;change wpAnyIn _ _ _ _ _ _ 5 #[false,false,false,false,false] _ (World.drew _);generalize World.drew _=W1 at T1 ⊢;refine wpAnyIn_ready (rs:=[0,2]) (by kernel_rfl) (by simp) (mI rfl (by kernel_rfl) (fun K hK=>?_) (mI rfl (by kernel_rfl) (fun K hK=>?_) AllReadyIn.nil));obtain⟨z0,c0,c1,c2,f0,f1,f2⟩:=T1.all;go_simp;refine hK _ _ ?_;clear z0 c0 c1 c2 f0 f1 f2 hK K;(try simp only[Act.put,List.setIfInBounds_toArray,List.set_cons_zero,List.set_cons_succ]);refine wpAnyIn_ready (rs:=[1,2]) (by kernel_rfl) (by simp) (mI rfl (by kernel_rfl) (fun K hK=>?_) (mI rfl (by kernel_rfl) (fun K hK=>?_) AllReadyIn.nil));obtain⟨z0,c0,c1,c2,f0,f1,f2⟩:=T1.all;go_simp;refine hK _ _ ?_;clear z0 c0 c1 c2 f0 f1 f2 hK K;(try simp only[Act.put,List.setIfInBounds_toArray,List.set_cons_zero,List.set_cons_succ]);refine iW (i:=2) rfl (by kernel_rfl) (by kernel_rfl) (fun K hK=>?_);obtain⟨z0,c0,c1,c2,f0,f1,f2⟩:=T1.all;go_simp;refine hK _ _ ?_;clear z0 c0 c1 c2 f0 f1 f2 hK K;(try simp only[Act.put,List.setIfInBounds_toArray,List.set_cons_zero,List.set_cons_succ]);have T2:=T1.s0 (.string ⟨#[]⟩);clear T1;generalize World.setCell _ ⟨w.heap.size,0,none⟩ (.string ⟨#[]⟩)=W2 at T2 ⊢;rotate_left
    obtain⟨z0,c0,c1,c2,f0,f1,f2⟩:=T1.all;go_simp;refine hK _ _ ?_;clear z0 c0 c1 c2 f0 f1 f2 hK K;(try simp only[Act.put,List.setIfInBounds_toArray,List.set_cons_zero,List.set_cons_succ]);have T2:=T1.s0 (.string ⟨#[]⟩);clear T1;generalize World.setCell _ ⟨w.heap.size,0,none⟩ (.string ⟨#[]⟩)=W2 at T2 ⊢;refine iW (i:=1) rfl (by kernel_rfl) (by kernel_rfl) (fun K hK=>?_);obtain⟨z0,c0,c1,c2,f0,f1,f2⟩:=T2.all;go_simp;refine hK _ _ ?_;clear z0 c0 c1 c2 f0 f1 f2 hK K;(try simp only[Act.put,List.setIfInBounds_toArray,List.set_cons_zero,List.set_cons_succ]);rotate_left;obtain⟨z0,c0,c1,c2,f0,f1,f2⟩:=T1.all;go_simp;refine hK _ _ ?_;clear z0 c0 c1 c2 f0 f1 f2 hK K;(try simp only[Act.put,List.setIfInBounds_toArray,List.set_cons_zero,List.set_cons_succ]);have T2:=T1.s0 (.string ⟨#[]⟩);clear T1;generalize World.setCell _ ⟨w.heap.size,0,none⟩ (.string ⟨#[]⟩)=W2 at T2 ⊢;refine iW (i:=0) rfl (by kernel_rfl) (by kernel_rfl) (fun K hK=>?_);obtain⟨z0,c0,c1,c2,f0,f1,f2⟩:=T2.all;go_simp;refine hK _ _ ?_;clear z0 c0 c1 c2 f0 f1 f2 hK K;(try simp only[Act.put,List.setIfInBounds_toArray,List.set_cons_zero,List.set_cons_succ]);refine iW (i:=1) rfl (by kernel_rfl) (by kernel_rfl) (fun K hK=>?_);obtain⟨z0,c0,c1,c2,f0,f1,f2⟩:=T2.all;go_simp;refine hK _ _ ?_;clear z0 c0 c1 c2 f0 f1 f2 hK K
    (try simp only[Act.put,List.setIfInBounds_toArray,List.set_cons_zero,List.set_cons_succ])
    all_goals
     refine iW (i:=3) rfl (by kernel_rfl) (by kernel_rfl) (fun K hK=>?_);obtain⟨z0,c0,c1,c2,f0,f1,f2⟩:=T2.all;go_simp;refine hK _ _ ?_;clear z0 c0 c1 c2 f0 f1 f2 hK K;(try simp only[Act.put,List.setIfInBounds_toArray,List.set_cons_zero,List.set_cons_succ]);have T3:=T2.s1 (.int .i64 (x.at_:Int));clear T2;generalize World.setCell _ ⟨w.heap.size+1,0,none⟩ (.int .i64 (x.at_:Int))=W3 at T3 ⊢;refine iW (i:=4) rfl (by kernel_rfl) (by kernel_rfl) (fun K hK=>?_);obtain⟨z0,c0,c1,c2,f0,f1,f2⟩:=T3.all;go_simp;refine hK _ _ ?_;clear z0 c0 c1 c2 f0 f1 f2 hK K;(try simp only[Act.put,List.setIfInBounds_toArray,List.set_cons_zero,List.set_cons_succ]);have T4:=T3.s2 (.int .i64 50);clear T3;generalize World.setCell _ ⟨w.heap.size+1+1,0,none⟩ (.int .i64 50)=W4 at T4 ⊢;refine⟨by kernel_rfl,?_⟩;have HT:=ap T4;gi_wp2;exact HT.o.leave HI.o.1 vY.o
   | some v=>
    rw[hs1] at hsc;have hst:=ap (show fq (dR x)=some (gY v) by rw[hcut];unfold fq;rw[if_neg (by simp),if_pos rfl,hs1];rfl);have hpu:=ap (fun W1=>aiT (v:Int) W1 (Mg v hs1));have hpl:=Ns (v:Int);clear k0 k1 k2 k4 hcut ht E0 Mg hs1
    gi_wp2_with (refine⟨trivial,?_⟩;gi_at_call 117;refine (CallsIn.inRound l (callsIn_wide.2 (hsc.o _))).mono ?_;rintro e w1 ⟨rfl,b1⟩;unfold o5;have y1:=(kH.go b1).cell 1)
    refine⟨trivial,?_⟩
    gi_at_call 118
    refine (CallsIn.inRound l (callsIn_wide.2 (hpu.o _))).mono ?_;rintro e w2 ⟨rfl,b2⟩;have bh:Below W.heap.size W w2:=b1.trans (b2.mono b1.size);have dc:Lib.IsBuilder 52 5 w.heap.size (w.heap.size+1+1+1) (Lib.strCells (aa (kQ (pre.map dR)))) w2:=RP H2.o (cM bh none) (fun r e=>by cases e)
    gi_wp2_with (refine⟨trivial,?_⟩;gi_at_call 19;refine (CallsIn.inRound l (callsIn_wide.2 (Vy.o (gY v) _ (by omega) dc (Nat.le_trans HB.o.size bh.size)))).mono ?_;rintro e w3 ⟨rfl,Bo,bw⟩)
    have hn:=Rv HI.o hst.o ((bM.b8 bh).trans bw) Bo;exact⟨hn.1.from _,hn.2.1,hn.2.2⟩
 case done=>
  rintro D ys W hD dW ⟨h1,h2,k0,k1,k2,k4,hB⟩ hK;have hD0:s.data.toList.length=s.size:=bV s;obtain⟨out,hout⟩:∃out,kQ (ys.map dR)=out:=⟨_,rfl⟩
  have Hr:=ap (show iZ (dm s.size 0 s.data.toList)=.tuple #[.string (aa out),.int .i64 (-1),.int .i64 0] from by
   have e1:=Yw s.size 0 s.data.toList s.size (by omega) (by omega);have e2:=XY (s:=s.data.toList) (by omega) 0 s.size;rw[←e1,←e2,←dW,Yx h1,hout]
   rfl)
  rw[hout] at h2;have hst:=ap (Tryz.Builder_String_any_k w.heap.size (w.heap.size+1+1+1) out W (Lib.IsBuilderF.of h2) hB.size);have HB:=ap hB;have K0:=ap k0;have K1:=ap k1;have K2:=ap k2;have HK:=ap hK;have cy:=ap (show w.heap.size+1+1+1<D by simp at hD;omega);clear dW h1 h2 k0 k1 k2 k4 hB hK hout
  gi_wp2_with (refine⟨trivial,?_⟩;gi_at_call 21;refine (callsIn_wide.2 hst.o).mono ?_;rintro e w2 ⟨rfl,-,af,bg⟩;have k0:ae w2 w.heap.size 9 #[.string ⟨#[]⟩]:=bg _ _ K0.o (fun e=>by injection e with e;omega) (by intro c fz e;cases e);have k1:ae w2 (w.heap.size+1) 3 #[.int .i64 0]:=bg _ _ K1.o (fun e=>by injection e with e;omega) (by intro c fz e;cases e);have k2:ae w2 (w.heap.size+1+1) 29 #[.int .i64 0]:=bg _ _ K2.o (fun e=>by injection e with e;omega) (by intro c fz e;cases e);have kD:w2.heap[D]?=some (.deferred (some [])):=bg _ _ HK.o (fun e=>by injection e with e;have:=cy.o;omega) (by intro c fz e;cases e);have p0:=k0.cell 0;have f0:=k0.frozen 0;have p1:=k1.cell 0;have f1:=k1.frozen 0;have p2:=k2.cell 0;have f2:=k2.frozen 0)
  obtain⟨W3,yh⟩:∃W3,((w2.setCell ⟨w.heap.size,0,none⟩ (.string ⟨out.toArray⟩)).setCell ⟨w.heap.size+1,0,none⟩ (.int .i64 (-1))).setCell ⟨w.heap.size+1+1,0,none⟩ (.int .i64 0)=W3:=⟨_,rfl⟩;have r0:ae W3 w.heap.size 9 #[.string ⟨out.toArray⟩]:=by rw[←yh];exact ((k0.aH 0 _).far (p:=⟨w.heap.size+1,0,none⟩) (by simp) _).far (p:=⟨w.heap.size+1+1,0,none⟩) (by simp;omega) _
  have r1:ae W3 (w.heap.size+1) 3 #[.int .i64 (-1)]:=by rw[←yh];exact ((k1.far (p:=⟨w.heap.size,0,none⟩) (by simp) _).aH 0 _).far (p:=⟨w.heap.size+1+1,0,none⟩) (by simp) _
  have r2:ae W3 (w.heap.size+1+1) 29 #[.int .i64 0]:=by rw[←yh];exact ((k2.far (p:=⟨w.heap.size,0,none⟩) (by simp;omega) _).far (p:=⟨w.heap.size+1,0,none⟩) (by simp) _).aH 0 _
  have rD:W3.heap[D]?=some (.deferred (some [])):=by
   rw[←yh];have:=cy.o;exact (Below.heap_setCell _ _ _ _ (by simp;omega)).trans ((Below.heap_setCell _ _ _ _ (by simp;omega)).trans ((Below.heap_setCell _ _ _ _ (by simp;omega)).trans kD))
  have rB:Below w.heap.size w W3:=by
   rw[←yh];exact (((HB.o.trans af).setCell (p:=⟨w.heap.size,0,none⟩) (Nat.le_refl _) _).setCell (p:=⟨w.heap.size+1,0,none⟩) (by simp) _).setCell (p:=⟨w.heap.size+1+1,0,none⟩) (by simp;omega) _
  rw[yh];refine⟨by simp,.inl ⟨_,_,rfl,run_takeDeferred rD,?_⟩⟩;have g0:=cell_kept (r0.cell 0) (grownBy_putObj' _ D (.deferred none)) (fun r e=>by cases e;exact⟨_,rD,rfl⟩);have g1:=cell_kept (r1.cell 0) (grownBy_putObj' _ D (.deferred none)) (fun r e=>by cases e;exact⟨_,rD,rfl⟩);have g2:=cell_kept (r2.cell 0) (grownBy_putObj' _ D (.deferred none)) (fun r e=>by cases e;exact⟨_,rD,rfl⟩);refine⟨.tuple #[.string ⟨out.toArray⟩,.int .i64 (-1),.int .i64 0],?_,?_⟩
  ·simp[results,Tryz.results83,go_sem,g0,g1,g2]
  exact⟨aC Hr.o.symm,rB.trans (belowK_b (w:=w) (Nat.le_refl _) _ D _ _ (by have:=cy.o;omega) rD rfl rfl)⟩
 case stop=>
  rintro D c pre W hD ⟨rest,hsp⟩ ⟨rfl,iF,x,rfl,hp,hx,k0,k1,k2,hB⟩ hK;have hD0:s.data.toList.length=s.size:=bV s
  have Hr:=ap (show iZ (dm s.size 0 s.data.toList)=.tuple #[.string ⟨#[]⟩,.int .i64 (x.at_:Int),.int .i64 50] from by
   have e1:=Yw s.size 0 s.data.toList s.size (by omega) (by omega);have e2:=XY (s:=s.data.toList) (by omega) 0 s.size;rw[←e1,←e2,←hsp,List.map_append,List.map_append,List.map_cons,List.map_nil,List.append_assoc,List.singleton_append,Yv hp hx]
   rfl)
  clear hsp hp hx;gi_wp2;refine⟨by simp,.inl ⟨_,_,rfl,run_takeDeferred hK,?_⟩⟩;have g0:=cell_kept (k0.cell 0) (grownBy_putObj' _ D (.deferred none)) (fun r e=>by cases e;exact⟨_,hK,rfl⟩);have g1:=cell_kept (k1.cell 0) (grownBy_putObj' _ D (.deferred none)) (fun r e=>by cases e;exact⟨_,hK,rfl⟩);have g2:=cell_kept (k2.cell 0) (grownBy_putObj' _ D (.deferred none)) (fun r e=>by cases e;exact⟨_,hK,rfl⟩);refine⟨.tuple #[.string ⟨#[]⟩,.int .i64 (x.at_:Int),.int .i64 50],?_,?_⟩
  ·simp[results,Tryz.results83,go_sem,g0,g1,g2]
  exact⟨aC Hr.o.symm,hB.trans (belowK_b (w:=w) (Nat.le_refl _) _ D _ _ (by simp at hD;omega) hK rfl rfl)⟩
end
end Go.Proofs.YtpdkeckeekchlaaGreatDoor
