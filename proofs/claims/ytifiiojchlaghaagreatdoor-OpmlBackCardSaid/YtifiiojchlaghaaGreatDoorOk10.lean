/- References: the program's Strict. -/
import Derived.Test.YtifiiojchlaghaaGreatDoorOk08
import Derived.Test.YtifiiojchlaghaaGreatDoorOk09
set_option linter.unusedSimpArgs false
set_option maxRecDepth 100000
set_option maxHeartbeats 8000000
set_option linter.unusedVariables false
namespace Go.Proofs.YtifiiojchlaghaaGreatDoor
section
open Go.RowKit Go.Shelf Tk Sx

attribute [local go_sem] Oper.semAt_some

def noRow(X:World)(row:Option Nat):Prop:=∀r,row=some r→∃o:Obj,X.heap[r]?=some o∧o.isCells=false
theorem blk_row{X:World}{g t:Nat}{cs:Array Value}{row:Option Nat}(h:Blk X g t cs)(hr:noRow X row):some g≠row:=by
 intro e;obtain⟨o,ho,hc⟩:=hr _ e.symm;rw[show X.heap[g]?=_ from h] at ho;cases ho;cases hc
theorem bld_grown{T B b:Nat}{bs:List Value}{X Y:World}{row:Option Nat}(h:Lib.IsBuilder T 5 B b bs X)(hg:X.grownBy Y row)(hr:noRow X row):Lib.IsBuilder T 5 B b bs Y:=by
 have one:∀p,Lib.BuilderAt T 5 B b p bs X→Lib.BuilderAt T 5 B b p bs Y:=fun p hp=>by
  obtain⟨hB,v,hb,hown,hne⟩:=hp;refine⟨hB,v,Blk.grown (show Blk X b T #[p,v] from hb) hg (blk_row (show Blk X b T #[p,v] from hb) hr),hown.kept (row:=row) hg ?_,hne⟩
  cases hv:v.ownBlock with
  | none=>exact .inl rfl
  | some k=>
   refine .inr fun e=>?_;obtain⟨o,ho,hc⟩:=hr k e.symm;obtain⟨cs,fr,hh⟩:=(own_isT hown k hv).2;rw[hh] at ho;cases ho;cases hc
 exact h.imp (one _) (one _)
def StrI(w:World)(s:ByteArray)(pre:List Pce)(W:World):Prop :=
 (∀x∈pre.map cutPce,(stepP x).isSome=true)∧Lib.IsBuilder 39 5 w.heap.size (w.heap.size+1+1+1) (Lib.strCells (bstr (outAll (pre.map cutPce)))) W∧
 Blk W w.heap.size 9 #[.string ⟨#[]⟩]∧Blk W (w.heap.size+1) 3 #[.int .i64 0]∧Blk W (w.heap.size+1+1) 25 #[.int .i64 0]∧Blk W (w.heap.size+1+1+1+1) 9 #[.string s]∧Below w.heap.size w W
def StrX(w:World)(c:Code)(pre:List Pce)(W:World):Prop :=
 c=.ret∧∃pre0 x,pre=pre0++[x]∧(∀y∈pre0.map cutPce,(stepP y).isSome=true)∧stepP (cutPce x)=none∧
 Blk W w.heap.size 9 #[.string ⟨#[]⟩]∧Blk W (w.heap.size+1) 3 #[.int .i64 (x.at_:Int)]∧Blk W (w.heap.size+1+1) 25 #[.int .i64 50]∧Below w.heap.size w W
theorem StrI_own(w:World)(s:ByteArray)(B:Nat)(hB:w.heap.size≤B):OwnFrom B (StrI w s):=by
 rintro pre X Y row ⟨h1,h2,h3,h4,h5,h6,h7⟩ hg hrow;have hr:noRow X row:=fun r e=>(hrow r e).2;exact⟨h1,bld_grown h2 hg hr,h3.grown hg (blk_row h3 hr),h4.grown hg (blk_row h4 hr),h5.grown hg (blk_row h5 hr),h6.grown hg (blk_row h6 hr),h7.grown hg h7.size (fun k e=>by have:=(hrow k e).1;omega)⟩
theorem StrX_own(w:World)(c:Code)(B:Nat)(hB:w.heap.size≤B):OwnFrom B (StrX w c):=by
 rintro pre X Y row ⟨h1,p,x,h2,h3,h4,h5,h6,h7,h8⟩ hg hrow;have hr:noRow X row:=fun r e=>(hrow r e).2;exact⟨h1,p,x,h2,h3,h4,h5.grown hg (blk_row h5 hr),h6.grown hg (blk_row h6 hr),h7.grown hg (blk_row h7 hr),h8.grown hg h8.size (fun k e=>by have:=(hrow k e).1;omega)⟩

theorem blt_pays{R:Nat}{W W':World}{cs cs4:Array Value}(h:BlT R (R+1+1+1) W W')(hb:Blk W (R+1+1+1) 39 cs)(h4:Blk W (R+1+1+1+1) 9 cs4):KeepsOthers W W'∧PK (R+1+1+1+1) W W':=by
 have nt:∀{k:Nat} {o:Obj},W.heap[k]?=some o→(∀c f,o≠.cells c 5 f)→¬IsT W k 5:=fun ho hn ⟨c,f,hh⟩=>by rw[hh] at ho;cases ho;exact hn _ _ rfl
 refine⟨⟨h.size,fun k o hk ho=>?_⟩,h.size,fun g hg hk=>?_⟩
 ·refine (h.block k (Array.getElem?_eq_some_iff.1 hk).1 (fun e=>?_) (.inr (nt hk fun c f e=>by subst e;cases ho))).trans hk;subst e;rw[show W.heap[_]?=_ from hb] at hk;cases hk;cases ho
 rcases hk with rfl|⟨c,f,hk⟩
 ·exact h.block _ hg (by omega) (.inr (nt h4 fun c f e=>by injection e with _ e2;exact absurd e2 (by decide)))
 refine h.block g hg (fun e=>?_) (.inr (nt hk fun c f e=>by injection e with _ e2;exact absurd e2 (by decide)));subst e;rw[show W.heap[_]?=_ from hb] at hk;injection hk with hk
 injection hk with _ hk
 exact absurd hk (by decide)
theorem bld_blk{T B b:Nat}{bs:List Value}{W:World}(h:Lib.IsBuilder T 5 B b bs W):∃cs,Blk W b T cs:=by
 rcases h with ⟨_,v,hb,_⟩|⟨_,v,hb,_⟩<;>exact⟨_,hb⟩
theorem strCells_app(a b:L):Lib.strCells (bstr a)++Lib.strCells (bstr b)=Lib.strCells (bstr (a++b)):=by simp[Lib.strCells,bstr]
theorem StrI_next{w:World}{s:ByteArray}{pre:List Pce}{x:Pce}{W W':World}{t:L}(h:StrI w s pre W)(hx:stepP (cutPce x)=some t)(hb:BlT w.heap.size (w.heap.size+1+1+1) W W')
  (hbu:Lib.IsBuilder 39 5 w.heap.size (w.heap.size+1+1+1) (Lib.strCells (bstr (outAll (pre.map cutPce)))++Lib.strCells (bstr t)) W') :
  KeepsOthers W W'∧PK (w.heap.size+1+1+1+1) W W'∧StrI w s (pre++[x]) W':=by
 obtain⟨h1,h2,k0,k1,k2,k4,hB⟩:=h;obtain⟨cs,hcs⟩:=bld_blk h2;obtain⟨p1,p2⟩:=blt_pays hb hcs k4;refine⟨p1,p2,?_,?_,hb.blk k0 (by omega) (by decide),hb.blk k1 (by omega) (by decide),hb.blk k2 (by omega) (by decide),hb.blk k4 (by omega) (by decide),hB.trans (hb.below (by omega) hB.size)⟩
 ·intro y hy;rw[List.map_append,List.mem_append] at hy
  rcases hy with hy|hy
  ·exact h1 y hy
  simp only[List.map_cons,List.map_nil,List.mem_singleton] at hy;subst hy;rw[hx];rfl
 rw[List.map_append,List.map_cons,List.map_nil,outAll_snoc,hx,Option.getD_some,←strCells_app];exact hbu

structure Thrs(w:World)(v0 v1 v2:Value)(at_ H:Nat)(W0 W:World):Prop where
 b0:Blk W w.heap.size 9 #[v0]
 b1:Blk W (w.heap.size+1) 3 #[v1]
 b2:Blk W (w.heap.size+1+1) 25 #[v2]
 y0:W.cell? ⟨H,0,none⟩=some (.int .i64 (at_:Int))
 hH:w.heap.size+1+1<H
 hb:Below w.heap.size w W
 hk:KeepsOthers W0 W
abbrev Thr(w:World):=Thrs w (.string ⟨#[]⟩) (.int .i64 0) (.int .i64 0)
section
variable {w W0 W W1:World} {v0 v1 v2:Value} {at_ H:Nat}
theorem Thrs.c0(h:Thrs w v0 v1 v2 at_ H W0 W):W.cell? ⟨w.heap.size,0,none⟩=some v0:=h.b0.cell 0
theorem Thrs.c1(h:Thrs w v0 v1 v2 at_ H W0 W):W.cell? ⟨w.heap.size+1,0,none⟩=some v1:=h.b1.cell 0
theorem Thrs.c2(h:Thrs w v0 v1 v2 at_ H W0 W):W.cell? ⟨w.heap.size+1+1,0,none⟩=some v2:=h.b2.cell 0
theorem Thrs.f0(h:Thrs w v0 v1 v2 at_ H W0 W):W.frozen? ⟨w.heap.size,0,none⟩=false:=h.b0.frozen 0
theorem Thrs.f1(h:Thrs w v0 v1 v2 at_ H W0 W):W.frozen? ⟨w.heap.size+1,0,none⟩=false:=h.b1.frozen 0
theorem Thrs.f2(h:Thrs w v0 v1 v2 at_ H W0 W):W.frozen? ⟨w.heap.size+1+1,0,none⟩=false:=h.b2.frozen 0
theorem Thrs.all(h:Thrs w v0 v1 v2 at_ H W0 W):W.cell? ⟨H,0,none⟩=some (.int .i64 (at_:Int))∧W.cell? ⟨w.heap.size,0,none⟩=some v0∧W.cell? ⟨w.heap.size+1,0,none⟩=some v1∧W.cell? ⟨w.heap.size+1+1,0,none⟩=some v2∧
  W.frozen? ⟨w.heap.size,0,none⟩=false∧W.frozen? ⟨w.heap.size+1,0,none⟩=false∧W.frozen? ⟨w.heap.size+1+1,0,none⟩=false:=⟨h.y0,h.c0,h.c1,h.c2,h.f0,h.f1,h.f2⟩
theorem Thrs.go(h:Thrs w v0 v1 v2 at_ H W0 W)(b:Below W.heap.size W W1):Thrs w v0 v1 v2 at_ H W0 W1 :=
 ⟨h.b0.go b,h.b1.go b,h.b2.go b,(b.cell (p:=⟨H,0,none⟩) (lt_of_cell h.y0)).trans h.y0,h.hH,h.hb.trans (b.mono h.hb.size),h.hk.trans (others_below b)⟩
theorem Thrs.drew(h:Thrs w v0 v1 v2 at_ H W0 W):Thrs w v0 v1 v2 at_ H W0 W.drew:=h.go (Below.refl _ _).drew
theorem set_far{W:World}{p q:Addr}{u v:Value}(h:W.cell? p=some v)(hn:p.block≠q.block):(W.setCell q u).cell? p=some v:=(World.cell?_of_block (Below.heap_setCell W q u p.block hn)).trans h
theorem Thrs.s0(h:Thrs w v0 v1 v2 at_ H W0 W)(u:Value):Thrs w u v1 v2 at_ H W0 (W.setCell ⟨w.heap.size,0,none⟩ u) :=
 ⟨h.b0.set_ 0 u,h.b1.far (by simp) _,h.b2.far (by simp;omega) _,set_far h.y0 (by have:=h.hH;simp;omega),h.hH,h.hb.setCell (p:=⟨w.heap.size,0,none⟩) (Nat.le_refl _) _,h.hk.trans (KeepsOthers.setCell _ _ _)⟩
theorem Thrs.s1(h:Thrs w v0 v1 v2 at_ H W0 W)(u:Value):Thrs w v0 u v2 at_ H W0 (W.setCell ⟨w.heap.size+1,0,none⟩ u) :=
 ⟨h.b0.far (by simp) _,h.b1.set_ 0 u,h.b2.far (by simp) _,set_far h.y0 (by have:=h.hH;simp;omega),h.hH,h.hb.setCell (p:=⟨w.heap.size+1,0,none⟩) (by simp) _,h.hk.trans (KeepsOthers.setCell _ _ _)⟩
theorem Thrs.s2(h:Thrs w v0 v1 v2 at_ H W0 W)(u:Value):Thrs w v0 v1 u at_ H W0 (W.setCell ⟨w.heap.size+1+1,0,none⟩ u) :=
 ⟨h.b0.far (by simp;omega) _,h.b1.far (by simp) _,h.b2.set_ 0 u,set_far h.y0 (by have:=h.hH;simp;omega),h.hH,h.hb.setCell (p:=⟨w.heap.size+1+1,0,none⟩) (by simp;omega) _,h.hk.trans (KeepsOthers.setCell _ _ _)⟩
theorem Thrs.leave{B:Nat}{pre:List Pce}{x:Pce}(h:Thrs w (.string ⟨#[]⟩) (.int .i64 (x.at_:Int)) (.int .i64 50) x.at_ H W0 W)(hp:∀y∈pre.map cutPce,(stepP y).isSome=true)(hx:stepP (cutPce x)=none):KeepsFrom B W0 W∧StrX w .ret (pre++[x]) W :=
 ⟨h.hk.from _,rfl,pre,x,rfl,hp,hx,h.b0,h.b1,h.b2,h.hb⟩
end

theorem strict_any(s:ByteArray)(w:World)(hs:s.size≤100000) :
  Calls Tryz.prog 63 #[.string s] w fun e w'=>e=.returned (strV (sref s.size 0 s.data.toList))∧Below w.heap.size w w':=by
 refine (callsIn_wide (n:=5)).1 ?_;refine callsIn_of_wp_marks Tryz.func63 rfl trivial ?_ rfl;simp only[Tryz.ntmps63,List.size_toArray,List.length_cons,List.length_nil,Nat.reduceAdd,Nat.reduceSub,Array.replicate_succ,Array.replicate_zero,List.push_toArray,List.append_toArray,List.nil_append,List.cons_append]
 gi_wp2_with (refine⟨trivial,?_⟩;gi_at_call 91;refine (callsIn_wide.2 (rpieces_mk _ _)).mono ?_;rintro e w' ⟨rfl,rfl⟩)
 have hI0:StrI w s [] (((((w.alloc (.cells #[.string ⟨#[]⟩] 9)).alloc (.cells #[.int .i64 0] 3)).alloc (.cells #[.int .i64 0] 25)).alloc (.cells #[.pointer none,.slice none 0 0] 39)).alloc (.cells #[.string s] 9)):=by
  have b0:=((((Blk.new w 9 #[.string ⟨#[]⟩]).alloc (.cells #[.int .i64 0] 3)).alloc (.cells #[.int .i64 0] 25)).alloc (.cells #[.pointer none,.slice none 0 0] 39)).alloc (.cells #[.string s] 9);have b1:=(((Blk.new (w.alloc (.cells #[.string ⟨#[]⟩] 9)) 3 #[.int .i64 0]).alloc (.cells #[.int .i64 0] 25)).alloc (.cells #[.pointer none,.slice none 0 0] 39)).alloc (.cells #[.string s] 9);have b2:=((Blk.new ((w.alloc (.cells #[.string ⟨#[]⟩] 9)).alloc (.cells #[.int .i64 0] 3)) 25 #[.int .i64 0]).alloc (.cells #[.pointer none,.slice none 0 0] 39)).alloc (.cells #[.string s] 9);have b3:=(Blk.new (((w.alloc (.cells #[.string ⟨#[]⟩] 9)).alloc (.cells #[.int .i64 0] 3)).alloc (.cells #[.int .i64 0] 25)) 39 #[.pointer none,.slice none 0 0]).alloc (.cells #[.string s] 9);have b4:=Blk.new ((((w.alloc (.cells #[.string ⟨#[]⟩] 9)).alloc (.cells #[.int .i64 0] 3)).alloc (.cells #[.int .i64 0] 25)).alloc (.cells #[.pointer none,.slice none 0 0] 39)) 9 #[.string s];simp only[World.size_alloc] at b1 b2 b3 b4;refine⟨(fun x hx=>by cases hx),.inl ⟨by omega,.slice none 0 0,b3,World.ownsRow_nil _ _ _ _,by simp[Value.ownBlock]⟩,b0,b1,b2,b4,?_⟩
  exact (((((Below.refl _ w).alloc (Nat.le_refl _) _).alloc (by simp) _).alloc (by simp;omega) _).alloc (by simp;omega) _).alloc (by simp;omega) _
 refine range_own rfl (by omega) (gf:=129) (lb:=#[.pointer (some ⟨w.heap.size+1+1+1+1,0,none⟩)]) rfl trivial (enters_of Tryz.func129 (by kernel_rfl) rfl)
  (rpieces_stops (5-1) (by omega) (w.heap.size+1+1+1+1) s hs _ (by simp) (hI0.2.2.2.2.2.1.cell 0)) PK.trans (pk_b (by simp)) (fun W o=>pk_below (below_alloc W o)) (fun _=>rfl)
  (StrI w s) (StrX w) (StrI_own w s _ (by simp;omega)) (fun c=>StrX_own w c _ (by simp;omega)) hI0
  (fun x=>.cells #[.int .i64 (x.at_:Int),.bool x.ref,.string (bstr (x.text.take 100000))] 159)
  (fun x H=>{ tmps:=#[.string s,undef,.pointer (some ⟨w.heap.size,0,none⟩),.pointer (some ⟨w.heap.size+1,0,none⟩),.pointer (some ⟨w.heap.size+1+1,0,none⟩),.pointer (some ⟨w.heap.size+1+1+1,0,none⟩),.pointer (some ⟨H,0,none⟩),undef,undef,undef,undef,.string s,.func (.func 129) #[] #[.pointer (some ⟨w.heap.size+1+1+1+1,0,none⟩)],.agg #[.int .i64 (x.at_:Int),.bool x.ref,.string (bstr (x.text.take 100000))],undef,undef,undef,undef,undef,undef,undef,undef,undef,undef,undef,undef,undef,undef,undef,undef,undef,undef,undef,undef,undef,undef,undef,undef,undef,undef,undef,undef,undef,undef,undef,undef,undef,undef],defers:=[] }) ?assign ?body ?done ?stop
 case assign=>
  intro l x W K hK;simp only[pcE,cutPce];gi_wp2;exact hK
 case body=>
  rintro l pre x H W hI hlen hH hHx hHs;have HI:=hide hI;obtain⟨h1,h2,k0,k1,k2,k4,hB⟩:=hI;have hol:=outAll_short (l:=pre);obtain⟨t,ht⟩:∃t,x.text.take 100000=t:=⟨_,rfl⟩;have htl:t.length≤100000:=by rw[←ht,List.length_take];omega
  have hcut:cutPce x=⟨x.at_,x.ref,t⟩:=by unfold cutPce;rw[ht]
  rw[ht] at hHx ⊢;have kH:Blk W H 159 #[.int .i64 (x.at_:Int),.bool x.ref,.string (bstr t)]:=hHx
  have hws:=hide (fun (q:L) W1 (hq:q.length≤100000) (hb:Lib.IsBuilder 39 5 w.heap.size (w.heap.size+1+1+1) (Lib.strCells (bstr (outAll (pre.map cutPce)))) W1) (hs1:w.heap.size≤W1.heap.size)=>
   ws_any w.heap.size (w.heap.size+1+1+1) _ (bstr q) W1 hb (by rw[Lib.strCells_length,bstr_size,bstr_size];have:=Nat.mul_le_mul_right 100000 (Nat.le_trans (Nat.le_of_lt hlen) hs);omega) hs1)
  have hq:((bstr t).toList==[38])=decide (t=[38]):=lit_eq (bstr t) [38];have HH:=hide (show Blk W H 159 _ from hHx);have HHs:=hide (show w.heap.size+1+1<H by simp at hH;omega);have H2:=hide h2;have HB:=hide hB;obtain⟨ref,href⟩:∃r,x.ref=r:=⟨_,rfl⟩;rw[href] at kH hcut ⊢;have y0:=kH.cell 0;have y1:=kH.cell 1;have y2:=kH.cell 2;clear h1 h2 hB hHx hol
  cases ref with
  | false=>
   by_cases h38:t=[38]
   ·have hcp:=hide (show stepP (cutPce x)=none by rw[hcut];unfold stepP;rw[if_neg (fun h=>h.2 h38),if_neg (by simp)]);rw[decide_eq_true h38] at hq;have hsc:=hide (fun W1=>scal_any t W1 (by omega));have HT0:=hide (show Thr w x.at_ H W W from⟨k0,k1,k2,HH.out.cell 0,HHs.out,HB.out,KeepsOthers.refl _⟩);clear k0 k1 k2 k4 hcut ht hHs HHs;obtain⟨ov,hov⟩:∃ov,scalar t=ov:=⟨_,rfl⟩;rw[hov] at hsc;clear hov h38
    cases ov with
    | none=>
     gi_wp2_with (refine⟨trivial,?_⟩;gi_at_call 92;refine (CallsIn.inRound l (callsIn_wide.2 (hsc.out _))).mono ?_;rintro e w1 ⟨rfl,b1⟩;unfold optV;have y1:=(kH.go b1).cell 1)
     have T0:=HT0.out.go b1;clear HT0 hsc y0 y1 y2;refine wpIn_region_any (by kernel_rfl) ?_;have T1:=T0.drew;clear T0;change wpAnyIn _ _ _ _ _ _ 5 #[false,false,false,false,false] _ (World.drew _);generalize World.drew _=W1 at T1 ⊢;refine wpAnyIn_ready (rs:=[0,2]) (by kernel_rfl) (by simp) (in_cons rfl (by kernel_rfl) (fun K hK=>?_) (in_cons rfl (by kernel_rfl) (fun K hK=>?_) AllReadyIn.nil))
     ·skip
      obtain⟨z0,c0,c1,c2,f0,f1,f2⟩:=T1.all;go_simp;refine hK _ _ ?_;clear z0 c0 c1 c2 f0 f1 f2 hK K;(try simp only[Act.put,List.setIfInBounds_toArray,List.set_cons_zero,List.set_cons_succ]);refine wpAnyIn_ready (rs:=[1,2]) (by kernel_rfl) (by simp) (in_cons rfl (by kernel_rfl) (fun K hK=>?_) (in_cons rfl (by kernel_rfl) (fun K hK=>?_) AllReadyIn.nil))
      ·skip
       obtain⟨z0,c0,c1,c2,f0,f1,f2⟩:=T1.all;go_simp;refine hK _ _ ?_;clear z0 c0 c1 c2 f0 f1 f2 hK K;(try simp only[Act.put,List.setIfInBounds_toArray,List.set_cons_zero,List.set_cons_succ]);refine in_one (i:=2) rfl (by kernel_rfl) (by kernel_rfl) (fun K hK=>?_);obtain⟨z0,c0,c1,c2,f0,f1,f2⟩:=T1.all;go_simp;refine hK _ _ ?_;clear z0 c0 c1 c2 f0 f1 f2 hK K;(try simp only[Act.put,List.setIfInBounds_toArray,List.set_cons_zero,List.set_cons_succ]);have T2:=T1.s0 (.string ⟨#[]⟩);clear T1;generalize World.setCell _ ⟨w.heap.size,0,none⟩ (.string ⟨#[]⟩)=W2 at T2 ⊢;refine in_one (i:=3) rfl (by kernel_rfl) (by kernel_rfl) (fun K hK=>?_);obtain⟨z0,c0,c1,c2,f0,f1,f2⟩:=T2.all;go_simp;refine hK _ _ ?_;clear z0 c0 c1 c2 f0 f1 f2 hK K;(try simp only[Act.put,List.setIfInBounds_toArray,List.set_cons_zero,List.set_cons_succ]);have T3:=T2.s1 (.int .i64 (x.at_:Int));clear T2;generalize World.setCell _ ⟨w.heap.size+1,0,none⟩ (.int .i64 (x.at_:Int))=W3 at T3 ⊢;refine in_one (i:=4) rfl (by kernel_rfl) (by kernel_rfl) (fun K hK=>?_);obtain⟨z0,c0,c1,c2,f0,f1,f2⟩:=T3.all;go_simp;refine hK _ _ ?_;clear z0 c0 c1 c2 f0 f1 f2 hK K;(try simp only[Act.put,List.setIfInBounds_toArray,List.set_cons_zero,List.set_cons_succ]);have T4:=T3.s2 (.int .i64 50);clear T3
       generalize World.setCell _ ⟨w.heap.size+1+1,0,none⟩ (.int .i64 50)=W4 at T4 ⊢;refine⟨by kernel_rfl,?_⟩;have HT:=hide T4;gi_wp2;exact HT.out.leave HI.out.1 hcp.out
      skip
      obtain⟨z0,c0,c1,c2,f0,f1,f2⟩:=T1.all;go_simp;refine hK _ _ ?_;clear z0 c0 c1 c2 f0 f1 f2 hK K;(try simp only[Act.put,List.setIfInBounds_toArray,List.set_cons_zero,List.set_cons_succ]);have T2:=T1.s0 (.string ⟨#[]⟩);clear T1;generalize World.setCell _ ⟨w.heap.size,0,none⟩ (.string ⟨#[]⟩)=W2 at T2 ⊢;refine in_one (i:=1) rfl (by kernel_rfl) (by kernel_rfl) (fun K hK=>?_);obtain⟨z0,c0,c1,c2,f0,f1,f2⟩:=T2.all;go_simp;refine hK _ _ ?_;clear z0 c0 c1 c2 f0 f1 f2 hK K;(try simp only[Act.put,List.setIfInBounds_toArray,List.set_cons_zero,List.set_cons_succ]);refine in_one (i:=3) rfl (by kernel_rfl) (by kernel_rfl) (fun K hK=>?_);obtain⟨z0,c0,c1,c2,f0,f1,f2⟩:=T2.all;go_simp;refine hK _ _ ?_;clear z0 c0 c1 c2 f0 f1 f2 hK K;(try simp only[Act.put,List.setIfInBounds_toArray,List.set_cons_zero,List.set_cons_succ]);have T3:=T2.s1 (.int .i64 (x.at_:Int));clear T2;generalize World.setCell _ ⟨w.heap.size+1,0,none⟩ (.int .i64 (x.at_:Int))=W3 at T3 ⊢;refine in_one (i:=4) rfl (by kernel_rfl) (by kernel_rfl) (fun K hK=>?_);obtain⟨z0,c0,c1,c2,f0,f1,f2⟩:=T3.all;go_simp;refine hK _ _ ?_;clear z0 c0 c1 c2 f0 f1 f2 hK K;(try simp only[Act.put,List.setIfInBounds_toArray,List.set_cons_zero,List.set_cons_succ]);have T4:=T3.s2 (.int .i64 50);clear T3
      generalize World.setCell _ ⟨w.heap.size+1+1,0,none⟩ (.int .i64 50)=W4 at T4 ⊢;refine⟨by kernel_rfl,?_⟩;have HT:=hide T4;gi_wp2;exact HT.out.leave HI.out.1 hcp.out
     skip
     obtain⟨z0,c0,c1,c2,f0,f1,f2⟩:=T1.all;go_simp;refine hK _ _ ?_;clear z0 c0 c1 c2 f0 f1 f2 hK K;(try simp only[Act.put,List.setIfInBounds_toArray,List.set_cons_zero,List.set_cons_succ]);have T2:=T1.s0 (.string ⟨#[]⟩);clear T1;generalize World.setCell _ ⟨w.heap.size,0,none⟩ (.string ⟨#[]⟩)=W2 at T2 ⊢;refine in_one (i:=0) rfl (by kernel_rfl) (by kernel_rfl) (fun K hK=>?_);obtain⟨z0,c0,c1,c2,f0,f1,f2⟩:=T2.all;go_simp;refine hK _ _ ?_;clear z0 c0 c1 c2 f0 f1 f2 hK K;(try simp only[Act.put,List.setIfInBounds_toArray,List.set_cons_zero,List.set_cons_succ]);refine in_one (i:=1) rfl (by kernel_rfl) (by kernel_rfl) (fun K hK=>?_);obtain⟨z0,c0,c1,c2,f0,f1,f2⟩:=T2.all;go_simp;refine hK _ _ ?_;clear z0 c0 c1 c2 f0 f1 f2 hK K;(try simp only[Act.put,List.setIfInBounds_toArray,List.set_cons_zero,List.set_cons_succ]);refine in_one (i:=3) rfl (by kernel_rfl) (by kernel_rfl) (fun K hK=>?_);obtain⟨z0,c0,c1,c2,f0,f1,f2⟩:=T2.all;go_simp;refine hK _ _ ?_;clear z0 c0 c1 c2 f0 f1 f2 hK K;(try simp only[Act.put,List.setIfInBounds_toArray,List.set_cons_zero,List.set_cons_succ]);have T3:=T2.s1 (.int .i64 (x.at_:Int));clear T2;generalize World.setCell _ ⟨w.heap.size+1,0,none⟩ (.int .i64 (x.at_:Int))=W3 at T3 ⊢;refine in_one (i:=4) rfl (by kernel_rfl) (by kernel_rfl) (fun K hK=>?_)
     obtain⟨z0,c0,c1,c2,f0,f1,f2⟩:=T3.all;go_simp;refine hK _ _ ?_;clear z0 c0 c1 c2 f0 f1 f2 hK K;(try simp only[Act.put,List.setIfInBounds_toArray,List.set_cons_zero,List.set_cons_succ]);have T4:=T3.s2 (.int .i64 50);clear T3;generalize World.setCell _ ⟨w.heap.size+1+1,0,none⟩ (.int .i64 50)=W4 at T4 ⊢;refine⟨by kernel_rfl,?_⟩;have HT:=hide T4;gi_wp2;exact HT.out.leave HI.out.1 hcp.out
    | some v=>
     gi_wp2_with (refine⟨trivial,?_⟩;gi_at_call 92;refine (CallsIn.inRound l (callsIn_wide.2 (hsc.out _))).mono ?_;rintro e w1 ⟨rfl,b1⟩;unfold optV;have y1:=(kH.go b1).cell 1)
     have T0:=HT0.out.go b1;clear HT0 hsc y0 y1 y2;refine wpIn_region_any (by kernel_rfl) ?_;have T1:=T0.drew;clear T0;change wpAnyIn _ _ _ _ _ _ 5 #[false,false,false,false,false] _ (World.drew _);generalize World.drew _=W1 at T1 ⊢;refine wpAnyIn_ready (rs:=[0,2]) (by kernel_rfl) (by simp) (in_cons rfl (by kernel_rfl) (fun K hK=>?_) (in_cons rfl (by kernel_rfl) (fun K hK=>?_) AllReadyIn.nil))
     ·skip
      obtain⟨z0,c0,c1,c2,f0,f1,f2⟩:=T1.all;go_simp;refine hK _ _ ?_;clear z0 c0 c1 c2 f0 f1 f2 hK K;(try simp only[Act.put,List.setIfInBounds_toArray,List.set_cons_zero,List.set_cons_succ]);refine wpAnyIn_ready (rs:=[1,2]) (by kernel_rfl) (by simp) (in_cons rfl (by kernel_rfl) (fun K hK=>?_) (in_cons rfl (by kernel_rfl) (fun K hK=>?_) AllReadyIn.nil))
      ·skip
       obtain⟨z0,c0,c1,c2,f0,f1,f2⟩:=T1.all;go_simp;refine hK _ _ ?_;clear z0 c0 c1 c2 f0 f1 f2 hK K;(try simp only[Act.put,List.setIfInBounds_toArray,List.set_cons_zero,List.set_cons_succ]);refine in_one (i:=2) rfl (by kernel_rfl) (by kernel_rfl) (fun K hK=>?_);obtain⟨z0,c0,c1,c2,f0,f1,f2⟩:=T1.all;go_simp;refine hK _ _ ?_;clear z0 c0 c1 c2 f0 f1 f2 hK K;(try simp only[Act.put,List.setIfInBounds_toArray,List.set_cons_zero,List.set_cons_succ]);have T2:=T1.s0 (.string ⟨#[]⟩);clear T1;generalize World.setCell _ ⟨w.heap.size,0,none⟩ (.string ⟨#[]⟩)=W2 at T2 ⊢;refine in_one (i:=3) rfl (by kernel_rfl) (by kernel_rfl) (fun K hK=>?_);obtain⟨z0,c0,c1,c2,f0,f1,f2⟩:=T2.all;go_simp;refine hK _ _ ?_;clear z0 c0 c1 c2 f0 f1 f2 hK K;(try simp only[Act.put,List.setIfInBounds_toArray,List.set_cons_zero,List.set_cons_succ]);have T3:=T2.s1 (.int .i64 (x.at_:Int));clear T2;generalize World.setCell _ ⟨w.heap.size+1,0,none⟩ (.int .i64 (x.at_:Int))=W3 at T3 ⊢;refine in_one (i:=4) rfl (by kernel_rfl) (by kernel_rfl) (fun K hK=>?_);obtain⟨z0,c0,c1,c2,f0,f1,f2⟩:=T3.all;go_simp;refine hK _ _ ?_;clear z0 c0 c1 c2 f0 f1 f2 hK K;(try simp only[Act.put,List.setIfInBounds_toArray,List.set_cons_zero,List.set_cons_succ]);have T4:=T3.s2 (.int .i64 50);clear T3
       generalize World.setCell _ ⟨w.heap.size+1+1,0,none⟩ (.int .i64 50)=W4 at T4 ⊢;refine⟨by kernel_rfl,?_⟩;have HT:=hide T4;gi_wp2;exact HT.out.leave HI.out.1 hcp.out
      skip
      obtain⟨z0,c0,c1,c2,f0,f1,f2⟩:=T1.all;go_simp;refine hK _ _ ?_;clear z0 c0 c1 c2 f0 f1 f2 hK K;(try simp only[Act.put,List.setIfInBounds_toArray,List.set_cons_zero,List.set_cons_succ]);have T2:=T1.s0 (.string ⟨#[]⟩);clear T1;generalize World.setCell _ ⟨w.heap.size,0,none⟩ (.string ⟨#[]⟩)=W2 at T2 ⊢;refine in_one (i:=1) rfl (by kernel_rfl) (by kernel_rfl) (fun K hK=>?_);obtain⟨z0,c0,c1,c2,f0,f1,f2⟩:=T2.all;go_simp;refine hK _ _ ?_;clear z0 c0 c1 c2 f0 f1 f2 hK K;(try simp only[Act.put,List.setIfInBounds_toArray,List.set_cons_zero,List.set_cons_succ]);refine in_one (i:=3) rfl (by kernel_rfl) (by kernel_rfl) (fun K hK=>?_);obtain⟨z0,c0,c1,c2,f0,f1,f2⟩:=T2.all;go_simp;refine hK _ _ ?_;clear z0 c0 c1 c2 f0 f1 f2 hK K;(try simp only[Act.put,List.setIfInBounds_toArray,List.set_cons_zero,List.set_cons_succ]);have T3:=T2.s1 (.int .i64 (x.at_:Int));clear T2;generalize World.setCell _ ⟨w.heap.size+1,0,none⟩ (.int .i64 (x.at_:Int))=W3 at T3 ⊢;refine in_one (i:=4) rfl (by kernel_rfl) (by kernel_rfl) (fun K hK=>?_);obtain⟨z0,c0,c1,c2,f0,f1,f2⟩:=T3.all;go_simp;refine hK _ _ ?_;clear z0 c0 c1 c2 f0 f1 f2 hK K;(try simp only[Act.put,List.setIfInBounds_toArray,List.set_cons_zero,List.set_cons_succ]);have T4:=T3.s2 (.int .i64 50);clear T3
      generalize World.setCell _ ⟨w.heap.size+1+1,0,none⟩ (.int .i64 50)=W4 at T4 ⊢;refine⟨by kernel_rfl,?_⟩;have HT:=hide T4;gi_wp2;exact HT.out.leave HI.out.1 hcp.out
     skip
     obtain⟨z0,c0,c1,c2,f0,f1,f2⟩:=T1.all;go_simp;refine hK _ _ ?_;clear z0 c0 c1 c2 f0 f1 f2 hK K;(try simp only[Act.put,List.setIfInBounds_toArray,List.set_cons_zero,List.set_cons_succ]);have T2:=T1.s0 (.string ⟨#[]⟩);clear T1;generalize World.setCell _ ⟨w.heap.size,0,none⟩ (.string ⟨#[]⟩)=W2 at T2 ⊢;refine in_one (i:=0) rfl (by kernel_rfl) (by kernel_rfl) (fun K hK=>?_);obtain⟨z0,c0,c1,c2,f0,f1,f2⟩:=T2.all;go_simp;refine hK _ _ ?_;clear z0 c0 c1 c2 f0 f1 f2 hK K;(try simp only[Act.put,List.setIfInBounds_toArray,List.set_cons_zero,List.set_cons_succ]);refine in_one (i:=1) rfl (by kernel_rfl) (by kernel_rfl) (fun K hK=>?_);obtain⟨z0,c0,c1,c2,f0,f1,f2⟩:=T2.all;go_simp;refine hK _ _ ?_;clear z0 c0 c1 c2 f0 f1 f2 hK K;(try simp only[Act.put,List.setIfInBounds_toArray,List.set_cons_zero,List.set_cons_succ]);refine in_one (i:=3) rfl (by kernel_rfl) (by kernel_rfl) (fun K hK=>?_);obtain⟨z0,c0,c1,c2,f0,f1,f2⟩:=T2.all;go_simp;refine hK _ _ ?_;clear z0 c0 c1 c2 f0 f1 f2 hK K;(try simp only[Act.put,List.setIfInBounds_toArray,List.set_cons_zero,List.set_cons_succ]);have T3:=T2.s1 (.int .i64 (x.at_:Int));clear T2;generalize World.setCell _ ⟨w.heap.size+1,0,none⟩ (.int .i64 (x.at_:Int))=W3 at T3 ⊢;refine in_one (i:=4) rfl (by kernel_rfl) (by kernel_rfl) (fun K hK=>?_)
     obtain⟨z0,c0,c1,c2,f0,f1,f2⟩:=T3.all;go_simp;refine hK _ _ ?_;clear z0 c0 c1 c2 f0 f1 f2 hK K;(try simp only[Act.put,List.setIfInBounds_toArray,List.set_cons_zero,List.set_cons_succ]);have T4:=T3.s2 (.int .i64 50);clear T3;generalize World.setCell _ ⟨w.heap.size+1+1,0,none⟩ (.int .i64 50)=W4 at T4 ⊢;refine⟨by kernel_rfl,?_⟩;have HT:=hide T4;gi_wp2;exact HT.out.leave HI.out.1 hcp.out
   have hst:=hide (show stepP (cutPce x)=some t by rw[hcut];unfold stepP;rw[if_pos ⟨rfl,h38⟩]);rw[decide_eq_false h38] at hq;clear k0 k1 k2 k4 hcut ht h38 hHs
   gi_wp2_with (refine⟨trivial,?_⟩;gi_at_call 15;refine (CallsIn.inRound l (callsIn_wide.2 (hws.out t _ htl H2.out HB.out.size))).mono ?_;rintro e w1 ⟨rfl,hbu,hbt⟩)
   have hn:=StrI_next HI.out hst.out hbt hbu;exact⟨hn.1.from _,hn.2.1,hn.2.2⟩
  | true=>
   have hsc:=hide (fun W1=>scal_any t W1 (by omega));have hsi:=fun v (h:scalar t=some v)=>scalar_is h
   cases hs1:scalar t with
   | none=>
    rw[hs1] at hsc;have hcp:=hide (show stepP (cutPce x)=none by rw[hcut];unfold stepP;rw[if_neg (by simp),if_pos rfl,hs1];rfl);have HT0:=hide (show Thr w x.at_ H W W from⟨k0,k1,k2,HH.out.cell 0,HHs.out,HB.out,KeepsOthers.refl _⟩);clear k0 k1 k2 k4 hcut ht hHs HHs hsi hs1
    gi_wp2_with (refine⟨trivial,?_⟩;gi_at_call 92;refine (CallsIn.inRound l (callsIn_wide.2 (hsc.out _))).mono ?_;rintro e w1 ⟨rfl,b1⟩;unfold optV;have y1:=(kH.go b1).cell 1)
    have T0:=HT0.out.go b1;clear HT0 hsc y0 y1 y2;refine wpIn_region_any (by kernel_rfl) ?_;have T1:=T0.drew;clear T0;change wpAnyIn _ _ _ _ _ _ 5 #[false,false,false,false,false] _ (World.drew _);generalize World.drew _=W1 at T1 ⊢;refine wpAnyIn_ready (rs:=[0,2]) (by kernel_rfl) (by simp) (in_cons rfl (by kernel_rfl) (fun K hK=>?_) (in_cons rfl (by kernel_rfl) (fun K hK=>?_) AllReadyIn.nil))
    ·skip
     obtain⟨z0,c0,c1,c2,f0,f1,f2⟩:=T1.all;go_simp;refine hK _ _ ?_;clear z0 c0 c1 c2 f0 f1 f2 hK K;(try simp only[Act.put,List.setIfInBounds_toArray,List.set_cons_zero,List.set_cons_succ]);refine wpAnyIn_ready (rs:=[1,2]) (by kernel_rfl) (by simp) (in_cons rfl (by kernel_rfl) (fun K hK=>?_) (in_cons rfl (by kernel_rfl) (fun K hK=>?_) AllReadyIn.nil))
     ·skip
      obtain⟨z0,c0,c1,c2,f0,f1,f2⟩:=T1.all;go_simp;refine hK _ _ ?_;clear z0 c0 c1 c2 f0 f1 f2 hK K;(try simp only[Act.put,List.setIfInBounds_toArray,List.set_cons_zero,List.set_cons_succ]);refine in_one (i:=2) rfl (by kernel_rfl) (by kernel_rfl) (fun K hK=>?_);obtain⟨z0,c0,c1,c2,f0,f1,f2⟩:=T1.all;go_simp;refine hK _ _ ?_;clear z0 c0 c1 c2 f0 f1 f2 hK K;(try simp only[Act.put,List.setIfInBounds_toArray,List.set_cons_zero,List.set_cons_succ]);have T2:=T1.s0 (.string ⟨#[]⟩);clear T1;generalize World.setCell _ ⟨w.heap.size,0,none⟩ (.string ⟨#[]⟩)=W2 at T2 ⊢;refine in_one (i:=3) rfl (by kernel_rfl) (by kernel_rfl) (fun K hK=>?_);obtain⟨z0,c0,c1,c2,f0,f1,f2⟩:=T2.all;go_simp;refine hK _ _ ?_;clear z0 c0 c1 c2 f0 f1 f2 hK K;(try simp only[Act.put,List.setIfInBounds_toArray,List.set_cons_zero,List.set_cons_succ]);have T3:=T2.s1 (.int .i64 (x.at_:Int));clear T2;generalize World.setCell _ ⟨w.heap.size+1,0,none⟩ (.int .i64 (x.at_:Int))=W3 at T3 ⊢;refine in_one (i:=4) rfl (by kernel_rfl) (by kernel_rfl) (fun K hK=>?_);obtain⟨z0,c0,c1,c2,f0,f1,f2⟩:=T3.all;go_simp;refine hK _ _ ?_;clear z0 c0 c1 c2 f0 f1 f2 hK K;(try simp only[Act.put,List.setIfInBounds_toArray,List.set_cons_zero,List.set_cons_succ]);have T4:=T3.s2 (.int .i64 50);clear T3
      generalize World.setCell _ ⟨w.heap.size+1+1,0,none⟩ (.int .i64 50)=W4 at T4 ⊢;refine⟨by kernel_rfl,?_⟩;have HT:=hide T4;gi_wp2;exact HT.out.leave HI.out.1 hcp.out
     skip
     obtain⟨z0,c0,c1,c2,f0,f1,f2⟩:=T1.all;go_simp;refine hK _ _ ?_;clear z0 c0 c1 c2 f0 f1 f2 hK K;(try simp only[Act.put,List.setIfInBounds_toArray,List.set_cons_zero,List.set_cons_succ]);have T2:=T1.s0 (.string ⟨#[]⟩);clear T1;generalize World.setCell _ ⟨w.heap.size,0,none⟩ (.string ⟨#[]⟩)=W2 at T2 ⊢;refine in_one (i:=1) rfl (by kernel_rfl) (by kernel_rfl) (fun K hK=>?_);obtain⟨z0,c0,c1,c2,f0,f1,f2⟩:=T2.all;go_simp;refine hK _ _ ?_;clear z0 c0 c1 c2 f0 f1 f2 hK K;(try simp only[Act.put,List.setIfInBounds_toArray,List.set_cons_zero,List.set_cons_succ]);refine in_one (i:=3) rfl (by kernel_rfl) (by kernel_rfl) (fun K hK=>?_);obtain⟨z0,c0,c1,c2,f0,f1,f2⟩:=T2.all;go_simp;refine hK _ _ ?_;clear z0 c0 c1 c2 f0 f1 f2 hK K;(try simp only[Act.put,List.setIfInBounds_toArray,List.set_cons_zero,List.set_cons_succ]);have T3:=T2.s1 (.int .i64 (x.at_:Int));clear T2;generalize World.setCell _ ⟨w.heap.size+1,0,none⟩ (.int .i64 (x.at_:Int))=W3 at T3 ⊢;refine in_one (i:=4) rfl (by kernel_rfl) (by kernel_rfl) (fun K hK=>?_);obtain⟨z0,c0,c1,c2,f0,f1,f2⟩:=T3.all;go_simp;refine hK _ _ ?_;clear z0 c0 c1 c2 f0 f1 f2 hK K;(try simp only[Act.put,List.setIfInBounds_toArray,List.set_cons_zero,List.set_cons_succ]);have T4:=T3.s2 (.int .i64 50);clear T3
     generalize World.setCell _ ⟨w.heap.size+1+1,0,none⟩ (.int .i64 50)=W4 at T4 ⊢;refine⟨by kernel_rfl,?_⟩;have HT:=hide T4;gi_wp2;exact HT.out.leave HI.out.1 hcp.out
    skip
    obtain⟨z0,c0,c1,c2,f0,f1,f2⟩:=T1.all;go_simp;refine hK _ _ ?_;clear z0 c0 c1 c2 f0 f1 f2 hK K;(try simp only[Act.put,List.setIfInBounds_toArray,List.set_cons_zero,List.set_cons_succ]);have T2:=T1.s0 (.string ⟨#[]⟩);clear T1;generalize World.setCell _ ⟨w.heap.size,0,none⟩ (.string ⟨#[]⟩)=W2 at T2 ⊢;refine in_one (i:=0) rfl (by kernel_rfl) (by kernel_rfl) (fun K hK=>?_);obtain⟨z0,c0,c1,c2,f0,f1,f2⟩:=T2.all;go_simp;refine hK _ _ ?_;clear z0 c0 c1 c2 f0 f1 f2 hK K;(try simp only[Act.put,List.setIfInBounds_toArray,List.set_cons_zero,List.set_cons_succ]);refine in_one (i:=1) rfl (by kernel_rfl) (by kernel_rfl) (fun K hK=>?_);obtain⟨z0,c0,c1,c2,f0,f1,f2⟩:=T2.all;go_simp;refine hK _ _ ?_;clear z0 c0 c1 c2 f0 f1 f2 hK K;(try simp only[Act.put,List.setIfInBounds_toArray,List.set_cons_zero,List.set_cons_succ]);refine in_one (i:=3) rfl (by kernel_rfl) (by kernel_rfl) (fun K hK=>?_);obtain⟨z0,c0,c1,c2,f0,f1,f2⟩:=T2.all;go_simp;refine hK _ _ ?_;clear z0 c0 c1 c2 f0 f1 f2 hK K;(try simp only[Act.put,List.setIfInBounds_toArray,List.set_cons_zero,List.set_cons_succ]);have T3:=T2.s1 (.int .i64 (x.at_:Int));clear T2;generalize World.setCell _ ⟨w.heap.size+1,0,none⟩ (.int .i64 (x.at_:Int))=W3 at T3 ⊢;refine in_one (i:=4) rfl (by kernel_rfl) (by kernel_rfl) (fun K hK=>?_)
    obtain⟨z0,c0,c1,c2,f0,f1,f2⟩:=T3.all;go_simp;refine hK _ _ ?_;clear z0 c0 c1 c2 f0 f1 f2 hK K;(try simp only[Act.put,List.setIfInBounds_toArray,List.set_cons_zero,List.set_cons_succ]);have T4:=T3.s2 (.int .i64 50);clear T3;generalize World.setCell _ ⟨w.heap.size+1+1,0,none⟩ (.int .i64 50)=W4 at T4 ⊢;refine⟨by kernel_rfl,?_⟩;have HT:=hide T4;gi_wp2;exact HT.out.leave HI.out.1 hcp.out
   | some v=>
    rw[hs1] at hsc;have hst:=hide (show stepP (cutPce x)=some (putL v) by rw[hcut];unfold stepP;rw[if_neg (by simp),if_pos rfl,hs1];rfl);have hpu:=hide (fun W1=>pPut_any (v:Int) W1 (hsi v hs1));have hpl:=putL_short (v:Int);clear k0 k1 k2 k4 hcut ht hHs hsi hs1
    gi_wp2_with (refine⟨trivial,?_⟩;gi_at_call 92;refine (CallsIn.inRound l (callsIn_wide.2 (hsc.out _))).mono ?_;rintro e w1 ⟨rfl,b1⟩;unfold optV;have y1:=(kH.go b1).cell 1)
    refine⟨trivial,?_⟩
    gi_at_call 93
    refine (CallsIn.inRound l (callsIn_wide.2 (hpu.out _))).mono ?_;rintro e w2 ⟨rfl,b2⟩;have hbl:Below W.heap.size W w2:=b1.trans (b2.mono b1.size);have hB2:Lib.IsBuilder 39 5 w.heap.size (w.heap.size+1+1+1) (Lib.strCells (bstr (outAll (pre.map cutPce)))) w2:=bld_grown H2.out (grown_below hbl none) (fun r e=>by cases e)
    gi_wp2_with (refine⟨trivial,?_⟩;gi_at_call 15;refine (CallsIn.inRound l (callsIn_wide.2 (hws.out (putL v) _ (by omega) hB2 (Nat.le_trans HB.out.size hbl.size)))).mono ?_;rintro e w3 ⟨rfl,hbu,hbt⟩)
    have hn:=StrI_next HI.out hst.out ((BlT.of_below hbl).trans hbt) hbu;exact⟨hn.1.from _,hn.2.1,hn.2.2⟩
 case done=>
  rintro D ys W hD hys ⟨h1,h2,k0,k1,k2,k4,hB⟩ hK;have hD0:s.data.toList.length=s.size:=size_list s;obtain⟨out,hout⟩:∃out,outAll (ys.map cutPce)=out:=⟨_,rfl⟩
  have Hr:=hide (show strV (sref s.size 0 s.data.toList)=.tuple #[.string (bstr out),.int .i64 (-1),.int .i64 0] from by
   have e1:=srp_is s.size 0 s.data.toList s.size (by omega) (by omega);have e2:=rps_cut (s:=s.data.toList) (by omega) 0 s.size;rw[←e1,←e2,←hys,srp_ok h1,hout]
   rfl)
  rw[hout] at h2;have hst:=hide (Tryz.Builder_String_any_k w.heap.size (w.heap.size+1+1+1) out W (Lib.IsBuilderF.of h2) hB.size);have HB:=hide hB;have K0:=hide k0;have K1:=hide k1;have K2:=hide k2;have HK:=hide hK;have HDl:=hide (show w.heap.size+1+1+1<D by simp at hD;omega);clear hys h1 h2 k0 k1 k2 k4 hB hK hout
  gi_wp2_with (refine⟨trivial,?_⟩;gi_at_call 17;refine (callsIn_wide.2 hst.out).mono ?_;rintro e w2 ⟨rfl,-,hb2,ho2⟩;have k0:Blk w2 w.heap.size 9 #[.string ⟨#[]⟩]:=ho2 _ _ K0.out (fun e=>by injection e with e;omega) (by intro c fz e;cases e);have k1:Blk w2 (w.heap.size+1) 3 #[.int .i64 0]:=ho2 _ _ K1.out (fun e=>by injection e with e;omega) (by intro c fz e;cases e);have k2:Blk w2 (w.heap.size+1+1) 25 #[.int .i64 0]:=ho2 _ _ K2.out (fun e=>by injection e with e;omega) (by intro c fz e;cases e);have kD:w2.heap[D]?=some (.deferred (some [])):=ho2 _ _ HK.out (fun e=>by injection e with e;have:=HDl.out;omega) (by intro c fz e;cases e);have p0:=k0.cell 0;have f0:=k0.frozen 0;have p1:=k1.cell 0;have f1:=k1.frozen 0;have p2:=k2.cell 0;have f2:=k2.frozen 0)
  obtain⟨W3,hW3⟩:∃W3,((w2.setCell ⟨w.heap.size,0,none⟩ (.string ⟨out.toArray⟩)).setCell ⟨w.heap.size+1,0,none⟩ (.int .i64 (-1))).setCell ⟨w.heap.size+1+1,0,none⟩ (.int .i64 0)=W3:=⟨_,rfl⟩;have r0:Blk W3 w.heap.size 9 #[.string ⟨out.toArray⟩]:=by rw[←hW3];exact ((k0.set_ 0 _).far (p:=⟨w.heap.size+1,0,none⟩) (by simp) _).far (p:=⟨w.heap.size+1+1,0,none⟩) (by simp;omega) _
  have r1:Blk W3 (w.heap.size+1) 3 #[.int .i64 (-1)]:=by rw[←hW3];exact ((k1.far (p:=⟨w.heap.size,0,none⟩) (by simp) _).set_ 0 _).far (p:=⟨w.heap.size+1+1,0,none⟩) (by simp) _
  have r2:Blk W3 (w.heap.size+1+1) 25 #[.int .i64 0]:=by rw[←hW3];exact ((k2.far (p:=⟨w.heap.size,0,none⟩) (by simp;omega) _).far (p:=⟨w.heap.size+1,0,none⟩) (by simp) _).set_ 0 _
  have rD:W3.heap[D]?=some (.deferred (some [])):=by
   rw[←hW3];have:=HDl.out;exact (Below.heap_setCell _ _ _ _ (by simp;omega)).trans ((Below.heap_setCell _ _ _ _ (by simp;omega)).trans ((Below.heap_setCell _ _ _ _ (by simp;omega)).trans kD))
  have rB:Below w.heap.size w W3:=by
   rw[←hW3];exact (((HB.out.trans hb2).setCell (p:=⟨w.heap.size,0,none⟩) (Nat.le_refl _) _).setCell (p:=⟨w.heap.size+1,0,none⟩) (by simp) _).setCell (p:=⟨w.heap.size+1+1,0,none⟩) (by simp;omega) _
  rw[hW3];refine⟨by simp,.inl ⟨_,_,rfl,run_takeDeferred rD,?_⟩⟩;have g0:=cell_kept (r0.cell 0) (grownBy_putObj' _ D (.deferred none)) (fun r e=>by cases e;exact⟨_,rD,rfl⟩);have g1:=cell_kept (r1.cell 0) (grownBy_putObj' _ D (.deferred none)) (fun r e=>by cases e;exact⟨_,rD,rfl⟩);have g2:=cell_kept (r2.cell 0) (grownBy_putObj' _ D (.deferred none)) (fun r e=>by cases e;exact⟨_,rD,rfl⟩);refine⟨.tuple #[.string ⟨out.toArray⟩,.int .i64 (-1),.int .i64 0],?_,?_⟩
  ·simp[results,Tryz.results63,go_sem,g0,g1,g2]
  exact⟨ret_eq1 Hr.out.symm,rB.trans (belowK_b (w:=w) (Nat.le_refl _) _ D _ _ (by have:=HDl.out;omega) rD rfl rfl)⟩
 case stop=>
  rintro D c pre W hD ⟨rest,hsp⟩ ⟨rfl,pre0,x,rfl,hp,hx,k0,k1,k2,hB⟩ hK;have hD0:s.data.toList.length=s.size:=size_list s
  have Hr:=hide (show strV (sref s.size 0 s.data.toList)=.tuple #[.string ⟨#[]⟩,.int .i64 (x.at_:Int),.int .i64 50] from by
   have e1:=srp_is s.size 0 s.data.toList s.size (by omega) (by omega);have e2:=rps_cut (s:=s.data.toList) (by omega) 0 s.size;rw[←e1,←e2,←hsp,List.map_append,List.map_append,List.map_cons,List.map_nil,List.append_assoc,List.singleton_append,srp_err hp hx]
   rfl)
  clear hsp hp hx;gi_wp2;refine⟨by simp,.inl ⟨_,_,rfl,run_takeDeferred hK,?_⟩⟩;have g0:=cell_kept (k0.cell 0) (grownBy_putObj' _ D (.deferred none)) (fun r e=>by cases e;exact⟨_,hK,rfl⟩);have g1:=cell_kept (k1.cell 0) (grownBy_putObj' _ D (.deferred none)) (fun r e=>by cases e;exact⟨_,hK,rfl⟩);have g2:=cell_kept (k2.cell 0) (grownBy_putObj' _ D (.deferred none)) (fun r e=>by cases e;exact⟨_,hK,rfl⟩);refine⟨.tuple #[.string ⟨#[]⟩,.int .i64 (x.at_:Int),.int .i64 50],?_,?_⟩
  ·simp[results,Tryz.results63,go_sem,g0,g1,g2]
  exact⟨ret_eq1 Hr.out.symm,hB.trans (belowK_b (w:=w) (Nat.le_refl _) _ D _ _ (by simp at hD;omega) hK rfl rfl)⟩
end
end Go.Proofs.YtifiiojchlaghaaGreatDoor
