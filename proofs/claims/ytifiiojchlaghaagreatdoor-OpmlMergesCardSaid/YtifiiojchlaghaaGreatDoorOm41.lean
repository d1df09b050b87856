/- opml.Write. (Region by wip/genOpG.py.) And more. -/
import Derived.Test.YtifiiojchlaghaaGreatDoorOm32
import Derived.Test.YtifiiojchlaghaaGreatDoorOm39
import Derived.Test.YtifiiojchlaghaaGreatDoorOm40
set_option linter.unusedSimpArgs false
set_option maxHeartbeats 8000000
set_option linter.unusedVariables false
namespace Go.Proofs.YtifiiojchlaghaaGreatDoor
section
open Go.RowKit Tk Sx Go.WideShapes

namespace Opm
def c0:L:=[60,111,112,109,108,32,118,101,114,115,105,111,110,61,34,50,46,48,34,62,60,104,101,97,100,47,62,60,98,111,100,121,62]
def c1:L:=[60,111,117,116,108,105,110,101,32,116,101,120,116,61,34]
def c2:L:=[34,32,120,109,108,85,114,108,61,34]
def c3:L:=[34,47,62]
def c4:L:=[60,47,98,111,100,121,62,60,47,111,112,109,108,62]
def one(x:ay):L:=c1++Tx.escape true x.ns++c2++Tx.escape true x.pre++c3
theorem yj{x:ay}(h:x.pre.length≤100000∧x.ns.length≤100000):(one x).length≤1300000:=by
 unfold one;have h1:=Tx.Jf true x.ns;have h2:=Tx.Jf true x.pre;have h3:c1.length=15:=rfl;have h4:c2.length=10:=rfl;have h5:c3.length=3:=rfl;simp only[List.length_append];omega
theorem Rc{l:List ay}(h:∀x∈l,x.pre.length≤100000∧x.ns.length≤100000)(j:Nat):((l.take j).flatMap one).length≤1300000*l.length:=by
 have h1:∀l:List ay,(∀x∈l,x.pre.length≤100000∧x.ns.length≤100000)→(l.flatMap one).length≤1300000*l.length:=by
  intro l
  induction l with
  | nil=>intro _;simp
  | cons x l ih=>
   intro h;rw[List.flatMap_cons,List.length_append,List.length_cons];have:=ih fun y hy=>h y (List.mem_cons_of_mem _ hy);have:=yj (h x (List.mem_cons_self ..));omega
 have h2:=h1 (l.take j) fun x hx=>h x (List.mem_of_mem_take hx);have h3:(l.take j).length≤l.length:=by rw[List.length_take];omega
 omega
def text(l:List ay):L:=c0++l.flatMap one++c4
end Opm
structure j6(B b X:Nat)(u t acc pc:L)(W0:World)(d:Prop)(W:World):Prop where
 x:ae W X 35 #[.string (aa u),.string (aa t)]
 xb:X≠b
 z:B≤W.heap.size
 pre:¬d→Bx B b acc W
 post:d→Bx B b (acc++pc) W
 t:bM B b W0 W
theorem j6.lt{B b X:Nat}{u t acc pc:L}{W0 W:World}{d:Prop}(h:j6 B b X u t acc pc W0 d W):b<W.heap.size:=by
 by_cases hd:d
 ·exact (h.post hd).lt
 exact (h.pre hd).lt
theorem j6.iff{B b X:Nat}{u t acc pc:L}{W0 W:World}{d d':Prop}(h:j6 B b X u t acc pc W0 d W)(e:d↔d'):j6 B b X u t acc pc W0 d' W:=propext e▸h
theorem j6.go{B b X:Nat}{u t acc pc:L}{W0 W W':World}{d:Prop}(h:j6 B b X u t acc pc W0 d W)(hb:Below W.heap.size W W'):j6 B b X u t acc pc W0 d W' :=
 ⟨h.x.go hb,h.xb,Nat.le_trans h.z hb.size,fun hd=>(h.pre hd).go hb,fun hd=>(h.post hd).go hb,h.t.trans (bM.b7 hb)⟩
theorem j6.put{B b X:Nat}{u t acc pc:L}{W0 W W':World}{d d':Prop}(h:j6 B b X u t acc pc W0 d W)(hd':d')(hb:Bx B b (acc++pc) W')(hk:bM B b W W'):j6 B b X u t acc pc W0 d' W' :=
 ⟨hk.blk h.x h.xb (by decide),h.xb,Nat.le_trans h.z hk.size,fun hd=>absurd hd' hd,fun _=>hb,h.t.trans hk⟩
theorem j6.start{B b X:Nat}{u t acc pc:L}{W0 W:World}(hb:Below W0.heap.size W0 W)(hx:Bx B b acc W0)(hX:ae W0 X 35 #[.string (aa u),.string (aa t)])(hne:X≠b)(hz:B≤W0.heap.size):j6 B b X u t acc pc W0 False W :=
 ⟨hX.go hb,hne,Nat.le_trans hz hb.size,fun _=>hx.go hb,fun h=>h.elim,bM.b7 hb⟩
theorem ZO(l:List ay)(A:Option Addr)(c:Nat)(w:World)(hR:Reads w w.heap.size 2 A l.length (bj l))(hu:∀x∈l,x.pre.length≤100000∧x.ns.length≤100000)(hl:l.length≤1000) :
  Calls Tryz.prog 7 #[.slice A l.length c] w fun e w'=>e=.returned (if Opm.may l=true then .tuple #[.string (aa (Opm.text l)),.int .i64 0] else .tuple #[.string ⟨#[]⟩,.int .i64 2])∧Below w.heap.size w w':=by
 have Oe:=hide (ZN l A c w hR hu (by omega));obtain⟨n,hn⟩:∃n,l.length=n:=⟨_,rfl⟩;have HR:=hide hR;have HU:=hide hu;have Hn:=hide hn;obtain⟨q,hq⟩:∃q,Opm.may l=q:=⟨_,rfl⟩;rw[hq,hn] at Oe;rw[hq];rw[hn] at hl ⊢;clear hR hu hn hq
 go_enter Tryz.func7,Tryz.ntmps7
 go_wp2_with fail
 refine Oe.out.mono ?_;rintro e w1 ⟨rfl,au⟩;have az:=hide au;clear au;dsimp only
 cases q with
 | false=>
  go_wp2;go_ret2;exact⟨rfl,az.out⟩
 | true=>
  have hz1:=az.out.size;have JQ:=ae.new (w1.alloc (.cells #[.pointer none,.slice none 0 0] 39)) 9 #[.string (aa Opm.c0)];rw[World.size_alloc] at JQ;have aJ:Below w1.heap.size w1 ((w1.alloc (.cells #[.pointer none,.slice none 0 0] 39)).alloc (.cells #[.string (aa Opm.c0)] 9)):=(aA w1 _).alloc (by simp) _;have Gr:=hide (show Calls Tryz.prog 14 #[.slice (some ⟨w1.heap.size+1,0,none⟩) 1 1,.pointer (some ⟨w1.heap.size,0,none⟩)] ((w1.alloc (.cells #[.pointer none,.slice none 0 0] 39)).alloc (.cells #[.string (aa Opm.c0)] 9)) fun e w'=>(∃v,e=.returned v)∧Bx w1.heap.size w1.heap.size Opm.c0 w'∧Below w1.heap.size w1 w' from (Ng w1.heap.size w1.heap.size (w1.heap.size+1) [] [Opm.c0] _ ((Bx.fresh w1).go (aA _ _)) (by simp;omega) JQ (by omega) (by simp) (by decide)).mono fun e w' h=>⟨h.1,h.2.1,aJ.trans (h.2.2.below (Nat.le_refl _) aJ.size)⟩);obtain⟨b,hb⟩:∃b,w1.heap.size=b:=⟨_,rfl⟩;have Hb:=hide hb;rw[hb] at Gr hz1;have tF:Tryz.prog.follows .mixedOrders=true:=by kernel_rfl
  clear JQ aJ
  go_wp2_with fail
  clear hb;refine Gr.out.mono ?_;rintro e w2 ⟨⟨v0,rfl⟩,vQ,ag⟩;have Y8:=hide vQ;have ah:=hide ag;have hz2:=ag.size;clear vQ ag Gr;dsimp only;go_wp2
  go_loopg [7,17,18,19,20,21,22,23,24,25,26,27,28,29,30] n (fun gk v7 v17 v18 v19 v20 v21 v22 v23 v24 v25 v26 v27 v28 v29 v30 wr=>∃j:Nat,v17=.int .i64 (j:Int)∧gk=n-j∧j≤n∧Bx b b (Opm.c0++(l.take j).flatMap Opm.one) wr∧Below b w1 wr)
  case atStart=>exact⟨0,rfl,rfl,by omega,by simpa using Y8.out,ah.out⟩
  case round=>
   obtain⟨j,rfl,aq,hj,hx,Eg⟩:=hrel;have eM:=hide aq;have wQ:=hide hx;have yC:=hide Eg;clear aq hx Eg
   by_cases hlt:j<n
   ·have fR:j<l.length:=by rw[Hn.out];exact hlt
    obtain⟨eb,off,rfl,jl,x0,x1⟩:=(HR.out.below ((az.out.trans (yC.out.mono hz1)))).pF fR;obtain⟨dT,bH⟩:=HU.out l[j] (List.getElem_mem fR)
    have hst:(l.take (j+1)).flatMap Opm.one=(l.take j).flatMap Opm.one++Opm.one l[j]:=by
     rw[List.take_add_one,List.getElem?_eq_getElem fR,List.flatMap_append];simp
    obtain⟨⟨u,t⟩,xV⟩:∃x,l[j]=x:=⟨_,rfl⟩;rw[xV] at hst x0 x1 dT bH;dsimp only at x0 x1 dT bH;have np:(0:Int)≤j∧(j:Int)<n:=by omega
    have mo:=Opm.Rc HU.out j;rw[Hn.out] at mo;obtain⟨acc,iM⟩:∃acc,Opm.c0++(l.take j).flatMap Opm.one=acc:=⟨_,rfl⟩;have jG:acc.length≤2000000000:=by rw[←iM,List.length_append];have:Opm.c0.length=33:=rfl;omega
    obtain⟨pc,tJ⟩:∃pc,Opm.one ⟨u,t⟩=pc:=⟨_,rfl⟩;have jb:=hide (show Opm.c0++(l.take (j+1)).flatMap Opm.one=acc++pc by rw[hst,←List.append_assoc,iM,tJ]);rw[iM] at wQ;have NN:=hide (fun W=>QW true t W (by omega));have NP:=hide (fun W=>QW true u W (by omega))
    have yR:=hide (show ∀(R:Nat) (W:World),Bx b b acc W→b≤W.heap.size→ae W R 9 #[.string (aa Opm.c1),.string (aa (Tx.escape true t)),.string (aa Opm.c2),.string (aa (Tx.escape true u)),.string (aa Opm.c3)]→R≠b→Calls Tryz.prog 14 #[.slice (some ⟨R,0,none⟩) 5 5,.pointer (some ⟨b,0,none⟩)] W fun e w'=>(∃v,e=.returned v)∧Bx b b (acc++pc) w'∧bM b b W w' from fun R W h1 h2 h3 h4=>by
     have hf:[Opm.c1,Tx.escape true t,Opm.c2,Tx.escape true u,Opm.c3].flatten=pc:=by rw[←tJ];simp[Opm.one]
     have h:=Ng b b R acc [Opm.c1,Tx.escape true t,Opm.c2,Tx.escape true u,Opm.c3] W h1 h2 h3 h4 (by simp) (by rw[hf,←tJ];have:=Opm.yj (x:=⟨u,t⟩) ⟨dT,bH⟩;omega);rw[hf] at h;exact h)
    have JW:=ae.new wr 35 #[.string (aa u),.string (aa t)];have aP:=wQ.out.lt;have jq:=wQ.out.go (aA wr (.cells #[.string (aa u),.string (aa t)] 35));have pK:=yC.out.alloc (Nat.le_of_lt aP) (.cells #[.string (aa u),.string (aa t)] 35);clear hst xV iM tJ mo wQ;go_wp2;obtain⟨X,hX⟩:∃X,wr.heap.size=X:=⟨_,rfl⟩;obtain⟨Wr,Ec⟩:∃W,wr.alloc (.cells #[.string (aa u),.string (aa t)] 35)=W:=⟨_,rfl⟩;have hz:b≤Wr.heap.size:=by rw[←Ec,World.size_alloc];omega
    rw[Ec,hX] at JW;rw[Ec] at jq pK ⊢;rw[hX] at aP ⊢;have lx:X≠b:=by omega
    have HX:=hide JW;have nL:=hide jq;have ug:=hide pK;clear Ec hX JW jq pK x0 x1 yC
    refine (wpIn_wide (n:=1)).1 (Cg tF (by kernel_rfl) (fun L a W=>∃u0 u1 u2 u3 u4 u5 u6 u7 u8:Value,a=⟨List.toArray ((.slice (some ⟨eb,off,none⟩) n c) :: undef :: (.string ⟨#[]⟩) :: (.int .i64 0) :: (.pointer (some ⟨b,0,none⟩)) :: (.func (.func 14) #[] #[.pointer (some ⟨b,0,none⟩)]) :: undef :: (.pointer (some ⟨X,0,none⟩)) :: (.slice (some ⟨eb,off,none⟩) n c) :: (.bool true) :: (.bool false) :: (.func (.func 14) #[] #[.pointer (some ⟨b,0,none⟩)]) :: (.func (.func 14) #[] #[.pointer (some ⟨b,0,none⟩)]) :: (.slice (some ⟨b+1,0,none⟩) 1 1) :: v0 :: (.slice (some ⟨eb,off,none⟩) n c) :: (.int .i64 (n:Int)) :: (.int .i64 (j:Int)) :: (.bool true) :: (.pointer (some ⟨eb,off+j*2,none⟩)) :: (.agg #[.string (aa u),.string (aa t)]) :: u0 :: u1 :: u2 :: u3 :: u4 :: u5 :: u6 :: u7 :: u8 :: u30 :: undef :: undef :: undef :: undef :: []),[]⟩∧j6 b b X u t acc pc Wr (L 8) W∧(L 0→u0=.func (.func 14) #[] #[.pointer (some ⟨b,0,none⟩)])∧(L 1→u1=.pointer (some ⟨X,1,none⟩))∧(L 2→u2=.string (aa t))∧(L 3→u3=.string (aa (Tx.escape true t)))∧(L 4→u4=.pointer (some ⟨X,0,none⟩))∧(L 5→u5=.string (aa u))∧(L 6→u6=.string (aa (Tx.escape true u)))∧(L 7→∃R,u7=.slice (some ⟨R,0,none⟩) 5 5∧(L 8∨(ae W R 9 #[.string (aa Opm.c1),.string (aa (Tx.escape true t)),.string (aa Opm.c2),.string (aa (Tx.escape true u)),.string (aa Opm.c3)]∧R≠b)))) ?h0 ?hs ?_)
    case h0=>exact⟨_,_,_,_,_,_,_,_,_,rfl,(j6.start (by have:=Below.refl Wr.heap.size Wr;exact below_drewN this 1) nL.out HX.out lx hz),fun h=>h.elim,fun h=>h.elim,fun h=>h.elim,fun h=>h.elim,fun h=>h.elim,fun h=>h.elim,fun h=>h.elim,fun h=>h.elim⟩
    case hs=>
     rintro L a W i ⟨u0,u1,u2,u3,u4,u5,u6,u7,u8,rfl,hS,p0,p1,p2,p3,p4,p5,p6,p7⟩ hi js bm ck;have aY:i<9:=hi;clear hi;have hcs:i=0∨i=1∨i=2∨i=3∨i=4∨i=5∨i=6∨i=7∨i=8:=by omega
     rcases hcs with rfl|rfl|rfl|rfl|rfl|rfl|rfl|rfl|rfl
     ·clear aY;refine bN (i:=0) rfl (by kernel_rfl) (fun K hK=>?_);go_simp;refine hK _ _ ?_;(try simp only[Act.put,List.setIfInBounds_toArray,List.set_cons_zero,List.set_cons_succ]);exact⟨_,_,_,_,_,_,_,_,_,rfl,(hS.iff ⟨.inl,fun h=>h.elim id fun e=>by cases e⟩),fun _=>rfl,af p1 (by decide),af p2 (by decide),af p3 (by decide),af p4 (by decide),af p5 (by decide),af p6 (by decide),af (fun h=>by obtain⟨R,e,h1⟩:=p7 h;exact⟨R,e,h1.elim (fun h=>.inl (.inl h)) fun h=>.inr ⟨h.1.go (Below.refl W.heap.size W),h.2⟩⟩) (by decide)⟩
     ·clear aY;refine bN (i:=1) rfl (by kernel_rfl) (fun K hK=>?_);go_simp;refine hK _ _ ?_;(try simp only[Act.put,List.setIfInBounds_toArray,List.set_cons_zero,List.set_cons_succ]);exact⟨_,_,_,_,_,_,_,_,_,rfl,(hS.iff ⟨.inl,fun h=>h.elim id fun e=>by cases e⟩),af p0 (by decide),fun _=>rfl,af p2 (by decide),af p3 (by decide),af p4 (by decide),af p5 (by decide),af p6 (by decide),af (fun h=>by obtain⟨R,e,h1⟩:=p7 h;exact⟨R,e,h1.elim (fun h=>.inl (.inl h)) fun h=>.inr ⟨h.1.go (Below.refl W.heap.size W),h.2⟩⟩) (by decide)⟩
     ·clear aY;have q1:=p1 (bm 1 (by kernel_rfl));subst q1;have k1:=hS.x.cell 1;refine bN (i:=2) rfl (by kernel_rfl) (fun K hK=>?_);go_simp;refine hK _ _ ?_;(try simp only[Act.put,List.setIfInBounds_toArray,List.set_cons_zero,List.set_cons_succ]);exact⟨_,_,_,_,_,_,_,_,_,rfl,(hS.iff ⟨.inl,fun h=>h.elim id fun e=>by cases e⟩),af p0 (by decide),af p1 (by decide),fun _=>rfl,af p3 (by decide),af p4 (by decide),af p5 (by decide),af p6 (by decide),af (fun h=>by obtain⟨R,e,h1⟩:=p7 h;exact⟨R,e,h1.elim (fun h=>.inl (.inl h)) fun h=>.inr ⟨h.1.go (Below.refl W.heap.size W),h.2⟩⟩) (by decide)⟩
     ·clear aY;have q2:=p2 (bm 2 (by kernel_rfl));subst q2;refine bN (i:=3) rfl (by kernel_rfl) (fun K hK=>?_);go_simp;refine⟨trivial,(callsIn_wide.2 (NN.out W)).mono ?_⟩;rintro e w3 ⟨rfl,aD⟩;dsimp only;refine hK _ _ ?_;(try simp only[Act.put,List.setIfInBounds_toArray,List.set_cons_zero,List.set_cons_succ]);exact⟨_,_,_,_,_,_,_,_,_,rfl,((hS.go aD).iff ⟨.inl,fun h=>h.elim id fun e=>by cases e⟩),af p0 (by decide),af p1 (by decide),af p2 (by decide),fun _=>rfl,af p4 (by decide),af p5 (by decide),af p6 (by decide),af (fun h=>by obtain⟨R,e,h1⟩:=p7 h;exact⟨R,e,h1.elim (fun h=>.inl (.inl h)) fun h=>.inr ⟨h.1.go aD,h.2⟩⟩) (by decide)⟩
     ·clear aY;refine bN (i:=4) rfl (by kernel_rfl) (fun K hK=>?_);go_simp;refine hK _ _ ?_;(try simp only[Act.put,List.setIfInBounds_toArray,List.set_cons_zero,List.set_cons_succ]);exact⟨_,_,_,_,_,_,_,_,_,rfl,(hS.iff ⟨.inl,fun h=>h.elim id fun e=>by cases e⟩),af p0 (by decide),af p1 (by decide),af p2 (by decide),af p3 (by decide),fun _=>rfl,af p5 (by decide),af p6 (by decide),af (fun h=>by obtain⟨R,e,h1⟩:=p7 h;exact⟨R,e,h1.elim (fun h=>.inl (.inl h)) fun h=>.inr ⟨h.1.go (Below.refl W.heap.size W),h.2⟩⟩) (by decide)⟩
     ·clear aY;have q4:=p4 (bm 4 (by kernel_rfl));subst q4;have k0:=hS.x.cell 0;refine bN (i:=5) rfl (by kernel_rfl) (fun K hK=>?_);go_simp;refine hK _ _ ?_;(try simp only[Act.put,List.setIfInBounds_toArray,List.set_cons_zero,List.set_cons_succ]);exact⟨_,_,_,_,_,_,_,_,_,rfl,(hS.iff ⟨.inl,fun h=>h.elim id fun e=>by cases e⟩),af p0 (by decide),af p1 (by decide),af p2 (by decide),af p3 (by decide),af p4 (by decide),fun _=>rfl,af p6 (by decide),af (fun h=>by obtain⟨R,e,h1⟩:=p7 h;exact⟨R,e,h1.elim (fun h=>.inl (.inl h)) fun h=>.inr ⟨h.1.go (Below.refl W.heap.size W),h.2⟩⟩) (by decide)⟩
     ·clear aY;have q5:=p5 (bm 5 (by kernel_rfl));subst q5;refine bN (i:=6) rfl (by kernel_rfl) (fun K hK=>?_);go_simp;refine⟨trivial,(callsIn_wide.2 (NP.out W)).mono ?_⟩;rintro e w3 ⟨rfl,aD⟩;dsimp only;refine hK _ _ ?_;(try simp only[Act.put,List.setIfInBounds_toArray,List.set_cons_zero,List.set_cons_succ]);exact⟨_,_,_,_,_,_,_,_,_,rfl,((hS.go aD).iff ⟨.inl,fun h=>h.elim id fun e=>by cases e⟩),af p0 (by decide),af p1 (by decide),af p2 (by decide),af p3 (by decide),af p4 (by decide),af p5 (by decide),fun _=>rfl,af (fun h=>by obtain⟨R,e,h1⟩:=p7 h;exact⟨R,e,h1.elim (fun h=>.inl (.inl h)) fun h=>.inr ⟨h.1.go aD,h.2⟩⟩) (by decide)⟩
     ·clear aY;have q3:=p3 (bm 3 (by kernel_rfl));have q6:=p6 (bm 6 (by kernel_rfl));subst q3;subst q6;refine bN (i:=7) rfl (by kernel_rfl) (fun K hK=>?_);go_simp;refine hK _ _ ?_;(try simp only[Act.put,List.setIfInBounds_toArray,List.set_cons_zero,List.set_cons_succ]);exact⟨_,_,_,_,_,_,_,_,_,rfl,((hS.go (aA W _)).iff ⟨.inl,fun h=>h.elim id fun e=>by cases e⟩),af p0 (by decide),af p1 (by decide),af p2 (by decide),af p3 (by decide),af p4 (by decide),af p5 (by decide),af p6 (by decide),fun _=>⟨W.heap.size,rfl,.inr ⟨ae.new W _ _,by have:=hS.lt;omega⟩⟩⟩
     clear aY;have q0:=p0 (bm 0 (by kernel_rfl));have q7:=p7 (bm 7 (by kernel_rfl));subst q0;obtain⟨R7,rfl,Ea⟩:=q7;refine bN (i:=8) rfl (by kernel_rfl) (fun K hK=>?_);go_simp;refine⟨trivial,(callsIn_wide.2 (yR.out R7 W (hS.pre js) hS.z (Ea.resolve_left js).1 (Ea.resolve_left js).2)).mono ?_⟩;rintro e w3 ⟨⟨v3,rfl⟩,aD,aK⟩;dsimp only;refine hK _ _ ?_;(try simp only[Act.put,List.setIfInBounds_toArray,List.set_cons_zero,List.set_cons_succ]);exact⟨_,_,_,_,_,_,_,_,_,rfl,hS.put (by simp) aD aK,af p0 (by decide),af p1 (by decide),af p2 (by decide),af p3 (by decide),af p4 (by decide),af p5 (by decide),af p6 (by decide),af (fun h=>⟨R7,rfl,.inl (by simp)⟩) (by decide)⟩
    rintro L a w8 ⟨u0,u1,u2,u3,u4,u5,u6,u7,u8,rfl,hS,p0,p1,p2,p3,p4,p5,p6,p7⟩ hall;have q0:=p0 (hall 0 (by decide));have q1:=p1 (hall 1 (by decide));have q2:=p2 (hall 2 (by decide));have q3:=p3 (hall 3 (by decide));have q4:=p4 (hall 4 (by decide));have q5:=p5 (hall 5 (by decide));have q6:=p6 (hall 6 (by decide));have q7:=p7 (hall 7 (by decide));have h8:=hall 8 (by decide);clear p0 p1 p2 p3 p4 p5 p6 p7 hall;subst q0;subst q1;subst q2;subst q3;subst q4;subst q5;subst q6;obtain⟨R7,rfl,Ea⟩:=q7;have X4:=hide (show Bx b b (Opm.c0++(l.take (j+1)).flatMap Opm.one) w8 by rw[jb.out];exact hS.post h8);have X3:=hide (ug.out.trans (hS.t.below (Nat.le_refl _) hz));clear hS h8 NN NP yR Ea;go_wp2
    go_roundg (n-(j+1))
    case measure=>have:=eM.out;omega
    case rel=>exact⟨j+1,by first|rfl|go_num,rfl,by omega,X4.out,X3.out⟩
   have eO:j=n:=by omega
   have dD:¬(j:Int)<(n:Int):=by omega
   have hx:=wQ.out;rw[eO,←Hn.out,List.take_length] at hx;have mo:=Opm.Rc HU.out l.length;rw[List.take_length,Hn.out] at mo;have RU:=ae.new wr 9 #[.string (aa Opm.c4)];have aP:=hx.lt;have hzr:w.heap.size≤wr.heap.size:=by omega
   have lz:=yC.out.alloc (Nat.le_of_lt aP) (.cells #[.string (aa Opm.c4)] 9)
   have CF:=hide (show Calls Tryz.prog 14 #[.slice (some ⟨wr.heap.size,0,none⟩) 1 1,.pointer (some ⟨b,0,none⟩)] (wr.alloc (.cells #[.string (aa Opm.c4)] 9)) fun e w'=>(∃v,e=.returned v)∧Bx b b (Opm.text l) w'∧Below b w1 w'∧b≤w'.heap.size from (Ng b b wr.heap.size _ [Opm.c4] _ (hx.go (aA _ _)) (by simp;omega) RU (by omega) (by simp) (by
    have h1:Opm.c0.length=33:=rfl;have h2:[Opm.c4].flatten.length=14:=rfl;rw[h2,List.length_append]
    omega)).mono fun e w' h=>⟨h.1,by have:=h.2.1;simpa[Opm.text] using this,lz.trans (h.2.2.below (Nat.le_refl _) (by simp;omega)),Nat.le_trans (by simp;omega) h.2.2.size⟩)
   clear hx mo RU lz wQ yC eO
   go_wp2_with fail
   refine CF.out.mono ?_;rintro e w5 ⟨⟨v5,rfl⟩,TP,hb5,hz5⟩;have nR:=hide (TP.str hz5);have se:=hide hb5;clear TP CF;dsimp only
   go_wp2_with fail
   refine nR.out.mono ?_;rintro e w6 ⟨rfl,Sg⟩;have Cm:=hide (az.out.trans ((se.out.trans Sg).mono hz1));clear Sg;dsimp only;go_wp2;go_ret2;exact⟨rfl,Cm.out⟩
end
section
open Go.RowKit Tk Sx Go.WideShapes

namespace Opm
def VO(r:Except Nat (List ay))(l:List (L×L)):Bool:=match r with
 | .ok x=>decide (x.map (fun d=>(d.pre,d.ns))=l)
 | .error _=>false
def VN(r:Except Nat (List ay))(n:Nat):Bool:=match r with
 | .ok _=>false
 | .error m=>decide (m=n)
theorem rd1:rQ sN=.ok [⟨[117],[98]⟩]:=by
 have h:VO (rQ sN) [([117],[98])]=true:=by kernel_rfl
 unfold VO at h
 split at h
 ·rename_i x hx
  have h:=of_decide_eq_true h;rw[hx]
  match x,h with
  | [⟨a,b⟩],h=>simp at h;obtain⟨rfl,rfl⟩:=h;rfl
 cases h
theorem rd2:rQ sO=.error 43:=by
 have h:VN (rQ sO) 43=true:=by kernel_rfl
 unfold VN at h
 split at h
 ·cases h
 rename_i m hm
 rw[hm,of_decide_eq_true h]
theorem afv:may [⟨[117],[60]⟩]=true:=by kernel_rfl
def t3:L:=[60,111,112,109,108,32,118,101,114,115,105,111,110,61,34,50,46,48,34,62,60,104,101,97,100,47,62,60,98,111,100,121,62,60,111,117,116,108,105,110,101,32,116,101,120,116,61,34,38,108,116,59,34,32,120,109,108,85,114,108,61,34,117,34,47,62,60,47,98,111,100,121,62,60,47,111,112,109,108,62]
theorem ajZ:text [⟨[117],[60]⟩]=t3:=of_decide_eq_true (by kernel_rfl)
theorem ab8:∀e∈sN,e.attrs.length≤1000000∧∀a∈e.attrs,j7 a.name∧a.val.length≤100000:=by
 intro e he;simp only[sN,List.mem_cons,List.not_mem_nil,or_false] at he
 rcases he with rfl|rfl|rfl|rfl|rfl|rfl|rfl|rfl<;>refine⟨by simp,fun a ha=>?_⟩<;>simp at ha
 ·subst ha;exact⟨⟨by decide,by decide⟩,by decide⟩
 rcases ha with rfl|rfl<;>exact⟨⟨by decide,by decide⟩,by decide⟩
theorem ab9:∀e∈sO,e.attrs.length≤1000000∧∀a∈e.attrs,j7 a.name∧a.val.length≤100000:=by
 intro e he;simp only[sO,List.mem_cons,List.not_mem_nil,or_false] at he
 rcases he with rfl|rfl<;>exact⟨by simp,fun a ha=>by cases ha⟩
end Opm
theorem akH(w:World)(hg:Gl w)(jM:6≤w.heap.size):Calls Tryz.prog 6 #[] w fun e w'=>e=.returned (.bool true)∧Below w.heap.size w w':=by
 have H1:=hide (PG Opm.t1 Opm.sN w hg jM (by decide) (by decide) Opm.agC Opm.ace Opm.aiU Opm.aiS Opm.akN Opm.ab8 (by decide));have H2:=hide (fun W (hb:Below w.heap.size w W)=>PG Opm.t2 Opm.sO W (hg.below hb) (Nat.le_trans jM hb.size) (by decide) (by decide) Opm.agD Opm.acf Opm.aiV Opm.aiT Opm.akO Opm.ab9 (by decide));rw[Opm.rd1] at H1;simp only[Opm.rd2] at H2;clear hg jM
 go_enter Tryz.func6,Tryz.ntmps6
 go_wp2_with fail
 refine H1.out.mono ?_;rintro e w1 ⟨au,A,c,rfl,hc,hr⟩;obtain⟨b,off,rfl,jl,x0,x1⟩:=hr.pF (k:=0) (by simp);simp only[List.getElem_cons_zero] at x0 x1;have az:=hide au;have ac9:=au.size;have HX:=hide (show w1.cell? ⟨b,off+0*2,none⟩=_∧w1.cell? ⟨b,off+0*2+1,none⟩=_ from⟨x0,x1⟩);clear au hr x0 x1 hc H1;dsimp only
 go_wp2_with fail
 refine (H2.out w1 az.out).mono ?_;rintro e w2 ⟨ag,rfl⟩;have ah:=hide (az.out.trans (ag.mono az.out.size));have Cl:=hide ag;have Sd:=ag.size;clear ag H2;dsimp only;have RT:=ae.new w2 35 #[.string (aa [117]),.string (aa [60])]
 have H3:=hide ((ZO [⟨[117],[60]⟩] (some ⟨w2.heap.size,0,none⟩) 1 (w2.alloc (.cells #[.string (aa [117]),.string (aa [60])] 35)) ⟨rfl,fun _=>⟨w2.heap.size,0,rfl,by simp,fun j u hu=>by
  rw[Nat.zero_add,RT.cell j]
  simpa[bj,mj] using hu⟩⟩ (by simp) (by simp)))
 rw[Opm.afv,if_pos rfl,Opm.ajZ] at H3;have aD:=aA w2 (.cells #[.string (aa [117]),.string (aa [60])] 35);have ax:=hide aD;clear RT aD
 go_wp2_with fail
 refine H3.out.mono ?_;rintro e w4 ⟨rfl,lz⟩;have cd:=hide ((Cl.out.trans ((ax.out.trans (lz.mono ax.out.size)).mono Sd)));have ug:=hide (az.out.trans (cd.out.mono ac9));have x0:=(cd.out.cell (p:=⟨b,off+0*2,none⟩) jl).trans HX.out.1;have x1:=(cd.out.cell (p:=⟨b,off+0*2+1,none⟩) jl).trans HX.out.2;clear lz H3 HX;rw[Nat.zero_mul,Nat.add_zero] at x0 x1;have e1:(aa [117]).toList=[117]:=by rw[ByteArray.toList_eq,bg]
 have e2:(aa [98]).toList=[98]:=by rw[ByteArray.toList_eq,bg]
 have e3:(aa Opm.t3).toList=[60,111,112,109,108,32,118,101,114,115,105,111,110,61,34,50,46,48,34,62,60,104,101,97,100,47,62,60,98,111,100,121,62,60,111,117,116,108,105,110,101,32,116,101,120,116,61,34,38,108,116,59,34,32,120,109,108,85,114,108,61,34,117,34,47,62,60,47,98,111,100,121,62,60,47,111,112,109,108,62]:=by rw[ByteArray.toList_eq,bg];rfl
 dsimp only;go_wp2;go_ret;exact⟨rfl,ug.out⟩
end
section
open Tk Sx
namespace Opm
def eh(l:List ay):Prop:=(l.map (·.pre)).Nodup
def gi(acc l:List ay):List ay:=l.filter fun y=>!decide (y.pre∈acc.map (·.pre))
theorem LJ:∀(l acc:List ay),eh l→e9 acc l=acc++gi acc l
 | [],acc,_=>by simp[e9,gi]
 | x :: l,acc,h=>by
  unfold eh at h;rw[List.map_cons,List.nodup_cons] at h;obtain⟨h1,h2⟩:=h;show e9 (j9 acc x) l=_;rw[LJ l (j9 acc x) h2];unfold j9 gi
  by_cases hx:x.pre∈acc.map (·.pre)
  ·rw[if_pos hx,List.filter_cons_of_neg (by simp only[decide_eq_true hx];simp)]
  rw[if_neg hx,List.filter_cons_of_pos (by simp only[decide_eq_false hx];simp),List.append_assoc,List.singleton_append];congr 2;refine List.filter_congr fun y hy=>?_;have hne:y.pre≠x.pre:=fun e=>h1 (e▸List.mem_map_of_mem hy);rw[List.map_append,List.map_singleton];simp only[List.mem_append,List.mem_singleton,hne,or_false]
theorem Rg(l:List ay):gi [] l=l:=by simp[gi]
theorem afB{l:List ay}(h:eh l):e9 [] l=l:=by rw[LJ l [] h,Rg,List.nil_append]
theorem rK{a b:List ay}(ha:eh a)(hb:eh b):di a b=a++gi a b:=by
 unfold di;rw[afB ha,LJ b a hb]
theorem LH{a b:List ay}{y:ay}:y∈gi a b↔y∈b∧y.pre∉a.map (·.pre):=by simp[gi]
theorem akt{a b:List ay}(hb:eh b):eh (gi a b):=List.Sublist.nodup (List.Sublist.map _ List.filter_sublist) hb
theorem MH{a b:List ay}(ha:eh a)(hb:eh b):eh (di a b):=by
 rw[rK ha hb];unfold eh;rw[List.map_append,List.nodup_append];refine⟨ha,akt hb,fun u hu v hv e=>?_⟩;obtain⟨y,hy,rfl⟩:=List.mem_map.1 hv;exact (LH.1 hy).2 (e▸hu)
theorem VJ{a b:List ay}(ha:eh a)(hb:eh b)(u:L):u∈(di a b).map (·.pre)↔u∈a.map (·.pre)∨u∈b.map (·.pre):=by
 rw[rK ha hb,List.map_append,List.mem_append]
 constructor
 ·rintro (h|h)
  ·exact .inl h
  obtain⟨y,hy,rfl⟩:=List.mem_map.1 h;exact .inr (List.mem_map_of_mem (LH.1 hy).1)
 rintro (h|h)
 ·exact .inl h
 by_cases hu:u∈a.map (·.pre)
 ·exact .inl hu
 obtain⟨y,hy,rfl⟩:=List.mem_map.1 h;exact .inr (List.mem_map_of_mem (LH.2 ⟨hy,hu⟩))
theorem afE{a b c:List ay}(ha:eh a)(hb:eh b)(hc:eh c):di (di a b) c=di a (di b c):=by
 rw[rK (MH ha hb) hc,rK ha (MH hb hc),rK hb hc]
 have h1:gi (di a b) c=gi a (gi b c):=by
  unfold gi;rw[List.filter_filter];refine List.filter_congr fun y _=>?_;have h:=VJ ha hb y.pre
  by_cases h1:y.pre∈a.map (·.pre)<;>by_cases h2:y.pre∈b.map (·.pre)<;>simp only[h1,h2,h,decide_true,decide_false,true_or,or_true,or_self,Bool.not_true,Bool.not_false,Bool.and_true,Bool.and_false,Bool.and_self]
 rw[h1,rK ha hb];show _=a++gi a (b++gi b c);have h2:gi a (b++gi b c)=gi a b++gi a (gi b c):=List.filter_append ..;rw[h2,List.append_assoc]
theorem UL{a b:List ay}(ha:eh a)(hb:eh b)(h:∀y∈b,y.pre∈a.map (·.pre)):di a b=a:=by
 rw[rK ha hb];have:gi a b=[]:=List.filter_eq_nil_iff.2 fun y hy=>by simp only[decide_eq_true (h y hy)];simp
 rw[this,List.append_nil]
theorem afH{a:List ay}(ha:eh a):di a a=a:=UL ha ha fun _ hy=>List.mem_map_of_mem hy
theorem aku:eh []:=List.nodup_nil
theorem afG{a:List ay}(ha:eh a):di [] a=a:=by rw[rK aku ha,Rg,List.nil_append]
theorem afD{a b:List ay}(ha:eh a)(hb:eh b):di (di a b) b=di a b:=UL (MH ha hb) hb fun _ hy=>(VJ ha hb _).2 (.inr (List.mem_map_of_mem hy))
theorem afF{a b:List ay}(ha:eh a)(hb:eh b):(di a b).take a.length=a∧a.length≤(di a b).length∧(di a b).length≤a.length+b.length:=by
 rw[rK ha hb];refine⟨by simp,by simp,?_⟩;rw[List.length_append];have:(gi a b).length≤b.length:=List.length_filter_le ..;omega
theorem LI:∀(l acc:List ay) {x:ay},x∈e9 acc l→x∈acc∨x∈l
 | [],_,_,h=>.inl h
 | y :: l,acc,x,h=>by
  rcases LI l (j9 acc y) h with h|h
  ·unfold j9 at h
   split at h
   ·exact .inl h
   rcases List.mem_append.1 h with h|h
   ·exact .inl h
   exact .inr (List.mem_cons.2 (.inl (List.mem_singleton.1 h)))
  exact .inr (List.mem_cons_of_mem _ h)
theorem afy{a b:List ay}{x:ay}(h:x∈di a b):x∈a∨x∈b:=by
 rcases LI b _ h with h|h
 ·rcases LI a [] h with h|h
  ·cases h
  exact .inl h
 exact .inr h
theorem UF:∀(l:List ay) (seen:List L),gJ seen l=true→eh l∧∀x∈l,x.pre∉seen
 | [],_,_=>⟨List.nodup_nil,fun _ h=>by cases h⟩
 | x :: l,seen,h=>by
  unfold gJ at h;simp only[Bool.and_eq_true,Bool.not_eq_true',decide_eq_false_iff_not] at h;obtain⟨h1,h2⟩:=UF l _ h.2.2.2.2;refine⟨?_,fun y hy=>?_⟩
  ·unfold eh;rw[List.map_cons,List.nodup_cons];refine⟨fun hm=>?_,h1⟩;obtain⟨y,hy,e⟩:=List.mem_map.1 hm;exact h2 y hy (e▸List.mem_cons_self ..)
  rcases List.mem_cons.1 hy with rfl|hy
  ·exact h.2.2.2.1
  exact fun hs=>h2 y hy (List.mem_cons_of_mem _ hs)
theorem LG{l:List ay}(h:may l=true):eh l:=by
 unfold may at h;rw[Bool.and_eq_true] at h;exact (UF l [] h.1).1
end Opm
end
end Go.Proofs.YtifiiojchlaghaaGreatDoor
