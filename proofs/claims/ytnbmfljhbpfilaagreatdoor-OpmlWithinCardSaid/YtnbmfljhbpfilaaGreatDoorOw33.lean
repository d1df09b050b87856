/- opml.Write. (Region by wip/genOpG.py.) And more. -/
import Derived.Test.YtnbmfljhbpfilaaGreatDoorOw02
import Derived.Test.YtnbmfljhbpfilaaGreatDoorOw32
set_option linter.unusedSimpArgs false
set_option maxHeartbeats 8000000
set_option linter.unusedVariables false
namespace Go.Proofs.YtnbmfljhbpfilaaGreatDoor
section
open Go.RowKit Tk Sx Go.WideShapes

namespace Opm
def c0:L:=[60,111,112,109,108,32,118,101,114,115,105,111,110,61,34,50,46,48,34,62,60,104,101,97,100,47,62,60,98,111,100,121,62]
def c1:L:=[60,111,117,116,108,105,110,101,32,116,101,120,116,61,34]
def c2:L:=[34,32,120,109,108,85,114,108,61,34]
def c3:L:=[34,47,62]
def c4:L:=[60,47,98,111,100,121,62,60,47,111,112,109,108,62]
def one(x:ax):L:=c1++Tx.escape true x.ns++c2++Tx.escape true x.pre++c3
theorem yy{x:ax}(h:x.pre.length≤100000∧x.ns.length≤100000):(one x).length≤1300000:=by
 unfold one;have h1:=Tx.pg true x.ns;have h2:=Tx.pg true x.pre;have h3:c1.length=15:=rfl;have h4:c2.length=10:=rfl;have h5:c3.length=3:=rfl;simp only[List.length_append];omega
theorem SA{l:List ax}(h:∀x∈l,x.pre.length≤100000∧x.ns.length≤100000)(j:Nat):((l.take j).flatMap one).length≤1300000*l.length:=by
 have h1:∀l:List ax,(∀x∈l,x.pre.length≤100000∧x.ns.length≤100000)→(l.flatMap one).length≤1300000*l.length:=by
  intro l
  induction l with
  | nil=>intro _;simp
  | cons x l ih=>
   intro h;rw[List.flatMap_cons,List.length_append,List.length_cons];have:=ih fun y hy=>h y (List.mem_cons_of_mem _ hy);have:=yy (h x (List.mem_cons_self ..));omega
 have h2:=h1 (l.take j) fun x hx=>h x (List.mem_of_mem_take hx);have h3:(l.take j).length≤l.length:=by rw[List.length_take];omega
 omega
def text(l:List ax):L:=c0++l.flatMap one++c4
end Opm
structure jV(B b X:Nat)(u t acc pc:L)(W0:World)(d:Prop)(W:World):Prop where
 x:ae W X 27 #[.string (aa u),.string (aa t)]
 xb:X≠b
 z:B≤W.heap.size
 pre:¬d→Bx B b acc W
 post:d→Bx B b (acc++pc) W
 t:bK B b W0 W
theorem jV.lt{B b X:Nat}{u t acc pc:L}{W0 W:World}{d:Prop}(h:jV B b X u t acc pc W0 d W):b<W.heap.size:=by
 by_cases hd:d
 ·exact (h.post hd).lt
 exact (h.pre hd).lt
theorem jV.iff{B b X:Nat}{u t acc pc:L}{W0 W:World}{d d':Prop}(h:jV B b X u t acc pc W0 d W)(e:d↔d'):jV B b X u t acc pc W0 d' W:=propext e▸h
theorem jV.go{B b X:Nat}{u t acc pc:L}{W0 W W':World}{d:Prop}(h:jV B b X u t acc pc W0 d W)(hb:Below W.heap.size W W'):jV B b X u t acc pc W0 d W' :=
 ⟨h.x.go hb,h.xb,Nat.le_trans h.z hb.size,fun hd=>(h.pre hd).go hb,fun hd=>(h.post hd).go hb,h.t.trans (bK.bX hb)⟩
theorem jV.put{B b X:Nat}{u t acc pc:L}{W0 W W':World}{d d':Prop}(h:jV B b X u t acc pc W0 d W)(hd':d')(hb:Bx B b (acc++pc) W')(hk:bK B b W W'):jV B b X u t acc pc W0 d' W' :=
 ⟨hk.blk h.x h.xb (by decide),h.xb,Nat.le_trans h.z hk.size,fun hd=>absurd hd' hd,fun _=>hb,h.t.trans hk⟩
theorem jV.start{B b X:Nat}{u t acc pc:L}{W0 W:World}(hb:Below W0.heap.size W0 W)(hx:Bx B b acc W0)(hX:ae W0 X 27 #[.string (aa u),.string (aa t)])(hne:X≠b)(hz:B≤W0.heap.size):jV B b X u t acc pc W0 False W :=
 ⟨hX.go hb,hne,Nat.le_trans hz hb.size,fun _=>hx.go hb,fun h=>h.elim,bK.bX hb⟩
theorem abf(l:List ax)(A:Option Addr)(c:Nat)(w:World)(hR:Reads w w.heap.size 2 A l.length (bP l))(hu:∀x∈l,x.pre.length≤100000∧x.ns.length≤100000)(hl:l.length≤1000) :
  Calls Tryz.prog 12 #[.slice A l.length c] w fun e w'=>e=.returned (if Opm.may l=true then .tuple #[.string (aa (Opm.text l)),.int .i64 0] else .tuple #[.string ⟨#[]⟩,.int .i64 2])∧Below w.heap.size w w':=by
 have pR:=hide (abe l A c w hR hu (by omega));obtain⟨n,hn⟩:∃n,l.length=n:=⟨_,rfl⟩;have HR:=hide hR;have HU:=hide hu;have Hn:=hide hn;obtain⟨q,hq⟩:∃q,Opm.may l=q:=⟨_,rfl⟩;rw[hq,hn] at pR;rw[hq];rw[hn] at hl ⊢;clear hR hu hn hq
 go_enter Tryz.func12,Tryz.ntmps12
 go_wp2_with fail
 refine pR.out.mono ?_;rintro e w1 ⟨rfl,aq⟩;have ay:=hide aq;clear aq;dsimp only
 cases q with
 | false=>
  go_wp2;go_ret2;exact⟨rfl,ay.out⟩
 | true=>
  have hz1:=ay.out.size;have Kl:=ae.new (w1.alloc (.cells #[.pointer none,.slice none 0 0] 60)) 9 #[.string (aa Opm.c0)];rw[World.size_alloc] at Kl;have dz:Below w1.heap.size w1 ((w1.alloc (.cells #[.pointer none,.slice none 0 0] 60)).alloc (.cells #[.string (aa Opm.c0)] 9)):=(az w1 _).alloc (by simp) _;have GZ:=hide (show Calls Tryz.prog 24 #[.slice (some ⟨w1.heap.size+1,0,none⟩) 1 1,.pointer (some ⟨w1.heap.size,0,none⟩)] ((w1.alloc (.cells #[.pointer none,.slice none 0 0] 60)).alloc (.cells #[.string (aa Opm.c0)] 9)) fun e w'=>(∃v,e=.returned v)∧Bx w1.heap.size w1.heap.size Opm.c0 w'∧Below w1.heap.size w1 w' from (Oo w1.heap.size w1.heap.size (w1.heap.size+1) [] [Opm.c0] _ ((Bx.fresh w1).go (az _ _)) (by simp;omega) Kl (by omega) (by simp) (by decide)).mono fun e w' h=>⟨h.1,h.2.1,dz.trans (h.2.2.below (Nat.le_refl _) dz.size)⟩);obtain⟨b,hb⟩:∃b,w1.heap.size=b:=⟨_,rfl⟩;have Hb:=hide hb;rw[hb] at GZ hz1;have sZ:Tryz.prog.follows .mixedOrders=true:=by kernel_rfl
  clear Kl dz
  go_wp2_with fail
  clear hb;refine GZ.out.mono ?_;rintro e w2 ⟨⟨v0,rfl⟩,vL,af⟩;have HX2:=hide vL;have ah:=hide af;have hz2:=af.size;clear vL af GZ;dsimp only;go_wp2
  go_loopg [7,17,18,19,20,21,22,23,24,25,26,27,28,29,30] n (fun gk v7 v17 v18 v19 v20 v21 v22 v23 v24 v25 v26 v27 v28 v29 v30 wr=>∃j:Nat,v17=.int .i64 (j:Int)∧gk=n-j∧j≤n∧Bx b b (Opm.c0++(l.take j).flatMap Opm.one) wr∧Below b w1 wr)
  case atStart=>exact⟨0,rfl,rfl,by omega,by simpa using HX2.out,ah.out⟩
  case round=>
   obtain⟨j,rfl,au,hj,hx,Ex⟩:=hrel;have dF:=hide au;have wP:=hide hx;have yU:=hide Ex;clear au hx Ex
   by_cases hlt:j<n
   ·have fy:j<l.length:=by rw[Hn.out];exact hlt
    obtain⟨eb,off,rfl,jC,x0,x1⟩:=(HR.out.below ((ay.out.trans (yU.out.mono hz1)))).o5 fy;obtain⟨dJ,bh⟩:=HU.out l[j] (List.getElem_mem fy)
    have hst:(l.take (j+1)).flatMap Opm.one=(l.take j).flatMap Opm.one++Opm.one l[j]:=by
     rw[List.take_add_one,List.getElem?_eq_getElem fy,List.flatMap_append];simp
    obtain⟨⟨u,t⟩,x8⟩:∃x,l[j]=x:=⟨_,rfl⟩;rw[x8] at hst x0 x1 dJ bh;dsimp only at x0 x1 dJ bh;have od:(0:Int)≤j∧(j:Int)<n:=by omega
    have mi:=Opm.SA HU.out j;rw[Hn.out] at mi;obtain⟨acc,j8⟩:∃acc,Opm.c0++(l.take j).flatMap Opm.one=acc:=⟨_,rfl⟩;have jD:acc.length≤2000000000:=by rw[←j8,List.length_append];have:Opm.c0.length=33:=rfl;omega
    obtain⟨pc,s9⟩:∃pc,Opm.one ⟨u,t⟩=pc:=⟨_,rfl⟩;have iQ:=hide (show Opm.c0++(l.take (j+1)).flatMap Opm.one=acc++pc by rw[hst,←List.append_assoc,j8,s9]);rw[j8] at wP;have O0:=hide (fun W=>Sm true t W (by omega));have Pa:=hide (fun W=>Sm true u W (by omega))
    have zn:=hide (show ∀(R:Nat) (W:World),Bx b b acc W→b≤W.heap.size→ae W R 9 #[.string (aa Opm.c1),.string (aa (Tx.escape true t)),.string (aa Opm.c2),.string (aa (Tx.escape true u)),.string (aa Opm.c3)]→R≠b→Calls Tryz.prog 24 #[.slice (some ⟨R,0,none⟩) 5 5,.pointer (some ⟨b,0,none⟩)] W fun e w'=>(∃v,e=.returned v)∧Bx b b (acc++pc) w'∧bK b b W w' from fun R W h1 h2 h3 h4=>by
     have hf:[Opm.c1,Tx.escape true t,Opm.c2,Tx.escape true u,Opm.c3].flatten=pc:=by rw[←s9];simp[Opm.one]
     have h:=Oo b b R acc [Opm.c1,Tx.escape true t,Opm.c2,Tx.escape true u,Opm.c3] W h1 h2 h3 h4 (by simp) (by rw[hf,←s9];have:=Opm.yy (x:=⟨u,t⟩) ⟨dJ,bh⟩;omega);rw[hf] at h;exact h)
    have Ku:=ae.new wr 27 #[.string (aa u),.string (aa t)];have bt:=wP.out.lt;have je:=wP.out.go (az wr (.cells #[.string (aa u),.string (aa t)] 27));have sM:=yU.out.alloc (Nat.le_of_lt bt) (.cells #[.string (aa u),.string (aa t)] 27);clear hst x8 j8 s9 mi wP;go_wp2;obtain⟨X,hX⟩:∃X,wr.heap.size=X:=⟨_,rfl⟩;obtain⟨Wr,Es⟩:∃W,wr.alloc (.cells #[.string (aa u),.string (aa t)] 27)=W:=⟨_,rfl⟩;have hz:b≤Wr.heap.size:=by rw[←Es,World.size_alloc];omega
    rw[Es,hX] at Ku;rw[Es] at je sM ⊢;rw[hX] at bt ⊢;have lj:X≠b:=by omega
    have HX:=hide Ku;have nC:=hide je;have tV:=hide sM;clear Es hX Ku je sM x0 x1 yU
    refine (wpIn_wide (n:=1)).1 (Cz sZ (by kernel_rfl) (fun L a W=>∃u0 u1 u2 u3 u4 u5 u6 u7 u8:Value,a=⟨List.toArray ((.slice (some ⟨eb,off,none⟩) n c) :: undef :: (.string ⟨#[]⟩) :: (.int .i64 0) :: (.pointer (some ⟨b,0,none⟩)) :: (.func (.func 24) #[] #[.pointer (some ⟨b,0,none⟩)]) :: undef :: (.pointer (some ⟨X,0,none⟩)) :: (.slice (some ⟨eb,off,none⟩) n c) :: (.bool true) :: (.bool false) :: (.func (.func 24) #[] #[.pointer (some ⟨b,0,none⟩)]) :: (.func (.func 24) #[] #[.pointer (some ⟨b,0,none⟩)]) :: (.slice (some ⟨b+1,0,none⟩) 1 1) :: v0 :: (.slice (some ⟨eb,off,none⟩) n c) :: (.int .i64 (n:Int)) :: (.int .i64 (j:Int)) :: (.bool true) :: (.pointer (some ⟨eb,off+j*2,none⟩)) :: (.agg #[.string (aa u),.string (aa t)]) :: u0 :: u1 :: u2 :: u3 :: u4 :: u5 :: u6 :: u7 :: u8 :: u30 :: undef :: undef :: undef :: undef :: []),[]⟩∧jV b b X u t acc pc Wr (L 8) W∧(L 0→u0=.func (.func 24) #[] #[.pointer (some ⟨b,0,none⟩)])∧(L 1→u1=.pointer (some ⟨X,1,none⟩))∧(L 2→u2=.string (aa t))∧(L 3→u3=.string (aa (Tx.escape true t)))∧(L 4→u4=.pointer (some ⟨X,0,none⟩))∧(L 5→u5=.string (aa u))∧(L 6→u6=.string (aa (Tx.escape true u)))∧(L 7→∃R,u7=.slice (some ⟨R,0,none⟩) 5 5∧(L 8∨(ae W R 9 #[.string (aa Opm.c1),.string (aa (Tx.escape true t)),.string (aa Opm.c2),.string (aa (Tx.escape true u)),.string (aa Opm.c3)]∧R≠b)))) ?h0 ?hs ?_)
    case h0=>exact⟨_,_,_,_,_,_,_,_,_,rfl,(jV.start (by have:=Below.refl Wr.heap.size Wr;exact below_drewN this 1) nC.out HX.out lj hz),(·.elim),(·.elim),(·.elim),(·.elim),(·.elim),(·.elim),(·.elim),(·.elim)⟩
    case hs=>
     rintro L a W i ⟨u0,u1,u2,u3,u4,u5,u6,u7,u8,rfl,hS,p0,p1,p2,p3,p4,p5,p6,p7⟩ hi iG aZ b9;obtain rfl|rfl|rfl|rfl|rfl|rfl|rfl|rfl|rfl:i=0∨i=1∨i=2∨i=3∨i=4∨i=5∨i=6∨i=7∨i=8:=by have:i<9:=hi;omega
     all_goals clear hi
     ·refine dL rfl (by kernel_rfl) (fun K hK=>?_);go_simp;refine hK _ _ ?_;(try simp only[Act.put,List.setIfInBounds_toArray,List.set_cons_zero,List.set_cons_succ]);exact⟨_,_,_,_,_,_,_,_,_,rfl,(hS.iff ⟨.inl,fun h=>h.elim id fun e=>by cases e⟩),fun _=>rfl,aj p1 (by decide),aj p2 (by decide),aj p3 (by decide),aj p4 (by decide),aj p5 (by decide),aj p6 (by decide),aj (fun h=>by obtain⟨R,e,h1⟩:=p7 h;exact⟨R,e,h1.elim (fun h=>.inl (.inl h)) fun h=>.inr ⟨h.1.go (Below.refl W.heap.size W),h.2⟩⟩) (by decide)⟩
     ·refine dL rfl (by kernel_rfl) (fun K hK=>?_);go_simp;refine hK _ _ ?_;(try simp only[Act.put,List.setIfInBounds_toArray,List.set_cons_zero,List.set_cons_succ]);exact⟨_,_,_,_,_,_,_,_,_,rfl,(hS.iff ⟨.inl,fun h=>h.elim id fun e=>by cases e⟩),aj p0 (by decide),fun _=>rfl,aj p2 (by decide),aj p3 (by decide),aj p4 (by decide),aj p5 (by decide),aj p6 (by decide),aj (fun h=>by obtain⟨R,e,h1⟩:=p7 h;exact⟨R,e,h1.elim (fun h=>.inl (.inl h)) fun h=>.inr ⟨h.1.go (Below.refl W.heap.size W),h.2⟩⟩) (by decide)⟩
     ·obtain rfl:=p1 (aZ 1 (by kernel_rfl));have k1:=hS.x.cell 1;refine dL rfl (by kernel_rfl) (fun K hK=>?_);go_simp;refine hK _ _ ?_;(try simp only[Act.put,List.setIfInBounds_toArray,List.set_cons_zero,List.set_cons_succ]);exact⟨_,_,_,_,_,_,_,_,_,rfl,(hS.iff ⟨.inl,fun h=>h.elim id fun e=>by cases e⟩),aj p0 (by decide),aj p1 (by decide),fun _=>rfl,aj p3 (by decide),aj p4 (by decide),aj p5 (by decide),aj p6 (by decide),aj (fun h=>by obtain⟨R,e,h1⟩:=p7 h;exact⟨R,e,h1.elim (fun h=>.inl (.inl h)) fun h=>.inr ⟨h.1.go (Below.refl W.heap.size W),h.2⟩⟩) (by decide)⟩
     ·obtain rfl:=p2 (aZ 2 (by kernel_rfl));refine dL rfl (by kernel_rfl) (fun K hK=>?_);go_simp;refine⟨trivial,(callsIn_wide.2 (O0.out W)).mono ?_⟩;rintro e w3 ⟨rfl,aB⟩;dsimp only;refine hK _ _ ?_;(try simp only[Act.put,List.setIfInBounds_toArray,List.set_cons_zero,List.set_cons_succ]);exact⟨_,_,_,_,_,_,_,_,_,rfl,((hS.go aB).iff ⟨.inl,fun h=>h.elim id fun e=>by cases e⟩),aj p0 (by decide),aj p1 (by decide),aj p2 (by decide),fun _=>rfl,aj p4 (by decide),aj p5 (by decide),aj p6 (by decide),aj (fun h=>by obtain⟨R,e,h1⟩:=p7 h;exact⟨R,e,h1.elim (fun h=>.inl (.inl h)) fun h=>.inr ⟨h.1.go aB,h.2⟩⟩) (by decide)⟩
     ·refine dL rfl (by kernel_rfl) (fun K hK=>?_);go_simp;refine hK _ _ ?_;(try simp only[Act.put,List.setIfInBounds_toArray,List.set_cons_zero,List.set_cons_succ]);exact⟨_,_,_,_,_,_,_,_,_,rfl,(hS.iff ⟨.inl,fun h=>h.elim id fun e=>by cases e⟩),aj p0 (by decide),aj p1 (by decide),aj p2 (by decide),aj p3 (by decide),fun _=>rfl,aj p5 (by decide),aj p6 (by decide),aj (fun h=>by obtain⟨R,e,h1⟩:=p7 h;exact⟨R,e,h1.elim (fun h=>.inl (.inl h)) fun h=>.inr ⟨h.1.go (Below.refl W.heap.size W),h.2⟩⟩) (by decide)⟩
     ·obtain rfl:=p4 (aZ 4 (by kernel_rfl));have k0:=hS.x.cell 0;refine dL rfl (by kernel_rfl) (fun K hK=>?_);go_simp;refine hK _ _ ?_;(try simp only[Act.put,List.setIfInBounds_toArray,List.set_cons_zero,List.set_cons_succ]);exact⟨_,_,_,_,_,_,_,_,_,rfl,(hS.iff ⟨.inl,fun h=>h.elim id fun e=>by cases e⟩),aj p0 (by decide),aj p1 (by decide),aj p2 (by decide),aj p3 (by decide),aj p4 (by decide),fun _=>rfl,aj p6 (by decide),aj (fun h=>by obtain⟨R,e,h1⟩:=p7 h;exact⟨R,e,h1.elim (fun h=>.inl (.inl h)) fun h=>.inr ⟨h.1.go (Below.refl W.heap.size W),h.2⟩⟩) (by decide)⟩
     ·obtain rfl:=p5 (aZ 5 (by kernel_rfl));refine dL rfl (by kernel_rfl) (fun K hK=>?_);go_simp;refine⟨trivial,(callsIn_wide.2 (Pa.out W)).mono ?_⟩;rintro e w3 ⟨rfl,aB⟩;dsimp only;refine hK _ _ ?_;(try simp only[Act.put,List.setIfInBounds_toArray,List.set_cons_zero,List.set_cons_succ]);exact⟨_,_,_,_,_,_,_,_,_,rfl,((hS.go aB).iff ⟨.inl,fun h=>h.elim id fun e=>by cases e⟩),aj p0 (by decide),aj p1 (by decide),aj p2 (by decide),aj p3 (by decide),aj p4 (by decide),aj p5 (by decide),fun _=>rfl,aj (fun h=>by obtain⟨R,e,h1⟩:=p7 h;exact⟨R,e,h1.elim (fun h=>.inl (.inl h)) fun h=>.inr ⟨h.1.go aB,h.2⟩⟩) (by decide)⟩
     ·obtain rfl:=p3 (aZ 3 (by kernel_rfl));obtain rfl:=p6 (aZ 6 (by kernel_rfl));refine dL rfl (by kernel_rfl) (fun K hK=>?_);go_simp;refine hK _ _ ?_;(try simp only[Act.put,List.setIfInBounds_toArray,List.set_cons_zero,List.set_cons_succ]);exact⟨_,_,_,_,_,_,_,_,_,rfl,((hS.go (az W _)).iff ⟨.inl,fun h=>h.elim id fun e=>by cases e⟩),aj p0 (by decide),aj p1 (by decide),aj p2 (by decide),aj p3 (by decide),aj p4 (by decide),aj p5 (by decide),aj p6 (by decide),fun _=>⟨W.heap.size,rfl,.inr ⟨ae.new W _ _,by have:=hS.lt;omega⟩⟩⟩
     obtain rfl:=p0 (aZ 0 (by kernel_rfl));obtain⟨R7,rfl,Er⟩:=p7 (aZ 7 (by kernel_rfl));refine dL rfl (by kernel_rfl) (fun K hK=>?_);go_simp;refine⟨trivial,(callsIn_wide.2 (zn.out R7 W (hS.pre iG) hS.z (Er.resolve_left iG).1 (Er.resolve_left iG).2)).mono ?_⟩;rintro e w3 ⟨⟨v3,rfl⟩,aB,aH⟩;dsimp only;refine hK _ _ ?_;(try simp only[Act.put,List.setIfInBounds_toArray,List.set_cons_zero,List.set_cons_succ]);exact⟨_,_,_,_,_,_,_,_,_,rfl,hS.put (by simp) aB aH,aj p0 (by decide),aj p1 (by decide),aj p2 (by decide),aj p3 (by decide),aj p4 (by decide),aj p5 (by decide),aj p6 (by decide),aj (fun h=>⟨R7,rfl,.inl (by simp)⟩) (by decide)⟩
    rintro L a w8 ⟨u0,u1,u2,u3,u4,u5,u6,u7,u8,rfl,hS,p0,p1,p2,p3,p4,p5,p6,p7⟩ hall;have h8:=hall 8 (by decide);obtain rfl:=p0 (hall 0 (by decide));obtain rfl:=p1 (hall 1 (by decide));obtain rfl:=p2 (hall 2 (by decide));obtain rfl:=p3 (hall 3 (by decide));obtain rfl:=p4 (hall 4 (by decide));obtain rfl:=p5 (hall 5 (by decide));obtain rfl:=p6 (hall 6 (by decide));obtain⟨R7,rfl,Er⟩:=p7 (hall 7 (by decide));clear p0 p1 p2 p3 p4 p5 p6 p7 hall;have Zz:=hide (show Bx b b (Opm.c0++(l.take (j+1)).flatMap Opm.one) w8 by rw[iQ.out];exact hS.post h8);have Zy:=hide (tV.out.trans (hS.t.below (Nat.le_refl _) hz));clear hS h8 O0 Pa zn Er;go_wp2
    go_roundg (n-(j+1))
    case measure=>have:=dF.out;omega
    case rel=>exact⟨j+1,by first|rfl|go_num,rfl,by omega,Zz.out,Zy.out⟩
   have fx:j=n:=by omega
   have dI:¬(j:Int)<(n:Int):=by omega
   have hx:=wP.out;rw[fx,←Hn.out,List.take_length] at hx;have mi:=Opm.SA HU.out l.length;rw[List.take_length,Hn.out] at mi;have Tz:=ae.new wr 9 #[.string (aa Opm.c4)];have bt:=hx.lt;have hzr:w.heap.size≤wr.heap.size:=by omega
   have lq:=yU.out.alloc (Nat.le_of_lt bt) (.cells #[.string (aa Opm.c4)] 9)
   have CQ:=hide (show Calls Tryz.prog 24 #[.slice (some ⟨wr.heap.size,0,none⟩) 1 1,.pointer (some ⟨b,0,none⟩)] (wr.alloc (.cells #[.string (aa Opm.c4)] 9)) fun e w'=>(∃v,e=.returned v)∧Bx b b (Opm.text l) w'∧Below b w1 w'∧b≤w'.heap.size from (Oo b b wr.heap.size _ [Opm.c4] _ (hx.go (az _ _)) (by simp;omega) Tz (by omega) (by simp) (by
    have h1:Opm.c0.length=33:=rfl;have h2:[Opm.c4].flatten.length=14:=rfl;rw[h2,List.length_append]
    omega)).mono fun e w' h=>⟨h.1,by have:=h.2.1;simpa[Opm.text] using this,lq.trans (h.2.2.below (Nat.le_refl _) (by simp;omega)),Nat.le_trans (by simp;omega) h.2.2.size⟩)
   clear hx mi Tz lq wP yU fx
   go_wp2_with fail
   refine CQ.out.mono ?_;rintro e w5 ⟨⟨v5,rfl⟩,Ve,hb5,hz5⟩;have nG:=hide (Ve.str hz5);have yS:=hide hb5;clear Ve CQ;dsimp only
   go_wp2_with fail
   refine nG.out.mono ?_;rintro e w6 ⟨rfl,TL⟩;have Zv:=hide (ay.out.trans ((yS.out.trans TL).mono hz1));clear TL;dsimp only;go_wp2;go_ret2;exact⟨rfl,Zv.out⟩
end
section
namespace Tk

def iy(b:L):Prop:=b.all sp=true
theorem rk{b r:L}(hb:iy b)(hr:∀c t,r=c :: t→sp c=false):aL (b++r)=b.length:=by
 unfold aL
 induction b with
 | nil=>
  cases r with
  | nil=>rfl
  | cons c t=>rw[List.nil_append,List.takeWhile_cons,hr c t rfl];rfl
 | cons c b ih=>
  unfold iy at hb;rw[List.all_cons,Bool.and_eq_true] at hb;rw[List.cons_append,List.takeWhile_cons,hb.1];show (c :: (b++r).takeWhile sp).length=_;rw[List.length_cons,List.length_cons,ih hb.2]
theorem amb{q:UInt8}{r:L}{k:Nat}(h:till [q] r=some k):∃x rest,r=x++q :: rest∧q∉x∧k=x.length:=by
 rw[NH] at h;obtain⟨h1,h2,h3⟩:=Vl h;have h4:=Lib.occAt_head (t:=[]) rfl h1;obtain⟨h5,h6⟩:=List.getElem?_eq_some_iff.1 h4;refine⟨r.take k,r.drop (k+1),?_,?_,?_⟩
 ·rw[←h6,←List.drop_eq_getElem_cons,List.take_append_drop]
 ·intro hm;obtain⟨j,hj,e⟩:=List.getElem_of_mem hm;rw[List.length_take] at hj;have h7:=h3 j (by omega);rw[List.getElem_take] at e;unfold Lib.occAt at h7;rw[List.drop_eq_getElem_cons (by omega),e] at h7;simp at h7
 rw[List.length_take];omega
theorem Yk{q:UInt8}{x:L}(hq:q∉x)(rest:L):till [q] (x++q :: rest)=some x.length:=by
 rw[NH];refine Lib.index_first (by simp) ?_ fun j hj=>?_
 ·unfold Lib.occAt;rw[List.drop_left];simp
 unfold Lib.occAt;rw[List.drop_append_of_le_length (by omega),List.drop_eq_getElem_cons hj,List.cons_append];have:x[j]≠q:=fun e=>hq (e▸List.getElem_mem hj);rw[Bool.eq_false_iff];intro h;obtain⟨r,h⟩:=List.isPrefixOf_iff_prefix.1 h;exact this (List.cons.inj h).1.symm
def yR(w x:L):Prop:=∃b1 b2 q,iy b1∧iy b2∧(q=34∨q=39)∧q∉x∧w=b1++61 :: (b2++q :: (x++[q]))
theorem aje{q:UInt8}{x:L}(hq:q=34∨q=39)(hx:q∉x)(rest:L):quoted (q :: (x++q :: rest))=some (x,x.length+2):=by
 simp only[quoted];rw[if_pos hq,Yk hx,Option.map_some,List.take_left]
theorem ai9{q:UInt8}(h:q=34∨q=39):sp q=false:=by rcases h with rfl|rfl<;>rfl
theorem head_eq{α:Type}{c d:α}{s t:List α}(h:c :: s=d :: t):c=d:=by cases h;rfl
theorem Sj{w x:L}(h:yR w x)(rest:L):eqv (w++rest)=some (x,w.length):=by
 obtain⟨b1,b2,q,aq,af,hq,hx,rfl⟩:=h;have e:b1++61 :: (b2++q :: (x++[q]))++rest=b1++61 :: (b2++q :: (x++q :: rest)):=by simp
 rw[e];unfold eqv;rw[rk aq (fun c t h=>by rw[←head_eq h];rfl),List.drop_left];simp only[if_true];rw[rk af (fun c t h=>by rw[←head_eq h];exact ai9 hq),List.drop_left,aje hq hx];simp only[Option.map_some,List.length_append,List.length_cons,List.length_nil];congr 2;omega
def Ja(name w x:L):Prop:=∃b v,iy b∧b≠[]∧yR v x∧w=b++name++v
theorem FO{p l:L}:p.isPrefixOf l=true↔∃r,l=p++r:=by
 rw[List.isPrefixOf_iff_prefix];exact⟨fun⟨r,h⟩=>⟨r,h.symm⟩,fun⟨r,h⟩=>⟨r,h.symm⟩⟩
theorem WL{name w x:L}{d:UInt8}{t:L}(hn:name=d :: t)(hd:sp d=false)(h:Ja name w x)(rest:L):part name (w++rest)=some (x,w.length):=by
 obtain⟨b,v,hb,h0,hv,rfl⟩:=h;have e:b++name++v++rest=b++(name++(v++rest)):=by simp
 rw[e];unfold part;rw[rk hb (fun c s h=>by rw[hn] at h;rw[←head_eq h];exact hd),List.drop_left,if_neg (by intro h;exact h0 (List.eq_nil_of_length_eq_zero h)),if_pos (FO.2 ⟨_,rfl⟩)];rw[show (b++(name++(v++rest))).drop (b.length+name.length)=v++rest by rw[←List.append_assoc,←List.length_append,List.drop_left],Sj hv];simp only[Option.map_some,List.length_append]
theorem aiA{name b r:L}{c d:UInt8}{t:L}(hn:name=d :: t)(hb:iy b)(hc:sp c=false)(KG:d≠c):part name (b++c :: r)=none:=by
 unfold part;rw[rk hb (fun e s h=>by rw[←head_eq h];exact hc),List.drop_left];split
 ·rfl
 rw[if_neg];rw[hn];simp;exact fun e=>absurd e KG
def Dn(name:L)(may:L→Bool)(w:L):Prop:=w=[]∨∃x,Ja name w x∧may x=true
theorem Wx{name w:L}{may:L→Bool}{d:UInt8}{t:L}(hn:name=d :: t)(hd:sp d=false)(h:Dn name may w){rest b r:L}{c:UInt8}(hr:rest=b++c :: r)(hb:iy b)(hc:sp c=false)(KG:d≠c) :
  opt name may (w++rest)=some w.length:=by
 unfold opt
 rcases h with rfl|⟨x,hp,hm⟩
 ·rw[List.nil_append,hr,aiA hn hb hc KG];rfl
 rw[WL hn hd hp];simp only;rw[if_pos hm]
def Oz(w:L):Prop:=∃v x e a b,Ja MZ v x∧version x=true∧Dn MX encoding e∧Dn FZ alone a∧iy b∧w=v++(e++(a++(b++[63,62])))
theorem ah5{name w:L}{may:L→Bool}{d:UInt8}{t:L}(hn:name=d :: t)(hd:sp d=false)(h:Dn name may w){b r:L}{c:UInt8}(hb:iy b)(hc:sp c=false) :
  ∃b' c' r',w++(b++c :: r)=b'++c' :: r'∧iy b'∧sp c'=false∧(c'=c∨c'=d):=by
 rcases h with rfl|⟨x,⟨b',v,h1,h2,h3,rfl⟩,_⟩
 ·exact⟨b,c,r,rfl,hb,hc,.inl rfl⟩
 exact⟨b',d,t++v++(b++c :: r),by rw[hn];simp,h1,hd,.inr rfl⟩
theorem acY{w:L}(h:Oz w)(rest:L):decl (w++rest)=some w.length:=by
 obtain⟨v,x,e,a,b,xZ,hx,hoe,UE,hb,rfl⟩:=h;have e0:v++(e++(a++(b++[63,62])))++rest=v++(e++(a++(b++63 :: (62 :: rest)))):=by simp
 rw[e0];obtain⟨b',c',r',h1,h2,h3,h4⟩:=ah5 (r:=62 :: rest) (show FZ=115 :: [116,97,110,100,97,108,111,110,101] from rfl) rfl UE hb (c:=63) rfl;unfold decl;rw[WL (show MZ=118 :: [101,114,115,105,111,110] from rfl) rfl xZ,Option.bind_some];simp only;rw[if_pos hx,List.drop_left,Wx (show MX=101 :: [110,99,111,100,105,110,103] from rfl) rfl hoe h1 h2 h3 (by rcases h4 with rfl|rfl<;>decide),Option.bind_some];rw[show (v++(e++(a++(b++63 :: (62 :: rest))))).drop (v.length+e.length)=a++(b++63 :: (62 :: rest)) by rw[←List.append_assoc,←List.length_append,List.drop_left]];rw[Wx (show FZ=115 :: [116,97,110,100,97,108,111,110,101] from rfl) rfl UE rfl hb (c:=63) rfl (by decide),Option.bind_some];rw[show (v++(e++(a++(b++63 :: (62 :: rest))))).drop (v.length+e.length+a.length)=b++63 :: (62 :: rest) by rw[←List.append_assoc,←List.append_assoc,←List.length_append,←List.length_append,List.drop_left]];rw[rk hb (fun c s h=>by rw[←head_eq h];rfl),List.drop_left,if_pos (by simp)];simp only[List.length_append,List.length_cons,List.length_nil];congr 1;omega
theorem ahp{p t:L}{c:UInt8}(h:Name p)(hp:p=c :: t)(hc:c.toNat<128):iC (c.toNat:Int)=true:=by
 have:=h.2 (0,(c.toNat:Int)) (by rw[hp,Utf.SH hc];exact List.mem_cons_self ..);exact this
theorem yu{p t:L}{c d:UInt8}(h:Name p)(hp:p=c :: t)(hd:d.toNat<128)(hf:iC (d.toNat:Int)=false):c≠d:=by
 rintro rfl;rw[ahp h hp hd] at hf;cases hf
theorem ahq{p t:L}{c:UInt8}(h:Name p)(hp:p=c :: t):sp c=false:=by
 unfold sp;have e:∀d:UInt8,d.toNat<128→iC (d.toNat:Int)=false→(c==d)=false:=fun d h1 h2=>by rw[beq_eq_false_iff_ne];exact yu h hp h1 h2
 rw[e 32 (by decide) (by decide),e 9 (by decide) (by decide),e 10 (by decide) (by decide),e 13 (by decide) (by decide)];rfl
def nL(c:UInt8):Prop:=c.toNat<128∧∀n,n≠0→gi n (c.toNat:Int)=false
theorem Co{c:UInt8}(h:c.toNat<128)(h2:(j5 (c.toNat:Int)||decide ((c.toNat:Int)=58))=false):nL c:=⟨h,fun n hn=>by unfold gi;rw[if_neg hn];exact h2⟩
theorem Ny{c:UInt8}(h:sp c=true):nL c:=by
 unfold sp at h;simp only[Bool.or_eq_true,beq_iff_eq] at h
 rcases h with ((rfl|rfl) | rfl) | rfl<;>exact Co (by decide) (by decide)
theorem alz:nL 61:=Co (by decide) (by decide)
theorem X7:nL 62:=Co (by decide) (by decide)
theorem aly:nL 47:=Co (by decide) (by decide)
theorem alA:nL 63:=Co (by decide) (by decide)
theorem Cq{p q:L}{c:UInt8}(h:Name p)(h0:p≠[])(hc:nL c):take (p++c :: q)=p.length :=
 alY h (.inr (by rw[Utf.MG hc.1];exact hc.2 _ fun e=>h0 (List.eq_nil_of_length_eq_zero e)))
theorem F5{b r:L}{c:UInt8}(hb:iy b)(hc:nL c):∃d t,b++c :: r=d :: t∧nL d:=by
 cases b with
 | nil=>exact⟨c,r,rfl,hc⟩
 | cons d b=>
  unfold iy at hb;rw[List.all_cons,Bool.and_eq_true] at hb;exact⟨d,b++c :: r,rfl,Ny hb.1⟩
theorem adD{w x:L}(h:yR w x)(rest:L):∃d t,w++rest=d :: t∧nL d:=by
 obtain⟨b1,b2,q,aq,_,_,_,rfl⟩:=h;have:=F5 (r:=b2++q :: (x++[q])++rest) aq alz
 simpa using this
inductive tO:Nat→L→List At→Bool→Prop
 | two (off:Nat) (b:L):iy b→tO off (b++[47,62]) [] true
 | one (off:Nat) (b:L):iy b→tO off (b++[62]) [] false
 | more (off:Nat) (b nm v x w:L) (ak:List At) (e:Bool):iy b→b≠[]→Name nm→nm≠[]→yR v x→(60:UInt8)∉x→tO (off+b.length+nm.length+v.length) w ak e→
   tO off (b++(nm++(v++w))) (⟨nm,x,off+b.length⟩ :: ak) e
theorem abY{off:Nat}{w:L}{ak:List At}{e:Bool}(h:tO off w ak e)(rest:L):∃d t,w++rest=d :: t∧nL d:=by
 cases h with
 | two _ b hb=>have:=F5 (r:=62 :: rest) hb aly;simpa using this
 | one _ b hb=>have:=F5 (r:=rest) hb X7;simpa using this
 | more _ b nm v x w ak e hb h0 _ _ _ _ _=>
  cases b with
  | nil=>exact absurd rfl h0
  | cons d b=>
   unfold iy at hb;rw[List.all_cons,Bool.and_eq_true] at hb;exact⟨d,_,rfl,Ny hb.1⟩
theorem ab0{off:Nat}{w:L}{ak:List At}{e:Bool}(h:tO off w ak e):∀(k:Nat) (rest:L),w.length≤k→attrs k off (w++rest)=some (ak,e,off+w.length):=by
 induction h with
 | two off b hb=>
  intro k rest hk;obtain⟨k,rfl⟩:∃j,k=j+1:=⟨k-1,by simp at hk;omega⟩;have e0:b++[47,62]++rest=b++(47 :: 62 :: rest):=by simp
  rw[e0];unfold attrs;rw[rk hb (fun c t h=>by rw[←head_eq h];rfl),List.drop_left,if_pos (by simp)];simp;omega
 | one off b hb=>
  intro k rest hk;obtain⟨k,rfl⟩:∃j,k=j+1:=⟨k-1,by simp at hk;omega⟩;have e0:b++[62]++rest=b++(62 :: rest):=by simp
  rw[e0];unfold attrs;rw[rk hb (fun c t h=>by rw[←head_eq h];rfl),List.drop_left,if_neg (by simp),if_pos (by simp)];simp;omega
 | more off b nm v x w ak e hb h0 hn kp hv po hw ih=>
  intro k rest hk;simp only[List.length_append] at hk;have bt:0<b.length:=List.length_pos_iff.2 h0;have iG:0<nm.length:=List.length_pos_iff.2 kp;obtain⟨k,rfl⟩:∃j,k=j+1:=⟨k-1,by omega⟩;have e0:b++(nm++(v++w))++rest=b++(nm++(v++(w++rest))):=by simp
  rw[e0]
  obtain⟨c,nt,hc⟩:∃c t,nm=c :: t:=by cases nm with
   | nil=>exact absurd rfl kp
   | cons c t=>exact⟨c,t,rfl⟩
  have Mr:c≠47:=yu hn hc (by decide) (by decide);have V0:c≠62:=yu hn hc (by decide) (by decide);unfold attrs;rw[rk hb (fun d t h=>by rw[hc] at h;rw[←head_eq h];exact ahq hn hc),List.drop_left];rw[if_neg (by rw[hc];simp;exact fun h=>absurd h.symm Mr),if_neg (by rw[hc];simp;exact fun h=>absurd h.symm V0),if_neg (by omega)];obtain⟨d,t,hd,hst⟩:=adD hv (w++rest);have cN:take (nm++(v++(w++rest)))=nm.length:=by rw[hd];exact Cq hn kp hst
  simp only;rw[cN,if_neg (by omega),List.drop_left,Sj hv,Option.bind_some];simp only;rw[if_neg po,show (nm++(v++(w++rest))).drop (nm.length+v.length)=w++rest by rw[←List.append_assoc,←List.length_append,List.drop_left],ih k rest (by omega),List.take_left];simp only[Option.map_some,List.length_append];congr 3;omega
end Tk
end
section
namespace Tk

theorem zY{p r:L}{n:Nat}(h:p.length=n):(p++r).drop n=r:=by rw[←h,List.drop_left]
theorem NI{p x:L}(h:till p (x++p)=some x.length)(rest:L):till p (x++(p++rest))=some x.length:=by
 have:=al8 (a:=x++p) (r:=[]) (r':=rest) (by rw[List.append_nil];exact h) (by rw[List.length_append];exact Nat.le_refl _);rwa[List.append_assoc] at this
theorem start_eq(at_:Nat)(l:L):Tk.start at_ (60 :: l)=if take l=0 then none else (attrs (l.length+1) (at_+1+take l) (l.drop (take l))).map fun x=>⟨0,l.take (take l),x.1,x.2.1,[],at_,x.2.2⟩:=by
 have e:(60 :: l).drop (1+take l)=l.drop (take l):=by rw[Nat.add_comm,List.drop_succ_cons]
 rw[←e];rfl
def QD(nm y:L):Prop:=Name nm∧nm≠[]∧YW nm=false∧(y=[]∨∃c t,y=c :: t∧sp c=true)∧till [63,62] (y++[63,62])=some y.length
theorem agz{nm y:L}(h:QD nm y)(rest:L):Bt (nm++(y++([63,62]++rest)))=some (nm.length+y.length+2):=by
 obtain⟨h1,h2,h3,h4,h5⟩:=h;have hlen:0<nm.length:=List.length_pos_iff.2 h2
 have cN:take (nm++(y++([63,62]++rest)))=nm.length:=by
  rcases h4 with rfl|⟨c,t,rfl,hc⟩
  ·exact Cq h1 h2 alA
  exact Cq h1 h2 (Ny hc)
 unfold Bt;rw[cN,List.take_left,List.drop_left,h3,if_neg (by simp;exact h2)]
 rcases h4 with rfl|⟨c,t,rfl,hc⟩
 ·rw[List.nil_append,if_pos (by simp)];simp
 rw[if_neg (by
  simp;rintro rfl
  cases hc),NI h5]
 simp[hc]
def abd(w:L):Prop:=∀rest,¬(nu.isPrefixOf (w++rest)=true∧(((w++rest).drop 5).head?.map sp).getD false=true)
inductive jz:Nat→L→Tok→Prop
 | start (at_:Nat) (nm wa:L) (ak:List At) (e:Bool):Name nm→nm≠[]→tO (at_+1+nm.length) wa ak e→jz at_ (60 :: (nm++wa)) ⟨0,nm,ak,e,[],at_,at_+(60 :: (nm++wa)).length⟩
 | end_ (at_:Nat) (nm b:L):Name nm→nm≠[]→iy b→jz at_ (60 :: 47 :: (nm++(b++[62]))) ⟨1,nm,[],false,[],at_,at_+(60 :: 47 :: (nm++(b++[62]))).length⟩
 | text (at_:Nat) (tx:L):tx≠[]→(60:UInt8)∉tx→Lib.index tx [93,93,62]<0→jz at_ tx ⟨2,[],[],false,tx,at_,at_+tx.length⟩
 | data (at_:Nat) (tx:L):till [93,93,62] (tx++[93,93,62])=some tx.length→jz at_ (nr++(tx++[93,93,62])) ⟨3,[],[],false,tx,at_,at_+(nr++(tx++[93,93,62])).length⟩
 | comment (at_:Nat) (c:L):till [45,45] (c++[45,45])=some c.length→jz at_ (np++(c++[45,45,62])) ⟨4,[],[],false,[],at_,at_+(np++(c++[45,45,62])).length⟩
 | decl (d:L):Oz d→jz 0 (nu++d) ⟨4,[],[],false,[],0,0+(nu++d).length⟩
 | Bt (at_:Nat) (nm y:L):QD nm y→(at_=0→abd (60 :: 63 :: (nm++(y++[63,62]))))→jz at_ (60 :: 63 :: (nm++(y++[63,62]))) ⟨4,[],[],false,[],at_,at_+(60 :: 63 :: (nm++(y++[63,62]))).length⟩
theorem jz.Sb{at_:Nat}{w:L}{t:Tok}(h:jz at_ w t):t.end_=at_+w.length:=by cases h<;>rfl
theorem jz.ne{at_:Nat}{w:L}{t:Tok}(h:jz at_ w t):w≠[]:=by
 cases h with
 | text _ _ h _ _=>exact h
 | _=>intro e;cases e
def Lt(r:L):Prop:=r=[]∨∃s,r=60 :: s
theorem aiQ{at_:Nat}{w:L}{t:Tok}(h:jz at_ w t)(rest:L)(hr:t.kind=2→Lt rest):Tk.piece at_ (w++rest)=some t:=by
 cases h with
 | start _ nm wa ak e hn h0 ha=>
  obtain⟨c,u,hc⟩:∃c u,nm=c :: u:=by cases nm with
   | nil=>exact absurd rfl h0
   | cons c t=>exact⟨c,t,rfl⟩
  have Mr:c≠47:=yu hn hc (by decide) (by decide);have n33:c≠33:=yu hn hc (by decide) (by decide);have n63:c≠63:=yu hn hc (by decide) (by decide);unfold Tk.piece;rw[if_neg (by rw[hc];simp;exact fun h=>absurd h.symm Mr),if_neg (by rw[hc];simp;exact⟨fun h=>absurd h.symm n33,fun h=>absurd h.symm n63⟩),if_pos (by simp)];rw[List.cons_append,start_eq];obtain⟨d,u2,hd,hst⟩:=abY ha rest;have cN:take (nm++(wa++rest))=nm.length:=by rw[hd];exact Cq hn h0 hst
  rw[List.append_assoc];rw[cN,if_neg (by intro h;exact h0 (List.eq_nil_of_length_eq_zero h)),List.drop_left,List.take_left,ab0 ha _ _ (by simp;omega)];simp only[Option.map_some,List.length_cons,List.length_append];congr 2;omega
 | end_ _ nm b hn h0 hb=>
  have e:60 :: 47 :: (nm++(b++[62]))++rest=60 :: 47 :: (nm++(b++62 :: rest)):=by simp
  rw[e];unfold Tk.piece;rw[if_pos (by simp)];unfold Tk.end_;obtain⟨d,u,hd,hst⟩:=F5 (r:=rest) hb X7;have cN:take (nm++(b++62 :: rest))=nm.length:=by rw[hd];exact Cq hn h0 hst
  simp only[List.drop_succ_cons,List.drop_zero];rw[cN,if_neg (by intro h;exact h0 (List.eq_nil_of_length_eq_zero h)),List.drop_left,List.take_left,rk hb (fun c t h=>by rw[←head_eq h];rfl),List.drop_left,if_pos (by simp)];simp only[List.length_cons,List.length_append,List.length_nil];congr 2;omega
 | text _ _ h0 po hx=>
  have hh:∀c u,w++rest=c :: u→c≠60:=by
   intro c u hc
   cases w with
   | nil=>exact absurd rfl h0
   | cons d w=>
    rw[List.cons_append] at hc;rw[←head_eq hc];rintro rfl;exact po (List.mem_cons_self ..)
  have hp:∀p,(60 :: p:L).isPrefixOf (w++rest)=false:=by
   intro p
   cases hc:w++rest with
   | nil=>rfl
   | cons c u=>
    have:=hh c u hc;rw[Bool.eq_false_iff];intro h;obtain⟨r,h⟩:=List.isPrefixOf_iff_prefix.1 h;exact this (List.cons.inj h).1.symm
  unfold Tk.piece;rw[hp,hp,hp,hp];simp only[Bool.or_self,Bool.false_eq_true,if_false];unfold Tk.text
  rcases hr rfl with rfl|⟨s,rfl⟩
  ·rw[List.append_nil]
   cases ht:till [60] w with
   | none=>simp only[Option.getD_none,List.take_length];rw[if_pos hx]
   | some n=>
    obtain⟨x,r2,h1,h2,h3⟩:=amb ht;exact absurd (by rw[h1];simp) po
  rw[Yk po];simp only[Option.getD_some,List.take_left];rw[if_pos hx]
 | data _ tx ht=>
  have e:nr++(tx++[93,93,62])++rest=nr++(tx++([93,93,62]++rest)):=by simp
  rw[e];unfold Tk.piece;rw[if_neg (by simp[nr]),if_pos (by simp[nr])];unfold Tk.skip;rw[if_neg (by simp[nr,np]),if_pos (FO.2 ⟨_,rfl⟩),show List.drop 9 (nr++(tx++([93,93,62]++rest)))=tx++([93,93,62]++rest) from zY (by rfl),NI ht,Option.map_some,List.take_left];simp only[List.length_append,List.length_cons,List.length_nil,nr];congr 2;omega
 | comment _ c ht=>
  have e:np++(c++[45,45,62])++rest=np++(c++([45,45]++(62 :: rest))):=by simp
  rw[e];unfold Tk.piece;rw[if_neg (by simp[np]),if_pos (by simp[np])];unfold Tk.skip;rw[if_pos (FO.2 ⟨_,rfl⟩),show List.drop 4 (np++(c++([45,45]++(62 :: rest))))=c++([45,45]++(62 :: rest)) from zY (by rfl)];unfold Tk.comment;rw[NI ht,Option.bind_some,show List.drop (c.length+2) (c++([45,45]++(62 :: rest)))=62 :: rest by rw[←List.append_assoc];exact zY (by simp),if_pos (by simp)];simp only[List.length_append,List.length_cons,List.length_nil,np,Option.map_some];congr 2;omega
 | decl d hd=>
  rw[List.append_assoc];unfold Tk.piece;rw[if_neg (by simp[nu]),if_pos (by simp[nu])];unfold Tk.skip
  have hs:((((nu++(d++rest)).drop 5).head?).map sp).getD false=true:=by
   rw[show List.drop 5 (nu++(d++rest))=d++rest from zY (by rfl)];obtain⟨v,x,e,a,b,⟨b2,v2,h1,h2,h3,rfl⟩,_,_,_,_,rfl⟩:=hd
   cases b2 with
   | nil=>exact absurd rfl h2
   | cons c b2=>
    unfold iy at h1;rw[List.all_cons,Bool.and_eq_true] at h1;simp[h1.1]
  rw[if_neg (by simp[nu,np]),if_neg (by simp[nu,nr]),if_pos ⟨rfl,FO.2 ⟨_,rfl⟩,hs⟩,show List.drop 5 (nu++(d++rest))=d++rest from zY (by rfl),acY hd,Option.map_some];simp only[List.length_append,List.length_cons,List.length_nil,nu];congr 2;omega
 | Bt _ nm y hi nc=>
  have e:60 :: 63 :: (nm++(y++[63,62]))++rest=60 :: 63 :: (nm++(y++([63,62]++rest))):=by simp
  unfold Tk.piece;rw[if_neg (by simp),if_pos (by simp)];unfold Tk.skip;rw[if_neg (by simp[np]),if_neg (by simp[nr]),if_neg (fun hh=>nc hh.1 rest hh.2),if_pos (by simp),e];rw[show (60 :: 63 :: (nm++(y++([63,62]++rest)))).drop 2=nm++(y++([63,62]++rest)) from rfl,agz hi,Option.map_some];simp only[List.length_append,List.length_cons,List.length_nil];congr 2;omega
theorem JO{l:L}(h:fine l=true):Utf.valid l=true:=by
 rw[Utf.NV,decide_eq_true_eq];unfold fine at h;generalize Utf.pieces l=ps at *
 induction ps with
 | nil=>decide
 | cons p ps ih=>
  rw[List.all_cons,Bool.and_eq_true] at h;rw[Utf.DZ _ (fun hn=>by rw[acq _ hn] at h;cases h.1)];exact ih h.2
theorem JN(l:L)(at_:Nat):(Utf.from_ at_ l).all (fun p=>bI p.2)=fine l:=by
 have:=Utf.aeb l 0 at_;rw[Nat.zero_add] at this;rw[this,List.all_map];rfl
theorem Sr{p:L}(h:Utf.valid p=true)(q:L):fine (p++q)=(fine p&&fine q):=by
 have e:fine (p++q)=(Utf.from_ 0 (p++q)).all (fun p=>bI p.2):=rfl;rw[e,Utf.SG h,List.all_append,JN,JN]
theorem uL{p q:L}(h:fine p=true)(k:fine q=true):fine (p++q)=true:=by rw[Sr (JO h),h,k];rfl
theorem adU{p q:L}(h:Utf.valid p=true)(k:fine (p++q)=true):fine p=true∧fine q=true:=by
 rw[Sr h,Bool.and_eq_true] at k;exact k
theorem adS{c:UInt8}(hc:c.toNat<128)(q:L):fine (c :: q)=(bI (c.toNat:Int)&&fine q):=by
 have e:fine (c :: q)=(Utf.from_ 0 (c :: q)).all (fun p=>bI p.2):=rfl;rw[e,Utf.SH hc,List.all_cons,JN]
theorem adV{p q:L}{c:UInt8}(hc:c.toNat<128)(h:fine (p++c :: q)=true):fine p=true∧fine q=true:=by
 obtain⟨h1,h2⟩:=adU (Utf.amB hc (JO h)) h;rw[adS hc,Bool.and_eq_true] at h2;exact⟨h1,h2.2⟩
theorem ahW{at_:Nat}{w:L}{t:Tok}(h:jz at_ w t)(hf:fine w=true){rest:L}(hr:t.kind=2→Lt rest):Tk.one at_ (w++rest)=some t:=by
 unfold Tk.one;rw[aiQ h rest hr,Option.bind_some,h.Sb,Nat.add_sub_cancel_left,List.take_left,if_pos hf]
inductive Row:Nat→L→L→List Tok→Prop
 | nil (at_:Nat) (rest:L):Row at_ [] rest []
 | cons (at_:Nat) (w:L) (t:Tok) (w2 rest:L) (ts:List Tok):jz at_ w t→fine w=true→(t.kind=2→Lt (w2++rest))→Row (at_+w.length) w2 rest ts→Row at_ (w++w2) rest (t :: ts)
end Tk
end
end Go.Proofs.YtnbmfljhbpfilaaGreatDoor
