/- opml.Write. (Region by wip/genOpG.py.) And more. -/
import Derived.Test.YtifiiojchlaghaaGreatDoorOk02
import Derived.Test.YtifiiojchlaghaaGreatDoorOk30
set_option linter.unusedSimpArgs false
set_option maxHeartbeats 8000000
set_option linter.unusedVariables false
namespace Go.Proofs.YtifiiojchlaghaaGreatDoor
section
open Go.RowKit Tk Sx Go.WideShapes

namespace Opm
def c0:L:=[60,111,112,109,108,32,118,101,114,115,105,111,110,61,34,50,46,48,34,62,60,104,101,97,100,47,62,60,98,111,100,121,62]
def c1:L:=[60,111,117,116,108,105,110,101,32,116,101,120,116,61,34]
def c2:L:=[34,32,120,109,108,85,114,108,61,34]
def c3:L:=[34,47,62]
def c4:L:=[60,47,98,111,100,121,62,60,47,111,112,109,108,62]
def one(x:Dcl):L:=c1++Tx.escape true x.ns++c2++Tx.escape true x.pre++c3
theorem one_len{x:Dcl}(h:x.pre.length≤100000∧x.ns.length≤100000):(one x).length≤1300000:=by
 unfold one;have h1:=Tx.escape_len true x.ns;have h2:=Tx.escape_len true x.pre;have h3:c1.length=15:=rfl;have h4:c2.length=10:=rfl;have h5:c3.length=3:=rfl;simp only[List.length_append];omega
theorem flat_len{l:List Dcl}(h:∀x∈l,x.pre.length≤100000∧x.ns.length≤100000)(j:Nat):((l.take j).flatMap one).length≤1300000*l.length:=by
 have h1:∀l:List Dcl,(∀x∈l,x.pre.length≤100000∧x.ns.length≤100000)→(l.flatMap one).length≤1300000*l.length:=by
  intro l
  induction l with
  | nil=>intro _;simp
  | cons x l ih=>
   intro h;rw[List.flatMap_cons,List.length_append,List.length_cons];have:=ih fun y hy=>h y (List.mem_cons_of_mem _ hy);have:=one_len (h x (List.mem_cons_self ..));omega
 have h2:=h1 (l.take j) fun x hx=>h x (List.mem_of_mem_take hx);have h3:(l.take j).length≤l.length:=by rw[List.length_take];omega
 omega
def text(l:List Dcl):L:=c0++l.flatMap one++c4
end Opm
structure PutI(B b X:Nat)(u t acc pc:L)(W0:World)(d:Prop)(W:World):Prop where
 x:Blk W X 35 #[.string (bstr u),.string (bstr t)]
 xb:X≠b
 z:B≤W.heap.size
 pre:¬d→Bx B b acc W
 post:d→Bx B b (acc++pc) W
 t:BlT B b W0 W
theorem PutI.lt{B b X:Nat}{u t acc pc:L}{W0 W:World}{d:Prop}(h:PutI B b X u t acc pc W0 d W):b<W.heap.size:=by
 by_cases hd:d
 ·exact (h.post hd).lt
 exact (h.pre hd).lt
theorem PutI.iff{B b X:Nat}{u t acc pc:L}{W0 W:World}{d d':Prop}(h:PutI B b X u t acc pc W0 d W)(e:d↔d'):PutI B b X u t acc pc W0 d' W:=propext e▸h
theorem PutI.go{B b X:Nat}{u t acc pc:L}{W0 W W':World}{d:Prop}(h:PutI B b X u t acc pc W0 d W)(hb:Below W.heap.size W W'):PutI B b X u t acc pc W0 d W' :=
 ⟨h.x.go hb,h.xb,Nat.le_trans h.z hb.size,fun hd=>(h.pre hd).go hb,fun hd=>(h.post hd).go hb,h.t.trans (BlT.of_below hb)⟩
theorem PutI.put{B b X:Nat}{u t acc pc:L}{W0 W W':World}{d d':Prop}(h:PutI B b X u t acc pc W0 d W)(hd':d')(hb:Bx B b (acc++pc) W')(hk:BlT B b W W'):PutI B b X u t acc pc W0 d' W' :=
 ⟨hk.blk h.x h.xb (by decide),h.xb,Nat.le_trans h.z hk.size,fun hd=>absurd hd' hd,fun _=>hb,h.t.trans hk⟩
theorem PutI.start{B b X:Nat}{u t acc pc:L}{W0 W:World}(hb:Below W0.heap.size W0 W)(hx:Bx B b acc W0)(hX:Blk W0 X 35 #[.string (bstr u),.string (bstr t)])(hne:X≠b)(hz:B≤W0.heap.size):PutI B b X u t acc pc W0 False W :=
 ⟨hX.go hb,hne,Nat.le_trans hz hb.size,fun _=>hx.go hb,fun h=>h.elim,BlT.of_below hb⟩
theorem OWrite_any(l:List Dcl)(A:Option Addr)(c:Nat)(w:World)(hR:Reads w w.heap.size 2 A l.length (dcls l))(hu:∀x∈l,x.pre.length≤100000∧x.ns.length≤100000)(hl:l.length≤1000) :
  Calls Tryz.prog 7 #[.slice A l.length c] w fun e w'=>e=.returned (if Opm.may l=true then .tuple #[.string (bstr (Opm.text l)),.int .i64 0] else .tuple #[.string ⟨#[]⟩,.int .i64 2])∧Below w.heap.size w w':=by
 have HMy:=hide (OMay_any l A c w hR hu (by omega));obtain⟨n,hn⟩:∃n,l.length=n:=⟨_,rfl⟩;have HR:=hide hR;have HU:=hide hu;have Hn:=hide hn;obtain⟨q,hq⟩:∃q,Opm.may l=q:=⟨_,rfl⟩;rw[hq,hn] at HMy;rw[hq];rw[hn] at hl ⊢;clear hR hu hn hq
 go_enter Tryz.func7,Tryz.ntmps7
 go_wp2_with fail
 refine HMy.out.mono ?_;rintro e w1 ⟨rfl,hb1⟩;have HB1:=hide hb1;clear hb1;dsimp only
 cases q with
 | false=>
  go_wp2;go_ret2;exact⟨rfl,HB1.out⟩
 | true=>
  have hz1:=HB1.out.size;have hR0:=Blk.new (w1.alloc (.cells #[.pointer none,.slice none 0 0] 39)) 9 #[.string (bstr Opm.c0)];rw[World.size_alloc] at hR0;have hb0:Below w1.heap.size w1 ((w1.alloc (.cells #[.pointer none,.slice none 0 0] 39)).alloc (.cells #[.string (bstr Opm.c0)] 9)):=(below_alloc w1 _).alloc (by simp) _;have HP0:=hide (show Calls Tryz.prog 14 #[.slice (some ⟨w1.heap.size+1,0,none⟩) 1 1,.pointer (some ⟨w1.heap.size,0,none⟩)] ((w1.alloc (.cells #[.pointer none,.slice none 0 0] 39)).alloc (.cells #[.string (bstr Opm.c0)] 9)) fun e w'=>(∃v,e=.returned v)∧Bx w1.heap.size w1.heap.size Opm.c0 w'∧Below w1.heap.size w1 w' from (wput_any w1.heap.size w1.heap.size (w1.heap.size+1) [] [Opm.c0] _ ((Bx.fresh w1).go (below_alloc _ _)) (by simp;omega) hR0 (by omega) (by simp) (by decide)).mono fun e w' h=>⟨h.1,h.2.1,hb0.trans (h.2.2.below (Nat.le_refl _) hb0.size)⟩);obtain⟨b,hb⟩:∃b,w1.heap.size=b:=⟨_,rfl⟩;have Hb:=hide hb;rw[hb] at HP0 hz1;have hmix:Tryz.prog.follows .mixedOrders=true:=by kernel_rfl
  clear hR0 hb0
  go_wp2_with fail
  clear hb;refine HP0.out.mono ?_;rintro e w2 ⟨⟨v0,rfl⟩,hx2,hb2⟩;have HX2:=hide hx2;have HB2:=hide hb2;have hz2:=hb2.size;clear hx2 hb2 HP0;dsimp only;go_wp2
  go_loopg [7,17,18,19,20,21,22,23,24,25,26,27,28,29,30] n (fun gk v7 v17 v18 v19 v20 v21 v22 v23 v24 v25 v26 v27 v28 v29 v30 wr=>∃j:Nat,v17=.int .i64 (j:Int)∧gk=n-j∧j≤n∧Bx b b (Opm.c0++(l.take j).flatMap Opm.one) wr∧Below b w1 wr)
  case atStart=>exact⟨0,rfl,rfl,by omega,by simpa using HX2.out,HB2.out⟩
  case round=>
   obtain⟨j,rfl,hgk,hj,hx,hbr⟩:=hrel;have Hgk:=hide hgk;have HXr:=hide hx;have HBr:=hide hbr;clear hgk hx hbr
   by_cases hlt:j<n
   ·have hjl:j<l.length:=by rw[Hn.out];exact hlt
    obtain⟨eb,off,rfl,hbB,x0,x1⟩:=(HR.out.below ((HB1.out.trans (HBr.out.mono hz1)))).dcl hjl;obtain⟨hu1,hu2⟩:=HU.out l[j] (List.getElem_mem hjl)
    have hst:(l.take (j+1)).flatMap Opm.one=(l.take j).flatMap Opm.one++Opm.one l[j]:=by
     rw[List.take_add_one,List.getElem?_eq_getElem hjl,List.flatMap_append];simp
    obtain⟨⟨u,t⟩,hxe⟩:∃x,l[j]=x:=⟨_,rfl⟩;rw[hxe] at hst x0 x1 hu1 hu2;dsimp only at x0 x1 hu1 hu2;have hjj:(0:Int)≤j∧(j:Int)<n:=by omega
    have hEl:=Opm.flat_len HU.out j;rw[Hn.out] at hEl;obtain⟨acc,hacc⟩:∃acc,Opm.c0++(l.take j).flatMap Opm.one=acc:=⟨_,rfl⟩;have hcl:acc.length≤2000000000:=by rw[←hacc,List.length_append];have:Opm.c0.length=33:=rfl;omega
    obtain⟨pc,hpc⟩:∃pc,Opm.one ⟨u,t⟩=pc:=⟨_,rfl⟩;have HNx:=hide (show Opm.c0++(l.take (j+1)).flatMap Opm.one=acc++pc by rw[hst,←List.append_assoc,hacc,hpc]);rw[hacc] at HXr;have HEst:=hide (fun W=>escape_any true t W (by omega));have HEsu:=hide (fun W=>escape_any true u W (by omega))
    have HPt:=hide (show ∀(R:Nat) (W:World),Bx b b acc W→b≤W.heap.size→Blk W R 9 #[.string (bstr Opm.c1),.string (bstr (Tx.escape true t)),.string (bstr Opm.c2),.string (bstr (Tx.escape true u)),.string (bstr Opm.c3)]→R≠b→Calls Tryz.prog 14 #[.slice (some ⟨R,0,none⟩) 5 5,.pointer (some ⟨b,0,none⟩)] W fun e w'=>(∃v,e=.returned v)∧Bx b b (acc++pc) w'∧BlT b b W w' from fun R W h1 h2 h3 h4=>by
     have hf:[Opm.c1,Tx.escape true t,Opm.c2,Tx.escape true u,Opm.c3].flatten=pc:=by rw[←hpc];simp[Opm.one]
     have h:=wput_any b b R acc [Opm.c1,Tx.escape true t,Opm.c2,Tx.escape true u,Opm.c3] W h1 h2 h3 h4 (by simp) (by rw[hf,←hpc];have:=Opm.one_len (x:=⟨u,t⟩) ⟨hu1,hu2⟩;omega);rw[hf] at h;exact h)
    have hXw:=Blk.new wr 35 #[.string (bstr u),.string (bstr t)];have hbl:=HXr.out.lt;have hbx:=HXr.out.go (below_alloc wr (.cells #[.string (bstr u),.string (bstr t)] 35));have hbw:=HBr.out.alloc (Nat.le_of_lt hbl) (.cells #[.string (bstr u),.string (bstr t)] 35);clear hst hxe hacc hpc hEl HXr;go_wp2;obtain⟨X,hX⟩:∃X,wr.heap.size=X:=⟨_,rfl⟩;obtain⟨Wr,hWr⟩:∃W,wr.alloc (.cells #[.string (bstr u),.string (bstr t)] 35)=W:=⟨_,rfl⟩;have hz:b≤Wr.heap.size:=by rw[←hWr,World.size_alloc];omega
    rw[hWr,hX] at hXw;rw[hWr] at hbx hbw ⊢;rw[hX] at hbl ⊢;have hXb:X≠b:=by omega
    have HX:=hide hXw;have HBx:=hide hbx;have HBw:=hide hbw;clear hWr hX hXw hbx hbw x0 x1 HBr
    refine (wpIn_wide (n:=1)).1 (wpIn_region_inv hmix (by kernel_rfl) (fun L a W=>∃u0 u1 u2 u3 u4 u5 u6 u7 u8:Value,a=⟨List.toArray ((.slice (some ⟨eb,off,none⟩) n c) :: undef :: (.string ⟨#[]⟩) :: (.int .i64 0) :: (.pointer (some ⟨b,0,none⟩)) :: (.func (.func 14) #[] #[.pointer (some ⟨b,0,none⟩)]) :: undef :: (.pointer (some ⟨X,0,none⟩)) :: (.slice (some ⟨eb,off,none⟩) n c) :: (.bool true) :: (.bool false) :: (.func (.func 14) #[] #[.pointer (some ⟨b,0,none⟩)]) :: (.func (.func 14) #[] #[.pointer (some ⟨b,0,none⟩)]) :: (.slice (some ⟨b+1,0,none⟩) 1 1) :: v0 :: (.slice (some ⟨eb,off,none⟩) n c) :: (.int .i64 (n:Int)) :: (.int .i64 (j:Int)) :: (.bool true) :: (.pointer (some ⟨eb,off+j*2,none⟩)) :: (.agg #[.string (bstr u),.string (bstr t)]) :: u0 :: u1 :: u2 :: u3 :: u4 :: u5 :: u6 :: u7 :: u8 :: u30 :: undef :: undef :: undef :: undef :: []),[]⟩∧PutI b b X u t acc pc Wr (L 8) W∧(L 0→u0=.func (.func 14) #[] #[.pointer (some ⟨b,0,none⟩)])∧(L 1→u1=.pointer (some ⟨X,1,none⟩))∧(L 2→u2=.string (bstr t))∧(L 3→u3=.string (bstr (Tx.escape true t)))∧(L 4→u4=.pointer (some ⟨X,0,none⟩))∧(L 5→u5=.string (bstr u))∧(L 6→u6=.string (bstr (Tx.escape true u)))∧(L 7→∃R,u7=.slice (some ⟨R,0,none⟩) 5 5∧(L 8∨(Blk W R 9 #[.string (bstr Opm.c1),.string (bstr (Tx.escape true t)),.string (bstr Opm.c2),.string (bstr (Tx.escape true u)),.string (bstr Opm.c3)]∧R≠b)))) ?h0 ?hs ?_)
    case h0=>exact⟨_,_,_,_,_,_,_,_,_,rfl,(PutI.start (by have:=Below.refl Wr.heap.size Wr;exact below_drewN this 1) HBx.out HX.out hXb hz),fun h=>h.elim,fun h=>h.elim,fun h=>h.elim,fun h=>h.elim,fun h=>h.elim,fun h=>h.elim,fun h=>h.elim,fun h=>h.elim⟩
    case hs=>
     rintro L a W i ⟨u0,u1,u2,u3,u4,u5,u6,u7,u8,rfl,hS,p0,p1,p2,p3,p4,p5,p6,p7⟩ hi hnl hdep hbk;have hi2:i<9:=hi;clear hi;have hcs:i=0∨i=1∨i=2∨i=3∨i=4∨i=5∨i=6∨i=7∨i=8:=by omega
     rcases hcs with rfl|rfl|rfl|rfl|rfl|rfl|rfl|rfl|rfl
     ·clear hi2;refine in_op (i:=0) rfl (by kernel_rfl) (fun K hK=>?_);go_simp;refine hK _ _ ?_;(try simp only[Act.put,List.setIfInBounds_toArray,List.set_cons_zero,List.set_cons_succ]);exact⟨_,_,_,_,_,_,_,_,_,rfl,(hS.iff ⟨.inl,fun h=>h.elim id fun e=>by cases e⟩),fun _=>rfl,orL p1 (by decide),orL p2 (by decide),orL p3 (by decide),orL p4 (by decide),orL p5 (by decide),orL p6 (by decide),orL (fun h=>by obtain⟨R,e,h1⟩:=p7 h;exact⟨R,e,h1.elim (fun h=>.inl (.inl h)) fun h=>.inr ⟨h.1.go (Below.refl W.heap.size W),h.2⟩⟩) (by decide)⟩
     ·clear hi2;refine in_op (i:=1) rfl (by kernel_rfl) (fun K hK=>?_);go_simp;refine hK _ _ ?_;(try simp only[Act.put,List.setIfInBounds_toArray,List.set_cons_zero,List.set_cons_succ]);exact⟨_,_,_,_,_,_,_,_,_,rfl,(hS.iff ⟨.inl,fun h=>h.elim id fun e=>by cases e⟩),orL p0 (by decide),fun _=>rfl,orL p2 (by decide),orL p3 (by decide),orL p4 (by decide),orL p5 (by decide),orL p6 (by decide),orL (fun h=>by obtain⟨R,e,h1⟩:=p7 h;exact⟨R,e,h1.elim (fun h=>.inl (.inl h)) fun h=>.inr ⟨h.1.go (Below.refl W.heap.size W),h.2⟩⟩) (by decide)⟩
     ·clear hi2;have q1:=p1 (hdep 1 (by kernel_rfl));subst q1;have k1:=hS.x.cell 1;refine in_op (i:=2) rfl (by kernel_rfl) (fun K hK=>?_);go_simp;refine hK _ _ ?_;(try simp only[Act.put,List.setIfInBounds_toArray,List.set_cons_zero,List.set_cons_succ]);exact⟨_,_,_,_,_,_,_,_,_,rfl,(hS.iff ⟨.inl,fun h=>h.elim id fun e=>by cases e⟩),orL p0 (by decide),orL p1 (by decide),fun _=>rfl,orL p3 (by decide),orL p4 (by decide),orL p5 (by decide),orL p6 (by decide),orL (fun h=>by obtain⟨R,e,h1⟩:=p7 h;exact⟨R,e,h1.elim (fun h=>.inl (.inl h)) fun h=>.inr ⟨h.1.go (Below.refl W.heap.size W),h.2⟩⟩) (by decide)⟩
     ·clear hi2;have q2:=p2 (hdep 2 (by kernel_rfl));subst q2;refine in_op (i:=3) rfl (by kernel_rfl) (fun K hK=>?_);go_simp;refine⟨trivial,(callsIn_wide.2 (HEst.out W)).mono ?_⟩;rintro e w3 ⟨rfl,hb3⟩;dsimp only;refine hK _ _ ?_;(try simp only[Act.put,List.setIfInBounds_toArray,List.set_cons_zero,List.set_cons_succ]);exact⟨_,_,_,_,_,_,_,_,_,rfl,((hS.go hb3).iff ⟨.inl,fun h=>h.elim id fun e=>by cases e⟩),orL p0 (by decide),orL p1 (by decide),orL p2 (by decide),fun _=>rfl,orL p4 (by decide),orL p5 (by decide),orL p6 (by decide),orL (fun h=>by obtain⟨R,e,h1⟩:=p7 h;exact⟨R,e,h1.elim (fun h=>.inl (.inl h)) fun h=>.inr ⟨h.1.go hb3,h.2⟩⟩) (by decide)⟩
     ·clear hi2;refine in_op (i:=4) rfl (by kernel_rfl) (fun K hK=>?_);go_simp;refine hK _ _ ?_;(try simp only[Act.put,List.setIfInBounds_toArray,List.set_cons_zero,List.set_cons_succ]);exact⟨_,_,_,_,_,_,_,_,_,rfl,(hS.iff ⟨.inl,fun h=>h.elim id fun e=>by cases e⟩),orL p0 (by decide),orL p1 (by decide),orL p2 (by decide),orL p3 (by decide),fun _=>rfl,orL p5 (by decide),orL p6 (by decide),orL (fun h=>by obtain⟨R,e,h1⟩:=p7 h;exact⟨R,e,h1.elim (fun h=>.inl (.inl h)) fun h=>.inr ⟨h.1.go (Below.refl W.heap.size W),h.2⟩⟩) (by decide)⟩
     ·clear hi2;have q4:=p4 (hdep 4 (by kernel_rfl));subst q4;have k0:=hS.x.cell 0;refine in_op (i:=5) rfl (by kernel_rfl) (fun K hK=>?_);go_simp;refine hK _ _ ?_;(try simp only[Act.put,List.setIfInBounds_toArray,List.set_cons_zero,List.set_cons_succ]);exact⟨_,_,_,_,_,_,_,_,_,rfl,(hS.iff ⟨.inl,fun h=>h.elim id fun e=>by cases e⟩),orL p0 (by decide),orL p1 (by decide),orL p2 (by decide),orL p3 (by decide),orL p4 (by decide),fun _=>rfl,orL p6 (by decide),orL (fun h=>by obtain⟨R,e,h1⟩:=p7 h;exact⟨R,e,h1.elim (fun h=>.inl (.inl h)) fun h=>.inr ⟨h.1.go (Below.refl W.heap.size W),h.2⟩⟩) (by decide)⟩
     ·clear hi2;have q5:=p5 (hdep 5 (by kernel_rfl));subst q5;refine in_op (i:=6) rfl (by kernel_rfl) (fun K hK=>?_);go_simp;refine⟨trivial,(callsIn_wide.2 (HEsu.out W)).mono ?_⟩;rintro e w3 ⟨rfl,hb3⟩;dsimp only;refine hK _ _ ?_;(try simp only[Act.put,List.setIfInBounds_toArray,List.set_cons_zero,List.set_cons_succ]);exact⟨_,_,_,_,_,_,_,_,_,rfl,((hS.go hb3).iff ⟨.inl,fun h=>h.elim id fun e=>by cases e⟩),orL p0 (by decide),orL p1 (by decide),orL p2 (by decide),orL p3 (by decide),orL p4 (by decide),orL p5 (by decide),fun _=>rfl,orL (fun h=>by obtain⟨R,e,h1⟩:=p7 h;exact⟨R,e,h1.elim (fun h=>.inl (.inl h)) fun h=>.inr ⟨h.1.go hb3,h.2⟩⟩) (by decide)⟩
     ·clear hi2;have q3:=p3 (hdep 3 (by kernel_rfl));have q6:=p6 (hdep 6 (by kernel_rfl));subst q3;subst q6;refine in_op (i:=7) rfl (by kernel_rfl) (fun K hK=>?_);go_simp;refine hK _ _ ?_;(try simp only[Act.put,List.setIfInBounds_toArray,List.set_cons_zero,List.set_cons_succ]);exact⟨_,_,_,_,_,_,_,_,_,rfl,((hS.go (below_alloc W _)).iff ⟨.inl,fun h=>h.elim id fun e=>by cases e⟩),orL p0 (by decide),orL p1 (by decide),orL p2 (by decide),orL p3 (by decide),orL p4 (by decide),orL p5 (by decide),orL p6 (by decide),fun _=>⟨W.heap.size,rfl,.inr ⟨Blk.new W _ _,by have:=hS.lt;omega⟩⟩⟩
     clear hi2;have q0:=p0 (hdep 0 (by kernel_rfl));have q7:=p7 (hdep 7 (by kernel_rfl));subst q0;obtain⟨R7,rfl,hR7⟩:=q7;refine in_op (i:=8) rfl (by kernel_rfl) (fun K hK=>?_);go_simp;refine⟨trivial,(callsIn_wide.2 (HPt.out R7 W (hS.pre hnl) hS.z (hR7.resolve_left hnl).1 (hR7.resolve_left hnl).2)).mono ?_⟩;rintro e w3 ⟨⟨v3,rfl⟩,hb3,hk3⟩;dsimp only;refine hK _ _ ?_;(try simp only[Act.put,List.setIfInBounds_toArray,List.set_cons_zero,List.set_cons_succ]);exact⟨_,_,_,_,_,_,_,_,_,rfl,hS.put (by simp) hb3 hk3,orL p0 (by decide),orL p1 (by decide),orL p2 (by decide),orL p3 (by decide),orL p4 (by decide),orL p5 (by decide),orL p6 (by decide),orL (fun h=>⟨R7,rfl,.inl (by simp)⟩) (by decide)⟩
    rintro L a w8 ⟨u0,u1,u2,u3,u4,u5,u6,u7,u8,rfl,hS,p0,p1,p2,p3,p4,p5,p6,p7⟩ hall;have q0:=p0 (hall 0 (by decide));have q1:=p1 (hall 1 (by decide));have q2:=p2 (hall 2 (by decide));have q3:=p3 (hall 3 (by decide));have q4:=p4 (hall 4 (by decide));have q5:=p5 (hall 5 (by decide));have q6:=p6 (hall 6 (by decide));have q7:=p7 (hall 7 (by decide));have h8:=hall 8 (by decide);clear p0 p1 p2 p3 p4 p5 p6 p7 hall;subst q0;subst q1;subst q2;subst q3;subst q4;subst q5;subst q6;obtain⟨R7,rfl,hR7⟩:=q7;have HBx8:=hide (show Bx b b (Opm.c0++(l.take (j+1)).flatMap Opm.one) w8 by rw[HNx.out];exact hS.post h8);have HBw8:=hide (HBw.out.trans (hS.t.below (Nat.le_refl _) hz));clear hS h8 HEst HEsu HPt hR7;go_wp2
    go_roundg (n-(j+1))
    case measure=>have:=Hgk.out;omega
    case rel=>exact⟨j+1,by first|rfl|go_num,rfl,by omega,HBx8.out,HBw8.out⟩
   have hje:j=n:=by omega
   have hlt2:¬(j:Int)<(n:Int):=by omega
   have hx:=HXr.out;rw[hje,←Hn.out,List.take_length] at hx;have hEl:=Opm.flat_len HU.out l.length;rw[List.take_length,Hn.out] at hEl;have hR4:=Blk.new wr 9 #[.string (bstr Opm.c4)];have hbl:=hx.lt;have hzr:w.heap.size≤wr.heap.size:=by omega
   have hb4:=HBr.out.alloc (Nat.le_of_lt hbl) (.cells #[.string (bstr Opm.c4)] 9)
   have HP4:=hide (show Calls Tryz.prog 14 #[.slice (some ⟨wr.heap.size,0,none⟩) 1 1,.pointer (some ⟨b,0,none⟩)] (wr.alloc (.cells #[.string (bstr Opm.c4)] 9)) fun e w'=>(∃v,e=.returned v)∧Bx b b (Opm.text l) w'∧Below b w1 w'∧b≤w'.heap.size from (wput_any b b wr.heap.size _ [Opm.c4] _ (hx.go (below_alloc _ _)) (by simp;omega) hR4 (by omega) (by simp) (by
    have h1:Opm.c0.length=33:=rfl;have h2:[Opm.c4].flatten.length=14:=rfl;rw[h2,List.length_append]
    omega)).mono fun e w' h=>⟨h.1,by have:=h.2.1;simpa[Opm.text] using this,hb4.trans (h.2.2.below (Nat.le_refl _) (by simp;omega)),Nat.le_trans (by simp;omega) h.2.2.size⟩)
   clear hx hEl hR4 hb4 HXr HBr hje
   go_wp2_with fail
   refine HP4.out.mono ?_;rintro e w5 ⟨⟨v5,rfl⟩,hx5,hb5,hz5⟩;have HS5:=hide (hx5.str hz5);have HB5:=hide hb5;clear hx5 HP4;dsimp only
   go_wp2_with fail
   refine HS5.out.mono ?_;rintro e w6 ⟨rfl,hb6⟩;have HB6:=hide (HB1.out.trans ((HB5.out.trans hb6).mono hz1));clear hb6;dsimp only;go_wp2;go_ret2;exact⟨rfl,HB6.out⟩
end
section
namespace Tk

def Sps(b:L):Prop:=b.all sp=true
theorem nsp_word(l:L):∃b r,l=b++r∧Sps b∧nsp l=b.length∧(∀c t,r=c :: t→sp c=false):=by
 refine⟨l.takeWhile sp,l.dropWhile sp,(List.takeWhile_append_dropWhile).symm,?_,rfl,?_⟩
 ·unfold Sps
  exact List.all_eq_true.2 fun x hx=>by
   induction l with
   | nil=>cases hx
   | cons c l ih=>
    rw[List.takeWhile_cons] at hx
    split at hx
    ·rename_i hc
     rcases List.mem_cons.1 hx with rfl|hx
     ·exact hc
     exact ih hx
    cases hx
 intro c t h
 induction l with
 | nil=>cases h
 | cons d l ih=>
  rw[List.dropWhile_cons] at h
  split at h
  ·exact ih h
  rename_i hd
  cases h
  simpa using hd
theorem nsp_of{b r:L}(hb:Sps b)(hr:∀c t,r=c :: t→sp c=false):nsp (b++r)=b.length:=by
 unfold nsp
 induction b with
 | nil=>
  cases r with
  | nil=>rfl
  | cons c t=>rw[List.nil_append,List.takeWhile_cons,hr c t rfl];rfl
 | cons c b ih=>
  unfold Sps at hb;rw[List.all_cons,Bool.and_eq_true] at hb;rw[List.cons_append,List.takeWhile_cons,hb.1];show (c :: (b++r).takeWhile sp).length=_;rw[List.length_cons,List.length_cons,ih hb.2]
theorem till_one{q:UInt8}{r:L}{k:Nat}(h:till [q] r=some k):∃x rest,r=x++q :: rest∧q∉x∧k=x.length:=by
 rw[till_iff] at h;obtain⟨h1,h2,h3⟩:=index_first' h;have h4:=Lib.occAt_head (t:=[]) rfl h1;obtain⟨h5,h6⟩:=List.getElem?_eq_some_iff.1 h4;refine⟨r.take k,r.drop (k+1),?_,?_,?_⟩
 ·rw[←h6,←List.drop_eq_getElem_cons,List.take_append_drop]
 ·intro hm;obtain⟨j,hj,e⟩:=List.getElem_of_mem hm;rw[List.length_take] at hj;have h7:=h3 j (by omega);rw[List.getElem_take] at e;unfold Lib.occAt at h7;rw[List.drop_eq_getElem_cons (by omega),e] at h7;simp at h7
 rw[List.length_take];omega
theorem till_one_of{q:UInt8}{x:L}(hq:q∉x)(rest:L):till [q] (x++q :: rest)=some x.length:=by
 rw[till_iff];refine Lib.index_first (by simp) ?_ fun j hj=>?_
 ·unfold Lib.occAt;rw[List.drop_left];simp
 unfold Lib.occAt;rw[List.drop_append_of_le_length (by omega),List.drop_eq_getElem_cons hj,List.cons_append];have:x[j]≠q:=fun e=>hq (e▸List.getElem_mem hj);rw[Bool.eq_false_iff];intro h;obtain⟨r,h⟩:=List.isPrefixOf_iff_prefix.1 h;exact this (List.cons.inj h).1.symm
theorem till_one_none{q:UInt8}{r:L}(h:till [q] r=none):q∉r:=by
 intro hm;obtain⟨s,t,e,hs⟩:=List.eq_append_cons_of_mem hm;rw[e,till_one_of hs] at h;cases h
def EqW(w x:L):Prop:=∃b1 b2 q,Sps b1∧Sps b2∧(q=34∨q=39)∧q∉x∧w=b1++61 :: (b2++q :: (x++[q]))
theorem quoted_word{l x:L}{n:Nat}(h:quoted l=some (x,n)):∃q rest,(q=34∨q=39)∧q∉x∧l=q :: (x++q :: rest)∧n=x.length+2:=by
 cases l with
 | nil=>cases h
 | cons q r=>
  simp only[quoted] at h
  split at h
  ·rename_i hq
   cases ht:till [q] r with
   | none=>rw[ht] at h;cases h
   | some k=>
    rw[ht] at h;simp only[Option.map_some,Option.some.injEq,Prod.mk.injEq] at h;obtain⟨y,rest,rfl,h2,rfl⟩:=till_one ht;rw[List.take_left] at h;obtain⟨rfl,rfl⟩:=h;exact⟨q,rest,hq,h2,rfl,rfl⟩
  cases h
theorem quoted_of{q:UInt8}{x:L}(hq:q=34∨q=39)(hx:q∉x)(rest:L):quoted (q :: (x++q :: rest))=some (x,x.length+2):=by
 simp only[quoted];rw[if_pos hq,till_one_of hx,Option.map_some,List.take_left]
theorem eqv_word{l x:L}{n:Nat}(h:eqv l=some (x,n)):∃w rest,l=w++rest∧n=w.length∧EqW w x:=by
 obtain⟨b1,r1,rfl,hb1,hn1,-⟩:=nsp_word l;unfold eqv at h;rw[hn1,List.drop_left] at h
 cases r1 with
 | nil=>cases h
 | cons c r=>
  simp only at h
  split at h
  ·rename_i hc
   subst hc;obtain⟨b2,r2,rfl,hb2,hn2,-⟩:=nsp_word r;rw[hn2,List.drop_left] at h
   cases hq:quoted r2 with
   | none=>rw[hq] at h;cases h
   | some y=>
    obtain⟨y,m⟩:=y;rw[hq] at h;simp only[Option.map_some,Option.some.injEq,Prod.mk.injEq] at h;obtain⟨rfl,rfl⟩:=h;obtain⟨q,rest,h1,h2,rfl,rfl⟩:=quoted_word hq;refine⟨b1++61 :: (b2++q :: (y++[q])),rest,by simp,?_,b1,b2,q,hb1,hb2,h1,h2,rfl⟩;simp only[List.length_append,List.length_cons,List.length_nil];omega
  cases h
theorem q_nsp{q:UInt8}(h:q=34∨q=39):sp q=false:=by rcases h with rfl|rfl<;>rfl
theorem head_eq{α:Type}{c d:α}{s t:List α}(h:c :: s=d :: t):c=d:=by cases h;rfl
theorem eqv_of{w x:L}(h:EqW w x)(rest:L):eqv (w++rest)=some (x,w.length):=by
 obtain⟨b1,b2,q,hb1,hb2,hq,hx,rfl⟩:=h;have e:b1++61 :: (b2++q :: (x++[q]))++rest=b1++61 :: (b2++q :: (x++q :: rest)):=by simp
 rw[e];unfold eqv;rw[nsp_of hb1 (fun c t h=>by rw[←head_eq h];rfl),List.drop_left];simp only[if_true];rw[nsp_of hb2 (fun c t h=>by rw[←head_eq h];exact q_nsp hq),List.drop_left,quoted_of hq hx];simp only[Option.map_some,List.length_append,List.length_cons,List.length_nil];congr 2;omega
def PartW(name w x:L):Prop:=∃b v,Sps b∧b≠[]∧EqW v x∧w=b++name++v
theorem pfx_iff{p l:L}:p.isPrefixOf l=true↔∃r,l=p++r:=by
 rw[List.isPrefixOf_iff_prefix];exact⟨fun⟨r,h⟩=>⟨r,h.symm⟩,fun⟨r,h⟩=>⟨r,h.symm⟩⟩
theorem part_word{name l x:L}{n:Nat}(h:part name l=some (x,n)):∃w rest,l=w++rest∧n=w.length∧PartW name w x:=by
 obtain⟨b,r,rfl,hb,hn,-⟩:=nsp_word l;unfold part at h;rw[hn,List.drop_left] at h
 split at h
 ·cases h
 rename_i h0
 split at h
 ·rename_i hp
  obtain⟨r,rfl⟩:=pfx_iff.1 hp;rw[show (b++(name++r)).drop (b.length+name.length)=r by rw[←List.append_assoc,←List.length_append,List.drop_left]] at h
  cases he:eqv r with
  | none=>rw[he] at h;cases h
  | some y=>
   obtain⟨y,m⟩:=y;rw[he] at h;simp only[Option.map_some,Option.some.injEq,Prod.mk.injEq] at h;obtain⟨rfl,rfl⟩:=h;obtain⟨v,rest,rfl,rfl,hv⟩:=eqv_word he;exact⟨b++name++v,rest,by simp,by simp;omega,b,v,hb,by rintro rfl;exact h0 rfl,hv,rfl⟩
 cases h
theorem part_of{name w x:L}{d:UInt8}{t:L}(hn:name=d :: t)(hd:sp d=false)(h:PartW name w x)(rest:L):part name (w++rest)=some (x,w.length):=by
 obtain⟨b,v,hb,h0,hv,rfl⟩:=h;have e:b++name++v++rest=b++(name++(v++rest)):=by simp
 rw[e];unfold part;rw[nsp_of hb (fun c s h=>by rw[hn] at h;rw[←head_eq h];exact hd),List.drop_left,if_neg (by intro h;exact h0 (List.eq_nil_of_length_eq_zero h)),if_pos (pfx_iff.2 ⟨_,rfl⟩)];rw[show (b++(name++(v++rest))).drop (b.length+name.length)=v++rest by rw[←List.append_assoc,←List.length_append,List.drop_left],eqv_of hv];simp only[Option.map_some,List.length_append]
theorem part_off{name b r:L}{c d:UInt8}{t:L}(hn:name=d :: t)(hb:Sps b)(hc:sp c=false)(hcd:d≠c):part name (b++c :: r)=none:=by
 unfold part;rw[nsp_of hb (fun e s h=>by rw[←head_eq h];exact hc),List.drop_left];split
 ·rfl
 rw[if_neg];rw[hn];simp;exact fun e=>absurd e hcd
def OptW(name:L)(may:L→Bool)(w:L):Prop:=w=[]∨∃x,PartW name w x∧may x=true
theorem opt_word{name l:L}{may:L→Bool}{n:Nat}(h:opt name may l=some n):∃w rest,l=w++rest∧n=w.length∧OptW name may w:=by
 unfold opt at h
 cases hp:part name l with
 | none=>rw[hp] at h;cases h;exact⟨[],l,rfl,rfl,.inl rfl⟩
 | some x=>
  rw[hp] at h;simp only at h
  split at h
  ·rename_i hm
   obtain⟨w,rest,h1,h2,h3⟩:=part_word (x:=x.1) (n:=x.2) hp;cases h;exact⟨w,rest,h1,h2,.inr ⟨_,h3,hm⟩⟩
  cases h
theorem opt_of{name w:L}{may:L→Bool}{d:UInt8}{t:L}(hn:name=d :: t)(hd:sp d=false)(h:OptW name may w){rest b r:L}{c:UInt8}(hr:rest=b++c :: r)(hb:Sps b)(hc:sp c=false)(hcd:d≠c) :
  opt name may (w++rest)=some w.length:=by
 unfold opt
 rcases h with rfl|⟨x,hp,hm⟩
 ·rw[List.nil_append,hr,part_off hn hb hc hcd];rfl
 rw[part_of hn hd hp];simp only;rw[if_pos hm]
def DeclW(w:L):Prop:=∃v x e a b,PartW sVersion v x∧version x=true∧OptW sEncoding encoding e∧OptW sAlone alone a∧Sps b∧w=v++(e++(a++(b++[63,62])))
theorem decl_word{l:L}{n:Nat}(h:decl l=some n):∃w rest,l=w++rest∧n=w.length∧DeclW w:=by
 unfold decl at h
 cases hv:part sVersion l with
 | none=>rw[hv] at h;cases h
 | some x=>
  obtain⟨x,m⟩:=x;obtain⟨v,r1,rfl,rfl,hpv⟩:=part_word hv;rw[hv] at h;simp only[Option.bind_some] at h
  split at h
  ·rename_i hx
   rw[List.drop_left] at h
   cases he:opt sEncoding encoding r1 with
   | none=>rw[he] at h;cases h
   | some m=>
    obtain⟨e,r2,rfl,rfl,hoe⟩:=opt_word he;rw[he] at h;simp only[Option.bind_some] at h;rw[show (v++(e++r2)).drop (v.length+e.length)=r2 by rw[←List.append_assoc,←List.length_append,List.drop_left]] at h
    cases ha:opt sAlone alone r2 with
    | none=>rw[ha] at h;cases h
    | some m=>
     obtain⟨a,r3,rfl,rfl,hoa⟩:=opt_word ha;rw[ha] at h;simp only[Option.bind_some] at h;rw[show (v++(e++(a++r3))).drop (v.length+e.length+a.length)=r3 by rw[←List.append_assoc,←List.append_assoc,←List.length_append,←List.length_append,List.drop_left]] at h;obtain⟨b,r4,rfl,hb,hn,-⟩:=nsp_word r3;rw[hn,List.drop_left] at h
     split at h
     ·rename_i hp
      obtain⟨r5,rfl⟩:=pfx_iff.1 hp;cases h;refine⟨v++(e++(a++(b++[63,62]))),r5,by simp,?_,v,x,e,a,b,hpv,hx,hoe,hoa,hb,rfl⟩;simp only[List.length_append,List.length_cons,List.length_nil];omega
     cases h
  cases h
theorem opt_front{name w:L}{may:L→Bool}{d:UInt8}{t:L}(hn:name=d :: t)(hd:sp d=false)(h:OptW name may w){b r:L}{c:UInt8}(hb:Sps b)(hc:sp c=false) :
  ∃b' c' r',w++(b++c :: r)=b'++c' :: r'∧Sps b'∧sp c'=false∧(c'=c∨c'=d):=by
 rcases h with rfl|⟨x,⟨b',v,h1,h2,h3,rfl⟩,_⟩
 ·exact⟨b,c,r,rfl,hb,hc,.inl rfl⟩
 exact⟨b',d,t++v++(b++c :: r),by rw[hn];simp,h1,hd,.inr rfl⟩
theorem decl_of{w:L}(h:DeclW w)(rest:L):decl (w++rest)=some w.length:=by
 obtain⟨v,x,e,a,b,hpv,hx,hoe,hoa,hb,rfl⟩:=h;have e0:v++(e++(a++(b++[63,62])))++rest=v++(e++(a++(b++63 :: (62 :: rest)))):=by simp
 rw[e0];obtain⟨b',c',r',h1,h2,h3,h4⟩:=opt_front (r:=62 :: rest) (show sAlone=115 :: [116,97,110,100,97,108,111,110,101] from rfl) rfl hoa hb (c:=63) rfl;unfold decl;rw[part_of (show sVersion=118 :: [101,114,115,105,111,110] from rfl) rfl hpv,Option.bind_some];simp only;rw[if_pos hx,List.drop_left,opt_of (show sEncoding=101 :: [110,99,111,100,105,110,103] from rfl) rfl hoe h1 h2 h3 (by rcases h4 with rfl|rfl<;>decide),Option.bind_some];rw[show (v++(e++(a++(b++63 :: (62 :: rest))))).drop (v.length+e.length)=a++(b++63 :: (62 :: rest)) by rw[←List.append_assoc,←List.length_append,List.drop_left]];rw[opt_of (show sAlone=115 :: [116,97,110,100,97,108,111,110,101] from rfl) rfl hoa rfl hb (c:=63) rfl (by decide),Option.bind_some];rw[show (v++(e++(a++(b++63 :: (62 :: rest))))).drop (v.length+e.length+a.length)=b++63 :: (62 :: rest) by rw[←List.append_assoc,←List.append_assoc,←List.length_append,←List.length_append,List.drop_left]];rw[nsp_of hb (fun c s h=>by rw[←head_eq h];rfl),List.drop_left,if_pos (by simp)];simp only[List.length_append,List.length_cons,List.length_nil];congr 1;omega
theorem name_head{p t:L}{c:UInt8}(h:Name p)(hp:p=c :: t)(hc:c.toNat<128):firstOk (c.toNat:Int)=true:=by
 have:=h.2 (0,(c.toNat:Int)) (by rw[hp,Utf.from_ascii hc];exact List.mem_cons_self ..);exact this
theorem name_not{p t:L}{c d:UInt8}(h:Name p)(hp:p=c :: t)(hd:d.toNat<128)(hf:firstOk (d.toNat:Int)=false):c≠d:=by
 rintro rfl;rw[name_head h hp hd] at hf;cases hf
theorem name_nsp{p t:L}{c:UInt8}(h:Name p)(hp:p=c :: t):sp c=false:=by
 unfold sp;have e:∀d:UInt8,d.toNat<128→firstOk (d.toNat:Int)=false→(c==d)=false:=fun d h1 h2=>by rw[beq_eq_false_iff_ne];exact name_not h hp h1 h2
 rw[e 32 (by decide) (by decide),e 9 (by decide) (by decide),e 10 (by decide) (by decide),e 13 (by decide) (by decide)];rfl
def Stops(c:UInt8):Prop:=c.toNat<128∧∀n,n≠0→nameOk n (c.toNat:Int)=false
theorem stops_of{c:UInt8}(h:c.toNat<128)(h2:(furtherOk (c.toNat:Int)||decide ((c.toNat:Int)=58))=false):Stops c:=⟨h,fun n hn=>by unfold nameOk;rw[if_neg hn];exact h2⟩
theorem stops_sp{c:UInt8}(h:sp c=true):Stops c:=by
 unfold sp at h;simp only[Bool.or_eq_true,beq_iff_eq] at h
 rcases h with ((rfl|rfl) | rfl) | rfl<;>exact stops_of (by decide) (by decide)
theorem stops61:Stops 61:=stops_of (by decide) (by decide)
theorem stops62:Stops 62:=stops_of (by decide) (by decide)
theorem stops47:Stops 47:=stops_of (by decide) (by decide)
theorem stops63:Stops 63:=stops_of (by decide) (by decide)
theorem take_word{p q:L}{c:UInt8}(h:Name p)(h0:p≠[])(hc:Stops c):take (p++c :: q)=p.length :=
 take_of h (.inr (by rw[Utf.piece_ascii hc.1];exact hc.2 _ fun e=>h0 (List.eq_nil_of_length_eq_zero e)))
theorem sps_front{b r:L}{c:UInt8}(hb:Sps b)(hc:Stops c):∃d t,b++c :: r=d :: t∧Stops d:=by
 cases b with
 | nil=>exact⟨c,r,rfl,hc⟩
 | cons d b=>
  unfold Sps at hb;rw[List.all_cons,Bool.and_eq_true] at hb;exact⟨d,b++c :: r,rfl,stops_sp hb.1⟩
theorem eqw_front{w x:L}(h:EqW w x)(rest:L):∃d t,w++rest=d :: t∧Stops d:=by
 obtain⟨b1,b2,q,hb1,_,_,_,rfl⟩:=h;have:=sps_front (r:=b2++q :: (x++[q])++rest) hb1 stops61
 simpa using this
inductive AttrsW:Nat→L→List At→Bool→Prop
 | two (off:Nat) (b:L):Sps b→AttrsW off (b++[47,62]) [] true
 | one (off:Nat) (b:L):Sps b→AttrsW off (b++[62]) [] false
 | more (off:Nat) (b nm v x w:L) (as_:List At) (e:Bool):Sps b→b≠[]→Name nm→nm≠[]→EqW v x→(60:UInt8)∉x→AttrsW (off+b.length+nm.length+v.length) w as_ e→
   AttrsW off (b++(nm++(v++w))) (⟨nm,x,off+b.length⟩ :: as_) e
theorem attrs_word:∀(k off:Nat) (l:L) (as_:List At) (e:Bool) (off':Nat),attrs k off l=some (as_,e,off')→∃w rest,l=w++rest∧off'=off+w.length∧AttrsW off w as_ e
 | 0,_,_,_,_,_,h=>by cases h
 | k+1,off,l,as_,e,off',h=>by
  obtain⟨b,r,rfl,hb,hn,hr⟩:=nsp_word l;unfold attrs at h;rw[hn,List.drop_left] at h
  split at h
  ·rename_i hp
   obtain⟨r,rfl⟩:=pfx_iff.1 hp;cases h;exact⟨b++[47,62],r,by simp,by simp;omega,.two off b hb⟩
  split at h
  ·rename_i hp
   obtain⟨r,rfl⟩:=pfx_iff.1 hp;cases h;exact⟨b++[62],r,by simp,by simp;omega,.one off b hb⟩
  split at h
  ·cases h
  rename_i h0
  simp only at h
  split at h
  ·cases h
  rename_i hm
  obtain⟨t1,t2,-⟩:=take_spec r
  cases he:eqv (r.drop (take r)) with
  | none=>rw[he] at h;cases h
  | some x=>
   obtain⟨x,m⟩:=x;rw[he] at h;simp only[Option.bind_some] at h
   split at h
   ·cases h
   rename_i h60
   obtain⟨v,rest,h1,rfl,hv⟩:=eqv_word he;have e1:r=r.take (take r)++(v++rest):=by rw[←h1,List.take_append_drop]
   have e2:r.drop (take r+v.length)=rest:=by rw[←List.drop_drop,h1,List.drop_left]
   rw[e2] at h
   cases ha:attrs k (off+b.length+take r+v.length) rest with
   | none=>rw[ha] at h;cases h
   | some y=>
    obtain⟨as2,eb,o2⟩:=y;rw[ha] at h;simp only[Option.map_some,Option.some.injEq,Prod.mk.injEq] at h;obtain⟨rfl,rfl,rfl⟩:=h;obtain⟨w,rest2,rfl,rfl,hw⟩:=attrs_word k _ _ _ _ _ ha;have hl:(r.take (take r)).length=take r:=by rw[List.length_take];omega
    refine⟨b++(r.take (take r)++(v++w)),rest2,?_,?_,?_⟩
    ·conv=>lhs;rw[e1]
     simp
    ·simp only[List.length_append,hl];omega
    refine .more off b _ v x w as2 eb hb (by rintro rfl;exact h0 rfl) t2 ?_ hv h60 ?_
    ·intro e;rw[e] at hl;exact hm hl.symm
    rw[hl];exact hw
theorem attrs_front{off:Nat}{w:L}{as_:List At}{e:Bool}(h:AttrsW off w as_ e)(rest:L):∃d t,w++rest=d :: t∧Stops d:=by
 cases h with
 | two _ b hb=>have:=sps_front (r:=62 :: rest) hb stops47;simpa using this
 | one _ b hb=>have:=sps_front (r:=rest) hb stops62;simpa using this
 | more _ b nm v x w as_ e hb h0 _ _ _ _ _=>
  cases b with
  | nil=>exact absurd rfl h0
  | cons d b=>
   unfold Sps at hb;rw[List.all_cons,Bool.and_eq_true] at hb;exact⟨d,_,rfl,stops_sp hb.1⟩
theorem attrs_of{off:Nat}{w:L}{as_:List At}{e:Bool}(h:AttrsW off w as_ e):∀(k:Nat) (rest:L),w.length≤k→attrs k off (w++rest)=some (as_,e,off+w.length):=by
 induction h with
 | two off b hb=>
  intro k rest hk;obtain⟨k,rfl⟩:∃j,k=j+1:=⟨k-1,by simp at hk;omega⟩;have e0:b++[47,62]++rest=b++(47 :: 62 :: rest):=by simp
  rw[e0];unfold attrs;rw[nsp_of hb (fun c t h=>by rw[←head_eq h];rfl),List.drop_left,if_pos (by simp)];simp;omega
 | one off b hb=>
  intro k rest hk;obtain⟨k,rfl⟩:∃j,k=j+1:=⟨k-1,by simp at hk;omega⟩;have e0:b++[62]++rest=b++(62 :: rest):=by simp
  rw[e0];unfold attrs;rw[nsp_of hb (fun c t h=>by rw[←head_eq h];rfl),List.drop_left,if_neg (by simp),if_pos (by simp)];simp;omega
 | more off b nm v x w as_ e hb h0 hn hn0 hv h60 hw ih=>
  intro k rest hk;simp only[List.length_append] at hk;have hbl:0<b.length:=List.length_pos_iff.2 h0;have hnl:0<nm.length:=List.length_pos_iff.2 hn0;obtain⟨k,rfl⟩:∃j,k=j+1:=⟨k-1,by omega⟩;have e0:b++(nm++(v++w))++rest=b++(nm++(v++(w++rest))):=by simp
  rw[e0]
  obtain⟨c,nt,hc⟩:∃c t,nm=c :: t:=by cases nm with
   | nil=>exact absurd rfl hn0
   | cons c t=>exact⟨c,t,rfl⟩
  have n47:c≠47:=name_not hn hc (by decide) (by decide);have n62:c≠62:=name_not hn hc (by decide) (by decide);unfold attrs;rw[nsp_of hb (fun d t h=>by rw[hc] at h;rw[←head_eq h];exact name_nsp hn hc),List.drop_left];rw[if_neg (by rw[hc];simp;exact fun h=>absurd h.symm n47),if_neg (by rw[hc];simp;exact fun h=>absurd h.symm n62),if_neg (by omega)];obtain⟨d,t,hd,hst⟩:=eqw_front hv (w++rest);have htk:take (nm++(v++(w++rest)))=nm.length:=by rw[hd];exact take_word hn hn0 hst
  simp only;rw[htk,if_neg (by omega),List.drop_left,eqv_of hv,Option.bind_some];simp only;rw[if_neg h60,show (nm++(v++(w++rest))).drop (nm.length+v.length)=w++rest by rw[←List.append_assoc,←List.length_append,List.drop_left],ih k rest (by omega),List.take_left];simp only[Option.map_some,List.length_append];congr 3;omega
end Tk
end
end Go.Proofs.YtifiiojchlaghaaGreatDoor
