/- Arguments opened: a state from its reading; its reading stays. -/
import Derived.Test.YtpdkeckeekchlaaGreatDoorOt34
import Derived.Test.YtpdkeckeekchlaaGreatDoorOt45
set_option linter.unusedSimpArgs false
set_option maxRecDepth 100000
set_option linter.unusedVariables false
namespace Go.Proofs.YtpdkeckeekchlaaGreatDoor
section
open Go.ChangeShapes Go.WideShapes Go.ChangeAt Go.RowKit Rec

section
variable {H:Type} {enc:TypeId×Value→H} {w:World} {sp:Nat→Bool} {held:Bool} {fuel:Nat} {cs:List Value} {y:DataW H×List MemPlace}
theorem air(h:DataW.trod enc Tryz.prog w 0 sp held fuel 93 cs=some y):∃x:iM,cs=wO x:=by
 have Ur:Tryz.prog.cellsOf 93=8:=by kernel_rfl
 have hc7:Tryz.prog.cellsOf 91=7:=by kernel_rfl
 have hcs:Tryz.prog.cellsOf 9=1:=by kernel_rfl
 have hct:Tryz.prog.cellsOf 89=2:=by kernel_rfl
 have yj:Tryz.prog.cellsOf 4=1:=by kernel_rfl
 have yl:Tryz.prog.cellsOf 3=1:=by kernel_rfl
 obtain⟨ys,m,_,-,hlen,hl,hf⟩:=DataW.trod_struct Tryz.underlying93 h;rw[Ur] at hlen
 match cs,hlen,ys,hl with
 | [c0,c1,c2,c3,c4,c5,c6,c7],_,[y0,y1],_=>
  have h0:=hf 0 _ rfl;have h1:=hf 1 _ rfl;simp[hc7,yj] at h0 h1;obtain⟨b,e7,-⟩:=DataW.trod_bool Tryz.underlying4 h1;obtain⟨ys,m,_,-,-,hl,hf⟩:=DataW.trod_struct Tryz.underlying91 h0
  match ys,hl with
  | [y0,y1,y2,y3,y4,y5],_=>
   have h0:=hf 0 _ rfl;have h1:=hf 1 _ rfl;have h2:=hf 2 _ rfl;have h3:=hf 3 _ rfl;have h4:=hf 4 _ rfl;have h5:=hf 5 _ rfl;simp[hcs,hct] at h0 h1 h2 h3 h4 h5;obtain⟨a0,e0,-⟩:=DataW.trod_string Tryz.underlying9 h0;obtain⟨a1,e1,-⟩:=DataW.trod_string Tryz.underlying9 h1;obtain⟨a2,e2,-⟩:=DataW.trod_string Tryz.underlying9 h2;obtain⟨a3,e3,-⟩:=DataW.trod_string Tryz.underlying9 h3;obtain⟨a4,e4,-⟩:=DataW.trod_string Tryz.underlying9 h4;obtain⟨zs,m',_,-,_,hzl,VK⟩:=DataW.trod_struct Tryz.underlying89 h5
   match zs,hzl with
   | [z0,z1],_=>
    have g0:=VK 0 _ rfl;have g1:=VK 1 _ rfl;simp[yj,yl] at g0 g1;obtain⟨q,f0,-⟩:=DataW.trod_bool Tryz.underlying4 g0;obtain⟨n,f1,-⟩:=DataW.trod_int Tryz.underlying3 g1;simp at e0 e1 e2 e3 e4 e7 f0 f1;subst e0 e1 e2 e3 e4 e7 f0 f1;exact⟨⟨⟨a0,a1,a2,a3,a4,q,n⟩,b⟩,rfl⟩
theorem ait(h:DataW.trod enc Tryz.prog w 0 sp held fuel 41 cs=some y):∃x:Sb,cs=GR x∧Reads w w.heap.size 8 x.A x.ks.length (qm x.ks)∧x.ks.length≤maxLen:=by
 have bj:Tryz.prog.cellsOf 41=2:=by kernel_rfl
 have hcs:Tryz.prog.cellsOf 9=1:=by kernel_rfl
 have hck:Tryz.prog.cellsOf 39=1:=by kernel_rfl
 obtain⟨ys,m,_,-,hlen,hl,hf⟩:=DataW.trod_struct Tryz.underlying41 h;rw[bj] at hlen
 match cs,hlen,ys,hl with
 | [c0,c1],_,[y0,y1],_=>
  have h0:=hf 0 _ rfl;have h1:=hf 1 _ rfl;simp[hcs,hck] at h0 h1;obtain⟨a0,e0,-⟩:=DataW.trod_string Tryz.underlying9 h0;obtain⟨A,l,c,e1,hA,hn,-⟩:=Nh (s:=8) (f:=wO) (R:=fun _ _=>True) (fun _=>rfl) (by omega) Tryz.underlying39 (by kernel_rfl) (fun n cs y hy=>by obtain⟨x,ex⟩:=air hy;exact⟨x,ex,trivial⟩) h1;simp at e0 e1;subst e0 e1;exact⟨⟨a0,A,c,l⟩,rfl,hA,hn⟩
theorem aiv(h:DataW.trod enc Tryz.prog w 0 sp held fuel 25 cs=some y):∃(A:Option Addr) (c:Nat) (l:List Sb),cs=[.slice A l.length c]∧ot w w.heap.size A l:=by
 have cR:Tryz.prog.cellsOf 25=1:=by kernel_rfl
 have hcs:Tryz.prog.cellsOf 23=1:=by kernel_rfl
 obtain⟨ys,m,_,-,hlen,hl,hf⟩:=DataW.trod_struct Tryz.underlying25 h;rw[cR] at hlen
 match cs,hlen,ys,hl with
 | [c0],_,[y0],_=>
  have h0:=hf 0 _ rfl;simp[hcs] at h0;obtain⟨A,l,c,e1,hA,hn,el,_,-,hx⟩:=Nh (s:=2) (f:=GR) (R:=fun x _=>Reads w w.heap.size 8 x.A x.ks.length (qm x.ks)∧x.ks.length≤maxLen) (fun _=>rfl) (by omega) Tryz.underlying23 (by kernel_rfl) (fun n cs y hy=>ait hy) h0;exact⟨A,c,l,e1,hA,fun x Mu=>(hx x Mu).elim fun _ h=>h.2.1,hn,fun x Mu=>(hx x Mu).elim fun _ h=>h.2.2⟩
theorem aiu{r:Reach}{b0:Nat}{v:Value}{d:DataW H}{ps:List MemPlace}(hval:Value.okWide Tryz.prog w r b0 25 v)(h:DataW.Trod enc Tryz.prog w 0 (fun _=>true) true 25 v d ps) :
  ∃(A:Option Addr) (c:Nat) (l:List Sb),v=.agg #[.slice A l.length c]∧ot w w.heap.size A l:=by
 obtain⟨cs0,rfl,_⟩:=okWide_struct Tryz.underlying25 hval;obtain⟨fuel,hf⟩:=h;obtain⟨A,c,l,e,hL⟩:=aiv hf;exact⟨A,c,l,by rw[show cs0=#[.slice A l.length c] from Array.ext' (by rw[←e];simp[Value.cells])],hL⟩
theorem al7{W W':World}{CU:Nat→Bool}{v:Value}{d:DataW H}{ps:List MemPlace}(h:DataW.Trod enc Tryz.prog W 0 (fun _=>true) true 25 v d ps)(wF:∀p∈ps,W.sameAt W' p)(hs:∀p∈ps,CU p.block=true) :
  DataW.Trod enc Tryz.prog W' 0 CU true 25 v d ps :=
 WideElems.Trod_stays (by kernel_rfl) (by kernel_rfl) (of_decide_eq_true (by kernel_rfl)) h wF hs
end
end
end Go.Proofs.YtpdkeckeekchlaaGreatDoor
