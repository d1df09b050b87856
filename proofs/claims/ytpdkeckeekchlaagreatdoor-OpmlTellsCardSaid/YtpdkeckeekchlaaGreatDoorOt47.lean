/- Arguments opened: a row of outlines from its reading; its reading stays. -/
import Derived.Test.YtpdkeckeekchlaaGreatDoorOt45
set_option linter.unusedSimpArgs false
set_option maxRecDepth 100000
set_option linter.unusedVariables false
namespace Go.Proofs.YtpdkeckeekchlaaGreatDoor
section
open Go.ChangeShapes Go.WideShapes Go.ChangeAt Go.RowKit Tk

section
variable {H:Type} {enc:TypeId×Value→H} {w:World} {sp:Nat→Bool} {held:Bool}
instance:Inhabited aB:=⟨⟨[],[]⟩⟩
theorem ais{fuel:Nat}{cs:List Value}{y:DataW H×List MemPlace}(h:DataW.trod enc Tryz.prog w 0 sp held fuel 37 cs=some y):∃x:aB,cs=jH x:=by
 have bj:Tryz.prog.cellsOf 37=2:=by kernel_rfl
 have hcs:Tryz.prog.cellsOf 9=1:=by kernel_rfl
 obtain⟨ys,m,_,rfl,hlen,hl,hf⟩:=DataW.trod_struct Tryz.underlying37 h;rw[bj] at hlen
 match cs,hlen,ys,hl with
 | [c0,c1],_,[y0,y1],_=>
  have h0:=hf 0 _ rfl;have h1:=hf 1 _ rfl;simp[hcs] at h0 h1;obtain⟨a0,e0,rfl,s0⟩:=DataW.trod_string Tryz.underlying9 h0;obtain⟨a1,e1,rfl,s1⟩:=DataW.trod_string Tryz.underlying9 h1;simp at e0 e1;subst e0 e1;exact⟨⟨a0.data.toList,a1.data.toList⟩,by unfold jH;rw[vC,vC]⟩
theorem W5{r:Reach}{b0:Nat}{v:Value}{d:DataW H}{ps:List MemPlace}(hval:Value.okWide Tryz.prog w r b0 22 v)(h:DataW.Trod enc Tryz.prog w 0 (fun _=>true) true 22 v d ps) :
  ∃(A:Option Addr) (c:Nat) (l:List aB),v=.slice A l.length c∧Reads w w.heap.size 2 A l.length (aM l)∧l.length≤c∧c≤maxLen:=by
 obtain⟨fuel,hf⟩:=h
 obtain⟨A,l,c,e,hA,hm,-⟩:=Nh (s:=2) (f:=jH) (R:=fun _ _=>True) (fun _=>rfl) (by omega) Tryz.underlying22 (by kernel_rfl)
  (fun n cs y hy=>by obtain⟨x,ex⟩:=ais hy;exact⟨x,ex,trivial⟩) hf
 have hc:l.length≤c∧c≤maxLen:=by
  rcases Go.Deep.open_slice Tryz.underlying22 hf with ⟨e',-⟩|⟨a,len,cap,m,n,D,Pl,e',_,h1,h2,-⟩
  ·rw[e] at e';simp at e';obtain⟨-,h1,h2⟩:=e';rw[h1,h2];simp[maxLen]
  rw[e] at e';simp at e';obtain⟨-,rfl,rfl⟩:=e';exact⟨h1,h2⟩
 have hv:v=.slice A l.length c:=by
  obtain⟨a,len,cap,rfl⟩:=okWide_slice Tryz.underlying22 hval
  simpa[Value.cells] using e
 exact⟨A,c,l,hv,hA,hc⟩
theorem YB{W W':World}{CU:Nat→Bool}{v:Value}{d:DataW H}{ps:List MemPlace}(h:DataW.Trod enc Tryz.prog W 0 (fun _=>true) true 22 v d ps)(wF:∀p∈ps,W.sameAt W' p)(hs:∀p∈ps,CU p.block=true) :
  DataW.Trod enc Tryz.prog W' 0 CU true 22 v d ps :=
 WideElems.Trod_stays (by kernel_rfl) (by kernel_rfl) (of_decide_eq_true (by kernel_rfl)) h wF hs
end
end
end Go.Proofs.YtpdkeckeekchlaaGreatDoor
