/- Arguments opened: rows of whatever elements. -/
import Derived.Test.YtpdkeckeekchlaaGreatDoorOt19
import Derived.Test.YtpdkeckeekchlaaGreatDoorOt44
import Derived.Deep.Slices
import Derived.SizedLaws
set_option linter.unusedSimpArgs false
set_option maxRecDepth 100000
set_option linter.unusedVariables false
namespace Go.Proofs.YtpdkeckeekchlaaGreatDoor
section
open Go.ChangeShapes Go.WideShapes Go.ChangeAt Go.RowKit Tk

theorem Kw{α:Type}{f:α→List Value}{s:Nat}(hf:∀x,(f x).length=s):∀l:List α,(l.flatMap f).length=l.length*s
 | []=>by simp
 | x :: l=>by rw[List.flatMap_cons,List.length_append,hf,Kw hf l,List.length_cons,Nat.succ_mul];omega
theorem Te{α:Type}{f:α→List Value}{s:Nat}(hf:∀x,(f x).length=s):∀(l:List α) (k:Nat) (hk:k<l.length) (j:Nat),j<s→(l.flatMap f)[k*s+j]?=(f l[k])[j]?
 | [],k,hk,_,_=>absurd hk (by simp)
 | x :: l,0,_,j,hj=>by rw[List.flatMap_cons,List.getElem?_append_left (by rw[hf];omega)];simp
 | x :: l,k+1,hk,j,hj=>by
  have LN:k<l.length:=by simpa using hk
  rw[List.flatMap_cons,List.getElem?_append_right (by rw[hf,Nat.succ_mul];omega),hf,show (k+1)*s+j-s=k*s+j from by rw[Nat.succ_mul];omega];exact Te hf l k LN j hj

section
variable {H:Type} {enc:TypeId×Value→H} {w:World} {sp:Nat→Bool} {held:Bool}
theorem Nh{α:Type}[Inhabited α]{t e:TypeId}{s:Nat}{f:α→List Value}{R:α→DataW H→Prop}{fuel:Nat}{cs:List Value}{y:DataW H×List MemPlace}(hf:∀x,(f x).length=s)(hs:0<s)
  (ht:Tryz.prog.underlying t=some (.slice e)) (hC:Tryz.prog.cellsOf e=s) (ho:∀(n:Nat) (cs:List Value) (y:DataW H×List MemPlace),DataW.trod enc Tryz.prog w 0 sp held n e cs=some y→∃x,cs=f x∧R x y.1)
  (h:DataW.trod enc Tryz.prog w 0 sp held fuel t cs=some y) :
  ∃(A:Option Addr) (l:List α) (c:Nat),cs=[.slice A l.length c]∧Reads w w.heap.size s A l.length (l.flatMap f)∧l.length≤maxLen∧∃elems spare,(l≠[]→y.1=.slice elems spare)∧∀x∈l,∃d∈elems,R x d:=by
 rcases Go.Deep.open_slice ht h with ⟨rfl,-⟩|⟨a,len,cap,m,n,D,Pl,rfl,_,hl,hm,gD,hy,hx⟩
 ·exact⟨none,[],0,rfl,Reads.none_,by simp,[],[],fun h=>absurd rfl h,by simp⟩
 rw[hC] at hx;have LQ:len≤m:=by rw[gD];split<;>omega
 obtain⟨g,hg⟩:=Go.Deep.choose_lt (α:=α) (n:=len) (p:=fun i x=>w.cells? 0 (a.add (i*s)) s=some (f x)∧R x (D i)) (fun i hi=>by
  obtain⟨cs',h1,h2⟩:=hx i (by omega);obtain⟨x,rfl,hr⟩:=ho _ _ _ h2;exact⟨x,h1,hr⟩)
 have hlen:((List.range len).map g).length=len:=by simp
 refine⟨some a,(List.range len).map g,cap,by rw[hlen],⟨Kw hf _,fun h0=>?_⟩,by rw[hlen];omega,_,_,fun _=>by rw[hy],fun x hx=>?_⟩
 ·rw[hlen] at h0;have hcell:∀i j,i<len→j<s→w.cell? ((a.add (i*s)).add j)=(f (g i))[j]?:=fun i j hi hj=>(World.cells?_some (hg i hi).1).2.2 j hj;have KI:w.cell? a=(f (g 0))[0]?:=by have:=hcell 0 0 h0 hs;simpa[Addr.add] using this
  have hv:(f (g 0))[0]?=some ((f (g 0))[0]'(by rw[hf];exact hs)):=List.getElem?_eq_getElem _;rw[hv] at KI;have hsp:=World.cell?_spot KI;have Bm:=dE KI;obtain⟨b,off,spot⟩:=a;simp only at hsp Bm;subst hsp;refine⟨b,off,rfl,Bm,fun j u hu=>?_⟩
  have hj:j<len*s:=by
   have:=(List.getElem?_eq_some_iff.1 hu).1;rwa[Kw hf,hlen] at this
  have hi:j / s<len:=Nat.div_lt_of_lt_mul (by rw[Nat.mul_comm];exact hj);have Fj:j % s<s:=Nat.mod_lt _ hs;have ej:j / s*s+j % s=j:=by rw[Nat.mul_comm];exact Nat.div_add_mod j s
  have hc:=hcell (j / s) (j % s) hi Fj;rw[Go.Deep.add_add,ej] at hc;have hat:=Te hf ((List.range len).map g) (j / s) (by rw[hlen];exact hi) (j % s) Fj;rw[ej,hu] at hat;simp only[List.getElem_map,List.getElem_range] at hat;rw[←hat] at hc
  have ea:(Addr.add ⟨b,off,none⟩ j:Addr)=⟨b,off+j,none⟩:=by
   unfold Addr.add;split
   ·subst_vars;rfl
   rfl
  rwa[ea] at hc
 obtain⟨i,hi,rfl⟩:=List.mem_map.1 hx;have hi':i<len:=by simpa using hi
 exact⟨D i,List.mem_map.2 ⟨i,hi,rfl⟩,(hg i hi').2⟩
end
end
end Go.Proofs.YtpdkeckeekchlaaGreatDoor
