/- A region that draws its order and stores: a condition on the world that holds up to the first store (operation b); the operations behind it are taken as they come. -/
import Derived.Test.YtnbmfljhbpfilaaGreatDoorOw01
set_option linter.unusedSimpArgs false
set_option linter.unusedVariables false
namespace Go.Proofs.YtnbmfljhbpfilaaGreatDoor
section
open Go

section
variable {P:Program} {ops:Array Oper} {Q:Exit→Act→World→Prop} {md:Region.Mode} {S:World→Prop} {b:Nat}
def fF(P:Program)(md:Region.Mode)(ops:Array Oper)(Q:Exit→Act→World→Prop)(S:World→Prop)(b:Nat):Nat→Array Bool→Act→World→Prop
 | 0,listed,a,w=>Region.ready md ops listed=[]∧Q .normal a w
 | fuel+1,listed,a,w=>
  (Region.ready md ops listed=[]→Q .normal a w)∧
  ∀i∈Region.ready md ops listed,wpOp P ops Q i (fun a' w'=>((listed.setIfInBounds i true).getD b true=false→S w')∧fF P md ops Q S b fuel (listed.setIfInBounds i true) a' w') a w
theorem YQ:∀(fuel:Nat) (listed:Array Bool) (a:Act) (w:World),fF P md ops Q S b fuel listed a w→wpAny P md ops Q fuel listed a w
 | 0,_,_,_,h=>h
 | fuel+1,_,_,_,h=>⟨h.1,fun i hi=>wpOp_mono (fun a' w' h'=>YQ fuel _ a' w' h'.2) (h.2 i hi)⟩
def Cx(md:Region.Mode)(ops:Array Oper)(b i:Nat):Bool:=((ops[b]?).map fun o=>o.after.any fun e=>Region.binds md e&&e.on==i).getD false
theorem ahF{listed:Array Bool}{i:Nat}(hw:Cx md ops b i=true)(hr:i∈Region.ready md ops listed):b∉Region.ready md ops listed:=by
 intro hb;obtain⟨_,ob,hob,hall⟩:=mem_ready.1 hb;obtain⟨h0,_⟩:=mem_ready.1 hr;unfold Cx at hw;rw[hob] at hw;simp only[Option.map_some,Option.getD_some] at hw;obtain⟨e,he,KD⟩:=Array.any_eq_true'.1 hw;simp only[Bool.and_eq_true,beq_iff_eq] at KD;have h1:=hall e he KD.1;rw[KD.2] at h1
 rcases Nat.lt_or_ge i listed.size with h' | h'
 ·simp[h'] at h0 h1;rw[h0] at h1;cases h1
 simp[Array.getElem?_eq_none h'] at h1
theorem am5{i:Nat}{oi:Oper}{v:Value}(hi:ops[i]?=some oi)(Bl:∀(j:Nat) (o:Oper) cs b,ops[j]?=some o→o.op≠.select cs b)
  (hQ:∀c a w,Q (.panic c) (a.put oi.dst v) w→Q (.panic c) a w) (hw:Cx md ops b i=true) :
  ∀(fuel:Nat) (listed:Array Bool) (a:Act) (w:World),
   (∀j oj,ops[j]?=some oj→j≠i→listed.getD j true=false→(∀e∈oj.after,Region.binds md e=true→e.on≠i)→oi.apart ops oj=true)→
   i∈Region.ready md ops listed→listed.getD b true=false→YieldsIf P ops S oi v a→S w→
   fF P md ops Q S b fuel (listed.setIfInBounds i true) (a.put oi.dst v) w→fF P md ops Q S b (fuel+1) listed a w:=by
 intro fuel
 induction fuel with
 | zero=>
  intro listed a w _ hr hb hy hS H;refine⟨fun h=>(by rw[h] at hr;cases hr),fun j hj=>?_⟩
  by_cases iE:j=i
  ·subst iE;exact hy.wpOp hi hS ⟨fun _=>hS,H⟩
  have:=ready_mono hj iE;rw[H.1] at this;cases this
 | succ fuel ih=>
  intro listed a w AQ hr hb hy hS H;refine⟨fun h=>(by rw[h] at hr;cases hr),fun j hj=>?_⟩
  by_cases iE:j=i
  ·subst iE;exact hy.wpOp hi hS ⟨fun _=>hS,H⟩
  have h1:=H.2 j (ready_mono hj iE);have kr:=ahF hw hr;have Az:i≠b:=fun e=>kr (by rw[←e];exact hr);have TP:j≠b:=fun e=>kr (by rw[←e];exact hj);obtain⟨AW,oj,vD,hall⟩:=mem_ready.1 hj
  have xX:∀e∈oj.after,Region.binds md e=true→e.on≠i:=fun e he hb heq=>by
   have h1:=hall e he hb;have h0:=(mem_ready.1 hr).1;rw[heq] at h1
   rcases Nat.lt_or_ge i listed.size with h' | h'
   ·simp[h'] at h0 h1;rw[h0] at h1;cases h1
   simp[Array.getElem?_eq_none h'] at h1
  have h2:=wpOp_putIf vD (AQ j oj vD iE AW xX) (fun cs b=>Bl i oi cs b hi) (fun cs b=>Bl j oj cs b vD) hQ hy h1
  have KT:∀k ok,ops[k]?=some ok→k≠i→(listed.setIfInBounds j true).getD k true=false→
    (∀e∈ok.after,Region.binds md e=true→e.on≠i)→oi.apart ops ok=true:=fun k ok hk AX Bm hno=>by
   refine AQ k ok hk AX ?_ hno
   by_cases hjk:j=k
   ·subst hjk;exact AW
   rw[getD_set_ne true hjk] at Bm;exact Bm
  have bt:(listed.setIfInBounds j true).getD b true=false:=by rw[getD_set_ne true TP];exact hb
  have TQ:((listed.setIfInBounds i true).setIfInBounds j true).getD b true=false:=by rw[getD_set_ne true TP,getD_set_ne true Az];exact hb
  refine wpOp_mono (fun a' w' h3=>⟨fun _=>h3.2.1 TQ,ih (listed.setIfInBounds j true) a' w' KT (ready_mono hr (Ne.symm iE)) bt h3.1 (h3.2.1 TQ) ?_⟩) h2;rw[Array.setIfInBounds_comm _ _ iE];exact h3.2.2
theorem am6{i:Nat}{oi:Oper}{v:Value}(hi:ops[i]?=some oi)(Bl:∀(j:Nat) (o:Oper) cs b,ops[j]?=some o→o.op≠.select cs b)
  (hQ:∀c a w,Q (.panic c) (a.put oi.dst v) w→Q (.panic c) a w) (Az:i≠b) :
  ∀(fuel:Nat) (listed:Array Bool) (a:Act) (w:World),
   (∀j oj,ops[j]?=some oj→j≠i→listed.getD j true=false→(∀e∈oj.after,Region.binds md e=true→e.on≠i)→oi.apart ops oj=true)→
   i∈Region.ready md ops listed→YieldsIf P ops (fun _=>True) oi v a→(listed.getD b true=false→S w)→
   fF P md ops Q S b fuel (listed.setIfInBounds i true) (a.put oi.dst v) w→fF P md ops Q S b (fuel+1) listed a w:=by
 intro fuel
 induction fuel with
 | zero=>
  intro listed a w _ hr hy hS H;refine⟨fun h=>(by rw[h] at hr;cases hr),fun j hj=>?_⟩
  by_cases iE:j=i
  ·subst iE;exact hy.wpOp hi trivial ⟨fun h=>hS (by rwa[getD_set_ne true Az] at h),H⟩
  have:=ready_mono hj iE;rw[H.1] at this;cases this
 | succ fuel ih=>
  intro listed a w AQ hr hy hS H;refine⟨fun h=>(by rw[h] at hr;cases hr),fun j hj=>?_⟩
  by_cases iE:j=i
  ·subst iE;exact hy.wpOp hi trivial ⟨fun h=>hS (by rwa[getD_set_ne true Az] at h),H⟩
  have h1:=H.2 j (ready_mono hj iE);obtain⟨AW,oj,vD,hall⟩:=mem_ready.1 hj
  have xX:∀e∈oj.after,Region.binds md e=true→e.on≠i:=fun e he hb heq=>by
   have h1:=hall e he hb;have h0:=(mem_ready.1 hr).1;rw[heq] at h1
   rcases Nat.lt_or_ge i listed.size with h' | h'
   ·simp[h'] at h0 h1;rw[h0] at h1;cases h1
   simp[Array.getElem?_eq_none h'] at h1
  have h2:=wpOp_putIf vD (AQ j oj vD iE AW xX) (fun cs b=>Bl i oi cs b hi) (fun cs b=>Bl j oj cs b vD) hQ hy h1
  have KT:∀k ok,ops[k]?=some ok→k≠i→(listed.setIfInBounds j true).getD k true=false→
    (∀e∈ok.after,Region.binds md e=true→e.on≠i)→oi.apart ops ok=true:=fun k ok hk AX Bm hno=>by
   refine AQ k ok hk AX ?_ hno
   by_cases hjk:j=k
   ·subst hjk;exact AW
   rw[getD_set_ne true hjk] at Bm;exact Bm
  have key:∀{w':World},(((listed.setIfInBounds i true).setIfInBounds j true).getD b true=false→S w')→(listed.setIfInBounds j true).getD b true=false→S w':=fun h1 h=>h1 (by
   rw[Array.setIfInBounds_comm _ _ (Ne.symm iE),getD_set_ne true Az];exact h)
  refine wpOp_mono (fun a' w' h3=>⟨key h3.2.1,ih (listed.setIfInBounds j true) a' w' KT (ready_mono hr (Ne.symm iE)) h3.1 (key h3.2.1) ?_⟩) h2;rw[Array.setIfInBounds_comm _ _ iE];exact h3.2.2
end
section
variable {P:Program} {l:List Oper} {Q:Exit→Act→World→Prop} {md:Region.Mode} {S:World→Prop} {b:Nat}
theorem ae3{i d:Nat}{oi:Oper}{v:Value}{fuel:Nat}{listed:Array Bool}{a:Act}{w:World}(hi:l[i]?=some oi)(hd:oi.dst=some d)
  (hs:Region.noSelect l.toArray=true) (hf:Region.free md l.toArray listed i=true) (hr:(Region.ready md l.toArray listed).contains i=true)
  (hQ:∀c a w,Q (.panic c) (a.put oi.dst v) w→Q (.panic c) a w) (hw:Region.wanted oi (yielded l.toArray a.tmps)=true) (hb:(Cx md l.toArray b i && !listed.getD b true)=true) (hS:S w) (hy:∀w,S w→(execOp a.eval oi).run P w=.ok (.value v) w)
  (h:fF P md l.toArray Q S b fuel (listed.setIfInBounds i true) { tmps:=a.tmps.setIfInBounds d v,defers:=a.defers } w):fF P md l.toArray Q S b (fuel+1) listed a w:=by
 simp only[Bool.and_eq_true,Bool.not_eq_true'] at hb;exact am5 (by simpa using hi) (Region.noSelect_spec hs) hQ hb.1 fuel listed a w (Region.free_spec (by simpa using hi) hf) (by simpa using hr) hb.2 (Or.inl ⟨hw,hy⟩) hS (by rw[FX hd];exact h)
theorem KI{i d:Nat}{oi:Oper}{v:Value}{fuel:Nat}{listed:Array Bool}{a:Act}{w:World}(hi:l[i]?=some oi)(hd:oi.dst=some d)
  (hs:Region.noSelect l.toArray=true) (hf:Region.free md l.toArray listed i=true) (hr:(Region.ready md l.toArray listed).contains i=true)
  (hQ:∀c a w,Q (.panic c) (a.put oi.dst v) w→Q (.panic c) a w) (hw:Region.wanted oi (yielded l.toArray a.tmps)=true) (hb:(i != b)=true) (hS:listed.getD b true=true∨S w) (hy:∀w,(execOp a.eval oi).run P w=.ok (.value v) w)
  (h:fF P md l.toArray Q S b fuel (listed.setIfInBounds i true) { tmps:=a.tmps.setIfInBounds d v,defers:=a.defers } w):fF P md l.toArray Q S b (fuel+1) listed a w :=
 am6 (by simpa using hi) (Region.noSelect_spec hs) hQ (by simpa using hb) fuel listed a w (Region.free_spec (by simpa using hi) hf) (by simpa using hr) (Or.inl ⟨hw,fun w _=>hy w⟩)
  (fun h=>hS.elim (fun h2=>by rw[h] at h2;cases h2) id) (by rw[FX hd];exact h)
theorem nbT{d:Nat}{oi:Oper}{v:Value}{fuel:Nat}{ls:List Bool}{tm:List Value}{df:List Deferred}{w:World}(hi:l[nx ls]?=some oi)(hd:oi.dst=some d)(hS:S w)
  (hy:∀w,S w→(execOp (Act.eval ⟨tm.toArray,df⟩) oi).run P w=.ok (.value v) w) (h:fF P md l.toArray Q S b fuel (ls.set (nx ls) true).toArray { tmps:=(tm.set d v).toArray,defers:=df } w)
  (hs:Region.noSelect l.toArray=true:=by kernel_rfl) (hf:Region.free md l.toArray ls.toArray (nx ls)=true:=by kernel_rfl) (hr:(Region.ready md l.toArray ls.toArray).contains (nx ls)=true:=by kernel_rfl)
  (hw:Region.wanted oi (yielded l.toArray tm.toArray)=true:=by kernel_rfl) (hb:(Cx md l.toArray b (nx ls) && !ls.toArray.getD b true)=true:=by kernel_rfl) (hQ:∀c a w,Q (.panic c) (a.put oi.dst v) w→Q (.panic c) a w:=by exact fun _ _ _ h=>h):fF P md l.toArray Q S b (fuel+1) ls.toArray ⟨tm.toArray,df⟩ w :=
 ae3 hi hd hs hf hr hQ hw hb hS hy (by simpa using h)
theorem V7{d:Nat}{oi:Oper}{v:Value}{fuel:Nat}{ls:List Bool}{tm:List Value}{df:List Deferred}{w:World}(hi:l[nx ls]?=some oi)(hd:oi.dst=some d)(hS:S w)
  (hy:∀w,(execOp (Act.eval ⟨tm.toArray,df⟩) oi).run P w=.ok (.value v) w) (h:fF P md l.toArray Q S b fuel (ls.set (nx ls) true).toArray { tmps:=(tm.set d v).toArray,defers:=df } w)
  (hs:Region.noSelect l.toArray=true:=by kernel_rfl) (hf:Region.free md l.toArray ls.toArray (nx ls)=true:=by kernel_rfl) (hr:(Region.ready md l.toArray ls.toArray).contains (nx ls)=true:=by kernel_rfl)
  (hw:Region.wanted oi (yielded l.toArray tm.toArray)=true:=by kernel_rfl) (hb:(nx ls != b)=true:=by kernel_rfl) (hQ:∀c a w,Q (.panic c) (a.put oi.dst v) w→Q (.panic c) a w:=by exact fun _ _ _ h=>h):fF P md l.toArray Q S b (fuel+1) ls.toArray ⟨tm.toArray,df⟩ w :=
 KI hi hd hs hf hr hQ hw hb (.inr hS) hy (by simpa using h)
theorem YP{i:Nat}{oi:Oper}{fuel:Nat}{listed:Array Bool}{a:Act}{w:World}(hi:l[i]?=some oi)(hr:Region.ready md l.toArray listed=[i])(hw:Region.wanted oi (yielded l.toArray a.tmps)=true)
  (h:∀K':Act→World→Prop,(∀a w,(((listed.setIfInBounds i true).getD b true=false→S w)∧fF P md l.toArray Q S b fuel (listed.setIfInBounds i true) a w)→K' a w)→Oper.wp P oi a w K' Q):fF P md l.toArray Q S b (fuel+1) listed a w:=by
 refine⟨fun h0=>(by rw[h0] at hr;cases hr),fun j hj=>?_⟩;rw[hr] at hj;obtain rfl:=List.mem_singleton.1 hj;exact wpOp_step (by simpa using hi) fun K' hK=>by rw[if_pos hw];exact h K' hK
theorem Ua{i:Nat}{oi:Oper}{fuel:Nat}{listed:Array Bool}{a:Act}{w:World}(hi:l[i]?=some oi)(hr:Region.ready md l.toArray listed=[i])(hw:Region.wanted oi (yielded l.toArray a.tmps)=true)
  (h:∀K':Act→World→Prop,Shut (∀a w,S w→(S w→fF P md l.toArray Q S b fuel (listed.setIfInBounds i true) a w)→K' a w)→Oper.wp P oi a w K' Q):fF P md l.toArray Q S b (fuel+1) listed a w :=
 YP hi hr hw fun K' hK=>h K' fun a w hS hW=>hK a w ⟨fun _=>hS,hW hS⟩
theorem Ub{i:Nat}{oi:Oper}{fuel:Nat}{listed:Array Bool}{a:Act}{w:World}(hi:l[i]?=some oi)(hr:Region.ready md l.toArray listed=[i])(hw:Region.wanted oi (yielded l.toArray a.tmps)=true)
  (hb:(listed.setIfInBounds i true).getD b true=true)
  (h:∀K':Act→World→Prop,Shut (∀a w,fF P md l.toArray Q S b fuel (listed.setIfInBounds i true) a w→K' a w)→Oper.wp P oi a w K' Q):fF P md l.toArray Q S b (fuel+1) listed a w :=
 YP hi hr hw fun K' hK=>h K' fun a w hW=>hK a w ⟨fun h2=>(by rw[hb] at h2;cases h2),hW⟩
theorem ae2{listed:Array Bool}{a:Act}{w:World}(hr:Region.ready md l.toArray listed=[])(h:Q .normal a w):∀fuel,fF P md l.toArray Q S b fuel listed a w
 | 0=>⟨hr,h⟩
 | _+1=>⟨fun _=>h,by rw[hr];simp⟩
theorem anb{id:Nat}{a:Act}{w:World}(b:Nat)(S:World→Prop)(hm:P.follows .mixedOrders=true)(hS:S w.drew)
  (h:S w.drew→fF P .any l.toArray Q S b l.toArray.size (Array.replicate l.toArray.size false) a w.drew):(Code.region id l.toArray true).wp P Q a w :=
 wp_region_any hm (YQ _ _ _ _ (h hS))
end
end
end Go.Proofs.YtnbmfljhbpfilaaGreatDoor
