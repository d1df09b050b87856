/- A region that draws its order and stores: a condition on the world that holds up to the first store (operation b); the operations behind it are taken as they come. -/
import Derived.Test.YtpdkeckeekchlaaGreatDoorOt01
set_option linter.unusedSimpArgs false
set_option linter.unusedVariables false
namespace Go.Proofs.YtpdkeckeekchlaaGreatDoor
section
open Go

section
variable {P:Program} {ops:Array Oper} {Q:Exit→Act→World→Prop} {md:Region.Mode} {S:World→Prop} {b:Nat}
def fN(P:Program)(md:Region.Mode)(ops:Array Oper)(Q:Exit→Act→World→Prop)(S:World→Prop)(b:Nat):Nat→Array Bool→Act→World→Prop
 | 0,listed,a,w=>Region.ready md ops listed=[]∧Q .normal a w
 | fuel+1,listed,a,w=>
  (Region.ready md ops listed=[]→Q .normal a w)∧
  ∀i∈Region.ready md ops listed,wpOp P ops Q i (fun a' w'=>((listed.setIfInBounds i true).getD b true=false→S w')∧fN P md ops Q S b fuel (listed.setIfInBounds i true) a' w') a w
theorem Zl:∀(fuel:Nat) (listed:Array Bool) (a:Act) (w:World),fN P md ops Q S b fuel listed a w→wpAny P md ops Q fuel listed a w
 | 0,_,_,_,h=>h
 | fuel+1,_,_,_,h=>⟨h.1,fun i hi=>wpOp_mono (fun a' w' h'=>Zl fuel _ a' w' h'.2) (h.2 i hi)⟩
def C7(md:Region.Mode)(ops:Array Oper)(b i:Nat):Bool:=((ops[b]?).map fun o=>o.after.any fun e=>Region.binds md e&&e.on==i).getD false
theorem ah3{listed:Array Bool}{i:Nat}(hw:C7 md ops b i=true)(hr:i∈Region.ready md ops listed):b∉Region.ready md ops listed:=by
 intro hb;obtain⟨_,ob,hob,hall⟩:=mem_ready.1 hb;obtain⟨h0,_⟩:=mem_ready.1 hr;unfold C7 at hw;rw[hob] at hw;simp only[Option.map_some,Option.getD_some] at hw;obtain⟨e,he,Lp⟩:=Array.any_eq_true'.1 hw;simp only[Bool.and_eq_true,beq_iff_eq] at Lp;have h1:=hall e he Lp.1;rw[Lp.2] at h1
 rcases Nat.lt_or_ge i listed.size with h' | h'
 ·simp[h'] at h0 h1;rw[h0] at h1;cases h1
 simp[Array.getElem?_eq_none h'] at h1
theorem anH{i:Nat}{oi:Oper}{v:Value}(hi:ops[i]?=some oi)(BV:∀(j:Nat) (o:Oper) cs b,ops[j]?=some o→o.op≠.select cs b)
  (hQ:∀c a w,Q (.panic c) (a.put oi.dst v) w→Q (.panic c) a w) (hw:C7 md ops b i=true) :
  ∀(fuel:Nat) (listed:Array Bool) (a:Act) (w:World),
   (∀j oj,ops[j]?=some oj→j≠i→listed.getD j true=false→(∀e∈oj.after,Region.binds md e=true→e.on≠i)→oi.apart ops oj=true)→
   i∈Region.ready md ops listed→listed.getD b true=false→YieldsIf P ops S oi v a→S w→
   fN P md ops Q S b fuel (listed.setIfInBounds i true) (a.put oi.dst v) w→fN P md ops Q S b (fuel+1) listed a w:=by
 intro fuel
 induction fuel with
 | zero=>
  intro listed a w _ hr hb hy hS H;refine⟨fun h=>(by rw[h] at hr;cases hr),fun j hj=>?_⟩
  by_cases fW:j=i
  ·subst fW;exact hy.wpOp hi hS ⟨fun _=>hS,H⟩
  have:=ready_mono hj fW;rw[H.1] at this;cases this
 | succ fuel ih=>
  intro listed a w BD hr hb hy hS H;refine⟨fun h=>(by rw[h] at hr;cases hr),fun j hj=>?_⟩
  by_cases fW:j=i
  ·subst fW;exact hy.wpOp hi hS ⟨fun _=>hS,H⟩
  have h1:=H.2 j (ready_mono hj fW);have dU:=ah3 hw hr;have Bk:i≠b:=fun e=>dU (by rw[←e];exact hr);have Un:j≠b:=fun e=>dU (by rw[←e];exact hj);obtain⟨BI,oj,wD,hall⟩:=mem_ready.1 hj
  have yz:∀e∈oj.after,Region.binds md e=true→e.on≠i:=fun e he hb heq=>by
   have h1:=hall e he hb;have h0:=(mem_ready.1 hr).1;rw[heq] at h1
   rcases Nat.lt_or_ge i listed.size with h' | h'
   ·simp[h'] at h0 h1;rw[h0] at h1;cases h1
   simp[Array.getElem?_eq_none h'] at h1
  have h2:=wpOp_putIf wD (BD j oj wD fW BI yz) (fun cs b=>BV i oi cs b hi) (fun cs b=>BV j oj cs b wD) hQ hy h1
  have LF:∀k ok,ops[k]?=some ok→k≠i→(listed.setIfInBounds j true).getD k true=false→
    (∀e∈ok.after,Region.binds md e=true→e.on≠i)→oi.apart ops ok=true:=fun k ok hk BJ Ca hno=>by
   refine BD k ok hk BJ ?_ hno
   by_cases hjk:j=k
   ·subst hjk;exact BI
   rw[getD_set_ne true hjk] at Ca;exact Ca
  have bh:(listed.setIfInBounds j true).getD b true=false:=by rw[getD_set_ne true Un];exact hb
  have Uo:((listed.setIfInBounds i true).setIfInBounds j true).getD b true=false:=by rw[getD_set_ne true Un,getD_set_ne true Bk];exact hb
  refine wpOp_mono (fun a' w' h3=>⟨fun _=>h3.2.1 Uo,ih (listed.setIfInBounds j true) a' w' LF (ready_mono hr (Ne.symm fW)) bh h3.1 (h3.2.1 Uo) ?_⟩) h2;rw[Array.setIfInBounds_comm _ _ fW];exact h3.2.2
theorem anI{i:Nat}{oi:Oper}{v:Value}(hi:ops[i]?=some oi)(BV:∀(j:Nat) (o:Oper) cs b,ops[j]?=some o→o.op≠.select cs b)
  (hQ:∀c a w,Q (.panic c) (a.put oi.dst v) w→Q (.panic c) a w) (Bk:i≠b) :
  ∀(fuel:Nat) (listed:Array Bool) (a:Act) (w:World),
   (∀j oj,ops[j]?=some oj→j≠i→listed.getD j true=false→(∀e∈oj.after,Region.binds md e=true→e.on≠i)→oi.apart ops oj=true)→
   i∈Region.ready md ops listed→YieldsIf P ops (fun _=>True) oi v a→(listed.getD b true=false→S w)→
   fN P md ops Q S b fuel (listed.setIfInBounds i true) (a.put oi.dst v) w→fN P md ops Q S b (fuel+1) listed a w:=by
 intro fuel
 induction fuel with
 | zero=>
  intro listed a w _ hr hy hS H;refine⟨fun h=>(by rw[h] at hr;cases hr),fun j hj=>?_⟩
  by_cases fW:j=i
  ·subst fW;exact hy.wpOp hi trivial ⟨fun h=>hS (by rwa[getD_set_ne true Bk] at h),H⟩
  have:=ready_mono hj fW;rw[H.1] at this;cases this
 | succ fuel ih=>
  intro listed a w BD hr hy hS H;refine⟨fun h=>(by rw[h] at hr;cases hr),fun j hj=>?_⟩
  by_cases fW:j=i
  ·subst fW;exact hy.wpOp hi trivial ⟨fun h=>hS (by rwa[getD_set_ne true Bk] at h),H⟩
  have h1:=H.2 j (ready_mono hj fW);obtain⟨BI,oj,wD,hall⟩:=mem_ready.1 hj
  have yz:∀e∈oj.after,Region.binds md e=true→e.on≠i:=fun e he hb heq=>by
   have h1:=hall e he hb;have h0:=(mem_ready.1 hr).1;rw[heq] at h1
   rcases Nat.lt_or_ge i listed.size with h' | h'
   ·simp[h'] at h0 h1;rw[h0] at h1;cases h1
   simp[Array.getElem?_eq_none h'] at h1
  have h2:=wpOp_putIf wD (BD j oj wD fW BI yz) (fun cs b=>BV i oi cs b hi) (fun cs b=>BV j oj cs b wD) hQ hy h1
  have LF:∀k ok,ops[k]?=some ok→k≠i→(listed.setIfInBounds j true).getD k true=false→
    (∀e∈ok.after,Region.binds md e=true→e.on≠i)→oi.apart ops ok=true:=fun k ok hk BJ Ca hno=>by
   refine BD k ok hk BJ ?_ hno
   by_cases hjk:j=k
   ·subst hjk;exact BI
   rw[getD_set_ne true hjk] at Ca;exact Ca
  have key:∀{w':World},(((listed.setIfInBounds i true).setIfInBounds j true).getD b true=false→S w')→(listed.setIfInBounds j true).getD b true=false→S w':=fun h1 h=>h1 (by
   rw[Array.setIfInBounds_comm _ _ (Ne.symm fW),getD_set_ne true Bk];exact h)
  refine wpOp_mono (fun a' w' h3=>⟨key h3.2.1,ih (listed.setIfInBounds j true) a' w' LF (ready_mono hr (Ne.symm fW)) h3.1 (key h3.2.1) ?_⟩) h2;rw[Array.setIfInBounds_comm _ _ fW];exact h3.2.2
end
section
variable {P:Program} {l:List Oper} {Q:Exit→Act→World→Prop} {md:Region.Mode} {S:World→Prop} {b:Nat}
theorem afq{i d:Nat}{oi:Oper}{v:Value}{fuel:Nat}{listed:Array Bool}{a:Act}{w:World}(hi:l[i]?=some oi)(hd:oi.dst=some d)
  (hs:Region.noSelect l.toArray=true) (hf:Region.free md l.toArray listed i=true) (hr:(Region.ready md l.toArray listed).contains i=true)
  (hQ:∀c a w,Q (.panic c) (a.put oi.dst v) w→Q (.panic c) a w) (hw:Region.wanted oi (yielded l.toArray a.tmps)=true) (hb:(C7 md l.toArray b i && !listed.getD b true)=true) (hS:S w) (hy:∀w,S w→(execOp a.eval oi).run P w=.ok (.value v) w)
  (h:fN P md l.toArray Q S b fuel (listed.setIfInBounds i true) { tmps:=a.tmps.setIfInBounds d v,defers:=a.defers } w):fN P md l.toArray Q S b (fuel+1) listed a w:=by
 simp only[Bool.and_eq_true,Bool.not_eq_true'] at hb;exact anH (by simpa using hi) (Region.noSelect_spec hs) hQ hb.1 fuel listed a w (Region.free_spec (by simpa using hi) hf) (by simpa using hr) hb.2 (Or.inl ⟨hw,hy⟩) hS (by rw[GP hd];exact h)
theorem Lx{i d:Nat}{oi:Oper}{v:Value}{fuel:Nat}{listed:Array Bool}{a:Act}{w:World}(hi:l[i]?=some oi)(hd:oi.dst=some d)
  (hs:Region.noSelect l.toArray=true) (hf:Region.free md l.toArray listed i=true) (hr:(Region.ready md l.toArray listed).contains i=true)
  (hQ:∀c a w,Q (.panic c) (a.put oi.dst v) w→Q (.panic c) a w) (hw:Region.wanted oi (yielded l.toArray a.tmps)=true) (hb:(i != b)=true) (hS:listed.getD b true=true∨S w) (hy:∀w,(execOp a.eval oi).run P w=.ok (.value v) w)
  (h:fN P md l.toArray Q S b fuel (listed.setIfInBounds i true) { tmps:=a.tmps.setIfInBounds d v,defers:=a.defers } w):fN P md l.toArray Q S b (fuel+1) listed a w :=
 anI (by simpa using hi) (Region.noSelect_spec hs) hQ (by simpa using hb) fuel listed a w (Region.free_spec (by simpa using hi) hf) (by simpa using hr) (Or.inl ⟨hw,fun w _=>hy w⟩)
  (fun h=>hS.elim (fun h2=>by rw[h] at h2;cases h2) id) (by rw[GP hd];exact h)
theorem nbT{d:Nat}{oi:Oper}{v:Value}{fuel:Nat}{ls:List Bool}{tm:List Value}{df:List Deferred}{w:World}(hi:l[nx ls]?=some oi)(hd:oi.dst=some d)(hS:S w)
  (hy:∀w,S w→(execOp (Act.eval ⟨tm.toArray,df⟩) oi).run P w=.ok (.value v) w) (h:fN P md l.toArray Q S b fuel (ls.set (nx ls) true).toArray { tmps:=(tm.set d v).toArray,defers:=df } w)
  (hs:Region.noSelect l.toArray=true:=by kernel_rfl) (hf:Region.free md l.toArray ls.toArray (nx ls)=true:=by kernel_rfl) (hr:(Region.ready md l.toArray ls.toArray).contains (nx ls)=true:=by kernel_rfl)
  (hw:Region.wanted oi (yielded l.toArray tm.toArray)=true:=by kernel_rfl) (hb:(C7 md l.toArray b (nx ls) && !ls.toArray.getD b true)=true:=by kernel_rfl) (hQ:∀c a w,Q (.panic c) (a.put oi.dst v) w→Q (.panic c) a w:=by exact fun _ _ _ h=>h):fN P md l.toArray Q S b (fuel+1) ls.toArray ⟨tm.toArray,df⟩ w :=
 afq hi hd hs hf hr hQ hw hb hS hy (by simpa using h)
theorem WJ{d:Nat}{oi:Oper}{v:Value}{fuel:Nat}{ls:List Bool}{tm:List Value}{df:List Deferred}{w:World}(hi:l[nx ls]?=some oi)(hd:oi.dst=some d)(hS:S w)
  (hy:∀w,(execOp (Act.eval ⟨tm.toArray,df⟩) oi).run P w=.ok (.value v) w) (h:fN P md l.toArray Q S b fuel (ls.set (nx ls) true).toArray { tmps:=(tm.set d v).toArray,defers:=df } w)
  (hs:Region.noSelect l.toArray=true:=by kernel_rfl) (hf:Region.free md l.toArray ls.toArray (nx ls)=true:=by kernel_rfl) (hr:(Region.ready md l.toArray ls.toArray).contains (nx ls)=true:=by kernel_rfl)
  (hw:Region.wanted oi (yielded l.toArray tm.toArray)=true:=by kernel_rfl) (hb:(nx ls != b)=true:=by kernel_rfl) (hQ:∀c a w,Q (.panic c) (a.put oi.dst v) w→Q (.panic c) a w:=by exact fun _ _ _ h=>h):fN P md l.toArray Q S b (fuel+1) ls.toArray ⟨tm.toArray,df⟩ w :=
 Lx hi hd hs hf hr hQ hw hb (.inr hS) hy (by simpa using h)
theorem Zk{i:Nat}{oi:Oper}{fuel:Nat}{listed:Array Bool}{a:Act}{w:World}(hi:l[i]?=some oi)(hr:Region.ready md l.toArray listed=[i])(hw:Region.wanted oi (yielded l.toArray a.tmps)=true)
  (h:∀K':Act→World→Prop,(∀a w,(((listed.setIfInBounds i true).getD b true=false→S w)∧fN P md l.toArray Q S b fuel (listed.setIfInBounds i true) a w)→K' a w)→Oper.wp P oi a w K' Q):fN P md l.toArray Q S b (fuel+1) listed a w:=by
 refine⟨fun h0=>(by rw[h0] at hr;cases hr),fun j hj=>?_⟩;rw[hr] at hj;obtain rfl:=List.mem_singleton.1 hj;exact wpOp_step (by simpa using hi) fun K' hK=>by rw[if_pos hw];exact h K' hK
theorem UA{i:Nat}{oi:Oper}{fuel:Nat}{listed:Array Bool}{a:Act}{w:World}(hi:l[i]?=some oi)(hr:Region.ready md l.toArray listed=[i])(hw:Region.wanted oi (yielded l.toArray a.tmps)=true)
  (h:∀K':Act→World→Prop,Shut (∀a w,S w→(S w→fN P md l.toArray Q S b fuel (listed.setIfInBounds i true) a w)→K' a w)→Oper.wp P oi a w K' Q):fN P md l.toArray Q S b (fuel+1) listed a w :=
 Zk hi hr hw fun K' hK=>h K' fun a w hS hW=>hK a w ⟨fun _=>hS,hW hS⟩
theorem UB{i:Nat}{oi:Oper}{fuel:Nat}{listed:Array Bool}{a:Act}{w:World}(hi:l[i]?=some oi)(hr:Region.ready md l.toArray listed=[i])(hw:Region.wanted oi (yielded l.toArray a.tmps)=true)
  (hb:(listed.setIfInBounds i true).getD b true=true)
  (h:∀K':Act→World→Prop,Shut (∀a w,fN P md l.toArray Q S b fuel (listed.setIfInBounds i true) a w→K' a w)→Oper.wp P oi a w K' Q):fN P md l.toArray Q S b (fuel+1) listed a w :=
 Zk hi hr hw fun K' hK=>h K' fun a w hW=>hK a w ⟨fun h2=>(by rw[hb] at h2;cases h2),hW⟩
theorem afp{listed:Array Bool}{a:Act}{w:World}(hr:Region.ready md l.toArray listed=[])(h:Q .normal a w):∀fuel,fN P md l.toArray Q S b fuel listed a w
 | 0=>⟨hr,h⟩
 | _+1=>⟨fun _=>h,by rw[hr];simp⟩
theorem anN{id:Nat}{a:Act}{w:World}(b:Nat)(S:World→Prop)(hm:P.follows .mixedOrders=true)(hS:S w.drew)
  (h:S w.drew→fN P .any l.toArray Q S b l.toArray.size (Array.replicate l.toArray.size false) a w.drew):(Code.region id l.toArray true).wp P Q a w :=
 wp_region_any hm (Zl _ _ _ _ (h hS))
end
end
end Go.Proofs.YtpdkeckeekchlaaGreatDoor
