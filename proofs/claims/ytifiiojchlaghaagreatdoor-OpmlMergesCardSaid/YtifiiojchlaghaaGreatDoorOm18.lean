/- Strict: the program's start of an element: what is told ahead of its values. And more. -/
import Derived.Test.YtifiiojchlaghaaGreatDoorOm01
import Derived.Test.YtifiiojchlaghaaGreatDoorOm17
set_option linter.unusedSimpArgs false
set_option maxRecDepth 100000
set_option maxHeartbeats 32000000
set_option linter.unusedVariables false
namespace Go.Proofs.YtifiiojchlaghaaGreatDoor
section
open Go.RowKit Tk Sx

namespace Sx
def eB(st:St)(t:Tok):List ay:=if (jT t.attrs).isNone then scope' st t else st.scope
def b1(t:Tok):Option Nat:=(jT t.attrs).or (iL (splits t))
def rU(sc:List ay)(t:Tok):Option Nat:=if (lT sc (jy t)).2=false∨jy t=kO then some t.at_ else none
def b3(st:St)(t:Tok):Option Nat:=((b1 t).or (rU (eB st t) t)).or (jg (eB st t) [] (splits t))
def Dy(st:St)(t:Tok)(sc:List ay):El:=⟨t.name,⟨(lT sc (jy t)).1,nA t⟩,st.scope.length⟩
def xl(t:Tok)(sc:List ay):Ev:=⟨0,⟨(lT sc (jy t)).1,nA t⟩,cE sc (splits t),[]⟩
def yu(st:St)(t:Tok)(sc:List ay):St:=⟨st.open_++[Dy st t sc],sc,dY st.evs (xl t sc),true⟩
theorem afb(st:St)(t:Tok):late st t=b3 st t:=by
 unfold late b3 b1 eB
 cases hv:jT t.attrs with
 | some a=>simp
 | none=>
  simp only[Option.isNone_none,if_true,Option.none_or]
  cases hd:iL (splits t) with
  | some a=>simp
  | none=>
   simp only[Option.none_or];unfold rU;split
   ·simp
   simp
theorem aiH{st:St}{t:Tok}(h:b3 st t=none):eB st t=scope' st t:=by
 unfold b3 b1 at h;unfold eB
 cases hv:jT t.attrs with
 | some a=>rw[hv] at h;simp at h
 | none=>rfl
theorem ajv{st:St}{t:Tok}(h:b3 st t=none):yu st t (eB st t)=started st t:=by rw[aiH h];rfl
end Sx
theorem PI.c4{B P:Nat}{w:World}{st:St}{b:bQ}{v:Pv}(h:PI B P w st b v):w.cell? ⟨P,4,none⟩=some v.vb:=h.blk.cell 4
theorem PI.c3{B P:Nat}{w:World}{st:St}{b:bQ}{v:Pv}(h:PI B P w st b v):w.cell? ⟨P,3,none⟩=some (.bool st.gL):=h.blk.cell 3
theorem PI.tX{B P:Nat}{w:World}{st:St}{v:Pv}(h:PI B P w st none v):v.vb=.pointer none:=h.bad
theorem PI.wB{B P:Nat}{w:World}{st:St}{x:Nat×Nat}{v:Pv}(h:PI B P w st (some x) v):∃F,v.vb=.pointer (some ⟨F,0,none⟩):=by
 obtain⟨F,_,h2,_⟩:=h.bad;exact⟨F,h2⟩

theorem ajs(B P:Nat)(w:World)(st:St)(v:Pv)(b o:Nat)(t:Tok)(fe:Option Addr)(ct:Nat)(h:PI B P w st none v)(hB:B≤w.heap.size)(h6:6≤B)(hg:Gl w)(ht:qL B w b o t)
  (iU:w.cell? ⟨b,o+2,none⟩=some (.slice fe t.attrs.length ct)) (hr:Reads w B 3 fe t.attrs.length (ln (t.attrs.map At.g))) (hn:t.attrs.length≤100000000) (tL:t.name.length≤1000000000) (hv:∀a∈t.attrs,a.name.length≤1000000000)
  (x:Nat×Nat) (he:Sx.early st t=some x) :
  Calls Tryz.prog 34 #[.pointer (some ⟨P,0,none⟩),.pointer (some ⟨b,o,none⟩)] w (qK B P w (.error x)):=by
 have eY:=hide (UQ B P w st v b o t fe ct h hB h6 hg ht iU hr hn tL hv);have H:=hide h;have HB:=hide hB;have Ht:=hide ht;have TB:=hide iU;unfold Sx.early at he;clear h hB h6 hg ht hr hv tL iU
 cases dh:names t with
 | some a=>
  rw[dh] at he;simp only[Option.some.injEq] at he;subst he;have mQ:=hide dh;clear dh
  go_enter Tryz.func34,Tryz.ntmps34
  go_wp2_with fail
  refine eY.out.mono ?_;rintro e w1 ⟨vb,Al,cl,rfl,h1,h2,h3⟩;rw[mQ.out] at h1;obtain⟨F,hF⟩:=PI.wB (x:=(a,50)) h1;have c4:=h1.c4;rw[hF] at c4;have I1:=hide h1;have M1:=hide (aH.fc (B:=B) h3);clear h1 h2 h3 hF;go_wp2;go_end0;exact⟨rfl,M1.out,_,_,I1.out⟩
 | none=>
  rw[dh] at he;dsimp only at he;have mQ:=hide dh;obtain⟨no,hno⟩:∃no,st.open_.length=no:=⟨_,rfl⟩;obtain⟨na,dy⟩:∃na,t.attrs.length=na:=⟨_,rfl⟩;obtain⟨ro,hro⟩:∃ro,st.gL=ro:=⟨_,rfl⟩;have fH:=hide hno;have fj:=hide dy;have jC:=hide hro;have J9:st.open_.isEmpty=decide (no=0):=by rw[←hno];cases st.open_<;>simp
  rw[hro,J9,dy,hno] at he;have sB:=TB;clear dh hno dy hro J9 hn TB
  by_cases c1:ro=true∧no=0
  ·obtain⟨r1,r2⟩:=c1;subst r1 r2;simp only[decide_true,Bool.and_true,if_true,Option.some.injEq] at he;subst he
   go_enter Tryz.func34,Tryz.ntmps34
   go_wp2_with fail
   refine eY.out.mono ?_;rintro e w1 ⟨vb,Al,cl,rfl,h1,h2,h3⟩;rw[mQ.out] at h1;replace h1:PI B P w1 st none ⟨v.Ao,v.co,v.As,v.cs,v.Ae,v.ce,vb,v.xs⟩:=h1;have au:=h3.below (B:=B) H.out.bp HB.out;have c4:=h1.c4;rw[h1.tX] at c4;have c0:=h1.c;have c3:=h1.c3;rw[fH.out] at c0;rw[jC.out] at c3;have t5:=(au.cell (p:=⟨b,o+5,none⟩) Ht.out.lt).trans Ht.out.c5;have t2:=(au.cell (p:=⟨b,o+2,none⟩) Ht.out.lt).trans sB.out;rw[fj.out] at t2;have I1:=hide (show PI B P w1 st none ⟨v.Ao,v.co,v.As,v.cs,v.Ae,v.ce,vb,v.xs⟩ from h1);have M1:=hide (aH.fc (B:=B) h3);have HW:=hide (o8 B P w1 st none _ t.at_ 50 I1.out (Nat.le_trans HB.out h3.size));clear h1 h2 h3 au
   go_wp2_with fail
   refine HW.out.mono ?_;rintro e w2 ⟨FG,rfl,h1,h2⟩;obtain⟨F,hF⟩:=PI.wB (x:=(t.at_,50)) h1;have qO:=h1.c4;rw[hF] at qO;have I2:=hide h1;have M2:=hide (M1.out.trans h2);clear h1 h2 hF c4 c0 c3;dsimp only
   rename_i bV
   refine bV _ _ ?_;clear bV;go_wp2;go_end0;exact⟨rfl,M2.out,_,_,I2.out⟩
  rw[if_neg (by simp;intro e h;exact c1 ⟨e,h⟩)] at he
  have Ex:ro=false∨(ro=true∧0<no):=by
   cases ro with
   | false=>exact .inl rfl
   | true=>exact .inr ⟨rfl,Nat.pos_of_ne_zero fun e=>c1 ⟨rfl,e⟩⟩
  clear c1
  by_cases c2:16<na
  ·rw[if_pos c2] at he;simp only[Option.some.injEq] at he;subst he
   rcases Ex with r1|⟨r1,r2⟩
   ·subst r1
    go_enter Tryz.func34,Tryz.ntmps34
    go_wp2_with fail
    refine eY.out.mono ?_;rintro e w1 ⟨vb,Al,cl,rfl,h1,h2,h3⟩;rw[mQ.out] at h1;replace h1:PI B P w1 st none ⟨v.Ao,v.co,v.As,v.cs,v.Ae,v.ce,vb,v.xs⟩:=h1;have au:=h3.below (B:=B) H.out.bp HB.out;have c4:=h1.c4;rw[h1.tX] at c4;have c0:=h1.c;have c3:=h1.c3;rw[fH.out] at c0;rw[jC.out] at c3;have t5:=(au.cell (p:=⟨b,o+5,none⟩) Ht.out.lt).trans Ht.out.c5;have t2:=(au.cell (p:=⟨b,o+2,none⟩) Ht.out.lt).trans sB.out;rw[fj.out] at t2;have I1:=hide (show PI B P w1 st none ⟨v.Ao,v.co,v.As,v.cs,v.Ae,v.ce,vb,v.xs⟩ from h1);have M1:=hide (aH.fc (B:=B) h3);have HW:=hide (o8 B P w1 st none _ t.at_ 42 I1.out (Nat.le_trans HB.out h3.size));clear h1 h2 h3 au
    go_wp2_with fail
    refine HW.out.mono ?_;rintro e w2 ⟨FG,rfl,h1,h2⟩;obtain⟨F,hF⟩:=PI.wB (x:=(t.at_,42)) h1;have qO:=h1.c4;rw[hF] at qO;have I2:=hide h1;have M2:=hide (M1.out.trans h2);clear h1 h2 hF c4 c0 c3;dsimp only
    rename_i bV
    refine bV _ _ ?_;clear bV;go_wp2;go_end0;exact⟨rfl,M2.out,_,_,I2.out⟩
   subst r1;have r3:((no:Int)==0)=false:=by rw[beq_eq_false_iff_ne];omega
   go_enter Tryz.func34,Tryz.ntmps34
   go_wp2_with fail
   refine eY.out.mono ?_;rintro e w1 ⟨vb,Al,cl,rfl,h1,h2,h3⟩;rw[mQ.out] at h1;replace h1:PI B P w1 st none ⟨v.Ao,v.co,v.As,v.cs,v.Ae,v.ce,vb,v.xs⟩:=h1;have au:=h3.below (B:=B) H.out.bp HB.out;have c4:=h1.c4;rw[h1.tX] at c4;have c0:=h1.c;have c3:=h1.c3;rw[fH.out] at c0;rw[jC.out] at c3;have t5:=(au.cell (p:=⟨b,o+5,none⟩) Ht.out.lt).trans Ht.out.c5;have t2:=(au.cell (p:=⟨b,o+2,none⟩) Ht.out.lt).trans sB.out;rw[fj.out] at t2;have I1:=hide (show PI B P w1 st none ⟨v.Ao,v.co,v.As,v.cs,v.Ae,v.ce,vb,v.xs⟩ from h1);have M1:=hide (aH.fc (B:=B) h3);have HW:=hide (o8 B P w1 st none _ t.at_ 42 I1.out (Nat.le_trans HB.out h3.size));clear h1 h2 h3 au
   go_wp2_with fail
   refine HW.out.mono ?_;rintro e w2 ⟨FG,rfl,h1,h2⟩;obtain⟨F,hF⟩:=PI.wB (x:=(t.at_,42)) h1;have qO:=h1.c4;rw[hF] at qO;have I2:=hide h1;have M2:=hide (M1.out.trans h2);clear h1 h2 hF c4 c0 c3;dsimp only
   rename_i bV
   refine bV _ _ ?_;clear bV;go_wp2;go_end0;exact⟨rfl,M2.out,_,_,I2.out⟩
  rw[if_neg c2] at he
  by_cases IK:no=16
  ·rw[if_pos IK] at he;simp only[Option.some.injEq] at he;subst he IK
   rcases Ex with r1|⟨r1,r2⟩
   ·subst r1
    go_enter Tryz.func34,Tryz.ntmps34
    go_wp2_with fail
    refine eY.out.mono ?_;rintro e w1 ⟨vb,Al,cl,rfl,h1,h2,h3⟩;rw[mQ.out] at h1;replace h1:PI B P w1 st none ⟨v.Ao,v.co,v.As,v.cs,v.Ae,v.ce,vb,v.xs⟩:=h1;have au:=h3.below (B:=B) H.out.bp HB.out;have c4:=h1.c4;rw[h1.tX] at c4;have c0:=h1.c;have c3:=h1.c3;rw[fH.out] at c0;rw[jC.out] at c3;have t5:=(au.cell (p:=⟨b,o+5,none⟩) Ht.out.lt).trans Ht.out.c5;have t2:=(au.cell (p:=⟨b,o+2,none⟩) Ht.out.lt).trans sB.out;rw[fj.out] at t2;have I1:=hide (show PI B P w1 st none ⟨v.Ao,v.co,v.As,v.cs,v.Ae,v.ce,vb,v.xs⟩ from h1);have M1:=hide (aH.fc (B:=B) h3);have HW:=hide (o8 B P w1 st none _ t.at_ 41 I1.out (Nat.le_trans HB.out h3.size));clear h1 h2 h3 au
    go_wp2_with fail
    refine HW.out.mono ?_;rintro e w2 ⟨FG,rfl,h1,h2⟩;obtain⟨F,hF⟩:=PI.wB (x:=(t.at_,41)) h1;have qO:=h1.c4;rw[hF] at qO;have I2:=hide h1;have M2:=hide (M1.out.trans h2);clear h1 h2 hF c4 c0 c3;dsimp only
    rename_i bV
    refine bV _ _ ?_;clear bV;go_wp2;go_end0;exact⟨rfl,M2.out,_,_,I2.out⟩
   subst r1
   go_enter Tryz.func34,Tryz.ntmps34
   go_wp2_with fail
   refine eY.out.mono ?_;rintro e w1 ⟨vb,Al,cl,rfl,h1,h2,h3⟩;rw[mQ.out] at h1;replace h1:PI B P w1 st none ⟨v.Ao,v.co,v.As,v.cs,v.Ae,v.ce,vb,v.xs⟩:=h1;have au:=h3.below (B:=B) H.out.bp HB.out;have c4:=h1.c4;rw[h1.tX] at c4;have c0:=h1.c;have c3:=h1.c3;rw[fH.out] at c0;rw[jC.out] at c3;have t5:=(au.cell (p:=⟨b,o+5,none⟩) Ht.out.lt).trans Ht.out.c5;have t2:=(au.cell (p:=⟨b,o+2,none⟩) Ht.out.lt).trans sB.out;rw[fj.out] at t2;have I1:=hide (show PI B P w1 st none ⟨v.Ao,v.co,v.As,v.cs,v.Ae,v.ce,vb,v.xs⟩ from h1);have M1:=hide (aH.fc (B:=B) h3);have HW:=hide (o8 B P w1 st none _ t.at_ 41 I1.out (Nat.le_trans HB.out h3.size));clear h1 h2 h3 au
   go_wp2_with fail
   refine HW.out.mono ?_;rintro e w2 ⟨FG,rfl,h1,h2⟩;obtain⟨F,hF⟩:=PI.wB (x:=(t.at_,41)) h1;have qO:=h1.c4;rw[hF] at qO;have I2:=hide h1;have M2:=hide (M1.out.trans h2);clear h1 h2 hF c4 c0 c3;dsimp only
   rename_i bV
   refine bV _ _ ?_;clear bV;go_wp2;go_end0;exact⟨rfl,M2.out,_,_,I2.out⟩
  rw[if_neg IK] at he;cases he
end
section
open Go

section
variable {P:Program} {ops:Array Oper} {Q:Exit→Act→World→Prop} {md:Region.Mode} {S:World→Prop} {b:Nat}
def fW(P:Program)(md:Region.Mode)(ops:Array Oper)(Q:Exit→Act→World→Prop)(S:World→Prop)(b:Nat):Nat→Array Bool→Act→World→Prop
 | 0,listed,a,w=>Region.ready md ops listed=[]∧Q .normal a w
 | fuel+1,listed,a,w=>
  (Region.ready md ops listed=[]→Q .normal a w)∧
  ∀i∈Region.ready md ops listed,wpOp P ops Q i (fun a' w'=>((listed.setIfInBounds i true).getD b true=false→S w')∧fW P md ops Q S b fuel (listed.setIfInBounds i true) a' w') a w
theorem Xw:∀(fuel:Nat) (listed:Array Bool) (a:Act) (w:World),fW P md ops Q S b fuel listed a w→wpAny P md ops Q fuel listed a w
 | 0,_,_,_,h=>h
 | fuel+1,_,_,_,h=>⟨h.1,fun i hi=>wpOp_mono (fun a' w' h'=>Xw fuel _ a' w' h'.2) (h.2 i hi)⟩
def Cf(md:Region.Mode)(ops:Array Oper)(b i:Nat):Bool:=((ops[b]?).map fun o=>o.after.any fun e=>Region.binds md e&&e.on==i).getD false
theorem afX{listed:Array Bool}{i:Nat}(hw:Cf md ops b i=true)(hr:i∈Region.ready md ops listed):b∉Region.ready md ops listed:=by
 intro hb;obtain⟨_,ob,hob,hall⟩:=mem_ready.1 hb;obtain⟨h0,_⟩:=mem_ready.1 hr;unfold Cf at hw;rw[hob] at hw;simp only[Option.map_some,Option.getD_some] at hw;obtain⟨e,he,J1⟩:=Array.any_eq_true'.1 hw;simp only[Bool.and_eq_true,beq_iff_eq] at J1;have h1:=hall e he J1.1;rw[J1.2] at h1
 rcases Nat.lt_or_ge i listed.size with h' | h'
 ·simp[h'] at h0 h1;rw[h0] at h1;cases h1
 simp[Array.getElem?_eq_none h'] at h1
theorem akZ{i:Nat}{oi:Oper}{v:Value}(hi:ops[i]?=some oi)(A5:∀(j:Nat) (o:Oper) cs b,ops[j]?=some o→o.op≠.select cs b)
  (hQ:∀c a w,Q (.panic c) (a.put oi.dst v) w→Q (.panic c) a w) (hw:Cf md ops b i=true) :
  ∀(fuel:Nat) (listed:Array Bool) (a:Act) (w:World),
   (∀j oj,ops[j]?=some oj→j≠i→listed.getD j true=false→(∀e∈oj.after,Region.binds md e=true→e.on≠i)→oi.apart ops oj=true)→
   i∈Region.ready md ops listed→listed.getD b true=false→YieldsIf P ops S oi v a→S w→
   fW P md ops Q S b fuel (listed.setIfInBounds i true) (a.put oi.dst v) w→fW P md ops Q S b (fuel+1) listed a w:=by
 intro fuel
 induction fuel with
 | zero=>
  intro listed a w _ hr hb hy hS H;refine⟨fun h=>(by rw[h] at hr;cases hr),fun j hj=>?_⟩
  by_cases iP:j=i
  ·subst iP;exact hy.wpOp hi hS ⟨fun _=>hS,H⟩
  have:=ready_mono hj iP;rw[H.1] at this;cases this
 | succ fuel ih=>
  intro listed a w AB hr hb hy hS H;refine⟨fun h=>(by rw[h] at hr;cases hr),fun j hj=>?_⟩
  by_cases iP:j=i
  ·subst iP;exact hy.wpOp hi hS ⟨fun _=>hS,H⟩
  have h1:=H.2 j (ready_mono hj iP);have eF:=afX hw hr;have Ai:i≠b:=fun e=>eF (by rw[←e];exact hr);have Sj:j≠b:=fun e=>eF (by rw[←e];exact hj);obtain⟨AG,oj,vI,hall⟩:=mem_ready.1 hj
  have xP:∀e∈oj.after,Region.binds md e=true→e.on≠i:=fun e he hb heq=>by
   have h1:=hall e he hb;have h0:=(mem_ready.1 hr).1;rw[heq] at h1
   rcases Nat.lt_or_ge i listed.size with h' | h'
   ·simp[h'] at h0 h1;rw[h0] at h1;cases h1
   simp[Array.getElem?_eq_none h'] at h1
  have h2:=wpOp_putIf vI (AB j oj vI iP AG xP) (fun cs b=>A5 i oi cs b hi) (fun cs b=>A5 j oj cs b vI) hQ hy h1
  have Kh:∀k ok,ops[k]?=some ok→k≠i→(listed.setIfInBounds j true).getD k true=false→
    (∀e∈ok.after,Region.binds md e=true→e.on≠i)→oi.apart ops ok=true:=fun k ok hk AH Ba hno=>by
   refine AB k ok hk AH ?_ hno
   by_cases hjk:j=k
   ·subst hjk;exact AG
   rw[getD_set_ne true hjk] at Ba;exact Ba
  have aP:(listed.setIfInBounds j true).getD b true=false:=by rw[getD_set_ne true Sj];exact hb
  have Sk:((listed.setIfInBounds i true).setIfInBounds j true).getD b true=false:=by rw[getD_set_ne true Sj,getD_set_ne true Ai];exact hb
  refine wpOp_mono (fun a' w' h3=>⟨fun _=>h3.2.1 Sk,ih (listed.setIfInBounds j true) a' w' Kh (ready_mono hr (Ne.symm iP)) aP h3.1 (h3.2.1 Sk) ?_⟩) h2;rw[Array.setIfInBounds_comm _ _ iP];exact h3.2.2
theorem ak0{i:Nat}{oi:Oper}{v:Value}(hi:ops[i]?=some oi)(A5:∀(j:Nat) (o:Oper) cs b,ops[j]?=some o→o.op≠.select cs b)
  (hQ:∀c a w,Q (.panic c) (a.put oi.dst v) w→Q (.panic c) a w) (Ai:i≠b) :
  ∀(fuel:Nat) (listed:Array Bool) (a:Act) (w:World),
   (∀j oj,ops[j]?=some oj→j≠i→listed.getD j true=false→(∀e∈oj.after,Region.binds md e=true→e.on≠i)→oi.apart ops oj=true)→
   i∈Region.ready md ops listed→YieldsIf P ops (fun _=>True) oi v a→(listed.getD b true=false→S w)→
   fW P md ops Q S b fuel (listed.setIfInBounds i true) (a.put oi.dst v) w→fW P md ops Q S b (fuel+1) listed a w:=by
 intro fuel
 induction fuel with
 | zero=>
  intro listed a w _ hr hy hS H;refine⟨fun h=>(by rw[h] at hr;cases hr),fun j hj=>?_⟩
  by_cases iP:j=i
  ·subst iP;exact hy.wpOp hi trivial ⟨fun h=>hS (by rwa[getD_set_ne true Ai] at h),H⟩
  have:=ready_mono hj iP;rw[H.1] at this;cases this
 | succ fuel ih=>
  intro listed a w AB hr hy hS H;refine⟨fun h=>(by rw[h] at hr;cases hr),fun j hj=>?_⟩
  by_cases iP:j=i
  ·subst iP;exact hy.wpOp hi trivial ⟨fun h=>hS (by rwa[getD_set_ne true Ai] at h),H⟩
  have h1:=H.2 j (ready_mono hj iP);obtain⟨AG,oj,vI,hall⟩:=mem_ready.1 hj
  have xP:∀e∈oj.after,Region.binds md e=true→e.on≠i:=fun e he hb heq=>by
   have h1:=hall e he hb;have h0:=(mem_ready.1 hr).1;rw[heq] at h1
   rcases Nat.lt_or_ge i listed.size with h' | h'
   ·simp[h'] at h0 h1;rw[h0] at h1;cases h1
   simp[Array.getElem?_eq_none h'] at h1
  have h2:=wpOp_putIf vI (AB j oj vI iP AG xP) (fun cs b=>A5 i oi cs b hi) (fun cs b=>A5 j oj cs b vI) hQ hy h1
  have Kh:∀k ok,ops[k]?=some ok→k≠i→(listed.setIfInBounds j true).getD k true=false→
    (∀e∈ok.after,Region.binds md e=true→e.on≠i)→oi.apart ops ok=true:=fun k ok hk AH Ba hno=>by
   refine AB k ok hk AH ?_ hno
   by_cases hjk:j=k
   ·subst hjk;exact AG
   rw[getD_set_ne true hjk] at Ba;exact Ba
  have key:∀{w':World},(((listed.setIfInBounds i true).setIfInBounds j true).getD b true=false→S w')→(listed.setIfInBounds j true).getD b true=false→S w':=fun h1 h=>h1 (by
   rw[Array.setIfInBounds_comm _ _ (Ne.symm iP),getD_set_ne true Ai];exact h)
  refine wpOp_mono (fun a' w' h3=>⟨key h3.2.1,ih (listed.setIfInBounds j true) a' w' Kh (ready_mono hr (Ne.symm iP)) h3.1 (key h3.2.1) ?_⟩) h2;rw[Array.setIfInBounds_comm _ _ iP];exact h3.2.2
end
section
variable {P:Program} {l:List Oper} {Q:Exit→Act→World→Prop} {md:Region.Mode} {S:World→Prop} {b:Nat}
theorem adi{i d:Nat}{oi:Oper}{v:Value}{fuel:Nat}{listed:Array Bool}{a:Act}{w:World}(hi:l[i]?=some oi)(hd:oi.dst=some d)
  (hs:Region.noSelect l.toArray=true) (hf:Region.free md l.toArray listed i=true) (hr:(Region.ready md l.toArray listed).contains i=true)
  (hQ:∀c a w,Q (.panic c) (a.put oi.dst v) w→Q (.panic c) a w) (hw:Region.wanted oi (yielded l.toArray a.tmps)=true) (hb:(Cf md l.toArray b i && !listed.getD b true)=true) (hS:S w) (hy:∀w,S w→(execOp a.eval oi).run P w=.ok (.value v) w)
  (h:fW P md l.toArray Q S b fuel (listed.setIfInBounds i true) { tmps:=a.tmps.setIfInBounds d v,defers:=a.defers } w):fW P md l.toArray Q S b (fuel+1) listed a w:=by
 simp only[Bool.and_eq_true,Bool.not_eq_true'] at hb;exact akZ (by simpa using hi) (Region.noSelect_spec hs) hQ hb.1 fuel listed a w (Region.free_spec (by simpa using hi) hf) (by simpa using hr) hb.2 (Or.inl ⟨hw,hy⟩) hS (by rw[Fv hd];exact h)
theorem J7{i d:Nat}{oi:Oper}{v:Value}{fuel:Nat}{listed:Array Bool}{a:Act}{w:World}(hi:l[i]?=some oi)(hd:oi.dst=some d)
  (hs:Region.noSelect l.toArray=true) (hf:Region.free md l.toArray listed i=true) (hr:(Region.ready md l.toArray listed).contains i=true)
  (hQ:∀c a w,Q (.panic c) (a.put oi.dst v) w→Q (.panic c) a w) (hw:Region.wanted oi (yielded l.toArray a.tmps)=true) (hb:(i != b)=true) (hS:listed.getD b true=true∨S w) (hy:∀w,(execOp a.eval oi).run P w=.ok (.value v) w)
  (h:fW P md l.toArray Q S b fuel (listed.setIfInBounds i true) { tmps:=a.tmps.setIfInBounds d v,defers:=a.defers } w):fW P md l.toArray Q S b (fuel+1) listed a w :=
 ak0 (by simpa using hi) (Region.noSelect_spec hs) hQ (by simpa using hb) fuel listed a w (Region.free_spec (by simpa using hi) hf) (by simpa using hr) (Or.inl ⟨hw,fun w _=>hy w⟩)
  (fun h=>hS.elim (fun h2=>by rw[h] at h2;cases h2) id) (by rw[Fv hd];exact h)
theorem nbT{d:Nat}{oi:Oper}{v:Value}{fuel:Nat}{ls:List Bool}{tm:List Value}{df:List Deferred}{w:World}(hi:l[nx ls]?=some oi)(hd:oi.dst=some d)(hS:S w)
  (hy:∀w,S w→(execOp (Act.eval ⟨tm.toArray,df⟩) oi).run P w=.ok (.value v) w) (h:fW P md l.toArray Q S b fuel (ls.set (nx ls) true).toArray { tmps:=(tm.set d v).toArray,defers:=df } w)
  (hs:Region.noSelect l.toArray=true:=by kernel_rfl) (hf:Region.free md l.toArray ls.toArray (nx ls)=true:=by kernel_rfl) (hr:(Region.ready md l.toArray ls.toArray).contains (nx ls)=true:=by kernel_rfl)
  (hw:Region.wanted oi (yielded l.toArray tm.toArray)=true:=by kernel_rfl) (hb:(Cf md l.toArray b (nx ls) && !ls.toArray.getD b true)=true:=by kernel_rfl) (hQ:∀c a w,Q (.panic c) (a.put oi.dst v) w→Q (.panic c) a w:=by exact fun _ _ _ h=>h):fW P md l.toArray Q S b (fuel+1) ls.toArray ⟨tm.toArray,df⟩ w :=
 adi hi hd hs hf hr hQ hw hb hS hy (by simpa using h)
theorem UR{d:Nat}{oi:Oper}{v:Value}{fuel:Nat}{ls:List Bool}{tm:List Value}{df:List Deferred}{w:World}(hi:l[nx ls]?=some oi)(hd:oi.dst=some d)(hS:S w)
  (hy:∀w,(execOp (Act.eval ⟨tm.toArray,df⟩) oi).run P w=.ok (.value v) w) (h:fW P md l.toArray Q S b fuel (ls.set (nx ls) true).toArray { tmps:=(tm.set d v).toArray,defers:=df } w)
  (hs:Region.noSelect l.toArray=true:=by kernel_rfl) (hf:Region.free md l.toArray ls.toArray (nx ls)=true:=by kernel_rfl) (hr:(Region.ready md l.toArray ls.toArray).contains (nx ls)=true:=by kernel_rfl)
  (hw:Region.wanted oi (yielded l.toArray tm.toArray)=true:=by kernel_rfl) (hb:(nx ls != b)=true:=by kernel_rfl) (hQ:∀c a w,Q (.panic c) (a.put oi.dst v) w→Q (.panic c) a w:=by exact fun _ _ _ h=>h):fW P md l.toArray Q S b (fuel+1) ls.toArray ⟨tm.toArray,df⟩ w :=
 J7 hi hd hs hf hr hQ hw hb (.inr hS) hy (by simpa using h)
theorem Xv{i:Nat}{oi:Oper}{fuel:Nat}{listed:Array Bool}{a:Act}{w:World}(hi:l[i]?=some oi)(hr:Region.ready md l.toArray listed=[i])(hw:Region.wanted oi (yielded l.toArray a.tmps)=true)
  (h:∀K':Act→World→Prop,(∀a w,(((listed.setIfInBounds i true).getD b true=false→S w)∧fW P md l.toArray Q S b fuel (listed.setIfInBounds i true) a w)→K' a w)→Oper.wp P oi a w K' Q):fW P md l.toArray Q S b (fuel+1) listed a w:=by
 refine⟨fun h0=>(by rw[h0] at hr;cases hr),fun j hj=>?_⟩;rw[hr] at hj;obtain rfl:=List.mem_singleton.1 hj;exact wpOp_step (by simpa using hi) fun K' hK=>by rw[if_pos hw];exact h K' hK
theorem Sy{i:Nat}{oi:Oper}{fuel:Nat}{listed:Array Bool}{a:Act}{w:World}(hi:l[i]?=some oi)(hr:Region.ready md l.toArray listed=[i])(hw:Region.wanted oi (yielded l.toArray a.tmps)=true)
  (h:∀K':Act→World→Prop,Shut (∀a w,S w→(S w→fW P md l.toArray Q S b fuel (listed.setIfInBounds i true) a w)→K' a w)→Oper.wp P oi a w K' Q):fW P md l.toArray Q S b (fuel+1) listed a w :=
 Xv hi hr hw fun K' hK=>h K' fun a w hS hW=>hK a w ⟨fun _=>hS,hW hS⟩
theorem Sz{i:Nat}{oi:Oper}{fuel:Nat}{listed:Array Bool}{a:Act}{w:World}(hi:l[i]?=some oi)(hr:Region.ready md l.toArray listed=[i])(hw:Region.wanted oi (yielded l.toArray a.tmps)=true)
  (hb:(listed.setIfInBounds i true).getD b true=true)
  (h:∀K':Act→World→Prop,Shut (∀a w,fW P md l.toArray Q S b fuel (listed.setIfInBounds i true) a w→K' a w)→Oper.wp P oi a w K' Q):fW P md l.toArray Q S b (fuel+1) listed a w :=
 Xv hi hr hw fun K' hK=>h K' fun a w hW=>hK a w ⟨fun h2=>(by rw[hb] at h2;cases h2),hW⟩
theorem adh{listed:Array Bool}{a:Act}{w:World}(hr:Region.ready md l.toArray listed=[])(h:Q .normal a w):∀fuel,fW P md l.toArray Q S b fuel listed a w
 | 0=>⟨hr,h⟩
 | _+1=>⟨fun _=>h,by rw[hr];simp⟩
theorem ak5{id:Nat}{a:Act}{w:World}(b:Nat)(S:World→Prop)(hm:P.follows .mixedOrders=true)(hS:S w.drew)
  (h:S w.drew→fW P .any l.toArray Q S b l.toArray.size (Array.replicate l.toArray.size false) a w.drew):(Code.region id l.toArray true).wp P Q a w :=
 wp_region_any hm (Xw _ _ _ _ (h hS))
end
end
end Go.Proofs.YtifiiojchlaghaaGreatDoor
