/- Strict: the program's start of an element: what is told ahead of its values. And more. -/
import Derived.Test.YtifiiojchlaghaaGreatDoorOk01
import Derived.Test.YtifiiojchlaghaaGreatDoorOk15
set_option linter.unusedSimpArgs false
set_option maxRecDepth 100000
set_option maxHeartbeats 32000000
set_option linter.unusedVariables false
namespace Go.Proofs.YtifiiojchlaghaaGreatDoor
section
open Go.RowKit Tk Sx

namespace Sx
def sc1(st:St)(t:Tok):List Dcl:=if (valsAt t.attrs).isNone then scope' st t else st.scope
def b1(t:Tok):Option Nat:=(valsAt t.attrs).or (declAt (splits t))
def spWrong(sc:List Dcl)(t:Tok):Option Nat:=if (spaceOf sc (preOf t)).2=false∨preOf t=pXmlns then some t.at_ else none
def b3(st:St)(t:Tok):Option Nat:=((b1 t).or (spWrong (sc1 st t) t)).or (attrsAt (sc1 st t) [] (splits t))
def elOf(st:St)(t:Tok)(sc:List Dcl):El:=⟨t.name,⟨(spaceOf sc (preOf t)).1,locOf t⟩,st.scope.length⟩
def evOf(t:Tok)(sc:List Dcl):Ev:=⟨0,⟨(spaceOf sc (preOf t)).1,locOf t⟩,attrsOf sc (splits t),[]⟩
def startedW(st:St)(t:Tok)(sc:List Dcl):St:=⟨st.open_++[elOf st t sc],sc,putEv st.evs (evOf t sc),true⟩
theorem late_is(st:St)(t:Tok):late st t=b3 st t:=by
 unfold late b3 b1 sc1
 cases hv:valsAt t.attrs with
 | some a=>simp
 | none=>
  simp only[Option.isNone_none,if_true,Option.none_or]
  cases hd:declAt (splits t) with
  | some a=>simp
  | none=>
   simp only[Option.none_or];unfold spWrong;split
   ·simp
   simp
theorem sc1_of{st:St}{t:Tok}(h:b3 st t=none):sc1 st t=scope' st t:=by
 unfold b3 b1 at h;unfold sc1
 cases hv:valsAt t.attrs with
 | some a=>rw[hv] at h;simp at h
 | none=>rfl
theorem started_is{st:St}{t:Tok}(h:b3 st t=none):startedW st t (sc1 st t)=started st t:=by rw[sc1_of h];rfl
end Sx
theorem PI.c4{B P:Nat}{w:World}{st:St}{b:Bad}{v:Pv}(h:PI B P w st b v):w.cell? ⟨P,4,none⟩=some v.vb:=h.blk.cell 4
theorem PI.c3{B P:Nat}{w:World}{st:St}{b:Bad}{v:Pv}(h:PI B P w st b v):w.cell? ⟨P,3,none⟩=some (.bool st.rooted):=h.blk.cell 3
theorem PI.vb_none{B P:Nat}{w:World}{st:St}{v:Pv}(h:PI B P w st none v):v.vb=.pointer none:=h.bad
theorem PI.vb_some{B P:Nat}{w:World}{st:St}{x:Nat×Nat}{v:Pv}(h:PI B P w st (some x) v):∃F,v.vb=.pointer (some ⟨F,0,none⟩):=by
 obtain⟨F,_,h2,_⟩:=h.bad;exact⟨F,h2⟩

theorem start_early(B P:Nat)(w:World)(st:St)(v:Pv)(b o:Nat)(t:Tok)(At_:Option Addr)(ct:Nat)(h:PI B P w st none v)(hB:B≤w.heap.size)(h6:6≤B)(hg:Gl w)(ht:TkB B w b o t)
  (hta:w.cell? ⟨b,o+2,none⟩=some (.slice At_ t.attrs.length ct)) (hr:Reads w B 3 At_ t.attrs.length (gas (t.attrs.map At.g))) (hn:t.attrs.length≤100000000) (htn:t.name.length≤1000000000) (hv:∀a∈t.attrs,a.name.length≤1000000000)
  (x:Nat×Nat) (he:Sx.early st t=some x) :
  Calls Tryz.prog 34 #[.pointer (some ⟨P,0,none⟩),.pointer (some ⟨b,o,none⟩)] w (StepR B P w (.error x)):=by
 have HNm:=hide (names_any B P w st v b o t At_ ct h hB h6 hg ht hta hr hn htn hv);have H:=hide h;have HB:=hide hB;have Ht:=hide ht;have hta0:=hide hta;unfold Sx.early at he;clear h hB h6 hg ht hr hv htn hta
 cases hnm:names t with
 | some a=>
  rw[hnm] at he;simp only[Option.some.injEq] at he;subst he;have Hnm:=hide hnm;clear hnm
  go_enter Tryz.func34,Tryz.ntmps34
  go_wp2_with fail
  refine HNm.out.mono ?_;rintro e w1 ⟨vb,Al,cl,rfl,h1,h2,h3⟩;rw[Hnm.out] at h1;obtain⟨F,hF⟩:=PI.vb_some (x:=(a,50)) h1;have c4:=h1.c4;rw[hF] at c4;have I1:=hide h1;have M1:=hide (Mov.of_but (B:=B) h3);clear h1 h2 h3 hF;go_wp2;go_end0;exact⟨rfl,M1.out,_,_,I1.out⟩
 | none=>
  rw[hnm] at he;dsimp only at he;have Hnm:=hide hnm;obtain⟨no,hno⟩:∃no,st.open_.length=no:=⟨_,rfl⟩;obtain⟨na,hna⟩:∃na,t.attrs.length=na:=⟨_,rfl⟩;obtain⟨ro,hro⟩:∃ro,st.rooted=ro:=⟨_,rfl⟩;have Hno:=hide hno;have Hna:=hide hna;have Hro:=hide hro;have hemp:st.open_.isEmpty=decide (no=0):=by rw[←hno];cases st.open_<;>simp
  rw[hro,hemp,hna,hno] at he;have Hta:=hta0;clear hnm hno hna hro hemp hn hta0
  by_cases c1:ro=true∧no=0
  ·obtain⟨r1,r2⟩:=c1;subst r1 r2;simp only[decide_true,Bool.and_true,if_true,Option.some.injEq] at he;subst he
   go_enter Tryz.func34,Tryz.ntmps34
   go_wp2_with fail
   refine HNm.out.mono ?_;rintro e w1 ⟨vb,Al,cl,rfl,h1,h2,h3⟩;rw[Hnm.out] at h1;replace h1:PI B P w1 st none ⟨v.Ao,v.co,v.As,v.cs,v.Ae,v.ce,vb,v.xs⟩:=h1;have hb1:=h3.below (B:=B) H.out.bp HB.out;have c4:=h1.c4;rw[h1.vb_none] at c4;have c0:=h1.c;have c3:=h1.c3;rw[Hno.out] at c0;rw[Hro.out] at c3;have t5:=(hb1.cell (p:=⟨b,o+5,none⟩) Ht.out.lt).trans Ht.out.c5;have t2:=(hb1.cell (p:=⟨b,o+2,none⟩) Ht.out.lt).trans Hta.out;rw[Hna.out] at t2;have I1:=hide (show PI B P w1 st none ⟨v.Ao,v.co,v.As,v.cs,v.Ae,v.ce,vb,v.xs⟩ from h1);have M1:=hide (Mov.of_but (B:=B) h3);have HW:=hide (wrong_any B P w1 st none _ t.at_ 50 I1.out (Nat.le_trans HB.out h3.size));clear h1 h2 h3 hb1
   go_wp2_with fail
   refine HW.out.mono ?_;rintro e w2 ⟨vb2,rfl,h1,h2⟩;obtain⟨F,hF⟩:=PI.vb_some (x:=(t.at_,50)) h1;have c4':=h1.c4;rw[hF] at c4';have I2:=hide h1;have M2:=hide (M1.out.trans h2);clear h1 h2 hF c4 c0 c3;dsimp only
   rename_i hK0
   refine hK0 _ _ ?_;clear hK0;go_wp2;go_end0;exact⟨rfl,M2.out,_,_,I2.out⟩
  rw[if_neg (by simp;intro e h;exact c1 ⟨e,h⟩)] at he
  have hmode:ro=false∨(ro=true∧0<no):=by
   cases ro with
   | false=>exact .inl rfl
   | true=>exact .inr ⟨rfl,Nat.pos_of_ne_zero fun e=>c1 ⟨rfl,e⟩⟩
  clear c1
  by_cases c2:16<na
  ·rw[if_pos c2] at he;simp only[Option.some.injEq] at he;subst he
   rcases hmode with r1|⟨r1,r2⟩
   ·subst r1
    go_enter Tryz.func34,Tryz.ntmps34
    go_wp2_with fail
    refine HNm.out.mono ?_;rintro e w1 ⟨vb,Al,cl,rfl,h1,h2,h3⟩;rw[Hnm.out] at h1;replace h1:PI B P w1 st none ⟨v.Ao,v.co,v.As,v.cs,v.Ae,v.ce,vb,v.xs⟩:=h1;have hb1:=h3.below (B:=B) H.out.bp HB.out;have c4:=h1.c4;rw[h1.vb_none] at c4;have c0:=h1.c;have c3:=h1.c3;rw[Hno.out] at c0;rw[Hro.out] at c3;have t5:=(hb1.cell (p:=⟨b,o+5,none⟩) Ht.out.lt).trans Ht.out.c5;have t2:=(hb1.cell (p:=⟨b,o+2,none⟩) Ht.out.lt).trans Hta.out;rw[Hna.out] at t2;have I1:=hide (show PI B P w1 st none ⟨v.Ao,v.co,v.As,v.cs,v.Ae,v.ce,vb,v.xs⟩ from h1);have M1:=hide (Mov.of_but (B:=B) h3);have HW:=hide (wrong_any B P w1 st none _ t.at_ 42 I1.out (Nat.le_trans HB.out h3.size));clear h1 h2 h3 hb1
    go_wp2_with fail
    refine HW.out.mono ?_;rintro e w2 ⟨vb2,rfl,h1,h2⟩;obtain⟨F,hF⟩:=PI.vb_some (x:=(t.at_,42)) h1;have c4':=h1.c4;rw[hF] at c4';have I2:=hide h1;have M2:=hide (M1.out.trans h2);clear h1 h2 hF c4 c0 c3;dsimp only
    rename_i hK0
    refine hK0 _ _ ?_;clear hK0;go_wp2;go_end0;exact⟨rfl,M2.out,_,_,I2.out⟩
   subst r1;have r3:((no:Int)==0)=false:=by rw[beq_eq_false_iff_ne];omega
   go_enter Tryz.func34,Tryz.ntmps34
   go_wp2_with fail
   refine HNm.out.mono ?_;rintro e w1 ⟨vb,Al,cl,rfl,h1,h2,h3⟩;rw[Hnm.out] at h1;replace h1:PI B P w1 st none ⟨v.Ao,v.co,v.As,v.cs,v.Ae,v.ce,vb,v.xs⟩:=h1;have hb1:=h3.below (B:=B) H.out.bp HB.out;have c4:=h1.c4;rw[h1.vb_none] at c4;have c0:=h1.c;have c3:=h1.c3;rw[Hno.out] at c0;rw[Hro.out] at c3;have t5:=(hb1.cell (p:=⟨b,o+5,none⟩) Ht.out.lt).trans Ht.out.c5;have t2:=(hb1.cell (p:=⟨b,o+2,none⟩) Ht.out.lt).trans Hta.out;rw[Hna.out] at t2;have I1:=hide (show PI B P w1 st none ⟨v.Ao,v.co,v.As,v.cs,v.Ae,v.ce,vb,v.xs⟩ from h1);have M1:=hide (Mov.of_but (B:=B) h3);have HW:=hide (wrong_any B P w1 st none _ t.at_ 42 I1.out (Nat.le_trans HB.out h3.size));clear h1 h2 h3 hb1
   go_wp2_with fail
   refine HW.out.mono ?_;rintro e w2 ⟨vb2,rfl,h1,h2⟩;obtain⟨F,hF⟩:=PI.vb_some (x:=(t.at_,42)) h1;have c4':=h1.c4;rw[hF] at c4';have I2:=hide h1;have M2:=hide (M1.out.trans h2);clear h1 h2 hF c4 c0 c3;dsimp only
   rename_i hK0
   refine hK0 _ _ ?_;clear hK0;go_wp2;go_end0;exact⟨rfl,M2.out,_,_,I2.out⟩
  rw[if_neg c2] at he
  by_cases c3':no=16
  ·rw[if_pos c3'] at he;simp only[Option.some.injEq] at he;subst he c3'
   rcases hmode with r1|⟨r1,r2⟩
   ·subst r1
    go_enter Tryz.func34,Tryz.ntmps34
    go_wp2_with fail
    refine HNm.out.mono ?_;rintro e w1 ⟨vb,Al,cl,rfl,h1,h2,h3⟩;rw[Hnm.out] at h1;replace h1:PI B P w1 st none ⟨v.Ao,v.co,v.As,v.cs,v.Ae,v.ce,vb,v.xs⟩:=h1;have hb1:=h3.below (B:=B) H.out.bp HB.out;have c4:=h1.c4;rw[h1.vb_none] at c4;have c0:=h1.c;have c3:=h1.c3;rw[Hno.out] at c0;rw[Hro.out] at c3;have t5:=(hb1.cell (p:=⟨b,o+5,none⟩) Ht.out.lt).trans Ht.out.c5;have t2:=(hb1.cell (p:=⟨b,o+2,none⟩) Ht.out.lt).trans Hta.out;rw[Hna.out] at t2;have I1:=hide (show PI B P w1 st none ⟨v.Ao,v.co,v.As,v.cs,v.Ae,v.ce,vb,v.xs⟩ from h1);have M1:=hide (Mov.of_but (B:=B) h3);have HW:=hide (wrong_any B P w1 st none _ t.at_ 41 I1.out (Nat.le_trans HB.out h3.size));clear h1 h2 h3 hb1
    go_wp2_with fail
    refine HW.out.mono ?_;rintro e w2 ⟨vb2,rfl,h1,h2⟩;obtain⟨F,hF⟩:=PI.vb_some (x:=(t.at_,41)) h1;have c4':=h1.c4;rw[hF] at c4';have I2:=hide h1;have M2:=hide (M1.out.trans h2);clear h1 h2 hF c4 c0 c3;dsimp only
    rename_i hK0
    refine hK0 _ _ ?_;clear hK0;go_wp2;go_end0;exact⟨rfl,M2.out,_,_,I2.out⟩
   subst r1
   go_enter Tryz.func34,Tryz.ntmps34
   go_wp2_with fail
   refine HNm.out.mono ?_;rintro e w1 ⟨vb,Al,cl,rfl,h1,h2,h3⟩;rw[Hnm.out] at h1;replace h1:PI B P w1 st none ⟨v.Ao,v.co,v.As,v.cs,v.Ae,v.ce,vb,v.xs⟩:=h1;have hb1:=h3.below (B:=B) H.out.bp HB.out;have c4:=h1.c4;rw[h1.vb_none] at c4;have c0:=h1.c;have c3:=h1.c3;rw[Hno.out] at c0;rw[Hro.out] at c3;have t5:=(hb1.cell (p:=⟨b,o+5,none⟩) Ht.out.lt).trans Ht.out.c5;have t2:=(hb1.cell (p:=⟨b,o+2,none⟩) Ht.out.lt).trans Hta.out;rw[Hna.out] at t2;have I1:=hide (show PI B P w1 st none ⟨v.Ao,v.co,v.As,v.cs,v.Ae,v.ce,vb,v.xs⟩ from h1);have M1:=hide (Mov.of_but (B:=B) h3);have HW:=hide (wrong_any B P w1 st none _ t.at_ 41 I1.out (Nat.le_trans HB.out h3.size));clear h1 h2 h3 hb1
   go_wp2_with fail
   refine HW.out.mono ?_;rintro e w2 ⟨vb2,rfl,h1,h2⟩;obtain⟨F,hF⟩:=PI.vb_some (x:=(t.at_,41)) h1;have c4':=h1.c4;rw[hF] at c4';have I2:=hide h1;have M2:=hide (M1.out.trans h2);clear h1 h2 hF c4 c0 c3;dsimp only
   rename_i hK0
   refine hK0 _ _ ?_;clear hK0;go_wp2;go_end0;exact⟨rfl,M2.out,_,_,I2.out⟩
  rw[if_neg c3'] at he;cases he
end
section
open Go

section
variable {P:Program} {ops:Array Oper} {Q:Exit→Act→World→Prop} {md:Region.Mode} {S:World→Prop} {b:Nat}
def wpAnyB(P:Program)(md:Region.Mode)(ops:Array Oper)(Q:Exit→Act→World→Prop)(S:World→Prop)(b:Nat):Nat→Array Bool→Act→World→Prop
 | 0,listed,a,w=>Region.ready md ops listed=[]∧Q .normal a w
 | fuel+1,listed,a,w=>
  (Region.ready md ops listed=[]→Q .normal a w)∧
  ∀i∈Region.ready md ops listed,wpOp P ops Q i (fun a' w'=>((listed.setIfInBounds i true).getD b true=false→S w')∧wpAnyB P md ops Q S b fuel (listed.setIfInBounds i true) a' w') a w
theorem wpAny_of_B:∀(fuel:Nat) (listed:Array Bool) (a:Act) (w:World),wpAnyB P md ops Q S b fuel listed a w→wpAny P md ops Q fuel listed a w
 | 0,_,_,_,h=>h
 | fuel+1,_,_,_,h=>⟨h.1,fun i hi=>wpOp_mono (fun a' w' h'=>wpAny_of_B fuel _ a' w' h'.2) (h.2 i hi)⟩
def waitsFor(md:Region.Mode)(ops:Array Oper)(b i:Nat):Bool:=((ops[b]?).map fun o=>o.after.any fun e=>Region.binds md e&&e.on==i).getD false
theorem not_ready{listed:Array Bool}{i:Nat}(hw:waitsFor md ops b i=true)(hr:i∈Region.ready md ops listed):b∉Region.ready md ops listed:=by
 intro hb;obtain⟨_,ob,hob,hall⟩:=mem_ready.1 hb;obtain⟨h0,_⟩:=mem_ready.1 hr;unfold waitsFor at hw;rw[hob] at hw;simp only[Option.map_some,Option.getD_some] at hw;obtain⟨e,he,hbe⟩:=Array.any_eq_true'.1 hw;simp only[Bool.and_eq_true,beq_iff_eq] at hbe;have h1:=hall e he hbe.1;rw[hbe.2] at h1
 rcases Nat.lt_or_ge i listed.size with h' | h'
 ·simp[h'] at h0 h1;rw[h0] at h1;cases h1
 simp[Array.getElem?_eq_none h'] at h1
theorem wpAnyB_first{i:Nat}{oi:Oper}{v:Value}(hi:ops[i]?=some oi)(hsel:∀(j:Nat) (o:Oper) cs b,ops[j]?=some o→o.op≠.select cs b)
  (hQ:∀c a w,Q (.panic c) (a.put oi.dst v) w→Q (.panic c) a w) (hw:waitsFor md ops b i=true) :
  ∀(fuel:Nat) (listed:Array Bool) (a:Act) (w:World),
   (∀j oj,ops[j]?=some oj→j≠i→listed.getD j true=false→(∀e∈oj.after,Region.binds md e=true→e.on≠i)→oi.apart ops oj=true)→
   i∈Region.ready md ops listed→listed.getD b true=false→YieldsIf P ops S oi v a→S w→
   wpAnyB P md ops Q S b fuel (listed.setIfInBounds i true) (a.put oi.dst v) w→wpAnyB P md ops Q S b (fuel+1) listed a w:=by
 intro fuel
 induction fuel with
 | zero=>
  intro listed a w _ hr hb hy hS H;refine⟨fun h=>(by rw[h] at hr;cases hr),fun j hj=>?_⟩
  by_cases hji:j=i
  ·subst hji;exact hy.wpOp hi hS ⟨fun _=>hS,H⟩
  have:=ready_mono hj hji;rw[H.1] at this;cases this
 | succ fuel ih=>
  intro listed a w hfree hr hb hy hS H;refine⟨fun h=>(by rw[h] at hr;cases hr),fun j hj=>?_⟩
  by_cases hji:j=i
  ·subst hji;exact hy.wpOp hi hS ⟨fun _=>hS,H⟩
  have h1:=H.2 j (ready_mono hj hji);have hnb:=not_ready hw hr;have hbi:i≠b:=fun e=>hnb (by rw[←e];exact hr);have hbj:j≠b:=fun e=>hnb (by rw[←e];exact hj);obtain⟨hjun,oj,hoj,hall⟩:=mem_ready.1 hj
  have hnot:∀e∈oj.after,Region.binds md e=true→e.on≠i:=fun e he hb heq=>by
   have h1:=hall e he hb;have h0:=(mem_ready.1 hr).1;rw[heq] at h1
   rcases Nat.lt_or_ge i listed.size with h' | h'
   ·simp[h'] at h0 h1;rw[h0] at h1;cases h1
   simp[Array.getElem?_eq_none h'] at h1
  have h2:=wpOp_putIf hoj (hfree j oj hoj hji hjun hnot) (fun cs b=>hsel i oi cs b hi) (fun cs b=>hsel j oj cs b hoj) hQ hy h1
  have hfree':∀k ok,ops[k]?=some ok→k≠i→(listed.setIfInBounds j true).getD k true=false→
    (∀e∈ok.after,Region.binds md e=true→e.on≠i)→oi.apart ops ok=true:=fun k ok hk hki hun hno=>by
   refine hfree k ok hk hki ?_ hno
   by_cases hjk:j=k
   ·subst hjk;exact hjun
   rw[getD_set_ne true hjk] at hun;exact hun
  have hbl:(listed.setIfInBounds j true).getD b true=false:=by rw[getD_set_ne true hbj];exact hb
  have hbl2:((listed.setIfInBounds i true).setIfInBounds j true).getD b true=false:=by rw[getD_set_ne true hbj,getD_set_ne true hbi];exact hb
  refine wpOp_mono (fun a' w' h3=>⟨fun _=>h3.2.1 hbl2,ih (listed.setIfInBounds j true) a' w' hfree' (ready_mono hr (Ne.symm hji)) hbl h3.1 (h3.2.1 hbl2) ?_⟩) h2;rw[Array.setIfInBounds_comm _ _ hji];exact h3.2.2
theorem wpAnyB_firstY{i:Nat}{oi:Oper}{v:Value}(hi:ops[i]?=some oi)(hsel:∀(j:Nat) (o:Oper) cs b,ops[j]?=some o→o.op≠.select cs b)
  (hQ:∀c a w,Q (.panic c) (a.put oi.dst v) w→Q (.panic c) a w) (hbi:i≠b) :
  ∀(fuel:Nat) (listed:Array Bool) (a:Act) (w:World),
   (∀j oj,ops[j]?=some oj→j≠i→listed.getD j true=false→(∀e∈oj.after,Region.binds md e=true→e.on≠i)→oi.apart ops oj=true)→
   i∈Region.ready md ops listed→YieldsIf P ops (fun _=>True) oi v a→(listed.getD b true=false→S w)→
   wpAnyB P md ops Q S b fuel (listed.setIfInBounds i true) (a.put oi.dst v) w→wpAnyB P md ops Q S b (fuel+1) listed a w:=by
 intro fuel
 induction fuel with
 | zero=>
  intro listed a w _ hr hy hS H;refine⟨fun h=>(by rw[h] at hr;cases hr),fun j hj=>?_⟩
  by_cases hji:j=i
  ·subst hji;exact hy.wpOp hi trivial ⟨fun h=>hS (by rwa[getD_set_ne true hbi] at h),H⟩
  have:=ready_mono hj hji;rw[H.1] at this;cases this
 | succ fuel ih=>
  intro listed a w hfree hr hy hS H;refine⟨fun h=>(by rw[h] at hr;cases hr),fun j hj=>?_⟩
  by_cases hji:j=i
  ·subst hji;exact hy.wpOp hi trivial ⟨fun h=>hS (by rwa[getD_set_ne true hbi] at h),H⟩
  have h1:=H.2 j (ready_mono hj hji);obtain⟨hjun,oj,hoj,hall⟩:=mem_ready.1 hj
  have hnot:∀e∈oj.after,Region.binds md e=true→e.on≠i:=fun e he hb heq=>by
   have h1:=hall e he hb;have h0:=(mem_ready.1 hr).1;rw[heq] at h1
   rcases Nat.lt_or_ge i listed.size with h' | h'
   ·simp[h'] at h0 h1;rw[h0] at h1;cases h1
   simp[Array.getElem?_eq_none h'] at h1
  have h2:=wpOp_putIf hoj (hfree j oj hoj hji hjun hnot) (fun cs b=>hsel i oi cs b hi) (fun cs b=>hsel j oj cs b hoj) hQ hy h1
  have hfree':∀k ok,ops[k]?=some ok→k≠i→(listed.setIfInBounds j true).getD k true=false→
    (∀e∈ok.after,Region.binds md e=true→e.on≠i)→oi.apart ops ok=true:=fun k ok hk hki hun hno=>by
   refine hfree k ok hk hki ?_ hno
   by_cases hjk:j=k
   ·subst hjk;exact hjun
   rw[getD_set_ne true hjk] at hun;exact hun
  have key:∀{w':World},(((listed.setIfInBounds i true).setIfInBounds j true).getD b true=false→S w')→(listed.setIfInBounds j true).getD b true=false→S w':=fun h1 h=>h1 (by
   rw[Array.setIfInBounds_comm _ _ (Ne.symm hji),getD_set_ne true hbi];exact h)
  refine wpOp_mono (fun a' w' h3=>⟨key h3.2.1,ih (listed.setIfInBounds j true) a' w' hfree' (ready_mono hr (Ne.symm hji)) h3.1 (key h3.2.1) ?_⟩) h2;rw[Array.setIfInBounds_comm _ _ hji];exact h3.2.2
end
section
variable {P:Program} {l:List Oper} {Q:Exit→Act→World→Prop} {md:Region.Mode} {S:World→Prop} {b:Nat}
theorem heldB_take{i d:Nat}{oi:Oper}{v:Value}{fuel:Nat}{listed:Array Bool}{a:Act}{w:World}(hi:l[i]?=some oi)(hd:oi.dst=some d)
  (hs:Region.noSelect l.toArray=true) (hf:Region.free md l.toArray listed i=true) (hr:(Region.ready md l.toArray listed).contains i=true)
  (hQ:∀c a w,Q (.panic c) (a.put oi.dst v) w→Q (.panic c) a w) (hw:Region.wanted oi (yielded l.toArray a.tmps)=true) (hb:(waitsFor md l.toArray b i && !listed.getD b true)=true) (hS:S w) (hy:∀w,S w→(execOp a.eval oi).run P w=.ok (.value v) w)
  (h:wpAnyB P md l.toArray Q S b fuel (listed.setIfInBounds i true) { tmps:=a.tmps.setIfInBounds d v,defers:=a.defers } w):wpAnyB P md l.toArray Q S b (fuel+1) listed a w:=by
 simp only[Bool.and_eq_true,Bool.not_eq_true'] at hb;exact wpAnyB_first (by simpa using hi) (Region.noSelect_spec hs) hQ hb.1 fuel listed a w (Region.free_spec (by simpa using hi) hf) (by simpa using hr) hb.2 (Or.inl ⟨hw,hy⟩) hS (by rw[put_some hd];exact h)
theorem heldB_free{i d:Nat}{oi:Oper}{v:Value}{fuel:Nat}{listed:Array Bool}{a:Act}{w:World}(hi:l[i]?=some oi)(hd:oi.dst=some d)
  (hs:Region.noSelect l.toArray=true) (hf:Region.free md l.toArray listed i=true) (hr:(Region.ready md l.toArray listed).contains i=true)
  (hQ:∀c a w,Q (.panic c) (a.put oi.dst v) w→Q (.panic c) a w) (hw:Region.wanted oi (yielded l.toArray a.tmps)=true) (hb:(i != b)=true) (hS:listed.getD b true=true∨S w) (hy:∀w,(execOp a.eval oi).run P w=.ok (.value v) w)
  (h:wpAnyB P md l.toArray Q S b fuel (listed.setIfInBounds i true) { tmps:=a.tmps.setIfInBounds d v,defers:=a.defers } w):wpAnyB P md l.toArray Q S b (fuel+1) listed a w :=
 wpAnyB_firstY (by simpa using hi) (Region.noSelect_spec hs) hQ (by simpa using hb) fuel listed a w (Region.free_spec (by simpa using hi) hf) (by simpa using hr) (Or.inl ⟨hw,fun w _=>hy w⟩)
  (fun h=>hS.elim (fun h2=>by rw[h] at h2;cases h2) id) (by rw[put_some hd];exact h)
theorem nbT{d:Nat}{oi:Oper}{v:Value}{fuel:Nat}{ls:List Bool}{tm:List Value}{df:List Deferred}{w:World}(hi:l[nx ls]?=some oi)(hd:oi.dst=some d)(hS:S w)
  (hy:∀w,S w→(execOp (Act.eval ⟨tm.toArray,df⟩) oi).run P w=.ok (.value v) w) (h:wpAnyB P md l.toArray Q S b fuel (ls.set (nx ls) true).toArray { tmps:=(tm.set d v).toArray,defers:=df } w)
  (hs:Region.noSelect l.toArray=true:=by kernel_rfl) (hf:Region.free md l.toArray ls.toArray (nx ls)=true:=by kernel_rfl) (hr:(Region.ready md l.toArray ls.toArray).contains (nx ls)=true:=by kernel_rfl)
  (hw:Region.wanted oi (yielded l.toArray tm.toArray)=true:=by kernel_rfl) (hb:(waitsFor md l.toArray b (nx ls) && !ls.toArray.getD b true)=true:=by kernel_rfl) (hQ:∀c a w,Q (.panic c) (a.put oi.dst v) w→Q (.panic c) a w:=by exact fun _ _ _ h=>h):wpAnyB P md l.toArray Q S b (fuel+1) ls.toArray ⟨tm.toArray,df⟩ w :=
 heldB_take hi hd hs hf hr hQ hw hb hS hy (by simpa using h)
theorem nbF{d:Nat}{oi:Oper}{v:Value}{fuel:Nat}{ls:List Bool}{tm:List Value}{df:List Deferred}{w:World}(hi:l[nx ls]?=some oi)(hd:oi.dst=some d)(hS:S w)
  (hy:∀w,(execOp (Act.eval ⟨tm.toArray,df⟩) oi).run P w=.ok (.value v) w) (h:wpAnyB P md l.toArray Q S b fuel (ls.set (nx ls) true).toArray { tmps:=(tm.set d v).toArray,defers:=df } w)
  (hs:Region.noSelect l.toArray=true:=by kernel_rfl) (hf:Region.free md l.toArray ls.toArray (nx ls)=true:=by kernel_rfl) (hr:(Region.ready md l.toArray ls.toArray).contains (nx ls)=true:=by kernel_rfl)
  (hw:Region.wanted oi (yielded l.toArray tm.toArray)=true:=by kernel_rfl) (hb:(nx ls != b)=true:=by kernel_rfl) (hQ:∀c a w,Q (.panic c) (a.put oi.dst v) w→Q (.panic c) a w:=by exact fun _ _ _ h=>h):wpAnyB P md l.toArray Q S b (fuel+1) ls.toArray ⟨tm.toArray,df⟩ w :=
 heldB_free hi hd hs hf hr hQ hw hb (.inr hS) hy (by simpa using h)
theorem wpAnyB_one{i:Nat}{oi:Oper}{fuel:Nat}{listed:Array Bool}{a:Act}{w:World}(hi:l[i]?=some oi)(hr:Region.ready md l.toArray listed=[i])(hw:Region.wanted oi (yielded l.toArray a.tmps)=true)
  (h:∀K':Act→World→Prop,(∀a w,(((listed.setIfInBounds i true).getD b true=false→S w)∧wpAnyB P md l.toArray Q S b fuel (listed.setIfInBounds i true) a w)→K' a w)→Oper.wp P oi a w K' Q):wpAnyB P md l.toArray Q S b (fuel+1) listed a w:=by
 refine⟨fun h0=>(by rw[h0] at hr;cases hr),fun j hj=>?_⟩;rw[hr] at hj;obtain rfl:=List.mem_singleton.1 hj;exact wpOp_step (by simpa using hi) fun K' hK=>by rw[if_pos hw];exact h K' hK
theorem heldB_call{i:Nat}{oi:Oper}{fuel:Nat}{listed:Array Bool}{a:Act}{w:World}(hi:l[i]?=some oi)(hr:Region.ready md l.toArray listed=[i])(hw:Region.wanted oi (yielded l.toArray a.tmps)=true)
  (h:∀K':Act→World→Prop,Shut (∀a w,S w→(S w→wpAnyB P md l.toArray Q S b fuel (listed.setIfInBounds i true) a w)→K' a w)→Oper.wp P oi a w K' Q):wpAnyB P md l.toArray Q S b (fuel+1) listed a w :=
 wpAnyB_one hi hr hw fun K' hK=>h K' fun a w hS hW=>hK a w ⟨fun _=>hS,hW hS⟩
theorem heldB_last{i:Nat}{oi:Oper}{fuel:Nat}{listed:Array Bool}{a:Act}{w:World}(hi:l[i]?=some oi)(hr:Region.ready md l.toArray listed=[i])(hw:Region.wanted oi (yielded l.toArray a.tmps)=true)
  (hb:(listed.setIfInBounds i true).getD b true=true)
  (h:∀K':Act→World→Prop,Shut (∀a w,wpAnyB P md l.toArray Q S b fuel (listed.setIfInBounds i true) a w→K' a w)→Oper.wp P oi a w K' Q):wpAnyB P md l.toArray Q S b (fuel+1) listed a w :=
 wpAnyB_one hi hr hw fun K' hK=>h K' fun a w hW=>hK a w ⟨fun h2=>(by rw[hb] at h2;cases h2),hW⟩
theorem heldB_done{listed:Array Bool}{a:Act}{w:World}(hr:Region.ready md l.toArray listed=[])(h:Q .normal a w):∀fuel,wpAnyB P md l.toArray Q S b fuel listed a w
 | 0=>⟨hr,h⟩
 | _+1=>⟨fun _=>h,by rw[hr];simp⟩
theorem wp_region_B{id:Nat}{a:Act}{w:World}(b:Nat)(S:World→Prop)(hm:P.follows .mixedOrders=true)(hS:S w.drew)
  (h:S w.drew→wpAnyB P .any l.toArray Q S b l.toArray.size (Array.replicate l.toArray.size false) a w.drew):(Code.region id l.toArray true).wp P Q a w :=
 wp_region_any hm (wpAny_of_B _ _ _ _ (h hS))
end
end
end Go.Proofs.YtifiiojchlaghaaGreatDoor
