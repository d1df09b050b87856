/- Strict: the program's start of an element, from its values on. And more. -/
import Derived.Test.YtpdkeckeekchlaaGreatDoorOt16
import Derived.Test.YtpdkeckeekchlaaGreatDoorOt17
import Derived.Deep.CutBlock
set_option linter.unusedSimpArgs false
set_option maxRecDepth 100000
set_option maxHeartbeats 64000000
set_option linter.unusedVariables false
namespace Go.Proofs.YtpdkeckeekchlaaGreatDoor
section
open Go.RowKit Tk Sx

theorem acs{B:Nat}{w:World}{b:bS}{v:Value}(h:gJ B w b v):∃p,v=.pointer p:=by
 unfold gJ at h
 cases b with
 | none=>exact⟨_,h⟩
 | some x=>obtain⟨F,_,h2,_⟩:=h;exact⟨_,h2⟩
def O0(B P E base:Nat)(w:World)(st:St)(t:Tok)(sc:List aB)(x:Option Nat)(nm:Nm)(Al Ao:Option Addr)(cl:Nat)(W:World):Prop :=
 ∃v,PI B P W ⟨st.open_,sc,st.evs,st.gI⟩ (cW x) v∧ae W E 140 #[.string (aa t.name),.string (aa nm.ns),.string (aa nm.loc),.int .i64 (st.scope.length:Int)]∧
  W.ownsRow base 185 4 (.slice Al t.attrs.length cl) t.attrs.length (cS (splits t))∧aF B P w W∧Below B w W∧v.Ao=Ao
theorem PI.X6{B P E i:Nat}{w:World}{st:St}{b:bS}{v:Pv}{cs:Array Value}(h:PI B P w st b v)(hE:ae w E 140 cs)(AX:B≤E)(hn:∀a,v.Ao=some a→a.block≠E)(u:Value):PI B P (w.setCell ⟨E,i,none⟩ u) st b v:=by
 have hm:aF B P w (w.setCell ⟨E,i,none⟩ u):=(aF.refl B P w).alj (p:=⟨E,i,none⟩) ⟨AX,.inl hE.fh⟩ u;refine⟨h.blk.far (p:=⟨E,i,none⟩) (fun e=>by have e2:P=E:=e;subst e2;exact gV h.blk.fh hE.fh (by decide)) u,h.bp,?_,?_,?_,h.ev,?_,?_⟩
 ·refine⟨h.o.1,?_⟩
  rcases h.o.2 with LW|⟨g,cap,cur,hv,jr,dT,rest⟩
  ·exact .inl LW
  refine .inr ⟨g,cap,cur,hv,jr,(Below.heap_setCell _ _ _ _ ?_).trans dT,rest⟩;have hA:v.Ao=some ⟨g,0,none⟩:=by injection hv
  exact hn _ hA
 ·exact dN (p:=⟨E,i,none⟩) h.s hE (by decide) u
 ·exact dN (p:=⟨E,i,none⟩) h.e hE (by decide) u
 ·exact fun x hx=>(h.gU x hx).fZ hm (tu (h.gU x hx) h.blk)
 exact h.bad.fZ hm h.blk (by decide)

theorem alS(l:L):((split l).getD ([],[])).1.length≤l.length∧((split l).getD ([],[])).2.length≤l.length:=by
 have h:=Sz l [58];unfold split;split
 ·split
  ·exact h
  exact⟨Nat.zero_le _,Nat.zero_le _⟩
 split
 ·exact⟨Nat.zero_le _,Nat.le_refl _⟩
 exact⟨Nat.zero_le _,Nat.zero_le _⟩
theorem alQ(a:At):(fp a).loc.length≤a.name.length:=by
 have h:=alS a.name;unfold fp
 cases hs:split a.name with
 | none=>exact Nat.zero_le _
 | some x=>rw[hs] at h;exact h.2
theorem anb(a:At):(Sx.valOf a).length≤4*a.value.length:=by
 unfold Sx.valOf
 cases hv:value a.value with
 | error e=>exact Nat.zero_le _
 | ok v=>
  unfold value at hv;dsimp only
  split at hv
  ·split at hv<;>cases hv
  have:=Ys _ _ _ _ hv;rwa[List.length_map] at this
theorem Kc{m:Nat}:∀(l:List bT) (sc:List aB),(∀d∈sc,d.ns.length≤m)→(∀s∈l,s.val.length≤m)→∀d∈declared sc l,d.ns.length≤m
 | [],sc,h,_=>h
 | s :: l,sc,h,h2=>by
  rw[declared];split
  ·refine Kc l _ (fun d hd=>?_) (fun x hx=>h2 x (List.mem_cons_of_mem _ hx))
   rcases List.mem_append.1 hd with hd|hd
   ·exact h d hd
   rw[List.mem_singleton.1 hd];exact h2 s (List.mem_cons_self ..)
  exact Kc l _ h (fun x hx=>h2 x (List.mem_cons_of_mem _ hx))

theorem PI.alk{B P:Nat}{w w1:World}{st:St}{b:bS}{v:Pv}{A:Option Addr}{c:Nat}{op:List El}(h:PI B P w st b v)(hm:cg B 140 w w1)(ho:w1.ownsRow B 140 4 (.slice A op.length c) op.length (els op)) :
  PI B P (w1.setCell ⟨P,0,none⟩ (.slice A op.length c)) ⟨op,st.scope,st.evs,st.gI⟩ b ⟨A,c,v.As,v.cs,v.Ae,v.ce,v.vb,v.xs⟩:=by
 have hb:=hm.blk h.blk (by decide);refine⟨hb.aH 0 _,h.bp,?_,?_,?_,h.ev,?_,?_⟩
 ·exact dN (p:=⟨P,0,none⟩) ho hb (by decide) _
 ·exact dN (p:=⟨P,0,none⟩) (hm.own h.s (by decide)) hb (by decide) _
 ·exact dN (p:=⟨P,0,none⟩) (hm.own h.e (by decide)) hb (by decide) _
 ·intro y hy;have oU:y.In B w1:=(h.gU y hy).um hm (by decide);exact oU.fZ ((aF.refl B P w1).setCell (p:=⟨P,0,none⟩) (.inl rfl) _) (tu oU hb)
 have h1:=h.bad.um hm (by decide);exact h1.fZ ((aF.refl B P w1).setCell (p:=⟨P,0,none⟩) (.inl rfl) _) hb (by decide)
theorem PI.aln{B P:Nat}{w:World}{st:St}{b:bS}{v:Pv}(h:PI B P w st b v):PI B P (w.setCell ⟨P,3,none⟩ (.bool true)) ⟨st.open_,st.scope,st.evs,true⟩ b v :=
 h.put 3 (.bool true) rfl ⟨rfl,rfl,rfl⟩ ⟨rfl,rfl,rfl⟩ ⟨rfl,rfl,rfl,rfl⟩ (h.bad.fZ ((aF.refl B P w).setCell (p:=⟨P,3,none⟩) (.inl rfl) _) h.blk (by decide))
theorem adK(l:List El)(x:El):els (l++[x])=els l++oA x:=by simp[els]
theorem adF(x:El):∀u∈oA x,u.oneCell'=true:=by
 intro u hu;simp only[oA,List.mem_cons,List.not_mem_nil,or_false] at hu
 rcases hu with rfl|rfl|rfl|rfl<;>rfl
theorem agG{B Z:Nat}{w:World}{e:Ev}{A:Option Addr}{c:Nat}(h:w.ownsRow Z 155 3 (.slice A e.attrs.length c) e.attrs.length (jl e.attrs))(hZ:B≤Z):(Ew.mk e A c).In B w :=
 ⟨Reads.cY h,fun a ha=>Nat.le_trans hZ (AB h a ha),CY h⟩
theorem ajq(l:List Ev)(x:Ev):(dO l x).length≤l.length+1:=by
 unfold dO;split
 ·simp
 split
 ·split
  ·simp only[List.length_append,List.length_dropLast,List.length_singleton];omega
  split
  ·exact Nat.le_succ _
  simp
 split
 ·exact Nat.le_succ _
 simp
theorem ajr{l:List Ev}{x:Ev}{M:Nat}(h:∀y∈l,y.text.length≤M)(hx:x.kind≠2)(h2:x.text.length≤M):∀y∈dO l x,y.text.length≤M:=by
 rw[XE hx];intro y hy
 rcases List.mem_append.1 hy with hy|hy
 ·exact h y hy
 rw[List.mem_singleton.1 hy];exact h2
theorem adl(l:List bT):∀sc:List aB,sc.length≤(declared sc l).length:=by
 induction l with
 | nil=>intro sc;exact Nat.le_refl _
 | cons s l ih=>
  intro sc;rw[declared];split
  ·have:=ih (sc++[⟨(declares s).1,s.val⟩]);rw[List.length_append] at this;omega
  exact ih sc
theorem alc(st:St)(t:Tok):st.scope.length≤(dX st t).length:=by
 unfold dX;split
 ·exact adl _ _
 exact Nat.le_refl _
theorem al5{st:St}{t:Tok}{n M m:Nat}(hk:Ok st n M)(h16:st.open_.length≠16)(hs:(dX st t).length≤m)(hn:n<m):Ok (zn st t (dX st t)) m M:=by
 refine⟨?_,hs,?_,?_,?_,?_⟩
 ·have:=hk.op;show (st.open_++[_]).length≤16;rw[List.length_append]
  simp;omega
 ·have h1:=hk.ev;exact Nat.le_trans (ajq st.evs (xV t (dX st t))) (by omega)
 ·exact ajr (x:=xV t (dX st t)) hk.tx (by simp[xV]) (by simp[xV])
 ·intro x hx;have hg:=alc st t;show x.scope≤(dX st t).length
  rcases List.mem_append.1 hx with hx|hx
  ·have:=hk.F4 x hx;omega
  rw[List.mem_singleton.1 hx];exact hg
 show (st.open_++[_]).Pairwise _;rw[List.pairwise_append];refine⟨hk.Yy,List.pairwise_singleton _ _,fun a ha b hb=>?_⟩;rw[List.mem_singleton.1 hb];exact hk.F4 a ha
theorem Rk{st:St}{n n' M:Nat}(h:Ok st n M)(hn:n≤n'):Ok st n' M:=⟨h.op,Nat.le_trans h.sc hn,Nat.le_trans h.ev hn,h.tx,h.F4,h.Yy⟩
theorem YA{B P:Nat}{w w':World}{st qu r:St}{t:Tok}{v:Pv}(hst:Sx.start st t=match late st t with|some a=>.error (a,50) | none=>.ok (if t.empty then rp (started st t) else started st t))
  (h1:zn st t (dX st t)=qu) (hr:r=if t.empty then rp qu else qu) (hp:PI B P w' r (cW (b3 st t)) v) (hm:aF B P w w'):q9 B P w (Sx.start st t) (.returned (.tuple #[])) w':=by
 rw[hst,ahj]
 cases hb:b3 st t with
 | none=>
  rw[hb] at hp;have:=al6 hb;rw[h1] at this;rw[hr] at hp;rw[←this];exact⟨rfl,hm,v,hp⟩
 | some a=>
  rw[hb] at hp;exact⟨rfl,hm,_,v,hp⟩
def abH(B P E:Nat)(w:World)(st:St)(t:Tok)(iG:List aB)(bd:bS)(el:El)(A:Option Addr)(n c:Nat)(W:World):Prop :=
 ∃v,PI B P W ⟨st.open_++[el],iG,st.evs,true⟩ bd v∧ae W E 140 (oA el).toArray∧
  W.ownsRow w.heap.size 155 3 (.slice A n c) n (jl (cF iG (splits t)))∧aF B P w W

theorem al4(B P:Nat)(w:World)(st:St)(v:Pv)(b o:Nat)(t:Tok)(eP:Option Addr)(ct:Nat)(h:PI B P w st none v)(hB:B≤w.heap.size)(h6:6≤B)(hg:Gl w)(ht:rb B w b o t)
  (iV:w.cell? ⟨b,o+2,none⟩=some (.slice eP t.attrs.length ct)) (hr:Reads w B 3 eP t.attrs.length (lz (t.attrs.map At.g))) (ub:t.name.length≤100000) (hv:∀a∈t.attrs,a.name.length≤100000∧a.value.length≤100000)
  (hk:Ok st 90000000 100000000000000000) (pZ:∀d∈st.scope,d.ns.length≤1000000) (he:Sx.early st t=none) :
  Calls Tryz.prog 49 #[.pointer (some ⟨P,0,none⟩),.pointer (some ⟨b,o,none⟩)] w (q9 B P w (Sx.start st t)):=by
 have cD:names t=none:=by
  unfold Sx.early at he
  cases hn:names t with
  | none=>rfl
  | some a=>rw[hn] at he;cases he
 have Uz:¬(st.gI=true∧st.open_.length=0)∧t.attrs.length≤16∧st.open_.length≠16:=by
  unfold Sx.early at he;rw[cD] at he;dsimp only at he
  by_cases c1:(st.gI&&st.open_.isEmpty)=true
  ·rw[if_pos c1] at he;cases he
  rw[if_neg c1] at he
  by_cases c2:16<t.attrs.length
  ·rw[if_pos c2] at he;cases he
  rw[if_neg c2] at he
  by_cases c3:st.open_.length=16
  ·rw[if_pos c3] at he;cases he
  refine⟨fun hc=>c1 ?_,by omega,c3⟩;rw[hc.1,List.eq_nil_of_length_eq_zero hc.2];rfl
 have eQ:=ap (WI B P w st v b o t eP ct h hB h6 hg ht iV hr (by omega) (by omega) (fun a ha=>by have:=(hv a ha).1;omega));have H:=ap h;have HB:=ap hB;have H6:=ap h6;have Ht:=ap ht;have sS:=ap iV;have Hr:=ap hr;have Hv:=ap hv;have Hk:=ap hk;have DT:=ap pZ;have Htn:=ap ub;have qM:=ap Uz;have mY:=ap cD;have bf:=ap (show Sx.start st t=match late st t with|some a=>.error (a,50) | none=>.ok (if t.empty then rp (started st t) else started st t) by unfold Sx.start;rw[he];rfl);obtain⟨no,hno⟩:∃no,st.open_.length=no:=⟨_,rfl⟩;obtain⟨na,dh⟩:∃na,t.attrs.length=na:=⟨_,rfl⟩;obtain⟨ro,hro⟩:∃ro,st.gI=ro:=⟨_,rfl⟩;have fB:=ap hno;have eK:=ap dh;have jE:=ap hro;clear h hB h6 hg ht iV hr ub hv hk pZ he cD Uz hno dh hro
 go_enter Tryz.func49,Tryz.ntmps49
 go_upto_block 0 with (go_at_call 75;refine eQ.o.mono ?_;rintro e w1 ⟨vb,Al,cl,rfl,h1,h2,h3⟩;rw[mY.o] at h1;replace h1:PI B P w1 st none ⟨v.Ao,v.co,v.As,v.cs,v.Ae,v.ce,vb,v.xs⟩:=h1;have c4:=h1.c4;rw[h1.uy] at c4;have I1:=ap h1;have O1:=ap h2;have M1:=ap h3;clear h1 h2 h3)
 have T1:=ap ((M1.o.below (B:=B) H.o.bp HB.o))
 go_cut [] (fun wx=>wx=w1)
 case first=>
  have c0:=I1.o.c;have c3:=I1.o.c3;rw[fB.o] at c0;rw[jE.o] at c3;have t2:=(T1.o.cell (p:=⟨b,o+2,none⟩) Ht.o.lt).trans sS.o;rw[eK.o] at t2;have e1:¬16<na:=by have:=qM.o.2.1;have:=eK.o;omega
  have e2:((no:Int)==16)=false:=by rw[beq_eq_false_iff_ne];have:=qM.o.2.2;have:=fB.o;omega
  have e3:¬no=16:=by have:=qM.o.2.2;have:=fB.o;omega
  have Ft:ro=false∨(ro=true∧0<no):=by
   have:=qM.o.1;rw[fB.o,jE.o] at this
   cases ro with
   | false=>exact .inl rfl
   | true=>exact .inr ⟨rfl,Nat.pos_of_ne_zero fun e=>this ⟨rfl,e⟩⟩
  rcases Ft with r1|⟨r1,r2⟩
  ·subst r1;go_wp2;(try simp only[Exit.then]);(try refine Met.intro ?_)
   first
    | (rename_i hJ hM;refine hM _ _ (Met.intro ?_);refine hJ _ _ ?_)
    | (rename_i hJ;refine hJ _ _ ?_)
    | (rename_i hJ hT;refine hJ _ _ ?_)
    | (rename_i hJ hT aW;refine hJ _ _ ?_)
    | (rename_i hJ hT aW cH;refine hJ _ _ ?_)
   (repeat apply Exists.intro);exact⟨rfl,rfl⟩
  subst r1;have r3:((no:Int)==0)=false:=by rw[beq_eq_false_iff_ne];omega
  go_wp2;(try simp only[Exit.then]);(try refine Met.intro ?_)
  first
   | (rename_i hJ hM;refine hM _ _ (Met.intro ?_);refine hJ _ _ ?_)
   | (rename_i hJ;refine hJ _ _ ?_)
   | (rename_i hJ hT;refine hJ _ _ ?_)
   | (rename_i hJ hT aW;refine hJ _ _ ?_)
   | (rename_i hJ hT aW cH;refine hJ _ _ ?_)
  (repeat apply Exists.intro);exact⟨rfl,rfl⟩
 case rest=>
  have bj:=hcut.symm;clear hcut;subst bj;have pP:=I1.o.blk.lt;have IP:=ap pP;have cs1:=I1.o.c1;have t1:=(T1.o.cell (p:=⟨b,o+1,none⟩) Ht.o.lt).trans Ht.o.c1;obtain⟨E,hE⟩:∃E,w1.heap.size=E:=⟨_,rfl⟩;have HE:=ap hE;clear hE
  go_upto_region 9 with fail
  go_cut [7] (fun s7 wx=>s7=.pointer (some ⟨E,0,none⟩)∧ae wx E 140 #[.string (aa t.name),.string ⟨#[]⟩,.string ⟨#[]⟩,.int .i64 (st.scope.length:Int)]∧Below w1.heap.size w1 wx)
  case first=>
   have Bm:b<w1.heap.size:=by have:=Ht.o.lt;have:=T1.o.size;have:=HB.o;omega
   have ya:∀o',(w1.alloc o').cell? ⟨b,o+1,none⟩=some (.string (aa t.name)):=fun o'=>((ay w1 o').cell (p:=⟨b,o+1,none⟩) Bm).trans t1;have yb:∀o',(w1.alloc o').cell? ⟨P,1,none⟩=some (.slice v.As st.scope.length v.cs):=fun o'=>((ay w1 o').cell (p:=⟨P,1,none⟩) pP).trans cs1
   go_region
   all_goals
    rw[HE.o];have kb:=ae.new w1 140 #[.string (aa t.name),.string ⟨#[]⟩,.string ⟨#[]⟩,.int .i64 (st.scope.length:Int)];rw[HE.o] at kb;have hb:=ay w1 (.cells #[.string (aa t.name),.string ⟨#[]⟩,.string ⟨#[]⟩,.int .i64 (st.scope.length:Int)] 140);(try simp only[Exit.then]);(try refine Met.intro ?_)
    first
     | (rename_i hJ hM;refine hM _ _ (Met.intro ?_);refine hJ _ _ ?_)
     | (rename_i hJ;refine hJ _ _ ?_)
     | (rename_i hJ hT;refine hJ _ _ ?_)
     | (rename_i hJ hT aW;refine hJ _ _ ?_)
     | (rename_i hJ hT aW cH;refine hJ _ _ ?_)
    (repeat apply Exists.intro);refine⟨⟨rfl,?_,?_⟩,rfl⟩
    ·first|exact kb|exact kb.drew
    first|exact hb|exact hb.drew
  case rest=>
   obtain⟨rfl,k2,b2⟩:=hcut;have I2:=ap (I1.o.go b2);have O2:=ap (fo O1.o b2);have K2:=ap k2;have Zy:=ap b2;have T2:=ap (T1.o.trans (b2.mono (Nat.le_trans HB.o T1.o.size)));have M2:=ap ((aF.fl (B:=B) M1.o).go b2);have Aj:=ap (Nat.le_trans HB.o T2.o.size);have HVl:=ap (anj B P w.heap.size wc st _ b o t.attrs eP Al ct cl I2.o Aj.o HB.o O2.o Ht.o.lt ((T2.o.cell (p:=⟨b,o+2,none⟩) Ht.o.lt).trans sS.o) (Hr.o.below T2.o) (by have:=qM.o.2.1;omega) (fun a ha=>(Hv.o a ha).2));clear k2 b2 cs1 t1 c4
   go_upto_if 92 with (go_at_call 77;refine HVl.o.mono ?_;rintro e w3 ⟨wZ,rfl,p3,o3,m3⟩;obtain⟨pp,FC⟩:∃pp,wZ=.pointer pp:=acs p3.bad;have c4:=p3.c4;rw[show (⟨v.Ao,v.co,v.As,v.cs,v.Ae,v.ce,wZ,v.xs⟩:Pv).vb=.pointer pp from FC] at c4;have P3:=ap p3;have O3:=ap o3;have M3:=ap m3;have QS:=ap FC;clear p3 o3 m3 FC)
   have KQ:E≠P:=by have:=HE.o;have:=IP.o;omega
   have zC:=ap KQ;have MB3:=ap ((ai.b8 (R:=P) (show Below w1.heap.size w1 wc from Zy.o)));have Da:=ap ((M1.o.trans MB3.o).mvs (Nat.le_refl _) M3.o);have T3:=ap (Da.o.below (B:=B) H.o.bp HB.o);have Ed:=ap (Nat.le_trans HB.o Da.o.size);have K3:=ap (M3.o.blk K2.o KQ (by decide));clear KQ
   go_cut [] (fun wx=>O0 B P E w.heap.size w st t (dX st t) (b1 t) ⟨[],[]⟩ Al v.Ao cl wx)
   case first=>
    cases ud:jV t.attrs with
    | none=>
     have pI:=P3.o;rw[ud] at pI
     have lR:pp=none:=by
      have:=pI.uy;rw[show (⟨v.Ao,v.co,v.As,v.cs,v.Ae,v.ce,wZ,v.xs⟩:Pv).vb=.pointer pp from QS.o] at this;injection this
     subst lR;have oM:=adk B P w.heap.size w3 st _ (splits t) Al cl pI Ed.o (by rw[show (splits t).length=t.attrs.length from List.length_map _];exact O3.o) (by rw[show (splits t).length=t.attrs.length from List.length_map _];have:=qM.o.2.1;omega) (by have:=Hk.o.sc;omega);rw[show (splits t).length=t.attrs.length from List.length_map _] at oM;have ZV:=ap oM;have lh:=ap (show dX st t=declared st.scope (splits t) by unfold dX;rw[ud];rfl);have uZ:=ap (show b1 t=iO (splits t) by unfold b1;rw[ud];rfl);have PB:=ap pI.blk;clear oM ud pI
     go_wp2_with fail
     refine ZV.o.mono ?_;rintro e w4 ⟨v4,rfl,p4,m4,a4⟩;have A4:=ap a4;have P4:=ap p4;have M4:=ap (aF.aib m4);have K4:=ap (m4.blk K3.o zC.o (by decide));have O4:=ap (m4.own O3.o PB.o (by decide) (by decide));have T4:=ap (m4.below (C:=B) (Nat.le_refl _) H.o.bp Ed.o);clear p4 m4 a4;dsimp only
     rename_i cG
     refine cG _ _ ?_;clear cG;go_wp2;(try simp only[Exit.then]);(try refine Met.intro ?_)
     first
      | (rename_i hJ hM;refine hM _ _ (Met.intro ?_);refine hJ _ _ ?_)
      | (rename_i hJ;refine hJ _ _ ?_)
      | (rename_i hJ hT;refine hJ _ _ ?_)
      | (rename_i hJ hT aW;refine hJ _ _ ?_)
      | (rename_i hJ hT aW cH;refine hJ _ _ ?_)
     (repeat apply Exists.intro);refine⟨?_,rfl⟩;exact⟨v4,by rw[lh.o,uZ.o];exact P4.o,K4.o,O4.o,(aF.fl Da.o).trans M4.o,T3.o.trans T4.o,A4.o⟩
    | some a=>
     have pI:=P3.o;rw[ud] at pI;obtain⟨F,hF⟩:=PI.xc (x:=(a,50)) pI
     have lR:pp=some ⟨F,0,none⟩:=by
      rw[show (⟨v.Ao,v.co,v.As,v.cs,v.Ae,v.ce,wZ,v.xs⟩:Pv).vb=.pointer pp from QS.o] at hF;injection hF
     subst lR;have lh:=ap (show dX st t=st.scope by unfold dX;rw[ud];rfl);have uZ:=ap (show b1 t=some a by unfold b1;rw[ud];rfl);have P3a:=ap pI;clear ud pI hF;go_wp2;(try simp only[Exit.then]);(try refine Met.intro ?_)
     first
      | (rename_i hJ hM;refine hM _ _ (Met.intro ?_);refine hJ _ _ ?_)
      | (rename_i hJ;refine hJ _ _ ?_)
      | (rename_i hJ hT;refine hJ _ _ ?_)
      | (rename_i hJ hT aW;refine hJ _ _ ?_)
      | (rename_i hJ hT aW cH;refine hJ _ _ ?_)
     (repeat apply Exists.intro);refine⟨?_,rfl⟩;exact⟨_,by rw[lh.o,uZ.o];exact P3a.o,K3.o,O3.o,aF.fl Da.o,T3.o,by exact rfl⟩
   case rest=>
    obtain⟨v4,p4,k4,o4,m4,t4,a4⟩:=hcut;have A4:=ap a4;have P4:=ap p4;have K4:=ap k4;have O4:=ap o4;have M4:=ap m4;have T4:=ap t4;have Hw4:=ap (Nat.le_trans HB.o m4.size)
    have Vm:(dX st t).length≤90000020:=by
     unfold dX;split
     ·have:=SC (splits t) st.scope;rw[show (splits t).length=t.attrs.length from List.length_map _] at this;have:=Hk.o.sc;have:=qM.o.2.1;unfold scope';omega
     have:=Hk.o.sc;omega
    have Jw:=ap Vm;have AK:=p4.c1;dsimp only at AK;have bt:=ap (Ym v4.As v4.cs wc.heap.size (dX st t) (jB t) wc (Reads.cY p4.s) (Nat.le_refl _) (by omega));obtain⟨⟨sp,ok⟩,hsp⟩:∃s,lY (dX st t) (jB t)=s:=⟨_,rfl⟩;rw[hsp] at bt;unfold lX at bt;dsimp only at bt;have sR:=ap hsp;obtain⟨iG,Me⟩:∃iG,dX st t=iG:=⟨_,rfl⟩;rw[Me] at AK sR bt Jw P4;have DX:=ap Me;have q1:((aa (jB t)).toList==[120,109,108,110,115])=decide (jB t=kR):=kL (aa (jB t)) _;obtain⟨ex,hex⟩:∃ex,decide (jB t=kR)=ex:=⟨_,rfl⟩;rw[hex] at q1
    have Jz:=ap (show sf iG t=if (!ok||ex) then some t.at_ else none by
     unfold sf;rw[sR.o,←hex]
     cases ok<;>simp)
    have Q1:=ap q1;clear p4 k4 o4 m4 t4 a4 Vm hsp Me hex q1
    go_upto_region 14 with (go_at_call 79;refine bt.o.mono ?_;rintro e w5 ⟨rfl,b5⟩;have B5:=ap b5;clear b5)
    go_cut [110] (fun ak4 wx=>ak4=.bool (!ok||ex)∧wx=w5)
    case first=>
     have q1:=Q1.o
     cases ok with
     | true=>
      go_wp2;(try simp only[Exit.then]);(try refine Met.intro ?_)
      first
       | (rename_i hJ hM;refine hM _ _ (Met.intro ?_);refine hJ _ _ ?_)
       | (rename_i hJ;refine hJ _ _ ?_)
       | (rename_i hJ hT;refine hJ _ _ ?_)
       | (rename_i hJ hT aW;refine hJ _ _ ?_)
       | (rename_i hJ hT aW cH;refine hJ _ _ ?_)
      (repeat apply Exists.intro);exact⟨⟨rfl,rfl⟩,rfl⟩
     | false=>
      go_wp2;(try simp only[Exit.then]);(try refine Met.intro ?_)
      first
       | (rename_i hJ hM;refine hM _ _ (Met.intro ?_);refine hJ _ _ ?_)
       | (rename_i hJ;refine hJ _ _ ?_)
       | (rename_i hJ hT;refine hJ _ _ ?_)
       | (rename_i hJ hT aW;refine hJ _ _ ?_)
       | (rename_i hJ hT aW cH;refine hJ _ _ ?_)
      (repeat apply Exists.intro);exact⟨⟨rfl,rfl⟩,rfl⟩
    case rest=>
     obtain⟨rfl,Cc⟩:=hcut;have bj:=Cc.symm;clear Cc;subst bj;have I5:=ap (P4.o.go B5.o);have K5:=ap (K4.o.go B5.o);have O5:=ap (fo O4.o B5.o);have M5:=ap (M4.o.go B5.o);have T5:=ap (T4.o.trans (B5.o.mono (Nat.le_trans HB.o M4.o.size)));have t5:=(T5.o.cell (p:=⟨b,o+5,none⟩) Ht.o.lt).trans Ht.o.c5;obtain⟨bb,gQ⟩:∃bb,(!ok||ex)=bb:=⟨_,rfl⟩;rw[gQ] at Jz ⊢;clear gQ AK
     go_upto_if 110 with fail
     go_cut [] (fun wx=>O0 B P E w.heap.size w st t iG ((b1 t).or (sf iG t)) ⟨[],[]⟩ Al v.Ao cl wx)
     case first=>
      cases bb with
      | true=>
       have HW:=ap (pq B P w5 _ _ _ t.at_ 50 I5.o (Nat.le_trans HB.o M5.o.size));have j4:=ap (uA B P w5 _ _ _ t.at_ 50 I5.o (Nat.le_trans HB.o M5.o.size));have hs:(b1 t).or (sf iG t)=(b1 t).or (some t.at_):=by rw[Jz.o];simp
       have Hs:=ap hs;clear hs
       go_wp2_with fail
       refine j4.o.mono ?_;rintro e w6 ⟨Ze,rfl,p6,m6⟩;have P6:=ap p6;have K6:=ap (m6.blk K5.o zC.o);have O6:=ap (bD.own (B:=0) (T:=[]) (.fl m6) O5.o I5.o.blk (by decide) (by simp));have M6:=ap (M5.o.trans (.fl m6));have T6:=ap (T5.o.trans (m6.below (B:=B) H.o.bp (Nat.le_trans HB.o M5.o.size)));clear p6 m6;dsimp only
       rename_i cG
       refine cG _ _ ?_;clear cG;go_wp2;(try simp only[Exit.then]);(try refine Met.intro ?_)
       first
        | (rename_i hJ hM;refine hM _ _ (Met.intro ?_);refine hJ _ _ ?_)
        | (rename_i hJ;refine hJ _ _ ?_)
        | (rename_i hJ hT;refine hJ _ _ ?_)
        | (rename_i hJ hT aW;refine hJ _ _ ?_)
        | (rename_i hJ hT aW cH;refine hJ _ _ ?_)
       (repeat apply Exists.intro);exact⟨⟨_,by rw[Hs.o,←Gz];exact P6.o,K6.o,O6.o,M6.o,T6.o,by exact A4.o⟩,rfl⟩
      | false=>
       have hs:(b1 t).or (sf iG t)=b1 t:=by rw[Jz.o];simp
       have Hs:=ap hs;clear hs;go_wp2;(try simp only[Exit.then]);(try refine Met.intro ?_)
       first
        | (rename_i hJ hM;refine hM _ _ (Met.intro ?_);refine hJ _ _ ?_)
        | (rename_i hJ;refine hJ _ _ ?_)
        | (rename_i hJ hT;refine hJ _ _ ?_)
        | (rename_i hJ hT aW;refine hJ _ _ ?_)
        | (rename_i hJ hT aW cH;refine hJ _ _ ?_)
       (repeat apply Exists.intro);exact⟨⟨_,by rw[Hs.o];exact I5.o,K5.o,O5.o,M5.o,T5.o,by exact A4.o⟩,rfl⟩
     case rest=>
      obtain⟨v7,p7,k7,o7,m7,t7,a7⟩:=hcut;have A7:=ap a7;have P7:=ap p7;have K7:=ap k7;have O7:=ap o7;have M7:=ap m7;have T7:=ap t7;have y1:=k7.cell 1;have y2:=k7.cell 2;have f1:=k7.frozen 1;have f2:=k7.frozen 2;clear p7 k7 o7 m7 t7 a7 t5
      go_wp2_with fail
      have vL:∀a,v7.Ao=some a→a.block≠E:=by
       intro a ha;have h1:=(H.o.o.lt a.block (by rw[A7.o.symm.trans ha];rfl)).2;have:=M1.o.size;have:=HE.o;omega
      have Ce:w.heap.size≤E:=by have:=M1.o.size;have:=HE.o;omega
      have AX:B≤E:=Nat.le_trans HB.o Ce;have I8:=ap ((P7.o.X6 (i:=1) K7.o AX vL (.string (aa sp))).X6 (i:=2) (K7.o.aH 1 _) AX vL (.string (aa (nN t))));have O8:=ap (dN (p:=⟨E,2,none⟩) (dN (p:=⟨E,1,none⟩) O7.o K7.o (by decide) (.string (aa sp))) (K7.o.aH 1 _) (by decide) (.string (aa (nN t))));have K8:=ap ((K7.o.aH 1 (.string (aa sp))).aH 2 (.string (aa (nN t))));have M8:=ap ((M7.o.setCell (p:=⟨E,1,none⟩) (.inr Ce) (.string (aa sp))).setCell (p:=⟨E,2,none⟩) (.inr Ce) (.string (aa (nN t))));have T8:=ap (M8.o.below (C:=B) (Nat.le_refl _) H.o.bp HB.o)
      have fw:=ap (acm B P w.heap.size _ _ _ v7 (splits t) Al cl I8.o (Nat.le_trans HB.o M8.o.size)
       (by rw[show (splits t).length=t.attrs.length from List.length_map _];exact O8.o)
       (by rw[show (splits t).length=t.attrs.length from List.length_map _];have:=qM.o.2.1;omega)
       (by have:=Jw.o;exact Nat.le_trans this (by decide))
       (fun s hs=>by
        obtain⟨a,ha,rfl⟩:=List.mem_map.1 hs;have h1:=alQ a;have h2:=(Hv.o a ha).1;exact Nat.le_trans (Nat.le_trans h1 h2) (by decide))
       (fun d hd=>by
        have bJ:d∈dX st t:=by rw[DX.o];exact hd
        have h1:d.ns.length≤1000000:=by
         unfold dX at bJ
         split at bJ
         ·refine Kc (splits t) st.scope DT.o (fun s hs=>?_) d bJ;obtain⟨a,ha,rfl⟩:=List.mem_map.1 hs;have h3:=anb a;have h2:=(Hv.o a ha).2;exact Nat.le_trans h3 (Nat.le_trans (Nat.mul_le_mul_left 4 h2) (by decide))
         exact DT.o d bJ
        exact Nat.le_trans h1 (by decide)))
      rw[show (splits t).length=t.attrs.length from List.length_map _] at fw
      go_upto_region 18 with (go_at_call 80;refine fw.o.mono ?_;rintro e w9 ⟨vb9,A9,c9,rfl,p9,o9,m9⟩;have I9:=ap p9;have O9:=ap o9;have M9:=ap m9;clear p9 o9 m9)
      have tJ:EJ st t iG=⟨t.name,⟨sp,nN t⟩,st.scope.length⟩:=by unfold EJ;rw[sR.o]
      obtain⟨el,Lt⟩:∃el,EJ st t iG=el:=⟨_,rfl⟩;have Pu:=ap Lt;rw[Lt] at tJ;have ZZ:=ap tJ;have K9:am (ae w9 E 140 (oA el).toArray):=ap (by rw[ZZ.o];exact M9.o.blk K8.o zC.o)
      have Jf:=ap (show ((cW ((b1 t).or (sf iG t))).or (cW (jk iG [] (splits t))))=cW (b3 st t) by
       unfold b3;rw[DX.o]
       cases (b1 t).or (sf iG t)<;>rfl)
      have Rc:=ap (M8.o.trans (aF.fl M9.o));obtain⟨vz,Lk⟩:∃vz,cF iG (splits t)=vz:=⟨_,rfl⟩;have Je:=ap Lk;rw[Lk] at O9 ⊢;obtain⟨n9,yy⟩:∃n9,vz.length=n9:=⟨_,rfl⟩;have QO:=ap yy;rw[yy] at O9 ⊢;have R5:w9.cell? ⟨P,0,none⟩=some (.slice v7.Ao no v7.co):=by rw[←fB.o];exact I9.o.c
      have OO:=ap (show w9.ownsRow B 140 4 (.slice v7.Ao no v7.co) no (els st.open_) by rw[←fB.o];exact I9.o.o);have ZX:=ap vL;have HwE:=ap Ce;clear tJ Lt Lk yy fw eQ vL AX Ce
      go_cut [] (fun wx=>abH B P E w st t iG (cW (b3 st t)) el A9 n9 c9 wx)
      case first=>
       have xb:Below w9.heap.size w9 (w9.drew.alloc (.cells (oA el).toArray 140)):=(Below.refl _ _).drew.alloc (Nat.le_refl _) _;have BX:=ap xb;have KX:=ap (show ae (w9.drew.alloc (.cells (oA el).toArray 140)) w9.heap.size 140 (oA el).toArray from ae.new w9.drew 140 _);have H5:=ap R5;have KC:=ap (show w9.cell? ⟨E,0,none⟩=some (.string (aa el.written))∧w9.cell? ⟨E,1,none⟩=some (.string (aa el.name.ns))∧w9.cell? ⟨E,2,none⟩=some (.string (aa el.name.loc))∧w9.cell? ⟨E,3,none⟩=some (.int .i64 (el.scope:Int)) from⟨K9.o.cell 0,K9.o.cell 1,K9.o.cell 2,K9.o.cell 3⟩);clear xb R5;refine anN 11 (fun W'=>W'.cell? ⟨P,0,none⟩=some (.slice v7.Ao no v7.co)∧W'.cell? ⟨E,0,none⟩=some (.string (aa el.written))∧W'.cell? ⟨E,1,none⟩=some (.string (aa el.name.ns))∧W'.cell? ⟨E,2,none⟩=some (.string (aa el.name.loc))∧W'.cell? ⟨E,3,none⟩=some (.int .i64 (el.scope:Int))) (by kernel_rfl) ?_ (fun hHeld=>?_)
       ·(try dsimp only);exact⟨H5.o,KC.o.1,KC.o.2.1,KC.o.2.2.1,KC.o.2.2.2⟩
       change fN _ _ _ _ _ _ 15 #[false,false,false,false,false,false,false,false,false,false,false,false,false,false,false] _ _;iterate 5 (refine WJ (v:=?_) rfl rfl hHeld ?_ ?_;rotate_left;(· (intro w';go_simp;try with_reducible rfl));(try simp only[nx,List.set]))
       iterate 2 (refine nbT (v:=?_) rfl rfl hHeld ?_ ?_;rotate_left;(· (intro w' hSw;obtain⟨z0,z1,z2,z3,z4⟩:=hSw;go_simp;try with_reducible rfl));(try simp only[nx,List.set]))
       refine UA (i:=7) rfl (by kernel_rfl) (by kernel_rfl) (fun K hK=>?_);go_simp;(try dsimp only);refine hK.out _ _ ?_ (fun aL=>?_)
       ·(try dsimp only);exact⟨(BX.o.cell (dE H5.o)).trans H5.o,(BX.o.cell (dE KC.o.1)).trans KC.o.1,(BX.o.cell (dE KC.o.2.1)).trans KC.o.2.1,(BX.o.cell (dE KC.o.2.2.1)).trans KC.o.2.2.1,(BX.o.cell (dE KC.o.2.2.2)).trans KC.o.2.2.2⟩
       clear hK K hHeld;have hHeld:=aL;clear aL;(try simp only[Act.put,List.setIfInBounds_toArray,List.set_cons_zero,List.set_cons_succ]);refine UA (i:=8) rfl (by kernel_rfl) (by kernel_rfl) (fun K hK=>?_);refine W8 _ (by rfl) _ _ _ (by rfl) B 140 _ 4 56 Tryz.underlying103 agN (by rfl) (by omega) (.slice v7.Ao no v7.co) no (els st.open_) (by rfl) (fo OO.o BX.o) (oA el) rfl (adF el) w9.heap.size KX.o (by rfl) (by unfold maxLen;have:=Hk.o.op;have:=fB.o;omega) (by have:=Hk.o.op;have:=fB.o;omega) (Nat.le_trans HB.o (Nat.le_trans Rc.o.size BX.o.size)) ?_;intro g8 dw jc aP aG cX;have cU:=ap aP;have eC:=ap aG
       have af4:∀j,(Value.slice v7.Ao no v7.co).ownBlock=some j→j≠E:=fun j hj=>by
        cases hA:v7.Ao with
        | none=>rw[hA] at hj;cases hj
        | some a=>rw[hA] at hj;simp only[Value.ownBlock,Option.some.injEq] at hj;rw[←hj];exact ZX.o a hA
       have hnP:some P≠(Value.slice v7.Ao no v7.co).ownBlock:=fun e=>bR (fo OO.o BX.o) (I9.o.blk.go BX.o) (by decide) e.symm;have hnE:some E≠(Value.slice v7.Ao no v7.co).ownBlock:=fun e=>af4 E e.symm rfl;have Ak:=ap ((K9.o.go BX.o).grown aG hnE);have Au:=ap ((I9.o.blk.go BX.o).grown aG hnP);have JL:=ap (show cg B 140 w9 jc from (cg.b8 BX.o).trans (.grown aG fun j hj=>aD (fo OO.o BX.o) j hj));clear aP aG cX;(try dsimp only);refine hK.out _ _ ?_ (fun aL=>?_)
       ·(try dsimp only);exact⟨by rw[←fB.o];exact Au.o.cell 0,Ak.o.cell 0,Ak.o.cell 1,Ak.o.cell 2,Ak.o.cell 3⟩
       clear hK K hHeld;have hHeld:=aL;clear aL;(try simp only[Act.put,List.setIfInBounds_toArray,List.set_cons_zero,List.set_cons_succ]);iterate 2 (refine WJ (v:=?_) rfl rfl hHeld ?_ ?_;rotate_left;(· (intro w';go_simp;try with_reducible rfl));(try simp only[nx,List.set]))
       have q0:jc.cell? ⟨P,0,none⟩=some _:=Au.o.cell 0;have f0:=Au.o.frozen 0;refine UB (i:=11) rfl (by kernel_rfl) (by kernel_rfl) (by kernel_rfl) (fun K hK=>?_);go_simp;(try dsimp only);refine hK.out _ _ ?_;clear hK K;(try simp only[Act.put,List.setIfInBounds_toArray,List.set_cons_zero,List.set_cons_succ]);refine Lx (i:=12) (d:=135) (v:=?_) rfl rfl (by kernel_rfl) (by kernel_rfl) (by kernel_rfl) (fun _ _ _ h=>h) (by kernel_rfl) (by kernel_rfl) (.inl (by kernel_rfl)) ?_ ?_;rotate_left
       ·intro w';go_simp
        first|done|with_reducible rfl
       (try simp only[Act.put,List.setIfInBounds_toArray,List.set_cons_zero,List.set_cons_succ]);refine Lx (i:=13) (d:=136) (v:=?_) rfl rfl (by kernel_rfl) (by kernel_rfl) (by kernel_rfl) (fun _ _ _ h=>h) (by kernel_rfl) (by kernel_rfl) (.inl (by kernel_rfl)) ?_ ?_;rotate_left
       ·intro w';go_simp
        first|done|with_reducible rfl
       (try simp only[Act.put,List.setIfInBounds_toArray,List.set_cons_zero,List.set_cons_succ]);have hop:st.open_.length+1=(st.open_++[el]).length:=by rw[List.length_append];rfl
       have jw:jc.ownsRow B 140 4 (.slice (some ⟨g8,0,none⟩) (st.open_++[el]).length dw) (st.open_++[el]).length (els (st.open_++[el])):=by
        rw[adK,←hop,fB.o];exact cU.o
       have i10:=I9.o.alk JL.o jw;rw[←hop,fB.o] at i10;rw[Jf.o] at i10;dsimp only at i10;have I10:=ap i10;have q3:=i10.c3;have f3:=i10.blk.frozen 3;dsimp only at q3;clear hop jw i10 q0 f0;refine UB (i:=14) rfl (by kernel_rfl) (by kernel_rfl) (by kernel_rfl) (fun K hK=>?_);go_simp;(try dsimp only);refine hK.out _ _ ?_;clear hK K;(try simp only[Act.put,List.setIfInBounds_toArray,List.set_cons_zero,List.set_cons_succ]);refine afp (by kernel_rfl) ?_ _;(try simp only[Exit.then]);(try refine Met.intro ?_)
       first
        | (rename_i hJ hM;refine hM _ _ (Met.intro ?_);refine hJ _ _ ?_)
        | (rename_i hJ;refine hJ _ _ ?_)
        | (rename_i hJ hT;refine hJ _ _ ?_)
        | (rename_i hJ hT aW;refine hJ _ _ ?_)
        | (rename_i hJ hT aW cH;refine hJ _ _ ?_)
       (repeat apply Exists.intro);refine⟨⟨_,I10.o.aln,?_,?_,?_⟩,rfl⟩
       ·exact (Ak.o.far (p:=⟨P,0,none⟩) zC.o _).far (p:=⟨P,3,none⟩) zC.o _
       ·have hoA:=JL.o.own (O9.o.mono (base':=w.heap.size) M8.o.size) (by decide);have hoB:=dN (p:=⟨P,0,none⟩) hoA Au.o (by decide) (.slice (some ⟨g8,0,none⟩) (no+1) dw);rw[Je.o];exact dN (p:=⟨P,3,none⟩) hoB (Au.o.aH 0 _) (by decide) _
       exact ((Rc.o.trans (JL.o.fZ (.inl rfl))).setCell (p:=⟨P,0,none⟩) (.inl rfl) _).setCell (p:=⟨P,3,none⟩) (.inl rfl) _
      case rest=>
       obtain⟨v11,ur,F9,WO,m11⟩:=hcut;have Ar:=ap ur;have K11:=ap F9;have Ri:=ap WO;have M11:=ap m11;have c2:=ur.c2;have y1:wc.cell? ⟨E,1,none⟩=some (.string (aa el.name.ns)):=F9.cell 1;have y2:wc.cell? ⟨E,2,none⟩=some (.string (aa el.name.loc)):=F9.cell 2;have FA:=GN B v11.xs ⟨⟨0,el.name,vz,[]⟩,A9,c9⟩ v11.Ae v11.ce wc.drew ur.e (Nat.le_trans HB.o m11.size) (by rw[ur.len];exact Nat.le_trans Hk.o.ev (by decide)) (fun y hy=>by have:=Hk.o.tx _ (by rw[←show v11.xs.map (·.e)=st.evs from ur.ev];exact List.mem_map_of_mem hy);show _+0≤_;omega);dsimp only at FA;rw[QO.o] at FA;have HP:=ap FA;have HK:=ap (show ae wc.drew P 107 _ from ur.blk)
       have QX:=ap (show zn st t (dX st t)=⟨st.open_++[el],iG,dO st.evs ⟨0,el.name,vz,[]⟩,true⟩ by
        unfold zn xV;rw[DX.o,←Je.o,←Pu.o]
        rfl)
       clear FA F9 WO m11
       go_upto_region 19 with fail
       go_cut [] (fun wx=>∃v,PI B P wx ⟨st.open_++[el],iG,dO st.evs ⟨0,el.name,vz,[]⟩,true⟩ (cW (b3 st t)) v∧aF B P w wx)
       case first=>
        clear ur
        go_region_with (go_at_call 81;refine HP.o.mono ?_;rintro e G6 ⟨A,c,xs,rfl,ho,hx,hi,hm⟩;have q2:G6.cell? ⟨P,2,none⟩=some _:=(hm.blk HK.o (by decide)).cell 2;have g2:=(hm.blk HK.o (by decide)).frozen 2)
        all_goals
         (try simp only[Exit.then]);(try refine Met.intro ?_)
         first
          | (rename_i hJ hM;refine hM _ _ (Met.intro ?_);refine hJ _ _ ?_)
          | (rename_i hJ;refine hJ _ _ ?_)
          | (rename_i hJ hT;refine hJ _ _ ?_)
          | (rename_i hJ hT aW;refine hJ _ _ ?_)
          | (rename_i hJ hT aW cH;refine hJ _ _ ?_)
         (repeat apply Exists.intro);refine⟨⟨_,(Ar.o.go (Below.refl _ _).drew).events hm ho hx hi (agG (by rw[show (⟨0,el.name,vz,[]⟩:Ev).attrs.length=n9 from QO.o];rw[Je.o] at Ri;exact Ri.o) (Nat.le_trans HB.o (Nat.le_refl _))),?_⟩,rfl⟩;exact ((M11.o.drew).trans (hm.fZ (by decide))).setCell (p:=⟨P,2,none⟩) (.inl rfl) _
       case rest=>
        obtain⟨v13,Xi,m13⟩:=hcut;have Rm:=ap Xi;have JK:=ap m13;have T13:=ap (m13.below (C:=B) (Nat.le_refl _) H.o.bp HB.o);have t3:=(T13.o.cell (p:=⟨b,o+3,none⟩) Ht.o.lt).trans Ht.o.c3;obtain⟨te,oQ⟩:∃te,t.empty=te:=⟨_,rfl⟩;rw[oQ] at t3;have JA:=ap oQ;have HC:=ap (fun (W:World) (bb:bS) (vv:Pv) (hh:PI B P W (zn st t (dX st t)) bb vv) (hB:B≤W.heap.size)=>X5 B P W _ bb vv hh hB (Rk (al5 (m:=1000000000) Hk.o qM.o.2.2 (by rw[DX.o];exact Nat.le_trans Jw.o (by decide)) (by decide)) (Nat.le_refl _)) (by show st.open_++[_]≠[];simp));have uI:=ap (HC.o wc _ v13 (by rw[QX.o];exact Rm.o) (Nat.le_trans HB.o JK.o.size));clear Xi m13 oQ ur c2 y1 y2
        cases te with
        | false=>
         go_wp2;go_end0;exact YA bf.o QX.o (by rw[JA.o];rfl) Rm.o JK.o
        | true=>
         go_wp2_with fail
         refine uI.o.mono ?_;rintro e w14 ⟨rfl,h2,v14,h1⟩;have P14:=ap h1;have M14:=ap (JK.o.trans h2);clear h1 h2;dsimp only
         rename_i cG
         refine cG _ _ ?_;clear cG;go_wp2;go_end0;exact YA bf.o rfl (by rw[JA.o];rfl) P14.o M14.o
end
section
open Go.RowKit Tk

theorem AA.at_{w:World}{B:Nat}{A:Option Addr}{xs:List Tv}(h:AA w B A (xs.map Tv.g)){j:Nat}{x:Tv}(hx:xs[j]?=some x):∃b off,A=some ⟨b,off,none⟩∧b<B∧Pg w b (off+j*7) x.g:=by
 obtain⟨hj,he⟩:=List.getElem?_eq_some_iff.1 hx;obtain⟨b,off,h1,h2,h3⟩:=h.row.gt (k:=j) (by rw[List.length_map];exact hj);rw[List.getElem_map,he] at h3;exact⟨b,off,h1,h2,h3⟩
end
section
open Go.RowKit Tk Sx

structure Eh(N:Nat)(t:Tok):Prop where
 nm:t.name.length≤N
 tx:t.text.length≤N
 ats:t.attrs.length≤N
 an:∀a∈t.attrs,a.name.length≤N∧a.value.length≤N
 kd:t.kind=0∨t.kind=1∨t.kind=2∨t.kind=3∨t.kind=4
structure JN(st:St)(n M V:Nat):Prop where
 ok:Ok st n M
 ns:∀d∈st.scope,d.ns.length≤V
structure Aw(D:L):Prop where
 tk:∀t∈jD D.length 0 D,Eh 100000 t
 ru:∀k st,run lZ ((jD D.length 0 D).take k)=.ok st→JN st 90000000 100000000000000000 1000000
theorem akQ(st:St)(ts:List Tok)(t:Tok):run st (ts++[t])=match run st ts with | .error x=>.error x | .ok iH=>Sx.step iH t:=by
 induction ts generalizing st with
 | nil=>
  simp only[List.nil_append,run]
  cases Sx.step st t<;>rfl
 | cons u ts ih=>
  simp only[List.cons_append,run]
  cases hs:Sx.step st u with
  | error x=>rfl
  | ok iH=>exact ih iH
theorem akP{st:St}{ts:List Tok}{x:Nat×Nat}(h:run st ts=.error x):∀r,run st (ts++r)=.error x:=by
 induction ts generalizing st with
 | nil=>cases h
 | cons u ts ih=>
  intro r;simp only[List.cons_append,run] at h ⊢
  cases hs:Sx.step st u with
  | error y=>rw[hs] at h;exact h
  | ok iH=>rw[hs] at h;exact ih h r
end
section
open Go.RowKit Tk Sx

theorem alZ(B P:Nat)(w:World)(st:St)(v:Pv)(b o:Nat)(t:Tok)(h:PI B P w st none v) :
  Calls Tryz.prog 53 #[.pointer (some ⟨P,0,none⟩),.pointer (some ⟨b,o,none⟩)] w (q9 B P w (.ok st)):=by
 go_enter Tryz.func53,Tryz.ntmps53
 go_wp2;go_end0;exact⟨rfl,aF.refl _ _ _,_,h⟩
theorem al0(B P:Nat)(w:World)(st:St)(v:Pv)(b o:Nat)(t:Tok)(eP:Option Addr)(ct:Nat)(h:PI B P w st none v)(hB:B≤w.heap.size)(h6:6≤B)(hg:Gl w)(ht:rb B w b o t)
  (iV:w.cell? ⟨b,o+2,none⟩=some (.slice eP t.attrs.length ct)) (hr:Reads w B 3 eP t.attrs.length (lz (t.attrs.map At.g))) (hs:Eh 100000 t) (hk:JN st 90000000 100000000000000000 1000000) :
  Calls Tryz.prog 49 #[.pointer (some ⟨P,0,none⟩),.pointer (some ⟨b,o,none⟩)] w (q9 B P w (Sx.start st t)):=by
 cases he:Sx.early st t with
 | some x=>
  rw[show Sx.start st t=.error x by unfold Sx.start;rw[he]];exact al3 B P w st v b o t eP ct h hB h6 hg ht iV hr (Nat.le_trans hs.ats (by decide)) (Nat.le_trans hs.nm (by decide)) (fun a ha=>Nat.le_trans (hs.an a ha).1 (by decide)) x he
 | none=>exact al4 B P w st v b o t eP ct h hB h6 hg ht iV hr hs.nm hs.an hk.ok hk.ns he
def xX(k:Int):Nat:=if k=0 then 49 else if k=1 then 50 else if k=2 then 51 else if k=3 then 52 else 53
theorem al8(B P:Nat)(w:World)(st:St)(v:Pv)(b o:Nat)(t:Tok)(eP:Option Addr)(ct:Nat)(h:PI B P w st none v)(hB:B≤w.heap.size)(h6:6≤B)(hg:Gl w)(ht:rb B w b o t)
  (iV:w.cell? ⟨b,o+2,none⟩=some (.slice eP t.attrs.length ct)) (hr:Reads w B 3 eP t.attrs.length (lz (t.attrs.map At.g))) (hs:Eh 100000 t) (hk:JN st 90000000 100000000000000000 1000000) :
  Calls Tryz.prog (xX t.kind) #[.pointer (some ⟨P,0,none⟩),.pointer (some ⟨b,o,none⟩)] w (q9 B P w (Sx.step st t)):=by
 have bZ:Ok st 1000000000 100000000000000000:=Rk hk.ok (by decide);unfold xX Sx.step;split
 ·exact al0 B P w st v b o t eP ct h hB h6 hg ht iV hr hs hk
 split
 ·exact ali B P w st v b o t h hB bZ ht
 split
 ·exact ama B P w st v b o t h hB bZ ht hs.tx
 split
 ·exact ac9 B P w st v b o t h hB bZ ht (Nat.le_trans hs.tx (by decide))
 exact alZ B P w st v b o t h
end
end Go.Proofs.YtpdkeckeekchlaaGreatDoor
