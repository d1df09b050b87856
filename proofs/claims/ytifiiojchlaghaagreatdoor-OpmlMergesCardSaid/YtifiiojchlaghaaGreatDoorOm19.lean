/- Strict: the program's start of an element, from its values on. And more. -/
import Derived.Test.YtifiiojchlaghaaGreatDoorOm01
import Derived.Test.YtifiiojchlaghaaGreatDoorOm10
import Derived.Test.YtifiiojchlaghaaGreatDoorOm18
import Derived.Deep.CutBlock
set_option linter.unusedSimpArgs false
set_option maxRecDepth 100000
set_option maxHeartbeats 64000000
set_option linter.unusedVariables false
namespace Go.Proofs.YtifiiojchlaghaaGreatDoor
section
open Go.RowKit Tk Sx

theorem aaC{B:Nat}{w:World}{b:bQ}{v:Value}(h:gN B w b v):∃p,v=.pointer p:=by
 unfold gN at h
 cases b with
 | none=>exact⟨_,h⟩
 | some x=>obtain⟨F,_,h2,_⟩:=h;exact⟨_,h2⟩
def Nq(B P E base:Nat)(w:World)(st:St)(t:Tok)(sc:List ay)(x:Option Nat)(nm:Nm)(Al Ao:Option Addr)(cl:Nat)(W:World):Prop :=
 ∃v,PI B P W ⟨st.open_,sc,st.evs,st.gL⟩ (dv x) v∧ae W E 110 #[.string (aa t.name),.string (aa nm.ns),.string (aa nm.loc),.int .i64 (st.scope.length:Int)]∧
  W.ownsRow base 150 4 (.slice Al t.attrs.length cl) t.attrs.length (bP (splits t))∧aH B P w W∧Below B w W∧v.Ao=Ao
theorem PI.We{B P E i:Nat}{w:World}{st:St}{b:bQ}{v:Pv}{cs:Array Value}(h:PI B P w st b v)(hE:ae w E 110 cs)(zW:B≤E)(hn:∀a,v.Ao=some a→a.block≠E)(u:Value):PI B P (w.setCell ⟨E,i,none⟩ u) st b v:=by
 have hm:aH B P w (w.setCell ⟨E,i,none⟩ u):=(aH.refl B P w).aiM (p:=⟨E,i,none⟩) ⟨zW,.inl hE.ft⟩ u;refine⟨h.blk.far (p:=⟨E,i,none⟩) (fun e=>by have e2:P=E:=e;subst e2;exact gI h.blk.ft hE.ft (by decide)) u,h.bp,?_,?_,?_,h.ev,?_,?_⟩
 ·refine⟨h.o.1,?_⟩
  rcases h.o.2 with Kv|⟨g,cap,cur,hv,jo,et,rest⟩
  ·exact .inl Kv
  refine .inr ⟨g,cap,cur,hv,jo,(Below.heap_setCell _ _ _ _ ?_).trans et,rest⟩;have hA:v.Ao=some ⟨g,0,none⟩:=by injection hv
  exact hn _ hA
 ·exact dX (p:=⟨E,i,none⟩) h.s hE (by decide) u
 ·exact dX (p:=⟨E,i,none⟩) h.e hE (by decide) u
 ·exact fun x hx=>(h.gX x hx).gv hm (sP (h.gX x hx) h.blk)
 exact h.bad.gv hm h.blk (by decide)

theorem ajh(l:L):((split l).getD ([],[])).1.length≤l.length∧((split l).getD ([],[])).2.length≤l.length:=by
 have h:=QG l [58];unfold split;split
 ·split
  ·exact h
  exact⟨Nat.zero_le _,Nat.zero_le _⟩
 split
 ·exact⟨Nat.zero_le _,Nat.le_refl _⟩
 exact⟨Nat.zero_le _,Nat.zero_le _⟩
theorem ajf(a:At):(dm a).loc.length≤a.name.length:=by
 have h:=ajh a.name;unfold dm
 cases hs:split a.name with
 | none=>exact Nat.zero_le _
 | some x=>rw[hs] at h;exact h.2
theorem akw(a:At):(Sx.valOf a).length≤4*a.value.length:=by
 unfold Sx.valOf
 cases hv:value a.value with
 | error e=>exact Nat.zero_le _
 | ok v=>
  unfold value at hv;dsimp only
  split at hv
  ·split at hv<;>cases hv
  have:=WB _ _ _ _ hv;rwa[List.length_map] at this
theorem IZ{m:Nat}:∀(l:List bR) (sc:List ay),(∀d∈sc,d.ns.length≤m)→(∀s∈l,s.val.length≤m)→∀d∈declared sc l,d.ns.length≤m
 | [],sc,h,_=>h
 | s :: l,sc,h,h2=>by
  rw[declared];split
  ·refine IZ l _ (fun d hd=>?_) (fun x hx=>h2 x (List.mem_cons_of_mem _ hx))
   rcases List.mem_append.1 hd with hd|hd
   ·exact h d hd
   rw[List.mem_singleton.1 hd];exact h2 s (List.mem_cons_self ..)
  exact IZ l _ h (fun x hx=>h2 x (List.mem_cons_of_mem _ hx))

theorem PI.aiN{B P:Nat}{w w1:World}{st:St}{b:bQ}{v:Pv}{A:Option Addr}{c:Nat}{op:List El}(h:PI B P w st b v)(hm:cg B 110 w w1)(ho:w1.ownsRow B 110 4 (.slice A op.length c) op.length (els op)) :
  PI B P (w1.setCell ⟨P,0,none⟩ (.slice A op.length c)) ⟨op,st.scope,st.evs,st.gL⟩ b ⟨A,c,v.As,v.cs,v.Ae,v.ce,v.vb,v.xs⟩:=by
 have hb:=hm.blk h.blk (by decide);refine⟨hb.aG 0 _,h.bp,?_,?_,?_,h.ev,?_,?_⟩
 ·exact dX (p:=⟨P,0,none⟩) ho hb (by decide) _
 ·exact dX (p:=⟨P,0,none⟩) (hm.own h.s (by decide)) hb (by decide) _
 ·exact dX (p:=⟨P,0,none⟩) (hm.own h.e (by decide)) hb (by decide) _
 ·intro y hy;have oN:y.In B w1:=(h.gX y hy).tR hm (by decide);exact oN.gv ((aH.refl B P w1).setCell (p:=⟨P,0,none⟩) (.inl rfl) _) (sP oN hb)
 have h1:=h.bad.tR hm (by decide);exact h1.gv ((aH.refl B P w1).setCell (p:=⟨P,0,none⟩) (.inl rfl) _) hb (by decide)
theorem PI.aiO{B P:Nat}{w:World}{st:St}{b:bQ}{v:Pv}(h:PI B P w st b v):PI B P (w.setCell ⟨P,3,none⟩ (.bool true)) ⟨st.open_,st.scope,st.evs,true⟩ b v :=
 h.put 3 (.bool true) rfl ⟨rfl,rfl,rfl⟩ ⟨rfl,rfl,rfl⟩ ⟨rfl,rfl,rfl,rfl⟩ (h.bad.gv ((aH.refl B P w).setCell (p:=⟨P,3,none⟩) (.inl rfl) _) h.blk (by decide))
theorem abS(l:List El)(x:El):els (l++[x])=els l++oc x:=by simp[els]
theorem abN(x:El):∀u∈oc x,u.oneCell'=true:=by
 intro u hu;simp only[oc,List.mem_cons,List.not_mem_nil,or_false] at hu
 rcases hu with rfl|rfl|rfl|rfl<;>rfl
theorem aeD{B Z:Nat}{w:World}{e:Ev}{A:Option Addr}{c:Nat}(h:w.ownsRow Z 125 3 (.slice A e.attrs.length c) e.attrs.length (jh e.attrs))(hZ:B≤Z):(Ew.mk e A c).In B w :=
 ⟨Reads.dA h,fun a ha=>Nat.le_trans hZ (zD h a ha),Cb h⟩
theorem ag5(l:List Ev)(x:Ev):(dY l x).length≤l.length+1:=by
 unfold dY;split
 ·simp
 split
 ·split
  ·simp only[List.length_append,List.length_dropLast,List.length_singleton];omega
  split
  ·exact Nat.le_succ _
  simp
 split
 ·exact Nat.le_succ _
 simp
theorem ag6{l:List Ev}{x:Ev}{M:Nat}(h:∀y∈l,y.text.length≤M)(hx:x.kind≠2)(h2:x.text.length≤M):∀y∈dY l x,y.text.length≤M:=by
 rw[VM hx];intro y hy
 rcases List.mem_append.1 hy with hy|hy
 ·exact h y hy
 rw[List.mem_singleton.1 hy];exact h2
theorem abu(l:List bR):∀sc:List ay,sc.length≤(declared sc l).length:=by
 induction l with
 | nil=>intro sc;exact Nat.le_refl _
 | cons s l ih=>
  intro sc;rw[declared];split
  ·have:=ih (sc++[⟨(declares s).1,s.val⟩]);rw[List.length_append] at this;omega
  exact ih sc
theorem aiG(st:St)(t:Tok):st.scope.length≤(eB st t).length:=by
 unfold eB;split
 ·exact abu _ _
 exact Nat.le_refl _
theorem aju{st:St}{t:Tok}{n M m:Nat}(hk:Ok st n M)(h16:st.open_.length≠16)(hs:(eB st t).length≤m)(hn:n<m):Ok (yu st t (eB st t)) m M:=by
 refine⟨?_,hs,?_,?_,?_,?_⟩
 ·have:=hk.op;show (st.open_++[_]).length≤16;rw[List.length_append]
  simp;omega
 ·have h1:=hk.ev;exact Nat.le_trans (ag5 st.evs (xl t (eB st t))) (by omega)
 ·exact ag6 (x:=xl t (eB st t)) hk.tx (by simp[xl]) (by simp[xl])
 ·intro x hx;have hg:=aiG st t;show x.scope≤(eB st t).length
  rcases List.mem_append.1 hx with hx|hx
  ·have:=hk.EU x hx;omega
  rw[List.mem_singleton.1 hx];exact hg
 show (st.open_++[_]).Pairwise _;rw[List.pairwise_append];refine⟨hk.WI,List.pairwise_singleton _ _,fun a ha b hb=>?_⟩;rw[List.mem_singleton.1 hb];exact hk.EU a ha
theorem PD{st:St}{n n' M:Nat}(h:Ok st n M)(hn:n≤n'):Ok st n' M:=⟨h.op,Nat.le_trans h.sc hn,Nat.le_trans h.ev hn,h.tx,h.EU,h.WI⟩
theorem WK{B P:Nat}{w w':World}{st qd r:St}{t:Tok}{v:Pv}(hst:Sx.start st t=match late st t with|some a=>.error (a,50) | none=>.ok (if t.empty then qQ (started st t) else started st t))
  (h1:yu st t (eB st t)=qd) (hr:r=if t.empty then qQ qd else qd) (hp:PI B P w' r (dv (b3 st t)) v) (hm:aH B P w w'):qK B P w (Sx.start st t) (.returned (.tuple #[])) w':=by
 rw[hst,afb]
 cases hb:b3 st t with
 | none=>
  rw[hb] at hp;have:=ajv hb;rw[h1] at this;rw[hr] at hp;rw[←this];exact⟨rfl,hm,v,hp⟩
 | some a=>
  rw[hb] at hp;exact⟨rfl,hm,_,v,hp⟩
def ZT(B P E:Nat)(w:World)(st:St)(t:Tok)(iG:List ay)(bd:bQ)(el:El)(A:Option Addr)(n c:Nat)(W:World):Prop :=
 ∃v,PI B P W ⟨st.open_++[el],iG,st.evs,true⟩ bd v∧ae W E 110 (oc el).toArray∧
  W.ownsRow w.heap.size 125 3 (.slice A n c) n (jh (cE iG (splits t)))∧aH B P w W

theorem ajt(B P:Nat)(w:World)(st:St)(v:Pv)(b o:Nat)(t:Tok)(fe:Option Addr)(ct:Nat)(h:PI B P w st none v)(hB:B≤w.heap.size)(h6:6≤B)(hg:Gl w)(ht:qL B w b o t)
  (iU:w.cell? ⟨b,o+2,none⟩=some (.slice fe t.attrs.length ct)) (hr:Reads w B 3 fe t.attrs.length (ln (t.attrs.map At.g))) (tL:t.name.length≤100000) (hv:∀a∈t.attrs,a.name.length≤100000∧a.value.length≤100000)
  (hk:Ok st 90000000 100000000000000000) (pN:∀d∈st.scope,d.ns.length≤1000000) (he:Sx.early st t=none) :
  Calls Tryz.prog 34 #[.pointer (some ⟨P,0,none⟩),.pointer (some ⟨b,o,none⟩)] w (qK B P w (Sx.start st t)):=by
 have dh:names t=none:=by
  unfold Sx.early at he
  cases hn:names t with
  | none=>rfl
  | some a=>rw[hn] at he;cases he
 have Sw:¬(st.gL=true∧st.open_.length=0)∧t.attrs.length≤16∧st.open_.length≠16:=by
  unfold Sx.early at he;rw[dh] at he;dsimp only at he
  by_cases c1:(st.gL&&st.open_.isEmpty)=true
  ·rw[if_pos c1] at he;cases he
  rw[if_neg c1] at he
  by_cases c2:16<t.attrs.length
  ·rw[if_pos c2] at he;cases he
  rw[if_neg c2] at he
  by_cases c3:st.open_.length=16
  ·rw[if_pos c3] at he;cases he
  refine⟨fun hc=>c1 ?_,by omega,c3⟩;rw[hc.1,List.eq_nil_of_length_eq_zero hc.2];rfl
 have eY:=hide (UQ B P w st v b o t fe ct h hB h6 hg ht iU hr (by omega) (by omega) (fun a ha=>by have:=(hv a ha).1;omega));have H:=hide h;have HB:=hide hB;have H6:=hide h6;have Ht:=hide ht;have sB:=hide iU;have Hr:=hide hr;have Hv:=hide hv;have Hk:=hide hk;have CQ:=hide pN;have Htn:=hide tL;have qz:=hide Sw;have mQ:=hide dh;have bf:=hide (show Sx.start st t=match late st t with|some a=>.error (a,50) | none=>.ok (if t.empty then qQ (started st t) else started st t) by unfold Sx.start;rw[he];rfl);obtain⟨no,hno⟩:∃no,st.open_.length=no:=⟨_,rfl⟩;obtain⟨na,dy⟩:∃na,t.attrs.length=na:=⟨_,rfl⟩;obtain⟨ro,hro⟩:∃ro,st.gL=ro:=⟨_,rfl⟩;have fH:=hide hno;have fj:=hide dy;have jC:=hide hro;clear h hB h6 hg ht iU hr tL hv hk pN he dh Sw hno dy hro
 go_enter Tryz.func34,Tryz.ntmps34
 go_upto_block 0 with (go_at_call 55;refine eY.out.mono ?_;rintro e w1 ⟨vb,Al,cl,rfl,h1,h2,h3⟩;rw[mQ.out] at h1;replace h1:PI B P w1 st none ⟨v.Ao,v.co,v.As,v.cs,v.Ae,v.ce,vb,v.xs⟩:=h1;have c4:=h1.c4;rw[h1.tX] at c4;have I1:=hide h1;have O1:=hide h2;have M1:=hide h3;clear h1 h2 h3)
 have T1:=hide ((M1.out.below (B:=B) H.out.bp HB.out))
 go_cut [] (fun wx=>wx=w1)
 case first=>
  have c0:=I1.out.c;have c3:=I1.out.c3;rw[fH.out] at c0;rw[jC.out] at c3;have t2:=(T1.out.cell (p:=⟨b,o+2,none⟩) Ht.out.lt).trans sB.out;rw[fj.out] at t2;have e1:¬16<na:=by have:=qz.out.2.1;have:=fj.out;omega
  have e2:((no:Int)==16)=false:=by rw[beq_eq_false_iff_ne];have:=qz.out.2.2;have:=fH.out;omega
  have e3:¬no=16:=by have:=qz.out.2.2;have:=fH.out;omega
  have Ex:ro=false∨(ro=true∧0<no):=by
   have:=qz.out.1;rw[fH.out,jC.out] at this
   cases ro with
   | false=>exact .inl rfl
   | true=>exact .inr ⟨rfl,Nat.pos_of_ne_zero fun e=>this ⟨rfl,e⟩⟩
  rcases Ex with r1|⟨r1,r2⟩
  ·subst r1;go_wp2;(try simp only[Exit.then]);(try refine Met.intro ?_)
   first
    | (rename_i hJ hM;refine hM _ _ (Met.intro ?_);refine hJ _ _ ?_)
    | (rename_i hJ;refine hJ _ _ ?_)
    | (rename_i hJ hT;refine hJ _ _ ?_)
    | (rename_i hJ hT aX;refine hJ _ _ ?_)
    | (rename_i hJ hT aX cF;refine hJ _ _ ?_)
   (repeat apply Exists.intro);exact⟨rfl,rfl⟩
  subst r1;have r3:((no:Int)==0)=false:=by rw[beq_eq_false_iff_ne];omega
  go_wp2;(try simp only[Exit.then]);(try refine Met.intro ?_)
  first
   | (rename_i hJ hM;refine hM _ _ (Met.intro ?_);refine hJ _ _ ?_)
   | (rename_i hJ;refine hJ _ _ ?_)
   | (rename_i hJ hT;refine hJ _ _ ?_)
   | (rename_i hJ hT aX;refine hJ _ _ ?_)
   | (rename_i hJ hT aX cF;refine hJ _ _ ?_)
  (repeat apply Exists.intro);exact⟨rfl,rfl⟩
 case rest=>
  have bk:=hcut.symm;clear hcut;subst bk;have pJ:=I1.out.blk.lt;have Gu:=hide pJ;have cs1:=I1.out.c1;have t1:=(T1.out.cell (p:=⟨b,o+1,none⟩) Ht.out.lt).trans Ht.out.c1;obtain⟨E,hE⟩:∃E,w1.heap.size=E:=⟨_,rfl⟩;have HE:=hide hE;clear hE
  go_upto_region 9 with fail
  go_cut [7] (fun s7 wx=>s7=.pointer (some ⟨E,0,none⟩)∧ae wx E 110 #[.string (aa t.name),.string ⟨#[]⟩,.string ⟨#[]⟩,.int .i64 (st.scope.length:Int)]∧Below w1.heap.size w1 wx)
  case first=>
   have Ak:b<w1.heap.size:=by have:=Ht.out.lt;have:=T1.out.size;have:=HB.out;omega
   have ya:∀o',(w1.alloc o').cell? ⟨b,o+1,none⟩=some (.string (aa t.name)):=fun o'=>((aA w1 o').cell (p:=⟨b,o+1,none⟩) Ak).trans t1;have yb:∀o',(w1.alloc o').cell? ⟨P,1,none⟩=some (.slice v.As st.scope.length v.cs):=fun o'=>((aA w1 o').cell (p:=⟨P,1,none⟩) pJ).trans cs1
   go_region
   all_goals
    rw[HE.out];have kb:=ae.new w1 110 #[.string (aa t.name),.string ⟨#[]⟩,.string ⟨#[]⟩,.int .i64 (st.scope.length:Int)];rw[HE.out] at kb;have hb:=aA w1 (.cells #[.string (aa t.name),.string ⟨#[]⟩,.string ⟨#[]⟩,.int .i64 (st.scope.length:Int)] 110);(try simp only[Exit.then]);(try refine Met.intro ?_)
    first
     | (rename_i hJ hM;refine hM _ _ (Met.intro ?_);refine hJ _ _ ?_)
     | (rename_i hJ;refine hJ _ _ ?_)
     | (rename_i hJ hT;refine hJ _ _ ?_)
     | (rename_i hJ hT aX;refine hJ _ _ ?_)
     | (rename_i hJ hT aX cF;refine hJ _ _ ?_)
    (repeat apply Exists.intro);refine⟨⟨rfl,?_,?_⟩,rfl⟩
    ·first|exact kb|exact kb.drew
    first|exact hb|exact hb.drew
  case rest=>
   obtain⟨rfl,k2,b2⟩:=hcut;have I2:=hide (I1.out.go b2);have O2:=hide (eV O1.out b2);have K2:=hide k2;have XJ:=hide b2;have T2:=hide (T1.out.trans (b2.mono (Nat.le_trans HB.out T1.out.size)));have M2:=hide ((aH.fc (B:=B) M1.out).go b2);have zo:=hide (Nat.le_trans HB.out T2.out.size);have YX:=hide (akD B P w.heap.size wc st _ b o t.attrs fe Al ct cl I2.out zo.out HB.out O2.out Ht.out.lt ((T2.out.cell (p:=⟨b,o+2,none⟩) Ht.out.lt).trans sB.out) (Hr.out.below T2.out) (by have:=qz.out.2.1;omega) (fun a ha=>(Hv.out a ha).2));clear k2 b2 cs1 t1 c4
   go_upto_if 92 with (go_at_call 57;refine YX.out.mono ?_;rintro e w3 ⟨wA,rfl,p3,o3,m3⟩;obtain⟨pp,ED⟩:∃pp,wA=.pointer pp:=aaC p3.bad;have c4:=p3.c4;rw[show (⟨v.Ao,v.co,v.As,v.cs,v.Ae,v.ce,wA,v.xs⟩:Pv).vb=.pointer pp from ED] at c4;have P3:=hide p3;have O3:=hide o3;have M3:=hide m3;have Pk:=hide ED;clear p3 o3 m3 ED)
   have JC:E≠P:=by have:=HE.out;have:=Gu.out;omega
   have yE:=hide JC;have ZK:=hide ((ai.b7 (R:=P) (show Below w1.heap.size w1 wc from XJ.out)));have Ci:=hide ((M1.out.trans ZK.out).mvs (Nat.le_refl _) M3.out);have T3:=hide (Ci.out.below (B:=B) H.out.bp HB.out);have CX:=hide (Nat.le_trans HB.out Ci.out.size);have K3:=hide (M3.out.blk K2.out JC (by decide));clear JC
   go_cut [] (fun wx=>Nq B P E w.heap.size w st t (eB st t) (b1 t) ⟨[],[]⟩ Al v.Ao cl wx)
   case first=>
    cases tM:jT t.attrs with
    | none=>
     have pB:=P3.out;rw[tM] at pB
     have lJ:pp=none:=by
      have:=pB.tX;rw[show (⟨v.Ao,v.co,v.As,v.cs,v.Ae,v.ce,wA,v.xs⟩:Pv).vb=.pointer pp from Pk.out] at this;injection this
     subst lJ;have oz:=abt B P w.heap.size w3 st _ (splits t) Al cl pB CX.out (by rw[show (splits t).length=t.attrs.length from List.length_map _];exact O3.out) (by rw[show (splits t).length=t.attrs.length from List.length_map _];have:=qz.out.2.1;omega) (by have:=Hk.out.sc;omega);rw[show (splits t).length=t.attrs.length from List.length_map _] at oz;have X6:=hide oz;have k8:=hide (show eB st t=declared st.scope (splits t) by unfold eB;rw[tM];rfl);have uD:=hide (show b1 t=iL (splits t) by unfold b1;rw[tM];rfl);have PB:=hide pB.blk;clear oz tM pB
     go_wp2_with fail
     refine X6.out.mono ?_;rintro e w4 ⟨v4,rfl,p4,m4,a4⟩;have A4:=hide a4;have P4:=hide p4;have M4:=hide (aH.af3 m4);have K4:=hide (m4.blk K3.out yE.out (by decide));have O4:=hide (m4.own O3.out PB.out (by decide) (by decide));have T4:=hide (m4.below (C:=B) (Nat.le_refl _) H.out.bp CX.out);clear p4 m4 a4;dsimp only
     rename_i bV
     refine bV _ _ ?_;clear bV;go_wp2;(try simp only[Exit.then]);(try refine Met.intro ?_)
     first
      | (rename_i hJ hM;refine hM _ _ (Met.intro ?_);refine hJ _ _ ?_)
      | (rename_i hJ;refine hJ _ _ ?_)
      | (rename_i hJ hT;refine hJ _ _ ?_)
      | (rename_i hJ hT aX;refine hJ _ _ ?_)
      | (rename_i hJ hT aX cF;refine hJ _ _ ?_)
     (repeat apply Exists.intro);refine⟨?_,rfl⟩;exact⟨v4,by rw[k8.out,uD.out];exact P4.out,K4.out,O4.out,(aH.fc Ci.out).trans M4.out,T3.out.trans T4.out,A4.out⟩
    | some a=>
     have pB:=P3.out;rw[tM] at pB;obtain⟨F,hF⟩:=PI.wB (x:=(a,50)) pB
     have lJ:pp=some ⟨F,0,none⟩:=by
      rw[show (⟨v.Ao,v.co,v.As,v.cs,v.Ae,v.ce,wA,v.xs⟩:Pv).vb=.pointer pp from Pk.out] at hF;injection hF
     subst lJ;have k8:=hide (show eB st t=st.scope by unfold eB;rw[tM];rfl);have uD:=hide (show b1 t=some a by unfold b1;rw[tM];rfl);have ZW:=hide pB;clear tM pB hF;go_wp2;(try simp only[Exit.then]);(try refine Met.intro ?_)
     first
      | (rename_i hJ hM;refine hM _ _ (Met.intro ?_);refine hJ _ _ ?_)
      | (rename_i hJ;refine hJ _ _ ?_)
      | (rename_i hJ hT;refine hJ _ _ ?_)
      | (rename_i hJ hT aX;refine hJ _ _ ?_)
      | (rename_i hJ hT aX cF;refine hJ _ _ ?_)
     (repeat apply Exists.intro);refine⟨?_,rfl⟩;exact⟨_,by rw[k8.out,uD.out];exact ZW.out,K3.out,O3.out,aH.fc Ci.out,T3.out,by exact rfl⟩
   case rest=>
    obtain⟨v4,p4,k4,o4,m4,t4,a4⟩:=hcut;have A4:=hide a4;have P4:=hide p4;have K4:=hide k4;have O4:=hide o4;have M4:=hide m4;have T4:=hide t4;have Hw4:=hide (Nat.le_trans HB.out m4.size)
    have Tu:(eB st t).length≤90000020:=by
     unfold eB;split
     ·have:=QJ (splits t) st.scope;rw[show (splits t).length=t.attrs.length from List.length_map _] at this;have:=Hk.out.sc;have:=qz.out.2.1;unfold scope';omega
     have:=Hk.out.sc;omega
    have G8:=hide Tu;have zM:=p4.c1;dsimp only at zM;have bt:=hide (Ww v4.As v4.cs wc.heap.size (eB st t) (jy t) wc (Reads.dA p4.s) (Nat.le_refl _) (by omega));obtain⟨⟨sp,ok⟩,hsp⟩:∃s,lT (eB st t) (jy t)=s:=⟨_,rfl⟩;rw[hsp] at bt;unfold lS at bt;dsimp only at bt;have sA:=hide hsp;obtain⟨iG,KH⟩:∃iG,eB st t=iG:=⟨_,rfl⟩;rw[KH] at zM sA bt G8 P4;have CT:=hide KH;have q1:((aa (jy t)).toList==[120,109,108,110,115])=decide (jy t=kO):=kI (aa (jy t)) _;obtain⟨ex,hex⟩:∃ex,decide (jy t=kO)=ex:=⟨_,rfl⟩;rw[hex] at q1
    have H5:=hide (show rU iG t=if (!ok||ex) then some t.at_ else none by
     unfold rU;rw[sA.out,←hex]
     cases ok<;>simp)
    have Q1:=hide q1;clear p4 k4 o4 m4 t4 a4 Tu hsp KH hex q1
    go_upto_region 14 with (go_at_call 59;refine bt.out.mono ?_;rintro e w5 ⟨rfl,b5⟩;have B5:=hide b5;clear b5)
    go_cut [110] (fun aiz wx=>aiz=.bool (!ok||ex)∧wx=w5)
    case first=>
     have q1:=Q1.out
     cases ok with
     | true=>
      go_wp2;(try simp only[Exit.then]);(try refine Met.intro ?_)
      first
       | (rename_i hJ hM;refine hM _ _ (Met.intro ?_);refine hJ _ _ ?_)
       | (rename_i hJ;refine hJ _ _ ?_)
       | (rename_i hJ hT;refine hJ _ _ ?_)
       | (rename_i hJ hT aX;refine hJ _ _ ?_)
       | (rename_i hJ hT aX cF;refine hJ _ _ ?_)
      (repeat apply Exists.intro);exact⟨⟨rfl,rfl⟩,rfl⟩
     | false=>
      go_wp2;(try simp only[Exit.then]);(try refine Met.intro ?_)
      first
       | (rename_i hJ hM;refine hM _ _ (Met.intro ?_);refine hJ _ _ ?_)
       | (rename_i hJ;refine hJ _ _ ?_)
       | (rename_i hJ hT;refine hJ _ _ ?_)
       | (rename_i hJ hT aX;refine hJ _ _ ?_)
       | (rename_i hJ hT aX cF;refine hJ _ _ ?_)
      (repeat apply Exists.intro);exact⟨⟨rfl,rfl⟩,rfl⟩
    case rest=>
     obtain⟨rfl,TJ⟩:=hcut;have bk:=TJ.symm;clear TJ;subst bk;have I5:=hide (P4.out.go B5.out);have K5:=hide (K4.out.go B5.out);have O5:=hide (eV O4.out B5.out);have M5:=hide (M4.out.go B5.out);have T5:=hide (T4.out.trans (B5.out.mono (Nat.le_trans HB.out M4.out.size)));have t5:=(T5.out.cell (p:=⟨b,o+5,none⟩) Ht.out.lt).trans Ht.out.c5;obtain⟨bb,jm⟩:∃bb,(!ok||ex)=bb:=⟨_,rfl⟩;rw[jm] at H5 ⊢;clear jm zM
     go_upto_if 110 with fail
     go_cut [] (fun wx=>Nq B P E w.heap.size w st t iG ((b1 t).or (rU iG t)) ⟨[],[]⟩ Al v.Ao cl wx)
     case first=>
      cases bb with
      | true=>
       have HW:=hide (o8 B P w5 _ _ _ t.at_ 50 I5.out (Nat.le_trans HB.out M5.out.size));have j3:=hide (r7 B P w5 _ _ _ t.at_ 50 I5.out (Nat.le_trans HB.out M5.out.size));have hs:(b1 t).or (rU iG t)=(b1 t).or (some t.at_):=by rw[H5.out];simp
       have Hs:=hide hs;clear hs
       go_wp2_with fail
       refine j3.out.mono ?_;rintro e w6 ⟨FH,rfl,p6,m6⟩;have P6:=hide p6;have K6:=hide (m6.blk K5.out yE.out);have O6:=hide (bw.own (B:=0) (T:=[]) (.fc m6) O5.out I5.out.blk (by decide) (by simp));have M6:=hide (M5.out.trans (.fc m6));have T6:=hide (T5.out.trans (m6.below (B:=B) H.out.bp (Nat.le_trans HB.out M5.out.size)));clear p6 m6;dsimp only
       rename_i bV
       refine bV _ _ ?_;clear bV;go_wp2;(try simp only[Exit.then]);(try refine Met.intro ?_)
       first
        | (rename_i hJ hM;refine hM _ _ (Met.intro ?_);refine hJ _ _ ?_)
        | (rename_i hJ;refine hJ _ _ ?_)
        | (rename_i hJ hT;refine hJ _ _ ?_)
        | (rename_i hJ hT aX;refine hJ _ _ ?_)
        | (rename_i hJ hT aX cF;refine hJ _ _ ?_)
       (repeat apply Exists.intro);exact⟨⟨_,by rw[Hs.out,←BC];exact P6.out,K6.out,O6.out,M6.out,T6.out,by exact A4.out⟩,rfl⟩
      | false=>
       have hs:(b1 t).or (rU iG t)=b1 t:=by rw[H5.out];simp
       have Hs:=hide hs;clear hs;go_wp2;(try simp only[Exit.then]);(try refine Met.intro ?_)
       first
        | (rename_i hJ hM;refine hM _ _ (Met.intro ?_);refine hJ _ _ ?_)
        | (rename_i hJ;refine hJ _ _ ?_)
        | (rename_i hJ hT;refine hJ _ _ ?_)
        | (rename_i hJ hT aX;refine hJ _ _ ?_)
        | (rename_i hJ hT aX cF;refine hJ _ _ ?_)
       (repeat apply Exists.intro);exact⟨⟨_,by rw[Hs.out];exact I5.out,K5.out,O5.out,M5.out,T5.out,by exact A4.out⟩,rfl⟩
     case rest=>
      obtain⟨v7,p7,k7,o7,m7,t7,a7⟩:=hcut;have A7:=hide a7;have P7:=hide p7;have K7:=hide k7;have O7:=hide o7;have M7:=hide m7;have T7:=hide t7;have y1:=k7.cell 1;have y2:=k7.cell 2;have f1:=k7.frozen 1;have f2:=k7.frozen 2;clear p7 k7 o7 m7 t7 a7 t5
      go_wp2_with fail
      have uW:∀a,v7.Ao=some a→a.block≠E:=by
       intro a ha;have h1:=(H.out.o.lt a.block (by rw[A7.out.symm.trans ha];rfl)).2;have:=M1.out.size;have:=HE.out;omega
      have Bc:w.heap.size≤E:=by have:=M1.out.size;have:=HE.out;omega
      have zW:B≤E:=Nat.le_trans HB.out Bc;have I8:=hide ((P7.out.We (i:=1) K7.out zW uW (.string (aa sp))).We (i:=2) (K7.out.aG 1 _) zW uW (.string (aa (nA t))));have O8:=hide (dX (p:=⟨E,2,none⟩) (dX (p:=⟨E,1,none⟩) O7.out K7.out (by decide) (.string (aa sp))) (K7.out.aG 1 _) (by decide) (.string (aa (nA t))));have K8:=hide ((K7.out.aG 1 (.string (aa sp))).aG 2 (.string (aa (nA t))));have M8:=hide ((M7.out.setCell (p:=⟨E,1,none⟩) (.inr Bc) (.string (aa sp))).setCell (p:=⟨E,2,none⟩) (.inr Bc) (.string (aa (nA t))));have T8:=hide (M8.out.below (C:=B) (Nat.le_refl _) H.out.bp HB.out)
      have fC:=hide (aau B P w.heap.size _ _ _ v7 (splits t) Al cl I8.out (Nat.le_trans HB.out M8.out.size)
       (by rw[show (splits t).length=t.attrs.length from List.length_map _];exact O8.out)
       (by rw[show (splits t).length=t.attrs.length from List.length_map _];have:=qz.out.2.1;omega)
       (by have:=G8.out;exact Nat.le_trans this (by decide))
       (fun s hs=>by
        obtain⟨a,ha,rfl⟩:=List.mem_map.1 hs;have h1:=ajf a;have h2:=(Hv.out a ha).1;exact Nat.le_trans (Nat.le_trans h1 h2) (by decide))
       (fun d hd=>by
        have bK:d∈eB st t:=by rw[CT.out];exact hd
        have h1:d.ns.length≤1000000:=by
         unfold eB at bK
         split at bK
         ·refine IZ (splits t) st.scope CQ.out (fun s hs=>?_) d bK;obtain⟨a,ha,rfl⟩:=List.mem_map.1 hs;have h3:=akw a;have h2:=(Hv.out a ha).2;exact Nat.le_trans h3 (Nat.le_trans (Nat.mul_le_mul_left 4 h2) (by decide))
         exact CQ.out d bK
        exact Nat.le_trans h1 (by decide)))
      rw[show (splits t).length=t.attrs.length from List.length_map _] at fC
      go_upto_region 18 with (go_at_call 60;refine fC.out.mono ?_;rintro e w9 ⟨vb9,A9,c9,rfl,p9,o9,m9⟩;have I9:=hide p9;have O9:=hide o9;have M9:=hide m9;clear p9 o9 m9)
      have s9:Dy st t iG=⟨t.name,⟨sp,nA t⟩,st.scope.length⟩:=by unfold Dy;rw[sA.out]
      obtain⟨el,J6⟩:∃el,Dy st t iG=el:=⟨_,rfl⟩;have NM:=hide J6;rw[J6] at s9;have Ya:=hide s9;have K9:Hid (ae w9 E 110 (oc el).toArray):=hide (by rw[Ya.out];exact M9.out.blk K8.out yE.out)
      have GK:=hide (show ((dv ((b1 t).or (rU iG t))).or (dv (jg iG [] (splits t))))=dv (b3 st t) by
       unfold b3;rw[CT.out]
       cases (b1 t).or (rU iG t)<;>rfl)
      have Px:=hide (M8.out.trans (aH.fc M9.out));obtain⟨uO,JX⟩:∃uO,cE iG (splits t)=uO:=⟨_,rfl⟩;have GJ:=hide JX;rw[JX] at O9 ⊢;obtain⟨n9,xO⟩:∃n9,uO.length=n9:=⟨_,rfl⟩;have Pg:=hide xO;rw[xO] at O9 ⊢;have Qp:w9.cell? ⟨P,0,none⟩=some (.slice v7.Ao no v7.co):=by rw[←fH.out];exact I9.out.c
      have OO:=hide (show w9.ownsRow B 110 4 (.slice v7.Ao no v7.co) no (els st.open_) by rw[←fH.out];exact I9.out.o);have X8:=hide uW;have HwE:=hide Bc;clear s9 J6 JX xO fC eY uW zW Bc
      go_cut [] (fun wx=>ZT B P E w st t iG (dv (b3 st t)) el A9 n9 c9 wx)
      case first=>
       have xb:Below w9.heap.size w9 (w9.drew.alloc (.cells (oc el).toArray 110)):=(Below.refl _ _).drew.alloc (Nat.le_refl _) _;have BX:=hide xb;have KX:=hide (show ae (w9.drew.alloc (.cells (oc el).toArray 110)) w9.heap.size 110 (oc el).toArray from ae.new w9.drew 110 _);have FL:=hide Qp;have KC:=hide (show w9.cell? ⟨E,0,none⟩=some (.string (aa el.written))∧w9.cell? ⟨E,1,none⟩=some (.string (aa el.name.ns))∧w9.cell? ⟨E,2,none⟩=some (.string (aa el.name.loc))∧w9.cell? ⟨E,3,none⟩=some (.int .i64 (el.scope:Int)) from⟨K9.out.cell 0,K9.out.cell 1,K9.out.cell 2,K9.out.cell 3⟩);clear xb Qp;refine ak5 11 (fun W'=>W'.cell? ⟨P,0,none⟩=some (.slice v7.Ao no v7.co)∧W'.cell? ⟨E,0,none⟩=some (.string (aa el.written))∧W'.cell? ⟨E,1,none⟩=some (.string (aa el.name.ns))∧W'.cell? ⟨E,2,none⟩=some (.string (aa el.name.loc))∧W'.cell? ⟨E,3,none⟩=some (.int .i64 (el.scope:Int))) (by kernel_rfl) ?_ (fun hHeld=>?_)
       ·(try dsimp only);exact⟨FL.out,KC.out.1,KC.out.2.1,KC.out.2.2.1,KC.out.2.2.2⟩
       change fW _ _ _ _ _ _ 15 #[false,false,false,false,false,false,false,false,false,false,false,false,false,false,false] _ _;iterate 5 (refine UR (v:=?_) rfl rfl hHeld ?_ ?_;rotate_left;(· (intro w';go_simp;try with_reducible rfl));(try simp only[nx,List.set]))
       iterate 2 (refine nbT (v:=?_) rfl rfl hHeld ?_ ?_;rotate_left;(· (intro w' hSw;obtain⟨z0,z1,z2,z3,z4⟩:=hSw;go_simp;try with_reducible rfl));(try simp only[nx,List.set]))
       refine Sy (i:=7) rfl (by kernel_rfl) (by kernel_rfl) (fun K hK=>?_);go_simp;(try dsimp only);refine hK.out _ _ ?_ (fun bc=>?_)
       ·(try dsimp only);exact⟨(BX.out.cell (bI FL.out)).trans FL.out,(BX.out.cell (bI KC.out.1)).trans KC.out.1,(BX.out.cell (bI KC.out.2.1)).trans KC.out.2.1,(BX.out.cell (bI KC.out.2.2.1)).trans KC.out.2.2.1,(BX.out.cell (bI KC.out.2.2.2)).trans KC.out.2.2.2⟩
       clear hK K hHeld;have hHeld:=bc;clear bc;(try simp only[Act.put,List.setIfInBounds_toArray,List.set_cons_zero,List.set_cons_succ]);refine Sy (i:=8) rfl (by kernel_rfl) (by kernel_rfl) (fun K hK=>?_);refine Vb _ (by rfl) _ _ _ (by rfl) B 110 _ 4 56 Tryz.underlying76 aeK (by rfl) (by omega) (.slice v7.Ao no v7.co) no (els st.open_) (by rfl) (eV OO.out BX.out) (oc el) rfl (abN el) w9.heap.size KX.out (by rfl) (by unfold maxLen;have:=Hk.out.op;have:=fH.out;omega) (by have:=Hk.out.op;have:=fH.out;omega) (Nat.le_trans HB.out (Nat.le_trans Px.out.size BX.out.size)) ?_;intro g8 dx kP aN aF cY;have cL:=hide aN;have dH:=hide aF
       have adY:∀j,(Value.slice v7.Ao no v7.co).ownBlock=some j→j≠E:=fun j hj=>by
        cases hA:v7.Ao with
        | none=>rw[hA] at hj;cases hj
        | some a=>rw[hA] at hj;simp only[Value.ownBlock,Option.some.injEq] at hj;rw[←hj];exact X8.out a hA
       have hnP:some P≠(Value.slice v7.Ao no v7.co).ownBlock:=fun e=>dc (eV OO.out BX.out) (I9.out.blk.go BX.out) (by decide) e.symm;have hnE:some E≠(Value.slice v7.Ao no v7.co).ownBlock:=fun e=>adY E e.symm rfl;have zq:=hide ((K9.out.go BX.out).grown aF hnE);have zw:=hide ((I9.out.blk.go BX.out).grown aF hnP);have Il:=hide (show cg B 110 w9 kP from (cg.b7 BX.out).trans (.grown aF fun j hj=>aI (eV OO.out BX.out) j hj));clear aN aF cY;(try dsimp only);refine hK.out _ _ ?_ (fun bc=>?_)
       ·(try dsimp only);exact⟨by rw[←fH.out];exact zw.out.cell 0,zq.out.cell 0,zq.out.cell 1,zq.out.cell 2,zq.out.cell 3⟩
       clear hK K hHeld;have hHeld:=bc;clear bc;(try simp only[Act.put,List.setIfInBounds_toArray,List.set_cons_zero,List.set_cons_succ]);iterate 2 (refine UR (v:=?_) rfl rfl hHeld ?_ ?_;rotate_left;(· (intro w';go_simp;try with_reducible rfl));(try simp only[nx,List.set]))
       have q0:kP.cell? ⟨P,0,none⟩=some _:=zw.out.cell 0;have f0:=zw.out.frozen 0;refine Sz (i:=11) rfl (by kernel_rfl) (by kernel_rfl) (by kernel_rfl) (fun K hK=>?_);go_simp;(try dsimp only);refine hK.out _ _ ?_;clear hK K;(try simp only[Act.put,List.setIfInBounds_toArray,List.set_cons_zero,List.set_cons_succ]);refine J7 (i:=12) (d:=135) (v:=?_) rfl rfl (by kernel_rfl) (by kernel_rfl) (by kernel_rfl) (fun _ _ _ h=>h) (by kernel_rfl) (by kernel_rfl) (.inl (by kernel_rfl)) ?_ ?_;rotate_left
       ·intro w';go_simp
        first|done|with_reducible rfl
       (try simp only[Act.put,List.setIfInBounds_toArray,List.set_cons_zero,List.set_cons_succ]);refine J7 (i:=13) (d:=136) (v:=?_) rfl rfl (by kernel_rfl) (by kernel_rfl) (by kernel_rfl) (fun _ _ _ h=>h) (by kernel_rfl) (by kernel_rfl) (.inl (by kernel_rfl)) ?_ ?_;rotate_left
       ·intro w';go_simp
        first|done|with_reducible rfl
       (try simp only[Act.put,List.setIfInBounds_toArray,List.set_cons_zero,List.set_cons_succ]);have hop:st.open_.length+1=(st.open_++[el]).length:=by rw[List.length_append];rfl
       have tH:kP.ownsRow B 110 4 (.slice (some ⟨g8,0,none⟩) (st.open_++[el]).length dx) (st.open_++[el]).length (els (st.open_++[el])):=by
        rw[abS,←hop,fH.out];exact cL.out
       have i10:=I9.out.aiN Il.out tH;rw[←hop,fH.out] at i10;rw[GK.out] at i10;dsimp only at i10;have ZC:=hide i10;have q3:=i10.c3;have f3:=i10.blk.frozen 3;dsimp only at q3;clear hop tH i10 q0 f0;refine Sz (i:=14) rfl (by kernel_rfl) (by kernel_rfl) (by kernel_rfl) (fun K hK=>?_);go_simp;(try dsimp only);refine hK.out _ _ ?_;clear hK K;(try simp only[Act.put,List.setIfInBounds_toArray,List.set_cons_zero,List.set_cons_succ]);refine adh (by kernel_rfl) ?_ _;(try simp only[Exit.then]);(try refine Met.intro ?_)
       first
        | (rename_i hJ hM;refine hM _ _ (Met.intro ?_);refine hJ _ _ ?_)
        | (rename_i hJ;refine hJ _ _ ?_)
        | (rename_i hJ hT;refine hJ _ _ ?_)
        | (rename_i hJ hT aX;refine hJ _ _ ?_)
        | (rename_i hJ hT aX cF;refine hJ _ _ ?_)
       (repeat apply Exists.intro);refine⟨⟨_,ZC.out.aiO,?_,?_,?_⟩,rfl⟩
       ·exact (zq.out.far (p:=⟨P,0,none⟩) yE.out _).far (p:=⟨P,3,none⟩) yE.out _
       ·have hoA:=Il.out.own (O9.out.mono (base':=w.heap.size) M8.out.size) (by decide);have hoB:=dX (p:=⟨P,0,none⟩) hoA zw.out (by decide) (.slice (some ⟨g8,0,none⟩) (no+1) dx);rw[GJ.out];exact dX (p:=⟨P,3,none⟩) hoB (zw.out.aG 0 _) (by decide) _
       exact ((Px.out.trans (Il.out.gv (.inl rfl))).setCell (p:=⟨P,0,none⟩) (.inl rfl) _).setCell (p:=⟨P,3,none⟩) (.inl rfl) _
      case rest=>
       obtain⟨v11,tT,E0,UY,m11⟩:=hcut;have zv:=hide tT;have K11:=hide E0;have PC:=hide UY;have ZI:=hide m11;have c2:=tT.c2;have y1:wc.cell? ⟨E,1,none⟩=some (.string (aa el.name.ns)):=E0.cell 1;have y2:wc.cell? ⟨E,2,none⟩=some (.string (aa el.name.loc)):=E0.cell 2;have EB:=Fu B v11.xs ⟨⟨0,el.name,uO,[]⟩,A9,c9⟩ v11.Ae v11.ce wc.drew tT.e (Nat.le_trans HB.out m11.size) (by rw[tT.len];exact Nat.le_trans Hk.out.ev (by decide)) (fun y hy=>by have:=Hk.out.tx _ (by rw[←show v11.xs.map (·.e)=st.evs from tT.ev];exact List.mem_map_of_mem hy);show _+0≤_;omega);dsimp only at EB;rw[Pg.out] at EB;have HP:=hide EB;have HK:=hide (show ae wc.drew P 80 _ from tT.blk)
       have Pq:=hide (show yu st t (eB st t)=⟨st.open_++[el],iG,dY st.evs ⟨0,el.name,uO,[]⟩,true⟩ by
        unfold yu xl;rw[CT.out,←GJ.out,←NM.out]
        rfl)
       clear EB E0 UY m11
       go_upto_region 19 with fail
       go_cut [] (fun wx=>∃v,PI B P wx ⟨st.open_++[el],iG,dY st.evs ⟨0,el.name,uO,[]⟩,true⟩ (dv (b3 st t)) v∧aH B P w wx)
       case first=>
        clear tT
        go_region_with (go_at_call 61;refine HP.out.mono ?_;rintro e Ce ⟨A,c,xs,rfl,ho,hx,hi,hm⟩;have q2:Ce.cell? ⟨P,2,none⟩=some _:=(hm.blk HK.out (by decide)).cell 2;have g2:=(hm.blk HK.out (by decide)).frozen 2)
        all_goals
         (try simp only[Exit.then]);(try refine Met.intro ?_)
         first
          | (rename_i hJ hM;refine hM _ _ (Met.intro ?_);refine hJ _ _ ?_)
          | (rename_i hJ;refine hJ _ _ ?_)
          | (rename_i hJ hT;refine hJ _ _ ?_)
          | (rename_i hJ hT aX;refine hJ _ _ ?_)
          | (rename_i hJ hT aX cF;refine hJ _ _ ?_)
         (repeat apply Exists.intro);refine⟨⟨_,(zv.out.go (Below.refl _ _).drew).events hm ho hx hi (aeD (by rw[show (⟨0,el.name,uO,[]⟩:Ev).attrs.length=n9 from Pg.out];rw[GJ.out] at PC;exact PC.out) (Nat.le_trans HB.out (Nat.le_refl _))),?_⟩,rfl⟩;exact ((ZI.out.drew).trans (hm.gv (by decide))).setCell (p:=⟨P,2,none⟩) (.inl rfl) _
       case rest=>
        obtain⟨v13,Vn,m13⟩:=hcut;have PF:=hide Vn;have Ik:=hide m13;have Z2:=hide (m13.below (C:=B) (Nat.le_refl _) H.out.bp HB.out);have t3:=(Z2.out.cell (p:=⟨b,o+3,none⟩) Ht.out.lt).trans Ht.out.c3;obtain⟨te,oL⟩:∃te,t.empty=te:=⟨_,rfl⟩;rw[oL] at t3;have H7:=hide oL;have HC:=hide (fun (W:World) (bb:bQ) (vv:Pv) (hh:PI B P W (yu st t (eB st t)) bb vv) (hB:B≤W.heap.size)=>Wd B P W _ bb vv hh hB (PD (aju (m:=1000000000) Hk.out qz.out.2.2 (by rw[CT.out];exact Nat.le_trans G8.out (by decide)) (by decide)) (Nat.le_refl _)) (by show st.open_++[_]≠[];simp));have uh:=hide (HC.out wc _ v13 (by rw[Pq.out];exact PF.out) (Nat.le_trans HB.out Ik.out.size));clear Vn m13 oL tT c2 y1 y2
        cases te with
        | false=>
         go_wp2;go_end0;exact WK bf.out Pq.out (by rw[H7.out];rfl) PF.out Ik.out
        | true=>
         go_wp2_with fail
         refine uh.out.mono ?_;rintro e w14 ⟨rfl,h2,v14,h1⟩;have ZV:=hide h1;have ZJ:=hide (Ik.out.trans h2);clear h1 h2;dsimp only
         rename_i bV
         refine bV _ _ ?_;clear bV;go_wp2;go_end0;exact WK bf.out rfl (by rw[H7.out];rfl) ZV.out ZJ.out
end
section
open Go.RowKit Tk

theorem zC.at_{w:World}{B:Nat}{A:Option Addr}{xs:List Tv}(h:zC w B A (xs.map Tv.g)){j:Nat}{x:Tv}(hx:xs[j]?=some x):∃b off,A=some ⟨b,off,none⟩∧b<B∧Nv w b (off+j*7) x.g:=by
 obtain⟨hj,he⟩:=List.getElem?_eq_some_iff.1 hx;obtain⟨b,off,h1,h2,h3⟩:=h.row.gt (k:=j) (by rw[List.length_map];exact hj);rw[List.getElem_map,he] at h3;exact⟨b,off,h1,h2,h3⟩
end
section
open Go.RowKit Tk Sx

structure C9(N:Nat)(t:Tok):Prop where
 nm:t.name.length≤N
 tx:t.text.length≤N
 ats:t.attrs.length≤N
 an:∀a∈t.attrs,a.name.length≤N∧a.value.length≤N
 kd:t.kind=0∨t.kind=1∨t.kind=2∨t.kind=3∨t.kind=4
structure Io(st:St)(n M V:Nat):Prop where
 ok:Ok st n M
 ns:∀d∈st.scope,d.ns.length≤V
structure zx(D:L):Prop where
 tk:∀t∈jA D.length 0 D,C9 100000 t
 ru:∀k st,run lU ((jA D.length 0 D).take k)=.ok st→Io st 90000000 100000000000000000 1000000
theorem ail(st:St)(ts:List Tok)(t:Tok):run st (ts++[t])=match run st ts with | .error x=>.error x | .ok iH=>Sx.step iH t:=by
 induction ts generalizing st with
 | nil=>
  simp only[List.nil_append,run]
  cases Sx.step st t<;>rfl
 | cons u ts ih=>
  simp only[List.cons_append,run]
  cases hs:Sx.step st u with
  | error x=>rfl
  | ok iH=>exact ih iH
theorem aik{st:St}{ts:List Tok}{x:Nat×Nat}(h:run st ts=.error x):∀r,run st (ts++r)=.error x:=by
 induction ts generalizing st with
 | nil=>cases h
 | cons u ts ih=>
  intro r;simp only[List.cons_append,run] at h ⊢
  cases hs:Sx.step st u with
  | error y=>rw[hs] at h;exact h
  | ok iH=>rw[hs] at h;exact ih h r
end
section
open Go.RowKit Tk Sx

theorem ajo(B P:Nat)(w:World)(st:St)(v:Pv)(b o:Nat)(t:Tok)(h:PI B P w st none v) :
  Calls Tryz.prog 38 #[.pointer (some ⟨P,0,none⟩),.pointer (some ⟨b,o,none⟩)] w (qK B P w (.ok st)):=by
 go_enter Tryz.func38,Tryz.ntmps38
 go_wp2;go_end0;exact⟨rfl,aH.refl _ _ _,_,h⟩
theorem ajp(B P:Nat)(w:World)(st:St)(v:Pv)(b o:Nat)(t:Tok)(fe:Option Addr)(ct:Nat)(h:PI B P w st none v)(hB:B≤w.heap.size)(h6:6≤B)(hg:Gl w)(ht:qL B w b o t)
  (iU:w.cell? ⟨b,o+2,none⟩=some (.slice fe t.attrs.length ct)) (hr:Reads w B 3 fe t.attrs.length (ln (t.attrs.map At.g))) (hs:C9 100000 t) (hk:Io st 90000000 100000000000000000 1000000) :
  Calls Tryz.prog 34 #[.pointer (some ⟨P,0,none⟩),.pointer (some ⟨b,o,none⟩)] w (qK B P w (Sx.start st t)):=by
 cases he:Sx.early st t with
 | some x=>
  rw[show Sx.start st t=.error x by unfold Sx.start;rw[he]];exact ajs B P w st v b o t fe ct h hB h6 hg ht iU hr (Nat.le_trans hs.ats (by decide)) (Nat.le_trans hs.nm (by decide)) (fun a ha=>Nat.le_trans (hs.an a ha).1 (by decide)) x he
 | none=>exact ajt B P w st v b o t fe ct h hB h6 hg ht iU hr hs.nm hs.an hk.ok hk.ns he
def xn(k:Int):Nat:=if k=0 then 34 else if k=1 then 35 else if k=2 then 36 else if k=3 then 37 else 38
theorem ajw(B P:Nat)(w:World)(st:St)(v:Pv)(b o:Nat)(t:Tok)(fe:Option Addr)(ct:Nat)(h:PI B P w st none v)(hB:B≤w.heap.size)(h6:6≤B)(hg:Gl w)(ht:qL B w b o t)
  (iU:w.cell? ⟨b,o+2,none⟩=some (.slice fe t.attrs.length ct)) (hr:Reads w B 3 fe t.attrs.length (ln (t.attrs.map At.g))) (hs:C9 100000 t) (hk:Io st 90000000 100000000000000000 1000000) :
  Calls Tryz.prog (xn t.kind) #[.pointer (some ⟨P,0,none⟩),.pointer (some ⟨b,o,none⟩)] w (qK B P w (Sx.step st t)):=by
 have cC:Ok st 1000000000 100000000000000000:=PD hk.ok (by decide);unfold xn Sx.step;split
 ·exact ajp B P w st v b o t fe ct h hB h6 hg ht iU hr hs hk
 split
 ·exact aiL B P w st v b o t h hB cC ht
 split
 ·exact ajy B P w st v b o t h hB cC ht hs.tx
 split
 ·exact abj B P w st v b o t h hB cC ht (Nat.le_trans hs.tx (by decide))
 exact ajo B P w st v b o t h
end
end Go.Proofs.YtifiiojchlaghaaGreatDoor
