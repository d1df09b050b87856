/- Strict: the program's start of an element, from its values on. And more. -/
import Derived.Test.YtnbmfljhbpfilaaGreatDoorOw01
import Derived.Test.YtnbmfljhbpfilaaGreatDoorOw10
import Derived.Test.YtnbmfljhbpfilaaGreatDoorOw17
import Derived.Test.YtnbmfljhbpfilaaGreatDoorOw18
import Derived.Deep.CutBlock
set_option linter.unusedSimpArgs false
set_option maxRecDepth 100000
set_option maxHeartbeats 64000000
set_option linter.unusedVariables false
namespace Go.Proofs.YtnbmfljhbpfilaaGreatDoor
section
open Go.RowKit Tk Sx

theorem ab5{B:Nat}{w:World}{b:bR}{v:Value}(h:gv B w b v):∃p,v=.pointer p:=by
 unfold gv at h
 cases b with
 | none=>exact⟨_,h⟩
 | some x=>obtain⟨F,_,h2,_⟩:=h;exact⟨_,h2⟩
def Oy(B P E base:Nat)(w:World)(st:St)(t:Tok)(sc:List ax)(x:Option Nat)(nm:Nm)(Al Ao:Option Addr)(cl:Nat)(W:World):Prop :=
 ∃v,PI B P W ⟨st.open_,sc,st.evs,st.gu⟩ (cZ x) v∧ae W E 107 #[.string (aa t.name),.string (aa nm.ns),.string (aa nm.loc),.int .i64 (st.scope.length:Int)]∧
  W.ownsRow base 149 4 (.slice Al t.attrs.length cl) t.attrs.length (cW (splits t))∧aD B P w W∧Below B w W∧v.Ao=Ao
theorem PI.XD{B P E i:Nat}{w:World}{st:St}{b:bR}{v:Pv}{cs:Array Value}(h:PI B P w st b v)(hE:ae w E 107 cs)(Ad:B≤E)(hn:∀a,v.Ao=some a→a.block≠E)(u:Value):PI B P (w.setCell ⟨E,i,none⟩ u) st b v:=by
 have hm:aD B P w (w.setCell ⟨E,i,none⟩ u):=(aD.refl B P w).akD (p:=⟨E,i,none⟩) ⟨Ad,.inl hE.eR⟩ u;refine⟨h.blk.far (p:=⟨E,i,none⟩) (fun e=>by have e2:P=E:=e;subst e2;exact gJ h.blk.eR hE.eR (by decide)) u,h.bp,?_,?_,?_,h.ev,?_,?_⟩
 ·refine⟨h.o.1,?_⟩
  rcases h.o.2 with Lk|⟨g,cap,cur,hv,jd,dR,rest⟩
  ·exact .inl Lk
  refine .inr ⟨g,cap,cur,hv,jd,(Below.heap_setCell _ _ _ _ ?_).trans dR,rest⟩;have hA:v.Ao=some ⟨g,0,none⟩:=by injection hv
  exact hn _ hA
 ·exact dO (p:=⟨E,i,none⟩) h.s hE (by decide) u
 ·exact dO (p:=⟨E,i,none⟩) h.e hE (by decide) u
 ·exact fun x hx=>(h.gH x hx).fM hm (sG (h.gH x hx) h.blk)
 exact h.bad.fM hm h.blk (by decide)

theorem alb(l:L):((split l).getD ([],[])).1.length≤l.length∧((split l).getD ([],[])).2.length≤l.length:=by
 have h:=RT l [58];unfold split;split
 ·split
  ·exact h
  exact⟨Nat.zero_le _,Nat.zero_le _⟩
 split
 ·exact⟨Nat.zero_le _,Nat.le_refl _⟩
 exact⟨Nat.zero_le _,Nat.zero_le _⟩
theorem ak9(a:At):(eJ a).loc.length≤a.name.length:=by
 have h:=alb a.name;unfold eJ
 cases hs:split a.name with
 | none=>exact Nat.zero_le _
 | some x=>rw[hs] at h;exact h.2
theorem Yz(a:At):(Sx.valOf a).length≤4*a.value.length:=by
 unfold Sx.valOf
 cases hv:value a.value with
 | error e=>exact Nat.zero_le _
 | ok v=>
  unfold value at hv;dsimp only
  split at hv
  ·split at hv<;>cases hv
  have:=Nr _ _ _ _ hv;rwa[List.length_map] at this
theorem DJ{m:Nat}:∀(l:List bS) (sc:List ax),(∀d∈sc,d.ns.length≤m)→(∀s∈l,s.val.length≤m)→∀d∈declared sc l,d.ns.length≤m
 | [],sc,h,_=>h
 | s :: l,sc,h,h2=>by
  rw[declared];split
  ·refine DJ l _ (fun d hd=>?_) (fun x hx=>h2 x (List.mem_cons_of_mem _ hx))
   rcases List.mem_append.1 hd with hd|hd
   ·exact h d hd
   rw[List.mem_singleton.1 hd];exact h2 s (List.mem_cons_self ..)
  exact DJ l _ h (fun x hx=>h2 x (List.mem_cons_of_mem _ hx))

theorem PI.akE{B P:Nat}{w w1:World}{st:St}{b:bR}{v:Pv}{A:Option Addr}{c:Nat}{op:List El}(h:PI B P w st b v)(hm:b7 B 107 w w1)(ho:w1.ownsRow B 107 4 (.slice A op.length c) op.length (els op)) :
  PI B P (w1.setCell ⟨P,0,none⟩ (.slice A op.length c)) ⟨op,st.scope,st.evs,st.gu⟩ b ⟨A,c,v.As,v.cs,v.Ae,v.ce,v.vb,v.xs⟩:=by
 have hb:=hm.blk h.blk (by decide);refine⟨hb.aI 0 _,h.bp,?_,?_,?_,h.ev,?_,?_⟩
 ·exact dO (p:=⟨P,0,none⟩) ho hb (by decide) _
 ·exact dO (p:=⟨P,0,none⟩) (hm.own h.s (by decide)) hb (by decide) _
 ·exact dO (p:=⟨P,0,none⟩) (hm.own h.e (by decide)) hb (by decide) _
 ·intro y hy;have oq:y.In B w1:=(h.gH y hy).tE hm (by decide);exact oq.fM ((aD.refl B P w1).setCell (p:=⟨P,0,none⟩) (.inl rfl) _) (sG oq hb)
 have h1:=h.bad.tE hm (by decide);exact h1.fM ((aD.refl B P w1).setCell (p:=⟨P,0,none⟩) (.inl rfl) _) hb (by decide)
theorem PI.akF{B P:Nat}{w:World}{st:St}{b:bR}{v:Pv}(h:PI B P w st b v):PI B P (w.setCell ⟨P,3,none⟩ (.bool true)) ⟨st.open_,st.scope,st.evs,true⟩ b v :=
 h.put 3 (.bool true) rfl ⟨rfl,rfl,rfl⟩ ⟨rfl,rfl,rfl⟩ ⟨rfl,rfl,rfl,rfl⟩ (h.bad.fM ((aD.refl B P w).setCell (p:=⟨P,3,none⟩) (.inl rfl) _) h.blk (by decide))
theorem adt(l:List El)(x:El):els (l++[x])=els l++nS x:=by simp[els]
theorem ado(x:El):∀u∈nS x,u.oneCell'=true:=by
 intro u hu;simp only[nS,List.mem_cons,List.not_mem_nil,or_false] at hu
 rcases hu with rfl|rfl|rfl|rfl<;>rfl
theorem agn{B Z:Nat}{w:World}{e:Ev}{A:Option Addr}{c:Nat}(h:w.ownsRow Z 122 3 (.slice A e.attrs.length c) e.attrs.length (iX e.attrs))(hZ:B≤Z):(Ew.mk e A c).In B w :=
 ⟨Reads.eH h,fun a ha=>Nat.le_trans hZ (zQ h a ha),Cu h⟩
theorem MJ(l:List Ev)(x:Ev):(dg l x).length≤l.length+1:=by
 unfold dg;split
 ·simp
 split
 ·split
  ·simp only[List.length_append,List.length_dropLast,List.length_singleton];omega
  split
  ·exact Nat.le_succ _
  simp
 split
 ·exact Nat.le_succ _
 simp
theorem Xc{l:List Ev}{x:Ev}{M:Nat}(h:∀y∈l,y.text.length≤M)(hx:x.kind≠2)(h2:x.text.length≤M):∀y∈dg l x,y.text.length≤M:=by
 rw[Xe hx];intro y hy
 rcases List.mem_append.1 hy with hy|hy
 ·exact h y hy
 rw[List.mem_singleton.1 hy];exact h2
theorem ac0(l:List bS):∀sc:List ax,sc.length≤(declared sc l).length:=by
 induction l with
 | nil=>intro sc;exact Nat.le_refl _
 | cons s l ih=>
  intro sc;rw[declared];split
  ·have:=ih (sc++[⟨(declares s).1,s.val⟩]);rw[List.length_append] at this;omega
  exact ih sc
theorem akx(st:St)(t:Tok):st.scope.length≤(cV st t).length:=by
 unfold cV;split
 ·exact ac0 _ _
 exact Nat.le_refl _
theorem X3{st:St}{t:Tok}{n M m:Nat}(hk:Ok st n M)(h16:st.open_.length≠16)(hs:(cV st t).length≤m)(hn:n<m):Ok (wh st t (cV st t)) m M:=by
 refine⟨?_,hs,?_,?_,?_,?_⟩
 ·have:=hk.op;show (st.open_++[_]).length≤16;rw[List.length_append]
  simp;omega
 ·have h1:=hk.ev;exact Nat.le_trans (MJ st.evs (xu t (cV st t))) (by omega)
 ·exact Xc (x:=xu t (cV st t)) hk.tx (by simp[xu]) (by simp[xu])
 ·intro x hx;have hg:=akx st t;show x.scope≤(cV st t).length
  rcases List.mem_append.1 hx with hx|hx
  ·have:=hk.rf x hx;omega
  rw[List.mem_singleton.1 hx];exact hg
 show (st.open_++[_]).Pairwise _;rw[List.pairwise_append];refine⟨hk.vZ,List.pairwise_singleton _ _,fun a ha b hb=>?_⟩;rw[List.mem_singleton.1 hb];exact hk.rf a ha
theorem Dm{st:St}{n n' M:Nat}(h:Ok st n M)(hn:n≤n'):Ok st n' M:=⟨h.op,Nat.le_trans h.sc hn,Nat.le_trans h.ev hn,h.tx,h.rf,h.vZ⟩
theorem X2{B P:Nat}{w w':World}{st pL r:St}{t:Tok}{v:Pv}(hst:Sx.start st t=match late st t with|some a=>.error (a,50) | none=>.ok (if t.empty then jZ (started st t) else started st t))
  (h1:wh st t (cV st t)=pL) (hr:r=if t.empty then jZ pL else pL) (hp:PI B P w' r (cZ (b3 st t)) v) (hm:aD B P w w'):qw B P w (Sx.start st t) (.returned (.tuple #[])) w':=by
 rw[hst,VG]
 cases hb:b3 st t with
 | none=>
  rw[hb] at hp;have:=X4 hb;rw[h1] at this;rw[hr] at hp;rw[←this];exact⟨rfl,hm,v,hp⟩
 | some a=>
  rw[hb] at hp;exact⟨rfl,hm,_,v,hp⟩
def abk(B P E:Nat)(w:World)(st:St)(t:Tok)(im:List ax)(bd:bR)(el:El)(A:Option Addr)(n c:Nat)(W:World):Prop :=
 ∃v,PI B P W ⟨st.open_++[el],im,st.evs,true⟩ bd v∧ae W E 107 (nS el).toArray∧
  W.ownsRow w.heap.size 122 3 (.slice A n c) n (iX (cz im (splits t)))∧aD B P w W

theorem alp(B P:Nat)(w:World)(st:St)(v:Pv)(b o:Nat)(t:Tok)(eL:Option Addr)(ct:Nat)(h:PI B P w st none v)(hB:B≤w.heap.size)(h6:6≤B)(hg:Gl w)(ht:qx B w b o t)
  (iH:w.cell? ⟨b,o+2,none⟩=some (.slice eL t.attrs.length ct)) (hr:Reads w B 3 eL t.attrs.length (ld (t.attrs.map At.g))) (tr:t.name.length≤100000) (hv:∀a∈t.attrs,a.name.length≤100000∧a.value.length≤100000)
  (hk:Ok st 90000000 100000000000000000) (lC:∀d∈st.scope,d.ns.length≤1000000) (he:Sx.early st t=none) :
  Calls Tryz.prog 30 #[.pointer (some ⟨P,0,none⟩),.pointer (some ⟨b,o,none⟩)] w (qw B P w (Sx.start st t)):=by
 have cR:names t=none:=by
  unfold Sx.early at he
  cases hn:names t with
  | none=>rfl
  | some a=>rw[hn] at he;cases he
 have vh:¬(st.gu=true∧st.open_.length=0)∧t.attrs.length≤16∧st.open_.length≠16:=by
  unfold Sx.early at he;rw[cR] at he;dsimp only at he
  by_cases c1:(st.gu&&st.open_.isEmpty)=true
  ·rw[if_pos c1] at he;cases he
  rw[if_neg c1] at he
  by_cases c2:16<t.attrs.length
  ·rw[if_pos c2] at he;cases he
  rw[if_neg c2] at he
  by_cases c3:st.open_.length=16
  ·rw[if_pos c3] at he;cases he
  refine⟨fun hc=>c1 ?_,by omega,c3⟩;rw[hc.1,List.eq_nil_of_length_eq_zero hc.2];rfl
 have eM:=hide (V6 B P w st v b o t eL ct h hB h6 hg ht iH hr (by omega) (by omega) (fun a ha=>by have:=(hv a ha).1;omega));have H:=hide h;have HB:=hide hB;have H6:=hide h6;have Ht:=hide ht;have r9:=hide iH;have Hr:=hide hr;have Hv:=hide hv;have Hk:=hide hk;have C9:=hide lC;have Htn:=hide tr;have qb:=hide vh;have mJ:=hide cR;have aW:=hide (show Sx.start st t=match late st t with|some a=>.error (a,50) | none=>.ok (if t.empty then jZ (started st t) else started st t) by unfold Sx.start;rw[he];rfl);obtain⟨no,hno⟩:∃no,st.open_.length=no:=⟨_,rfl⟩;obtain⟨na,gF⟩:∃na,t.attrs.length=na:=⟨_,rfl⟩;obtain⟨ro,hro⟩:∃ro,st.gu=ro:=⟨_,rfl⟩;have fh:=hide hno;have kU:=hide gF;have jx:=hide hro;clear h hB h6 hg ht iH hr tr hv hk lC he cR vh hno gF hro
 go_enter Tryz.func30,Tryz.ntmps30
 go_upto_block 0 with (go_at_call 54;refine eM.out.mono ?_;rintro e w1 ⟨vb,Al,cl,rfl,h1,h2,h3⟩;rw[mJ.out] at h1;replace h1:PI B P w1 st none ⟨v.Ao,v.co,v.As,v.cs,v.Ae,v.ce,vb,v.xs⟩:=h1;have c4:=h1.c4;rw[h1.tM] at c4;have I1:=hide h1;have O1:=hide h2;have M1:=hide h3;clear h1 h2 h3)
 have T1:=hide ((M1.out.below (B:=B) H.out.bp HB.out))
 go_cut [] (fun wx=>wx=w1)
 case first=>
  have c0:=I1.out.c;have c3:=I1.out.c3;rw[fh.out] at c0;rw[jx.out] at c3;have t2:=(T1.out.cell (p:=⟨b,o+2,none⟩) Ht.out.lt).trans r9.out;rw[kU.out] at t2;have e1:¬16<na:=by have:=qb.out.2.1;have:=kU.out;omega
  have e2:((no:Int)==16)=false:=by rw[beq_eq_false_iff_ne];have:=qb.out.2.2;have:=fh.out;omega
  have e3:¬no=16:=by have:=qb.out.2.2;have:=fh.out;omega
  have EM:ro=false∨(ro=true∧0<no):=by
   have:=qb.out.1;rw[fh.out,jx.out] at this
   cases ro with
   | false=>exact .inl rfl
   | true=>exact .inr ⟨rfl,Nat.pos_of_ne_zero fun e=>this ⟨rfl,e⟩⟩
  rcases EM with r1|⟨r1,r2⟩
  ·subst r1;go_wp2;(try simp only[Exit.then]);(try refine Met.intro ?_)
   first
    | (rename_i hJ hM;refine hM _ _ (Met.intro ?_);refine hJ _ _ ?_)
    | (rename_i hJ;refine hJ _ _ ?_)
    | (rename_i hJ hT;refine hJ _ _ ?_)
    | (rename_i hJ hT aT;refine hJ _ _ ?_)
    | (rename_i hJ hT aT cB;refine hJ _ _ ?_)
   (repeat apply Exists.intro);exact⟨rfl,rfl⟩
  subst r1;have r3:((no:Int)==0)=false:=by rw[beq_eq_false_iff_ne];omega
  go_wp2;(try simp only[Exit.then]);(try refine Met.intro ?_)
  first
   | (rename_i hJ hM;refine hM _ _ (Met.intro ?_);refine hJ _ _ ?_)
   | (rename_i hJ;refine hJ _ _ ?_)
   | (rename_i hJ hT;refine hJ _ _ ?_)
   | (rename_i hJ hT aT;refine hJ _ _ ?_)
   | (rename_i hJ hT aT cB;refine hJ _ _ ?_)
  (repeat apply Exists.intro);exact⟨rfl,rfl⟩
 case rest=>
  have bf:=hcut.symm;clear hcut;subst bf;have px:=I1.out.blk.lt;have G5:=hide px;have cs1:=I1.out.c1;have t1:=(T1.out.cell (p:=⟨b,o+1,none⟩) Ht.out.lt).trans Ht.out.c1;obtain⟨E,hE⟩:∃E,w1.heap.size=E:=⟨_,rfl⟩;have HE:=hide hE;clear hE
  go_upto_region 9 with fail
  go_cut [7] (fun s7 wx=>s7=.pointer (some ⟨E,0,none⟩)∧ae wx E 107 #[.string (aa t.name),.string ⟨#[]⟩,.string ⟨#[]⟩,.int .i64 (st.scope.length:Int)]∧Below w1.heap.size w1 wx)
  case first=>
   have AB:b<w1.heap.size:=by have:=Ht.out.lt;have:=T1.out.size;have:=HB.out;omega
   have ya:∀o',(w1.alloc o').cell? ⟨b,o+1,none⟩=some (.string (aa t.name)):=fun o'=>((az w1 o').cell (p:=⟨b,o+1,none⟩) AB).trans t1;have yb:∀o',(w1.alloc o').cell? ⟨P,1,none⟩=some (.slice v.As st.scope.length v.cs):=fun o'=>((az w1 o').cell (p:=⟨P,1,none⟩) px).trans cs1
   go_region
   all_goals
    rw[HE.out];have kb:=ae.new w1 107 #[.string (aa t.name),.string ⟨#[]⟩,.string ⟨#[]⟩,.int .i64 (st.scope.length:Int)];rw[HE.out] at kb;have hb:=az w1 (.cells #[.string (aa t.name),.string ⟨#[]⟩,.string ⟨#[]⟩,.int .i64 (st.scope.length:Int)] 107);(try simp only[Exit.then]);(try refine Met.intro ?_)
    first
     | (rename_i hJ hM;refine hM _ _ (Met.intro ?_);refine hJ _ _ ?_)
     | (rename_i hJ;refine hJ _ _ ?_)
     | (rename_i hJ hT;refine hJ _ _ ?_)
     | (rename_i hJ hT aT;refine hJ _ _ ?_)
     | (rename_i hJ hT aT cB;refine hJ _ _ ?_)
    (repeat apply Exists.intro);refine⟨⟨rfl,?_,?_⟩,rfl⟩
    ·first|exact kb|exact kb.drew
    first|exact hb|exact hb.drew
  case rest=>
   obtain⟨rfl,k2,b2⟩:=hcut;have I2:=hide (I1.out.go b2);have O2:=hide (eW O1.out b2);have K2:=hide k2;have Zb:=hide b2;have T2:=hide (T1.out.trans (b2.mono (Nat.le_trans HB.out T1.out.size)));have M2:=hide ((aD.eV (B:=B) M1.out).go b2);have zI:=hide (Nat.le_trans HB.out T2.out.size);have HVl:=hide (amG B P w.heap.size wc st _ b o t.attrs eL Al ct cl I2.out zI.out HB.out O2.out Ht.out.lt ((T2.out.cell (p:=⟨b,o+2,none⟩) Ht.out.lt).trans r9.out) (Hr.out.below T2.out) (by have:=qb.out.2.1;omega) (fun a ha=>(Hv.out a ha).2));clear k2 b2 cs1 t1 c4
   go_upto_if 92 with (go_at_call 56;refine HVl.out.mono ?_;rintro e w3 ⟨wu,rfl,p3,o3,m3⟩;obtain⟨pp,EU⟩:∃pp,wu=.pointer pp:=ab5 p3.bad;have c4:=p3.c4;rw[show (⟨v.Ao,v.co,v.As,v.cs,v.Ae,v.ce,wu,v.xs⟩:Pv).vb=.pointer pp from EU] at c4;have P3:=hide p3;have O3:=hide o3;have M3:=hide m3;have Qt:=hide EU;clear p3 o3 m3 EU)
   have J7:E≠P:=by have:=HE.out;have:=G5.out;omega
   have yX:=hide J7;have MB3:=hide ((ag.bX (R:=P) (show Below w1.heap.size w1 wc from Zb.out)));have CB:=hide ((M1.out.trans MB3.out).mvs (Nat.le_refl _) M3.out);have T3:=hide (CB.out.below (B:=B) H.out.bp HB.out);have Dh:=hide (Nat.le_trans HB.out CB.out.size);have K3:=hide (M3.out.blk K2.out J7 (by decide));clear J7
   go_cut [] (fun wx=>Oy B P E w.heap.size w st t (cV st t) (b1 t) ⟨[],[]⟩ Al v.Ao cl wx)
   case first=>
    cases tu:iN t.attrs with
    | none=>
     have oW:=P3.out;rw[tu] at oW
     have lD:pp=none:=by
      have:=oW.tM;rw[show (⟨v.Ao,v.co,v.As,v.cs,v.Ae,v.ce,wu,v.xs⟩:Pv).vb=.pointer pp from Qt.out] at this;injection this
     subst lD;have n7:=acZ B P w.heap.size w3 st _ (splits t) Al cl oW Dh.out (by rw[show (splits t).length=t.attrs.length from List.length_map _];exact O3.out) (by rw[show (splits t).length=t.attrs.length from List.length_map _];have:=qb.out.2.1;omega) (by have:=Hk.out.sc;omega);rw[show (splits t).length=t.attrs.length from List.length_map _] at n7;have ZB:=hide n7;have kV:=hide (show cV st t=declared st.scope (splits t) by unfold cV;rw[tu];rfl);have uv:=hide (show b1 t=iB (splits t) by unfold b1;rw[tu];rfl);have PB:=hide oW.blk;clear n7 tu oW
     go_wp2_with fail
     refine ZB.out.mono ?_;rintro e w4 ⟨v4,rfl,p4,m4,a4⟩;have A4:=hide a4;have P4:=hide p4;have M4:=hide (aD.ahL m4);have K4:=hide (m4.blk K3.out yX.out (by decide));have O4:=hide (m4.own O3.out PB.out (by decide) (by decide));have T4:=hide (m4.below (C:=B) (Nat.le_refl _) H.out.bp Dh.out);clear p4 m4 a4;dsimp only
     rename_i cA
     refine cA _ _ ?_;clear cA;go_wp2;(try simp only[Exit.then]);(try refine Met.intro ?_)
     first
      | (rename_i hJ hM;refine hM _ _ (Met.intro ?_);refine hJ _ _ ?_)
      | (rename_i hJ;refine hJ _ _ ?_)
      | (rename_i hJ hT;refine hJ _ _ ?_)
      | (rename_i hJ hT aT;refine hJ _ _ ?_)
      | (rename_i hJ hT aT cB;refine hJ _ _ ?_)
     (repeat apply Exists.intro);refine⟨?_,rfl⟩;exact⟨v4,by rw[kV.out,uv.out];exact P4.out,K4.out,O4.out,(aD.eV CB.out).trans M4.out,T3.out.trans T4.out,A4.out⟩
    | some a=>
     have oW:=P3.out;rw[tu] at oW;obtain⟨F,hF⟩:=PI.wy (x:=(a,50)) oW
     have lD:pp=some ⟨F,0,none⟩:=by
      rw[show (⟨v.Ao,v.co,v.As,v.cs,v.Ae,v.ce,wu,v.xs⟩:Pv).vb=.pointer pp from Qt.out] at hF;injection hF
     subst lD;have kV:=hide (show cV st t=st.scope by unfold cV;rw[tu];rfl);have uv:=hide (show b1 t=some a by unfold b1;rw[tu];rfl);have P3a:=hide oW;clear tu oW hF;go_wp2;(try simp only[Exit.then]);(try refine Met.intro ?_)
     first
      | (rename_i hJ hM;refine hM _ _ (Met.intro ?_);refine hJ _ _ ?_)
      | (rename_i hJ;refine hJ _ _ ?_)
      | (rename_i hJ hT;refine hJ _ _ ?_)
      | (rename_i hJ hT aT;refine hJ _ _ ?_)
      | (rename_i hJ hT aT cB;refine hJ _ _ ?_)
     (repeat apply Exists.intro);refine⟨?_,rfl⟩;exact⟨_,by rw[kV.out,uv.out];exact P3a.out,K3.out,O3.out,aD.eV CB.out,T3.out,by exact rfl⟩
   case rest=>
    obtain⟨v4,p4,k4,o4,m4,t4,a4⟩:=hcut;have A4:=hide a4;have P4:=hide p4;have K4:=hide k4;have O4:=hide o4;have M4:=hide m4;have T4:=hide t4;have Hw4:=hide (Nat.le_trans HB.out m4.size)
    have UU:(cV st t).length≤90000020:=by
     unfold cV;split
     ·have:=JD (splits t) st.scope;rw[show (splits t).length=t.attrs.length from List.length_map _] at this;have:=Hk.out.sc;have:=qb.out.2.1;unfold scope';omega
     have:=Hk.out.sc;omega
    have IE:=hide UU;have zV:=p4.c1;dsimp only at zV;have br:=hide (XT v4.As v4.cs wc.heap.size (cV st t) (jr t) wc (Reads.eH p4.s) (Nat.le_refl _) (by omega));obtain⟨⟨sp,ok⟩,hsp⟩:∃s,lQ (cV st t) (jr t)=s:=⟨_,rfl⟩;rw[hsp] at br;unfold lO at br;dsimp only at br;have r8:=hide hsp;obtain⟨im,LA⟩:∃im,cV st t=im:=⟨_,rfl⟩;rw[LA] at zV r8 br IE P4;have Dd:=hide LA;have q1:((aa (jr t)).toList==[120,109,108,110,115])=decide (jr t=kI):=kz (aa (jr t)) _;obtain⟨ex,hex⟩:∃ex,decide (jr t=kI)=ex:=⟨_,rfl⟩;rw[hex] at q1
    have II:=hide (show rG im t=if (!ok||ex) then some t.at_ else none by
     unfold rG;rw[r8.out,←hex]
     cases ok<;>simp)
    have Q1:=hide q1;clear p4 k4 o4 m4 t4 a4 UU hsp LA hex q1
    go_upto_region 14 with (go_at_call 58;refine br.out.mono ?_;rintro e w5 ⟨rfl,b5⟩;have B5:=hide b5;clear b5)
    go_cut [110] (fun akw wx=>akw=.bool (!ok||ex)∧wx=w5)
    case first=>
     have q1:=Q1.out
     cases ok with
     | true=>
      go_wp2;(try simp only[Exit.then]);(try refine Met.intro ?_)
      first
       | (rename_i hJ hM;refine hM _ _ (Met.intro ?_);refine hJ _ _ ?_)
       | (rename_i hJ;refine hJ _ _ ?_)
       | (rename_i hJ hT;refine hJ _ _ ?_)
       | (rename_i hJ hT aT;refine hJ _ _ ?_)
       | (rename_i hJ hT aT cB;refine hJ _ _ ?_)
      (repeat apply Exists.intro);exact⟨⟨rfl,rfl⟩,rfl⟩
     | false=>
      go_wp2;(try simp only[Exit.then]);(try refine Met.intro ?_)
      first
       | (rename_i hJ hM;refine hM _ _ (Met.intro ?_);refine hJ _ _ ?_)
       | (rename_i hJ;refine hJ _ _ ?_)
       | (rename_i hJ hT;refine hJ _ _ ?_)
       | (rename_i hJ hT aT;refine hJ _ _ ?_)
       | (rename_i hJ hT aT cB;refine hJ _ _ ?_)
      (repeat apply Exists.intro);exact⟨⟨rfl,rfl⟩,rfl⟩
    case rest=>
     obtain⟨rfl,Va⟩:=hcut;have bf:=Va.symm;clear Va;subst bf;have I5:=hide (P4.out.go B5.out);have K5:=hide (K4.out.go B5.out);have O5:=hide (eW O4.out B5.out);have M5:=hide (M4.out.go B5.out);have T5:=hide (T4.out.trans (B5.out.mono (Nat.le_trans HB.out M4.out.size)));have t5:=(T5.out.cell (p:=⟨b,o+5,none⟩) Ht.out.lt).trans Ht.out.c5;obtain⟨bb,jb⟩:∃bb,(!ok||ex)=bb:=⟨_,rfl⟩;rw[jb] at II ⊢;clear jb zV
     go_upto_if 110 with fail
     go_cut [] (fun wx=>Oy B P E w.heap.size w st t im ((b1 t).or (rG im t)) ⟨[],[]⟩ Al v.Ao cl wx)
     case first=>
      cases bb with
      | true=>
       have HW:=hide (oL B P w5 _ _ _ t.at_ 50 I5.out (Nat.le_trans HB.out M5.out.size));have jR:=hide (tN B P w5 _ _ _ t.at_ 50 I5.out (Nat.le_trans HB.out M5.out.size));have hs:(b1 t).or (rG im t)=(b1 t).or (some t.at_):=by rw[II.out];simp
       have Hs:=hide hs;clear hs
       go_wp2_with fail
       refine jR.out.mono ?_;rintro e w6 ⟨YJ,rfl,p6,m6⟩;have P6:=hide p6;have K6:=hide (m6.blk K5.out yX.out);have O6:=hide (bD.own (B:=0) (T:=[]) (.eV m6) O5.out I5.out.blk (by decide) (by simp));have M6:=hide (M5.out.trans (.eV m6));have T6:=hide (T5.out.trans (m6.below (B:=B) H.out.bp (Nat.le_trans HB.out M5.out.size)));clear p6 m6;dsimp only
       rename_i cA
       refine cA _ _ ?_;clear cA;go_wp2;(try simp only[Exit.then]);(try refine Met.intro ?_)
       first
        | (rename_i hJ hM;refine hM _ _ (Met.intro ?_);refine hJ _ _ ?_)
        | (rename_i hJ;refine hJ _ _ ?_)
        | (rename_i hJ hT;refine hJ _ _ ?_)
        | (rename_i hJ hT aT;refine hJ _ _ ?_)
        | (rename_i hJ hT aT cB;refine hJ _ _ ?_)
       (repeat apply Exists.intro);exact⟨⟨_,by rw[Hs.out,←FI];exact P6.out,K6.out,O6.out,M6.out,T6.out,by exact A4.out⟩,rfl⟩
      | false=>
       have hs:(b1 t).or (rG im t)=b1 t:=by rw[II.out];simp
       have Hs:=hide hs;clear hs;go_wp2;(try simp only[Exit.then]);(try refine Met.intro ?_)
       first
        | (rename_i hJ hM;refine hM _ _ (Met.intro ?_);refine hJ _ _ ?_)
        | (rename_i hJ;refine hJ _ _ ?_)
        | (rename_i hJ hT;refine hJ _ _ ?_)
        | (rename_i hJ hT aT;refine hJ _ _ ?_)
        | (rename_i hJ hT aT cB;refine hJ _ _ ?_)
       (repeat apply Exists.intro);exact⟨⟨_,by rw[Hs.out];exact I5.out,K5.out,O5.out,M5.out,T5.out,by exact A4.out⟩,rfl⟩
     case rest=>
      obtain⟨v7,p7,k7,o7,m7,t7,a7⟩:=hcut;have A7:=hide a7;have P7:=hide p7;have K7:=hide k7;have O7:=hide o7;have M7:=hide m7;have T7:=hide t7;have y1:=k7.cell 1;have y2:=k7.cell 2;have f1:=k7.frozen 1;have f2:=k7.frozen 2;clear p7 k7 o7 m7 t7 a7 t5
      go_wp2_with fail
      have uP:∀a,v7.Ao=some a→a.block≠E:=by
       intro a ha;have h1:=(H.out.o.lt a.block (by rw[A7.out.symm.trans ha];rfl)).2;have:=M1.out.size;have:=HE.out;omega
      have Bo:w.heap.size≤E:=by have:=M1.out.size;have:=HE.out;omega
      have Ad:B≤E:=Nat.le_trans HB.out Bo;have I8:=hide ((P7.out.XD (i:=1) K7.out Ad uP (.string (aa sp))).XD (i:=2) (K7.out.aI 1 _) Ad uP (.string (aa (ni t))));have O8:=hide (dO (p:=⟨E,2,none⟩) (dO (p:=⟨E,1,none⟩) O7.out K7.out (by decide) (.string (aa sp))) (K7.out.aI 1 _) (by decide) (.string (aa (ni t))));have K8:=hide ((K7.out.aI 1 (.string (aa sp))).aI 2 (.string (aa (ni t))));have M8:=hide ((M7.out.setCell (p:=⟨E,1,none⟩) (.inr Bo) (.string (aa sp))).setCell (p:=⟨E,2,none⟩) (.inr Bo) (.string (aa (ni t))));have T8:=hide (M8.out.below (C:=B) (Nat.le_refl _) H.out.bp HB.out)
      have e8:=hide (abV B P w.heap.size _ _ _ v7 (splits t) Al cl I8.out (Nat.le_trans HB.out M8.out.size)
       (by rw[show (splits t).length=t.attrs.length from List.length_map _];exact O8.out)
       (by rw[show (splits t).length=t.attrs.length from List.length_map _];have:=qb.out.2.1;omega)
       (by have:=IE.out;exact Nat.le_trans this (by decide))
       (fun s hs=>by
        obtain⟨a,ha,rfl⟩:=List.mem_map.1 hs;have h1:=ak9 a;have h2:=(Hv.out a ha).1;exact Nat.le_trans (Nat.le_trans h1 h2) (by decide))
       (fun d hd=>by
        have bg:d∈cV st t:=by rw[Dd.out];exact hd
        have h1:d.ns.length≤1000000:=by
         unfold cV at bg
         split at bg
         ·refine DJ (splits t) st.scope C9.out (fun s hs=>?_) d bg;obtain⟨a,ha,rfl⟩:=List.mem_map.1 hs;have h3:=Yz a;have h2:=(Hv.out a ha).2;exact Nat.le_trans h3 (Nat.le_trans (Nat.mul_le_mul_left 4 h2) (by decide))
         exact C9.out d bg
        exact Nat.le_trans h1 (by decide)))
      rw[show (splits t).length=t.attrs.length from List.length_map _] at e8
      go_upto_region 18 with (go_at_call 59;refine e8.out.mono ?_;rintro e w9 ⟨vb9,A9,c9,rfl,p9,o9,m9⟩;have I9:=hide p9;have O9:=hide o9;have M9:=hide m9;clear p9 o9 m9)
      have sP:DT st t im=⟨t.name,⟨sp,ni t⟩,st.scope.length⟩:=by unfold DT;rw[r8.out]
      obtain⟨el,KH⟩:∃el,DT st t im=el:=⟨_,rfl⟩;have OZ:=hide KH;rw[KH] at sP;have ZH:=hide sP;have K9:Hid (ae w9 E 107 (nS el).toArray):=hide (by rw[ZH.out];exact M9.out.blk K8.out yX.out)
      have Ij:=hide (show ((cZ ((b1 t).or (rG im t))).or (cZ (iW im [] (splits t))))=cZ (b3 st t) by
       unfold b3;rw[Dd.out]
       cases (b1 t).or (rG im t)<;>rfl)
      have QG:=hide (M8.out.trans (aD.eV M9.out));obtain⟨uF,Kv⟩:∃uF,cz im (splits t)=uF:=⟨_,rfl⟩;have Ii:=hide Kv;rw[Kv] at O9 ⊢;obtain⟨n9,xW⟩:∃n9,uF.length=n9:=⟨_,rfl⟩;have Qp:=hide xW;rw[xW] at O9 ⊢;have Rs:w9.cell? ⟨P,0,none⟩=some (.slice v7.Ao no v7.co):=by rw[←fh.out];exact I9.out.c
      have OO:=hide (show w9.ownsRow B 107 4 (.slice v7.Ao no v7.co) no (els st.open_) by rw[←fh.out];exact I9.out.o);have ZF:=hide uP;have HwE:=hide Bo;clear sP KH Kv xW e8 eM uP Ad Bo
      go_cut [] (fun wx=>abk B P E w st t im (cZ (b3 st t)) el A9 n9 c9 wx)
      case first=>
       have xb:Below w9.heap.size w9 (w9.drew.alloc (.cells (nS el).toArray 107)):=(Below.refl _ _).drew.alloc (Nat.le_refl _) _;have BX:=hide xb;have KX:=hide (show ae (w9.drew.alloc (.cells (nS el).toArray 107)) w9.heap.size 107 (nS el).toArray from ae.new w9.drew 107 _);have Gr:=hide Rs;have KC:=hide (show w9.cell? ⟨E,0,none⟩=some (.string (aa el.written))∧w9.cell? ⟨E,1,none⟩=some (.string (aa el.name.ns))∧w9.cell? ⟨E,2,none⟩=some (.string (aa el.name.loc))∧w9.cell? ⟨E,3,none⟩=some (.int .i64 (el.scope:Int)) from⟨K9.out.cell 0,K9.out.cell 1,K9.out.cell 2,K9.out.cell 3⟩);clear xb Rs;refine anb 11 (fun W'=>W'.cell? ⟨P,0,none⟩=some (.slice v7.Ao no v7.co)∧W'.cell? ⟨E,0,none⟩=some (.string (aa el.written))∧W'.cell? ⟨E,1,none⟩=some (.string (aa el.name.ns))∧W'.cell? ⟨E,2,none⟩=some (.string (aa el.name.loc))∧W'.cell? ⟨E,3,none⟩=some (.int .i64 (el.scope:Int))) (by kernel_rfl) ?_ (fun hHeld=>?_)
       ·(try dsimp only);exact⟨Gr.out,KC.out.1,KC.out.2.1,KC.out.2.2.1,KC.out.2.2.2⟩
       change fF _ _ _ _ _ _ 15 #[false,false,false,false,false,false,false,false,false,false,false,false,false,false,false] _ _;iterate 5 (refine V7 (v:=?_) rfl rfl hHeld ?_ ?_;rotate_left;(· (intro w';go_simp;try with_reducible rfl));(try simp only[nx,List.set]))
       iterate 2 (refine nbT (v:=?_) rfl rfl hHeld ?_ ?_;rotate_left;(· (intro w' hSw;obtain⟨z0,z1,z2,z3,z4⟩:=hSw;go_simp;try with_reducible rfl));(try simp only[nx,List.set]))
       refine Ua (i:=7) rfl (by kernel_rfl) (by kernel_rfl) (fun K hK=>?_);go_simp;(try dsimp only);refine hK.out _ _ ?_ (fun aV=>?_)
       ·(try dsimp only);exact⟨(BX.out.cell (dN Gr.out)).trans Gr.out,(BX.out.cell (dN KC.out.1)).trans KC.out.1,(BX.out.cell (dN KC.out.2.1)).trans KC.out.2.1,(BX.out.cell (dN KC.out.2.2.1)).trans KC.out.2.2.1,(BX.out.cell (dN KC.out.2.2.2)).trans KC.out.2.2.2⟩
       clear hK K hHeld;have hHeld:=aV;clear aV;(try simp only[Act.put,List.setIfInBounds_toArray,List.set_cons_zero,List.set_cons_succ]);refine Ua (i:=8) rfl (by kernel_rfl) (by kernel_rfl) (fun K hK=>?_);refine Wv _ (by rfl) _ _ _ (by rfl) B 107 _ 4 56 Tryz.underlying73 agu (by rfl) (by omega) (.slice v7.Ao no v7.co) no (els st.open_) (by rfl) (eW OO.out BX.out) (nS el) rfl (ado el) w9.heap.size KX.out (by rfl) (by unfold maxLen;have:=Hk.out.op;have:=fh.out;omega) (by have:=Hk.out.op;have:=fh.out;omega) (Nat.le_trans HB.out (Nat.le_trans QG.out.size BX.out.size)) ?_;intro g8 dw ny aM aF dc;have cX:=hide aM;have ek:=hide aF
       have afG:∀j,(Value.slice v7.Ao no v7.co).ownBlock=some j→j≠E:=fun j hj=>by
        cases hA:v7.Ao with
        | none=>rw[hA] at hj;cases hj
        | some a=>rw[hA] at hj;simp only[Value.ownBlock,Option.some.injEq] at hj;rw[←hj];exact ZF.out a hA
       have hnP:some P≠(Value.slice v7.Ao no v7.co).ownBlock:=fun e=>cU (eW OO.out BX.out) (I9.out.blk.go BX.out) (by decide) e.symm;have hnE:some E≠(Value.slice v7.Ao no v7.co).ownBlock:=fun e=>afG E e.symm rfl;have zJ:=hide ((K9.out.go BX.out).grown aF hnE);have zM:=hide ((I9.out.blk.go BX.out).grown aF hnP);have IZ:=hide (show b7 B 107 w9 ny from (b7.bX BX.out).trans (.grown aF fun j hj=>aG (eW OO.out BX.out) j hj));clear aM aF dc;(try dsimp only);refine hK.out _ _ ?_ (fun aV=>?_)
       ·(try dsimp only);exact⟨by rw[←fh.out];exact zM.out.cell 0,zJ.out.cell 0,zJ.out.cell 1,zJ.out.cell 2,zJ.out.cell 3⟩
       clear hK K hHeld;have hHeld:=aV;clear aV;(try simp only[Act.put,List.setIfInBounds_toArray,List.set_cons_zero,List.set_cons_succ]);iterate 2 (refine V7 (v:=?_) rfl rfl hHeld ?_ ?_;rotate_left;(· (intro w';go_simp;try with_reducible rfl));(try simp only[nx,List.set]))
       have q0:ny.cell? ⟨P,0,none⟩=some _:=zM.out.cell 0;have f0:=zM.out.frozen 0;refine Ub (i:=11) rfl (by kernel_rfl) (by kernel_rfl) (by kernel_rfl) (fun K hK=>?_);go_simp;(try dsimp only);refine hK.out _ _ ?_;clear hK K;(try simp only[Act.put,List.setIfInBounds_toArray,List.set_cons_zero,List.set_cons_succ]);refine KI (i:=12) (d:=135) (v:=?_) rfl rfl (by kernel_rfl) (by kernel_rfl) (by kernel_rfl) (fun _ _ _ h=>h) (by kernel_rfl) (by kernel_rfl) (.inl (by kernel_rfl)) ?_ ?_;rotate_left
       ·intro w';go_simp
        first|done|with_reducible rfl
       (try simp only[Act.put,List.setIfInBounds_toArray,List.set_cons_zero,List.set_cons_succ]);refine KI (i:=13) (d:=136) (v:=?_) rfl rfl (by kernel_rfl) (by kernel_rfl) (by kernel_rfl) (fun _ _ _ h=>h) (by kernel_rfl) (by kernel_rfl) (.inl (by kernel_rfl)) ?_ ?_;rotate_left
       ·intro w';go_simp
        first|done|with_reducible rfl
       (try simp only[Act.put,List.setIfInBounds_toArray,List.set_cons_zero,List.set_cons_succ]);have hop:st.open_.length+1=(st.open_++[el]).length:=by rw[List.length_append];rfl
       have A6:ny.ownsRow B 107 4 (.slice (some ⟨g8,0,none⟩) (st.open_++[el]).length dw) (st.open_++[el]).length (els (st.open_++[el])):=by
        rw[adt,←hop,fh.out];exact cX.out
       have i10:=I9.out.akE IZ.out A6;rw[←hop,fh.out] at i10;rw[Ij.out] at i10;dsimp only at i10;have I10:=hide i10;have q3:=i10.c3;have f3:=i10.blk.frozen 3;dsimp only at q3;clear hop A6 i10 q0 f0;refine Ub (i:=14) rfl (by kernel_rfl) (by kernel_rfl) (by kernel_rfl) (fun K hK=>?_);go_simp;(try dsimp only);refine hK.out _ _ ?_;clear hK K;(try simp only[Act.put,List.setIfInBounds_toArray,List.set_cons_zero,List.set_cons_succ]);refine ae2 (by kernel_rfl) ?_ _;(try simp only[Exit.then]);(try refine Met.intro ?_)
       first
        | (rename_i hJ hM;refine hM _ _ (Met.intro ?_);refine hJ _ _ ?_)
        | (rename_i hJ;refine hJ _ _ ?_)
        | (rename_i hJ hT;refine hJ _ _ ?_)
        | (rename_i hJ hT aT;refine hJ _ _ ?_)
        | (rename_i hJ hT aT cB;refine hJ _ _ ?_)
       (repeat apply Exists.intro);refine⟨⟨_,I10.out.akF,?_,?_,?_⟩,rfl⟩
       ·exact (zJ.out.far (p:=⟨P,0,none⟩) yX.out _).far (p:=⟨P,3,none⟩) yX.out _
       ·have hoA:=IZ.out.own (O9.out.mono (base':=w.heap.size) M8.out.size) (by decide);have hoB:=dO (p:=⟨P,0,none⟩) hoA zM.out (by decide) (.slice (some ⟨g8,0,none⟩) (no+1) dw);rw[Ii.out];exact dO (p:=⟨P,3,none⟩) hoB (zM.out.aI 0 _) (by decide) _
       exact ((QG.out.trans (IZ.out.fM (.inl rfl))).setCell (p:=⟨P,0,none⟩) (.inl rfl) _).setCell (p:=⟨P,3,none⟩) (.inl rfl) _
      case rest=>
       obtain⟨v11,tI,Fq,We,m11⟩:=hcut;have zL:=hide tI;have K11:=hide Fq;have QK:=hide We;have M11:=hide m11;have c2:=tI.c2;have y1:wc.cell? ⟨E,1,none⟩=some (.string (aa el.name.ns)):=Fq.cell 1;have y2:wc.cell? ⟨E,2,none⟩=some (.string (aa el.name.loc)):=Fq.cell 2;have ES:=FW B v11.xs ⟨⟨0,el.name,uF,[]⟩,A9,c9⟩ v11.Ae v11.ce wc.drew tI.e (Nat.le_trans HB.out m11.size) (by rw[tI.len];exact Nat.le_trans Hk.out.ev (by decide)) (fun y hy=>by have:=Hk.out.tx _ (by rw[←show v11.xs.map (·.e)=st.evs from tI.ev];exact List.mem_map_of_mem hy);show _+0≤_;omega);dsimp only at ES;rw[Qp.out] at ES;have HP:=hide ES;have HK:=hide (show ae wc.drew P 77 _ from tI.blk)
       have Qy:=hide (show wh st t (cV st t)=⟨st.open_++[el],im,dg st.evs ⟨0,el.name,uF,[]⟩,true⟩ by
        unfold wh xu;rw[Dd.out,←Ii.out,←OZ.out]
        rfl)
       clear ES Fq We m11
       go_upto_region 19 with fail
       go_cut [] (fun wx=>∃v,PI B P wx ⟨st.open_++[el],im,dg st.evs ⟨0,el.name,uF,[]⟩,true⟩ (cZ (b3 st t)) v∧aD B P w wx)
       case first=>
        clear tI
        go_region_with (go_at_call 60;refine HP.out.mono ?_;rintro e Gk ⟨A,c,xs,rfl,ho,hx,hi,hm⟩;have q2:Gk.cell? ⟨P,2,none⟩=some _:=(hm.blk HK.out (by decide)).cell 2;have g2:=(hm.blk HK.out (by decide)).frozen 2)
        all_goals
         (try simp only[Exit.then]);(try refine Met.intro ?_)
         first
          | (rename_i hJ hM;refine hM _ _ (Met.intro ?_);refine hJ _ _ ?_)
          | (rename_i hJ;refine hJ _ _ ?_)
          | (rename_i hJ hT;refine hJ _ _ ?_)
          | (rename_i hJ hT aT;refine hJ _ _ ?_)
          | (rename_i hJ hT aT cB;refine hJ _ _ ?_)
         (repeat apply Exists.intro);refine⟨⟨_,(zL.out.go (Below.refl _ _).drew).events hm ho hx hi (agn (by rw[show (⟨0,el.name,uF,[]⟩:Ev).attrs.length=n9 from Qp.out];rw[Ii.out] at QK;exact QK.out) (Nat.le_trans HB.out (Nat.le_refl _))),?_⟩,rfl⟩;exact ((M11.out.drew).trans (hm.fM (by decide))).setCell (p:=⟨P,2,none⟩) (.inl rfl) _
       case rest=>
        obtain⟨v13,WG,m13⟩:=hcut;have QN:=hide WG;have IY:=hide m13;have T13:=hide (m13.below (C:=B) (Nat.le_refl _) H.out.bp HB.out);have t3:=(T13.out.cell (p:=⟨b,o+3,none⟩) Ht.out.lt).trans Ht.out.c3;obtain⟨te,lJ⟩:∃te,t.empty=te:=⟨_,rfl⟩;rw[lJ] at t3;have IJ:=hide lJ;have HC:=hide (fun (W:World) (bb:bR) (vv:Pv) (hh:PI B P W (wh st t (cV st t)) bb vv) (hB:B≤W.heap.size)=>XC B P W _ bb vv hh hB (Dm (X3 (m:=1000000000) Hk.out qb.out.2.2 (by rw[Dd.out];exact Nat.le_trans IE.out (by decide)) (by decide)) (Nat.le_refl _)) (by show st.open_++[_]≠[];simp));have tW:=hide (HC.out wc _ v13 (by rw[Qy.out];exact QN.out) (Nat.le_trans HB.out IY.out.size));clear WG m13 lJ tI c2 y1 y2
        cases te with
        | false=>
         go_wp2;go_end0;exact X2 aW.out Qy.out (by rw[IJ.out];rfl) QN.out IY.out
        | true=>
         go_wp2_with fail
         refine tW.out.mono ?_;rintro e w14 ⟨rfl,h2,v14,h1⟩;have P14:=hide h1;have M14:=hide (IY.out.trans h2);clear h1 h2;dsimp only
         rename_i cA
         refine cA _ _ ?_;clear cA;go_wp2;go_end0;exact X2 aW.out rfl (by rw[IJ.out];rfl) P14.out M14.out
end
section
open Go.RowKit Tk

theorem zP.at_{w:World}{B:Nat}{A:Option Addr}{xs:List Tv}(h:zP w B A (xs.map Tv.g)){j:Nat}{x:Tv}(hx:xs[j]?=some x):∃b off,A=some ⟨b,off,none⟩∧b<B∧OG w b (off+j*7) x.g:=by
 obtain⟨hj,he⟩:=List.getElem?_eq_some_iff.1 hx;obtain⟨b,off,h1,h2,h3⟩:=h.row.gt (k:=j) (by rw[List.length_map];exact hj);rw[List.getElem_map,he] at h3;exact⟨b,off,h1,h2,h3⟩
end
section
open Go.RowKit Tk Sx

structure nM(N:Nat)(t:Tok):Prop where
 nm:t.name.length≤N
 tx:t.text.length≤N
 ats:t.attrs.length≤N
 an:∀a∈t.attrs,a.name.length≤N∧a.value.length≤N
 kd:t.kind=0∨t.kind=1∨t.kind=2∨t.kind=3∨t.kind=4
structure si(st:St)(n M V:Nat):Prop where
 ok:Ok st n M
 ns:∀d∈st.scope,d.ns.length≤V
structure sj(D:L):Prop where
 tk:∀t∈eY D.length 0 D,nM 100000 t
 ru:∀k st,run eK ((eY D.length 0 D).take k)=.ok st→si st 90000000 100000000000000000 1000000
theorem Xx(st:St)(ts:List Tok)(t:Tok):run st (ts++[t])=match run st ts with | .error x=>.error x | .ok st'=>Sx.step st' t:=by
 induction ts generalizing st with
 | nil=>
  simp only[List.nil_append,run]
  cases Sx.step st t<;>rfl
 | cons u ts ih=>
  simp only[List.cons_append,run]
  cases hs:Sx.step st u with
  | error x=>rfl
  | ok st'=>exact ih st'
theorem aki{st:St}{ts:List Tok}{x:Nat×Nat}(h:run st ts=.error x):∀r,run st (ts++r)=.error x:=by
 induction ts generalizing st with
 | nil=>cases h
 | cons u ts ih=>
  intro r;simp only[List.cons_append,run] at h ⊢
  cases hs:Sx.step st u with
  | error y=>rw[hs] at h;exact h
  | ok st'=>rw[hs] at h;exact ih h r
end
section
open Go.RowKit Tk Sx

theorem ali(B P:Nat)(w:World)(st:St)(v:Pv)(b o:Nat)(t:Tok)(h:PI B P w st none v) :
  Calls Tryz.prog 34 #[.pointer (some ⟨P,0,none⟩),.pointer (some ⟨b,o,none⟩)] w (qw B P w (.ok st)):=by
 go_enter Tryz.func34,Tryz.ntmps34
 go_wp2;go_end0;exact⟨rfl,aD.refl _ _ _,_,h⟩
theorem alj(B P:Nat)(w:World)(st:St)(v:Pv)(b o:Nat)(t:Tok)(eL:Option Addr)(ct:Nat)(h:PI B P w st none v)(hB:B≤w.heap.size)(h6:6≤B)(hg:Gl w)(ht:qx B w b o t)
  (iH:w.cell? ⟨b,o+2,none⟩=some (.slice eL t.attrs.length ct)) (hr:Reads w B 3 eL t.attrs.length (ld (t.attrs.map At.g))) (hs:nM 100000 t) (hk:si st 90000000 100000000000000000 1000000) :
  Calls Tryz.prog 30 #[.pointer (some ⟨P,0,none⟩),.pointer (some ⟨b,o,none⟩)] w (qw B P w (Sx.start st t)):=by
 cases he:Sx.early st t with
 | some x=>
  rw[show Sx.start st t=.error x by unfold Sx.start;rw[he]];exact alo B P w st v b o t eL ct h hB h6 hg ht iH hr (Nat.le_trans hs.ats (by decide)) (Nat.le_trans hs.nm (by decide)) (fun a ha=>Nat.le_trans (hs.an a ha).1 (by decide)) x he
 | none=>exact alp B P w st v b o t eL ct h hB h6 hg ht iH hr hs.nm hs.an hk.ok hk.ns he
def xz(k:Int):Nat:=if k=0 then 30 else if k=1 then 31 else if k=2 then 32 else if k=3 then 33 else 34
theorem alr(B P:Nat)(w:World)(st:St)(v:Pv)(b o:Nat)(t:Tok)(eL:Option Addr)(ct:Nat)(h:PI B P w st none v)(hB:B≤w.heap.size)(h6:6≤B)(hg:Gl w)(ht:qx B w b o t)
  (iH:w.cell? ⟨b,o+2,none⟩=some (.slice eL t.attrs.length ct)) (hr:Reads w B 3 eL t.attrs.length (ld (t.attrs.map At.g))) (hs:nM 100000 t) (hk:si st 90000000 100000000000000000 1000000) :
  Calls Tryz.prog (xz t.kind) #[.pointer (some ⟨P,0,none⟩),.pointer (some ⟨b,o,none⟩)] w (qw B P w (Sx.step st t)):=by
 have cn:Ok st 1000000000 100000000000000000:=Dm hk.ok (by decide);unfold xz Sx.step;split
 ·exact alj B P w st v b o t eL ct h hB h6 hg ht iH hr hs hk
 split
 ·exact akC B P w st v b o t h hB cn ht
 split
 ·exact alw B P w st v b o t h hB cn ht hs.tx
 split
 ·exact acN B P w st v b o t h hB cn ht (Nat.le_trans hs.tx (by decide))
 exact ali B P w st v b o t h
end
end Go.Proofs.YtnbmfljhbpfilaaGreatDoor
