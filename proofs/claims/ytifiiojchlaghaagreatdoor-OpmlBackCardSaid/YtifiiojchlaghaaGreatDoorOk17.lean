/- Strict: the program's start of an element, from its values on. And more. -/
import Derived.Test.YtifiiojchlaghaaGreatDoorOk01
import Derived.Test.YtifiiojchlaghaaGreatDoorOk08
import Derived.Test.YtifiiojchlaghaaGreatDoorOk16
import Derived.Deep.CutBlock
set_option linter.unusedSimpArgs false
set_option maxRecDepth 100000
set_option maxHeartbeats 64000000
set_option linter.unusedVariables false
namespace Go.Proofs.YtifiiojchlaghaaGreatDoor
section
open Go.RowKit Tk Sx

theorem bad_ptr{B:Nat}{w:World}{b:Bad}{v:Value}(h:BadAt B w b v):∃p,v=.pointer p:=by
 unfold BadAt at h
 cases b with
 | none=>exact⟨_,h⟩
 | some x=>obtain⟨F,_,h2,_⟩:=h;exact⟨_,h2⟩
def DclM(B P E base:Nat)(w:World)(st:St)(t:Tok)(sc:List Dcl)(x:Option Nat)(nm:Nm)(Al Ao:Option Addr)(cl:Nat)(W:World):Prop :=
 ∃v,PI B P W ⟨st.open_,sc,st.evs,st.rooted⟩ (badV x) v∧Blk W E 110 #[.string (bstr t.name),.string (bstr nm.ns),.string (bstr nm.loc),.int .i64 (st.scope.length:Int)]∧
  W.ownsRow base 150 4 (.slice Al t.attrs.length cl) t.attrs.length (spls (splits t))∧Mov B P w W∧Below B w W∧v.Ao=Ao
theorem PI.setE{B P E i:Nat}{w:World}{st:St}{b:Bad}{v:Pv}{cs:Array Value}(h:PI B P w st b v)(hE:Blk w E 110 cs)(hBE:B≤E)(hn:∀a,v.Ao=some a→a.block≠E)(u:Value):PI B P (w.setCell ⟨E,i,none⟩ u) st b v:=by
 have hm:Mov B P w (w.setCell ⟨E,i,none⟩ u):=(Mov.refl B P w).setMine (p:=⟨E,i,none⟩) ⟨hBE,.inl hE.isT⟩ u;refine⟨h.blk.far (p:=⟨E,i,none⟩) (fun e=>by have e2:P=E:=e;subst e2;exact isT_ne h.blk.isT hE.isT (by decide)) u,h.bp,?_,?_,?_,h.ev,?_,?_⟩
 ·refine⟨h.o.1,?_⟩
  rcases h.o.2 with hn2|⟨g,cap,cur,hv,hbg,hgg,rest⟩
  ·exact .inl hn2
  refine .inr ⟨g,cap,cur,hv,hbg,(Below.heap_setCell _ _ _ _ ?_).trans hgg,rest⟩;have hA:v.Ao=some ⟨g,0,none⟩:=by injection hv
  exact hn _ hA
 ·exact own_far (p:=⟨E,i,none⟩) h.s hE (by decide) u
 ·exact own_far (p:=⟨E,i,none⟩) h.e hE (by decide) u
 ·exact fun x hx=>(h.inn x hx).mov hm (ew_notP (h.inn x hx) h.blk)
 exact h.bad.mov hm h.blk (by decide)

theorem split_short(l:L):((split l).getD ([],[])).1.length≤l.length∧((split l).getD ([],[])).2.length≤l.length:=by
 have h:=cut_short' l [58];unfold split;split
 ·split
  ·exact h
  exact⟨Nat.zero_le _,Nat.zero_le _⟩
 split
 ·exact⟨Nat.zero_le _,Nat.le_refl _⟩
 exact⟨Nat.zero_le _,Nat.zero_le _⟩
theorem splOf_loc(a:At):(splOf a).loc.length≤a.name.length:=by
 have h:=split_short a.name;unfold splOf
 cases hs:split a.name with
 | none=>exact Nat.zero_le _
 | some x=>rw[hs] at h;exact h.2
theorem valOf_short(a:At):(Sx.valOf a).length≤4*a.value.length:=by
 unfold Sx.valOf
 cases hv:value a.value with
 | error e=>exact Nat.zero_le _
 | ok v=>
  unfold value at hv;dsimp only
  split at hv
  ·split at hv<;>cases hv
  have:=sref_len _ _ _ _ hv;rwa[List.length_map] at this
theorem declared_ns{m:Nat}:∀(l:List Spl) (sc:List Dcl),(∀d∈sc,d.ns.length≤m)→(∀s∈l,s.val.length≤m)→∀d∈declared sc l,d.ns.length≤m
 | [],sc,h,_=>h
 | s :: l,sc,h,h2=>by
  rw[declared];split
  ·refine declared_ns l _ (fun d hd=>?_) (fun x hx=>h2 x (List.mem_cons_of_mem _ hx))
   rcases List.mem_append.1 hd with hd|hd
   ·exact h d hd
   rw[List.mem_singleton.1 hd];exact h2 s (List.mem_cons_self ..)
  exact declared_ns l _ h (fun x hx=>h2 x (List.mem_cons_of_mem _ hx))

theorem PI.setO{B P:Nat}{w w1:World}{st:St}{b:Bad}{v:Pv}{A:Option Addr}{c:Nat}{op:List El}(h:PI B P w st b v)(hm:MovT B 110 w w1)(ho:w1.ownsRow B 110 4 (.slice A op.length c) op.length (els op)) :
  PI B P (w1.setCell ⟨P,0,none⟩ (.slice A op.length c)) ⟨op,st.scope,st.evs,st.rooted⟩ b ⟨A,c,v.As,v.cs,v.Ae,v.ce,v.vb,v.xs⟩:=by
 have hb:=hm.blk h.blk (by decide);refine⟨hb.set_ 0 _,h.bp,?_,?_,?_,h.ev,?_,?_⟩
 ·exact own_far (p:=⟨P,0,none⟩) ho hb (by decide) _
 ·exact own_far (p:=⟨P,0,none⟩) (hm.own h.s (by decide)) hb (by decide) _
 ·exact own_far (p:=⟨P,0,none⟩) (hm.own h.e (by decide)) hb (by decide) _
 ·intro y hy;have hy1:y.In B w1:=(h.inn y hy).movt hm (by decide);exact hy1.mov ((Mov.refl B P w1).setCell (p:=⟨P,0,none⟩) (.inl rfl) _) (ew_notP hy1 hb)
 have h1:=h.bad.movt hm (by decide);exact h1.mov ((Mov.refl B P w1).setCell (p:=⟨P,0,none⟩) (.inl rfl) _) hb (by decide)
theorem PI.setR{B P:Nat}{w:World}{st:St}{b:Bad}{v:Pv}(h:PI B P w st b v):PI B P (w.setCell ⟨P,3,none⟩ (.bool true)) ⟨st.open_,st.scope,st.evs,true⟩ b v :=
 h.put 3 (.bool true) rfl ⟨rfl,rfl,rfl⟩ ⟨rfl,rfl,rfl⟩ ⟨rfl,rfl,rfl,rfl⟩ (h.bad.mov ((Mov.refl B P w).setCell (p:=⟨P,3,none⟩) (.inl rfl) _) h.blk (by decide))
theorem els_snoc(l:List El)(x:El):els (l++[x])=els l++elCells x:=by simp[els]
theorem el_one(x:El):∀u∈elCells x,u.oneCell'=true:=by
 intro u hu;simp only[elCells,List.mem_cons,List.not_mem_nil,or_false] at hu
 rcases hu with rfl|rfl|rfl|rfl<;>rfl
theorem in_own{B Z:Nat}{w:World}{e:Ev}{A:Option Addr}{c:Nat}(h:w.ownsRow Z 125 3 (.slice A e.attrs.length c) e.attrs.length (atts e.attrs))(hZ:B≤Z):(Ew.mk e A c).In B w :=
 ⟨Reads.of_own h,fun a ha=>Nat.le_trans hZ (above_own h a ha),typed_own h⟩
theorem putEv_len(l:List Ev)(x:Ev):(putEv l x).length≤l.length+1:=by
 unfold putEv;split
 ·simp
 split
 ·split
  ·simp only[List.length_append,List.length_dropLast,List.length_singleton];omega
  split
  ·exact Nat.le_succ _
  simp
 split
 ·exact Nat.le_succ _
 simp
theorem putEv_tx{l:List Ev}{x:Ev}{M:Nat}(h:∀y∈l,y.text.length≤M)(hx:x.kind≠2)(h2:x.text.length≤M):∀y∈putEv l x,y.text.length≤M:=by
 rw[put_other hx];intro y hy
 rcases List.mem_append.1 hy with hy|hy
 ·exact h y hy
 rw[List.mem_singleton.1 hy];exact h2
theorem declared_ge(l:List Spl):∀sc:List Dcl,sc.length≤(declared sc l).length:=by
 induction l with
 | nil=>intro sc;exact Nat.le_refl _
 | cons s l ih=>
  intro sc;rw[declared];split
  ·have:=ih (sc++[⟨(declares s).1,s.val⟩]);rw[List.length_append] at this;omega
  exact ih sc
theorem sc1_ge(st:St)(t:Tok):st.scope.length≤(sc1 st t).length:=by
 unfold sc1;split
 ·exact declared_ge _ _
 exact Nat.le_refl _
theorem startedW_ok{st:St}{t:Tok}{n M m:Nat}(hk:Ok st n M)(h16:st.open_.length≠16)(hs:(sc1 st t).length≤m)(hn:n<m):Ok (startedW st t (sc1 st t)) m M:=by
 refine⟨?_,hs,?_,?_,?_,?_⟩
 ·have:=hk.op;show (st.open_++[_]).length≤16;rw[List.length_append]
  simp;omega
 ·have h1:=hk.ev;exact Nat.le_trans (putEv_len st.evs (evOf t (sc1 st t))) (by omega)
 ·exact putEv_tx (x:=evOf t (sc1 st t)) hk.tx (by simp[evOf]) (by simp[evOf])
 ·intro x hx;have hg:=sc1_ge st t;show x.scope≤(sc1 st t).length
  rcases List.mem_append.1 hx with hx|hx
  ·have:=hk.in_ x hx;omega
  rw[List.mem_singleton.1 hx];exact hg
 show (st.open_++[_]).Pairwise _;rw[List.pairwise_append];refine⟨hk.srt,List.pairwise_singleton _ _,fun a ha b hb=>?_⟩;rw[List.mem_singleton.1 hb];exact hk.in_ a ha
theorem Ok_up{st:St}{n n' M:Nat}(h:Ok st n M)(hn:n≤n'):Ok st n' M:=⟨h.op,Nat.le_trans h.sc hn,Nat.le_trans h.ev hn,h.tx,h.in_,h.srt⟩
theorem start_end{B P:Nat}{w w':World}{st st1 r:St}{t:Tok}{v:Pv}(hst:Sx.start st t=match late st t with|some a=>.error (a,50) | none=>.ok (if t.empty then closeSt (started st t) else started st t))
  (h1:startedW st t (sc1 st t)=st1) (hr:r=if t.empty then closeSt st1 else st1) (hp:PI B P w' r (badV (b3 st t)) v) (hm:Mov B P w w'):StepR B P w (Sx.start st t) (.returned (.tuple #[])) w':=by
 rw[hst,late_is]
 cases hb:b3 st t with
 | none=>
  rw[hb] at hp;have:=started_is hb;rw[h1] at this;rw[hr] at hp;rw[←this];exact⟨rfl,hm,v,hp⟩
 | some a=>
  rw[hb] at hp;exact⟨rfl,hm,_,v,hp⟩
def OpnM(B P E:Nat)(w:World)(st:St)(t:Tok)(scn:List Dcl)(bd:Bad)(el:El)(A:Option Addr)(n c:Nat)(W:World):Prop :=
 ∃v,PI B P W ⟨st.open_++[el],scn,st.evs,true⟩ bd v∧Blk W E 110 (elCells el).toArray∧
  W.ownsRow w.heap.size 125 3 (.slice A n c) n (atts (attrsOf scn (splits t)))∧Mov B P w W

theorem start_late(B P:Nat)(w:World)(st:St)(v:Pv)(b o:Nat)(t:Tok)(At_:Option Addr)(ct:Nat)(h:PI B P w st none v)(hB:B≤w.heap.size)(h6:6≤B)(hg:Gl w)(ht:TkB B w b o t)
  (hta:w.cell? ⟨b,o+2,none⟩=some (.slice At_ t.attrs.length ct)) (hr:Reads w B 3 At_ t.attrs.length (gas (t.attrs.map At.g))) (htn:t.name.length≤100000) (hv:∀a∈t.attrs,a.name.length≤100000∧a.value.length≤100000)
  (hk:Ok st 90000000 100000000000000000) (hns:∀d∈st.scope,d.ns.length≤1000000) (he:Sx.early st t=none) :
  Calls Tryz.prog 34 #[.pointer (some ⟨P,0,none⟩),.pointer (some ⟨b,o,none⟩)] w (StepR B P w (Sx.start st t)):=by
 have hnm:names t=none:=by
  unfold Sx.early at he
  cases hn:names t with
  | none=>rfl
  | some a=>rw[hn] at he;cases he
 have he2:¬(st.rooted=true∧st.open_.length=0)∧t.attrs.length≤16∧st.open_.length≠16:=by
  unfold Sx.early at he;rw[hnm] at he;dsimp only at he
  by_cases c1:(st.rooted&&st.open_.isEmpty)=true
  ·rw[if_pos c1] at he;cases he
  rw[if_neg c1] at he
  by_cases c2:16<t.attrs.length
  ·rw[if_pos c2] at he;cases he
  rw[if_neg c2] at he
  by_cases c3:st.open_.length=16
  ·rw[if_pos c3] at he;cases he
  refine⟨fun hc=>c1 ?_,by omega,c3⟩;rw[hc.1,List.eq_nil_of_length_eq_zero hc.2];rfl
 have HNm:=hide (names_any B P w st v b o t At_ ct h hB h6 hg ht hta hr (by omega) (by omega) (fun a ha=>by have:=(hv a ha).1;omega));have H:=hide h;have HB:=hide hB;have H6:=hide h6;have Ht:=hide ht;have Hta:=hide hta;have Hr:=hide hr;have Hv:=hide hv;have Hk:=hide hk;have Hns:=hide hns;have Htn:=hide htn;have He2:=hide he2;have Hnm:=hide hnm;have Hst:=hide (show Sx.start st t=match late st t with|some a=>.error (a,50) | none=>.ok (if t.empty then closeSt (started st t) else started st t) by unfold Sx.start;rw[he];rfl);obtain⟨no,hno⟩:∃no,st.open_.length=no:=⟨_,rfl⟩;obtain⟨na,hna⟩:∃na,t.attrs.length=na:=⟨_,rfl⟩;obtain⟨ro,hro⟩:∃ro,st.rooted=ro:=⟨_,rfl⟩;have Hno:=hide hno;have Hna:=hide hna;have Hro:=hide hro;clear h hB h6 hg ht hta hr htn hv hk hns he hnm he2 hno hna hro
 go_enter Tryz.func34,Tryz.ntmps34
 go_upto_block 0 with (go_at_call 55;refine HNm.out.mono ?_;rintro e w1 ⟨vb,Al,cl,rfl,h1,h2,h3⟩;rw[Hnm.out] at h1;replace h1:PI B P w1 st none ⟨v.Ao,v.co,v.As,v.cs,v.Ae,v.ce,vb,v.xs⟩:=h1;have c4:=h1.c4;rw[h1.vb_none] at c4;have I1:=hide h1;have O1:=hide h2;have M1:=hide h3;clear h1 h2 h3)
 have T1:=hide ((M1.out.below (B:=B) H.out.bp HB.out))
 go_cut [] (fun wx=>wx=w1)
 case first=>
  have c0:=I1.out.c;have c3:=I1.out.c3;rw[Hno.out] at c0;rw[Hro.out] at c3;have t2:=(T1.out.cell (p:=⟨b,o+2,none⟩) Ht.out.lt).trans Hta.out;rw[Hna.out] at t2;have e1:¬16<na:=by have:=He2.out.2.1;have:=Hna.out;omega
  have e2:((no:Int)==16)=false:=by rw[beq_eq_false_iff_ne];have:=He2.out.2.2;have:=Hno.out;omega
  have e3:¬no=16:=by have:=He2.out.2.2;have:=Hno.out;omega
  have hmode:ro=false∨(ro=true∧0<no):=by
   have:=He2.out.1;rw[Hno.out,Hro.out] at this
   cases ro with
   | false=>exact .inl rfl
   | true=>exact .inr ⟨rfl,Nat.pos_of_ne_zero fun e=>this ⟨rfl,e⟩⟩
  rcases hmode with r1|⟨r1,r2⟩
  ·subst r1;go_wp2;(try simp only[Exit.then]);(try refine Met.intro ?_)
   first
    | (rename_i hJ hM;refine hM _ _ (Met.intro ?_);refine hJ _ _ ?_)
    | (rename_i hJ;refine hJ _ _ ?_)
    | (rename_i hJ hT;refine hJ _ _ ?_)
    | (rename_i hJ hT hT2;refine hJ _ _ ?_)
    | (rename_i hJ hT hT2 hT3;refine hJ _ _ ?_)
   (repeat apply Exists.intro);exact⟨rfl,rfl⟩
  subst r1;have r3:((no:Int)==0)=false:=by rw[beq_eq_false_iff_ne];omega
  go_wp2;(try simp only[Exit.then]);(try refine Met.intro ?_)
  first
   | (rename_i hJ hM;refine hM _ _ (Met.intro ?_);refine hJ _ _ ?_)
   | (rename_i hJ;refine hJ _ _ ?_)
   | (rename_i hJ hT;refine hJ _ _ ?_)
   | (rename_i hJ hT hT2;refine hJ _ _ ?_)
   | (rename_i hJ hT hT2 hT3;refine hJ _ _ ?_)
  (repeat apply Exists.intro);exact⟨rfl,rfl⟩
 case rest=>
  have hc2:=hcut.symm;clear hcut;subst hc2;have hPl:=I1.out.blk.lt;have HPl:=hide hPl;have cs1:=I1.out.c1;have t1:=(T1.out.cell (p:=⟨b,o+1,none⟩) Ht.out.lt).trans Ht.out.c1;obtain⟨E,hE⟩:∃E,w1.heap.size=E:=⟨_,rfl⟩;have HE:=hide hE;clear hE
  go_upto_region 9 with fail
  go_cut [7] (fun s7 wx=>s7=.pointer (some ⟨E,0,none⟩)∧Blk wx E 110 #[.string (bstr t.name),.string ⟨#[]⟩,.string ⟨#[]⟩,.int .i64 (st.scope.length:Int)]∧Below w1.heap.size w1 wx)
  case first=>
   have hblt:b<w1.heap.size:=by have:=Ht.out.lt;have:=T1.out.size;have:=HB.out;omega
   have ya:∀o',(w1.alloc o').cell? ⟨b,o+1,none⟩=some (.string (bstr t.name)):=fun o'=>((below_alloc w1 o').cell (p:=⟨b,o+1,none⟩) hblt).trans t1;have yb:∀o',(w1.alloc o').cell? ⟨P,1,none⟩=some (.slice v.As st.scope.length v.cs):=fun o'=>((below_alloc w1 o').cell (p:=⟨P,1,none⟩) hPl).trans cs1
   go_region
   all_goals
    rw[HE.out];have kb:=Blk.new w1 110 #[.string (bstr t.name),.string ⟨#[]⟩,.string ⟨#[]⟩,.int .i64 (st.scope.length:Int)];rw[HE.out] at kb;have hb:=below_alloc w1 (.cells #[.string (bstr t.name),.string ⟨#[]⟩,.string ⟨#[]⟩,.int .i64 (st.scope.length:Int)] 110);(try simp only[Exit.then]);(try refine Met.intro ?_)
    first
     | (rename_i hJ hM;refine hM _ _ (Met.intro ?_);refine hJ _ _ ?_)
     | (rename_i hJ;refine hJ _ _ ?_)
     | (rename_i hJ hT;refine hJ _ _ ?_)
     | (rename_i hJ hT hT2;refine hJ _ _ ?_)
     | (rename_i hJ hT hT2 hT3;refine hJ _ _ ?_)
    (repeat apply Exists.intro);refine⟨⟨rfl,?_,?_⟩,rfl⟩
    ·first|exact kb|exact kb.drew
    first|exact hb|exact hb.drew
  case rest=>
   obtain⟨rfl,k2,b2⟩:=hcut;have I2:=hide (I1.out.go b2);have O2:=hide (own_go O1.out b2);have K2:=hide k2;have B2b:=hide b2;have T2:=hide (T1.out.trans (b2.mono (Nat.le_trans HB.out T1.out.size)));have M2:=hide ((Mov.of_but (B:=B) M1.out).go b2);have Hw2:=hide (Nat.le_trans HB.out T2.out.size);have HVl:=hide (values_any B P w.heap.size wc st _ b o t.attrs At_ Al ct cl I2.out Hw2.out HB.out O2.out Ht.out.lt ((T2.out.cell (p:=⟨b,o+2,none⟩) Ht.out.lt).trans Hta.out) (Hr.out.below T2.out) (by have:=He2.out.2.1;omega) (fun a ha=>(Hv.out a ha).2));clear k2 b2 cs1 t1 c4
   go_upto_if 92 with (go_at_call 57;refine HVl.out.mono ?_;rintro e w3 ⟨vb3,rfl,p3,o3,m3⟩;obtain⟨pp,hpp⟩:∃pp,vb3=.pointer pp:=bad_ptr p3.bad;have c4:=p3.c4;rw[show (⟨v.Ao,v.co,v.As,v.cs,v.Ae,v.ce,vb3,v.xs⟩:Pv).vb=.pointer pp from hpp] at c4;have P3:=hide p3;have O3:=hide o3;have M3:=hide m3;have Hpp:=hide hpp;clear p3 o3 m3 hpp)
   have hEP:E≠P:=by have:=HE.out;have:=HPl.out;omega
   have HEP:=hide hEP;have MB3:=hide ((But.of_below (R:=P) (show Below w1.heap.size w1 wc from B2b.out)));have BM3:=hide ((M1.out.trans MB3.out).mvs (Nat.le_refl _) M3.out);have T3:=hide (BM3.out.below (B:=B) H.out.bp HB.out);have Hw3:=hide (Nat.le_trans HB.out BM3.out.size);have K3:=hide (M3.out.blk K2.out hEP (by decide));clear hEP
   go_cut [] (fun wx=>DclM B P E w.heap.size w st t (sc1 st t) (b1 t) ⟨[],[]⟩ Al v.Ao cl wx)
   case first=>
    cases hva:valsAt t.attrs with
    | none=>
     have P3':=P3.out;rw[hva] at P3'
     have hpn:pp=none:=by
      have:=P3'.vb_none;rw[show (⟨v.Ao,v.co,v.As,v.cs,v.Ae,v.ce,vb3,v.xs⟩:Pv).vb=.pointer pp from Hpp.out] at this;injection this
     subst hpn;have hd0:=declare_any B P w.heap.size w3 st _ (splits t) Al cl P3' Hw3.out (by rw[show (splits t).length=t.attrs.length from List.length_map _];exact O3.out) (by rw[show (splits t).length=t.attrs.length from List.length_map _];have:=He2.out.2.1;omega) (by have:=Hk.out.sc;omega);rw[show (splits t).length=t.attrs.length from List.length_map _] at hd0;have HDc:=hide hd0;have Hsc:=hide (show sc1 st t=declared st.scope (splits t) by unfold sc1;rw[hva];rfl);have Hb1:=hide (show b1 t=declAt (splits t) by unfold b1;rw[hva];rfl);have PB:=hide P3'.blk;clear hd0 hva P3'
     go_wp2_with fail
     refine HDc.out.mono ?_;rintro e w4 ⟨v4,rfl,p4,m4,a4⟩;have A4:=hide a4;have P4:=hide p4;have M4:=hide (Mov.of_mvs m4);have K4:=hide (m4.blk K3.out HEP.out (by decide));have O4:=hide (m4.own O3.out PB.out (by decide) (by decide));have T4:=hide (m4.below (C:=B) (Nat.le_refl _) H.out.bp Hw3.out);clear p4 m4 a4;dsimp only
     rename_i hK0
     refine hK0 _ _ ?_;clear hK0;go_wp2;(try simp only[Exit.then]);(try refine Met.intro ?_)
     first
      | (rename_i hJ hM;refine hM _ _ (Met.intro ?_);refine hJ _ _ ?_)
      | (rename_i hJ;refine hJ _ _ ?_)
      | (rename_i hJ hT;refine hJ _ _ ?_)
      | (rename_i hJ hT hT2;refine hJ _ _ ?_)
      | (rename_i hJ hT hT2 hT3;refine hJ _ _ ?_)
     (repeat apply Exists.intro);refine⟨?_,rfl⟩;exact⟨v4,by rw[Hsc.out,Hb1.out];exact P4.out,K4.out,O4.out,(Mov.of_but BM3.out).trans M4.out,T3.out.trans T4.out,A4.out⟩
    | some a=>
     have P3':=P3.out;rw[hva] at P3';obtain⟨F,hF⟩:=PI.vb_some (x:=(a,50)) P3'
     have hpn:pp=some ⟨F,0,none⟩:=by
      rw[show (⟨v.Ao,v.co,v.As,v.cs,v.Ae,v.ce,vb3,v.xs⟩:Pv).vb=.pointer pp from Hpp.out] at hF;injection hF
     subst hpn;have Hsc:=hide (show sc1 st t=st.scope by unfold sc1;rw[hva];rfl);have Hb1:=hide (show b1 t=some a by unfold b1;rw[hva];rfl);have P3a:=hide P3';clear hva P3' hF;go_wp2;(try simp only[Exit.then]);(try refine Met.intro ?_)
     first
      | (rename_i hJ hM;refine hM _ _ (Met.intro ?_);refine hJ _ _ ?_)
      | (rename_i hJ;refine hJ _ _ ?_)
      | (rename_i hJ hT;refine hJ _ _ ?_)
      | (rename_i hJ hT hT2;refine hJ _ _ ?_)
      | (rename_i hJ hT hT2 hT3;refine hJ _ _ ?_)
     (repeat apply Exists.intro);refine⟨?_,rfl⟩;exact⟨_,by rw[Hsc.out,Hb1.out];exact P3a.out,K3.out,O3.out,Mov.of_but BM3.out,T3.out,by exact rfl⟩
   case rest=>
    obtain⟨v4,p4,k4,o4,m4,t4,a4⟩:=hcut;have A4:=hide a4;have P4:=hide p4;have K4:=hide k4;have O4:=hide o4;have M4:=hide m4;have T4:=hide t4;have Hw4:=hide (Nat.le_trans HB.out m4.size)
    have hscl:(sc1 st t).length≤90000020:=by
     unfold sc1;split
     ·have:=declared_len (splits t) st.scope;rw[show (splits t).length=t.attrs.length from List.length_map _] at this;have:=Hk.out.sc;have:=He2.out.2.1;unfold scope';omega
     have:=Hk.out.sc;omega
    have Hscl:=hide hscl;have cs4:=p4.c1;dsimp only at cs4;have HSc:=hide (space15_any v4.As v4.cs wc.heap.size (sc1 st t) (preOf t) wc (Reads.of_own p4.s) (Nat.le_refl _) (by omega));obtain⟨⟨sp,ok⟩,hsp⟩:∃s,spaceOf (sc1 st t) (preOf t)=s:=⟨_,rfl⟩;rw[hsp] at HSc;unfold spV at HSc;dsimp only at HSc;have Hsp:=hide hsp;obtain⟨scn,hscn⟩:∃scn,sc1 st t=scn:=⟨_,rfl⟩;rw[hscn] at cs4 Hsp HSc Hscl P4;have Hscn:=hide hscn;have q1:((bstr (preOf t)).toList==[120,109,108,110,115])=decide (preOf t=pXmlns):=lit_eq (bstr (preOf t)) _;obtain⟨ex,hex⟩:∃ex,decide (preOf t=pXmlns)=ex:=⟨_,rfl⟩;rw[hex] at q1
    have Hsw:=hide (show spWrong scn t=if (!ok||ex) then some t.at_ else none by
     unfold spWrong;rw[Hsp.out,←hex]
     cases ok<;>simp)
    have Q1:=hide q1;clear p4 k4 o4 m4 t4 a4 hscl hsp hscn hex q1
    go_upto_region 14 with (go_at_call 59;refine HSc.out.mono ?_;rintro e w5 ⟨rfl,b5⟩;have B5:=hide b5;clear b5)
    go_cut [110] (fun s110 wx=>s110=.bool (!ok||ex)∧wx=w5)
    case first=>
     have q1:=Q1.out
     cases ok with
     | true=>
      go_wp2;(try simp only[Exit.then]);(try refine Met.intro ?_)
      first
       | (rename_i hJ hM;refine hM _ _ (Met.intro ?_);refine hJ _ _ ?_)
       | (rename_i hJ;refine hJ _ _ ?_)
       | (rename_i hJ hT;refine hJ _ _ ?_)
       | (rename_i hJ hT hT2;refine hJ _ _ ?_)
       | (rename_i hJ hT hT2 hT3;refine hJ _ _ ?_)
      (repeat apply Exists.intro);exact⟨⟨rfl,rfl⟩,rfl⟩
     | false=>
      go_wp2;(try simp only[Exit.then]);(try refine Met.intro ?_)
      first
       | (rename_i hJ hM;refine hM _ _ (Met.intro ?_);refine hJ _ _ ?_)
       | (rename_i hJ;refine hJ _ _ ?_)
       | (rename_i hJ hT;refine hJ _ _ ?_)
       | (rename_i hJ hT hT2;refine hJ _ _ ?_)
       | (rename_i hJ hT hT2 hT3;refine hJ _ _ ?_)
      (repeat apply Exists.intro);exact⟨⟨rfl,rfl⟩,rfl⟩
    case rest=>
     obtain⟨rfl,hw5⟩:=hcut;have hc2:=hw5.symm;clear hw5;subst hc2;have I5:=hide (P4.out.go B5.out);have K5:=hide (K4.out.go B5.out);have O5:=hide (own_go O4.out B5.out);have M5:=hide (M4.out.go B5.out);have T5:=hide (T4.out.trans (B5.out.mono (Nat.le_trans HB.out M4.out.size)));have t5:=(T5.out.cell (p:=⟨b,o+5,none⟩) Ht.out.lt).trans Ht.out.c5;obtain⟨bb,hbb⟩:∃bb,(!ok||ex)=bb:=⟨_,rfl⟩;rw[hbb] at Hsw ⊢;clear hbb cs4
     go_upto_if 110 with fail
     go_cut [] (fun wx=>DclM B P E w.heap.size w st t scn ((b1 t).or (spWrong scn t)) ⟨[],[]⟩ Al v.Ao cl wx)
     case first=>
      cases bb with
      | true=>
       have HW:=hide (wrong_any B P w5 _ _ _ t.at_ 50 I5.out (Nat.le_trans HB.out M5.out.size));have HWb:=hide (wrongB_any B P w5 _ _ _ t.at_ 50 I5.out (Nat.le_trans HB.out M5.out.size));have hs:(b1 t).or (spWrong scn t)=(b1 t).or (some t.at_):=by rw[Hsw.out];simp
       have Hs:=hide hs;clear hs
       go_wp2_with fail
       refine HWb.out.mono ?_;rintro e w6 ⟨vb6,rfl,p6,m6⟩;have P6:=hide p6;have K6:=hide (m6.blk K5.out HEP.out);have O6:=hide (Mvs.own (B:=0) (T:=[]) (.of_but m6) O5.out I5.out.blk (by decide) (by simp));have M6:=hide (M5.out.trans (.of_but m6));have T6:=hide (T5.out.trans (m6.below (B:=B) H.out.bp (Nat.le_trans HB.out M5.out.size)));clear p6 m6;dsimp only
       rename_i hK0
       refine hK0 _ _ ?_;clear hK0;go_wp2;(try simp only[Exit.then]);(try refine Met.intro ?_)
       first
        | (rename_i hJ hM;refine hM _ _ (Met.intro ?_);refine hJ _ _ ?_)
        | (rename_i hJ;refine hJ _ _ ?_)
        | (rename_i hJ hT;refine hJ _ _ ?_)
        | (rename_i hJ hT hT2;refine hJ _ _ ?_)
        | (rename_i hJ hT hT2 hT3;refine hJ _ _ ?_)
       (repeat apply Exists.intro);exact⟨⟨_,by rw[Hs.out,←orB_badV];exact P6.out,K6.out,O6.out,M6.out,T6.out,by exact A4.out⟩,rfl⟩
      | false=>
       have hs:(b1 t).or (spWrong scn t)=b1 t:=by rw[Hsw.out];simp
       have Hs:=hide hs;clear hs;go_wp2;(try simp only[Exit.then]);(try refine Met.intro ?_)
       first
        | (rename_i hJ hM;refine hM _ _ (Met.intro ?_);refine hJ _ _ ?_)
        | (rename_i hJ;refine hJ _ _ ?_)
        | (rename_i hJ hT;refine hJ _ _ ?_)
        | (rename_i hJ hT hT2;refine hJ _ _ ?_)
        | (rename_i hJ hT hT2 hT3;refine hJ _ _ ?_)
       (repeat apply Exists.intro);exact⟨⟨_,by rw[Hs.out];exact I5.out,K5.out,O5.out,M5.out,T5.out,by exact A4.out⟩,rfl⟩
     case rest=>
      obtain⟨v7,p7,k7,o7,m7,t7,a7⟩:=hcut;have A7:=hide a7;have P7:=hide p7;have K7:=hide k7;have O7:=hide o7;have M7:=hide m7;have T7:=hide t7;have y1:=k7.cell 1;have y2:=k7.cell 2;have f1:=k7.frozen 1;have f2:=k7.frozen 2;clear p7 k7 o7 m7 t7 a7 t5
      go_wp2_with fail
      have hE7:∀a,v7.Ao=some a→a.block≠E:=by
       intro a ha;have h1:=(H.out.o.lt a.block (by rw[A7.out.symm.trans ha];rfl)).2;have:=M1.out.size;have:=HE.out;omega
      have hwE:w.heap.size≤E:=by have:=M1.out.size;have:=HE.out;omega
      have hBE:B≤E:=Nat.le_trans HB.out hwE;have I8:=hide ((P7.out.setE (i:=1) K7.out hBE hE7 (.string (bstr sp))).setE (i:=2) (K7.out.set_ 1 _) hBE hE7 (.string (bstr (locOf t))));have O8:=hide (own_far (p:=⟨E,2,none⟩) (own_far (p:=⟨E,1,none⟩) O7.out K7.out (by decide) (.string (bstr sp))) (K7.out.set_ 1 _) (by decide) (.string (bstr (locOf t))));have K8:=hide ((K7.out.set_ 1 (.string (bstr sp))).set_ 2 (.string (bstr (locOf t))));have M8:=hide ((M7.out.setCell (p:=⟨E,1,none⟩) (.inr hwE) (.string (bstr sp))).setCell (p:=⟨E,2,none⟩) (.inr hwE) (.string (bstr (locOf t))));have T8:=hide (M8.out.below (C:=B) (Nat.le_refl _) H.out.bp HB.out)
      have HAt:=hide (attrs_any B P w.heap.size _ _ _ v7 (splits t) Al cl I8.out (Nat.le_trans HB.out M8.out.size)
       (by rw[show (splits t).length=t.attrs.length from List.length_map _];exact O8.out)
       (by rw[show (splits t).length=t.attrs.length from List.length_map _];have:=He2.out.2.1;omega)
       (by have:=Hscl.out;exact Nat.le_trans this (by decide))
       (fun s hs=>by
        obtain⟨a,ha,rfl⟩:=List.mem_map.1 hs;have h1:=splOf_loc a;have h2:=(Hv.out a ha).1;exact Nat.le_trans (Nat.le_trans h1 h2) (by decide))
       (fun d hd=>by
        have hd2:d∈sc1 st t:=by rw[Hscn.out];exact hd
        have h1:d.ns.length≤1000000:=by
         unfold sc1 at hd2
         split at hd2
         ·refine declared_ns (splits t) st.scope Hns.out (fun s hs=>?_) d hd2;obtain⟨a,ha,rfl⟩:=List.mem_map.1 hs;have h3:=valOf_short a;have h2:=(Hv.out a ha).2;exact Nat.le_trans h3 (Nat.le_trans (Nat.mul_le_mul_left 4 h2) (by decide))
         exact Hns.out d hd2
        exact Nat.le_trans h1 (by decide)))
      rw[show (splits t).length=t.attrs.length from List.length_map _] at HAt
      go_upto_region 18 with (go_at_call 60;refine HAt.out.mono ?_;rintro e w9 ⟨vb9,A9,c9,rfl,p9,o9,m9⟩;have I9:=hide p9;have O9:=hide o9;have M9:=hide m9;clear p9 o9 m9)
      have hel:elOf st t scn=⟨t.name,⟨sp,locOf t⟩,st.scope.length⟩:=by unfold elOf;rw[Hsp.out]
      obtain⟨el,helE⟩:∃el,elOf st t scn=el:=⟨_,rfl⟩;have HEl:=hide helE;rw[helE] at hel;have HEl2:=hide hel;have K9:Hid (Blk w9 E 110 (elCells el).toArray):=hide (by rw[HEl2.out];exact M9.out.blk K8.out HEP.out)
      have Hb3:=hide (show ((badV ((b1 t).or (spWrong scn t))).or (badV (attrsAt scn [] (splits t))))=badV (b3 st t) by
       unfold b3;rw[Hscn.out]
       cases (b1 t).or (spWrong scn t)<;>rfl)
      have MM9:=hide (M8.out.trans (Mov.of_but M9.out));obtain⟨as9,has9⟩:∃as9,attrsOf scn (splits t)=as9:=⟨_,rfl⟩;have Has9:=hide has9;rw[has9] at O9 ⊢;obtain⟨n9,hn9⟩:∃n9,as9.length=n9:=⟨_,rfl⟩;have Hn9:=hide hn9;rw[hn9] at O9 ⊢;have c09:w9.cell? ⟨P,0,none⟩=some (.slice v7.Ao no v7.co):=by rw[←Hno.out];exact I9.out.c
      have OO:=hide (show w9.ownsRow B 110 4 (.slice v7.Ao no v7.co) no (els st.open_) by rw[←Hno.out];exact I9.out.o);have HE9:=hide hE7;have HwE:=hide hwE;clear hel helE has9 hn9 HAt HNm hE7 hBE hwE
      go_cut [] (fun wx=>OpnM B P E w st t scn (badV (b3 st t)) el A9 n9 c9 wx)
      case first=>
       have xb:Below w9.heap.size w9 (w9.drew.alloc (.cells (elCells el).toArray 110)):=(Below.refl _ _).drew.alloc (Nat.le_refl _) _;have BX:=hide xb;have KX:=hide (show Blk (w9.drew.alloc (.cells (elCells el).toArray 110)) w9.heap.size 110 (elCells el).toArray from Blk.new w9.drew 110 _);have C09:=hide c09;have KC:=hide (show w9.cell? ⟨E,0,none⟩=some (.string (bstr el.written))∧w9.cell? ⟨E,1,none⟩=some (.string (bstr el.name.ns))∧w9.cell? ⟨E,2,none⟩=some (.string (bstr el.name.loc))∧w9.cell? ⟨E,3,none⟩=some (.int .i64 (el.scope:Int)) from⟨K9.out.cell 0,K9.out.cell 1,K9.out.cell 2,K9.out.cell 3⟩);clear xb c09;refine wp_region_B 11 (fun W'=>W'.cell? ⟨P,0,none⟩=some (.slice v7.Ao no v7.co)∧W'.cell? ⟨E,0,none⟩=some (.string (bstr el.written))∧W'.cell? ⟨E,1,none⟩=some (.string (bstr el.name.ns))∧W'.cell? ⟨E,2,none⟩=some (.string (bstr el.name.loc))∧W'.cell? ⟨E,3,none⟩=some (.int .i64 (el.scope:Int))) (by kernel_rfl) ?_ (fun hHeld=>?_)
       ·(try dsimp only);exact⟨C09.out,KC.out.1,KC.out.2.1,KC.out.2.2.1,KC.out.2.2.2⟩
       change wpAnyB _ _ _ _ _ _ 15 #[false,false,false,false,false,false,false,false,false,false,false,false,false,false,false] _ _;iterate 5 (refine nbF (v:=?_) rfl rfl hHeld ?_ ?_;rotate_left;(· (intro w';go_simp;try with_reducible rfl));(try simp only[nx,List.set]))
       iterate 2 (refine nbT (v:=?_) rfl rfl hHeld ?_ ?_;rotate_left;(· (intro w' hSw;obtain⟨z0,z1,z2,z3,z4⟩:=hSw;go_simp;try with_reducible rfl));(try simp only[nx,List.set]))
       refine heldB_call (i:=7) rfl (by kernel_rfl) (by kernel_rfl) (fun K hK=>?_);go_simp;(try dsimp only);refine hK.out _ _ ?_ (fun hHeld'=>?_)
       ·(try dsimp only);exact⟨(BX.out.cell (lt_of_cell C09.out)).trans C09.out,(BX.out.cell (lt_of_cell KC.out.1)).trans KC.out.1,(BX.out.cell (lt_of_cell KC.out.2.1)).trans KC.out.2.1,(BX.out.cell (lt_of_cell KC.out.2.2.1)).trans KC.out.2.2.1,(BX.out.cell (lt_of_cell KC.out.2.2.2)).trans KC.out.2.2.2⟩
       clear hK K hHeld;have hHeld:=hHeld';clear hHeld';(try simp only[Act.put,List.setIfInBounds_toArray,List.set_cons_zero,List.set_cons_succ]);refine heldB_call (i:=8) rfl (by kernel_rfl) (by kernel_rfl) (fun K hK=>?_);refine oper_append_elem _ (by rfl) _ _ _ (by rfl) B 110 _ 4 56 Tryz.underlying76 info_el (by rfl) (by omega) (.slice v7.Ao no v7.co) no (els st.open_) (by rfl) (own_go OO.out BX.out) (elCells el) rfl (el_one el) w9.heap.size KX.out (by rfl) (by unfold maxLen;have:=Hk.out.op;have:=Hno.out;omega) (by have:=Hk.out.op;have:=Hno.out;omega) (Nat.le_trans HB.out (Nat.le_trans MM9.out.size BX.out.size)) ?_;intro g8 cap8 w10 hown8 hgrow8 hlt8;have HO8:=hide hown8;have HG8:=hide hgrow8
       have hne8:∀j,(Value.slice v7.Ao no v7.co).ownBlock=some j→j≠E:=fun j hj=>by
        cases hA:v7.Ao with
        | none=>rw[hA] at hj;cases hj
        | some a=>rw[hA] at hj;simp only[Value.ownBlock,Option.some.injEq] at hj;rw[←hj];exact HE9.out a hA
       have hnP:some P≠(Value.slice v7.Ao no v7.co).ownBlock:=fun e=>own_blk_ne (own_go OO.out BX.out) (I9.out.blk.go BX.out) (by decide) e.symm;have hnE:some E≠(Value.slice v7.Ao no v7.co).ownBlock:=fun e=>hne8 E e.symm rfl;have K10:=hide ((K9.out.go BX.out).grown hgrow8 hnE);have PB10:=hide ((I9.out.blk.go BX.out).grown hgrow8 hnP);have MT10:=hide (show MovT B 110 w9 w10 from (MovT.of_below BX.out).trans (.grown hgrow8 fun j hj=>own_isT (own_go OO.out BX.out) j hj));clear hown8 hgrow8 hlt8;(try dsimp only);refine hK.out _ _ ?_ (fun hHeld'=>?_)
       ·(try dsimp only);exact⟨by rw[←Hno.out];exact PB10.out.cell 0,K10.out.cell 0,K10.out.cell 1,K10.out.cell 2,K10.out.cell 3⟩
       clear hK K hHeld;have hHeld:=hHeld';clear hHeld';(try simp only[Act.put,List.setIfInBounds_toArray,List.set_cons_zero,List.set_cons_succ]);iterate 2 (refine nbF (v:=?_) rfl rfl hHeld ?_ ?_;rotate_left;(· (intro w';go_simp;try with_reducible rfl));(try simp only[nx,List.set]))
       have q0:w10.cell? ⟨P,0,none⟩=some _:=PB10.out.cell 0;have f0:=PB10.out.frozen 0;refine heldB_last (i:=11) rfl (by kernel_rfl) (by kernel_rfl) (by kernel_rfl) (fun K hK=>?_);go_simp;(try dsimp only);refine hK.out _ _ ?_;clear hK K;(try simp only[Act.put,List.setIfInBounds_toArray,List.set_cons_zero,List.set_cons_succ]);refine heldB_free (i:=12) (d:=135) (v:=?_) rfl rfl (by kernel_rfl) (by kernel_rfl) (by kernel_rfl) (fun _ _ _ h=>h) (by kernel_rfl) (by kernel_rfl) (.inl (by kernel_rfl)) ?_ ?_;rotate_left
       ·intro w';go_simp
        first|done|with_reducible rfl
       (try simp only[Act.put,List.setIfInBounds_toArray,List.set_cons_zero,List.set_cons_succ]);refine heldB_free (i:=13) (d:=136) (v:=?_) rfl rfl (by kernel_rfl) (by kernel_rfl) (by kernel_rfl) (fun _ _ _ h=>h) (by kernel_rfl) (by kernel_rfl) (.inl (by kernel_rfl)) ?_ ?_;rotate_left
       ·intro w';go_simp
        first|done|with_reducible rfl
       (try simp only[Act.put,List.setIfInBounds_toArray,List.set_cons_zero,List.set_cons_succ]);have hop:st.open_.length+1=(st.open_++[el]).length:=by rw[List.length_append];rfl
       have ho10:w10.ownsRow B 110 4 (.slice (some ⟨g8,0,none⟩) (st.open_++[el]).length cap8) (st.open_++[el]).length (els (st.open_++[el])):=by
        rw[els_snoc,←hop,Hno.out];exact HO8.out
       have i10:=I9.out.setO MT10.out ho10;rw[←hop,Hno.out] at i10;rw[Hb3.out] at i10;dsimp only at i10;have I10:=hide i10;have q3:=i10.c3;have f3:=i10.blk.frozen 3;dsimp only at q3;clear hop ho10 i10 q0 f0;refine heldB_last (i:=14) rfl (by kernel_rfl) (by kernel_rfl) (by kernel_rfl) (fun K hK=>?_);go_simp;(try dsimp only);refine hK.out _ _ ?_;clear hK K;(try simp only[Act.put,List.setIfInBounds_toArray,List.set_cons_zero,List.set_cons_succ]);refine heldB_done (by kernel_rfl) ?_ _;(try simp only[Exit.then]);(try refine Met.intro ?_)
       first
        | (rename_i hJ hM;refine hM _ _ (Met.intro ?_);refine hJ _ _ ?_)
        | (rename_i hJ;refine hJ _ _ ?_)
        | (rename_i hJ hT;refine hJ _ _ ?_)
        | (rename_i hJ hT hT2;refine hJ _ _ ?_)
        | (rename_i hJ hT hT2 hT3;refine hJ _ _ ?_)
       (repeat apply Exists.intro);refine⟨⟨_,I10.out.setR,?_,?_,?_⟩,rfl⟩
       ·exact (K10.out.far (p:=⟨P,0,none⟩) HEP.out _).far (p:=⟨P,3,none⟩) HEP.out _
       ·have hoA:=MT10.out.own (O9.out.mono (base':=w.heap.size) M8.out.size) (by decide);have hoB:=own_far (p:=⟨P,0,none⟩) hoA PB10.out (by decide) (.slice (some ⟨g8,0,none⟩) (no+1) cap8);rw[Has9.out];exact own_far (p:=⟨P,3,none⟩) hoB (PB10.out.set_ 0 _) (by decide) _
       exact ((MM9.out.trans (MT10.out.mov (.inl rfl))).setCell (p:=⟨P,0,none⟩) (.inl rfl) _).setCell (p:=⟨P,3,none⟩) (.inl rfl) _
      case rest=>
       obtain⟨v11,p11,k11,o11,m11⟩:=hcut;have P11:=hide p11;have K11:=hide k11;have O11:=hide o11;have M11:=hide m11;have c2:=p11.c2;have y1:wc.cell? ⟨E,1,none⟩=some (.string (bstr el.name.ns)):=k11.cell 1;have y2:wc.cell? ⟨E,2,none⟩=some (.string (bstr el.name.loc)):=k11.cell 2;have hp0:=put_any B v11.xs ⟨⟨0,el.name,as9,[]⟩,A9,c9⟩ v11.Ae v11.ce wc.drew p11.e (Nat.le_trans HB.out m11.size) (by rw[p11.len];exact Nat.le_trans Hk.out.ev (by decide)) (fun y hy=>by have:=Hk.out.tx _ (by rw[←show v11.xs.map (·.e)=st.evs from p11.ev];exact List.mem_map_of_mem hy);show _+0≤_;omega);dsimp only at hp0;rw[Hn9.out] at hp0;have HP:=hide hp0;have HK:=hide (show Blk wc.drew P 80 _ from p11.blk)
       have Hst1:=hide (show startedW st t (sc1 st t)=⟨st.open_++[el],scn,putEv st.evs ⟨0,el.name,as9,[]⟩,true⟩ by
        unfold startedW evOf;rw[Hscn.out,←Has9.out,←HEl.out]
        rfl)
       clear hp0 k11 o11 m11
       go_upto_region 19 with fail
       go_cut [] (fun wx=>∃v,PI B P wx ⟨st.open_++[el],scn,putEv st.evs ⟨0,el.name,as9,[]⟩,true⟩ (badV (b3 st t)) v∧Mov B P w wx)
       case first=>
        clear p11
        go_region_with (go_at_call 61;refine HP.out.mono ?_;rintro e w12 ⟨A,c,xs,rfl,ho,hx,hi,hm⟩;have q2:w12.cell? ⟨P,2,none⟩=some _:=(hm.blk HK.out (by decide)).cell 2;have g2:=(hm.blk HK.out (by decide)).frozen 2)
        all_goals
         (try simp only[Exit.then]);(try refine Met.intro ?_)
         first
          | (rename_i hJ hM;refine hM _ _ (Met.intro ?_);refine hJ _ _ ?_)
          | (rename_i hJ;refine hJ _ _ ?_)
          | (rename_i hJ hT;refine hJ _ _ ?_)
          | (rename_i hJ hT hT2;refine hJ _ _ ?_)
          | (rename_i hJ hT hT2 hT3;refine hJ _ _ ?_)
         (repeat apply Exists.intro);refine⟨⟨_,(P11.out.go (Below.refl _ _).drew).events hm ho hx hi (in_own (by rw[show (⟨0,el.name,as9,[]⟩:Ev).attrs.length=n9 from Hn9.out];rw[Has9.out] at O11;exact O11.out) (Nat.le_trans HB.out (Nat.le_refl _))),?_⟩,rfl⟩;exact ((M11.out.drew).trans (hm.mov (by decide))).setCell (p:=⟨P,2,none⟩) (.inl rfl) _
       case rest=>
        obtain⟨v13,p13,m13⟩:=hcut;have P13:=hide p13;have M13:=hide m13;have T13:=hide (m13.below (C:=B) (Nat.le_refl _) H.out.bp HB.out);have t3:=(T13.out.cell (p:=⟨b,o+3,none⟩) Ht.out.lt).trans Ht.out.c3;obtain⟨te,hte⟩:∃te,t.empty=te:=⟨_,rfl⟩;rw[hte] at t3;have Hte:=hide hte;have HC:=hide (fun (W:World) (bb:Bad) (vv:Pv) (hh:PI B P W (startedW st t (sc1 st t)) bb vv) (hB:B≤W.heap.size)=>sclose_any B P W _ bb vv hh hB (Ok_up (startedW_ok (m:=1000000000) Hk.out He2.out.2.2 (by rw[Hscn.out];exact Nat.le_trans Hscl.out (by decide)) (by decide)) (Nat.le_refl _)) (by show st.open_++[_]≠[];simp));have HC2:=hide (HC.out wc _ v13 (by rw[Hst1.out];exact P13.out) (Nat.le_trans HB.out M13.out.size));clear p13 m13 hte p11 c2 y1 y2
        cases te with
        | false=>
         go_wp2;go_end0;exact start_end Hst.out Hst1.out (by rw[Hte.out];rfl) P13.out M13.out
        | true=>
         go_wp2_with fail
         refine HC2.out.mono ?_;rintro e w14 ⟨rfl,h2,v14,h1⟩;have P14:=hide h1;have M14:=hide (M13.out.trans h2);clear h1 h2;dsimp only
         rename_i hK0
         refine hK0 _ _ ?_;clear hK0;go_wp2;go_end0;exact start_end Hst.out rfl (by rw[Hte.out];rfl) P14.out M14.out
end
section
open Go.RowKit Tk

theorem TkL.at_{w:World}{B:Nat}{A:Option Addr}{xs:List Tv}(h:TkL w B A (xs.map Tv.g)){j:Nat}{x:Tv}(hx:xs[j]?=some x):∃b off,A=some ⟨b,off,none⟩∧b<B∧GtAt w b (off+j*7) x.g:=by
 obtain⟨hj,he⟩:=List.getElem?_eq_some_iff.1 hx;obtain⟨b,off,h1,h2,h3⟩:=h.row.gt (k:=j) (by rw[List.length_map];exact hj);rw[List.getElem_map,he] at h3;exact⟨b,off,h1,h2,h3⟩
end
section
open Go.RowKit Tk Sx

structure TokS(N:Nat)(t:Tok):Prop where
 nm:t.name.length≤N
 tx:t.text.length≤N
 ats:t.attrs.length≤N
 an:∀a∈t.attrs,a.name.length≤N∧a.value.length≤N
 kd:t.kind=0∨t.kind=1∨t.kind=2∨t.kind=3∨t.kind=4
structure OkS(st:St)(n M V:Nat):Prop where
 ok:Ok st n M
 ns:∀d∈st.scope,d.ns.length≤V
structure SmlS(D:L):Prop where
 tk:∀t∈toks D.length 0 D,TokS 100000 t
 ru:∀k st,run st0 ((toks D.length 0 D).take k)=.ok st→OkS st 90000000 100000000000000000 1000000
theorem run_snoc(st:St)(ts:List Tok)(t:Tok):run st (ts++[t])=match run st ts with | .error x=>.error x | .ok st'=>Sx.step st' t:=by
 induction ts generalizing st with
 | nil=>
  simp only[List.nil_append,run]
  cases Sx.step st t<;>rfl
 | cons u ts ih=>
  simp only[List.cons_append,run]
  cases hs:Sx.step st u with
  | error x=>rfl
  | ok st'=>exact ih st'
theorem run_error{st:St}{ts:List Tok}{x:Nat×Nat}(h:run st ts=.error x):∀r,run st (ts++r)=.error x:=by
 induction ts generalizing st with
 | nil=>cases h
 | cons u ts ih=>
  intro r;simp only[List.cons_append,run] at h ⊢
  cases hs:Sx.step st u with
  | error y=>rw[hs] at h;exact h
  | ok st'=>rw[hs] at h;exact ih h r
end
section
open Go.RowKit Tk Sx

theorem sskip_any(B P:Nat)(w:World)(st:St)(v:Pv)(b o:Nat)(t:Tok)(h:PI B P w st none v) :
  Calls Tryz.prog 38 #[.pointer (some ⟨P,0,none⟩),.pointer (some ⟨b,o,none⟩)] w (StepR B P w (.ok st)):=by
 go_enter Tryz.func38,Tryz.ntmps38
 go_wp2;go_end0;exact⟨rfl,Mov.refl _ _ _,_,h⟩
theorem sstart_any(B P:Nat)(w:World)(st:St)(v:Pv)(b o:Nat)(t:Tok)(At_:Option Addr)(ct:Nat)(h:PI B P w st none v)(hB:B≤w.heap.size)(h6:6≤B)(hg:Gl w)(ht:TkB B w b o t)
  (hta:w.cell? ⟨b,o+2,none⟩=some (.slice At_ t.attrs.length ct)) (hr:Reads w B 3 At_ t.attrs.length (gas (t.attrs.map At.g))) (hs:TokS 100000 t) (hk:OkS st 90000000 100000000000000000 1000000) :
  Calls Tryz.prog 34 #[.pointer (some ⟨P,0,none⟩),.pointer (some ⟨b,o,none⟩)] w (StepR B P w (Sx.start st t)):=by
 cases he:Sx.early st t with
 | some x=>
  rw[show Sx.start st t=.error x by unfold Sx.start;rw[he]];exact start_early B P w st v b o t At_ ct h hB h6 hg ht hta hr (Nat.le_trans hs.ats (by decide)) (Nat.le_trans hs.nm (by decide)) (fun a ha=>Nat.le_trans (hs.an a ha).1 (by decide)) x he
 | none=>exact start_late B P w st v b o t At_ ct h hB h6 hg ht hta hr hs.nm hs.an hk.ok hk.ns he
def fnK(k:Int):Nat:=if k=0 then 34 else if k=1 then 35 else if k=2 then 36 else if k=3 then 37 else 38
theorem step_any(B P:Nat)(w:World)(st:St)(v:Pv)(b o:Nat)(t:Tok)(At_:Option Addr)(ct:Nat)(h:PI B P w st none v)(hB:B≤w.heap.size)(h6:6≤B)(hg:Gl w)(ht:TkB B w b o t)
  (hta:w.cell? ⟨b,o+2,none⟩=some (.slice At_ t.attrs.length ct)) (hr:Reads w B 3 At_ t.attrs.length (gas (t.attrs.map At.g))) (hs:TokS 100000 t) (hk:OkS st 90000000 100000000000000000 1000000) :
  Calls Tryz.prog (fnK t.kind) #[.pointer (some ⟨P,0,none⟩),.pointer (some ⟨b,o,none⟩)] w (StepR B P w (Sx.step st t)):=by
 have hk1:Ok st 1000000000 100000000000000000:=Ok_up hk.ok (by decide);unfold fnK Sx.step;split
 ·exact sstart_any B P w st v b o t At_ ct h hB h6 hg ht hta hr hs hk
 split
 ·exact send_any B P w st v b o t h hB hk1 ht
 split
 ·exact stext_any B P w st v b o t h hB hk1 ht hs.tx
 split
 ·exact data_any B P w st v b o t h hB hk1 ht (Nat.le_trans hs.tx (by decide))
 exact sskip_any B P w st v b o t h
end
end Go.Proofs.YtifiiojchlaghaaGreatDoor
