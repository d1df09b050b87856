/- Strict: the program's names: a map that counts. (Printed by wip/genStI.py.) And more. -/
import Derived.Test.YtpdkeckeekchlaaGreatDoorOt14
import Derived.Maps.OwnSet
import Derived.WideKeyEntry
import Derived.DeepKeys4
set_option linter.unusedSimpArgs false
set_option maxRecDepth 100000
set_option maxHeartbeats 32000000
set_option linter.unusedVariables false
namespace Go.Proofs.YtpdkeckeekchlaaGreatDoor
section
open Go.RowKit Tk Sx

theorem uk:Maps.Keyed Tryz.prog 9:=Maps.string_keyed Tryz.underlying9
theorem sw(w:World):(zeroValue 3).run Tryz.prog w=.ok (.int .i64 0) w:=by kernel_rfl
structure ew(w:World)(b n:Nat)(seen:List L)(D:DataW Unit):Prop where
 own:w.ownsMap Tryz.prog 9 (plainElem Tryz.prog 3) b n D
 is:Maps.IsMap D
 at_:∀nm:L,D.atKey (.string nm) (.lit (.int .i64 0))=.lit (.int .i64 (seen.count nm:Nat))
theorem nO{w w':World}{P:Program}{k:TypeId}{R:Value→Option (DataW Unit×List MemPlace)}{b n:Nat}{D:DataW Unit}(h:w.ownsMap P k R b n D)(e:w'.heap[b]?=w.heap[b]?):w'.ownsMap P k R b n D:=by
 obtain⟨es,clock,hb,rest⟩:=h;exact⟨es,clock,e.trans hb,rest⟩
theorem ew.go{w w':World}{b n:Nat}{seen:List L}{D:DataW Unit}(h:ew w b n seen D)(hb:Below w.heap.size w w'):ew w' b n seen D:=⟨nO h.own (hb.block _ h.own.lt),h.is,h.at_⟩
theorem ew.set{w:World}{b n:Nat}{seen:List L}{D:DataW Unit}(h:ew w b n seen D){p:Addr}(hp:b≠p.block)(u:Value):ew (w.setCell p u) b n seen D:=⟨nO h.own (Below.heap_setCell _ _ _ _ hp),h.is,h.at_⟩
theorem ew.but{w w':World}{P b n:Nat}{seen:List L}{D:DataW Unit}(h:ew w b n seen D)(hb:ai P w w')(hP:b≠P):ew w' b n seen D:=⟨nO h.own (hb.block _ h.own.lt hP),h.is,h.at_⟩
theorem ew.kept{w w':World}{row:Option Nat}{b n:Nat}{seen:List L}{D:DataW Unit}(h:ew w b n seen D)(hg:w.grownBy w' row)(hne:some b≠row):ew w' b n seen D:=⟨h.own.kept hg hne,h.is,h.at_⟩
theorem acS(w:World):ew (w.alloc (.map #[] 0)) w.heap.size 0 [] (.map []):=⟨World.ownsMap_made _ _ _ _,Maps.isMap_empty,fun _=>rfl⟩
theorem Sq{w w':World}{b n q:Nat}{seen:List L}{D:DataW Unit}{nm:L}(h:ew w b n seen D)(hq:seen.count nm=q)(ho:w'.ownsMap Tryz.prog 9 (plainElem Tryz.prog 3) b (n+1) (D.put (.string nm) (.lit (.int .i64 ((q:Int)+1))))):ew w' b (n+1) (seen++[nm]) (D.put (.string nm) (.lit (.int .i64 ((q:Int)+1)))):=by
 subst hq;refine⟨ho,h.is.put _ _,fun m=>?_⟩
 by_cases hm:m=nm
 ·subst hm;rw[Maps.atKey_put_same h.is (by simp[WideAt.IsKeyLit])];simp
 rw[Maps.atKey_put_other (by intro e;injection e with e;exact hm e),h.at_ m,List.count_append,List.count_singleton];have:(nm==m)=false:=by rw[beq_eq_false_iff_ne];exact fun e=>hm e.symm
 rw[this];simp
theorem ew.agT{w:World}{b n:Nat}{seen:List L}{D:DataW Unit}{nm:L}{c:Int}(h:ew w b n seen D)(hc:D.atKey (.string nm) (.lit (.int .i64 0))=.lit (.int .i64 c)):c=(seen.count nm:Nat):=by
 rw[h.at_ nm] at hc;injection hc with hc
 injection hc with _ hc
 exact hc.symm
theorem ew.wN{w:World}{b n q:Nat}{seen:List L}{D:DataW Unit}{nm:L}{c:Int}(h:ew w b n seen D)(hq:seen.count nm=q)(hc:D.atKey (.string nm) (.lit (.int .i64 0))=.lit (.int .i64 c)):c=(q:Int):=by rw[h.agT hc,hq]
theorem acx(w:World)(o o':Obj):Below w.heap.size w ((w.alloc o).alloc o'):=((Below.refl _ _).alloc (Nat.le_refl _) o).alloc (by simp) o'
theorem ew.block{w:World}{b n:Nat}{seen:List L}{D:DataW Unit}(h:ew w b n seen D):∃es cl,w.heap[b]?=some (.map es cl):=by
 obtain⟨es,cl,hb,_⟩:=h.own;exact⟨es,cl,hb⟩
theorem ai.grown{R:Nat}{w w1 w':World}{row:Option Nat}(h:ai R w w1)(hg:w1.grownBy w' row)(hr:∀k,row=some k→w.heap.size≤k):ai R w w' :=
 ⟨hg.os.trans h.os,hg.tape.trans h.tape,hg.output.trans h.output,Nat.le_trans h.size hg.size,fun k hk hR=>(hg.block k (Nat.lt_of_lt_of_le hk h.size) (fun e=>by have:=hr k e.symm;omega)).trans (h.block k hk hR)⟩
theorem PI.kept{B P:Nat}{w w':World}{st:St}{b:bS}{v:Pv}{row:Option Nat}(h:PI B P w st b v)(hg:w.grownBy w' row)(hr:∀k,row=some k→∀t∈[107,140,187,79,155,115],¬bN w k t):PI B P w' st b v:=by
 have hb:∀{k t:Nat},bN w k t→t∈[107,140,187,79,155,115]→w'.heap[k]?=w.heap[k]?:=fun {k t} hk ht=>hg.block k hk.lt fun e=>hr k e.symm t ht hk
 have ho:∀{e size n:Nat} {v:Value} {xs:List Value},w.ownsRow B e size v n xs→e∈[107,140,187,79,155,115]→w'.ownsRow B e size v n xs:=fun {e size n v xs} hw he=>hw.kept hg (by
  cases hv:v.ownBlock with
  | none=>exact .inl rfl
  | some k=>exact .inr fun e1=>hr k e1.symm e he (aD hw k hv).2)
 refine⟨(hb h.blk.fh (by simp)).trans h.blk,h.bp,ho h.o (by simp),ho h.s (by simp),ho h.e (by simp),h.ev,fun x hx=>?_,?_⟩
 ·have hi:=h.gU x hx;have sa:∀a,x.A=some a→w'.heap[a.block]?=w.heap[a.block]?:=fun a ha=>hb (hi.ta a ha) (by simp);exact⟨hi.a.same sa hg.size,hi.va,hi.ta.same sa⟩
 have h1:=h.bad;unfold gJ at h1 ⊢
 cases b with
 | none=>exact h1
 | some x=>
  obtain⟨F,q1,q2,q3⟩:=h1;exact⟨F,q1,q2,(hb q3.fh (by simp)).trans q3⟩
theorem uo{w:World}{k t:Nat}{es:Array MapEntry}{cl:Nat}(h:w.heap[k]?=some (.map es cl)):¬bN w k t:=by
 rintro ⟨cs,fr,h2⟩;rw[h] at h2;cases h2
theorem Nk{w:World}{b e size n k:Nat}{v:Value}{xs:List Value}{es:Array MapEntry}{cl:Nat}(h:w.ownsRow b e size v n xs)(hm:w.heap[k]?=some (.map es cl)):v.ownBlock≠some k:=fun e1=>uo hm (aD h k e1).2
theorem ahQ(l:List At)(a:At):∀seen:List L,iY seen (l++[a])=(iY seen l).or (if (split a.name).isNone=true∨a.name∈seen++l.map (·.name) then some a.at_ else none):=by
 induction l with
 | nil=>intro seen;simp only[List.nil_append,iY,List.map_nil,List.append_nil,Option.none_or]
 | cons x l ih=>
  intro seen;rw[List.cons_append,iY,iY,ih,List.map_cons];split
  ·rfl
  rw[List.append_assoc];rfl
theorem alV(l:List bT)(s:bT):cS (l++[s])=cS l++uw s:=by simp[cS]
theorem Yo(s:bT):∀u∈uw s,u.oneCell'=true:=by
 intro u hu;simp only[uw,List.mem_cons,List.not_mem_nil,or_false] at hu
 rcases hu with rfl|rfl|rfl|rfl<;>rfl
theorem Zo{P:Program}(w:World){ops:Array Oper}{rest:List Oper}{o:Oper}{a:Act}{Q:Exit→Act→World→Prop}(hw:Region.wanted o (yielded ops a.tmps)=true)(m x:Operand)(t:TypeId)(hop:o.op=Op.lookup t m x false)
  (mv xv v:Value) (hm:a.eval m=mv) (hx:a.eval x=xv) (hrun:(Instr.lookup t mv xv false).run P w=.ok v w) (hK:wpList P ops Q rest (a.put o.dst v) w):wpList P ops Q (o :: rest) a w:=by
 refine wpList_step fun K hK'=>?_;rw[if_pos hw];unfold Oper.wp;simp[execOp,hop,hm,hx,hrun,Result.andThen];exact hK' _ _ hK
def qq(t:Tok):Option Nat:=if (split t.name).isNone then some t.at_ else none
theorem ahR(t:Tok):names t=(qq t).or (iY [] t.attrs):=by unfold names qq;split<;>simp
theorem alR(t:Tok):sg (split t.name)=.tuple #[.string (aa (jB t)),.string (aa (nN t)),.bool (split t.name).isSome]:=by unfold jB nN;cases split t.name<;>rfl
def abC(B P:Nat)(w:World)(st:St)(v:Pv)(t:Tok)(e:Ending)(w':World):Prop :=
 ∃vb Al cl,e=.returned (.tuple #[.string (aa (jB t)),.string (aa (nN t)),.slice Al t.attrs.length cl])∧PI B P w' st (cW (names t)) ⟨v.Ao,v.co,v.As,v.cs,v.Ae,v.ce,vb,v.xs⟩∧
  w'.ownsRow w.heap.size 185 4 (.slice Al t.attrs.length cl) t.attrs.length (cS (t.attrs.map fp))∧ai P w w'

theorem WI(B P:Nat)(w:World)(st:St)(v:Pv)(b o:Nat)(t:Tok)(eP:Option Addr)(ct:Nat)(h:PI B P w st none v)(hB:B≤w.heap.size)(h6:6≤B)(hg:Gl w)(ht:rb B w b o t)
  (iV:w.cell? ⟨b,o+2,none⟩=some (.slice eP t.attrs.length ct)) (hr:Reads w B 3 eP t.attrs.length (lz (t.attrs.map At.g))) (hn:t.attrs.length≤100000000) (ub:t.name.length≤1000000000) (hv:∀a∈t.attrs,a.name.length≤1000000000) :
  Calls Tryz.prog 75 #[.pointer (some ⟨P,0,none⟩),.pointer (some ⟨b,o,none⟩)] w (abC B P w st v t):=by
 have H:=ap h;have HB:=ap hB;have Hv:=ap hv;have Hr:=ap hr;have H6:=ap h6;have t1:=ht.c1;have t5:=ht.c5;have Ht:=ap ht;have HG:=ap hg;have HS:=ap (Yp t.name w hg ub);obtain⟨n,bC⟩:∃n,t.attrs.length=n:=⟨_,rfl⟩;rw[bC] at iV hn Hr;have HN:=ap bC;have gD:=@run_makeMap Tryz.prog;rw[alR] at HS;obtain⟨ok,bK⟩:∃ok,(split t.name).isSome=ok:=⟨_,rfl⟩;rw[bK] at HS;have Q0:=ap (show qq t=if ok then none else some t.at_ by rw[←bK];unfold qq;cases split t.name<;>rfl);clear h hB hr hv bC h6 ht hg ub bK
 go_enter Tryz.func75,Tryz.ntmps75
 go_upto_if 22 with (go_at_call 113;refine HS.o.mono ?_;rintro e Zg ⟨rfl,b0⟩;have C9:=ap b0;clear b0)
 have Q9:=ap (H.o.go C9.o);have OU:=ap (ai.b8 (R:=P) C9.o);have N5:=(C9.o.cell (p:=⟨b,o+5,none⟩) (by have:=Ht.o.lt;have:=HB.o;show b<_;omega)).trans t5;have HW:=ap (uA B P Zg st none v t.at_ 50 Q9.o (Nat.le_trans HB.o C9.o.size))
 go_cut [] (fun wx=>∃vb,PI B P wx st (cW (qq t)) ⟨v.Ao,v.co,v.As,v.cs,v.Ae,v.ce,vb,v.xs⟩∧ai P w wx)
 case first=>
  cases ok with
  | true=>
   have Hf:=ap (show PI B P Zg st (cW (qq t)) ⟨v.Ao,v.co,v.As,v.cs,v.Ae,v.ce,v.vb,v.xs⟩ by rw[Q0.o];exact Q9.o);go_wp2;(try simp only[Exit.then]);(try refine Met.intro ?_)
   first
    | (rename_i hJ hM;refine hM _ _ (Met.intro ?_);refine hJ _ _ ?_)
    | (rename_i hJ;refine hJ _ _ ?_)
    | (rename_i hJ hT;refine hJ _ _ ?_)
    | (rename_i hJ hT aW;refine hJ _ _ ?_)
    | (rename_i hJ hT aW cH;refine hJ _ _ ?_)
   (repeat apply Exists.intro);exact⟨⟨_,Hf.o,OU.o⟩,rfl⟩
  | false=>
   go_wp2_with fail
   refine HW.o.mono ?_;rintro e w0 ⟨Zd,rfl,h1,h2⟩;have Hf:=ap (show PI B P w0 st (cW (qq t)) ⟨v.Ao,v.co,v.As,v.cs,v.Ae,v.ce,Zd,v.xs⟩ by rw[Q0.o];exact h1);have B0:=ap (show ai P w w0 from OU.o.trans h2);clear h1 h2;dsimp only
   rename_i hM hJ hT KK cG
   refine cG _ _ ?_;clear cG KK;go_wp2;(try simp only[Exit.then]);(try refine hM _ _ (Met.intro ?_));refine hJ _ _ ?_;(repeat apply Exists.intro);exact⟨⟨_,Hf.o,B0.o⟩,rfl⟩
 case rest=>
  obtain⟨w0,rfl⟩:∃w0:World,w0=wc:=⟨_,rfl⟩;obtain⟨Zd,h1,h2⟩:=hcut;have I0:=ap h1;have B0:=ap h2;clear h1 h2 N5;have UQ:w.heap.size≤w0.heap.size:=B0.o.size;have apB:w0.cell? ⟨b,o+2,none⟩=some (.slice eP n ct):=((B0.o.below H.o.bp HB.o).cell (p:=⟨b,o+2,none⟩) Ht.o.lt).trans iV;have Bm:b<w0.heap.size:=by have:=Ht.o.lt;have:=HB.o;omega
  have C0:=ap (acS w0);have I1:=ap (I0.o.go (ay w0 (.map #[] 0)));have B1:=ap (B0.o.go (ay w0 (.map #[] 0)));have vS:w.heap.size≤w0.heap.size∧P≠w0.heap.size:=⟨UQ,by have:=I0.o.blk.lt;omega⟩;obtain⟨Mb,KZ⟩:∃Mb,w0.heap.size=Mb:=⟨_,rfl⟩;rw[KZ] at C0 vS;have IE:=ap vS;have Dp:=ap KZ;clear UQ vS KZ;go_wp2;rw[Dp.o]
  go_loopg [35,6] n (fun gk vk vl wr=>∃(k:Nat) (vb:Value) (A:Option Addr) (c:Nat) (D:DataW Unit),gk=n-k∧k≤n∧vk=.int .i64 (k:Int)∧vl=.slice A k c∧PI B P wr st (cW ((qq t).or (iY [] (t.attrs.take k)))) ⟨v.Ao,v.co,v.As,v.cs,v.Ae,v.ce,vb,v.xs⟩∧
   wr.ownsRow w.heap.size 185 4 (.slice A k c) k (cS ((t.attrs.take k).map fp))∧ew wr Mb k ((t.attrs.take k).map (·.name)) D∧ai P w wr)
  case atStart=>exact⟨0,_,none,0,_,rfl,by omega,rfl,rfl,by rw[List.take_zero,iY,Option.or_none];exact I1.o,World.ownsRow_nil _ _ _ _,C0.o,B1.o⟩
  case round=>
   obtain⟨k,vb,A,c,D,au,hk,rfl,rfl,h1,h2,h3,h4⟩:=hrel;have Hg:=ap au;have H1:=ap h1;have H2:=ap h2;have H3:=ap h3;have H4:=ap h4;clear au h1 h2 h3 h4 C0 I1 B1
   by_cases hlt:k<n
   ·obtain⟨a,ha⟩:∃a,t.attrs[k]?=some a:=⟨_,List.getElem?_eq_getElem (by rw[HN.o];exact hlt)⟩;have eh:k<t.attrs.length:=by rw[HN.o];exact hlt
    have nv:=(Hr.o.below (H4.o.below H.o.bp HB.o));rw[←HN.o] at nv;rw[show t.attrs.length=(t.attrs.map At.g).length by rw[List.length_map]] at nv;obtain⟨ab,ao,x8,hab,ga⟩:=Reads.ga nv (k:=k) (by rw[List.length_map];exact eh);rw[List.getElem_map,(List.getElem?_eq_some_iff.1 ha).2] at ga;have g0:wr.cell? ⟨ab,ao+k*3,none⟩=some (.string (aa a.name)):=ga.c0;have g1:wr.cell? ⟨ab,ao+k*3+1,none⟩=some (.string (aa a.value)):=ga.c1;have g2:wr.cell? ⟨ab,ao+k*3+2,none⟩=some (.int .i64 (a.at_:Int)):=ga.c2;subst x8;have wK:IntKind.i64.wrap ((k:Int)+1)=(k:Int)+1:=IntWalk.i64_in _ (by omega);have iy:t.attrs.take (k+1)=t.attrs.take k++[a]:=by rw[List.take_succ_eq_append_getElem eh,(List.getElem?_eq_some_iff.1 ha).2]
    have eQ:=ap (show (t.attrs.take (k+1)).map (·.name)=(t.attrs.take k).map (·.name)++[a.name] by rw[iy,List.map_append];rfl);have kY:=ap (show cS ((t.attrs.take (k+1)).map fp)=cS ((t.attrs.take k).map fp)++uw (fp a) by rw[iy,List.map_append,List.map_cons,List.map_nil,alV]);have a8:=ap (show iY [] (t.attrs.take (k+1))=(iY [] (t.attrs.take k)).or (if (split a.name).isNone=true∨a.name∈(t.attrs.take k).map (·.name) then some a.at_ else none) by rw[iy];exact ahQ _ _ _);have qX:=ap (show w.heap.size≤wr.heap.size from H4.o.size);have HP:=ap (show P<wr.heap.size from H1.o.blk.lt);have aor:=H3.o.own.lt;have Hq:=ap (show ((t.attrs.take k).map (·.name)).count a.name≤k from Nat.le_trans List.count_le_length (by rw[List.length_map,List.length_take];omega));have DW:=ap (show ((t.attrs.take k).map (·.name)).count a.name=0↔a.name∉(t.attrs.take k).map (·.name) from List.count_eq_zero);have xE:=ap (show (((t.attrs.take k).map (·.name))++[a.name]).count a.name=((t.attrs.take k).map (·.name)).count a.name+1 by rw[List.count_append,List.count_singleton,beq_self_eq_true];rfl)
    have b2:=acx wr (.cells #[.string (aa a.name),.string (aa a.value),.int .i64 (a.at_:Int)] 183) (.cells #[.string ⟨#[]⟩,.string ⟨#[]⟩,.string ⟨#[]⟩,.int .i64 (a.at_:Int)] 185);have KV:ae ((wr.alloc (.cells #[.string (aa a.name),.string (aa a.value),.int .i64 (a.at_:Int)] 183)).alloc (.cells #[.string ⟨#[]⟩,.string ⟨#[]⟩,.string ⟨#[]⟩,.int .i64 (a.at_:Int)] 185)) wr.heap.size 183 #[.string (aa a.name),.string (aa a.value),.int .i64 (a.at_:Int)]:=(ae.new wr 183 #[.string (aa a.name),.string (aa a.value),.int .i64 (a.at_:Int)]).alloc _;have KS:ae ((wr.alloc (.cells #[.string (aa a.name),.string (aa a.value),.int .i64 (a.at_:Int)] 183)).alloc (.cells #[.string ⟨#[]⟩,.string ⟨#[]⟩,.string ⟨#[]⟩,.int .i64 (a.at_:Int)] 185)) (wr.heap.size+1) 185 #[.string ⟨#[]⟩,.string ⟨#[]⟩,.string ⟨#[]⟩,.int .i64 (a.at_:Int)]:=by have:=ae.new (wr.alloc (.cells #[.string (aa a.name),.string (aa a.value),.int .i64 (a.at_:Int)] 183)) 185 #[.string ⟨#[]⟩,.string ⟨#[]⟩,.string ⟨#[]⟩,.int .i64 (a.at_:Int)];rwa[World.size_alloc] at this
    have hkey:keyOf Tryz.prog 9 (.string (aa a.name))=some (.string a.name):=WideMaps.keyOf_string_mk Tryz.underlying9 (by rw[aO];have:=Hv.o a (List.mem_of_getElem? ha);unfold maxLen;omega);have HK:=ap hkey;clear hkey;have HX:=ap (Yp a.name ((wr.alloc (.cells #[.string (aa a.name),.string (aa a.value),.int .i64 (a.at_:Int)] 183)).alloc (.cells #[.string ⟨#[]⟩,.string ⟨#[]⟩,.string ⟨#[]⟩,.int .i64 (a.at_:Int)] 185)) ((HG.o.but H4.o (by have:=H6.o;have:=H.o.bp;omega)).below b2) (Hv.o a (List.mem_of_getElem? ha)));have B2:=ap b2;have KV0:=ap KV;have KS0:=ap KS;obtain⟨seen,wG⟩:∃seen,(t.attrs.take k).map (·.name)=seen:=⟨_,rfl⟩;rw[wG] at eQ a8 Hq DW xE H3;obtain⟨q,hq⟩:∃q,seen.count a.name=q:=⟨_,rfl⟩;rw[hq] at Hq DW xE;have HQ:=ap hq;have FK:IntKind.i64.wrap ((q:Int)+1)=(q:Int)+1:=IntWalk.i64_in _ (by have:=Hq.o;omega);have Ma:(0:Int)≤(q:Int):=by omega
    have Ql:=ap (show (Lit.int .i64 ((q:Int)+1)).wf=true from WalkArith.wf_i64 (by have:=Hq.o;omega));have QF:=ap (show k<maxLen by unfold maxLen;omega);clear KV KS b2 ga nv ha eh iy wG hq
    obtain⟨pp,ll,ok,hs1,BS,qd⟩:∃(pp ll:L) (ok:Bool),sg (split a.name)=.tuple #[.string (aa pp),.string (aa ll),.bool ok]∧uw (fp a)=[.string (aa pp),.string (aa ll),.string ⟨#[]⟩,.int .i64 (a.at_:Int)]∧(split a.name).isNone = !ok:=by
     unfold fp
     cases split a.name with
     | none=>exact⟨[],[],false,rfl,rfl,rfl⟩
     | some p=>exact⟨p.1,p.2,true,rfl,rfl,rfl⟩
    rw[hs1] at HX;rw[qd] at a8;have od:=ap BS;clear hs1 BS qd
    go_wp2_with fail
    refine HX.o.mono ?_;rintro e w3 ⟨rfl,b3⟩;have B3:=ap (B2.o.trans (b3.mono B2.o.size));have JH:=KV0.o.go b3;have sU:=KS0.o.go b3;have C3:=ap (H3.o.go B3.o);have I3:=ap (H1.o.go B3.o);have O3:=ap (fo H2.o B3.o);have M3:=ap (H4.o.go B3.o);have s0:w3.cell? ⟨wr.heap.size+1,0,none⟩=some _:=sU.cell 0;have s1:w3.cell? ⟨wr.heap.size+1,1,none⟩=some _:=sU.cell 1;have Tl:=sU.frozen 0;have Tm:=sU.frozen 1;have v0:w3.cell? ⟨wr.heap.size,0,none⟩=some (.string (aa a.name)):=JH.cell 0;have Ra:=ap (show ae ((w3.setCell ⟨wr.heap.size+1,0,none⟩ (.string (aa pp))).setCell ⟨wr.heap.size+1,1,none⟩ (.string (aa ll))) (wr.heap.size+1) 185 #[.string (aa pp),.string (aa ll),.string ⟨#[]⟩,.int .i64 (a.at_:Int)] from (sU.aH 0 (.string (aa pp))).aH 1 (.string (aa ll)));have JI:=ap ((JH.far (p:=⟨wr.heap.size+1,0,none⟩) (by simp) (.string (aa pp))).far (p:=⟨wr.heap.size+1,1,none⟩) (by simp) (.string (aa ll)));have C4:=ap ((C3.o.set (p:=⟨wr.heap.size+1,0,none⟩) (by simp;omega) (.string (aa pp))).set (p:=⟨wr.heap.size+1,1,none⟩) (by simp;omega) (.string (aa ll)))
    have I4:=ap ((I3.o.far (p:=⟨wr.heap.size+1,0,none⟩) sU (by decide) (.string (aa pp))).far (p:=⟨wr.heap.size+1,1,none⟩) (sU.aH 0 _) (by decide) (.string (aa ll)))
    have TU:((w3.setCell ⟨wr.heap.size+1,0,none⟩ (.string (aa pp))).setCell ⟨wr.heap.size+1,1,none⟩ (.string (aa ll))).ownsRow w.heap.size 185 4 (.slice A k c) k (cS ((t.attrs.take k).map fp)):=by
     have UE:∀(X:World) (i:Nat) (u:Value),X.ownsRow w.heap.size 185 4 (.slice A k c) k (cS ((t.attrs.take k).map fp))→(∀a',A=some a'→a'.block≠wr.heap.size+1)→(X.setCell ⟨wr.heap.size+1,i,none⟩ u).ownsRow w.heap.size 185 4 (.slice A k c) k (cS ((t.attrs.take k).map fp)):=fun X i u hX hne=>hX.kept ⟨rfl,rfl,rfl,by simp[World.setCell],fun j _ hj=>Below.heap_setCell _ _ _ _ (fun e=>hj (by rw[e]))⟩ (by
      cases A with
      | none=>exact .inl rfl
      | some a'=>exact .inr (fun e=>hne a' rfl (by simpa[Value.ownBlock] using e)))
     have hne:∀a',A=some a'→a'.block≠wr.heap.size+1:=fun a' e=>by have:=(H2.o.lt a'.block (by rw[e];rfl)).2;omega
     exact UE _ 1 _ (UE _ 0 _ O3.o hne) hne
    have O4:=ap TU;have M4:=ap ((M3.o.setCell (p:=⟨wr.heap.size+1,0,none⟩) (.inr (by have:=qX.o;simp;omega)) (.string (aa pp))).setCell (p:=⟨wr.heap.size+1,1,none⟩) (.inr (by have:=qX.o;simp;omega)) (.string (aa ll)));have v4:((w3.setCell ⟨wr.heap.size+1,0,none⟩ (.string (aa pp))).setCell ⟨wr.heap.size+1,1,none⟩ (.string (aa ll))).cell? ⟨wr.heap.size,0,none⟩=some (.string (aa a.name)):=JI.o.cell 0;clear b3 sU JH TU
    by_cases Fg:ok=true∧a.name∉seen
    ·obtain⟨rfl,yw⟩:=Fg;have Ik:=ap (show (iY [] (t.attrs.take (k+1)))=(iY [] (t.attrs.take k)) by rw[a8.o];simp[yw]);have tY:q=0:=DW.o.2 yw;have fV:decide ((1:Int)<(q:Int)+1)=false:=by rw[decide_eq_false_iff_not];omega
     clear yw tY
     go_wp2_with first
      | (at_lookup;refine Zo _ (by kernel_rfl) _ _ _ (by rfl) _ _ _ (by rfl) (by rfl) I7.o ?_)
      | (at_lookup;refine wpList_lookup_own_int _ rfl _ _ 181 rfl 9 3 .i64 uk Tryz.underlying181 Tryz.underlying3 (sw _) Mb k D rfl C4.o.own _ _ rfl HK.o ?_;intro c0 hat Mq;clear Mq;have hc0:=C4.o.wN HQ.o hat;subst hc0;clear hat)
      |(at_mapUpdate;refine wpList_mapUpdate_own _ rfl _ _ _ 181 rfl 9 3 uk Tryz.underlying181 _ Mb k D rfl C4.o.own QF.o _ _ _ rfl rfl HK.o _ [] (plainElem_int Tryz.underlying3 Ql.o) ?_
        intro w5 BP mC;have C5:=ap (Sq C4.o HQ.o BP);obtain⟨es4,cl4,wa⟩:=C4.o.block;have I5:=ap (I4.o.kept mC (fun j hj t' _=>by cases hj;exact uo wa));have O5:=ap (O4.o.kept mC (.inr (Nk O4.o wa)));have M5:=ap (M4.o.grown mC (fun j hj=>by cases hj;exact IE.o.1));have JG:=ap (Ra.o.grown mC (by simp;omega));have vu:=JI.o.grown mC (by simp;omega);have QZ:=ap (show w.heap.size≤w5.heap.size from M5.o.size);have v0':w5.cell? ⟨wr.heap.size,0,none⟩=some (.string (aa a.name)):=vu.cell 0;have v2':w5.cell? ⟨wr.heap.size,2,none⟩=some (.int .i64 (a.at_:Int)):=vu.cell 2;obtain⟨c1,hrun,hat,Mr⟩:=C5.o.own.lookup_int uk Tryz.underlying181 Tryz.underlying3 (sw _) HK.o;have cR:c1=((q+1:Nat):Int):=C5.o.wN xE.o hat;rw[show ((q+1:Nat):Int)=(q:Int)+1 by omega] at cR;subst cR;have I7:=ap hrun;clear Mr hrun hat BP mC wa v0 v4 s0 s1 Tl Tm vu;have om:=JG.o;have p0':w5.cell? ⟨wr.heap.size+1,0,none⟩=some (.string (aa pp)):=om.cell 0;have p1':w5.cell? ⟨wr.heap.size+1,1,none⟩=some (.string (aa ll)):=om.cell 1;have p2':w5.cell? ⟨wr.heap.size+1,2,none⟩=some (.string ⟨#[]⟩):=om.cell 2
        have p3':w5.cell? ⟨wr.heap.size+1,3,none⟩=some (.int .i64 (a.at_:Int)):=om.cell 3;have KL:=ap (ae.new w5 185 [.string (aa pp),.string (aa ll),.string ⟨#[]⟩,.int .i64 (a.at_:Int)].toArray);clear om)
      | (at_builtin;go_loud (refine su _ (by rfl) (.tmp 69) (.tmp 71) 135 (by rfl) w.heap.size 185 _ 4 56 Tryz.underlying135 VP (by rfl) (by omega) (.slice A k c) k (cS ((t.attrs.take k).map fp)) (by rfl) (O5.o.alloc _) [.string (aa pp),.string (aa ll),.string ⟨#[]⟩,.int .i64 (a.at_:Int)] (by rfl) (by rw[←od.o];exact Yo _) w5.heap.size KL.o (by rfl) (by unfold maxLen;omega) (by omega) (by have:=M5.o.size;simp;omega) ?_);intro g8 dw w8 aP aG cX;have cU:=ap aP;have eC:=ap aG;clear aP aG cX)
     
     go_roundg (n-(k+1))
     case measure=>have:=Hg.o;omega
     case rel=>
      obtain⟨SM,Sm,Bu⟩:=(ew.go C5.o (ay w5 (.cells [.string (aa pp),.string (aa ll),.string ⟨#[]⟩,.int .i64 (a.at_:Int)].toArray 185))).block;have ah:∀j,(Value.slice A k c).ownBlock=some j→w.heap.size≤j∧bN (w5.alloc (.cells [.string (aa pp),.string (aa ll),.string ⟨#[]⟩,.int .i64 (a.at_:Int)].toArray 185)) j 185:=fun j hj=>aD (O5.o.alloc _) j hj;refine⟨k+1,vb,some ⟨g8,0,none⟩,dw,D.put (.string a.name) (.lit (.int .i64 ((q:Int)+1))),rfl,by omega,by first|rfl|go_num,rfl,?_,?_,?_,?_⟩
      ·rw[Ik.o,show (qq t).or (iY [] (t.attrs.take k))=(qq t).or (iY [] (t.attrs.take k)) from rfl];exact (I5.o.go (ay _ _)).kept eC.o (fun j hj t' rO hT=>gV (ah j hj).2 hT (by intro e;subst e;revert rO;decide))
      ·rw[kY.o,od.o];exact cU.o
      ·rw[eQ.o];exact (ew.go C5.o (ay _ _)).kept eC.o (fun e=>uo Bu (ah Mb e.symm).2)
      exact (M5.o.go (ay _ _)).grown eC.o (fun j hj=>(ah j hj).1)
    ·have Ik:=ap (show (iY [] (t.attrs.take (k+1)))=(iY [] (t.attrs.take k)).or (some a.at_) by
      rw[a8.o,if_pos]
      cases ok with
      | false=>exact .inl rfl
      | true=>exact .inr (Classical.byContradiction fun h=>Fg ⟨rfl,h⟩))
     have hb:ok=false∨(ok=true∧decide ((1:Int)<(q:Int)+1)=true):=by
      cases ok with
      | false=>exact .inl rfl
      | true=>
       have hm:q≠0:=fun h=>Fg ⟨rfl,DW.o.1 h⟩;exact .inr ⟨rfl,by rw[decide_eq_true_iff];omega⟩
     clear Fg
     rcases hb with rfl|⟨rfl,fV⟩
     all_goals
      go_wp2_with first
       | (at_lookup;refine Zo _ (by kernel_rfl) _ _ _ (by rfl) _ _ _ (by rfl) (by rfl) I7.o ?_)
       | (at_lookup;refine wpList_lookup_own_int _ rfl _ _ 181 rfl 9 3 .i64 uk Tryz.underlying181 Tryz.underlying3 (sw _) Mb k D rfl C4.o.own _ _ rfl HK.o ?_;intro c0 hat Mq;clear Mq;have hc0:=C4.o.wN HQ.o hat;subst hc0;clear hat)
       |(at_mapUpdate;refine wpList_mapUpdate_own _ rfl _ _ _ 181 rfl 9 3 uk Tryz.underlying181 _ Mb k D rfl C4.o.own QF.o _ _ _ rfl rfl HK.o _ [] (plainElem_int Tryz.underlying3 Ql.o) ?_
         intro w5 BP mC;have C5:=ap (Sq C4.o HQ.o BP);obtain⟨es4,cl4,wa⟩:=C4.o.block;have I5:=ap (I4.o.kept mC (fun j hj t' _=>by cases hj;exact uo wa));have O5:=ap (O4.o.kept mC (.inr (Nk O4.o wa)));have M5:=ap (M4.o.grown mC (fun j hj=>by cases hj;exact IE.o.1));have JG:=ap (Ra.o.grown mC (by simp;omega));have vu:=JI.o.grown mC (by simp;omega);have QZ:=ap (show w.heap.size≤w5.heap.size from M5.o.size);have v0':w5.cell? ⟨wr.heap.size,0,none⟩=some (.string (aa a.name)):=vu.cell 0;have v2':w5.cell? ⟨wr.heap.size,2,none⟩=some (.int .i64 (a.at_:Int)):=vu.cell 2;obtain⟨c1,hrun,hat,Mr⟩:=C5.o.own.lookup_int uk Tryz.underlying181 Tryz.underlying3 (sw _) HK.o;have cR:c1=((q+1:Nat):Int):=C5.o.wN xE.o hat;rw[show ((q+1:Nat):Int)=(q:Int)+1 by omega] at cR;subst cR;have I7:=ap hrun;clear Mr hrun hat BP mC wa v0 v4 s0 s1 Tl Tm vu)
     
     
      have HW:=ap (uA B P w5 st _ _ a.at_ 50 I5.o (Nat.le_trans HB.o QZ.o));refine HW.o.mono ?_;rintro e w6 ⟨Ze,rfl,h1,h2⟩;have I6:=ap h1;have om:=h2.blk JG.o (by have:=HP.o;omega);have C6:=ap (C5.o.but h2 IE.o.2.symm);have O6:=ap (bD.own (B:=0) (T:=[]) (.fl h2) O5.o I5.o.blk (by decide) (by simp));have M6:=ap (M5.o.trans h2);clear h1 h2;have p0':w6.cell? ⟨wr.heap.size+1,0,none⟩=some (.string (aa pp)):=om.cell 0;have p1':w6.cell? ⟨wr.heap.size+1,1,none⟩=some (.string (aa ll)):=om.cell 1;have p2':w6.cell? ⟨wr.heap.size+1,2,none⟩=some (.string ⟨#[]⟩):=om.cell 2;have p3':w6.cell? ⟨wr.heap.size+1,3,none⟩=some (.int .i64 (a.at_:Int)):=om.cell 3;have KL:=ap (ae.new w6 185 [.string (aa pp),.string (aa ll),.string ⟨#[]⟩,.int .i64 (a.at_:Int)].toArray);clear om;dsimp only
      rename_i cG
      refine cG _ _ ?_;clear cG
      go_wp2_with (at_builtin;go_loud (refine su _ (by rfl) (.tmp 69) (.tmp 71) 135 (by rfl) w.heap.size 185 _ 4 56 Tryz.underlying135 VP (by rfl) (by omega) (.slice A k c) k (cS ((t.attrs.take k).map fp)) (by rfl) (O6.o.alloc _) [.string (aa pp),.string (aa ll),.string ⟨#[]⟩,.int .i64 (a.at_:Int)] (by rfl) (by rw[←od.o];exact Yo _) w6.heap.size KL.o (by rfl) (by unfold maxLen;omega) (by omega) (by have:=M6.o.size;simp;omega) ?_);intro g8 dw w8 aP aG cX;have cU:=ap aP;have eC:=ap aG;clear aP aG cX)
      go_roundg (n-(k+1))
      case measure=>have:=Hg.o;omega
      case rel=>
       obtain⟨SM,Sm,Bu⟩:=(ew.go C6.o (ay w6 (.cells [.string (aa pp),.string (aa ll),.string ⟨#[]⟩,.int .i64 (a.at_:Int)].toArray 185))).block;have ah:∀j,(Value.slice A k c).ownBlock=some j→w.heap.size≤j∧bN (w6.alloc (.cells [.string (aa pp),.string (aa ll),.string ⟨#[]⟩,.int .i64 (a.at_:Int)].toArray 185)) j 185:=fun j hj=>aD (O6.o.alloc _) j hj;refine⟨k+1,Ze,some ⟨g8,0,none⟩,dw,D.put (.string a.name) (.lit (.int .i64 ((q:Int)+1))),rfl,by omega,by first|rfl|go_num,rfl,?_,?_,?_,?_⟩
       ·rw[Ik.o,←Option.or_assoc,←Gz];exact (I6.o.go (ay _ _)).kept eC.o (fun j hj t' rO hT=>gV (ah j hj).2 hT (by intro e;subst e;revert rO;decide))
       ·rw[kY.o,od.o];exact cU.o
       ·rw[eQ.o];exact (ew.go C6.o (ay _ _)).kept eC.o (fun e=>uo Bu (ah Mb e.symm).2)
       exact (M6.o.go (ay _ _)).grown eC.o (fun j hj=>(ah j hj).1)
   ·have hall:k=n:=by omega
    subst hall;have e1:t.attrs.take k=t.attrs:=List.take_of_length_le (by rw[HN.o];exact Nat.le_refl _);have I:=ap H1.o;have O:=ap H2.o;rw[e1] at I O;rw[←ahR] at I;clear e1;go_wp2;go_ret3;exact⟨vb,A,c,by rw[HN.o];rfl,I.o,by rw[HN.o];exact O.o,H4.o⟩
end
section
open Go.RowKit Tk Sx Go.WideShapes

theorem Wa:laidOutB Tryz.prog=true:=by kernel_rfl
theorem XW:(75:TypeId)<Tryz.prog.types.size:=of_decide_eq_true (by kernel_rfl)
theorem ab7:Tryz.prog.keyTypeAt 2 75=true:=by kernel_rfl
theorem MI:WideMaps.KeyLaw Tryz.prog 75:=deep_law_laid Wa (m:=2) (by decide) XW ab7 (by rw[Tryz.underlying75])
theorem Gg:Maps.Keyed Tryz.prog 75:=Maps.Keyed.of_law MI
theorem Sj:Tryz.prog.cellsOf 75=2:=by kernel_rfl
theorem Sl:Tryz.prog.cellsOf 9=1:=by kernel_rfl
theorem ag3:Tryz.prog.keyType 75=true:=by kernel_rfl
theorem YT:∃m,Tryz.prog.types.size=m+1:=by
 have h:=XW;generalize Tryz.prog.types.size=s at h
 cases s with
 | zero=>cases h
 | succ m=>exact⟨m,rfl⟩
def nR(x:Nm):Value:=.agg #[.string (aa x.ns),.string (aa x.loc)]
def gF(x:Nm):Lit:=.string (keyBytes [.string x.ns,.string x.loc])
def gM(x:Nm):Prop:=x.ns.length≤1000000000∧x.loc.length≤1000000000
theorem yH{x:Nm}(h:gM x):keyOf Tryz.prog 75 (nR x)=some (gF x):=by
 have h1:(aa x.ns).size≤maxLen:=by rw[aO];unfold maxLen;have:=h.1;omega
 have h2:(aa x.loc).size≤maxLen:=by rw[aO];unfold maxLen;have:=h.2;omega
 obtain⟨m,hm⟩:=YT;unfold keyOf nR;simp only[Tryz.underlying75];rw[if_pos (by simp[ag3,Value.formed,Tryz.underlying75,Sj]),hm];unfold Program.keyLits;simp only[Tryz.underlying75,Value.cells];simp[Sj,Sl,Program.keyLits,Tryz.underlying9,h1,h2,List.mapM_cons,gF,aZ]
theorem ahZ{x y:Nm}(h:nR x=nR y):x=y:=by
 unfold nR at h;simp only[Value.agg.injEq,Array.mk.injEq,List.cons.injEq,Value.string.injEq,and_true] at h
 cases x;cases y
 simp only[Nm.mk.injEq];exact⟨str_inj h.1,str_inj h.2⟩
theorem MK{x y:Nm}(hx:gM x)(hy:gM y)(h:gF x=gF y):x=y :=
 ahZ (MI.inj (yH hx) (by rw[h];exact yH hy))
structure fu(w:World)(b n:Nat)(seen:List Nm)(D:DataW Unit):Prop where
 own:w.ownsMap Tryz.prog 75 (plainElem Tryz.prog 3) b n D
 is:Maps.IsMap D
 at_:∀x:Nm,gM x→D.atKey (gF x) (.lit (.int .i64 0))=.lit (.int .i64 (seen.count x:Nat))
theorem fu.go{w w':World}{b n:Nat}{seen:List Nm}{D:DataW Unit}(h:fu w b n seen D)(hb:Below w.heap.size w w'):fu w' b n seen D:=⟨nO h.own (hb.block _ h.own.lt),h.is,h.at_⟩
theorem fu.set{w:World}{b n:Nat}{seen:List Nm}{D:DataW Unit}(h:fu w b n seen D){p:Addr}(hp:b≠p.block)(u:Value):fu (w.setCell p u) b n seen D:=⟨nO h.own (Below.heap_setCell _ _ _ _ hp),h.is,h.at_⟩
theorem fu.but{w w':World}{P b n:Nat}{seen:List Nm}{D:DataW Unit}(h:fu w b n seen D)(hb:ai P w w')(hP:b≠P):fu w' b n seen D:=⟨nO h.own (hb.block _ h.own.lt hP),h.is,h.at_⟩
theorem fu.kept{w w':World}{row:Option Nat}{b n:Nat}{seen:List Nm}{D:DataW Unit}(h:fu w b n seen D)(hg:w.grownBy w' row)(hne:some b≠row):fu w' b n seen D:=⟨h.own.kept hg hne,h.is,h.at_⟩
theorem fu.block{w:World}{b n:Nat}{seen:List Nm}{D:DataW Unit}(h:fu w b n seen D):∃es cl,w.heap[b]?=some (.map es cl):=by
 obtain⟨es,cl,hb,_⟩:=h.own;exact⟨es,cl,hb⟩
theorem acR(w:World):fu (w.alloc (.map #[] 0)) w.heap.size 0 [] (.map []):=⟨World.ownsMap_made _ _ _ _,Maps.isMap_empty,fun _ _=>rfl⟩
theorem fu.wN{w:World}{b n q:Nat}{seen:List Nm}{D:DataW Unit}{x:Nm}{c:Int}(h:fu w b n seen D)(hx:gM x)(hq:seen.count x=q)(hc:D.atKey (gF x) (.lit (.int .i64 0))=.lit (.int .i64 c)):c=(q:Int):=by
 rw[h.at_ x hx,hq] at hc;injection hc with hc
 injection hc with _ hc
 exact hc.symm
theorem acQ{w w':World}{b n q:Nat}{seen:List Nm}{D:DataW Unit}{x:Nm}(h:fu w b n seen D)(hx:gM x)(hq:seen.count x=q)(ho:w'.ownsMap Tryz.prog 75 (plainElem Tryz.prog 3) b (n+1) (D.put (gF x) (.lit (.int .i64 ((q:Int)+1))))):fu w' b (n+1) (seen++[x]) (D.put (gF x) (.lit (.int .i64 ((q:Int)+1)))):=by
 subst hq;refine⟨ho,h.is.put _ _,fun y hy=>?_⟩
 by_cases hm:y=x
 ·subst hm;rw[Maps.atKey_put_same h.is (by simp[WideAt.IsKeyLit,gF])];simp
 rw[Maps.atKey_put_other (fun e=>hm (MK hy hx e)),h.at_ y hy,List.count_append,List.count_singleton];have:(x==y)=false:=by rw[beq_eq_false_iff_ne];exact fun e=>hm e.symm
 rw[this];simp
theorem alo{w:World}{b:Nat}{o:Obj}:(ChangeMaps.setBlock w b o).heap.size=w.heap.size:=by simp[ChangeMaps.setBlock]
theorem wX{w:World}{b:Nat}{o o':Obj}(h:w.heap[b]?=some o'):(ChangeMaps.setBlock w b o).heap[b]?=some o:=by
 have hlt:=(Array.getElem?_eq_some_iff.1 h).1;simp[ChangeMaps.setBlock,hlt]
theorem X7{w:World}{b:Nat}{o o':Obj}(h:w.heap[b]?=some o'):w.grownBy (ChangeMaps.setBlock w b o) (some b) :=
 ⟨rfl,rfl,rfl,by simp[ChangeMaps.setBlock],fun k _ hk=>by
  have hne:b≠k:=fun e=>hk (by rw[e]);simp[ChangeMaps.setBlock,Array.getElem?_setIfInBounds,hne]⟩
theorem aiK{w:World}{t k e b n:Nat}{D:DataW Unit}{P:Program}{q:IntKind}(h:w.ownsMap P k (plainElem P e) b n D)(K:WideMaps.KeyLaw P k)(ht:P.underlying t=some (.map k e))(he:P.underlying e=some (.int q))(hz:∀u:World,(zeroValue e).run P u=.ok (.int q 0) u)(hn:n<maxLen)
  {key:Value} {kl:Lit} (hkey:keyOf P k key=some kl) :
  ∃(v0:Value) (st:Nat) (w1:World),(Instr.mapEntry t (.map (some b)) key).run P w=.ok (.tuple #[v0,Value.int .i64 (st:Int)]) w1∧w.grownBy w1 (some b)∧w1.heap.size=w.heap.size∧
   (Instr.lookup t (.map (some b)) key false).run P w1=.ok v0 w1∧(Instr.lookup t (.map (some b)) key false).run P w=.ok v0 w∧
   ∀(val:Value) (d:DataW Unit) (ps:List MemPlace),plainElem P e val=some (d,ps)→∀w2:World,w2.heap[b]?=w1.heap[b]?→
    ∃w3,(Instr.entryStore t (.map (some b)) (.int .i64 (st:Int)) val).run P w2=.ok () w3∧w3.ownsMap P k (plainElem P e) b (n+1) (D.put kl d)∧w2.grownBy w3 (some b):=by
 obtain⟨es,clock,hb,F,hsz,hD⟩:=h;have Ky:=Maps.Keyed.of_law K;have hown:w.ownsMap P k (plainElem P e) b n D:=⟨es,clock,hb,F,hsz,hD⟩;obtain⟨v0,st,xU,xM,lO,hv0,hst⟩:=WideElems.entry_then_store K ht hz hb F hkey;have ak:(ChangeMaps.setBlock w b (.map xU xM)).heap[b]?=some (.map xU xM):=wX hb;refine⟨v0,st,ChangeMaps.setBlock w b (.map xU xM),lO,X7 hb,alo,?_,?_,?_⟩
 ·rcases Ky.find w hkey es.toList F.keys with ⟨h1,h2⟩|⟨j,e0,h1,h2,h3⟩
  ·have BM:(Instr.mapEntry t (.map (some b)) key).run P w=.ok (.tuple #[.int q 0,.int .i64 (clock:Int)]) (ChangeMaps.setBlock w b (.map (es.push ⟨key,.int q 0,clock⟩) (clock+1))):=by
    simp[Instr.mapEntry,run_underlying ht,MapKept.run_getObj_map hb,Ky.check w false hkey,h1,hz,MapKept.run_setObj_map _ hb,Result.andThen,ChangeMaps.setBlock];rfl
   rw[BM] at lO;simp only[Result.ok.injEq] at lO;obtain⟨e1,e2⟩:=lO;have e3:(ChangeMaps.setBlock w b (.map (es.push ⟨key,.int q 0,clock⟩) (clock+1))).heap[b]?=some (.map xU xM):=by rw[e2];exact ak
   rw[wX hb] at e3;simp only[Option.some.injEq,Obj.map.injEq] at e3;obtain⟨e4,e5⟩:=e3;have ez:v0=.int q 0:=by simp at e1;exact e1.1.symm
   subst e4 e5;rw[ez]
   rcases Ky.find (ChangeMaps.setBlock w b (.map (es.push ⟨key,.int q 0,clock⟩) (clock+1))) hkey (es.push ⟨key,.int q 0,clock⟩).toList (fun x hx=>by
    rw[Array.toList_push,List.mem_append] at hx
    rcases hx with hx|hx
    ·exact F.keys x hx
    simp only[List.mem_singleton] at hx;subst hx;exact⟨kl,hkey⟩) with ⟨_,q2⟩|⟨j,e0,q1,q2,q3⟩
   ·exact absurd rfl (q2 ⟨key,.int q 0,clock⟩ (by simp))
   have hv:e0.val=.int q 0:=by
    have:=List.mem_of_getElem? q2;rw[Array.toList_push,List.mem_append] at this
    rcases this with hx|hx
    ·exact absurd q3 (h2 e0 hx)
    simp only[List.mem_singleton] at hx;rw[hx]
   rw[Array.toList_push] at q1;simp[Instr.lookup,run_underlying ht,MapKept.run_getObj_map ak,Ky.check _ _ hkey,q1,Result.andThen,hv]
  have hj:es[j]?=some e0:=by simpa using h2
  have BM:(Instr.mapEntry t (.map (some b)) key).run P w=.ok (.tuple #[e0.val,.int .i64 (e0.born:Int)]) (ChangeMaps.setBlock w b (.map es clock)):=by
   have wF:es.modify j (fun e=>{ e with key:=key })=es:=by
    apply Array.ext'
    rw[Array.toList_modify,ChangeMaps.modify_eq_set _ _ _ _ h2];have:({ e0 with key:=key }:MapEntry)=e0:=by rw[←h3]
    rw[this];exact WideElems.set_self _ _ _ h2
   simp[Instr.mapEntry,run_underlying ht,MapKept.run_getObj_map hb,Ky.check w false hkey,h1,hj,h3,Ky.stays w hkey,wF,MapKept.run_setObj_map _ hb,Result.andThen,ChangeMaps.setBlock];rfl
  rw[BM] at lO;simp only[Result.ok.injEq] at lO;obtain⟨e1,e2⟩:=lO;have e3:(ChangeMaps.setBlock w b (.map es clock)).heap[b]?=some (.map xU xM):=by rw[e2];exact ak
  rw[wX hb] at e3;simp only[Option.some.injEq,Obj.map.injEq] at e3;obtain⟨e4,e5⟩:=e3;have ev:v0=e0.val:=by simp at e1;exact e1.1.symm
  subst e4 e5 ev;have hsm:(ChangeMaps.setBlock w b (.map es clock)).ownsMap P k (plainElem P e) b n D:=nO hown (by rw[wX hb,hb]);obtain⟨c,r1,a1,_⟩:=hown.lookup_int Ky ht he (hz w) hkey;obtain⟨c',r2,a2,_⟩:=hsm.lookup_int Ky ht he (hz _) hkey;rw[a1] at a2;have ec:c=c':=by injection a2 with a2;injection a2 with _ a2
  have hl:(Instr.lookup t (.map (some b)) key false).run P w=.ok e0.val w:=by simp[Instr.lookup,run_underlying ht,MapKept.run_getObj_map hb,Ky.check w _ hkey,h1,Result.andThen]
  rw[hl] at r1;simp only[Result.ok.injEq,and_true] at r1;rw[r1,ec];exact r2
 ·rcases Ky.find w hkey es.toList F.keys with ⟨h1,h2⟩|⟨j,e0,h1,h2,h3⟩
  ·rcases hv0 with ⟨e0,q1,q2,_⟩|⟨_,q2⟩
   ·exact absurd q2 (h2 e0 q1)
   rw[q2];simp[Instr.lookup,run_underlying ht,MapKept.run_getObj_map hb,Ky.check w _ hkey,h1,hz,Result.andThen]
  have hj:es[j]?=some e0:=by simpa using h2
  have BM:(Instr.mapEntry t (.map (some b)) key).run P w=.ok (.tuple #[e0.val,.int .i64 (e0.born:Int)]) (ChangeMaps.setBlock w b (.map es clock)):=by
   have wF:es.modify j (fun e=>{ e with key:=key })=es:=by
    apply Array.ext'
    rw[Array.toList_modify,ChangeMaps.modify_eq_set _ _ _ _ h2];have:({ e0 with key:=key }:MapEntry)=e0:=by rw[←h3]
    rw[this];exact WideElems.set_self _ _ _ h2
   simp[Instr.mapEntry,run_underlying ht,MapKept.run_getObj_map hb,Ky.check w false hkey,h1,hj,h3,Ky.stays w hkey,wF,MapKept.run_setObj_map _ hb,Result.andThen,ChangeMaps.setBlock];rfl
  rw[BM] at lO;simp only[Result.ok.injEq] at lO;obtain⟨e1,e2⟩:=lO;have e3:(ChangeMaps.setBlock w b (.map es clock)).heap[b]?=some (.map xU xM):=by rw[e2];exact ak
  rw[wX hb] at e3;simp only[Option.some.injEq,Obj.map.injEq] at e3;obtain⟨e4,e5⟩:=e3;have ev:v0=e0.val:=by simp at e1;exact e1.1.symm
  rw[ev];simp[Instr.lookup,run_underlying ht,MapKept.run_getObj_map hb,Ky.check w _ hkey,h1,Result.andThen]
 intro val d ps hval w2 hw2;obtain⟨es',cl',g1,g2⟩:=hst w2 val (by rw[hw2];exact ak);obtain⟨w',u1,u2,_⟩:=hown.update Ky ht hn hkey hval;rw[g2] at u1;simp only[Result.ok.injEq,true_and] at u1;refine⟨ChangeMaps.setBlock w2 b (.map es' cl'),g1,nO u2 ?_,X7 (hw2.trans ak)⟩;rw[←u1,wX (hw2.trans ak),wX hb]
end
end Go.Proofs.YtpdkeckeekchlaaGreatDoor
