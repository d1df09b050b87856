/- Strict: the program's names: a map that counts. (Printed by wip/genStI.py.) And more. -/
import Derived.Test.YtnbmfljhbpfilaaGreatDoorOw15
import Derived.Maps.OwnSet
import Derived.Deep.DeepCutAuto
import Derived.WideKeyEntry
import Derived.DeepKeys4
set_option linter.unusedSimpArgs false
set_option maxRecDepth 100000
set_option maxHeartbeats 32000000
set_option linter.unusedVariables false
namespace Go.Proofs.YtnbmfljhbpfilaaGreatDoor
section
open Go.RowKit Tk Sx

theorem tD:Maps.Keyed Tryz.prog 9:=Maps.string_keyed Tryz.underlying9
theorem rM(w:World):(zeroValue 3).run Tryz.prog w=.ok (.int .i64 0) w:=by kernel_rfl
structure ee(w:World)(b n:Nat)(seen:List L)(D:DataW Unit):Prop where
 own:w.ownsMap Tryz.prog 9 (plainElem Tryz.prog 3) b n D
 is:Maps.IsMap D
 at_:∀nm:L,D.atKey (.string nm) (.lit (.int .i64 0))=.lit (.int .i64 (seen.count nm:Nat))
theorem ox{w w':World}{P:Program}{k:TypeId}{R:Value→Option (DataW Unit×List MemPlace)}{b n:Nat}{D:DataW Unit}(h:w.ownsMap P k R b n D)(e:w'.heap[b]?=w.heap[b]?):w'.ownsMap P k R b n D:=by
 obtain⟨es,clock,hb,rest⟩:=h;exact⟨es,clock,e.trans hb,rest⟩
theorem ee.go{w w':World}{b n:Nat}{seen:List L}{D:DataW Unit}(h:ee w b n seen D)(hb:Below w.heap.size w w'):ee w' b n seen D:=⟨ox h.own (hb.block _ h.own.lt),h.is,h.at_⟩
theorem ee.set{w:World}{b n:Nat}{seen:List L}{D:DataW Unit}(h:ee w b n seen D){p:Addr}(hp:b≠p.block)(u:Value):ee (w.setCell p u) b n seen D:=⟨ox h.own (Below.heap_setCell _ _ _ _ hp),h.is,h.at_⟩
theorem ee.but{w w':World}{P b n:Nat}{seen:List L}{D:DataW Unit}(h:ee w b n seen D)(hb:ag P w w')(hP:b≠P):ee w' b n seen D:=⟨ox h.own (hb.block _ h.own.lt hP),h.is,h.at_⟩
theorem ee.kept{w w':World}{row:Option Nat}{b n:Nat}{seen:List L}{D:DataW Unit}(h:ee w b n seen D)(hg:w.grownBy w' row)(hne:some b≠row):ee w' b n seen D:=⟨h.own.kept hg hne,h.is,h.at_⟩
theorem acy(w:World):ee (w.alloc (.map #[] 0)) w.heap.size 0 [] (.map []):=⟨World.ownsMap_made _ _ _ _,Maps.isMap_empty,fun _=>rfl⟩
theorem RI{w w':World}{b n q:Nat}{seen:List L}{D:DataW Unit}{nm:L}(h:ee w b n seen D)(hq:seen.count nm=q)(ho:w'.ownsMap Tryz.prog 9 (plainElem Tryz.prog 3) b (n+1) (D.put (.string nm) (.lit (.int .i64 ((q:Int)+1))))):ee w' b (n+1) (seen++[nm]) (D.put (.string nm) (.lit (.int .i64 ((q:Int)+1)))):=by
 subst hq;refine⟨ho,h.is.put _ _,fun m=>?_⟩
 by_cases hm:m=nm
 ·subst hm;rw[Maps.atKey_put_same h.is (by simp[WideAt.IsKeyLit])];simp
 rw[Maps.atKey_put_other (by intro e;injection e with e;exact hm e),h.at_ m,List.count_append,List.count_singleton];have:(nm==m)=false:=by rw[beq_eq_false_iff_ne];exact fun e=>hm e.symm
 rw[this];simp
theorem ee.agB{w:World}{b n:Nat}{seen:List L}{D:DataW Unit}{nm:L}{c:Int}(h:ee w b n seen D)(hc:D.atKey (.string nm) (.lit (.int .i64 0))=.lit (.int .i64 c)):c=(seen.count nm:Nat):=by
 rw[h.at_ nm] at hc;injection hc with hc
 injection hc with _ hc
 exact hc.symm
theorem ee.vN{w:World}{b n q:Nat}{seen:List L}{D:DataW Unit}{nm:L}{c:Int}(h:ee w b n seen D)(hq:seen.count nm=q)(hc:D.atKey (.string nm) (.lit (.int .i64 0))=.lit (.int .i64 c)):c=(q:Int):=by rw[h.agB hc,hq]
theorem ab8(w:World)(o o':Obj):Below w.heap.size w ((w.alloc o).alloc o'):=((Below.refl _ _).alloc (Nat.le_refl _) o).alloc (by simp) o'
theorem ee.block{w:World}{b n:Nat}{seen:List L}{D:DataW Unit}(h:ee w b n seen D):∃es cl,w.heap[b]?=some (.map es cl):=by
 obtain⟨es,cl,hb,_⟩:=h.own;exact⟨es,cl,hb⟩
theorem ag.grown{R:Nat}{w w1 w':World}{row:Option Nat}(h:ag R w w1)(hg:w1.grownBy w' row)(hr:∀k,row=some k→w.heap.size≤k):ag R w w' :=
 ⟨hg.os.trans h.os,hg.tape.trans h.tape,hg.output.trans h.output,Nat.le_trans h.size hg.size,fun k hk hR=>(hg.block k (Nat.lt_of_lt_of_le hk h.size) (fun e=>by have:=hr k e.symm;omega)).trans (h.block k hk hR)⟩
theorem PI.kept{B P:Nat}{w w':World}{st:St}{b:bR}{v:Pv}{row:Option Nat}(h:PI B P w st b v)(hg:w.grownBy w' row)(hr:∀k,row=some k→∀t∈[77,107,151,50,122,85],¬bO w k t):PI B P w' st b v:=by
 have hb:∀{k t:Nat},bO w k t→t∈[77,107,151,50,122,85]→w'.heap[k]?=w.heap[k]?:=fun {k t} hk ht=>hg.block k hk.lt fun e=>hr k e.symm t ht hk
 have ho:∀{e size n:Nat} {v:Value} {xs:List Value},w.ownsRow B e size v n xs→e∈[77,107,151,50,122,85]→w'.ownsRow B e size v n xs:=fun {e size n v xs} hw he=>hw.kept hg (by
  cases hv:v.ownBlock with
  | none=>exact .inl rfl
  | some k=>exact .inr fun e1=>hr k e1.symm e he (aG hw k hv).2)
 refine⟨(hb h.blk.eR (by simp)).trans h.blk,h.bp,ho h.o (by simp),ho h.s (by simp),ho h.e (by simp),h.ev,fun x hx=>?_,?_⟩
 ·have hi:=h.gH x hx;have sa:∀a,x.A=some a→w'.heap[a.block]?=w.heap[a.block]?:=fun a ha=>hb (hi.ta a ha) (by simp);exact⟨hi.a.same sa hg.size,hi.va,hi.ta.same sa⟩
 have h1:=h.bad;unfold gv at h1 ⊢
 cases b with
 | none=>exact h1
 | some x=>
  obtain⟨F,q1,q2,q3⟩:=h1;exact⟨F,q1,q2,(hb q3.eR (by simp)).trans q3⟩
theorem tH{w:World}{k t:Nat}{es:Array MapEntry}{cl:Nat}(h:w.heap[k]?=some (.map es cl)):¬bO w k t:=by
 rintro ⟨cs,fr,h2⟩;rw[h] at h2;cases h2
theorem MD{w:World}{b e size n k:Nat}{v:Value}{xs:List Value}{es:Array MapEntry}{cl:Nat}(h:w.ownsRow b e size v n xs)(hm:w.heap[k]?=some (.map es cl)):v.ownBlock≠some k:=fun e1=>tH hm (aG h k e1).2
theorem ahs(l:List At)(a:At):∀seen:List L,iJ seen (l++[a])=(iJ seen l).or (if (split a.name).isNone=true∨a.name∈seen++l.map (·.name) then some a.at_ else none):=by
 induction l with
 | nil=>intro seen;simp only[List.nil_append,iJ,List.map_nil,List.append_nil,Option.none_or]
 | cons x l ih=>
  intro seen;rw[List.cons_append,iJ,iJ,ih,List.map_cons];split
  ·rfl
  rw[List.append_assoc];rfl
theorem ale(l:List bS)(s:bS):cW (l++[s])=cW l++tK s:=by simp[cW]
theorem XU(s:bS):∀u∈tK s,u.oneCell'=true:=by
 intro u hu;simp only[tK,List.mem_cons,List.not_mem_nil,or_false] at hu
 rcases hu with rfl|rfl|rfl|rfl<;>rfl
theorem YU{P:Program}(w:World){ops:Array Oper}{rest:List Oper}{o:Oper}{a:Act}{Q:Exit→Act→World→Prop}(hw:Region.wanted o (yielded ops a.tmps)=true)(m x:Operand)(t:TypeId)(hop:o.op=Op.lookup t m x false)
  (mv xv v:Value) (hm:a.eval m=mv) (hx:a.eval x=xv) (hrun:(Instr.lookup t mv xv false).run P w=.ok v w) (hK:wpList P ops Q rest (a.put o.dst v) w):wpList P ops Q (o :: rest) a w:=by
 refine wpList_step fun K hK'=>?_;rw[if_pos hw];unfold Oper.wp;simp[execOp,hop,hm,hx,hrun,Result.andThen];exact hK' _ _ hK
def pJ(t:Tok):Option Nat:=if (split t.name).isNone then some t.at_ else none
theorem aht(t:Tok):names t=(pJ t).or (iJ [] t.attrs):=by unfold names pJ;split<;>simp
theorem ala(t:Tok):rH (split t.name)=.tuple #[.string (aa (jr t)),.string (aa (ni t)),.bool (split t.name).isSome]:=by unfold jr ni;cases split t.name<;>rfl
def abc(B P:Nat)(w:World)(st:St)(v:Pv)(t:Tok)(e:Ending)(w':World):Prop :=
 ∃vb Al cl,e=.returned (.tuple #[.string (aa (jr t)),.string (aa (ni t)),.slice Al t.attrs.length cl])∧PI B P w' st (cZ (names t)) ⟨v.Ao,v.co,v.As,v.cs,v.Ae,v.ce,vb,v.xs⟩∧
  w'.ownsRow w.heap.size 149 4 (.slice Al t.attrs.length cl) t.attrs.length (cW (t.attrs.map eJ))∧ag P w w'

theorem V6(B P:Nat)(w:World)(st:St)(v:Pv)(b o:Nat)(t:Tok)(eL:Option Addr)(ct:Nat)(h:PI B P w st none v)(hB:B≤w.heap.size)(h6:6≤B)(hg:Gl w)(ht:qx B w b o t)
  (iH:w.cell? ⟨b,o+2,none⟩=some (.slice eL t.attrs.length ct)) (hr:Reads w B 3 eL t.attrs.length (ld (t.attrs.map At.g))) (hn:t.attrs.length≤100000000) (tr:t.name.length≤1000000000) (hv:∀a∈t.attrs,a.name.length≤1000000000) :
  Calls Tryz.prog 54 #[.pointer (some ⟨P,0,none⟩),.pointer (some ⟨b,o,none⟩)] w (abc B P w st v t):=by
 have H:=hide h;have HB:=hide hB;have Hv:=hide hv;have Hr:=hide hr;have H6:=hide h6;have t1:=ht.c1;have t5:=ht.c5;have Ht:=hide ht;have HG:=hide hg;have HS:=hide (XV t.name w hg tr);obtain⟨n,bz⟩:∃n,t.attrs.length=n:=⟨_,rfl⟩;rw[bz] at iH hn Hr;have HN:=hide bz;have jk:=@run_makeMap Tryz.prog;rw[ala] at HS;obtain⟨ok,bF⟩:∃ok,(split t.name).isSome=ok:=⟨_,rfl⟩;rw[bF] at HS;have QB:=hide (show pJ t=if ok then none else some t.at_ by rw[←bF];unfold pJ;cases split t.name<;>rfl);clear h hB hr hv bz h6 ht hg tr bF
 go_enter Tryz.func54,Tryz.ntmps54
 go_upto_if 22 with (go_at_call 90;refine HS.out.mono ?_;rintro e YL ⟨rfl,b0⟩;have CA:=hide b0;clear b0)
 have QC:=hide (H.out.go CA.out);have Ot:=hide (ag.bX (R:=P) CA.out);have NF:=(CA.out.cell (p:=⟨b,o+5,none⟩) (by have:=Ht.out.lt;have:=HB.out;show b<_;omega)).trans t5;have HW:=hide (tN B P YL st none v t.at_ 50 QC.out (Nat.le_trans HB.out CA.out.size))
 go_cut [] (fun wx=>∃vb,PI B P wx st (cZ (pJ t)) ⟨v.Ao,v.co,v.As,v.cs,v.Ae,v.ce,vb,v.xs⟩∧ag P w wx)
 case first=>
  cases ok with
  | true=>
   have Hf:=hide (show PI B P YL st (cZ (pJ t)) ⟨v.Ao,v.co,v.As,v.cs,v.Ae,v.ce,v.vb,v.xs⟩ by rw[QB.out];exact QC.out);go_wp2;(try simp only[Exit.then]);(try refine Met.intro ?_)
   first
    | (rename_i hJ hM;refine hM _ _ (Met.intro ?_);refine hJ _ _ ?_)
    | (rename_i hJ;refine hJ _ _ ?_)
    | (rename_i hJ hT;refine hJ _ _ ?_)
    | (rename_i hJ hT aT;refine hJ _ _ ?_)
    | (rename_i hJ hT aT cB;refine hJ _ _ ?_)
   (repeat apply Exists.intro);exact⟨⟨_,Hf.out,Ot.out⟩,rfl⟩
  | false=>
   go_wp2_with fail
   refine HW.out.mono ?_;rintro e w0 ⟨YI,rfl,h1,h2⟩;have Hf:=hide (show PI B P w0 st (cZ (pJ t)) ⟨v.Ao,v.co,v.As,v.cs,v.Ae,v.ce,YI,v.xs⟩ by rw[QB.out];exact h1);have B0:=hide (show ag P w w0 from Ot.out.trans h2);clear h1 h2;dsimp only
   rename_i hM hJ hT KK cA
   refine cA _ _ ?_;clear cA KK;go_wp2;(try simp only[Exit.then]);(try refine hM _ _ (Met.intro ?_));refine hJ _ _ ?_;(repeat apply Exists.intro);exact⟨⟨_,Hf.out,B0.out⟩,rfl⟩
 case rest=>
  obtain⟨w0,rfl⟩:∃w0:World,w0=wc:=⟨_,rfl⟩;obtain⟨YI,h1,h2⟩:=hcut;have I0:=hide h1;have B0:=hide h2;clear h1 h2 NF;have Ur:w.heap.size≤w0.heap.size:=B0.out.size;have ao3:w0.cell? ⟨b,o+2,none⟩=some (.slice eL n ct):=((B0.out.below H.out.bp HB.out).cell (p:=⟨b,o+2,none⟩) Ht.out.lt).trans iH;have AB:b<w0.heap.size:=by have:=Ht.out.lt;have:=HB.out;omega
  have C0:=hide (acy w0);have I1:=hide (I0.out.go (az w0 (.map #[] 0)));have B1:=hide (B0.out.go (az w0 (.map #[] 0)));have uU:w.heap.size≤w0.heap.size∧P≠w0.heap.size:=⟨Ur,by have:=I0.out.blk.lt;omega⟩;obtain⟨Mb,Kf⟩:∃Mb,w0.heap.size=Mb:=⟨_,rfl⟩;rw[Kf] at C0 uU;have GV:=hide uU;have CK:=hide Kf;clear Ur uU Kf;go_wp2;rw[CK.out]
  go_loopg [35,6] n (fun gk vk vl wr=>∃(k:Nat) (vb:Value) (A:Option Addr) (c:Nat) (D:DataW Unit),gk=n-k∧k≤n∧vk=.int .i64 (k:Int)∧vl=.slice A k c∧PI B P wr st (cZ ((pJ t).or (iJ [] (t.attrs.take k)))) ⟨v.Ao,v.co,v.As,v.cs,v.Ae,v.ce,vb,v.xs⟩∧
   wr.ownsRow w.heap.size 149 4 (.slice A k c) k (cW ((t.attrs.take k).map eJ))∧ee wr Mb k ((t.attrs.take k).map (·.name)) D∧ag P w wr)
  case atStart=>exact⟨0,_,none,0,_,rfl,by omega,rfl,rfl,by rw[List.take_zero,iJ,Option.or_none];exact I1.out,World.ownsRow_nil _ _ _ _,C0.out,B1.out⟩
  case round=>
   obtain⟨k,vb,A,c,D,au,hk,rfl,rfl,h1,h2,h3,h4⟩:=hrel;have Hg:=hide au;have H1:=hide h1;have H2:=hide h2;have H3:=hide h3;have H4:=hide h4;clear au h1 h2 h3 h4 C0 I1 B1
   by_cases hlt:k<n
   ·obtain⟨a,ha⟩:∃a,t.attrs[k]?=some a:=⟨_,List.getElem?_eq_getElem (by rw[HN.out];exact hlt)⟩;have dW:k<t.attrs.length:=by rw[HN.out];exact hlt
    have mS:=(Hr.out.below (H4.out.below H.out.bp HB.out));rw[←HN.out] at mS;rw[show t.attrs.length=(t.attrs.map At.g).length by rw[List.length_map]] at mS;obtain⟨ab,ao,xC,hab,ga⟩:=Reads.ga mS (k:=k) (by rw[List.length_map];exact dW);rw[List.getElem_map,(List.getElem?_eq_some_iff.1 ha).2] at ga;have g0:wr.cell? ⟨ab,ao+k*3,none⟩=some (.string (aa a.name)):=ga.c0;have g1:wr.cell? ⟨ab,ao+k*3+1,none⟩=some (.string (aa a.value)):=ga.c1;have g2:wr.cell? ⟨ab,ao+k*3+2,none⟩=some (.int .i64 (a.at_:Int)):=ga.c2;subst xC;have vK:IntKind.i64.wrap ((k:Int)+1)=(k:Int)+1:=IntWalk.i64_in _ (by omega);have gY:t.attrs.take (k+1)=t.attrs.take k++[a]:=by rw[List.take_succ_eq_append_getElem dW,(List.getElem?_eq_some_iff.1 ha).2]
    have eM:=hide (show (t.attrs.take (k+1)).map (·.name)=(t.attrs.take k).map (·.name)++[a.name] by rw[gY,List.map_append];rfl);have ju:=hide (show cW ((t.attrs.take (k+1)).map eJ)=cW ((t.attrs.take k).map eJ)++tK (eJ a) by rw[gY,List.map_append,List.map_cons,List.map_nil,ale]);have aU:=hide (show iJ [] (t.attrs.take (k+1))=(iJ [] (t.attrs.take k)).or (if (split a.name).isNone=true∨a.name∈(t.attrs.take k).map (·.name) then some a.at_ else none) by rw[gY];exact ahs _ _ _);have qo:=hide (show w.heap.size≤wr.heap.size from H4.out.size);have HP:=hide (show P<wr.heap.size from H1.out.blk.lt);have anQ:=H3.out.own.lt;have Hq:=hide (show ((t.attrs.take k).map (·.name)).count a.name≤k from Nat.le_trans List.count_le_length (by rw[List.length_map,List.length_take];omega));have Dc:=hide (show ((t.attrs.take k).map (·.name)).count a.name=0↔a.name∉(t.attrs.take k).map (·.name) from List.count_eq_zero);have wU:=hide (show (((t.attrs.take k).map (·.name))++[a.name]).count a.name=((t.attrs.take k).map (·.name)).count a.name+1 by rw[List.count_append,List.count_singleton,beq_self_eq_true];rfl)
    have b2:=ab8 wr (.cells #[.string (aa a.name),.string (aa a.value),.int .i64 (a.at_:Int)] 147) (.cells #[.string ⟨#[]⟩,.string ⟨#[]⟩,.string ⟨#[]⟩,.int .i64 (a.at_:Int)] 149);have KV:ae ((wr.alloc (.cells #[.string (aa a.name),.string (aa a.value),.int .i64 (a.at_:Int)] 147)).alloc (.cells #[.string ⟨#[]⟩,.string ⟨#[]⟩,.string ⟨#[]⟩,.int .i64 (a.at_:Int)] 149)) wr.heap.size 147 #[.string (aa a.name),.string (aa a.value),.int .i64 (a.at_:Int)]:=(ae.new wr 147 #[.string (aa a.name),.string (aa a.value),.int .i64 (a.at_:Int)]).alloc _;have KS:ae ((wr.alloc (.cells #[.string (aa a.name),.string (aa a.value),.int .i64 (a.at_:Int)] 147)).alloc (.cells #[.string ⟨#[]⟩,.string ⟨#[]⟩,.string ⟨#[]⟩,.int .i64 (a.at_:Int)] 149)) (wr.heap.size+1) 149 #[.string ⟨#[]⟩,.string ⟨#[]⟩,.string ⟨#[]⟩,.int .i64 (a.at_:Int)]:=by have:=ae.new (wr.alloc (.cells #[.string (aa a.name),.string (aa a.value),.int .i64 (a.at_:Int)] 147)) 149 #[.string ⟨#[]⟩,.string ⟨#[]⟩,.string ⟨#[]⟩,.int .i64 (a.at_:Int)];rwa[World.size_alloc] at this
    have hkey:keyOf Tryz.prog 9 (.string (aa a.name))=some (.string a.name):=WideMaps.keyOf_string_mk Tryz.underlying9 (by rw[aC];have:=Hv.out a (List.mem_of_getElem? ha);unfold maxLen;omega);have HK:=hide hkey;clear hkey;have HX:=hide (XV a.name ((wr.alloc (.cells #[.string (aa a.name),.string (aa a.value),.int .i64 (a.at_:Int)] 147)).alloc (.cells #[.string ⟨#[]⟩,.string ⟨#[]⟩,.string ⟨#[]⟩,.int .i64 (a.at_:Int)] 149)) ((HG.out.but H4.out (by have:=H6.out;have:=H.out.bp;omega)).below b2) (Hv.out a (List.mem_of_getElem? ha)));have B2:=hide b2;have KV0:=hide KV;have KS0:=hide KS;obtain⟨seen,vG⟩:∃seen,(t.attrs.take k).map (·.name)=seen:=⟨_,rfl⟩;rw[vG] at eM aU Hq Dc wU H3;obtain⟨q,hq⟩:∃q,seen.count a.name=q:=⟨_,rfl⟩;rw[hq] at Hq Dc wU;have HQ:=hide hq;have E6:IntKind.i64.wrap ((q:Int)+1)=(q:Int)+1:=IntWalk.i64_in _ (by have:=Hq.out;omega);have Lr:(0:Int)≤(q:Int):=by omega
    have PS:=hide (show (Lit.int .i64 ((q:Int)+1)).wf=true from WalkArith.wf_i64 (by have:=Hq.out;omega));have Qk:=hide (show k<maxLen by unfold maxLen;omega);clear KV KS b2 ga mS ha dW gY vG hq
    obtain⟨pp,ll,ok,hs1,Bj,x3⟩:∃(pp ll:L) (ok:Bool),rH (split a.name)=.tuple #[.string (aa pp),.string (aa ll),.bool ok]∧tK (eJ a)=[.string (aa pp),.string (aa ll),.string ⟨#[]⟩,.int .i64 (a.at_:Int)]∧(split a.name).isNone = !ok:=by
     unfold eJ
     cases split a.name with
     | none=>exact⟨[],[],false,rfl,rfl,rfl⟩
     | some p=>exact⟨p.1,p.2,true,rfl,rfl,rfl⟩
    rw[hs1] at HX;rw[x3] at aU;have pX:=hide Bj;clear hs1 Bj x3
    go_wp2_with fail
    refine HX.out.mono ?_;rintro e w3 ⟨rfl,b3⟩;have B3:=hide (B2.out.trans (b3.mono B2.out.size));have IV:=KV0.out.go b3;have sf:=KS0.out.go b3;have C3:=hide (H3.out.go B3.out);have I3:=hide (H1.out.go B3.out);have O3:=hide (eW H2.out B3.out);have M3:=hide (H4.out.go B3.out);have s0:w3.cell? ⟨wr.heap.size+1,0,none⟩=some _:=sf.cell 0;have s1:w3.cell? ⟨wr.heap.size+1,1,none⟩=some _:=sf.cell 1;have SI:=sf.frozen 0;have SJ:=sf.frozen 1;have v0:w3.cell? ⟨wr.heap.size,0,none⟩=some (.string (aa a.name)):=IV.cell 0;have QE:=hide (show ae ((w3.setCell ⟨wr.heap.size+1,0,none⟩ (.string (aa pp))).setCell ⟨wr.heap.size+1,1,none⟩ (.string (aa ll))) (wr.heap.size+1) 149 #[.string (aa pp),.string (aa ll),.string ⟨#[]⟩,.int .i64 (a.at_:Int)] from (sf.aI 0 (.string (aa pp))).aI 1 (.string (aa ll)));have IW:=hide ((IV.far (p:=⟨wr.heap.size+1,0,none⟩) (by simp) (.string (aa pp))).far (p:=⟨wr.heap.size+1,1,none⟩) (by simp) (.string (aa ll)));have C4:=hide ((C3.out.set (p:=⟨wr.heap.size+1,0,none⟩) (by simp;omega) (.string (aa pp))).set (p:=⟨wr.heap.size+1,1,none⟩) (by simp;omega) (.string (aa ll)))
    have I4:=hide ((I3.out.far (p:=⟨wr.heap.size+1,0,none⟩) sf (by decide) (.string (aa pp))).far (p:=⟨wr.heap.size+1,1,none⟩) (sf.aI 0 _) (by decide) (.string (aa ll)))
    have Ts:((w3.setCell ⟨wr.heap.size+1,0,none⟩ (.string (aa pp))).setCell ⟨wr.heap.size+1,1,none⟩ (.string (aa ll))).ownsRow w.heap.size 149 4 (.slice A k c) k (cW ((t.attrs.take k).map eJ)):=by
     have Ud:∀(X:World) (i:Nat) (u:Value),X.ownsRow w.heap.size 149 4 (.slice A k c) k (cW ((t.attrs.take k).map eJ))→(∀a',A=some a'→a'.block≠wr.heap.size+1)→(X.setCell ⟨wr.heap.size+1,i,none⟩ u).ownsRow w.heap.size 149 4 (.slice A k c) k (cW ((t.attrs.take k).map eJ)):=fun X i u hX hne=>hX.kept ⟨rfl,rfl,rfl,by simp[World.setCell],fun j _ hj=>Below.heap_setCell _ _ _ _ (fun e=>hj (by rw[e]))⟩ (by
      cases A with
      | none=>exact .inl rfl
      | some a'=>exact .inr (fun e=>hne a' rfl (by simpa[Value.ownBlock] using e)))
     have hne:∀a',A=some a'→a'.block≠wr.heap.size+1:=fun a' e=>by have:=(H2.out.lt a'.block (by rw[e];rfl)).2;omega
     exact Ud _ 1 _ (Ud _ 0 _ O3.out hne) hne
    have O4:=hide Ts;have M4:=hide ((M3.out.setCell (p:=⟨wr.heap.size+1,0,none⟩) (.inr (by have:=qo.out;simp;omega)) (.string (aa pp))).setCell (p:=⟨wr.heap.size+1,1,none⟩) (.inr (by have:=qo.out;simp;omega)) (.string (aa ll)));have v4:((w3.setCell ⟨wr.heap.size+1,0,none⟩ (.string (aa pp))).setCell ⟨wr.heap.size+1,1,none⟩ (.string (aa ll))).cell? ⟨wr.heap.size,0,none⟩=some (.string (aa a.name)):=IW.out.cell 0;clear b3 sf IV Ts
    by_cases EC:ok=true∧a.name∉seen
    ·obtain⟨rfl,xU⟩:=EC;have GG:=hide (show (iJ [] (t.attrs.take (k+1)))=(iJ [] (t.attrs.take k)) by rw[aU.out];simp[xU]);have td:q=0:=Dc.out.2 xU;have fK:decide ((1:Int)<(q:Int)+1)=false:=by rw[decide_eq_false_iff_not];omega
     clear xU td
     go_wp2_with first
      | (at_lookup;refine YU _ (by kernel_rfl) _ _ _ (by rfl) _ _ _ (by rfl) (by rfl) H5.out ?_)
      | (at_lookup;refine wpList_lookup_own_int _ rfl _ _ 145 rfl 9 3 .i64 tD Tryz.underlying145 Tryz.underlying3 (rM _) Mb k D rfl C4.out.own _ _ rfl HK.out ?_;intro c0 hat LO;clear LO;have hc0:=C4.out.vN HQ.out hat;subst hc0;clear hat)
      |(at_mapUpdate;refine wpList_mapUpdate_own _ rfl _ _ _ 145 rfl 9 3 tD Tryz.underlying145 _ Mb k D rfl C4.out.own Qk.out _ _ _ rfl rfl HK.out _ [] (plainElem_int Tryz.underlying3 PS.out) ?_
        intro w5 Bb ml;have C5:=hide (RI C4.out HQ.out Bb);obtain⟨es4,cl4,vp⟩:=C4.out.block;have I5:=hide (I4.out.kept ml (fun j hj t' _=>by cases hj;exact tH vp));have O5:=hide (O4.out.kept ml (.inr (MD O4.out vp)));have M5:=hide (M4.out.grown ml (fun j hj=>by cases hj;exact GV.out.1));have IU:=hide (QE.out.grown ml (by simp;omega));have uC:=IW.out.grown ml (by simp;omega);have QA:=hide (show w.heap.size≤w5.heap.size from M5.out.size);have v0':w5.cell? ⟨wr.heap.size,0,none⟩=some (.string (aa a.name)):=uC.cell 0;have v2':w5.cell? ⟨wr.heap.size,2,none⟩=some (.int .i64 (a.at_:Int)):=uC.cell 2;obtain⟨c1,hrun,hat,LP⟩:=C5.out.own.lookup_int tD Tryz.underlying145 Tryz.underlying3 (rM _) HK.out;have dG:c1=((q+1:Nat):Int):=C5.out.vN wU.out hat;rw[show ((q+1:Nat):Int)=(q:Int)+1 by omega] at dG;subst dG;have H5:=hide hrun;clear LP hrun hat Bb ml vp v0 v4 s0 s1 SI SJ uC;have nI:=IU.out;have p0':w5.cell? ⟨wr.heap.size+1,0,none⟩=some (.string (aa pp)):=nI.cell 0;have p1':w5.cell? ⟨wr.heap.size+1,1,none⟩=some (.string (aa ll)):=nI.cell 1;have p2':w5.cell? ⟨wr.heap.size+1,2,none⟩=some (.string ⟨#[]⟩):=nI.cell 2
        have p3':w5.cell? ⟨wr.heap.size+1,3,none⟩=some (.int .i64 (a.at_:Int)):=nI.cell 3;have KL:=hide (ae.new w5 149 [.string (aa pp),.string (aa ll),.string ⟨#[]⟩,.int .i64 (a.at_:Int)].toArray);clear nI)
      | (at_builtin;go_loud (refine wA _ (by rfl) (.tmp 69) (.tmp 71) 102 (by rfl) w.heap.size 149 _ 4 56 Tryz.underlying102 Vo (by rfl) (by omega) (.slice A k c) k (cW ((t.attrs.take k).map eJ)) (by rfl) (O5.out.alloc _) [.string (aa pp),.string (aa ll),.string ⟨#[]⟩,.int .i64 (a.at_:Int)] (by rfl) (by rw[←pX.out];exact XU _) w5.heap.size KL.out (by rfl) (by unfold maxLen;omega) (by omega) (by have:=M5.out.size;simp;omega) ?_);intro g8 dw w8 aM aF dc;have cX:=hide aM;have ek:=hide aF;clear aM aF dc)
     
     go_roundg (n-(k+1))
     case measure=>have:=Hg.out;omega
     case rel=>
      obtain⟨Sl,RE,AK⟩:=(ee.go C5.out (az w5 (.cells [.string (aa pp),.string (aa ll),.string ⟨#[]⟩,.int .i64 (a.at_:Int)].toArray 149))).block;have ai:∀j,(Value.slice A k c).ownBlock=some j→w.heap.size≤j∧bO (w5.alloc (.cells [.string (aa pp),.string (aa ll),.string ⟨#[]⟩,.int .i64 (a.at_:Int)].toArray 149)) j 149:=fun j hj=>aG (O5.out.alloc _) j hj;refine⟨k+1,vb,some ⟨g8,0,none⟩,dw,D.put (.string a.name) (.lit (.int .i64 ((q:Int)+1))),rfl,by omega,by first|rfl|go_num,rfl,?_,?_,?_,?_⟩
      ·rw[GG.out,show (pJ t).or (iJ [] (t.attrs.take k))=(pJ t).or (iJ [] (t.attrs.take k)) from rfl];exact (I5.out.go (az _ _)).kept ek.out (fun j hj t' qW hT=>gJ (ai j hj).2 hT (by intro e;subst e;revert qW;decide))
      ·rw[ju.out,pX.out];exact cX.out
      ·rw[eM.out];exact (ee.go C5.out (az _ _)).kept ek.out (fun e=>tH AK (ai Mb e.symm).2)
      exact (M5.out.go (az _ _)).grown ek.out (fun j hj=>(ai j hj).1)
    ·have GG:=hide (show (iJ [] (t.attrs.take (k+1)))=(iJ [] (t.attrs.take k)).or (some a.at_) by
      rw[aU.out,if_pos]
      cases ok with
      | false=>exact .inl rfl
      | true=>exact .inr (Classical.byContradiction fun h=>EC ⟨rfl,h⟩))
     have hb:ok=false∨(ok=true∧decide ((1:Int)<(q:Int)+1)=true):=by
      cases ok with
      | false=>exact .inl rfl
      | true=>
       have hm:q≠0:=fun h=>EC ⟨rfl,Dc.out.1 h⟩;exact .inr ⟨rfl,by rw[decide_eq_true_iff];omega⟩
     clear EC
     rcases hb with rfl|⟨rfl,fK⟩
     all_goals
      go_wp2_with first
       | (at_lookup;refine YU _ (by kernel_rfl) _ _ _ (by rfl) _ _ _ (by rfl) (by rfl) H5.out ?_)
       | (at_lookup;refine wpList_lookup_own_int _ rfl _ _ 145 rfl 9 3 .i64 tD Tryz.underlying145 Tryz.underlying3 (rM _) Mb k D rfl C4.out.own _ _ rfl HK.out ?_;intro c0 hat LO;clear LO;have hc0:=C4.out.vN HQ.out hat;subst hc0;clear hat)
       |(at_mapUpdate;refine wpList_mapUpdate_own _ rfl _ _ _ 145 rfl 9 3 tD Tryz.underlying145 _ Mb k D rfl C4.out.own Qk.out _ _ _ rfl rfl HK.out _ [] (plainElem_int Tryz.underlying3 PS.out) ?_
         intro w5 Bb ml;have C5:=hide (RI C4.out HQ.out Bb);obtain⟨es4,cl4,vp⟩:=C4.out.block;have I5:=hide (I4.out.kept ml (fun j hj t' _=>by cases hj;exact tH vp));have O5:=hide (O4.out.kept ml (.inr (MD O4.out vp)));have M5:=hide (M4.out.grown ml (fun j hj=>by cases hj;exact GV.out.1));have IU:=hide (QE.out.grown ml (by simp;omega));have uC:=IW.out.grown ml (by simp;omega);have QA:=hide (show w.heap.size≤w5.heap.size from M5.out.size);have v0':w5.cell? ⟨wr.heap.size,0,none⟩=some (.string (aa a.name)):=uC.cell 0;have v2':w5.cell? ⟨wr.heap.size,2,none⟩=some (.int .i64 (a.at_:Int)):=uC.cell 2;obtain⟨c1,hrun,hat,LP⟩:=C5.out.own.lookup_int tD Tryz.underlying145 Tryz.underlying3 (rM _) HK.out;have dG:c1=((q+1:Nat):Int):=C5.out.vN wU.out hat;rw[show ((q+1:Nat):Int)=(q:Int)+1 by omega] at dG;subst dG;have H5:=hide hrun;clear LP hrun hat Bb ml vp v0 v4 s0 s1 SI SJ uC)
     
     
      have HW:=hide (tN B P w5 st _ _ a.at_ 50 I5.out (Nat.le_trans HB.out QA.out));refine HW.out.mono ?_;rintro e w6 ⟨YJ,rfl,h1,h2⟩;have I6:=hide h1;have nI:=h2.blk IU.out (by have:=HP.out;omega);have C6:=hide (C5.out.but h2 GV.out.2.symm);have O6:=hide (bD.own (B:=0) (T:=[]) (.eV h2) O5.out I5.out.blk (by decide) (by simp));have M6:=hide (M5.out.trans h2);clear h1 h2;have p0':w6.cell? ⟨wr.heap.size+1,0,none⟩=some (.string (aa pp)):=nI.cell 0;have p1':w6.cell? ⟨wr.heap.size+1,1,none⟩=some (.string (aa ll)):=nI.cell 1;have p2':w6.cell? ⟨wr.heap.size+1,2,none⟩=some (.string ⟨#[]⟩):=nI.cell 2;have p3':w6.cell? ⟨wr.heap.size+1,3,none⟩=some (.int .i64 (a.at_:Int)):=nI.cell 3;have KL:=hide (ae.new w6 149 [.string (aa pp),.string (aa ll),.string ⟨#[]⟩,.int .i64 (a.at_:Int)].toArray);clear nI;dsimp only
      rename_i cA
      refine cA _ _ ?_;clear cA
      go_wp2_with (at_builtin;go_loud (refine wA _ (by rfl) (.tmp 69) (.tmp 71) 102 (by rfl) w.heap.size 149 _ 4 56 Tryz.underlying102 Vo (by rfl) (by omega) (.slice A k c) k (cW ((t.attrs.take k).map eJ)) (by rfl) (O6.out.alloc _) [.string (aa pp),.string (aa ll),.string ⟨#[]⟩,.int .i64 (a.at_:Int)] (by rfl) (by rw[←pX.out];exact XU _) w6.heap.size KL.out (by rfl) (by unfold maxLen;omega) (by omega) (by have:=M6.out.size;simp;omega) ?_);intro g8 dw w8 aM aF dc;have cX:=hide aM;have ek:=hide aF;clear aM aF dc)
      go_roundg (n-(k+1))
      case measure=>have:=Hg.out;omega
      case rel=>
       obtain⟨Sl,RE,AK⟩:=(ee.go C6.out (az w6 (.cells [.string (aa pp),.string (aa ll),.string ⟨#[]⟩,.int .i64 (a.at_:Int)].toArray 149))).block;have ai:∀j,(Value.slice A k c).ownBlock=some j→w.heap.size≤j∧bO (w6.alloc (.cells [.string (aa pp),.string (aa ll),.string ⟨#[]⟩,.int .i64 (a.at_:Int)].toArray 149)) j 149:=fun j hj=>aG (O6.out.alloc _) j hj;refine⟨k+1,YJ,some ⟨g8,0,none⟩,dw,D.put (.string a.name) (.lit (.int .i64 ((q:Int)+1))),rfl,by omega,by first|rfl|go_num,rfl,?_,?_,?_,?_⟩
       ·rw[GG.out,←Option.or_assoc,←FI];exact (I6.out.go (az _ _)).kept ek.out (fun j hj t' qW hT=>gJ (ai j hj).2 hT (by intro e;subst e;revert qW;decide))
       ·rw[ju.out,pX.out];exact cX.out
       ·rw[eM.out];exact (ee.go C6.out (az _ _)).kept ek.out (fun e=>tH AK (ai Mb e.symm).2)
       exact (M6.out.go (az _ _)).grown ek.out (fun j hj=>(ai j hj).1)
   ·have hall:k=n:=by omega
    subst hall;have e1:t.attrs.take k=t.attrs:=List.take_of_length_le (by rw[HN.out];exact Nat.le_refl _);have I:=hide H1.out;have O:=hide H2.out;rw[e1] at I O;rw[←aht] at I;clear e1;go_wp2;go_ret3;exact⟨vb,A,c,by rw[HN.out];rfl,I.out,by rw[HN.out];exact O.out,H4.out⟩
end
section
open Go.RowKit Tk Sx Go.WideShapes

theorem agT:laidOutB Tryz.prog=true:=by kernel_rfl
theorem Xt:(45:TypeId)<Tryz.prog.types.size:=of_decide_eq_true (by kernel_rfl)
theorem abI:Tryz.prog.keyTypeAt 2 45=true:=by kernel_rfl
theorem Mc:WideMaps.KeyLaw Tryz.prog 45:=deep_law_laid agT (m:=2) (by decide) Xt abI (by rw[Tryz.underlying45])
theorem Fv:Maps.Keyed Tryz.prog 45:=Maps.Keyed.of_law Mc
theorem RA:Tryz.prog.cellsOf 45=2:=by kernel_rfl
theorem aco:Tryz.prog.cellsOf 9=1:=by kernel_rfl
theorem agH:Tryz.prog.keyType 45=true:=by kernel_rfl
theorem amq:∃m,Tryz.prog.types.size=m+1:=by
 have h:=Xt;generalize Tryz.prog.types.size=s at h
 cases s with
 | zero=>cases h
 | succ m=>exact⟨m,rfl⟩
def tG(x:Nm):Value:=.agg #[.string (aa x.ns),.string (aa x.loc)]
def ky(x:Nm):Lit:=.string (keyBytes [.string x.ns,.string x.loc])
def gP(x:Nm):Prop:=x.ns.length≤1000000000∧x.loc.length≤1000000000
theorem ye{x:Nm}(h:gP x):keyOf Tryz.prog 45 (tG x)=some (ky x):=by
 have h1:(aa x.ns).size≤maxLen:=by rw[aC];unfold maxLen;have:=h.1;omega
 have h2:(aa x.loc).size≤maxLen:=by rw[aC];unfold maxLen;have:=h.2;omega
 obtain⟨m,hm⟩:=amq;unfold keyOf tG;simp only[Tryz.underlying45];rw[if_pos (by simp[agH,Value.formed,Tryz.underlying45,RA]),hm];unfold Program.keyLits;simp only[Tryz.underlying45,Value.cells];simp[RA,aco,Program.keyLits,Tryz.underlying9,h1,h2,List.mapM_cons,ky,aP]
theorem ahB{x y:Nm}(h:tG x=tG y):x=y:=by
 unfold tG at h;simp only[Value.agg.injEq,Array.mk.injEq,List.cons.injEq,Value.string.injEq,and_true] at h
 cases x;cases y
 simp only[Nm.mk.injEq];exact⟨str_inj h.1,str_inj h.2⟩
theorem VB{x y:Nm}(hx:gP x)(hy:gP y)(h:ky x=ky y):x=y :=
 ahB (Mc.inj (ye hx) (by rw[h];exact ye hy))
structure e7(w:World)(b n:Nat)(seen:List Nm)(D:DataW Unit):Prop where
 own:w.ownsMap Tryz.prog 45 (plainElem Tryz.prog 3) b n D
 is:Maps.IsMap D
 at_:∀x:Nm,gP x→D.atKey (ky x) (.lit (.int .i64 0))=.lit (.int .i64 (seen.count x:Nat))
theorem e7.go{w w':World}{b n:Nat}{seen:List Nm}{D:DataW Unit}(h:e7 w b n seen D)(hb:Below w.heap.size w w'):e7 w' b n seen D:=⟨ox h.own (hb.block _ h.own.lt),h.is,h.at_⟩
theorem e7.set{w:World}{b n:Nat}{seen:List Nm}{D:DataW Unit}(h:e7 w b n seen D){p:Addr}(hp:b≠p.block)(u:Value):e7 (w.setCell p u) b n seen D:=⟨ox h.own (Below.heap_setCell _ _ _ _ hp),h.is,h.at_⟩
theorem e7.but{w w':World}{P b n:Nat}{seen:List Nm}{D:DataW Unit}(h:e7 w b n seen D)(hb:ag P w w')(hP:b≠P):e7 w' b n seen D:=⟨ox h.own (hb.block _ h.own.lt hP),h.is,h.at_⟩
theorem e7.kept{w w':World}{row:Option Nat}{b n:Nat}{seen:List Nm}{D:DataW Unit}(h:e7 w b n seen D)(hg:w.grownBy w' row)(hne:some b≠row):e7 w' b n seen D:=⟨h.own.kept hg hne,h.is,h.at_⟩
theorem e7.block{w:World}{b n:Nat}{seen:List Nm}{D:DataW Unit}(h:e7 w b n seen D):∃es cl,w.heap[b]?=some (.map es cl):=by
 obtain⟨es,cl,hb,_⟩:=h.own;exact⟨es,cl,hb⟩
theorem acx(w:World):e7 (w.alloc (.map #[] 0)) w.heap.size 0 [] (.map []):=⟨World.ownsMap_made _ _ _ _,Maps.isMap_empty,fun _ _=>rfl⟩
theorem e7.vN{w:World}{b n q:Nat}{seen:List Nm}{D:DataW Unit}{x:Nm}{c:Int}(h:e7 w b n seen D)(hx:gP x)(hq:seen.count x=q)(hc:D.atKey (ky x) (.lit (.int .i64 0))=.lit (.int .i64 c)):c=(q:Int):=by
 rw[h.at_ x hx,hq] at hc;injection hc with hc
 injection hc with _ hc
 exact hc.symm
theorem acw{w w':World}{b n q:Nat}{seen:List Nm}{D:DataW Unit}{x:Nm}(h:e7 w b n seen D)(hx:gP x)(hq:seen.count x=q)(ho:w'.ownsMap Tryz.prog 45 (plainElem Tryz.prog 3) b (n+1) (D.put (ky x) (.lit (.int .i64 ((q:Int)+1))))):e7 w' b (n+1) (seen++[x]) (D.put (ky x) (.lit (.int .i64 ((q:Int)+1)))):=by
 subst hq;refine⟨ho,h.is.put _ _,fun y hy=>?_⟩
 by_cases hm:y=x
 ·subst hm;rw[Maps.atKey_put_same h.is (by simp[WideAt.IsKeyLit,ky])];simp
 rw[Maps.atKey_put_other (fun e=>hm (VB hy hx e)),h.at_ y hy,List.count_append,List.count_singleton];have:(x==y)=false:=by rw[beq_eq_false_iff_ne];exact fun e=>hm e.symm
 rw[this];simp
theorem akG{w:World}{b:Nat}{o:Obj}:(ChangeMaps.setBlock w b o).heap.size=w.heap.size:=by simp[ChangeMaps.setBlock]
theorem vY{w:World}{b:Nat}{o o':Obj}(h:w.heap[b]?=some o'):(ChangeMaps.setBlock w b o).heap[b]?=some o:=by
 have hlt:=(Array.getElem?_eq_some_iff.1 h).1;simp[ChangeMaps.setBlock,hlt]
theorem XE{w:World}{b:Nat}{o o':Obj}(h:w.heap[b]?=some o'):w.grownBy (ChangeMaps.setBlock w b o) (some b) :=
 ⟨rfl,rfl,rfl,by simp[ChangeMaps.setBlock],fun k _ hk=>by
  have hne:b≠k:=fun e=>hk (by rw[e]);simp[ChangeMaps.setBlock,Array.getElem?_setIfInBounds,hne]⟩
theorem aih{w:World}{t k e b n:Nat}{D:DataW Unit}{P:Program}{q:IntKind}(h:w.ownsMap P k (plainElem P e) b n D)(K:WideMaps.KeyLaw P k)(ht:P.underlying t=some (.map k e))(he:P.underlying e=some (.int q))(hz:∀u:World,(zeroValue e).run P u=.ok (.int q 0) u)(hn:n<maxLen)
  {key:Value} {kl:Lit} (hkey:keyOf P k key=some kl) :
  ∃(v0:Value) (st:Nat) (w1:World),(Instr.mapEntry t (.map (some b)) key).run P w=.ok (.tuple #[v0,Value.int .i64 (st:Int)]) w1∧w.grownBy w1 (some b)∧w1.heap.size=w.heap.size∧
   (Instr.lookup t (.map (some b)) key false).run P w1=.ok v0 w1∧(Instr.lookup t (.map (some b)) key false).run P w=.ok v0 w∧
   ∀(val:Value) (d:DataW Unit) (ps:List MemPlace),plainElem P e val=some (d,ps)→∀w2:World,w2.heap[b]?=w1.heap[b]?→
    ∃w3,(Instr.entryStore t (.map (some b)) (.int .i64 (st:Int)) val).run P w2=.ok () w3∧w3.ownsMap P k (plainElem P e) b (n+1) (D.put kl d)∧w2.grownBy w3 (some b):=by
 obtain⟨es,clock,hb,F,hsz,hD⟩:=h;have Ky:=Maps.Keyed.of_law K;have hown:w.ownsMap P k (plainElem P e) b n D:=⟨es,clock,hb,F,hsz,hD⟩;obtain⟨v0,st,xt,xm,lB,hv0,hst⟩:=WideElems.entry_then_store K ht hz hb F hkey;have aq:(ChangeMaps.setBlock w b (.map xt xm)).heap[b]?=some (.map xt xm):=vY hb;refine⟨v0,st,ChangeMaps.setBlock w b (.map xt xm),lB,XE hb,akG,?_,?_,?_⟩
 ·rcases Ky.find w hkey es.toList F.keys with ⟨h1,h2⟩|⟨j,e0,h1,h2,h3⟩
  ·have A5:(Instr.mapEntry t (.map (some b)) key).run P w=.ok (.tuple #[.int q 0,.int .i64 (clock:Int)]) (ChangeMaps.setBlock w b (.map (es.push ⟨key,.int q 0,clock⟩) (clock+1))):=by
    simp[Instr.mapEntry,run_underlying ht,MapKept.run_getObj_map hb,Ky.check w false hkey,h1,hz,MapKept.run_setObj_map _ hb,Result.andThen,ChangeMaps.setBlock];rfl
   rw[A5] at lB;simp only[Result.ok.injEq] at lB;obtain⟨e1,e2⟩:=lB;have e3:(ChangeMaps.setBlock w b (.map (es.push ⟨key,.int q 0,clock⟩) (clock+1))).heap[b]?=some (.map xt xm):=by rw[e2];exact aq
   rw[vY hb] at e3;simp only[Option.some.injEq,Obj.map.injEq] at e3;obtain⟨e4,e5⟩:=e3;have ez:v0=.int q 0:=by simp at e1;exact e1.1.symm
   subst e4 e5;rw[ez]
   rcases Ky.find (ChangeMaps.setBlock w b (.map (es.push ⟨key,.int q 0,clock⟩) (clock+1))) hkey (es.push ⟨key,.int q 0,clock⟩).toList (fun x hx=>by
    rw[Array.toList_push,List.mem_append] at hx
    rcases hx with hx|hx
    ·exact F.keys x hx
    simp only[List.mem_singleton] at hx;subst hx;exact⟨kl,hkey⟩) with ⟨_,q2⟩|⟨j,e0,q1,q2,q3⟩
   ·exact absurd rfl (q2 ⟨key,.int q 0,clock⟩ (by simp))
   have hv:e0.val=.int q 0:=by
    have:=List.mem_of_getElem? q2;rw[Array.toList_push,List.mem_append] at this
    rcases this with hx|hx
    ·exact absurd q3 (h2 e0 hx)
    simp only[List.mem_singleton] at hx;rw[hx]
   rw[Array.toList_push] at q1;simp[Instr.lookup,run_underlying ht,MapKept.run_getObj_map aq,Ky.check _ _ hkey,q1,Result.andThen,hv]
  have hj:es[j]?=some e0:=by simpa using h2
  have A5:(Instr.mapEntry t (.map (some b)) key).run P w=.ok (.tuple #[e0.val,.int .i64 (e0.born:Int)]) (ChangeMaps.setBlock w b (.map es clock)):=by
   have Bk:es.modify j (fun e=>{ e with key:=key })=es:=by
    apply Array.ext'
    rw[Array.toList_modify,ChangeMaps.modify_eq_set _ _ _ _ h2];have:({ e0 with key:=key }:MapEntry)=e0:=by rw[←h3]
    rw[this];exact WideElems.set_self _ _ _ h2
   simp[Instr.mapEntry,run_underlying ht,MapKept.run_getObj_map hb,Ky.check w false hkey,h1,hj,h3,Ky.stays w hkey,Bk,MapKept.run_setObj_map _ hb,Result.andThen,ChangeMaps.setBlock];rfl
  rw[A5] at lB;simp only[Result.ok.injEq] at lB;obtain⟨e1,e2⟩:=lB;have e3:(ChangeMaps.setBlock w b (.map es clock)).heap[b]?=some (.map xt xm):=by rw[e2];exact aq
  rw[vY hb] at e3;simp only[Option.some.injEq,Obj.map.injEq] at e3;obtain⟨e4,e5⟩:=e3;have ev:v0=e0.val:=by simp at e1;exact e1.1.symm
  subst e4 e5 ev;have hsm:(ChangeMaps.setBlock w b (.map es clock)).ownsMap P k (plainElem P e) b n D:=ox hown (by rw[vY hb,hb]);obtain⟨c,r1,a1,_⟩:=hown.lookup_int Ky ht he (hz w) hkey;obtain⟨c',r2,a2,_⟩:=hsm.lookup_int Ky ht he (hz _) hkey;rw[a1] at a2;have ec:c=c':=by injection a2 with a2;injection a2 with _ a2
  have hl:(Instr.lookup t (.map (some b)) key false).run P w=.ok e0.val w:=by simp[Instr.lookup,run_underlying ht,MapKept.run_getObj_map hb,Ky.check w _ hkey,h1,Result.andThen]
  rw[hl] at r1;simp only[Result.ok.injEq,and_true] at r1;rw[r1,ec];exact r2
 ·rcases Ky.find w hkey es.toList F.keys with ⟨h1,h2⟩|⟨j,e0,h1,h2,h3⟩
  ·rcases hv0 with ⟨e0,q1,q2,_⟩|⟨_,q2⟩
   ·exact absurd q2 (h2 e0 q1)
   rw[q2];simp[Instr.lookup,run_underlying ht,MapKept.run_getObj_map hb,Ky.check w _ hkey,h1,hz,Result.andThen]
  have hj:es[j]?=some e0:=by simpa using h2
  have A5:(Instr.mapEntry t (.map (some b)) key).run P w=.ok (.tuple #[e0.val,.int .i64 (e0.born:Int)]) (ChangeMaps.setBlock w b (.map es clock)):=by
   have Bk:es.modify j (fun e=>{ e with key:=key })=es:=by
    apply Array.ext'
    rw[Array.toList_modify,ChangeMaps.modify_eq_set _ _ _ _ h2];have:({ e0 with key:=key }:MapEntry)=e0:=by rw[←h3]
    rw[this];exact WideElems.set_self _ _ _ h2
   simp[Instr.mapEntry,run_underlying ht,MapKept.run_getObj_map hb,Ky.check w false hkey,h1,hj,h3,Ky.stays w hkey,Bk,MapKept.run_setObj_map _ hb,Result.andThen,ChangeMaps.setBlock];rfl
  rw[A5] at lB;simp only[Result.ok.injEq] at lB;obtain⟨e1,e2⟩:=lB;have e3:(ChangeMaps.setBlock w b (.map es clock)).heap[b]?=some (.map xt xm):=by rw[e2];exact aq
  rw[vY hb] at e3;simp only[Option.some.injEq,Obj.map.injEq] at e3;obtain⟨e4,e5⟩:=e3;have ev:v0=e0.val:=by simp at e1;exact e1.1.symm
  rw[ev];simp[Instr.lookup,run_underlying ht,MapKept.run_getObj_map hb,Ky.check w _ hkey,h1,Result.andThen]
 intro val d ps hval w2 hw2;obtain⟨es',cl',g1,g2⟩:=hst w2 val (by rw[hw2];exact aq);obtain⟨w',u1,u2,_⟩:=hown.update Ky ht hn hkey hval;rw[g2] at u1;simp only[Result.ok.injEq,true_and] at u1;refine⟨ChangeMaps.setBlock w2 b (.map es' cl'),g1,ox u2 ?_,XE (hw2.trans aq)⟩;rw[←u1,vY (hw2.trans aq),vY hb]
end
end Go.Proofs.YtnbmfljhbpfilaaGreatDoor
