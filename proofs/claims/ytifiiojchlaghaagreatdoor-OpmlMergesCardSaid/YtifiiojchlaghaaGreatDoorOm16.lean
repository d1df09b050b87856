/- Strict: the program's names: a map that counts. (Printed by wip/genStI.py.) -/
import Derived.Test.YtifiiojchlaghaaGreatDoorOm15
import Derived.Maps.OwnSet
import Derived.Deep.DeepCutAuto
set_option linter.unusedSimpArgs false
set_option maxRecDepth 100000
set_option maxHeartbeats 32000000
set_option linter.unusedVariables false
namespace Go.Proofs.YtifiiojchlaghaaGreatDoor
section
open Go.RowKit Tk Sx

theorem oR:Maps.Keyed Tryz.prog 9:=Maps.string_keyed Tryz.underlying9
theorem pg(w:World):(zeroValue 3).run Tryz.prog w=.ok (.int .i64 0) w:=by kernel_rfl
structure dZ(w:World)(b n:Nat)(seen:List L)(D:DataW Unit):Prop where
 own:w.ownsMap Tryz.prog 9 (plainElem Tryz.prog 3) b n D
 is:Maps.IsMap D
 at_:∀nm:L,D.atKey (.string nm) (.lit (.int .i64 0))=.lit (.int .i64 (seen.count nm:Nat))
theorem oT{w w':World}{P:Program}{k:TypeId}{R:Value→Option (DataW Unit×List MemPlace)}{b n:Nat}{D:DataW Unit}(h:w.ownsMap P k R b n D)(e:w'.heap[b]?=w.heap[b]?):w'.ownsMap P k R b n D:=by
 obtain⟨es,clock,hb,rest⟩:=h;exact⟨es,clock,e.trans hb,rest⟩
theorem dZ.go{w w':World}{b n:Nat}{seen:List L}{D:DataW Unit}(h:dZ w b n seen D)(hb:Below w.heap.size w w'):dZ w' b n seen D:=⟨oT h.own (hb.block _ h.own.lt),h.is,h.at_⟩
theorem dZ.set{w:World}{b n:Nat}{seen:List L}{D:DataW Unit}(h:dZ w b n seen D){p:Addr}(hp:b≠p.block)(u:Value):dZ (w.setCell p u) b n seen D:=⟨oT h.own (Below.heap_setCell _ _ _ _ hp),h.is,h.at_⟩
theorem dZ.but{w w':World}{P b n:Nat}{seen:List L}{D:DataW Unit}(h:dZ w b n seen D)(hb:ai P w w')(hP:b≠P):dZ w' b n seen D:=⟨oT h.own (hb.block _ h.own.lt hP),h.is,h.at_⟩
theorem dZ.kept{w w':World}{row:Option Nat}{b n:Nat}{seen:List L}{D:DataW Unit}(h:dZ w b n seen D)(hg:w.grownBy w' row)(hne:some b≠row):dZ w' b n seen D:=⟨h.own.kept hg hne,h.is,h.at_⟩
theorem aa2(w:World):dZ (w.alloc (.map #[] 0)) w.heap.size 0 [] (.map []):=⟨World.ownsMap_made _ _ _ _,Maps.isMap_empty,fun _=>rfl⟩
theorem IV{w w':World}{b n q:Nat}{seen:List L}{D:DataW Unit}{nm:L}(h:dZ w b n seen D)(hq:seen.count nm=q)(ho:w'.ownsMap Tryz.prog 9 (plainElem Tryz.prog 3) b (n+1) (D.put (.string nm) (.lit (.int .i64 ((q:Int)+1))))):dZ w' b (n+1) (seen++[nm]) (D.put (.string nm) (.lit (.int .i64 ((q:Int)+1)))):=by
 subst hq;refine⟨ho,h.is.put _ _,fun m=>?_⟩
 by_cases hm:m=nm
 ·subst hm;rw[Maps.atKey_put_same h.is (by simp[WideAt.IsKeyLit])];simp
 rw[Maps.atKey_put_other (by intro e;injection e with e;exact hm e),h.at_ m,List.count_append,List.count_singleton];have:(nm==m)=false:=by rw[beq_eq_false_iff_ne];exact fun e=>hm e.symm
 rw[this];simp
theorem dZ.aeQ{w:World}{b n:Nat}{seen:List L}{D:DataW Unit}{nm:L}{c:Int}(h:dZ w b n seen D)(hc:D.atKey (.string nm) (.lit (.int .i64 0))=.lit (.int .i64 c)):c=(seen.count nm:Nat):=by
 rw[h.at_ nm] at hc;injection hc with hc
 injection hc with _ hc
 exact hc.symm
theorem dZ.rG{w:World}{b n q:Nat}{seen:List L}{D:DataW Unit}{nm:L}{c:Int}(h:dZ w b n seen D)(hq:seen.count nm=q)(hc:D.atKey (.string nm) (.lit (.int .i64 0))=.lit (.int .i64 c)):c=(q:Int):=by rw[h.aeQ hc,hq]
theorem aaG(w:World)(o o':Obj):Below w.heap.size w ((w.alloc o).alloc o'):=((Below.refl _ _).alloc (Nat.le_refl _) o).alloc (by simp) o'
theorem dZ.block{w:World}{b n:Nat}{seen:List L}{D:DataW Unit}(h:dZ w b n seen D):∃es cl,w.heap[b]?=some (.map es cl):=by
 obtain⟨es,cl,hb,_⟩:=h.own;exact⟨es,cl,hb⟩
theorem ai.grown{R:Nat}{w w1 w':World}{row:Option Nat}(h:ai R w w1)(hg:w1.grownBy w' row)(hr:∀k,row=some k→w.heap.size≤k):ai R w w' :=
 ⟨hg.os.trans h.os,hg.tape.trans h.tape,hg.output.trans h.output,Nat.le_trans h.size hg.size,fun k hk hR=>(hg.block k (Nat.lt_of_lt_of_le hk h.size) (fun e=>by have:=hr k e.symm;omega)).trans (h.block k hk hR)⟩
theorem PI.kept{B P:Nat}{w w':World}{st:St}{b:bQ}{v:Pv}{row:Option Nat}(h:PI B P w st b v)(hg:w.grownBy w' row)(hr:∀k,row=some k→∀t∈[80,110,152,62,125,88],¬bJ w k t):PI B P w' st b v:=by
 have hb:∀{k t:Nat},bJ w k t→t∈[80,110,152,62,125,88]→w'.heap[k]?=w.heap[k]?:=fun {k t} hk ht=>hg.block k hk.lt fun e=>hr k e.symm t ht hk
 have ho:∀{e size n:Nat} {v:Value} {xs:List Value},w.ownsRow B e size v n xs→e∈[80,110,152,62,125,88]→w'.ownsRow B e size v n xs:=fun {e size n v xs} hw he=>hw.kept hg (by
  cases hv:v.ownBlock with
  | none=>exact .inl rfl
  | some k=>exact .inr fun e1=>hr k e1.symm e he (aI hw k hv).2)
 refine⟨(hb h.blk.ft (by simp)).trans h.blk,h.bp,ho h.o (by simp),ho h.s (by simp),ho h.e (by simp),h.ev,fun x hx=>?_,?_⟩
 ·have hi:=h.gX x hx;have sa:∀a,x.A=some a→w'.heap[a.block]?=w.heap[a.block]?:=fun a ha=>hb (hi.ta a ha) (by simp);exact⟨hi.a.same sa hg.size,hi.va,hi.ta.same sa⟩
 have h1:=h.bad;unfold gN at h1 ⊢
 cases b with
 | none=>exact h1
 | some x=>
  obtain⟨F,q1,q2,q3⟩:=h1;exact⟨F,q1,q2,(hb q3.ft (by simp)).trans q3⟩
theorem pY{w:World}{k t:Nat}{es:Array MapEntry}{cl:Nat}(h:w.heap[k]?=some (.map es cl)):¬bJ w k t:=by
 rintro ⟨cs,fr,h2⟩;rw[h] at h2;cases h2
theorem Fj{w:World}{b e size n k:Nat}{v:Value}{xs:List Value}{es:Array MapEntry}{cl:Nat}(h:w.ownsRow b e size v n xs)(hm:w.heap[k]?=some (.map es cl)):v.ownBlock≠some k:=fun e1=>pY hm (aI h k e1).2
theorem afK(l:List At)(a:At):∀seen:List L,gZ seen (l++[a])=(gZ seen l).or (if (split a.name).isNone=true∨a.name∈seen++l.map (·.name) then some a.at_ else none):=by
 induction l with
 | nil=>intro seen;simp only[List.nil_append,gZ,List.map_nil,List.append_nil,Option.none_or]
 | cons x l ih=>
  intro seen;rw[List.cons_append,gZ,gZ,ih,List.map_cons];split
  ·rfl
  rw[List.append_assoc];rfl
theorem ajk(l:List bR)(s:bR):bP (l++[s])=bP l++rV s:=by simp[bP]
theorem Mq(s:bR):∀u∈rV s,u.oneCell'=true:=by
 intro u hu;simp only[rV,List.mem_cons,List.not_mem_nil,or_false] at hu
 rcases hu with rfl|rfl|rfl|rfl<;>rfl
theorem Nd{P:Program}(w:World){ops:Array Oper}{rest:List Oper}{o:Oper}{a:Act}{Q:Exit→Act→World→Prop}(hw:Region.wanted o (yielded ops a.tmps)=true)(m x:Operand)(t:TypeId)(hop:o.op=Op.lookup t m x false)
  (mv xv v:Value) (hm:a.eval m=mv) (hx:a.eval x=xv) (hrun:(Instr.lookup t mv xv false).run P w=.ok v w) (hK:wpList P ops Q rest (a.put o.dst v) w):wpList P ops Q (o :: rest) a w:=by
 refine wpList_step fun K hK'=>?_;rw[if_pos hw];unfold Oper.wp;simp[execOp,hop,hm,hx,hrun,Result.andThen];exact hK' _ _ hK
def pZ(t:Tok):Option Nat:=if (split t.name).isNone then some t.at_ else none
theorem afL(t:Tok):names t=(pZ t).or (gZ [] t.attrs):=by unfold names pZ;split<;>simp
theorem ajg(t:Tok):qc (split t.name)=.tuple #[.string (aa (jy t)),.string (aa (nA t)),.bool (split t.name).isSome]:=by unfold jy nA;cases split t.name<;>rfl
def ZM(B P:Nat)(w:World)(st:St)(v:Pv)(t:Tok)(e:Ending)(w':World):Prop :=
 ∃vb Al cl,e=.returned (.tuple #[.string (aa (jy t)),.string (aa (nA t)),.slice Al t.attrs.length cl])∧PI B P w' st (dv (names t)) ⟨v.Ao,v.co,v.As,v.cs,v.Ae,v.ce,vb,v.xs⟩∧
  w'.ownsRow w.heap.size 150 4 (.slice Al t.attrs.length cl) t.attrs.length (bP (t.attrs.map dm))∧ai P w w'

theorem UQ(B P:Nat)(w:World)(st:St)(v:Pv)(b o:Nat)(t:Tok)(fe:Option Addr)(ct:Nat)(h:PI B P w st none v)(hB:B≤w.heap.size)(h6:6≤B)(hg:Gl w)(ht:qL B w b o t)
  (iU:w.cell? ⟨b,o+2,none⟩=some (.slice fe t.attrs.length ct)) (hr:Reads w B 3 fe t.attrs.length (ln (t.attrs.map At.g))) (hn:t.attrs.length≤100000000) (tL:t.name.length≤1000000000) (hv:∀a∈t.attrs,a.name.length≤1000000000) :
  Calls Tryz.prog 55 #[.pointer (some ⟨P,0,none⟩),.pointer (some ⟨b,o,none⟩)] w (ZM B P w st v t):=by
 have H:=hide h;have HB:=hide hB;have Hv:=hide hv;have Hr:=hide hr;have H6:=hide h6;have t1:=ht.c1;have t5:=ht.c5;have Ht:=hide ht;have HG:=hide hg;have HS:=hide (Wy t.name w hg tL);obtain⟨n,bC⟩:∃n,t.attrs.length=n:=⟨_,rfl⟩;rw[bC] at iU hn Hr;have HN:=hide bC;have ir:=@run_makeMap Tryz.prog;rw[ajg] at HS;obtain⟨ok,bY⟩:∃ok,(split t.name).isSome=ok:=⟨_,rfl⟩;rw[bY] at HS;have Pt:=hide (show pZ t=if ok then none else some t.at_ by rw[←bY];unfold pZ;cases split t.name<;>rfl);clear h hB hr hv bC h6 ht hg tL bY
 go_enter Tryz.func55,Tryz.ntmps55
 go_upto_if 22 with (go_at_call 88;refine HS.out.mono ?_;rintro e Xq ⟨rfl,b0⟩;have Ch:=hide b0;clear b0)
 have Pu:=hide (H.out.go Ch.out);have Ni:=hide (ai.b7 (R:=P) Ch.out);have MB:=(Ch.out.cell (p:=⟨b,o+5,none⟩) (by have:=Ht.out.lt;have:=HB.out;show b<_;omega)).trans t5;have HW:=hide (r7 B P Xq st none v t.at_ 50 Pu.out (Nat.le_trans HB.out Ch.out.size))
 go_cut [] (fun wx=>∃vb,PI B P wx st (dv (pZ t)) ⟨v.Ao,v.co,v.As,v.cs,v.Ae,v.ce,vb,v.xs⟩∧ai P w wx)
 case first=>
  cases ok with
  | true=>
   have Hf:=hide (show PI B P Xq st (dv (pZ t)) ⟨v.Ao,v.co,v.As,v.cs,v.Ae,v.ce,v.vb,v.xs⟩ by rw[Pt.out];exact Pu.out);go_wp2;(try simp only[Exit.then]);(try refine Met.intro ?_)
   first
    | (rename_i hJ hM;refine hM _ _ (Met.intro ?_);refine hJ _ _ ?_)
    | (rename_i hJ;refine hJ _ _ ?_)
    | (rename_i hJ hT;refine hJ _ _ ?_)
    | (rename_i hJ hT aX;refine hJ _ _ ?_)
    | (rename_i hJ hT aX cF;refine hJ _ _ ?_)
   (repeat apply Exists.intro);exact⟨⟨_,Hf.out,Ni.out⟩,rfl⟩
  | false=>
   go_wp2_with fail
   refine HW.out.mono ?_;rintro e w0 ⟨Xo,rfl,h1,h2⟩;have Hf:=hide (show PI B P w0 st (dv (pZ t)) ⟨v.Ao,v.co,v.As,v.cs,v.Ae,v.ce,Xo,v.xs⟩ by rw[Pt.out];exact h1);have B0:=hide (show ai P w w0 from Ni.out.trans h2);clear h1 h2;dsimp only
   rename_i hM hJ hT KK bV
   refine bV _ _ ?_;clear bV KK;go_wp2;(try simp only[Exit.then]);(try refine hM _ _ (Met.intro ?_));refine hJ _ _ ?_;(repeat apply Exists.intro);exact⟨⟨_,Hf.out,B0.out⟩,rfl⟩
 case rest=>
  obtain⟨w0,rfl⟩:∃w0:World,w0=wc:=⟨_,rfl⟩;obtain⟨Xo,h1,h2⟩:=hcut;have I0:=hide h1;have B0:=hide h2;clear h1 h2 MB;have SN:w.heap.size≤w0.heap.size:=B0.out.size;have amW:w0.cell? ⟨b,o+2,none⟩=some (.slice fe n ct):=((B0.out.below H.out.bp HB.out).cell (p:=⟨b,o+2,none⟩) Ht.out.lt).trans iU;have Ak:b<w0.heap.size:=by have:=Ht.out.lt;have:=HB.out;omega
  have C0:=hide (aa2 w0);have I1:=hide (I0.out.go (aA w0 (.map #[] 0)));have B1:=hide (B0.out.go (aA w0 (.map #[] 0)));have vg:w.heap.size≤w0.heap.size∧P≠w0.heap.size:=⟨SN,by have:=I0.out.blk.lt;omega⟩;obtain⟨Mb,JJ⟩:∃Mb,w0.heap.size=Mb:=⟨_,rfl⟩;rw[JJ] at C0 vg;have ql:=hide vg;have Cz:=hide JJ;clear SN vg JJ;go_wp2;rw[Cz.out]
  go_loopg [35,6] n (fun gk vk vl wr=>∃(k:Nat) (vb:Value) (A:Option Addr) (c:Nat) (D:DataW Unit),gk=n-k∧k≤n∧vk=.int .i64 (k:Int)∧vl=.slice A k c∧PI B P wr st (dv ((pZ t).or (gZ [] (t.attrs.take k)))) ⟨v.Ao,v.co,v.As,v.cs,v.Ae,v.ce,vb,v.xs⟩∧
   wr.ownsRow w.heap.size 150 4 (.slice A k c) k (bP ((t.attrs.take k).map dm))∧dZ wr Mb k ((t.attrs.take k).map (·.name)) D∧ai P w wr)
  case atStart=>exact⟨0,_,none,0,_,rfl,by omega,rfl,rfl,by rw[List.take_zero,gZ,Option.or_none];exact I1.out,World.ownsRow_nil _ _ _ _,C0.out,B1.out⟩
  case round=>
   obtain⟨k,vb,A,c,D,aq,hk,rfl,rfl,h1,h2,h3,h4⟩:=hrel;have Hg:=hide aq;have H1:=hide h1;have H2:=hide h2;have H3:=hide h3;have H4:=hide h4;clear aq h1 h2 h3 h4 C0 I1 B1
   by_cases hlt:k<n
   ·obtain⟨a,ha⟩:∃a,t.attrs[k]?=some a:=⟨_,List.getElem?_eq_getElem (by rw[HN.out];exact hlt)⟩;have eE:k<t.attrs.length:=by rw[HN.out];exact hlt
    have nd:=(Hr.out.below (H4.out.below H.out.bp HB.out));rw[←HN.out] at nd;rw[show t.attrs.length=(t.attrs.map At.g).length by rw[List.length_map]] at nd;obtain⟨ab,ao,xq,hab,ga⟩:=Reads.ga nd (k:=k) (by rw[List.length_map];exact eE);rw[List.getElem_map,(List.getElem?_eq_some_iff.1 ha).2] at ga;have g0:wr.cell? ⟨ab,ao+k*3,none⟩=some (.string (aa a.name)):=ga.c0;have g1:wr.cell? ⟨ab,ao+k*3+1,none⟩=some (.string (aa a.value)):=ga.c1;have g2:wr.cell? ⟨ab,ao+k*3+2,none⟩=some (.int .i64 (a.at_:Int)):=ga.c2;subst xq;have vP:IntKind.i64.wrap ((k:Int)+1)=(k:Int)+1:=IntWalk.i64_in _ (by omega);have iy:t.attrs.take (k+1)=t.attrs.take k++[a]:=by rw[List.take_succ_eq_append_getElem eE,(List.getElem?_eq_some_iff.1 ha).2]
    have eY:=hide (show (t.attrs.take (k+1)).map (·.name)=(t.attrs.take k).map (·.name)++[a.name] by rw[iy,List.map_append];rfl);have j2:=hide (show bP ((t.attrs.take (k+1)).map dm)=bP ((t.attrs.take k).map dm)++rV (dm a) by rw[iy,List.map_append,List.map_cons,List.map_nil,ajk]);have a8:=hide (show gZ [] (t.attrs.take (k+1))=(gZ [] (t.attrs.take k)).or (if (split a.name).isNone=true∨a.name∈(t.attrs.take k).map (·.name) then some a.at_ else none) by rw[iy];exact afK _ _ _);have mg:=hide (show w.heap.size≤wr.heap.size from H4.out.size);have HP:=hide (show P<wr.heap.size from H1.out.blk.lt);have alO:=H3.out.own.lt;have Hq:=hide (show ((t.attrs.take k).map (·.name)).count a.name≤k from Nat.le_trans List.count_le_length (by rw[List.length_map,List.length_take];omega));have CS:=hide (show ((t.attrs.take k).map (·.name)).count a.name=0↔a.name∉(t.attrs.take k).map (·.name) from List.count_eq_zero);have uG:=hide (show (((t.attrs.take k).map (·.name))++[a.name]).count a.name=((t.attrs.take k).map (·.name)).count a.name+1 by rw[List.count_append,List.count_singleton,beq_self_eq_true];rfl)
    have b2:=aaG wr (.cells #[.string (aa a.name),.string (aa a.value),.int .i64 (a.at_:Int)] 148) (.cells #[.string ⟨#[]⟩,.string ⟨#[]⟩,.string ⟨#[]⟩,.int .i64 (a.at_:Int)] 150);have KV:ae ((wr.alloc (.cells #[.string (aa a.name),.string (aa a.value),.int .i64 (a.at_:Int)] 148)).alloc (.cells #[.string ⟨#[]⟩,.string ⟨#[]⟩,.string ⟨#[]⟩,.int .i64 (a.at_:Int)] 150)) wr.heap.size 148 #[.string (aa a.name),.string (aa a.value),.int .i64 (a.at_:Int)]:=(ae.new wr 148 #[.string (aa a.name),.string (aa a.value),.int .i64 (a.at_:Int)]).alloc _;have KS:ae ((wr.alloc (.cells #[.string (aa a.name),.string (aa a.value),.int .i64 (a.at_:Int)] 148)).alloc (.cells #[.string ⟨#[]⟩,.string ⟨#[]⟩,.string ⟨#[]⟩,.int .i64 (a.at_:Int)] 150)) (wr.heap.size+1) 150 #[.string ⟨#[]⟩,.string ⟨#[]⟩,.string ⟨#[]⟩,.int .i64 (a.at_:Int)]:=by have:=ae.new (wr.alloc (.cells #[.string (aa a.name),.string (aa a.value),.int .i64 (a.at_:Int)] 148)) 150 #[.string ⟨#[]⟩,.string ⟨#[]⟩,.string ⟨#[]⟩,.int .i64 (a.at_:Int)];rwa[World.size_alloc] at this
    have hkey:keyOf Tryz.prog 9 (.string (aa a.name))=some (.string a.name):=WideMaps.keyOf_string_mk Tryz.underlying9 (by rw[aW];have:=Hv.out a (List.mem_of_getElem? ha);unfold maxLen;omega);have HK:=hide hkey;clear hkey;have HX:=hide (Wy a.name ((wr.alloc (.cells #[.string (aa a.name),.string (aa a.value),.int .i64 (a.at_:Int)] 148)).alloc (.cells #[.string ⟨#[]⟩,.string ⟨#[]⟩,.string ⟨#[]⟩,.int .i64 (a.at_:Int)] 150)) ((HG.out.but H4.out (by have:=H6.out;have:=H.out.bp;omega)).below b2) (Hv.out a (List.mem_of_getElem? ha)));have B2:=hide b2;have Ii:=hide KV;have Ih:=hide KS;obtain⟨seen,vL⟩:∃seen,(t.attrs.take k).map (·.name)=seen:=⟨_,rfl⟩;rw[vL] at eY a8 Hq CS uG H3;obtain⟨q,hq⟩:∃q,seen.count a.name=q:=⟨_,rfl⟩;rw[hq] at Hq CS uG;have HQ:=hide hq;have EM:IntKind.i64.wrap ((q:Int)+1)=(q:Int)+1:=IntWalk.i64_in _ (by have:=Hq.out;omega);have KE:(0:Int)≤(q:Int):=by omega
    have GI:=hide (show (Lit.int .i64 ((q:Int)+1)).wf=true from WalkArith.wf_i64 (by have:=Hq.out;omega));have GR:=hide (show k<maxLen by unfold maxLen;omega);clear KV KS b2 ga nd ha eE iy vL hq;obtain⟨y,hy⟩:∃y,split a.name=y:=⟨_,rfl⟩;rw[hy] at HX a8
    cases y with
    | none=>
     have yA:=hide (show (gZ [] (t.attrs.take (k+1)))=(gZ [] (t.attrs.take k)).or (some a.at_) by rw[a8.out];simp);have mP:=hide (show rV (dm a)=[.string ⟨#[]⟩,.string ⟨#[]⟩,.string ⟨#[]⟩,.int .i64 (a.at_:Int)] by unfold dm;rw[hy];rfl);clear hy;unfold qc at HX
     go_wp2_with fail
     refine HX.out.mono ?_;rintro e w3 ⟨rfl,b3⟩;have B3:=hide (B2.out.trans (b3.mono B2.out.size));have nW:=Ii.out.go b3;have eN:=Ih.out.go b3;have C3:=hide (H3.out.go B3.out);have I3:=hide (H1.out.go B3.out);have O3:=hide (eV H2.out B3.out);have M3:=hide (H4.out.go B3.out);have s0:w3.cell? ⟨wr.heap.size+1,0,none⟩=some _:=eN.cell 0;have s1:w3.cell? ⟨wr.heap.size+1,1,none⟩=some _:=eN.cell 1;have zR:=eN.frozen 0;have zS:=eN.frozen 1;have v0:w3.cell? ⟨wr.heap.size,0,none⟩=some (.string (aa a.name)):=nW.cell 0;have zr:=hide (show ae ((w3.setCell ⟨wr.heap.size+1,0,none⟩ (.string ⟨#[]⟩)).setCell ⟨wr.heap.size+1,1,none⟩ (.string ⟨#[]⟩)) (wr.heap.size+1) 150 #[.string ⟨#[]⟩,.string ⟨#[]⟩,.string ⟨#[]⟩,.int .i64 (a.at_:Int)] from (eN.aG 0 (.string ⟨#[]⟩)).aG 1 (.string ⟨#[]⟩));have sF:=hide ((nW.far (p:=⟨wr.heap.size+1,0,none⟩) (by simp) (.string ⟨#[]⟩)).far (p:=⟨wr.heap.size+1,1,none⟩) (by simp) (.string ⟨#[]⟩));have C4:=hide ((C3.out.set (p:=⟨wr.heap.size+1,0,none⟩) (by simp;omega) (.string ⟨#[]⟩)).set (p:=⟨wr.heap.size+1,1,none⟩) (by simp;omega) (.string ⟨#[]⟩));have I4:=hide ((I3.out.far (p:=⟨wr.heap.size+1,0,none⟩) eN (by decide) (.string ⟨#[]⟩)).far (p:=⟨wr.heap.size+1,1,none⟩) (eN.aG 0 _) (by decide) (.string ⟨#[]⟩))
     have sV:((w3.setCell ⟨wr.heap.size+1,0,none⟩ (.string ⟨#[]⟩)).setCell ⟨wr.heap.size+1,1,none⟩ (.string ⟨#[]⟩)).ownsRow w.heap.size 150 4 (.slice A k c) k (bP ((t.attrs.take k).map dm)):=by
      have tj:∀(X:World) (i:Nat) (u:Value),X.ownsRow w.heap.size 150 4 (.slice A k c) k (bP ((t.attrs.take k).map dm))→(∀a',A=some a'→a'.block≠wr.heap.size+1)→(X.setCell ⟨wr.heap.size+1,i,none⟩ u).ownsRow w.heap.size 150 4 (.slice A k c) k (bP ((t.attrs.take k).map dm)):=fun X i u hX hne=>hX.kept ⟨rfl,rfl,rfl,by simp[World.setCell],fun j _ hj=>Below.heap_setCell _ _ _ _ (fun e=>hj (by rw[e]))⟩ (by
       cases A with
       | none=>exact .inl rfl
       | some a'=>exact .inr (fun e=>hne a' rfl (by simpa[Value.ownBlock] using e)))
      have hne:∀a',A=some a'→a'.block≠wr.heap.size+1:=fun a' e=>by have:=(H2.out.lt a'.block (by rw[e];rfl)).2;omega
      exact tj _ 1 _ (tj _ 0 _ O3.out hne) hne
     have O4:=hide sV;have M4:=hide ((M3.out.setCell (p:=⟨wr.heap.size+1,0,none⟩) (.inr (by have:=mg.out;simp;omega)) (.string ⟨#[]⟩)).setCell (p:=⟨wr.heap.size+1,1,none⟩) (.inr (by have:=mg.out;simp;omega)) (.string ⟨#[]⟩));have v4:((w3.setCell ⟨wr.heap.size+1,0,none⟩ (.string ⟨#[]⟩)).setCell ⟨wr.heap.size+1,1,none⟩ (.string ⟨#[]⟩)).cell? ⟨wr.heap.size,0,none⟩=some (.string (aa a.name)):=sF.out.cell 0;clear b3 eN nW sV
     go_wp2_with first
      | (at_lookup;refine Nd _ (by kernel_rfl) _ _ _ (by rfl) _ _ _ (by rfl) (by rfl) yV.out ?_)
      | (at_lookup;refine wpList_lookup_own_int _ rfl _ _ 146 rfl 9 3 .i64 oR Tryz.underlying146 Tryz.underlying3 (pg _) Mb k D rfl C4.out.own _ _ rfl HK.out ?_;intro c0 hat Be;clear Be;have hc0:=C4.out.rG HQ.out hat;subst hc0;clear hat)
      |(at_mapUpdate;refine wpList_mapUpdate_own _ rfl _ _ _ 146 rfl 9 3 oR Tryz.underlying146 _ Mb k D rfl C4.out.own GR.out _ _ _ rfl rfl HK.out _ [] (plainElem_int Tryz.underlying3 GI.out) ?_
        intro w5 tI gV;have C5:=hide (IV C4.out HQ.out tI);obtain⟨QV,Qy,oA⟩:=C4.out.block;have I5:=hide (I4.out.kept gV (fun j hj t' _=>by cases hj;exact pY oA));have O5:=hide (O4.out.kept gV (.inr (Fj O4.out oA)));have M5:=hide (M4.out.grown gV (fun j hj=>by cases hj;exact ql.out.1));have zt:=hide (zr.out.grown gV (by simp;omega));have nY:=sF.out.grown gV (by simp;omega);have CY:=hide (show w.heap.size≤w5.heap.size from M5.out.size);have Xg:w5.cell? ⟨wr.heap.size,0,none⟩=some (.string (aa a.name)):=nY.cell 0;have Xh:w5.cell? ⟨wr.heap.size,2,none⟩=some (.int .i64 (a.at_:Int)):=nY.cell 2;obtain⟨c1,hrun,hat,Bh⟩:=C5.out.own.lookup_int oR Tryz.underlying146 Tryz.underlying3 (pg _) HK.out;have cU:c1=((q+1:Nat):Int):=C5.out.rG uG.out hat;rw[show ((q+1:Nat):Int)=(q:Int)+1 by omega] at cU;subst cU;have yV:=hide hrun;clear Bh hrun hat tI gV oA v0 v4 s0 s1 zR zS nY)
     
     
     have HW:=hide (r7 B P w5 st _ _ a.at_ 50 I5.out (Nat.le_trans HB.out CY.out));refine HW.out.mono ?_;rintro e w6 ⟨FH,rfl,h1,h2⟩;have I6:=hide h1;have je:=h2.blk zt.out (by have:=HP.out;omega);have C6:=hide (C5.out.but h2 ql.out.2.symm);have O6:=hide (bw.own (B:=0) (T:=[]) (.fc h2) O5.out I5.out.blk (by decide) (by simp));have M6:=hide (M5.out.trans h2);clear h1 h2;have Vl:w6.cell? ⟨wr.heap.size+1,0,none⟩=some (.string ⟨#[]⟩):=je.cell 0;have Vm:w6.cell? ⟨wr.heap.size+1,1,none⟩=some (.string ⟨#[]⟩):=je.cell 1;have Vo:w6.cell? ⟨wr.heap.size+1,2,none⟩=some (.string ⟨#[]⟩):=je.cell 2;have Vp:w6.cell? ⟨wr.heap.size+1,3,none⟩=some (.int .i64 (a.at_:Int)):=je.cell 3;have KL:=hide (ae.new w6 150 [.string ⟨#[]⟩,.string ⟨#[]⟩,.string ⟨#[]⟩,.int .i64 (a.at_:Int)].toArray);clear je;dsimp only
     rename_i bV
     refine bV _ _ ?_;clear bV
     go_wp2_with (at_builtin;go_loud (refine tZ _ (by rfl) (.tmp 69) (.tmp 71) 105 (by rfl) w.heap.size 150 _ 4 56 Tryz.underlying105 Ll (by rfl) (by omega) (.slice A k c) k (bP ((t.attrs.take k).map dm)) (by rfl) (O6.out.alloc _) [.string ⟨#[]⟩,.string ⟨#[]⟩,.string ⟨#[]⟩,.int .i64 (a.at_:Int)] (by rfl) (by rw[←mP.out];exact Mq _) w6.heap.size KL.out (by rfl) (by unfold maxLen;omega) (by omega) (by have:=M6.out.size;simp;omega) ?_);intro g8 dx w8 aN aF cY;have cL:=hide aN;have dH:=hide aF;clear aN aF cY)
     go_roundg (n-(k+1))
     case measure=>have:=Hg.out;omega
     case rel=>
      obtain⟨Je,IU,vw⟩:=(dZ.go C6.out (aA w6 (.cells [.string ⟨#[]⟩,.string ⟨#[]⟩,.string ⟨#[]⟩,.int .i64 (a.at_:Int)].toArray 150))).block;have aj:∀j,(Value.slice A k c).ownBlock=some j→w.heap.size≤j∧bJ (w6.alloc (.cells [.string ⟨#[]⟩,.string ⟨#[]⟩,.string ⟨#[]⟩,.int .i64 (a.at_:Int)].toArray 150)) j 150:=fun j hj=>aI (O6.out.alloc _) j hj;refine⟨k+1,FH,some ⟨g8,0,none⟩,dx,D.put (.string a.name) (.lit (.int .i64 ((q:Int)+1))),rfl,by omega,by first|rfl|go_num,rfl,?_,?_,?_,?_⟩
      ·rw[yA.out,←Option.or_assoc,←BC];exact (I6.out.go (aA _ _)).kept dH.out (fun j hj t' oJ hT=>gI (aj j hj).2 hT (by intro e;subst e;revert oJ;decide))
      ·rw[j2.out,mP.out];exact cL.out
      ·rw[eY.out];exact (dZ.go C6.out (aA _ _)).kept dH.out (fun e=>pY vw (aj Mb e.symm).2)
      exact (M6.out.go (aA _ _)).grown dH.out (fun j hj=>(aj j hj).1)
    | some pl=>
     obtain⟨pp,ll⟩:=pl;have mP:=hide (show rV (dm a)=[.string (aa pp),.string (aa ll),.string ⟨#[]⟩,.int .i64 (a.at_:Int)] by unfold dm;rw[hy];rfl);clear hy;unfold qc at HX;dsimp only at HX
     by_cases rh:a.name∈seen
     ·have yA:=hide (show (gZ [] (t.attrs.take (k+1)))=(gZ [] (t.attrs.take k)).or (some a.at_) by rw[a8.out];simp[rh]);have pO:0<q:=by rcases Nat.eq_zero_or_pos q with h|h;exact absurd rh (CS.out.1 h);exact h
      have gm:decide ((1:Int)<(q:Int)+1)=true:=by rw[decide_eq_true_iff];omega
      clear rh pO
      go_wp2_with fail
      refine HX.out.mono ?_;rintro e w3 ⟨rfl,b3⟩;have B3:=hide (B2.out.trans (b3.mono B2.out.size));have nW:=Ii.out.go b3;have eN:=Ih.out.go b3;have C3:=hide (H3.out.go B3.out);have I3:=hide (H1.out.go B3.out);have O3:=hide (eV H2.out B3.out);have M3:=hide (H4.out.go B3.out);have s0:w3.cell? ⟨wr.heap.size+1,0,none⟩=some _:=eN.cell 0;have s1:w3.cell? ⟨wr.heap.size+1,1,none⟩=some _:=eN.cell 1;have zR:=eN.frozen 0;have zS:=eN.frozen 1;have v0:w3.cell? ⟨wr.heap.size,0,none⟩=some (.string (aa a.name)):=nW.cell 0;have zr:=hide (show ae ((w3.setCell ⟨wr.heap.size+1,0,none⟩ (.string (aa pp))).setCell ⟨wr.heap.size+1,1,none⟩ (.string (aa ll))) (wr.heap.size+1) 150 #[.string (aa pp),.string (aa ll),.string ⟨#[]⟩,.int .i64 (a.at_:Int)] from (eN.aG 0 (.string (aa pp))).aG 1 (.string (aa ll)));have sF:=hide ((nW.far (p:=⟨wr.heap.size+1,0,none⟩) (by simp) (.string (aa pp))).far (p:=⟨wr.heap.size+1,1,none⟩) (by simp) (.string (aa ll)));have C4:=hide ((C3.out.set (p:=⟨wr.heap.size+1,0,none⟩) (by simp;omega) (.string (aa pp))).set (p:=⟨wr.heap.size+1,1,none⟩) (by simp;omega) (.string (aa ll)))
      have I4:=hide ((I3.out.far (p:=⟨wr.heap.size+1,0,none⟩) eN (by decide) (.string (aa pp))).far (p:=⟨wr.heap.size+1,1,none⟩) (eN.aG 0 _) (by decide) (.string (aa ll)))
      have sV:((w3.setCell ⟨wr.heap.size+1,0,none⟩ (.string (aa pp))).setCell ⟨wr.heap.size+1,1,none⟩ (.string (aa ll))).ownsRow w.heap.size 150 4 (.slice A k c) k (bP ((t.attrs.take k).map dm)):=by
       have tj:∀(X:World) (i:Nat) (u:Value),X.ownsRow w.heap.size 150 4 (.slice A k c) k (bP ((t.attrs.take k).map dm))→(∀a',A=some a'→a'.block≠wr.heap.size+1)→(X.setCell ⟨wr.heap.size+1,i,none⟩ u).ownsRow w.heap.size 150 4 (.slice A k c) k (bP ((t.attrs.take k).map dm)):=fun X i u hX hne=>hX.kept ⟨rfl,rfl,rfl,by simp[World.setCell],fun j _ hj=>Below.heap_setCell _ _ _ _ (fun e=>hj (by rw[e]))⟩ (by
        cases A with
        | none=>exact .inl rfl
        | some a'=>exact .inr (fun e=>hne a' rfl (by simpa[Value.ownBlock] using e)))
       have hne:∀a',A=some a'→a'.block≠wr.heap.size+1:=fun a' e=>by have:=(H2.out.lt a'.block (by rw[e];rfl)).2;omega
       exact tj _ 1 _ (tj _ 0 _ O3.out hne) hne
      have O4:=hide sV;have M4:=hide ((M3.out.setCell (p:=⟨wr.heap.size+1,0,none⟩) (.inr (by have:=mg.out;simp;omega)) (.string (aa pp))).setCell (p:=⟨wr.heap.size+1,1,none⟩) (.inr (by have:=mg.out;simp;omega)) (.string (aa ll)));have v4:((w3.setCell ⟨wr.heap.size+1,0,none⟩ (.string (aa pp))).setCell ⟨wr.heap.size+1,1,none⟩ (.string (aa ll))).cell? ⟨wr.heap.size,0,none⟩=some (.string (aa a.name)):=sF.out.cell 0;clear b3 eN nW sV
      go_wp2_with first
       | (at_lookup;refine Nd _ (by kernel_rfl) _ _ _ (by rfl) _ _ _ (by rfl) (by rfl) yV.out ?_)
       | (at_lookup;refine wpList_lookup_own_int _ rfl _ _ 146 rfl 9 3 .i64 oR Tryz.underlying146 Tryz.underlying3 (pg _) Mb k D rfl C4.out.own _ _ rfl HK.out ?_;intro c0 hat Be;clear Be;have hc0:=C4.out.rG HQ.out hat;subst hc0;clear hat)
       |(at_mapUpdate;refine wpList_mapUpdate_own _ rfl _ _ _ 146 rfl 9 3 oR Tryz.underlying146 _ Mb k D rfl C4.out.own GR.out _ _ _ rfl rfl HK.out _ [] (plainElem_int Tryz.underlying3 GI.out) ?_
         intro w5 tI gV;have C5:=hide (IV C4.out HQ.out tI);obtain⟨QV,Qy,oA⟩:=C4.out.block;have I5:=hide (I4.out.kept gV (fun j hj t' _=>by cases hj;exact pY oA));have O5:=hide (O4.out.kept gV (.inr (Fj O4.out oA)));have M5:=hide (M4.out.grown gV (fun j hj=>by cases hj;exact ql.out.1));have zt:=hide (zr.out.grown gV (by simp;omega));have nY:=sF.out.grown gV (by simp;omega);have CY:=hide (show w.heap.size≤w5.heap.size from M5.out.size);have Xg:w5.cell? ⟨wr.heap.size,0,none⟩=some (.string (aa a.name)):=nY.cell 0;have Xh:w5.cell? ⟨wr.heap.size,2,none⟩=some (.int .i64 (a.at_:Int)):=nY.cell 2;obtain⟨c1,hrun,hat,Bh⟩:=C5.out.own.lookup_int oR Tryz.underlying146 Tryz.underlying3 (pg _) HK.out;have cU:c1=((q+1:Nat):Int):=C5.out.rG uG.out hat;rw[show ((q+1:Nat):Int)=(q:Int)+1 by omega] at cU;subst cU;have yV:=hide hrun;clear Bh hrun hat tI gV oA v0 v4 s0 s1 zR zS nY)
      
      
      have HW:=hide (r7 B P w5 st _ _ a.at_ 50 I5.out (Nat.le_trans HB.out CY.out));refine HW.out.mono ?_;rintro e w6 ⟨FH,rfl,h1,h2⟩;have I6:=hide h1;have je:=h2.blk zt.out (by have:=HP.out;omega);have C6:=hide (C5.out.but h2 ql.out.2.symm);have O6:=hide (bw.own (B:=0) (T:=[]) (.fc h2) O5.out I5.out.blk (by decide) (by simp));have M6:=hide (M5.out.trans h2);clear h1 h2;have Vl:w6.cell? ⟨wr.heap.size+1,0,none⟩=some (.string (aa pp)):=je.cell 0;have Vm:w6.cell? ⟨wr.heap.size+1,1,none⟩=some (.string (aa ll)):=je.cell 1;have Vo:w6.cell? ⟨wr.heap.size+1,2,none⟩=some (.string ⟨#[]⟩):=je.cell 2;have Vp:w6.cell? ⟨wr.heap.size+1,3,none⟩=some (.int .i64 (a.at_:Int)):=je.cell 3;have KL:=hide (ae.new w6 150 [.string (aa pp),.string (aa ll),.string ⟨#[]⟩,.int .i64 (a.at_:Int)].toArray);clear je;dsimp only
      rename_i bV
      refine bV _ _ ?_;clear bV
      go_wp2_with (at_builtin;go_loud (refine tZ _ (by rfl) (.tmp 69) (.tmp 71) 105 (by rfl) w.heap.size 150 _ 4 56 Tryz.underlying105 Ll (by rfl) (by omega) (.slice A k c) k (bP ((t.attrs.take k).map dm)) (by rfl) (O6.out.alloc _) [.string (aa pp),.string (aa ll),.string ⟨#[]⟩,.int .i64 (a.at_:Int)] (by rfl) (by rw[←mP.out];exact Mq _) w6.heap.size KL.out (by rfl) (by unfold maxLen;omega) (by omega) (by have:=M6.out.size;simp;omega) ?_);intro g8 dx w8 aN aF cY;have cL:=hide aN;have dH:=hide aF;clear aN aF cY)
      go_roundg (n-(k+1))
      case measure=>have:=Hg.out;omega
      case rel=>
       obtain⟨Je,IU,vw⟩:=(dZ.go C6.out (aA w6 (.cells [.string (aa pp),.string (aa ll),.string ⟨#[]⟩,.int .i64 (a.at_:Int)].toArray 150))).block;have aj:∀j,(Value.slice A k c).ownBlock=some j→w.heap.size≤j∧bJ (w6.alloc (.cells [.string (aa pp),.string (aa ll),.string ⟨#[]⟩,.int .i64 (a.at_:Int)].toArray 150)) j 150:=fun j hj=>aI (O6.out.alloc _) j hj;refine⟨k+1,FH,some ⟨g8,0,none⟩,dx,D.put (.string a.name) (.lit (.int .i64 ((q:Int)+1))),rfl,by omega,by first|rfl|go_num,rfl,?_,?_,?_,?_⟩
       ·rw[yA.out,←Option.or_assoc,←BC];exact (I6.out.go (aA _ _)).kept dH.out (fun j hj t' oJ hT=>gI (aj j hj).2 hT (by intro e;subst e;revert oJ;decide))
       ·rw[j2.out,mP.out];exact cL.out
       ·rw[eY.out];exact (dZ.go C6.out (aA _ _)).kept dH.out (fun e=>pY vw (aj Mb e.symm).2)
       exact (M6.out.go (aA _ _)).grown dH.out (fun j hj=>(aj j hj).1)
     ·have yA:=hide (show (gZ [] (t.attrs.take (k+1)))=(gZ [] (t.attrs.take k)) by rw[a8.out];simp[rh]);have pO:q=0:=CS.out.2 rh;have gm:decide ((1:Int)<(q:Int)+1)=false:=by rw[decide_eq_false_iff_not];omega
      clear rh pO
      go_wp2_with fail
      refine HX.out.mono ?_;rintro e w3 ⟨rfl,b3⟩;have B3:=hide (B2.out.trans (b3.mono B2.out.size));have nW:=Ii.out.go b3;have eN:=Ih.out.go b3;have C3:=hide (H3.out.go B3.out);have I3:=hide (H1.out.go B3.out);have O3:=hide (eV H2.out B3.out);have M3:=hide (H4.out.go B3.out);have s0:w3.cell? ⟨wr.heap.size+1,0,none⟩=some _:=eN.cell 0;have s1:w3.cell? ⟨wr.heap.size+1,1,none⟩=some _:=eN.cell 1;have zR:=eN.frozen 0;have zS:=eN.frozen 1;have v0:w3.cell? ⟨wr.heap.size,0,none⟩=some (.string (aa a.name)):=nW.cell 0;have zr:=hide (show ae ((w3.setCell ⟨wr.heap.size+1,0,none⟩ (.string (aa pp))).setCell ⟨wr.heap.size+1,1,none⟩ (.string (aa ll))) (wr.heap.size+1) 150 #[.string (aa pp),.string (aa ll),.string ⟨#[]⟩,.int .i64 (a.at_:Int)] from (eN.aG 0 (.string (aa pp))).aG 1 (.string (aa ll)));have sF:=hide ((nW.far (p:=⟨wr.heap.size+1,0,none⟩) (by simp) (.string (aa pp))).far (p:=⟨wr.heap.size+1,1,none⟩) (by simp) (.string (aa ll)));have C4:=hide ((C3.out.set (p:=⟨wr.heap.size+1,0,none⟩) (by simp;omega) (.string (aa pp))).set (p:=⟨wr.heap.size+1,1,none⟩) (by simp;omega) (.string (aa ll)))
      have I4:=hide ((I3.out.far (p:=⟨wr.heap.size+1,0,none⟩) eN (by decide) (.string (aa pp))).far (p:=⟨wr.heap.size+1,1,none⟩) (eN.aG 0 _) (by decide) (.string (aa ll)))
      have sV:((w3.setCell ⟨wr.heap.size+1,0,none⟩ (.string (aa pp))).setCell ⟨wr.heap.size+1,1,none⟩ (.string (aa ll))).ownsRow w.heap.size 150 4 (.slice A k c) k (bP ((t.attrs.take k).map dm)):=by
       have tj:∀(X:World) (i:Nat) (u:Value),X.ownsRow w.heap.size 150 4 (.slice A k c) k (bP ((t.attrs.take k).map dm))→(∀a',A=some a'→a'.block≠wr.heap.size+1)→(X.setCell ⟨wr.heap.size+1,i,none⟩ u).ownsRow w.heap.size 150 4 (.slice A k c) k (bP ((t.attrs.take k).map dm)):=fun X i u hX hne=>hX.kept ⟨rfl,rfl,rfl,by simp[World.setCell],fun j _ hj=>Below.heap_setCell _ _ _ _ (fun e=>hj (by rw[e]))⟩ (by
        cases A with
        | none=>exact .inl rfl
        | some a'=>exact .inr (fun e=>hne a' rfl (by simpa[Value.ownBlock] using e)))
       have hne:∀a',A=some a'→a'.block≠wr.heap.size+1:=fun a' e=>by have:=(H2.out.lt a'.block (by rw[e];rfl)).2;omega
       exact tj _ 1 _ (tj _ 0 _ O3.out hne) hne
      have O4:=hide sV;have M4:=hide ((M3.out.setCell (p:=⟨wr.heap.size+1,0,none⟩) (.inr (by have:=mg.out;simp;omega)) (.string (aa pp))).setCell (p:=⟨wr.heap.size+1,1,none⟩) (.inr (by have:=mg.out;simp;omega)) (.string (aa ll)));have v4:((w3.setCell ⟨wr.heap.size+1,0,none⟩ (.string (aa pp))).setCell ⟨wr.heap.size+1,1,none⟩ (.string (aa ll))).cell? ⟨wr.heap.size,0,none⟩=some (.string (aa a.name)):=sF.out.cell 0;clear b3 eN nW sV
      go_wp2_with first
       | (at_lookup;refine Nd _ (by kernel_rfl) _ _ _ (by rfl) _ _ _ (by rfl) (by rfl) yV.out ?_)
       | (at_lookup;refine wpList_lookup_own_int _ rfl _ _ 146 rfl 9 3 .i64 oR Tryz.underlying146 Tryz.underlying3 (pg _) Mb k D rfl C4.out.own _ _ rfl HK.out ?_;intro c0 hat Be;clear Be;have hc0:=C4.out.rG HQ.out hat;subst hc0;clear hat)
       |(at_mapUpdate;refine wpList_mapUpdate_own _ rfl _ _ _ 146 rfl 9 3 oR Tryz.underlying146 _ Mb k D rfl C4.out.own GR.out _ _ _ rfl rfl HK.out _ [] (plainElem_int Tryz.underlying3 GI.out) ?_
         intro w5 tI gV;have C5:=hide (IV C4.out HQ.out tI);obtain⟨QV,Qy,oA⟩:=C4.out.block;have I5:=hide (I4.out.kept gV (fun j hj t' _=>by cases hj;exact pY oA));have O5:=hide (O4.out.kept gV (.inr (Fj O4.out oA)));have M5:=hide (M4.out.grown gV (fun j hj=>by cases hj;exact ql.out.1));have zt:=hide (zr.out.grown gV (by simp;omega));have nY:=sF.out.grown gV (by simp;omega);have CY:=hide (show w.heap.size≤w5.heap.size from M5.out.size);have Xg:w5.cell? ⟨wr.heap.size,0,none⟩=some (.string (aa a.name)):=nY.cell 0;have Xh:w5.cell? ⟨wr.heap.size,2,none⟩=some (.int .i64 (a.at_:Int)):=nY.cell 2;obtain⟨c1,hrun,hat,Bh⟩:=C5.out.own.lookup_int oR Tryz.underlying146 Tryz.underlying3 (pg _) HK.out;have cU:c1=((q+1:Nat):Int):=C5.out.rG uG.out hat;rw[show ((q+1:Nat):Int)=(q:Int)+1 by omega] at cU;subst cU;have yV:=hide hrun;clear Bh hrun hat tI gV oA v0 v4 s0 s1 zR zS nY;have je:=zt.out;have Vl:w5.cell? ⟨wr.heap.size+1,0,none⟩=some (.string (aa pp)):=je.cell 0;have Vm:w5.cell? ⟨wr.heap.size+1,1,none⟩=some (.string (aa ll)):=je.cell 1;have Vo:w5.cell? ⟨wr.heap.size+1,2,none⟩=some (.string ⟨#[]⟩):=je.cell 2
         have Vp:w5.cell? ⟨wr.heap.size+1,3,none⟩=some (.int .i64 (a.at_:Int)):=je.cell 3;have KL:=hide (ae.new w5 150 [.string (aa pp),.string (aa ll),.string ⟨#[]⟩,.int .i64 (a.at_:Int)].toArray);clear je)
       | (at_builtin;go_loud (refine tZ _ (by rfl) (.tmp 69) (.tmp 71) 105 (by rfl) w.heap.size 150 _ 4 56 Tryz.underlying105 Ll (by rfl) (by omega) (.slice A k c) k (bP ((t.attrs.take k).map dm)) (by rfl) (O5.out.alloc _) [.string (aa pp),.string (aa ll),.string ⟨#[]⟩,.int .i64 (a.at_:Int)] (by rfl) (by rw[←mP.out];exact Mq _) w5.heap.size KL.out (by rfl) (by unfold maxLen;omega) (by omega) (by have:=M5.out.size;simp;omega) ?_);intro g8 dx w8 aN aF cY;have cL:=hide aN;have dH:=hide aF;clear aN aF cY)
      
      go_roundg (n-(k+1))
      case measure=>have:=Hg.out;omega
      case rel=>
       obtain⟨Je,IU,vw⟩:=(dZ.go C5.out (aA w5 (.cells [.string (aa pp),.string (aa ll),.string ⟨#[]⟩,.int .i64 (a.at_:Int)].toArray 150))).block;have aj:∀j,(Value.slice A k c).ownBlock=some j→w.heap.size≤j∧bJ (w5.alloc (.cells [.string (aa pp),.string (aa ll),.string ⟨#[]⟩,.int .i64 (a.at_:Int)].toArray 150)) j 150:=fun j hj=>aI (O5.out.alloc _) j hj;refine⟨k+1,vb,some ⟨g8,0,none⟩,dx,D.put (.string a.name) (.lit (.int .i64 ((q:Int)+1))),rfl,by omega,by first|rfl|go_num,rfl,?_,?_,?_,?_⟩
       ·rw[yA.out,show (pZ t).or (gZ [] (t.attrs.take k))=(pZ t).or (gZ [] (t.attrs.take k)) from rfl];exact (I5.out.go (aA _ _)).kept dH.out (fun j hj t' oJ hT=>gI (aj j hj).2 hT (by intro e;subst e;revert oJ;decide))
       ·rw[j2.out,mP.out];exact cL.out
       ·rw[eY.out];exact (dZ.go C5.out (aA _ _)).kept dH.out (fun e=>pY vw (aj Mb e.symm).2)
       exact (M5.out.go (aA _ _)).grown dH.out (fun j hj=>(aj j hj).1)
   ·have hall:k=n:=by omega
    subst hall;have e1:t.attrs.take k=t.attrs:=List.take_of_length_le (by rw[HN.out];exact Nat.le_refl _);have I:=hide H1.out;have O:=hide H2.out;rw[e1] at I O;rw[←afL] at I;clear e1;go_wp2;go_ret3;exact⟨vb,A,c,by rw[HN.out];rfl,I.out,by rw[HN.out];exact O.out,H4.out⟩
end
end Go.Proofs.YtifiiojchlaghaaGreatDoor
