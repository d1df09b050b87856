/- Strict: the program's names: a map that counts. (Printed by wip/genStI.py.) -/
import Derived.Test.YtifiiojchlaghaaGreatDoorOk13
import Derived.Maps.OwnSet
import Derived.Deep.DeepCutAuto
set_option linter.unusedSimpArgs false
set_option maxRecDepth 100000
set_option maxHeartbeats 32000000
set_option linter.unusedVariables false
namespace Go.Proofs.YtifiiojchlaghaaGreatDoor
section
open Go.RowKit Tk Sx

theorem law_str:Maps.Keyed Tryz.prog 9:=Maps.string_keyed Tryz.underlying9
theorem zero_int(w:World):(zeroValue 3).run Tryz.prog w=.ok (.int .i64 0) w:=by kernel_rfl
structure Cnt(w:World)(b n:Nat)(seen:List L)(D:DataW Unit):Prop where
 own:w.ownsMap Tryz.prog 9 (plainElem Tryz.prog 3) b n D
 is:Maps.IsMap D
 at_:∀nm:L,D.atKey (.string nm) (.lit (.int .i64 0))=.lit (.int .i64 (seen.count nm:Nat))
theorem map_same{w w':World}{P:Program}{k:TypeId}{R:Value→Option (DataW Unit×List MemPlace)}{b n:Nat}{D:DataW Unit}(h:w.ownsMap P k R b n D)(e:w'.heap[b]?=w.heap[b]?):w'.ownsMap P k R b n D:=by
 obtain⟨es,clock,hb,rest⟩:=h;exact⟨es,clock,e.trans hb,rest⟩
theorem Cnt.go{w w':World}{b n:Nat}{seen:List L}{D:DataW Unit}(h:Cnt w b n seen D)(hb:Below w.heap.size w w'):Cnt w' b n seen D:=⟨map_same h.own (hb.block _ h.own.lt),h.is,h.at_⟩
theorem Cnt.set{w:World}{b n:Nat}{seen:List L}{D:DataW Unit}(h:Cnt w b n seen D){p:Addr}(hp:b≠p.block)(u:Value):Cnt (w.setCell p u) b n seen D:=⟨map_same h.own (Below.heap_setCell _ _ _ _ hp),h.is,h.at_⟩
theorem Cnt.but{w w':World}{P b n:Nat}{seen:List L}{D:DataW Unit}(h:Cnt w b n seen D)(hb:But P w w')(hP:b≠P):Cnt w' b n seen D:=⟨map_same h.own (hb.block _ h.own.lt hP),h.is,h.at_⟩
theorem Cnt.kept{w w':World}{row:Option Nat}{b n:Nat}{seen:List L}{D:DataW Unit}(h:Cnt w b n seen D)(hg:w.grownBy w' row)(hne:some b≠row):Cnt w' b n seen D:=⟨h.own.kept hg hne,h.is,h.at_⟩
theorem cnt_nil(w:World):Cnt (w.alloc (.map #[] 0)) w.heap.size 0 [] (.map []):=⟨World.ownsMap_made _ _ _ _,Maps.isMap_empty,fun _=>rfl⟩
theorem cnt_next{w w':World}{b n q:Nat}{seen:List L}{D:DataW Unit}{nm:L}(h:Cnt w b n seen D)(hq:seen.count nm=q)(ho:w'.ownsMap Tryz.prog 9 (plainElem Tryz.prog 3) b (n+1) (D.put (.string nm) (.lit (.int .i64 ((q:Int)+1))))):Cnt w' b (n+1) (seen++[nm]) (D.put (.string nm) (.lit (.int .i64 ((q:Int)+1)))):=by
 subst hq;refine⟨ho,h.is.put _ _,fun m=>?_⟩
 by_cases hm:m=nm
 ·subst hm;rw[Maps.atKey_put_same h.is (by simp[WideAt.IsKeyLit])];simp
 rw[Maps.atKey_put_other (by intro e;injection e with e;exact hm e),h.at_ m,List.count_append,List.count_singleton];have:(nm==m)=false:=by rw[beq_eq_false_iff_ne];exact fun e=>hm e.symm
 rw[this];simp
theorem Cnt.is_q{w:World}{b n:Nat}{seen:List L}{D:DataW Unit}{nm:L}{c:Int}(h:Cnt w b n seen D)(hc:D.atKey (.string nm) (.lit (.int .i64 0))=.lit (.int .i64 c)):c=(seen.count nm:Nat):=by
 rw[h.at_ nm] at hc;injection hc with hc
 injection hc with _ hc
 exact hc.symm
theorem Cnt.is_r{w:World}{b n q:Nat}{seen:List L}{D:DataW Unit}{nm:L}{c:Int}(h:Cnt w b n seen D)(hq:seen.count nm=q)(hc:D.atKey (.string nm) (.lit (.int .i64 0))=.lit (.int .i64 c)):c=(q:Int):=by rw[h.is_q hc,hq]
theorem below_two(w:World)(o o':Obj):Below w.heap.size w ((w.alloc o).alloc o'):=((Below.refl _ _).alloc (Nat.le_refl _) o).alloc (by simp) o'
theorem Cnt.block{w:World}{b n:Nat}{seen:List L}{D:DataW Unit}(h:Cnt w b n seen D):∃es cl,w.heap[b]?=some (.map es cl):=by
 obtain⟨es,cl,hb,_⟩:=h.own;exact⟨es,cl,hb⟩
theorem But.grown{R:Nat}{w w1 w':World}{row:Option Nat}(h:But R w w1)(hg:w1.grownBy w' row)(hr:∀k,row=some k→w.heap.size≤k):But R w w' :=
 ⟨hg.os.trans h.os,hg.tape.trans h.tape,hg.output.trans h.output,Nat.le_trans h.size hg.size,fun k hk hR=>(hg.block k (Nat.lt_of_lt_of_le hk h.size) (fun e=>by have:=hr k e.symm;omega)).trans (h.block k hk hR)⟩
theorem PI.kept{B P:Nat}{w w':World}{st:St}{b:Bad}{v:Pv}{row:Option Nat}(h:PI B P w st b v)(hg:w.grownBy w' row)(hr:∀k,row=some k→∀t∈[80,110,152,62,125,88],¬IsT w k t):PI B P w' st b v:=by
 have hb:∀{k t:Nat},IsT w k t→t∈[80,110,152,62,125,88]→w'.heap[k]?=w.heap[k]?:=fun {k t} hk ht=>hg.block k hk.lt fun e=>hr k e.symm t ht hk
 have ho:∀{e size n:Nat} {v:Value} {xs:List Value},w.ownsRow B e size v n xs→e∈[80,110,152,62,125,88]→w'.ownsRow B e size v n xs:=fun {e size n v xs} hw he=>hw.kept hg (by
  cases hv:v.ownBlock with
  | none=>exact .inl rfl
  | some k=>exact .inr fun e1=>hr k e1.symm e he (own_isT hw k hv).2)
 refine⟨(hb h.blk.isT (by simp)).trans h.blk,h.bp,ho h.o (by simp),ho h.s (by simp),ho h.e (by simp),h.ev,fun x hx=>?_,?_⟩
 ·have hi:=h.inn x hx;have sa:∀a,x.A=some a→w'.heap[a.block]?=w.heap[a.block]?:=fun a ha=>hb (hi.ta a ha) (by simp);exact⟨hi.a.same sa hg.size,hi.va,hi.ta.same sa⟩
 have h1:=h.bad;unfold BadAt at h1 ⊢
 cases b with
 | none=>exact h1
 | some x=>
  obtain⟨F,q1,q2,q3⟩:=h1;exact⟨F,q1,q2,(hb q3.isT (by simp)).trans q3⟩
theorem not_isT_map{w:World}{k t:Nat}{es:Array MapEntry}{cl:Nat}(h:w.heap[k]?=some (.map es cl)):¬IsT w k t:=by
 rintro ⟨cs,fr,h2⟩;rw[h] at h2;cases h2
theorem own_ne_map{w:World}{b e size n k:Nat}{v:Value}{xs:List Value}{es:Array MapEntry}{cl:Nat}(h:w.ownsRow b e size v n xs)(hm:w.heap[k]?=some (.map es cl)):v.ownBlock≠some k:=fun e1=>not_isT_map hm (own_isT h k e1).2
theorem namesAt_snoc(l:List At)(a:At):∀seen:List L,namesAt seen (l++[a])=(namesAt seen l).or (if (split a.name).isNone=true∨a.name∈seen++l.map (·.name) then some a.at_ else none):=by
 induction l with
 | nil=>intro seen;simp only[List.nil_append,namesAt,List.map_nil,List.append_nil,Option.none_or]
 | cons x l ih=>
  intro seen;rw[List.cons_append,namesAt,namesAt,ih,List.map_cons];split
  ·rfl
  rw[List.append_assoc];rfl
theorem spls_snoc(l:List Spl)(s:Spl):spls (l++[s])=spls l++splCells s:=by simp[spls]
theorem spl_one(s:Spl):∀u∈splCells s,u.oneCell'=true:=by
 intro u hu;simp only[splCells,List.mem_cons,List.not_mem_nil,or_false] at hu
 rcases hu with rfl|rfl|rfl|rfl<;>rfl
theorem wpList_lookup_wanted{P:Program}(w:World){ops:Array Oper}{rest:List Oper}{o:Oper}{a:Act}{Q:Exit→Act→World→Prop}(hw:Region.wanted o (yielded ops a.tmps)=true)(m x:Operand)(t:TypeId)(hop:o.op=Op.lookup t m x false)
  (mv xv v:Value) (hm:a.eval m=mv) (hx:a.eval x=xv) (hrun:(Instr.lookup t mv xv false).run P w=.ok v w) (hK:wpList P ops Q rest (a.put o.dst v) w):wpList P ops Q (o :: rest) a w:=by
 refine wpList_step fun K hK'=>?_;rw[if_pos hw];unfold Oper.wp;simp[execOp,hop,hm,hx,hrun,Result.andThen];exact hK' _ _ hK
def own0_(t:Tok):Option Nat:=if (split t.name).isNone then some t.at_ else none
theorem names_is(t:Tok):names t=(own0_ t).or (namesAt [] t.attrs):=by unfold names own0_;split<;>simp
theorem splV_tok(t:Tok):splV (split t.name)=.tuple #[.string (bstr (preOf t)),.string (bstr (locOf t)),.bool (split t.name).isSome]:=by unfold preOf locOf;cases split t.name<;>rfl
def NamesR(B P:Nat)(w:World)(st:St)(v:Pv)(t:Tok)(e:Ending)(w':World):Prop :=
 ∃vb Al cl,e=.returned (.tuple #[.string (bstr (preOf t)),.string (bstr (locOf t)),.slice Al t.attrs.length cl])∧PI B P w' st (badV (names t)) ⟨v.Ao,v.co,v.As,v.cs,v.Ae,v.ce,vb,v.xs⟩∧
  w'.ownsRow w.heap.size 150 4 (.slice Al t.attrs.length cl) t.attrs.length (spls (t.attrs.map splOf))∧But P w w'

theorem names_any(B P:Nat)(w:World)(st:St)(v:Pv)(b o:Nat)(t:Tok)(At_:Option Addr)(ct:Nat)(h:PI B P w st none v)(hB:B≤w.heap.size)(h6:6≤B)(hg:Gl w)(ht:TkB B w b o t)
  (hta:w.cell? ⟨b,o+2,none⟩=some (.slice At_ t.attrs.length ct)) (hr:Reads w B 3 At_ t.attrs.length (gas (t.attrs.map At.g))) (hn:t.attrs.length≤100000000) (htn:t.name.length≤1000000000) (hv:∀a∈t.attrs,a.name.length≤1000000000) :
  Calls Tryz.prog 55 #[.pointer (some ⟨P,0,none⟩),.pointer (some ⟨b,o,none⟩)] w (NamesR B P w st v t):=by
 have H:=hide h;have HB:=hide hB;have Hv:=hide hv;have Hr:=hide hr;have H6:=hide h6;have t1:=ht.c1;have t5:=ht.c5;have Ht:=hide ht;have HG:=hide hg;have HS:=hide (split_any t.name w hg htn);obtain⟨n,hnn⟩:∃n,t.attrs.length=n:=⟨_,rfl⟩;rw[hnn] at hta hn Hr;have HN:=hide hnn;have hmm:=@run_makeMap Tryz.prog;rw[splV_tok] at HS;obtain⟨ok,hok⟩:∃ok,(split t.name).isSome=ok:=⟨_,rfl⟩;rw[hok] at HS;have Hx0:=hide (show own0_ t=if ok then none else some t.at_ by rw[←hok];unfold own0_;cases split t.name<;>rfl);clear h hB hr hv hnn h6 ht hg htn hok
 go_enter Tryz.func55,Tryz.ntmps55
 go_upto_if 22 with (go_at_call 88;refine HS.out.mono ?_;rintro e w00 ⟨rfl,b0⟩;have B0s:=hide b0;clear b0)
 have I00:=hide (H.out.go B0s.out);have B00:=hide (But.of_below (R:=P) B0s.out);have t5':=(B0s.out.cell (p:=⟨b,o+5,none⟩) (by have:=Ht.out.lt;have:=HB.out;show b<_;omega)).trans t5;have HW:=hide (wrongB_any B P w00 st none v t.at_ 50 I00.out (Nat.le_trans HB.out B0s.out.size))
 go_cut [] (fun wx=>∃vb,PI B P wx st (badV (own0_ t)) ⟨v.Ao,v.co,v.As,v.cs,v.Ae,v.ce,vb,v.xs⟩∧But P w wx)
 case first=>
  cases ok with
  | true=>
   have Hf:=hide (show PI B P w00 st (badV (own0_ t)) ⟨v.Ao,v.co,v.As,v.cs,v.Ae,v.ce,v.vb,v.xs⟩ by rw[Hx0.out];exact I00.out);go_wp2;(try simp only[Exit.then]);(try refine Met.intro ?_)
   first
    | (rename_i hJ hM;refine hM _ _ (Met.intro ?_);refine hJ _ _ ?_)
    | (rename_i hJ;refine hJ _ _ ?_)
    | (rename_i hJ hT;refine hJ _ _ ?_)
    | (rename_i hJ hT hT2;refine hJ _ _ ?_)
    | (rename_i hJ hT hT2 hT3;refine hJ _ _ ?_)
   (repeat apply Exists.intro);exact⟨⟨_,Hf.out,B00.out⟩,rfl⟩
  | false=>
   go_wp2_with fail
   refine HW.out.mono ?_;rintro e w0 ⟨vb0,rfl,h1,h2⟩;have Hf:=hide (show PI B P w0 st (badV (own0_ t)) ⟨v.Ao,v.co,v.As,v.cs,v.Ae,v.ce,vb0,v.xs⟩ by rw[Hx0.out];exact h1);have B0:=hide (show But P w w0 from B00.out.trans h2);clear h1 h2;dsimp only
   rename_i hM hJ hT KK hK0
   refine hK0 _ _ ?_;clear hK0 KK;go_wp2;(try simp only[Exit.then]);(try refine hM _ _ (Met.intro ?_));refine hJ _ _ ?_;(repeat apply Exists.intro);exact⟨⟨_,Hf.out,B0.out⟩,rfl⟩
 case rest=>
  obtain⟨w0,rfl⟩:∃w0:World,w0=wc:=⟨_,rfl⟩;obtain⟨vb0,h1,h2⟩:=hcut;have I0:=hide h1;have B0:=hide h2;clear h1 h2 t5';have hlen0:w.heap.size≤w0.heap.size:=B0.out.size;have hta':w0.cell? ⟨b,o+2,none⟩=some (.slice At_ n ct):=((B0.out.below H.out.bp HB.out).cell (p:=⟨b,o+2,none⟩) Ht.out.lt).trans hta;have hblt:b<w0.heap.size:=by have:=Ht.out.lt;have:=HB.out;omega
  have C0:=hide (cnt_nil w0);have I1:=hide (I0.out.go (below_alloc w0 (.map #[] 0)));have B1:=hide (B0.out.go (below_alloc w0 (.map #[] 0)));have hMb:w.heap.size≤w0.heap.size∧P≠w0.heap.size:=⟨hlen0,by have:=I0.out.blk.lt;omega⟩;obtain⟨Mb,hMbe⟩:∃Mb,w0.heap.size=Mb:=⟨_,rfl⟩;rw[hMbe] at C0 hMb;have HMb:=hide hMb;have HMe:=hide hMbe;clear hlen0 hMb hMbe;go_wp2;rw[HMe.out]
  go_loopg [35,6] n (fun gk vk vl wr=>∃(k:Nat) (vb:Value) (A:Option Addr) (c:Nat) (D:DataW Unit),gk=n-k∧k≤n∧vk=.int .i64 (k:Int)∧vl=.slice A k c∧PI B P wr st (badV ((own0_ t).or (namesAt [] (t.attrs.take k)))) ⟨v.Ao,v.co,v.As,v.cs,v.Ae,v.ce,vb,v.xs⟩∧
   wr.ownsRow w.heap.size 150 4 (.slice A k c) k (spls ((t.attrs.take k).map splOf))∧Cnt wr Mb k ((t.attrs.take k).map (·.name)) D∧But P w wr)
  case atStart=>exact⟨0,_,none,0,_,rfl,by omega,rfl,rfl,by rw[List.take_zero,namesAt,Option.or_none];exact I1.out,World.ownsRow_nil _ _ _ _,C0.out,B1.out⟩
  case round=>
   obtain⟨k,vb,A,c,D,hgk,hk,rfl,rfl,h1,h2,h3,h4⟩:=hrel;have Hg:=hide hgk;have H1:=hide h1;have H2:=hide h2;have H3:=hide h3;have H4:=hide h4;clear hgk h1 h2 h3 h4 C0 I1 B1
   by_cases hlt:k<n
   ·obtain⟨a,ha⟩:∃a,t.attrs[k]?=some a:=⟨_,List.getElem?_eq_getElem (by rw[HN.out];exact hlt)⟩;have hkl:k<t.attrs.length:=by rw[HN.out];exact hlt
    have hRr:=(Hr.out.below (H4.out.below H.out.bp HB.out));rw[←HN.out] at hRr;rw[show t.attrs.length=(t.attrs.map At.g).length by rw[List.length_map]] at hRr;obtain⟨ab,ao,hAt,hab,ga⟩:=Reads.ga hRr (k:=k) (by rw[List.length_map];exact hkl);rw[List.getElem_map,(List.getElem?_eq_some_iff.1 ha).2] at ga;have g0:wr.cell? ⟨ab,ao+k*3,none⟩=some (.string (bstr a.name)):=ga.c0;have g1:wr.cell? ⟨ab,ao+k*3+1,none⟩=some (.string (bstr a.value)):=ga.c1;have g2:wr.cell? ⟨ab,ao+k*3+2,none⟩=some (.int .i64 (a.at_:Int)):=ga.c2;subst hAt;have hwk:IntKind.i64.wrap ((k:Int)+1)=(k:Int)+1:=IntWalk.i64_in _ (by omega);have hts:t.attrs.take (k+1)=t.attrs.take k++[a]:=by rw[List.take_succ_eq_append_getElem hkl,(List.getElem?_eq_some_iff.1 ha).2]
    have HNm:=hide (show (t.attrs.take (k+1)).map (·.name)=(t.attrs.take k).map (·.name)++[a.name] by rw[hts,List.map_append];rfl);have HSp:=hide (show spls ((t.attrs.take (k+1)).map splOf)=spls ((t.attrs.take k).map splOf)++splCells (splOf a) by rw[hts,List.map_append,List.map_cons,List.map_nil,spls_snoc]);have HBd:=hide (show namesAt [] (t.attrs.take (k+1))=(namesAt [] (t.attrs.take k)).or (if (split a.name).isNone=true∨a.name∈(t.attrs.take k).map (·.name) then some a.at_ else none) by rw[hts];exact namesAt_snoc _ _ _);have Hwr:=hide (show w.heap.size≤wr.heap.size from H4.out.size);have HP:=hide (show P<wr.heap.size from H1.out.blk.lt);have hMlt:=H3.out.own.lt;have Hq:=hide (show ((t.attrs.take k).map (·.name)).count a.name≤k from Nat.le_trans List.count_le_length (by rw[List.length_map,List.length_take];omega));have Hqm:=hide (show ((t.attrs.take k).map (·.name)).count a.name=0↔a.name∉(t.attrs.take k).map (·.name) from List.count_eq_zero);have Hqs:=hide (show (((t.attrs.take k).map (·.name))++[a.name]).count a.name=((t.attrs.take k).map (·.name)).count a.name+1 by rw[List.count_append,List.count_singleton,beq_self_eq_true];rfl)
    have b2:=below_two wr (.cells #[.string (bstr a.name),.string (bstr a.value),.int .i64 (a.at_:Int)] 148) (.cells #[.string ⟨#[]⟩,.string ⟨#[]⟩,.string ⟨#[]⟩,.int .i64 (a.at_:Int)] 150);have KV:Blk ((wr.alloc (.cells #[.string (bstr a.name),.string (bstr a.value),.int .i64 (a.at_:Int)] 148)).alloc (.cells #[.string ⟨#[]⟩,.string ⟨#[]⟩,.string ⟨#[]⟩,.int .i64 (a.at_:Int)] 150)) wr.heap.size 148 #[.string (bstr a.name),.string (bstr a.value),.int .i64 (a.at_:Int)]:=(Blk.new wr 148 #[.string (bstr a.name),.string (bstr a.value),.int .i64 (a.at_:Int)]).alloc _;have KS:Blk ((wr.alloc (.cells #[.string (bstr a.name),.string (bstr a.value),.int .i64 (a.at_:Int)] 148)).alloc (.cells #[.string ⟨#[]⟩,.string ⟨#[]⟩,.string ⟨#[]⟩,.int .i64 (a.at_:Int)] 150)) (wr.heap.size+1) 150 #[.string ⟨#[]⟩,.string ⟨#[]⟩,.string ⟨#[]⟩,.int .i64 (a.at_:Int)]:=by have:=Blk.new (wr.alloc (.cells #[.string (bstr a.name),.string (bstr a.value),.int .i64 (a.at_:Int)] 148)) 150 #[.string ⟨#[]⟩,.string ⟨#[]⟩,.string ⟨#[]⟩,.int .i64 (a.at_:Int)];rwa[World.size_alloc] at this
    have hkey:keyOf Tryz.prog 9 (.string (bstr a.name))=some (.string a.name):=WideMaps.keyOf_string_mk Tryz.underlying9 (by rw[bstr_size];have:=Hv.out a (List.mem_of_getElem? ha);unfold maxLen;omega);have HK:=hide hkey;clear hkey;have HX:=hide (split_any a.name ((wr.alloc (.cells #[.string (bstr a.name),.string (bstr a.value),.int .i64 (a.at_:Int)] 148)).alloc (.cells #[.string ⟨#[]⟩,.string ⟨#[]⟩,.string ⟨#[]⟩,.int .i64 (a.at_:Int)] 150)) ((HG.out.but H4.out (by have:=H6.out;have:=H.out.bp;omega)).below b2) (Hv.out a (List.mem_of_getElem? ha)));have B2:=hide b2;have KV0:=hide KV;have KS0:=hide KS;obtain⟨seen,hseen⟩:∃seen,(t.attrs.take k).map (·.name)=seen:=⟨_,rfl⟩;rw[hseen] at HNm HBd Hq Hqm Hqs H3;obtain⟨q,hq⟩:∃q,seen.count a.name=q:=⟨_,rfl⟩;rw[hq] at Hq Hqm Hqs;have HQ:=hide hq;have hwq:IntKind.i64.wrap ((q:Int)+1)=(q:Int)+1:=IntWalk.i64_in _ (by have:=Hq.out;omega);have hq0:(0:Int)≤(q:Int):=by omega
    have HWF:=hide (show (Lit.int .i64 ((q:Int)+1)).wf=true from WalkArith.wf_i64 (by have:=Hq.out;omega));have HkM:=hide (show k<maxLen by unfold maxLen;omega);clear KV KS b2 ga hRr ha hkl hts hseen hq;obtain⟨y,hy⟩:∃y,split a.name=y:=⟨_,rfl⟩;rw[hy] at HX HBd
    cases y with
    | none=>
     have HBd2:=hide (show (namesAt [] (t.attrs.take (k+1)))=(namesAt [] (t.attrs.take k)).or (some a.at_) by rw[HBd.out];simp);have HSo:=hide (show splCells (splOf a)=[.string ⟨#[]⟩,.string ⟨#[]⟩,.string ⟨#[]⟩,.int .i64 (a.at_:Int)] by unfold splOf;rw[hy];rfl);clear hy;unfold splV at HX
     go_wp2_with fail
     refine HX.out.mono ?_;rintro e w3 ⟨rfl,b3⟩;have B3:=hide (B2.out.trans (b3.mono B2.out.size));have KV3:=KV0.out.go b3;have KS3:=KS0.out.go b3;have C3:=hide (H3.out.go B3.out);have I3:=hide (H1.out.go B3.out);have O3:=hide (own_go H2.out B3.out);have M3:=hide (H4.out.go B3.out);have s0:w3.cell? ⟨wr.heap.size+1,0,none⟩=some _:=KS3.cell 0;have s1:w3.cell? ⟨wr.heap.size+1,1,none⟩=some _:=KS3.cell 1;have fs0:=KS3.frozen 0;have fs1:=KS3.frozen 1;have v0:w3.cell? ⟨wr.heap.size,0,none⟩=some (.string (bstr a.name)):=KV3.cell 0;have KS4:=hide (show Blk ((w3.setCell ⟨wr.heap.size+1,0,none⟩ (.string ⟨#[]⟩)).setCell ⟨wr.heap.size+1,1,none⟩ (.string ⟨#[]⟩)) (wr.heap.size+1) 150 #[.string ⟨#[]⟩,.string ⟨#[]⟩,.string ⟨#[]⟩,.int .i64 (a.at_:Int)] from (KS3.set_ 0 (.string ⟨#[]⟩)).set_ 1 (.string ⟨#[]⟩));have KV4:=hide ((KV3.far (p:=⟨wr.heap.size+1,0,none⟩) (by simp) (.string ⟨#[]⟩)).far (p:=⟨wr.heap.size+1,1,none⟩) (by simp) (.string ⟨#[]⟩));have C4:=hide ((C3.out.set (p:=⟨wr.heap.size+1,0,none⟩) (by simp;omega) (.string ⟨#[]⟩)).set (p:=⟨wr.heap.size+1,1,none⟩) (by simp;omega) (.string ⟨#[]⟩));have I4:=hide ((I3.out.far (p:=⟨wr.heap.size+1,0,none⟩) KS3 (by decide) (.string ⟨#[]⟩)).far (p:=⟨wr.heap.size+1,1,none⟩) (KS3.set_ 0 _) (by decide) (.string ⟨#[]⟩))
     have hO4:((w3.setCell ⟨wr.heap.size+1,0,none⟩ (.string ⟨#[]⟩)).setCell ⟨wr.heap.size+1,1,none⟩ (.string ⟨#[]⟩)).ownsRow w.heap.size 150 4 (.slice A k c) k (spls ((t.attrs.take k).map splOf)):=by
      have hfar:∀(X:World) (i:Nat) (u:Value),X.ownsRow w.heap.size 150 4 (.slice A k c) k (spls ((t.attrs.take k).map splOf))→(∀a',A=some a'→a'.block≠wr.heap.size+1)→(X.setCell ⟨wr.heap.size+1,i,none⟩ u).ownsRow w.heap.size 150 4 (.slice A k c) k (spls ((t.attrs.take k).map splOf)):=fun X i u hX hne=>hX.kept ⟨rfl,rfl,rfl,by simp[World.setCell],fun j _ hj=>Below.heap_setCell _ _ _ _ (fun e=>hj (by rw[e]))⟩ (by
       cases A with
       | none=>exact .inl rfl
       | some a'=>exact .inr (fun e=>hne a' rfl (by simpa[Value.ownBlock] using e)))
      have hne:∀a',A=some a'→a'.block≠wr.heap.size+1:=fun a' e=>by have:=(H2.out.lt a'.block (by rw[e];rfl)).2;omega
      exact hfar _ 1 _ (hfar _ 0 _ O3.out hne) hne
     have O4:=hide hO4;have M4:=hide ((M3.out.setCell (p:=⟨wr.heap.size+1,0,none⟩) (.inr (by have:=Hwr.out;simp;omega)) (.string ⟨#[]⟩)).setCell (p:=⟨wr.heap.size+1,1,none⟩) (.inr (by have:=Hwr.out;simp;omega)) (.string ⟨#[]⟩));have v4:((w3.setCell ⟨wr.heap.size+1,0,none⟩ (.string ⟨#[]⟩)).setCell ⟨wr.heap.size+1,1,none⟩ (.string ⟨#[]⟩)).cell? ⟨wr.heap.size,0,none⟩=some (.string (bstr a.name)):=KV4.out.cell 0;clear b3 KS3 KV3 hO4
     go_wp2_with first
      | (at_lookup;refine wpList_lookup_wanted _ (by kernel_rfl) _ _ _ (by rfl) _ _ _ (by rfl) (by rfl) HRun.out ?_)
      | (at_lookup;refine wpList_lookup_own_int _ rfl _ _ 146 rfl 9 3 .i64 law_str Tryz.underlying146 Tryz.underlying3 (zero_int _) Mb k D rfl C4.out.own _ _ rfl HK.out ?_;intro c0 hat hwf0;clear hwf0;have hc0:=C4.out.is_r HQ.out hat;subst hc0;clear hat)
      |(at_mapUpdate;refine wpList_mapUpdate_own _ rfl _ _ _ 146 rfl 9 3 law_str Tryz.underlying146 _ Mb k D rfl C4.out.own HkM.out _ _ _ rfl rfl HK.out _ [] (plainElem_int Tryz.underlying3 HWF.out) ?_
        intro w5 hown5 hgrow5;have C5:=hide (cnt_next C4.out HQ.out hown5);obtain⟨es4,cl4,hes4⟩:=C4.out.block;have I5:=hide (I4.out.kept hgrow5 (fun j hj t' _=>by cases hj;exact not_isT_map hes4));have O5:=hide (O4.out.kept hgrow5 (.inr (own_ne_map O4.out hes4)));have M5:=hide (M4.out.grown hgrow5 (fun j hj=>by cases hj;exact HMb.out.1));have KS5:=hide (KS4.out.grown hgrow5 (by simp;omega));have KV5:=KV4.out.grown hgrow5 (by simp;omega);have Hw5:=hide (show w.heap.size≤w5.heap.size from M5.out.size);have v0':w5.cell? ⟨wr.heap.size,0,none⟩=some (.string (bstr a.name)):=KV5.cell 0;have v2':w5.cell? ⟨wr.heap.size,2,none⟩=some (.int .i64 (a.at_:Int)):=KV5.cell 2;obtain⟨c1,hrun,hat,hwf1⟩:=C5.out.own.lookup_int law_str Tryz.underlying146 Tryz.underlying3 (zero_int _) HK.out;have hc1:c1=((q+1:Nat):Int):=C5.out.is_r Hqs.out hat;rw[show ((q+1:Nat):Int)=(q:Int)+1 by omega] at hc1;subst hc1;have HRun:=hide hrun;clear hwf1 hrun hat hown5 hgrow5 hes4 v0 v4 s0 s1 fs0 fs1 KV5)
     
     
     have HW:=hide (wrongB_any B P w5 st _ _ a.at_ 50 I5.out (Nat.le_trans HB.out Hw5.out));refine HW.out.mono ?_;rintro e w6 ⟨vb6,rfl,h1,h2⟩;have I6:=hide h1;have KS6:=h2.blk KS5.out (by have:=HP.out;omega);have C6:=hide (C5.out.but h2 HMb.out.2.symm);have O6:=hide (Mvs.own (B:=0) (T:=[]) (.of_but h2) O5.out I5.out.blk (by decide) (by simp));have M6:=hide (M5.out.trans h2);clear h1 h2;have p0':w6.cell? ⟨wr.heap.size+1,0,none⟩=some (.string ⟨#[]⟩):=KS6.cell 0;have p1':w6.cell? ⟨wr.heap.size+1,1,none⟩=some (.string ⟨#[]⟩):=KS6.cell 1;have p2':w6.cell? ⟨wr.heap.size+1,2,none⟩=some (.string ⟨#[]⟩):=KS6.cell 2;have p3':w6.cell? ⟨wr.heap.size+1,3,none⟩=some (.int .i64 (a.at_:Int)):=KS6.cell 3;have KL:=hide (Blk.new w6 150 [.string ⟨#[]⟩,.string ⟨#[]⟩,.string ⟨#[]⟩,.int .i64 (a.at_:Int)].toArray);clear KS6;dsimp only
     rename_i hK0
     refine hK0 _ _ ?_;clear hK0
     go_wp2_with (at_builtin;go_loud (refine wpList_append_elem_at _ (by rfl) (.tmp 69) (.tmp 71) 105 (by rfl) w.heap.size 150 _ 4 56 Tryz.underlying105 info_spl (by rfl) (by omega) (.slice A k c) k (spls ((t.attrs.take k).map splOf)) (by rfl) (O6.out.alloc _) [.string ⟨#[]⟩,.string ⟨#[]⟩,.string ⟨#[]⟩,.int .i64 (a.at_:Int)] (by rfl) (by rw[←HSo.out];exact spl_one _) w6.heap.size KL.out (by rfl) (by unfold maxLen;omega) (by omega) (by have:=M6.out.size;simp;omega) ?_);intro g8 cap8 w8 hown8 hgrow8 hlt8;have HO8:=hide hown8;have HG8:=hide hgrow8;clear hown8 hgrow8 hlt8)
     go_roundg (n-(k+1))
     case measure=>have:=Hg.out;omega
     case rel=>
      obtain⟨es5,cl5,hes5⟩:=(Cnt.go C6.out (below_alloc w6 (.cells [.string ⟨#[]⟩,.string ⟨#[]⟩,.string ⟨#[]⟩,.int .i64 (a.at_:Int)].toArray 150))).block;have hrow:∀j,(Value.slice A k c).ownBlock=some j→w.heap.size≤j∧IsT (w6.alloc (.cells [.string ⟨#[]⟩,.string ⟨#[]⟩,.string ⟨#[]⟩,.int .i64 (a.at_:Int)].toArray 150)) j 150:=fun j hj=>own_isT (O6.out.alloc _) j hj;refine⟨k+1,vb6,some ⟨g8,0,none⟩,cap8,D.put (.string a.name) (.lit (.int .i64 ((q:Int)+1))),rfl,by omega,by first|rfl|go_num,rfl,?_,?_,?_,?_⟩
      ·rw[HBd2.out,←Option.or_assoc,←orB_badV];exact (I6.out.go (below_alloc _ _)).kept HG8.out (fun j hj t' ht' hT=>isT_ne (hrow j hj).2 hT (by intro e;subst e;revert ht';decide))
      ·rw[HSp.out,HSo.out];exact HO8.out
      ·rw[HNm.out];exact (Cnt.go C6.out (below_alloc _ _)).kept HG8.out (fun e=>not_isT_map hes5 (hrow Mb e.symm).2)
      exact (M6.out.go (below_alloc _ _)).grown HG8.out (fun j hj=>(hrow j hj).1)
    | some pl=>
     obtain⟨pp,ll⟩:=pl;have HSo:=hide (show splCells (splOf a)=[.string (bstr pp),.string (bstr ll),.string ⟨#[]⟩,.int .i64 (a.at_:Int)] by unfold splOf;rw[hy];rfl);clear hy;unfold splV at HX;dsimp only at HX
     by_cases hmem:a.name∈seen
     ·have HBd2:=hide (show (namesAt [] (t.attrs.take (k+1)))=(namesAt [] (t.attrs.take k)).or (some a.at_) by rw[HBd.out];simp[hmem]);have hq1:0<q:=by rcases Nat.eq_zero_or_pos q with h|h;exact absurd hmem (Hqm.out.1 h);exact h
      have hgt:decide ((1:Int)<(q:Int)+1)=true:=by rw[decide_eq_true_iff];omega
      clear hmem hq1
      go_wp2_with fail
      refine HX.out.mono ?_;rintro e w3 ⟨rfl,b3⟩;have B3:=hide (B2.out.trans (b3.mono B2.out.size));have KV3:=KV0.out.go b3;have KS3:=KS0.out.go b3;have C3:=hide (H3.out.go B3.out);have I3:=hide (H1.out.go B3.out);have O3:=hide (own_go H2.out B3.out);have M3:=hide (H4.out.go B3.out);have s0:w3.cell? ⟨wr.heap.size+1,0,none⟩=some _:=KS3.cell 0;have s1:w3.cell? ⟨wr.heap.size+1,1,none⟩=some _:=KS3.cell 1;have fs0:=KS3.frozen 0;have fs1:=KS3.frozen 1;have v0:w3.cell? ⟨wr.heap.size,0,none⟩=some (.string (bstr a.name)):=KV3.cell 0;have KS4:=hide (show Blk ((w3.setCell ⟨wr.heap.size+1,0,none⟩ (.string (bstr pp))).setCell ⟨wr.heap.size+1,1,none⟩ (.string (bstr ll))) (wr.heap.size+1) 150 #[.string (bstr pp),.string (bstr ll),.string ⟨#[]⟩,.int .i64 (a.at_:Int)] from (KS3.set_ 0 (.string (bstr pp))).set_ 1 (.string (bstr ll)));have KV4:=hide ((KV3.far (p:=⟨wr.heap.size+1,0,none⟩) (by simp) (.string (bstr pp))).far (p:=⟨wr.heap.size+1,1,none⟩) (by simp) (.string (bstr ll)));have C4:=hide ((C3.out.set (p:=⟨wr.heap.size+1,0,none⟩) (by simp;omega) (.string (bstr pp))).set (p:=⟨wr.heap.size+1,1,none⟩) (by simp;omega) (.string (bstr ll)))
      have I4:=hide ((I3.out.far (p:=⟨wr.heap.size+1,0,none⟩) KS3 (by decide) (.string (bstr pp))).far (p:=⟨wr.heap.size+1,1,none⟩) (KS3.set_ 0 _) (by decide) (.string (bstr ll)))
      have hO4:((w3.setCell ⟨wr.heap.size+1,0,none⟩ (.string (bstr pp))).setCell ⟨wr.heap.size+1,1,none⟩ (.string (bstr ll))).ownsRow w.heap.size 150 4 (.slice A k c) k (spls ((t.attrs.take k).map splOf)):=by
       have hfar:∀(X:World) (i:Nat) (u:Value),X.ownsRow w.heap.size 150 4 (.slice A k c) k (spls ((t.attrs.take k).map splOf))→(∀a',A=some a'→a'.block≠wr.heap.size+1)→(X.setCell ⟨wr.heap.size+1,i,none⟩ u).ownsRow w.heap.size 150 4 (.slice A k c) k (spls ((t.attrs.take k).map splOf)):=fun X i u hX hne=>hX.kept ⟨rfl,rfl,rfl,by simp[World.setCell],fun j _ hj=>Below.heap_setCell _ _ _ _ (fun e=>hj (by rw[e]))⟩ (by
        cases A with
        | none=>exact .inl rfl
        | some a'=>exact .inr (fun e=>hne a' rfl (by simpa[Value.ownBlock] using e)))
       have hne:∀a',A=some a'→a'.block≠wr.heap.size+1:=fun a' e=>by have:=(H2.out.lt a'.block (by rw[e];rfl)).2;omega
       exact hfar _ 1 _ (hfar _ 0 _ O3.out hne) hne
      have O4:=hide hO4;have M4:=hide ((M3.out.setCell (p:=⟨wr.heap.size+1,0,none⟩) (.inr (by have:=Hwr.out;simp;omega)) (.string (bstr pp))).setCell (p:=⟨wr.heap.size+1,1,none⟩) (.inr (by have:=Hwr.out;simp;omega)) (.string (bstr ll)));have v4:((w3.setCell ⟨wr.heap.size+1,0,none⟩ (.string (bstr pp))).setCell ⟨wr.heap.size+1,1,none⟩ (.string (bstr ll))).cell? ⟨wr.heap.size,0,none⟩=some (.string (bstr a.name)):=KV4.out.cell 0;clear b3 KS3 KV3 hO4
      go_wp2_with first
       | (at_lookup;refine wpList_lookup_wanted _ (by kernel_rfl) _ _ _ (by rfl) _ _ _ (by rfl) (by rfl) HRun.out ?_)
       | (at_lookup;refine wpList_lookup_own_int _ rfl _ _ 146 rfl 9 3 .i64 law_str Tryz.underlying146 Tryz.underlying3 (zero_int _) Mb k D rfl C4.out.own _ _ rfl HK.out ?_;intro c0 hat hwf0;clear hwf0;have hc0:=C4.out.is_r HQ.out hat;subst hc0;clear hat)
       |(at_mapUpdate;refine wpList_mapUpdate_own _ rfl _ _ _ 146 rfl 9 3 law_str Tryz.underlying146 _ Mb k D rfl C4.out.own HkM.out _ _ _ rfl rfl HK.out _ [] (plainElem_int Tryz.underlying3 HWF.out) ?_
         intro w5 hown5 hgrow5;have C5:=hide (cnt_next C4.out HQ.out hown5);obtain⟨es4,cl4,hes4⟩:=C4.out.block;have I5:=hide (I4.out.kept hgrow5 (fun j hj t' _=>by cases hj;exact not_isT_map hes4));have O5:=hide (O4.out.kept hgrow5 (.inr (own_ne_map O4.out hes4)));have M5:=hide (M4.out.grown hgrow5 (fun j hj=>by cases hj;exact HMb.out.1));have KS5:=hide (KS4.out.grown hgrow5 (by simp;omega));have KV5:=KV4.out.grown hgrow5 (by simp;omega);have Hw5:=hide (show w.heap.size≤w5.heap.size from M5.out.size);have v0':w5.cell? ⟨wr.heap.size,0,none⟩=some (.string (bstr a.name)):=KV5.cell 0;have v2':w5.cell? ⟨wr.heap.size,2,none⟩=some (.int .i64 (a.at_:Int)):=KV5.cell 2;obtain⟨c1,hrun,hat,hwf1⟩:=C5.out.own.lookup_int law_str Tryz.underlying146 Tryz.underlying3 (zero_int _) HK.out;have hc1:c1=((q+1:Nat):Int):=C5.out.is_r Hqs.out hat;rw[show ((q+1:Nat):Int)=(q:Int)+1 by omega] at hc1;subst hc1;have HRun:=hide hrun;clear hwf1 hrun hat hown5 hgrow5 hes4 v0 v4 s0 s1 fs0 fs1 KV5)
      
      
      have HW:=hide (wrongB_any B P w5 st _ _ a.at_ 50 I5.out (Nat.le_trans HB.out Hw5.out));refine HW.out.mono ?_;rintro e w6 ⟨vb6,rfl,h1,h2⟩;have I6:=hide h1;have KS6:=h2.blk KS5.out (by have:=HP.out;omega);have C6:=hide (C5.out.but h2 HMb.out.2.symm);have O6:=hide (Mvs.own (B:=0) (T:=[]) (.of_but h2) O5.out I5.out.blk (by decide) (by simp));have M6:=hide (M5.out.trans h2);clear h1 h2;have p0':w6.cell? ⟨wr.heap.size+1,0,none⟩=some (.string (bstr pp)):=KS6.cell 0;have p1':w6.cell? ⟨wr.heap.size+1,1,none⟩=some (.string (bstr ll)):=KS6.cell 1;have p2':w6.cell? ⟨wr.heap.size+1,2,none⟩=some (.string ⟨#[]⟩):=KS6.cell 2;have p3':w6.cell? ⟨wr.heap.size+1,3,none⟩=some (.int .i64 (a.at_:Int)):=KS6.cell 3;have KL:=hide (Blk.new w6 150 [.string (bstr pp),.string (bstr ll),.string ⟨#[]⟩,.int .i64 (a.at_:Int)].toArray);clear KS6;dsimp only
      rename_i hK0
      refine hK0 _ _ ?_;clear hK0
      go_wp2_with (at_builtin;go_loud (refine wpList_append_elem_at _ (by rfl) (.tmp 69) (.tmp 71) 105 (by rfl) w.heap.size 150 _ 4 56 Tryz.underlying105 info_spl (by rfl) (by omega) (.slice A k c) k (spls ((t.attrs.take k).map splOf)) (by rfl) (O6.out.alloc _) [.string (bstr pp),.string (bstr ll),.string ⟨#[]⟩,.int .i64 (a.at_:Int)] (by rfl) (by rw[←HSo.out];exact spl_one _) w6.heap.size KL.out (by rfl) (by unfold maxLen;omega) (by omega) (by have:=M6.out.size;simp;omega) ?_);intro g8 cap8 w8 hown8 hgrow8 hlt8;have HO8:=hide hown8;have HG8:=hide hgrow8;clear hown8 hgrow8 hlt8)
      go_roundg (n-(k+1))
      case measure=>have:=Hg.out;omega
      case rel=>
       obtain⟨es5,cl5,hes5⟩:=(Cnt.go C6.out (below_alloc w6 (.cells [.string (bstr pp),.string (bstr ll),.string ⟨#[]⟩,.int .i64 (a.at_:Int)].toArray 150))).block;have hrow:∀j,(Value.slice A k c).ownBlock=some j→w.heap.size≤j∧IsT (w6.alloc (.cells [.string (bstr pp),.string (bstr ll),.string ⟨#[]⟩,.int .i64 (a.at_:Int)].toArray 150)) j 150:=fun j hj=>own_isT (O6.out.alloc _) j hj;refine⟨k+1,vb6,some ⟨g8,0,none⟩,cap8,D.put (.string a.name) (.lit (.int .i64 ((q:Int)+1))),rfl,by omega,by first|rfl|go_num,rfl,?_,?_,?_,?_⟩
       ·rw[HBd2.out,←Option.or_assoc,←orB_badV];exact (I6.out.go (below_alloc _ _)).kept HG8.out (fun j hj t' ht' hT=>isT_ne (hrow j hj).2 hT (by intro e;subst e;revert ht';decide))
       ·rw[HSp.out,HSo.out];exact HO8.out
       ·rw[HNm.out];exact (Cnt.go C6.out (below_alloc _ _)).kept HG8.out (fun e=>not_isT_map hes5 (hrow Mb e.symm).2)
       exact (M6.out.go (below_alloc _ _)).grown HG8.out (fun j hj=>(hrow j hj).1)
     ·have HBd2:=hide (show (namesAt [] (t.attrs.take (k+1)))=(namesAt [] (t.attrs.take k)) by rw[HBd.out];simp[hmem]);have hq1:q=0:=Hqm.out.2 hmem;have hgt:decide ((1:Int)<(q:Int)+1)=false:=by rw[decide_eq_false_iff_not];omega
      clear hmem hq1
      go_wp2_with fail
      refine HX.out.mono ?_;rintro e w3 ⟨rfl,b3⟩;have B3:=hide (B2.out.trans (b3.mono B2.out.size));have KV3:=KV0.out.go b3;have KS3:=KS0.out.go b3;have C3:=hide (H3.out.go B3.out);have I3:=hide (H1.out.go B3.out);have O3:=hide (own_go H2.out B3.out);have M3:=hide (H4.out.go B3.out);have s0:w3.cell? ⟨wr.heap.size+1,0,none⟩=some _:=KS3.cell 0;have s1:w3.cell? ⟨wr.heap.size+1,1,none⟩=some _:=KS3.cell 1;have fs0:=KS3.frozen 0;have fs1:=KS3.frozen 1;have v0:w3.cell? ⟨wr.heap.size,0,none⟩=some (.string (bstr a.name)):=KV3.cell 0;have KS4:=hide (show Blk ((w3.setCell ⟨wr.heap.size+1,0,none⟩ (.string (bstr pp))).setCell ⟨wr.heap.size+1,1,none⟩ (.string (bstr ll))) (wr.heap.size+1) 150 #[.string (bstr pp),.string (bstr ll),.string ⟨#[]⟩,.int .i64 (a.at_:Int)] from (KS3.set_ 0 (.string (bstr pp))).set_ 1 (.string (bstr ll)));have KV4:=hide ((KV3.far (p:=⟨wr.heap.size+1,0,none⟩) (by simp) (.string (bstr pp))).far (p:=⟨wr.heap.size+1,1,none⟩) (by simp) (.string (bstr ll)));have C4:=hide ((C3.out.set (p:=⟨wr.heap.size+1,0,none⟩) (by simp;omega) (.string (bstr pp))).set (p:=⟨wr.heap.size+1,1,none⟩) (by simp;omega) (.string (bstr ll)))
      have I4:=hide ((I3.out.far (p:=⟨wr.heap.size+1,0,none⟩) KS3 (by decide) (.string (bstr pp))).far (p:=⟨wr.heap.size+1,1,none⟩) (KS3.set_ 0 _) (by decide) (.string (bstr ll)))
      have hO4:((w3.setCell ⟨wr.heap.size+1,0,none⟩ (.string (bstr pp))).setCell ⟨wr.heap.size+1,1,none⟩ (.string (bstr ll))).ownsRow w.heap.size 150 4 (.slice A k c) k (spls ((t.attrs.take k).map splOf)):=by
       have hfar:∀(X:World) (i:Nat) (u:Value),X.ownsRow w.heap.size 150 4 (.slice A k c) k (spls ((t.attrs.take k).map splOf))→(∀a',A=some a'→a'.block≠wr.heap.size+1)→(X.setCell ⟨wr.heap.size+1,i,none⟩ u).ownsRow w.heap.size 150 4 (.slice A k c) k (spls ((t.attrs.take k).map splOf)):=fun X i u hX hne=>hX.kept ⟨rfl,rfl,rfl,by simp[World.setCell],fun j _ hj=>Below.heap_setCell _ _ _ _ (fun e=>hj (by rw[e]))⟩ (by
        cases A with
        | none=>exact .inl rfl
        | some a'=>exact .inr (fun e=>hne a' rfl (by simpa[Value.ownBlock] using e)))
       have hne:∀a',A=some a'→a'.block≠wr.heap.size+1:=fun a' e=>by have:=(H2.out.lt a'.block (by rw[e];rfl)).2;omega
       exact hfar _ 1 _ (hfar _ 0 _ O3.out hne) hne
      have O4:=hide hO4;have M4:=hide ((M3.out.setCell (p:=⟨wr.heap.size+1,0,none⟩) (.inr (by have:=Hwr.out;simp;omega)) (.string (bstr pp))).setCell (p:=⟨wr.heap.size+1,1,none⟩) (.inr (by have:=Hwr.out;simp;omega)) (.string (bstr ll)));have v4:((w3.setCell ⟨wr.heap.size+1,0,none⟩ (.string (bstr pp))).setCell ⟨wr.heap.size+1,1,none⟩ (.string (bstr ll))).cell? ⟨wr.heap.size,0,none⟩=some (.string (bstr a.name)):=KV4.out.cell 0;clear b3 KS3 KV3 hO4
      go_wp2_with first
       | (at_lookup;refine wpList_lookup_wanted _ (by kernel_rfl) _ _ _ (by rfl) _ _ _ (by rfl) (by rfl) HRun.out ?_)
       | (at_lookup;refine wpList_lookup_own_int _ rfl _ _ 146 rfl 9 3 .i64 law_str Tryz.underlying146 Tryz.underlying3 (zero_int _) Mb k D rfl C4.out.own _ _ rfl HK.out ?_;intro c0 hat hwf0;clear hwf0;have hc0:=C4.out.is_r HQ.out hat;subst hc0;clear hat)
       |(at_mapUpdate;refine wpList_mapUpdate_own _ rfl _ _ _ 146 rfl 9 3 law_str Tryz.underlying146 _ Mb k D rfl C4.out.own HkM.out _ _ _ rfl rfl HK.out _ [] (plainElem_int Tryz.underlying3 HWF.out) ?_
         intro w5 hown5 hgrow5;have C5:=hide (cnt_next C4.out HQ.out hown5);obtain⟨es4,cl4,hes4⟩:=C4.out.block;have I5:=hide (I4.out.kept hgrow5 (fun j hj t' _=>by cases hj;exact not_isT_map hes4));have O5:=hide (O4.out.kept hgrow5 (.inr (own_ne_map O4.out hes4)));have M5:=hide (M4.out.grown hgrow5 (fun j hj=>by cases hj;exact HMb.out.1));have KS5:=hide (KS4.out.grown hgrow5 (by simp;omega));have KV5:=KV4.out.grown hgrow5 (by simp;omega);have Hw5:=hide (show w.heap.size≤w5.heap.size from M5.out.size);have v0':w5.cell? ⟨wr.heap.size,0,none⟩=some (.string (bstr a.name)):=KV5.cell 0;have v2':w5.cell? ⟨wr.heap.size,2,none⟩=some (.int .i64 (a.at_:Int)):=KV5.cell 2;obtain⟨c1,hrun,hat,hwf1⟩:=C5.out.own.lookup_int law_str Tryz.underlying146 Tryz.underlying3 (zero_int _) HK.out;have hc1:c1=((q+1:Nat):Int):=C5.out.is_r Hqs.out hat;rw[show ((q+1:Nat):Int)=(q:Int)+1 by omega] at hc1;subst hc1;have HRun:=hide hrun;clear hwf1 hrun hat hown5 hgrow5 hes4 v0 v4 s0 s1 fs0 fs1 KV5;have KS6:=KS5.out;have p0':w5.cell? ⟨wr.heap.size+1,0,none⟩=some (.string (bstr pp)):=KS6.cell 0;have p1':w5.cell? ⟨wr.heap.size+1,1,none⟩=some (.string (bstr ll)):=KS6.cell 1;have p2':w5.cell? ⟨wr.heap.size+1,2,none⟩=some (.string ⟨#[]⟩):=KS6.cell 2
         have p3':w5.cell? ⟨wr.heap.size+1,3,none⟩=some (.int .i64 (a.at_:Int)):=KS6.cell 3;have KL:=hide (Blk.new w5 150 [.string (bstr pp),.string (bstr ll),.string ⟨#[]⟩,.int .i64 (a.at_:Int)].toArray);clear KS6)
       | (at_builtin;go_loud (refine wpList_append_elem_at _ (by rfl) (.tmp 69) (.tmp 71) 105 (by rfl) w.heap.size 150 _ 4 56 Tryz.underlying105 info_spl (by rfl) (by omega) (.slice A k c) k (spls ((t.attrs.take k).map splOf)) (by rfl) (O5.out.alloc _) [.string (bstr pp),.string (bstr ll),.string ⟨#[]⟩,.int .i64 (a.at_:Int)] (by rfl) (by rw[←HSo.out];exact spl_one _) w5.heap.size KL.out (by rfl) (by unfold maxLen;omega) (by omega) (by have:=M5.out.size;simp;omega) ?_);intro g8 cap8 w8 hown8 hgrow8 hlt8;have HO8:=hide hown8;have HG8:=hide hgrow8;clear hown8 hgrow8 hlt8)
      
      go_roundg (n-(k+1))
      case measure=>have:=Hg.out;omega
      case rel=>
       obtain⟨es5,cl5,hes5⟩:=(Cnt.go C5.out (below_alloc w5 (.cells [.string (bstr pp),.string (bstr ll),.string ⟨#[]⟩,.int .i64 (a.at_:Int)].toArray 150))).block;have hrow:∀j,(Value.slice A k c).ownBlock=some j→w.heap.size≤j∧IsT (w5.alloc (.cells [.string (bstr pp),.string (bstr ll),.string ⟨#[]⟩,.int .i64 (a.at_:Int)].toArray 150)) j 150:=fun j hj=>own_isT (O5.out.alloc _) j hj;refine⟨k+1,vb,some ⟨g8,0,none⟩,cap8,D.put (.string a.name) (.lit (.int .i64 ((q:Int)+1))),rfl,by omega,by first|rfl|go_num,rfl,?_,?_,?_,?_⟩
       ·rw[HBd2.out,show (own0_ t).or (namesAt [] (t.attrs.take k))=(own0_ t).or (namesAt [] (t.attrs.take k)) from rfl];exact (I5.out.go (below_alloc _ _)).kept HG8.out (fun j hj t' ht' hT=>isT_ne (hrow j hj).2 hT (by intro e;subst e;revert ht';decide))
       ·rw[HSp.out,HSo.out];exact HO8.out
       ·rw[HNm.out];exact (Cnt.go C5.out (below_alloc _ _)).kept HG8.out (fun e=>not_isT_map hes5 (hrow Mb e.symm).2)
       exact (M5.out.go (below_alloc _ _)).grown HG8.out (fun j hj=>(hrow j hj).1)
   ·have hall:k=n:=by omega
    subst hall;have e1:t.attrs.take k=t.attrs:=List.take_of_length_le (by rw[HN.out];exact Nat.le_refl _);have I:=hide H1.out;have O:=hide H2.out;rw[e1] at I O;rw[←names_is] at I;clear e1;go_wp2;go_ret3;exact⟨vb,A,c,by rw[HN.out];rfl,I.out,by rw[HN.out];exact O.out,H4.out⟩
end
end Go.Proofs.YtifiiojchlaghaaGreatDoor
