/- Strict: a map that counts names with their namespaces: keys that are structs; 'there[n]++' by an entry. And more. -/
import Derived.Test.YtifiiojchlaghaaGreatDoorOm16
import Derived.WideKeyEntry
import Derived.DeepKeys4
import Derived.Deep.DeepCutAuto
set_option linter.unusedSimpArgs false
set_option maxRecDepth 100000
set_option maxHeartbeats 32000000
set_option linter.unusedVariables false
namespace Go.Proofs.YtifiiojchlaghaaGreatDoor
section
open Go.RowKit Tk Sx Go.WideShapes

theorem ae8:laidOutB Tryz.prog=true:=by kernel_rfl
theorem V0:(57:TypeId)<Tryz.prog.types.size:=of_decide_eq_true (by kernel_rfl)
theorem aah:Tryz.prog.keyTypeAt 2 57=true:=by kernel_rfl
theorem Lp:WideMaps.KeyLaw Tryz.prog 57:=deep_law_laid ae8 (m:=2) (by decide) V0 aah (by rw[Tryz.underlying57])
theorem E4:Maps.Keyed Tryz.prog 57:=Maps.Keyed.of_law Lp
theorem Qw:Tryz.prog.cellsOf 57=2:=by kernel_rfl
theorem aaV:Tryz.prog.cellsOf 9=1:=by kernel_rfl
theorem aeW:Tryz.prog.keyType 57=true:=by kernel_rfl
theorem ako:∃m,Tryz.prog.types.size=m+1:=by
 have h:=V0;generalize Tryz.prog.types.size=s at h
 cases s with
 | zero=>cases h
 | succ m=>exact⟨m,rfl⟩
def tS(x:Nm):Value:=.agg #[.string (aa x.ns),.string (aa x.loc)]
def kG(x:Nm):Lit:=.string (keyBytes [.string x.ns,.string x.loc])
def j7(x:Nm):Prop:=x.ns.length≤1000000000∧x.loc.length≤1000000000
theorem xY{x:Nm}(h:j7 x):keyOf Tryz.prog 57 (tS x)=some (kG x):=by
 have h1:(aa x.ns).size≤maxLen:=by rw[aW];unfold maxLen;have:=h.1;omega
 have h2:(aa x.loc).size≤maxLen:=by rw[aW];unfold maxLen;have:=h.2;omega
 obtain⟨m,hm⟩:=ako;unfold keyOf tS;simp only[Tryz.underlying57];rw[if_pos (by simp[aeW,Value.formed,Tryz.underlying57,Qw]),hm];unfold Program.keyLits;simp only[Tryz.underlying57,Value.cells];simp[Qw,aaV,Program.keyLits,Tryz.underlying9,h1,h2,List.mapM_cons,kG,bg]
theorem afT{x y:Nm}(h:tS x=tS y):x=y:=by
 unfold tS at h;simp only[Value.agg.injEq,Array.mk.injEq,List.cons.injEq,Value.string.injEq,and_true] at h
 cases x;cases y
 simp only[Nm.mk.injEq];exact⟨str_inj h.1,str_inj h.2⟩
theorem Um{x y:Nm}(hx:j7 x)(hy:j7 y)(h:kG x=kG y):x=y :=
 afT (Lp.inj (xY hx) (by rw[h];exact xY hy))
structure fB(w:World)(b n:Nat)(seen:List Nm)(D:DataW Unit):Prop where
 own:w.ownsMap Tryz.prog 57 (plainElem Tryz.prog 3) b n D
 is:Maps.IsMap D
 at_:∀x:Nm,j7 x→D.atKey (kG x) (.lit (.int .i64 0))=.lit (.int .i64 (seen.count x:Nat))
theorem fB.go{w w':World}{b n:Nat}{seen:List Nm}{D:DataW Unit}(h:fB w b n seen D)(hb:Below w.heap.size w w'):fB w' b n seen D:=⟨oT h.own (hb.block _ h.own.lt),h.is,h.at_⟩
theorem fB.set{w:World}{b n:Nat}{seen:List Nm}{D:DataW Unit}(h:fB w b n seen D){p:Addr}(hp:b≠p.block)(u:Value):fB (w.setCell p u) b n seen D:=⟨oT h.own (Below.heap_setCell _ _ _ _ hp),h.is,h.at_⟩
theorem fB.but{w w':World}{P b n:Nat}{seen:List Nm}{D:DataW Unit}(h:fB w b n seen D)(hb:ai P w w')(hP:b≠P):fB w' b n seen D:=⟨oT h.own (hb.block _ h.own.lt hP),h.is,h.at_⟩
theorem fB.kept{w w':World}{row:Option Nat}{b n:Nat}{seen:List Nm}{D:DataW Unit}(h:fB w b n seen D)(hg:w.grownBy w' row)(hne:some b≠row):fB w' b n seen D:=⟨h.own.kept hg hne,h.is,h.at_⟩
theorem fB.block{w:World}{b n:Nat}{seen:List Nm}{D:DataW Unit}(h:fB w b n seen D):∃es cl,w.heap[b]?=some (.map es cl):=by
 obtain⟨es,cl,hb,_⟩:=h.own;exact⟨es,cl,hb⟩
theorem aa1(w:World):fB (w.alloc (.map #[] 0)) w.heap.size 0 [] (.map []):=⟨World.ownsMap_made _ _ _ _,Maps.isMap_empty,fun _ _=>rfl⟩
theorem fB.rG{w:World}{b n q:Nat}{seen:List Nm}{D:DataW Unit}{x:Nm}{c:Int}(h:fB w b n seen D)(hx:j7 x)(hq:seen.count x=q)(hc:D.atKey (kG x) (.lit (.int .i64 0))=.lit (.int .i64 c)):c=(q:Int):=by
 rw[h.at_ x hx,hq] at hc;injection hc with hc
 injection hc with _ hc
 exact hc.symm
theorem aa0{w w':World}{b n q:Nat}{seen:List Nm}{D:DataW Unit}{x:Nm}(h:fB w b n seen D)(hx:j7 x)(hq:seen.count x=q)(ho:w'.ownsMap Tryz.prog 57 (plainElem Tryz.prog 3) b (n+1) (D.put (kG x) (.lit (.int .i64 ((q:Int)+1))))):fB w' b (n+1) (seen++[x]) (D.put (kG x) (.lit (.int .i64 ((q:Int)+1)))):=by
 subst hq;refine⟨ho,h.is.put _ _,fun y hy=>?_⟩
 by_cases hm:y=x
 ·subst hm;rw[Maps.atKey_put_same h.is (by simp[WideAt.IsKeyLit,kG])];simp
 rw[Maps.atKey_put_other (fun e=>hm (Um hy hx e)),h.at_ y hy,List.count_append,List.count_singleton];have:(x==y)=false:=by rw[beq_eq_false_iff_ne];exact fun e=>hm e.symm
 rw[this];simp
theorem aiP{w:World}{b:Nat}{o:Obj}:(ChangeMaps.setBlock w b o).heap.size=w.heap.size:=by simp[ChangeMaps.setBlock]
theorem wu{w:World}{b:Nat}{o o':Obj}(h:w.heap[b]?=some o'):(ChangeMaps.setBlock w b o).heap[b]?=some o:=by
 have hlt:=(Array.getElem?_eq_some_iff.1 h).1;simp[ChangeMaps.setBlock,hlt]
theorem Wh{w:World}{b:Nat}{o o':Obj}(h:w.heap[b]?=some o'):w.grownBy (ChangeMaps.setBlock w b o) (some b) :=
 ⟨rfl,rfl,rfl,by simp[ChangeMaps.setBlock],fun k _ hk=>by
  have hne:b≠k:=fun e=>hk (by rw[e]);simp[ChangeMaps.setBlock,Array.getElem?_setIfInBounds,hne]⟩
theorem agt{w:World}{t k e b n:Nat}{D:DataW Unit}{P:Program}{q:IntKind}(h:w.ownsMap P k (plainElem P e) b n D)(K:WideMaps.KeyLaw P k)(ht:P.underlying t=some (.map k e))(he:P.underlying e=some (.int q))(hz:∀u:World,(zeroValue e).run P u=.ok (.int q 0) u)(hn:n<maxLen)
  {key:Value} {kl:Lit} (hkey:keyOf P k key=some kl) :
  ∃(v0:Value) (st:Nat) (w1:World),(Instr.mapEntry t (.map (some b)) key).run P w=.ok (.tuple #[v0,Value.int .i64 (st:Int)]) w1∧w.grownBy w1 (some b)∧w1.heap.size=w.heap.size∧
   (Instr.lookup t (.map (some b)) key false).run P w1=.ok v0 w1∧(Instr.lookup t (.map (some b)) key false).run P w=.ok v0 w∧
   ∀(val:Value) (d:DataW Unit) (ps:List MemPlace),plainElem P e val=some (d,ps)→∀w2:World,w2.heap[b]?=w1.heap[b]?→
    ∃w3,(Instr.entryStore t (.map (some b)) (.int .i64 (st:Int)) val).run P w2=.ok () w3∧w3.ownsMap P k (plainElem P e) b (n+1) (D.put kl d)∧w2.grownBy w3 (some b):=by
 obtain⟨es,clock,hb,F,hsz,hD⟩:=h;have Ky:=Maps.Keyed.of_law K;have hown:w.ownsMap P k (plainElem P e) b n D:=⟨es,clock,hb,F,hsz,hD⟩;obtain⟨v0,st,xk,xc,lG,hv0,hst⟩:=WideElems.entry_then_store K ht hz hb F hkey;have au:(ChangeMaps.setBlock w b (.map xk xc)).heap[b]?=some (.map xk xc):=wu hb;refine⟨v0,st,ChangeMaps.setBlock w b (.map xk xc),lG,Wh hb,aiP,?_,?_,?_⟩
 ·rcases Ky.find w hkey es.toList F.keys with ⟨h1,h2⟩|⟨j,e0,h1,h2,h3⟩
  ·have AL:(Instr.mapEntry t (.map (some b)) key).run P w=.ok (.tuple #[.int q 0,.int .i64 (clock:Int)]) (ChangeMaps.setBlock w b (.map (es.push ⟨key,.int q 0,clock⟩) (clock+1))):=by
    simp[Instr.mapEntry,run_underlying ht,MapKept.run_getObj_map hb,Ky.check w false hkey,h1,hz,MapKept.run_setObj_map _ hb,Result.andThen,ChangeMaps.setBlock];rfl
   rw[AL] at lG;simp only[Result.ok.injEq] at lG;obtain⟨e1,e2⟩:=lG;have e3:(ChangeMaps.setBlock w b (.map (es.push ⟨key,.int q 0,clock⟩) (clock+1))).heap[b]?=some (.map xk xc):=by rw[e2];exact au
   rw[wu hb] at e3;simp only[Option.some.injEq,Obj.map.injEq] at e3;obtain⟨e4,e5⟩:=e3;have ez:v0=.int q 0:=by simp at e1;exact e1.1.symm
   subst e4 e5;rw[ez]
   rcases Ky.find (ChangeMaps.setBlock w b (.map (es.push ⟨key,.int q 0,clock⟩) (clock+1))) hkey (es.push ⟨key,.int q 0,clock⟩).toList (fun x hx=>by
    rw[Array.toList_push,List.mem_append] at hx
    rcases hx with hx|hx
    ·exact F.keys x hx
    simp only[List.mem_singleton] at hx;subst hx;exact⟨kl,hkey⟩) with ⟨_,q2⟩|⟨j,e0,q1,q2,q3⟩
   ·exact absurd rfl (q2 ⟨key,.int q 0,clock⟩ (by simp))
   have hv:e0.val=.int q 0:=by
    have:=List.mem_of_getElem? q2;rw[Array.toList_push,List.mem_append] at this
    rcases this with hx|hx
    ·exact absurd q3 (h2 e0 hx)
    simp only[List.mem_singleton] at hx;rw[hx]
   rw[Array.toList_push] at q1;simp[Instr.lookup,run_underlying ht,MapKept.run_getObj_map au,Ky.check _ _ hkey,q1,Result.andThen,hv]
  have hj:es[j]?=some e0:=by simpa using h2
  have AL:(Instr.mapEntry t (.map (some b)) key).run P w=.ok (.tuple #[e0.val,.int .i64 (e0.born:Int)]) (ChangeMaps.setBlock w b (.map es clock)):=by
   have AZ:es.modify j (fun e=>{ e with key:=key })=es:=by
    apply Array.ext'
    rw[Array.toList_modify,ChangeMaps.modify_eq_set _ _ _ _ h2];have:({ e0 with key:=key }:MapEntry)=e0:=by rw[←h3]
    rw[this];exact WideElems.set_self _ _ _ h2
   simp[Instr.mapEntry,run_underlying ht,MapKept.run_getObj_map hb,Ky.check w false hkey,h1,hj,h3,Ky.stays w hkey,AZ,MapKept.run_setObj_map _ hb,Result.andThen,ChangeMaps.setBlock];rfl
  rw[AL] at lG;simp only[Result.ok.injEq] at lG;obtain⟨e1,e2⟩:=lG;have e3:(ChangeMaps.setBlock w b (.map es clock)).heap[b]?=some (.map xk xc):=by rw[e2];exact au
  rw[wu hb] at e3;simp only[Option.some.injEq,Obj.map.injEq] at e3;obtain⟨e4,e5⟩:=e3;have ev:v0=e0.val:=by simp at e1;exact e1.1.symm
  subst e4 e5 ev;have hsm:(ChangeMaps.setBlock w b (.map es clock)).ownsMap P k (plainElem P e) b n D:=oT hown (by rw[wu hb,hb]);obtain⟨c,r1,a1,_⟩:=hown.lookup_int Ky ht he (hz w) hkey;obtain⟨c',r2,a2,_⟩:=hsm.lookup_int Ky ht he (hz _) hkey;rw[a1] at a2;have ec:c=c':=by injection a2 with a2;injection a2 with _ a2
  have hl:(Instr.lookup t (.map (some b)) key false).run P w=.ok e0.val w:=by simp[Instr.lookup,run_underlying ht,MapKept.run_getObj_map hb,Ky.check w _ hkey,h1,Result.andThen]
  rw[hl] at r1;simp only[Result.ok.injEq,and_true] at r1;rw[r1,ec];exact r2
 ·rcases Ky.find w hkey es.toList F.keys with ⟨h1,h2⟩|⟨j,e0,h1,h2,h3⟩
  ·rcases hv0 with ⟨e0,q1,q2,_⟩|⟨_,q2⟩
   ·exact absurd q2 (h2 e0 q1)
   rw[q2];simp[Instr.lookup,run_underlying ht,MapKept.run_getObj_map hb,Ky.check w _ hkey,h1,hz,Result.andThen]
  have hj:es[j]?=some e0:=by simpa using h2
  have AL:(Instr.mapEntry t (.map (some b)) key).run P w=.ok (.tuple #[e0.val,.int .i64 (e0.born:Int)]) (ChangeMaps.setBlock w b (.map es clock)):=by
   have AZ:es.modify j (fun e=>{ e with key:=key })=es:=by
    apply Array.ext'
    rw[Array.toList_modify,ChangeMaps.modify_eq_set _ _ _ _ h2];have:({ e0 with key:=key }:MapEntry)=e0:=by rw[←h3]
    rw[this];exact WideElems.set_self _ _ _ h2
   simp[Instr.mapEntry,run_underlying ht,MapKept.run_getObj_map hb,Ky.check w false hkey,h1,hj,h3,Ky.stays w hkey,AZ,MapKept.run_setObj_map _ hb,Result.andThen,ChangeMaps.setBlock];rfl
  rw[AL] at lG;simp only[Result.ok.injEq] at lG;obtain⟨e1,e2⟩:=lG;have e3:(ChangeMaps.setBlock w b (.map es clock)).heap[b]?=some (.map xk xc):=by rw[e2];exact au
  rw[wu hb] at e3;simp only[Option.some.injEq,Obj.map.injEq] at e3;obtain⟨e4,e5⟩:=e3;have ev:v0=e0.val:=by simp at e1;exact e1.1.symm
  rw[ev];simp[Instr.lookup,run_underlying ht,MapKept.run_getObj_map hb,Ky.check w _ hkey,h1,Result.andThen]
 intro val d ps hval w2 hw2;obtain⟨es',cl',g1,g2⟩:=hst w2 val (by rw[hw2];exact au);obtain⟨w',u1,u2,_⟩:=hown.update Ky ht hn hkey hval;rw[g2] at u1;simp only[Result.ok.injEq,true_and] at u1;refine⟨ChangeMaps.setBlock w2 b (.map es' cl'),g1,oT u2 ?_,Wh (hw2.trans au)⟩;rw[←u1,wu (hw2.trans au),wu hb]
end
section
open Go.RowKit Tk Sx

theorem aat(sc:List ay)(l:List bR)(s:bR):cE sc (l++[s])=cE sc l++(if (declares s).2 then [] else [⟨pE sc s,s.val⟩]):=by
 induction l with
 | nil=>simp only[List.nil_append,cE]
 | cons x l ih=>
  rw[List.cons_append,cE,cE,ih];split
  ·rfl
  rfl
theorem aar(sc:List ay)(l:List bR)(s:bR):∀seen:List Nm,jg sc seen (l++[s])=(jg sc seen l).or (if (declares s).2 then none else if (uP sc s).2=false∨pE sc s∈seen++(cE sc l).map (·.name) then some s.at_ else none):=by
 induction l with
 | nil=>intro seen;simp only[List.nil_append,jg,cE,List.map_nil,List.append_nil,Option.none_or]
 | cons x l ih=>
  intro seen;rw[List.cons_append,jg,jg,cE]
  by_cases hd:(declares x).2=true
  ·rw[if_pos hd,if_pos hd,if_pos hd,ih]
  rw[if_neg hd,if_neg hd,if_neg hd]
  by_cases hb:(uP sc x).2=false∨pE sc x∈seen
  ·rw[if_pos hb,if_pos hb];rfl
  rw[if_neg hb,if_neg hb,ih,List.map_cons,List.append_assoc];rfl
theorem aas(sc:List ay)(l:List bR):(cE sc l).length≤l.length:=by
 induction l with
 | nil=>simp[cE]
 | cons x l ih=>
  rw[cE];split
  ·simp;omega
  simp;omega
theorem agj(bd:bQ)(x:Option Nat)(a:Nat):ym (bd.or (dv x)) a 50=bd.or (dv (x.or (some a))):=by cases bd<;>cases x<;>rfl
theorem aak(a:fA):(mh a).length=3:=rfl
theorem aaz(l:List fA)(a:fA):jh (l++[a])=jh l++mh a:=by simp[jh]
theorem aam(a:fA):∀u∈mh a,u.oneCell'=true:=by
 intro u hu;simp only[mh,List.mem_cons,List.not_mem_nil,or_false] at hu
 rcases hu with rfl|rfl|rfl<;>rfl
theorem ajd{sc:List ay}{p:L}(h:∀d∈sc,d.ns.length≤1000000000):(lT sc p).1.length≤1000000000:=by
 unfold lT;split
 ·decide
 unfold tV
 cases hf:(sc.take sc.length).reverse.find? fun d=>decide (d.pre=p) with
 | none=>simp
 | some d=>
  have:=List.mem_of_find?_eq_some hf;rw[List.mem_reverse] at this;exact h d (List.mem_of_mem_take this)
theorem Vb{P:Program}{o:Oper}{a:Act}{K:Act→World→Prop}{Q:Exit→Act→World→Prop}(W:World)(hgd:o.guard=none)(s x:Operand)(t:TypeId)(ho:o.op=.call { callee:=.builtin .append,args:=#[s,x],argTypes:=#[t,t] })
  (base:Nat) (e:TypeId) (z:Value) (size bytes:Nat) (ht:P.underlying t=some (.slice e)) (fQ:(P.info? e).map (fun i=>(i.zero,i.size,i.bytes))=some (some z,size,bytes))
  (hzs:z.cells.size=size) (hsz:0<size) (v:Value) (n:Nat) (xs:List Value) (hs:a.eval s=v) (hown:W.ownsRow base e size v n xs)
  (cs:List Value) (hcs:cs.length=size) (h1:∀u∈cs,u.oneCell'=true) (H:Nat) (hH:ae W H e cs.toArray) (hx:a.eval x=.slice (some ⟨H,0,none⟩) 1 1)
  (h63:n+1≤maxLen) (hbytes:(n+1)*bytes≤140737488355328) (hbase:base≤W.heap.size)
  (h:∀g cap w',w'.ownsRow base e size (.slice (some ⟨g,0,none⟩) (n+1) cap) (n+1) (xs++cs)→W.grownBy w' v.ownBlock→g<w'.heap.size→K (a.put o.dst (.slice (some ⟨g,0,none⟩) (n+1) cap)) w'):Oper.wp P o a W K Q:=by
 have hh:=Fy (ops:=#[]) (Q:=Q) (E:=True) W hgd s x t ho base e z size bytes ht fQ hzs hsz v n xs hs hown cs hcs h1 H hH hx h63 hbytes hbase h;rw[if_pos (by simp[Region.wanted,hgd])] at hh;exact hh
theorem PI.aeV{B P Z:Nat}{w w':World}{st:St}{b:bQ}{v:Pv}{row:Option Nat}(h:PI B P w st b v)(h0:∀x∈v.xs,∀a,x.A=some a→a.block<Z)(hg:w.grownBy w' row)
  (hr:∀k,row=some k→Z≤k∧∀t∈[80,110,152,62,88],¬bJ w k t):PI B P w' st b v:=by
 have hb:∀{k t:Nat},bJ w k t→t∈[80,110,152,62,88]→w'.heap[k]?=w.heap[k]?:=fun {k t} hk ht=>hg.block k hk.lt fun e=>(hr k e.symm).2 t ht hk
 have ho:∀{e size n:Nat} {v:Value} {xs:List Value},w.ownsRow B e size v n xs→e∈[80,110,152,62,88]→w'.ownsRow B e size v n xs:=fun {e size n v xs} hw he=>hw.kept hg (by
  cases hv:v.ownBlock with
  | none=>exact .inl rfl
  | some k=>exact .inr fun e1=>(hr k e1.symm).2 e he (aI hw k hv).2)
 refine⟨(hb h.blk.ft (by simp)).trans h.blk,h.bp,ho h.o (by simp),ho h.s (by simp),ho h.e (by simp),h.ev,fun x hx=>?_,?_⟩
 ·have hi:=h.gX x hx;have sa:∀a,x.A=some a→w'.heap[a.block]?=w.heap[a.block]?:=fun a ha=>hg.block _ (hi.ta a ha).lt fun e=>by have:=(hr _ e.symm).1;have:=h0 x hx a ha;omega
  exact⟨hi.a.same sa hg.size,hi.va,hi.ta.same sa⟩
 have h1:=h.bad;unfold gN at h1 ⊢
 cases b with
 | none=>exact h1
 | some x=>
  obtain⟨F,q1,q2,q3⟩:=h1;exact⟨F,q1,q2,(hb q3.ft (by simp)).trans q3⟩
def XH(B P:Nat)(w:World)(st:St)(bd:bQ)(v:Pv)(ss:List bR)(e:Ending)(w':World):Prop :=
 ∃vb A c,e=.returned (.slice A (cE st.scope ss).length c)∧PI B P w' st (bd.or (dv (jg st.scope [] ss))) ⟨v.Ao,v.co,v.As,v.cs,v.Ae,v.ce,vb,v.xs⟩∧
  w'.ownsRow w.heap.size 125 3 (.slice A (cE st.scope ss).length c) (cE st.scope ss).length (jh (cE st.scope ss))∧ai P w w'
def Pz(B P N Mb:Nat)(w:World)(st:St)(bd:bQ)(v:Pv)(nm:Nm)(A:Option Addr)(c m n:Nat)(aw:List fA)(D:DataW Unit)(seen:List Nm)(W:World):Prop :=
 ∃vb,PI B P W st bd ⟨v.Ao,v.co,v.As,v.cs,v.Ae,v.ce,vb,v.xs⟩∧ae W N 57 #[.string (aa nm.ns),.string (aa nm.loc)]∧W.ownsRow w.heap.size 125 3 (.slice A m c) m (jh aw)∧fB W Mb n seen D∧ai P w W

theorem aau(B P base:Nat)(w:World)(st:St)(bd:bQ)(v:Pv)(ss:List bR)(Al:Option Addr)(cl:Nat)(h:PI B P w st bd v)(hB:B≤w.heap.size)
  (hl:w.ownsRow base 150 4 (.slice Al ss.length cl) ss.length (bP ss)) (hn:ss.length≤100000000) (hs:st.scope.length≤1000000000) (hsm:∀s∈ss,s.loc.length≤1000000000) (pN:∀d∈st.scope,d.ns.length≤1000000000) :
  Calls Tryz.prog 60 #[.pointer (some ⟨P,0,none⟩),.slice Al ss.length cl] w (XH B P w st bd v ss):=by
 have H:=hide h;have HB:=hide hB;have Hl:=hide hl;have Hs:=hide hs;have Pn:=hide hsm;have CQ:=hide pN;obtain⟨n,bC⟩:∃n,ss.length=n:=⟨_,rfl⟩;rw[bC] at hn Hl ⊢;have HN:=hide bC;have ir:=@run_makeMap Tryz.prog;have C0:=hide (aa1 w);have I1:=hide (h.go (aA w (.map #[] 0)));have JP:P≠w.heap.size:=by have:=h.blk.lt;omega
 have B1:=hide (ai.b7 (R:=P) (aA w (.map #[] 0)));obtain⟨Mb,vg⟩:∃Mb,w.heap.size=Mb:=⟨_,rfl⟩;have Cz:=hide vg;rw[vg] at C0 JP;have Oo:=hide JP;clear h hB hl bC hs hsm pN JP vg
 go_enter Tryz.func60,Tryz.ntmps60
 go_wp2;rw[Cz.out];clear ir
 go_loopg [16,4] n (fun gk vk vl wr=>∃(k:Nat) (vb:Value) (A:Option Addr) (c:Nat) (D:DataW Unit),gk=n-k∧k≤n∧vk=.int .i64 (k:Int)∧vl=.slice A (cE st.scope (ss.take k)).length c∧
  PI B P wr st (bd.or (dv (jg st.scope [] (ss.take k)))) ⟨v.Ao,v.co,v.As,v.cs,v.Ae,v.ce,vb,v.xs⟩∧
  wr.ownsRow w.heap.size 125 3 (.slice A (cE st.scope (ss.take k)).length c) (cE st.scope (ss.take k)).length (jh (cE st.scope (ss.take k)))∧fB wr Mb (cE st.scope (ss.take k)).length ((cE st.scope (ss.take k)).map (·.name)) D∧ai P w wr)
 case atStart=>exact⟨0,_,none,0,_,rfl,by omega,rfl,rfl,by rw[List.take_zero,jg];simpa[dv] using I1.out,World.ownsRow_nil _ _ _ _,C0.out,B1.out⟩
 case round=>
  obtain⟨k,vb,A,c,D,aq,hk,rfl,rfl,h1,h2,h3,h4⟩:=hrel;have Hg:=hide aq;have H1:=hide h1;have H2:=hide h2;have H3:=hide h3;have H4:=hide h4;clear aq h1 h2 h3 h4 C0 I1 B1
  by_cases hlt:k<n
  ·obtain⟨s,hs⟩:∃s,ss[k]?=some s:=⟨_,List.getElem?_eq_getElem (by rw[HN.out];exact hlt)⟩;have eE:k<ss.length:=by rw[HN.out];exact hlt
   have O1:=hide (bw.own (B:=0) (T:=[]) (.fc H4.out) Hl.out H.out.blk (by decide) (by simp));obtain⟨lg,lc,kB,eP,lF⟩:=O1.out.form (by omega);have mm:Al=some ⟨lg,0,none⟩:=by injection kB
   subst mm;cases kB;have Sp:=hide (Fx O1.out HN.out hs);have vP:IntKind.i64.wrap ((k:Int)+1)=(k:Int)+1:=IntWalk.i64_in _ (by omega);have iy:ss.take (k+1)=ss.take k++[s]:=by rw[List.take_succ_eq_append_getElem eE,(List.getElem?_eq_some_iff.1 hs).2]
   have fC:=hide (show cE st.scope (ss.take (k+1))=cE st.scope (ss.take k)++(if (declares s).2 then [] else [⟨pE st.scope s,s.val⟩]) by rw[iy];exact aat _ _ _);have a8:=hide (show jg st.scope [] (ss.take (k+1))=(jg st.scope [] (ss.take k)).or (if (declares s).2 then none else if (uP st.scope s).2=false∨pE st.scope s∈(cE st.scope (ss.take k)).map (·.name) then some s.at_ else none) by rw[iy];exact aar _ _ _ _);have HD:=hide (QK s wr lg (k*4) Sp.out);have mg:=hide (show w.heap.size≤wr.heap.size from H4.out.size);have YQ:=hide (show s.loc.length≤1000000000 from Pn.out s (List.mem_of_getElem? hs));have gB:=hide (show (cE st.scope (ss.take k)).length≤k by have:=aas st.scope (ss.take k);rw[List.length_take] at this;omega);have Pm:=hide hs;obtain⟨⟨dp,is⟩,hd⟩:∃d,declares s=d:=⟨_,rfl⟩;rw[hd] at fC a8 HD;dsimp only at fC a8;unfold lS at HD;dsimp only at HD;obtain⟨aw,has⟩:∃aw,cE st.scope (ss.take k)=aw:=⟨_,rfl⟩;obtain⟨bx,jq⟩:∃bx,jg st.scope [] (ss.take k)=bx:=⟨_,rfl⟩;rw[has] at fC a8 H2 H3 gB;rw[jq] at H1 a8;rw[has];obtain⟨m,hm⟩:∃m,aw.length=m:=⟨_,rfl⟩;have Hm:=hide hm;rw[hm] at H2 H3 gB ⊢;clear iy hs eE hd has jq hm
   cases is with
   | true=>
    go_wp2_with fail
    refine HD.out.mono ?_;rintro e w2 ⟨rfl,b2⟩;have I2:=hide (H1.out.go b2);have M2:=hide (H4.out.go b2);have O2:=hide (eV H2.out b2);have C2:=hide (H3.out.go b2);clear b2;go_wp2
    go_roundg (n-(k+1))
    case measure=>have:=Hg.out;omega
    case rel=>
     have e1:cE st.scope (ss.take (k+1))=aw:=by rw[fC.out];simp
     refine⟨k+1,vb,A,c,D,rfl,by omega,by first|rfl|go_num,?_,?_,?_,?_,M2.out⟩
     ·rw[e1,Hm.out]
     ·rw[a8.out];simpa using I2.out
     ·rw[e1,Hm.out];exact O2.out
     rw[e1,Hm.out];exact C2.out
   | false=>
    obtain⟨sp,hsp⟩:∃sp,uP st.scope s=sp:=⟨_,rfl⟩;have KA:pE st.scope s=⟨sp.1,s.loc⟩:=by unfold pE;rw[hsp]
    rw[KA,hsp] at a8;rw[KA] at fC;have alj:=hide hsp;unfold uP at hsp;have q1:=EZ s.pre;have q2:=Dz s.pre;have Po:=hide (fun (e:s.pre=[])=>(show sp=([],true) by rw[←hsp,if_pos e]));have Pp:=hide (fun (e:s.pre≠[])=>(show lT st.scope s.pre=sp by rw[←hsp,if_neg e]))
    have mR:=hide (show j7 ⟨sp.1,s.loc⟩ from⟨by
     by_cases e:s.pre=[]
     ·rw[Po.out e];simp
     rw[←Pp.out e];exact ajd CQ.out,YQ.out⟩)
    obtain⟨ep,Ka⟩:∃ep,decide (s.pre=[])=ep:=⟨_,rfl⟩;rw[Ka] at q1 q2;have OT:=hide Ka;clear hsp KA Ka
    go_upto_if 37 with (go_at_call 90;refine HD.out.mono ?_;rintro e w2 ⟨rfl,b2⟩;have u0:=(b2.cell (p:=⟨lg,k*4,none⟩) lF).trans Sp.out.c0;have u1:=(b2.cell (p:=⟨lg,k*4+1,none⟩) lF).trans Sp.out.c1;have SP:lg<w2.heap.size:=Nat.lt_of_lt_of_le lF b2.size;have B2:=hide b2;clear b2)
    obtain⟨qN,Si⟩:∃qN,bd.or (dv (bx.or (if sp.2=false then some s.at_ else none)))=qN:=⟨_,rfl⟩;have wR:=hide Si;clear Si
    go_cut [] (fun wx=>Pz B P w2.heap.size Mb w st qN v ⟨sp.1,s.loc⟩ A c m m aw D (aw.map (·.name)) wx)
    case first=>
     have RP:Mb<w2.heap.size:=by have:=H3.out.own.lt;have:=B2.out.size;omega
     have I2:=hide (H1.out.go B2.out);have O2:=hide (eV H2.out B2.out);have C2:=hide (H3.out.go B2.out);have M2:=hide (H4.out.go B2.out);have ba:=aA w2 (.cells #[.string ⟨#[]⟩,.string (aa s.loc)] 57);have KN:=hide (ae.new w2 57 #[.string ⟨#[]⟩,.string (aa s.loc)]);have I3:=hide (I2.out.go ba);have O3:=hide (eV O2.out ba);have C3:=hide (C2.out.go ba);have M3:=hide (M2.out.go ba);have BA:=hide ba;have qo:=hide RP;clear ba RP
     cases ep with
     | true=>
      have e:=Po.out (of_decide_eq_true OT.out);subst e;have au:qN=bd.or (dv bx):=by rw[←wR.out];simp
      have ZE:=hide (show PI B P (w2.alloc (.cells #[.string ⟨#[]⟩,.string (aa s.loc)] 57)) st qN ⟨v.Ao,v.co,v.As,v.cs,v.Ae,v.ce,vb,v.xs⟩ by rw[au];exact I3.out);clear au wR;go_wp2;(try simp only[Exit.then]);(try refine Met.intro ?_)
      first
       | (rename_i hJ;refine hJ _ _ ?_)
       | (rename_i hJ hT;refine hJ _ _ ?_)
       | (rename_i hJ hT aX;refine hJ _ _ ?_)
       | (rename_i hJ hT aX cF;refine hJ _ _ ?_)
      (repeat apply Exists.intro);refine⟨?_,rfl⟩;exact⟨vb,ZE.out,KN.out,O3.out,C3.out,M3.out⟩
     | false=>
      have e:=Pp.out (of_decide_eq_false OT.out);have bt:=hide (Ww v.As v.cs (w2.alloc (.cells #[.string ⟨#[]⟩,.string (aa s.loc)] 57)).drew.heap.size st.scope s.pre (w2.alloc (.cells #[.string ⟨#[]⟩,.string (aa s.loc)] 57)).drew (Reads.dA (show (w2.alloc (.cells #[.string ⟨#[]⟩,.string (aa s.loc)] 57)).drew.ownsRow _ _ _ _ _ _ from I3.out.s)) (Nat.le_refl _) Hs.out);rw[e] at bt;unfold lS at bt;have pJ:=I2.out.blk.lt;have cs1:=I2.out.c1;dsimp only at cs1;have u3:=(B2.out.cell (p:=⟨lg,k*4+3,none⟩) lF).trans Sp.out.c3;clear e
      cases sp with
      | mk spu spo=>
      dsimp only at bt
      cases spo with
      | true=>
       have au:qN=bd.or (dv bx):=by rw[←wR.out];simp
       have uD:=hide au;clear au;go_wp2
       go_region_with (go_at_call 59;refine bt.out.mono ?_;rintro e w4 ⟨rfl,b4⟩)
       all_goals
        have kg:=(Below.refl _ (w2.alloc (.cells #[.string ⟨#[]⟩,.string (aa s.loc)] 57))).drew.trans b4;have I4:=hide (I3.out.go kg);have O4:=hide (eV O3.out kg);have C4:=hide (C3.out.go kg);have M4:=hide (M3.out.go kg);have K4:=hide (KN.out.go kg);have n0:w4.cell? ⟨w2.heap.size,0,none⟩=some (.string ⟨#[]⟩):=K4.out.cell 0;have Re:=K4.out.frozen 0;have u3':=(kg.cell (p:=⟨lg,k*4+3,none⟩) (by simp;omega)).trans ((BA.out.cell (p:=⟨lg,k*4+3,none⟩) SP).trans u3);clear b4 kg;go_wp2;(try simp only[Exit.then]);(try refine Met.intro ?_)
        first
         | (rename_i hJ;refine hJ _ _ ?_)
         | (rename_i hJ hT;refine hJ _ _ ?_)
         | (rename_i hJ hT aX;refine hJ _ _ ?_)
         | (rename_i hJ hT aX cF;refine hJ _ _ ?_)
        (repeat apply Exists.intro);refine⟨?_,rfl⟩;exact⟨vb,by rw[uD.out];exact I4.out.far (p:=⟨w2.heap.size,0,none⟩) K4.out (by decide) _,K4.out.aG 0 _,dX (p:=⟨w2.heap.size,0,none⟩) O4.out K4.out (by decide) _,C4.out.set (by have:=qo.out;show Mb≠w2.heap.size;omega) _,M4.out.setCell (p:=⟨w2.heap.size,0,none⟩) (.inr (by have:=mg.out;have:=B2.out.size;show w.heap.size≤w2.heap.size;omega)) _⟩
      | false=>
       have au:qN=bd.or (dv (bx.or (some s.at_))):=by rw[←wR.out];simp
       have uD:=hide au;clear au;go_wp2
       go_region_with (go_at_call 59;refine bt.out.mono ?_;rintro e w4 ⟨rfl,b4⟩)
       all_goals
        have kg:=(Below.refl _ (w2.alloc (.cells #[.string ⟨#[]⟩,.string (aa s.loc)] 57))).drew.trans b4;have I4:=hide (I3.out.go kg);have O4:=hide (eV O3.out kg);have C4:=hide (C3.out.go kg);have M4:=hide (M3.out.go kg);have K4:=hide (KN.out.go kg);have n0:w4.cell? ⟨w2.heap.size,0,none⟩=some (.string ⟨#[]⟩):=K4.out.cell 0;have Re:=K4.out.frozen 0;have u3':=(kg.cell (p:=⟨lg,k*4+3,none⟩) (by simp;omega)).trans ((BA.out.cell (p:=⟨lg,k*4+3,none⟩) SP).trans u3);clear b4 kg;have HW:=hide (r7 B P w4 st _ _ s.at_ 50 I4.out (Nat.le_trans HB.out M4.out.size))
        go_wp2_with fail
        refine HW.out.mono ?_;rintro e w5 ⟨vb5,rfl,h1,h2⟩;have I5:=hide h1;have K5:=hide (h2.blk K4.out (by omega));have O5:=hide (bw.own (B:=0) (T:=[]) (.fc h2) O4.out I4.out.blk (by decide) (by simp));have C5:=hide (C4.out.but h2 Oo.out.symm);have M5:=hide (M4.out.trans h2);have n0':w5.cell? ⟨w2.heap.size,0,none⟩=some (.string ⟨#[]⟩):=K5.out.cell 0;have alG:=K5.out.frozen 0;clear h1 h2 n0 Re;dsimp only
        rename_i bV
        refine bV _ _ ?_;clear bV;go_wp2;(try simp only[Exit.then]);(try refine Met.intro ?_)
        first
         | (rename_i hJ;refine hJ _ _ ?_)
         | (rename_i hJ hT;refine hJ _ _ ?_)
         | (rename_i hJ hT aX;refine hJ _ _ ?_)
         | (rename_i hJ hT aX cF;refine hJ _ _ ?_)
        (repeat apply Exists.intro);refine⟨?_,rfl⟩;exact⟨vb5,by rw[uD.out,←agj];exact I5.out.far (p:=⟨w2.heap.size,0,none⟩) K5.out (by decide) _,K5.out.aG 0 _,dX (p:=⟨w2.heap.size,0,none⟩) O5.out K5.out (by decide) _,C5.out.set (by have:=qo.out;show Mb≠w2.heap.size;omega) _,M5.out.setCell (p:=⟨w2.heap.size,0,none⟩) (.inr (by have:=mg.out;have:=B2.out.size;show w.heap.size≤w2.heap.size;omega)) _⟩
    case rest=>
     obtain⟨vb1,i1,k1,o1,c1,m1⟩:=hcut;obtain⟨nm,dh⟩:∃nm:Nm,(⟨sp.1,s.loc⟩:Nm)=nm:=⟨_,rfl⟩;rw[dh] at k1 a8 fC mR;have alg:=hide dh;have I1:=hide i1;have K1:=hide k1;have PA:=hide o1;have C1:=hide c1;have M1:=hide m1;obtain⟨seen,vL⟩:∃seen,aw.map (·.name)=seen:=⟨_,rfl⟩;rw[vL] at C1 a8;have YP:=hide vL;obtain⟨q,hq⟩:∃q,seen.count nm=q:=⟨_,rfl⟩;have Hq:=hide hq;have Tm:q≤m:=by rw[←hq,←vL,←Hm.out];exact Nat.le_trans List.count_le_length (by rw[List.length_map];exact Nat.le_refl _)
     have HQm:=hide Tm;have Zs:=hide (show q=0↔nm∉seen by rw[←hq];exact List.count_eq_zero);have hkey:=xY mR.out;unfold tS at hkey;have EM:IntKind.i64.wrap ((q:Int)+1)=(q:Int)+1:=IntWalk.i64_in _ (by have:=gB.out;omega);obtain⟨v0,est,w1,lG,hg1,EJ,xK,qY,hst⟩:=agt (w:=wc.drew) (show wc.drew.ownsMap _ _ _ _ _ _ from C1.out.own) Lp Tryz.underlying153 Tryz.underlying3 pg (by unfold maxLen;have:=gB.out;omega) hkey
     have hv0:v0=.int .i64 (q:Int):=by
      obtain⟨cc,r1,a1,_⟩:=(show wc.drew.ownsMap _ _ _ _ _ _ from C1.out.own).lookup_int E4 Tryz.underlying153 Tryz.underlying3 (pg _) hkey;rw[qY] at r1;simp only[Result.ok.injEq,and_true] at r1;rw[r1,C1.out.rG mR.out Hq.out a1]
     subst hv0;obtain⟨w3,hes,bX,bB⟩:=hst (.int .i64 ((q:Int)+1)) _ [] (plainElem_int Tryz.underlying3 (WalkArith.wf_i64 (by have:=gB.out;omega))) w1 rfl;have AD:wc.grownBy w3 (some Mb):=⟨bB.os.trans hg1.os,bB.tape.trans hg1.tape,bB.output.trans hg1.output,Nat.le_trans hg1.size bB.size,fun j hj hne=>(bB.block j (Nat.lt_of_lt_of_le hj hg1.size) hne).trans (hg1.block j hj hne)⟩;obtain⟨es,cle,Ei⟩:=C1.out.block;have CA:w2.heap.size≠Mb:=fun e=>pY Ei (by rw[←e];exact K1.out.ft);have I3:=hide (I1.out.kept AD (fun j hj t' _=>by cases hj;exact pY Ei));have O3:=hide (PA.out.kept AD (.inr (Fj PA.out Ei)));have K3:=hide (K1.out.grown AD (fun e=>CA (by injection e)));have C3:=hide (aa0 C1.out mR.out Hq.out bX);have M3:=hide (M1.out.grown AD (fun j hj=>by cases hj;rw[Cz.out];exact Nat.le_refl _));have Yh:=hide lG;have Yg:=hide hes;have XB:w1.cell? ⟨w2.heap.size,0,none⟩=some (.string (aa nm.ns)):=hg1.cell (show wc.drew.cell? ⟨w2.heap.size,0,none⟩=_ from K1.out.cell 0) (fun e=>CA (by injection e));have XC:w1.cell? ⟨w2.heap.size,1,none⟩=some (.string (aa nm.loc)):=hg1.cell (show wc.drew.cell? ⟨w2.heap.size,1,none⟩=_ from K1.out.cell 1) (fun e=>CA (by injection e))
     have kW:=hide (show (Instr.lookup 153 (.map (some Mb)) (.agg #[.string (aa nm.ns),.string (aa nm.loc)]) false).run Tryz.prog wc.drew=.ok (.int .i64 (q:Int)) wc.drew∧wc.drew.cell? ⟨w2.heap.size,0,none⟩=some (.string (aa nm.ns))∧wc.drew.cell? ⟨w2.heap.size,1,none⟩=some (.string (aa nm.loc)) from⟨qY,K1.out.cell 0,K1.out.cell 1⟩);have qs:=hide (show (Instr.lookup 153 (.map (some Mb)) (.agg #[.string (aa nm.ns),.string (aa nm.loc)]) false).run Tryz.prog w1=.ok (.int .i64 (q:Int)) w1∧w1.cell? ⟨w2.heap.size,0,none⟩=some (.string (aa nm.ns))∧w1.cell? ⟨w2.heap.size,1,none⟩=some (.string (aa nm.loc)) from⟨xK,XB,XC⟩);clear i1 k1 o1 c1 m1 dh vL hq Tm hkey lG hes hg1 bB AD xK qY hst bX Ei XB XC EJ CA
     go_upto_region 14 with fail
     go_cut [] (fun wx=>wx=w3)
     case first=>
      obtain⟨l0,z0,z1⟩:=kW.out;obtain⟨l1,y0,y1⟩:=qs.out;have lG:=Yh.out;have hes:=Yg.out
      go_region
      all_goals
       (try simp only[Exit.then])
       first
        | (rename_i hJ hM;refine hM _ _ (Met.intro ?_);refine hJ _ _ ?_)
        | (refine Met.intro ?_;rename_i hJ;refine hJ _ _ ?_)
       (repeat apply Exists.intro);exact⟨rfl,rfl⟩
     case rest=>
      have bk:=hcut.symm;clear hcut;subst bk;have rb:((q+1:Nat):Int)=(q:Int)+1:=by omega
      obtain⟨zH,Ah⟩:∃zH,bd.or (dv (jg st.scope [] (ss.take (k+1))))=zH:=⟨_,rfl⟩;have GM:=hide Ah;have z0:=K3.out.cell 0;have z1:=K3.out.cell 1;have hkey:=hide (xY mR.out);have uG:=hide (show (seen++[nm]).count nm=q+1 by rw[List.count_append,List.count_singleton,beq_self_eq_true,Hq.out];rfl);clear Ah rb;obtain⟨D2,Rv⟩:∃D2:DataW Unit,D.put (kG nm) (.lit (.int .i64 ((q:Int)+1)))=D2:=⟨_,rfl⟩;rw[Rv] at C3;have PJ:=Fx (bw.own (B:=0) (T:=[]) (.fc M3.out) Hl.out H.out.blk (by decide) (by simp)) HN.out Pm.out;have u3:=PJ.c3
      have jB:=hide (fun (e:nm∈seen)=>(show zH=ym qN s.at_ 50 by
       rw[←GM.out,a8.out,←wR.out];simp only[Bool.false_eq_true,if_false,e,or_true,if_true]
       cases sp.2<;>cases bx<;>cases bd<;>rfl))
      have GK:=hide (fun (e:¬nm∈seen)=>(show zH=qN by
       rw[←GM.out,a8.out,←wR.out];simp only[Bool.false_eq_true,if_false,e,or_false]))
      obtain⟨gt,Kk⟩:∃gt,decide (nm∈seen)=gt:=⟨_,rfl⟩
      have gm:decide ((1:Int)<(q:Int)+1)=gt:=by
       rw[←Kk,Bool.eq_iff_iff,decide_eq_true_iff,decide_eq_true_iff];have:=Zs.out
       constructor
       ·intro h;by_cases e:nm∈seen
        ·exact e
        have:=this.2 e;omega
       intro h;have:q≠0:=fun e=>this.1 e h;omega
      have NX:=hide Kk;clear Rv PJ Kk
      go_upto_if 69 with (at_lookup;refine wpList_lookup_own_int _ (by rfl) _ _ 153 (by rfl) 57 3 .i64 E4 Tryz.underlying153 Tryz.underlying3 (pg _) Mb (m+1) _ (by rfl) C3.out.own _ _ (by rfl) hkey.out ?_;intro c1 hat gW;clear gW;have cU:c1=((q+1:Nat):Int):=C3.out.rG mR.out uG.out hat;rw[show ((q+1:Nat):Int)=(q:Int)+1 by omega] at cU;subst cU;clear hat)
      go_cut [] (fun wx=>Pz B P w2.heap.size Mb w st zH v nm A c m (m+1) aw D2 (seen++[nm]) wx)
      case first=>
       clear gm
       cases gt with
       | true=>
        have GL:=hide (jB.out (of_decide_eq_true NX.out));have HW:=hide (r7 B P w3 st _ _ s.at_ 50 I3.out (Nat.le_trans HB.out M3.out.size))
        go_wp2_with fail
        refine HW.out.mono ?_;rintro e w4 ⟨MQ,rfl,h1,h2⟩;have I4:=hide h1;have K4:=hide (h2.blk K3.out (by have:=I3.out.blk.lt;intro e;exact gI K3.out.ft (by rw[e];exact I3.out.blk.ft) (by decide)));have O4:=hide (bw.own (B:=0) (T:=[]) (.fc h2) O3.out I3.out.blk (by decide) (by simp));have C4:=hide (C3.out.but h2 Oo.out.symm);have M4:=hide (M3.out.trans h2);clear h1 h2;dsimp only
        rename_i bV
        refine bV _ _ ?_;clear bV;go_wp2;(try simp only[Exit.then]);(try refine Met.intro ?_)
        first
         | (rename_i hJ;refine hJ _ _ ?_)
         | (rename_i hJ hT;refine hJ _ _ ?_)
         | (rename_i hJ hT aX;refine hJ _ _ ?_)
         | (rename_i hJ hT aX cF;refine hJ _ _ ?_)
        (repeat apply Exists.intro);refine⟨?_,rfl⟩;exact⟨MQ,by rw[GL.out];exact I4.out,K4.out,O4.out,C4.out,M4.out⟩
       | false=>
        have GL:=hide (GK.out (of_decide_eq_false NX.out));go_wp2;(try simp only[Exit.then]);(try refine Met.intro ?_)
        first
         | (rename_i hJ;refine hJ _ _ ?_)
         | (rename_i hJ hT;refine hJ _ _ ?_)
         | (rename_i hJ hT aX;refine hJ _ _ ?_)
         | (rename_i hJ hT aX cF;refine hJ _ _ ?_)
        (repeat apply Exists.intro);refine⟨?_,rfl⟩;exact⟨vb1,by rw[GL.out];exact I3.out,K3.out,O3.out,C3.out,M3.out⟩
      case rest=>
       rename_i wc
       obtain⟨MQ,i4,k4,o4,c4,m4⟩:=hcut;have I4:=hide i4;have O4:=hide o4;have C4:=hide c4;have M4:=hide m4;have y0:=k4.cell 0;have y1:=k4.cell 1;have PL:=Fx (bw.own (B:=0) (T:=[]) (.fc M4.out) Hl.out H.out.blk (by decide) (by simp)) HN.out Pm.out;have u2:=PL.c2;have PE:=bw.own (B:=0) (T:=[]) (.fc M4.out) Hl.out H.out.blk (by decide) (by simp)
       obtain⟨am8,SM⟩:∃cur,ae wc lg 150 cur:=by
        rcases PE.2 with ⟨h,_⟩|⟨g',c',cur,h,_,hh,_⟩
        ·cases h
        cases h;exact⟨cur,hh⟩
       have N4:=hide k4;have L4:=hide SM;clear PE SM;have e1:=hide (show cE st.scope (ss.take (k+1))=aw++[⟨nm,s.val⟩] by rw[fC.out];simp);have Hwk:=hide vP;clear i4 k4 o4 c4 m4 PL C3 I3 O3 K3 M3 z0 z1 u3 EM;have Y0:=hide y0;have Y1:=hide y1;have U2:=hide u2;have Ag:Below wc.heap.size wc (wc.drew.alloc (.cells (mh ⟨nm,s.val⟩).toArray 125)):=(Below.refl _ _).drew.alloc (Nat.le_refl _) _;have BX:=hide Ag;have KX:=hide (show ae (wc.drew.alloc (.cells (mh ⟨nm,s.val⟩).toArray 125)) wc.heap.size 125 (mh ⟨nm,s.val⟩).toArray from ae.new wc.drew 125 _)
       have CJ:=hide (show (wc.drew.alloc (.cells (mh ⟨nm,s.val⟩).toArray 125)).cell? ⟨w2.heap.size,0,none⟩=some (.string (aa nm.ns))∧(wc.drew.alloc (.cells (mh ⟨nm,s.val⟩).toArray 125)).cell? ⟨w2.heap.size,1,none⟩=some (.string (aa nm.loc))∧(wc.drew.alloc (.cells (mh ⟨nm,s.val⟩).toArray 125)).cell? ⟨lg,k*4+2,none⟩=some (.string (aa s.val)) from
        ⟨(Ag.cell (bI y0)).trans y0,(Ag.cell (bI y1)).trans y1,(Ag.cell (bI u2)).trans u2⟩)
       clear Ag;go_wp2;refine wp_region_held_drew (S:=fun W'=>W'.cell? ⟨w2.heap.size,0,none⟩=some (.string (aa nm.ns))∧W'.cell? ⟨w2.heap.size,1,none⟩=some (.string (aa nm.loc))∧W'.cell? ⟨lg,k*4+2,none⟩=some (.string (aa s.val))) (by kernel_rfl) ?_ (fun hHeld=>?_)
       ·exact⟨Y0.out,Y1.out,U2.out⟩
       change wpAnyH _ _ _ _ _ 10 #[false,false,false,false,false,false,false,false,false,false] _ _;iterate 7 (refine aB (v:=?_) rfl rfl hHeld ?_ ?_;rotate_left;(· (intro w' hSw;obtain⟨l0,z0,z1⟩:=hSw;go_simp;try with_reducible rfl));(try simp only[nx,List.set]))
       refine jr (i:=7) rfl (by kernel_rfl) (by kernel_rfl) (fun K hK=>?_);go_simp;(try dsimp only);refine hK.out _ _ ?_ (fun bc=>?_)
       ·exact CJ.out
       clear hK K hHeld;have hHeld:=bc;clear bc;(try simp only[Act.put,List.setIfInBounds_toArray,List.set_cons_zero,List.set_cons_succ]);refine jr (i:=8) rfl (by kernel_rfl) (by kernel_rfl) (fun K hK=>?_);refine Vb _ (by rfl) _ _ _ (by rfl) w.heap.size 125 _ 3 48 Tryz.underlying60 aeI (by rfl) (by omega) (.slice A m c) m (jh aw) (by rfl) (eV O4.out BX.out) (mh ⟨nm,s.val⟩) rfl (aam _) wc.heap.size KX.out (by rfl) (by unfold maxLen;have:=gB.out;omega) (by have:=gB.out;omega) (Nat.le_trans M4.out.size BX.out.size) ?_;intro g8 dx w8 aN aF cY;have cL:=hide aN;have dH:=hide aF;clear aN aF cY;(try dsimp only);refine hK.out _ _ ?_ (fun bc=>?_)
       ·have Kw:some w2.heap.size≠(Value.slice A m c).ownBlock:=fun e=>dc (eV O4.out BX.out) (N4.out.go BX.out) (by decide) e.symm;have hnL:some lg≠(Value.slice A m c).ownBlock:=fun e=>dc (eV O4.out BX.out) (L4.out.go BX.out) (by decide) e.symm;exact⟨dH.out.cell CJ.out.1 Kw,dH.out.cell CJ.out.2.1 Kw,dH.out.cell CJ.out.2.2 hnL⟩
       clear hK K hHeld;have hHeld:=bc;clear bc;(try simp only[Act.put,List.setIfInBounds_toArray,List.set_cons_zero,List.set_cons_succ]);(refine aB (v:=?_) rfl rfl hHeld ?_ ?_;rotate_left;(· (intro w' hSw;obtain⟨l0,z0,z1⟩:=hSw;go_simp;try with_reducible rfl));(try simp only[nx,List.set]));refine wpAnyH_done (by kernel_rfl) ?_ _;go_wp2
       go_roundg (n-(k+1))
       case measure=>have:=Hg.out;omega
       case rel=>
        obtain⟨Je,IU,vw⟩:=(fB.go C4.out BX.out).block;have aj:=fun j hj=>aI (eV O4.out BX.out) j hj;have e2:(cE st.scope (ss.take (k+1))).length=m+1:=by rw[e1.out,List.length_append,Hm.out];rfl
        refine⟨k+1,MQ,some ⟨g8,0,none⟩,dx,D2,rfl,by omega,by first|rfl|go_num,by rw[e2],?_,?_,?_,?_⟩
        ·rw[GM.out];exact (I4.out.go BX.out).aeV (Z:=w.heap.size) (fun x hx a ha=>((H.out.gX x hx).ta a ha).lt) dH.out (fun j hj=>⟨(aj j hj).1,fun t' oJ hT=>gI (aj j hj).2 hT (by intro e;subst e;revert oJ;decide)⟩)
        ·rw[e2,e1.out,aaz];exact cL.out
        ·rw[e2,e1.out,List.map_append,YP.out];exact (fB.go C4.out BX.out).kept dH.out (fun e=>pY vw (aj Mb e.symm).2)
        exact (M4.out.go BX.out).grown dH.out (fun j hj=>(aj j hj).1)
  have hall:k=n:=by omega
  subst hall;have e1:ss.take k=ss:=List.take_of_length_le (by rw[HN.out];exact Nat.le_refl _);have I:=hide H1.out;have O:=hide H2.out;rw[e1] at I O;rw[e1];clear e1;go_wp2;go_ret;exact⟨vb,A,c,rfl,I.out,O.out,H4.out⟩
end
end Go.Proofs.YtifiiojchlaghaaGreatDoor
