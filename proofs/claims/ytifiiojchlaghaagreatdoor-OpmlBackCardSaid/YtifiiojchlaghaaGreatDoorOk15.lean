/- Strict: a map that counts names with their namespaces: keys that are structs; 'there[n]++' by an entry. And more. -/
import Derived.Test.YtifiiojchlaghaaGreatDoorOk14
import Derived.WideKeyEntry
import Derived.DeepKeys4
import Derived.Deep.DeepCutAuto
set_option linter.unusedSimpArgs false
set_option maxRecDepth 100000
set_option maxHeartbeats 32000000
set_option linter.unusedVariables false
namespace Go.Proofs.YtifiiojchlaghaaGreatDoor
section
open Go.RowKit Tk Sx Go.WideShapes

theorem laidOut_:laidOutB Tryz.prog=true:=by kernel_rfl
theorem row_nm:(57:TypeId)<Tryz.prog.types.size:=of_decide_eq_true (by kernel_rfl)
theorem at_nm:Tryz.prog.keyTypeAt 2 57=true:=by kernel_rfl
theorem key_nm:WideMaps.KeyLaw Tryz.prog 57:=deep_law_laid laidOut_ (m:=2) (by decide) row_nm at_nm (by rw[Tryz.underlying57])
theorem law_nm:Maps.Keyed Tryz.prog 57:=Maps.Keyed.of_law key_nm
theorem cells_nm:Tryz.prog.cellsOf 57=2:=by kernel_rfl
theorem cells_str:Tryz.prog.cellsOf 9=1:=by kernel_rfl
theorem keyT_nm:Tryz.prog.keyType 57=true:=by kernel_rfl
theorem types_nm:∃m,Tryz.prog.types.size=m+1:=by
 have h:=row_nm;generalize Tryz.prog.types.size=s at h
 cases s with
 | zero=>cases h
 | succ m=>exact⟨m,rfl⟩
def nmV(x:Nm):Value:=.agg #[.string (bstr x.ns),.string (bstr x.loc)]
def klN(x:Nm):Lit:=.string (keyBytes [.string x.ns,.string x.loc])
def SmallN(x:Nm):Prop:=x.ns.length≤1000000000∧x.loc.length≤1000000000
theorem keyOf_nm{x:Nm}(h:SmallN x):keyOf Tryz.prog 57 (nmV x)=some (klN x):=by
 have h1:(bstr x.ns).size≤maxLen:=by rw[bstr_size];unfold maxLen;have:=h.1;omega
 have h2:(bstr x.loc).size≤maxLen:=by rw[bstr_size];unfold maxLen;have:=h.2;omega
 obtain⟨m,hm⟩:=types_nm;unfold keyOf nmV;simp only[Tryz.underlying57];rw[if_pos (by simp[keyT_nm,Value.formed,Tryz.underlying57,cells_nm]),hm];unfold Program.keyLits;simp only[Tryz.underlying57,Value.cells];simp[cells_nm,cells_str,Program.keyLits,Tryz.underlying9,h1,h2,List.mapM_cons,klN,bstr_list]
theorem nmV_inj{x y:Nm}(h:nmV x=nmV y):x=y:=by
 unfold nmV at h;simp only[Value.agg.injEq,Array.mk.injEq,List.cons.injEq,Value.string.injEq,and_true] at h
 cases x;cases y
 simp only[Nm.mk.injEq];exact⟨str_inj h.1,str_inj h.2⟩
theorem klN_inj{x y:Nm}(hx:SmallN x)(hy:SmallN y)(h:klN x=klN y):x=y :=
 nmV_inj (key_nm.inj (keyOf_nm hx) (by rw[h];exact keyOf_nm hy))
structure CntN(w:World)(b n:Nat)(seen:List Nm)(D:DataW Unit):Prop where
 own:w.ownsMap Tryz.prog 57 (plainElem Tryz.prog 3) b n D
 is:Maps.IsMap D
 at_:∀x:Nm,SmallN x→D.atKey (klN x) (.lit (.int .i64 0))=.lit (.int .i64 (seen.count x:Nat))
theorem CntN.go{w w':World}{b n:Nat}{seen:List Nm}{D:DataW Unit}(h:CntN w b n seen D)(hb:Below w.heap.size w w'):CntN w' b n seen D:=⟨map_same h.own (hb.block _ h.own.lt),h.is,h.at_⟩
theorem CntN.set{w:World}{b n:Nat}{seen:List Nm}{D:DataW Unit}(h:CntN w b n seen D){p:Addr}(hp:b≠p.block)(u:Value):CntN (w.setCell p u) b n seen D:=⟨map_same h.own (Below.heap_setCell _ _ _ _ hp),h.is,h.at_⟩
theorem CntN.but{w w':World}{P b n:Nat}{seen:List Nm}{D:DataW Unit}(h:CntN w b n seen D)(hb:But P w w')(hP:b≠P):CntN w' b n seen D:=⟨map_same h.own (hb.block _ h.own.lt hP),h.is,h.at_⟩
theorem CntN.kept{w w':World}{row:Option Nat}{b n:Nat}{seen:List Nm}{D:DataW Unit}(h:CntN w b n seen D)(hg:w.grownBy w' row)(hne:some b≠row):CntN w' b n seen D:=⟨h.own.kept hg hne,h.is,h.at_⟩
theorem CntN.block{w:World}{b n:Nat}{seen:List Nm}{D:DataW Unit}(h:CntN w b n seen D):∃es cl,w.heap[b]?=some (.map es cl):=by
 obtain⟨es,cl,hb,_⟩:=h.own;exact⟨es,cl,hb⟩
theorem cntN_nil(w:World):CntN (w.alloc (.map #[] 0)) w.heap.size 0 [] (.map []):=⟨World.ownsMap_made _ _ _ _,Maps.isMap_empty,fun _ _=>rfl⟩
theorem CntN.is_r{w:World}{b n q:Nat}{seen:List Nm}{D:DataW Unit}{x:Nm}{c:Int}(h:CntN w b n seen D)(hx:SmallN x)(hq:seen.count x=q)(hc:D.atKey (klN x) (.lit (.int .i64 0))=.lit (.int .i64 c)):c=(q:Int):=by
 rw[h.at_ x hx,hq] at hc;injection hc with hc
 injection hc with _ hc
 exact hc.symm
theorem cntN_next{w w':World}{b n q:Nat}{seen:List Nm}{D:DataW Unit}{x:Nm}(h:CntN w b n seen D)(hx:SmallN x)(hq:seen.count x=q)(ho:w'.ownsMap Tryz.prog 57 (plainElem Tryz.prog 3) b (n+1) (D.put (klN x) (.lit (.int .i64 ((q:Int)+1))))):CntN w' b (n+1) (seen++[x]) (D.put (klN x) (.lit (.int .i64 ((q:Int)+1)))):=by
 subst hq;refine⟨ho,h.is.put _ _,fun y hy=>?_⟩
 by_cases hm:y=x
 ·subst hm;rw[Maps.atKey_put_same h.is (by simp[WideAt.IsKeyLit,klN])];simp
 rw[Maps.atKey_put_other (fun e=>hm (klN_inj hy hx e)),h.at_ y hy,List.count_append,List.count_singleton];have:(x==y)=false:=by rw[beq_eq_false_iff_ne];exact fun e=>hm e.symm
 rw[this];simp
theorem setZ{w:World}{b:Nat}{o:Obj}:(ChangeMaps.setBlock w b o).heap.size=w.heap.size:=by simp[ChangeMaps.setBlock]
theorem setB{w:World}{b:Nat}{o o':Obj}(h:w.heap[b]?=some o'):(ChangeMaps.setBlock w b o).heap[b]?=some o:=by
 have hlt:=(Array.getElem?_eq_some_iff.1 h).1;simp[ChangeMaps.setBlock,hlt]
theorem setG{w:World}{b:Nat}{o o':Obj}(h:w.heap[b]?=some o'):w.grownBy (ChangeMaps.setBlock w b o) (some b) :=
 ⟨rfl,rfl,rfl,by simp[ChangeMaps.setBlock],fun k _ hk=>by
  have hne:b≠k:=fun e=>hk (by rw[e]);simp[ChangeMaps.setBlock,Array.getElem?_setIfInBounds,hne]⟩
theorem own_entry{w:World}{t k e b n:Nat}{D:DataW Unit}{P:Program}{q:IntKind}(h:w.ownsMap P k (plainElem P e) b n D)(K:WideMaps.KeyLaw P k)(ht:P.underlying t=some (.map k e))(he:P.underlying e=some (.int q))(hz:∀u:World,(zeroValue e).run P u=.ok (.int q 0) u)(hn:n<maxLen)
  {key:Value} {kl:Lit} (hkey:keyOf P k key=some kl) :
  ∃(v0:Value) (st:Nat) (w1:World),(Instr.mapEntry t (.map (some b)) key).run P w=.ok (.tuple #[v0,Value.int .i64 (st:Int)]) w1∧w.grownBy w1 (some b)∧w1.heap.size=w.heap.size∧
   (Instr.lookup t (.map (some b)) key false).run P w1=.ok v0 w1∧(Instr.lookup t (.map (some b)) key false).run P w=.ok v0 w∧
   ∀(val:Value) (d:DataW Unit) (ps:List MemPlace),plainElem P e val=some (d,ps)→∀w2:World,w2.heap[b]?=w1.heap[b]?→
    ∃w3,(Instr.entryStore t (.map (some b)) (.int .i64 (st:Int)) val).run P w2=.ok () w3∧w3.ownsMap P k (plainElem P e) b (n+1) (D.put kl d)∧w2.grownBy w3 (some b):=by
 obtain⟨es,clock,hb,F,hsz,hD⟩:=h;have Ky:=Maps.Keyed.of_law K;have hown:w.ownsMap P k (plainElem P e) b n D:=⟨es,clock,hb,F,hsz,hD⟩;obtain⟨v0,st,es1,clock1,hme,hv0,hst⟩:=WideElems.entry_then_store K ht hz hb F hkey;have hb1:(ChangeMaps.setBlock w b (.map es1 clock1)).heap[b]?=some (.map es1 clock1):=setB hb;refine⟨v0,st,ChangeMaps.setBlock w b (.map es1 clock1),hme,setG hb,setZ,?_,?_,?_⟩
 ·rcases Ky.find w hkey es.toList F.keys with ⟨h1,h2⟩|⟨j,e0,h1,h2,h3⟩
  ·have hme2:(Instr.mapEntry t (.map (some b)) key).run P w=.ok (.tuple #[.int q 0,.int .i64 (clock:Int)]) (ChangeMaps.setBlock w b (.map (es.push ⟨key,.int q 0,clock⟩) (clock+1))):=by
    simp[Instr.mapEntry,run_underlying ht,MapKept.run_getObj_map hb,Ky.check w false hkey,h1,hz,MapKept.run_setObj_map _ hb,Result.andThen,ChangeMaps.setBlock];rfl
   rw[hme2] at hme;simp only[Result.ok.injEq] at hme;obtain⟨e1,e2⟩:=hme;have e3:(ChangeMaps.setBlock w b (.map (es.push ⟨key,.int q 0,clock⟩) (clock+1))).heap[b]?=some (.map es1 clock1):=by rw[e2];exact hb1
   rw[setB hb] at e3;simp only[Option.some.injEq,Obj.map.injEq] at e3;obtain⟨e4,e5⟩:=e3;have ez:v0=.int q 0:=by simp at e1;exact e1.1.symm
   subst e4 e5;rw[ez]
   rcases Ky.find (ChangeMaps.setBlock w b (.map (es.push ⟨key,.int q 0,clock⟩) (clock+1))) hkey (es.push ⟨key,.int q 0,clock⟩).toList (fun x hx=>by
    rw[Array.toList_push,List.mem_append] at hx
    rcases hx with hx|hx
    ·exact F.keys x hx
    simp only[List.mem_singleton] at hx;subst hx;exact⟨kl,hkey⟩) with ⟨_,q2⟩|⟨j,e0,q1,q2,q3⟩
   ·exact absurd rfl (q2 ⟨key,.int q 0,clock⟩ (by simp))
   have hv:e0.val=.int q 0:=by
    have:=List.mem_of_getElem? q2;rw[Array.toList_push,List.mem_append] at this
    rcases this with hx|hx
    ·exact absurd q3 (h2 e0 hx)
    simp only[List.mem_singleton] at hx;rw[hx]
   rw[Array.toList_push] at q1;simp[Instr.lookup,run_underlying ht,MapKept.run_getObj_map hb1,Ky.check _ _ hkey,q1,Result.andThen,hv]
  have hj:es[j]?=some e0:=by simpa using h2
  have hme2:(Instr.mapEntry t (.map (some b)) key).run P w=.ok (.tuple #[e0.val,.int .i64 (e0.born:Int)]) (ChangeMaps.setBlock w b (.map es clock)):=by
   have hsame:es.modify j (fun e=>{ e with key:=key })=es:=by
    apply Array.ext'
    rw[Array.toList_modify,ChangeMaps.modify_eq_set _ _ _ _ h2];have:({ e0 with key:=key }:MapEntry)=e0:=by rw[←h3]
    rw[this];exact WideElems.set_self _ _ _ h2
   simp[Instr.mapEntry,run_underlying ht,MapKept.run_getObj_map hb,Ky.check w false hkey,h1,hj,h3,Ky.stays w hkey,hsame,MapKept.run_setObj_map _ hb,Result.andThen,ChangeMaps.setBlock];rfl
  rw[hme2] at hme;simp only[Result.ok.injEq] at hme;obtain⟨e1,e2⟩:=hme;have e3:(ChangeMaps.setBlock w b (.map es clock)).heap[b]?=some (.map es1 clock1):=by rw[e2];exact hb1
  rw[setB hb] at e3;simp only[Option.some.injEq,Obj.map.injEq] at e3;obtain⟨e4,e5⟩:=e3;have ev:v0=e0.val:=by simp at e1;exact e1.1.symm
  subst e4 e5 ev;have hsm:(ChangeMaps.setBlock w b (.map es clock)).ownsMap P k (plainElem P e) b n D:=map_same hown (by rw[setB hb,hb]);obtain⟨c,r1,a1,_⟩:=hown.lookup_int Ky ht he (hz w) hkey;obtain⟨c',r2,a2,_⟩:=hsm.lookup_int Ky ht he (hz _) hkey;rw[a1] at a2;have ec:c=c':=by injection a2 with a2;injection a2 with _ a2
  have hl:(Instr.lookup t (.map (some b)) key false).run P w=.ok e0.val w:=by simp[Instr.lookup,run_underlying ht,MapKept.run_getObj_map hb,Ky.check w _ hkey,h1,Result.andThen]
  rw[hl] at r1;simp only[Result.ok.injEq,and_true] at r1;rw[r1,ec];exact r2
 ·rcases Ky.find w hkey es.toList F.keys with ⟨h1,h2⟩|⟨j,e0,h1,h2,h3⟩
  ·rcases hv0 with ⟨e0,q1,q2,_⟩|⟨_,q2⟩
   ·exact absurd q2 (h2 e0 q1)
   rw[q2];simp[Instr.lookup,run_underlying ht,MapKept.run_getObj_map hb,Ky.check w _ hkey,h1,hz,Result.andThen]
  have hj:es[j]?=some e0:=by simpa using h2
  have hme2:(Instr.mapEntry t (.map (some b)) key).run P w=.ok (.tuple #[e0.val,.int .i64 (e0.born:Int)]) (ChangeMaps.setBlock w b (.map es clock)):=by
   have hsame:es.modify j (fun e=>{ e with key:=key })=es:=by
    apply Array.ext'
    rw[Array.toList_modify,ChangeMaps.modify_eq_set _ _ _ _ h2];have:({ e0 with key:=key }:MapEntry)=e0:=by rw[←h3]
    rw[this];exact WideElems.set_self _ _ _ h2
   simp[Instr.mapEntry,run_underlying ht,MapKept.run_getObj_map hb,Ky.check w false hkey,h1,hj,h3,Ky.stays w hkey,hsame,MapKept.run_setObj_map _ hb,Result.andThen,ChangeMaps.setBlock];rfl
  rw[hme2] at hme;simp only[Result.ok.injEq] at hme;obtain⟨e1,e2⟩:=hme;have e3:(ChangeMaps.setBlock w b (.map es clock)).heap[b]?=some (.map es1 clock1):=by rw[e2];exact hb1
  rw[setB hb] at e3;simp only[Option.some.injEq,Obj.map.injEq] at e3;obtain⟨e4,e5⟩:=e3;have ev:v0=e0.val:=by simp at e1;exact e1.1.symm
  rw[ev];simp[Instr.lookup,run_underlying ht,MapKept.run_getObj_map hb,Ky.check w _ hkey,h1,Result.andThen]
 intro val d ps hval w2 hw2;obtain⟨es',cl',g1,g2⟩:=hst w2 val (by rw[hw2];exact hb1);obtain⟨w',u1,u2,_⟩:=hown.update Ky ht hn hkey hval;rw[g2] at u1;simp only[Result.ok.injEq,true_and] at u1;refine⟨ChangeMaps.setBlock w2 b (.map es' cl'),g1,map_same u2 ?_,setG (hw2.trans hb1)⟩;rw[←u1,setB (hw2.trans hb1),setB hb]
end
section
open Go.RowKit Tk Sx

theorem attrsOf_snoc(sc:List Dcl)(l:List Spl)(s:Spl):attrsOf sc (l++[s])=attrsOf sc l++(if (declares s).2 then [] else [⟨attNm sc s,s.val⟩]):=by
 induction l with
 | nil=>simp only[List.nil_append,attrsOf]
 | cons x l ih=>
  rw[List.cons_append,attrsOf,attrsOf,ih];split
  ·rfl
  rfl
theorem attrsAt_snoc(sc:List Dcl)(l:List Spl)(s:Spl):∀seen:List Nm,attrsAt sc seen (l++[s])=(attrsAt sc seen l).or (if (declares s).2 then none else if (attSp sc s).2=false∨attNm sc s∈seen++(attrsOf sc l).map (·.name) then some s.at_ else none):=by
 induction l with
 | nil=>intro seen;simp only[List.nil_append,attrsAt,attrsOf,List.map_nil,List.append_nil,Option.none_or]
 | cons x l ih=>
  intro seen;rw[List.cons_append,attrsAt,attrsAt,attrsOf]
  by_cases hd:(declares x).2=true
  ·rw[if_pos hd,if_pos hd,if_pos hd,ih]
  rw[if_neg hd,if_neg hd,if_neg hd]
  by_cases hb:(attSp sc x).2=false∨attNm sc x∈seen
  ·rw[if_pos hb,if_pos hb];rfl
  rw[if_neg hb,if_neg hb,ih,List.map_cons,List.append_assoc];rfl
theorem attrsOf_len(sc:List Dcl)(l:List Spl):(attrsOf sc l).length≤l.length:=by
 induction l with
 | nil=>simp[attrsOf]
 | cons x l ih=>
  rw[attrsOf];split
  ·simp;omega
  simp;omega
theorem orB_or(bd:Bad)(x:Option Nat)(a:Nat):orB (bd.or (badV x)) a 50=bd.or (badV (x.or (some a))):=by cases bd<;>cases x<;>rfl
theorem att_len(a:Att):(attCells a).length=3:=rfl
theorem atts_snoc(l:List Att)(a:Att):atts (l++[a])=atts l++attCells a:=by simp[atts]
theorem attc_one(a:Att):∀u∈attCells a,u.oneCell'=true:=by
 intro u hu;simp only[attCells,List.mem_cons,List.not_mem_nil,or_false] at hu
 rcases hu with rfl|rfl|rfl<;>rfl
theorem spaceOf_small{sc:List Dcl}{p:L}(h:∀d∈sc,d.ns.length≤1000000000):(spaceOf sc p).1.length≤1000000000:=by
 unfold spaceOf;split
 ·decide
 unfold spaceAt
 cases hf:(sc.take sc.length).reverse.find? fun d=>decide (d.pre=p) with
 | none=>simp
 | some d=>
  have:=List.mem_of_find?_eq_some hf;rw[List.mem_reverse] at this;exact h d (List.mem_of_mem_take this)
theorem oper_append_elem{P:Program}{o:Oper}{a:Act}{K:Act→World→Prop}{Q:Exit→Act→World→Prop}(W:World)(hgd:o.guard=none)(s x:Operand)(t:TypeId)(ho:o.op=.call { callee:=.builtin .append,args:=#[s,x],argTypes:=#[t,t] })
  (base:Nat) (e:TypeId) (z:Value) (size bytes:Nat) (ht:P.underlying t=some (.slice e)) (hinfo:(P.info? e).map (fun i=>(i.zero,i.size,i.bytes))=some (some z,size,bytes))
  (hzs:z.cells.size=size) (hsz:0<size) (v:Value) (n:Nat) (xs:List Value) (hs:a.eval s=v) (hown:W.ownsRow base e size v n xs)
  (cs:List Value) (hcs:cs.length=size) (h1:∀u∈cs,u.oneCell'=true) (H:Nat) (hH:Blk W H e cs.toArray) (hx:a.eval x=.slice (some ⟨H,0,none⟩) 1 1)
  (h63:n+1≤maxLen) (hbytes:(n+1)*bytes≤140737488355328) (hbase:base≤W.heap.size)
  (h:∀g cap w',w'.ownsRow base e size (.slice (some ⟨g,0,none⟩) (n+1) cap) (n+1) (xs++cs)→W.grownBy w' v.ownBlock→g<w'.heap.size→K (a.put o.dst (.slice (some ⟨g,0,none⟩) (n+1) cap)) w'):Oper.wp P o a W K Q:=by
 have hh:=step_append_elem (ops:=#[]) (Q:=Q) (E:=True) W hgd s x t ho base e z size bytes ht hinfo hzs hsz v n xs hs hown cs hcs h1 H hH hx h63 hbytes hbase h;rw[if_pos (by simp[Region.wanted,hgd])] at hh;exact hh
theorem PI.keptA{B P Z:Nat}{w w':World}{st:St}{b:Bad}{v:Pv}{row:Option Nat}(h:PI B P w st b v)(h0:∀x∈v.xs,∀a,x.A=some a→a.block<Z)(hg:w.grownBy w' row)
  (hr:∀k,row=some k→Z≤k∧∀t∈[80,110,152,62,88],¬IsT w k t):PI B P w' st b v:=by
 have hb:∀{k t:Nat},IsT w k t→t∈[80,110,152,62,88]→w'.heap[k]?=w.heap[k]?:=fun {k t} hk ht=>hg.block k hk.lt fun e=>(hr k e.symm).2 t ht hk
 have ho:∀{e size n:Nat} {v:Value} {xs:List Value},w.ownsRow B e size v n xs→e∈[80,110,152,62,88]→w'.ownsRow B e size v n xs:=fun {e size n v xs} hw he=>hw.kept hg (by
  cases hv:v.ownBlock with
  | none=>exact .inl rfl
  | some k=>exact .inr fun e1=>(hr k e1.symm).2 e he (own_isT hw k hv).2)
 refine⟨(hb h.blk.isT (by simp)).trans h.blk,h.bp,ho h.o (by simp),ho h.s (by simp),ho h.e (by simp),h.ev,fun x hx=>?_,?_⟩
 ·have hi:=h.inn x hx;have sa:∀a,x.A=some a→w'.heap[a.block]?=w.heap[a.block]?:=fun a ha=>hg.block _ (hi.ta a ha).lt fun e=>by have:=(hr _ e.symm).1;have:=h0 x hx a ha;omega
  exact⟨hi.a.same sa hg.size,hi.va,hi.ta.same sa⟩
 have h1:=h.bad;unfold BadAt at h1 ⊢
 cases b with
 | none=>exact h1
 | some x=>
  obtain⟨F,q1,q2,q3⟩:=h1;exact⟨F,q1,q2,(hb q3.isT (by simp)).trans q3⟩
def AttrsR(B P:Nat)(w:World)(st:St)(bd:Bad)(v:Pv)(ss:List Spl)(e:Ending)(w':World):Prop :=
 ∃vb A c,e=.returned (.slice A (attrsOf st.scope ss).length c)∧PI B P w' st (bd.or (badV (attrsAt st.scope [] ss))) ⟨v.Ao,v.co,v.As,v.cs,v.Ae,v.ce,vb,v.xs⟩∧
  w'.ownsRow w.heap.size 125 3 (.slice A (attrsOf st.scope ss).length c) (attrsOf st.scope ss).length (atts (attrsOf st.scope ss))∧But P w w'
def MidR(B P N Mb:Nat)(w:World)(st:St)(bd:Bad)(v:Pv)(nm:Nm)(A:Option Addr)(c m n:Nat)(as_:List Att)(D:DataW Unit)(seen:List Nm)(W:World):Prop :=
 ∃vb,PI B P W st bd ⟨v.Ao,v.co,v.As,v.cs,v.Ae,v.ce,vb,v.xs⟩∧Blk W N 57 #[.string (bstr nm.ns),.string (bstr nm.loc)]∧W.ownsRow w.heap.size 125 3 (.slice A m c) m (atts as_)∧CntN W Mb n seen D∧But P w W

theorem attrs_any(B P base:Nat)(w:World)(st:St)(bd:Bad)(v:Pv)(ss:List Spl)(Al:Option Addr)(cl:Nat)(h:PI B P w st bd v)(hB:B≤w.heap.size)
  (hl:w.ownsRow base 150 4 (.slice Al ss.length cl) ss.length (spls ss)) (hn:ss.length≤100000000) (hs:st.scope.length≤1000000000) (hsm:∀s∈ss,s.loc.length≤1000000000) (hns:∀d∈st.scope,d.ns.length≤1000000000) :
  Calls Tryz.prog 60 #[.pointer (some ⟨P,0,none⟩),.slice Al ss.length cl] w (AttrsR B P w st bd v ss):=by
 have H:=hide h;have HB:=hide hB;have Hl:=hide hl;have Hs:=hide hs;have Hsm:=hide hsm;have Hns:=hide hns;obtain⟨n,hnn⟩:∃n,ss.length=n:=⟨_,rfl⟩;rw[hnn] at hn Hl ⊢;have HN:=hide hnn;have hmm:=@run_makeMap Tryz.prog;have C0:=hide (cntN_nil w);have I1:=hide (h.go (below_alloc w (.map #[] 0)));have hPM:P≠w.heap.size:=by have:=h.blk.lt;omega
 have B1:=hide (But.of_below (R:=P) (below_alloc w (.map #[] 0)));obtain⟨Mb,hMb⟩:∃Mb,w.heap.size=Mb:=⟨_,rfl⟩;have HMe:=hide hMb;rw[hMb] at C0 hPM;have HPM:=hide hPM;clear h hB hl hnn hs hsm hns hPM hMb
 go_enter Tryz.func60,Tryz.ntmps60
 go_wp2;rw[HMe.out];clear hmm
 go_loopg [16,4] n (fun gk vk vl wr=>∃(k:Nat) (vb:Value) (A:Option Addr) (c:Nat) (D:DataW Unit),gk=n-k∧k≤n∧vk=.int .i64 (k:Int)∧vl=.slice A (attrsOf st.scope (ss.take k)).length c∧
  PI B P wr st (bd.or (badV (attrsAt st.scope [] (ss.take k)))) ⟨v.Ao,v.co,v.As,v.cs,v.Ae,v.ce,vb,v.xs⟩∧
  wr.ownsRow w.heap.size 125 3 (.slice A (attrsOf st.scope (ss.take k)).length c) (attrsOf st.scope (ss.take k)).length (atts (attrsOf st.scope (ss.take k)))∧CntN wr Mb (attrsOf st.scope (ss.take k)).length ((attrsOf st.scope (ss.take k)).map (·.name)) D∧But P w wr)
 case atStart=>exact⟨0,_,none,0,_,rfl,by omega,rfl,rfl,by rw[List.take_zero,attrsAt];simpa[badV] using I1.out,World.ownsRow_nil _ _ _ _,C0.out,B1.out⟩
 case round=>
  obtain⟨k,vb,A,c,D,hgk,hk,rfl,rfl,h1,h2,h3,h4⟩:=hrel;have Hg:=hide hgk;have H1:=hide h1;have H2:=hide h2;have H3:=hide h3;have H4:=hide h4;clear hgk h1 h2 h3 h4 C0 I1 B1
  by_cases hlt:k<n
  ·obtain⟨s,hs⟩:∃s,ss[k]?=some s:=⟨_,List.getElem?_eq_getElem (by rw[HN.out];exact hlt)⟩;have hkl:k<ss.length:=by rw[HN.out];exact hlt
   have O1:=hide (Mvs.own (B:=0) (T:=[]) (.of_but H4.out) Hl.out H.out.blk (by decide) (by simp));obtain⟨lg,lc,hlv,hlb,hll⟩:=O1.out.form (by omega);have hAl:Al=some ⟨lg,0,none⟩:=by injection hlv
   subst hAl;cases hlv;have Sp:=hide (sp_cells O1.out HN.out hs);have hwk:IntKind.i64.wrap ((k:Int)+1)=(k:Int)+1:=IntWalk.i64_in _ (by omega);have hts:ss.take (k+1)=ss.take k++[s]:=by rw[List.take_succ_eq_append_getElem hkl,(List.getElem?_eq_some_iff.1 hs).2]
   have HAt:=hide (show attrsOf st.scope (ss.take (k+1))=attrsOf st.scope (ss.take k)++(if (declares s).2 then [] else [⟨attNm st.scope s,s.val⟩]) by rw[hts];exact attrsOf_snoc _ _ _);have HBd:=hide (show attrsAt st.scope [] (ss.take (k+1))=(attrsAt st.scope [] (ss.take k)).or (if (declares s).2 then none else if (attSp st.scope s).2=false∨attNm st.scope s∈(attrsOf st.scope (ss.take k)).map (·.name) then some s.at_ else none) by rw[hts];exact attrsAt_snoc _ _ _ _);have HD:=hide (declares_any s wr lg (k*4) Sp.out);have Hwr:=hide (show w.heap.size≤wr.heap.size from H4.out.size);have HSl:=hide (show s.loc.length≤1000000000 from Hsm.out s (List.mem_of_getElem? hs));have Hml:=hide (show (attrsOf st.scope (ss.take k)).length≤k by have:=attrsOf_len st.scope (ss.take k);rw[List.length_take] at this;omega);have Hs0:=hide hs;obtain⟨⟨dp,is⟩,hd⟩:∃d,declares s=d:=⟨_,rfl⟩;rw[hd] at HAt HBd HD;dsimp only at HAt HBd;unfold spV at HD;dsimp only at HD;obtain⟨as_,has⟩:∃as_,attrsOf st.scope (ss.take k)=as_:=⟨_,rfl⟩;obtain⟨bx,hbx⟩:∃bx,attrsAt st.scope [] (ss.take k)=bx:=⟨_,rfl⟩;rw[has] at HAt HBd H2 H3 Hml;rw[hbx] at H1 HBd;rw[has];obtain⟨m,hm⟩:∃m,as_.length=m:=⟨_,rfl⟩;have Hm:=hide hm;rw[hm] at H2 H3 Hml ⊢;clear hts hs hkl hd has hbx hm
   cases is with
   | true=>
    go_wp2_with fail
    refine HD.out.mono ?_;rintro e w2 ⟨rfl,b2⟩;have I2:=hide (H1.out.go b2);have M2:=hide (H4.out.go b2);have O2:=hide (own_go H2.out b2);have C2:=hide (H3.out.go b2);clear b2;go_wp2
    go_roundg (n-(k+1))
    case measure=>have:=Hg.out;omega
    case rel=>
     have e1:attrsOf st.scope (ss.take (k+1))=as_:=by rw[HAt.out];simp
     refine⟨k+1,vb,A,c,D,rfl,by omega,by first|rfl|go_num,?_,?_,?_,?_,M2.out⟩
     ·rw[e1,Hm.out]
     ·rw[HBd.out];simpa using I2.out
     ·rw[e1,Hm.out];exact O2.out
     rw[e1,Hm.out];exact C2.out
   | false=>
    obtain⟨sp,hsp⟩:∃sp,attSp st.scope s=sp:=⟨_,rfl⟩;have hnmE:attNm st.scope s=⟨sp.1,s.loc⟩:=by unfold attNm;rw[hsp]
    rw[hnmE,hsp] at HBd;rw[hnmE] at HAt;have HSp0:=hide hsp;unfold attSp at hsp;have q1:=isE s.pre;have q2:=eqE s.pre;have Hsp1:=hide (fun (e:s.pre=[])=>(show sp=([],true) by rw[←hsp,if_pos e]));have Hsp2:=hide (fun (e:s.pre≠[])=>(show spaceOf st.scope s.pre=sp by rw[←hsp,if_neg e]))
    have Hsn:=hide (show SmallN ⟨sp.1,s.loc⟩ from⟨by
     by_cases e:s.pre=[]
     ·rw[Hsp1.out e];simp
     rw[←Hsp2.out e];exact spaceOf_small Hns.out,HSl.out⟩)
    obtain⟨ep,hep⟩:∃ep,decide (s.pre=[])=ep:=⟨_,rfl⟩;rw[hep] at q1 q2;have Hep:=hide hep;clear hsp hnmE hep
    go_upto_if 37 with (go_at_call 90;refine HD.out.mono ?_;rintro e w2 ⟨rfl,b2⟩;have u0:=(b2.cell (p:=⟨lg,k*4,none⟩) hll).trans Sp.out.c0;have u1:=(b2.cell (p:=⟨lg,k*4+1,none⟩) hll).trans Sp.out.c1;have hlg2:lg<w2.heap.size:=Nat.lt_of_lt_of_le hll b2.size;have B2:=hide b2;clear b2)
    obtain⟨bd1,hbd1⟩:∃bd1,bd.or (badV (bx.or (if sp.2=false then some s.at_ else none)))=bd1:=⟨_,rfl⟩;have Hbd1:=hide hbd1;clear hbd1
    go_cut [] (fun wx=>MidR B P w2.heap.size Mb w st bd1 v ⟨sp.1,s.loc⟩ A c m m as_ D (as_.map (·.name)) wx)
    case first=>
     have hNlt:Mb<w2.heap.size:=by have:=H3.out.own.lt;have:=B2.out.size;omega
     have I2:=hide (H1.out.go B2.out);have O2:=hide (own_go H2.out B2.out);have C2:=hide (H3.out.go B2.out);have M2:=hide (H4.out.go B2.out);have ba:=below_alloc w2 (.cells #[.string ⟨#[]⟩,.string (bstr s.loc)] 57);have KN:=hide (Blk.new w2 57 #[.string ⟨#[]⟩,.string (bstr s.loc)]);have I3:=hide (I2.out.go ba);have O3:=hide (own_go O2.out ba);have C3:=hide (C2.out.go ba);have M3:=hide (M2.out.go ba);have BA:=hide ba;have HNl:=hide hNlt;clear ba hNlt
     cases ep with
     | true=>
      have e:=Hsp1.out (of_decide_eq_true Hep.out);subst e;have hb1:bd1=bd.or (badV bx):=by rw[←Hbd1.out];simp
      have I3':=hide (show PI B P (w2.alloc (.cells #[.string ⟨#[]⟩,.string (bstr s.loc)] 57)) st bd1 ⟨v.Ao,v.co,v.As,v.cs,v.Ae,v.ce,vb,v.xs⟩ by rw[hb1];exact I3.out);clear hb1 Hbd1;go_wp2;(try simp only[Exit.then]);(try refine Met.intro ?_)
      first
       | (rename_i hJ;refine hJ _ _ ?_)
       | (rename_i hJ hT;refine hJ _ _ ?_)
       | (rename_i hJ hT hT2;refine hJ _ _ ?_)
       | (rename_i hJ hT hT2 hT3;refine hJ _ _ ?_)
      (repeat apply Exists.intro);refine⟨?_,rfl⟩;exact⟨vb,I3'.out,KN.out,O3.out,C3.out,M3.out⟩
     | false=>
      have e:=Hsp2.out (of_decide_eq_false Hep.out);have HSc:=hide (space15_any v.As v.cs (w2.alloc (.cells #[.string ⟨#[]⟩,.string (bstr s.loc)] 57)).drew.heap.size st.scope s.pre (w2.alloc (.cells #[.string ⟨#[]⟩,.string (bstr s.loc)] 57)).drew (Reads.of_own (show (w2.alloc (.cells #[.string ⟨#[]⟩,.string (bstr s.loc)] 57)).drew.ownsRow _ _ _ _ _ _ from I3.out.s)) (Nat.le_refl _) Hs.out);rw[e] at HSc;unfold spV at HSc;have hPl:=I2.out.blk.lt;have cs1:=I2.out.c1;dsimp only at cs1;have u3:=(B2.out.cell (p:=⟨lg,k*4+3,none⟩) hll).trans Sp.out.c3;clear e
      cases sp with
      | mk spu spo=>
      dsimp only at HSc
      cases spo with
      | true=>
       have hb1:bd1=bd.or (badV bx):=by rw[←Hbd1.out];simp
       have Hb1:=hide hb1;clear hb1;go_wp2
       go_region_with (go_at_call 59;refine HSc.out.mono ?_;rintro e w4 ⟨rfl,b4⟩)
       all_goals
        have b4':=(Below.refl _ (w2.alloc (.cells #[.string ⟨#[]⟩,.string (bstr s.loc)] 57))).drew.trans b4;have I4:=hide (I3.out.go b4');have O4:=hide (own_go O3.out b4');have C4:=hide (C3.out.go b4');have M4:=hide (M3.out.go b4');have K4:=hide (KN.out.go b4');have n0:w4.cell? ⟨w2.heap.size,0,none⟩=some (.string ⟨#[]⟩):=K4.out.cell 0;have fn0:=K4.out.frozen 0;have u3':=(b4'.cell (p:=⟨lg,k*4+3,none⟩) (by simp;omega)).trans ((BA.out.cell (p:=⟨lg,k*4+3,none⟩) hlg2).trans u3);clear b4 b4';go_wp2;(try simp only[Exit.then]);(try refine Met.intro ?_)
        first
         | (rename_i hJ;refine hJ _ _ ?_)
         | (rename_i hJ hT;refine hJ _ _ ?_)
         | (rename_i hJ hT hT2;refine hJ _ _ ?_)
         | (rename_i hJ hT hT2 hT3;refine hJ _ _ ?_)
        (repeat apply Exists.intro);refine⟨?_,rfl⟩;exact⟨vb,by rw[Hb1.out];exact I4.out.far (p:=⟨w2.heap.size,0,none⟩) K4.out (by decide) _,K4.out.set_ 0 _,own_far (p:=⟨w2.heap.size,0,none⟩) O4.out K4.out (by decide) _,C4.out.set (by have:=HNl.out;show Mb≠w2.heap.size;omega) _,M4.out.setCell (p:=⟨w2.heap.size,0,none⟩) (.inr (by have:=Hwr.out;have:=B2.out.size;show w.heap.size≤w2.heap.size;omega)) _⟩
      | false=>
       have hb1:bd1=bd.or (badV (bx.or (some s.at_))):=by rw[←Hbd1.out];simp
       have Hb1:=hide hb1;clear hb1;go_wp2
       go_region_with (go_at_call 59;refine HSc.out.mono ?_;rintro e w4 ⟨rfl,b4⟩)
       all_goals
        have b4':=(Below.refl _ (w2.alloc (.cells #[.string ⟨#[]⟩,.string (bstr s.loc)] 57))).drew.trans b4;have I4:=hide (I3.out.go b4');have O4:=hide (own_go O3.out b4');have C4:=hide (C3.out.go b4');have M4:=hide (M3.out.go b4');have K4:=hide (KN.out.go b4');have n0:w4.cell? ⟨w2.heap.size,0,none⟩=some (.string ⟨#[]⟩):=K4.out.cell 0;have fn0:=K4.out.frozen 0;have u3':=(b4'.cell (p:=⟨lg,k*4+3,none⟩) (by simp;omega)).trans ((BA.out.cell (p:=⟨lg,k*4+3,none⟩) hlg2).trans u3);clear b4 b4';have HW:=hide (wrongB_any B P w4 st _ _ s.at_ 50 I4.out (Nat.le_trans HB.out M4.out.size))
        go_wp2_with fail
        refine HW.out.mono ?_;rintro e w5 ⟨vb5,rfl,h1,h2⟩;have I5:=hide h1;have K5:=hide (h2.blk K4.out (by omega));have O5:=hide (Mvs.own (B:=0) (T:=[]) (.of_but h2) O4.out I4.out.blk (by decide) (by simp));have C5:=hide (C4.out.but h2 HPM.out.symm);have M5:=hide (M4.out.trans h2);have n0':w5.cell? ⟨w2.heap.size,0,none⟩=some (.string ⟨#[]⟩):=K5.out.cell 0;have fn0':=K5.out.frozen 0;clear h1 h2 n0 fn0;dsimp only
        rename_i hK0
        refine hK0 _ _ ?_;clear hK0;go_wp2;(try simp only[Exit.then]);(try refine Met.intro ?_)
        first
         | (rename_i hJ;refine hJ _ _ ?_)
         | (rename_i hJ hT;refine hJ _ _ ?_)
         | (rename_i hJ hT hT2;refine hJ _ _ ?_)
         | (rename_i hJ hT hT2 hT3;refine hJ _ _ ?_)
        (repeat apply Exists.intro);refine⟨?_,rfl⟩;exact⟨vb5,by rw[Hb1.out,←orB_or];exact I5.out.far (p:=⟨w2.heap.size,0,none⟩) K5.out (by decide) _,K5.out.set_ 0 _,own_far (p:=⟨w2.heap.size,0,none⟩) O5.out K5.out (by decide) _,C5.out.set (by have:=HNl.out;show Mb≠w2.heap.size;omega) _,M5.out.setCell (p:=⟨w2.heap.size,0,none⟩) (.inr (by have:=Hwr.out;have:=B2.out.size;show w.heap.size≤w2.heap.size;omega)) _⟩
    case rest=>
     obtain⟨vb1,i1,k1,o1,c1,m1⟩:=hcut;obtain⟨nm,hnm⟩:∃nm:Nm,(⟨sp.1,s.loc⟩:Nm)=nm:=⟨_,rfl⟩;rw[hnm] at k1 HBd HAt Hsn;have HNmE:=hide hnm;have I1:=hide i1;have K1:=hide k1;have O1':=hide o1;have C1:=hide c1;have M1:=hide m1;obtain⟨seen,hseen⟩:∃seen,as_.map (·.name)=seen:=⟨_,rfl⟩;rw[hseen] at C1 HBd;have HSeen:=hide hseen;obtain⟨q,hq⟩:∃q,seen.count nm=q:=⟨_,rfl⟩;have Hq:=hide hq;have hqm:q≤m:=by rw[←hq,←hseen,←Hm.out];exact Nat.le_trans List.count_le_length (by rw[List.length_map];exact Nat.le_refl _)
     have HQm:=hide hqm;have Hq0:=hide (show q=0↔nm∉seen by rw[←hq];exact List.count_eq_zero);have hkey:=keyOf_nm Hsn.out;unfold nmV at hkey;have hwq:IntKind.i64.wrap ((q:Int)+1)=(q:Int)+1:=IntWalk.i64_in _ (by have:=Hml.out;omega);obtain⟨v0,est,w1,hme,hg1,hsz1,hl1,hl0,hst⟩:=own_entry (w:=wc.drew) (show wc.drew.ownsMap _ _ _ _ _ _ from C1.out.own) key_nm Tryz.underlying153 Tryz.underlying3 zero_int (by unfold maxLen;have:=Hml.out;omega) hkey
     have hv0:v0=.int .i64 (q:Int):=by
      obtain⟨cc,r1,a1,_⟩:=(show wc.drew.ownsMap _ _ _ _ _ _ from C1.out.own).lookup_int law_nm Tryz.underlying153 Tryz.underlying3 (zero_int _) hkey;rw[hl0] at r1;simp only[Result.ok.injEq,and_true] at r1;rw[r1,C1.out.is_r Hsn.out Hq.out a1]
     subst hv0;obtain⟨w3,hes,ho3,hg3⟩:=hst (.int .i64 ((q:Int)+1)) _ [] (plainElem_int Tryz.underlying3 (WalkArith.wf_i64 (by have:=Hml.out;omega))) w1 rfl;have hg13:wc.grownBy w3 (some Mb):=⟨hg3.os.trans hg1.os,hg3.tape.trans hg1.tape,hg3.output.trans hg1.output,Nat.le_trans hg1.size hg3.size,fun j hj hne=>(hg3.block j (Nat.lt_of_lt_of_le hj hg1.size) hne).trans (hg1.block j hj hne)⟩;obtain⟨es,cle,hesb⟩:=C1.out.block;have HNM:w2.heap.size≠Mb:=fun e=>not_isT_map hesb (by rw[←e];exact K1.out.isT);have I3:=hide (I1.out.kept hg13 (fun j hj t' _=>by cases hj;exact not_isT_map hesb));have O3:=hide (O1'.out.kept hg13 (.inr (own_ne_map O1'.out hesb)));have K3:=hide (K1.out.grown hg13 (fun e=>HNM (by injection e)));have C3:=hide (cntN_next C1.out Hsn.out Hq.out ho3);have M3:=hide (M1.out.grown hg13 (fun j hj=>by cases hj;rw[HMe.out];exact Nat.le_refl _));have HHme:=hide hme;have HHes:=hide hes;have z0':w1.cell? ⟨w2.heap.size,0,none⟩=some (.string (bstr nm.ns)):=hg1.cell (show wc.drew.cell? ⟨w2.heap.size,0,none⟩=_ from K1.out.cell 0) (fun e=>HNM (by injection e));have z1':w1.cell? ⟨w2.heap.size,1,none⟩=some (.string (bstr nm.loc)):=hg1.cell (show wc.drew.cell? ⟨w2.heap.size,1,none⟩=_ from K1.out.cell 1) (fun e=>HNM (by injection e))
     have HS0:=hide (show (Instr.lookup 153 (.map (some Mb)) (.agg #[.string (bstr nm.ns),.string (bstr nm.loc)]) false).run Tryz.prog wc.drew=.ok (.int .i64 (q:Int)) wc.drew∧wc.drew.cell? ⟨w2.heap.size,0,none⟩=some (.string (bstr nm.ns))∧wc.drew.cell? ⟨w2.heap.size,1,none⟩=some (.string (bstr nm.loc)) from⟨hl0,K1.out.cell 0,K1.out.cell 1⟩);have HS1:=hide (show (Instr.lookup 153 (.map (some Mb)) (.agg #[.string (bstr nm.ns),.string (bstr nm.loc)]) false).run Tryz.prog w1=.ok (.int .i64 (q:Int)) w1∧w1.cell? ⟨w2.heap.size,0,none⟩=some (.string (bstr nm.ns))∧w1.cell? ⟨w2.heap.size,1,none⟩=some (.string (bstr nm.loc)) from⟨hl1,z0',z1'⟩);clear i1 k1 o1 c1 m1 hnm hseen hq hqm hkey hme hes hg1 hg3 hg13 hl1 hl0 hst ho3 hesb z0' z1' hsz1 HNM
     go_upto_region 14 with fail
     go_cut [] (fun wx=>wx=w3)
     case first=>
      obtain⟨l0,z0,z1⟩:=HS0.out;obtain⟨l1,y0,y1⟩:=HS1.out;have hme:=HHme.out;have hes:=HHes.out
      go_region
      all_goals
       (try simp only[Exit.then])
       first
        | (rename_i hJ hM;refine hM _ _ (Met.intro ?_);refine hJ _ _ ?_)
        | (refine Met.intro ?_;rename_i hJ;refine hJ _ _ ?_)
       (repeat apply Exists.intro);exact⟨rfl,rfl⟩
     case rest=>
      have hc2:=hcut.symm;clear hcut;subst hc2;have hm0:((q+1:Nat):Int)=(q:Int)+1:=by omega
      obtain⟨bd2,hbd2⟩:∃bd2,bd.or (badV (attrsAt st.scope [] (ss.take (k+1))))=bd2:=⟨_,rfl⟩;have Hbd2:=hide hbd2;have z0:=K3.out.cell 0;have z1:=K3.out.cell 1;have hkey:=hide (keyOf_nm Hsn.out);have Hqs:=hide (show (seen++[nm]).count nm=q+1 by rw[List.count_append,List.count_singleton,beq_self_eq_true,Hq.out];rfl);clear hbd2 hm0;obtain⟨D2,hD2⟩:∃D2:DataW Unit,D.put (klN nm) (.lit (.int .i64 ((q:Int)+1)))=D2:=⟨_,rfl⟩;rw[hD2] at C3;have Sp3:=sp_cells (Mvs.own (B:=0) (T:=[]) (.of_but M3.out) Hl.out H.out.blk (by decide) (by simp)) HN.out Hs0.out;have u3:=Sp3.c3
      have Hb2:=hide (fun (e:nm∈seen)=>(show bd2=orB bd1 s.at_ 50 by
       rw[←Hbd2.out,HBd.out,←Hbd1.out];simp only[Bool.false_eq_true,if_false,e,or_true,if_true]
       cases sp.2<;>cases bx<;>cases bd<;>rfl))
      have Hb3:=hide (fun (e:¬nm∈seen)=>(show bd2=bd1 by
       rw[←Hbd2.out,HBd.out,←Hbd1.out];simp only[Bool.false_eq_true,if_false,e,or_false]))
      obtain⟨gt,hgm⟩:∃gt,decide (nm∈seen)=gt:=⟨_,rfl⟩
      have hgt:decide ((1:Int)<(q:Int)+1)=gt:=by
       rw[←hgm,Bool.eq_iff_iff,decide_eq_true_iff,decide_eq_true_iff];have:=Hq0.out
       constructor
       ·intro h;by_cases e:nm∈seen
        ·exact e
        have:=this.2 e;omega
       intro h;have:q≠0:=fun e=>this.1 e h;omega
      have HGm:=hide hgm;clear hD2 Sp3 hgm
      go_upto_if 69 with (at_lookup;refine wpList_lookup_own_int _ (by rfl) _ _ 153 (by rfl) 57 3 .i64 law_nm Tryz.underlying153 Tryz.underlying3 (zero_int _) Mb (m+1) _ (by rfl) C3.out.own _ _ (by rfl) hkey.out ?_;intro c1 hat hwf;clear hwf;have hc1:c1=((q+1:Nat):Int):=C3.out.is_r Hsn.out Hqs.out hat;rw[show ((q+1:Nat):Int)=(q:Int)+1 by omega] at hc1;subst hc1;clear hat)
      go_cut [] (fun wx=>MidR B P w2.heap.size Mb w st bd2 v nm A c m (m+1) as_ D2 (seen++[nm]) wx)
      case first=>
       clear hgt
       cases gt with
       | true=>
        have Hb4:=hide (Hb2.out (of_decide_eq_true HGm.out));have HW:=hide (wrongB_any B P w3 st _ _ s.at_ 50 I3.out (Nat.le_trans HB.out M3.out.size))
        go_wp2_with fail
        refine HW.out.mono ?_;rintro e w4 ⟨vb4,rfl,h1,h2⟩;have I4:=hide h1;have K4:=hide (h2.blk K3.out (by have:=I3.out.blk.lt;intro e;exact isT_ne K3.out.isT (by rw[e];exact I3.out.blk.isT) (by decide)));have O4:=hide (Mvs.own (B:=0) (T:=[]) (.of_but h2) O3.out I3.out.blk (by decide) (by simp));have C4:=hide (C3.out.but h2 HPM.out.symm);have M4:=hide (M3.out.trans h2);clear h1 h2;dsimp only
        rename_i hK0
        refine hK0 _ _ ?_;clear hK0;go_wp2;(try simp only[Exit.then]);(try refine Met.intro ?_)
        first
         | (rename_i hJ;refine hJ _ _ ?_)
         | (rename_i hJ hT;refine hJ _ _ ?_)
         | (rename_i hJ hT hT2;refine hJ _ _ ?_)
         | (rename_i hJ hT hT2 hT3;refine hJ _ _ ?_)
        (repeat apply Exists.intro);refine⟨?_,rfl⟩;exact⟨vb4,by rw[Hb4.out];exact I4.out,K4.out,O4.out,C4.out,M4.out⟩
       | false=>
        have Hb4:=hide (Hb3.out (of_decide_eq_false HGm.out));go_wp2;(try simp only[Exit.then]);(try refine Met.intro ?_)
        first
         | (rename_i hJ;refine hJ _ _ ?_)
         | (rename_i hJ hT;refine hJ _ _ ?_)
         | (rename_i hJ hT hT2;refine hJ _ _ ?_)
         | (rename_i hJ hT hT2 hT3;refine hJ _ _ ?_)
        (repeat apply Exists.intro);refine⟨?_,rfl⟩;exact⟨vb1,by rw[Hb4.out];exact I3.out,K3.out,O3.out,C3.out,M3.out⟩
      case rest=>
       rename_i wc
       obtain⟨vb4,i4,k4,o4,c4,m4⟩:=hcut;have I4:=hide i4;have O4:=hide o4;have C4:=hide c4;have M4:=hide m4;have y0:=k4.cell 0;have y1:=k4.cell 1;have Sp4:=sp_cells (Mvs.own (B:=0) (T:=[]) (.of_but M4.out) Hl.out H.out.blk (by decide) (by simp)) HN.out Hs0.out;have u2:=Sp4.c2;have Ol4:=Mvs.own (B:=0) (T:=[]) (.of_but M4.out) Hl.out H.out.blk (by decide) (by simp)
       obtain⟨lcur,hlcur⟩:∃cur,Blk wc lg 150 cur:=by
        rcases Ol4.2 with ⟨h,_⟩|⟨g',c',cur,h,_,hh,_⟩
        ·cases h
        cases h;exact⟨cur,hh⟩
       have N4:=hide k4;have L4:=hide hlcur;clear Ol4 hlcur;have e1:=hide (show attrsOf st.scope (ss.take (k+1))=as_++[⟨nm,s.val⟩] by rw[HAt.out];simp);have Hwk:=hide hwk;clear i4 k4 o4 c4 m4 Sp4 C3 I3 O3 K3 M3 z0 z1 u3 hwq;have Y0:=hide y0;have Y1:=hide y1;have U2:=hide u2;have hbX:Below wc.heap.size wc (wc.drew.alloc (.cells (attCells ⟨nm,s.val⟩).toArray 125)):=(Below.refl _ _).drew.alloc (Nat.le_refl _) _;have BX:=hide hbX;have KX:=hide (show Blk (wc.drew.alloc (.cells (attCells ⟨nm,s.val⟩).toArray 125)) wc.heap.size 125 (attCells ⟨nm,s.val⟩).toArray from Blk.new wc.drew 125 _)
       have HSX:=hide (show (wc.drew.alloc (.cells (attCells ⟨nm,s.val⟩).toArray 125)).cell? ⟨w2.heap.size,0,none⟩=some (.string (bstr nm.ns))∧(wc.drew.alloc (.cells (attCells ⟨nm,s.val⟩).toArray 125)).cell? ⟨w2.heap.size,1,none⟩=some (.string (bstr nm.loc))∧(wc.drew.alloc (.cells (attCells ⟨nm,s.val⟩).toArray 125)).cell? ⟨lg,k*4+2,none⟩=some (.string (bstr s.val)) from
        ⟨(hbX.cell (lt_of_cell y0)).trans y0,(hbX.cell (lt_of_cell y1)).trans y1,(hbX.cell (lt_of_cell u2)).trans u2⟩)
       clear hbX;go_wp2;refine wp_region_held_drew (S:=fun W'=>W'.cell? ⟨w2.heap.size,0,none⟩=some (.string (bstr nm.ns))∧W'.cell? ⟨w2.heap.size,1,none⟩=some (.string (bstr nm.loc))∧W'.cell? ⟨lg,k*4+2,none⟩=some (.string (bstr s.val))) (by kernel_rfl) ?_ (fun hHeld=>?_)
       ·exact⟨Y0.out,Y1.out,U2.out⟩
       change wpAnyH _ _ _ _ _ 10 #[false,false,false,false,false,false,false,false,false,false] _ _;iterate 7 (refine nxT (v:=?_) rfl rfl hHeld ?_ ?_;rotate_left;(· (intro w' hSw;obtain⟨l0,z0,z1⟩:=hSw;go_simp;try with_reducible rfl));(try simp only[nx,List.set]))
       refine held_call (i:=7) rfl (by kernel_rfl) (by kernel_rfl) (fun K hK=>?_);go_simp;(try dsimp only);refine hK.out _ _ ?_ (fun hHeld'=>?_)
       ·exact HSX.out
       clear hK K hHeld;have hHeld:=hHeld';clear hHeld';(try simp only[Act.put,List.setIfInBounds_toArray,List.set_cons_zero,List.set_cons_succ]);refine held_call (i:=8) rfl (by kernel_rfl) (by kernel_rfl) (fun K hK=>?_);refine oper_append_elem _ (by rfl) _ _ _ (by rfl) w.heap.size 125 _ 3 48 Tryz.underlying60 info_atr (by rfl) (by omega) (.slice A m c) m (atts as_) (by rfl) (own_go O4.out BX.out) (attCells ⟨nm,s.val⟩) rfl (attc_one _) wc.heap.size KX.out (by rfl) (by unfold maxLen;have:=Hml.out;omega) (by have:=Hml.out;omega) (Nat.le_trans M4.out.size BX.out.size) ?_;intro g8 cap8 w8 hown8 hgrow8 hlt8;have HO8:=hide hown8;have HG8:=hide hgrow8;clear hown8 hgrow8 hlt8;(try dsimp only);refine hK.out _ _ ?_ (fun hHeld'=>?_)
       ·have hnN:some w2.heap.size≠(Value.slice A m c).ownBlock:=fun e=>own_blk_ne (own_go O4.out BX.out) (N4.out.go BX.out) (by decide) e.symm;have hnL:some lg≠(Value.slice A m c).ownBlock:=fun e=>own_blk_ne (own_go O4.out BX.out) (L4.out.go BX.out) (by decide) e.symm;exact⟨HG8.out.cell HSX.out.1 hnN,HG8.out.cell HSX.out.2.1 hnN,HG8.out.cell HSX.out.2.2 hnL⟩
       clear hK K hHeld;have hHeld:=hHeld';clear hHeld';(try simp only[Act.put,List.setIfInBounds_toArray,List.set_cons_zero,List.set_cons_succ]);(refine nxT (v:=?_) rfl rfl hHeld ?_ ?_;rotate_left;(· (intro w' hSw;obtain⟨l0,z0,z1⟩:=hSw;go_simp;try with_reducible rfl));(try simp only[nx,List.set]));refine wpAnyH_done (by kernel_rfl) ?_ _;go_wp2
       go_roundg (n-(k+1))
       case measure=>have:=Hg.out;omega
       case rel=>
        obtain⟨es5,cl5,hes5⟩:=(CntN.go C4.out BX.out).block;have hrow:=fun j hj=>own_isT (own_go O4.out BX.out) j hj;have e2:(attrsOf st.scope (ss.take (k+1))).length=m+1:=by rw[e1.out,List.length_append,Hm.out];rfl
        refine⟨k+1,vb4,some ⟨g8,0,none⟩,cap8,D2,rfl,by omega,by first|rfl|go_num,by rw[e2],?_,?_,?_,?_⟩
        ·rw[Hbd2.out];exact (I4.out.go BX.out).keptA (Z:=w.heap.size) (fun x hx a ha=>((H.out.inn x hx).ta a ha).lt) HG8.out (fun j hj=>⟨(hrow j hj).1,fun t' ht' hT=>isT_ne (hrow j hj).2 hT (by intro e;subst e;revert ht';decide)⟩)
        ·rw[e2,e1.out,atts_snoc];exact HO8.out
        ·rw[e2,e1.out,List.map_append,HSeen.out];exact (CntN.go C4.out BX.out).kept HG8.out (fun e=>not_isT_map hes5 (hrow Mb e.symm).2)
        exact (M4.out.go BX.out).grown HG8.out (fun j hj=>(hrow j hj).1)
  have hall:k=n:=by omega
  subst hall;have e1:ss.take k=ss:=List.take_of_length_le (by rw[HN.out];exact Nat.le_refl _);have I:=hide H1.out;have O:=hide H2.out;rw[e1] at I O;rw[e1];clear e1;go_wp2;go_ret;exact⟨vb,A,c,rfl,I.out,O.out,H4.out⟩
end
end Go.Proofs.YtifiiojchlaghaaGreatDoor
