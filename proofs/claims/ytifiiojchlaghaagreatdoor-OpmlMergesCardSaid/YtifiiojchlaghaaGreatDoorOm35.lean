/- NFC: a pair in its place (ref10.put). -/
import Derived.Test.YtifiiojchlaghaaGreatDoorOm34
set_option linter.unusedSimpArgs false
set_option maxRecDepth 100000
set_option maxHeartbeats 8000000
set_option linter.unusedVariables false
namespace Go.Proofs.YtifiiojchlaghaaGreatDoor
section
open Go.RowKit Go.WideShapes

def wm(p:Nf.Pr):Array Value:=#[.int .i64 p.w,.int .i64 p.f,.int .i64 p.s]
def bL(l:List Nf.Pr):List Value:=l.flatMap fun p=>(wm p).toList
theorem yr(a b:List Nf.Pr):bL (a++b)=bL a++bL b:=by unfold bL;rw[List.flatMap_append]
theorem qa:∀(l:List Nf.Pr) (k:Nat) (p:Nf.Pr),l[k]?=some p→(bL l)[k*3]?=some (.int .i64 p.w)∧(bL l)[k*3+1]?=some (.int .i64 p.f)∧(bL l)[k*3+2]?=some (.int .i64 p.s)
 | [],k,p,h=>by simp at h
 | x :: l,0,p,h=>by
  cases h;exact⟨rfl,rfl,rfl⟩
 | x :: l,k+1,p,h=>by
  have e:bL (x :: l)=.int .i64 x.w :: .int .i64 x.f :: .int .i64 x.s :: bL l:=rfl;have:=qa l k p (by simpa using h);rw[e,show (k+1)*3=k*3+3 by omega];exact this
theorem aij{P:Program}(w:World)(t ty e:TypeId)(i:TypeInfo)(ht:P.underlying t=some (.slice e))(hi:P.info? e=some i)(base:Option Addr)(n cap c:Nat)(hle:n≤cap) :
  (Builtin.append_ #[t,t] ty #[.slice base n cap,.slice none 0 c]).run P w=.ok (.slice base n cap) w:=by
 cases base<;>simp[Builtin.append_,run_underlying ht,sizeOf,typeInfo,hi,Builtin.lenOf,Builtin.firstCells,loadCells,loadCellsFrom,hle,storeCells]
theorem wD{P:Program}(W:World){e:TypeId}{ops:Array Oper}{rest:List Oper}{o:Oper}{a:Act}{Q:Exit→Act→World→Prop}(hgd:o.guard=none)(s x:Operand)(t:TypeId)
  (ho:o.op=.call { callee:=.builtin .append,args:=#[s,x],argTypes:=#[t,t] })
  (base:Nat) (z:Value) (size bytes:Nat) (ht:P.underlying t=some (.slice e)) (fQ:(P.info? e).map (fun i=>(i.zero,i.size,i.bytes))=some (some z,size,bytes))
  (hzs:z.cells.size=size) (hsz:0<size) (v:Value) (n:Nat) (xs:List Value) (hs:a.eval s=v) (hown:W.ownsRow base e size v n xs)
  (B:Nat) (A:Option Addr) (m c:Nat) (cs:List Value) (hr:Reads W B size A m cs) (h1:∀u∈cs,u.oneCell'=true) (hx:a.eval x=.slice A m c)
  (h63:n+m≤maxLen) (hbytes:(n+m)*bytes≤140737488355328) (hbase:base≤W.heap.size)
  (h:∀A' c' w',w'.ownsRow base e size (.slice A' (n+m) c') (n+m) (xs++cs)→W.grownBy w' v.ownBlock→wpList P ops Q rest (a.put o.dst (.slice A' (n+m) c')) w'):wpList P ops Q (o :: rest) a W:=by
 obtain⟨i,hi,hz,hsize,hby⟩:=info_parts fQ
 cases A with
 | none=>
  have hm:m=0:=by
   rcases Nat.eq_zero_or_pos m with h0|h0
   ·exact h0
   obtain⟨b,off,e,_⟩:=hr.2 h0;cases e
  subst hm;have hcs:cs=[]:=List.eq_nil_of_length_eq_zero (by rw[hr.1];omega);subst hcs
  obtain⟨Av,cv,rfl,hle⟩:∃Av cv,v=.slice Av n cv∧n≤cv:=by
   rcases hown.2 with ⟨rfl,rfl⟩|⟨g,cap,cur,rfl,_,_,tG,_⟩
   ·exact⟨none,0,rfl,Nat.le_refl _⟩
   exact⟨_,_,rfl,tG⟩
  refine wpList_plain hgd fun K hK=>?_;unfold Oper.wp execOp;simp only[ho,resolve,invoke,builtin,Sem.run_bind,Sem.run_pure,Result.andThen_ok,List.map_toArray,List.map_cons,List.map_nil,hs,hx,aij W t o.type e i ht hi Av n cv c hle];exact hK _ _ (h Av cv W (by rw[List.append_nil];exact hown) ⟨rfl,rfl,rfl,Nat.le_refl _,fun _ _ _=>rfl⟩)
 | some ad=>
  refine wpList_append_own W hgd s x t ho base e i z size bytes ht hi hz hsize hby hzs hsz v n xs hs hown ad m c cs hx hr.1 ?_ h1 h63 hbytes hbase ?_
  ·intro j u hu;have hj:j<cs.length:=(List.getElem?_eq_some_iff.1 hu).1
   have hm:0<m:=by
    rcases Nat.eq_zero_or_pos m with h0|h0
    ·subst h0;rw[hr.1] at hj;omega
    exact h0
   obtain⟨b,off,e,_,hc⟩:=hr.2 hm;cases e;have:=hc j u hu;unfold Addr.add;split
   ·subst_vars;exact this
   exact this
  intro v' w' hown' hgrow _
  rcases hown'.2 with ⟨rfl,h0⟩|⟨g,cap,cur,rfl,_⟩
  ·have:=h none 0 w';rw[h0] at this hown';exact this hown' hgrow
  exact h _ _ w' hown' hgrow
theorem Fq(l:List Nf.Pr):∀u∈bL l,u.oneCell'=true:=by
 intro u hu;obtain⟨p,_,hp⟩:=List.mem_flatMap.1 hu;simp only[wm,List.mem_cons,List.not_mem_nil,or_false] at hp
 rcases hp with rfl|rfl|rfl<;>rfl
theorem ahk{w:World}{B size n k:Nat}{A:Option Addr}{xs:List Value}(h:Reads w B size A n xs)(hk:k<n):∃b off,A=some ⟨b,off,none⟩∧Reads w B size (some ⟨b,off+k*size,none⟩) (n-k) (xs.drop (k*size)):=by
 obtain⟨b,off,e,hb,hc⟩:=h.2 (by omega);refine⟨b,off,e,by rw[List.length_drop,h.1,Nat.sub_mul],fun _=>⟨b,_,rfl,hb,fun j u hu=>?_⟩⟩;rw[List.getElem?_drop] at hu;rw[Nat.add_assoc];exact hc _ _ hu
theorem ahl{w:World}{B size n k b off:Nat}{xs:List Value}(h:Reads w B size (some ⟨b,off,none⟩) n xs)(hk:k<n):Reads w B size (some ⟨b,off+k*size,none⟩) (n-k) (xs.drop (k*size)):=by
 obtain⟨b',U4,e,h⟩:=ahk h hk;cases e;exact h
theorem agZ(l:List Nf.Pr):∀k,(bL l).drop (k*3)=bL (l.drop k):=by
 induction l with
 | nil=>intro k;simp[bL]
 | cons x l ih=>
  intro k
  cases k with
  | zero=>simp
  | succ k=>
   rw[List.drop_succ_cons,←ih,show (k+1)*3=k*3+1+1+1 by omega];rfl
namespace Nf
theorem Du{l:List Pr}{p:Pr}{k:Nat}(h1:∀x∈l.take k,x.w<p.w)(h2:∀x,l[k]?=some x→¬x.w<p.w):ml l p=l.take k++p :: l.drop k:=by
 unfold ml
 induction l generalizing k with
 | nil=>simp
 | cons x l ih=>
  cases k with
  | zero=>
   have:decide (x.w<p.w)=false:=decide_eq_false (h2 x rfl);simp[List.takeWhile_cons,List.dropWhile_cons,this]
  | succ k=>
   have hx:decide (x.w<p.w)=true:=decide_eq_true (h1 x (by simp));have:=ih (k:=k) (fun y hy=>h1 y (by rw[List.take_succ_cons];exact List.mem_cons_of_mem _ hy)) (fun y hy=>h2 y (by simpa using hy));simp only[List.takeWhile_cons,List.dropWhile_cons,hx,if_true,List.take_succ_cons,List.drop_succ_cons,List.cons_append];rw[this]
theorem QP(l:List Pr)(p:Pr):(ml l p).length=l.length+1:=by
 unfold ml;rw[List.length_append,List.length_cons,←Nat.add_assoc,←List.length_append,List.takeWhile_append_dropWhile]
end Nf
theorem pU:(Tryz.prog.info? 237).map (fun i=>(i.zero,i.size,i.bytes))=some (some (.agg #[.int .i64 0,.int .i64 0,.int .i64 0]),3,24):=by kernel_rfl
theorem ahD(l:List Nf.Pr)(p:Nf.Pr)(A:Option Addr)(c B:Nat)(w:World)(hR:Reads w B 3 A l.length (bL l))(hB:B≤w.heap.size)(hl:l.length≤1000)(hlc:l.length≤c) :
  Calls Tryz.prog 204 #[.slice A l.length c,.agg (wm p)] w fun e w'=>(∃A' c',e=.returned (.slice A' (Nf.ml l p).length c')∧w'.ownsRow w.heap.size 237 3 (.slice A' (Nf.ml l p).length c') (Nf.ml l p).length (bL (Nf.ml l p)))∧Below w.heap.size w w':=by
 obtain⟨N,hN⟩:∃N,l.length=N:=⟨_,rfl⟩;have HN:=hide hN;have HR:=hide hR;have aT:=Nf.QP l p;rw[hN] at hl hlc aT ⊢;have HO:=hide (aA w (.cells (wm p) 237));have HT:=hide (ae.new w 237 (wm p));clear hN hR;obtain⟨pw,pf,ps⟩:=p;unfold wm at HO HT ⊢;dsimp only at HO HT ⊢;have t0:=HT.out.cell 0;have t1:=HT.out.cell 1;have t2:=HT.out.cell 2
 go_enter Tryz.func204,Tryz.ntmps204
 go_wp2;clear t0 t1 t2
 go_loopg [5,6] N (fun gk v5 v6 wr=>∃(k:Nat) (A2:Option Addr) (c2:Nat),gk=N-k∧k≤N∧v6=.int .i64 (k:Int)∧v5=.slice A2 k c2∧wr.ownsRow (w.heap.size+1) 237 3 (.slice A2 k c2) k (bL (l.take k))∧(∀x∈l.take k,x.w<pw)∧ae wr w.heap.size 237 #[.int .i64 pw,.int .i64 pf,.int .i64 ps]∧Below w.heap.size w wr∧w.heap.size+1≤wr.heap.size)
 case atStart=>exact⟨0,none,0,rfl,by omega,rfl,rfl,World.ownsRow_nil _ _ _ _,by simp,HT.out,HO.out,by simp⟩
 case round=>
  obtain⟨k,A2,c2,aq,hk,rfl,rfl,ho,qZ,ck,hb,aM⟩:=hrel;have Hg:=hide aq;have yQ:=hide ho;have yO:=hide qZ;have uf:=hide ck;have HB:=hide hb;have t0:=ck.cell 0;have t1:=ck.cell 1;have t2:=ck.cell 2;clear aq ho qZ ck hb
  by_cases hlt:k<N
  ·obtain⟨x,hx⟩:∃x,l[k]?=some x:=⟨_,List.getElem?_eq_getElem (by rw[HN.out];exact hlt)⟩;obtain⟨p0,p1,p2⟩:=qa l k x hx;obtain⟨gb,off,rfl,aR,hcell⟩:=HR.out.2 (by rw[HN.out];omega);have y0:wr.cell? ⟨gb,off+k*3,none⟩=some (.int .i64 x.w):=(HB.out.cell (by show gb<_;omega)).trans (hcell _ _ p0);have y1:wr.cell? ⟨gb,off+k*3+1,none⟩=some (.int .i64 x.f):=(HB.out.cell (by show gb<_;omega)).trans (hcell _ _ p1);have y2:wr.cell? ⟨gb,off+k*3+2,none⟩=some (.int .i64 x.s):=(HB.out.cell (by show gb<_;omega)).trans (hcell _ _ p2);have HX:=hide hx;have fS:(0:Int)≤k∧(k:Int)<N:=by omega
   have OE:=hide (show l.take (k+1)=l.take k++[x] by rw[List.take_add_one,hx];rfl);clear hx p0 p1 p2 hcell
   by_cases oM:x.w<pw
   ·have dM:decide (x.w<pw)=true:=decide_eq_true oM
    go_wp2_with fail
    go_quiet (fail)
    clear t0 t1 t2;have fD:=hide (show (wr.drewN nq).ownsRow (w.heap.size+1) 237 3 (.slice A2 k c2) k (bL (l.take k)) from yQ.out);have a8:=hide (show Below w.heap.size w (wr.drewN nq) from⟨HB.out.os,HB.out.tape,HB.out.output,HB.out.size,HB.out.block⟩);have fX:=hide (uf.out.drewN nq);have cG:w.heap.size+1≤(wr.drewN nq).heap.size:=aM;have z0:(wr.drewN nq).cell? ⟨gb,off+k*3,none⟩=some (.int .i64 x.w):=y0;have z1:(wr.drewN nq).cell? ⟨gb,off+k*3+1,none⟩=some (.int .i64 x.f):=y1;have z2:(wr.drewN nq).cell? ⟨gb,off+k*3+2,none⟩=some (.int .i64 x.s):=y2;clear y0 y1 y2;generalize wr.drewN nq=W at fD a8 fX cG z0 z1 z2 ⊢
    go_wp2_with (at_builtin;go_loud (refine fy W rfl (.tmp 21) (.tmp 26) 234 rfl (w.heap.size+1) (.agg #[.int .i64 0,.int .i64 0,.int .i64 0]) 3 24 Tryz.underlying234 pU rfl (by omega) (.slice A2 k c2) k (bL (l.take k)) rfl fD.out (cs:=[.int .i64 x.w,.int .i64 x.f,.int .i64 x.s]) rfl (by intro u hu;simp at hu;rcases hu with rfl|rfl|rfl<;>rfl) rfl (by unfold maxLen;omega) (by omega) cG ?_);intro g' cap' w1 hown1 cW kv iT au;have fg:=hide hown1;have F6:=hide (cW);clear hown1 cW kv iT au)
    clear z0 z1 z2
    go_roundg (N-(k+1))
    case measure=>have:=Hg.out;omega
    case rel=>
     have eF:(Value.slice A2 k c2).ownBlock≠some w.heap.size:=fun e=>by have:=(aI fD.out _ e).1;omega
     refine⟨k+1,some ⟨g',0,none⟩,cap',rfl,by omega,by first|rfl|go_num,rfl,?_,?_,fX.out.grown F6.out (fun e=>eF e.symm),a8.out.grown F6.out a8.out.size (fun j e=>by have:=(aI fD.out j e).1;omega),Nat.le_trans cG F6.out.size⟩
     ·rw[OE.out,yr];exact fg.out
     rw[OE.out];intro y hy
     rcases List.mem_append.1 hy with hy|hy
     ·exact yO.out y hy
     rw[List.mem_singleton] at hy;subst hy;exact oM
   have dM:decide (x.w<pw)=false:=decide_eq_false oM;have uj:=hide (Nf.Du (p:=⟨pw,pf,ps⟩) yO.out (fun y hy=>by rw[HX.out] at hy;cases hy;exact oM))
   go_wp2_with fail
   go_quiet (fail)
   clear t0 t1 t2;have fD:=hide (show (wr.drewN nq).ownsRow (w.heap.size+1) 237 3 (.slice A2 k c2) k (bL (l.take k)) from yQ.out);have a8:=hide (show Below w.heap.size w (wr.drewN nq) from⟨HB.out.os,HB.out.tape,HB.out.output,HB.out.size,HB.out.block⟩);have fX:=hide (uf.out.drewN nq);have cG:w.heap.size+1≤(wr.drewN nq).heap.size:=aM;clear y0 y1 y2;generalize wr.drewN nq=W at fD a8 fX cG ⊢;have t0:=fX.out.cell 0;have t1:=fX.out.cell 1;have t2:=fX.out.cell 2
   go_wp2_with first
    | (at_builtin;go_loud (refine fy W rfl (.tmp 30) (.tmp 32) 234 rfl (w.heap.size+1) (.agg #[.int .i64 0,.int .i64 0,.int .i64 0]) 3 24 Tryz.underlying234 pU rfl (by omega) (.slice A2 k c2) k (bL (l.take k)) rfl fD.out (cs:=[.int .i64 pw,.int .i64 pf,.int .i64 ps]) rfl (by intro u hu;simp at hu;rcases hu with rfl|rfl|rfl<;>rfl) rfl (by unfold maxLen;omega) (by omega) cG ?_);intro g' cap' w1 hown1 cW kv iT au;have fg:=hide hown1;have az:=hide (a8.out.grown cW a8.out.size (fun j e=>by have:=(aI fD.out j e).1;omega));have mq:=Nat.le_trans cG cW.size;have gy:=hide (show Reads w1 B 3 (some ⟨gb,off+k*3,none⟩) (N-k) (bL (l.drop k)) from by have:=ahl (HR.out.below (az.out.mono hB)) (show k<l.length by rw[HN.out];omega);rw[HN.out,agZ] at this;exact this);clear hown1 cW kv iT au t0 t1 t2)
    | (at_builtin;go_loud (refine wD w1 rfl (.tmp 34) (.tmp 37) 234 rfl (w.heap.size+1) (.agg #[.int .i64 0,.int .i64 0,.int .i64 0]) 3 24 Tryz.underlying234 pU rfl (by omega) (.slice (some ⟨g',0,none⟩) (k+1) cap') (k+1) _ rfl fg.out B _ (N-k) (c-k) _ gy.out (Fq _) rfl (by unfold maxLen;omega) (by omega) mq ?_);intro A3 c3 w2 bG cH;have aL:=hide bG;have ah:=hide (az.out.grown cH az.out.size (fun j e=>by have:=(aI fg.out j e).1;omega));clear bG cH)
   go_ret;have bC:k+1+(N-k)=N+1:=by omega
   rw[bC];refine⟨⟨A3,c3,by rw[aT];rfl,?_⟩,ah.out⟩;rw[aT];have:=aL.out.mono (Nat.le_succ w.heap.size);rw[bC] at this;rw[uj.out,yr,show bL ((⟨pw,pf,ps⟩:Nf.Pr) :: l.drop k)=[.int .i64 pw,.int .i64 pf,.int .i64 ps]++bL (l.drop k) from rfl,←List.append_assoc];exact this
  have nr:¬(k:Int)<(N:Int):=by omega
  have oz:decide ((k:Int)<(N:Int))=false:=decide_eq_false nr
  cases A with
  | none=>
   have uj:=hide (Nf.Du (p:=⟨pw,pf,ps⟩) yO.out (fun y hy=>by rw[List.getElem?_eq_none (by rw[HN.out];omega)] at hy;cases hy))
   go_wp2_with fail
   go_quiet (fail)
   clear t0 t1 t2;have fD:=hide (show (wr.drewN nq).ownsRow (w.heap.size+1) 237 3 (.slice A2 k c2) k (bL (l.take k)) from yQ.out);have a8:=hide (show Below w.heap.size w (wr.drewN nq) from⟨HB.out.os,HB.out.tape,HB.out.output,HB.out.size,HB.out.block⟩);have fX:=hide (uf.out.drewN nq);have cG:w.heap.size+1≤(wr.drewN nq).heap.size:=aM;generalize wr.drewN nq=W at fD a8 fX cG ⊢;have t0:=fX.out.cell 0;have t1:=fX.out.cell 1;have t2:=fX.out.cell 2
   go_wp2_with first
    | (at_builtin;go_loud (refine fy W rfl (.tmp 30) (.tmp 32) 234 rfl (w.heap.size+1) (.agg #[.int .i64 0,.int .i64 0,.int .i64 0]) 3 24 Tryz.underlying234 pU rfl (by omega) (.slice A2 k c2) k (bL (l.take k)) rfl fD.out (cs:=[.int .i64 pw,.int .i64 pf,.int .i64 ps]) rfl (by intro u hu;simp at hu;rcases hu with rfl|rfl|rfl<;>rfl) rfl (by unfold maxLen;omega) (by omega) cG ?_);intro g' cap' w1 hown1 cW kv iT au;have fg:=hide hown1;have az:=hide (a8.out.grown cW a8.out.size (fun j e=>by have:=(aI fD.out j e).1;omega));have mq:=Nat.le_trans cG cW.size;have gy:=hide (show ∀A':Option Addr,Reads w1 B 3 A' (N-k) (bL (l.drop k)) from fun A'=>by rw[List.drop_of_length_le (by rw[HN.out];omega),show N-k=0 by omega];exact Reads.none_);clear hown1 cW kv iT au t0 t1 t2)
    | (at_builtin;go_loud (refine wD w1 rfl (.tmp 34) (.tmp 37) 234 rfl (w.heap.size+1) (.agg #[.int .i64 0,.int .i64 0,.int .i64 0]) 3 24 Tryz.underlying234 pU rfl (by omega) (.slice (some ⟨g',0,none⟩) (k+1) cap') (k+1) _ rfl fg.out B _ (N-k) (c-k) _ (gy.out _) (Fq _) rfl (by unfold maxLen;omega) (by omega) mq ?_);intro A3 c3 w2 bG cH;have aL:=hide bG;have ah:=hide (az.out.grown cH az.out.size (fun j e=>by have:=(aI fg.out j e).1;omega));clear bG cH)
   go_ret;have bC:k+1+(N-k)=N+1:=by omega
   rw[bC];refine⟨⟨A3,c3,by rw[aT];rfl,?_⟩,ah.out⟩;rw[aT];have:=aL.out.mono (Nat.le_succ w.heap.size);rw[bC] at this;rw[uj.out,yr,show bL ((⟨pw,pf,ps⟩:Nf.Pr) :: l.drop k)=[.int .i64 pw,.int .i64 pf,.int .i64 ps]++bL (l.drop k) from rfl,←List.append_assoc];exact this
  | some ad=>
   by_cases hcN:c=k
   ·have uj:=hide (Nf.Du (p:=⟨pw,pf,ps⟩) yO.out (fun y hy=>by rw[List.getElem?_eq_none (by rw[HN.out];omega)] at hy;cases hy))
    go_wp2_with fail
    go_quiet (fail)
    clear t0 t1 t2;have fD:=hide (show (wr.drewN nq).ownsRow (w.heap.size+1) 237 3 (.slice A2 k c2) k (bL (l.take k)) from yQ.out);have a8:=hide (show Below w.heap.size w (wr.drewN nq) from⟨HB.out.os,HB.out.tape,HB.out.output,HB.out.size,HB.out.block⟩);have fX:=hide (uf.out.drewN nq);have cG:w.heap.size+1≤(wr.drewN nq).heap.size:=aM;generalize wr.drewN nq=W at fD a8 fX cG ⊢;have t0:=fX.out.cell 0;have t1:=fX.out.cell 1;have t2:=fX.out.cell 2
    go_wp2_with first
     | (at_builtin;go_loud (refine fy W rfl (.tmp 30) (.tmp 32) 234 rfl (w.heap.size+1) (.agg #[.int .i64 0,.int .i64 0,.int .i64 0]) 3 24 Tryz.underlying234 pU rfl (by omega) (.slice A2 k c2) k (bL (l.take k)) rfl fD.out (cs:=[.int .i64 pw,.int .i64 pf,.int .i64 ps]) rfl (by intro u hu;simp at hu;rcases hu with rfl|rfl|rfl<;>rfl) rfl (by unfold maxLen;omega) (by omega) cG ?_);intro g' cap' w1 hown1 cW kv iT au;have fg:=hide hown1;have az:=hide (a8.out.grown cW a8.out.size (fun j e=>by have:=(aI fD.out j e).1;omega));have mq:=Nat.le_trans cG cW.size;have gy:=hide (show ∀A':Option Addr,Reads w1 B 3 A' (N-k) (bL (l.drop k)) from fun A'=>by rw[List.drop_of_length_le (by rw[HN.out];omega),show N-k=0 by omega];exact Reads.none_);clear hown1 cW kv iT au t0 t1 t2)
     | (at_builtin;go_loud (refine wD w1 rfl (.tmp 34) (.tmp 37) 234 rfl (w.heap.size+1) (.agg #[.int .i64 0,.int .i64 0,.int .i64 0]) 3 24 Tryz.underlying234 pU rfl (by omega) (.slice (some ⟨g',0,none⟩) (k+1) cap') (k+1) _ rfl fg.out B _ (N-k) _ _ (gy.out _) (Fq _) rfl (by unfold maxLen;omega) (by omega) mq ?_);intro A3 c3 w2 bG cH;have aL:=hide bG;have ah:=hide (az.out.grown cH az.out.size (fun j e=>by have:=(aI fg.out j e).1;omega));clear bG cH)
    go_ret;have bC:k+1+(N-k)=N+1:=by omega
    rw[bC];refine⟨⟨A3,c3,by rw[aT];rfl,?_⟩,ah.out⟩;rw[aT];have:=aL.out.mono (Nat.le_succ w.heap.size);rw[bC] at this;rw[uj.out,yr,show bL ((⟨pw,pf,ps⟩:Nf.Pr) :: l.drop k)=[.int .i64 pw,.int .i64 pf,.int .i64 ps]++bL (l.drop k) from rfl,←List.append_assoc];exact this
   have uj:=hide (Nf.Du (p:=⟨pw,pf,ps⟩) yO.out (fun y hy=>by rw[List.getElem?_eq_none (by rw[HN.out];omega)] at hy;cases hy))
   go_wp2_with fail
   go_quiet (fail)
   clear t0 t1 t2;have fD:=hide (show (wr.drewN nq).ownsRow (w.heap.size+1) 237 3 (.slice A2 k c2) k (bL (l.take k)) from yQ.out);have a8:=hide (show Below w.heap.size w (wr.drewN nq) from⟨HB.out.os,HB.out.tape,HB.out.output,HB.out.size,HB.out.block⟩);have fX:=hide (uf.out.drewN nq);have cG:w.heap.size+1≤(wr.drewN nq).heap.size:=aM;generalize wr.drewN nq=W at fD a8 fX cG ⊢;have t0:=fX.out.cell 0;have t1:=fX.out.cell 1;have t2:=fX.out.cell 2
   go_wp2_with first
    | (at_builtin;go_loud (refine fy W rfl (.tmp 30) (.tmp 32) 234 rfl (w.heap.size+1) (.agg #[.int .i64 0,.int .i64 0,.int .i64 0]) 3 24 Tryz.underlying234 pU rfl (by omega) (.slice A2 k c2) k (bL (l.take k)) rfl fD.out (cs:=[.int .i64 pw,.int .i64 pf,.int .i64 ps]) rfl (by intro u hu;simp at hu;rcases hu with rfl|rfl|rfl<;>rfl) rfl (by unfold maxLen;omega) (by omega) cG ?_);intro g' cap' w1 hown1 cW kv iT au;have fg:=hide hown1;have az:=hide (a8.out.grown cW a8.out.size (fun j e=>by have:=(aI fD.out j e).1;omega));have mq:=Nat.le_trans cG cW.size;have gy:=hide (show ∀A':Option Addr,Reads w1 B 3 A' (N-k) (bL (l.drop k)) from fun A'=>by rw[List.drop_of_length_le (by rw[HN.out];omega),show N-k=0 by omega];exact Reads.none_);clear hown1 cW kv iT au t0 t1 t2)
    | (at_builtin;go_loud (refine wD w1 rfl (.tmp 34) (.tmp 37) 234 rfl (w.heap.size+1) (.agg #[.int .i64 0,.int .i64 0,.int .i64 0]) 3 24 Tryz.underlying234 pU rfl (by omega) (.slice (some ⟨g',0,none⟩) (k+1) cap') (k+1) _ rfl fg.out B _ (N-k) _ _ (gy.out _) (Fq _) rfl (by unfold maxLen;omega) (by omega) mq ?_);intro A3 c3 w2 bG cH;have aL:=hide bG;have ah:=hide (az.out.grown cH az.out.size (fun j e=>by have:=(aI fg.out j e).1;omega));clear bG cH)
   go_ret;have bC:k+1+(N-k)=N+1:=by omega
   rw[bC];refine⟨⟨A3,c3,by rw[aT];rfl,?_⟩,ah.out⟩;rw[aT];have:=aL.out.mono (Nat.le_succ w.heap.size);rw[bC] at this;rw[uj.out,yr,show bL ((⟨pw,pf,ps⟩:Nf.Pr) :: l.drop k)=[.int .i64 pw,.int .i64 pf,.int .i64 ps]++bL (l.drop k) from rfl,←List.append_assoc];exact this
end
end Go.Proofs.YtifiiojchlaghaaGreatDoor
