/- NFC: a pair in its place (ref10.put). And more. -/
import Derived.Test.YtpdkeckeekchlaaGreatDoorOt38
set_option linter.unusedSimpArgs false
set_option maxRecDepth 100000
set_option maxHeartbeats 8000000
set_option linter.unusedVariables false
namespace Go.Proofs.YtpdkeckeekchlaaGreatDoor
section
open Go.RowKit Go.WideShapes

def wW(p:Nf.Pr):Array Value:=#[.int .i64 p.w,.int .i64 p.f,.int .i64 p.s]
def bL(l:List Nf.Pr):List Value:=l.flatMap fun p=>(wW p).toList
theorem zh(a b:List Nf.Pr):bL (a++b)=bL a++bL b:=by unfold bL;rw[List.flatMap_append]
theorem GJ:∀(l:List Nf.Pr) (k:Nat) (p:Nf.Pr),l[k]?=some p→(bL l)[k*3]?=some (.int .i64 p.w)∧(bL l)[k*3+1]?=some (.int .i64 p.f)∧(bL l)[k*3+2]?=some (.int .i64 p.s)
 | [],k,p,h=>by simp at h
 | x :: l,0,p,h=>by
  cases h;exact⟨rfl,rfl,rfl⟩
 | x :: l,k+1,p,h=>by
  have e:bL (x :: l)=.int .i64 x.w :: .int .i64 x.f :: .int .i64 x.s :: bL l:=rfl;have:=GJ l k p (by simpa using h);rw[e,show (k+1)*3=k*3+3 by omega];exact this
theorem akO{P:Program}(w:World)(t ty e:TypeId)(i:TypeInfo)(ht:P.underlying t=some (.slice e))(hi:P.info? e=some i)(base:Option Addr)(n cap c:Nat)(hle:n≤cap) :
  (Builtin.append_ #[t,t] ty #[.slice base n cap,.slice none 0 c]).run P w=.ok (.slice base n cap) w:=by
 cases base<;>simp[Builtin.append_,run_underlying ht,sizeOf,typeInfo,hi,Builtin.lenOf,Builtin.firstCells,loadCells,loadCellsFrom,hle,storeCells]
theorem xg{P:Program}(W:World){e:TypeId}{ops:Array Oper}{rest:List Oper}{o:Oper}{a:Act}{Q:Exit→Act→World→Prop}(hgd:o.guard=none)(s x:Operand)(t:TypeId)
  (ho:o.op=.call { callee:=.builtin .append,args:=#[s,x],argTypes:=#[t,t] })
  (base:Nat) (z:Value) (size bytes:Nat) (ht:P.underlying t=some (.slice e)) (eL:(P.info? e).map (fun i=>(i.zero,i.size,i.bytes))=some (some z,size,bytes))
  (hzs:z.cells.size=size) (hsz:0<size) (v:Value) (n:Nat) (xs:List Value) (hs:a.eval s=v) (hown:W.ownsRow base e size v n xs)
  (B:Nat) (A:Option Addr) (m c:Nat) (cs:List Value) (hr:Reads W B size A m cs) (h1:∀u∈cs,u.oneCell'=true) (hx:a.eval x=.slice A m c)
  (h63:n+m≤maxLen) (hbytes:(n+m)*bytes≤140737488355328) (hbase:base≤W.heap.size)
  (h:∀A' c' w',w'.ownsRow base e size (.slice A' (n+m) c') (n+m) (xs++cs)→W.grownBy w' v.ownBlock→wpList P ops Q rest (a.put o.dst (.slice A' (n+m) c')) w'):wpList P ops Q (o :: rest) a W:=by
 obtain⟨i,hi,hz,hsize,hby⟩:=info_parts eL
 cases A with
 | none=>
  have hm:m=0:=by
   rcases Nat.eq_zero_or_pos m with h0|h0
   ·exact h0
   obtain⟨b,off,e,_⟩:=hr.2 h0;cases e
  subst hm;have hcs:cs=[]:=List.eq_nil_of_length_eq_zero (by rw[hr.1];omega);subst hcs
  obtain⟨Av,cv,rfl,hle⟩:∃Av cv,v=.slice Av n cv∧n≤cv:=by
   rcases hown.2 with ⟨rfl,rfl⟩|⟨g,cap,cur,rfl,_,_,LZ,_⟩
   ·exact⟨none,0,rfl,Nat.le_refl _⟩
   exact⟨_,_,rfl,LZ⟩
  refine wpList_plain hgd fun K hK=>?_;unfold Oper.wp execOp;simp only[ho,resolve,invoke,builtin,Sem.run_bind,Sem.run_pure,Result.andThen_ok,List.map_toArray,List.map_cons,List.map_nil,hs,hx,akO W t o.type e i ht hi Av n cv c hle];exact hK _ _ (h Av cv W (by rw[List.append_nil];exact hown) ⟨rfl,rfl,rfl,Nat.le_refl _,fun _ _ _=>rfl⟩)
 | some ad=>
  refine wpList_append_own W hgd s x t ho base e i z size bytes ht hi hz hsize hby hzs hsz v n xs hs hown ad m c cs hx hr.1 ?_ h1 h63 hbytes hbase ?_
  ·intro j u hu;have hj:j<cs.length:=(List.getElem?_eq_some_iff.1 hu).1
   have hm:0<m:=by
    rcases Nat.eq_zero_or_pos m with h0|h0
    ·subst h0;rw[hr.1] at hj;omega
    exact h0
   obtain⟨b,off,e,_,hc⟩:=hr.2 hm;cases e;have:=hc j u hu;unfold Addr.add;split
   ·subst_vars;exact this
   exact this
  intro v' w' hown' hgrow _
  rcases hown'.2 with ⟨rfl,h0⟩|⟨g,cap,cur,rfl,_⟩
  ·have:=h none 0 w';rw[h0] at this hown';exact this hown' hgrow
  exact h _ _ w' hown' hgrow
theorem GK(l:List Nf.Pr):∀u∈bL l,u.oneCell'=true:=by
 intro u hu;obtain⟨p,_,hp⟩:=List.mem_flatMap.1 hu;simp only[wW,List.mem_cons,List.not_mem_nil,or_false] at hp
 rcases hp with rfl|rfl|rfl<;>rfl
theorem ajL{w:World}{B size n k:Nat}{A:Option Addr}{xs:List Value}(h:Reads w B size A n xs)(hk:k<n):∃b off,A=some ⟨b,off,none⟩∧Reads w B size (some ⟨b,off+k*size,none⟩) (n-k) (xs.drop (k*size)):=by
 obtain⟨b,off,e,hb,hc⟩:=h.2 (by omega);refine⟨b,off,e,by rw[List.length_drop,h.1,Nat.sub_mul],fun _=>⟨b,_,rfl,hb,fun j u hu=>?_⟩⟩;rw[List.getElem?_drop] at hu;rw[Nat.add_assoc];exact hc _ _ hu
theorem ajM{w:World}{B size n k b off:Nat}{xs:List Value}(h:Reads w B size (some ⟨b,off,none⟩) n xs)(hk:k<n):Reads w B size (some ⟨b,off+k*size,none⟩) (n-k) (xs.drop (k*size)):=by
 obtain⟨b',CC,e,h⟩:=ajL h hk;cases e;exact h
theorem ajk(l:List Nf.Pr):∀k,(bL l).drop (k*3)=bL (l.drop k):=by
 induction l with
 | nil=>intro k;simp[bL]
 | cons x l ih=>
  intro k
  cases k with
  | zero=>simp
  | succ k=>
   rw[List.drop_succ_cons,←ih,show (k+1)*3=k*3+1+1+1 by omega];rfl
namespace Nf
theorem EG{l:List Pr}{p:Pr}{k:Nat}(h1:∀x∈l.take k,x.w<p.w)(h2:∀x,l[k]?=some x→¬x.w<p.w):mq l p=l.take k++p :: l.drop k:=by
 unfold mq
 induction l generalizing k with
 | nil=>simp
 | cons x l ih=>
  cases k with
  | zero=>
   have:decide (x.w<p.w)=false:=decide_eq_false (h2 x rfl);simp[List.takeWhile_cons,List.dropWhile_cons,this]
  | succ k=>
   have hx:decide (x.w<p.w)=true:=decide_eq_true (h1 x (by simp));have:=ih (k:=k) (fun y hy=>h1 y (by rw[List.take_succ_cons];exact List.mem_cons_of_mem _ hy)) (fun y hy=>h2 y (by simpa using hy));simp only[List.takeWhile_cons,List.dropWhile_cons,hx,if_true,List.take_succ_cons,List.drop_succ_cons,List.cons_append];rw[this]
theorem SH(l:List Pr)(p:Pr):(mq l p).length=l.length+1:=by
 unfold mq;rw[List.length_append,List.length_cons,←Nat.add_assoc,←List.length_append,List.takeWhile_append_dropWhile]
end Nf
theorem ql:(Tryz.prog.info? 272).map (fun i=>(i.zero,i.size,i.bytes))=some (some (.agg #[.int .i64 0,.int .i64 0,.int .i64 0]),3,24):=by kernel_rfl
theorem aj4(l:List Nf.Pr)(p:Nf.Pr)(A:Option Addr)(c B:Nat)(w:World)(hR:Reads w B 3 A l.length (bL l))(hB:B≤w.heap.size)(hl:l.length≤1000)(hlc:l.length≤c) :
  Calls Tryz.prog 238 #[.slice A l.length c,.agg (wW p)] w fun e w'=>(∃A' c',e=.returned (.slice A' (Nf.mq l p).length c')∧w'.ownsRow w.heap.size 272 3 (.slice A' (Nf.mq l p).length c') (Nf.mq l p).length (bL (Nf.mq l p)))∧Below w.heap.size w w':=by
 obtain⟨N,hN⟩:∃N,l.length=N:=⟨_,rfl⟩;have HN:=ap hN;have HR:=ap hR;have aT:=Nf.SH l p;rw[hN] at hl hlc aT ⊢;have HO:=ap (ay w (.cells (wW p) 272));have HT:=ap (ae.new w 272 (wW p));clear hN hR;obtain⟨pw,pf,ps⟩:=p;unfold wW at HO HT ⊢;dsimp only at HO HT ⊢;have t0:=HT.o.cell 0;have t1:=HT.o.cell 1;have t2:=HT.o.cell 2
 go_enter Tryz.func238,Tryz.ntmps238
 go_wp2;clear t0 t1 t2
 go_loopg [5,6] N (fun gk v5 v6 wr=>∃(k:Nat) (A2:Option Addr) (c2:Nat),gk=N-k∧k≤N∧v6=.int .i64 (k:Int)∧v5=.slice A2 k c2∧wr.ownsRow (w.heap.size+1) 272 3 (.slice A2 k c2) k (bL (l.take k))∧(∀x∈l.take k,x.w<pw)∧ae wr w.heap.size 272 #[.int .i64 pw,.int .i64 pf,.int .i64 ps]∧Below w.heap.size w wr∧w.heap.size+1≤wr.heap.size)
 case atStart=>exact⟨0,none,0,rfl,by omega,rfl,rfl,World.ownsRow_nil _ _ _ _,by simp,HT.o,HO.o,by simp⟩
 case round=>
  obtain⟨k,A2,c2,au,hk,rfl,rfl,ho,rF,ck,hb,aN⟩:=hrel;have Hg:=ap au;have zP:=ap ho;have zL:=ap rF;have uH:=ap ck;have HB:=ap hb;have t0:=ck.cell 0;have t1:=ck.cell 1;have t2:=ck.cell 2;clear au ho rF ck hb
  by_cases hlt:k<N
  ·obtain⟨x,hx⟩:∃x,l[k]?=some x:=⟨_,List.getElem?_eq_getElem (by rw[HN.o];exact hlt)⟩;obtain⟨p0,p1,p2⟩:=GJ l k x hx;obtain⟨gb,off,rfl,dG,hcell⟩:=HR.o.2 (by rw[HN.o];omega);have y0:wr.cell? ⟨gb,off+k*3,none⟩=some (.int .i64 x.w):=(HB.o.cell (by show gb<_;omega)).trans (hcell _ _ p0);have y1:wr.cell? ⟨gb,off+k*3+1,none⟩=some (.int .i64 x.f):=(HB.o.cell (by show gb<_;omega)).trans (hcell _ _ p1);have y2:wr.cell? ⟨gb,off+k*3+2,none⟩=some (.int .i64 x.s):=(HB.o.cell (by show gb<_;omega)).trans (hcell _ _ p2);have HX:=ap hx;have eM:(0:Int)≤k∧(k:Int)<N:=by omega
   have Qp:=ap (show l.take (k+1)=l.take k++[x] by rw[List.take_add_one,hx];rfl);clear hx p0 p1 p2 hcell
   by_cases oT:x.w<pw
   ·have dB:decide (x.w<pw)=true:=decide_eq_true oT
    go_wp2_with fail
    go_quiet (fail)
    clear t0 t1 t2;have fx:=ap (show (wr.drewN nq).ownsRow (w.heap.size+1) 272 3 (.slice A2 k c2) k (bL (l.take k)) from zP.o);have a8:=ap (show Below w.heap.size w (wr.drewN nq) from⟨HB.o.os,HB.o.tape,HB.o.output,HB.o.size,HB.o.block⟩);have fO:=ap (uH.o.drewN nq);have cJ:w.heap.size+1≤(wr.drewN nq).heap.size:=aN;have z0:(wr.drewN nq).cell? ⟨gb,off+k*3,none⟩=some (.int .i64 x.w):=y0;have z1:(wr.drewN nq).cell? ⟨gb,off+k*3+1,none⟩=some (.int .i64 x.f):=y1;have z2:(wr.drewN nq).cell? ⟨gb,off+k*3+2,none⟩=some (.int .i64 x.s):=y2;clear y0 y1 y2;generalize wr.drewN nq=W at fx a8 fO cJ z0 z1 z2 ⊢
    go_wp2_with (at_builtin;go_loud (refine et W rfl (.tmp 21) (.tmp 26) 269 rfl (w.heap.size+1) (.agg #[.int .i64 0,.int .i64 0,.int .i64 0]) 3 24 Tryz.underlying269 ql rfl (by omega) (.slice A2 k c2) k (bL (l.take k)) rfl fx.o (cs:=[.int .i64 x.w,.int .i64 x.f,.int .i64 x.s]) rfl (by intro u hu;simp at hu;rcases hu with rfl|rfl|rfl<;>rfl) rfl (by unfold maxLen;omega) (by omega) cJ ?_);intro g' cap' w1 hown1 cN kv fX ak;have eR:=ap hown1;have Ir:=ap (cN);clear hown1 cN kv fX ak)
    clear z0 z1 z2
    go_roundg (N-(k+1))
    case measure=>have:=Hg.o;omega
    case rel=>
     have dU:(Value.slice A2 k c2).ownBlock≠some w.heap.size:=fun e=>by have:=(aD fx.o _ e).1;omega
     refine⟨k+1,some ⟨g',0,none⟩,cap',rfl,by omega,by first|rfl|go_num,rfl,?_,?_,fO.o.grown Ir.o (fun e=>dU e.symm),a8.o.grown Ir.o a8.o.size (fun j e=>by have:=(aD fx.o j e).1;omega),Nat.le_trans cJ Ir.o.size⟩
     ·rw[Qp.o,zh];exact eR.o
     rw[Qp.o];intro y hy
     rcases List.mem_append.1 hy with hy|hy
     ·exact zL.o y hy
     rw[List.mem_singleton] at hy;subst hy;exact oT
   have dB:decide (x.w<pw)=false:=decide_eq_false oT;have uK:=ap (Nf.EG (p:=⟨pw,pf,ps⟩) zL.o (fun y hy=>by rw[HX.o] at hy;cases hy;exact oT))
   go_wp2_with fail
   go_quiet (fail)
   clear t0 t1 t2;have fx:=ap (show (wr.drewN nq).ownsRow (w.heap.size+1) 272 3 (.slice A2 k c2) k (bL (l.take k)) from zP.o);have a8:=ap (show Below w.heap.size w (wr.drewN nq) from⟨HB.o.os,HB.o.tape,HB.o.output,HB.o.size,HB.o.block⟩);have fO:=ap (uH.o.drewN nq);have cJ:w.heap.size+1≤(wr.drewN nq).heap.size:=aN;clear y0 y1 y2;generalize wr.drewN nq=W at fx a8 fO cJ ⊢;have t0:=fO.o.cell 0;have t1:=fO.o.cell 1;have t2:=fO.o.cell 2
   go_wp2_with first
    | (at_builtin;go_loud (refine et W rfl (.tmp 30) (.tmp 32) 269 rfl (w.heap.size+1) (.agg #[.int .i64 0,.int .i64 0,.int .i64 0]) 3 24 Tryz.underlying269 ql rfl (by omega) (.slice A2 k c2) k (bL (l.take k)) rfl fx.o (cs:=[.int .i64 pw,.int .i64 pf,.int .i64 ps]) rfl (by intro u hu;simp at hu;rcases hu with rfl|rfl|rfl<;>rfl) rfl (by unfold maxLen;omega) (by omega) cJ ?_);intro g' cap' w1 hown1 cN kv fX ak;have eR:=ap hown1;have ax:=ap (a8.o.grown cN a8.o.size (fun j e=>by have:=(aD fx.o j e).1;omega));have mB:=Nat.le_trans cJ cN.size;have gm:=ap (show Reads w1 B 3 (some ⟨gb,off+k*3,none⟩) (N-k) (bL (l.drop k)) from by have:=ajM (HR.o.below (ax.o.mono hB)) (show k<l.length by rw[HN.o];omega);rw[HN.o,ajk] at this;exact this);clear hown1 cN kv fX ak t0 t1 t2)
    | (at_builtin;go_loud (refine xg w1 rfl (.tmp 34) (.tmp 37) 269 rfl (w.heap.size+1) (.agg #[.int .i64 0,.int .i64 0,.int .i64 0]) 3 24 Tryz.underlying269 ql rfl (by omega) (.slice (some ⟨g',0,none⟩) (k+1) cap') (k+1) _ rfl eR.o B _ (N-k) (c-k) _ gm.o (GK _) rfl (by unfold maxLen;omega) (by omega) mB ?_);intro A3 c3 w2 bg cK;have aK:=ap bg;have ag:=ap (ax.o.grown cK ax.o.size (fun j e=>by have:=(aD eR.o j e).1;omega));clear bg cK)
   go_ret;have bC:k+1+(N-k)=N+1:=by omega
   rw[bC];refine⟨⟨A3,c3,by rw[aT];rfl,?_⟩,ag.o⟩;rw[aT];have:=aK.o.mono (Nat.le_succ w.heap.size);rw[bC] at this;rw[uK.o,zh,show bL ((⟨pw,pf,ps⟩:Nf.Pr) :: l.drop k)=[.int .i64 pw,.int .i64 pf,.int .i64 ps]++bL (l.drop k) from rfl,←List.append_assoc];exact this
  have nE:¬(k:Int)<(N:Int):=by omega
  have oM:decide ((k:Int)<(N:Int))=false:=decide_eq_false nE
  cases A with
  | none=>
   have uK:=ap (Nf.EG (p:=⟨pw,pf,ps⟩) zL.o (fun y hy=>by rw[List.getElem?_eq_none (by rw[HN.o];omega)] at hy;cases hy))
   go_wp2_with fail
   go_quiet (fail)
   clear t0 t1 t2;have fx:=ap (show (wr.drewN nq).ownsRow (w.heap.size+1) 272 3 (.slice A2 k c2) k (bL (l.take k)) from zP.o);have a8:=ap (show Below w.heap.size w (wr.drewN nq) from⟨HB.o.os,HB.o.tape,HB.o.output,HB.o.size,HB.o.block⟩);have fO:=ap (uH.o.drewN nq);have cJ:w.heap.size+1≤(wr.drewN nq).heap.size:=aN;generalize wr.drewN nq=W at fx a8 fO cJ ⊢;have t0:=fO.o.cell 0;have t1:=fO.o.cell 1;have t2:=fO.o.cell 2
   go_wp2_with first
    | (at_builtin;go_loud (refine et W rfl (.tmp 30) (.tmp 32) 269 rfl (w.heap.size+1) (.agg #[.int .i64 0,.int .i64 0,.int .i64 0]) 3 24 Tryz.underlying269 ql rfl (by omega) (.slice A2 k c2) k (bL (l.take k)) rfl fx.o (cs:=[.int .i64 pw,.int .i64 pf,.int .i64 ps]) rfl (by intro u hu;simp at hu;rcases hu with rfl|rfl|rfl<;>rfl) rfl (by unfold maxLen;omega) (by omega) cJ ?_);intro g' cap' w1 hown1 cN kv fX ak;have eR:=ap hown1;have ax:=ap (a8.o.grown cN a8.o.size (fun j e=>by have:=(aD fx.o j e).1;omega));have mB:=Nat.le_trans cJ cN.size;have gm:=ap (show ∀A':Option Addr,Reads w1 B 3 A' (N-k) (bL (l.drop k)) from fun A'=>by rw[List.drop_of_length_le (by rw[HN.o];omega),show N-k=0 by omega];exact Reads.none_);clear hown1 cN kv fX ak t0 t1 t2)
    | (at_builtin;go_loud (refine xg w1 rfl (.tmp 34) (.tmp 37) 269 rfl (w.heap.size+1) (.agg #[.int .i64 0,.int .i64 0,.int .i64 0]) 3 24 Tryz.underlying269 ql rfl (by omega) (.slice (some ⟨g',0,none⟩) (k+1) cap') (k+1) _ rfl eR.o B _ (N-k) (c-k) _ (gm.o _) (GK _) rfl (by unfold maxLen;omega) (by omega) mB ?_);intro A3 c3 w2 bg cK;have aK:=ap bg;have ag:=ap (ax.o.grown cK ax.o.size (fun j e=>by have:=(aD eR.o j e).1;omega));clear bg cK)
   go_ret;have bC:k+1+(N-k)=N+1:=by omega
   rw[bC];refine⟨⟨A3,c3,by rw[aT];rfl,?_⟩,ag.o⟩;rw[aT];have:=aK.o.mono (Nat.le_succ w.heap.size);rw[bC] at this;rw[uK.o,zh,show bL ((⟨pw,pf,ps⟩:Nf.Pr) :: l.drop k)=[.int .i64 pw,.int .i64 pf,.int .i64 ps]++bL (l.drop k) from rfl,←List.append_assoc];exact this
  | some ad=>
   by_cases hcN:c=k
   ·have uK:=ap (Nf.EG (p:=⟨pw,pf,ps⟩) zL.o (fun y hy=>by rw[List.getElem?_eq_none (by rw[HN.o];omega)] at hy;cases hy))
    go_wp2_with fail
    go_quiet (fail)
    clear t0 t1 t2;have fx:=ap (show (wr.drewN nq).ownsRow (w.heap.size+1) 272 3 (.slice A2 k c2) k (bL (l.take k)) from zP.o);have a8:=ap (show Below w.heap.size w (wr.drewN nq) from⟨HB.o.os,HB.o.tape,HB.o.output,HB.o.size,HB.o.block⟩);have fO:=ap (uH.o.drewN nq);have cJ:w.heap.size+1≤(wr.drewN nq).heap.size:=aN;generalize wr.drewN nq=W at fx a8 fO cJ ⊢;have t0:=fO.o.cell 0;have t1:=fO.o.cell 1;have t2:=fO.o.cell 2
    go_wp2_with first
     | (at_builtin;go_loud (refine et W rfl (.tmp 30) (.tmp 32) 269 rfl (w.heap.size+1) (.agg #[.int .i64 0,.int .i64 0,.int .i64 0]) 3 24 Tryz.underlying269 ql rfl (by omega) (.slice A2 k c2) k (bL (l.take k)) rfl fx.o (cs:=[.int .i64 pw,.int .i64 pf,.int .i64 ps]) rfl (by intro u hu;simp at hu;rcases hu with rfl|rfl|rfl<;>rfl) rfl (by unfold maxLen;omega) (by omega) cJ ?_);intro g' cap' w1 hown1 cN kv fX ak;have eR:=ap hown1;have ax:=ap (a8.o.grown cN a8.o.size (fun j e=>by have:=(aD fx.o j e).1;omega));have mB:=Nat.le_trans cJ cN.size;have gm:=ap (show ∀A':Option Addr,Reads w1 B 3 A' (N-k) (bL (l.drop k)) from fun A'=>by rw[List.drop_of_length_le (by rw[HN.o];omega),show N-k=0 by omega];exact Reads.none_);clear hown1 cN kv fX ak t0 t1 t2)
     | (at_builtin;go_loud (refine xg w1 rfl (.tmp 34) (.tmp 37) 269 rfl (w.heap.size+1) (.agg #[.int .i64 0,.int .i64 0,.int .i64 0]) 3 24 Tryz.underlying269 ql rfl (by omega) (.slice (some ⟨g',0,none⟩) (k+1) cap') (k+1) _ rfl eR.o B _ (N-k) _ _ (gm.o _) (GK _) rfl (by unfold maxLen;omega) (by omega) mB ?_);intro A3 c3 w2 bg cK;have aK:=ap bg;have ag:=ap (ax.o.grown cK ax.o.size (fun j e=>by have:=(aD eR.o j e).1;omega));clear bg cK)
    go_ret;have bC:k+1+(N-k)=N+1:=by omega
    rw[bC];refine⟨⟨A3,c3,by rw[aT];rfl,?_⟩,ag.o⟩;rw[aT];have:=aK.o.mono (Nat.le_succ w.heap.size);rw[bC] at this;rw[uK.o,zh,show bL ((⟨pw,pf,ps⟩:Nf.Pr) :: l.drop k)=[.int .i64 pw,.int .i64 pf,.int .i64 ps]++bL (l.drop k) from rfl,←List.append_assoc];exact this
   have uK:=ap (Nf.EG (p:=⟨pw,pf,ps⟩) zL.o (fun y hy=>by rw[List.getElem?_eq_none (by rw[HN.o];omega)] at hy;cases hy))
   go_wp2_with fail
   go_quiet (fail)
   clear t0 t1 t2;have fx:=ap (show (wr.drewN nq).ownsRow (w.heap.size+1) 272 3 (.slice A2 k c2) k (bL (l.take k)) from zP.o);have a8:=ap (show Below w.heap.size w (wr.drewN nq) from⟨HB.o.os,HB.o.tape,HB.o.output,HB.o.size,HB.o.block⟩);have fO:=ap (uH.o.drewN nq);have cJ:w.heap.size+1≤(wr.drewN nq).heap.size:=aN;generalize wr.drewN nq=W at fx a8 fO cJ ⊢;have t0:=fO.o.cell 0;have t1:=fO.o.cell 1;have t2:=fO.o.cell 2
   go_wp2_with first
    | (at_builtin;go_loud (refine et W rfl (.tmp 30) (.tmp 32) 269 rfl (w.heap.size+1) (.agg #[.int .i64 0,.int .i64 0,.int .i64 0]) 3 24 Tryz.underlying269 ql rfl (by omega) (.slice A2 k c2) k (bL (l.take k)) rfl fx.o (cs:=[.int .i64 pw,.int .i64 pf,.int .i64 ps]) rfl (by intro u hu;simp at hu;rcases hu with rfl|rfl|rfl<;>rfl) rfl (by unfold maxLen;omega) (by omega) cJ ?_);intro g' cap' w1 hown1 cN kv fX ak;have eR:=ap hown1;have ax:=ap (a8.o.grown cN a8.o.size (fun j e=>by have:=(aD fx.o j e).1;omega));have mB:=Nat.le_trans cJ cN.size;have gm:=ap (show ∀A':Option Addr,Reads w1 B 3 A' (N-k) (bL (l.drop k)) from fun A'=>by rw[List.drop_of_length_le (by rw[HN.o];omega),show N-k=0 by omega];exact Reads.none_);clear hown1 cN kv fX ak t0 t1 t2)
    | (at_builtin;go_loud (refine xg w1 rfl (.tmp 34) (.tmp 37) 269 rfl (w.heap.size+1) (.agg #[.int .i64 0,.int .i64 0,.int .i64 0]) 3 24 Tryz.underlying269 ql rfl (by omega) (.slice (some ⟨g',0,none⟩) (k+1) cap') (k+1) _ rfl eR.o B _ (N-k) _ _ (gm.o _) (GK _) rfl (by unfold maxLen;omega) (by omega) mB ?_);intro A3 c3 w2 bg cK;have aK:=ap bg;have ag:=ap (ax.o.grown cK ax.o.size (fun j e=>by have:=(aD eR.o j e).1;omega));clear bg cK)
   go_ret;have bC:k+1+(N-k)=N+1:=by omega
   rw[bC];refine⟨⟨A3,c3,by rw[aT];rfl,?_⟩,ag.o⟩;rw[aT];have:=aK.o.mono (Nat.le_succ w.heap.size);rw[bC] at this;rw[uK.o,zh,show bL ((⟨pw,pf,ps⟩:Nf.Pr) :: l.drop k)=[.int .i64 pw,.int .i64 pf,.int .i64 ps]++bL (l.drop k) from rfl,←List.append_assoc];exact this
end
section
open Go.RowKit Go.WideShapes

theorem aiw{P:Program}{o:Oper}{a:Act}{K:Act→World→Prop}{Q:Exit→Act→World→Prop}(W:World)(hgd:o.guard=none)(s x:Operand)(t:TypeId)(ho:o.op=.call { callee:=.builtin .append,args:=#[s,x],argTypes:=#[t,t] })
  (base:Nat) (e:TypeId) (z:Value) (size bytes:Nat) (ht:P.underlying t=some (.slice e)) (eL:(P.info? e).map (fun i=>(i.zero,i.size,i.bytes))=some (some z,size,bytes))
  (hzs:z.cells.size=size) (hsz:0<size) (v:Value) (n:Nat) (xs:List Value) (hs:a.eval s=v) (hown:W.ownsRow base e size v n xs)
  (cs:List Value) (hcs:cs.length=size) (h1:∀u∈cs,u.oneCell'=true) (H:Nat) (hH:ae W H e cs.toArray) (hx:a.eval x=.slice (some ⟨H,0,none⟩) 1 1)
  (h63:n+1≤maxLen) (hbytes:(n+1)*bytes≤140737488355328) (hbase:base≤W.heap.size)
  (h:∀g cap w',w'.ownsRow base e size (.slice (some ⟨g,0,none⟩) (n+1) cap) (n+1) (xs++cs)→W.grownBy w' v.ownBlock→g<w'.heap.size→K (a.put o.dst (.slice (some ⟨g,0,none⟩) (n+1) cap)) w'):Oper.wp P o a W K Q:=by
 have hh:=GU (ops:=#[]) (Q:=Q) (E:=True) W hgd s x t ho base e z size bytes ht eL hzs hsz v n xs hs hown cs hcs h1 H hH hx h63 hbytes hbase h;rw[if_pos (by simp[Region.wanted,hgd])] at hh;exact hh
theorem Nj{w:World}{base e size n cap:Nat}{A:Option Addr}{xs:List Value}(h:w.ownsRow base e size (.slice A n cap) n xs):n≤cap:=by
 rcases h.2 with ⟨h0,h1⟩|⟨g',cap',cur,e,hb,hh,h1,h2,h3,h4⟩
 ·omega
 cases e;exact h1
theorem uq{w w':World}{base e size n:Nat}{v:Value}{xs:List Value}(h:w.ownsRow base e size v n xs)(hb:Below w.heap.size w w'):w'.ownsRow base e size v n xs :=
 h.kept (row:=some w.heap.size) ⟨hb.os,hb.tape,hb.output,hb.size,fun i hi _=>hb.block i hi⟩ (.inr fun e=>by have:=(h.lt _ e).2;omega)
theorem Gf:∀(l:List Obj) (w:World),(laid w l).heap.size=w.heap.size+l.length
 | [],w=>rfl
 | o :: l,w=>by rw[laid,Gf l,World.size_alloc,List.length_cons];omega
theorem ML:∀(l:List Obj) (w:World),Below w.heap.size w (laid w l)
 | [],w=>Below.refl _ _
 | o :: l,w=>(ay w o).trans ((ML l (w.alloc o)).mono (by simp))
theorem Wd:∀(l:List Obj) (w:World) (i:Nat),i<l.length→(laid w l).heap[w.heap.size+i]?=l[i]?
 | [],w,i,h=>absurd h (by simp)
 | o :: l,w,0,_=>((ML l (w.alloc o)).block _ (by simp)).trans (heap_alloc_new w o)
 | o :: l,w,i+1,h=>by
  have:=Wd l (w.alloc o) i (by simpa using h);rw[World.size_alloc] at this;rw[laid,List.getElem?_cons_succ,←this,show w.heap.size+(i+1)=w.heap.size+1+i by omega]
theorem XV:∀(l:List (Int×List Int)) (Z i:Nat) (x:Int×List Int),l[i]?=some x→(mQ Z l)[i*2]?=some (.int .i64 x.1)∧(mQ Z l)[i*2+1]?=some (.slice (some ⟨Z+i,0,none⟩) x.2.length x.2.length)
 | [],Z,i,x,h=>by simp at h
 | y :: l,Z,0,x,h=>by
  cases h;exact⟨rfl,rfl⟩
 | y :: l,Z,i+1,x,h=>by
  have:=XV l (Z+1) i x (by simpa using h);have e:mQ Z (y :: l)=.int .i64 y.1 :: .slice (some ⟨Z,0,none⟩) y.2.length y.2.length :: mQ (Z+1) l:=rfl;rw[e,show (i+1)*2=i*2+1+1 by omega,show Z+(i+1)=Z+1+i by omega];exact this
def xJ(b:Nat)(W:World):Prop:=∀i x,Nf.dr[i]?=some x→W.cell? ⟨b+11,i*2,none⟩=some (.int .i64 x.1)∧W.cell? ⟨b+11,i*2+1,none⟩=some (.slice (some ⟨b+i,0,none⟩) x.2.length x.2.length)∧∀j v,x.2[j]?=some v→W.cell? ⟨b+i,j,none⟩=some (.int .i64 v)
theorem xJ.below{b:Nat}{w w':World}(h:xJ b w)(hb:Below (b+12) w w'):xJ b w':=fun i x hx=>by
 have hi:i<11:=(List.getElem?_eq_some_iff.1 hx).1;obtain⟨h1,h2,h3⟩:=h i x hx;exact⟨(hb.cell (by show b+11<_;omega)).trans h1,(hb.cell (by show b+11<_;omega)).trans h2,fun j v hv=>(hb.cell (by show b+i<_;omega)).trans (h3 j v hv)⟩
theorem amr(w:World):xJ w.heap.size ((laid w (Nf.dr.map pg)).alloc (.cells (mQ w.heap.size Nf.dr).toArray 297)):=fun i x hx=>by
 have hi:i<11:=(List.getElem?_eq_some_iff.1 hx).1;have hz:(laid w (Nf.dr.map pg)).heap.size=w.heap.size+11:=Gf _ _;obtain⟨h1,h2⟩:=XV Nf.dr w.heap.size i x hx
 have hB:ae ((laid w (Nf.dr.map pg)).alloc (.cells (mQ w.heap.size Nf.dr).toArray 297)) (w.heap.size+11) 297 (mQ w.heap.size Nf.dr).toArray:=by
  have:=ae.new (laid w (Nf.dr.map pg)) 297 (mQ w.heap.size Nf.dr).toArray;rwa[hz] at this
 refine⟨(hB.cell _).trans (by simpa using h1),(hB.cell _).trans (by simpa using h2),fun j v hv=>?_⟩
 have hL:ae (laid w (Nf.dr.map pg)) (w.heap.size+i) 3 (aq x.2).toArray:=by
  have:=Wd (Nf.dr.map pg) w i (by simpa using show i<Nf.dr.length from hi);rw[List.getElem?_map,hx] at this;exact this
 rw[(hL.alloc _).cell];simp[aq,hv]
namespace Nf
theorem Xl:∀(m:Int) (l:List Int) (q:Nat) (a b:Int),l[q*2]?=some a→l[q*2+1]?=some b→(mO m l)[q]?=some ⟨b,a,m⟩
 | m,[],q,a,b,h,_=>by simp at h
 | m,[x],q,a,b,_,h=>by simp at h
 | m,x :: y :: l,0,a,b,h1,h2=>by
  cases h1;cases h2;rfl
 | m,x :: y :: l,q+1,a,b,h1,h2=>by
  have e:mO m (x :: y :: l)=⟨y,x,m⟩ :: mO m l:=rfl;rw[show (q+1)*2=q*2+1+1 by omega] at h1 h2;rw[e,List.getElem?_cons_succ];exact Xl m l q a b h1 h2
theorem amo:∀x∈dr,x.2.length=(mO x.1 x.2).length*2:=by decide +kernel
theorem amq:∀x∈dr,x.2.length≤28:=by decide +kernel
def nj(l:List Pr):List Pr:=l.foldl mq []
theorem ac8(l:List Pr)(p:Pr):nj (l++[p])=mq (nj l) p:=by
 unfold nj;rw[List.foldl_append];rfl
theorem SG:∀(l acc:List Pr),(l.foldl mq acc).length=acc.length+l.length
 | [],acc=>rfl
 | p :: l,acc=>by rw[List.foldl_cons,SG l,SH,List.length_cons];omega
theorem xP(l:List Pr):(nj l).length=l.length:=by unfold nj;rw[SG];simp
def eH(i q:Nat):List Pr:=(dr.take i).flatMap (fun x=>mO x.1 x.2)++(match dr[i]? with
 | some x=>(mO x.1 x.2).take q
 | none=>[])
theorem ajn{i q:Nat}{x:Int×List Int}{p:Pr}(hx:dr[i]?=some x)(hp:(mO x.1 x.2)[q]?=some p):eH i (q+1)=eH i q++[p]:=by
 unfold eH;rw[hx];dsimp only;rw[List.take_add_one,hp,List.append_assoc];rfl
theorem ajo{i q:Nat}{x:Int×List Int}(hx:dr[i]?=some x)(hq:q=(mO x.1 x.2).length):eH (i+1) 0=eH i q:=by
 unfold eH;rw[hx];dsimp only;rw[List.take_of_length_le (l:=mO x.1 x.2) (by omega),List.take_add_one,hx,List.flatMap_append]
 cases dr[i+1]?<;>simp
def np:List Int:=[832,768,833,769,8486,937,8490,75,8491,197]
theorem Ka:∀(j:Nat) (p:Pr),oz[j]?=some p→np[j*2]?=some p.w∧np[j*2+1]?=some p.f∧p.s=0:=by
 intro j p h
 match j with
 | 0=>cases h;exact⟨rfl,rfl,rfl⟩
 | 1=>cases h;exact⟨rfl,rfl,rfl⟩
 | 2=>cases h;exact⟨rfl,rfl,rfl⟩
 | 3=>cases h;exact⟨rfl,rfl,rfl⟩
 | 4=>cases h;exact⟨rfl,rfl,rfl⟩
 | j+5=>exact absurd h (by simp[oz])
theorem ajm:nj (eH 11 0)++oz=iE:=rfl
theorem XC:∀i,i<12→∀q,q<20→(eH i q).length≤500:=by decide +kernel
end Nf
theorem XM(w:World):Calls Tryz.prog 221 #[] w fun e w'=>(∃A' c',e=.returned (.slice A' Nf.iE.length c')∧w'.ownsRow w.heap.size 272 3 (.slice A' Nf.iE.length c') Nf.iE.length (bL Nf.iE))∧Below w.heap.size w w':=by
 have HT:=ap (amr w);have pA:=ap (Below.trans (ML (Nf.dr.map pg) w) ((ay (laid w (Nf.dr.map pg)) (.cells (mQ w.heap.size Nf.dr).toArray 297)).mono (by rw[Gf];omega)));have HZ:=ap (show ((laid w (Nf.dr.map pg)).alloc (.cells (mQ w.heap.size Nf.dr).toArray 297)).heap.size=w.heap.size+12 by rw[World.size_alloc,Gf];rfl);have Pq:=ap (akd w);obtain⟨W1,yg⟩:∃W1,(laid w (Nf.dr.map pg)).alloc (.cells (mQ w.heap.size Nf.dr).toArray 297)=W1:=⟨_,rfl⟩;rw[yg] at HT pA HZ Pq;clear yg
 go_enter Tryz.func221,Tryz.ntmps221
 go_wp2_with fail
 refine Pq.o.mono ?_;rintro e w1 ⟨rfl,jN⟩;subst jN;go_wp2
 go_loopg [1,3,4] 11 (fun gk v1 v3 v4 wr=>∃(i:Nat) (A2:Option Addr) (c2:Nat),gk=11-i∧i≤11∧v3=.int .i64 (i:Int)∧v1=.slice A2 (Nf.eH i 0).length c2∧(Nf.eH i 0).length≤c2∧wr.ownsRow (w.heap.size+12) 272 3 (.slice A2 (Nf.eH i 0).length c2) (Nf.eH i 0).length (bL (Nf.nj (Nf.eH i 0)))∧xJ w.heap.size wr∧Below w.heap.size w wr∧w.heap.size+12≤wr.heap.size)
 case atStart=>exact⟨0,none,0,rfl,by omega,rfl,rfl,by decide,World.ownsRow_nil _ _ _ _,HT.o,pA.o,by rw[HZ.o];exact Nat.le_refl _⟩
 case round=>
  obtain⟨i,A2,c2,au,hi,rfl,rfl,bj,ho,ht,hb,aN⟩:=hrel;have Hg:=ap au;have HO:=ap ho;have uI:=ap bj;have kZ:=ap ht;have HB:=ap hb;clear au ho bj ht hb
  by_cases hlt:i<11
  ·obtain⟨x,hx⟩:∃x,Nf.dr[i]?=some x:=⟨_,List.getElem?_eq_getElem (by exact hlt)⟩;have LC:=Nf.amo x (List.mem_of_getElem? hx);have HX:=ap hx;obtain⟨Z,hZ⟩:∃Z,(Nf.mO x.1 x.2).length=Z:=⟨_,rfl⟩;have HZ2:=ap hZ;rw[hZ] at LC;obtain⟨n,hn⟩:∃n,x.2.length=n:=⟨_,rfl⟩;have HN:=ap hn;have uN:=ap (hn.symm.trans LC);have UK:(0:Int)≤i∧(i:Int)<11:=by omega
   have apf:n≤28:=by rw[←hn];exact Nf.amq x (List.mem_of_getElem? hx)
   have apJ:Z<20:=by have:=uN.o;omega
   clear hx LC hZ hn;go_wp2
   rename World=>wo
   go_loopg [1,4] Z (fun gq v1 v4 wr=>∃(q k:Nat) (A2:Option Addr) (c2:Nat),gq=Z-q∧q≤Z∧k=q*2∧v4=.int .i64 (k:Int)∧v1=.slice A2 (Nf.eH i q).length c2∧(Nf.eH i q).length≤c2∧wr.ownsRow (w.heap.size+12) 272 3 (.slice A2 (Nf.eH i q).length c2) (Nf.eH i q).length (bL (Nf.nj (Nf.eH i q)))∧xJ w.heap.size wr∧Below w.heap.size w wr∧w.heap.size+12≤wr.heap.size)
   case atStart=>exact⟨0,0,_,_,rfl,by omega,rfl,rfl,rfl,uI.o,HO.o,kZ.o,HB.o,aN⟩
   case round=>
    obtain⟨q,k,A2,c2,tP,hq,hk,rfl,rfl,bj,ho,ht,hb,aN⟩:=hrel;have mi:=ap tP;have aK:=ap ho;have Dh:=ap bj;have ag:=ap hb;have cB:=ap ht;have HK:=ap hk;have cJ:w.heap.size+12≤wr.heap.size:=aN;clear tP ho bj hb ht hk aN;obtain⟨oU,Mw,dW⟩:=cB.o i x HX.o;rw[HN.o] at Mw
    by_cases hqz:q<Z
    ·have js:k+1<n:=by have:=uN.o;have:=HK.o;omega
     obtain⟨k1,bZ⟩:∃k1,k+1=k1:=⟨_,rfl⟩;obtain⟨la,cn⟩:∃v,x.2[k]?=some v:=⟨_,List.getElem?_eq_getElem (by have:=HN.o;omega)⟩;obtain⟨lb,fc⟩:∃v,x.2[k1]?=some v:=⟨_,List.getElem?_eq_getElem (by have:=HN.o;omega)⟩;have y0:=Mw;have y1:=oU;have y2:=dW _ _ cn;have y3:=dW _ _ fc;have hp:(Nf.mO x.1 x.2)[q]?=some ⟨lb,la,x.1⟩:=Nf.Xl x.1 x.2 q la lb (by rw[←HK.o];exact cn) (by rw[←HK.o,bZ];exact fc);have aX:=Nf.ajn HX.o hp;have iP:Nf.nj (Nf.eH i (q+1))=Nf.mq (Nf.nj (Nf.eH i q)) ⟨lb,la,x.1⟩:=by rw[aX,Nf.ac8]
     have ju:(Nf.eH i (q+1)).length=(Nf.eH i q).length+1:=by rw[aX,List.length_append];rfl
     have hle:=Nf.XC i (by omega) q (by omega);have sI:=ap (fun (W:World) (h:Below wr.heap.size wr W)=>aj4 (Nf.nj (Nf.eH i q)) ⟨lb,la,x.1⟩ A2 c2 wr.heap.size W ((by have:=Reads.cY aK.o;rw[←Nf.xP] at this;exact this.below h)) h.size (by rw[Nf.xP];omega) (by rw[Nf.xP];exact Dh.o));have sz:=ap iP;have uR:=ap ju;have z1:IntKind.i64.wrap ((k:Int)+1)=(k1:Int):=by rw[IntWalk.i64_in _ (by omega)];omega
     have aoZ:=ap bZ;have eM:(0:Int)≤k∧(k:Int)<n:=by omega
     have afM:(0:Int)≤k1∧(k1:Int)<n:=by omega
     rw[←sz.o] at sI;unfold wW at sI;rw[Nf.xP] at sI;rw[Nf.xP,uR.o] at sI;dsimp only at sI;clear dW cn fc hp aX iP ju Mw oU bZ;obtain⟨mk,rJ⟩:∃m,x.1=m:=⟨_,rfl⟩;rw[rJ] at y1 sI;clear rJ;obtain⟨pn,lR⟩:∃m,(Nf.eH i q).length=m:=⟨_,rfl⟩;have uS:=ap lR;rw[lR] at sI hle;rw[lR];clear lR
     go_wp2_with fail
     refine wp_region_held_drew (S:=fun W=>Below wr.heap.size wr W) (by kernel_rfl) ?_ (fun hHeld=>?_)
     ·(try dsimp only)
      first|done|exact (Below.refl _ _).drew|exact hHeld|exact hHeld.drew
     change wpAnyH _ _ _ _ _ 26 #[false,false,false,false,false,false,false,false,false,false,false,false,false,false,false,false,false,false,false,false,false,false,false,false,false,false] _ _;iterate 24 (refine aJ (v:=?_) rfl rfl hHeld ?_ ?_;rotate_left;(· (intro w hSw;(try dsimp only at hSw);have s0:=(hSw.cell (dE y0)).trans y0;have s1:=(hSw.cell (dE y1)).trans y1;have s2:=(hSw.cell (dE y2)).trans y2;have s3:=(hSw.cell (dE y3)).trans y3;go_simp;try with_reducible rfl));(try simp only[nx,List.set]))
     refine fU (i:=24) rfl (by kernel_rfl) (by kernel_rfl) (fun K hK=>?_);go_simp
     go_at_call 238
     refine (sI.o _ hHeld).mono ?_;rintro e w' ⟨⟨A3,c3,rfl,b7⟩,aA⟩;have cf:=ap (b7.mono (Nat.le_trans cJ hHeld.size));have aw:=ap (ag.o.trans ((hHeld.trans (aA.mono hHeld.size)).mono ag.o.size));have VI:wr.heap.size≤w'.heap.size:=Nat.le_trans hHeld.size aA.size;replace hHeld:=hHeld.trans (aA.mono hHeld.size);clear b7 aA;(try dsimp only);refine hK.out _ _ ?_ (fun aL=>?_)
     ·(try dsimp only)
      first|done|exact (Below.refl _ _).drew|exact hHeld|exact hHeld.drew
     clear hK K hHeld;have hHeld:=aL;clear aL;(try simp only[Act.put,List.setIfInBounds_toArray,List.set_cons_zero,List.set_cons_succ]);(refine aJ (v:=?_) rfl rfl hHeld ?_ ?_;rotate_left;(· (intro w hSw;(try dsimp only at hSw);go_simp;try with_reducible rfl));(try simp only[nx,List.set]));refine wpAnyH_done (by kernel_rfl) ?_ _;go_wp2
     go_roundg (Z-(q+1))
     case measure=>have:=mi.o;omega
     case rel=>
      have aA:Below (w.heap.size+12) wr w':=hHeld.mono cJ;refine⟨q+1,k+2,A3,c3,rfl,by omega,by have:=HK.o;omega,by first|rfl|go_num,?_,?_,?_,cB.o.below aA,aw.o,by omega⟩
      ·rw[uR.o,uS.o]
      ·rw[uR.o,uS.o];exact Nj cf.o
      rw[uR.o,uS.o];exact cf.o
    have js:¬k<n:=by have:=uN.o;have:=HK.o;omega
    have Ve:q=Z:=by omega
    have ah:=ap (Nf.ajo HX.o (Ve.trans HZ2.o.symm));have eM:¬(k:Int)<(n:Int):=by omega
    clear dW Ve;go_wp2
    go_roundg (11-(i+1))
    case measure=>have:=Hg.o;omega
    case rel=>exact⟨i+1,A2,c2,rfl,by omega,by first|rfl|go_num,by rw[ah.o],by rw[ah.o];exact Dh.o,by rw[ah.o];exact aK.o,cB.o,ag.o,cJ⟩
  have afA:i=11:=by omega
  subst afA;obtain⟨m,hm⟩:∃m,(Nf.eH 11 0).length=m:=⟨_,rfl⟩;have hm5:m≤500:=by rw[←hm];exact Nf.XC 11 (by omega) 0 (by omega)
  have HM:=ap hm;have HD:=ap (fun W=>ajU W);have HE:=ap Nf.ajm;obtain⟨LL,E7⟩:∃L,Nf.nj (Nf.eH 11 0)=L:=⟨_,rfl⟩;have HLL:=ap E7;rw[hm,E7] at HO;rw[E7] at HE;rw[hm];clear hm E7
  go_wp2_with fail
  refine (HD.o _).mono ?_;rintro e wd ⟨rfl,hwd⟩;obtain⟨D,hD⟩:∃D,wr.heap.size=D:=⟨_,rfl⟩;have kF:=ae.new wr 3 (Nf.np.map (Value.int .i64)).toArray;rw[hD] at kF;have mX:=ap (show ae wd D 3 (Nf.np.map (Value.int .i64)).toArray from by rw[hwd];exact kF);have jq:Below wr.heap.size wr wd:=by rw[hwd];exact ay _ _
  have a8:=ap (HB.o.trans (jq.mono HB.o.size));have fx:=ap (uq HO.o jq);have hDw:w.heap.size+12≤D:=by omega
  have hDd:D+1≤wd.heap.size:=mX.o.lt;rw[hD];clear hwd kF jq hD;dsimp only;go_wp2
  go_loopg [1,6] 5 (fun gk v1 v6 wr=>∃(j k:Nat) (A3:Option Addr) (c3:Nat),gk=5-j∧j≤5∧k=j*2∧v6=.int .i64 (k:Int)∧v1=.slice A3 (m+j) c3∧wr.ownsRow (w.heap.size+12) 272 3 (.slice A3 (m+j) c3) (m+j) (bL (LL++Nf.oz.take j))∧ae wr D 3 (Nf.np.map (Value.int .i64)).toArray∧Below w.heap.size w wr∧w.heap.size+12≤wr.heap.size∧(Value.slice A3 (m+j) c3).ownBlock≠some D)
  case atStart=>exact⟨0,0,A2,c2,rfl,by omega,rfl,rfl,rfl,by rw[List.take_zero,List.append_nil];exact fx.o,mX.o,a8.o,by omega,bR fx.o mX.o (by decide)⟩
  case round=>
   obtain⟨j,k,A3,c3,au,hj,hk,rfl,rfl,ho,kF,hb,mB,pY⟩:=hrel;have Hg3:=ap au;have cf:=ap ho;have Iz:=ap kF;have aw:=ap hb;have HK:=ap hk;have HND:=ap pY;clear au ho kF hb hk pY
   by_cases hj5:j<5
   ·obtain⟨p,hp⟩:∃p,Nf.oz[j]?=some p:=⟨_,List.getElem?_eq_getElem (by exact hj5)⟩;obtain⟨dB,bJ,gR⟩:=Nf.Ka j p hp;have uV:=ap (show Nf.oz.take (j+1)=Nf.oz.take j++[p] by rw[List.take_add_one,hp];rfl);obtain⟨pw,pf,ps⟩:=p;dsimp only at dB bJ gR;subst gR;rw[←HK.o] at dB bJ;obtain⟨k1,bZ⟩:∃k1,k+1=k1:=⟨_,rfl⟩;rw[bZ] at bJ;have y0:wr.cell? ⟨D,k,none⟩=some (.int .i64 pw):=by rw[Iz.o.cell,List.getElem?_toArray,List.getElem?_map,dB];rfl
    have y1:wr.cell? ⟨D,k1,none⟩=some (.int .i64 pf):=by rw[Iz.o.cell,List.getElem?_toArray,List.getElem?_map,bJ];rfl
    have js:k1<10:=by have:=HK.o;omega
    have z1:IntKind.i64.wrap ((k:Int)+1)=(k1:Int):=by rw[IntWalk.i64_in _ (by omega)];omega
    have eM:(0:Int)≤k∧(k:Int)<10:=by omega
    have afM:(0:Int)≤k1∧(k1:Int)<10:=by omega
    have BX:=ap (show Below wr.heap.size wr (wr.drew.alloc (.cells #[.int .i64 pw,.int .i64 pf,.int .i64 0] 272)) from (Below.refl _ _).drew.alloc (Nat.le_refl _) _);have KX:=ap (show ae (wr.drew.alloc (.cells #[.int .i64 pw,.int .i64 pf,.int .i64 0] 272)) wr.heap.size 272 #[.int .i64 pw,.int .i64 pf,.int .i64 0] from ae.new wr.drew 272 _);have Y0:=ap y0;have Y1:=ap y1;have HY:=ap (show (wr.drew.alloc (.cells #[.int .i64 pw,.int .i64 pf,.int .i64 0] 272)).cell? ⟨D,k,none⟩=some (.int .i64 pw)∧(wr.drew.alloc (.cells #[.int .i64 pw,.int .i64 pf,.int .i64 0] 272)).cell? ⟨D,k1,none⟩=some (.int .i64 pf) from⟨(BX.o.cell (dE y0)).trans y0,(BX.o.cell (dE y1)).trans y1⟩);have Jn:=ap (fun e=>HND.o (Eq.symm e));clear hp dB bJ bZ y0 y1
    go_wp2_with fail
    refine wp_region_held_drew (S:=fun W'=>W'.cell? ⟨D,k,none⟩=some (.int .i64 pw)∧W'.cell? ⟨D,k1,none⟩=some (.int .i64 pf)) (by kernel_rfl) ?_ (fun hHeld=>?_)
    ·(try dsimp only);exact⟨Y0.o,Y1.o⟩
    change wpAnyH _ _ _ _ _ 14 #[false,false,false,false,false,false,false,false,false,false,false,false,false,false] _ _;iterate 11 (refine aJ (v:=?_) rfl rfl hHeld ?_ ?_;rotate_left;(· (intro w' hSw;obtain⟨z0,z1⟩:=hSw;go_simp;try with_reducible rfl));(try simp only[nx,List.set]))
    refine fU (i:=11) rfl (by kernel_rfl) (by kernel_rfl) (fun K hK=>?_);go_simp;(try dsimp only);refine hK.out _ _ ?_ (fun aL=>?_)
    ·(try dsimp only);exact⟨(BX.o.cell (dE Y0.o)).trans Y0.o,(BX.o.cell (dE Y1.o)).trans Y1.o⟩
    clear hK K hHeld;have hHeld:=aL;clear aL;(try simp only[Act.put,List.setIfInBounds_toArray,List.set_cons_zero,List.set_cons_succ]);refine fU (i:=12) rfl (by kernel_rfl) (by kernel_rfl) (fun K hK=>?_);refine aiw _ (by rfl) _ _ _ (by rfl) (w.heap.size+12) 272 _ 3 24 Tryz.underlying269 ql (by rfl) (by omega) (.slice A3 (m+j) c3) (m+j) _ (by rfl) (uq cf.o BX.o) [.int .i64 pw,.int .i64 pf,.int .i64 0] rfl (by intro u hu;simp at hu;rcases hu with rfl|rfl|rfl<;>rfl) wr.heap.size KX.o (by rfl) (by unfold maxLen;omega) (by omega) (Nat.le_trans mB BX.o.size) ?_;intro g8 dw jc aP aG cX;have cU:=ap aP;have eC:=ap aG;clear aP aG cX;(try dsimp only);refine hK.out _ _ ?_ (fun aL=>?_)
    ·(try dsimp only);exact⟨(eC.o.cell HY.o.1 Jn.o),(eC.o.cell HY.o.2 Jn.o)⟩
    clear hK K hHeld;have hHeld:=aL;clear aL;(try simp only[Act.put,List.setIfInBounds_toArray,List.set_cons_zero,List.set_cons_succ]);(refine aJ (v:=?_) rfl rfl hHeld ?_ ?_;rotate_left;(· (intro w' hSw;obtain⟨z0,z1⟩:=hSw;go_simp;try with_reducible rfl));(try simp only[nx,List.set]));refine wpAnyH_done (by kernel_rfl) ?_ _;go_wp2
    go_roundg (5-(j+1))
    case measure=>have:=Hg3.o;omega
    case rel=>
     have TL:ae jc D 3 (Nf.np.map (Value.int .i64)).toArray:=(Iz.o.go BX.o).grown eC.o Jn.o;have vW:Below w.heap.size w jc:=(aw.o.trans (BX.o.mono aw.o.size)).grown eC.o (aw.o.trans (BX.o.mono aw.o.size)).size (fun j' e=>by have:=(aD cf.o j' e).1;omega)
     have hp:bL (LL++Nf.oz.take (j+1))=bL (LL++Nf.oz.take j)++[.int .i64 pw,.int .i64 pf,.int .i64 0]:=by
      rw[uV.o,←List.append_assoc,zh];rfl
     exact⟨j+1,k+2,some ⟨g8,0,none⟩,dw,rfl,by omega,by have:=HK.o;omega,by first|rfl|go_num,by rw[Nat.add_assoc],by rw[hp,←Nat.add_assoc];exact cU.o,TL,vW,Nat.le_trans mB (Nat.le_trans BX.o.size eC.o.size),bR (by rw[←Nat.add_assoc];exact cU.o) TL (by decide)⟩
   have afH:j=5:=by omega
   have afK:k=10:=by have:=HK.o;omega
   subst afH;subst afK;have hl:Nf.iE.length=m+5:=by rw[←HE.o,List.length_append,←HLL.o,Nf.xP,HM.o];rfl
   have ho:=cf.o;rw[List.take_of_length_le (show Nf.oz.length≤5 from Nat.le_refl _),HE.o] at ho;have sG:=ap (ho.mono (Nat.le_add_right _ 12));have HL:=ap hl;clear ho hl;go_wp2;go_ret;refine⟨⟨A3,c3,by rw[HL.o];rfl,?_⟩,aw.o⟩;rw[HL.o];exact sG.o
end
end Go.Proofs.YtpdkeckeekchlaaGreatDoor
