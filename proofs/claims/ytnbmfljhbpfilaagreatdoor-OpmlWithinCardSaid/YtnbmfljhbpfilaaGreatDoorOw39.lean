/- NFC: a pair in its place (ref10.put). And more. -/
import Derived.Test.YtnbmfljhbpfilaaGreatDoorOw01
import Derived.Test.YtnbmfljhbpfilaaGreatDoorOw06
import Derived.Test.YtnbmfljhbpfilaaGreatDoorOw38
set_option linter.unusedSimpArgs false
set_option maxRecDepth 100000
set_option maxHeartbeats 8000000
set_option linter.unusedVariables false
namespace Go.Proofs.YtnbmfljhbpfilaaGreatDoor
section
open Go.RowKit Go.WideShapes

def vW(p:Nf.Pr):Array Value:=#[.int .i64 p.w,.int .i64 p.f,.int .i64 p.s]
def bJ(l:List Nf.Pr):List Value:=l.flatMap fun p=>(vW p).toList
theorem yG(a b:List Nf.Pr):bJ (a++b)=bJ a++bJ b:=by unfold bJ;rw[List.flatMap_append]
theorem FT:∀(l:List Nf.Pr) (k:Nat) (p:Nf.Pr),l[k]?=some p→(bJ l)[k*3]?=some (.int .i64 p.w)∧(bJ l)[k*3+1]?=some (.int .i64 p.f)∧(bJ l)[k*3+2]?=some (.int .i64 p.s)
 | [],k,p,h=>by simp at h
 | x :: l,0,p,h=>by
  cases h;exact⟨rfl,rfl,rfl⟩
 | x :: l,k+1,p,h=>by
  have e:bJ (x :: l)=.int .i64 x.w :: .int .i64 x.f :: .int .i64 x.s :: bJ l:=rfl;have:=FT l k p (by simpa using h);rw[e,show (k+1)*3=k*3+3 by omega];exact this
theorem akh{P:Program}(w:World)(t ty e:TypeId)(i:TypeInfo)(ht:P.underlying t=some (.slice e))(hi:P.info? e=some i)(base:Option Addr)(n cap c:Nat)(hle:n≤cap) :
  (Builtin.append_ #[t,t] ty #[.slice base n cap,.slice none 0 c]).run P w=.ok (.slice base n cap) w:=by
 cases base<;>simp[Builtin.append_,run_underlying ht,sizeOf,typeInfo,hi,Builtin.lenOf,Builtin.firstCells,loadCells,loadCellsFrom,hle,storeCells]
theorem wB{P:Program}(W:World){e:TypeId}{ops:Array Oper}{rest:List Oper}{o:Oper}{a:Act}{Q:Exit→Act→World→Prop}(hgd:o.guard=none)(s x:Operand)(t:TypeId)
  (ho:o.op=.call { callee:=.builtin .append,args:=#[s,x],argTypes:=#[t,t] })
  (base:Nat) (z:Value) (size bytes:Nat) (ht:P.underlying t=some (.slice e)) (fw:(P.info? e).map (fun i=>(i.zero,i.size,i.bytes))=some (some z,size,bytes))
  (hzs:z.cells.size=size) (hsz:0<size) (v:Value) (n:Nat) (xs:List Value) (hs:a.eval s=v) (hown:W.ownsRow base e size v n xs)
  (B:Nat) (A:Option Addr) (m c:Nat) (cs:List Value) (hr:Reads W B size A m cs) (h1:∀u∈cs,u.oneCell'=true) (hx:a.eval x=.slice A m c)
  (h63:n+m≤maxLen) (hbytes:(n+m)*bytes≤140737488355328) (hbase:base≤W.heap.size)
  (h:∀A' c' w',w'.ownsRow base e size (.slice A' (n+m) c') (n+m) (xs++cs)→W.grownBy w' v.ownBlock→wpList P ops Q rest (a.put o.dst (.slice A' (n+m) c')) w'):wpList P ops Q (o :: rest) a W:=by
 obtain⟨i,hi,hz,hsize,hby⟩:=info_parts fw
 cases A with
 | none=>
  have hm:m=0:=by
   rcases Nat.eq_zero_or_pos m with h0|h0
   ·exact h0
   obtain⟨b,off,e,_⟩:=hr.2 h0;cases e
  subst hm;have hcs:cs=[]:=List.eq_nil_of_length_eq_zero (by rw[hr.1];omega);subst hcs
  obtain⟨Av,cv,rfl,hle⟩:∃Av cv,v=.slice Av n cv∧n≤cv:=by
   rcases hown.2 with ⟨rfl,rfl⟩|⟨g,cap,cur,rfl,_,_,Lm,_⟩
   ·exact⟨none,0,rfl,Nat.le_refl _⟩
   exact⟨_,_,rfl,Lm⟩
  refine wpList_plain hgd fun K hK=>?_;unfold Oper.wp execOp;simp only[ho,resolve,invoke,builtin,Sem.run_bind,Sem.run_pure,Result.andThen_ok,List.map_toArray,List.map_cons,List.map_nil,hs,hx,akh W t o.type e i ht hi Av n cv c hle];exact hK _ _ (h Av cv W (by rw[List.append_nil];exact hown) ⟨rfl,rfl,rfl,Nat.le_refl _,fun _ _ _=>rfl⟩)
 | some ad=>
  refine wpList_append_own W hgd s x t ho base e i z size bytes ht hi hz hsize hby hzs hsz v n xs hs hown ad m c cs hx hr.1 ?_ h1 h63 hbytes hbase ?_
  ·intro j u hu;have hj:j<cs.length:=(List.getElem?_eq_some_iff.1 hu).1
   have hm:0<m:=by
    rcases Nat.eq_zero_or_pos m with h0|h0
    ·subst h0;rw[hr.1] at hj;omega
    exact h0
   obtain⟨b,off,e,_,hc⟩:=hr.2 hm;cases e;have:=hc j u hu;unfold Addr.add;split
   ·subst_vars;exact this
   exact this
  intro v' w' hown' hgrow _
  rcases hown'.2 with ⟨rfl,h0⟩|⟨g,cap,cur,rfl,_⟩
  ·have:=h none 0 w';rw[h0] at this hown';exact this hown' hgrow
  exact h _ _ w' hown' hgrow
theorem FU(l:List Nf.Pr):∀u∈bJ l,u.oneCell'=true:=by
 intro u hu;obtain⟨p,_,hp⟩:=List.mem_flatMap.1 hu;simp only[vW,List.mem_cons,List.not_mem_nil,or_false] at hp
 rcases hp with rfl|rfl|rfl<;>rfl
theorem ajj{w:World}{B size n k:Nat}{A:Option Addr}{xs:List Value}(h:Reads w B size A n xs)(hk:k<n):∃b off,A=some ⟨b,off,none⟩∧Reads w B size (some ⟨b,off+k*size,none⟩) (n-k) (xs.drop (k*size)):=by
 obtain⟨b,off,e,hb,hc⟩:=h.2 (by omega);refine⟨b,off,e,by rw[List.length_drop,h.1,Nat.sub_mul],fun _=>⟨b,_,rfl,hb,fun j u hu=>?_⟩⟩;rw[List.getElem?_drop] at hu;rw[Nat.add_assoc];exact hc _ _ hu
theorem ajk{w:World}{B size n k b off:Nat}{xs:List Value}(h:Reads w B size (some ⟨b,off,none⟩) n xs)(hk:k<n):Reads w B size (some ⟨b,off+k*size,none⟩) (n-k) (xs.drop (k*size)):=by
 obtain⟨b',Wl,e,h⟩:=ajj h hk;cases e;exact h
theorem aiX(l:List Nf.Pr):∀k,(bJ l).drop (k*3)=bJ (l.drop k):=by
 induction l with
 | nil=>intro k;simp[bJ]
 | cons x l ih=>
  intro k
  cases k with
  | zero=>simp
  | succ k=>
   rw[List.drop_succ_cons,←ih,show (k+1)*3=k*3+1+1+1 by omega];rfl
namespace Nf
theorem DL{l:List Pr}{p:Pr}{k:Nat}(h1:∀x∈l.take k,x.w<p.w)(h2:∀x,l[k]?=some x→¬x.w<p.w):ma l p=l.take k++p :: l.drop k:=by
 unfold ma
 induction l generalizing k with
 | nil=>simp
 | cons x l ih=>
  cases k with
  | zero=>
   have:decide (x.w<p.w)=false:=decide_eq_false (h2 x rfl);simp[List.takeWhile_cons,List.dropWhile_cons,this]
  | succ k=>
   have hx:decide (x.w<p.w)=true:=decide_eq_true (h1 x (by simp));have:=ih (k:=k) (fun y hy=>h1 y (by rw[List.take_succ_cons];exact List.mem_cons_of_mem _ hy)) (fun y hy=>h2 y (by simpa using hy));simp only[List.takeWhile_cons,List.dropWhile_cons,hx,if_true,List.take_succ_cons,List.drop_succ_cons,List.cons_append];rw[this]
theorem R5(l:List Pr)(p:Pr):(ma l p).length=l.length+1:=by
 unfold ma;rw[List.length_append,List.length_cons,←Nat.add_assoc,←List.length_append,List.takeWhile_append_dropWhile]
end Nf
theorem pH:(Tryz.prog.info? 216).map (fun i=>(i.zero,i.size,i.bytes))=some (some (.agg #[.int .i64 0,.int .i64 0,.int .i64 0]),3,24):=by kernel_rfl
theorem ajC(l:List Nf.Pr)(p:Nf.Pr)(A:Option Addr)(c B:Nat)(w:World)(hR:Reads w B 3 A l.length (bJ l))(hB:B≤w.heap.size)(hl:l.length≤1000)(hlc:l.length≤c) :
  Calls Tryz.prog 197 #[.slice A l.length c,.agg (vW p)] w fun e w'=>(∃A' c',e=.returned (.slice A' (Nf.ma l p).length c')∧w'.ownsRow w.heap.size 216 3 (.slice A' (Nf.ma l p).length c') (Nf.ma l p).length (bJ (Nf.ma l p)))∧Below w.heap.size w w':=by
 obtain⟨N,hN⟩:∃N,l.length=N:=⟨_,rfl⟩;have HN:=hide hN;have HR:=hide hR;have aQ:=Nf.R5 l p;rw[hN] at hl hlc aQ ⊢;have HO:=hide (az w (.cells (vW p) 216));have HT:=hide (ae.new w 216 (vW p));clear hN hR;obtain⟨pw,pf,ps⟩:=p;unfold vW at HO HT ⊢;dsimp only at HO HT ⊢;have t0:=HT.out.cell 0;have t1:=HT.out.cell 1;have t2:=HT.out.cell 2
 go_enter Tryz.func197,Tryz.ntmps197
 go_wp2;clear t0 t1 t2
 go_loopg [5,6] N (fun gk v5 v6 wr=>∃(k:Nat) (A2:Option Addr) (c2:Nat),gk=N-k∧k≤N∧v6=.int .i64 (k:Int)∧v5=.slice A2 k c2∧wr.ownsRow (w.heap.size+1) 216 3 (.slice A2 k c2) k (bJ (l.take k))∧(∀x∈l.take k,x.w<pw)∧ae wr w.heap.size 216 #[.int .i64 pw,.int .i64 pf,.int .i64 ps]∧Below w.heap.size w wr∧w.heap.size+1≤wr.heap.size)
 case atStart=>exact⟨0,none,0,rfl,by omega,rfl,rfl,World.ownsRow_nil _ _ _ _,by simp,HT.out,HO.out,by simp⟩
 case round=>
  obtain⟨k,A2,c2,au,hk,rfl,rfl,ho,qK,b9,hb,aK⟩:=hrel;have Hg:=hide au;have zj:=hide ho;have zg:=hide qK;have tU:=hide b9;have HB:=hide hb;have t0:=b9.cell 0;have t1:=b9.cell 1;have t2:=b9.cell 2;clear au ho qK b9 hb
  by_cases hlt:k<N
  ·obtain⟨x,hx⟩:∃x,l[k]?=some x:=⟨_,List.getElem?_eq_getElem (by rw[HN.out];exact hlt)⟩;obtain⟨p0,p1,p2⟩:=FT l k x hx;obtain⟨gb,off,rfl,dH,hcell⟩:=HR.out.2 (by rw[HN.out];omega);have y0:wr.cell? ⟨gb,off+k*3,none⟩=some (.int .i64 x.w):=(HB.out.cell (by show gb<_;omega)).trans (hcell _ _ p0);have y1:wr.cell? ⟨gb,off+k*3+1,none⟩=some (.int .i64 x.f):=(HB.out.cell (by show gb<_;omega)).trans (hcell _ _ p1);have y2:wr.cell? ⟨gb,off+k*3+2,none⟩=some (.int .i64 x.s):=(HB.out.cell (by show gb<_;omega)).trans (hcell _ _ p2);have HX:=hide hx;have jh:(0:Int)≤k∧(k:Int)<N:=by omega
   have PV:=hide (show l.take (k+1)=l.take k++[x] by rw[List.take_add_one,hx];rfl);clear hx p0 p1 p2 hcell
   by_cases oo:x.w<pw
   ·have c7:decide (x.w<pw)=true:=decide_eq_true oo
    go_wp2_with fail
    go_quiet (fail)
    clear t0 t1 t2;have e9:=hide (show (wr.drewN nq).ownsRow (w.heap.size+1) 216 3 (.slice A2 k c2) k (bJ (l.take k)) from zj.out);have aU:=hide (show Below w.heap.size w (wr.drewN nq) from⟨HB.out.os,HB.out.tape,HB.out.output,HB.out.size,HB.out.block⟩);have fH:=hide (tU.out.drewN nq);have cC:w.heap.size+1≤(wr.drewN nq).heap.size:=aK;have z0:(wr.drewN nq).cell? ⟨gb,off+k*3,none⟩=some (.int .i64 x.w):=y0;have z1:(wr.drewN nq).cell? ⟨gb,off+k*3+1,none⟩=some (.int .i64 x.f):=y1;have z2:(wr.drewN nq).cell? ⟨gb,off+k*3+2,none⟩=some (.int .i64 x.s):=y2;clear y0 y1 y2;generalize wr.drewN nq=W at e9 aU fH cC z0 z1 z2 ⊢
    go_wp2_with (at_builtin;go_loud (refine fG W rfl (.tmp 21) (.tmp 26) 213 rfl (w.heap.size+1) (.agg #[.int .i64 0,.int .i64 0,.int .i64 0]) 3 24 Tryz.underlying213 pH rfl (by omega) (.slice A2 k c2) k (bJ (l.take k)) rfl e9.out (cs:=[.int .i64 x.w,.int .i64 x.f,.int .i64 x.s]) rfl (by intro u hu;simp at hu;rcases hu with rfl|rfl|rfl<;>rfl) rfl (by unfold maxLen;omega) (by omega) cC ?_);intro g' cap' w1 hown1 cL j9 fL aq;have eN:=hide hown1;have GL:=hide (cL);clear hown1 cL j9 fL aq)
    clear z0 z1 z2
    go_roundg (N-(k+1))
    case measure=>have:=Hg.out;omega
    case rel=>
     have kr:(Value.slice A2 k c2).ownBlock≠some w.heap.size:=fun e=>by have:=(aG e9.out _ e).1;omega
     refine⟨k+1,some ⟨g',0,none⟩,cap',rfl,by omega,by first|rfl|go_num,rfl,?_,?_,fH.out.grown GL.out (fun e=>kr e.symm),aU.out.grown GL.out aU.out.size (fun j e=>by have:=(aG e9.out j e).1;omega),Nat.le_trans cC GL.out.size⟩
     ·rw[PV.out,yG];exact eN.out
     rw[PV.out];intro y hy
     rcases List.mem_append.1 hy with hy|hy
     ·exact zg.out y hy
     rw[List.mem_singleton] at hy;subst hy;exact oo
   have c7:decide (x.w<pw)=false:=decide_eq_false oo;have tY:=hide (Nf.DL (p:=⟨pw,pf,ps⟩) zg.out (fun y hy=>by rw[HX.out] at hy;cases hy;exact oo))
   go_wp2_with fail
   go_quiet (fail)
   clear t0 t1 t2;have e9:=hide (show (wr.drewN nq).ownsRow (w.heap.size+1) 216 3 (.slice A2 k c2) k (bJ (l.take k)) from zj.out);have aU:=hide (show Below w.heap.size w (wr.drewN nq) from⟨HB.out.os,HB.out.tape,HB.out.output,HB.out.size,HB.out.block⟩);have fH:=hide (tU.out.drewN nq);have cC:w.heap.size+1≤(wr.drewN nq).heap.size:=aK;clear y0 y1 y2;generalize wr.drewN nq=W at e9 aU fH cC ⊢;have t0:=fH.out.cell 0;have t1:=fH.out.cell 1;have t2:=fH.out.cell 2
   go_wp2_with first
    | (at_builtin;go_loud (refine fG W rfl (.tmp 30) (.tmp 32) 213 rfl (w.heap.size+1) (.agg #[.int .i64 0,.int .i64 0,.int .i64 0]) 3 24 Tryz.underlying213 pH rfl (by omega) (.slice A2 k c2) k (bJ (l.take k)) rfl e9.out (cs:=[.int .i64 pw,.int .i64 pf,.int .i64 ps]) rfl (by intro u hu;simp at hu;rcases hu with rfl|rfl|rfl<;>rfl) rfl (by unfold maxLen;omega) (by omega) cC ?_);intro g' cap' w1 hown1 cL j9 fL aq;have eN:=hide hown1;have ay:=hide (aU.out.grown cL aU.out.size (fun j e=>by have:=(aG e9.out j e).1;omega));have mj:=Nat.le_trans cC cL.size;have fP:=hide (show Reads w1 B 3 (some ⟨gb,off+k*3,none⟩) (N-k) (bJ (l.drop k)) from by have:=ajk (HR.out.below (ay.out.mono hB)) (show k<l.length by rw[HN.out];omega);rw[HN.out,aiX] at this;exact this);clear hown1 cL j9 fL aq t0 t1 t2)
    | (at_builtin;go_loud (refine wB w1 rfl (.tmp 34) (.tmp 37) 213 rfl (w.heap.size+1) (.agg #[.int .i64 0,.int .i64 0,.int .i64 0]) 3 24 Tryz.underlying213 pH rfl (by omega) (.slice (some ⟨g',0,none⟩) (k+1) cap') (k+1) _ rfl eN.out B _ (N-k) (c-k) _ fP.out (FU _) rfl (by unfold maxLen;omega) (by omega) mj ?_);intro A3 c3 w2 bE cD;have aJ:=hide bE;have ah:=hide (ay.out.grown cD ay.out.size (fun j e=>by have:=(aG eN.out j e).1;omega));clear bE cD)
   go_ret;have bz:k+1+(N-k)=N+1:=by omega
   rw[bz];refine⟨⟨A3,c3,by rw[aQ];rfl,?_⟩,ah.out⟩;rw[aQ];have:=aJ.out.mono (Nat.le_succ w.heap.size);rw[bz] at this;rw[tY.out,yG,show bJ ((⟨pw,pf,ps⟩:Nf.Pr) :: l.drop k)=[.int .i64 pw,.int .i64 pf,.int .i64 ps]++bJ (l.drop k) from rfl,←List.append_assoc];exact this
  have mX:¬(k:Int)<(N:Int):=by omega
  have n7:decide ((k:Int)<(N:Int))=false:=decide_eq_false mX
  cases A with
  | none=>
   have tY:=hide (Nf.DL (p:=⟨pw,pf,ps⟩) zg.out (fun y hy=>by rw[List.getElem?_eq_none (by rw[HN.out];omega)] at hy;cases hy))
   go_wp2_with fail
   go_quiet (fail)
   clear t0 t1 t2;have e9:=hide (show (wr.drewN nq).ownsRow (w.heap.size+1) 216 3 (.slice A2 k c2) k (bJ (l.take k)) from zj.out);have aU:=hide (show Below w.heap.size w (wr.drewN nq) from⟨HB.out.os,HB.out.tape,HB.out.output,HB.out.size,HB.out.block⟩);have fH:=hide (tU.out.drewN nq);have cC:w.heap.size+1≤(wr.drewN nq).heap.size:=aK;generalize wr.drewN nq=W at e9 aU fH cC ⊢;have t0:=fH.out.cell 0;have t1:=fH.out.cell 1;have t2:=fH.out.cell 2
   go_wp2_with first
    | (at_builtin;go_loud (refine fG W rfl (.tmp 30) (.tmp 32) 213 rfl (w.heap.size+1) (.agg #[.int .i64 0,.int .i64 0,.int .i64 0]) 3 24 Tryz.underlying213 pH rfl (by omega) (.slice A2 k c2) k (bJ (l.take k)) rfl e9.out (cs:=[.int .i64 pw,.int .i64 pf,.int .i64 ps]) rfl (by intro u hu;simp at hu;rcases hu with rfl|rfl|rfl<;>rfl) rfl (by unfold maxLen;omega) (by omega) cC ?_);intro g' cap' w1 hown1 cL j9 fL aq;have eN:=hide hown1;have ay:=hide (aU.out.grown cL aU.out.size (fun j e=>by have:=(aG e9.out j e).1;omega));have mj:=Nat.le_trans cC cL.size;have fP:=hide (show ∀A':Option Addr,Reads w1 B 3 A' (N-k) (bJ (l.drop k)) from fun A'=>by rw[List.drop_of_length_le (by rw[HN.out];omega),show N-k=0 by omega];exact Reads.none_);clear hown1 cL j9 fL aq t0 t1 t2)
    | (at_builtin;go_loud (refine wB w1 rfl (.tmp 34) (.tmp 37) 213 rfl (w.heap.size+1) (.agg #[.int .i64 0,.int .i64 0,.int .i64 0]) 3 24 Tryz.underlying213 pH rfl (by omega) (.slice (some ⟨g',0,none⟩) (k+1) cap') (k+1) _ rfl eN.out B _ (N-k) (c-k) _ (fP.out _) (FU _) rfl (by unfold maxLen;omega) (by omega) mj ?_);intro A3 c3 w2 bE cD;have aJ:=hide bE;have ah:=hide (ay.out.grown cD ay.out.size (fun j e=>by have:=(aG eN.out j e).1;omega));clear bE cD)
   go_ret;have bz:k+1+(N-k)=N+1:=by omega
   rw[bz];refine⟨⟨A3,c3,by rw[aQ];rfl,?_⟩,ah.out⟩;rw[aQ];have:=aJ.out.mono (Nat.le_succ w.heap.size);rw[bz] at this;rw[tY.out,yG,show bJ ((⟨pw,pf,ps⟩:Nf.Pr) :: l.drop k)=[.int .i64 pw,.int .i64 pf,.int .i64 ps]++bJ (l.drop k) from rfl,←List.append_assoc];exact this
  | some ad=>
   by_cases hcN:c=k
   ·have tY:=hide (Nf.DL (p:=⟨pw,pf,ps⟩) zg.out (fun y hy=>by rw[List.getElem?_eq_none (by rw[HN.out];omega)] at hy;cases hy))
    go_wp2_with fail
    go_quiet (fail)
    clear t0 t1 t2;have e9:=hide (show (wr.drewN nq).ownsRow (w.heap.size+1) 216 3 (.slice A2 k c2) k (bJ (l.take k)) from zj.out);have aU:=hide (show Below w.heap.size w (wr.drewN nq) from⟨HB.out.os,HB.out.tape,HB.out.output,HB.out.size,HB.out.block⟩);have fH:=hide (tU.out.drewN nq);have cC:w.heap.size+1≤(wr.drewN nq).heap.size:=aK;generalize wr.drewN nq=W at e9 aU fH cC ⊢;have t0:=fH.out.cell 0;have t1:=fH.out.cell 1;have t2:=fH.out.cell 2
    go_wp2_with first
     | (at_builtin;go_loud (refine fG W rfl (.tmp 30) (.tmp 32) 213 rfl (w.heap.size+1) (.agg #[.int .i64 0,.int .i64 0,.int .i64 0]) 3 24 Tryz.underlying213 pH rfl (by omega) (.slice A2 k c2) k (bJ (l.take k)) rfl e9.out (cs:=[.int .i64 pw,.int .i64 pf,.int .i64 ps]) rfl (by intro u hu;simp at hu;rcases hu with rfl|rfl|rfl<;>rfl) rfl (by unfold maxLen;omega) (by omega) cC ?_);intro g' cap' w1 hown1 cL j9 fL aq;have eN:=hide hown1;have ay:=hide (aU.out.grown cL aU.out.size (fun j e=>by have:=(aG e9.out j e).1;omega));have mj:=Nat.le_trans cC cL.size;have fP:=hide (show ∀A':Option Addr,Reads w1 B 3 A' (N-k) (bJ (l.drop k)) from fun A'=>by rw[List.drop_of_length_le (by rw[HN.out];omega),show N-k=0 by omega];exact Reads.none_);clear hown1 cL j9 fL aq t0 t1 t2)
     | (at_builtin;go_loud (refine wB w1 rfl (.tmp 34) (.tmp 37) 213 rfl (w.heap.size+1) (.agg #[.int .i64 0,.int .i64 0,.int .i64 0]) 3 24 Tryz.underlying213 pH rfl (by omega) (.slice (some ⟨g',0,none⟩) (k+1) cap') (k+1) _ rfl eN.out B _ (N-k) _ _ (fP.out _) (FU _) rfl (by unfold maxLen;omega) (by omega) mj ?_);intro A3 c3 w2 bE cD;have aJ:=hide bE;have ah:=hide (ay.out.grown cD ay.out.size (fun j e=>by have:=(aG eN.out j e).1;omega));clear bE cD)
    go_ret;have bz:k+1+(N-k)=N+1:=by omega
    rw[bz];refine⟨⟨A3,c3,by rw[aQ];rfl,?_⟩,ah.out⟩;rw[aQ];have:=aJ.out.mono (Nat.le_succ w.heap.size);rw[bz] at this;rw[tY.out,yG,show bJ ((⟨pw,pf,ps⟩:Nf.Pr) :: l.drop k)=[.int .i64 pw,.int .i64 pf,.int .i64 ps]++bJ (l.drop k) from rfl,←List.append_assoc];exact this
   have tY:=hide (Nf.DL (p:=⟨pw,pf,ps⟩) zg.out (fun y hy=>by rw[List.getElem?_eq_none (by rw[HN.out];omega)] at hy;cases hy))
   go_wp2_with fail
   go_quiet (fail)
   clear t0 t1 t2;have e9:=hide (show (wr.drewN nq).ownsRow (w.heap.size+1) 216 3 (.slice A2 k c2) k (bJ (l.take k)) from zj.out);have aU:=hide (show Below w.heap.size w (wr.drewN nq) from⟨HB.out.os,HB.out.tape,HB.out.output,HB.out.size,HB.out.block⟩);have fH:=hide (tU.out.drewN nq);have cC:w.heap.size+1≤(wr.drewN nq).heap.size:=aK;generalize wr.drewN nq=W at e9 aU fH cC ⊢;have t0:=fH.out.cell 0;have t1:=fH.out.cell 1;have t2:=fH.out.cell 2
   go_wp2_with first
    | (at_builtin;go_loud (refine fG W rfl (.tmp 30) (.tmp 32) 213 rfl (w.heap.size+1) (.agg #[.int .i64 0,.int .i64 0,.int .i64 0]) 3 24 Tryz.underlying213 pH rfl (by omega) (.slice A2 k c2) k (bJ (l.take k)) rfl e9.out (cs:=[.int .i64 pw,.int .i64 pf,.int .i64 ps]) rfl (by intro u hu;simp at hu;rcases hu with rfl|rfl|rfl<;>rfl) rfl (by unfold maxLen;omega) (by omega) cC ?_);intro g' cap' w1 hown1 cL j9 fL aq;have eN:=hide hown1;have ay:=hide (aU.out.grown cL aU.out.size (fun j e=>by have:=(aG e9.out j e).1;omega));have mj:=Nat.le_trans cC cL.size;have fP:=hide (show ∀A':Option Addr,Reads w1 B 3 A' (N-k) (bJ (l.drop k)) from fun A'=>by rw[List.drop_of_length_le (by rw[HN.out];omega),show N-k=0 by omega];exact Reads.none_);clear hown1 cL j9 fL aq t0 t1 t2)
    | (at_builtin;go_loud (refine wB w1 rfl (.tmp 34) (.tmp 37) 213 rfl (w.heap.size+1) (.agg #[.int .i64 0,.int .i64 0,.int .i64 0]) 3 24 Tryz.underlying213 pH rfl (by omega) (.slice (some ⟨g',0,none⟩) (k+1) cap') (k+1) _ rfl eN.out B _ (N-k) _ _ (fP.out _) (FU _) rfl (by unfold maxLen;omega) (by omega) mj ?_);intro A3 c3 w2 bE cD;have aJ:=hide bE;have ah:=hide (ay.out.grown cD ay.out.size (fun j e=>by have:=(aG eN.out j e).1;omega));clear bE cD)
   go_ret;have bz:k+1+(N-k)=N+1:=by omega
   rw[bz];refine⟨⟨A3,c3,by rw[aQ];rfl,?_⟩,ah.out⟩;rw[aQ];have:=aJ.out.mono (Nat.le_succ w.heap.size);rw[bz] at this;rw[tY.out,yG,show bJ ((⟨pw,pf,ps⟩:Nf.Pr) :: l.drop k)=[.int .i64 pw,.int .i64 pf,.int .i64 ps]++bJ (l.drop k) from rfl,←List.append_assoc];exact this
end
section
open Go.RowKit Go.WideShapes

theorem ah2{P:Program}{o:Oper}{a:Act}{K:Act→World→Prop}{Q:Exit→Act→World→Prop}(W:World)(hgd:o.guard=none)(s x:Operand)(t:TypeId)(ho:o.op=.call { callee:=.builtin .append,args:=#[s,x],argTypes:=#[t,t] })
  (base:Nat) (e:TypeId) (z:Value) (size bytes:Nat) (ht:P.underlying t=some (.slice e)) (fw:(P.info? e).map (fun i=>(i.zero,i.size,i.bytes))=some (some z,size,bytes))
  (hzs:z.cells.size=size) (hsz:0<size) (v:Value) (n:Nat) (xs:List Value) (hs:a.eval s=v) (hown:W.ownsRow base e size v n xs)
  (cs:List Value) (hcs:cs.length=size) (h1:∀u∈cs,u.oneCell'=true) (H:Nat) (hH:ae W H e cs.toArray) (hx:a.eval x=.slice (some ⟨H,0,none⟩) 1 1)
  (h63:n+1≤maxLen) (hbytes:(n+1)*bytes≤140737488355328) (hbase:base≤W.heap.size)
  (h:∀g cap w',w'.ownsRow base e size (.slice (some ⟨g,0,none⟩) (n+1) cap) (n+1) (xs++cs)→W.grownBy w' v.ownBlock→g<w'.heap.size→K (a.put o.dst (.slice (some ⟨g,0,none⟩) (n+1) cap)) w'):Oper.wp P o a W K Q:=by
 have hh:=F7 (ops:=#[]) (Q:=Q) (E:=True) W hgd s x t ho base e z size bytes ht fw hzs hsz v n xs hs hown cs hcs h1 H hH hx h63 hbytes hbase h;rw[if_pos (by simp[Region.wanted,hgd])] at hh;exact hh
theorem MC{w:World}{base e size n cap:Nat}{A:Option Addr}{xs:List Value}(h:w.ownsRow base e size (.slice A n cap) n xs):n≤cap:=by
 rcases h.2 with ⟨h0,h1⟩|⟨g',cap',cur,e,hb,hh,h1,h2,h3,h4⟩
 ·omega
 cases e;exact h1
theorem yE{w w':World}{base e size n:Nat}{v:Value}{xs:List Value}(h:w.ownsRow base e size v n xs)(hb:Below w.heap.size w w'):w'.ownsRow base e size v n xs :=
 h.kept (row:=some w.heap.size) ⟨hb.os,hb.tape,hb.output,hb.size,fun i hi _=>hb.block i hi⟩ (.inr fun e=>by have:=(h.lt _ e).2;omega)
theorem Fu:∀(l:List Obj) (w:World),(laid w l).heap.size=w.heap.size+l.length
 | [],w=>rfl
 | o :: l,w=>by rw[laid,Fu l,World.size_alloc,List.length_cons];omega
theorem Mf:∀(l:List Obj) (w:World),Below w.heap.size w (laid w l)
 | [],w=>Below.refl _ _
 | o :: l,w=>(az w o).trans ((Mf l (w.alloc o)).mono (by simp))
theorem VE:∀(l:List Obj) (w:World) (i:Nat),i<l.length→(laid w l).heap[w.heap.size+i]?=l[i]?
 | [],w,i,h=>absurd h (by simp)
 | o :: l,w,0,_=>((Mf l (w.alloc o)).block _ (by simp)).trans (heap_alloc_new w o)
 | o :: l,w,i+1,h=>by
  have:=VE l (w.alloc o) i (by simpa using h);rw[World.size_alloc] at this;rw[laid,List.getElem?_cons_succ,←this,show w.heap.size+(i+1)=w.heap.size+1+i by omega]
theorem Xs:∀(l:List (Int×List Int)) (Z i:Nat) (x:Int×List Int),l[i]?=some x→(mD Z l)[i*2]?=some (.int .i64 x.1)∧(mD Z l)[i*2+1]?=some (.slice (some ⟨Z+i,0,none⟩) x.2.length x.2.length)
 | [],Z,i,x,h=>by simp at h
 | y :: l,Z,0,x,h=>by
  cases h;exact⟨rfl,rfl⟩
 | y :: l,Z,i+1,x,h=>by
  have:=Xs l (Z+1) i x (by simpa using h);have e:mD Z (y :: l)=.int .i64 y.1 :: .slice (some ⟨Z,0,none⟩) y.2.length y.2.length :: mD (Z+1) l:=rfl;rw[e,show (i+1)*2=i*2+1+1 by omega,show Z+(i+1)=Z+1+i by omega];exact this
def xd(b:Nat)(W:World):Prop:=∀i x,Nf.dt[i]?=some x→W.cell? ⟨b+11,i*2,none⟩=some (.int .i64 x.1)∧W.cell? ⟨b+11,i*2+1,none⟩=some (.slice (some ⟨b+i,0,none⟩) x.2.length x.2.length)∧∀j v,x.2[j]?=some v→W.cell? ⟨b+i,j,none⟩=some (.int .i64 v)
theorem xd.below{b:Nat}{w w':World}(h:xd b w)(hb:Below (b+12) w w'):xd b w':=fun i x hx=>by
 have hi:i<11:=(List.getElem?_eq_some_iff.1 hx).1;obtain⟨h1,h2,h3⟩:=h i x hx;exact⟨(hb.cell (by show b+11<_;omega)).trans h1,(hb.cell (by show b+11<_;omega)).trans h2,fun j v hv=>(hb.cell (by show b+i<_;omega)).trans (h3 j v hv)⟩
theorem alM(w:World):xd w.heap.size ((laid w (Nf.dt.map oG)).alloc (.cells (mD w.heap.size Nf.dt).toArray 241)):=fun i x hx=>by
 have hi:i<11:=(List.getElem?_eq_some_iff.1 hx).1;have hz:(laid w (Nf.dt.map oG)).heap.size=w.heap.size+11:=Fu _ _;obtain⟨h1,h2⟩:=Xs Nf.dt w.heap.size i x hx
 have hB:ae ((laid w (Nf.dt.map oG)).alloc (.cells (mD w.heap.size Nf.dt).toArray 241)) (w.heap.size+11) 241 (mD w.heap.size Nf.dt).toArray:=by
  have:=ae.new (laid w (Nf.dt.map oG)) 241 (mD w.heap.size Nf.dt).toArray;rwa[hz] at this
 refine⟨(hB.cell _).trans (by simpa using h1),(hB.cell _).trans (by simpa using h2),fun j v hv=>?_⟩
 have hL:ae (laid w (Nf.dt.map oG)) (w.heap.size+i) 3 (ar x.2).toArray:=by
  have:=VE (Nf.dt.map oG) w i (by simpa using show i<Nf.dt.length from hi);rw[List.getElem?_map,hx] at this;exact this
 rw[(hL.alloc _).cell];simp[ar,hv]
namespace Nf
theorem WJ:∀(m:Int) (l:List Int) (q:Nat) (a b:Int),l[q*2]?=some a→l[q*2+1]?=some b→(mB m l)[q]?=some ⟨b,a,m⟩
 | m,[],q,a,b,h,_=>by simp at h
 | m,[x],q,a,b,_,h=>by simp at h
 | m,x :: y :: l,0,a,b,h1,h2=>by
  cases h1;cases h2;rfl
 | m,x :: y :: l,q+1,a,b,h1,h2=>by
  have e:mB m (x :: y :: l)=⟨y,x,m⟩ :: mB m l:=rfl;rw[show (q+1)*2=q*2+1+1 by omega] at h1 h2;rw[e,List.getElem?_cons_succ];exact WJ m l q a b h1 h2
theorem alK:∀x∈dt,x.2.length=(mB x.1 x.2).length*2:=by decide +kernel
theorem alL:∀x∈dt,x.2.length≤28:=by decide +kernel
def mO(l:List Pr):List Pr:=l.foldl ma []
theorem acM(l:List Pr)(p:Pr):mO (l++[p])=ma (mO l) p:=by
 unfold mO;rw[List.foldl_append];rfl
theorem R4:∀(l acc:List Pr),(l.foldl ma acc).length=acc.length+l.length
 | [],acc=>rfl
 | p :: l,acc=>by rw[List.foldl_cons,R4 l,R5,List.length_cons];omega
theorem xp(l:List Pr):(mO l).length=l.length:=by unfold mO;rw[R4];simp
def ew(i q:Nat):List Pr:=(dt.take i).flatMap (fun x=>mB x.1 x.2)++(match dt[i]? with
 | some x=>(mB x.1 x.2).take q
 | none=>[])
theorem ai0{i q:Nat}{x:Int×List Int}{p:Pr}(hx:dt[i]?=some x)(hp:(mB x.1 x.2)[q]?=some p):ew i (q+1)=ew i q++[p]:=by
 unfold ew;rw[hx];dsimp only;rw[List.take_add_one,hp,List.append_assoc];rfl
theorem ai1{i q:Nat}{x:Int×List Int}(hx:dt[i]?=some x)(hq:q=(mB x.1 x.2).length):ew (i+1) 0=ew i q:=by
 unfold ew;rw[hx];dsimp only;rw[List.take_of_length_le (l:=mB x.1 x.2) (by omega),List.take_add_one,hx,List.flatMap_append]
 cases dt[i+1]?<;>simp
def mP:List Int:=[832,768,833,769,8486,937,8490,75,8491,197]
theorem JC:∀(j:Nat) (p:Pr),nR[j]?=some p→mP[j*2]?=some p.w∧mP[j*2+1]?=some p.f∧p.s=0:=by
 intro j p h
 match j with
 | 0=>cases h;exact⟨rfl,rfl,rfl⟩
 | 1=>cases h;exact⟨rfl,rfl,rfl⟩
 | 2=>cases h;exact⟨rfl,rfl,rfl⟩
 | 3=>cases h;exact⟨rfl,rfl,rfl⟩
 | 4=>cases h;exact⟨rfl,rfl,rfl⟩
 | j+5=>exact absurd h (by simp[nR])
theorem aiZ:mO (ew 11 0)++nR=ik:=rfl
theorem Xb:∀i,i<12→∀q,q<20→(ew i q).length≤500:=by decide +kernel
end Nf
theorem Xl(w:World):Calls Tryz.prog 180 #[] w fun e w'=>(∃A' c',e=.returned (.slice A' Nf.ik.length c')∧w'.ownsRow w.heap.size 216 3 (.slice A' Nf.ik.length c') Nf.ik.length (bJ Nf.ik))∧Below w.heap.size w w':=by
 have HT:=hide (alM w);have oO:=hide (Below.trans (Mf (Nf.dt.map oG) w) ((az (laid w (Nf.dt.map oG)) (.cells (mD w.heap.size Nf.dt).toArray 241)).mono (by rw[Fu];omega)));have HZ:=hide (show ((laid w (Nf.dt.map oG)).alloc (.cells (mD w.heap.size Nf.dt).toArray 241)).heap.size=w.heap.size+12 by rw[World.size_alloc,Fu];rfl);have OU:=hide (ajL w);obtain⟨W1,TE⟩:∃W1,(laid w (Nf.dt.map oG)).alloc (.cells (mD w.heap.size Nf.dt).toArray 241)=W1:=⟨_,rfl⟩;rw[TE] at HT oO HZ OU;clear TE
 go_enter Tryz.func180,Tryz.ntmps180
 go_wp2_with fail
 refine OU.out.mono ?_;rintro e w1 ⟨rfl,lK⟩;subst lK;go_wp2
 go_loopg [1,3,4] 11 (fun gk v1 v3 v4 wr=>∃(i:Nat) (A2:Option Addr) (c2:Nat),gk=11-i∧i≤11∧v3=.int .i64 (i:Int)∧v1=.slice A2 (Nf.ew i 0).length c2∧(Nf.ew i 0).length≤c2∧wr.ownsRow (w.heap.size+12) 216 3 (.slice A2 (Nf.ew i 0).length c2) (Nf.ew i 0).length (bJ (Nf.mO (Nf.ew i 0)))∧xd w.heap.size wr∧Below w.heap.size w wr∧w.heap.size+12≤wr.heap.size)
 case atStart=>exact⟨0,none,0,rfl,by omega,rfl,rfl,by decide,World.ownsRow_nil _ _ _ _,HT.out,oO.out,by rw[HZ.out];exact Nat.le_refl _⟩
 case round=>
  obtain⟨i,A2,c2,au,hi,rfl,rfl,bf,ho,ht,hb,aK⟩:=hrel;have Hg:=hide au;have HO:=hide ho;have tW:=hide bf;have kP:=hide ht;have HB:=hide hb;clear au ho bf ht hb
  by_cases hlt:i<11
  ·obtain⟨x,hx⟩:∃x,Nf.dt[i]?=some x:=⟨_,List.getElem?_eq_getElem (by exact hlt)⟩;have KQ:=Nf.alK x (List.mem_of_getElem? hx);have HX:=hide hx;obtain⟨Z,hZ⟩:∃Z,(Nf.mB x.1 x.2).length=Z:=⟨_,rfl⟩;have HZ2:=hide hZ;rw[hZ] at KQ;obtain⟨n,hn⟩:∃n,x.2.length=n:=⟨_,rfl⟩;have HN:=hide hn;have ua:=hide (hn.symm.trans KQ);have Uj:(0:Int)≤i∧(i:Int)<11:=by omega
   have aoK:n≤28:=by rw[←hn];exact Nf.alL x (List.mem_of_getElem? hx)
   have apc:Z<20:=by have:=ua.out;omega
   clear hx KQ hZ hn;go_wp2
   rename World=>wo
   go_loopg [1,4] Z (fun gq v1 v4 wr=>∃(q k:Nat) (A2:Option Addr) (c2:Nat),gq=Z-q∧q≤Z∧k=q*2∧v4=.int .i64 (k:Int)∧v1=.slice A2 (Nf.ew i q).length c2∧(Nf.ew i q).length≤c2∧wr.ownsRow (w.heap.size+12) 216 3 (.slice A2 (Nf.ew i q).length c2) (Nf.ew i q).length (bJ (Nf.mO (Nf.ew i q)))∧xd w.heap.size wr∧Below w.heap.size w wr∧w.heap.size+12≤wr.heap.size)
   case atStart=>exact⟨0,0,_,_,rfl,by omega,rfl,rfl,rfl,tW.out,HO.out,kP.out,HB.out,aK⟩
   case round=>
    obtain⟨q,k,A2,c2,sT,hq,hk,rfl,rfl,bf,ho,ht,hb,aK⟩:=hrel;have l4:=hide sT;have aJ:=hide ho;have CF:=hide bf;have ah:=hide hb;have cj:=hide ht;have HK:=hide hk;have cC:w.heap.size+12≤wr.heap.size:=aK;clear sT ho bf hb ht hk aK;obtain⟨oq,LS,dS⟩:=cj.out i x HX.out;rw[HN.out] at LS
    by_cases hqz:q<Z
    ·have vz:k+1<n:=by have:=ua.out;have:=HK.out;omega
     obtain⟨k1,cn⟩:∃k1,k+1=k1:=⟨_,rfl⟩;obtain⟨la,dB⟩:∃v,x.2[k]?=some v:=⟨_,List.getElem?_eq_getElem (by have:=HN.out;omega)⟩;obtain⟨lb,ki⟩:∃v,x.2[k1]?=some v:=⟨_,List.getElem?_eq_getElem (by have:=HN.out;omega)⟩;have y0:=LS;have y1:=oq;have y2:=dS _ _ dB;have y3:=dS _ _ ki;have hp:(Nf.mB x.1 x.2)[q]?=some ⟨lb,la,x.1⟩:=Nf.WJ x.1 x.2 q la lb (by rw[←HK.out];exact dB) (by rw[←HK.out,cn];exact ki);have bB:=Nf.ai0 HX.out hp;have fW:Nf.mO (Nf.ew i (q+1))=Nf.ma (Nf.mO (Nf.ew i q)) ⟨lb,la,x.1⟩:=by rw[bB,Nf.acM]
     have iG:(Nf.ew i (q+1)).length=(Nf.ew i q).length+1:=by rw[bB,List.length_append];rfl
     have hle:=Nf.Xb i (by omega) q (by omega);have rV:=hide (fun (W:World) (h:Below wr.heap.size wr W)=>ajC (Nf.mO (Nf.ew i q)) ⟨lb,la,x.1⟩ A2 c2 wr.heap.size W ((by have:=Reads.eH aJ.out;rw[←Nf.xp] at this;exact this.below h)) h.size (by rw[Nf.xp];omega) (by rw[Nf.xp];exact CF.out));have nB:=hide fW;have ui:=hide iG;have z1:IntKind.i64.wrap ((k:Int)+1)=(k1:Int):=by rw[IntWalk.i64_in _ (by omega)];omega
     have aop:=hide cn;have jh:(0:Int)≤k∧(k:Int)<n:=by omega
     have afp:(0:Int)≤k1∧(k1:Int)<n:=by omega
     rw[←nB.out] at rV;unfold vW at rV;rw[Nf.xp] at rV;rw[Nf.xp,ui.out] at rV;dsimp only at rV;clear dS dB ki hp bB fW iG LS oq cn;obtain⟨mk,qN⟩:∃m,x.1=m:=⟨_,rfl⟩;rw[qN] at y1 rV;clear qN;obtain⟨pn,lD⟩:∃m,(Nf.ew i q).length=m:=⟨_,rfl⟩;have uj:=hide lD;rw[lD] at rV hle;rw[lD];clear lD
     go_wp2_with fail
     refine wp_region_held_drew (S:=fun W=>Below wr.heap.size wr W) (by kernel_rfl) ?_ (fun hHeld=>?_)
     ·(try dsimp only)
      first|done|exact (Below.refl _ _).drew|exact hHeld|exact hHeld.drew
     change wpAnyH _ _ _ _ _ 26 #[false,false,false,false,false,false,false,false,false,false,false,false,false,false,false,false,false,false,false,false,false,false,false,false,false,false] _ _;iterate 24 (refine aY (v:=?_) rfl rfl hHeld ?_ ?_;rotate_left;(· (intro w hSw;(try dsimp only at hSw);have s0:=(hSw.cell (dN y0)).trans y0;have s1:=(hSw.cell (dN y1)).trans y1;have s2:=(hSw.cell (dN y2)).trans y2;have s3:=(hSw.cell (dN y3)).trans y3;go_simp;try with_reducible rfl));(try simp only[nx,List.set]))
     refine jg (i:=24) rfl (by kernel_rfl) (by kernel_rfl) (fun K hK=>?_);go_simp
     go_at_call 197
     refine (rV.out _ hHeld).mono ?_;rintro e w' ⟨⟨A3,c3,rfl,bW⟩,aB⟩;have bZ:=hide (bW.mono (Nat.le_trans cC hHeld.size));have aw:=hide (ah.out.trans ((hHeld.trans (aB.mono hHeld.size)).mono ah.out.size));have hz3:wr.heap.size≤w'.heap.size:=Nat.le_trans hHeld.size aB.size;replace hHeld:=hHeld.trans (aB.mono hHeld.size);clear bW aB;(try dsimp only);refine hK.out _ _ ?_ (fun aV=>?_)
     ·(try dsimp only)
      first|done|exact (Below.refl _ _).drew|exact hHeld|exact hHeld.drew
     clear hK K hHeld;have hHeld:=aV;clear aV;(try simp only[Act.put,List.setIfInBounds_toArray,List.set_cons_zero,List.set_cons_succ]);(refine aY (v:=?_) rfl rfl hHeld ?_ ?_;rotate_left;(· (intro w hSw;(try dsimp only at hSw);go_simp;try with_reducible rfl));(try simp only[nx,List.set]));refine wpAnyH_done (by kernel_rfl) ?_ _;go_wp2
     go_roundg (Z-(q+1))
     case measure=>have:=l4.out;omega
     case rel=>
      have aB:Below (w.heap.size+12) wr w':=hHeld.mono cC;refine⟨q+1,k+2,A3,c3,rfl,by omega,by have:=HK.out;omega,by first|rfl|go_num,?_,?_,?_,cj.out.below aB,aw.out,by omega⟩
      ·rw[ui.out,uj.out]
      ·rw[ui.out,uj.out];exact MC bZ.out
      rw[ui.out,uj.out];exact bZ.out
    have vz:¬k<n:=by have:=ua.out;have:=HK.out;omega
    have UL:q=Z:=by omega
    have ai:=hide (Nf.ai1 HX.out (UL.trans HZ2.out.symm));have jh:¬(k:Int)<(n:Int):=by omega
    clear dS UL;go_wp2
    go_roundg (11-(i+1))
    case measure=>have:=Hg.out;omega
    case rel=>exact⟨i+1,A2,c2,rfl,by omega,by first|rfl|go_num,by rw[ai.out],by rw[ai.out];exact CF.out,by rw[ai.out];exact aJ.out,cj.out,ah.out,cC⟩
  have afe:i=11:=by omega
  subst afe;obtain⟨m,hm⟩:∃m,(Nf.ew 11 0).length=m:=⟨_,rfl⟩;have hm5:m≤500:=by rw[←hm];exact Nf.Xb 11 (by omega) 0 (by omega)
  have HM:=hide hm;have HD:=hide (fun W=>ajs W);have HE:=hide Nf.aiZ;obtain⟨LL,Ep⟩:∃L,Nf.mO (Nf.ew 11 0)=L:=⟨_,rfl⟩;have ZP:=hide Ep;rw[hm,Ep] at HO;rw[Ep] at HE;rw[hm];clear hm Ep
  go_wp2_with fail
  refine (HD.out _).mono ?_;rintro e wd ⟨rfl,hwd⟩;obtain⟨D,hD⟩:∃D,wr.heap.size=D:=⟨_,rfl⟩;have kh:=ae.new wr 3 (Nf.mP.map (Value.int .i64)).toArray;rw[hD] at kh;have mH:=hide (show ae wd D 3 (Nf.mP.map (Value.int .i64)).toArray from by rw[hwd];exact kh);have jc:Below wr.heap.size wr wd:=by rw[hwd];exact az _ _
  have aU:=hide (HB.out.trans (jc.mono HB.out.size));have e9:=hide (yE HO.out jc);have hDw:w.heap.size+12≤D:=by omega
  have hDd:D+1≤wd.heap.size:=mH.out.lt;rw[hD];clear hwd kh jc hD;dsimp only;go_wp2
  go_loopg [1,6] 5 (fun gk v1 v6 wr=>∃(j k:Nat) (A3:Option Addr) (c3:Nat),gk=5-j∧j≤5∧k=j*2∧v6=.int .i64 (k:Int)∧v1=.slice A3 (m+j) c3∧wr.ownsRow (w.heap.size+12) 216 3 (.slice A3 (m+j) c3) (m+j) (bJ (LL++Nf.nR.take j))∧ae wr D 3 (Nf.mP.map (Value.int .i64)).toArray∧Below w.heap.size w wr∧w.heap.size+12≤wr.heap.size∧(Value.slice A3 (m+j) c3).ownBlock≠some D)
  case atStart=>exact⟨0,0,A2,c2,rfl,by omega,rfl,rfl,rfl,by rw[List.take_zero,List.append_nil];exact e9.out,mH.out,aU.out,by omega,cU e9.out mH.out (by decide)⟩
  case round=>
   obtain⟨j,k,A3,c3,au,hj,hk,rfl,rfl,ho,kh,hb,mj,nc⟩:=hrel;have Hg3:=hide au;have bZ:=hide ho;have GR:=hide kh;have aw:=hide hb;have HK:=hide hk;have ZW:=hide nc;clear au ho kh hb hk nc
   by_cases hj5:j<5
   ·obtain⟨p,hp⟩:∃p,Nf.nR[j]?=some p:=⟨_,List.getElem?_eq_getElem (by exact hj5)⟩;obtain⟨c7,bg,gD⟩:=Nf.JC j p hp;have uo:=hide (show Nf.nR.take (j+1)=Nf.nR.take j++[p] by rw[List.take_add_one,hp];rfl);obtain⟨pw,pf,ps⟩:=p;dsimp only at c7 bg gD;subst gD;rw[←HK.out] at c7 bg;obtain⟨k1,cn⟩:∃k1,k+1=k1:=⟨_,rfl⟩;rw[cn] at bg;have y0:wr.cell? ⟨D,k,none⟩=some (.int .i64 pw):=by rw[GR.out.cell,List.getElem?_toArray,List.getElem?_map,c7];rfl
    have y1:wr.cell? ⟨D,k1,none⟩=some (.int .i64 pf):=by rw[GR.out.cell,List.getElem?_toArray,List.getElem?_map,bg];rfl
    have vz:k1<10:=by have:=HK.out;omega
    have z1:IntKind.i64.wrap ((k:Int)+1)=(k1:Int):=by rw[IntWalk.i64_in _ (by omega)];omega
    have jh:(0:Int)≤k∧(k:Int)<10:=by omega
    have afp:(0:Int)≤k1∧(k1:Int)<10:=by omega
    have BX:=hide (show Below wr.heap.size wr (wr.drew.alloc (.cells #[.int .i64 pw,.int .i64 pf,.int .i64 0] 216)) from (Below.refl _ _).drew.alloc (Nat.le_refl _) _);have KX:=hide (show ae (wr.drew.alloc (.cells #[.int .i64 pw,.int .i64 pf,.int .i64 0] 216)) wr.heap.size 216 #[.int .i64 pw,.int .i64 pf,.int .i64 0] from ae.new wr.drew 216 _);have Y0:=hide y0;have Y1:=hide y1;have HY:=hide (show (wr.drew.alloc (.cells #[.int .i64 pw,.int .i64 pf,.int .i64 0] 216)).cell? ⟨D,k,none⟩=some (.int .i64 pw)∧(wr.drew.alloc (.cells #[.int .i64 pw,.int .i64 pf,.int .i64 0] 216)).cell? ⟨D,k1,none⟩=some (.int .i64 pf) from⟨(BX.out.cell (dN y0)).trans y0,(BX.out.cell (dN y1)).trans y1⟩);have Iw:=hide (fun e=>ZW.out (Eq.symm e));clear hp c7 bg cn y0 y1
    go_wp2_with fail
    refine wp_region_held_drew (S:=fun W'=>W'.cell? ⟨D,k,none⟩=some (.int .i64 pw)∧W'.cell? ⟨D,k1,none⟩=some (.int .i64 pf)) (by kernel_rfl) ?_ (fun hHeld=>?_)
    ·(try dsimp only);exact⟨Y0.out,Y1.out⟩
    change wpAnyH _ _ _ _ _ 14 #[false,false,false,false,false,false,false,false,false,false,false,false,false,false] _ _;iterate 11 (refine aY (v:=?_) rfl rfl hHeld ?_ ?_;rotate_left;(· (intro w' hSw;obtain⟨z0,z1⟩:=hSw;go_simp;try with_reducible rfl));(try simp only[nx,List.set]))
    refine jg (i:=11) rfl (by kernel_rfl) (by kernel_rfl) (fun K hK=>?_);go_simp;(try dsimp only);refine hK.out _ _ ?_ (fun aV=>?_)
    ·(try dsimp only);exact⟨(BX.out.cell (dN Y0.out)).trans Y0.out,(BX.out.cell (dN Y1.out)).trans Y1.out⟩
    clear hK K hHeld;have hHeld:=aV;clear aV;(try simp only[Act.put,List.setIfInBounds_toArray,List.set_cons_zero,List.set_cons_succ]);refine jg (i:=12) rfl (by kernel_rfl) (by kernel_rfl) (fun K hK=>?_);refine ah2 _ (by rfl) _ _ _ (by rfl) (w.heap.size+12) 216 _ 3 24 Tryz.underlying213 pH (by rfl) (by omega) (.slice A3 (m+j) c3) (m+j) _ (by rfl) (yE bZ.out BX.out) [.int .i64 pw,.int .i64 pf,.int .i64 0] rfl (by intro u hu;simp at hu;rcases hu with rfl|rfl|rfl<;>rfl) wr.heap.size KX.out (by rfl) (by unfold maxLen;omega) (by omega) (Nat.le_trans mj BX.out.size) ?_;intro g8 dw ny aM aF dc;have cX:=hide aM;have ek:=hide aF;clear aM aF dc;(try dsimp only);refine hK.out _ _ ?_ (fun aV=>?_)
    ·(try dsimp only);exact⟨(ek.out.cell HY.out.1 Iw.out),(ek.out.cell HY.out.2 Iw.out)⟩
    clear hK K hHeld;have hHeld:=aV;clear aV;(try simp only[Act.put,List.setIfInBounds_toArray,List.set_cons_zero,List.set_cons_succ]);(refine aY (v:=?_) rfl rfl hHeld ?_ ?_;rotate_left;(· (intro w' hSw;obtain⟨z0,z1⟩:=hSw;go_simp;try with_reducible rfl));(try simp only[nx,List.set]));refine wpAnyH_done (by kernel_rfl) ?_ _;go_wp2
    go_roundg (5-(j+1))
    case measure=>have:=Hg3.out;omega
    case rel=>
     have Th:ae ny D 3 (Nf.mP.map (Value.int .i64)).toArray:=(GR.out.go BX.out).grown ek.out Iw.out;have Kz:Below w.heap.size w ny:=(aw.out.trans (BX.out.mono aw.out.size)).grown ek.out (aw.out.trans (BX.out.mono aw.out.size)).size (fun j' e=>by have:=(aG bZ.out j' e).1;omega)
     have hp:bJ (LL++Nf.nR.take (j+1))=bJ (LL++Nf.nR.take j)++[.int .i64 pw,.int .i64 pf,.int .i64 0]:=by
      rw[uo.out,←List.append_assoc,yG];rfl
     exact⟨j+1,k+2,some ⟨g8,0,none⟩,dw,rfl,by omega,by have:=HK.out;omega,by first|rfl|go_num,by rw[Nat.add_assoc],by rw[hp,←Nat.add_assoc];exact cX.out,Th,Kz,Nat.le_trans mj (Nat.le_trans BX.out.size ek.out.size),cU (by rw[←Nat.add_assoc];exact cX.out) Th (by decide)⟩
   have afl:j=5:=by omega
   have afn:k=10:=by have:=HK.out;omega
   subst afl;subst afn;have hl:Nf.ik.length=m+5:=by rw[←HE.out,List.length_append,←ZP.out,Nf.xp,HM.out];rfl
   have ho:=bZ.out;rw[List.take_of_length_le (show Nf.nR.length≤5 from Nat.le_refl _),HE.out] at ho;have rS:=hide (ho.mono (Nat.le_add_right _ 12));have HL:=hide hl;clear ho hl;go_wp2;go_ret;refine⟨⟨A3,c3,by rw[HL.out];rfl,?_⟩,aw.out⟩;rw[HL.out];exact rS.out
end
end Go.Proofs.YtnbmfljhbpfilaaGreatDoor
