/- write.out: a strings.Builder in a block of type write.out (printed by genWrA.py out of XTxE). And more. -/
import Derived.Test.YtifiiojchlaghaaGreatDoorOm02
import Derived.Test.YtifiiojchlaghaaGreatDoorOm28
import Derived.Test.YtifiiojchlaghaaGreatDoorOm29
import Derived.Test.YtifiiojchlaghaaGreatDoorOm30
import Derived.Test.YtifiiojchlaghaaGreatDoorOm31
import Derived.Test.YtifiiojchlaghaaGreatDoorOm32
import Derived.Test.YtifiiojchlaghaaGreatDoorOm34
import Derived.Test.YtifiiojchlaghaaGreatDoorOm37
import Derived.Lib.UnsafeStr
set_option linter.unusedSimpArgs false
set_option maxRecDepth 100000
set_option maxHeartbeats 16000000
set_option linter.unusedVariables false
namespace Go.Proofs.YtifiiojchlaghaaGreatDoor
section
open Go.RowKit Go.WideShapes

end
section
open Go.RowKit Go.WideShapes

def Xr(k:Bool)(n:Int):Bool:=if k then decide (-62135596800≤n)&&decide (n≤253402300799) else n==0
end
section
open Go.RowKit Go.WideShapes

namespace Wr
def line(ls:List (List UInt8)):List UInt8:=ls.flatten++[10]
def field(nm t:List UInt8):List UInt8:=line [[60],nm,[62],Tx.escape false t,[60,47],nm,[62]]
def afh:List UInt8:=[60,108,105,110,107,32,104,114,101,102,61,34]
def link(t:List UInt8):List UInt8:=if t=[] then [] else line [afh,Tx.escape true t,[34,47,62]]
def aaB:List UInt8:=[60,97,117,116,104,111,114,62,60,110,97,109,101,62]
def aaA:List UInt8:=[60,47,110,97,109,101,62,60,47,97,117,116,104,111,114,62]
def zG(t:List UInt8):List UInt8:=if t=[] then [] else line [aaB,Tx.escape false t,aaA]
def content(t:List UInt8):List UInt8:=if t=[] then [] else field [99,111,110,116,101,110,116] t
end Wr
structure Kp(b:Nat)(w w':World):Prop where
 size:w.heap.size≤w'.heap.size
 block:∀k,k<w.heap.size→k≠b→¬bJ w k 5→w'.heap[k]?=w.heap[k]?
end
section
open Go.RowKit Go.WideShapes

structure wF where
 id:List UInt8
 title:List UInt8
 link:List UInt8
 zG:List UInt8
 content:List UInt8
 k:Bool
 s:Int
structure wF.Ok(x:wF):Prop where
 id:x.id.length≤20000
 title:x.title.length≤20000
 link:x.link.length≤20000
 zG:x.zG.length≤20000
 content:x.content.length≤20000
 s:(Lit.int .i64 x.s).wf=true
namespace Wr
end Wr
end
section
open Go.RowKit Go.WideShapes

structure ale(w:World)(b o:Nat)(x:wF):Prop where
 c0:w.cell? ⟨b,o,none⟩=some (.string (aa x.id))
 c1:w.cell? ⟨b,o+1,none⟩=some (.string (aa x.title))
 c2:w.cell? ⟨b,o+2,none⟩=some (.string (aa x.link))
 c3:w.cell? ⟨b,o+3,none⟩=some (.string (aa x.zG))
 c4:w.cell? ⟨b,o+4,none⟩=some (.string (aa x.content))
 c5:w.cell? ⟨b,o+5,none⟩=some (.bool x.k)
 c6:w.cell? ⟨b,o+6,none⟩=some (.int .i64 x.s)
end
section
open Go.RowKit Go.WideShapes

structure Fd where
 id:List UInt8
 title:List UInt8
 link:List UInt8
 k:Bool
 s:Int
 es:List wF
end
section
open Go.RowKit Go.WideShapes

end
section
open Go.RowKit Go.WideShapes

structure Fd.Ok(f:Fd):Prop where
 id:f.id.length≤20000
 title:f.title.length≤20000
 link:f.link.length≤20000
 s:(Lit.int .i64 f.s).wf=true
 es:∀x∈f.es,x.Ok
end
section
open Go.RowKit

namespace Wr
end Wr
end
section
open Go.RowKit

namespace Cv
end Cv
end
section
open Go.RowKit Go.WideShapes

end
section
open Go.RowKit Go.WideShapes

end
section
open Go.RowKit Go.WideShapes

theorem Fk{w:World}{base e g n cap:Nat}{xs:List Value}(h:w.ownsRow base e 1 (.slice (some ⟨g,0,none⟩) n cap) n xs){i:Nat}(u:Value) :
  (w.setCell ⟨g,i,none⟩ u).ownsRow base e 1 (.slice (some ⟨g,0,none⟩) n cap) n (xs.set i u):=by
 refine⟨by rw[List.length_set];exact h.1,?_⟩
 rcases h.2 with ⟨h0,_⟩|⟨g',cap',cur,e',hb,hh,h1,h2,h3,h4⟩
 ·cases h0
 cases e'
 refine .inr ⟨g,cap,cur.setIfInBounds i u,rfl,hb,?_,h1,h2,by rw[Array.size_setIfInBounds];exact h3,?_⟩
 ·simp[World.setCell,Array.getElem?_modify,hh]
 rw[Array.toList_setIfInBounds,List.take_set,h4]
theorem yn{w:World}{base e g n cap:Nat}{xs:List Value}(h:w.ownsRow base e 1 (.slice (some ⟨g,0,none⟩) n cap) n xs){i:Nat}{u:Value}(hu:xs[i]?=some u):w.cell? ⟨g,i,none⟩=some u∧w.frozen? ⟨g,i,none⟩=false:=by
 rcases h.2 with ⟨h0,_⟩|⟨g',cap',cur,e',hb,hh,h1,h2,h3,h4⟩
 ·cases h0
 cases e'
 have hc:cur[i]?=some u:=by
  rw[←h4,List.getElem?_take] at hu
  split at hu
  ·rw[Array.getElem?_toList] at hu;exact hu
  cases hu
 refine⟨?_,?_⟩
 ·rw[cell_of_row w g i _ _ _ hh];exact hc
 simp[World.frozen?,hh]
end
section
open Go.RowKit Go.WideShapes

namespace Nf
theorem aaT{b c:Int}{l:List Int}(h:0<cls b∧cls b<cls c):carry c (b :: l)=b :: carry c l:=by rw[carry,if_pos h]
theorem aaU{b c:Int}{l:List Int}(h:¬(0<cls b∧cls b<cls c)):carry c (b :: l)=c :: carry b l:=by rw[carry,if_neg h]
theorem WN:∀(pre:List Int) (b c:Int) (rest:List Int) (i j:Nat),j=pre.length→i=j+1→((ar (pre++c :: b :: rest)).set i (.int .i64 c)).set j (.int .i64 b)=ar (pre++b :: c :: rest)
 | [],b,c,rest,i,j,hj,hi=>by
  subst hi;subst hj;rfl
 | x :: pre,b,c,rest,i,j,hj,hi=>by
  obtain⟨j,rfl⟩:∃k,j=k+1:=⟨pre.length,by rw[hj];rfl⟩;obtain⟨i,rfl⟩:∃k,i=k+1:=⟨j+1,by omega⟩;have:=WN pre b c rest i j (by simpa using hj) (by omega);exact congrArg (Value.int .i64 x :: ·) this
theorem xX{l:List Int}{k:Nat}{x:Int}(h:l[k]?=some x):(ar l)[k]?=some (.int .i64 x):=by unfold ar;rw[List.getElem?_map,h];rfl
end Nf
theorem Vj{w:World}{base e n cap:Nat}{A:Option Addr}{xs:List Value}(h:w.ownsRow base e 1 (.slice A n cap) n xs)(hn:0<n):∃g,A=some ⟨g,0,none⟩∧base≤g∧g<w.heap.size:=by
 obtain⟨g,cap',hv,hb,hlt⟩:=h.form hn;cases hv;exact⟨g,rfl,hb,hlt⟩
theorem ahL(l:List Int)(A:Option Addr)(c:Nat)(w:World)(hr:Reads w w.heap.size 1 A l.length (ar l))(hn:l.length≤100000000) :
  Calls Tryz.prog 143 #[.slice A l.length c] w (qI w (Nf.sort l)):=by
 have HR:=hide hr;have HS:=hide (Nf.Qk l)
 have pQ:(Nf.sort l).length=l.length:=by
  rw[←Nf.Qk]
  have:∀(k:Nat) (m:List Int),(Nf.rP k m).length=m.length:=by
   intro k
   induction k with
   | zero=>intro m;rfl
   | succ k ih=>intro m;rw[Nf.rP,ih,Nf.agN]
  exact this _ _
 obtain⟨N,hN⟩:∃N,l.length=N:=⟨_,rfl⟩;rw[hN] at hn HR HS pQ ⊢;have HN:=hide hN;have HC:=hide (fun r W=>VQ r W);clear hN hr;obtain⟨L,hL⟩:∃L,Nf.sort l=L:=⟨_,rfl⟩;rw[hL] at pQ HS ⊢;clear hL;unfold qI;rw[pQ];clear pQ
 go_enter Tryz.func143,Tryz.ntmps143
 go_wp2_with (at_builtin;go_loud (refine wD w rfl (.tmp 8) (.tmp 9) 166 rfl w.heap.size (.int .i64 0) 1 8 Tryz.underlying166 fU rfl (by omega) (.slice none 0 0) 0 [] rfl (World.ownsRow_nil _ _ _ _) w.heap.size A N c (ar l) HR.out (EY _) rfl (by unfold maxLen;omega) (by omega) (Nat.le_refl _) ?_);intro A1 c1 w1 oF hg1;rw[Nat.zero_add,List.nil_append] at oF;have fg:=hide oF;have az:=hide ((Below.refl w.heap.size w).grown hg1 (Nat.le_refl _) (fun j e=>by simp[Value.ownBlock] at e));clear oF hg1)
 (try rw[Nat.zero_add])
 go_loopg [4,5,6,7] N (fun gk v4 v5 v6 v7 wr=>∃(n:Nat) (cur:List Int),gk=N-n∧n≤N∧v4=.int .i64 (n:Int)∧cur.length=N∧Nf.rP (N-n) cur=L∧wr.ownsRow w.heap.size 3 1 (.slice A1 N c1) N (ar cur)∧Below w.heap.size w wr)
 case atStart=>exact⟨0,l,rfl,by omega,rfl,HN.out,by simpa using HS.out,fg.out,az.out⟩
 case round=>
  obtain⟨n,cur,aq,Kw,rfl,hlen,cZ,ho,hb⟩:=hrel;have Hg:=hide aq;have HO:=hide ho;have HB:=hide hb;have mf:=hide hlen;have Ou:=hide cZ;clear aq ho hb hlen cZ
  by_cases hlt:n<N
  ·obtain⟨g,rfl,aR,dN⟩:=Vj HO.out (by omega)
   obtain⟨c0,BJ,lC⟩:∃c0 BJ,cur=c0 :: BJ:=by
    cases cur with
    | nil=>have:=mf.out;simp at this;omega
    | cons x t=>exact⟨x,t,rfl⟩
   subst lC
   have nw:Nf.rP (N-n-1) (Nf.carry c0 BJ)=L:=by
    have:=Ou.out;rw[show N-n=N-n-1+1 by omega] at this;exact this
   have sk:=hide nw;have eX:=hide (show ([]:List Int).length+1+BJ.length=N by have:=mf.out;simp at this ⊢;omega);clear nw;go_wp2
   rename World=>wo
   go_loopg [5,6,7] (N-1) (fun gq v5 v6 v7 wr=>∃(i j:Nat) (pre:List Int) (cc:Int) (rest:List Int),gq=N-i∧i≤N∧i=j+1∧j=pre.length∧v5=.int .i64 (i:Int)∧pre.length+1+rest.length=N∧Nf.rP (N-n-1) (pre++Nf.carry cc rest)=L∧wr.ownsRow w.heap.size 3 1 (.slice (some ⟨g,0,none⟩) N c1) N (ar (pre++cc :: rest))∧Below w.heap.size w wr)
   case atStart=>exact⟨1,0,[],c0,BJ,rfl,by omega,rfl,rfl,rfl,eX.out,sk.out,HO.out,HB.out⟩
   case round=>
    obtain⟨i,j,pre,cc,rest,tz,AE,tA,vB,rfl,fq,cZ,ho,hb⟩:=hrel;have l9:=hide tz;have aL:=hide ho;have ah:=hide hb;have wL:=hide fq;have CG:=hide cZ;have nO:=hide vB;have pq:=hide tA;clear tz ho hb cZ vB fq tA
    by_cases hit:i<N
    ·obtain⟨b,rest,Eg⟩:∃b r,rest=b :: r:=by
      cases rest with
      | nil=>have h3:=wL.out;have:=nO.out;have:=pq.out;simp only[List.length_nil] at h3;omega
      | cons x t=>exact⟨x,t,rfl⟩
     subst Eg;obtain⟨y0,f0⟩:=yn aL.out (i:=j) (u:=.int .i64 cc) (Nf.xX (by rw[nO.out];simp));obtain⟨y1,f1⟩:=yn aL.out (i:=i) (u:=.int .i64 b) (Nf.xX (by rw[pq.out,nO.out,List.getElem?_append_right (by omega)];simp));have ama:(0:Int)≤i∧(i:Int)<N:=by omega
     have amh:(0:Int)≤j∧(j:Int)<N:=by have:=pq.out;omega
     have z1:IntKind.i64.wrap ((i:Int)-1)=(j:Int):=by rw[IntWalk.i64_in _ (by omega)];have:=pq.out;omega
     have NG:=hide (HC.out b);have NH:=hide (HC.out cc);have GP:=hide (@Nf.aaT b cc rest);have CU:=hide (@Nf.aaU b cc rest);obtain⟨kb,hkb⟩:∃k,Nf.cls b=k:=⟨_,rfl⟩;obtain⟨kc,Er⟩:∃k,Nf.cls cc=k:=⟨_,rfl⟩;rw[hkb] at NG GP CU;rw[Er] at NH GP CU;clear hkb Er
     go_wp2_with fail
     go_wp2_with fail
     refine cq (NG.out _) ?_
     by_cases h1:0<kb
     ·have d1:decide (0<kb)=true:=decide_eq_true h1
      go_wp2_with fail
      go_wp2_with fail
      refine cq (NH.out _) ?_
      by_cases h2:kb<kc
      ·have d2:decide (kb<kc)=true:=decide_eq_true h2;have adr:=hide (GP.out ⟨h1,h2⟩);obtain⟨y2,f2⟩:=yn (Fk aL.out (i:=i) (.int .i64 cc)) (i:=j) (u:=.int .i64 cc) (by rw[List.getElem?_set_ne (by have:=pq.out;omega)];exact Nf.xX (by rw[nO.out];simp));have qs:=hide (Fk (Fk aL.out (i:=i) (.int .i64 cc)) (i:=j) (.int .i64 b));rw[Nf.WN pre b cc rest i j nO.out pq.out] at qs;clear h1 h2;go_wp2
       go_roundg (N-(i+1))
       case measure=>have:=l9.out;omega
       case rel=>
        refine⟨i+1,i,pre++[b],cc,rest,rfl,by omega,rfl,by rw[List.length_append,←nO.out];exact pq.out,by first|rfl|go_num,?_,?_,?_,?_⟩
        ·have:=wL.out;simp only[List.length_append,List.length_cons,List.length_nil] at this ⊢;omega
        ·rw[List.append_assoc];have:=CG.out;rw[adr.out] at this;exact this
        ·rw[List.append_assoc];exact qs.out
        exact (ah.out.setCell (p:=⟨g,i,none⟩) aR _).setCell (p:=⟨g,j,none⟩) aR _
      have d2:decide (kb<kc)=false:=decide_eq_false h2;have KM:=hide (CU.out (fun h=>h2 h.2));clear h1 h2;go_wp2
      go_roundg (N-(i+1))
      case measure=>have:=l9.out;omega
      case rel=>
       refine⟨i+1,i,pre++[cc],b,rest,rfl,by omega,rfl,by rw[List.length_append,←nO.out];exact pq.out,by first|rfl|go_num,?_,?_,?_,ah.out⟩
       ·have:=wL.out;simp only[List.length_append,List.length_cons,List.length_nil] at this ⊢;omega
       ·rw[List.append_assoc];have:=CG.out;rw[KM.out] at this;exact this
       rw[List.append_assoc];exact aL.out
     have d1:decide (0<kb)=false:=decide_eq_false h1;have KM:=hide (CU.out (fun h=>h1 h.1));clear h1;go_wp2
     go_roundg (N-(i+1))
     case measure=>have:=l9.out;omega
     case rel=>
      refine⟨i+1,i,pre++[cc],b,rest,rfl,by omega,rfl,by rw[List.length_append,←nO.out];exact pq.out,by first|rfl|go_num,?_,?_,?_,ah.out⟩
      ·have:=wL.out;simp only[List.length_append,List.length_cons,List.length_nil] at this ⊢;omega
      ·rw[List.append_assoc];have:=CG.out;rw[KM.out] at this;exact this
      rw[List.append_assoc];exact aL.out
    have adu:i=N:=by omega
    have pP:rest=[]:=by
     cases rest with
     | nil=>rfl
     | cons x t=>have h3:=wL.out;have:=nO.out;have:=pq.out;simp only[List.length_cons] at h3;omega
    subst pP;subst adu;have hq:(i:Int)<(i:Int)↔False:=by simp
    go_wp2
    go_roundg (i-(n+1))
    case measure=>have:=Hg.out;omega
    case rel=>exact⟨n+1,pre++[cc],rfl,by omega,by first|rfl|go_num,by have:=wL.out;simpa using this,by have:=CG.out;rwa[show i-n-1=i-(n+1) by omega] at this,aL.out,ah.out⟩
  have adW:n=N:=by omega
  subst adW;have hc:cur=L:=by have:=Ou.out;rwa[Nat.sub_self] at this
  subst hc;go_wp2;go_ret;exact⟨⟨A1,c1,rfl,HO.out⟩,HB.out⟩
end
section
open Go.RowKit Go.WideShapes

namespace Nf
def ik(l:List Int)(j:Nat):List Int×Int:=(l.take j).foldl pG ([],-1)
theorem abI{l:List Int}{j:Nat}{r:Int}(h:l[j]?=some r):ik l (j+1)=pG (ik l j) r:=by
 unfold ik;rw[List.take_add_one,h,List.foldl_append];rfl
theorem abH(l:List Int)(j:Nat):sG (dJ l j) (ik l j):=by
 unfold dJ ik;exact Lt _ _ _ ⟨rfl,rfl,by simp,by simp,fun h=>by simp at h,fun h=>by simp at h⟩
theorem abJ{out:List Int}{st r:Int}(h:mi out st (cls r)=true∨whole (out.getD st.toNat 0) r=none):pG (out,st) r=(out++[r],if cls r=0 then (out.length:Int) else st):=by
 unfold pG;dsimp only
 rcases h with h|h
 ·rw[if_pos h]
 by_cases hb:mi out st (cls r)=true
 ·rw[if_pos hb]
 rw[if_neg hb,h]
theorem abK{out:List Int}{st r v:Int}(hb:mi out st (cls r)=false)(h:whole (out.getD st.toNat 0) r=some v):pG (out,st) r=(out.set st.toNat v,st):=by
 unfold pG;dsimp only;rw[hb,if_neg (by simp),h]
def yv(c x:Int):Bool:=decide (cls x=0)||decide (c≤cls x)
theorem aaL(out:List Int)(k:Nat)(c:Int):mi out (k:Int) c=(out.drop (k+1)).any (yv c):=by
 unfold mi;have:decide ((k:Int)<0)=false:=decide_eq_false (by omega);rw[this,Bool.false_or];rfl
theorem aaM{out:List Int}{st:Int}(h:st<0)(c:Int):mi out st c=true:=by
 unfold mi;rw[decide_eq_true h,Bool.true_or]
end Nf
theorem ahp(l:List Int)(A:Option Addr)(c:Nat)(w:World)(hr:Reads w w.heap.size 1 A l.length (ar l))(bY:∀x∈l,Nf.Ok x)(hs:l.length≤20000000) :
  Calls Tryz.prog 142 #[.slice A l.length c] w (qI w (Nf.compose l)):=by
 rw[←Nf.abn];have uk:=hide (show (Nf.ik l l.length).1=Nf.Ds l by unfold Nf.ik Nf.Ds;rw[List.take_length]);obtain⟨L,hL⟩:∃L,l.length=L:=⟨_,rfl⟩;have HL:=hide hL;rw[hL] at hr hs uk;rw[hL];have HR:=hide hr;have ig:=hide bY;have FZ:=hide (Nf.IX bY);have Yl:=hide (Nf.abH l);have ui:=hide (fun r W=>VQ r W);clear hL hr bY;obtain⟨D,hD⟩:∃D,Nf.Ds l=D:=⟨_,rfl⟩;rw[hD] at uk ⊢;clear hD
 go_enter Tryz.func142,Tryz.ntmps142
 go_wp2
 go_loopg [3,4,5,6,7,8,9,10,11,12] L (fun gk v3 v4 v5 v6 v7 v8 v9 v10 v11 v12 wr=>∃(j m:Nat) (A':Option Addr) (c':Nat),gk=L-j∧j≤L∧v5=.int .i64 (j:Int)∧v3=.slice A' m c'∧(Nf.ik l j).1.length=m∧v4=.int .i64 (Nf.ik l j).2∧
  wr.ownsRow w.heap.size 3 1 (.slice A' m c') m (ar (Nf.ik l j).1)∧Below w.heap.size w wr)
 case atStart=>exact⟨0,0,none,0,rfl,by omega,rfl,rfl,rfl,rfl,World.ownsRow_nil _ _ _ _,Below.refl _ _⟩
 case round=>
  obtain⟨j,m,A',c',aq,hj,rfl,rfl,hm,rfl,ho,hb⟩:=hrel;have Hg:=hide aq;have HB:=hide hb;have aM:w.heap.size≤wr.heap.size:=hb.size;clear aq hb
  by_cases hlt:j<L
  ·obtain⟨r,iw⟩:∃r,l[j]?=some r:=⟨_,List.getElem?_eq_getElem (by rw[HL.out];exact hlt)⟩;obtain⟨gb,off,rfl,dN,hcell⟩:=HR.out.2 (by omega);have y0:wr.cell? ⟨gb,off+j,none⟩=some (.int .i64 r):=(HB.out.cell dN).trans (hcell j _ (by unfold ar;rw[List.getElem?_map,iw];rfl));have bD:=Nf.abI iw;have hlk:=Yl.out j;obtain⟨hcs,jG⟩:=FZ.out j;have jC:=hide (ig.out r (List.mem_of_getElem? iw));obtain⟨⟨out,st⟩,hs0⟩:∃s,Nf.ik l j=s:=⟨_,rfl⟩;rw[hs0] at hm ho hlk bD ⊢;dsimp only at hm ho hlk ⊢;have Tw : -1≤st:=by have:=hcs.lU;rw[hlk.st] at this;exact this
   have aeg:st<(m:Int):=by have:=hcs.qd;rw[hlk.st,hlk.out,hm] at this;exact this
   have hmj:m≤j:=by rw[hlk.out,hm] at jG;exact jG
   have YG:=hide (show ∀x∈out,Nf.Ok x by have:=hcs.ok;rw[hlk.out] at this;exact this);have HO:=hide ho;have Hm:=hide hm;have jd:=hide (Nf.n8 r);have uC:=hide (show (Nf.mi out st (Nf.cls r)=true∨Nf.whole (out.getD st.toNat 0) r=none)→Nf.ik l (j+1)=(out++[r],if Nf.cls r=0 then (m:Int) else st) from fun h=>by rw[bD,Nf.abJ h,hm]);have zh:=hide (show ∀v,Nf.mi out st (Nf.cls r)=false→Nf.whole (out.getD st.toNat 0) r=some v→Nf.ik l (j+1)=(out.set st.toNat v,st) from fun v hb h=>by rw[bD,Nf.abK hb h]);obtain⟨cr,lC⟩:∃cr,Nf.cls r=cr:=⟨_,rfl⟩;have eC:=hide (fun W=>ui.out r W);rw[lC] at eC uC zh jd;have ade:=jd.out.1;have zA:IntKind.i64.wrap ((m:Int)+1-1)=(m:Int):=by rw[IntWalk.i64_in _ (by omega)];omega
   have zB:IntKind.i64.wrap (((m+1:Nat):Int)-1)=(m:Int):=by rw[IntWalk.i64_in _ (by omega)];omega
   have Es:(out++[r]).length=m+1:=by rw[List.length_append,hm];rfl
   have wT:=hide Es;clear hcell iw hs0 hcs ho hm lC jG hlk bD Es
   by_cases eG:st<0
   ·have dn:decide (st<0)=true:=decide_eq_true eG;have dn2:decide (0≤st)=false:=decide_eq_false (by omega);have sw:=hide (uC.out (.inl (Nf.aaM eG cr)));clear eG
    go_wp2_with fail
    go_wp2_with fail
    refine cq (eC.out _) ?_
    by_cases hc0:cr=0
    ·have ec:(cr==0)=true:=by simpa using hc0
     have fG:=hide (show Nf.ik l (j+1)=(out++[r],(m:Int)) by rw[sw.out,if_pos hc0]);clear hc0
     go_wp2_with (at_builtin;go_loud (refine fy wr rfl (.tmp 65) (.tmp 67) 166 rfl w.heap.size (.int .i64 0) 1 8 Tryz.underlying166 fU rfl (by omega) _ m (ar out) rfl HO.out (cs:=[.int .i64 r]) rfl (by simp[Value.oneCell']) rfl (by unfold maxLen;omega) (by omega) aM ?_);intro g8 dx w8 aN aF ow cY ox;have cL:=hide aN;have gO:=hide (HB.out.grown aF HB.out.size (fun j' e=>(aI HO.out j' e).1));clear aN aF ow cY ox)
     go_roundg (L-(j+1))
     case measure=>have:=Hg.out;omega
     case rel=>
      refine⟨j+1,m+1,some ⟨g8,0,none⟩,dx,rfl,by omega,by first|rfl|go_num,rfl,by rw[fG.out];exact wT.out,by rw[fG.out],?_,gO.out⟩;rw[fG.out,iB];exact cL.out
    have ec:(cr==0)=false:=by simpa using hc0
    have fG:=hide (show Nf.ik l (j+1)=(out++[r],st) by rw[sw.out,if_neg hc0]);clear hc0
    go_wp2_with (at_builtin;go_loud (refine fy wr rfl (.tmp 65) (.tmp 67) 166 rfl w.heap.size (.int .i64 0) 1 8 Tryz.underlying166 fU rfl (by omega) _ m (ar out) rfl HO.out (cs:=[.int .i64 r]) rfl (by simp[Value.oneCell']) rfl (by unfold maxLen;omega) (by omega) aM ?_);intro g8 dx w8 aN aF ow cY ox;have cL:=hide aN;have gO:=hide (HB.out.grown aF HB.out.size (fun j' e=>(aI HO.out j' e).1));clear aN aF ow cY ox)
    go_roundg (L-(j+1))
    case measure=>have:=Hg.out;omega
    case rel=>
     refine⟨j+1,m+1,some ⟨g8,0,none⟩,dx,rfl,by omega,by first|rfl|go_num,rfl,by rw[fG.out];exact wT.out,by rw[fG.out],?_,gO.out⟩;rw[fG.out,iB];exact cL.out
   obtain⟨k0,iQ⟩:∃k0:Nat,st=(k0:Int):=⟨st.toNat,by omega⟩;subst iQ;have adC:k0<m:=by omega
   obtain⟨g,rfl,aR,SE⟩:=Vj HO.out (by omega);have OP:=hide (Nf.aaL out k0 cr);obtain⟨FD,TC⟩:∃t,Nf.mi out (k0:Int) cr=t:=⟨_,rfl⟩;rw[TC] at OP uC zh;rw[Int.toNat_natCast] at uC zh;have dn:decide ((k0:Int)<0)=false:=decide_eq_false (by omega);have dn2:decide (0≤(k0:Int))=true:=decide_eq_true (by omega);have zk:IntKind.i64.wrap ((k0:Int)+1)=((k0+1:Nat):Int):=by rw[IntWalk.i64_in _ (by omega)];omega
   clear TC eG
   go_wp2_with fail
   go_wp2_with fail
   refine cq (eC.out _) ?_
   go_wp2
   rename World=>wo
   go_loopg [8,9,10] (m-(k0+1)) (fun gq v8 v9 v10 wr=>∃(k:Nat) (B:Bool),gq=m-k∧k≤m∧v9=.int .i64 (k:Int)∧v8=.bool B∧(B||(out.drop k).any (Nf.yv cr))=FD∧wr=wo)
   case atStart=>exact⟨k0+1,false,rfl,by omega,by first|rfl|go_num,rfl,by rw[Bool.false_or];exact OP.out.symm,rfl⟩
   case round=>
    obtain⟨k,B,tz,hk,rfl,rfl,hB,TL⟩:=hrel;subst TL;have l9:=hide tz;have po:=hide hB;clear tz hB
    by_cases AJ:k<m
    ·obtain⟨x,hx⟩:∃x,out[k]?=some x:=⟨_,List.getElem?_eq_getElem (by rw[Hm.out];exact AJ)⟩;have hd:=Nf.Jt hx;obtain⟨y1,f1⟩:=yn HO.out (i:=k) (u:=.int .i64 x) (Nf.xX hx);have Cp:=hide (show (B||(Nf.yv cr x||(out.drop (k+1)).any (Nf.yv cr)))=FD by have:=po.out;rw[hd,List.any_cons] at this;exact this);have fS:(0:Int)≤k∧(k:Int)<m:=by omega
     have NJ:=hide (fun W=>ui.out x W);unfold Nf.yv at Cp;obtain⟨kx,SK⟩:∃q,Nf.cls x=q:=⟨_,rfl⟩;rw[SK] at NJ Cp;clear hx hd SK
     go_wp2_with fail
     go_wp2_with fail
     refine cq (NJ.out _) ?_
     by_cases mC:kx=0
     ·have e1:(kx==0)=true:=by simpa using mC
      have h1:=Cp.out;rw[decide_eq_true mC,Bool.true_or,Bool.true_or,Bool.or_true] at h1;subst h1;clear mC;go_wp2
      go_roundg (m-(k+1))
      case measure=>have:=l9.out;omega
      case rel=>exact⟨k+1,true,rfl,by omega,by first|rfl|go_num,rfl,by rw[Bool.true_or],rfl⟩
     have e1:(kx==0)=false:=by simpa using mC
     have h1:=Cp.out;rw[decide_eq_false mC,Bool.false_or] at h1;clear mC
     by_cases rE:cr≤kx
     ·have e2:decide (cr≤kx)=true:=decide_eq_true rE;rw[e2,Bool.true_or,Bool.or_true] at h1;subst h1;clear rE;go_wp2
      go_roundg (m-(k+1))
      case measure=>have:=l9.out;omega
      case rel=>exact⟨k+1,true,rfl,by omega,by first|rfl|go_num,rfl,by rw[Bool.true_or],rfl⟩
     have e2:decide (cr≤kx)=false:=decide_eq_false rE;have h2:=hide (show (B||(out.drop (k+1)).any (Nf.yv cr))=FD by rw[decide_eq_false rE,Bool.false_or] at h1;exact h1);clear rE h1;go_wp2
     go_roundg (m-(k+1))
     case measure=>have:=l9.out;omega
     case rel=>exact⟨k+1,B,rfl,by omega,by first|rfl|go_num,rfl,h2.out,rfl⟩
    have hBt:B=FD:=by
     have:=po.out;rw[List.drop_of_length_le (by rw[Hm.out];omega),List.any_nil,Bool.or_false] at this;exact this
    subst hBt
    cases B with
    | true=>
     have sw:=hide (uC.out (.inl rfl))
     by_cases hc0:cr=0
     ·have ec:(cr==0)=true:=by simpa using hc0
      have fG:=hide (show Nf.ik l (j+1)=(out++[r],(m:Int)) by rw[sw.out,if_pos hc0]);clear hc0
      go_wp2_with (at_builtin;go_loud (refine fy wr rfl (.tmp 65) (.tmp 67) 166 rfl w.heap.size (.int .i64 0) 1 8 Tryz.underlying166 fU rfl (by omega) _ m (ar out) rfl HO.out (cs:=[.int .i64 r]) rfl (by simp[Value.oneCell']) rfl (by unfold maxLen;omega) (by omega) aM ?_);intro g8 dx w8 aN aF ow cY ox;have cL:=hide aN;have gO:=hide (HB.out.grown aF HB.out.size (fun j' e=>(aI HO.out j' e).1));clear aN aF ow cY ox)
      go_roundg (L-(j+1))
      case measure=>have:=Hg.out;omega
      case rel=>
       refine⟨j+1,m+1,some ⟨g8,0,none⟩,dx,rfl,by omega,by first|rfl|go_num,rfl,by rw[fG.out];exact wT.out,by rw[fG.out],?_,gO.out⟩;rw[fG.out,iB];exact cL.out
     have ec:(cr==0)=false:=by simpa using hc0
     have fG:=hide (show Nf.ik l (j+1)=(out++[r],(k0:Int)) by rw[sw.out,if_neg hc0]);clear hc0
     go_wp2_with (at_builtin;go_loud (refine fy wr rfl (.tmp 65) (.tmp 67) 166 rfl w.heap.size (.int .i64 0) 1 8 Tryz.underlying166 fU rfl (by omega) _ m (ar out) rfl HO.out (cs:=[.int .i64 r]) rfl (by simp[Value.oneCell']) rfl (by unfold maxLen;omega) (by omega) aM ?_);intro g8 dx w8 aN aF ow cY ox;have cL:=hide aN;have gO:=hide (HB.out.grown aF HB.out.size (fun j' e=>(aI HO.out j' e).1));clear aN aF ow cY ox)
     go_roundg (L-(j+1))
     case measure=>have:=Hg.out;omega
     case rel=>
      refine⟨j+1,m+1,some ⟨g8,0,none⟩,dx,rfl,by omega,by first|rfl|go_num,rfl,by rw[fG.out];exact wT.out,by rw[fG.out],?_,gO.out⟩;rw[fG.out,iB];exact cL.out
    | false=>
     obtain⟨x,hx⟩:∃x,out[k0]?=some x:=⟨_,List.getElem?_eq_getElem (by rw[Hm.out];exact adC)⟩;obtain⟨y1,f1⟩:=yn HO.out (i:=k0) (u:=.int .i64 x) (Nf.xX hx);have hgd:out.getD k0 0=x:=by rw[List.getD_eq_getElem?_getD,hx];rfl
     rw[hgd] at uC zh;have La:=YG.out x (List.mem_of_getElem? hx);have uA:=hide (fun W=>ahP x r W La.1 La.2 jC.out.1 jC.out.2);have fS:(0:Int)≤k0∧(k0:Int)<m:=by omega
     unfold jU at uA;have Hx:=hide hx;clear hx hgd La
     cases hw:Nf.whole x r with
     | some v=>
      rw[hw] at uA;have G7:=hide (zh.out v rfl hw);clear hw;dsimp only at uA
      go_wp2_with fail
      refine (uA.out _).mono ?_;rintro e w2 ⟨rfl,ag⟩;have aL:=hide (yp HO.out ag);have ah:=hide (HB.out.trans (ag.mono HB.out.size));obtain⟨y2,f2⟩:=yn aL.out (i:=k0) (u:=.int .i64 x) (Nf.xX Hx.out);dsimp only;have sr:=hide (Fk aL.out (i:=k0) (.int .i64 v));clear ag;go_wp2
      go_roundg (L-(j+1))
      case measure=>have:=Hg.out;omega
      case rel=>
       refine⟨j+1,m,some ⟨g,0,none⟩,c',rfl,by omega,by first|rfl|go_num,rfl,by rw[G7.out];simp[Hm.out],by rw[G7.out],?_,ah.out.setCell (p:=⟨g,k0,none⟩) aR _⟩;rw[G7.out];have:=sr.out;rw[show (ar out).set k0 (.int .i64 v)=ar (out.set k0 v) by unfold ar;rw[List.map_set]] at this;exact this
     | none=>
      rw[hw] at uA;have sw:=hide (uC.out (.inr hw));clear hw;dsimp only at uA
      go_wp2_with fail
      refine (uA.out _).mono ?_;rintro e w2 ⟨rfl,ag⟩;have aL:=hide (yp HO.out ag);have ah:=hide (HB.out.trans (ag.mono HB.out.size));have cG:=ah.out.size;clear ag;dsimp only
      by_cases hc0:cr=0
      ·have ec:(cr==0)=true:=by simpa using hc0
       have fG:=hide (show Nf.ik l (j+1)=(out++[r],(m:Int)) by rw[sw.out,if_pos hc0]);clear hc0
       go_wp2_with (at_builtin;go_loud (refine fy w2 rfl (.tmp 65) (.tmp 67) 166 rfl w.heap.size (.int .i64 0) 1 8 Tryz.underlying166 fU rfl (by omega) _ m (ar out) rfl aL.out (cs:=[.int .i64 r]) rfl (by simp[Value.oneCell']) rfl (by unfold maxLen;omega) (by omega) cG ?_);intro g8 dx w8 aN aF ow cY ox;have cL:=hide aN;have gO:=hide (ah.out.grown aF ah.out.size (fun j' e=>(aI aL.out j' e).1));clear aN aF ow cY ox)
       go_roundg (L-(j+1))
       case measure=>have:=Hg.out;omega
       case rel=>
        refine⟨j+1,m+1,some ⟨g8,0,none⟩,dx,rfl,by omega,by first|rfl|go_num,rfl,by rw[fG.out];exact wT.out,by rw[fG.out],?_,gO.out⟩;rw[fG.out,iB];exact cL.out
      have ec:(cr==0)=false:=by simpa using hc0
      have fG:=hide (show Nf.ik l (j+1)=(out++[r],(k0:Int)) by rw[sw.out,if_neg hc0]);clear hc0
      go_wp2_with (at_builtin;go_loud (refine fy w2 rfl (.tmp 65) (.tmp 67) 166 rfl w.heap.size (.int .i64 0) 1 8 Tryz.underlying166 fU rfl (by omega) _ m (ar out) rfl aL.out (cs:=[.int .i64 r]) rfl (by simp[Value.oneCell']) rfl (by unfold maxLen;omega) (by omega) cG ?_);intro g8 dx w8 aN aF ow cY ox;have cL:=hide aN;have gO:=hide (ah.out.grown aF ah.out.size (fun j' e=>(aI aL.out j' e).1));clear aN aF ow cY ox)
      go_roundg (L-(j+1))
      case measure=>have:=Hg.out;omega
      case rel=>
       refine⟨j+1,m+1,some ⟨g8,0,none⟩,dx,rfl,by omega,by first|rfl|go_num,rfl,by rw[fG.out];exact wT.out,by rw[fG.out],?_,gO.out⟩;rw[fG.out,iB];exact cL.out
  have xI:j=L:=by omega
  subst xI;have bG:=ho;rw[uk.out] at bG hm;have aL:=hide bG;have Pe:=hide hm;clear ho bG hm;go_wp2;go_ret;exact⟨⟨A',c',by rw[Pe.out];rfl,by rw[Pe.out];exact aL.out⟩,HB.out⟩
end
section
namespace Nf
def Low(l:List Int):Prop:=∀r∈l,0≤r∧r<128
theorem WS:∀x∈table,128≤x.2∧128≤x.1.2:=by decide +kernel
theorem abE:∀x∈kh,128≤x.1:=by decide +kernel
theorem afr{r:Int}(h:r<128):made r=none:=by
 unfold made fN;rw[if_neg (by simp;omega),Ly (fun x hx=>by have:=(WS x hx).1;omega)];dsimp only;rw[Lx (fun x hx=>by have:=abE x hx;omega)];rfl
theorem agL{r:Int}(h:r<128):parts r=[r]:=by
 unfold parts apart;rw[afr h];rfl
theorem Qz{r:Int}(h:r<128):cls r=0:=by
 unfold cls;rw[if_pos (by omega)]
theorem UA{p:Int×Int}:∀{l:List ((Int×Int)×Int)},(∀x∈l,x.1≠p)→lookW p l=none
 | [],_=>rfl
 | x :: l,h=>by
  unfold lookW;rw[if_neg (h x (by simp)),UA (fun y hy=>h y (by simp[hy]))]
theorem akU{a b:Int}(hb:b<128):whole a b=none:=by
 unfold whole;rw[if_neg (by omega),if_neg (by omega),UA (fun x hx e=>by have:=(WS x hx).2;rw[e] at this;dsimp only at this;omega)]
theorem Qc:∀(l ctx:List Int),Low l→Bd 0 ctx l
 | [],_,_=>trivial
 | b :: l,ctx,h=>by
  have h0:=Qz (h b (by simp)).2;unfold Bd;rw[if_pos h0];exact⟨.inl h0,Qc l [] (fun r hr=>h r (by simp[hr]))⟩
theorem ai5{l:List Int}(h:Low l):sort l=l:=by
 unfold sort;exact Mm _ _ (by omega) (Qc l [] h)
theorem QA:∀(l:List Int) (s:Cs),Low l→(l.foldl gR s).out=s.out++l
 | [],s,_=>by simp
 | r :: l,s,h=>by
  have hr:=(h r (by simp)).2;have e:gR s r=⟨s.out++[r],s.out.length,-1⟩:=xd (fun _=>akU hr) (Qz hr);rw[List.foldl_cons,QA l _ (fun x hx=>h x (by simp[hx])),e];simp
theorem aa4{l:List Int}(h:Low l):compose l=l:=by
 unfold compose;rw[QA l _ h];rfl
theorem QL:∀{l:List Int},Low l→bS l=l
 | [],_=>rfl
 | r :: l,h=>by
  have:=QL (l:=l) (fun x hx=>h x (by simp[hx]));unfold bS at this ⊢;rw[List.flatMap_cons,this,agL (h r (by simp)).2];rfl
theorem abp{l:List Int}(h:Low l):dec l=l:=by
 unfold dec;rw[QL h,ai5 h]
def r8(s:List UInt8):Prop:=∀c∈s,c.toNat<128
def yh(s:List UInt8):List Int:=s.map fun c=>(c.toNat:Int)
theorem LB{s:List UInt8}(h:r8 s):Low (yh s):=by
 intro r hr;obtain⟨c,hc,rfl⟩:=List.mem_map.1 hr;have:=h c hc;omega
theorem VC:∀(s:List UInt8) (k at_:Nat),s.length≤k→r8 s→(Utf.gw k at_ s).map (·.2)=yh s
 | [],k,at_,_,_=>by cases k<;>rfl
 | c :: s,0,_,h,_=>by simp at h
 | c :: s,k+1,at_,h,ha=>by
  have e:=Utf.agQ (ha c (by simp)) s;unfold Utf.gw;rw[e];dsimp only;rw[List.map_cons];have:=VC s k (at_+1) (by simpa using h) (fun x hx=>ha x (by simp[hx]));show _ :: (Utf.gw k (at_+1) s).map (·.2)=_;rw[this];rfl
theorem Xe{s:List UInt8}(h:r8 s):bo s=yh s:=VC s _ 0 (Nat.le_refl _) h
theorem ahT{s:List UInt8}(h:r8 s):Right s:=by
 intro p hp;have hm:p.2∈bo s:=List.mem_map.2 ⟨p,hp,rfl⟩;rw[Xe h] at hm;exact (LB h _ hm).1
theorem Qn:∀(s:List UInt8),r8 s→bytesOf (yh s)=s
 | [],_=>rfl
 | c :: s,h=>by
  have hc:=h c (by simp)
  have e:Utf.put (c.toNat:Int)=[(c.toNat:Int)]:=by
   unfold Utf.put;rw[if_pos (by omega)]
  have eb:bv (c.toNat:Int)=c:=by
   unfold bv;rw[Int.toNat_natCast];exact UInt8.ofNat_toNat
  have:=Qn s (fun x hx=>h x (by simp[hx]));unfold bytesOf yh at this ⊢;rw[List.map_cons,List.flatMap_cons,this,e];simp[eb]
theorem aj1{s:List UInt8}(h:r8 s):jR (yh s)=some s:=by
 unfold jR;rw[Qn s h,if_pos];rw[List.all_eq_true];intro r hr;have:=LB h r hr;unfold Utf.isScalar;simp;omega
theorem Xp{f:List Int→List Int}(hf:∀l,Low l→f l=l){s:List UInt8}(h:r8 s):via f s=s:=by
 unfold via;rw[if_pos (ahT h),Xe h,hf _ (LB h),aj1 h];rfl
theorem afR(s:List UInt8):nD s=jF (gS s):=by
 unfold nD;split
 ·rfl
 rename_i h
 have ha:r8 s:=by
  intro c hc;simp only[List.any_eq_true,decide_eq_true_eq,not_exists,not_and] at h;have:=h c hc;omega
 have e1:gS s=s:=Xp (fun l hl=>abp hl) ha;rw[e1];exact (Xp (fun l hl=>aa4 hl) ha).symm
end Nf
end
end Go.Proofs.YtifiiojchlaghaaGreatDoor
