/- NFC: the document's compose (ref12). (Printed by genTdS.py.) And more. -/
import Derived.Test.YtpdkeckeekchlaaGreatDoorOt40
set_option linter.unusedSimpArgs false
set_option maxRecDepth 100000
set_option maxHeartbeats 16000000
set_option linter.unusedVariables false
namespace Go.Proofs.YtpdkeckeekchlaaGreatDoor
section
open Go.RowKit Go.WideShapes

namespace Nf
def ij(l:List Int)(j:Nat):List Int×Int:=(l.take j).foldl pM ([],-1)
theorem adz{l:List Int}{j:Nat}{r:Int}(h:l[j]?=some r):ij l (j+1)=pM (ij l j) r:=by
 unfold ij;rw[List.take_add_one,h,List.foldl_append];rfl
theorem ady(l:List Int)(j:Nat):sV (dx l j) (ij l j):=by
 unfold dx ij;exact MN _ _ _ ⟨rfl,rfl,by simp,by simp,fun h=>by simp at h,fun h=>by simp at h⟩
theorem adA{out:List Int}{st r:Int}(h:mn out st (cls r)=true∨whole (out.getD st.toNat 0) r=none):pM (out,st) r=(out++[r],if cls r=0 then (out.length:Int) else st):=by
 unfold pM;dsimp only
 rcases h with h|h
 ·rw[if_pos h]
 by_cases hb:mn out st (cls r)=true
 ·rw[if_pos hb]
 rw[if_neg hb,h]
theorem adB{out:List Int}{st r v:Int}(hb:mn out st (cls r)=false)(h:whole (out.getD st.toNat 0) r=some v):pM (out,st) r=(out.set st.toNat v,st):=by
 unfold pM;dsimp only;rw[hb,if_neg (by simp),h]
def zo(c x:Int):Bool:=decide (cls x=0)||decide (c≤cls x)
theorem acC(out:List Int)(k:Nat)(c:Int):mn out (k:Int) c=(out.drop (k+1)).any (zo c):=by
 unfold mn;have:decide ((k:Int)<0)=false:=decide_eq_false (by omega);rw[this,Bool.false_or];rfl
theorem acD{out:List Int}{st:Int}(h:st<0)(c:Int):mn out st c=true:=by
 unfold mn;rw[decide_eq_true h,Bool.true_or]
end Nf
theorem ajQ(l:List Int)(A:Option Addr)(c:Nat)(w:World)(hr:Reads w w.heap.size 1 A l.length (aq l))(bK:∀x∈l,Nf.Ok x)(hs:l.length≤20000000) :
  Calls Tryz.prog 140 #[.slice A l.length c] w (qY w (Nf.compose l)):=by
 rw[←Nf.adf];have uM:=ap (show (Nf.ij l l.length).1=Nf.EE l by unfold Nf.ij Nf.EE;rw[List.take_length]);obtain⟨L,hL⟩:∃L,l.length=L:=⟨_,rfl⟩;have HL:=ap hL;rw[hL] at hr hs uM;rw[hL];have HR:=ap hr;have ic:=ap bK;have Io:=ap (Nf.J9 bK);have HLk:=ap (Nf.ady l);have uJ:=ap (fun r W=>XI r W);clear hL hr bK;obtain⟨D,hD⟩:∃D,Nf.EE l=D:=⟨_,rfl⟩;rw[hD] at uM ⊢;clear hD
 go_enter Tryz.func140,Tryz.ntmps140
 go_wp2
 go_loopg [3,4,5,6,7,8,9,10,11,12] L (fun gk v3 v4 v5 v6 v7 v8 v9 v10 v11 v12 wr=>∃(j m:Nat) (A':Option Addr) (c':Nat),gk=L-j∧j≤L∧v5=.int .i64 (j:Int)∧v3=.slice A' m c'∧(Nf.ij l j).1.length=m∧v4=.int .i64 (Nf.ij l j).2∧
  wr.ownsRow w.heap.size 3 1 (.slice A' m c') m (aq (Nf.ij l j).1)∧Below w.heap.size w wr)
 case atStart=>exact⟨0,0,none,0,rfl,by omega,rfl,rfl,rfl,rfl,World.ownsRow_nil _ _ _ _,Below.refl _ _⟩
 case round=>
  obtain⟨j,m,A',c',au,hj,rfl,rfl,hm,rfl,ho,hb⟩:=hrel;have Hg:=ap au;have HB:=ap hb;have aN:w.heap.size≤wr.heap.size:=hb.size;clear au hb
  by_cases hlt:j<L
  ·obtain⟨r,ir⟩:∃r,l[j]?=some r:=⟨_,List.getElem?_eq_getElem (by rw[HL.o];exact hlt)⟩;obtain⟨gb,off,rfl,dC,hcell⟩:=HR.o.2 (by omega);have y0:wr.cell? ⟨gb,off+j,none⟩=some (.int .i64 r):=(HB.o.cell dC).trans (hcell j _ (by unfold aq;rw[List.getElem?_map,ir];rfl));have aX:=Nf.adz ir;have hlk:=HLk.o j;obtain⟨hcs,jI⟩:=Io.o j;have jE:=ap (ic.o r (List.mem_of_getElem? ir));obtain⟨⟨out,st⟩,hs0⟩:∃s,Nf.ij l j=s:=⟨_,rfl⟩;rw[hs0] at hm ho hlk aX ⊢;dsimp only at hm ho hlk ⊢;have Vn : -1≤st:=by have:=hcs.lZ;rw[hlk.st] at this;exact this
   have agl:st<(m:Int):=by have:=hcs.qu;rw[hlk.st,hlk.o,hm] at this;exact this
   have hmj:m≤j:=by rw[hlk.o,hm] at jI;exact jI
   have aav:=ap (show ∀x∈out,Nf.Ok x by have:=hcs.ok;rw[hlk.o] at this;exact this);have HO:=ap ho;have Hm:=ap hm;have jh:=ap (Nf.oy r);have uY:=ap (show (Nf.mn out st (Nf.cls r)=true∨Nf.whole (out.getD st.toNat 0) r=none)→Nf.ij l (j+1)=(out++[r],if Nf.cls r=0 then (m:Int) else st) from fun h=>by rw[aX,Nf.adA h,hm]);have Ag:=ap (show ∀v,Nf.mn out st (Nf.cls r)=false→Nf.whole (out.getD st.toNat 0) r=some v→Nf.ij l (j+1)=(out.set st.toNat v,st) from fun v hb h=>by rw[aX,Nf.adB hb h]);obtain⟨cr,lK⟩:∃cr,Nf.cls r=cr:=⟨_,rfl⟩;have dZ:=ap (fun W=>uJ.o r W);rw[lK] at dZ uY Ag jh;have afl:=jh.o.1;have zA:IntKind.i64.wrap ((m:Int)+1-1)=(m:Int):=by rw[IntWalk.i64_in _ (by omega)];omega
   have zB:IntKind.i64.wrap (((m+1:Nat):Int)-1)=(m:Int):=by rw[IntWalk.i64_in _ (by omega)];omega
   have Fp:(out++[r]).length=m+1:=by rw[List.length_append,hm];rfl
   have xC:=ap Fp;clear hcell ir hs0 hcs ho hm lK jI hlk aX Fp
   by_cases ek:st<0
   ·have dn:decide (st<0)=true:=decide_eq_true ek;have dn2:decide (0≤st)=false:=decide_eq_false (by omega);have sL:=ap (uY.o (.inl (Nf.acD ek cr)));clear ek
    go_wp2_with fail
    go_wp2_with fail
    refine cq (dZ.o _) ?_
    by_cases hc0:cr=0
    ·have ec:(cr==0)=true:=by simpa using hc0
     have fA:=ap (show Nf.ij l (j+1)=(out++[r],(m:Int)) by rw[sL.o,if_pos hc0]);clear hc0
     go_wp2_with (at_builtin;go_loud (refine et wr rfl (.tmp 65) (.tmp 67) 164 rfl w.heap.size (.int .i64 0) 1 8 Tryz.underlying164 fM rfl (by omega) _ m (aq out) rfl HO.o (cs:=[.int .i64 r]) rfl (by simp[Value.oneCell']) rfl (by unfold maxLen;omega) (by omega) aN ?_);intro g8 dw w8 aP aG oJ cX oK;have cU:=ap aP;have dY:=ap (HB.o.grown aG HB.o.size (fun j' e=>(aD HO.o j' e).1));clear aP aG oJ cX oK)
     go_roundg (L-(j+1))
     case measure=>have:=Hg.o;omega
     case rel=>
      refine⟨j+1,m+1,some ⟨g8,0,none⟩,dw,rfl,by omega,by first|rfl|go_num,rfl,by rw[fA.o];exact xC.o,by rw[fA.o],?_,dY.o⟩;rw[fA.o,iA];exact cU.o
    have ec:(cr==0)=false:=by simpa using hc0
    have fA:=ap (show Nf.ij l (j+1)=(out++[r],st) by rw[sL.o,if_neg hc0]);clear hc0
    go_wp2_with (at_builtin;go_loud (refine et wr rfl (.tmp 65) (.tmp 67) 164 rfl w.heap.size (.int .i64 0) 1 8 Tryz.underlying164 fM rfl (by omega) _ m (aq out) rfl HO.o (cs:=[.int .i64 r]) rfl (by simp[Value.oneCell']) rfl (by unfold maxLen;omega) (by omega) aN ?_);intro g8 dw w8 aP aG oJ cX oK;have cU:=ap aP;have dY:=ap (HB.o.grown aG HB.o.size (fun j' e=>(aD HO.o j' e).1));clear aP aG oJ cX oK)
    go_roundg (L-(j+1))
    case measure=>have:=Hg.o;omega
    case rel=>
     refine⟨j+1,m+1,some ⟨g8,0,none⟩,dw,rfl,by omega,by first|rfl|go_num,rfl,by rw[fA.o];exact xC.o,by rw[fA.o],?_,dY.o⟩;rw[fA.o,iA];exact cU.o
   obtain⟨k0,iT⟩:∃k0:Nat,st=(k0:Int):=⟨st.toNat,by omega⟩;subst iT;have afJ:k0<m:=by omega
   obtain⟨g,rfl,dG,UI⟩:=Xg HO.o (by omega);have Qw:=ap (Nf.acC out k0 cr);obtain⟨GY,Vr⟩:∃t,Nf.mn out (k0:Int) cr=t:=⟨_,rfl⟩;rw[Vr] at Qw uY Ag;rw[Int.toNat_natCast] at uY Ag;have dn:decide ((k0:Int)<0)=false:=decide_eq_false (by omega);have dn2:decide (0≤(k0:Int))=true:=decide_eq_true (by omega);have zk:IntKind.i64.wrap ((k0:Int)+1)=((k0+1:Nat):Int):=by rw[IntWalk.i64_in _ (by omega)];omega
   clear Vr ek
   go_wp2_with fail
   go_wp2_with fail
   refine cq (dZ.o _) ?_
   go_wp2
   rename World=>wo
   go_loopg [8,9,10] (m-(k0+1)) (fun gq v8 v9 v10 wr=>∃(k:Nat) (B:Bool),gq=m-k∧k≤m∧v9=.int .i64 (k:Int)∧v8=.bool B∧(B||(out.drop k).any (Nf.zo cr))=GY∧wr=wo)
   case atStart=>exact⟨k0+1,false,rfl,by omega,by first|rfl|go_num,rfl,by rw[Bool.false_or];exact Qw.o.symm,rfl⟩
   case round=>
    obtain⟨k,B,tP,hk,rfl,rfl,hB,Vz⟩:=hrel;subst Vz;have mi:=ap tP;have pA:=ap hB;clear tP hB
    by_cases BK:k<m
    ·obtain⟨x,hx⟩:∃x,out[k]?=some x:=⟨_,List.getElem?_eq_getElem (by rw[Hm.o];exact BK)⟩;have hd:=Nf.KF hx;obtain⟨y1,f1⟩:=ze HO.o (i:=k) (u:=.int .i64 x) (Nf.yG hx);have Dg:=ap (show (B||(Nf.zo cr x||(out.drop (k+1)).any (Nf.zo cr)))=GY by have:=pA.o;rw[hd,List.any_cons] at this;exact this);have eM:(0:Int)≤k∧(k:Int)<m:=by omega
     have Ps:=ap (fun W=>uJ.o x W);unfold Nf.zo at Dg;obtain⟨kx,tS⟩:∃q,Nf.cls x=q:=⟨_,rfl⟩;rw[tS] at Ps Dg;clear hx hd tS
     go_wp2_with fail
     go_wp2_with fail
     refine cq (Ps.o _) ?_
     by_cases mG:kx=0
     ·have e1:(kx==0)=true:=by simpa using mG
      have h1:=Dg.o;rw[decide_eq_true mG,Bool.true_or,Bool.true_or,Bool.or_true] at h1;subst h1;clear mG;go_wp2
      go_roundg (m-(k+1))
      case measure=>have:=mi.o;omega
      case rel=>exact⟨k+1,true,rfl,by omega,by first|rfl|go_num,rfl,by rw[Bool.true_or],rfl⟩
     have e1:(kx==0)=false:=by simpa using mG
     have h1:=Dg.o;rw[decide_eq_false mG,Bool.false_or] at h1;clear mG
     by_cases rU:cr≤kx
     ·have e2:decide (cr≤kx)=true:=decide_eq_true rU;rw[e2,Bool.true_or,Bool.or_true] at h1;subst h1;clear rU;go_wp2
      go_roundg (m-(k+1))
      case measure=>have:=mi.o;omega
      case rel=>exact⟨k+1,true,rfl,by omega,by first|rfl|go_num,rfl,by rw[Bool.true_or],rfl⟩
     have e2:decide (cr≤kx)=false:=decide_eq_false rU;have h2:=ap (show (B||(out.drop (k+1)).any (Nf.zo cr))=GY by rw[decide_eq_false rU,Bool.false_or] at h1;exact h1);clear rU h1;go_wp2
     go_roundg (m-(k+1))
     case measure=>have:=mi.o;omega
     case rel=>exact⟨k+1,B,rfl,by omega,by first|rfl|go_num,rfl,h2.o,rfl⟩
    have hBt:B=GY:=by
     have:=pA.o;rw[List.drop_of_length_le (by rw[Hm.o];omega),List.any_nil,Bool.or_false] at this;exact this
    subst hBt
    cases B with
    | true=>
     have sL:=ap (uY.o (.inl rfl))
     by_cases hc0:cr=0
     ·have ec:(cr==0)=true:=by simpa using hc0
      have fA:=ap (show Nf.ij l (j+1)=(out++[r],(m:Int)) by rw[sL.o,if_pos hc0]);clear hc0
      go_wp2_with (at_builtin;go_loud (refine et wr rfl (.tmp 65) (.tmp 67) 164 rfl w.heap.size (.int .i64 0) 1 8 Tryz.underlying164 fM rfl (by omega) _ m (aq out) rfl HO.o (cs:=[.int .i64 r]) rfl (by simp[Value.oneCell']) rfl (by unfold maxLen;omega) (by omega) aN ?_);intro g8 dw w8 aP aG oJ cX oK;have cU:=ap aP;have dY:=ap (HB.o.grown aG HB.o.size (fun j' e=>(aD HO.o j' e).1));clear aP aG oJ cX oK)
      go_roundg (L-(j+1))
      case measure=>have:=Hg.o;omega
      case rel=>
       refine⟨j+1,m+1,some ⟨g8,0,none⟩,dw,rfl,by omega,by first|rfl|go_num,rfl,by rw[fA.o];exact xC.o,by rw[fA.o],?_,dY.o⟩;rw[fA.o,iA];exact cU.o
     have ec:(cr==0)=false:=by simpa using hc0
     have fA:=ap (show Nf.ij l (j+1)=(out++[r],(k0:Int)) by rw[sL.o,if_neg hc0]);clear hc0
     go_wp2_with (at_builtin;go_loud (refine et wr rfl (.tmp 65) (.tmp 67) 164 rfl w.heap.size (.int .i64 0) 1 8 Tryz.underlying164 fM rfl (by omega) _ m (aq out) rfl HO.o (cs:=[.int .i64 r]) rfl (by simp[Value.oneCell']) rfl (by unfold maxLen;omega) (by omega) aN ?_);intro g8 dw w8 aP aG oJ cX oK;have cU:=ap aP;have dY:=ap (HB.o.grown aG HB.o.size (fun j' e=>(aD HO.o j' e).1));clear aP aG oJ cX oK)
     go_roundg (L-(j+1))
     case measure=>have:=Hg.o;omega
     case rel=>
      refine⟨j+1,m+1,some ⟨g8,0,none⟩,dw,rfl,by omega,by first|rfl|go_num,rfl,by rw[fA.o];exact xC.o,by rw[fA.o],?_,dY.o⟩;rw[fA.o,iA];exact cU.o
    | false=>
     obtain⟨x,hx⟩:∃x,out[k0]?=some x:=⟨_,List.getElem?_eq_getElem (by rw[Hm.o];exact afJ)⟩;obtain⟨y1,f1⟩:=ze HO.o (i:=k0) (u:=.int .i64 x) (Nf.yG hx);have hgd:out.getD k0 0=x:=by rw[List.getD_eq_getElem?_getD,hx];rfl
     rw[hgd] at uY Ag;have Mv:=aav.o x (List.mem_of_getElem? hx);have uX:=ap (fun W=>akg x r W Mv.1 Mv.2 jE.o.1 jE.o.2);have eM:(0:Int)≤k0∧(k0:Int)<m:=by omega
     unfold jW at uX;have Hx:=ap hx;clear hx hgd Mv
     cases hw:Nf.whole x r with
     | some v=>
      rw[hw] at uX;have Jv:=ap (Ag.o v rfl hw);clear hw;dsimp only at uX
      go_wp2_with fail
      refine (uX.o _).mono ?_;rintro e w2 ⟨rfl,af⟩;have aK:=ap (uq HO.o af);have ag:=ap (HB.o.trans (af.mono HB.o.size));obtain⟨y2,f2⟩:=ze aK.o (i:=k0) (u:=.int .i64 x) (Nf.yG Hx.o);dsimp only;have sJ:=ap (GD aK.o (i:=k0) (.int .i64 v));clear af;go_wp2
      go_roundg (L-(j+1))
      case measure=>have:=Hg.o;omega
      case rel=>
       refine⟨j+1,m,some ⟨g,0,none⟩,c',rfl,by omega,by first|rfl|go_num,rfl,by rw[Jv.o];simp[Hm.o],by rw[Jv.o],?_,ag.o.setCell (p:=⟨g,k0,none⟩) dG _⟩;rw[Jv.o];have:=sJ.o;rw[show (aq out).set k0 (.int .i64 v)=aq (out.set k0 v) by unfold aq;rw[List.map_set]] at this;exact this
     | none=>
      rw[hw] at uX;have sL:=ap (uY.o (.inr hw));clear hw;dsimp only at uX
      go_wp2_with fail
      refine (uX.o _).mono ?_;rintro e w2 ⟨rfl,af⟩;have aK:=ap (uq HO.o af);have ag:=ap (HB.o.trans (af.mono HB.o.size));have cJ:=ag.o.size;clear af;dsimp only
      by_cases hc0:cr=0
      ·have ec:(cr==0)=true:=by simpa using hc0
       have fA:=ap (show Nf.ij l (j+1)=(out++[r],(m:Int)) by rw[sL.o,if_pos hc0]);clear hc0
       go_wp2_with (at_builtin;go_loud (refine et w2 rfl (.tmp 65) (.tmp 67) 164 rfl w.heap.size (.int .i64 0) 1 8 Tryz.underlying164 fM rfl (by omega) _ m (aq out) rfl aK.o (cs:=[.int .i64 r]) rfl (by simp[Value.oneCell']) rfl (by unfold maxLen;omega) (by omega) cJ ?_);intro g8 dw w8 aP aG oJ cX oK;have cU:=ap aP;have dY:=ap (ag.o.grown aG ag.o.size (fun j' e=>(aD aK.o j' e).1));clear aP aG oJ cX oK)
       go_roundg (L-(j+1))
       case measure=>have:=Hg.o;omega
       case rel=>
        refine⟨j+1,m+1,some ⟨g8,0,none⟩,dw,rfl,by omega,by first|rfl|go_num,rfl,by rw[fA.o];exact xC.o,by rw[fA.o],?_,dY.o⟩;rw[fA.o,iA];exact cU.o
      have ec:(cr==0)=false:=by simpa using hc0
      have fA:=ap (show Nf.ij l (j+1)=(out++[r],(k0:Int)) by rw[sL.o,if_neg hc0]);clear hc0
      go_wp2_with (at_builtin;go_loud (refine et w2 rfl (.tmp 65) (.tmp 67) 164 rfl w.heap.size (.int .i64 0) 1 8 Tryz.underlying164 fM rfl (by omega) _ m (aq out) rfl aK.o (cs:=[.int .i64 r]) rfl (by simp[Value.oneCell']) rfl (by unfold maxLen;omega) (by omega) cJ ?_);intro g8 dw w8 aP aG oJ cX oK;have cU:=ap aP;have dY:=ap (ag.o.grown aG ag.o.size (fun j' e=>(aD aK.o j' e).1));clear aP aG oJ cX oK)
      go_roundg (L-(j+1))
      case measure=>have:=Hg.o;omega
      case rel=>
       refine⟨j+1,m+1,some ⟨g8,0,none⟩,dw,rfl,by omega,by first|rfl|go_num,rfl,by rw[fA.o];exact xC.o,by rw[fA.o],?_,dY.o⟩;rw[fA.o,iA];exact cU.o
  have yq:j=L:=by omega
  subst yq;have bg:=ho;rw[uM.o] at bg hm;have aK:=ap bg;have QK:=ap hm;clear ho bg hm;go_wp2;go_ret;exact⟨⟨A',c',by rw[QK.o];rfl,by rw[QK.o];exact aK.o⟩,HB.o⟩
end
section
namespace Nf
def Low(l:List Int):Prop:=∀r∈l,0≤r∧r<128
theorem YJ:∀x∈table,128≤x.2∧128≤x.1.2:=by decide +kernel
theorem adv:∀x∈ki,128≤x.1:=by decide +kernel
theorem ahD{r:Int}(h:r<128):made r=none:=by
 unfold made gA;rw[if_neg (by simp;omega),MP (fun x hx=>by have:=(YJ x hx).1;omega)];dsimp only;rw[MO (fun x hx=>by have:=adv x hx;omega)];rfl
theorem ai6{r:Int}(h:r<128):parts r=[r]:=by
 unfold parts apart;rw[ahD h];rfl
theorem Sn{r:Int}(h:r<128):cls r=0:=by
 unfold cls;rw[if_pos (by omega)]
theorem Ws{p:Int×Int}:∀{l:List ((Int×Int)×Int)},(∀x∈l,x.1≠p)→lookW p l=none
 | [],_=>rfl
 | x :: l,h=>by
  unfold lookW;rw[if_neg (h x (by simp)),Ws (fun y hy=>h y (by simp[hy]))]
theorem anB{a b:Int}(hb:b<128):whole a b=none:=by
 unfold whole;rw[if_neg (by omega),if_neg (by omega),Ws (fun x hx e=>by have:=(YJ x hx).2;rw[e] at this;dsimp only at this;omega)]
theorem RM:∀(l ctx:List Int),Low l→Bd 0 ctx l
 | [],_,_=>trivial
 | b :: l,ctx,h=>by
  have h0:=Sn (h b (by simp)).2;unfold Bd;rw[if_pos h0];exact⟨.inl h0,RM l [] (fun r hr=>h r (by simp[hr]))⟩
theorem alG{l:List Int}(h:Low l):sort l=l:=by
 unfold sort;exact NM _ _ (by omega) (RM l [] h)
theorem Sr:∀(l:List Int) (s:Cs),Low l→(l.foldl gN s).o=s.o++l
 | [],s,_=>by simp
 | r :: l,s,h=>by
  have hr:=(h r (by simp)).2;have e:gN s r=⟨s.o++[r],s.o.length,-1⟩:=xN (fun _=>anB hr) (Sn hr);rw[List.foldl_cons,Sr l _ (fun x hx=>h x (by simp[hx])),e];simp
theorem acU{l:List Int}(h:Low l):compose l=l:=by
 unfold compose;rw[Sr l _ h];rfl
theorem SE:∀{l:List Int},Low l→bU l=l
 | [],_=>rfl
 | r :: l,h=>by
  have:=SE (l:=l) (fun x hx=>h x (by simp[hx]));unfold bU at this ⊢;rw[List.flatMap_cons,this,ai6 (h r (by simp)).2];rfl
theorem adh{l:List Int}(h:Low l):dec l=l:=by
 unfold dec;rw[SE h,alG h]
def sx(s:List UInt8):Prop:=∀c∈s,c.toNat<128
def yZ(s:List UInt8):List Int:=s.map fun c=>(c.toNat:Int)
theorem MS{s:List UInt8}(h:sx s):Low (yZ s):=by
 intro r hr;obtain⟨c,hc,rfl⟩:=List.mem_map.1 hr;have:=h c hc;omega
theorem Xv:∀(s:List UInt8) (k at_:Nat),s.length≤k→sx s→(Utf.gi k at_ s).map (·.2)=yZ s
 | [],k,at_,_,_=>by cases k<;>rfl
 | c :: s,0,_,h,_=>by simp at h
 | c :: s,k+1,at_,h,ha=>by
  have e:=Utf.ajb (ha c (by simp)) s;unfold Utf.gi;rw[e];dsimp only;rw[List.map_cons];have:=Xv s k (at_+1) (by simpa using h) (fun x hx=>ha x (by simp[hx]));show _ :: (Utf.gi k (at_+1) s).map (·.2)=_;rw[this];rfl
theorem Y2{s:List UInt8}(h:sx s):bn s=yZ s:=Xv s _ 0 (Nat.le_refl _) h
theorem akm{s:List UInt8}(h:sx s):Right s:=by
 intro p hp;have hm:p.2∈bn s:=List.mem_map.2 ⟨p,hp,rfl⟩;rw[Y2 h] at hm;exact (MS h _ hm).1
theorem RZ:∀(s:List UInt8),sx s→bytesOf (yZ s)=s
 | [],_=>rfl
 | c :: s,h=>by
  have hc:=h c (by simp)
  have e:Utf.put (c.toNat:Int)=[(c.toNat:Int)]:=by
   unfold Utf.put;rw[if_pos (by omega)]
  have eb:bv (c.toNat:Int)=c:=by
   unfold bv;rw[Int.toNat_natCast];exact UInt8.ofNat_toNat
  have:=RZ s (fun x hx=>h x (by simp[hx]));unfold bytesOf yZ at this ⊢;rw[List.map_cons,List.flatMap_cons,this,e];simp[eb]
theorem amF{s:List UInt8}(h:sx s):jT (yZ s)=some s:=by
 unfold jT;rw[RZ s h,if_pos];rw[List.all_eq_true];intro r hr;have:=MS h r hr;unfold Utf.isScalar;simp;omega
theorem Zf{f:List Int→List Int}(hf:∀l,Low l→f l=l){s:List UInt8}(h:sx s):via f s=s:=by
 unfold via;rw[if_pos (akm h),Y2 h,hf _ (MS h),amF h];rfl
theorem ahX(s:List UInt8):oZ s=jG (gO s):=by
 unfold oZ;split
 ·rfl
 rename_i h
 have ha:sx s:=by
  intro c hc;simp only[List.any_eq_true,decide_eq_true_eq,not_exists,not_and] at h;have:=h c hc;omega
 have e1:gO s=s:=Zf (fun l hl=>adh hl) ha;rw[e1];exact (Zf (fun l hl=>acU hl) ha).symm
end Nf
end
section
open Go.RowKit Go.WideShapes

theorem SW:∀l:List (Nat×Int),Utf.dz l<0↔∀p∈l,0≤p.2
 | []=>by simp[Utf.dz]
 | p :: l=>by
  by_cases h:p.2<0
  ·rw[Utf.Kr l h]
   constructor
   ·intro h2;omega
   intro h2;have:=h2 p (List.mem_cons_self ..);omega
  rw[Utf.Ks l h,SW l]
  constructor
  ·intro h2 q hq
   rcases List.mem_cons.1 hq with rfl|hq
   ·omega
   exact h2 q hq
  exact fun h2 q hq=>h2 q (List.mem_cons_of_mem _ hq)
theorem XS(l:List UInt8):Utf.valid l=true↔Right l:=by
 rw[Utf.Zc,decide_eq_true_iff];exact SW _
theorem XN(s:ByteArray)(w:World)(hs:s.size≤1000000000):Calls Tryz.prog 98 #[.string s] w fun e w'=>Below w.heap.size w w'∧((Right s.data.toList∧∃A c,e=.returned (.tuple #[.slice A (bn s.data.toList).length c,.bool true])∧Reads w' w'.heap.size 1 A (bn s.data.toList).length (aq (bn s.data.toList)))∨(¬Right s.data.toList∧∃v,e=.returned (.tuple #[v,.bool false]))):=by
 by_cases hR:Right s.data.toList
 ·exact (akb s w hs ((XS _).2 hR)).mono (by rintro e w' ⟨A,c,he,hb,hr⟩;exact⟨hb,.inl ⟨hR,A,c,he,hr⟩⟩)
 have hv:Utf.valid s.data.toList=false:=by
  cases h:Utf.valid s.data.toList with
  | false=>rfl
  | true=>exact absurd ((XS _).1 h) hR
 refine (X4 s w hs).mono ?_;rintro e w' ⟨v,he,hb⟩;rw[hv] at he;exact⟨hb,.inr ⟨hR,v,he⟩⟩
theorem alF(l:List Int):(Nf.sort l).length=l.length:=Nf.NG _ _ (Nat.lt_succ_self _)
theorem ajT(s:ByteArray)(w:World)(hs:s.size≤250000) :
  Calls Tryz.prog 102 #[.string s] w fun e w'=>e=.returned (.string (aa (Nf.gO s.data.toList)))∧Below w.heap.size w w':=by
 have bt:=ap (XN s w (by omega));have hl:=zq s.data.toList;rw[bV] at hl
 by_cases hR:Right s.data.toList
 ·have HV:=ap (show Nf.gO s.data.toList=(Nf.jT (Nf.dec (bn s.data.toList))).getD [] by unfold Nf.gO Nf.via;rw[if_pos hR]);have ic:=ap (G4 hR);have HR:=ap hR;have aT:=Nf.xQ (bn s.data.toList);have qg:=alF (Nf.bU (bn s.data.toList));have HD:=ap (fun A c W h=>ajS (bn s.data.toList) A c W h ic.o (by omega));have od:=ap (fun A c W h=>akc (Nf.bU (bn s.data.toList)) A c W h (by omega));have HT:=ap (fun A c W h=>XP (Nf.sort (Nf.bU (bn s.data.toList))) A c W h (by omega));obtain⟨bb,gQ⟩:=GW (Nf.dec (bn s.data.toList));unfold Nf.dec at gQ;have uF:=ap gQ;clear hR hl aT qg gQ;rw[HV.o];unfold Nf.dec;unfold qY at HD od;generalize bn s.data.toList=l at *
  go_enter Tryz.func102,Tryz.ntmps102
  go_wp2_with fail
  refine bt.o.mono ?_;rintro e w1 ⟨ak,⟨_,A,c,rfl,hr⟩|⟨hn,_⟩⟩
  ·have ax:=ap ak;have gm:=ap hr;clear ak hr;dsimp only
   go_wp2_with fail
   refine (HD.o A c w1 gm.o).mono ?_;rintro e w2 ⟨⟨A2,c2,rfl,bg⟩,af⟩;have aK:=ap bg;have ag:=ap (ax.o.trans (af.mono ax.o.size));clear bg af;dsimp only
   go_wp2_with fail
   refine (od.o A2 c2 w2 (Reads.cY aK.o)).mono ?_;rintro e w3 ⟨⟨A3,c3,rfl,b7⟩,aA⟩;have cf:=ap b7;have aw:=ap (ag.o.trans (aA.mono ag.o.size));clear b7 aA;dsimp only
   go_wp2_with fail
   refine (HT.o A3 c3 w3 (Reads.cY cf.o)).mono ?_;rintro e w4 ⟨rfl,lH⟩;have bW:=ap (aw.o.trans (lH.mono aw.o.size));clear lH;rw[uF.o];dsimp only;go_wp2;go_ret;exact⟨rfl,bW.o⟩
  exact absurd HR.o hn
 have HV:=ap (show Nf.gO s.data.toList=s.data.toList by unfold Nf.gO Nf.via;rw[if_neg hR]);have HR:=ap hR;clear hR hl;rw[HV.o]
 go_enter Tryz.func102,Tryz.ntmps102
 go_wp2_with fail
 refine bt.o.mono ?_;rintro e w1 ⟨ak,⟨h1,_⟩|⟨_,v,rfl⟩⟩
 ·exact absurd h1 HR.o
 have ax:=ap ak;clear ak;dsimp only;go_wp2;go_ret;exact⟨rfl,ax.o⟩
theorem ajR(s:ByteArray)(w:World)(hs:s.size≤16000000) :
  Calls Tryz.prog 101 #[.string s] w fun e w'=>e=.returned (.string (aa (Nf.jG s.data.toList)))∧Below w.heap.size w w':=by
 have bt:=ap (XN s w (by omega));have hl:=zq s.data.toList;rw[bV] at hl
 by_cases hR:Right s.data.toList
 ·have HV:=ap (show Nf.jG s.data.toList=(Nf.jT (Nf.compose (bn s.data.toList))).getD [] by unfold Nf.jG Nf.via;rw[if_pos hR]);have ic:=ap (G4 hR);have HR:=ap hR;have aT:=Nf.J8 (bn s.data.toList);have HD:=ap (fun A c W h=>ajQ (bn s.data.toList) A c W h ic.o (by omega));have HT:=ap (fun A c W h=>XP (Nf.compose (bn s.data.toList)) A c W h (by omega));obtain⟨bb,gQ⟩:=GW (Nf.compose (bn s.data.toList));have uF:=ap gQ;clear hR hl aT gQ;rw[HV.o];unfold qY at HD;generalize bn s.data.toList=l at *
  go_enter Tryz.func101,Tryz.ntmps101
  go_wp2_with fail
  refine bt.o.mono ?_;rintro e w1 ⟨ak,⟨_,A,c,rfl,hr⟩|⟨hn,_⟩⟩
  ·have ax:=ap ak;have gm:=ap hr;clear ak hr;dsimp only
   go_wp2_with fail
   refine (HD.o A c w1 gm.o).mono ?_;rintro e w2 ⟨⟨A2,c2,rfl,bg⟩,af⟩;have aK:=ap bg;have ag:=ap (ax.o.trans (af.mono ax.o.size));clear bg af;dsimp only
   go_wp2_with fail
   refine (HT.o A2 c2 w2 (Reads.cY aK.o)).mono ?_;rintro e w4 ⟨rfl,lH⟩;have bW:=ap (ag.o.trans (lH.mono ag.o.size));clear lH;rw[uF.o];dsimp only;go_wp2;go_ret;exact⟨rfl,bW.o⟩
  exact absurd HR.o hn
 have HV:=ap (show Nf.jG s.data.toList=s.data.toList by unfold Nf.jG Nf.via;rw[if_neg hR]);have HR:=ap hR;clear hR hl;rw[HV.o]
 go_enter Tryz.func101,Tryz.ntmps101
 go_wp2_with fail
 refine bt.o.mono ?_;rintro e w1 ⟨ak,⟨h1,_⟩|⟨_,v,rfl⟩⟩
 ·exact absurd h1 HR.o
 have ax:=ap ak;clear ak;dsimp only;go_wp2;go_ret;exact⟨rfl,ax.o⟩
theorem aj1(s:ByteArray)(w:World)(hs:s.size≤250000) :
  Calls Tryz.prog 70 #[.string s] w fun e w'=>e=.returned (.string (aa (Nf.oZ s.data.toList)))∧Below w.heap.size w w':=by
 rw[Nf.ahX];have H1:=ap (ajT s w hs);have hl:=Nf.Kg s.data.toList;rw[bV] at hl;have H2:=ap (fun W=>ajR (aa (Nf.gO s.data.toList)) W (by rw[aO];omega));rw[aZ] at H2;clear hl hs
 go_enter Tryz.func70,Tryz.ntmps70
 go_wp2_with fail
 refine H1.o.mono ?_;rintro e w1 ⟨rfl,ak⟩;have ax:=ap ak;clear ak;dsimp only
 go_wp2_with fail
 refine (H2.o _).mono ?_;rintro e w2 ⟨rfl,af⟩;have ag:=ap (ax.o.trans (af.mono ax.o.size));clear af;dsimp only;go_wp2;go_ret;exact⟨rfl,ag.o⟩
end
section
open Go.RowKit Go.WideShapes

theorem ajZ(l:List UInt8)(w:World)(hs:l.length≤200000) :
  Calls Tryz.prog 45 #[.string (aa l)] w fun e w'=>e=.returned (.string (aa (Tx.line l)))∧Below w.heap.size w w':=by
 have H1:=ap (aj2 (aa l) w (by rw[aO];omega));rw[aZ] at H1;have nI:=Tx.y8 l;have H2:=ap (fun W=>aj1 (aa (Tx.one l)) W (by rw[aO];omega));rw[aZ] at H2;clear nI
 go_enter Tryz.func45,Tryz.ntmps45
 go_wp2_with fail
 refine H1.o.mono ?_;rintro e w1 ⟨rfl,hb⟩;have HB:=ap hb;clear hb;dsimp only
 go_wp2_with fail
 refine (H2.o w1).mono ?_;rintro e w2 ⟨rfl,hb⟩;have ag:=ap (HB.o.trans (hb.mono HB.o.size));clear hb;dsimp only;go_wp2;go_ret;exact⟨rfl,ag.o⟩
theorem ajP(l:List UInt8)(w:World)(hs:l.length≤200000) :
  Calls Tryz.prog 44 #[.string (aa l)] w fun e w'=>e=.returned (.bool (Tx.right l))∧Below w.heap.size w w':=by
 have H1:=ap (XQ (aa l) w (by rw[aO];omega));have H2:=ap (fun W=>ajN (aa l) W (by rw[aO];omega));rw[aZ] at H1 H2;unfold Tx.right
 cases hv:Utf.valid l with
 | false=>
  rw[hv] at H1;clear hv
  go_enter Tryz.func44,Tryz.ntmps44
  go_wp2_with fail
  refine H1.o.mono ?_;rintro e w1 ⟨rfl,hb⟩;have HB:=ap hb;clear hb;dsimp only;go_wp2;go_ret;exact⟨rfl,HB.o⟩
 | true=>
  rw[hv] at H1;clear hv;obtain⟨q,hq⟩:∃q,Tk.bad l=q:=⟨_,rfl⟩;rw[hq] at H2 ⊢;clear hq
  go_enter Tryz.func44,Tryz.ntmps44
  go_wp2_with fail
  refine H1.o.mono ?_;rintro e w1 ⟨rfl,hb⟩;have HB:=ap hb;clear hb;dsimp only
  go_wp2_with fail
  refine (H2.o w1).mono ?_;rintro e w2 ⟨rfl,hw2⟩;subst hw2;have ag:=HB;dsimp only;go_wp2;go_ret;exact⟨by rw[Bool.true_and];rfl,ag.o⟩
theorem XL(l:List UInt8)(w:World)(hs:l.length≤200000) :
  Calls Tryz.prog 26 #[.string (aa l)] w fun e w'=>e=.returned (.bool (Tx.jA l))∧Below w.heap.size w w':=by
 have H1:=ap (ajP l w hs);have H2:=ap (fun W=>ajZ l W hs);unfold Tx.jA
 cases hv:Tx.right l with
 | false=>
  rw[hv] at H1;clear hv
  go_enter Tryz.func26,Tryz.ntmps26
  go_wp2_with fail
  refine H1.o.mono ?_;rintro e w1 ⟨rfl,hb⟩;have HB:=ap hb;clear hb;dsimp only;go_wp2;go_ret;exact⟨rfl,HB.o⟩
 | true=>
  rw[hv] at H1;clear hv
  by_cases he:Tx.line l=l
  ·rw[decide_eq_true he];rw[he] at H2;clear he
   go_enter Tryz.func26,Tryz.ntmps26
   go_wp2_with fail
   refine H1.o.mono ?_;rintro e w1 ⟨rfl,hb⟩;have HB:=ap hb;clear hb;dsimp only
   go_wp2_with fail
   refine (H2.o w1).mono ?_;rintro e w2 ⟨rfl,hb⟩;have ag:=ap (HB.o.trans (hb.mono HB.o.size));clear hb;dsimp only;go_wp2;go_ret;exact⟨rfl,ag.o⟩
  rw[decide_eq_false he];have hne:=RS he;have hbq:=RR he;clear he;generalize Tx.line l=m at *
  go_enter Tryz.func26,Tryz.ntmps26
  go_wp2_with fail
  refine H1.o.mono ?_;rintro e w1 ⟨rfl,hb⟩;have HB:=ap hb;clear hb;dsimp only
  go_wp2_with fail
  refine (H2.o w1).mono ?_;rintro e w2 ⟨rfl,hb⟩;have ag:=ap (HB.o.trans (hb.mono HB.o.size));clear hb;dsimp only;go_wp2;go_ret;exact⟨rfl,ag.o⟩
end
end Go.Proofs.YtpdkeckeekchlaaGreatDoor
