/- NFC: the document's compose (ref12). (Printed by genTdS.py.) And more. -/
import Derived.Test.YtnbmfljhbpfilaaGreatDoorOw02
import Derived.Test.YtnbmfljhbpfilaaGreatDoorOw09
import Derived.Test.YtnbmfljhbpfilaaGreatDoorOw29
import Derived.Test.YtnbmfljhbpfilaaGreatDoorOw30
import Derived.Test.YtnbmfljhbpfilaaGreatDoorOw31
import Derived.Test.YtnbmfljhbpfilaaGreatDoorOw36
import Derived.Test.YtnbmfljhbpfilaaGreatDoorOw38
import Derived.Test.YtnbmfljhbpfilaaGreatDoorOw40
set_option linter.unusedSimpArgs false
set_option maxRecDepth 100000
set_option maxHeartbeats 16000000
set_option linter.unusedVariables false
namespace Go.Proofs.YtnbmfljhbpfilaaGreatDoor
section
open Go.RowKit Go.WideShapes

namespace Nf
def gR(l:List Int)(j:Nat):List Int×Int:=(l.take j).foldl o6 ([],-1)
theorem adi{l:List Int}{j:Nat}{r:Int}(h:l[j]?=some r):gR l (j+1)=o6 (gR l j) r:=by
 unfold gR;rw[List.take_add_one,h,List.foldl_append];rfl
theorem adh(l:List Int)(j:Nat):sg (dx l j) (gR l j):=by
 unfold dx gR;exact Mh _ _ _ ⟨rfl,rfl,by simp,by simp,fun h=>by simp at h,fun h=>by simp at h⟩
theorem adj{out:List Int}{st r:Int}(h:l9 out st (cls r)=true∨whole (out.getD st.toNat 0) r=none):o6 (out,st) r=(out++[r],if cls r=0 then (out.length:Int) else st):=by
 unfold o6;dsimp only
 rcases h with h|h
 ·rw[if_pos h]
 by_cases hb:l9 out st (cls r)=true
 ·rw[if_pos hb]
 rw[if_neg hb,h]
theorem adk{out:List Int}{st r v:Int}(hb:l9 out st (cls r)=false)(h:whole (out.getD st.toNat 0) r=some v):o6 (out,st) r=(out.set st.toNat v,st):=by
 unfold o6;dsimp only;rw[hb,if_neg (by simp),h]
def yJ(c x:Int):Bool:=decide (cls x=0)||decide (c≤cls x)
theorem ace(out:List Int)(k:Nat)(c:Int):l9 out (k:Int) c=(out.drop (k+1)).any (yJ c):=by
 unfold l9;have:decide ((k:Int)<0)=false:=decide_eq_false (by omega);rw[this,Bool.false_or];rfl
theorem acf{out:List Int}{st:Int}(h:st<0)(c:Int):l9 out st c=true:=by
 unfold l9;rw[decide_eq_true h,Bool.true_or]
end Nf
theorem ajo(l:List Int)(A:Option Addr)(c:Nat)(w:World)(hr:Reads w w.heap.size 1 A l.length (ar l))(bF:∀x∈l,Nf.Ok x)(hs:l.length≤20000000) :
  Calls Tryz.prog 110 #[.slice A l.length c] w (qp w (Nf.compose l)):=by
 rw[←Nf.acS];have tZ:=hide (show (Nf.gR l l.length).1=Nf.DI l by unfold Nf.gR Nf.DI;rw[List.take_length]);obtain⟨L,hL⟩:∃L,l.length=L:=⟨_,rfl⟩;have HL:=hide hL;rw[hL] at hr hs tZ;rw[hL];have HR:=hide hr;have fO:=hide bF;have GI:=hide (Nf.JB bF);have ZR:=hide (Nf.adh l);have tX:=hide (fun r W=>Xi r W);clear hL hr bF;obtain⟨D,hD⟩:∃D,Nf.DI l=D:=⟨_,rfl⟩;rw[hD] at tZ ⊢;clear hD
 go_enter Tryz.func110,Tryz.ntmps110
 go_wp2
 go_loopg [3,4,5,6,7,8,9,10,11,12] L (fun gk v3 v4 v5 v6 v7 v8 v9 v10 v11 v12 wr=>∃(j m:Nat) (A':Option Addr) (c':Nat),gk=L-j∧j≤L∧v5=.int .i64 (j:Int)∧v3=.slice A' m c'∧(Nf.gR l j).1.length=m∧v4=.int .i64 (Nf.gR l j).2∧
  wr.ownsRow w.heap.size 3 1 (.slice A' m c') m (ar (Nf.gR l j).1)∧Below w.heap.size w wr)
 case atStart=>exact⟨0,0,none,0,rfl,by omega,rfl,rfl,rfl,rfl,World.ownsRow_nil _ _ _ _,Below.refl _ _⟩
 case round=>
  obtain⟨j,m,A',c',au,hj,rfl,rfl,hm,rfl,ho,hb⟩:=hrel;have Hg:=hide au;have HB:=hide hb;have aK:w.heap.size≤wr.heap.size:=hb.size;clear au hb
  by_cases hlt:j<L
  ·obtain⟨r,gX⟩:∃r,l[j]?=some r:=⟨_,List.getElem?_eq_getElem (by rw[HL.out];exact hlt)⟩;obtain⟨gb,off,rfl,dA,hcell⟩:=HR.out.2 (by omega);have y0:wr.cell? ⟨gb,off+j,none⟩=some (.int .i64 r):=(HB.out.cell dA).trans (hcell j _ (by unfold ar;rw[List.getElem?_map,gX];rfl));have bB:=Nf.adi gX;have hlk:=ZR.out j;obtain⟨hcs,jD⟩:=GI.out j;have jx:=hide (fO.out r (List.mem_of_getElem? gX));obtain⟨⟨out,st⟩,hs0⟩:∃s,Nf.gR l j=s:=⟨_,rfl⟩;rw[hs0] at hm ho hlk bB ⊢;dsimp only at hm ho hlk ⊢;have UW : -1≤st:=by have:=hcs.eK;rw[hlk.st] at this;exact this
   have afZ:st<(m:Int):=by have:=hcs.pL;rw[hlk.st,hlk.out,hm] at this;exact this
   have hmj:m≤j:=by rw[hlk.out,hm] at jD;exact jD
   have aaa:=hide (show ∀x∈out,Nf.Ok x by have:=hcs.ok;rw[hlk.out] at this;exact this);have HO:=hide ho;have Hm:=hide hm;have iT:=hide (Nf.nP r);have uu:=hide (show (Nf.l9 out st (Nf.cls r)=true∨Nf.whole (out.getD st.toNat 0) r=none)→Nf.gR l (j+1)=(out++[r],if Nf.cls r=0 then (m:Int) else st) from fun h=>by rw[bB,Nf.adj h,hm]);have zF:=hide (show ∀v,Nf.l9 out st (Nf.cls r)=false→Nf.whole (out.getD st.toNat 0) r=some v→Nf.gR l (j+1)=(out.set st.toNat v,st) from fun v hb h=>by rw[bB,Nf.adk hb h]);obtain⟨cr,jf⟩:∃cr,Nf.cls r=cr:=⟨_,rfl⟩;have dT:=hide (fun W=>tX.out r W);rw[jf] at dT uu zF iT;have aeY:=iT.out.1;have zA:IntKind.i64.wrap ((m:Int)+1-1)=(m:Int):=by rw[IntWalk.i64_in _ (by omega)];omega
   have zB:IntKind.i64.wrap (((m+1:Nat):Int)-1)=(m:Int):=by rw[IntWalk.i64_in _ (by omega)];omega
   have EJ:(out++[r]).length=m+1:=by rw[List.length_append,hm];rfl
   have wS:=hide EJ;clear hcell gX hs0 hcs ho hm jf jD hlk bB EJ
   by_cases dX:st<0
   ·have dn:decide (st<0)=true:=decide_eq_true dX;have dn2:decide (0≤st)=false:=decide_eq_false (by omega);have rZ:=hide (uu.out (.inl (Nf.acf dX cr)));clear dX
    go_wp2_with fail
    go_wp2_with fail
    refine cq (dT.out _) ?_
    by_cases hc0:cr=0
    ·have ec:(cr==0)=true:=by simpa using hc0
     have fg:=hide (show Nf.gR l (j+1)=(out++[r],(m:Int)) by rw[rZ.out,if_pos hc0]);clear hc0
     go_wp2_with (at_builtin;go_loud (refine fG wr rfl (.tmp 65) (.tmp 67) 124 rfl w.heap.size (.int .i64 0) 1 8 Tryz.underlying124 fD rfl (by omega) _ m (ar out) rfl HO.out (cs:=[.int .i64 r]) rfl (by simp[Value.oneCell']) rfl (by unfold maxLen;omega) (by omega) aK ?_);intro g8 dw w8 aM aF nZ dc n6;have cX:=hide aM;have iP:=hide (HB.out.grown aF HB.out.size (fun j' e=>(aG HO.out j' e).1));clear aM aF nZ dc n6)
     go_roundg (L-(j+1))
     case measure=>have:=Hg.out;omega
     case rel=>
      refine⟨j+1,m+1,some ⟨g8,0,none⟩,dw,rfl,by omega,by first|rfl|go_num,rfl,by rw[fg.out];exact wS.out,by rw[fg.out],?_,iP.out⟩;rw[fg.out,ic];exact cX.out
    have ec:(cr==0)=false:=by simpa using hc0
    have fg:=hide (show Nf.gR l (j+1)=(out++[r],st) by rw[rZ.out,if_neg hc0]);clear hc0
    go_wp2_with (at_builtin;go_loud (refine fG wr rfl (.tmp 65) (.tmp 67) 124 rfl w.heap.size (.int .i64 0) 1 8 Tryz.underlying124 fD rfl (by omega) _ m (ar out) rfl HO.out (cs:=[.int .i64 r]) rfl (by simp[Value.oneCell']) rfl (by unfold maxLen;omega) (by omega) aK ?_);intro g8 dw w8 aM aF nZ dc n6;have cX:=hide aM;have iP:=hide (HB.out.grown aF HB.out.size (fun j' e=>(aG HO.out j' e).1));clear aM aF nZ dc n6)
    go_roundg (L-(j+1))
    case measure=>have:=Hg.out;omega
    case rel=>
     refine⟨j+1,m+1,some ⟨g8,0,none⟩,dw,rfl,by omega,by first|rfl|go_num,rfl,by rw[fg.out];exact wS.out,by rw[fg.out],?_,iP.out⟩;rw[fg.out,ic];exact cX.out
   obtain⟨k0,iF⟩:∃k0:Nat,st=(k0:Int):=⟨st.toNat,by omega⟩;subst iF;have afm:k0<m:=by omega
   obtain⟨g,rfl,dH,Uh⟩:=WD HO.out (by omega);have Qb:=hide (Nf.ace out k0 cr);obtain⟨wk,x7⟩:∃t,Nf.l9 out (k0:Int) cr=t:=⟨_,rfl⟩;rw[x7] at Qb uu zF;rw[Int.toNat_natCast] at uu zF;have dn:decide ((k0:Int)<0)=false:=decide_eq_false (by omega);have dn2:decide (0≤(k0:Int))=true:=decide_eq_true (by omega);have zk:IntKind.i64.wrap ((k0:Int)+1)=((k0+1:Nat):Int):=by rw[IntWalk.i64_in _ (by omega)];omega
   clear x7 dX
   go_wp2_with fail
   go_wp2_with fail
   refine cq (dT.out _) ?_
   go_wp2
   rename World=>wo
   go_loopg [8,9,10] (m-(k0+1)) (fun gq v8 v9 v10 wr=>∃(k:Nat) (B:Bool),gq=m-k∧k≤m∧v9=.int .i64 (k:Int)∧v8=.bool B∧(B||(out.drop k).any (Nf.yJ cr))=wk∧wr=wo)
   case atStart=>exact⟨k0+1,false,rfl,by omega,by first|rfl|go_num,rfl,by rw[Bool.false_or];exact Qb.out.symm,rfl⟩
   case round=>
    obtain⟨k,B,sT,hk,rfl,rfl,hB,Vc⟩:=hrel;subst Vc;have l4:=hide sT;have oO:=hide hB;clear sT hB
    by_cases EI:k<m
    ·obtain⟨x,hx⟩:∃x,out[k]?=some x:=⟨_,List.getElem?_eq_getElem (by rw[Hm.out];exact EI)⟩;have hd:=Nf.JY hx;obtain⟨y1,f1⟩:=yC HO.out (i:=k) (u:=.int .i64 x) (Nf.yd hx);have CE:=hide (show (B||(Nf.yJ cr x||(out.drop (k+1)).any (Nf.yJ cr)))=wk by have:=oO.out;rw[hd,List.any_cons] at this;exact this);have jh:(0:Int)≤k∧(k:Int)<m:=by omega
     have OV:=hide (fun W=>tX.out x W);unfold Nf.yJ at CE;obtain⟨kx,Un⟩:∃q,Nf.cls x=q:=⟨_,rfl⟩;rw[Un] at OV CE;clear hx hd Un
     go_wp2_with fail
     go_wp2_with fail
     refine cq (OV.out _) ?_
     by_cases mo:kx=0
     ·have e1:(kx==0)=true:=by simpa using mo
      have h1:=CE.out;rw[decide_eq_true mo,Bool.true_or,Bool.true_or,Bool.or_true] at h1;subst h1;clear mo;go_wp2
      go_roundg (m-(k+1))
      case measure=>have:=l4.out;omega
      case rel=>exact⟨k+1,true,rfl,by omega,by first|rfl|go_num,rfl,by rw[Bool.true_or],rfl⟩
     have e1:(kx==0)=false:=by simpa using mo
     have h1:=CE.out;rw[decide_eq_false mo,Bool.false_or] at h1;clear mo
     by_cases q7:cr≤kx
     ·have e2:decide (cr≤kx)=true:=decide_eq_true q7;rw[e2,Bool.true_or,Bool.or_true] at h1;subst h1;clear q7;go_wp2
      go_roundg (m-(k+1))
      case measure=>have:=l4.out;omega
      case rel=>exact⟨k+1,true,rfl,by omega,by first|rfl|go_num,rfl,by rw[Bool.true_or],rfl⟩
     have e2:decide (cr≤kx)=false:=decide_eq_false q7;have h2:=hide (show (B||(out.drop (k+1)).any (Nf.yJ cr))=wk by rw[decide_eq_false q7,Bool.false_or] at h1;exact h1);clear q7 h1;go_wp2
     go_roundg (m-(k+1))
     case measure=>have:=l4.out;omega
     case rel=>exact⟨k+1,B,rfl,by omega,by first|rfl|go_num,rfl,h2.out,rfl⟩
    have hBt:B=wk:=by
     have:=oO.out;rw[List.drop_of_length_le (by rw[Hm.out];omega),List.any_nil,Bool.or_false] at this;exact this
    subst hBt
    cases B with
    | true=>
     have rZ:=hide (uu.out (.inl rfl))
     by_cases hc0:cr=0
     ·have ec:(cr==0)=true:=by simpa using hc0
      have fg:=hide (show Nf.gR l (j+1)=(out++[r],(m:Int)) by rw[rZ.out,if_pos hc0]);clear hc0
      go_wp2_with (at_builtin;go_loud (refine fG wr rfl (.tmp 65) (.tmp 67) 124 rfl w.heap.size (.int .i64 0) 1 8 Tryz.underlying124 fD rfl (by omega) _ m (ar out) rfl HO.out (cs:=[.int .i64 r]) rfl (by simp[Value.oneCell']) rfl (by unfold maxLen;omega) (by omega) aK ?_);intro g8 dw w8 aM aF nZ dc n6;have cX:=hide aM;have iP:=hide (HB.out.grown aF HB.out.size (fun j' e=>(aG HO.out j' e).1));clear aM aF nZ dc n6)
      go_roundg (L-(j+1))
      case measure=>have:=Hg.out;omega
      case rel=>
       refine⟨j+1,m+1,some ⟨g8,0,none⟩,dw,rfl,by omega,by first|rfl|go_num,rfl,by rw[fg.out];exact wS.out,by rw[fg.out],?_,iP.out⟩;rw[fg.out,ic];exact cX.out
     have ec:(cr==0)=false:=by simpa using hc0
     have fg:=hide (show Nf.gR l (j+1)=(out++[r],(k0:Int)) by rw[rZ.out,if_neg hc0]);clear hc0
     go_wp2_with (at_builtin;go_loud (refine fG wr rfl (.tmp 65) (.tmp 67) 124 rfl w.heap.size (.int .i64 0) 1 8 Tryz.underlying124 fD rfl (by omega) _ m (ar out) rfl HO.out (cs:=[.int .i64 r]) rfl (by simp[Value.oneCell']) rfl (by unfold maxLen;omega) (by omega) aK ?_);intro g8 dw w8 aM aF nZ dc n6;have cX:=hide aM;have iP:=hide (HB.out.grown aF HB.out.size (fun j' e=>(aG HO.out j' e).1));clear aM aF nZ dc n6)
     go_roundg (L-(j+1))
     case measure=>have:=Hg.out;omega
     case rel=>
      refine⟨j+1,m+1,some ⟨g8,0,none⟩,dw,rfl,by omega,by first|rfl|go_num,rfl,by rw[fg.out];exact wS.out,by rw[fg.out],?_,iP.out⟩;rw[fg.out,ic];exact cX.out
    | false=>
     obtain⟨x,hx⟩:∃x,out[k0]?=some x:=⟨_,List.getElem?_eq_getElem (by rw[Hm.out];exact afm)⟩;obtain⟨y1,f1⟩:=yC HO.out (i:=k0) (u:=.int .i64 x) (Nf.yd hx);have hgd:out.getD k0 0=x:=by rw[List.getD_eq_getElem?_getD,hx];rfl
     rw[hgd] at uu zF;have LR:=aaa.out x (List.mem_of_getElem? hx);have ur:=hide (fun W=>ajO x r W LR.1 LR.2 jx.out.1 jx.out.2);have jh:(0:Int)≤k0∧(k0:Int)<m:=by omega
     unfold jO at ur;have Hx:=hide hx;clear hx hgd LR
     cases hw:Nf.whole x r with
     | some v=>
      rw[hw] at ur;have ID:=hide (zF.out v rfl hw);clear hw;dsimp only at ur
      go_wp2_with fail
      refine (ur.out _).mono ?_;rintro e w2 ⟨rfl,af⟩;have aJ:=hide (yE HO.out af);have ah:=hide (HB.out.trans (af.mono HB.out.size));obtain⟨y2,f2⟩:=yC aJ.out (i:=k0) (u:=.int .i64 x) (Nf.yd Hx.out);dsimp only;have rW:=hide (FL aJ.out (i:=k0) (.int .i64 v));clear af;go_wp2
      go_roundg (L-(j+1))
      case measure=>have:=Hg.out;omega
      case rel=>
       refine⟨j+1,m,some ⟨g,0,none⟩,c',rfl,by omega,by first|rfl|go_num,rfl,by rw[ID.out];simp[Hm.out],by rw[ID.out],?_,ah.out.setCell (p:=⟨g,k0,none⟩) dH _⟩;rw[ID.out];have:=rW.out;rw[show (ar out).set k0 (.int .i64 v)=ar (out.set k0 v) by unfold ar;rw[List.map_set]] at this;exact this
     | none=>
      rw[hw] at ur;have rZ:=hide (uu.out (.inr hw));clear hw;dsimp only at ur
      go_wp2_with fail
      refine (ur.out _).mono ?_;rintro e w2 ⟨rfl,af⟩;have aJ:=hide (yE HO.out af);have ah:=hide (HB.out.trans (af.mono HB.out.size));have cC:=ah.out.size;clear af;dsimp only
      by_cases hc0:cr=0
      ·have ec:(cr==0)=true:=by simpa using hc0
       have fg:=hide (show Nf.gR l (j+1)=(out++[r],(m:Int)) by rw[rZ.out,if_pos hc0]);clear hc0
       go_wp2_with (at_builtin;go_loud (refine fG w2 rfl (.tmp 65) (.tmp 67) 124 rfl w.heap.size (.int .i64 0) 1 8 Tryz.underlying124 fD rfl (by omega) _ m (ar out) rfl aJ.out (cs:=[.int .i64 r]) rfl (by simp[Value.oneCell']) rfl (by unfold maxLen;omega) (by omega) cC ?_);intro g8 dw w8 aM aF nZ dc n6;have cX:=hide aM;have iP:=hide (ah.out.grown aF ah.out.size (fun j' e=>(aG aJ.out j' e).1));clear aM aF nZ dc n6)
       go_roundg (L-(j+1))
       case measure=>have:=Hg.out;omega
       case rel=>
        refine⟨j+1,m+1,some ⟨g8,0,none⟩,dw,rfl,by omega,by first|rfl|go_num,rfl,by rw[fg.out];exact wS.out,by rw[fg.out],?_,iP.out⟩;rw[fg.out,ic];exact cX.out
      have ec:(cr==0)=false:=by simpa using hc0
      have fg:=hide (show Nf.gR l (j+1)=(out++[r],(k0:Int)) by rw[rZ.out,if_neg hc0]);clear hc0
      go_wp2_with (at_builtin;go_loud (refine fG w2 rfl (.tmp 65) (.tmp 67) 124 rfl w.heap.size (.int .i64 0) 1 8 Tryz.underlying124 fD rfl (by omega) _ m (ar out) rfl aJ.out (cs:=[.int .i64 r]) rfl (by simp[Value.oneCell']) rfl (by unfold maxLen;omega) (by omega) cC ?_);intro g8 dw w8 aM aF nZ dc n6;have cX:=hide aM;have iP:=hide (ah.out.grown aF ah.out.size (fun j' e=>(aG aJ.out j' e).1));clear aM aF nZ dc n6)
      go_roundg (L-(j+1))
      case measure=>have:=Hg.out;omega
      case rel=>
       refine⟨j+1,m+1,some ⟨g8,0,none⟩,dw,rfl,by omega,by first|rfl|go_num,rfl,by rw[fg.out];exact wS.out,by rw[fg.out],?_,iP.out⟩;rw[fg.out,ic];exact cX.out
  have xP:j=L:=by omega
  subst xP;have bE:=ho;rw[tZ.out] at bE hm;have aJ:=hide bE;have Qn:=hide hm;clear ho bE hm;go_wp2;go_ret;exact⟨⟨A',c',by rw[Qn.out];rfl,by rw[Qn.out];exact aJ.out⟩,HB.out⟩
end
section
namespace Nf
def Low(l:List Int):Prop:=∀r∈l,0≤r∧r<128
theorem Yg:∀x∈table,128≤x.2∧128≤x.1.2:=by decide +kernel
theorem ade:∀x∈j2,128≤x.1:=by decide +kernel
theorem ahd{r:Int}(h:r<128):made r=none:=by
 unfold made fX;rw[if_neg (by simp;omega),Mj (fun x hx=>by have:=(Yg x hx).1;omega)];dsimp only;rw[Mi (fun x hx=>by have:=ade x hx;omega)];rfl
theorem aiH{r:Int}(h:r<128):parts r=[r]:=by
 unfold parts apart;rw[ahd h];rfl
theorem RH{r:Int}(h:r<128):cls r=0:=by
 unfold cls;rw[if_pos (by omega)]
theorem VR{p:Int×Int}:∀{l:List ((Int×Int)×Int)},(∀x∈l,x.1≠p)→lookW p l=none
 | [],_=>rfl
 | x :: l,h=>by
  unfold lookW;rw[if_neg (h x (by simp)),VR (fun y hy=>h y (by simp[hy]))]
theorem amX{a b:Int}(hb:b<128):whole a b=none:=by
 unfold whole;rw[if_neg (by omega),if_neg (by omega),VR (fun x hx e=>by have:=(Yg x hx).2;rw[e] at this;dsimp only at this;omega)]
theorem Rb:∀(l ctx:List Int),Low l→Bd 0 ctx l
 | [],_,_=>trivial
 | b :: l,ctx,h=>by
  have h0:=RH (h b (by simp)).2;unfold Bd;rw[if_pos h0];exact⟨.inl h0,Rb l [] (fun r hr=>h r (by simp[hr]))⟩
theorem akZ{l:List Int}(h:Low l):sort l=l:=by
 unfold sort;exact Ni _ _ (by omega) (Rb l [] h)
theorem RJ:∀(l:List Int) (s:Cs),Low l→(l.foldl gA s).out=s.out++l
 | [],s,_=>by simp
 | r :: l,s,h=>by
  have hr:=(h r (by simp)).2;have e:gA s r=⟨s.out++[r],s.out.length,-1⟩:=xn (fun _=>amX hr) (RH hr);rw[List.foldl_cons,RJ l _ (fun x hx=>h x (by simp[hx])),e];simp
theorem acA{l:List Int}(h:Low l):compose l=l:=by
 unfold compose;rw[RJ l _ h];rfl
theorem RY:∀{l:List Int},Low l→bT l=l
 | [],_=>rfl
 | r :: l,h=>by
  have:=RY (l:=l) (fun x hx=>h x (by simp[hx]));unfold bT at this ⊢;rw[List.flatMap_cons,this,aiH (h r (by simp)).2];rfl
theorem acU{l:List Int}(h:Low l):dec l=l:=by
 unfold dec;rw[RY h,akZ h]
def rN(s:List UInt8):Prop:=∀c∈s,c.toNat<128
def yw(s:List UInt8):List Int:=s.map fun c=>(c.toNat:Int)
theorem Mm{s:List UInt8}(h:rN s):Low (yw s):=by
 intro r hr;obtain⟨c,hc,rfl⟩:=List.mem_map.1 hr;have:=h c hc;omega
theorem WX:∀(s:List UInt8) (k at_:Nat),s.length≤k→rN s→(Utf.fN k at_ s).map (·.2)=yw s
 | [],k,at_,_,_=>by cases k<;>rfl
 | c :: s,0,_,h,_=>by simp at h
 | c :: s,k+1,at_,h,ha=>by
  have e:=Utf.MG (ha c (by simp)) s;unfold Utf.fN;rw[e];dsimp only;rw[List.map_cons];have:=WX s k (at_+1) (by simpa using h) (fun x hx=>ha x (by simp[hx]));show _ :: (Utf.fN k (at_+1) s).map (·.2)=_;rw[this];rfl
theorem Yx{s:List UInt8}(h:rN s):bc s=yw s:=WX s _ 0 (Nat.le_refl _) h
theorem ajS{s:List UInt8}(h:rN s):Right s:=by
 intro p hp;have hm:p.2∈bc s:=List.mem_map.2 ⟨p,hp,rfl⟩;rw[Yx h] at hm;exact (Mm h _ hm).1
theorem Rp:∀(s:List UInt8),rN s→bytesOf (yw s)=s
 | [],_=>rfl
 | c :: s,h=>by
  have hc:=h c (by simp)
  have e:Utf.put (c.toNat:Int)=[(c.toNat:Int)]:=by
   unfold Utf.put;rw[if_pos (by omega)]
  have eb:bv (c.toNat:Int)=c:=by
   unfold bv;rw[Int.toNat_natCast];exact UInt8.ofNat_toNat
  have:=Rp s (fun x hx=>h x (by simp[hx]));unfold bytesOf yw at this ⊢;rw[List.map_cons,List.flatMap_cons,this,e];simp[eb]
theorem al1{s:List UInt8}(h:rN s):jM (yw s)=some s:=by
 unfold jM;rw[Rp s h,if_pos];rw[List.all_eq_true];intro r hr;have:=Mm h r hr;unfold Utf.isScalar;simp;omega
theorem YK{f:List Int→List Int}(hf:∀l,Low l→f l=l){s:List UInt8}(h:rN s):via f s=s:=by
 unfold via;rw[if_pos (ajS h),Yx h,hf _ (Mm h),al1 h];rfl
theorem ahz(s:List UInt8):oz s=jB (gB s):=by
 unfold oz;split
 ·rfl
 rename_i h
 have ha:rN s:=by
  intro c hc;simp only[List.any_eq_true,decide_eq_true_eq,not_exists,not_and] at h;have:=h c hc;omega
 have e1:gB s=s:=YK (fun l hl=>acU hl) ha;rw[e1];exact (YK (fun l hl=>acA hl) ha).symm
end Nf
end
section
open Go.RowKit Go.WideShapes

theorem Su:∀l:List (Nat×Int),Utf.dy l<0↔∀p∈l,0≤p.2
 | []=>by simp[Utf.dy]
 | p :: l=>by
  by_cases h:p.2<0
  ·rw[Utf.JP l h]
   constructor
   ·intro h2;omega
   intro h2;have:=h2 p (List.mem_cons_self ..);omega
  rw[Utf.DZ l h,Su l]
  constructor
  ·intro h2 q hq
   rcases List.mem_cons.1 hq with rfl|hq
   ·omega
   exact h2 q hq
  exact fun h2 q hq=>h2 q (List.mem_cons_of_mem _ hq)
theorem Xp(l:List UInt8):Utf.valid l=true↔Right l:=by
 rw[Utf.NV,decide_eq_true_iff];exact Su _
theorem Xm(s:ByteArray)(w:World)(hs:s.size≤1000000000):Calls Tryz.prog 72 #[.string s] w fun e w'=>Below w.heap.size w w'∧((Right s.data.toList∧∃A c,e=.returned (.tuple #[.slice A (bc s.data.toList).length c,.bool true])∧Reads w' w'.heap.size 1 A (bc s.data.toList).length (ar (bc s.data.toList)))∨(¬Right s.data.toList∧∃v,e=.returned (.tuple #[v,.bool false]))):=by
 by_cases hR:Right s.data.toList
 ·exact (ajJ s w hs ((Xp _).2 hR)).mono (by rintro e w' ⟨A,c,he,hb,hr⟩;exact⟨hb,.inl ⟨hR,A,c,he,hr⟩⟩)
 have hv:Utf.valid s.data.toList=false:=by
  cases h:Utf.valid s.data.toList with
  | false=>rfl
  | true=>exact absurd ((Xp _).1 h) hR
 refine (XB s w hs).mono ?_;rintro e w' ⟨v,he,hb⟩;rw[hv] at he;exact⟨hb,.inr ⟨hR,v,he⟩⟩
theorem akY(l:List Int):(Nf.sort l).length=l.length:=Nf.MW _ _ (Nat.lt_succ_self _)
theorem ajr(s:ByteArray)(w:World)(hs:s.size≤250000) :
  Calls Tryz.prog 76 #[.string s] w fun e w'=>e=.returned (.string (aa (Nf.gB s.data.toList)))∧Below w.heap.size w w':=by
 have br:=hide (Xm s w (by omega));have hl:=yK s.data.toList;rw[bL] at hl
 by_cases hR:Right s.data.toList
 ·have HV:=hide (show Nf.gB s.data.toList=(Nf.jM (Nf.dec (bc s.data.toList))).getD [] by unfold Nf.gB Nf.via;rw[if_pos hR]);have fO:=hide (Gg hR);have HR:=hide hR;have aQ:=Nf.xq (bc s.data.toList);have pE:=akY (Nf.bT (bc s.data.toList));have HD:=hide (fun A c W h=>ajq (bc s.data.toList) A c W h fO.out (by omega));have pX:=hide (fun A c W h=>ajK (Nf.bT (bc s.data.toList)) A c W h (by omega));have HT:=hide (fun A c W h=>Xo (Nf.sort (Nf.bT (bc s.data.toList))) A c W h (by omega));obtain⟨bb,jb⟩:=F9 (Nf.dec (bc s.data.toList));unfold Nf.dec at jb;have tT:=hide jb;clear hR hl aQ pE jb;rw[HV.out];unfold Nf.dec;unfold qp at HD pX;generalize bc s.data.toList=l at *
  go_enter Tryz.func76,Tryz.ntmps76
  go_wp2_with fail
  refine br.out.mono ?_;rintro e w1 ⟨aq,⟨_,A,c,rfl,hr⟩|⟨hn,_⟩⟩
  ·have ay:=hide aq;have fP:=hide hr;clear aq hr;dsimp only
   go_wp2_with fail
   refine (HD.out A c w1 fP.out).mono ?_;rintro e w2 ⟨⟨A2,c2,rfl,bE⟩,af⟩;have aJ:=hide bE;have ah:=hide (ay.out.trans (af.mono ay.out.size));clear bE af;dsimp only
   go_wp2_with fail
   refine (pX.out A2 c2 w2 (Reads.eH aJ.out)).mono ?_;rintro e w3 ⟨⟨A3,c3,rfl,bW⟩,aB⟩;have bZ:=hide bW;have aw:=hide (ah.out.trans (aB.mono ah.out.size));clear bW aB;dsimp only
   go_wp2_with fail
   refine (HT.out A3 c3 w3 (Reads.eH bZ.out)).mono ?_;rintro e w4 ⟨rfl,lq⟩;have cG:=hide (aw.out.trans (lq.mono aw.out.size));clear lq;rw[tT.out];dsimp only;go_wp2;go_ret;exact⟨rfl,cG.out⟩
  exact absurd HR.out hn
 have HV:=hide (show Nf.gB s.data.toList=s.data.toList by unfold Nf.gB Nf.via;rw[if_neg hR]);have HR:=hide hR;clear hR hl;rw[HV.out]
 go_enter Tryz.func76,Tryz.ntmps76
 go_wp2_with fail
 refine br.out.mono ?_;rintro e w1 ⟨aq,⟨h1,_⟩|⟨_,v,rfl⟩⟩
 ·exact absurd h1 HR.out
 have ay:=hide aq;clear aq;dsimp only;go_wp2;go_ret;exact⟨rfl,ay.out⟩
theorem ajp(s:ByteArray)(w:World)(hs:s.size≤16000000) :
  Calls Tryz.prog 75 #[.string s] w fun e w'=>e=.returned (.string (aa (Nf.jB s.data.toList)))∧Below w.heap.size w w':=by
 have br:=hide (Xm s w (by omega));have hl:=yK s.data.toList;rw[bL] at hl
 by_cases hR:Right s.data.toList
 ·have HV:=hide (show Nf.jB s.data.toList=(Nf.jM (Nf.compose (bc s.data.toList))).getD [] by unfold Nf.jB Nf.via;rw[if_pos hR]);have fO:=hide (Gg hR);have HR:=hide hR;have aQ:=Nf.Jz (bc s.data.toList);have HD:=hide (fun A c W h=>ajo (bc s.data.toList) A c W h fO.out (by omega));have HT:=hide (fun A c W h=>Xo (Nf.compose (bc s.data.toList)) A c W h (by omega));obtain⟨bb,jb⟩:=F9 (Nf.compose (bc s.data.toList));have tT:=hide jb;clear hR hl aQ jb;rw[HV.out];unfold qp at HD;generalize bc s.data.toList=l at *
  go_enter Tryz.func75,Tryz.ntmps75
  go_wp2_with fail
  refine br.out.mono ?_;rintro e w1 ⟨aq,⟨_,A,c,rfl,hr⟩|⟨hn,_⟩⟩
  ·have ay:=hide aq;have fP:=hide hr;clear aq hr;dsimp only
   go_wp2_with fail
   refine (HD.out A c w1 fP.out).mono ?_;rintro e w2 ⟨⟨A2,c2,rfl,bE⟩,af⟩;have aJ:=hide bE;have ah:=hide (ay.out.trans (af.mono ay.out.size));clear bE af;dsimp only
   go_wp2_with fail
   refine (HT.out A2 c2 w2 (Reads.eH aJ.out)).mono ?_;rintro e w4 ⟨rfl,lq⟩;have cG:=hide (ah.out.trans (lq.mono ah.out.size));clear lq;rw[tT.out];dsimp only;go_wp2;go_ret;exact⟨rfl,cG.out⟩
  exact absurd HR.out hn
 have HV:=hide (show Nf.jB s.data.toList=s.data.toList by unfold Nf.jB Nf.via;rw[if_neg hR]);have HR:=hide hR;clear hR hl;rw[HV.out]
 go_enter Tryz.func75,Tryz.ntmps75
 go_wp2_with fail
 refine br.out.mono ?_;rintro e w1 ⟨aq,⟨h1,_⟩|⟨_,v,rfl⟩⟩
 ·exact absurd h1 HR.out
 have ay:=hide aq;clear aq;dsimp only;go_wp2;go_ret;exact⟨rfl,ay.out⟩
theorem ajz(s:ByteArray)(w:World)(hs:s.size≤250000) :
  Calls Tryz.prog 45 #[.string s] w fun e w'=>e=.returned (.string (aa (Nf.oz s.data.toList)))∧Below w.heap.size w w':=by
 rw[Nf.ahz];have H1:=hide (ajr s w hs);have hl:=Nf.JF s.data.toList;rw[bL] at hl;have H2:=hide (fun W=>ajp (aa (Nf.gB s.data.toList)) W (by rw[aC];omega));rw[aP] at H2;clear hl hs
 go_enter Tryz.func45,Tryz.ntmps45
 go_wp2_with fail
 refine H1.out.mono ?_;rintro e w1 ⟨rfl,aq⟩;have ay:=hide aq;clear aq;dsimp only
 go_wp2_with fail
 refine (H2.out _).mono ?_;rintro e w2 ⟨rfl,af⟩;have ah:=hide (ay.out.trans (af.mono ay.out.size));clear af;dsimp only;go_wp2;go_ret;exact⟨rfl,ah.out⟩
end
section
open Go.RowKit Go.WideShapes

theorem ajx(l:List UInt8)(w:World)(hs:l.length≤200000) :
  Calls Tryz.prog 22 #[.string (aa l)] w fun e w'=>e=.returned (.string (aa (Tx.line l)))∧Below w.heap.size w w':=by
 have H1:=hide (ajA (aa l) w (by rw[aC];omega));rw[aP] at H1;have nd:=Tx.yy l;have H2:=hide (fun W=>ajz (aa (Tx.one l)) W (by rw[aC];omega));rw[aP] at H2;clear nd
 go_enter Tryz.func22,Tryz.ntmps22
 go_wp2_with fail
 refine H1.out.mono ?_;rintro e w1 ⟨rfl,hb⟩;have HB:=hide hb;clear hb;dsimp only
 go_wp2_with fail
 refine (H2.out w1).mono ?_;rintro e w2 ⟨rfl,hb⟩;have ah:=hide (HB.out.trans (hb.mono HB.out.size));clear hb;dsimp only;go_wp2;go_ret;exact⟨rfl,ah.out⟩
theorem ajn(l:List UInt8)(w:World)(hs:l.length≤200000) :
  Calls Tryz.prog 21 #[.string (aa l)] w fun e w'=>e=.returned (.bool (Tx.right l))∧Below w.heap.size w w':=by
 have H1:=hide (ajN (aa l) w (by rw[aC];omega));have H2:=hide (fun W=>ajl (aa l) W (by rw[aC];omega));rw[aP] at H1 H2;unfold Tx.right
 cases hv:Utf.valid l with
 | false=>
  rw[hv] at H1;clear hv
  go_enter Tryz.func21,Tryz.ntmps21
  go_wp2_with fail
  refine H1.out.mono ?_;rintro e w1 ⟨rfl,hb⟩;have HB:=hide hb;clear hb;dsimp only;go_wp2;go_ret;exact⟨rfl,HB.out⟩
 | true=>
  rw[hv] at H1;clear hv;obtain⟨q,hq⟩:∃q,Tk.bad l=q:=⟨_,rfl⟩;rw[hq] at H2 ⊢;clear hq
  go_enter Tryz.func21,Tryz.ntmps21
  go_wp2_with fail
  refine H1.out.mono ?_;rintro e w1 ⟨rfl,hb⟩;have HB:=hide hb;clear hb;dsimp only
  go_wp2_with fail
  refine (H2.out w1).mono ?_;rintro e w2 ⟨rfl,hw2⟩;subst hw2;have ah:=HB;dsimp only;go_wp2;go_ret;exact⟨by rw[Bool.true_and];rfl,ah.out⟩
theorem ajt(l:List UInt8)(w:World)(hs:l.length≤200000) :
  Calls Tryz.prog 10 #[.string (aa l)] w fun e w'=>e=.returned (.bool (Tx.gI l))∧Below w.heap.size w w':=by
 have H1:=hide (ajn l w hs);have H2:=hide (fun W=>ajx l W hs);unfold Tx.gI
 cases hv:Tx.right l with
 | false=>
  rw[hv] at H1;clear hv
  go_enter Tryz.func10,Tryz.ntmps10
  go_wp2_with fail
  refine H1.out.mono ?_;rintro e w1 ⟨rfl,hb⟩;have HB:=hide hb;clear hb;dsimp only;go_wp2;go_ret;exact⟨rfl,HB.out⟩
 | true=>
  rw[hv] at H1;clear hv
  by_cases he:Tx.line l=l
  ·rw[decide_eq_true he];rw[he] at H2;clear he
   go_enter Tryz.func10,Tryz.ntmps10
   go_wp2_with fail
   refine H1.out.mono ?_;rintro e w1 ⟨rfl,hb⟩;have HB:=hide hb;clear hb;dsimp only
   go_wp2_with fail
   refine (H2.out w1).mono ?_;rintro e w2 ⟨rfl,hb⟩;have ah:=hide (HB.out.trans (hb.mono HB.out.size));clear hb;dsimp only;go_wp2;go_ret;exact⟨rfl,ah.out⟩
  rw[decide_eq_false he];have hne:=Rj he;have hbq:=Ri he;clear he;generalize Tx.line l=m at *
  go_enter Tryz.func10,Tryz.ntmps10
  go_wp2_with fail
  refine H1.out.mono ?_;rintro e w1 ⟨rfl,hb⟩;have HB:=hide hb;clear hb;dsimp only
  go_wp2_with fail
  refine (H2.out w1).mono ?_;rintro e w2 ⟨rfl,hb⟩;have ah:=hide (HB.out.trans (hb.mono HB.out.size));clear hb;dsimp only;go_wp2;go_ret;exact⟨rfl,ah.out⟩
end
end Go.Proofs.YtnbmfljhbpfilaaGreatDoor
