/- References: text escaped (refs.Escape). Printed by genTxF.py. And more. -/
import Derived.Test.YtnbmfljhbpfilaaGreatDoorOw02
import Derived.Test.YtnbmfljhbpfilaaGreatDoorOw31
import Derived.OrdersIn
import Derived.RangeFuncCalls
set_option linter.unusedSimpArgs false
set_option maxRecDepth 100000
set_option maxHeartbeats 16000000
set_option linter.unusedVariables false
namespace Go.Proofs.YtnbmfljhbpfilaaGreatDoor
section
open Go.RowKit Go.WideShapes

namespace Tx
def bU(q:Bool)(c:UInt8):List UInt8 :=
 if c=38 then [38,97,109,112,59] else if c=60 then [38,108,116,59] else if c=62 then [38,103,116,59] else if c=13 then [38,35,49,51,59]
 else if q=true∧c=34 then [38,113,117,111,116,59] else if q=true∧c=9 then [38,35,57,59] else if q=true∧c=10 then [38,35,49,48,59] else [c]
def escape(q:Bool)(l:List UInt8):List UInt8:=l.flatMap (bU q)
theorem adF(q:Bool)(c:UInt8):(bU q c).length≤6:=by
 unfold bU
 repeat' split
 all_goals simp
theorem pg(q:Bool)(l:List UInt8):(escape q l).length≤6*l.length:=by
 unfold escape
 induction l with
 | nil=>simp
 | cons c l ih=>rw[List.flatMap_cons,List.length_append,List.length_cons];have:=adF q c;omega
theorem Sn{q:Bool}{l:List UInt8}{j:Nat}{c:UInt8}(h:l[j]?=some c):escape q (l.take (j+1))=escape q (l.take j)++bU q c:=by
 unfold escape;rw[List.take_add_one,h,List.flatMap_append];simp
end Tx
theorem Bf.go{B b:Nat}{l:List UInt8}{r:Option Nat}{w w':World}(h:Bf B b l r w)(hb:Below w.heap.size w w'):Bf B b l r w':=by
 obtain⟨hB,p,v,hp,hk,ho,hr⟩:=h;exact⟨hB,p,v,hp,hk.go hb,Cw ho hb,hr⟩
theorem ab9{B b g j:Nat}{l:List UInt8}{r:Option Nat}{w:World}{k:IntKind}{z:Int}(h:Bf B b l r w)(hc:w.cell? ⟨g,j,none⟩=some (.int k z)):g≠b:=by
 rintro rfl;obtain⟨_,p,v,hp,hk,ho,_⟩:=h;rw[hk.cell] at hc;obtain⟨A,c,rfl⟩:=rq ho
 match j,hc with
 | 0,hc=>rcases hp with rfl|rfl<;>simp at hc
 | 1,hc=>simp at hc
 | j+2,hc=>simp at hc
theorem Bg.below{W0 W:World}{B b:Nat}{l:List UInt8}{w:World}(h:Bg W0 B b none l W)(hb:Below B w W0)(hB:B≤b)(hs:B≤W0.heap.size):Below B w W:=by
 obtain⟨r,_,_,hz⟩:=h;exact⟨hz.os.trans hb.os,hz.tape.trans hb.tape,hz.output.trans hb.output,Nat.le_trans hb.size hz.size,fun k hk=>(hz.block k (by omega) (by omega) (by simp)).trans (hb.block k hk)⟩
theorem Sm(q:Bool)(l:List UInt8)(w:World)(hs:l.length≤1000000000) :
  Calls Tryz.prog 26 #[.string (aa l),.bool q] w fun e w'=>e=.returned (.string (aa (Tx.escape q l)))∧Below w.heap.size w w':=by
 obtain⟨W0,g,cap,mU,hb,hg,hat⟩:=Dz (aa l) (w.alloc (.cells #[.pointer none,.slice none 0 0] 60));have Pb:=hide ((Bf.fresh w).go hb);have kJ:=hide ((az w (.cells #[.pointer none,.slice none 0 0] 60)).trans (hb.mono (by simp)));have hw0:w.heap.size<W0.heap.size:=Nat.lt_of_lt_of_le (by simp) hb.size;have e8:=hide hat;obtain⟨N,hN⟩:∃N,l.length=N:=⟨_,rfl⟩;have hsz:(aa l).size=N:=by rw[aC,hN]
 rw[hsz] at mU;rw[hN] at hs;have HN:=hide hN;have pZ:=hide hsz;clear hb hat hN hsz
 go_enter Tryz.func26,Tryz.ntmps26
 go_wp2
 go_loopg [11] N (fun gk v11 wr=>∃j:Nat,gk=N-j∧j≤N∧v11=.int .i64 (j:Int)∧Bg W0 w.heap.size w.heap.size none (Tx.escape q (l.take j)) wr)
 case atStart=>exact⟨0,rfl,by omega,rfl,⟨none,Pb.out,.inl rfl,Fz.refl _ _ _⟩⟩
 case round=>
  obtain⟨j,au,hj,rfl,jd⟩:=hrel;have Hg:=hide au;have GH:=hide jd;clear au jd
  by_cases hlt:j<N
  ·obtain⟨c,hc⟩:∃c,l[j]?=some c:=⟨_,List.getElem?_eq_getElem (by rw[HN.out];exact hlt)⟩;have hc0:=e8.out j c (by rw[aP];exact hc);have dH:=ab9 Pb.out hc0;obtain⟨r,lr,hr,hz⟩:=GH.out
   have y0:wr.cell? ⟨g,j,none⟩=some (.int .u8 (c.toNat:Nat)):=by
    have e:=hz.block g hg dH (by simp);unfold World.cell? at hc0 ⊢;dsimp only at hc0 ⊢;rwa[e]
   have OP:=hide lr;have Hr:=hide hr;have HZ:=hide hz;have HE:=hide (Tx.Sn (q:=q) hc);have nd:=Tx.pg q (l.take j);have afM:(Tx.escape q (l.take j)).length≤6000000000:=Nat.le_trans nd (by rw[List.length_take];omega);have sM:w.heap.size≤wr.heap.size:=Nat.le_trans (Nat.le_of_lt hw0) hz.size;have lW:=hide (fun m (h:m.length≤10)=>ane m OP.out (by omega) sM);have jR:=hide (amN c OP.out (by omega) sM);clear hc hc0 lr hr hz nd afM
   have key:∀w2,Bg wr w.heap.size w.heap.size r (Tx.escape q (l.take j)++Tx.bU q c) w2→Bg W0 w.heap.size w.heap.size none (Tx.escape q (l.take (j+1))) w2:=fun w2 h=>by
    rw[HE.out];exact Bg.step Hr.out HZ.out h
   have Key:=hide key;clear key

   cases q with
   | true=>
    by_cases hcc:c=38
    ·subst hcc;have a8:=hide (show Tx.bU true 38=[38,97,109,112,59] by unfold Tx.bU;simp);rw[a8.out] at Key;clear jR;have HW:=hide (lW.out [38,97,109,112,59] (by decide))
     go_wp2_with fail
     refine HW.out.mono ?_;rintro e w2 ⟨⟨v,rfl⟩,af⟩;have ah:=hide af;clear af;dsimp only;go_wp2
     go_roundg (N-(j+1))
     case measure=>have:=Hg.out;omega
     case rel=>exact⟨j+1,rfl,by omega,by first|rfl|go_num,Key.out _ ah.out⟩
    have lf:((c.toNat:Int)==38)=false:=by
     have:c.toNat≠38:=fun e=>hcc (UInt8.toNat_inj.1 e)
     simpa using (show ¬(c.toNat:Int)=38 by omega)
    have Gz:=hide hcc;clear hcc
    by_cases hcc:c=60
    ·subst hcc;have a8:=hide (show Tx.bU true 60=[38,108,116,59] by unfold Tx.bU;simp);rw[a8.out] at Key;clear jR;have HW:=hide (lW.out [38,108,116,59] (by decide))
     go_wp2_with fail
     refine HW.out.mono ?_;rintro e w2 ⟨⟨v,rfl⟩,af⟩;have ah:=hide af;clear af;dsimp only;go_wp2
     go_roundg (N-(j+1))
     case measure=>have:=Hg.out;omega
     case rel=>exact⟨j+1,rfl,by omega,by first|rfl|go_num,Key.out _ ah.out⟩
    have po:((c.toNat:Int)==60)=false:=by
     have:c.toNat≠60:=fun e=>hcc (UInt8.toNat_inj.1 e)
     simpa using (show ¬(c.toNat:Int)=60 by omega)
    have GA:=hide hcc;clear hcc
    by_cases hcc:c=62
    ·subst hcc;have a8:=hide (show Tx.bU true 62=[38,103,116,59] by unfold Tx.bU;simp);rw[a8.out] at Key;clear jR;have HW:=hide (lW.out [38,103,116,59] (by decide))
     go_wp2_with fail
     refine HW.out.mono ?_;rintro e w2 ⟨⟨v,rfl⟩,af⟩;have ah:=hide af;clear af;dsimp only;go_wp2
     go_roundg (N-(j+1))
     case measure=>have:=Hg.out;omega
     case rel=>exact⟨j+1,rfl,by omega,by first|rfl|go_num,Key.out _ ah.out⟩
    have h62:((c.toNat:Int)==62)=false:=by
     have:c.toNat≠62:=fun e=>hcc (UInt8.toNat_inj.1 e)
     simpa using (show ¬(c.toNat:Int)=62 by omega)
    have GC:=hide hcc;clear hcc
    by_cases hcc:c=13
    ·subst hcc;have a8:=hide (show Tx.bU true 13=[38,35,49,51,59] by unfold Tx.bU;simp);rw[a8.out] at Key;clear jR;have HW:=hide (lW.out [38,35,49,51,59] (by decide))
     go_wp2_with fail
     refine HW.out.mono ?_;rintro e w2 ⟨⟨v,rfl⟩,af⟩;have ah:=hide af;clear af;dsimp only;go_wp2
     go_roundg (N-(j+1))
     case measure=>have:=Hg.out;omega
     case rel=>exact⟨j+1,rfl,by omega,by first|rfl|go_num,Key.out _ ah.out⟩
    have h13:((c.toNat:Int)==13)=false:=by
     have:c.toNat≠13:=fun e=>hcc (UInt8.toNat_inj.1 e)
     simpa using (show ¬(c.toNat:Int)=13 by omega)
    have Gx:=hide hcc;clear hcc
    by_cases hcc:c=34
    ·subst hcc;have a8:=hide (show Tx.bU true 34=[38,113,117,111,116,59] by decide);rw[a8.out] at Key;clear jR;have HW:=hide (lW.out [38,113,117,111,116,59] (by decide))
     go_wp2_with fail
     refine HW.out.mono ?_;rintro e w2 ⟨⟨v,rfl⟩,af⟩;have ah:=hide af;clear af;dsimp only;go_wp2
     go_roundg (N-(j+1))
     case measure=>have:=Hg.out;omega
     case rel=>exact⟨j+1,rfl,by omega,by first|rfl|go_num,Key.out _ ah.out⟩
    have h34:((c.toNat:Int)==34)=false:=by
     have:c.toNat≠34:=fun e=>hcc (UInt8.toNat_inj.1 e)
     simpa using (show ¬(c.toNat:Int)=34 by omega)
    have Zr:=hide hcc;clear hcc
    by_cases hcc:c=9
    ·subst hcc;have a8:=hide (show Tx.bU true 9=[38,35,57,59] by decide);rw[a8.out] at Key;clear jR;have HW:=hide (lW.out [38,35,57,59] (by decide))
     go_wp2_with fail
     refine HW.out.mono ?_;rintro e w2 ⟨⟨v,rfl⟩,af⟩;have ah:=hide af;clear af;dsimp only;go_wp2
     go_roundg (N-(j+1))
     case measure=>have:=Hg.out;omega
     case rel=>exact⟨j+1,rfl,by omega,by first|rfl|go_num,Key.out _ ah.out⟩
    have h9:((c.toNat:Int)==9)=false:=by
     have:c.toNat≠9:=fun e=>hcc (UInt8.toNat_inj.1 e)
     simpa using (show ¬(c.toNat:Int)=9 by omega)
    have H9:=hide hcc;clear hcc
    by_cases hcc:c=10
    ·subst hcc;have a8:=hide (show Tx.bU true 10=[38,35,49,48,59] by decide);rw[a8.out] at Key;clear jR;have HW:=hide (lW.out [38,35,49,48,59] (by decide))
     go_wp2_with fail
     refine HW.out.mono ?_;rintro e w2 ⟨⟨v,rfl⟩,af⟩;have ah:=hide af;clear af;dsimp only;go_wp2
     go_roundg (N-(j+1))
     case measure=>have:=Hg.out;omega
     case rel=>exact⟨j+1,rfl,by omega,by first|rfl|go_num,Key.out _ ah.out⟩
    have J3:((c.toNat:Int)==10)=false:=by
     have:c.toNat≠10:=fun e=>hcc (UInt8.toNat_inj.1 e)
     simpa using (show ¬(c.toNat:Int)=10 by omega)
    have Zq:=hide hcc;clear hcc
    have a8:=hide (show Tx.bU true c=[c] by
     unfold Tx.bU;rw[if_neg Gz.out,if_neg GA.out,if_neg GC.out,if_neg Gx.out,if_neg (fun h=>Zr.out h.2),if_neg (fun h=>H9.out h.2),if_neg (fun h=>Zq.out h.2)])
    rw[a8.out] at Key;clear lW;have HW:=hide jR.out
    go_wp2_with fail
    refine HW.out.mono ?_;rintro e w2 ⟨rfl,af⟩;have ah:=hide af;clear af;dsimp only;go_wp2
    go_roundg (N-(j+1))
    case measure=>have:=Hg.out;omega
    case rel=>exact⟨j+1,rfl,by omega,by first|rfl|go_num,Key.out _ ah.out⟩
   | false=>
    by_cases hcc:c=38
    ·subst hcc;have a8:=hide (show Tx.bU false 38=[38,97,109,112,59] by unfold Tx.bU;simp);rw[a8.out] at Key;clear jR;have HW:=hide (lW.out [38,97,109,112,59] (by decide))
     go_wp2_with fail
     refine HW.out.mono ?_;rintro e w2 ⟨⟨v,rfl⟩,af⟩;have ah:=hide af;clear af;dsimp only;go_wp2
     go_roundg (N-(j+1))
     case measure=>have:=Hg.out;omega
     case rel=>exact⟨j+1,rfl,by omega,by first|rfl|go_num,Key.out _ ah.out⟩
    have lf:((c.toNat:Int)==38)=false:=by
     have:c.toNat≠38:=fun e=>hcc (UInt8.toNat_inj.1 e)
     simpa using (show ¬(c.toNat:Int)=38 by omega)
    have Gz:=hide hcc;clear hcc
    by_cases hcc:c=60
    ·subst hcc;have a8:=hide (show Tx.bU false 60=[38,108,116,59] by unfold Tx.bU;simp);rw[a8.out] at Key;clear jR;have HW:=hide (lW.out [38,108,116,59] (by decide))
     go_wp2_with fail
     refine HW.out.mono ?_;rintro e w2 ⟨⟨v,rfl⟩,af⟩;have ah:=hide af;clear af;dsimp only;go_wp2
     go_roundg (N-(j+1))
     case measure=>have:=Hg.out;omega
     case rel=>exact⟨j+1,rfl,by omega,by first|rfl|go_num,Key.out _ ah.out⟩
    have po:((c.toNat:Int)==60)=false:=by
     have:c.toNat≠60:=fun e=>hcc (UInt8.toNat_inj.1 e)
     simpa using (show ¬(c.toNat:Int)=60 by omega)
    have GA:=hide hcc;clear hcc
    by_cases hcc:c=62
    ·subst hcc;have a8:=hide (show Tx.bU false 62=[38,103,116,59] by unfold Tx.bU;simp);rw[a8.out] at Key;clear jR;have HW:=hide (lW.out [38,103,116,59] (by decide))
     go_wp2_with fail
     refine HW.out.mono ?_;rintro e w2 ⟨⟨v,rfl⟩,af⟩;have ah:=hide af;clear af;dsimp only;go_wp2
     go_roundg (N-(j+1))
     case measure=>have:=Hg.out;omega
     case rel=>exact⟨j+1,rfl,by omega,by first|rfl|go_num,Key.out _ ah.out⟩
    have h62:((c.toNat:Int)==62)=false:=by
     have:c.toNat≠62:=fun e=>hcc (UInt8.toNat_inj.1 e)
     simpa using (show ¬(c.toNat:Int)=62 by omega)
    have GC:=hide hcc;clear hcc
    by_cases hcc:c=13
    ·subst hcc;have a8:=hide (show Tx.bU false 13=[38,35,49,51,59] by unfold Tx.bU;simp);rw[a8.out] at Key;clear jR;have HW:=hide (lW.out [38,35,49,51,59] (by decide))
     go_wp2_with fail
     refine HW.out.mono ?_;rintro e w2 ⟨⟨v,rfl⟩,af⟩;have ah:=hide af;clear af;dsimp only;go_wp2
     go_roundg (N-(j+1))
     case measure=>have:=Hg.out;omega
     case rel=>exact⟨j+1,rfl,by omega,by first|rfl|go_num,Key.out _ ah.out⟩
    have h13:((c.toNat:Int)==13)=false:=by
     have:c.toNat≠13:=fun e=>hcc (UInt8.toNat_inj.1 e)
     simpa using (show ¬(c.toNat:Int)=13 by omega)
    have Gx:=hide hcc;clear hcc
    have a8:=hide (show Tx.bU false c=[c] by
     unfold Tx.bU;rw[if_neg Gz.out,if_neg GA.out,if_neg GC.out,if_neg Gx.out,if_neg (fun h=>by cases h.1),if_neg (fun h=>by cases h.1),if_neg (fun h=>by cases h.1)])
    rw[a8.out] at Key;clear lW;have HW:=hide jR.out
    go_wp2_with fail
    refine HW.out.mono ?_;rintro e w2 ⟨rfl,af⟩;have ah:=hide af;clear af;dsimp only;go_wp2
    go_roundg (N-(j+1))
    case measure=>have:=Hg.out;omega
    case rel=>exact⟨j+1,rfl,by omega,by first|rfl|go_num,Key.out _ ah.out⟩
  ·have oc:j=N:=by omega
   subst oc;obtain⟨r,lr,hr,hz⟩:=GH.out;have sM:w.heap.size≤wr.heap.size:=Nat.le_trans (Nat.le_of_lt hw0) hz.size;have HS:=hide (lr.bx.str sM);have bM:=hide (GH.out.below kJ.out (Nat.le_refl _) (Nat.le_of_lt hw0));clear lr hr hz;rw[List.take_of_length_le (by rw[HN.out];exact Nat.le_refl _)] at HS
   go_wp2_with fail
   refine HS.out.mono ?_;rintro e w2 ⟨rfl,af⟩;have ah:=hide (bM.out.trans af);clear af;dsimp only;go_wp2;go_ret;exact⟨rfl,ah.out⟩
end
section
open Go.RowKit Tk Sx Go.WideShapes

namespace Opm
def gh(seen:List L):List ax→Bool
 | []=>true
 | x :: r=>decide (x.pre≠[])&&(Tx.gI x.pre&&(Tx.gI x.ns&&(!decide (x.pre∈seen)&&gh (x.pre :: seen) r)))
def may(l:List ax):Bool:=gh [] l&&decide (l.length≤64)
end Opm
theorem Oo(B b R:Nat)(l:L)(ss:List L)(w:World)(hB:Bx B b l w)(gU:B≤w.heap.size)(hR:ae w R 9 (FJ ss).toArray)(hRb:R≠b)(hn:ss.length≤1000)(hlen:l.length+ss.flatten.length≤100000000000) :
  Calls Tryz.prog 24 #[.slice (some ⟨R,0,none⟩) ss.length ss.length,.pointer (some ⟨b,0,none⟩)] w fun e w'=>(∃v,e=.returned v)∧Bx B b (l++ss.flatten) w'∧bK B b w w':=by
 obtain⟨m,hm⟩:∃m,ss.length=m:=⟨_,rfl⟩;have Hm:=hide hm;have HR:=hide hR;have HB:=hide hB;rw[hm] at hn ⊢;clear hm hR hB
 go_enter Tryz.func24,Tryz.ntmps24
 go_wp2
 go_loopg [4,7,8,9,10,11,12,13] m (fun gk v4 v7 v8 v9 v10 v11 v12 v13 wr=>∃j:Nat,v7=.int .i64 (j:Int)∧gk=m-j∧j≤m∧Bx B b (l++(ss.take j).flatten) wr∧bK B b w wr)
 case atStart=>exact⟨0,rfl,rfl,by omega,by simpa using HB.out,bK.refl _ _ _⟩
 case round=>
  obtain⟨j,rfl,au,hj,je,bu⟩:=hrel;have dF:=hide au;have nC:=hide je;have oO:=hide bu;clear au je bu
  by_cases hlt:j<m
  ·obtain⟨t,ht⟩:∃t,ss[j]?=some t:=⟨_,List.getElem?_eq_getElem (by rw[Hm.out];exact hlt)⟩;have mS:=oO.out.blk HR.out hRb (by decide)
   have hc:wr.cell? ⟨R,j,none⟩=some (.string (aa t)):=by
    rw[mS.cell j];simp[FJ,ht]
   have cN:(ss.take (j+1)).flatten=(ss.take j).flatten++t:=by
    rw[List.take_add_one,ht];simp
   have hle:(l++(ss.take j).flatten).length+t.length≤140737488355328:=by
    have h1:((ss.take (j+1)).flatten).length≤ss.flatten.length:=by
     have h2:=congrArg List.length (congrArg List.flatten (List.take_append_drop (j+1) ss));rw[List.flatten_append,List.length_append] at h2;omega
    rw[cN,List.length_append] at h1;rw[List.length_append];omega
   have HW:=hide (nC.out.ws t hle (Nat.le_trans gU oO.out.size));have xc:=hide cN;have od:(0:Int)≤j∧(j:Int)<m:=by omega
   clear ht mS cN hle
   go_wp2_with fail
   refine HW.out.mono ?_;rintro e w1 ⟨⟨v,rfl⟩,aq,cn⟩;have ay:=hide aq;have GQ:=hide (oO.out.trans cn);clear aq cn;dsimp only;go_wp2
   go_roundg (m-(j+1))
   case measure=>have:=dF.out;omega
   case rel=>exact⟨j+1,by first|rfl|go_num,rfl,by omega,by rw[xc.out,←List.append_assoc];exact ay.out,GQ.out⟩
  have fx:j=m:=by omega
  have dI:¬(j:Int)<(m:Int):=by omega
  have HF:=hide (show Bx B b (l++ss.flatten) wr from by
   have:=nC.out;rwa[fx,←Hm.out,List.take_length] at this)
  clear fx;go_wp2;go_end0;exact⟨⟨_,rfl⟩,HF.out,oO.out⟩
theorem abe(l:List ax)(A:Option Addr)(c:Nat)(w:World)(hR:Reads w w.heap.size 2 A l.length (bP l))(hu:∀x∈l,x.pre.length≤100000∧x.ns.length≤100000)(hl:l.length≤1000000) :
  Calls Tryz.prog 23 #[.slice A l.length c] w fun e w'=>e=.returned (.bool (Opm.may l))∧Below w.heap.size w w':=by
 obtain⟨n,hn⟩:∃n,l.length=n:=⟨_,rfl⟩;have HR:=hide hR;have HU:=hide hu;have Hn:=hide hn;have jk:=@run_makeMap Tryz.prog;have kM:=hide (gz.new w);have HL:=hide (fun (t:L) (W:World) (ht:t.length≤200000)=>agA t W ht);have hz:decide (l.length≤64)=decide (n≤64):=by rw[hn]
 have fZ:Opm.may l=(Opm.gh [] l&&decide (n≤64)):=by unfold Opm.may;rw[hz]
 have qh:=hide fZ;rw[hn] at hl ⊢;clear hR hu hn hz fZ
 go_enter Tryz.func23,Tryz.ntmps23
 go_wp2;clear jk;obtain⟨w0,hw0⟩:∃w0,w.alloc (.map #[] 0)=w0:=⟨_,rfl⟩;have kJ:=hide (hw0▸az w (.map #[] 0));rw[hw0] at kM ⊢;obtain⟨M,hM⟩:∃M,w.heap.size=M:=⟨_,rfl⟩;have HM:=hide hM;rw[hM] at kM;simp only[hM];clear hw0 hM
 go_loopg [2,5,9,10,11,12,13,14,15,16,17,18,19,20,21,22,23,24,25,26,27,28,29,30,31,32,33,34,35] n (fun gk v2 v5 v9 v10 v11 v12 v13 v14 v15 v16 v17 v18 v19 v20 v21 v22 v23 v24 v25 v26 v27 v28 v29 v30 v31 v32 v33 v34 v35 wr=>∃(j:Nat) (D:DataW Unit) (seen:List L),v9=.int .i64 (j:Int)∧gk=n-j∧j≤n∧gz wr M j seen D∧Opm.gh [] l=Opm.gh seen (l.drop j)∧Below w.heap.size w wr)
 case atStart=>exact⟨0,_,[],rfl,rfl,by omega,kM.out,rfl,kJ.out⟩
 case round=>
  obtain⟨j,D,seen,rfl,au,hj,hs,heq,hb⟩:=hrel;have dF:=hide au;have HS:=hide hs;have HEq:=hide heq;have HB:=hide hb;clear au hs heq hb
  by_cases hlt:j<n
  ·have fy:j<l.length:=by rw[Hn.out];exact hlt
   obtain⟨b,off,rfl,jC,x0,x1⟩:=(HR.out.below HB.out).o5 fy;obtain⟨dJ,bh⟩:=HU.out l[j] (List.getElem_mem fy);have hd:l.drop j=l[j] :: l.drop (j+1):=List.drop_eq_getElem_cons fy;obtain⟨⟨u,t⟩,hx⟩:∃x,l[j]=x:=⟨_,rfl⟩;rw[hx] at hd x0 x1 dJ bh;dsimp only at x0 x1 dJ bh;have hst:Opm.gh seen (l.drop j)=(decide (u≠[])&&(Tx.gI u&&(Tx.gI t&&(!decide (u∈seen)&&Opm.gh (u :: seen) (l.drop (j+1)))))):=by rw[hd,Opm.gh]
   have aW:=hide hst;have od:(0:Int)≤j∧(j:Int)<n:=by omega
   have J6:=az wr (.cells #[.string (aa u),.string (aa t)] 27);have ay:=hide (HB.out.trans (J6.mono HB.out.size));have Em:=ae.new wr 27 #[.string (aa u),.string (aa t)];have pV:=hide (HS.out.same (J6.block _ HS.out.lt));have GQ:=hide Em;have k0:=Em.cell 0;have k1:=Em.cell 1;clear hd hx hst J6 Em
   by_cases jI:u=[]
   ·subst jI;have e1:=uJ [];have HF:=hide (show Opm.may l=false by rw[qh.out,HEq.out,aW.out];simp);clear aW HEq;go_wp2;go_ret;rw[HF.out];exact⟨rfl,ay.out⟩
   have e1:=sx jI;have ke:decide (u≠[])=true:=decide_eq_true jI;rw[ke,Bool.true_and] at aW;clear jI ke;have HF:=hide (show ∀q,Opm.gh seen (l.drop j)=q→Opm.may l=(q&&decide (n≤64)) from fun q hq=>by rw[qh.out,HEq.out,hq]);obtain⟨q1,td⟩:∃q,Tx.gI u=q:=⟨_,rfl⟩;obtain⟨q2,oh⟩:∃q,Tx.gI t=q:=⟨_,rfl⟩;have Pq:=hide (fun W=>HL.out u W (by omega));have rQ:=hide (fun W=>HL.out t W (by omega));simp only[td] at Pq;simp only[oh] at rQ;rw[td,oh] at aW;clear td oh
   go_wp2_with fail
   refine (Pq.out _).mono ?_;rintro e w2 ⟨rfl,af⟩;have ah:=hide (ay.out.trans (af.mono ay.out.size));have rW:=hide (pV.out.same (af.block _ pV.out.lt));have fV:=GQ.out.go af;have j0:=fV.cell 0;have j1:=fV.cell 1;have cH:=hide fV;clear af fV k0 k1 x0 x1;dsimp only
   cases q1 with
   | false=>
    have HF:=hide (show Opm.may l=false by rw[HF.out _ aW.out];simp);clear aW HEq;go_wp2;go_ret;rw[HF.out];exact⟨rfl,ah.out⟩
   | true=>
    go_wp2_with fail
    refine (rQ.out _).mono ?_;rintro e w3 ⟨rfl,aB⟩;have aw:=hide (ah.out.trans (aB.mono ah.out.size));have Kn:=rW.out.same (aB.block _ rW.out.lt);have Ti:=cH.out.go aB;have i0:=Ti.cell 0;have HS3:=hide Kn;have ud:=hide (SF M j seen D u w3 Kn (by omega) (by unfold maxLen;omega));clear aB Ti Kn j0 j1;dsimp only
    cases q2 with
    | false=>
     have HF:=hide (show Opm.may l=false by rw[HF.out _ aW.out];simp);clear aW HEq;go_wp2;go_ret;rw[HF.out];exact⟨rfl,aw.out⟩
    | true=>
     go_wp2_with fail
     refine ud.out.mono ?_;rintro e w4 ⟨rfl,mW,D',UT⟩;have cG:=hide (aw.out.grown mW aw.out.size (fun k e=>by injection e with e;have:=HM.out;omega));have pW:=hide UT;clear mW UT;dsimp only;obtain⟨q3,Bi⟩:∃q,decide (u∈seen)=q:=⟨_,rfl⟩;rw[Bi] at aW ⊢;clear Bi
     cases q3 with
     | true=>
      have HF:=hide (show Opm.may l=false by rw[HF.out _ aW.out];simp);clear aW HEq;simp only[Bool.not_true];go_wp2;go_ret;rw[HF.out];exact⟨rfl,cG.out⟩
     | false=>
      have ZJ:=hide (show Opm.gh [] l=Opm.gh (u :: seen) (l.drop (j+1)) by rw[HEq.out,aW.out];simp);clear aW HEq;simp only[Bool.not_false];go_wp2
      go_roundg (n-(j+1))
      case measure=>have:=dF.out;omega
      case rel=>exact⟨j+1,_,_,by first|rfl|go_num,rfl,by omega,pW.out,ZJ.out,cG.out⟩
  have fx:j=n:=by omega
  have dI:¬(j:Int)<(n:Int):=by omega
  have HF:=hide (show Opm.may l=decide (n≤64) by rw[qh.out,HEq.out,fx,←Hn.out,List.drop_length];rfl);have hq:decide ((n:Int)≤64)=decide (n≤64):=by rw[decide_eq_decide];omega
  have Hq:=hide hq;clear fx hq;go_wp2;go_ret;rw[HF.out];refine⟨?_,HB.out⟩;show Ending.returned (.bool (decide ((n:Int)≤64)))=_;rw[Hq.out]
end
section
open Go

def RZ(md:Region.Mode)(ops:Array Oper):Bool:=(List.range ops.size).all fun i=>((ops[i]?).map fun o=>o.after.all fun e=>!Region.binds md e||decide (e.on<i)).getD false
def QX(p:Prop):Prop:=p
theorem amL{p:Prop}(h:QX p):p:=h
def wz(md:Region.Mode)(ops:Array Oper)(i j:Nat):Bool:=((ops[i]?).map fun o=>o.after.any fun e=>Region.binds md e&&e.on==j).getD false
theorem aj{a b c:Prop}(h:a→c)(hb:¬b):a∨b→c:=fun h2=>h2.elim h fun h3=>absurd h3 hb
section
variable {F:Fence} {n:Nat} {P:Program} {ops:Array Oper} {Q:Exit→Act→World→Prop} {md:Region.Mode} {Iv:(Nat→Prop)→Act→World→Prop}
theorem Ma{listed:Array Bool}{i:Nat}(hi:i<listed.size):(fun k=>(listed.setIfInBounds i true).getD k false=true)=fun k=>listed.getD k false=true∨k=i:=by
 funext k
 by_cases h:k=i
 ·subst h;simp[Array.getD,hi]
 simp only[Array.getD_eq_getD_getElem?,Array.getElem?_setIfInBounds,if_neg (fun e:i=k=>h e.symm),h,or_false]
theorem am7(hl:RZ md ops=true)
  (hstep:∀(L:Nat→Prop) (a:Act) (w:World) (i:Nat),Iv L a w→i<ops.size→¬L i→(∀j,wz md ops i j=true→L j)→(∀j,wz md ops j i=true→¬L j)→wpOpIn F n P ops Q i (Iv fun k=>L k∨k=i) a w)
  (hdone:∀(L:Nat→Prop) (a:Act) (w:World),Iv L a w→(∀i,i<ops.size→L i)→Q .normal a w) :
  ∀(fuel:Nat) (listed:Array Bool) (a:Act) (w:World),listed.size=ops.size→(∀j k,listed.getD j false=true→wz md ops j k=true→listed.getD k false=true)→listed.toList.count false≤fuel→Iv (fun k=>listed.getD k false=true) a w→wpAnyIn F n P md ops Q fuel listed a w:=by
 have hall:∀(listed:Array Bool),listed.size=ops.size→Region.ready md ops listed=[]→∀i,i<ops.size→listed.getD i false=true:=by
  intro listed hs hr i
  induction i using Nat.strongRecOn with
  | _ i ih=>
   intro hi
   cases hv:listed.getD i false with
   | true=>rfl
   | false=>
    exfalso
    have hm:i∈Region.ready md ops listed:=by
     unfold Region.ready;rw[List.mem_filter];refine⟨List.mem_range.2 hi,?_⟩
     have h1:listed.getD i true=false:=by
      simp only[Array.getD,hs,hi,dif_pos] at hv ⊢;exact hv
     have h2:=List.all_eq_true.1 hl i (List.mem_range.2 hi);rw[Array.getElem?_eq_getElem hi] at h2 ⊢;simp only[Option.map_some,Option.getD_some] at h2 ⊢;rw[h1,Bool.not_false,Bool.true_and,Array.all_eq_true'];intro e he;have h3:=Array.all_eq_true'.1 h2 e he
     cases hb:Region.binds md e with
     | false=>rfl
     | true=>
      rw[hb] at h3;have h4:e.on<i:=by simpa using h3
      rw[ih _ h4 (by omega),Bool.or_true]
    rw[hr] at hm;cases hm
 intro fuel
 induction fuel with
 | zero=>
  intro listed a w hs jD hc hI
  have h0:∀i,i<listed.size→listed.getD i true=true:=by
   intro i hi;have:=List.count_eq_zero.1 (Nat.le_zero.1 hc);simp only[Array.getD,hi,dif_pos]
   cases hv:listed[i] with
   | true=>exact hv
   | false=>exact absurd (hv▸Array.getElem_mem_toList hi) this
  have hr:Region.ready md ops listed=[]:=by
   unfold Region.ready;rw[List.filter_eq_nil_iff];intro i hi;rw[h0 i (by rw[hs];exact List.mem_range.1 hi)];simp
  exact⟨hr,hdone _ a w hI (hall listed hs hr)⟩
 | succ fuel ih=>
  intro listed a w hs jD hc hI;refine⟨fun hr=>hdone _ a w hI (hall listed hs hr),fun i hi=>?_⟩;unfold Region.ready at hi;rw[List.mem_filter] at hi;obtain⟨cE,sU⟩:=hi;have cE:=List.mem_range.1 cE;have ho:ops[i]?=some ops[i]:=Array.getElem?_eq_getElem cE;rw[ho] at sU;simp only[Option.map_some,Option.getD_some,Bool.and_eq_true,Bool.not_eq_true'] at sU
  have UA:¬listed.getD i false=true:=fun h=>by
   have h1:=sU.1;simp only[Array.getD,hs,cE,dif_pos] at h h1;rw[h] at h1;cases h1
  have TZ:∀j,wz md ops i j=true→listed.getD j false=true:=fun j hj=>by
   unfold wz at hj;rw[ho] at hj;simp only[Option.map_some,Option.getD_some] at hj;obtain⟨e,he,hb⟩:=Array.any_eq_true'.1 hj;simp only[Bool.and_eq_true,beq_iff_eq] at hb;have:=Array.all_eq_true'.1 sU.2 e he;rw[hb.1,hb.2] at this
   simpa using this
  refine wpOpIn_mono (fun a' w' h=>ih _ a' w' (by simpa using hs) ?_ ?_ ?_) (hstep _ a w i hI cE UA TZ fun j hj hl=>UA (jD j i hl hj))
  ·intro j k hj hw;have h1:=congrFun (Ma (listed:=listed) (i:=i) (by rw[hs];exact cE)) j;have h2:=congrFun (Ma (listed:=listed) (i:=i) (by rw[hs];exact cE)) k;rw[h1] at hj;rw[h2]
   rcases hj with hj|rfl
   ·exact .inl (jD j k hj hw)
   exact .inl (TZ k hw)
  ·have hlt:i<listed.toList.length:=by simpa[hs] using cE
   have hf:listed.toList[i]=false:=by
    have:=sU.1
    simpa[Array.getD,hs,cE] using this
   rw[Array.toList_setIfInBounds,List.count_set hlt,hf];have UJ:0<listed.toList.count false:=List.count_pos_iff.2 (hf▸List.getElem_mem hlt);show listed.toList.count false-1+0≤fuel;omega
  rw[Ma (by rw[hs];exact cE)];exact h
theorem Cz{id:Nat}{a:Act}{w:World}(hm:P.follows .mixedOrders=true)(hl:RZ .any ops=true)(Iv:(Nat→Prop)→Act→World→Prop)(h0:Iv (fun _=>False) a w.drew)
  (hstep:∀(L:Nat→Prop) (a:Act) (w:World) (i:Nat),Iv L a w→i<ops.size→¬L i→(∀j,wz .any ops i j=true→L j)→(∀j,wz .any ops j i=true→¬L j)→wpOpIn F n P ops Q i (Iv fun k=>L k∨k=i) a w)
  (hdone:∀(L:Nat→Prop) (a:Act) (w:World),Iv L a w→(∀i,i<ops.size→L i)→Q .normal a w):(Code.region id ops true).wpIn F n P Q a w:=by
 refine wpIn_region_any hm (am7 hl hstep hdone _ _ _ _ (by simp) (fun j k h=>by simp[Array.getD] at h) (by simp) ?_)
 have:(fun k=>(Array.replicate ops.size false).getD k false=true)=fun _=>False:=by
  funext k
  simp[Array.getD]
 rw[this];exact h0
theorem dL{i:Nat}{o:Oper}{K:Act→World→Prop}{a:Act}{w:World}(ho:ops[i]?=some o)(hw:Region.wanted o (yielded ops a.tmps)=true)(h:∀K':Act→World→Prop,(∀a w,K a w→K' a w)→Oper.wpIn F n P o a w K' Q):wpOpIn F n P ops Q i K a w:=by
 unfold wpOpIn;rw[ho];dsimp only;rw[if_pos hw];exact h K fun _ _ h=>h
end
end
end Go.Proofs.YtnbmfljhbpfilaaGreatDoor
