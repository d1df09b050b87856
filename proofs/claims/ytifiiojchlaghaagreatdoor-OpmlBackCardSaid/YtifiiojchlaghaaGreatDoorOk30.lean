/- References: text escaped (refs.Escape). Printed by genTxF.py. And more. -/
import Derived.Test.YtifiiojchlaghaaGreatDoorOk02
import Derived.Test.YtifiiojchlaghaaGreatDoorOk29
import Derived.OrdersIn
import Derived.RangeFuncCalls
set_option linter.unusedSimpArgs false
set_option maxRecDepth 100000
set_option maxHeartbeats 16000000
set_option linter.unusedVariables false
namespace Go.Proofs.YtifiiojchlaghaaGreatDoor
section
open Go.RowKit Go.WideShapes

namespace Tx
def esc(q:Bool)(c:UInt8):List UInt8 :=
 if c=38 then [38,97,109,112,59] else if c=60 then [38,108,116,59] else if c=62 then [38,103,116,59] else if c=13 then [38,35,49,51,59]
 else if q=true∧c=34 then [38,113,117,111,116,59] else if q=true∧c=9 then [38,35,57,59] else if q=true∧c=10 then [38,35,49,48,59] else [c]
def escape(q:Bool)(l:List UInt8):List UInt8:=l.flatMap (esc q)
theorem esc_len(q:Bool)(c:UInt8):(esc q c).length≤6:=by
 unfold esc
 repeat' split
 all_goals simp
theorem escape_len(q:Bool)(l:List UInt8):(escape q l).length≤6*l.length:=by
 unfold escape
 induction l with
 | nil=>simp
 | cons c l ih=>rw[List.flatMap_cons,List.length_append,List.length_cons];have:=esc_len q c;omega
theorem escape_next{q:Bool}{l:List UInt8}{j:Nat}{c:UInt8}(h:l[j]?=some c):escape q (l.take (j+1))=escape q (l.take j)++esc q c:=by
 unfold escape;rw[List.take_add_one,h,List.flatMap_append];simp
end Tx
theorem Bf.go{B b:Nat}{l:List UInt8}{r:Option Nat}{w w':World}(h:Bf B b l r w)(hb:Below w.heap.size w w'):Bf B b l r w':=by
 obtain⟨hB,p,v,hp,hk,ho,hr⟩:=h;exact⟨hB,p,v,hp,hk.go hb,uown_go ho hb,hr⟩
theorem bf_cell{B b g j:Nat}{l:List UInt8}{r:Option Nat}{w:World}{k:IntKind}{z:Int}(h:Bf B b l r w)(hc:w.cell? ⟨g,j,none⟩=some (.int k z)):g≠b:=by
 rintro rfl;obtain⟨_,p,v,hp,hk,ho,_⟩:=h;rw[hk.cell] at hc;obtain⟨A,c,rfl⟩:=own_form ho
 match j,hc with
 | 0,hc=>rcases hp with rfl|rfl<;>simp at hc
 | 1,hc=>simp at hc
 | j+2,hc=>simp at hc
theorem Bg.below{W0 W:World}{B b:Nat}{l:List UInt8}{w:World}(h:Bg W0 B b none l W)(hb:Below B w W0)(hB:B≤b)(hs:B≤W0.heap.size):Below B w W:=by
 obtain⟨r,_,_,hz⟩:=h;exact⟨hz.os.trans hb.os,hz.tape.trans hb.tape,hz.output.trans hb.output,Nat.le_trans hb.size hz.size,fun k hk=>(hz.block k (by omega) (by omega) (by simp)).trans (hb.block k hk)⟩
theorem escape_any(q:Bool)(l:List UInt8)(w:World)(hs:l.length≤1000000000) :
  Calls Tryz.prog 16 #[.string (bstr l),.bool q] w fun e w'=>e=.returned (.string (bstr (Tx.escape q l)))∧Below w.heap.size w w':=by
 obtain⟨W0,g,cap,hconv,hb,hg,hat⟩:=bytes_of (bstr l) (w.alloc (.cells #[.pointer none,.slice none 0 0] 39));have HF0:=hide ((Bf.fresh w).go hb);have HB0:=hide ((below_alloc w (.cells #[.pointer none,.slice none 0 0] 39)).trans (hb.mono (by simp)));have hw0:w.heap.size<W0.heap.size:=Nat.lt_of_lt_of_le (by simp) hb.size;have HAt:=hide hat;obtain⟨N,hN⟩:∃N,l.length=N:=⟨_,rfl⟩;have hsz:(bstr l).size=N:=by rw[bstr_size,hN]
 rw[hsz] at hconv;rw[hN] at hs;have HN:=hide hN;have HSz:=hide hsz;clear hb hat hN hsz
 go_enter Tryz.func16,Tryz.ntmps16
 go_wp2
 go_loopg [11] N (fun gk v11 wr=>∃j:Nat,gk=N-j∧j≤N∧v11=.int .i64 (j:Int)∧Bg W0 w.heap.size w.heap.size none (Tx.escape q (l.take j)) wr)
 case atStart=>exact⟨0,rfl,by omega,rfl,⟨none,HF0.out,.inl rfl,Fz.refl _ _ _⟩⟩
 case round=>
  obtain⟨j,hgk,hj,rfl,hbg⟩:=hrel;have Hg:=hide hgk;have HBg:=hide hbg;clear hgk hbg
  by_cases hlt:j<N
  ·obtain⟨c,hc⟩:∃c,l[j]?=some c:=⟨_,List.getElem?_eq_getElem (by rw[HN.out];exact hlt)⟩;have hc0:=HAt.out j c (by rw[bstr_list];exact hc);have hgb:=bf_cell HF0.out hc0;obtain⟨r,hbf,hr,hz⟩:=HBg.out
   have y0:wr.cell? ⟨g,j,none⟩=some (.int .u8 (c.toNat:Nat)):=by
    have e:=hz.block g hg hgb (by simp);unfold World.cell? at hc0 ⊢;dsimp only at hc0 ⊢;rwa[e]
   have HBf:=hide hbf;have Hr:=hide hr;have HZ:=hide hz;have HE:=hide (Tx.escape_next (q:=q) hc);have hol:=Tx.escape_len q (l.take j);have hol2:(Tx.escape q (l.take j)).length≤6000000000:=Nat.le_trans hol (by rw[List.length_take];omega);have hbw:w.heap.size≤wr.heap.size:=Nat.le_trans (Nat.le_of_lt hw0) hz.size;have HWs:=hide (fun m (h:m.length≤10)=>ws_f m HBf.out (by omega) hbw);have HWb:=hide (wb_f c HBf.out (by omega) hbw);clear hc hc0 hbf hr hz hol hol2
   have key:∀w2,Bg wr w.heap.size w.heap.size r (Tx.escape q (l.take j)++Tx.esc q c) w2→Bg W0 w.heap.size w.heap.size none (Tx.escape q (l.take (j+1))) w2:=fun w2 h=>by
    rw[HE.out];exact Bg.step Hr.out HZ.out h
   have Key:=hide key;clear key

   cases q with
   | true=>
    by_cases hcc:c=38
    ·subst hcc;have HE2:=hide (show Tx.esc true 38=[38,97,109,112,59] by unfold Tx.esc;simp);rw[HE2.out] at Key;clear HWb;have HW:=hide (HWs.out [38,97,109,112,59] (by decide))
     go_wp2_with fail
     refine HW.out.mono ?_;rintro e w2 ⟨⟨v,rfl⟩,hb2⟩;have HB2:=hide hb2;clear hb2;dsimp only;go_wp2
     go_roundg (N-(j+1))
     case measure=>have:=Hg.out;omega
     case rel=>exact⟨j+1,rfl,by omega,by first|rfl|go_num,Key.out _ HB2.out⟩
    have h38:((c.toNat:Int)==38)=false:=by
     have:c.toNat≠38:=fun e=>hcc (UInt8.toNat_inj.1 e)
     simpa using (show ¬(c.toNat:Int)=38 by omega)
    have H38:=hide hcc;clear hcc
    by_cases hcc:c=60
    ·subst hcc;have HE2:=hide (show Tx.esc true 60=[38,108,116,59] by unfold Tx.esc;simp);rw[HE2.out] at Key;clear HWb;have HW:=hide (HWs.out [38,108,116,59] (by decide))
     go_wp2_with fail
     refine HW.out.mono ?_;rintro e w2 ⟨⟨v,rfl⟩,hb2⟩;have HB2:=hide hb2;clear hb2;dsimp only;go_wp2
     go_roundg (N-(j+1))
     case measure=>have:=Hg.out;omega
     case rel=>exact⟨j+1,rfl,by omega,by first|rfl|go_num,Key.out _ HB2.out⟩
    have h60:((c.toNat:Int)==60)=false:=by
     have:c.toNat≠60:=fun e=>hcc (UInt8.toNat_inj.1 e)
     simpa using (show ¬(c.toNat:Int)=60 by omega)
    have H60:=hide hcc;clear hcc
    by_cases hcc:c=62
    ·subst hcc;have HE2:=hide (show Tx.esc true 62=[38,103,116,59] by unfold Tx.esc;simp);rw[HE2.out] at Key;clear HWb;have HW:=hide (HWs.out [38,103,116,59] (by decide))
     go_wp2_with fail
     refine HW.out.mono ?_;rintro e w2 ⟨⟨v,rfl⟩,hb2⟩;have HB2:=hide hb2;clear hb2;dsimp only;go_wp2
     go_roundg (N-(j+1))
     case measure=>have:=Hg.out;omega
     case rel=>exact⟨j+1,rfl,by omega,by first|rfl|go_num,Key.out _ HB2.out⟩
    have h62:((c.toNat:Int)==62)=false:=by
     have:c.toNat≠62:=fun e=>hcc (UInt8.toNat_inj.1 e)
     simpa using (show ¬(c.toNat:Int)=62 by omega)
    have H62:=hide hcc;clear hcc
    by_cases hcc:c=13
    ·subst hcc;have HE2:=hide (show Tx.esc true 13=[38,35,49,51,59] by unfold Tx.esc;simp);rw[HE2.out] at Key;clear HWb;have HW:=hide (HWs.out [38,35,49,51,59] (by decide))
     go_wp2_with fail
     refine HW.out.mono ?_;rintro e w2 ⟨⟨v,rfl⟩,hb2⟩;have HB2:=hide hb2;clear hb2;dsimp only;go_wp2
     go_roundg (N-(j+1))
     case measure=>have:=Hg.out;omega
     case rel=>exact⟨j+1,rfl,by omega,by first|rfl|go_num,Key.out _ HB2.out⟩
    have h13:((c.toNat:Int)==13)=false:=by
     have:c.toNat≠13:=fun e=>hcc (UInt8.toNat_inj.1 e)
     simpa using (show ¬(c.toNat:Int)=13 by omega)
    have H13:=hide hcc;clear hcc
    by_cases hcc:c=34
    ·subst hcc;have HE2:=hide (show Tx.esc true 34=[38,113,117,111,116,59] by decide);rw[HE2.out] at Key;clear HWb;have HW:=hide (HWs.out [38,113,117,111,116,59] (by decide))
     go_wp2_with fail
     refine HW.out.mono ?_;rintro e w2 ⟨⟨v,rfl⟩,hb2⟩;have HB2:=hide hb2;clear hb2;dsimp only;go_wp2
     go_roundg (N-(j+1))
     case measure=>have:=Hg.out;omega
     case rel=>exact⟨j+1,rfl,by omega,by first|rfl|go_num,Key.out _ HB2.out⟩
    have h34:((c.toNat:Int)==34)=false:=by
     have:c.toNat≠34:=fun e=>hcc (UInt8.toNat_inj.1 e)
     simpa using (show ¬(c.toNat:Int)=34 by omega)
    have H34:=hide hcc;clear hcc
    by_cases hcc:c=9
    ·subst hcc;have HE2:=hide (show Tx.esc true 9=[38,35,57,59] by decide);rw[HE2.out] at Key;clear HWb;have HW:=hide (HWs.out [38,35,57,59] (by decide))
     go_wp2_with fail
     refine HW.out.mono ?_;rintro e w2 ⟨⟨v,rfl⟩,hb2⟩;have HB2:=hide hb2;clear hb2;dsimp only;go_wp2
     go_roundg (N-(j+1))
     case measure=>have:=Hg.out;omega
     case rel=>exact⟨j+1,rfl,by omega,by first|rfl|go_num,Key.out _ HB2.out⟩
    have h9:((c.toNat:Int)==9)=false:=by
     have:c.toNat≠9:=fun e=>hcc (UInt8.toNat_inj.1 e)
     simpa using (show ¬(c.toNat:Int)=9 by omega)
    have H9:=hide hcc;clear hcc
    by_cases hcc:c=10
    ·subst hcc;have HE2:=hide (show Tx.esc true 10=[38,35,49,48,59] by decide);rw[HE2.out] at Key;clear HWb;have HW:=hide (HWs.out [38,35,49,48,59] (by decide))
     go_wp2_with fail
     refine HW.out.mono ?_;rintro e w2 ⟨⟨v,rfl⟩,hb2⟩;have HB2:=hide hb2;clear hb2;dsimp only;go_wp2
     go_roundg (N-(j+1))
     case measure=>have:=Hg.out;omega
     case rel=>exact⟨j+1,rfl,by omega,by first|rfl|go_num,Key.out _ HB2.out⟩
    have h10:((c.toNat:Int)==10)=false:=by
     have:c.toNat≠10:=fun e=>hcc (UInt8.toNat_inj.1 e)
     simpa using (show ¬(c.toNat:Int)=10 by omega)
    have H10:=hide hcc;clear hcc
    have HE2:=hide (show Tx.esc true c=[c] by
     unfold Tx.esc;rw[if_neg H38.out,if_neg H60.out,if_neg H62.out,if_neg H13.out,if_neg (fun h=>H34.out h.2),if_neg (fun h=>H9.out h.2),if_neg (fun h=>H10.out h.2)])
    rw[HE2.out] at Key;clear HWs;have HW:=hide HWb.out
    go_wp2_with fail
    refine HW.out.mono ?_;rintro e w2 ⟨rfl,hb2⟩;have HB2:=hide hb2;clear hb2;dsimp only;go_wp2
    go_roundg (N-(j+1))
    case measure=>have:=Hg.out;omega
    case rel=>exact⟨j+1,rfl,by omega,by first|rfl|go_num,Key.out _ HB2.out⟩
   | false=>
    by_cases hcc:c=38
    ·subst hcc;have HE2:=hide (show Tx.esc false 38=[38,97,109,112,59] by unfold Tx.esc;simp);rw[HE2.out] at Key;clear HWb;have HW:=hide (HWs.out [38,97,109,112,59] (by decide))
     go_wp2_with fail
     refine HW.out.mono ?_;rintro e w2 ⟨⟨v,rfl⟩,hb2⟩;have HB2:=hide hb2;clear hb2;dsimp only;go_wp2
     go_roundg (N-(j+1))
     case measure=>have:=Hg.out;omega
     case rel=>exact⟨j+1,rfl,by omega,by first|rfl|go_num,Key.out _ HB2.out⟩
    have h38:((c.toNat:Int)==38)=false:=by
     have:c.toNat≠38:=fun e=>hcc (UInt8.toNat_inj.1 e)
     simpa using (show ¬(c.toNat:Int)=38 by omega)
    have H38:=hide hcc;clear hcc
    by_cases hcc:c=60
    ·subst hcc;have HE2:=hide (show Tx.esc false 60=[38,108,116,59] by unfold Tx.esc;simp);rw[HE2.out] at Key;clear HWb;have HW:=hide (HWs.out [38,108,116,59] (by decide))
     go_wp2_with fail
     refine HW.out.mono ?_;rintro e w2 ⟨⟨v,rfl⟩,hb2⟩;have HB2:=hide hb2;clear hb2;dsimp only;go_wp2
     go_roundg (N-(j+1))
     case measure=>have:=Hg.out;omega
     case rel=>exact⟨j+1,rfl,by omega,by first|rfl|go_num,Key.out _ HB2.out⟩
    have h60:((c.toNat:Int)==60)=false:=by
     have:c.toNat≠60:=fun e=>hcc (UInt8.toNat_inj.1 e)
     simpa using (show ¬(c.toNat:Int)=60 by omega)
    have H60:=hide hcc;clear hcc
    by_cases hcc:c=62
    ·subst hcc;have HE2:=hide (show Tx.esc false 62=[38,103,116,59] by unfold Tx.esc;simp);rw[HE2.out] at Key;clear HWb;have HW:=hide (HWs.out [38,103,116,59] (by decide))
     go_wp2_with fail
     refine HW.out.mono ?_;rintro e w2 ⟨⟨v,rfl⟩,hb2⟩;have HB2:=hide hb2;clear hb2;dsimp only;go_wp2
     go_roundg (N-(j+1))
     case measure=>have:=Hg.out;omega
     case rel=>exact⟨j+1,rfl,by omega,by first|rfl|go_num,Key.out _ HB2.out⟩
    have h62:((c.toNat:Int)==62)=false:=by
     have:c.toNat≠62:=fun e=>hcc (UInt8.toNat_inj.1 e)
     simpa using (show ¬(c.toNat:Int)=62 by omega)
    have H62:=hide hcc;clear hcc
    by_cases hcc:c=13
    ·subst hcc;have HE2:=hide (show Tx.esc false 13=[38,35,49,51,59] by unfold Tx.esc;simp);rw[HE2.out] at Key;clear HWb;have HW:=hide (HWs.out [38,35,49,51,59] (by decide))
     go_wp2_with fail
     refine HW.out.mono ?_;rintro e w2 ⟨⟨v,rfl⟩,hb2⟩;have HB2:=hide hb2;clear hb2;dsimp only;go_wp2
     go_roundg (N-(j+1))
     case measure=>have:=Hg.out;omega
     case rel=>exact⟨j+1,rfl,by omega,by first|rfl|go_num,Key.out _ HB2.out⟩
    have h13:((c.toNat:Int)==13)=false:=by
     have:c.toNat≠13:=fun e=>hcc (UInt8.toNat_inj.1 e)
     simpa using (show ¬(c.toNat:Int)=13 by omega)
    have H13:=hide hcc;clear hcc
    have HE2:=hide (show Tx.esc false c=[c] by
     unfold Tx.esc;rw[if_neg H38.out,if_neg H60.out,if_neg H62.out,if_neg H13.out,if_neg (fun h=>by cases h.1),if_neg (fun h=>by cases h.1),if_neg (fun h=>by cases h.1)])
    rw[HE2.out] at Key;clear HWs;have HW:=hide HWb.out
    go_wp2_with fail
    refine HW.out.mono ?_;rintro e w2 ⟨rfl,hb2⟩;have HB2:=hide hb2;clear hb2;dsimp only;go_wp2
    go_roundg (N-(j+1))
    case measure=>have:=Hg.out;omega
    case rel=>exact⟨j+1,rfl,by omega,by first|rfl|go_num,Key.out _ HB2.out⟩
  ·have hjN:j=N:=by omega
   subst hjN;obtain⟨r,hbf,hr,hz⟩:=HBg.out;have hbw:w.heap.size≤wr.heap.size:=Nat.le_trans (Nat.le_of_lt hw0) hz.size;have HS:=hide (hbf.bx.str hbw);have HBl:=hide (HBg.out.below HB0.out (Nat.le_refl _) (Nat.le_of_lt hw0));clear hbf hr hz;rw[List.take_of_length_le (by rw[HN.out];exact Nat.le_refl _)] at HS
   go_wp2_with fail
   refine HS.out.mono ?_;rintro e w2 ⟨rfl,hb2⟩;have HB2:=hide (HBl.out.trans hb2);clear hb2;dsimp only;go_wp2;go_ret;exact⟨rfl,HB2.out⟩
end
section
open Go.RowKit Tk Sx Go.WideShapes

namespace Opm
def mayOn(seen:List L):List Dcl→Bool
 | []=>true
 | x :: r=>decide (x.pre≠[])&&(Tx.isLine x.pre&&(Tx.isLine x.ns&&(!decide (x.pre∈seen)&&mayOn (x.pre :: seen) r)))
def may(l:List Dcl):Bool:=mayOn [] l&&decide (l.length≤64)
end Opm
theorem wput_any(B b R:Nat)(l:L)(ss:List L)(w:World)(hB:Bx B b l w)(hBw:B≤w.heap.size)(hR:Blk w R 9 (ostVs ss).toArray)(hRb:R≠b)(hn:ss.length≤1000)(hlen:l.length+ss.flatten.length≤100000000000) :
  Calls Tryz.prog 14 #[.slice (some ⟨R,0,none⟩) ss.length ss.length,.pointer (some ⟨b,0,none⟩)] w fun e w'=>(∃v,e=.returned v)∧Bx B b (l++ss.flatten) w'∧BlT B b w w':=by
 obtain⟨m,hm⟩:∃m,ss.length=m:=⟨_,rfl⟩;have Hm:=hide hm;have HR:=hide hR;have HB:=hide hB;rw[hm] at hn ⊢;clear hm hR hB
 go_enter Tryz.func14,Tryz.ntmps14
 go_wp2
 go_loopg [4,7,8,9,10,11,12,13] m (fun gk v4 v7 v8 v9 v10 v11 v12 v13 wr=>∃j:Nat,v7=.int .i64 (j:Int)∧gk=m-j∧j≤m∧Bx B b (l++(ss.take j).flatten) wr∧BlT B b w wr)
 case atStart=>exact⟨0,rfl,rfl,by omega,by simpa using HB.out,BlT.refl _ _ _⟩
 case round=>
  obtain⟨j,rfl,hgk,hj,hbx,hbt⟩:=hrel;have Hgk:=hide hgk;have HBx:=hide hbx;have HBt:=hide hbt;clear hgk hbx hbt
  by_cases hlt:j<m
  ·obtain⟨t,ht⟩:∃t,ss[j]?=some t:=⟨_,List.getElem?_eq_getElem (by rw[Hm.out];exact hlt)⟩;have hRr:=HBt.out.blk HR.out hRb (by decide)
   have hc:wr.cell? ⟨R,j,none⟩=some (.string (bstr t)):=by
    rw[hRr.cell j];simp[ostVs,ht]
   have htk:(ss.take (j+1)).flatten=(ss.take j).flatten++t:=by
    rw[List.take_add_one,ht];simp
   have hle:(l++(ss.take j).flatten).length+t.length≤140737488355328:=by
    have h1:((ss.take (j+1)).flatten).length≤ss.flatten.length:=by
     have h2:=congrArg List.length (congrArg List.flatten (List.take_append_drop (j+1) ss));rw[List.flatten_append,List.length_append] at h2;omega
    rw[htk,List.length_append] at h1;rw[List.length_append];omega
   have HW:=hide (HBx.out.ws t hle (Nat.le_trans hBw HBt.out.size));have Htk:=hide htk;have hjj:(0:Int)≤j∧(j:Int)<m:=by omega
   clear ht hRr htk hle
   go_wp2_with fail
   refine HW.out.mono ?_;rintro e w1 ⟨⟨v,rfl⟩,hb1,hk1⟩;have HB1:=hide hb1;have HK1:=hide (HBt.out.trans hk1);clear hb1 hk1;dsimp only;go_wp2
   go_roundg (m-(j+1))
   case measure=>have:=Hgk.out;omega
   case rel=>exact⟨j+1,by first|rfl|go_num,rfl,by omega,by rw[Htk.out,←List.append_assoc];exact HB1.out,HK1.out⟩
  have hje:j=m:=by omega
  have hlt2:¬(j:Int)<(m:Int):=by omega
  have HF:=hide (show Bx B b (l++ss.flatten) wr from by
   have:=HBx.out;rwa[hje,←Hm.out,List.take_length] at this)
  clear hje;go_wp2;go_end0;exact⟨⟨_,rfl⟩,HF.out,HBt.out⟩
theorem OMay_any(l:List Dcl)(A:Option Addr)(c:Nat)(w:World)(hR:Reads w w.heap.size 2 A l.length (dcls l))(hu:∀x∈l,x.pre.length≤100000∧x.ns.length≤100000)(hl:l.length≤1000000) :
  Calls Tryz.prog 8 #[.slice A l.length c] w fun e w'=>e=.returned (.bool (Opm.may l))∧Below w.heap.size w w':=by
 obtain⟨n,hn⟩:∃n,l.length=n:=⟨_,rfl⟩;have HR:=hide hR;have HU:=hide hu;have Hn:=hide hn;have hmm:=@run_makeMap Tryz.prog;have HS0:=hide (SeenS.new w);have HL:=hide (fun (t:L) (W:World) (ht:t.length≤200000)=>isLine_any t W ht);have hz:decide (l.length≤64)=decide (n≤64):=by rw[hn]
 have hmy:Opm.may l=(Opm.mayOn [] l&&decide (n≤64)):=by unfold Opm.may;rw[hz]
 have Hmy:=hide hmy;rw[hn] at hl ⊢;clear hR hu hn hz hmy
 go_enter Tryz.func8,Tryz.ntmps8
 go_wp2;clear hmm;obtain⟨w0,hw0⟩:∃w0,w.alloc (.map #[] 0)=w0:=⟨_,rfl⟩;have HB0:=hide (hw0▸below_alloc w (.map #[] 0));rw[hw0] at HS0 ⊢;obtain⟨M,hM⟩:∃M,w.heap.size=M:=⟨_,rfl⟩;have HM:=hide hM;rw[hM] at HS0;simp only[hM];clear hw0 hM
 go_loopg [2,5,9,10,11,12,13,14,15,16,17,18,19,20,21,22,23,24,25,26,27,28,29,30,31,32,33,34,35] n (fun gk v2 v5 v9 v10 v11 v12 v13 v14 v15 v16 v17 v18 v19 v20 v21 v22 v23 v24 v25 v26 v27 v28 v29 v30 v31 v32 v33 v34 v35 wr=>∃(j:Nat) (D:DataW Unit) (seen:List L),v9=.int .i64 (j:Int)∧gk=n-j∧j≤n∧SeenS wr M j seen D∧Opm.mayOn [] l=Opm.mayOn seen (l.drop j)∧Below w.heap.size w wr)
 case atStart=>exact⟨0,_,[],rfl,rfl,by omega,HS0.out,rfl,HB0.out⟩
 case round=>
  obtain⟨j,D,seen,rfl,hgk,hj,hs,heq,hb⟩:=hrel;have Hgk:=hide hgk;have HS:=hide hs;have HEq:=hide heq;have HB:=hide hb;clear hgk hs heq hb
  by_cases hlt:j<n
  ·have hjl:j<l.length:=by rw[Hn.out];exact hlt
   obtain⟨b,off,rfl,hbB,x0,x1⟩:=(HR.out.below HB.out).dcl hjl;obtain⟨hu1,hu2⟩:=HU.out l[j] (List.getElem_mem hjl);have hd:l.drop j=l[j] :: l.drop (j+1):=List.drop_eq_getElem_cons hjl;obtain⟨⟨u,t⟩,hx⟩:∃x,l[j]=x:=⟨_,rfl⟩;rw[hx] at hd x0 x1 hu1 hu2;dsimp only at x0 x1 hu1 hu2;have hst:Opm.mayOn seen (l.drop j)=(decide (u≠[])&&(Tx.isLine u&&(Tx.isLine t&&(!decide (u∈seen)&&Opm.mayOn (u :: seen) (l.drop (j+1)))))):=by rw[hd,Opm.mayOn]
   have Hst:=hide hst;have hjj:(0:Int)≤j∧(j:Int)<n:=by omega
   have hB1:=below_alloc wr (.cells #[.string (bstr u),.string (bstr t)] 35);have HB1:=hide (HB.out.trans (hB1.mono HB.out.size));have hK1:=Blk.new wr 35 #[.string (bstr u),.string (bstr t)];have HS1:=hide (HS.out.same (hB1.block _ HS.out.lt));have HK1:=hide hK1;have k0:=hK1.cell 0;have k1:=hK1.cell 1;clear hd hx hst hB1 hK1
   by_cases hue:u=[]
   ·subst hue;have e1:=emp_is [];have HF:=hide (show Opm.may l=false by rw[Hmy.out,HEq.out,Hst.out];simp);clear Hst HEq;go_wp2;go_ret;rw[HF.out];exact⟨rfl,HB1.out⟩
   have e1:=emp_no hue;have hde:decide (u≠[])=true:=decide_eq_true hue;rw[hde,Bool.true_and] at Hst;clear hue hde;have HF:=hide (show ∀q,Opm.mayOn seen (l.drop j)=q→Opm.may l=(q&&decide (n≤64)) from fun q hq=>by rw[Hmy.out,HEq.out,hq]);obtain⟨q1,hq1⟩:∃q,Tx.isLine u=q:=⟨_,rfl⟩;obtain⟨q2,hq2⟩:∃q,Tx.isLine t=q:=⟨_,rfl⟩;have HL1:=hide (fun W=>HL.out u W (by omega));have HL2:=hide (fun W=>HL.out t W (by omega));simp only[hq1] at HL1;simp only[hq2] at HL2;rw[hq1,hq2] at Hst;clear hq1 hq2
   go_wp2_with fail
   refine (HL1.out _).mono ?_;rintro e w2 ⟨rfl,hb2⟩;have HB2:=hide (HB1.out.trans (hb2.mono HB1.out.size));have HS2:=hide (HS1.out.same (hb2.block _ HS1.out.lt));have hK2:=HK1.out.go hb2;have j0:=hK2.cell 0;have j1:=hK2.cell 1;have HK2:=hide hK2;clear hb2 hK2 k0 k1 x0 x1;dsimp only
   cases q1 with
   | false=>
    have HF:=hide (show Opm.may l=false by rw[HF.out _ Hst.out];simp);clear Hst HEq;go_wp2;go_ret;rw[HF.out];exact⟨rfl,HB2.out⟩
   | true=>
    go_wp2_with fail
    refine (HL2.out _).mono ?_;rintro e w3 ⟨rfl,hb3⟩;have HB3:=hide (HB2.out.trans (hb3.mono HB2.out.size));have hS3:=HS2.out.same (hb3.block _ HS2.out.lt);have hK3:=HK2.out.go hb3;have i0:=hK3.cell 0;have HS3:=hide hS3;have HFr:=hide (fresh_any M j seen D u w3 hS3 (by omega) (by unfold maxLen;omega));clear hb3 hK3 hS3 j0 j1;dsimp only
    cases q2 with
    | false=>
     have HF:=hide (show Opm.may l=false by rw[HF.out _ Hst.out];simp);clear Hst HEq;go_wp2;go_ret;rw[HF.out];exact⟨rfl,HB3.out⟩
    | true=>
     go_wp2_with fail
     refine HFr.out.mono ?_;rintro e w4 ⟨rfl,hg4,D',hs4⟩;have HB4:=hide (HB3.out.grown hg4 HB3.out.size (fun k e=>by injection e with e;have:=HM.out;omega));have HS4:=hide hs4;clear hg4 hs4;dsimp only;obtain⟨q3,hq3⟩:∃q,decide (u∈seen)=q:=⟨_,rfl⟩;rw[hq3] at Hst ⊢;clear hq3
     cases q3 with
     | true=>
      have HF:=hide (show Opm.may l=false by rw[HF.out _ Hst.out];simp);clear Hst HEq;simp only[Bool.not_true];go_wp2;go_ret;rw[HF.out];exact⟨rfl,HB4.out⟩
     | false=>
      have HEq2:=hide (show Opm.mayOn [] l=Opm.mayOn (u :: seen) (l.drop (j+1)) by rw[HEq.out,Hst.out];simp);clear Hst HEq;simp only[Bool.not_false];go_wp2
      go_roundg (n-(j+1))
      case measure=>have:=Hgk.out;omega
      case rel=>exact⟨j+1,_,_,by first|rfl|go_num,rfl,by omega,HS4.out,HEq2.out,HB4.out⟩
  have hje:j=n:=by omega
  have hlt2:¬(j:Int)<(n:Int):=by omega
  have HF:=hide (show Opm.may l=decide (n≤64) by rw[Hmy.out,HEq.out,hje,←Hn.out,List.drop_length];rfl);have hq:decide ((n:Int)≤64)=decide (n≤64):=by rw[decide_eq_decide];omega
  have Hq:=hide hq;clear hje hq;go_wp2;go_ret;rw[HF.out];refine⟨?_,HB.out⟩;show Ending.returned (.bool (decide ((n:Int)≤64)))=_;rw[Hq.out]
end
section
open Go

def depsLt(md:Region.Mode)(ops:Array Oper):Bool:=(List.range ops.size).all fun i=>((ops[i]?).map fun o=>o.after.all fun e=>!Region.binds md e||decide (e.on<i)).getD false
def Wall(p:Prop):Prop:=p
theorem wall_in{p:Prop}(h:Wall p):p:=h
def waitsOn(md:Region.Mode)(ops:Array Oper)(i j:Nat):Bool:=((ops[i]?).map fun o=>o.after.any fun e=>Region.binds md e&&e.on==j).getD false
theorem orL{a b c:Prop}(h:a→c)(hb:¬b):a∨b→c:=fun h2=>h2.elim h fun h3=>absurd h3 hb
section
variable {F:Fence} {n:Nat} {P:Program} {ops:Array Oper} {Q:Exit→Act→World→Prop} {md:Region.Mode} {Iv:(Nat→Prop)→Act→World→Prop}
theorem inv_set{listed:Array Bool}{i:Nat}(hi:i<listed.size):(fun k=>(listed.setIfInBounds i true).getD k false=true)=fun k=>listed.getD k false=true∨k=i:=by
 funext k
 by_cases h:k=i
 ·subst h;simp[Array.getD,hi]
 simp only[Array.getD_eq_getD_getElem?,Array.getElem?_setIfInBounds,if_neg (fun e:i=k=>h e.symm),h,or_false]
theorem wpAnyIn_inv(hl:depsLt md ops=true)
  (hstep:∀(L:Nat→Prop) (a:Act) (w:World) (i:Nat),Iv L a w→i<ops.size→¬L i→(∀j,waitsOn md ops i j=true→L j)→(∀j,waitsOn md ops j i=true→¬L j)→wpOpIn F n P ops Q i (Iv fun k=>L k∨k=i) a w)
  (hdone:∀(L:Nat→Prop) (a:Act) (w:World),Iv L a w→(∀i,i<ops.size→L i)→Q .normal a w) :
  ∀(fuel:Nat) (listed:Array Bool) (a:Act) (w:World),listed.size=ops.size→(∀j k,listed.getD j false=true→waitsOn md ops j k=true→listed.getD k false=true)→listed.toList.count false≤fuel→Iv (fun k=>listed.getD k false=true) a w→wpAnyIn F n P md ops Q fuel listed a w:=by
 have hall:∀(listed:Array Bool),listed.size=ops.size→Region.ready md ops listed=[]→∀i,i<ops.size→listed.getD i false=true:=by
  intro listed hs hr i
  induction i using Nat.strongRecOn with
  | _ i ih=>
   intro hi
   cases hv:listed.getD i false with
   | true=>rfl
   | false=>
    exfalso
    have hm:i∈Region.ready md ops listed:=by
     unfold Region.ready;rw[List.mem_filter];refine⟨List.mem_range.2 hi,?_⟩
     have h1:listed.getD i true=false:=by
      simp only[Array.getD,hs,hi,dif_pos] at hv ⊢;exact hv
     have h2:=List.all_eq_true.1 hl i (List.mem_range.2 hi);rw[Array.getElem?_eq_getElem hi] at h2 ⊢;simp only[Option.map_some,Option.getD_some] at h2 ⊢;rw[h1,Bool.not_false,Bool.true_and,Array.all_eq_true'];intro e he;have h3:=Array.all_eq_true'.1 h2 e he
     cases hb:Region.binds md e with
     | false=>rfl
     | true=>
      rw[hb] at h3;have h4:e.on<i:=by simpa using h3
      rw[ih _ h4 (by omega),Bool.or_true]
    rw[hr] at hm;cases hm
 intro fuel
 induction fuel with
 | zero=>
  intro listed a w hs hcl hc hI
  have h0:∀i,i<listed.size→listed.getD i true=true:=by
   intro i hi;have:=List.count_eq_zero.1 (Nat.le_zero.1 hc);simp only[Array.getD,hi,dif_pos]
   cases hv:listed[i] with
   | true=>exact hv
   | false=>exact absurd (hv▸Array.getElem_mem_toList hi) this
  have hr:Region.ready md ops listed=[]:=by
   unfold Region.ready;rw[List.filter_eq_nil_iff];intro i hi;rw[h0 i (by rw[hs];exact List.mem_range.1 hi)];simp
  exact⟨hr,hdone _ a w hI (hall listed hs hr)⟩
 | succ fuel ih=>
  intro listed a w hs hcl hc hI;refine⟨fun hr=>hdone _ a w hI (hall listed hs hr),fun i hi=>?_⟩;unfold Region.ready at hi;rw[List.mem_filter] at hi;obtain⟨hi1,hi2⟩:=hi;have hi1:=List.mem_range.1 hi1;have ho:ops[i]?=some ops[i]:=Array.getElem?_eq_getElem hi1;rw[ho] at hi2;simp only[Option.map_some,Option.getD_some,Bool.and_eq_true,Bool.not_eq_true'] at hi2
  have hni:¬listed.getD i false=true:=fun h=>by
   have h1:=hi2.1;simp only[Array.getD,hs,hi1,dif_pos] at h h1;rw[h] at h1;cases h1
  have hdp:∀j,waitsOn md ops i j=true→listed.getD j false=true:=fun j hj=>by
   unfold waitsOn at hj;rw[ho] at hj;simp only[Option.map_some,Option.getD_some] at hj;obtain⟨e,he,hb⟩:=Array.any_eq_true'.1 hj;simp only[Bool.and_eq_true,beq_iff_eq] at hb;have:=Array.all_eq_true'.1 hi2.2 e he;rw[hb.1,hb.2] at this
   simpa using this
  refine wpOpIn_mono (fun a' w' h=>ih _ a' w' (by simpa using hs) ?_ ?_ ?_) (hstep _ a w i hI hi1 hni hdp fun j hj hl=>hni (hcl j i hl hj))
  ·intro j k hj hw;have h1:=congrFun (inv_set (listed:=listed) (i:=i) (by rw[hs];exact hi1)) j;have h2:=congrFun (inv_set (listed:=listed) (i:=i) (by rw[hs];exact hi1)) k;rw[h1] at hj;rw[h2]
   rcases hj with hj|rfl
   ·exact .inl (hcl j k hj hw)
   exact .inl (hdp k hw)
  ·have hlt:i<listed.toList.length:=by simpa[hs] using hi1
   have hf:listed.toList[i]=false:=by
    have:=hi2.1
    simpa[Array.getD,hs,hi1] using this
   rw[Array.toList_setIfInBounds,List.count_set hlt,hf];have hpos:0<listed.toList.count false:=List.count_pos_iff.2 (hf▸List.getElem_mem hlt);show listed.toList.count false-1+0≤fuel;omega
  rw[inv_set (by rw[hs];exact hi1)];exact h
theorem wpIn_region_inv{id:Nat}{a:Act}{w:World}(hm:P.follows .mixedOrders=true)(hl:depsLt .any ops=true)(Iv:(Nat→Prop)→Act→World→Prop)(h0:Iv (fun _=>False) a w.drew)
  (hstep:∀(L:Nat→Prop) (a:Act) (w:World) (i:Nat),Iv L a w→i<ops.size→¬L i→(∀j,waitsOn .any ops i j=true→L j)→(∀j,waitsOn .any ops j i=true→¬L j)→wpOpIn F n P ops Q i (Iv fun k=>L k∨k=i) a w)
  (hdone:∀(L:Nat→Prop) (a:Act) (w:World),Iv L a w→(∀i,i<ops.size→L i)→Q .normal a w):(Code.region id ops true).wpIn F n P Q a w:=by
 refine wpIn_region_any hm (wpAnyIn_inv hl hstep hdone _ _ _ _ (by simp) (fun j k h=>by simp[Array.getD] at h) (by simp) ?_)
 have:(fun k=>(Array.replicate ops.size false).getD k false=true)=fun _=>False:=by
  funext k
  simp[Array.getD]
 rw[this];exact h0
theorem in_op{i:Nat}{o:Oper}{K:Act→World→Prop}{a:Act}{w:World}(ho:ops[i]?=some o)(hw:Region.wanted o (yielded ops a.tmps)=true)(h:∀K':Act→World→Prop,(∀a w,K a w→K' a w)→Oper.wpIn F n P o a w K' Q):wpOpIn F n P ops Q i K a w:=by
 unfold wpOpIn;rw[ho];dsimp only;rw[if_pos hw];exact h K fun _ _ h=>h
end
end
end Go.Proofs.YtifiiojchlaghaaGreatDoor
