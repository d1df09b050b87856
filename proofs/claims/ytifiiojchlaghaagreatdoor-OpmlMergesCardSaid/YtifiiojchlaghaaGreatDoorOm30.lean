/- NFC: nfc.whole, Decomposed, Composed, Nfc. And more. -/
import Derived.Test.YtifiiojchlaghaaGreatDoorOm01
import Derived.Test.YtifiiojchlaghaaGreatDoorOm04
import Derived.Test.YtifiiojchlaghaaGreatDoorOm11
import Derived.Test.YtifiiojchlaghaaGreatDoorOm26
import Derived.Test.YtifiiojchlaghaaGreatDoorOm29
import Derived.Laws.RangeAny
import Derived.Sort.LoopGhostIn
set_option linter.unusedSimpArgs false
set_option maxRecDepth 100000
set_option maxHeartbeats 8000000
set_option linter.unusedVariables false
namespace Go.Proofs.YtifiiojchlaghaaGreatDoor
section
open Go.RowKit Go.WideShapes

theorem VA:∀(k at_:Nat) (l:List UInt8),∀p∈Utf.gw k at_ l,p.2<0∨Utf.isScalar p.2=true
 | k,at_,[],p,h=>by cases k<;>simp[Utf.gw] at h
 | 0,_,c :: l,p,h=>by unfold Utf.gw at h;cases h
 | k+1,at_,c :: l,p,h=>by
  unfold Utf.gw at h
  rcases List.mem_cons.1 h with rfl|h
  ·have:=Vx ⟨(c :: l).toArray⟩ 0
   simpa using this
  exact VA k _ _ p h
theorem Vy:∀(k at_:Nat) (l:List UInt8),(Utf.gw k at_ l).length≤k
 | k,at_,[]=>by cases k<;>simp[Utf.gw]
 | 0,_,c :: l=>by simp[Utf.gw]
 | k+1,at_,c :: l=>by
  unfold Utf.gw;rw[List.length_cons];have:=Vy k (at_+(Utf.piece (c :: l)).2.toNat) ((c :: l).drop (Utf.piece (c :: l)).2.toNat);omega
theorem yw(l:List UInt8):(bo l).length≤l.length:=by
 unfold bo Utf.pieces;rw[List.length_map];exact Vy _ _ _
theorem FF{l:List UInt8}(h:Right l):∀x∈bo l,Nf.Ok x:=by
 intro x hx;unfold bo at hx;obtain⟨p,hp,rfl⟩:=List.mem_map.1 hx;have h1:=h p hp
 rcases VA _ _ _ p hp with h2|h2
 ·omega
 simp[Utf.isScalar] at h2;exact⟨by omega,by omega⟩
instance(l:List UInt8):Decidable (Right l):=by unfold Right;infer_instance
namespace Nf
def via(f:List Int→List Int)(s:List UInt8):List UInt8:=if Right s then (jR (f (bo s))).getD [] else s
def gS(s:List UInt8):List UInt8:=via dec s
def jF(s:List UInt8):List UInt8:=via compose s
def nD(s:List UInt8):List UInt8:=if s.any (fun c=>decide (128≤c.toNat)) then jF (gS s) else s
theorem WU{l:List Int}:((jR l).getD []).length≤4*l.length:=by
 unfold jR;split
 ·exact IJ l
 simp
theorem Mg:∀(n:Nat) (l:List Int),l.length<n→((runs n l).flatMap aC).length=l.length
 | 0,_,h=>by omega
 | n+1,[],_=>rfl
 | n+1,r :: l,h=>by
  rw[runs,List.flatMap_cons,List.length_append,jz,Mg n _ (by rw[List.length_drop];simp at h;omega),List.length_drop,List.length_cons,List.length_cons];have:=LF l;omega
theorem QI(l:List Int):(dec l).length≤16*l.length:=by
 unfold dec sort;rw[Mg _ _ (Nat.lt_succ_self _)];exact xh l
theorem IW(l:List Int):(compose l).length≤l.length:=by
 have hl:∀(l:List Int) (s:Cs),(l.foldl gR s).out.length≤s.out.length+l.length:=fun l=>by
  induction l with
  | nil=>intro s;simp
  | cons x l ih=>intro s;rw[List.foldl_cons];have:=ih (gR s x);have:=QC s x;rw[List.length_cons];omega
 have:=hl l ⟨[],-1,-1⟩
 simpa[compose] using this
theorem Ja(s:List UInt8):(gS s).length≤64*s.length:=by
 unfold gS via;split
 ·refine Nat.le_trans WU ?_;have:=QI (bo s);have:=yw s;omega
 omega
end Nf
theorem FB(l:List Int):∃b,nH l=.tuple #[.string (aa ((Nf.jR l).getD [])),.bool b]:=by
 unfold nH
 cases Nf.jR l with
 | some x=>exact⟨true,rfl⟩
 | none=>exact⟨false,rfl⟩
theorem akT(s:ByteArray)(w:World)(hs:s.size≤250000) :
  Calls Tryz.prog 109 #[.string s,.func (.func 111) #[] #[]] w fun e w'=>e=.returned (.string (aa (Nf.gS s.data.toList)))∧Below w.heap.size w w':=by
 have bt:=hide (Xd s w (by omega));have hl:=yw s.data.toList;rw[b9] at hl
 by_cases hR:Right s.data.toList
 ·have HV:=hide (show Nf.gS s.data.toList=(Nf.jR (Nf.dec (bo s.data.toList))).getD [] by unfold Nf.gS Nf.via;rw[if_pos hR]);have ig:=hide (FF hR);have HR:=hide hR;have aT:=Nf.QI (bo s.data.toList);have HD:=hide (fun A c W h=>abo (bo s.data.toList) A c W h ig.out (by omega));have HT:=hide (fun A c W h=>Xf (Nf.dec (bo s.data.toList)) A c W h (by omega));obtain⟨bb,jm⟩:=FB (Nf.dec (bo s.data.toList));have ue:=hide jm;clear hR hl aT jm;rw[HV.out];generalize bo s.data.toList=l at *
  go_enter Tryz.func109,Tryz.ntmps109
  go_wp2_with fail
  refine bt.out.mono ?_;rintro e w1 ⟨au,⟨_,A,c,rfl,hr⟩|⟨hn,_⟩⟩
  ·have az:=hide au;have gy:=hide hr;clear au hr;dsimp only
   go_wp2_with fail
   refine (HD.out A c w1 gy.out).mono ?_;rintro e w2 ⟨A2,c2,rfl,bG,ag⟩;have aL:=hide bG;have ah:=hide (az.out.trans (ag.mono az.out.size));clear bG ag;dsimp only
   go_wp2_with fail
   refine (HT.out A2 c2 w2 (Reads.dA aL.out)).mono ?_;rintro e w3 ⟨rfl,aD⟩;have ax:=hide (ah.out.trans (aD.mono ah.out.size));clear aD;rw[ue.out];dsimp only;go_wp2;go_ret;exact⟨rfl,ax.out⟩
  exact absurd HR.out hn
 have HV:=hide (show Nf.gS s.data.toList=s.data.toList by unfold Nf.gS Nf.via;rw[if_neg hR]);have HR:=hide hR;clear hR hl;rw[HV.out]
 go_enter Tryz.func109,Tryz.ntmps109
 go_wp2_with fail
 refine bt.out.mono ?_;rintro e w1 ⟨au,⟨h1,_⟩|⟨_,rfl⟩⟩
 ·exact absurd h1 HR.out
 have az:=hide au;clear au;dsimp only;go_wp2;go_ret;exact⟨rfl,az.out⟩
theorem akS(s:ByteArray)(w:World)(hs:s.size≤16000000) :
  Calls Tryz.prog 109 #[.string s,.func (.func 110) #[] #[]] w fun e w'=>e=.returned (.string (aa (Nf.jF s.data.toList)))∧Below w.heap.size w w':=by
 have bt:=hide (Xd s w (by omega));have hl:=yw s.data.toList;rw[b9] at hl
 by_cases hR:Right s.data.toList
 ·have HV:=hide (show Nf.jF s.data.toList=(Nf.jR (Nf.compose (bo s.data.toList))).getD [] by unfold Nf.jF Nf.via;rw[if_pos hR]);have ig:=hide (FF hR);have HR:=hide hR;have aT:=Nf.IW (bo s.data.toList);have HD:=hide (fun A c W h=>aa3 (bo s.data.toList) A c W h ig.out (by omega));have HT:=hide (fun A c W h=>Xf (Nf.compose (bo s.data.toList)) A c W h (by omega));obtain⟨bb,jm⟩:=FB (Nf.compose (bo s.data.toList));have ue:=hide jm;clear hR hl aT jm;rw[HV.out];generalize bo s.data.toList=l at *
  go_enter Tryz.func109,Tryz.ntmps109
  go_wp2_with fail
  refine bt.out.mono ?_;rintro e w1 ⟨au,⟨_,A,c,rfl,hr⟩|⟨hn,_⟩⟩
  ·have az:=hide au;have gy:=hide hr;clear au hr;dsimp only
   go_wp2_with fail
   refine (HD.out A c w1 gy.out).mono ?_;rintro e w2 ⟨A2,c2,rfl,bG,ag⟩;have aL:=hide bG;have ah:=hide (az.out.trans (ag.mono az.out.size));clear bG ag;dsimp only
   go_wp2_with fail
   refine (HT.out A2 c2 w2 (Reads.dA aL.out)).mono ?_;rintro e w3 ⟨rfl,aD⟩;have ax:=hide (ah.out.trans (aD.mono ah.out.size));clear aD;rw[ue.out];dsimp only;go_wp2;go_ret;exact⟨rfl,ax.out⟩
  exact absurd HR.out hn
 have HV:=hide (show Nf.jF s.data.toList=s.data.toList by unfold Nf.jF Nf.via;rw[if_neg hR]);have HR:=hide hR;clear hR hl;rw[HV.out]
 go_enter Tryz.func109,Tryz.ntmps109
 go_wp2_with fail
 refine bt.out.mono ?_;rintro e w1 ⟨au,⟨h1,_⟩|⟨_,rfl⟩⟩
 ·exact absurd h1 HR.out
 have az:=hide au;clear au;dsimp only;go_wp2;go_ret;exact⟨rfl,az.out⟩
theorem abA(s:ByteArray)(w:World)(hs:s.size≤250000) :
  Calls Tryz.prog 77 #[.string s] w fun e w'=>e=.returned (.string (aa (Nf.gS s.data.toList)))∧Below w.heap.size w w':=by
 have H:=hide (akT s w hs)
 go_enter Tryz.func77,Tryz.ntmps77
 go_wp2_with fail
 refine H.out.mono ?_;rintro e w1 ⟨rfl,hb⟩;have HB:=hide hb;clear hb;dsimp only;go_wp2;go_ret;exact⟨rfl,HB.out⟩
theorem aa5(s:ByteArray)(w:World)(hs:s.size≤16000000) :
  Calls Tryz.prog 76 #[.string s] w fun e w'=>e=.returned (.string (aa (Nf.jF s.data.toList)))∧Below w.heap.size w w':=by
 have H:=hide (akS s w hs)
 go_enter Tryz.func76,Tryz.ntmps76
 go_wp2_with fail
 refine H.out.mono ?_;rintro e w1 ⟨rfl,hb⟩;have HB:=hide hb;clear hb;dsimp only;go_wp2;go_ret;exact⟨rfl,HB.out⟩
theorem get_at(s:ByteArray)(i:Nat)(c:UInt8)(h:s.data.toList[i]?=some c):s.get! (i+0)=c∧i<s.size:=by
 obtain⟨h1,h2⟩:=List.getElem?_eq_some_iff.1 h;rw[b9] at h1;refine⟨?_,h1⟩
 have e:s.get! (i+0)=s[i]'h1:=by
  show s.get! i=_;simp[ByteArray.get!,getElem!_pos,h1];rfl
 rw[e,←h2];exact (Array.getElem_toList ..).symm
theorem abx(s:ByteArray)(i:Nat)(c:UInt8)(h:s.data.toList[i]?=some c)(hb:c.toNat<128):Utf8.decode s i=(c.toNat,1):=by
 obtain⟨e,_⟩:=get_at s i c h;unfold Utf8.decode;simp only[e];rw[if_pos hb]
theorem abw(s:ByteArray)(i:Nat)(c:UInt8)(h:s.data.toList[i]?=some c)(hb:¬c.toNat<128):128≤(Utf8.decode s i).1:=by
 obtain⟨e,_⟩:=get_at s i c h;unfold Utf8.decode;simp only[e];rw[if_neg hb];have hE:128≤Utf8.runeError:=by decide
 repeat' split
 all_goals (try simp only[Bool.and_eq_true,decide_eq_true_eq] at *)
 all_goals (try simp only)
 all_goals omega
theorem decode_le(s:ByteArray)(i:Nat)(c:UInt8)(h:s.data.toList[i]?=some c):(Utf8.decode s i).1≤10000000:=by
 obtain⟨e,_⟩:=get_at s i c h;have hc:=c.toNat_lt;unfold Utf8.decode;simp only[e];have hE:Utf8.runeError≤10000000:=by decide
 repeat' split
 all_goals (try simp only)
 all_goals omega
theorem Below.Bn{w wr:World}(h:Below w.heap.size w wr)(s:ByteArray)(q:Nat):Below w.heap.size w (wr.iterAt w.heap.size s q) :=
 ⟨h.os,h.tape,h.output,by rw[Lib.iterAt_size];exact h.size,fun k hk=>(Lib.iterAt_other _ _ _ _ _ (by omega)).trans (h.block k hk)⟩
theorem afQ(s:ByteArray)(w:World)(hs:s.size≤250000) :
  Calls Tryz.prog 50 #[.string s] w fun e w'=>e=.returned (.string (aa (Nf.nD s.data.toList)))∧Below w.heap.size w w':=by
 have HD:=hide (fun W=>abA s W hs);have hl:=Nf.Ja s.data.toList;rw[b9] at hl;have HC:=hide (fun W=>aa5 (aa (Nf.gS s.data.toList)) W (by rw[aW];omega));rw[bg] at HC;obtain⟨l,hL⟩:∃l,s.data.toList=l:=⟨_,rfl⟩;rw[hL] at HD HC;have HL:=hide hL;have Ps:=hide (show l.length=s.size by rw[←hL,b9]);clear hL hl;rw[HL.out]
 go_enter Tryz.func50,Tryz.ntmps50
 go_wp2;have aJ:Below w.heap.size w (w.iter s 0):=aA w _
 go_loopg [4] s.size (fun gk vk wr=>∃(p:Nat),gk=s.size-p∧p≤s.size∧(∀c∈l.take p,c.toNat<128)∧wr.heap[w.heap.size]?=some (.stringIter s p)∧Below w.heap.size w wr)
 case atStart=>exact⟨0,rfl,by omega,by simp,World.iter_heap _ _ _,aJ⟩
 case round=>
  obtain⟨p,aq,hp,vE,hit,hb⟩:=hrel;have Hg:=hide aq;have N9:=hide vE;have HI:=hide hit;have HB:=hide hb;clear aq vE hb
  by_cases cZ:p<s.size
  ·obtain⟨c,hc⟩:∃c,l[p]?=some c:=⟨_,List.getElem?_eq_getElem (by rw[Ps.out];exact cZ)⟩;have bk:s.data.toList[p]?=some c:=by rw[HL.out];exact hc
   have bD:∀ty,(Instr.next (.pointer (some ⟨w.heap.size,0,none⟩)) true ty).run Tryz.prog wr=_:=fun ty=>Lib.run_next_any_at wr w.heap.size s p ty hit cZ
   by_cases qZ:c.toNat<128
   ·have ky:=abx s p c bk qZ;rw[ky] at bD;dsimp only at bD;obtain⟨z,hz⟩:∃z:Nat,c.toNat=z:=⟨_,rfl⟩;rw[hz] at bD qZ;have hcv:IntKind.i64.wrap (z:Int)=(z:Int):=IntWalk.i64_in _ (by omega);have hlt:¬(128:Int)≤(z:Int):=by omega
    have Hc:=hide hc;have Zi:=hide qZ;have Hz:=hide hz;clear hc bk ky hit hz qZ;go_wp2
    go_roundg (s.size-(p+1))
    case measure=>have:=Hg.out;omega
    case rel=>
     refine⟨p+1,rfl,by omega,?_,Lib.iterAt_heap _ _ _ _ _ HI.out,Below.Bn HB.out _ _⟩;intro c2 bk;rw[List.take_add_one,Hc.out] at bk
     rcases List.mem_append.1 bk with bk|bk
     ·exact N9.out c2 bk
     simp at bk;subst bk;rw[Hz.out];exact Zi.out
   have ky:=abw s p c bk qZ;have hle:=decode_le s p c bk;obtain⟨⟨z,n2⟩,hd⟩:∃q,Utf8.decode s p=q:=⟨_,rfl⟩;rw[hd] at bD ky hle;dsimp only at bD ky hle;have hcv:IntKind.i64.wrap (z:Int)=(z:Int):=IntWalk.i64_in _ (by omega);have tu:(128:Int)≤(z:Int):=by omega
   have HV:=hide (show Nf.nD l=Nf.jF (Nf.gS l) by
    unfold Nf.nD;rw[if_pos (List.any_eq_true.2 ⟨c,List.mem_of_getElem? hc,decide_eq_true (by omega)⟩)])
   have ah:=hide (Below.Bn HB.out s (p+n2));clear hc bk ky hle hit qZ hd
   go_wp2_with fail
   refine (HD.out _).mono ?_;rintro e w2 ⟨rfl,ag⟩;have ax:=hide (ah.out.trans (ag.mono ah.out.size));clear ag;dsimp only
   go_wp2_with fail
   refine (HC.out _).mono ?_;rintro e w3 ⟨rfl,aD⟩;have cd:=hide (ax.out.trans (aD.mono ax.out.size));clear aD;dsimp only;go_wp2;go_ret;exact⟨by rw[HV.out];rfl,cd.out⟩
  have bD:∀ty,(Instr.next (.pointer (some ⟨w.heap.size,0,none⟩)) true ty).run Tryz.prog wr=_:=fun ty=>Lib.run_next_end_at wr w.heap.size s p ty hit cZ
  have HV:=hide (show Nf.nD l=l by
   unfold Nf.nD;rw[if_neg];intro h;obtain⟨c,hc,hd⟩:=List.any_eq_true.1 h;have:=N9.out c (by rw[List.take_of_length_le (by rw[Ps.out];omega)];exact hc);have:=of_decide_eq_true hd
   omega)
  have CR:=hide cZ;have Zu:=hide (show s=aa l by rw[←HL.out,zK]);clear hit cZ;go_wp2;go_ret;exact⟨by rw[HV.out,←Zu.out];rfl,HB.out⟩
end
section
open Go.RowKit Go.WideShapes

namespace Tx
def sp(c:UInt8):Bool:=decide (c.toNat=32∨c.toNat=9∨c.toNat=10∨c.toNat=13)
def lW(l:List UInt8):List UInt8:=l.dropWhile sp
def jS(l:List UInt8):List UInt8:=(l.reverse.dropWhile sp).reverse
def trim(l:List UInt8):List UInt8:=jS (lW l)
theorem akM:∀n:Fin 64,(bits BinOp.and IntKind.u64 (4294977024 / 2 ^ n.val) 1==1)=decide (n.val=32∨n.val=9∨n.val=10∨n.val=13):=by decide +kernel
theorem FE(m:List UInt8)(c:UInt8):jS (m++[c])=if sp c then jS m else m++[c]:=by
 unfold jS;rw[List.reverse_append,List.reverse_singleton,List.singleton_append,List.dropWhile_cons];split
 ·rfl
 rw[List.reverse_cons,List.reverse_reverse]
theorem WY(l:List UInt8):(lW l).length≤l.length:=by
 unfold lW
 induction l with
 | nil=>simp
 | cons c l ih=>rw[List.dropWhile_cons];split<;>simp<;>omega
theorem akg(l:List UInt8):(jS l).length≤l.length:=by
 unfold jS;rw[List.length_reverse];have:=WY l.reverse;unfold lW at this
 simpa using this
theorem akh(l:List UInt8):(trim l).length≤l.length:=Nat.le_trans (akg _) (WY _)
end Tx
theorem aki(c:UInt8)(w:World):Calls Tryz.prog 115 #[.int .u8 (c.toNat:Int)] w fun e w'=>e=.returned (.bool (Tx.sp c))∧w'=w:=by
 obtain⟨n,hn⟩:∃n,c.toNat=n:=⟨_,rfl⟩;obtain⟨q,hq⟩:∃q,Tx.sp c=q:=⟨_,rfl⟩;have hs:decide (n=32∨n=9∨n=10∨n=13)=q:=by rw[←hq,←hn];rfl
 rw[hq,hn]
 by_cases h:n<64
 ·have hz:(n:Int)<64:=by omega
  have HB:=hide ((Tx.akM ⟨n,h⟩).trans hs);clear hs hq
  go_enter Tryz.func115,Tryz.ntmps115
  go_wp2;go_ret;exact⟨aU (dw HB.out),rfl⟩
 have hz:¬(n:Int)<64:=by omega
 have HB:=hide (show q=false from hs.symm.trans (decide_eq_false (by omega)));rw[HB.out];clear hs hq
 go_enter Tryz.func115,Tryz.ntmps115
 go_wp2;go_ret;exact⟨rfl,rfl⟩
theorem zJ(l:List UInt8)(a b:Nat):(aa l).extract a b=aa ((l.drop a).take (b-a)):=oh _ _ _
end
section
open Go.RowKit
theorem akJ(B b:Nat)(bs:List Value)(c:Int)(w:World)(h:Lib.IsBuilder 39 5 B b bs w)(hlen:bs.length+1≤140737488355328)(im:B≤w.heap.size) :
  Calls Tryz.prog 29 #[.pointer (some ⟨b,0,none⟩),.int .u8 c] w fun e w'=>e=.returned .nilIface∧(Lib.IsBuilder 39 5 B b (bs++[.int .u8 c]) w'∧bM B b w w'):=by
 obtain⟨i0,hi,hz0,hz1,hz2⟩:=info_parts EW
 go_enter Tryz.func29,Tryz.ntmps29
 go_wp2_with fail
 refine (Qr B b bs _ h).mono ?_;rintro e w1 ⟨rfl,h1,au⟩;obtain⟨hB,v,ck,hown,hne⟩:=h1;have c0:w1.cell? ⟨b,0,none⟩=some (.pointer (some ⟨b,0,none⟩)):=by rw[Lib.cell_of_heap ck];rfl
 have c1:w1.cell? ⟨b,1,none⟩=some v:=by rw[Lib.cell_of_heap ck];rfl
 go_wp2_with (at_builtin;refine wpList_append_own _ rfl _ _ 37 rfl B 5 i0 (.int .u8 0) 1 1 Tryz.underlying37 hi hz0 hz1 hz2 rfl (by decide) _ _ _ rfl (hown.alloc _) ⟨w1.heap.size,0,none⟩ 1 1 [.int .u8 c] rfl rfl ?c1 ?c2 ?c3 ?c4 ?c5 ?_)
 case c1=>
  intro j u hj
  match j,hj with
  | 0,hj=>simp at hj;subst hj;simp[Addr.add]
 case c2=>intro u hu;simp at hu;subst hu;rfl
 case c3=>unfold maxLen;omega
 case c4=>omega
 case c5=>have:=au.size;simp;omega
 intro v' w2 hown' hgrow _
 have hlt:b<w1.heap.size:=by
  rcases Nat.lt_or_ge b w1.heap.size with h' | h'
  ·exact h'
  simp[Array.getElem?_eq_none h'] at ck
 have ag:w2.heap[b]?=some (.cells #[.pointer (some ⟨b,0,none⟩),v] 39 (0,0)):=by
  rw[hgrow.block b (by simp;omega) (fun e=>hne e.symm),Below.heap_alloc _ _ _ hlt];exact ck
 have d0:w2.cell? ⟨b,0,none⟩=some (.pointer (some ⟨b,0,none⟩)):=by rw[Lib.cell_of_heap ag];rfl
 have d1:w2.cell? ⟨b,1,none⟩=some v:=by rw[Lib.cell_of_heap ag];rfl
 have f1:w2.frozen? ⟨b,1,none⟩=false:=Lib.frozen_of_heap ag 1
 obtain⟨g,cap,rfl⟩:∃g cap,v'=.slice (some ⟨g,0,none⟩) (bs.length+1) cap:=by
  rcases hown'.2 with ⟨_,h0⟩|⟨g,cap,cur,hv,_⟩
  ·omega
  exact⟨g,cap,hv⟩
 go_wp2;go_ret;refine⟨rfl,.inr ?_,?_⟩
 ·exact Lib.BuilderAt.put (T:=39) (e:=5) hB ag (bs':=bs++[.int .u8 c]) (by simpa using hown') neB5
 exact ((au.alloc _).grown hgrow (fun k hk=>⟨(hown.lt k hk).1,by obtain⟨_,cs,fr,hh⟩:=aI hown k hk;exact⟨cs,fr,(Below.heap_alloc _ _ _ (aI hown k hk).2.lt).trans hh⟩⟩)).setCell 1 _
end
section
open Go.RowKit Go.WideShapes

attribute [local go_sem] Oper.semAt_some

namespace Tx
def br:List UInt8→List UInt8→List (List UInt8)
 | cur,[]=>if cur=[] then [] else [cur]
 | cur,c :: l=>if sp c then (if cur=[] then br [] l else cur :: br [] l) else br (cur++[c]) l
def words(l:List UInt8):List (List UInt8):=br [] l
def iD(acc w:List UInt8):List UInt8:=if acc=[] then w else acc++32 :: w
def one(l:List UInt8):List UInt8:=(words l).foldl iD []
theorem MX:∀(l cur:List UInt8),(br cur l).length≤l.length+1
 | [],cur=>by unfold br;split<;>simp
 | c :: l,cur=>by
  unfold br;have h1:=MX l [];have h2:=MX l (cur++[c]);split
  ·split
   ·rw[List.length_cons];omega
   rw[List.length_cons,List.length_cons];omega
  rw[List.length_cons];omega
end Tx
theorem akn(s:ByteArray)(w:World) :
  Calls Tryz.prog 78 #[.string s] w fun e w'=>e=.returned (.func (.func 114) #[] #[.pointer (some ⟨w.heap.size,0,none⟩)])∧w'=w.alloc (.cells #[.string s] 9):=by
 go_enter Tryz.func78,Tryz.ntmps78
 go_wp2;go_ret;exact⟨rfl,rfl⟩
def uM(Bs:Nat)(W W':World):Prop:=W.heap.size≤W'.heap.size∧W'.heap[Bs]?=W.heap[Bs]?
theorem uM.trans{Bs:Nat}{X Y Z:World}(h:uM Bs X Y)(k:uM Bs Y Z):uM Bs X Z:=⟨Nat.le_trans h.1 k.1,k.2.trans h.2⟩
def FM(A B:World):Prop:=Below A.heap.size A B
theorem TX{l:List UInt8}{j:Nat}{c:UInt8}(h:l[j]?=some c):l.drop j=c :: l.drop (j+1):=by
 obtain⟨h1,h2⟩:=List.getElem?_eq_some_iff.1 h;rw[List.drop_eq_getElem_cons h1,h2]
theorem akW(n:Nat)(hn:1≤n)(Bs:Nat)(D:List UInt8)(hs:D.length≤1000000000)(W:World)(hc:ae W Bs 9 #[.string (aa D)]) :
  ua FM Fence.wide n Tryz.prog 114 #[.pointer (some ⟨Bs,0,none⟩)] (fun x:List UInt8=>#[.string (aa x)]) (uM Bs) (fun x _=>x≠[]∧x.length≤D.length) (fun xs=>xs=Tx.words D) (D.length+1) W:=by
 intro l J hJ sT hY;refine callsIn_of_wp Tryz.func114 rfl trivial ?_ rfl;simp only[Tryz.ntmps114,List.size_toArray,List.length_cons,List.length_nil,Nat.reduceAdd,Nat.reduceSub,Array.replicate_succ,Array.replicate_zero,List.push_toArray,List.append_toArray,List.nil_append,List.cons_append];obtain⟨N,hN⟩:∃N,D.length=N:=⟨_,rfl⟩;have HN:=hide hN;rw[hN] at hs;obtain⟨all,hall⟩:∃all,Tx.words D=all:=⟨_,rfl⟩;rw[hall];have l5:=hide hall;have r9:=hide (show all.length≤N+1 by rw[←hall,←hN];exact Tx.MX D []);have HY:=hide hY;have H0:=hide sT;have HC:=hide hc;have q0:=hc.cell 0;have hsz:(aa D).size=N:=by rw[aW,hN]
 have Cr:=hide (fun a b=>zJ D a b);have uq:=hide (fun k c (h:D[k]?=some c) w=>vR (aa D) k c (by rw[bg];exact h) w);have j2:=hide (fun c W=>aki c W);clear hN hall hY sT hc hJ;gi_wp2
 gi_loopg [3,7] N (fun g v3 v7 wr=>∃(i f:Nat) (pre:List (List UInt8)),g=N-i∧i≤N∧f≤i∧v3=.int .i64 (f:Int)∧v7=.int .i64 (i:Int)∧pre++Tx.br ((D.drop f).take (i-f)) (D.drop i)=all∧J pre wr∧ae wr Bs 9 #[.string (aa D)])
 case atStart=>exact⟨0,0,[],rfl,by omega,Nat.le_refl _,rfl,rfl,by rw[←l5.out];rfl,H0.out,HC.out⟩
 case round=>
  obtain⟨i,f,pre,hg,hi,hf,rfl,rfl,hp,hj,hc⟩:=hrel;have Hg:=hide hg;have HP:=hide hp;have Hj:=hide hj;have uh:=hide hc;have q1:=hc.cell 0;clear hg hp hj hc
  by_cases hlt:i<N
  ·obtain⟨c,Eh⟩:∃c,D[i]?=some c:=⟨_,List.getElem?_eq_getElem (by rw[HN.out];exact hlt)⟩;have xG:=uq.out i c Eh;have HD:=hide (TX Eh);have bt:=hide (j2.out c wr);have zi:IntKind.i64.wrap ((i:Int)+1)=((i+1:Nat):Int):=by rw[IntWalk.i64_in _ (by omega)];omega
   have Zb:=hide Eh;clear Eh
   cases hsp:Tx.sp c with
   | false=>
    have sA:=hide hsp;rw[hsp] at bt;clear hsp
    gi_wp2_with (refine⟨trivial,?_⟩;gi_at_call 115;refine (callsIn_wide.2 bt.out).mono ?_;rintro e w2 ⟨rfl,hw2⟩;subst w2)
    go_roundg (N-(i+1))
    case measure=>have:=Hg.out;omega
    case rel=>
     refine⟨i+1,f,pre,rfl,by omega,by omega,rfl,by first|rfl|go_num,?_,Hj.out,uh.out⟩;rw[←HP.out,HD.out]
     conv=>rhs;unfold Tx.br
     rw[if_neg (by rw[sA.out];simp),show i+1-f=(i-f)+1 by omega,List.take_add_one,List.getElem?_drop,show f+(i-f)=i by omega,Zb.out];rfl
   | true=>
    have sA:=hide hsp;rw[hsp] at bt;clear hsp
    by_cases tq:f<i
    ·have Ek:(f:Int)<(i:Int):=by omega
     have hex:(aa D).extract f i=aa ((D.drop f).take (i-f)):=Cr.out f i;obtain⟨x,hx⟩:∃x,(D.drop f).take (i-f)=x:=⟨_,rfl⟩;have jw:x.length=i-f:=by rw[←hx,List.length_take,List.length_drop,HN.out];omega
     have tN:x≠[]:=fun e=>by rw[e] at jw;simp at jw;omega
     rw[hx] at hex
     have HW:=hide (show Tx.br x (D.drop i)=x :: Tx.br [] (D.drop (i+1)) by
      rw[HD.out]
      conv=>lhs;unfold Tx.br
      rw[if_pos sA.out,if_neg tN])
     have jZ:=hide (show pre++x :: Tx.br [] (D.drop (i+1))=all by rw[←HW.out,←hx];exact HP.out)
     have hpl:pre.length<N+1:=by
      have h1:=congrArg List.length jZ.out;rw[List.length_append,List.length_cons] at h1;have:=r9.out;omega
     have ku:=HY.out pre x wr Hj.out ⟨tN,by rw[jw,HN.out];omega⟩ (by rw[HN.out];exact hpl);obtain⟨fn,tmps,assign,body,hy,lr⟩:=ku;have qq:=hide lr;have jn:0≤(f:Int)∧(f:Int)≤(i:Int)∧(i:Int)≤(N:Int):=by omega
     clear hx jw tN lr hpl
     gi_wp2_with (refine⟨trivial,?_⟩;gi_at_call 115;refine (callsIn_wide.2 bt.out).mono ?_;rintro e w2 ⟨rfl,hw2⟩;subst w2)
     refine qq.out.mono ?_;rintro e W3 ⟨rfl,bU,aK⟩;have ie:=hide bU;have Cq:=hide (show ae W3 Bs 9 #[.string (aa D)] from aK.2.trans uh.out);clear bU aK;gi_wp2
     go_roundg (N-(i+1))
     case measure=>have:=Hg.out;omega
     case rel=>
      refine⟨i+1,i+1,pre++[x],rfl,by omega,Nat.le_refl _,by first|rfl|go_num,by first|rfl|go_num,?_,ie.out,Cq.out⟩;rw[Nat.sub_self,List.take_zero,List.append_assoc];exact jZ.out
    have hfe:f=i:=by omega
    subst hfe;have Ek:¬(f:Int)<(f:Int):=by omega
    have jZ:=hide (show pre++Tx.br [] (D.drop (f+1))=all by
     rw[←HP.out,HD.out,Nat.sub_self,List.take_zero]
     conv=>rhs;unfold Tx.br
     rw[if_pos sA.out,if_pos rfl])
    gi_wp2_with (refine⟨trivial,?_⟩;gi_at_call 115;refine (callsIn_wide.2 bt.out).mono ?_;rintro e w2 ⟨rfl,hw2⟩;subst w2)
    refine⟨fun f h=>(by cases h),?_⟩;gi_wp2
    go_roundg (N-(f+1))
    case measure=>have:=Hg.out;omega
    case rel=>exact⟨f+1,f+1,pre,rfl,by omega,Nat.le_refl _,by first|rfl|go_num,by first|rfl|go_num,by rw[Nat.sub_self,List.take_zero];exact jZ.out,Hj.out,uh.out⟩
  have AE:i=N:=by omega
  subst AE;have hnil:D.drop i=[]:=List.drop_of_length_le (by rw[HN.out];exact Nat.le_refl _);have eR:(D.drop f).take (i-f)=D.drop f:=List.take_of_length_le (by rw[List.length_drop,HN.out];exact Nat.le_refl _);have jZ:=hide (show pre++Tx.br (D.drop f) []=all by rw[←HP.out,hnil,eR])
  by_cases tq:f<i
  ·have Ek:(f:Int)<(i:Int):=by omega
   have hex:(aa D).extract f i=aa (D.drop f):=by rw[Cr.out f i,eR]
   obtain⟨x,hx⟩:∃x,D.drop f=x:=⟨_,rfl⟩;have jw:x.length=i-f:=by rw[←hx,List.length_drop,HN.out]
   have tN:x≠[]:=fun e=>by rw[e] at jw;simp at jw;omega
   rw[hx] at hex
   have wN:=hide (show pre++[x]=all by
    have h1:=jZ.out;rw[hx] at h1;unfold Tx.br at h1;rwa[if_neg tN] at h1)
   have hpl:pre.length<i+1:=by
    have h1:=congrArg List.length wN.out;rw[List.length_append,List.length_singleton] at h1;have:=r9.out;omega
   have ku:=HY.out pre x wr Hj.out ⟨tN,by rw[jw,HN.out];omega⟩ (by rw[HN.out];exact hpl);obtain⟨fn,tmps,assign,body,hy,lr⟩:=ku;have qq:=hide lr;have jn:0≤(f:Int)∧(f:Int)≤(i:Int)∧(i:Int)≤(i:Int):=by omega
   clear hx jw tN lr hpl hnil eR;gi_wp2;refine qq.out.mono ?_;rintro e W3 ⟨rfl,bU,aK⟩;have ie:=hide bU;clear bU aK;gi_wp2;go_end0;have uY:=ie.out;rw[wN.out] at uY
   first|exact⟨⟨_,rfl⟩,_,rfl,uY⟩|exact⟨⟨_,rfl⟩,uY⟩
  have Ek:¬(f:Int)<(i:Int):=by omega
  have wN:=hide (show pre=all by
   have h1:=jZ.out;rw[List.drop_of_length_le (by rw[HN.out];omega)] at h1
   simpa[Tx.br] using h1)
  clear hnil eR;gi_wp2;go_end0;have uY:=Hj.out;rw[wN.out] at uY
  first|exact⟨⟨_,rfl⟩,_,rfl,uY⟩|exact⟨⟨_,rfl⟩,uY⟩
end
section
open Go.RowKit Go.WideShapes

attribute [local go_sem] Oper.semAt_some

theorem Di(a b:List UInt8):Lib.byteCells (a++b)=Lib.byteCells a++Lib.byteCells b:=by simp[Lib.byteCells]
def Bx(B b:Nat)(l:List UInt8)(w:World):Prop:=Lib.IsBuilder 39 5 B b (Lib.byteCells l) w
section
variable {B b:Nat} {l:List UInt8} {w w1:World}
theorem Bx.ws(h:Bx B b l w)(m:List UInt8)(hlen:l.length+m.length≤140737488355328)(im:B≤w.heap.size) :
  Calls Tryz.prog 15 #[.pointer (some ⟨b,0,none⟩),.string (aa m)] w fun e w'=>(∃v,e=.returned v)∧Bx B b (l++m) w'∧bM B b w w':=by
 have hs:(aa m).size=m.length:=aW m;refine (XA B b _ (aa m) w h (by rw[Lib.byteCells_length];omega) im).mono ?_;rintro e w' ⟨rfl,h1,h2⟩;refine⟨⟨_,rfl⟩,?_,h2⟩;unfold Bx;rw[Di];exact h1
theorem Bx.wb(h:Bx B b l w)(c:UInt8)(hlen:l.length+1≤140737488355328)(im:B≤w.heap.size) :
  Calls Tryz.prog 29 #[.pointer (some ⟨b,0,none⟩),.int .u8 (c.toNat:Nat)] w fun e w'=>e=.returned .nilIface∧Bx B b (l++[c]) w'∧bM B b w w':=by
 refine (akJ B b _ _ w h (by rw[Lib.byteCells_length];omega) im).mono ?_;rintro e w' ⟨rfl,h1,h2⟩;refine⟨rfl,?_,h2⟩;unfold Bx;rw[Di];exact h1
theorem Bx.turn(h:Bx B b l w)(hk:∀k,bJ w k 5∨k=b→w1.heap[k]?=w.heap[k]?):Bx B b l w1:=by
 have key:∀p,Lib.BuilderAt 39 5 B b p (Lib.byteCells l) w→Lib.BuilderAt 39 5 B b p (Lib.byteCells l) w1:=fun p hp=>by
  obtain⟨hB,v,ck,hown,hne⟩:=hp;refine⟨hB,v,(hk _ (.inr rfl)).trans ck,⟨hown.1,?_⟩,hne⟩
  rcases hown.2 with hn|⟨g,cap,cur,rfl,jo,et,rest⟩
  ·exact .inl hn
  exact .inr ⟨g,cap,cur,rfl,jo,(hk g (.inl ⟨cur,_,et⟩)).trans et,rest⟩
 rcases h with h|h
 ·exact .inl (key _ h)
 exact .inr (key _ h)
theorem Bx.lt(h:Bx B b l w):b<w.heap.size:=by
 rcases h with h|h<;>exact h.lt
theorem Bx.Ud(h:Bx B b l w):mS w b:=by
 rcases h with h|h<;>(obtain⟨_,v,ck,_⟩:=h;exact⟨_,_,_,ck⟩)
theorem Bx.go(h:Bx B b l w)(hb:Below w.heap.size w w1):Bx B b l w1:=h.turn fun k hk=>hb.block k (by
 rcases hk with hk|rfl
 ·exact hk.lt
 exact h.lt)
theorem Bx.put(h:Bx B b l w){i:Nat}{o o':Obj}(hi:w.heap[i]?=some o')(hc:o'.isCells=false):Bx B b l (w.putObj i o):=h.turn fun k hk=>World.putObj_heap_other (by
 rintro rfl
 have:mS w k:=by
  rcases hk with ⟨cs,fr,hk⟩|rfl
  ·exact⟨cs,_,fr,hk⟩
  exact h.Ud
 obtain⟨cs,t,fr,e⟩:=this;rw[hi] at e;cases e
 cases hc)
theorem Bx.fresh(w:World):Bx w.heap.size w.heap.size [] (w.alloc (.cells #[.pointer none,.slice none 0 0] 39)) :=
 .inl ⟨Nat.le_refl _,_,ae.new w _ _,World.ownsRow_nil _ _ _ _,fun h=>by cases h⟩
theorem Bx.str(h:Bx B b l w)(im:B≤w.heap.size):Calls Tryz.prog 17 #[.pointer (some ⟨b,0,none⟩)] w fun e w'=>e=.returned (.string (aa l))∧Below B w w':=Tryz.Builder_String_any B b l w h im
theorem Bx.ajC(h:Bx B b l w)(im:B≤w.heap.size):Calls Tryz.prog 17 #[.pointer (some ⟨b,0,none⟩)] w fun e w'=>e=.returned (.string (aa l))∧Below B w w'∧Lib.OthersKept 5 (some b) w w':=by
 refine (Tryz.Builder_String_any_k B b l w (Lib.IsBuilderF.of h) im).mono ?_;rintro e w' ⟨h1,_,h2,h3⟩;exact⟨h1,h2,h3⟩
theorem Bx.len(h:Bx B b l w):Calls Tryz.prog 79 #[.pointer (some ⟨b,0,none⟩)] w fun e w'=>e=.returned (.int .i64 (l.length:Nat))∧w'=w:=by
 have:=Tryz.Builder_Len B b _ w h;rwa[Lib.byteCells_length] at this
theorem bM.others(h:bM B b w w1)(hb:mS w b):KeepsOthers w w1:=⟨h.size,fun k o hk ho=>by
 refine (h.block k (Array.getElem?_eq_some_iff.1 hk).1 ?_ (.inr ?_)).trans hk
 ·rintro rfl;obtain⟨cs,t,fr,e⟩:=hb;rw[hk] at e;cases e;cases ho
 rintro ⟨cs,fr,e⟩;rw[hk] at e;cases e
 cases ho⟩
end
structure Ip(w:World)(D:List UInt8)(L:Nat)(pre:List (List UInt8))(W:World):Prop where
 bx:Bx w.heap.size w.heap.size (pre.foldl Tx.iD []) W
 b:Below w.heap.size w W
 size:w.heap.size+4≤W.heap.size
 txt:ae W (w.heap.size+1) 9 #[.string (aa D)]
 len:(pre.foldl Tx.iD []).length≤pre.length*(L+1)
theorem Va(acc x:List UInt8):(Tx.iD acc x).length≤acc.length+x.length+1:=by
 unfold Tx.iD;split
 ·omega
 rw[List.length_append,List.length_cons];omega
theorem agb(D:List UInt8)(w:World)(hs:D.length≤1000000) :
  Calls Tryz.prog 51 #[.string (aa D)] w fun e w'=>e=.returned (.string (aa (Tx.one D)))∧Below w.heap.size w w':=by
 refine (callsIn_wide (n:=5)).1 ?_;refine callsIn_of_wp_marks Tryz.func51 rfl trivial ?_ rfl;simp only[Tryz.ntmps51,List.size_toArray,List.length_cons,List.length_nil,Nat.reduceAdd,Nat.reduceSub,Array.replicate_succ,Array.replicate_zero,List.push_toArray,List.append_toArray,List.nil_append,List.cons_append];obtain⟨L,hL⟩:∃L,D.length=L:=⟨_,rfl⟩;have HL:=hide hL;rw[hL] at hs;clear hL
 gi_wp2_with (refine⟨trivial,?_⟩;gi_at_call 78;refine (callsIn_wide.2 (akn _ _)).mono ?_;rintro e w' ⟨rfl,rfl⟩)
 have aX:ae ((w.alloc (.cells #[.pointer none,.slice none 0 0] 39)).alloc (.cells #[.string (aa D)] 9)) (w.heap.size+1) 9 #[.string (aa D)]:=by
  have:=ae.new (w.alloc (.cells #[.pointer none,.slice none 0 0] 39)) 9 #[.string (aa D)];rwa[World.size_alloc] at this
 have kr:Bx w.heap.size w.heap.size [] ((w.alloc (.cells #[.pointer none,.slice none 0 0] 39)).alloc (.cells #[.string (aa D)] 9)):=(Bx.fresh w).go (aA _ _);have dL:Below w.heap.size w ((w.alloc (.cells #[.pointer none,.slice none 0 0] 39)).alloc (.cells #[.string (aa D)] 9)):=(aA w _).trans ((aA _ _).mono (by simp));have hz2:((w.alloc (.cells #[.pointer none,.slice none 0 0] 39)).alloc (.cells #[.string (aa D)] 9)).heap.size=w.heap.size+2:=by simp
 generalize (w.alloc (.cells #[.pointer none,.slice none 0 0] 39)).alloc (.cells #[.string (aa D)] 9)=W2 at aX kr dL hz2 ⊢;have eX:=hide (fun o o'=>show Ip w D L [] ((W2.alloc o).alloc o') from⟨(kr.go (aA _ _)).go (aA _ _),(dL.trans ((aA W2 o).mono (by omega))).trans ((aA (W2.alloc o) o').mono (by simp;omega)),by simp;omega,(aX.alloc o).alloc o',by simp⟩)
 have mz:∀o o',ua FM Fence.wide (5-1) Tryz.prog 114 #[.pointer (some ⟨w.heap.size+1,0,none⟩)] (fun x:List UInt8=>#[.string (aa x)]) (uM (w.heap.size+1)) (fun x _=>x≠[]∧x.length≤L) (fun xs=>xs=Tx.words D) (L+1) ((W2.alloc o).alloc o'):=by
  intro o o';have h:=akW (5-1) (by omega) (w.heap.size+1) D (by rw[HL.out];omega) ((W2.alloc o).alloc o') ((aX.alloc o).alloc o');rw[HL.out] at h;exact h
 refine L1 (Fr:=FM) (fun A B h k h1 h2=>h.block k h2) rfl (by omega) (gf:=114) (lb:=#[.pointer (some ⟨w.heap.size+1,0,none⟩)]) rfl trivial (enters_of Tryz.func114 (by kernel_rfl) rfl) (fun _=>rfl)
  mz ?kt ?kb (Ip w D L) ?ip ?ib ?f eX.out
  (fun x=>{ tmps:=#[.string (aa D),undef,.string ⟨#[]⟩,.pointer (some ⟨w.heap.size,0,none⟩),.string (aa x),.string (aa D),.func (.func 114) #[] #[.pointer (some ⟨w.heap.size+1,0,none⟩)],.string (aa x),undef,undef,undef,undef,undef,undef],defers:=[] }) ?assign ?body ?done
 case kt=>exact fun h k=>h.trans k
 case kb=>exact fun W o o' h h2=>⟨by simp[World.putObj],World.putObj_heap_other (by omega)⟩
 case ip=>
  intro s W o o' h hl hc;exact⟨h.bx.put hl hc,⟨h.b.os,h.b.tape,h.b.output,by have:=h.b.size;simpa[World.putObj] using this,fun k hk=>(World.putObj_heap_other (by omega)).trans (h.b.block k hk)⟩,by have:=h.size;simpa[World.putObj] using this,(World.putObj_heap_other (by omega)).trans h.txt,h.len⟩
 case ib=>
  intro s A B h hb;exact⟨h.bx.go hb,h.b.trans (hb.mono h.b.size),Nat.le_trans h.size hb.size,h.txt.go hb,h.len⟩
 case f=>exact fun x W o h=>h
 case assign=>
  intro l x W K hK;gi_wp2;exact hK
 case body=>
  intro l pre x W hI hf hlen hsz;have iN:=hI.len;have R5:pre.length*(L+1)≤1000001*1000001:=Nat.mul_le_mul (by omega) (by omega);obtain⟨acc,iM⟩:∃acc,pre.foldl Tx.iD []=acc:=⟨_,rfl⟩;have Nx:=hide (show (pre++[x]).foldl Tx.iD []=Tx.iD acc x by rw[List.foldl_append,iM];rfl);have nL:=hide (iM▸hI.bx:Bx w.heap.size w.heap.size acc W);have HI:=hide hI;have HF:=hide hf;rw[iM] at iN;have r9:=hide iN;have jw:x.length≤1000000:=Nat.le_trans hf.2 hs;have aM:w.heap.size≤W.heap.size:=hI.b.size;have hT:=hI.txt
  have key:∀W3,bM w.heap.size w.heap.size W W3→Bx w.heap.size w.heap.size (Tx.iD acc x) W3→KeepsFrom W2.heap.size W W3∧uM (w.heap.size+1) W W3∧Ip w D L (pre++[x]) W3:=fun W3 cF hB=>by
   have aD:=cF.blk hT (by omega) (by decide);refine⟨(cF.others nL.out.Ud).from _,⟨cF.size,aD.trans hT.symm⟩,⟨Nx.out.symm▸hB,HI.out.b.trans (cF.below (Nat.le_refl _) aM),Nat.le_trans HI.out.size cF.size,aD,?_⟩⟩;rw[Nx.out,List.length_append,List.length_singleton,Nat.add_mul,Nat.one_mul];have:=Va acc x;have:=r9.out;have:=HF.out.2;omega
  have Key:=hide key;have ac7:acc.length≤1000002000001:=Nat.le_trans iN R5;clear iN R5 iM hI hf key mz aX kr dL eX hT
  cases acc with
  | nil=>
   have HS:=hide (nL.out.ws x (by simp;omega) aM)
   gi_wp2_with (refine⟨trivial,?_⟩;gi_at_call 79;refine (callsIn_wide.2 nL.out.len).mono ?_;rintro e w2 ⟨rfl,hw2⟩;subst w2)
   refine⟨trivial,?_⟩;refine (callsIn_wide.2 HS.out).mono ?_;rintro e w3 ⟨⟨v,rfl⟩,aD,rz⟩;have ax:=hide aD;have cz:=hide rz;clear aD rz;dsimp only;gi_wp2;exact Key.out w3 cz.out ax.out
  | cons a acc=>
   have qs:=hide (nL.out.wb 32 (by omega) aM);have hlz:(0:Int)<((a :: acc).length:Int):=by rw[List.length_cons];omega
   obtain⟨m,hm⟩:∃m,(a :: acc).length=m:=⟨_,rfl⟩;have yN:=hide (nL.out.len);rw[hm] at yN hlz ac7;have Hm:=hide hm;clear hm
   gi_wp2_with (refine⟨trivial,?_⟩;gi_at_call 79;refine (callsIn_wide.2 yN.out).mono ?_;rintro e w2 ⟨rfl,hw2⟩;subst w2)
   refine⟨trivial,?_⟩;refine (callsIn_wide.2 qs.out).mono ?_;rintro e w3 ⟨rfl,aD,rz⟩;have ax:=hide aD;have cz:=hide rz;have sr:=hide (aD.ws x (by rw[List.length_append,Hm.out,List.length_singleton];omega) (Nat.le_trans aM rz.size));clear aD rz;dsimp only
   gi_wp2_with fail
   refine⟨trivial,?_⟩;refine (callsIn_wide.2 sr.out).mono ?_;rintro e w4 ⟨⟨v,rfl⟩,lz,Tz⟩;have cd:=hide lz;have iJ:=hide (cz.out.trans Tz);clear lz Tz;dsimp only;gi_wp2;refine Key.out w4 iJ.out ?_;have:=cd.out;unfold Tx.iD;rw[if_neg (by simp)];rwa[List.append_assoc] at this
 case done=>
  intro D0 xs W hD aO hI hK;subst aO;have aM:w.heap.size≤W.heap.size:=hI.b.size;have DI:D0=w.heap.size+2:=by omega
  subst DI;have HSt:=hide (hI.bx.ajC aM);have HB:=hide hI.b;have HK:=hide hK;have hO:=hide (show (Tx.words D).foldl Tx.iD []=Tx.one D from rfl);have hsz:=hI.size;have qw:=hide (hO.out▸HSt.out);have nL:=hide hI.bx;clear hI hK mz aX kr dL eX HSt
  gi_wp2_with fail
  refine⟨trivial,?_⟩;refine (callsIn_wide.2 qw.out).mono ?_;rintro e w3 ⟨rfl,aD,bX⟩;have ax:=hide (HB.out.trans aD);have cD:=hide (bX _ _ HK.out (fun e=>by injection e with e;omega) (fun c fz e=>by cases e));clear aD bX;dsimp only;gi_wp2;refine⟨by simp,.inl ⟨_,_,rfl,run_takeDeferred cD.out,?_⟩⟩;refine⟨.string (aa (Tx.one D)),?_,?_⟩
  ·simp[results,Tryz.results51,go_sem]
  exact⟨rfl,ax.out.os,ax.out.tape,ax.out.output,Nat.le_trans ax.out.size (by simp[World.putObj]),fun k hk=>(World.putObj_heap_other (by omega)).trans (ax.out.block k hk)⟩
namespace Tx
theorem MZ:∀(l cur:List UInt8),((br cur l).map List.length).sum+(br cur l).length≤cur.length+l.length+1
 | [],cur=>by unfold br;split<;>simp
 | c :: l,cur=>by
  unfold br;have h1:=MZ l [];have h2:=MZ l (cur++[c]);rw[List.length_nil] at h1;rw[List.length_append,List.length_singleton] at h2;rw[List.length_cons];split
  ·split
   ·omega
   rw[List.map_cons,List.sum_cons,List.length_cons];omega
  omega
theorem yj(l:List UInt8):(one l).length≤l.length+1:=by
 have key:∀(ws:List (List UInt8)) (acc:List UInt8),(ws.foldl iD acc).length≤acc.length+(ws.map List.length).sum+ws.length:=fun ws=>by
  induction ws with
  | nil=>intro acc;simp
  | cons x ws ih=>
   intro acc;rw[List.foldl_cons,List.map_cons,List.sum_cons,List.length_cons];have:=ih (iD acc x);have:=Va acc x;omega
 have:=key (words l) [];have:=MZ l [];unfold one words at *
 simp only[List.length_nil] at *
 omega
def line(l:List UInt8):List UInt8:=Nf.nD (one l)
def block(l:List UInt8):List UInt8:=Nf.nD (trim l)
def right(l:List UInt8):Bool:=Utf.valid l&&decide (Tk.bad l<0)
def jN(l:List UInt8):Bool:=right l&&decide (line l=l)
end Tx
theorem Uu(l:List UInt8)(w:World)(hs:l.length≤200000) :
  Calls Tryz.prog 31 #[.string (aa l)] w fun e w'=>e=.returned (.string (aa (Tx.line l)))∧Below w.heap.size w w':=by
 have H1:=hide (agb l w (by omega));have nv:=Tx.yj l;have H2:=hide (fun W=>afQ (aa (Tx.one l)) W (by rw[aW];omega));rw[bg] at H2;clear nv
 go_enter Tryz.func31,Tryz.ntmps31
 go_wp2_with fail
 refine H1.out.mono ?_;rintro e w1 ⟨rfl,hb⟩;have HB:=hide hb;clear hb;dsimp only
 go_wp2_with fail
 refine (H2.out w1).mono ?_;rintro e w2 ⟨rfl,hb⟩;have ah:=hide (HB.out.trans (hb.mono HB.out.size));clear hb;dsimp only;go_wp2;go_ret;exact⟨rfl,ah.out⟩
theorem ahS(l:List UInt8)(w:World)(hs:l.length≤200000) :
  Calls Tryz.prog 30 #[.string (aa l)] w fun e w'=>e=.returned (.bool (Tx.right l))∧Below w.heap.size w w':=by
 have H1:=hide (Xj (aa l) w (by rw[aW];omega));have H2:=hide (fun W=>IB (aa l) W (by rw[aW];omega));rw[bg] at H1 H2;unfold Tx.right
 cases hv:Utf.valid l with
 | false=>
  rw[hv] at H1;clear hv
  go_enter Tryz.func30,Tryz.ntmps30
  go_wp2_with fail
  refine H1.out.mono ?_;rintro e w1 ⟨rfl,hb⟩;have HB:=hide hb;clear hb;dsimp only;go_wp2;go_ret;exact⟨rfl,HB.out⟩
 | true=>
  rw[hv] at H1;clear hv;obtain⟨q,hq⟩:∃q,Tk.bad l=q:=⟨_,rfl⟩;rw[hq] at H2 ⊢;clear hq
  go_enter Tryz.func30,Tryz.ntmps30
  go_wp2_with fail
  refine H1.out.mono ?_;rintro e w1 ⟨rfl,hb⟩;have HB:=hide hb;clear hb;dsimp only
  go_wp2_with fail
  refine (H2.out w1).mono ?_;rintro e w2 ⟨rfl,hb⟩;have ah:=hide (HB.out.trans (hb.mono HB.out.size));clear hb;dsimp only;go_wp2;go_ret;exact⟨by rw[Bool.true_and];rfl,ah.out⟩
end
end Go.Proofs.YtifiiojchlaghaaGreatDoor
