/- NFC: nfc.whole, Decomposed, Composed, Nfc. And more. -/
import Derived.Test.YtnbmfljhbpfilaaGreatDoorOw01
import Derived.Test.YtnbmfljhbpfilaaGreatDoorOw04
import Derived.Test.YtnbmfljhbpfilaaGreatDoorOw11
import Derived.Test.YtnbmfljhbpfilaaGreatDoorOw26
import Derived.Test.YtnbmfljhbpfilaaGreatDoorOw29
import Derived.Laws.RangeAny
import Derived.Sort.LoopGhostIn
set_option linter.unusedSimpArgs false
set_option maxRecDepth 100000
set_option maxHeartbeats 8000000
set_option linter.unusedVariables false
namespace Go.Proofs.YtnbmfljhbpfilaaGreatDoor
section
open Go.RowKit Go.WideShapes

theorem WV:∀(k at_:Nat) (l:List UInt8),∀p∈Utf.fN k at_ l,p.2<0∨Utf.isScalar p.2=true
 | k,at_,[],p,h=>by cases k<;>simp[Utf.fN] at h
 | 0,_,c :: l,p,h=>by unfold Utf.fN at h;cases h
 | k+1,at_,c :: l,p,h=>by
  unfold Utf.fN at h
  rcases List.mem_cons.1 h with rfl|h
  ·have:=WR ⟨(c :: l).toArray⟩ 0
   simpa using this
  exact WV k _ _ p h
theorem WT:∀(k at_:Nat) (l:List UInt8),(Utf.fN k at_ l).length≤k
 | k,at_,[]=>by cases k<;>simp[Utf.fN]
 | 0,_,c :: l=>by simp[Utf.fN]
 | k+1,at_,c :: l=>by
  unfold Utf.fN;rw[List.length_cons];have:=WT k (at_+(Utf.piece (c :: l)).2.toNat) ((c :: l).drop (Utf.piece (c :: l)).2.toNat);omega
theorem yK(l:List UInt8):(bc l).length≤l.length:=by
 unfold bc Utf.pieces;rw[List.length_map];exact WT _ _ _
theorem Gg{l:List UInt8}(h:Right l):∀x∈bc l,Nf.Ok x:=by
 intro x hx;unfold bc at hx;obtain⟨p,hp,rfl⟩:=List.mem_map.1 hx;have h1:=h p hp
 rcases WV _ _ _ p hp with h2|h2
 ·omega
 simp[Utf.isScalar] at h2;exact⟨by omega,by omega⟩
instance(l:List UInt8):Decidable (Right l):=by unfold Right;infer_instance
namespace Nf
def via(f:List Int→List Int)(s:List UInt8):List UInt8:=if Right s then (jM (f (bc s))).getD [] else s
def gB(s:List UInt8):List UInt8:=via dec s
def jB(s:List UInt8):List UInt8:=via compose s
def oz(s:List UInt8):List UInt8:=if s.any (fun c=>decide (128≤c.toNat)) then jB (gB s) else s
theorem Yi{l:List Int}:((jM l).getD []).length≤4*l.length:=by
 unfold jM;split
 ·exact Js l
 simp
theorem MW:∀(n:Nat) (l:List Int),l.length<n→((runs n l).flatMap aA).length=l.length
 | 0,_,h=>by omega
 | n+1,[],_=>rfl
 | n+1,r :: l,h=>by
  rw[runs,List.flatMap_cons,List.length_append,js,MW n _ (by rw[List.length_drop];simp at h;omega),List.length_drop,List.length_cons,List.length_cons];have:=Mp l;omega
theorem RV(l:List Int):(dec l).length≤16*l.length:=by
 unfold dec sort;rw[MW _ _ (Nat.lt_succ_self _)];exact xq l
theorem Jz(l:List Int):(compose l).length≤l.length:=by
 have hl:∀(l:List Int) (s:Cs),(l.foldl gA s).out.length≤s.out.length+l.length:=fun l=>by
  induction l with
  | nil=>intro s;simp
  | cons x l ih=>intro s;rw[List.foldl_cons];have:=ih (gA s x);have:=RP s x;rw[List.length_cons];omega
 have:=hl l ⟨[],-1,-1⟩
 simpa[compose] using this
theorem JF(s:List UInt8):(gB s).length≤64*s.length:=by
 unfold gB via;split
 ·refine Nat.le_trans Yi ?_;have:=RV (bc s);have:=yK s;omega
 omega
end Nf
theorem F9(l:List Int):∃b,nw l=.tuple #[.string (aa ((Nf.jM l).getD [])),.bool b]:=by
 unfold nw
 cases Nf.jM l with
 | some x=>exact⟨true,rfl⟩
 | none=>exact⟨false,rfl⟩
theorem amW(s:ByteArray)(w:World)(hs:s.size≤250000) :
  Calls Tryz.prog 137 #[.string s,.func (.func 139) #[] #[]] w fun e w'=>e=.returned (.string (aa (Nf.gB s.data.toList)))∧Below w.heap.size w w':=by
 have br:=hide (Yw s w (by omega));have hl:=yK s.data.toList;rw[bL] at hl
 by_cases hR:Right s.data.toList
 ·have HV:=hide (show Nf.gB s.data.toList=(Nf.jM (Nf.dec (bc s.data.toList))).getD [] by unfold Nf.gB Nf.via;rw[if_pos hR]);have fO:=hide (Gg hR);have HR:=hide hR;have aQ:=Nf.RV (bc s.data.toList);have HD:=hide (fun A c W h=>acT (bc s.data.toList) A c W h fO.out (by omega));have HT:=hide (fun A c W h=>Yy (Nf.dec (bc s.data.toList)) A c W h (by omega));obtain⟨bb,jb⟩:=F9 (Nf.dec (bc s.data.toList));have tT:=hide jb;clear hR hl aQ jb;rw[HV.out];generalize bc s.data.toList=l at *
  go_enter Tryz.func137,Tryz.ntmps137
  go_wp2_with fail
  refine br.out.mono ?_;rintro e w1 ⟨aq,⟨_,A,c,rfl,hr⟩|⟨hn,_⟩⟩
  ·have ay:=hide aq;have fP:=hide hr;clear aq hr;dsimp only
   go_wp2_with fail
   refine (HD.out A c w1 fP.out).mono ?_;rintro e w2 ⟨A2,c2,rfl,bE,af⟩;have aJ:=hide bE;have ah:=hide (ay.out.trans (af.mono ay.out.size));clear bE af;dsimp only
   go_wp2_with fail
   refine (HT.out A2 c2 w2 (Reads.eH aJ.out)).mono ?_;rintro e w3 ⟨rfl,aB⟩;have aw:=hide (ah.out.trans (aB.mono ah.out.size));clear aB;rw[tT.out];dsimp only;go_wp2;go_ret;exact⟨rfl,aw.out⟩
  exact absurd HR.out hn
 have HV:=hide (show Nf.gB s.data.toList=s.data.toList by unfold Nf.gB Nf.via;rw[if_neg hR]);have HR:=hide hR;clear hR hl;rw[HV.out]
 go_enter Tryz.func137,Tryz.ntmps137
 go_wp2_with fail
 refine br.out.mono ?_;rintro e w1 ⟨aq,⟨h1,_⟩|⟨_,rfl⟩⟩
 ·exact absurd h1 HR.out
 have ay:=hide aq;clear aq;dsimp only;go_wp2;go_ret;exact⟨rfl,ay.out⟩
theorem amV(s:ByteArray)(w:World)(hs:s.size≤16000000) :
  Calls Tryz.prog 137 #[.string s,.func (.func 138) #[] #[]] w fun e w'=>e=.returned (.string (aa (Nf.jB s.data.toList)))∧Below w.heap.size w w':=by
 have br:=hide (Yw s w (by omega));have hl:=yK s.data.toList;rw[bL] at hl
 by_cases hR:Right s.data.toList
 ·have HV:=hide (show Nf.jB s.data.toList=(Nf.jM (Nf.compose (bc s.data.toList))).getD [] by unfold Nf.jB Nf.via;rw[if_pos hR]);have fO:=hide (Gg hR);have HR:=hide hR;have aQ:=Nf.Jz (bc s.data.toList);have HD:=hide (fun A c W h=>acz (bc s.data.toList) A c W h fO.out (by omega));have HT:=hide (fun A c W h=>Yy (Nf.compose (bc s.data.toList)) A c W h (by omega));obtain⟨bb,jb⟩:=F9 (Nf.compose (bc s.data.toList));have tT:=hide jb;clear hR hl aQ jb;rw[HV.out];generalize bc s.data.toList=l at *
  go_enter Tryz.func137,Tryz.ntmps137
  go_wp2_with fail
  refine br.out.mono ?_;rintro e w1 ⟨aq,⟨_,A,c,rfl,hr⟩|⟨hn,_⟩⟩
  ·have ay:=hide aq;have fP:=hide hr;clear aq hr;dsimp only
   go_wp2_with fail
   refine (HD.out A c w1 fP.out).mono ?_;rintro e w2 ⟨A2,c2,rfl,bE,af⟩;have aJ:=hide bE;have ah:=hide (ay.out.trans (af.mono ay.out.size));clear bE af;dsimp only
   go_wp2_with fail
   refine (HT.out A2 c2 w2 (Reads.eH aJ.out)).mono ?_;rintro e w3 ⟨rfl,aB⟩;have aw:=hide (ah.out.trans (aB.mono ah.out.size));clear aB;rw[tT.out];dsimp only;go_wp2;go_ret;exact⟨rfl,aw.out⟩
  exact absurd HR.out hn
 have HV:=hide (show Nf.jB s.data.toList=s.data.toList by unfold Nf.jB Nf.via;rw[if_neg hR]);have HR:=hide hR;clear hR hl;rw[HV.out]
 go_enter Tryz.func137,Tryz.ntmps137
 go_wp2_with fail
 refine br.out.mono ?_;rintro e w1 ⟨aq,⟨h1,_⟩|⟨_,rfl⟩⟩
 ·exact absurd h1 HR.out
 have ay:=hide aq;clear aq;dsimp only;go_wp2;go_ret;exact⟨rfl,ay.out⟩
theorem ac6(s:ByteArray)(w:World)(hs:s.size≤250000) :
  Calls Tryz.prog 104 #[.string s] w fun e w'=>e=.returned (.string (aa (Nf.gB s.data.toList)))∧Below w.heap.size w w':=by
 have H:=hide (amW s w hs)
 go_enter Tryz.func104,Tryz.ntmps104
 go_wp2_with fail
 refine H.out.mono ?_;rintro e w1 ⟨rfl,hb⟩;have HB:=hide hb;clear hb;dsimp only;go_wp2;go_ret;exact⟨rfl,HB.out⟩
theorem acB(s:ByteArray)(w:World)(hs:s.size≤16000000) :
  Calls Tryz.prog 103 #[.string s] w fun e w'=>e=.returned (.string (aa (Nf.jB s.data.toList)))∧Below w.heap.size w w':=by
 have H:=hide (amV s w hs)
 go_enter Tryz.func103,Tryz.ntmps103
 go_wp2_with fail
 refine H.out.mono ?_;rintro e w1 ⟨rfl,hb⟩;have HB:=hide hb;clear hb;dsimp only;go_wp2;go_ret;exact⟨rfl,HB.out⟩
theorem get_at(s:ByteArray)(i:Nat)(c:UInt8)(h:s.data.toList[i]?=some c):s.get! (i+0)=c∧i<s.size:=by
 obtain⟨h1,h2⟩:=List.getElem?_eq_some_iff.1 h;rw[bL] at h1;refine⟨?_,h1⟩
 have e:s.get! (i+0)=s[i]'h1:=by
  show s.get! i=_;simp[ByteArray.get!,getElem!_pos,h1];rfl
 rw[e,←h2];exact (Array.getElem_toList ..).symm
theorem ac3(s:ByteArray)(i:Nat)(c:UInt8)(h:s.data.toList[i]?=some c)(hb:c.toNat<128):Utf8.decode s i=(c.toNat,1):=by
 obtain⟨e,_⟩:=get_at s i c h;unfold Utf8.decode;simp only[e];rw[if_pos hb]
theorem ac2(s:ByteArray)(i:Nat)(c:UInt8)(h:s.data.toList[i]?=some c)(hb:¬c.toNat<128):128≤(Utf8.decode s i).1:=by
 obtain⟨e,_⟩:=get_at s i c h;unfold Utf8.decode;simp only[e];rw[if_neg hb];have hE:128≤Utf8.runeError:=by decide
 repeat' split
 all_goals (try simp only[Bool.and_eq_true,decide_eq_true_eq] at *)
 all_goals (try simp only)
 all_goals omega
theorem decode_le(s:ByteArray)(i:Nat)(c:UInt8)(h:s.data.toList[i]?=some c):(Utf8.decode s i).1≤10000000:=by
 obtain⟨e,_⟩:=get_at s i c h;have hc:=c.toNat_lt;unfold Utf8.decode;simp only[e];have hE:Utf8.runeError≤10000000:=by decide
 repeat' split
 all_goals (try simp only)
 all_goals omega
theorem Below.Bw{w wr:World}(h:Below w.heap.size w wr)(s:ByteArray)(q:Nat):Below w.heap.size w (wr.iterAt w.heap.size s q) :=
 ⟨h.os,h.tape,h.output,by rw[Lib.iterAt_size];exact h.size,fun k hk=>(Lib.iterAt_other _ _ _ _ _ (by omega)).trans (h.block k hk)⟩
theorem ahy(s:ByteArray)(w:World)(hs:s.size≤250000) :
  Calls Tryz.prog 70 #[.string s] w fun e w'=>e=.returned (.string (aa (Nf.oz s.data.toList)))∧Below w.heap.size w w':=by
 have HD:=hide (fun W=>ac6 s W hs);have hl:=Nf.JF s.data.toList;rw[bL] at hl;have HC:=hide (fun W=>acB (aa (Nf.gB s.data.toList)) W (by rw[aC];omega));rw[aP] at HC;obtain⟨l,hL⟩:∃l,s.data.toList=l:=⟨_,rfl⟩;rw[hL] at HD HC;have HL:=hide hL;have Qz:=hide (show l.length=s.size by rw[←hL,bL]);clear hL hl;rw[HL.out]
 go_enter Tryz.func70,Tryz.ntmps70
 go_wp2;have dz:Below w.heap.size w (w.iter s 0):=az w _
 go_loopg [4] s.size (fun gk vk wr=>∃(p:Nat),gk=s.size-p∧p≤s.size∧(∀c∈l.take p,c.toNat<128)∧wr.heap[w.heap.size]?=some (.stringIter s p)∧Below w.heap.size w wr)
 case atStart=>exact⟨0,rfl,by omega,by simp,World.iter_heap _ _ _,dz⟩
 case round=>
  obtain⟨p,au,hp,pB,hit,hb⟩:=hrel;have Hg:=hide au;have Pt:=hide pB;have HI:=hide hit;have HB:=hide hb;clear au pB hb
  by_cases cM:p<s.size
  ·obtain⟨c,hc⟩:∃c,l[p]?=some c:=⟨_,List.getElem?_eq_getElem (by rw[Qz.out];exact cM)⟩;have bf:s.data.toList[p]?=some c:=by rw[HL.out];exact hc
   have bB:∀ty,(Instr.next (.pointer (some ⟨w.heap.size,0,none⟩)) true ty).run Tryz.prog wr=_:=fun ty=>Lib.run_next_any_at wr w.heap.size s p ty hit cM
   by_cases qK:c.toNat<128
   ·have ke:=ac3 s p c bf qK;rw[ke] at bB;dsimp only at bB;obtain⟨z,hz⟩:∃z:Nat,c.toNat=z:=⟨_,rfl⟩;rw[hz] at bB qK;have hcv:IntKind.i64.wrap (z:Int)=(z:Int):=IntWalk.i64_in _ (by omega);have hlt:¬(128:Int)≤(z:Int):=by omega
    have Hc:=hide hc;have aaG:=hide qK;have Hz:=hide hz;clear hc bf ke hit hz qK;go_wp2
    go_roundg (s.size-(p+1))
    case measure=>have:=Hg.out;omega
    case rel=>
     refine⟨p+1,rfl,by omega,?_,Lib.iterAt_heap _ _ _ _ _ HI.out,Below.Bw HB.out _ _⟩;intro c2 bf;rw[List.take_add_one,Hc.out] at bf
     rcases List.mem_append.1 bf with bf|bf
     ·exact Pt.out c2 bf
     simp at bf;subst bf;rw[Hz.out];exact aaG.out
   have ke:=ac2 s p c bf qK;have hle:=decode_le s p c bf;obtain⟨⟨z,n2⟩,hd⟩:∃q,Utf8.decode s p=q:=⟨_,rfl⟩;rw[hd] at bB ke hle;dsimp only at bB ke hle;have hcv:IntKind.i64.wrap (z:Int)=(z:Int):=IntWalk.i64_in _ (by omega);have sS:(128:Int)≤(z:Int):=by omega
   have HV:=hide (show Nf.oz l=Nf.jB (Nf.gB l) by
    unfold Nf.oz;rw[if_pos (List.any_eq_true.2 ⟨c,List.mem_of_getElem? hc,decide_eq_true (by omega)⟩)])
   have ah:=hide (Below.Bw HB.out s (p+n2));clear hc bf ke hle hit qK hd
   go_wp2_with fail
   refine (HD.out _).mono ?_;rintro e w2 ⟨rfl,af⟩;have aw:=hide (ah.out.trans (af.mono ah.out.size));clear af;dsimp only
   go_wp2_with fail
   refine (HC.out _).mono ?_;rintro e w3 ⟨rfl,aB⟩;have cG:=hide (aw.out.trans (aB.mono aw.out.size));clear aB;dsimp only;go_wp2;go_ret;exact⟨by rw[HV.out];rfl,cG.out⟩
  have bB:∀ty,(Instr.next (.pointer (some ⟨w.heap.size,0,none⟩)) true ty).run Tryz.prog wr=_:=fun ty=>Lib.run_next_end_at wr w.heap.size s p ty hit cM
  have HV:=hide (show Nf.oz l=l by
   unfold Nf.oz;rw[if_neg];intro h;obtain⟨c,hc,hd⟩:=List.any_eq_true.1 h;have:=Pt.out c (by rw[List.take_of_length_le (by rw[Qz.out];omega)];exact hc);have:=of_decide_eq_true hd
   omega)
  have Da:=hide cM;have Hsb:=hide (show s=aa l by rw[←HL.out,xl]);clear hit cM;go_wp2;go_ret;exact⟨by rw[HV.out,←Hsb.out];rfl,HB.out⟩
end
section
open Go.RowKit Go.WideShapes

namespace Tx
def sp(c:UInt8):Bool:=decide (c.toNat=32∨c.toNat=9∨c.toNat=10∨c.toNat=13)
def lS(l:List UInt8):List UInt8:=l.dropWhile sp
def jN(l:List UInt8):List UInt8:=(l.reverse.dropWhile sp).reverse
def trim(l:List UInt8):List UInt8:=jN (lS l)
theorem amP:∀n:Fin 64,(bits BinOp.and IntKind.u64 (4294977024 / 2 ^ n.val) 1==1)=decide (n.val=32∨n.val=9∨n.val=10∨n.val=13):=by decide +kernel
theorem Gd(m:List UInt8)(c:UInt8):jN (m++[c])=if sp c then jN m else m++[c]:=by
 unfold jN;rw[List.reverse_append,List.reverse_singleton,List.singleton_append,List.dropWhile_cons];split
 ·rfl
 rw[List.reverse_cons,List.reverse_reverse]
theorem Yn(l:List UInt8):(lS l).length≤l.length:=by
 unfold lS
 induction l with
 | nil=>simp
 | cons c l ih=>rw[List.dropWhile_cons];split<;>simp<;>omega
theorem amg(l:List UInt8):(jN l).length≤l.length:=by
 unfold jN;rw[List.length_reverse];have:=Yn l.reverse;unfold lS at this
 simpa using this
theorem ami(l:List UInt8):(trim l).length≤l.length:=Nat.le_trans (amg _) (Yn _)
end Tx
theorem amj(c:UInt8)(w:World):Calls Tryz.prog 143 #[.int .u8 (c.toNat:Int)] w fun e w'=>e=.returned (.bool (Tx.sp c))∧w'=w:=by
 obtain⟨n,hn⟩:∃n,c.toNat=n:=⟨_,rfl⟩;obtain⟨q,hq⟩:∃q,Tx.sp c=q:=⟨_,rfl⟩;have hs:decide (n=32∨n=9∨n=10∨n=13)=q:=by rw[←hq,←hn];rfl
 rw[hq,hn]
 by_cases h:n<64
 ·have hz:(n:Int)<64:=by omega
  have HB:=hide ((Tx.amP ⟨n,h⟩).trans hs);clear hs hq
  go_enter Tryz.func143,Tryz.ntmps143
  go_wp2;go_ret;exact⟨aO (ck HB.out),rfl⟩
 have hz:¬(n:Int)<64:=by omega
 have HB:=hide (show q=false from hs.symm.trans (decide_eq_false (by omega)));rw[HB.out];clear hs hq
 go_enter Tryz.func143,Tryz.ntmps143
 go_wp2;go_ret;exact⟨rfl,rfl⟩
theorem xk(l:List UInt8)(a b:Nat):(aa l).extract a b=aa ((l.drop a).take (b-a)):=mg _ _ _
end
section
open Go.RowKit
theorem amM(B b:Nat)(bs:List Value)(c:Int)(w:World)(h:Lib.IsBuilder 60 5 B b bs w)(hlen:bs.length+1≤140737488355328)(gU:B≤w.heap.size) :
  Calls Tryz.prog 49 #[.pointer (some ⟨b,0,none⟩),.int .u8 c] w fun e w'=>e=.returned .nilIface∧(Lib.IsBuilder 60 5 B b (bs++[.int .u8 c]) w'∧bK B b w w'):=by
 obtain⟨i0,hi,hz0,hz1,hz2⟩:=info_parts Fl
 go_enter Tryz.func49,Tryz.ntmps49
 go_wp2_with fail
 refine (Ru B b bs _ h).mono ?_;rintro e w1 ⟨rfl,h1,aq⟩;obtain⟨hB,v,b9,hown,hne⟩:=h1;have c0:w1.cell? ⟨b,0,none⟩=some (.pointer (some ⟨b,0,none⟩)):=by rw[Lib.cell_of_heap b9];rfl
 have c1:w1.cell? ⟨b,1,none⟩=some v:=by rw[Lib.cell_of_heap b9];rfl
 go_wp2_with (at_builtin;refine wpList_append_own _ rfl _ _ 58 rfl B 5 i0 (.int .u8 0) 1 1 Tryz.underlying58 hi hz0 hz1 hz2 rfl (by decide) _ _ _ rfl (hown.alloc _) ⟨w1.heap.size,0,none⟩ 1 1 [.int .u8 c] rfl rfl ?c1 ?c2 ?c3 ?c4 ?c5 ?_)
 case c1=>
  intro j u hj
  match j,hj with
  | 0,hj=>simp at hj;subst hj;simp[Addr.add]
 case c2=>intro u hu;simp at hu;subst hu;rfl
 case c3=>unfold maxLen;omega
 case c4=>omega
 case c5=>have:=aq.size;simp;omega
 intro v' w2 hown' hgrow _
 have hlt:b<w1.heap.size:=by
  rcases Nat.lt_or_ge b w1.heap.size with h' | h'
  ·exact h'
  simp[Array.getElem?_eq_none h'] at b9
 have af:w2.heap[b]?=some (.cells #[.pointer (some ⟨b,0,none⟩),v] 60 (0,0)):=by
  rw[hgrow.block b (by simp;omega) (fun e=>hne e.symm),Below.heap_alloc _ _ _ hlt];exact b9
 have d0:w2.cell? ⟨b,0,none⟩=some (.pointer (some ⟨b,0,none⟩)):=by rw[Lib.cell_of_heap af];rfl
 have d1:w2.cell? ⟨b,1,none⟩=some v:=by rw[Lib.cell_of_heap af];rfl
 have f1:w2.frozen? ⟨b,1,none⟩=false:=Lib.frozen_of_heap af 1
 obtain⟨g,cap,rfl⟩:∃g cap,v'=.slice (some ⟨g,0,none⟩) (bs.length+1) cap:=by
  rcases hown'.2 with ⟨_,h0⟩|⟨g,cap,cur,hv,_⟩
  ·omega
  exact⟨g,cap,hv⟩
 go_wp2;go_ret;refine⟨rfl,.inr ?_,?_⟩
 ·exact Lib.BuilderAt.put (T:=60) (e:=5) hB af (bs':=bs++[.int .u8 c]) (by simpa using hown') neB5
 exact ((aq.alloc _).grown hgrow (fun k hk=>⟨(hown.lt k hk).1,by obtain⟨_,cs,fr,hh⟩:=aG hown k hk;exact⟨cs,fr,(Below.heap_alloc _ _ _ (aG hown k hk).2.lt).trans hh⟩⟩)).setCell 1 _
end
section
open Go.RowKit Go.WideShapes

attribute [local go_sem] Oper.semAt_some

namespace Tx
def bq:List UInt8→List UInt8→List (List UInt8)
 | cur,[]=>if cur=[] then [] else [cur]
 | cur,c :: l=>if sp c then (if cur=[] then bq [] l else cur :: bq [] l) else bq (cur++[c]) l
def words(l:List UInt8):List (List UInt8):=bq [] l
def ij(acc w:List UInt8):List UInt8:=if acc=[] then w else acc++32 :: w
def one(l:List UInt8):List UInt8:=(words l).foldl ij []
theorem Oj:∀(l cur:List UInt8),(bq cur l).length≤l.length+1
 | [],cur=>by unfold bq;split<;>simp
 | c :: l,cur=>by
  unfold bq;have h1:=Oj l [];have h2:=Oj l (cur++[c]);split
  ·split
   ·rw[List.length_cons];omega
   rw[List.length_cons,List.length_cons];omega
  rw[List.length_cons];omega
end Tx
theorem amo(s:ByteArray)(w:World) :
  Calls Tryz.prog 105 #[.string s] w fun e w'=>e=.returned (.func (.func 142) #[] #[.pointer (some ⟨w.heap.size,0,none⟩)])∧w'=w.alloc (.cells #[.string s] 9):=by
 go_enter Tryz.func105,Tryz.ntmps105
 go_wp2;go_ret;exact⟨rfl,rfl⟩
def uE(Bs:Nat)(W W':World):Prop:=W.heap.size≤W'.heap.size∧W'.heap[Bs]?=W.heap[Bs]?
theorem uE.trans{Bs:Nat}{X Y Z:World}(h:uE Bs X Y)(k:uE Bs Y Z):uE Bs X Z:=⟨Nat.le_trans h.1 k.1,k.2.trans h.2⟩
def Gu(A B:World):Prop:=Below A.heap.size A B
theorem LY{l:List UInt8}{j:Nat}{c:UInt8}(h:l[j]?=some c):l.drop j=c :: l.drop (j+1):=by
 obtain⟨h1,h2⟩:=List.getElem?_eq_some_iff.1 h;rw[List.drop_eq_getElem_cons h1,h2]
theorem am2(n:Nat)(hn:1≤n)(Bs:Nat)(D:List UInt8)(hs:D.length≤1000000000)(W:World)(hc:ae W Bs 9 #[.string (aa D)]) :
  tQ Gu Fence.wide n Tryz.prog 142 #[.pointer (some ⟨Bs,0,none⟩)] (fun x:List UInt8=>#[.string (aa x)]) (uE Bs) (fun x _=>x≠[]∧x.length≤D.length) (fun xs=>xs=Tx.words D) (D.length+1) W:=by
 intro l J hJ sJ hY;refine callsIn_of_wp Tryz.func142 rfl trivial ?_ rfl;simp only[Tryz.ntmps142,List.size_toArray,List.length_cons,List.length_nil,Nat.reduceAdd,Nat.reduceSub,Array.replicate_succ,Array.replicate_zero,List.push_toArray,List.append_toArray,List.nil_append,List.cons_append];obtain⟨N,hN⟩:∃N,D.length=N:=⟨_,rfl⟩;have HN:=hide hN;rw[hN] at hs;obtain⟨all,hall⟩:∃all,Tx.words D=all:=⟨_,rfl⟩;rw[hall];have lX:=hide hall;have nB:=hide (show all.length≤N+1 by rw[←hall,←hN];exact Tx.Oj D []);have HY:=hide hY;have H0:=hide sJ;have HC:=hide hc;have q0:=hc.cell 0;have hsz:(aa D).size=N:=by rw[aC,hN]
 have ub:=hide (fun a b=>xk D a b);have oR:=hide (fun k c (h:D[k]?=some c) w=>rb (aa D) k c (by rw[aP];exact h) w);have ju:=hide (fun c W=>amj c W);clear hN hall hY sJ hc hJ;gi_wp2
 gi_loopg [3,7] N (fun g v3 v7 wr=>∃(i f:Nat) (pre:List (List UInt8)),g=N-i∧i≤N∧f≤i∧v3=.int .i64 (f:Int)∧v7=.int .i64 (i:Int)∧pre++Tx.bq ((D.drop f).take (i-f)) (D.drop i)=all∧J pre wr∧ae wr Bs 9 #[.string (aa D)])
 case atStart=>exact⟨0,0,[],rfl,by omega,Nat.le_refl _,rfl,rfl,by rw[←lX.out];rfl,H0.out,HC.out⟩
 case round=>
  obtain⟨i,f,pre,hg,hi,hf,rfl,rfl,hp,hj,hc⟩:=hrel;have Hg:=hide hg;have HP:=hide hp;have Hj:=hide hj;have tW:=hide hc;have q1:=hc.cell 0;clear hg hp hj hc
  by_cases hlt:i<N
  ·obtain⟨c,Ey⟩:∃c,D[i]?=some c:=⟨_,List.getElem?_eq_getElem (by rw[HN.out];exact hlt)⟩;have fY:=oR.out i c Ey;have HD:=hide (LY Ey);have br:=hide (ju.out c wr);have zi:IntKind.i64.wrap ((i:Int)+1)=((i+1:Nat):Int):=by rw[IntWalk.i64_in _ (by omega)];omega
   have Hci:=hide Ey;clear Ey
   cases hsp:Tx.sp c with
   | false=>
    have r8:=hide hsp;rw[hsp] at br;clear hsp
    gi_wp2_with (refine⟨trivial,?_⟩;gi_at_call 143;refine (callsIn_wide.2 br.out).mono ?_;rintro e w2 ⟨rfl,hw2⟩;subst w2)
    go_roundg (N-(i+1))
    case measure=>have:=Hg.out;omega
    case rel=>
     refine⟨i+1,f,pre,rfl,by omega,by omega,rfl,by first|rfl|go_num,?_,Hj.out,tW.out⟩;rw[←HP.out,HD.out]
     conv=>rhs;unfold Tx.bq
     rw[if_neg (by rw[r8.out];simp),show i+1-f=(i-f)+1 by omega,List.take_add_one,List.getElem?_drop,show f+(i-f)=i by omega,Hci.out];rfl
   | true=>
    have r8:=hide hsp;rw[hsp] at br;clear hsp
    by_cases n8:f<i
    ·have EB:(f:Int)<(i:Int):=by omega
     have hex:(aa D).extract f i=aa ((D.drop f).take (i-f)):=ub.out f i;obtain⟨x,hx⟩:∃x,(D.drop f).take (i-f)=x:=⟨_,rfl⟩;have jq:x.length=i-f:=by rw[←hx,List.length_take,List.length_drop,HN.out];omega
     have tz:x≠[]:=fun e=>by rw[e] at jq;simp at jq;omega
     rw[hx] at hex
     have HW:=hide (show Tx.bq x (D.drop i)=x :: Tx.bq [] (D.drop (i+1)) by
      rw[HD.out]
      conv=>lhs;unfold Tx.bq
      rw[if_pos r8.out,if_neg tz])
     have jQ:=hide (show pre++x :: Tx.bq [] (D.drop (i+1))=all by rw[←HW.out,←hx];exact HP.out)
     have hpl:pre.length<N+1:=by
      have h1:=congrArg List.length jQ.out;rw[List.length_append,List.length_cons] at h1;have:=nB.out;omega
     have j7:=HY.out pre x wr Hj.out ⟨tz,by rw[jq,HN.out];omega⟩ (by rw[HN.out];exact hpl);obtain⟨fn,tmps,assign,body,hy,lh⟩:=j7;have pU:=hide lh;have jc:0≤(f:Int)∧(f:Int)≤(i:Int)∧(i:Int)≤(N:Int):=by omega
     clear hx jq tz lh hpl
     gi_wp2_with (refine⟨trivial,?_⟩;gi_at_call 143;refine (callsIn_wide.2 br.out).mono ?_;rintro e w2 ⟨rfl,hw2⟩;subst w2)
     refine pU.out.mono ?_;rintro e W3 ⟨rfl,bV,aH⟩;have gO:=hide bV;have CF:=hide (show ae W3 Bs 9 #[.string (aa D)] from aH.2.trans tW.out);clear bV aH;gi_wp2
     go_roundg (N-(i+1))
     case measure=>have:=Hg.out;omega
     case rel=>
      refine⟨i+1,i+1,pre++[x],rfl,by omega,Nat.le_refl _,by first|rfl|go_num,by first|rfl|go_num,?_,gO.out,CF.out⟩;rw[Nat.sub_self,List.take_zero,List.append_assoc];exact jQ.out
    have hfe:f=i:=by omega
    subst hfe;have EB:¬(f:Int)<(f:Int):=by omega
    have jQ:=hide (show pre++Tx.bq [] (D.drop (f+1))=all by
     rw[←HP.out,HD.out,Nat.sub_self,List.take_zero]
     conv=>rhs;unfold Tx.bq
     rw[if_pos r8.out,if_pos rfl])
    gi_wp2_with (refine⟨trivial,?_⟩;gi_at_call 143;refine (callsIn_wide.2 br.out).mono ?_;rintro e w2 ⟨rfl,hw2⟩;subst w2)
    refine⟨fun f h=>(by cases h),?_⟩;gi_wp2
    go_roundg (N-(f+1))
    case measure=>have:=Hg.out;omega
    case rel=>exact⟨f+1,f+1,pre,rfl,by omega,Nat.le_refl _,by first|rfl|go_num,by first|rfl|go_num,by rw[Nat.sub_self,List.take_zero];exact jQ.out,Hj.out,tW.out⟩
  have AV:i=N:=by omega
  subst AV;have hnil:D.drop i=[]:=List.drop_of_length_le (by rw[HN.out];exact Nat.le_refl _);have cN:(D.drop f).take (i-f)=D.drop f:=List.take_of_length_le (by rw[List.length_drop,HN.out];exact Nat.le_refl _);have jQ:=hide (show pre++Tx.bq (D.drop f) []=all by rw[←HP.out,hnil,cN])
  by_cases n8:f<i
  ·have EB:(f:Int)<(i:Int):=by omega
   have hex:(aa D).extract f i=aa (D.drop f):=by rw[ub.out f i,cN]
   obtain⟨x,hx⟩:∃x,D.drop f=x:=⟨_,rfl⟩;have jq:x.length=i-f:=by rw[←hx,List.length_drop,HN.out]
   have tz:x≠[]:=fun e=>by rw[e] at jq;simp at jq;omega
   rw[hx] at hex
   have wM:=hide (show pre++[x]=all by
    have h1:=jQ.out;rw[hx] at h1;unfold Tx.bq at h1;rwa[if_neg tz] at h1)
   have hpl:pre.length<i+1:=by
    have h1:=congrArg List.length wM.out;rw[List.length_append,List.length_singleton] at h1;have:=nB.out;omega
   have j7:=HY.out pre x wr Hj.out ⟨tz,by rw[jq,HN.out];omega⟩ (by rw[HN.out];exact hpl);obtain⟨fn,tmps,assign,body,hy,lh⟩:=j7;have pU:=hide lh;have jc:0≤(f:Int)∧(f:Int)≤(i:Int)∧(i:Int)≤(i:Int):=by omega
   clear hx jq tz lh hpl hnil cN;gi_wp2;refine pU.out.mono ?_;rintro e W3 ⟨rfl,bV,aH⟩;have gO:=hide bV;clear bV aH;gi_wp2;go_end0;have uR:=gO.out;rw[wM.out] at uR
   first|exact⟨⟨_,rfl⟩,_,rfl,uR⟩|exact⟨⟨_,rfl⟩,uR⟩
  have EB:¬(f:Int)<(i:Int):=by omega
  have wM:=hide (show pre=all by
   have h1:=jQ.out;rw[List.drop_of_length_le (by rw[HN.out];omega)] at h1
   simpa[Tx.bq] using h1)
  clear hnil cN;gi_wp2;go_end0;have uR:=Hj.out;rw[wM.out] at uR
  first|exact⟨⟨_,rfl⟩,_,rfl,uR⟩|exact⟨⟨_,rfl⟩,uR⟩
end
section
open Go.RowKit Go.WideShapes

attribute [local go_sem] Oper.semAt_some

theorem Dx(a b:List UInt8):Lib.byteCells (a++b)=Lib.byteCells a++Lib.byteCells b:=by simp[Lib.byteCells]
def Bx(B b:Nat)(l:List UInt8)(w:World):Prop:=Lib.IsBuilder 60 5 B b (Lib.byteCells l) w
section
variable {B b:Nat} {l:List UInt8} {w w1:World}
theorem Bx.ws(h:Bx B b l w)(m:List UInt8)(hlen:l.length+m.length≤140737488355328)(gU:B≤w.heap.size) :
  Calls Tryz.prog 25 #[.pointer (some ⟨b,0,none⟩),.string (aa m)] w fun e w'=>(∃v,e=.returned v)∧Bx B b (l++m) w'∧bK B b w w':=by
 have hs:(aa m).size=m.length:=aC m;refine (YV B b _ (aa m) w h (by rw[Lib.byteCells_length];omega) gU).mono ?_;rintro e w' ⟨rfl,h1,h2⟩;refine⟨⟨_,rfl⟩,?_,h2⟩;unfold Bx;rw[Dx];exact h1
theorem Bx.wb(h:Bx B b l w)(c:UInt8)(hlen:l.length+1≤140737488355328)(gU:B≤w.heap.size) :
  Calls Tryz.prog 49 #[.pointer (some ⟨b,0,none⟩),.int .u8 (c.toNat:Nat)] w fun e w'=>e=.returned .nilIface∧Bx B b (l++[c]) w'∧bK B b w w':=by
 refine (amM B b _ _ w h (by rw[Lib.byteCells_length];omega) gU).mono ?_;rintro e w' ⟨rfl,h1,h2⟩;refine⟨rfl,?_,h2⟩;unfold Bx;rw[Dx];exact h1
theorem Bx.turn(h:Bx B b l w)(hk:∀k,bO w k 5∨k=b→w1.heap[k]?=w.heap[k]?):Bx B b l w1:=by
 have key:∀p,Lib.BuilderAt 60 5 B b p (Lib.byteCells l) w→Lib.BuilderAt 60 5 B b p (Lib.byteCells l) w1:=fun p hp=>by
  obtain⟨hB,v,b9,hown,hne⟩:=hp;refine⟨hB,v,(hk _ (.inr rfl)).trans b9,⟨hown.1,?_⟩,hne⟩
  rcases hown.2 with hn|⟨g,cap,cur,rfl,jd,dR,rest⟩
  ·exact .inl hn
  exact .inr ⟨g,cap,cur,rfl,jd,(hk g (.inl ⟨cur,_,dR⟩)).trans dR,rest⟩
 rcases h with h|h
 ·exact .inl (key _ h)
 exact .inr (key _ h)
theorem Bx.lt(h:Bx B b l w):b<w.heap.size:=by
 rcases h with h|h<;>exact h.lt
theorem Bx.Vr(h:Bx B b l w):mK w b:=by
 rcases h with h|h<;>(obtain⟨_,v,b9,_⟩:=h;exact⟨_,_,_,b9⟩)
theorem Bx.go(h:Bx B b l w)(hb:Below w.heap.size w w1):Bx B b l w1:=h.turn fun k hk=>hb.block k (by
 rcases hk with hk|rfl
 ·exact hk.lt
 exact h.lt)
theorem Bx.put(h:Bx B b l w){i:Nat}{o o':Obj}(hi:w.heap[i]?=some o')(hc:o'.isCells=false):Bx B b l (w.putObj i o):=h.turn fun k hk=>World.putObj_heap_other (by
 rintro rfl
 have:mK w k:=by
  rcases hk with ⟨cs,fr,hk⟩|rfl
  ·exact⟨cs,_,fr,hk⟩
  exact h.Vr
 obtain⟨cs,t,fr,e⟩:=this;rw[hi] at e;cases e
 cases hc)
theorem Bx.fresh(w:World):Bx w.heap.size w.heap.size [] (w.alloc (.cells #[.pointer none,.slice none 0 0] 60)) :=
 .inl ⟨Nat.le_refl _,_,ae.new w _ _,World.ownsRow_nil _ _ _ _,fun h=>by cases h⟩
theorem Bx.str(h:Bx B b l w)(gU:B≤w.heap.size):Calls Tryz.prog 27 #[.pointer (some ⟨b,0,none⟩)] w fun e w'=>e=.returned (.string (aa l))∧Below B w w':=Tryz.Builder_String_any B b l w h gU
theorem Bx.alD(h:Bx B b l w)(gU:B≤w.heap.size):Calls Tryz.prog 27 #[.pointer (some ⟨b,0,none⟩)] w fun e w'=>e=.returned (.string (aa l))∧Below B w w'∧Lib.OthersKept 5 (some b) w w':=by
 refine (Tryz.Builder_String_any_k B b l w (Lib.IsBuilderF.of h) gU).mono ?_;rintro e w' ⟨h1,_,h2,h3⟩;exact⟨h1,h2,h3⟩
theorem Bx.len(h:Bx B b l w):Calls Tryz.prog 106 #[.pointer (some ⟨b,0,none⟩)] w fun e w'=>e=.returned (.int .i64 (l.length:Nat))∧w'=w:=by
 have:=Tryz.Builder_Len B b _ w h;rwa[Lib.byteCells_length] at this
theorem bK.others(h:bK B b w w1)(hb:mK w b):KeepsOthers w w1:=⟨h.size,fun k o hk ho=>by
 refine (h.block k (Array.getElem?_eq_some_iff.1 hk).1 ?_ (.inr ?_)).trans hk
 ·rintro rfl;obtain⟨cs,t,fr,e⟩:=hb;rw[hk] at e;cases e;cases ho
 rintro ⟨cs,fr,e⟩;rw[hk] at e;cases e
 cases ho⟩
end
structure I7(w:World)(D:List UInt8)(L:Nat)(pre:List (List UInt8))(W:World):Prop where
 bx:Bx w.heap.size w.heap.size (pre.foldl Tx.ij []) W
 b:Below w.heap.size w W
 size:w.heap.size+4≤W.heap.size
 txt:ae W (w.heap.size+1) 9 #[.string (aa D)]
 len:(pre.foldl Tx.ij []).length≤pre.length*(L+1)
theorem Wu(acc x:List UInt8):(Tx.ij acc x).length≤acc.length+x.length+1:=by
 unfold Tx.ij;split
 ·omega
 rw[List.length_append,List.length_cons];omega
theorem ahV(D:List UInt8)(w:World)(hs:D.length≤1000000) :
  Calls Tryz.prog 71 #[.string (aa D)] w fun e w'=>e=.returned (.string (aa (Tx.one D)))∧Below w.heap.size w w':=by
 refine (callsIn_wide (n:=5)).1 ?_;refine callsIn_of_wp_marks Tryz.func71 rfl trivial ?_ rfl;simp only[Tryz.ntmps71,List.size_toArray,List.length_cons,List.length_nil,Nat.reduceAdd,Nat.reduceSub,Array.replicate_succ,Array.replicate_zero,List.push_toArray,List.append_toArray,List.nil_append,List.cons_append];obtain⟨L,hL⟩:∃L,D.length=L:=⟨_,rfl⟩;have HL:=hide hL;rw[hL] at hs;clear hL
 gi_wp2_with (refine⟨trivial,?_⟩;gi_at_call 105;refine (callsIn_wide.2 (amo _ _)).mono ?_;rintro e w' ⟨rfl,rfl⟩)
 have aT:ae ((w.alloc (.cells #[.pointer none,.slice none 0 0] 60)).alloc (.cells #[.string (aa D)] 9)) (w.heap.size+1) 9 #[.string (aa D)]:=by
  have:=ae.new (w.alloc (.cells #[.pointer none,.slice none 0 0] 60)) 9 #[.string (aa D)];rwa[World.size_alloc] at this
 have j6:Bx w.heap.size w.heap.size [] ((w.alloc (.cells #[.pointer none,.slice none 0 0] 60)).alloc (.cells #[.string (aa D)] 9)):=(Bx.fresh w).go (az _ _);have di:Below w.heap.size w ((w.alloc (.cells #[.pointer none,.slice none 0 0] 60)).alloc (.cells #[.string (aa D)] 9)):=(az w _).trans ((az _ _).mono (by simp));have hz2:((w.alloc (.cells #[.pointer none,.slice none 0 0] 60)).alloc (.cells #[.string (aa D)] 9)).heap.size=w.heap.size+2:=by simp
 generalize (w.alloc (.cells #[.pointer none,.slice none 0 0] 60)).alloc (.cells #[.string (aa D)] 9)=W2 at aT j6 di hz2 ⊢;have gN:=hide (fun o o'=>show I7 w D L [] ((W2.alloc o).alloc o') from⟨(j6.go (az _ _)).go (az _ _),(di.trans ((az W2 o).mono (by omega))).trans ((az (W2.alloc o) o').mono (by simp;omega)),by simp;omega,(aT.alloc o).alloc o',by simp⟩)
 have mm:∀o o',tQ Gu Fence.wide (5-1) Tryz.prog 142 #[.pointer (some ⟨w.heap.size+1,0,none⟩)] (fun x:List UInt8=>#[.string (aa x)]) (uE (w.heap.size+1)) (fun x _=>x≠[]∧x.length≤L) (fun xs=>xs=Tx.words D) (L+1) ((W2.alloc o).alloc o'):=by
  intro o o';have h:=am2 (5-1) (by omega) (w.heap.size+1) D (by rw[HL.out];omega) ((W2.alloc o).alloc o') ((aT.alloc o).alloc o');rw[HL.out] at h;exact h
 refine MM (Fr:=Gu) (fun A B h k h1 h2=>h.block k h2) rfl (by omega) (gf:=142) (lb:=#[.pointer (some ⟨w.heap.size+1,0,none⟩)]) rfl trivial (enters_of Tryz.func142 (by kernel_rfl) rfl) (fun _=>rfl)
  mm ?kt ?kb (I7 w D L) ?ip ?ib ?f gN.out
  (fun x=>{ tmps:=#[.string (aa D),undef,.string ⟨#[]⟩,.pointer (some ⟨w.heap.size,0,none⟩),.string (aa x),.string (aa D),.func (.func 142) #[] #[.pointer (some ⟨w.heap.size+1,0,none⟩)],.string (aa x),undef,undef,undef,undef,undef,undef],defers:=[] }) ?assign ?body ?done
 case kt=>exact fun h k=>h.trans k
 case kb=>exact fun W o o' h h2=>⟨by simp[World.putObj],World.putObj_heap_other (by omega)⟩
 case ip=>
  intro s W o o' h hl hc;exact⟨h.bx.put hl hc,⟨h.b.os,h.b.tape,h.b.output,by have:=h.b.size;simpa[World.putObj] using this,fun k hk=>(World.putObj_heap_other (by omega)).trans (h.b.block k hk)⟩,by have:=h.size;simpa[World.putObj] using this,(World.putObj_heap_other (by omega)).trans h.txt,h.len⟩
 case ib=>
  intro s A B h hb;exact⟨h.bx.go hb,h.b.trans (hb.mono h.b.size),Nat.le_trans h.size hb.size,h.txt.go hb,h.len⟩
 case f=>exact fun x W o h=>h
 case assign=>
  intro l x W K hK;gi_wp2;exact hK
 case body=>
  intro l pre x W hI hf hlen hsz;have fW:=hI.len;have TF:pre.length*(L+1)≤1000001*1000001:=Nat.mul_le_mul (by omega) (by omega);obtain⟨acc,j8⟩:∃acc,pre.foldl Tx.ij []=acc:=⟨_,rfl⟩;have OJ:=hide (show (pre++[x]).foldl Tx.ij []=Tx.ij acc x by rw[List.foldl_append,j8];rfl);have nC:=hide (j8▸hI.bx:Bx w.heap.size w.heap.size acc W);have HI:=hide hI;have HF:=hide hf;rw[j8] at fW;have nB:=hide fW;have jq:x.length≤1000000:=Nat.le_trans hf.2 hs;have aK:w.heap.size≤W.heap.size:=hI.b.size;have hT:=hI.txt
  have key:∀W3,bK w.heap.size w.heap.size W W3→Bx w.heap.size w.heap.size (Tx.ij acc x) W3→KeepsFrom W2.heap.size W W3∧uE (w.heap.size+1) W W3∧I7 w D L (pre++[x]) W3:=fun W3 cB hB=>by
   have aB:=cB.blk hT (by omega) (by decide);refine⟨(cB.others nC.out.Vr).from _,⟨cB.size,aB.trans hT.symm⟩,⟨OJ.out.symm▸hB,HI.out.b.trans (cB.below (Nat.le_refl _) aK),Nat.le_trans HI.out.size cB.size,aB,?_⟩⟩;rw[OJ.out,List.length_append,List.length_singleton,Nat.add_mul,Nat.one_mul];have:=Wu acc x;have:=nB.out;have:=HF.out.2;omega
  have Key:=hide key;have aeT:acc.length≤1000002000001:=Nat.le_trans fW TF;clear fW TF j8 hI hf key mm aT j6 di gN hT
  cases acc with
  | nil=>
   have HS:=hide (nC.out.ws x (by simp;omega) aK)
   gi_wp2_with (refine⟨trivial,?_⟩;gi_at_call 106;refine (callsIn_wide.2 nC.out.len).mono ?_;rintro e w2 ⟨rfl,hw2⟩;subst w2)
   refine⟨trivial,?_⟩;refine (callsIn_wide.2 HS.out).mono ?_;rintro e w3 ⟨⟨v,rfl⟩,aB,qX⟩;have aw:=hide aB;have cj:=hide qX;clear aB qX;dsimp only;gi_wp2;exact Key.out w3 cj.out aw.out
  | cons a acc=>
   have pV:=hide (nC.out.wb 32 (by omega) aK);have hlz:(0:Int)<((a :: acc).length:Int):=by rw[List.length_cons];omega
   obtain⟨m,hm⟩:∃m,(a :: acc).length=m:=⟨_,rfl⟩;have Ps:=hide (nC.out.len);rw[hm] at Ps hlz aeT;have Hm:=hide hm;clear hm
   gi_wp2_with (refine⟨trivial,?_⟩;gi_at_call 106;refine (callsIn_wide.2 Ps.out).mono ?_;rintro e w2 ⟨rfl,hw2⟩;subst w2)
   refine⟨trivial,?_⟩;refine (callsIn_wide.2 pV.out).mono ?_;rintro e w3 ⟨rfl,aB,qX⟩;have aw:=hide aB;have cj:=hide qX;have rW:=hide (aB.ws x (by rw[List.length_append,Hm.out,List.length_singleton];omega) (Nat.le_trans aK qX.size));clear aB qX;dsimp only
   gi_wp2_with fail
   refine⟨trivial,?_⟩;refine (callsIn_wide.2 rW.out).mono ?_;rintro e w4 ⟨⟨v,rfl⟩,lq,UY⟩;have cG:=hide lq;have ir:=hide (cj.out.trans UY);clear lq UY;dsimp only;gi_wp2;refine Key.out w4 ir.out ?_;have:=cG.out;unfold Tx.ij;rw[if_neg (by simp)];rwa[List.append_assoc] at this
 case done=>
  intro D0 xs W hD eG hI hK;subst eG;have aK:w.heap.size≤W.heap.size:=hI.b.size;have Ec:D0=w.heap.size+2:=by omega
  subst Ec;have HSt:=hide (hI.bx.alD aK);have HB:=hide hI.b;have HK:=hide hK;have hO:=hide (show (Tx.words D).foldl Tx.ij []=Tx.one D from rfl);have hsz:=hI.size;have pY:=hide (hO.out▸HSt.out);have nC:=hide hI.bx;clear hI hK mm aT j6 di gN HSt
  gi_wp2_with fail
  refine⟨trivial,?_⟩;refine (callsIn_wide.2 pY.out).mono ?_;rintro e w3 ⟨rfl,aB,bW⟩;have aw:=hide (HB.out.trans aB);have cQ:=hide (bW _ _ HK.out (fun e=>by injection e with e;omega) (fun c fz e=>by cases e));clear aB bW;dsimp only;gi_wp2;refine⟨by simp,.inl ⟨_,_,rfl,run_takeDeferred cQ.out,?_⟩⟩;refine⟨.string (aa (Tx.one D)),?_,?_⟩
  ·simp[results,Tryz.results71,go_sem]
  exact⟨rfl,aw.out.os,aw.out.tape,aw.out.output,Nat.le_trans aw.out.size (by simp[World.putObj]),fun k hk=>(World.putObj_heap_other (by omega)).trans (aw.out.block k hk)⟩
namespace Tx
theorem Ol:∀(l cur:List UInt8),((bq cur l).map List.length).sum+(bq cur l).length≤cur.length+l.length+1
 | [],cur=>by unfold bq;split<;>simp
 | c :: l,cur=>by
  unfold bq;have h1:=Ol l [];have h2:=Ol l (cur++[c]);rw[List.length_nil] at h1;rw[List.length_append,List.length_singleton] at h2;rw[List.length_cons];split
  ·split
   ·omega
   rw[List.map_cons,List.sum_cons,List.length_cons];omega
  omega
theorem yy(l:List UInt8):(one l).length≤l.length+1:=by
 have key:∀(ws:List (List UInt8)) (acc:List UInt8),(ws.foldl ij acc).length≤acc.length+(ws.map List.length).sum+ws.length:=fun ws=>by
  induction ws with
  | nil=>intro acc;simp
  | cons x ws ih=>
   intro acc;rw[List.foldl_cons,List.map_cons,List.sum_cons,List.length_cons];have:=ih (ij acc x);have:=Wu acc x;omega
 have:=key (words l) [];have:=Ol l [];unfold one words at *
 simp only[List.length_nil] at *
 omega
def line(l:List UInt8):List UInt8:=Nf.oz (one l)
def right(l:List UInt8):Bool:=Utf.valid l&&decide (Tk.bad l<0)
def gI(l:List UInt8):Bool:=right l&&decide (line l=l)
end Tx
theorem VK(l:List UInt8)(w:World)(hs:l.length≤200000) :
  Calls Tryz.prog 42 #[.string (aa l)] w fun e w'=>e=.returned (.string (aa (Tx.line l)))∧Below w.heap.size w w':=by
 have H1:=hide (ahV l w (by omega));have nd:=Tx.yy l;have H2:=hide (fun W=>ahy (aa (Tx.one l)) W (by rw[aC];omega));rw[aP] at H2;clear nd
 go_enter Tryz.func42,Tryz.ntmps42
 go_wp2_with fail
 refine H1.out.mono ?_;rintro e w1 ⟨rfl,hb⟩;have HB:=hide hb;clear hb;dsimp only
 go_wp2_with fail
 refine (H2.out w1).mono ?_;rintro e w2 ⟨rfl,hb⟩;have ah:=hide (HB.out.trans (hb.mono HB.out.size));clear hb;dsimp only;go_wp2;go_ret;exact⟨rfl,ah.out⟩
theorem ajR(l:List UInt8)(w:World)(hs:l.length≤200000) :
  Calls Tryz.prog 79 #[.string (aa l)] w fun e w'=>e=.returned (.bool (Tx.right l))∧Below w.heap.size w w':=by
 have H1:=hide (YB (aa l) w (by rw[aC];omega));have H2:=hide (fun W=>Jl (aa l) W (by rw[aC];omega));rw[aP] at H1 H2;unfold Tx.right
 cases hv:Utf.valid l with
 | false=>
  rw[hv] at H1;clear hv
  go_enter Tryz.func79,Tryz.ntmps79
  go_wp2_with fail
  refine H1.out.mono ?_;rintro e w1 ⟨rfl,hb⟩;have HB:=hide hb;clear hb;dsimp only;go_wp2;go_ret;exact⟨rfl,HB.out⟩
 | true=>
  rw[hv] at H1;clear hv;obtain⟨q,hq⟩:∃q,Tk.bad l=q:=⟨_,rfl⟩;rw[hq] at H2 ⊢;clear hq
  go_enter Tryz.func79,Tryz.ntmps79
  go_wp2_with fail
  refine H1.out.mono ?_;rintro e w1 ⟨rfl,hb⟩;have HB:=hide hb;clear hb;dsimp only
  go_wp2_with fail
  refine (H2.out w1).mono ?_;rintro e w2 ⟨rfl,hb⟩;have ah:=hide (HB.out.trans (hb.mono HB.out.size));clear hb;dsimp only;go_wp2;go_ret;exact⟨by rw[Bool.true_and];rfl,ah.out⟩
end
end Go.Proofs.YtnbmfljhbpfilaaGreatDoor
