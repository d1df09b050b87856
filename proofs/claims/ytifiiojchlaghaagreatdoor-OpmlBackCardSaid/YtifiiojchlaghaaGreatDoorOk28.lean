/- NFC: nfc.whole, Decomposed, Composed, Nfc. And more. -/
import Derived.Test.YtifiiojchlaghaaGreatDoorOk01
import Derived.Test.YtifiiojchlaghaaGreatDoorOk03
import Derived.Test.YtifiiojchlaghaaGreatDoorOk09
import Derived.Test.YtifiiojchlaghaaGreatDoorOk24
import Derived.Test.YtifiiojchlaghaaGreatDoorOk27
import Derived.Laws.RangeAny
import Derived.Sort.LoopGhostIn
set_option linter.unusedSimpArgs false
set_option maxRecDepth 100000
set_option maxHeartbeats 8000000
set_option linter.unusedVariables false
namespace Go.Proofs.YtifiiojchlaghaaGreatDoor
section
open Go.RowKit Go.WideShapes

theorem piecesN_sc:∀(k at_:Nat) (l:List UInt8),∀p∈Utf.piecesN k at_ l,p.2<0∨Utf.isScalar p.2=true
 | k,at_,[],p,h=>by cases k<;>simp[Utf.piecesN] at h
 | 0,_,c :: l,p,h=>by unfold Utf.piecesN at h;cases h
 | k+1,at_,c :: l,p,h=>by
  unfold Utf.piecesN at h
  rcases List.mem_cons.1 h with rfl|h
  ·have:=piece_pc ⟨(c :: l).toArray⟩ 0
   simpa using this
  exact piecesN_sc k _ _ p h
theorem piecesN_len:∀(k at_:Nat) (l:List UInt8),(Utf.piecesN k at_ l).length≤k
 | k,at_,[]=>by cases k<;>simp[Utf.piecesN]
 | 0,_,c :: l=>by simp[Utf.piecesN]
 | k+1,at_,c :: l=>by
  unfold Utf.piecesN;rw[List.length_cons];have:=piecesN_len k (at_+(Utf.piece (c :: l)).2.toNat) ((c :: l).drop (Utf.piece (c :: l)).2.toNat);omega
theorem uscals_len(l:List UInt8):(uscals l).length≤l.length:=by
 unfold uscals Utf.pieces;rw[List.length_map];exact piecesN_len _ _ _
theorem uscals_ok{l:List UInt8}(h:Right l):∀x∈uscals l,Nf.Ok x:=by
 intro x hx;unfold uscals at hx;obtain⟨p,hp,rfl⟩:=List.mem_map.1 hx;have h1:=h p hp
 rcases piecesN_sc _ _ _ p hp with h2|h2
 ·omega
 simp[Utf.isScalar] at h2;exact⟨by omega,by omega⟩
instance(l:List UInt8):Decidable (Right l):=by unfold Right;infer_instance
namespace Nf
def via(f:List Int→List Int)(s:List UInt8):List UInt8:=if Right s then (textOf (f (uscals s))).getD [] else s
def decomposed(s:List UInt8):List UInt8:=via dec s
def composed(s:List UInt8):List UInt8:=via compose s
def nfc(s:List UInt8):List UInt8:=if s.any (fun c=>decide (128≤c.toNat)) then composed (decomposed s) else s
theorem textOf_len{l:List Int}:((textOf l).getD []).length≤4*l.length:=by
 unfold textOf;split
 ·exact bytesOf_len l
 simp
theorem runs_len:∀(n:Nat) (l:List Int),l.length<n→((runs n l).flatMap sortR).length=l.length
 | 0,_,h=>by omega
 | n+1,[],_=>rfl
 | n+1,r :: l,h=>by
  rw[runs,List.flatMap_cons,List.length_append,sortR_len,runs_len n _ (by rw[List.length_drop];simp at h;omega),List.length_drop,List.length_cons,List.length_cons];have:=marks_le l;omega
theorem dec_len(l:List Int):(dec l).length≤16*l.length:=by
 unfold dec sort;rw[runs_len _ _ (Nat.lt_succ_self _)];exact decomp_len l
theorem comp_len(l:List Int):(compose l).length≤l.length:=by
 have hl:∀(l:List Int) (s:Cs),(l.foldl cstep s).out.length≤s.out.length+l.length:=fun l=>by
  induction l with
  | nil=>intro s;simp
  | cons x l ih=>intro s;rw[List.foldl_cons];have:=ih (cstep s x);have:=cstep_len s x;rw[List.length_cons];omega
 have:=hl l ⟨[],-1,-1⟩
 simpa[compose] using this
theorem decomposed_len(s:List UInt8):(decomposed s).length≤64*s.length:=by
 unfold decomposed via;split
 ·refine Nat.le_trans textOf_len ?_;have:=dec_len (uscals s);have:=uscals_len s;omega
 omega
end Nf
theorem textV_string(l:List Int):∃b,textV l=.tuple #[.string (bstr ((Nf.textOf l).getD [])),.bool b]:=by
 unfold textV
 cases Nf.textOf l with
 | some x=>exact⟨true,rfl⟩
 | none=>exact⟨false,rfl⟩
theorem whole_dec(s:ByteArray)(w:World)(hs:s.size≤250000) :
  Calls Tryz.prog 109 #[.string s,.func (.func 111) #[] #[]] w fun e w'=>e=.returned (.string (bstr (Nf.decomposed s.data.toList)))∧Below w.heap.size w w':=by
 have HSc:=hide (uscal_any s w (by omega));have hl:=uscals_len s.data.toList;rw[size_list] at hl
 by_cases hR:Right s.data.toList
 ·have HV:=hide (show Nf.decomposed s.data.toList=(Nf.textOf (Nf.dec (uscals s.data.toList))).getD [] by unfold Nf.decomposed Nf.via;rw[if_pos hR]);have HOk:=hide (uscals_ok hR);have HR:=hide hR;have hdl:=Nf.dec_len (uscals s.data.toList);have HD:=hide (fun A c W h=>dec_any (uscals s.data.toList) A c W h HOk.out (by omega));have HT:=hide (fun A c W h=>utext_any (Nf.dec (uscals s.data.toList)) A c W h (by omega));obtain⟨bb,hbb⟩:=textV_string (Nf.dec (uscals s.data.toList));have HBb:=hide hbb;clear hR hl hdl hbb;rw[HV.out];generalize uscals s.data.toList=l at *
  go_enter Tryz.func109,Tryz.ntmps109
  go_wp2_with fail
  refine HSc.out.mono ?_;rintro e w1 ⟨hb1,⟨_,A,c,rfl,hr⟩|⟨hn,_⟩⟩
  ·have HB1:=hide hb1;have HR1:=hide hr;clear hb1 hr;dsimp only
   go_wp2_with fail
   refine (HD.out A c w1 HR1.out).mono ?_;rintro e w2 ⟨A2,c2,rfl,ho2,hb2⟩;have HO2:=hide ho2;have HB2:=hide (HB1.out.trans (hb2.mono HB1.out.size));clear ho2 hb2;dsimp only
   go_wp2_with fail
   refine (HT.out A2 c2 w2 (Reads.of_own HO2.out)).mono ?_;rintro e w3 ⟨rfl,hb3⟩;have HB3:=hide (HB2.out.trans (hb3.mono HB2.out.size));clear hb3;rw[HBb.out];dsimp only;go_wp2;go_ret;exact⟨rfl,HB3.out⟩
  exact absurd HR.out hn
 have HV:=hide (show Nf.decomposed s.data.toList=s.data.toList by unfold Nf.decomposed Nf.via;rw[if_neg hR]);have HR:=hide hR;clear hR hl;rw[HV.out]
 go_enter Tryz.func109,Tryz.ntmps109
 go_wp2_with fail
 refine HSc.out.mono ?_;rintro e w1 ⟨hb1,⟨h1,_⟩|⟨_,rfl⟩⟩
 ·exact absurd h1 HR.out
 have HB1:=hide hb1;clear hb1;dsimp only;go_wp2;go_ret;exact⟨rfl,HB1.out⟩
theorem whole_comp(s:ByteArray)(w:World)(hs:s.size≤16000000) :
  Calls Tryz.prog 109 #[.string s,.func (.func 110) #[] #[]] w fun e w'=>e=.returned (.string (bstr (Nf.composed s.data.toList)))∧Below w.heap.size w w':=by
 have HSc:=hide (uscal_any s w (by omega));have hl:=uscals_len s.data.toList;rw[size_list] at hl
 by_cases hR:Right s.data.toList
 ·have HV:=hide (show Nf.composed s.data.toList=(Nf.textOf (Nf.compose (uscals s.data.toList))).getD [] by unfold Nf.composed Nf.via;rw[if_pos hR]);have HOk:=hide (uscals_ok hR);have HR:=hide hR;have hdl:=Nf.comp_len (uscals s.data.toList);have HD:=hide (fun A c W h=>compose_any (uscals s.data.toList) A c W h HOk.out (by omega));have HT:=hide (fun A c W h=>utext_any (Nf.compose (uscals s.data.toList)) A c W h (by omega));obtain⟨bb,hbb⟩:=textV_string (Nf.compose (uscals s.data.toList));have HBb:=hide hbb;clear hR hl hdl hbb;rw[HV.out];generalize uscals s.data.toList=l at *
  go_enter Tryz.func109,Tryz.ntmps109
  go_wp2_with fail
  refine HSc.out.mono ?_;rintro e w1 ⟨hb1,⟨_,A,c,rfl,hr⟩|⟨hn,_⟩⟩
  ·have HB1:=hide hb1;have HR1:=hide hr;clear hb1 hr;dsimp only
   go_wp2_with fail
   refine (HD.out A c w1 HR1.out).mono ?_;rintro e w2 ⟨A2,c2,rfl,ho2,hb2⟩;have HO2:=hide ho2;have HB2:=hide (HB1.out.trans (hb2.mono HB1.out.size));clear ho2 hb2;dsimp only
   go_wp2_with fail
   refine (HT.out A2 c2 w2 (Reads.of_own HO2.out)).mono ?_;rintro e w3 ⟨rfl,hb3⟩;have HB3:=hide (HB2.out.trans (hb3.mono HB2.out.size));clear hb3;rw[HBb.out];dsimp only;go_wp2;go_ret;exact⟨rfl,HB3.out⟩
  exact absurd HR.out hn
 have HV:=hide (show Nf.composed s.data.toList=s.data.toList by unfold Nf.composed Nf.via;rw[if_neg hR]);have HR:=hide hR;clear hR hl;rw[HV.out]
 go_enter Tryz.func109,Tryz.ntmps109
 go_wp2_with fail
 refine HSc.out.mono ?_;rintro e w1 ⟨hb1,⟨h1,_⟩|⟨_,rfl⟩⟩
 ·exact absurd h1 HR.out
 have HB1:=hide hb1;clear hb1;dsimp only;go_wp2;go_ret;exact⟨rfl,HB1.out⟩
theorem decomposed_any(s:ByteArray)(w:World)(hs:s.size≤250000) :
  Calls Tryz.prog 77 #[.string s] w fun e w'=>e=.returned (.string (bstr (Nf.decomposed s.data.toList)))∧Below w.heap.size w w':=by
 have H:=hide (whole_dec s w hs)
 go_enter Tryz.func77,Tryz.ntmps77
 go_wp2_with fail
 refine H.out.mono ?_;rintro e w1 ⟨rfl,hb⟩;have HB:=hide hb;clear hb;dsimp only;go_wp2;go_ret;exact⟨rfl,HB.out⟩
theorem composed_any(s:ByteArray)(w:World)(hs:s.size≤16000000) :
  Calls Tryz.prog 76 #[.string s] w fun e w'=>e=.returned (.string (bstr (Nf.composed s.data.toList)))∧Below w.heap.size w w':=by
 have H:=hide (whole_comp s w hs)
 go_enter Tryz.func76,Tryz.ntmps76
 go_wp2_with fail
 refine H.out.mono ?_;rintro e w1 ⟨rfl,hb⟩;have HB:=hide hb;clear hb;dsimp only;go_wp2;go_ret;exact⟨rfl,HB.out⟩
theorem get_at(s:ByteArray)(i:Nat)(c:UInt8)(h:s.data.toList[i]?=some c):s.get! (i+0)=c∧i<s.size:=by
 obtain⟨h1,h2⟩:=List.getElem?_eq_some_iff.1 h;rw[size_list] at h1;refine⟨?_,h1⟩
 have e:s.get! (i+0)=s[i]'h1:=by
  show s.get! i=_;simp[ByteArray.get!,getElem!_pos,h1];rfl
 rw[e,←h2];exact (Array.getElem_toList ..).symm
theorem decode_lo(s:ByteArray)(i:Nat)(c:UInt8)(h:s.data.toList[i]?=some c)(hb:c.toNat<128):Utf8.decode s i=(c.toNat,1):=by
 obtain⟨e,_⟩:=get_at s i c h;unfold Utf8.decode;simp only[e];rw[if_pos hb]
theorem decode_hi(s:ByteArray)(i:Nat)(c:UInt8)(h:s.data.toList[i]?=some c)(hb:¬c.toNat<128):128≤(Utf8.decode s i).1:=by
 obtain⟨e,_⟩:=get_at s i c h;unfold Utf8.decode;simp only[e];rw[if_neg hb];have hE:128≤Utf8.runeError:=by decide
 repeat' split
 all_goals (try simp only[Bool.and_eq_true,decide_eq_true_eq] at *)
 all_goals (try simp only)
 all_goals omega
theorem decode_le(s:ByteArray)(i:Nat)(c:UInt8)(h:s.data.toList[i]?=some c):(Utf8.decode s i).1≤10000000:=by
 obtain⟨e,_⟩:=get_at s i c h;have hc:=c.toNat_lt;unfold Utf8.decode;simp only[e];have hE:Utf8.runeError≤10000000:=by decide
 repeat' split
 all_goals (try simp only)
 all_goals omega
theorem Below.iterAtN{w wr:World}(h:Below w.heap.size w wr)(s:ByteArray)(q:Nat):Below w.heap.size w (wr.iterAt w.heap.size s q) :=
 ⟨h.os,h.tape,h.output,by rw[Lib.iterAt_size];exact h.size,fun k hk=>(Lib.iterAt_other _ _ _ _ _ (by omega)).trans (h.block k hk)⟩
theorem nfc_any(s:ByteArray)(w:World)(hs:s.size≤250000) :
  Calls Tryz.prog 50 #[.string s] w fun e w'=>e=.returned (.string (bstr (Nf.nfc s.data.toList)))∧Below w.heap.size w w':=by
 have HD:=hide (fun W=>decomposed_any s W hs);have hl:=Nf.decomposed_len s.data.toList;rw[size_list] at hl;have HC:=hide (fun W=>composed_any (bstr (Nf.decomposed s.data.toList)) W (by rw[bstr_size];omega));rw[bstr_list] at HC;obtain⟨l,hL⟩:∃l,s.data.toList=l:=⟨_,rfl⟩;rw[hL] at HD HC;have HL:=hide hL;have Hsz:=hide (show l.length=s.size by rw[←hL,size_list]);clear hL hl;rw[HL.out]
 go_enter Tryz.func50,Tryz.ntmps50
 go_wp2;have hb0:Below w.heap.size w (w.iter s 0):=below_alloc w _
 go_loopg [4] s.size (fun gk vk wr=>∃(p:Nat),gk=s.size-p∧p≤s.size∧(∀c∈l.take p,c.toNat<128)∧wr.heap[w.heap.size]?=some (.stringIter s p)∧Below w.heap.size w wr)
 case atStart=>exact⟨0,rfl,by omega,by simp,World.iter_heap _ _ _,hb0⟩
 case round=>
  obtain⟨p,hgk,hp,hlo,hit,hb⟩:=hrel;have Hg:=hide hgk;have HLo:=hide hlo;have HI:=hide hit;have HB:=hide hb;clear hgk hlo hb
  by_cases hps:p<s.size
  ·obtain⟨c,hc⟩:∃c,l[p]?=some c:=⟨_,List.getElem?_eq_getElem (by rw[Hsz.out];exact hps)⟩;have hc2:s.data.toList[p]?=some c:=by rw[HL.out];exact hc
   have hnx:∀ty,(Instr.next (.pointer (some ⟨w.heap.size,0,none⟩)) true ty).run Tryz.prog wr=_:=fun ty=>Lib.run_next_any_at wr w.heap.size s p ty hit hps
   by_cases hlow:c.toNat<128
   ·have hde:=decode_lo s p c hc2 hlow;rw[hde] at hnx;dsimp only at hnx;obtain⟨z,hz⟩:∃z:Nat,c.toNat=z:=⟨_,rfl⟩;rw[hz] at hnx hlow;have hcv:IntKind.i64.wrap (z:Int)=(z:Int):=IntWalk.i64_in _ (by omega);have hlt:¬(128:Int)≤(z:Int):=by omega
    have Hc:=hide hc;have Hlow:=hide hlow;have Hz:=hide hz;clear hc hc2 hde hit hz hlow;go_wp2
    go_roundg (s.size-(p+1))
    case measure=>have:=Hg.out;omega
    case rel=>
     refine⟨p+1,rfl,by omega,?_,Lib.iterAt_heap _ _ _ _ _ HI.out,Below.iterAtN HB.out _ _⟩;intro c2 hc2;rw[List.take_add_one,Hc.out] at hc2
     rcases List.mem_append.1 hc2 with hc2|hc2
     ·exact HLo.out c2 hc2
     simp at hc2;subst hc2;rw[Hz.out];exact Hlow.out
   have hde:=decode_hi s p c hc2 hlow;have hle:=decode_le s p c hc2;obtain⟨⟨z,n2⟩,hd⟩:∃q,Utf8.decode s p=q:=⟨_,rfl⟩;rw[hd] at hnx hde hle;dsimp only at hnx hde hle;have hcv:IntKind.i64.wrap (z:Int)=(z:Int):=IntWalk.i64_in _ (by omega);have hge:(128:Int)≤(z:Int):=by omega
   have HV:=hide (show Nf.nfc l=Nf.composed (Nf.decomposed l) by
    unfold Nf.nfc;rw[if_pos (List.any_eq_true.2 ⟨c,List.mem_of_getElem? hc,decide_eq_true (by omega)⟩)])
   have HB2:=hide (Below.iterAtN HB.out s (p+n2));clear hc hc2 hde hle hit hlow hd
   go_wp2_with fail
   refine (HD.out _).mono ?_;rintro e w2 ⟨rfl,hb2⟩;have HB3:=hide (HB2.out.trans (hb2.mono HB2.out.size));clear hb2;dsimp only
   go_wp2_with fail
   refine (HC.out _).mono ?_;rintro e w3 ⟨rfl,hb3⟩;have HB4:=hide (HB3.out.trans (hb3.mono HB3.out.size));clear hb3;dsimp only;go_wp2;go_ret;exact⟨by rw[HV.out];rfl,HB4.out⟩
  have hnx:∀ty,(Instr.next (.pointer (some ⟨w.heap.size,0,none⟩)) true ty).run Tryz.prog wr=_:=fun ty=>Lib.run_next_end_at wr w.heap.size s p ty hit hps
  have HV:=hide (show Nf.nfc l=l by
   unfold Nf.nfc;rw[if_neg];intro h;obtain⟨c,hc,hd⟩:=List.any_eq_true.1 h;have:=HLo.out c (by rw[List.take_of_length_le (by rw[Hsz.out];omega)];exact hc);have:=of_decide_eq_true hd
   omega)
  have Hps:=hide hps;have Hsb:=hide (show s=bstr l by rw[←HL.out,bstr_of]);clear hit hps;go_wp2;go_ret;exact⟨by rw[HV.out,←Hsb.out];rfl,HB.out⟩
end
section
open Go.RowKit Go.WideShapes

namespace Tx
def sp(c:UInt8):Bool:=decide (c.toNat=32∨c.toNat=9∨c.toNat=10∨c.toNat=13)
theorem white_bits:∀n:Fin 64,(bits BinOp.and IntKind.u64 (4294977024 / 2 ^ n.val) 1==1)=decide (n.val=32∨n.val=9∨n.val=10∨n.val=13):=by decide +kernel
end Tx
theorem tspace_any(c:UInt8)(w:World):Calls Tryz.prog 115 #[.int .u8 (c.toNat:Int)] w fun e w'=>e=.returned (.bool (Tx.sp c))∧w'=w:=by
 obtain⟨n,hn⟩:∃n,c.toNat=n:=⟨_,rfl⟩;obtain⟨q,hq⟩:∃q,Tx.sp c=q:=⟨_,rfl⟩;have hs:decide (n=32∨n=9∨n=10∨n=13)=q:=by rw[←hq,←hn];rfl
 rw[hq,hn]
 by_cases h:n<64
 ·have hz:(n:Int)<64:=by omega
  have HB:=hide ((Tx.white_bits ⟨n,h⟩).trans hs);clear hs hq
  go_enter Tryz.func115,Tryz.ntmps115
  go_wp2;go_ret;exact⟨ret_eq1 (bool_eq HB.out),rfl⟩
 have hz:¬(n:Int)<64:=by omega
 have HB:=hide (show q=false from hs.symm.trans (decide_eq_false (by omega)));rw[HB.out];clear hs hq
 go_enter Tryz.func115,Tryz.ntmps115
 go_wp2;go_ret;exact⟨rfl,rfl⟩
theorem bstr_ext(l:List UInt8)(a b:Nat):(bstr l).extract a b=bstr ((l.drop a).take (b-a)):=extract_bstr _ _ _
end
section
open Go.RowKit
theorem wb_any(B b:Nat)(bs:List Value)(c:Int)(w:World)(h:Lib.IsBuilder 39 5 B b bs w)(hlen:bs.length+1≤140737488355328)(hBw:B≤w.heap.size) :
  Calls Tryz.prog 29 #[.pointer (some ⟨b,0,none⟩),.int .u8 c] w fun e w'=>e=.returned .nilIface∧(Lib.IsBuilder 39 5 B b (bs++[.int .u8 c]) w'∧BlT B b w w'):=by
 obtain⟨i0,hi,hz0,hz1,hz2⟩:=info_parts info_u8b
 go_enter Tryz.func29,Tryz.ntmps29
 go_wp2_with fail
 refine (cc_blt B b bs _ h).mono ?_;rintro e w1 ⟨rfl,h1,hb1⟩;obtain⟨hB,v,hbk,hown,hne⟩:=h1;have c0:w1.cell? ⟨b,0,none⟩=some (.pointer (some ⟨b,0,none⟩)):=by rw[Lib.cell_of_heap hbk];rfl
 have c1:w1.cell? ⟨b,1,none⟩=some v:=by rw[Lib.cell_of_heap hbk];rfl
 go_wp2_with (at_builtin;refine wpList_append_own _ rfl _ _ 37 rfl B 5 i0 (.int .u8 0) 1 1 Tryz.underlying37 hi hz0 hz1 hz2 rfl (by decide) _ _ _ rfl (hown.alloc _) ⟨w1.heap.size,0,none⟩ 1 1 [.int .u8 c] rfl rfl ?c1 ?c2 ?c3 ?c4 ?c5 ?_)
 case c1=>
  intro j u hj
  match j,hj with
  | 0,hj=>simp at hj;subst hj;simp[Addr.add]
 case c2=>intro u hu;simp at hu;subst hu;rfl
 case c3=>unfold maxLen;omega
 case c4=>omega
 case c5=>have:=hb1.size;simp;omega
 intro v' w2 hown' hgrow _
 have hlt:b<w1.heap.size:=by
  rcases Nat.lt_or_ge b w1.heap.size with h' | h'
  ·exact h'
  simp[Array.getElem?_eq_none h'] at hbk
 have hb2:w2.heap[b]?=some (.cells #[.pointer (some ⟨b,0,none⟩),v] 39 (0,0)):=by
  rw[hgrow.block b (by simp;omega) (fun e=>hne e.symm),Below.heap_alloc _ _ _ hlt];exact hbk
 have d0:w2.cell? ⟨b,0,none⟩=some (.pointer (some ⟨b,0,none⟩)):=by rw[Lib.cell_of_heap hb2];rfl
 have d1:w2.cell? ⟨b,1,none⟩=some v:=by rw[Lib.cell_of_heap hb2];rfl
 have f1:w2.frozen? ⟨b,1,none⟩=false:=Lib.frozen_of_heap hb2 1
 obtain⟨g,cap,rfl⟩:∃g cap,v'=.slice (some ⟨g,0,none⟩) (bs.length+1) cap:=by
  rcases hown'.2 with ⟨_,h0⟩|⟨g,cap,cur,hv,_⟩
  ·omega
  exact⟨g,cap,hv⟩
 go_wp2;go_ret;refine⟨rfl,.inr ?_,?_⟩
 ·exact Lib.BuilderAt.put (T:=39) (e:=5) hB hb2 (bs':=bs++[.int .u8 c]) (by simpa using hown') neB5
 exact ((hb1.alloc _).grown hgrow (fun k hk=>⟨(hown.lt k hk).1,by obtain⟨_,cs,fr,hh⟩:=own_isT hown k hk;exact⟨cs,fr,(Below.heap_alloc _ _ _ (own_isT hown k hk).2.lt).trans hh⟩⟩)).setCell 1 _
end
section
open Go.RowKit Go.WideShapes

attribute [local go_sem] Oper.semAt_some

namespace Tx
def wordsG:List UInt8→List UInt8→List (List UInt8)
 | cur,[]=>if cur=[] then [] else [cur]
 | cur,c :: l=>if sp c then (if cur=[] then wordsG [] l else cur :: wordsG [] l) else wordsG (cur++[c]) l
def words(l:List UInt8):List (List UInt8):=wordsG [] l
def oneStep(acc w:List UInt8):List UInt8:=if acc=[] then w else acc++32 :: w
def one(l:List UInt8):List UInt8:=(words l).foldl oneStep []
theorem wordsG_len:∀(l cur:List UInt8),(wordsG cur l).length≤l.length+1
 | [],cur=>by unfold wordsG;split<;>simp
 | c :: l,cur=>by
  unfold wordsG;have h1:=wordsG_len l [];have h2:=wordsG_len l (cur++[c]);split
  ·split
   ·rw[List.length_cons];omega
   rw[List.length_cons,List.length_cons];omega
  rw[List.length_cons];omega
end Tx
theorem twords_any(s:ByteArray)(w:World) :
  Calls Tryz.prog 78 #[.string s] w fun e w'=>e=.returned (.func (.func 114) #[] #[.pointer (some ⟨w.heap.size,0,none⟩)])∧w'=w.alloc (.cells #[.string s] 9):=by
 go_enter Tryz.func78,Tryz.ntmps78
 go_wp2;go_ret;exact⟨rfl,rfl⟩
def KpS(Bs:Nat)(W W':World):Prop:=W.heap.size≤W'.heap.size∧W'.heap[Bs]?=W.heap[Bs]?
theorem KpS.trans{Bs:Nat}{X Y Z:World}(h:KpS Bs X Y)(k:KpS Bs Y Z):KpS Bs X Z:=⟨Nat.le_trans h.1 k.1,k.2.trans h.2⟩
def FrB(A B:World):Prop:=Below A.heap.size A B
theorem idx_drop{l:List UInt8}{j:Nat}{c:UInt8}(h:l[j]?=some c):l.drop j=c :: l.drop (j+1):=by
 obtain⟨h1,h2⟩:=List.getElem?_eq_some_iff.1 h;rw[List.drop_eq_getElem_cons h1,h2]
theorem words1_gives(n:Nat)(hn:1≤n)(Bs:Nat)(D:List UInt8)(hs:D.length≤1000000000)(W:World)(hc:Blk W Bs 9 #[.string (bstr D)]) :
  GivesOn FrB Fence.wide n Tryz.prog 114 #[.pointer (some ⟨Bs,0,none⟩)] (fun x:List UInt8=>#[.string (bstr x)]) (KpS Bs) (fun x _=>x≠[]∧x.length≤D.length) (fun xs=>xs=Tx.words D) (D.length+1) W:=by
 intro l J hJ h0J hY;refine callsIn_of_wp Tryz.func114 rfl trivial ?_ rfl;simp only[Tryz.ntmps114,List.size_toArray,List.length_cons,List.length_nil,Nat.reduceAdd,Nat.reduceSub,Array.replicate_succ,Array.replicate_zero,List.push_toArray,List.append_toArray,List.nil_append,List.cons_append];obtain⟨N,hN⟩:∃N,D.length=N:=⟨_,rfl⟩;have HN:=hide hN;rw[hN] at hs;obtain⟨all,hall⟩:∃all,Tx.words D=all:=⟨_,rfl⟩;rw[hall];have Hall:=hide hall;have HAl:=hide (show all.length≤N+1 by rw[←hall,←hN];exact Tx.wordsG_len D []);have HY:=hide hY;have H0:=hide h0J;have HC:=hide hc;have q0:=hc.cell 0;have hsz:(bstr D).size=N:=by rw[bstr_size,hN]
 have HEx:=hide (fun a b=>bstr_ext D a b);have HIx:=hide (fun k c (h:D[k]?=some c) w=>idx_run (bstr D) k c (by rw[bstr_list];exact h) w);have HSp:=hide (fun c W=>tspace_any c W);clear hN hall hY h0J hc hJ;gi_wp2
 gi_loopg [3,7] N (fun g v3 v7 wr=>∃(i f:Nat) (pre:List (List UInt8)),g=N-i∧i≤N∧f≤i∧v3=.int .i64 (f:Int)∧v7=.int .i64 (i:Int)∧pre++Tx.wordsG ((D.drop f).take (i-f)) (D.drop i)=all∧J pre wr∧Blk wr Bs 9 #[.string (bstr D)])
 case atStart=>exact⟨0,0,[],rfl,by omega,Nat.le_refl _,rfl,rfl,by rw[←Hall.out];rfl,H0.out,HC.out⟩
 case round=>
  obtain⟨i,f,pre,hg,hi,hf,rfl,rfl,hp,hj,hc⟩:=hrel;have Hg:=hide hg;have HP:=hide hp;have Hj:=hide hj;have HC2:=hide hc;have q1:=hc.cell 0;clear hg hp hj hc
  by_cases hlt:i<N
  ·obtain⟨c,hci⟩:∃c,D[i]?=some c:=⟨_,List.getElem?_eq_getElem (by rw[HN.out];exact hlt)⟩;have hix:=HIx.out i c hci;have HD:=hide (idx_drop hci);have HSc:=hide (HSp.out c wr);have zi:IntKind.i64.wrap ((i:Int)+1)=((i+1:Nat):Int):=by rw[IntWalk.i64_in _ (by omega)];omega
   have Hci:=hide hci;clear hci
   cases hsp:Tx.sp c with
   | false=>
    have Hsp:=hide hsp;rw[hsp] at HSc;clear hsp
    gi_wp2_with (refine⟨trivial,?_⟩;gi_at_call 115;refine (callsIn_wide.2 HSc.out).mono ?_;rintro e w2 ⟨rfl,hw2⟩;subst w2)
    go_roundg (N-(i+1))
    case measure=>have:=Hg.out;omega
    case rel=>
     refine⟨i+1,f,pre,rfl,by omega,by omega,rfl,by first|rfl|go_num,?_,Hj.out,HC2.out⟩;rw[←HP.out,HD.out]
     conv=>rhs;unfold Tx.wordsG
     rw[if_neg (by rw[Hsp.out];simp),show i+1-f=(i-f)+1 by omega,List.take_add_one,List.getElem?_drop,show f+(i-f)=i by omega,Hci.out];rfl
   | true=>
    have Hsp:=hide hsp;rw[hsp] at HSc;clear hsp
    by_cases hfi:f<i
    ·have hfz:(f:Int)<(i:Int):=by omega
     have hex:(bstr D).extract f i=bstr ((D.drop f).take (i-f)):=HEx.out f i;obtain⟨x,hx⟩:∃x,(D.drop f).take (i-f)=x:=⟨_,rfl⟩;have hxl:x.length=i-f:=by rw[←hx,List.length_take,List.length_drop,HN.out];omega
     have hxn:x≠[]:=fun e=>by rw[e] at hxl;simp at hxl;omega
     rw[hx] at hex
     have HW:=hide (show Tx.wordsG x (D.drop i)=x :: Tx.wordsG [] (D.drop (i+1)) by
      rw[HD.out]
      conv=>lhs;unfold Tx.wordsG
      rw[if_pos Hsp.out,if_neg hxn])
     have HP2:=hide (show pre++x :: Tx.wordsG [] (D.drop (i+1))=all by rw[←HW.out,←hx];exact HP.out)
     have hpl:pre.length<N+1:=by
      have h1:=congrArg List.length HP2.out;rw[List.length_append,List.length_cons] at h1;have:=HAl.out;omega
     have hYx:=HY.out pre x wr Hj.out ⟨hxn,by rw[hxl,HN.out];omega⟩ (by rw[HN.out];exact hpl);obtain⟨fn,tmps,assign,body,hy,hRn⟩:=hYx;have HRn:=hide hRn;have hbd:0≤(f:Int)∧(f:Int)≤(i:Int)∧(i:Int)≤(N:Int):=by omega
     clear hx hxl hxn hRn hpl
     gi_wp2_with (refine⟨trivial,?_⟩;gi_at_call 115;refine (callsIn_wide.2 HSc.out).mono ?_;rintro e w2 ⟨rfl,hw2⟩;subst w2)
     refine HRn.out.mono ?_;rintro e W3 ⟨rfl,hJ3,hk3⟩;have HJ3:=hide hJ3;have HC3:=hide (show Blk W3 Bs 9 #[.string (bstr D)] from hk3.2.trans HC2.out);clear hJ3 hk3;gi_wp2
     go_roundg (N-(i+1))
     case measure=>have:=Hg.out;omega
     case rel=>
      refine⟨i+1,i+1,pre++[x],rfl,by omega,Nat.le_refl _,by first|rfl|go_num,by first|rfl|go_num,?_,HJ3.out,HC3.out⟩;rw[Nat.sub_self,List.take_zero,List.append_assoc];exact HP2.out
    have hfe:f=i:=by omega
    subst hfe;have hfz:¬(f:Int)<(f:Int):=by omega
    have HP2:=hide (show pre++Tx.wordsG [] (D.drop (f+1))=all by
     rw[←HP.out,HD.out,Nat.sub_self,List.take_zero]
     conv=>rhs;unfold Tx.wordsG
     rw[if_pos Hsp.out,if_pos rfl])
    gi_wp2_with (refine⟨trivial,?_⟩;gi_at_call 115;refine (callsIn_wide.2 HSc.out).mono ?_;rintro e w2 ⟨rfl,hw2⟩;subst w2)
    refine⟨fun f h=>(by cases h),?_⟩;gi_wp2
    go_roundg (N-(f+1))
    case measure=>have:=Hg.out;omega
    case rel=>exact⟨f+1,f+1,pre,rfl,by omega,Nat.le_refl _,by first|rfl|go_num,by first|rfl|go_num,by rw[Nat.sub_self,List.take_zero];exact HP2.out,Hj.out,HC2.out⟩
  have hiN:i=N:=by omega
  subst hiN;have hnil:D.drop i=[]:=List.drop_of_length_le (by rw[HN.out];exact Nat.le_refl _);have htk:(D.drop f).take (i-f)=D.drop f:=List.take_of_length_le (by rw[List.length_drop,HN.out];exact Nat.le_refl _);have HP2:=hide (show pre++Tx.wordsG (D.drop f) []=all by rw[←HP.out,hnil,htk])
  by_cases hfi:f<i
  ·have hfz:(f:Int)<(i:Int):=by omega
   have hex:(bstr D).extract f i=bstr (D.drop f):=by rw[HEx.out f i,htk]
   obtain⟨x,hx⟩:∃x,D.drop f=x:=⟨_,rfl⟩;have hxl:x.length=i-f:=by rw[←hx,List.length_drop,HN.out]
   have hxn:x≠[]:=fun e=>by rw[e] at hxl;simp at hxl;omega
   rw[hx] at hex
   have HP3:=hide (show pre++[x]=all by
    have h1:=HP2.out;rw[hx] at h1;unfold Tx.wordsG at h1;rwa[if_neg hxn] at h1)
   have hpl:pre.length<i+1:=by
    have h1:=congrArg List.length HP3.out;rw[List.length_append,List.length_singleton] at h1;have:=HAl.out;omega
   have hYx:=HY.out pre x wr Hj.out ⟨hxn,by rw[hxl,HN.out];omega⟩ (by rw[HN.out];exact hpl);obtain⟨fn,tmps,assign,body,hy,hRn⟩:=hYx;have HRn:=hide hRn;have hbd:0≤(f:Int)∧(f:Int)≤(i:Int)∧(i:Int)≤(i:Int):=by omega
   clear hx hxl hxn hRn hpl hnil htk;gi_wp2;refine HRn.out.mono ?_;rintro e W3 ⟨rfl,hJ3,hk3⟩;have HJ3:=hide hJ3;clear hJ3 hk3;gi_wp2;go_end0;have hJf:=HJ3.out;rw[HP3.out] at hJf
   first|exact⟨⟨_,rfl⟩,_,rfl,hJf⟩|exact⟨⟨_,rfl⟩,hJf⟩
  have hfz:¬(f:Int)<(i:Int):=by omega
  have HP3:=hide (show pre=all by
   have h1:=HP2.out;rw[List.drop_of_length_le (by rw[HN.out];omega)] at h1
   simpa[Tx.wordsG] using h1)
  clear hnil htk;gi_wp2;go_end0;have hJf:=Hj.out;rw[HP3.out] at hJf
  first|exact⟨⟨_,rfl⟩,_,rfl,hJf⟩|exact⟨⟨_,rfl⟩,hJf⟩
end
section
open Go.RowKit Go.WideShapes

attribute [local go_sem] Oper.semAt_some

theorem bxcells_app(a b:List UInt8):Lib.byteCells (a++b)=Lib.byteCells a++Lib.byteCells b:=by simp[Lib.byteCells]
def Bx(B b:Nat)(l:List UInt8)(w:World):Prop:=Lib.IsBuilder 39 5 B b (Lib.byteCells l) w
section
variable {B b:Nat} {l:List UInt8} {w w1:World}
theorem Bx.ws(h:Bx B b l w)(m:List UInt8)(hlen:l.length+m.length≤140737488355328)(hBw:B≤w.heap.size) :
  Calls Tryz.prog 15 #[.pointer (some ⟨b,0,none⟩),.string (bstr m)] w fun e w'=>(∃v,e=.returned v)∧Bx B b (l++m) w'∧BlT B b w w':=by
 have hs:(bstr m).size=m.length:=bstr_size m;refine (ws_any B b _ (bstr m) w h (by rw[Lib.byteCells_length];omega) hBw).mono ?_;rintro e w' ⟨rfl,h1,h2⟩;refine⟨⟨_,rfl⟩,?_,h2⟩;unfold Bx;rw[bxcells_app];exact h1
theorem Bx.wb(h:Bx B b l w)(c:UInt8)(hlen:l.length+1≤140737488355328)(hBw:B≤w.heap.size) :
  Calls Tryz.prog 29 #[.pointer (some ⟨b,0,none⟩),.int .u8 (c.toNat:Nat)] w fun e w'=>e=.returned .nilIface∧Bx B b (l++[c]) w'∧BlT B b w w':=by
 refine (wb_any B b _ _ w h (by rw[Lib.byteCells_length];omega) hBw).mono ?_;rintro e w' ⟨rfl,h1,h2⟩;refine⟨rfl,?_,h2⟩;unfold Bx;rw[bxcells_app];exact h1
theorem Bx.turn(h:Bx B b l w)(hk:∀k,IsT w k 5∨k=b→w1.heap[k]?=w.heap[k]?):Bx B b l w1:=by
 have key:∀p,Lib.BuilderAt 39 5 B b p (Lib.byteCells l) w→Lib.BuilderAt 39 5 B b p (Lib.byteCells l) w1:=fun p hp=>by
  obtain⟨hB,v,hbk,hown,hne⟩:=hp;refine⟨hB,v,(hk _ (.inr rfl)).trans hbk,⟨hown.1,?_⟩,hne⟩
  rcases hown.2 with hn|⟨g,cap,cur,rfl,hbg,hgg,rest⟩
  ·exact .inl hn
  exact .inr ⟨g,cap,cur,rfl,hbg,(hk g (.inl ⟨cur,_,hgg⟩)).trans hgg,rest⟩
 rcases h with h|h
 ·exact .inl (key _ h)
 exact .inr (key _ h)
theorem Bx.lt(h:Bx B b l w):b<w.heap.size:=by
 rcases h with h|h<;>exact h.lt
theorem Bx.isC(h:Bx B b l w):IsC w b:=by
 rcases h with h|h<;>(obtain⟨_,v,hbk,_⟩:=h;exact⟨_,_,_,hbk⟩)
theorem Bx.go(h:Bx B b l w)(hb:Below w.heap.size w w1):Bx B b l w1:=h.turn fun k hk=>hb.block k (by
 rcases hk with hk|rfl
 ·exact hk.lt
 exact h.lt)
theorem Bx.put(h:Bx B b l w){i:Nat}{o o':Obj}(hi:w.heap[i]?=some o')(hc:o'.isCells=false):Bx B b l (w.putObj i o):=h.turn fun k hk=>World.putObj_heap_other (by
 rintro rfl
 have:IsC w k:=by
  rcases hk with ⟨cs,fr,hk⟩|rfl
  ·exact⟨cs,_,fr,hk⟩
  exact h.isC
 obtain⟨cs,t,fr,e⟩:=this;rw[hi] at e;cases e
 cases hc)
theorem Bx.fresh(w:World):Bx w.heap.size w.heap.size [] (w.alloc (.cells #[.pointer none,.slice none 0 0] 39)) :=
 .inl ⟨Nat.le_refl _,_,Blk.new w _ _,World.ownsRow_nil _ _ _ _,fun h=>by cases h⟩
theorem Bx.str(h:Bx B b l w)(hBw:B≤w.heap.size):Calls Tryz.prog 17 #[.pointer (some ⟨b,0,none⟩)] w fun e w'=>e=.returned (.string (bstr l))∧Below B w w':=Tryz.Builder_String_any B b l w h hBw
theorem Bx.strK(h:Bx B b l w)(hBw:B≤w.heap.size):Calls Tryz.prog 17 #[.pointer (some ⟨b,0,none⟩)] w fun e w'=>e=.returned (.string (bstr l))∧Below B w w'∧Lib.OthersKept 5 (some b) w w':=by
 refine (Tryz.Builder_String_any_k B b l w (Lib.IsBuilderF.of h) hBw).mono ?_;rintro e w' ⟨h1,_,h2,h3⟩;exact⟨h1,h2,h3⟩
theorem Bx.len(h:Bx B b l w):Calls Tryz.prog 79 #[.pointer (some ⟨b,0,none⟩)] w fun e w'=>e=.returned (.int .i64 (l.length:Nat))∧w'=w:=by
 have:=Tryz.Builder_Len B b _ w h;rwa[Lib.byteCells_length] at this
theorem BlT.others(h:BlT B b w w1)(hb:IsC w b):KeepsOthers w w1:=⟨h.size,fun k o hk ho=>by
 refine (h.block k (Array.getElem?_eq_some_iff.1 hk).1 ?_ (.inr ?_)).trans hk
 ·rintro rfl;obtain⟨cs,t,fr,e⟩:=hb;rw[hk] at e;cases e;cases ho
 rintro ⟨cs,fr,e⟩;rw[hk] at e;cases e
 cases ho⟩
end
structure OneI(w:World)(D:List UInt8)(L:Nat)(pre:List (List UInt8))(W:World):Prop where
 bx:Bx w.heap.size w.heap.size (pre.foldl Tx.oneStep []) W
 b:Below w.heap.size w W
 size:w.heap.size+4≤W.heap.size
 txt:Blk W (w.heap.size+1) 9 #[.string (bstr D)]
 len:(pre.foldl Tx.oneStep []).length≤pre.length*(L+1)
theorem oneStep_len(acc x:List UInt8):(Tx.oneStep acc x).length≤acc.length+x.length+1:=by
 unfold Tx.oneStep;split
 ·omega
 rw[List.length_append,List.length_cons];omega
theorem one_line(D:List UInt8)(w:World)(hs:D.length≤1000000) :
  Calls Tryz.prog 51 #[.string (bstr D)] w fun e w'=>e=.returned (.string (bstr (Tx.one D)))∧Below w.heap.size w w':=by
 refine (callsIn_wide (n:=5)).1 ?_;refine callsIn_of_wp_marks Tryz.func51 rfl trivial ?_ rfl;simp only[Tryz.ntmps51,List.size_toArray,List.length_cons,List.length_nil,Nat.reduceAdd,Nat.reduceSub,Array.replicate_succ,Array.replicate_zero,List.push_toArray,List.append_toArray,List.nil_append,List.cons_append];obtain⟨L,hL⟩:∃L,D.length=L:=⟨_,rfl⟩;have HL:=hide hL;rw[hL] at hs;clear hL
 gi_wp2_with (refine⟨trivial,?_⟩;gi_at_call 78;refine (callsIn_wide.2 (twords_any _ _)).mono ?_;rintro e w' ⟨rfl,rfl⟩)
 have hT2:Blk ((w.alloc (.cells #[.pointer none,.slice none 0 0] 39)).alloc (.cells #[.string (bstr D)] 9)) (w.heap.size+1) 9 #[.string (bstr D)]:=by
  have:=Blk.new (w.alloc (.cells #[.pointer none,.slice none 0 0] 39)) 9 #[.string (bstr D)];rwa[World.size_alloc] at this
 have hO2:Bx w.heap.size w.heap.size [] ((w.alloc (.cells #[.pointer none,.slice none 0 0] 39)).alloc (.cells #[.string (bstr D)] 9)):=(Bx.fresh w).go (below_alloc _ _);have hB2:Below w.heap.size w ((w.alloc (.cells #[.pointer none,.slice none 0 0] 39)).alloc (.cells #[.string (bstr D)] 9)):=(below_alloc w _).trans ((below_alloc _ _).mono (by simp));have hz2:((w.alloc (.cells #[.pointer none,.slice none 0 0] 39)).alloc (.cells #[.string (bstr D)] 9)).heap.size=w.heap.size+2:=by simp
 generalize (w.alloc (.cells #[.pointer none,.slice none 0 0] 39)).alloc (.cells #[.string (bstr D)] 9)=W2 at hT2 hO2 hB2 hz2 ⊢;have HI0:=hide (fun o o'=>show OneI w D L [] ((W2.alloc o).alloc o') from⟨(hO2.go (below_alloc _ _)).go (below_alloc _ _),(hB2.trans ((below_alloc W2 o).mono (by omega))).trans ((below_alloc (W2.alloc o) o').mono (by simp;omega)),by simp;omega,(hT2.alloc o).alloc o',by simp⟩)
 have hgv:∀o o',GivesOn FrB Fence.wide (5-1) Tryz.prog 114 #[.pointer (some ⟨w.heap.size+1,0,none⟩)] (fun x:List UInt8=>#[.string (bstr x)]) (KpS (w.heap.size+1)) (fun x _=>x≠[]∧x.length≤L) (fun xs=>xs=Tx.words D) (L+1) ((W2.alloc o).alloc o'):=by
  intro o o';have h:=words1_gives (5-1) (by omega) (w.heap.size+1) D (by rw[HL.out];omega) ((W2.alloc o).alloc o') ((hT2.alloc o).alloc o');rw[HL.out] at h;exact h
 refine range_on (Fr:=FrB) (fun A B h k h1 h2=>h.block k h2) rfl (by omega) (gf:=114) (lb:=#[.pointer (some ⟨w.heap.size+1,0,none⟩)]) rfl trivial (enters_of Tryz.func114 (by kernel_rfl) rfl) (fun _=>rfl)
  hgv ?kt ?kb (OneI w D L) ?ip ?ib ?f HI0.out
  (fun x=>{ tmps:=#[.string (bstr D),undef,.string ⟨#[]⟩,.pointer (some ⟨w.heap.size,0,none⟩),.string (bstr x),.string (bstr D),.func (.func 114) #[] #[.pointer (some ⟨w.heap.size+1,0,none⟩)],.string (bstr x),undef,undef,undef,undef,undef,undef],defers:=[] }) ?assign ?body ?done
 case kt=>exact fun h k=>h.trans k
 case kb=>exact fun W o o' h h2=>⟨by simp[World.putObj],World.putObj_heap_other (by omega)⟩
 case ip=>
  intro s W o o' h hl hc;exact⟨h.bx.put hl hc,⟨h.b.os,h.b.tape,h.b.output,by have:=h.b.size;simpa[World.putObj] using this,fun k hk=>(World.putObj_heap_other (by omega)).trans (h.b.block k hk)⟩,by have:=h.size;simpa[World.putObj] using this,(World.putObj_heap_other (by omega)).trans h.txt,h.len⟩
 case ib=>
  intro s A B h hb;exact⟨h.bx.go hb,h.b.trans (hb.mono h.b.size),Nat.le_trans h.size hb.size,h.txt.go hb,h.len⟩
 case f=>exact fun x W o h=>h
 case assign=>
  intro l x W K hK;gi_wp2;exact hK
 case body=>
  intro l pre x W hI hf hlen hsz;have hal:=hI.len;have hal2:pre.length*(L+1)≤1000001*1000001:=Nat.mul_le_mul (by omega) (by omega);obtain⟨acc,hacc⟩:∃acc,pre.foldl Tx.oneStep []=acc:=⟨_,rfl⟩;have HAcc:=hide (show (pre++[x]).foldl Tx.oneStep []=Tx.oneStep acc x by rw[List.foldl_append,hacc];rfl);have HBx:=hide (hacc▸hI.bx:Bx w.heap.size w.heap.size acc W);have HI:=hide hI;have HF:=hide hf;rw[hacc] at hal;have HAl:=hide hal;have hxl:x.length≤1000000:=Nat.le_trans hf.2 hs;have hbs:w.heap.size≤W.heap.size:=hI.b.size;have hT:=hI.txt
  have key:∀W3,BlT w.heap.size w.heap.size W W3→Bx w.heap.size w.heap.size (Tx.oneStep acc x) W3→KeepsFrom W2.heap.size W W3∧KpS (w.heap.size+1) W W3∧OneI w D L (pre++[x]) W3:=fun W3 hT3 hB=>by
   have hb3:=hT3.blk hT (by omega) (by decide);refine⟨(hT3.others HBx.out.isC).from _,⟨hT3.size,hb3.trans hT.symm⟩,⟨HAcc.out.symm▸hB,HI.out.b.trans (hT3.below (Nat.le_refl _) hbs),Nat.le_trans HI.out.size hT3.size,hb3,?_⟩⟩;rw[HAcc.out,List.length_append,List.length_singleton,Nat.add_mul,Nat.one_mul];have:=oneStep_len acc x;have:=HAl.out;have:=HF.out.2;omega
  have Key:=hide key;have hal3:acc.length≤1000002000001:=Nat.le_trans hal hal2;clear hal hal2 hacc hI hf key hgv hT2 hO2 hB2 HI0 hT
  cases acc with
  | nil=>
   have HS:=hide (HBx.out.ws x (by simp;omega) hbs)
   gi_wp2_with (refine⟨trivial,?_⟩;gi_at_call 79;refine (callsIn_wide.2 HBx.out.len).mono ?_;rintro e w2 ⟨rfl,hw2⟩;subst w2)
   refine⟨trivial,?_⟩;refine (callsIn_wide.2 HS.out).mono ?_;rintro e w3 ⟨⟨v,rfl⟩,hb3,ht3⟩;have HB3:=hide hb3;have HT3:=hide ht3;clear hb3 ht3;dsimp only;gi_wp2;exact Key.out w3 HT3.out HB3.out
  | cons a acc=>
   have HS1:=hide (HBx.out.wb 32 (by omega) hbs);have hlz:(0:Int)<((a :: acc).length:Int):=by rw[List.length_cons];omega
   obtain⟨m,hm⟩:∃m,(a :: acc).length=m:=⟨_,rfl⟩;have HLn:=hide (HBx.out.len);rw[hm] at HLn hlz hal3;have Hm:=hide hm;clear hm
   gi_wp2_with (refine⟨trivial,?_⟩;gi_at_call 79;refine (callsIn_wide.2 HLn.out).mono ?_;rintro e w2 ⟨rfl,hw2⟩;subst w2)
   refine⟨trivial,?_⟩;refine (callsIn_wide.2 HS1.out).mono ?_;rintro e w3 ⟨rfl,hb3,ht3⟩;have HB3:=hide hb3;have HT3:=hide ht3;have HS2:=hide (hb3.ws x (by rw[List.length_append,Hm.out,List.length_singleton];omega) (Nat.le_trans hbs ht3.size));clear hb3 ht3;dsimp only
   gi_wp2_with fail
   refine⟨trivial,?_⟩;refine (callsIn_wide.2 HS2.out).mono ?_;rintro e w4 ⟨⟨v,rfl⟩,hb4,ht4⟩;have HB4:=hide hb4;have HT4:=hide (HT3.out.trans ht4);clear hb4 ht4;dsimp only;gi_wp2;refine Key.out w4 HT4.out ?_;have:=HB4.out;unfold Tx.oneStep;rw[if_neg (by simp)];rwa[List.append_assoc] at this
 case done=>
  intro D0 xs W hD hxs hI hK;subst hxs;have hbs:w.heap.size≤W.heap.size:=hI.b.size;have hDs:D0=w.heap.size+2:=by omega
  subst hDs;have HSt:=hide (hI.bx.strK hbs);have HB:=hide hI.b;have HK:=hide hK;have hO:=hide (show (Tx.words D).foldl Tx.oneStep []=Tx.one D from rfl);have hsz:=hI.size;have HSt2:=hide (hO.out▸HSt.out);have HBx:=hide hI.bx;clear hI hK hgv hT2 hO2 hB2 HI0 HSt
  gi_wp2_with fail
  refine⟨trivial,?_⟩;refine (callsIn_wide.2 HSt2.out).mono ?_;rintro e w3 ⟨rfl,hb3,ho3⟩;have HB3:=hide (HB.out.trans hb3);have HK3:=hide (ho3 _ _ HK.out (fun e=>by injection e with e;omega) (fun c fz e=>by cases e));clear hb3 ho3;dsimp only;gi_wp2;refine⟨by simp,.inl ⟨_,_,rfl,run_takeDeferred HK3.out,?_⟩⟩;refine⟨.string (bstr (Tx.one D)),?_,?_⟩
  ·simp[results,Tryz.results51,go_sem]
  exact⟨rfl,HB3.out.os,HB3.out.tape,HB3.out.output,Nat.le_trans HB3.out.size (by simp[World.putObj]),fun k hk=>(World.putObj_heap_other (by omega)).trans (HB3.out.block k hk)⟩
namespace Tx
theorem wordsG_mem:∀(l cur:List UInt8),((wordsG cur l).map List.length).sum+(wordsG cur l).length≤cur.length+l.length+1
 | [],cur=>by unfold wordsG;split<;>simp
 | c :: l,cur=>by
  unfold wordsG;have h1:=wordsG_mem l [];have h2:=wordsG_mem l (cur++[c]);rw[List.length_nil] at h1;rw[List.length_append,List.length_singleton] at h2;rw[List.length_cons];split
  ·split
   ·omega
   rw[List.map_cons,List.sum_cons,List.length_cons];omega
  omega
theorem one_len(l:List UInt8):(one l).length≤l.length+1:=by
 have key:∀(ws:List (List UInt8)) (acc:List UInt8),(ws.foldl oneStep acc).length≤acc.length+(ws.map List.length).sum+ws.length:=fun ws=>by
  induction ws with
  | nil=>intro acc;simp
  | cons x ws ih=>
   intro acc;rw[List.foldl_cons,List.map_cons,List.sum_cons,List.length_cons];have:=ih (oneStep acc x);have:=oneStep_len acc x;omega
 have:=key (words l) [];have:=wordsG_mem l [];unfold one words at *
 simp only[List.length_nil] at *
 omega
def line(l:List UInt8):List UInt8:=Nf.nfc (one l)
def right(l:List UInt8):Bool:=Utf.valid l&&decide (Tk.bad l<0)
def isLine(l:List UInt8):Bool:=right l&&decide (line l=l)
end Tx
theorem line_any(l:List UInt8)(w:World)(hs:l.length≤200000) :
  Calls Tryz.prog 31 #[.string (bstr l)] w fun e w'=>e=.returned (.string (bstr (Tx.line l)))∧Below w.heap.size w w':=by
 have H1:=hide (one_line l w (by omega));have hol:=Tx.one_len l;have H2:=hide (fun W=>nfc_any (bstr (Tx.one l)) W (by rw[bstr_size];omega));rw[bstr_list] at H2;clear hol
 go_enter Tryz.func31,Tryz.ntmps31
 go_wp2_with fail
 refine H1.out.mono ?_;rintro e w1 ⟨rfl,hb⟩;have HB:=hide hb;clear hb;dsimp only
 go_wp2_with fail
 refine (H2.out w1).mono ?_;rintro e w2 ⟨rfl,hb⟩;have HB2:=hide (HB.out.trans (hb.mono HB.out.size));clear hb;dsimp only;go_wp2;go_ret;exact⟨rfl,HB2.out⟩
theorem right_any(l:List UInt8)(w:World)(hs:l.length≤200000) :
  Calls Tryz.prog 30 #[.string (bstr l)] w fun e w'=>e=.returned (.bool (Tx.right l))∧Below w.heap.size w w':=by
 have H1:=hide (valid_any (bstr l) w (by rw[bstr_size];omega));have H2:=hide (fun W=>bad_any (bstr l) W (by rw[bstr_size];omega));rw[bstr_list] at H1 H2;unfold Tx.right
 cases hv:Utf.valid l with
 | false=>
  rw[hv] at H1;clear hv
  go_enter Tryz.func30,Tryz.ntmps30
  go_wp2_with fail
  refine H1.out.mono ?_;rintro e w1 ⟨rfl,hb⟩;have HB:=hide hb;clear hb;dsimp only;go_wp2;go_ret;exact⟨rfl,HB.out⟩
 | true=>
  rw[hv] at H1;clear hv;obtain⟨q,hq⟩:∃q,Tk.bad l=q:=⟨_,rfl⟩;rw[hq] at H2 ⊢;clear hq
  go_enter Tryz.func30,Tryz.ntmps30
  go_wp2_with fail
  refine H1.out.mono ?_;rintro e w1 ⟨rfl,hb⟩;have HB:=hide hb;clear hb;dsimp only
  go_wp2_with fail
  refine (H2.out w1).mono ?_;rintro e w2 ⟨rfl,hb⟩;have HB2:=hide (HB.out.trans (hb.mono HB.out.size));clear hb;dsimp only;go_wp2;go_ret;exact⟨by rw[Bool.true_and];rfl,HB2.out⟩
end
end Go.Proofs.YtifiiojchlaghaaGreatDoor
