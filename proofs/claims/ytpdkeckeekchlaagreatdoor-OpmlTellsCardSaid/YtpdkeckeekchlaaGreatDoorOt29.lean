/- NFC: nfc.whole, Decomposed, Composed, Nfc. And more. -/
import Derived.Test.YtpdkeckeekchlaaGreatDoorOt28
set_option linter.unusedSimpArgs false
set_option maxRecDepth 100000
set_option maxHeartbeats 8000000
set_option linter.unusedVariables false
namespace Go.Proofs.YtpdkeckeekchlaaGreatDoor
section
open Go.RowKit Go.WideShapes

theorem Xt:∀(k at_:Nat) (l:List UInt8),∀p∈Utf.gi k at_ l,p.2<0∨Utf.isScalar p.2=true
 | k,at_,[],p,h=>by cases k<;>simp[Utf.gi] at h
 | 0,_,c :: l,p,h=>by unfold Utf.gi at h;cases h
 | k+1,at_,c :: l,p,h=>by
  unfold Utf.gi at h
  rcases List.mem_cons.1 h with rfl|h
  ·have:=Xq ⟨(c :: l).toArray⟩ 0
   simpa using this
  exact Xt k _ _ p h
theorem Xr:∀(k at_:Nat) (l:List UInt8),(Utf.gi k at_ l).length≤k
 | k,at_,[]=>by cases k<;>simp[Utf.gi]
 | 0,_,c :: l=>by simp[Utf.gi]
 | k+1,at_,c :: l=>by
  unfold Utf.gi;rw[List.length_cons];have:=Xr k (at_+(Utf.piece (c :: l)).2.toNat) ((c :: l).drop (Utf.piece (c :: l)).2.toNat);omega
theorem zq(l:List UInt8):(bn l).length≤l.length:=by
 unfold bn Utf.pieces;rw[List.length_map];exact Xr _ _ _
theorem G4{l:List UInt8}(h:Right l):∀x∈bn l,Nf.Ok x:=by
 intro x hx;unfold bn at hx;obtain⟨p,hp,rfl⟩:=List.mem_map.1 hx;have h1:=h p hp
 rcases Xt _ _ _ p hp with h2|h2
 ·omega
 simp[Utf.isScalar] at h2;exact⟨by omega,by omega⟩
instance(l:List UInt8):Decidable (Right l):=by unfold Right;infer_instance
namespace Nf
def via(f:List Int→List Int)(s:List UInt8):List UInt8:=if Right s then (jT (f (bn s))).getD [] else s
def gO(s:List UInt8):List UInt8:=via dec s
def jG(s:List UInt8):List UInt8:=via compose s
def oZ(s:List UInt8):List UInt8:=if s.any (fun c=>decide (128≤c.toNat)) then jG (gO s) else s
theorem YL{l:List Int}:((jT l).getD []).length≤4*l.length:=by
 unfold jT;split
 ·exact J1 l
 simp
theorem NG:∀(n:Nat) (l:List Int),l.length<n→((runs n l).flatMap az).length=l.length
 | 0,_,h=>by omega
 | n+1,[],_=>rfl
 | n+1,r :: l,h=>by
  rw[runs,List.flatMap_cons,List.length_append,jC,NG n _ (by rw[List.length_drop];simp at h;omega),List.length_drop,List.length_cons,List.length_cons];have:=MV l;omega
theorem SB(l:List Int):(dec l).length≤16*l.length:=by
 unfold dec sort;rw[NG _ _ (Nat.lt_succ_self _)];exact xQ l
theorem J8(l:List Int):(compose l).length≤l.length:=by
 have hl:∀(l:List Int) (s:Cs),(l.foldl gN s).o.length≤s.o.length+l.length:=fun l=>by
  induction l with
  | nil=>intro s;simp
  | cons x l ih=>intro s;rw[List.foldl_cons];have:=ih (gN s x);have:=Su s x;rw[List.length_cons];omega
 have:=hl l ⟨[],-1,-1⟩
 simpa[compose] using this
theorem Kg(s:List UInt8):(gO s).length≤64*s.length:=by
 unfold gO via;split
 ·refine Nat.le_trans YL ?_;have:=SB (bn s);have:=zq s;omega
 omega
end Nf
theorem GW(l:List Int):∃b,nU l=.tuple #[.string (aa ((Nf.jT l).getD [])),.bool b]:=by
 unfold nU
 cases Nf.jT l with
 | some x=>exact⟨true,rfl⟩
 | none=>exact⟨false,rfl⟩
theorem anA(s:ByteArray)(w:World)(hs:s.size≤250000) :
  Calls Tryz.prog 129 #[.string s,.func (.func 131) #[] #[]] w fun e w'=>e=.returned (.string (aa (Nf.gO s.data.toList)))∧Below w.heap.size w w':=by
 have bt:=ap (YZ s w (by omega));have hl:=zq s.data.toList;rw[bV] at hl
 by_cases hR:Right s.data.toList
 ·have HV:=ap (show Nf.gO s.data.toList=(Nf.jT (Nf.dec (bn s.data.toList))).getD [] by unfold Nf.gO Nf.via;rw[if_pos hR]);have ic:=ap (G4 hR);have HR:=ap hR;have aT:=Nf.SB (bn s.data.toList);have HD:=ap (fun A c W h=>adg (bn s.data.toList) A c W h ic.o (by omega));have HT:=ap (fun A c W h=>Y3 (Nf.dec (bn s.data.toList)) A c W h (by omega));obtain⟨bb,gQ⟩:=GW (Nf.dec (bn s.data.toList));have uF:=ap gQ;clear hR hl aT gQ;rw[HV.o];generalize bn s.data.toList=l at *
  go_enter Tryz.func129,Tryz.ntmps129
  go_wp2_with fail
  refine bt.o.mono ?_;rintro e w1 ⟨ak,⟨_,A,c,rfl,hr⟩|⟨hn,_⟩⟩
  ·have ax:=ap ak;have gm:=ap hr;clear ak hr;dsimp only
   go_wp2_with fail
   refine (HD.o A c w1 gm.o).mono ?_;rintro e w2 ⟨A2,c2,rfl,bg,af⟩;have aK:=ap bg;have ag:=ap (ax.o.trans (af.mono ax.o.size));clear bg af;dsimp only
   go_wp2_with fail
   refine (HT.o A2 c2 w2 (Reads.cY aK.o)).mono ?_;rintro e w3 ⟨rfl,aA⟩;have aw:=ap (ag.o.trans (aA.mono ag.o.size));clear aA;rw[uF.o];dsimp only;go_wp2;go_ret;exact⟨rfl,aw.o⟩
  exact absurd HR.o hn
 have HV:=ap (show Nf.gO s.data.toList=s.data.toList by unfold Nf.gO Nf.via;rw[if_neg hR]);have HR:=ap hR;clear hR hl;rw[HV.o]
 go_enter Tryz.func129,Tryz.ntmps129
 go_wp2_with fail
 refine bt.o.mono ?_;rintro e w1 ⟨ak,⟨h1,_⟩|⟨_,rfl⟩⟩
 ·exact absurd h1 HR.o
 have ax:=ap ak;clear ak;dsimp only;go_wp2;go_ret;exact⟨rfl,ax.o⟩
theorem anz(s:ByteArray)(w:World)(hs:s.size≤16000000) :
  Calls Tryz.prog 129 #[.string s,.func (.func 130) #[] #[]] w fun e w'=>e=.returned (.string (aa (Nf.jG s.data.toList)))∧Below w.heap.size w w':=by
 have bt:=ap (YZ s w (by omega));have hl:=zq s.data.toList;rw[bV] at hl
 by_cases hR:Right s.data.toList
 ·have HV:=ap (show Nf.jG s.data.toList=(Nf.jT (Nf.compose (bn s.data.toList))).getD [] by unfold Nf.jG Nf.via;rw[if_pos hR]);have ic:=ap (G4 hR);have HR:=ap hR;have aT:=Nf.J8 (bn s.data.toList);have HD:=ap (fun A c W h=>acT (bn s.data.toList) A c W h ic.o (by omega));have HT:=ap (fun A c W h=>Y3 (Nf.compose (bn s.data.toList)) A c W h (by omega));obtain⟨bb,gQ⟩:=GW (Nf.compose (bn s.data.toList));have uF:=ap gQ;clear hR hl aT gQ;rw[HV.o];generalize bn s.data.toList=l at *
  go_enter Tryz.func129,Tryz.ntmps129
  go_wp2_with fail
  refine bt.o.mono ?_;rintro e w1 ⟨ak,⟨_,A,c,rfl,hr⟩|⟨hn,_⟩⟩
  ·have ax:=ap ak;have gm:=ap hr;clear ak hr;dsimp only
   go_wp2_with fail
   refine (HD.o A c w1 gm.o).mono ?_;rintro e w2 ⟨A2,c2,rfl,bg,af⟩;have aK:=ap bg;have ag:=ap (ax.o.trans (af.mono ax.o.size));clear bg af;dsimp only
   go_wp2_with fail
   refine (HT.o A2 c2 w2 (Reads.cY aK.o)).mono ?_;rintro e w3 ⟨rfl,aA⟩;have aw:=ap (ag.o.trans (aA.mono ag.o.size));clear aA;rw[uF.o];dsimp only;go_wp2;go_ret;exact⟨rfl,aw.o⟩
  exact absurd HR.o hn
 have HV:=ap (show Nf.jG s.data.toList=s.data.toList by unfold Nf.jG Nf.via;rw[if_neg hR]);have HR:=ap hR;clear hR hl;rw[HV.o]
 go_enter Tryz.func129,Tryz.ntmps129
 go_wp2_with fail
 refine bt.o.mono ?_;rintro e w1 ⟨ak,⟨h1,_⟩|⟨_,rfl⟩⟩
 ·exact absurd h1 HR.o
 have ax:=ap ak;clear ak;dsimp only;go_wp2;go_ret;exact⟨rfl,ax.o⟩
theorem adr(s:ByteArray)(w:World)(hs:s.size≤250000) :
  Calls Tryz.prog 94 #[.string s] w fun e w'=>e=.returned (.string (aa (Nf.gO s.data.toList)))∧Below w.heap.size w w':=by
 have H:=ap (anA s w hs)
 go_enter Tryz.func94,Tryz.ntmps94
 go_wp2_with fail
 refine H.o.mono ?_;rintro e w1 ⟨rfl,hb⟩;have HB:=ap hb;clear hb;dsimp only;go_wp2;go_ret;exact⟨rfl,HB.o⟩
theorem acV(s:ByteArray)(w:World)(hs:s.size≤16000000) :
  Calls Tryz.prog 93 #[.string s] w fun e w'=>e=.returned (.string (aa (Nf.jG s.data.toList)))∧Below w.heap.size w w':=by
 have H:=ap (anz s w hs)
 go_enter Tryz.func93,Tryz.ntmps93
 go_wp2_with fail
 refine H.o.mono ?_;rintro e w1 ⟨rfl,hb⟩;have HB:=ap hb;clear hb;dsimp only;go_wp2;go_ret;exact⟨rfl,HB.o⟩
theorem get_at(s:ByteArray)(i:Nat)(c:UInt8)(h:s.data.toList[i]?=some c):s.get! (i+0)=c∧i<s.size:=by
 obtain⟨h1,h2⟩:=List.getElem?_eq_some_iff.1 h;rw[bV] at h1;refine⟨?_,h1⟩
 have e:s.get! (i+0)=s[i]'h1:=by
  show s.get! i=_;simp[ByteArray.get!,getElem!_pos,h1];rfl
 rw[e,←h2];exact (Array.getElem_toList ..).symm
theorem ado(s:ByteArray)(i:Nat)(c:UInt8)(h:s.data.toList[i]?=some c)(hb:c.toNat<128):Utf8.decode s i=(c.toNat,1):=by
 obtain⟨e,_⟩:=get_at s i c h;unfold Utf8.decode;simp only[e];rw[if_pos hb]
theorem adn(s:ByteArray)(i:Nat)(c:UInt8)(h:s.data.toList[i]?=some c)(hb:¬c.toNat<128):128≤(Utf8.decode s i).1:=by
 obtain⟨e,_⟩:=get_at s i c h;unfold Utf8.decode;simp only[e];rw[if_neg hb];have hE:128≤Utf8.runeError:=by decide
 repeat' split
 all_goals (try simp only[Bool.and_eq_true,decide_eq_true_eq] at *)
 all_goals (try simp only)
 all_goals omega
theorem decode_le(s:ByteArray)(i:Nat)(c:UInt8)(h:s.data.toList[i]?=some c):(Utf8.decode s i).1≤10000000:=by
 obtain⟨e,_⟩:=get_at s i c h;have hc:=c.toNat_lt;unfold Utf8.decode;simp only[e];have hE:Utf8.runeError≤10000000:=by decide
 repeat' split
 all_goals (try simp only)
 all_goals omega
theorem Below.Ck{w wr:World}(h:Below w.heap.size w wr)(s:ByteArray)(q:Nat):Below w.heap.size w (wr.iterAt w.heap.size s q) :=
 ⟨h.os,h.tape,h.output,by rw[Lib.iterAt_size];exact h.size,fun k hk=>(Lib.iterAt_other _ _ _ _ _ (by omega)).trans (h.block k hk)⟩
theorem ahW(s:ByteArray)(w:World)(hs:s.size≤250000) :
  Calls Tryz.prog 64 #[.string s] w fun e w'=>e=.returned (.string (aa (Nf.oZ s.data.toList)))∧Below w.heap.size w w':=by
 have HD:=ap (fun W=>adr s W hs);have hl:=Nf.Kg s.data.toList;rw[bV] at hl;have HC:=ap (fun W=>acV (aa (Nf.gO s.data.toList)) W (by rw[aO];omega));rw[aZ] at HC;obtain⟨l,hL⟩:∃l,s.data.toList=l:=⟨_,rfl⟩;rw[hL] at HD HC;have HL:=ap hL;have QY:=ap (show l.length=s.size by rw[←hL,bV]);clear hL hl;rw[HL.o]
 go_enter Tryz.func64,Tryz.ntmps64
 go_wp2;have dA:Below w.heap.size w (w.iter s 0):=ay w _
 go_loopg [4] s.size (fun gk vk wr=>∃(p:Nat),gk=s.size-p∧p≤s.size∧(∀c∈l.take p,c.toNat<128)∧wr.heap[w.heap.size]?=some (.stringIter s p)∧Below w.heap.size w wr)
 case atStart=>exact⟨0,rfl,by omega,by simp,World.iter_heap _ _ _,dA⟩
 case round=>
  obtain⟨p,au,hp,wA,hit,hb⟩:=hrel;have Hg:=ap au;have PR:=ap wA;have HI:=ap hit;have HB:=ap hb;clear au wA hb
  by_cases cP:p<s.size
  ·obtain⟨c,hc⟩:∃c,l[p]?=some c:=⟨_,List.getElem?_eq_getElem (by rw[QY.o];exact cP)⟩;have bj:s.data.toList[p]?=some c:=by rw[HL.o];exact hc
   have aX:∀ty,(Instr.next (.pointer (some ⟨w.heap.size,0,none⟩)) true ty).run Tryz.prog wr=_:=fun ty=>Lib.run_next_any_at wr w.heap.size s p ty hit cP
   by_cases rF:c.toNat<128
   ·have kA:=ado s p c bj rF;rw[kA] at aX;dsimp only at aX;obtain⟨z,hz⟩:∃z:Nat,c.toNat=z:=⟨_,rfl⟩;rw[hz] at aX rF;have hcv:IntKind.i64.wrap (z:Int)=(z:Int):=IntWalk.i64_in _ (by omega);have hlt:¬(128:Int)≤(z:Int):=by omega
    have Hc:=ap hc;have aa3:=ap rF;have Hz:=ap hz;clear hc bj kA hit hz rF;go_wp2
    go_roundg (s.size-(p+1))
    case measure=>have:=Hg.o;omega
    case rel=>
     refine⟨p+1,rfl,by omega,?_,Lib.iterAt_heap _ _ _ _ _ HI.o,Below.Ck HB.o _ _⟩;intro c2 bj;rw[List.take_add_one,Hc.o] at bj
     rcases List.mem_append.1 bj with bj|bj
     ·exact PR.o c2 bj
     simp at bj;subst bj;rw[Hz.o];exact aa3.o
   have kA:=adn s p c bj rF;have hle:=decode_le s p c bj;obtain⟨⟨z,n2⟩,hd⟩:∃q,Utf8.decode s p=q:=⟨_,rfl⟩;rw[hd] at aX kA hle;dsimp only at aX kA hle;have hcv:IntKind.i64.wrap (z:Int)=(z:Int):=IntWalk.i64_in _ (by omega);have tN:(128:Int)≤(z:Int):=by omega
   have HV:=ap (show Nf.oZ l=Nf.jG (Nf.gO l) by
    unfold Nf.oZ;rw[if_pos (List.any_eq_true.2 ⟨c,List.mem_of_getElem? hc,decide_eq_true (by omega)⟩)])
   have ag:=ap (Below.Ck HB.o s (p+n2));clear hc bj kA hle hit rF hd
   go_wp2_with fail
   refine (HD.o _).mono ?_;rintro e w2 ⟨rfl,af⟩;have aw:=ap (ag.o.trans (af.mono ag.o.size));clear af;dsimp only
   go_wp2_with fail
   refine (HC.o _).mono ?_;rintro e w3 ⟨rfl,aA⟩;have bW:=ap (aw.o.trans (aA.mono aw.o.size));clear aA;dsimp only;go_wp2;go_ret;exact⟨by rw[HV.o];rfl,bW.o⟩
  have aX:∀ty,(Instr.next (.pointer (some ⟨w.heap.size,0,none⟩)) true ty).run Tryz.prog wr=_:=fun ty=>Lib.run_next_end_at wr w.heap.size s p ty hit cP
  have HV:=ap (show Nf.oZ l=l by
   unfold Nf.oZ;rw[if_neg];intro h;obtain⟨c,hc,hd⟩:=List.any_eq_true.1 h;have:=PR.o c (by rw[List.take_of_length_le (by rw[QY.o];omega)];exact hc);have:=of_decide_eq_true hd
   omega)
  have DV:=ap cP;have Hsb:=ap (show s=aa l by rw[←HL.o,vC]);clear hit cP;go_wp2;go_ret;exact⟨by rw[HV.o,←Hsb.o];rfl,HB.o⟩
end
section
open Go.RowKit Go.WideShapes

namespace Tx
def sp(c:UInt8):Bool:=decide (c.toNat=32∨c.toNat=9∨c.toNat=10∨c.toNat=13)
def l5(l:List UInt8):List UInt8:=l.dropWhile sp
def jU(l:List UInt8):List UInt8:=(l.reverse.dropWhile sp).reverse
def trim(l:List UInt8):List UInt8:=jU (l5 l)
theorem ans:∀n:Fin 64,(bits BinOp.and IntKind.u64 (4294977024 / 2 ^ n.val) 1==1)=decide (n.val=32∨n.val=9∨n.val=10∨n.val=13):=by decide +kernel
theorem GZ(m:List UInt8)(c:UInt8):jU (m++[c])=if sp c then jU m else m++[c]:=by
 unfold jU;rw[List.reverse_append,List.reverse_singleton,List.singleton_append,List.dropWhile_cons];split
 ·rfl
 rw[List.reverse_cons,List.reverse_reverse]
theorem YP(l:List UInt8):(l5 l).length≤l.length:=by
 unfold l5
 induction l with
 | nil=>simp
 | cons c l ih=>rw[List.dropWhile_cons];split<;>simp<;>omega
theorem amV(l:List UInt8):(jU l).length≤l.length:=by
 unfold jU;rw[List.length_reverse];have:=YP l.reverse;unfold l5 at this
 simpa using this
theorem amW(l:List UInt8):(trim l).length≤l.length:=Nat.le_trans (amV _) (YP _)
end Tx
theorem amX(c:UInt8)(w:World):Calls Tryz.prog 135 #[.int .u8 (c.toNat:Int)] w fun e w'=>e=.returned (.bool (Tx.sp c))∧w'=w:=by
 obtain⟨n,hn⟩:∃n,c.toNat=n:=⟨_,rfl⟩;obtain⟨q,hq⟩:∃q,Tx.sp c=q:=⟨_,rfl⟩;have hs:decide (n=32∨n=9∨n=10∨n=13)=q:=by rw[←hq,←hn];rfl
 rw[hq,hn]
 by_cases h:n<64
 ·have hz:(n:Int)<64:=by omega
  have HB:=ap ((Tx.ans ⟨n,h⟩).trans hs);clear hs hq
  go_enter Tryz.func135,Tryz.ntmps135
  go_wp2;go_ret;exact⟨aC (aR HB.o),rfl⟩
 have hz:¬(n:Int)<64:=by omega
 have HB:=ap (show q=false from hs.symm.trans (decide_eq_false (by omega)));rw[HB.o];clear hs hq
 go_enter Tryz.func135,Tryz.ntmps135
 go_wp2;go_ret;exact⟨rfl,rfl⟩
theorem xL(l:List UInt8)(a b:Nat):(aa l).extract a b=aa ((l.drop a).take (b-a)):=oD _ _ _
end
section
open Go.RowKit
theorem ano(B b:Nat)(bs:List Value)(c:Int)(w:World)(h:Lib.IsBuilder 52 5 B b bs w)(hlen:bs.length+1≤140737488355328)(il:B≤w.heap.size) :
  Calls Tryz.prog 37 #[.pointer (some ⟨b,0,none⟩),.int .u8 c] w fun e w'=>e=.returned .nilIface∧(Lib.IsBuilder 52 5 B b (bs++[.int .u8 c]) w'∧bM B b w w'):=by
 obtain⟨i0,hi,hz0,hz1,hz2⟩:=info_parts F5
 go_enter Tryz.func37,Tryz.ntmps37
 go_wp2_with fail
 refine (R9 B b bs _ h).mono ?_;rintro e w1 ⟨rfl,h1,ak⟩;obtain⟨hB,v,ck,hown,hne⟩:=h1;have c0:w1.cell? ⟨b,0,none⟩=some (.pointer (some ⟨b,0,none⟩)):=by rw[Lib.cell_of_heap ck];rfl
 have c1:w1.cell? ⟨b,1,none⟩=some v:=by rw[Lib.cell_of_heap ck];rfl
 go_wp2_with (at_builtin;refine wpList_append_own _ rfl _ _ 50 rfl B 5 i0 (.int .u8 0) 1 1 Tryz.underlying50 hi hz0 hz1 hz2 rfl (by decide) _ _ _ rfl (hown.alloc _) ⟨w1.heap.size,0,none⟩ 1 1 [.int .u8 c] rfl rfl ?c1 ?c2 ?c3 ?c4 ?c5 ?_)
 case c1=>
  intro j u hj
  match j,hj with
  | 0,hj=>simp at hj;subst hj;simp[Addr.add]
 case c2=>intro u hu;simp at hu;subst hu;rfl
 case c3=>unfold maxLen;omega
 case c4=>omega
 case c5=>have:=ak.size;simp;omega
 intro v' w2 hown' hgrow _
 have hlt:b<w1.heap.size:=by
  rcases Nat.lt_or_ge b w1.heap.size with h' | h'
  ·exact h'
  simp[Array.getElem?_eq_none h'] at ck
 have af:w2.heap[b]?=some (.cells #[.pointer (some ⟨b,0,none⟩),v] 52 (0,0)):=by
  rw[hgrow.block b (by simp;omega) (fun e=>hne e.symm),Below.heap_alloc _ _ _ hlt];exact ck
 have d0:w2.cell? ⟨b,0,none⟩=some (.pointer (some ⟨b,0,none⟩)):=by rw[Lib.cell_of_heap af];rfl
 have d1:w2.cell? ⟨b,1,none⟩=some v:=by rw[Lib.cell_of_heap af];rfl
 have f1:w2.frozen? ⟨b,1,none⟩=false:=Lib.frozen_of_heap af 1
 obtain⟨g,cap,rfl⟩:∃g cap,v'=.slice (some ⟨g,0,none⟩) (bs.length+1) cap:=by
  rcases hown'.2 with ⟨_,h0⟩|⟨g,cap,cur,hv,_⟩
  ·omega
  exact⟨g,cap,hv⟩
 go_wp2;go_ret;refine⟨rfl,.inr ?_,?_⟩
 ·exact Lib.BuilderAt.put (T:=52) (e:=5) hB af (bs':=bs++[.int .u8 c]) (by simpa using hown') neB5
 exact ((ak.alloc _).grown hgrow (fun k hk=>⟨(hown.lt k hk).1,by obtain⟨_,cs,fr,hh⟩:=aD hown k hk;exact⟨cs,fr,(Below.heap_alloc _ _ _ (aD hown k hk).2.lt).trans hh⟩⟩)).setCell 1 _
end
section
open Go.RowKit Go.WideShapes

attribute [local go_sem] Oper.semAt_some

namespace Tx
def bq:List UInt8→List UInt8→List (List UInt8)
 | cur,[]=>if cur=[] then [] else [cur]
 | cur,c :: l=>if sp c then (if cur=[] then bq [] l else cur :: bq [] l) else bq (cur++[c]) l
def words(l:List UInt8):List (List UInt8):=bq [] l
def iD(acc w:List UInt8):List UInt8:=if acc=[] then w else acc++32 :: w
def one(l:List UInt8):List UInt8:=(words l).foldl iD []
theorem OH:∀(l cur:List UInt8),(bq cur l).length≤l.length+1
 | [],cur=>by unfold bq;split<;>simp
 | c :: l,cur=>by
  unfold bq;have h1:=OH l [];have h2:=OH l (cur++[c]);split
  ·split
   ·rw[List.length_cons];omega
   rw[List.length_cons,List.length_cons];omega
  rw[List.length_cons];omega
end Tx
theorem am2(s:ByteArray)(w:World) :
  Calls Tryz.prog 95 #[.string s] w fun e w'=>e=.returned (.func (.func 134) #[] #[.pointer (some ⟨w.heap.size,0,none⟩)])∧w'=w.alloc (.cells #[.string s] 9):=by
 go_enter Tryz.func95,Tryz.ntmps95
 go_wp2;go_ret;exact⟨rfl,rfl⟩
def vx(Bs:Nat)(W W':World):Prop:=W.heap.size≤W'.heap.size∧W'.heap[Bs]?=W.heap[Bs]?
theorem vx.trans{Bs:Nat}{X Y Z:World}(h:vx Bs X Y)(k:vx Bs Y Z):vx Bs X Z:=⟨Nat.le_trans h.1 k.1,k.2.trans h.2⟩
def H7(A B:World):Prop:=Below A.heap.size A B
theorem MB{l:List UInt8}{j:Nat}{c:UInt8}(h:l[j]?=some c):l.drop j=c :: l.drop (j+1):=by
 obtain⟨h1,h2⟩:=List.getElem?_eq_some_iff.1 h;rw[List.drop_eq_getElem_cons h1,h2]
theorem anE(n:Nat)(hn:1≤n)(Bs:Nat)(D:List UInt8)(hs:D.length≤1000000000)(W:World)(hc:ae W Bs 9 #[.string (aa D)]) :
  uB H7 Fence.wide n Tryz.prog 134 #[.pointer (some ⟨Bs,0,none⟩)] (fun x:List UInt8=>#[.string (aa x)]) (vx Bs) (fun x _=>x≠[]∧x.length≤D.length) (fun xs=>xs=Tx.words D) (D.length+1) W:=by
 intro l J hJ tC hY;refine callsIn_of_wp Tryz.func134 rfl trivial ?_ rfl;simp only[Tryz.ntmps134,List.size_toArray,List.length_cons,List.length_nil,Nat.reduceAdd,Nat.reduceSub,Array.replicate_succ,Array.replicate_zero,List.push_toArray,List.append_toArray,List.nil_append,List.cons_append];obtain⟨N,hN⟩:∃N,D.length=N:=⟨_,rfl⟩;have HN:=ap hN;rw[hN] at hs;obtain⟨all,hall⟩:∃all,Tx.words D=all:=⟨_,rfl⟩;rw[hall];have mf:=ap hall;have sz:=ap (show all.length≤N+1 by rw[←hall,←hN];exact Tx.OH D []);have HY:=ap hY;have H0:=ap tC;have HC:=ap hc;have q0:=hc.cell 0;have hsz:(aa D).size=N:=by rw[aO,hN]
 have uO:=ap (fun a b=>xL D a b);have pC:=ap (fun k c (h:D[k]?=some c) w=>uh (aa D) k c (by rw[aZ];exact h) w);have kY:=ap (fun c W=>amX c W);clear hN hall hY tC hc hJ;gi_wp2
 gi_loopg [3,7] N (fun g v3 v7 wr=>∃(i f:Nat) (pre:List (List UInt8)),g=N-i∧i≤N∧f≤i∧v3=.int .i64 (f:Int)∧v7=.int .i64 (i:Int)∧pre++Tx.bq ((D.drop f).take (i-f)) (D.drop i)=all∧J pre wr∧ae wr Bs 9 #[.string (aa D)])
 case atStart=>exact⟨0,0,[],rfl,by omega,Nat.le_refl _,rfl,rfl,by rw[←mf.o];rfl,H0.o,HC.o⟩
 case round=>
  obtain⟨i,f,pre,hg,hi,hf,rfl,rfl,hp,hj,hc⟩:=hrel;have Hg:=ap hg;have HP:=ap hp;have Hj:=ap hj;have uI:=ap hc;have q1:=hc.cell 0;clear hg hp hj hc
  by_cases hlt:i<N
  ·obtain⟨c,yl⟩:∃c,D[i]?=some c:=⟨_,List.getElem?_eq_getElem (by rw[HN.o];exact hlt)⟩;have gB:=pC.o i c yl;have HD:=ap (MB yl);have bt:=ap (kY.o c wr);have zi:IntKind.i64.wrap ((i:Int)+1)=((i+1:Nat):Int):=by rw[IntWalk.i64_in _ (by omega)];omega
   have Hci:=ap yl;clear yl
   cases hsp:Tx.sp c with
   | false=>
    have sR:=ap hsp;rw[hsp] at bt;clear hsp
    gi_wp2_with (refine⟨trivial,?_⟩;gi_at_call 135;refine (callsIn_wide.2 bt.o).mono ?_;rintro e w2 ⟨rfl,hw2⟩;subst w2)
    go_roundg (N-(i+1))
    case measure=>have:=Hg.o;omega
    case rel=>
     refine⟨i+1,f,pre,rfl,by omega,by omega,rfl,by first|rfl|go_num,?_,Hj.o,uI.o⟩;rw[←HP.o,HD.o]
     conv=>rhs;unfold Tx.bq
     rw[if_neg (by rw[sR.o];simp),show i+1-f=(i-f)+1 by omega,List.take_add_one,List.getElem?_drop,show f+(i-f)=i by omega,Hci.o];rfl
   | true=>
    have sR:=ap hsp;rw[hsp] at bt;clear hsp
    by_cases tL:f<i
    ·have Ff:(f:Int)<(i:Int):=by omega
     have hex:(aa D).extract f i=aa ((D.drop f).take (i-f)):=uO.o f i;obtain⟨x,hx⟩:∃x,(D.drop f).take (i-f)=x:=⟨_,rfl⟩;have jz:x.length=i-f:=by rw[←hx,List.length_take,List.length_drop,HN.o];omega
     have uf:x≠[]:=fun e=>by rw[e] at jz;simp at jz;omega
     rw[hx] at hex
     have HW:=ap (show Tx.bq x (D.drop i)=x :: Tx.bq [] (D.drop (i+1)) by
      rw[HD.o]
      conv=>lhs;unfold Tx.bq
      rw[if_pos sR.o,if_neg uf])
     have jf:=ap (show pre++x :: Tx.bq [] (D.drop (i+1))=all by rw[←HW.o,←hx];exact HP.o)
     have hpl:pre.length<N+1:=by
      have h1:=congrArg List.length jf.o;rw[List.length_append,List.length_cons] at h1;have:=sz.o;omega
     have ku:=HY.o pre x wr Hj.o ⟨uf,by rw[jz,HN.o];omega⟩ (by rw[HN.o];exact hpl);obtain⟨fn,tmps,assign,body,hy,lD⟩:=ku;have qE:=ap lD;have jq:0≤(f:Int)∧(f:Int)≤(i:Int)∧(i:Int)≤(N:Int):=by omega
     clear hx jz uf lD hpl
     gi_wp2_with (refine⟨trivial,?_⟩;gi_at_call 135;refine (callsIn_wide.2 bt.o).mono ?_;rintro e w2 ⟨rfl,hw2⟩;subst w2)
     refine qE.o.mono ?_;rintro e W3 ⟨rfl,bY,aI⟩;have gZ:=ap bY;have Dh:=ap (show ae W3 Bs 9 #[.string (aa D)] from aI.2.trans uI.o);clear bY aI;gi_wp2
     go_roundg (N-(i+1))
     case measure=>have:=Hg.o;omega
     case rel=>
      refine⟨i+1,i+1,pre++[x],rfl,by omega,Nat.le_refl _,by first|rfl|go_num,by first|rfl|go_num,?_,gZ.o,Dh.o⟩;rw[Nat.sub_self,List.take_zero,List.append_assoc];exact jf.o
    have hfe:f=i:=by omega
    subst hfe;have Ff:¬(f:Int)<(f:Int):=by omega
    have jf:=ap (show pre++Tx.bq [] (D.drop (f+1))=all by
     rw[←HP.o,HD.o,Nat.sub_self,List.take_zero]
     conv=>rhs;unfold Tx.bq
     rw[if_pos sR.o,if_pos rfl])
    gi_wp2_with (refine⟨trivial,?_⟩;gi_at_call 135;refine (callsIn_wide.2 bt.o).mono ?_;rintro e w2 ⟨rfl,hw2⟩;subst w2)
    refine⟨fun f h=>(by cases h),?_⟩;gi_wp2
    go_roundg (N-(f+1))
    case measure=>have:=Hg.o;omega
    case rel=>exact⟨f+1,f+1,pre,rfl,by omega,Nat.le_refl _,by first|rfl|go_num,by first|rfl|go_num,by rw[Nat.sub_self,List.take_zero];exact jf.o,Hj.o,uI.o⟩
  have BH:i=N:=by omega
  subst BH;have hnil:D.drop i=[]:=List.drop_of_length_le (by rw[HN.o];exact Nat.le_refl _);have eF:(D.drop f).take (i-f)=D.drop f:=List.take_of_length_le (by rw[List.length_drop,HN.o];exact Nat.le_refl _);have jf:=ap (show pre++Tx.bq (D.drop f) []=all by rw[←HP.o,hnil,eF])
  by_cases tL:f<i
  ·have Ff:(f:Int)<(i:Int):=by omega
   have hex:(aa D).extract f i=aa (D.drop f):=by rw[uO.o f i,eF]
   obtain⟨x,hx⟩:∃x,D.drop f=x:=⟨_,rfl⟩;have jz:x.length=i-f:=by rw[←hx,List.length_drop,HN.o]
   have uf:x≠[]:=fun e=>by rw[e] at jz;simp at jz;omega
   rw[hx] at hex
   have xy:=ap (show pre++[x]=all by
    have h1:=jf.o;rw[hx] at h1;unfold Tx.bq at h1;rwa[if_neg uf] at h1)
   have hpl:pre.length<i+1:=by
    have h1:=congrArg List.length xy.o;rw[List.length_append,List.length_singleton] at h1;have:=sz.o;omega
   have ku:=HY.o pre x wr Hj.o ⟨uf,by rw[jz,HN.o];omega⟩ (by rw[HN.o];exact hpl);obtain⟨fn,tmps,assign,body,hy,lD⟩:=ku;have qE:=ap lD;have jq:0≤(f:Int)∧(f:Int)≤(i:Int)∧(i:Int)≤(i:Int):=by omega
   clear hx jz uf lD hpl hnil eF;gi_wp2;refine qE.o.mono ?_;rintro e W3 ⟨rfl,bY,aI⟩;have gZ:=ap bY;clear bY aI;gi_wp2;go_end0;have vN:=gZ.o;rw[xy.o] at vN
   first|exact⟨⟨_,rfl⟩,_,rfl,vN⟩|exact⟨⟨_,rfl⟩,vN⟩
  have Ff:¬(f:Int)<(i:Int):=by omega
  have xy:=ap (show pre=all by
   have h1:=jf.o;rw[List.drop_of_length_le (by rw[HN.o];omega)] at h1
   simpa[Tx.bq] using h1)
  clear hnil eF;gi_wp2;go_end0;have vN:=Hj.o;rw[xy.o] at vN
  first|exact⟨⟨_,rfl⟩,_,rfl,vN⟩|exact⟨⟨_,rfl⟩,vN⟩
end
section
open Go.RowKit Go.WideShapes

attribute [local go_sem] Oper.semAt_some

theorem Er(a b:List UInt8):Lib.byteCells (a++b)=Lib.byteCells a++Lib.byteCells b:=by simp[Lib.byteCells]
def Bx(B b:Nat)(l:List UInt8)(w:World):Prop:=Lib.IsBuilder 52 5 B b (Lib.byteCells l) w
section
variable {B b:Nat} {l:List UInt8} {w w1:World}
theorem Bx.ws(h:Bx B b l w)(m:List UInt8)(hlen:l.length+m.length≤140737488355328)(il:B≤w.heap.size) :
  Calls Tryz.prog 19 #[.pointer (some ⟨b,0,none⟩),.string (aa m)] w fun e w'=>(∃v,e=.returned v)∧Bx B b (l++m) w'∧bM B b w w':=by
 have hs:(aa m).size=m.length:=aO m;refine (Zp B b _ (aa m) w h (by rw[Lib.byteCells_length];omega) il).mono ?_;rintro e w' ⟨rfl,h1,h2⟩;refine⟨⟨_,rfl⟩,?_,h2⟩;unfold Bx;rw[Er];exact h1
theorem Bx.wb(h:Bx B b l w)(c:UInt8)(hlen:l.length+1≤140737488355328)(il:B≤w.heap.size) :
  Calls Tryz.prog 37 #[.pointer (some ⟨b,0,none⟩),.int .u8 (c.toNat:Nat)] w fun e w'=>e=.returned .nilIface∧Bx B b (l++[c]) w'∧bM B b w w':=by
 refine (ano B b _ _ w h (by rw[Lib.byteCells_length];omega) il).mono ?_;rintro e w' ⟨rfl,h1,h2⟩;refine⟨rfl,?_,h2⟩;unfold Bx;rw[Er];exact h1
theorem Bx.turn(h:Bx B b l w)(hk:∀k,bN w k 5∨k=b→w1.heap[k]?=w.heap[k]?):Bx B b l w1:=by
 have key:∀p,Lib.BuilderAt 52 5 B b p (Lib.byteCells l) w→Lib.BuilderAt 52 5 B b p (Lib.byteCells l) w1:=fun p hp=>by
  obtain⟨hB,v,ck,hown,hne⟩:=hp;refine⟨hB,v,(hk _ (.inr rfl)).trans ck,⟨hown.1,?_⟩,hne⟩
  rcases hown.2 with hn|⟨g,cap,cur,rfl,jr,dT,rest⟩
  ·exact .inl hn
  exact .inr ⟨g,cap,cur,rfl,jr,(hk g (.inl ⟨cur,_,dT⟩)).trans dT,rest⟩
 rcases h with h|h
 ·exact .inl (key _ h)
 exact .inr (key _ h)
theorem Bx.lt(h:Bx B b l w):b<w.heap.size:=by
 rcases h with h|h<;>exact h.lt
theorem Bx.VS(h:Bx B b l w):nd w b:=by
 rcases h with h|h<;>(obtain⟨_,v,ck,_⟩:=h;exact⟨_,_,_,ck⟩)
theorem Bx.go(h:Bx B b l w)(hb:Below w.heap.size w w1):Bx B b l w1:=h.turn fun k hk=>hb.block k (by
 rcases hk with hk|rfl
 ·exact hk.lt
 exact h.lt)
theorem Bx.put(h:Bx B b l w){i:Nat}{o o':Obj}(hi:w.heap[i]?=some o')(hc:o'.isCells=false):Bx B b l (w.putObj i o):=h.turn fun k hk=>World.putObj_heap_other (by
 rintro rfl
 have:nd w k:=by
  rcases hk with ⟨cs,fr,hk⟩|rfl
  ·exact⟨cs,_,fr,hk⟩
  exact h.VS
 obtain⟨cs,t,fr,e⟩:=this;rw[hi] at e;cases e
 cases hc)
theorem Bx.fresh(w:World):Bx w.heap.size w.heap.size [] (w.alloc (.cells #[.pointer none,.slice none 0 0] 52)) :=
 .inl ⟨Nat.le_refl _,_,ae.new w _ _,World.ownsRow_nil _ _ _ _,fun h=>by cases h⟩
theorem Bx.str(h:Bx B b l w)(il:B≤w.heap.size):Calls Tryz.prog 21 #[.pointer (some ⟨b,0,none⟩)] w fun e w'=>e=.returned (.string (aa l))∧Below B w w':=Tryz.Builder_String_any B b l w h il
theorem Bx.ame(h:Bx B b l w)(il:B≤w.heap.size):Calls Tryz.prog 21 #[.pointer (some ⟨b,0,none⟩)] w fun e w'=>e=.returned (.string (aa l))∧Below B w w'∧Lib.OthersKept 5 (some b) w w':=by
 refine (Tryz.Builder_String_any_k B b l w (Lib.IsBuilderF.of h) il).mono ?_;rintro e w' ⟨h1,_,h2,h3⟩;exact⟨h1,h2,h3⟩
theorem Bx.len(h:Bx B b l w):Calls Tryz.prog 96 #[.pointer (some ⟨b,0,none⟩)] w fun e w'=>e=.returned (.int .i64 (l.length:Nat))∧w'=w:=by
 have:=Tryz.Builder_Len B b _ w h;rwa[Lib.byteCells_length] at this
theorem bM.others(h:bM B b w w1)(hb:nd w b):KeepsOthers w w1:=⟨h.size,fun k o hk ho=>by
 refine (h.block k (Array.getElem?_eq_some_iff.1 hk).1 ?_ (.inr ?_)).trans hk
 ·rintro rfl;obtain⟨cs,t,fr,e⟩:=hb;rw[hk] at e;cases e;cases ho
 rintro ⟨cs,fr,e⟩;rw[hk] at e;cases e
 cases ho⟩
end
structure JO(w:World)(D:List UInt8)(L:Nat)(pre:List (List UInt8))(W:World):Prop where
 bx:Bx w.heap.size w.heap.size (pre.foldl Tx.iD []) W
 b:Below w.heap.size w W
 size:w.heap.size+4≤W.heap.size
 txt:ae W (w.heap.size+1) 9 #[.string (aa D)]
 len:(pre.foldl Tx.iD []).length≤pre.length*(L+1)
theorem WZ(acc x:List UInt8):(Tx.iD acc x).length≤acc.length+x.length+1:=by
 unfold Tx.iD;split
 ·omega
 rw[List.length_append,List.length_cons];omega
theorem aiq(D:List UInt8)(w:World)(hs:D.length≤1000000) :
  Calls Tryz.prog 65 #[.string (aa D)] w fun e w'=>e=.returned (.string (aa (Tx.one D)))∧Below w.heap.size w w':=by
 refine (callsIn_wide (n:=5)).1 ?_;refine callsIn_of_wp_marks Tryz.func65 rfl trivial ?_ rfl;simp only[Tryz.ntmps65,List.size_toArray,List.length_cons,List.length_nil,Nat.reduceAdd,Nat.reduceSub,Array.replicate_succ,Array.replicate_zero,List.push_toArray,List.append_toArray,List.nil_append,List.cons_append];obtain⟨L,hL⟩:∃L,D.length=L:=⟨_,rfl⟩;have HL:=ap hL;rw[hL] at hs;clear hL
 gi_wp2_with (refine⟨trivial,?_⟩;gi_at_call 95;refine (callsIn_wide.2 (am2 _ _)).mono ?_;rintro e w' ⟨rfl,rfl⟩)
 have aW:ae ((w.alloc (.cells #[.pointer none,.slice none 0 0] 52)).alloc (.cells #[.string (aa D)] 9)) (w.heap.size+1) 9 #[.string (aa D)]:=by
  have:=ae.new (w.alloc (.cells #[.pointer none,.slice none 0 0] 52)) 9 #[.string (aa D)];rwa[World.size_alloc] at this
 have kr:Bx w.heap.size w.heap.size [] ((w.alloc (.cells #[.pointer none,.slice none 0 0] 52)).alloc (.cells #[.string (aa D)] 9)):=(Bx.fresh w).go (ay _ _);have dc:Below w.heap.size w ((w.alloc (.cells #[.pointer none,.slice none 0 0] 52)).alloc (.cells #[.string (aa D)] 9)):=(ay w _).trans ((ay _ _).mono (by simp));have hz2:((w.alloc (.cells #[.pointer none,.slice none 0 0] 52)).alloc (.cells #[.string (aa D)] 9)).heap.size=w.heap.size+2:=by simp
 generalize (w.alloc (.cells #[.pointer none,.slice none 0 0] 52)).alloc (.cells #[.string (aa D)] 9)=W2 at aW kr dc hz2 ⊢;have eI:=ap (fun o o'=>show JO w D L [] ((W2.alloc o).alloc o') from⟨(kr.go (ay _ _)).go (ay _ _),(dc.trans ((ay W2 o).mono (by omega))).trans ((ay (W2.alloc o) o').mono (by simp;omega)),by simp;omega,(aW.alloc o).alloc o',by simp⟩)
 have mE:∀o o',uB H7 Fence.wide (5-1) Tryz.prog 134 #[.pointer (some ⟨w.heap.size+1,0,none⟩)] (fun x:List UInt8=>#[.string (aa x)]) (vx (w.heap.size+1)) (fun x _=>x≠[]∧x.length≤L) (fun xs=>xs=Tx.words D) (L+1) ((W2.alloc o).alloc o'):=by
  intro o o';have h:=anE (5-1) (by omega) (w.heap.size+1) D (by rw[HL.o];omega) ((W2.alloc o).alloc o') ((aW.alloc o).alloc o');rw[HL.o] at h;exact h
 refine Nv (Fr:=H7) (fun A B h k h1 h2=>h.block k h2) rfl (by omega) (gf:=134) (lb:=#[.pointer (some ⟨w.heap.size+1,0,none⟩)]) rfl trivial (enters_of Tryz.func134 (by kernel_rfl) rfl) (fun _=>rfl)
  mE ?kt ?kb (JO w D L) ?ip ?ib ?f eI.o
  (fun x=>{ tmps:=#[.string (aa D),undef,.string ⟨#[]⟩,.pointer (some ⟨w.heap.size,0,none⟩),.string (aa x),.string (aa D),.func (.func 134) #[] #[.pointer (some ⟨w.heap.size+1,0,none⟩)],.string (aa x),undef,undef,undef,undef,undef,undef],defers:=[] }) ?assign ?body ?done
 case kt=>exact fun h k=>h.trans k
 case kb=>exact fun W o o' h h2=>⟨by simp[World.putObj],World.putObj_heap_other (by omega)⟩
 case ip=>
  intro s W o o' h hl hc;exact⟨h.bx.put hl hc,⟨h.b.os,h.b.tape,h.b.output,by have:=h.b.size;simpa[World.putObj] using this,fun k hk=>(World.putObj_heap_other (by omega)).trans (h.b.block k hk)⟩,by have:=h.size;simpa[World.putObj] using this,(World.putObj_heap_other (by omega)).trans h.txt,h.len⟩
 case ib=>
  intro s A B h hb;exact⟨h.bx.go hb,h.b.trans (hb.mono h.b.size),Nat.le_trans h.size hb.size,h.txt.go hb,h.len⟩
 case f=>exact fun x W o h=>h
 case assign=>
  intro l x W K hK;gi_wp2;exact hK
 case body=>
  intro l pre x W hI hf hlen hsz;have iP:=hI.len;have Ud:pre.length*(L+1)≤1000001*1000001:=Nat.mul_le_mul (by omega) (by omega);obtain⟨acc,gz⟩:∃acc,pre.foldl Tx.iD []=acc:=⟨_,rfl⟩;have Pj:=ap (show (pre++[x]).foldl Tx.iD []=Tx.iD acc x by rw[List.foldl_append,gz];rfl);have nY:=ap (gz▸hI.bx:Bx w.heap.size w.heap.size acc W);have HI:=ap hI;have HF:=ap hf;rw[gz] at iP;have sz:=ap iP;have jz:x.length≤1000000:=Nat.le_trans hf.2 hs;have aN:w.heap.size≤W.heap.size:=hI.b.size;have hT:=hI.txt
  have key:∀W3,bM w.heap.size w.heap.size W W3→Bx w.heap.size w.heap.size (Tx.iD acc x) W3→KeepsFrom W2.heap.size W W3∧vx (w.heap.size+1) W W3∧JO w D L (pre++[x]) W3:=fun W3 cH hB=>by
   have aA:=cH.blk hT (by omega) (by decide);refine⟨(cH.others nY.o.VS).from _,⟨cH.size,aA.trans hT.symm⟩,⟨Pj.o.symm▸hB,HI.o.b.trans (cH.below (Nat.le_refl _) aN),Nat.le_trans HI.o.size cH.size,aA,?_⟩⟩;rw[Pj.o,List.length_append,List.length_singleton,Nat.add_mul,Nat.one_mul];have:=WZ acc x;have:=sz.o;have:=HF.o.2;omega
  have Key:=ap key;have aff:acc.length≤1000002000001:=Nat.le_trans iP Ud;clear iP Ud gz hI hf key mE aW kr dc eI hT
  cases acc with
  | nil=>
   have HS:=ap (nY.o.ws x (by simp;omega) aN)
   gi_wp2_with (refine⟨trivial,?_⟩;gi_at_call 96;refine (callsIn_wide.2 nY.o.len).mono ?_;rintro e w2 ⟨rfl,hw2⟩;subst w2)
   refine⟨trivial,?_⟩;refine (callsIn_wide.2 HS.o).mono ?_;rintro e w3 ⟨⟨v,rfl⟩,aA,rP⟩;have aw:=ap aA;have cB:=ap rP;clear aA rP;dsimp only;gi_wp2;exact Key.o w3 cB.o aw.o
  | cons a acc=>
   have qF:=ap (nY.o.wb 32 (by omega) aN);have hlz:(0:Int)<((a :: acc).length:Int):=by rw[List.length_cons];omega
   obtain⟨m,hm⟩:∃m,(a :: acc).length=m:=⟨_,rfl⟩;have zK:=ap (nY.o.len);rw[hm] at zK hlz aff;have Hm:=ap hm;clear hm
   gi_wp2_with (refine⟨trivial,?_⟩;gi_at_call 96;refine (callsIn_wide.2 zK.o).mono ?_;rintro e w2 ⟨rfl,hw2⟩;subst w2)
   refine⟨trivial,?_⟩;refine (callsIn_wide.2 qF.o).mono ?_;rintro e w3 ⟨rfl,aA,rP⟩;have aw:=ap aA;have cB:=ap rP;have sJ:=ap (aA.ws x (by rw[List.length_append,Hm.o,List.length_singleton];omega) (Nat.le_trans aN rP.size));clear aA rP;dsimp only
   gi_wp2_with fail
   refine⟨trivial,?_⟩;refine (callsIn_wide.2 sJ.o).mono ?_;rintro e w4 ⟨⟨v,rfl⟩,lH,Vp⟩;have bW:=ap lH;have iK:=ap (cB.o.trans Vp);clear lH Vp;dsimp only;gi_wp2;refine Key.o w4 iK.o ?_;have:=bW.o;unfold Tx.iD;rw[if_neg (by simp)];rwa[List.append_assoc] at this
 case done=>
  intro D0 xs W hD fg hI hK;subst fg;have aN:w.heap.size≤W.heap.size:=hI.b.size;have ES:D0=w.heap.size+2:=by omega
  subst ES;have HSt:=ap (hI.bx.ame aN);have HB:=ap hI.b;have HK:=ap hK;have hO:=ap (show (Tx.words D).foldl Tx.iD []=Tx.one D from rfl);have hsz:=hI.size;have qH:=ap (hO.o▸HSt.o);have nY:=ap hI.bx;clear hI hK mE aW kr dc eI HSt
  gi_wp2_with fail
  refine⟨trivial,?_⟩;refine (callsIn_wide.2 qH.o).mono ?_;rintro e w3 ⟨rfl,aA,b7⟩;have aw:=ap (HB.o.trans aA);have br:=ap (b7 _ _ HK.o (fun e=>by injection e with e;omega) (fun c fz e=>by cases e));clear aA b7;dsimp only;gi_wp2;refine⟨by simp,.inl ⟨_,_,rfl,run_takeDeferred br.o,?_⟩⟩;refine⟨.string (aa (Tx.one D)),?_,?_⟩
  ·simp[results,Tryz.results65,go_sem]
  exact⟨rfl,aw.o.os,aw.o.tape,aw.o.output,Nat.le_trans aw.o.size (by simp[World.putObj]),fun k hk=>(World.putObj_heap_other (by omega)).trans (aw.o.block k hk)⟩
namespace Tx
theorem OI:∀(l cur:List UInt8),((bq cur l).map List.length).sum+(bq cur l).length≤cur.length+l.length+1
 | [],cur=>by unfold bq;split<;>simp
 | c :: l,cur=>by
  unfold bq;have h1:=OI l [];have h2:=OI l (cur++[c]);rw[List.length_nil] at h1;rw[List.length_append,List.length_singleton] at h2;rw[List.length_cons];split
  ·split
   ·omega
   rw[List.map_cons,List.sum_cons,List.length_cons];omega
  omega
theorem y8(l:List UInt8):(one l).length≤l.length+1:=by
 have key:∀(ws:List (List UInt8)) (acc:List UInt8),(ws.foldl iD acc).length≤acc.length+(ws.map List.length).sum+ws.length:=fun ws=>by
  induction ws with
  | nil=>intro acc;simp
  | cons x ws ih=>
   intro acc;rw[List.foldl_cons,List.map_cons,List.sum_cons,List.length_cons];have:=ih (iD acc x);have:=WZ acc x;omega
 have:=key (words l) [];have:=OI l [];unfold one words at *
 simp only[List.length_nil] at *
 omega
def line(l:List UInt8):List UInt8:=Nf.oZ (one l)
def right(l:List UInt8):Bool:=Utf.valid l&&decide (Tk.bad l<0)
def jA(l:List UInt8):Bool:=right l&&decide (line l=l)
end Tx
theorem Wl(l:List UInt8)(w:World)(hs:l.length≤200000) :
  Calls Tryz.prog 42 #[.string (aa l)] w fun e w'=>e=.returned (.string (aa (Tx.line l)))∧Below w.heap.size w w':=by
 have H1:=ap (aiq l w (by omega));have nI:=Tx.y8 l;have H2:=ap (fun W=>ahW (aa (Tx.one l)) W (by rw[aO];omega));rw[aZ] at H2;clear nI
 go_enter Tryz.func42,Tryz.ntmps42
 go_wp2_with fail
 refine H1.o.mono ?_;rintro e w1 ⟨rfl,hb⟩;have HB:=ap hb;clear hb;dsimp only
 go_wp2_with fail
 refine (H2.o w1).mono ?_;rintro e w2 ⟨rfl,hb⟩;have ag:=ap (HB.o.trans (hb.mono HB.o.size));clear hb;dsimp only;go_wp2;go_ret;exact⟨rfl,ag.o⟩
theorem akl(l:List UInt8)(w:World)(hs:l.length≤200000) :
  Calls Tryz.prog 41 #[.string (aa l)] w fun e w'=>e=.returned (.bool (Tx.right l))∧Below w.heap.size w w':=by
 have H1:=ap (Om (aa l) w (by rw[aO];omega));have H2:=ap (fun W=>JW (aa l) W (by rw[aO];omega));rw[aZ] at H1 H2;unfold Tx.right
 cases hv:Utf.valid l with
 | false=>
  rw[hv] at H1;clear hv
  go_enter Tryz.func41,Tryz.ntmps41
  go_wp2_with fail
  refine H1.o.mono ?_;rintro e w1 ⟨rfl,hb⟩;have HB:=ap hb;clear hb;dsimp only;go_wp2;go_ret;exact⟨rfl,HB.o⟩
 | true=>
  rw[hv] at H1;clear hv;obtain⟨q,hq⟩:∃q,Tk.bad l=q:=⟨_,rfl⟩;rw[hq] at H2 ⊢;clear hq
  go_enter Tryz.func41,Tryz.ntmps41
  go_wp2_with fail
  refine H1.o.mono ?_;rintro e w1 ⟨rfl,hb⟩;have HB:=ap hb;clear hb;dsimp only
  go_wp2_with fail
  refine (H2.o w1).mono ?_;rintro e w2 ⟨rfl,hb⟩;have ag:=ap (HB.o.trans (hb.mono HB.o.size));clear hb;dsimp only;go_wp2;go_ret;exact⟨by rw[Bool.true_and];rfl,ag.o⟩
end
end Go.Proofs.YtpdkeckeekchlaaGreatDoor
