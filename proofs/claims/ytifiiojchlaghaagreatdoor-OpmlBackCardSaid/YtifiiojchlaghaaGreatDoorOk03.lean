/- Characters: the program's 'Next'; the iterator over a text's scalars. And more. -/
import Derived.Test.YtifiiojchlaghaaGreatDoorOk00
import Derived.Test.YtifiiojchlaghaaGreatDoorOk01
import Derived.Test.YtifiiojchlaghaaGreatDoorOk02
import Derived.Lib.AppendStr
import Derived.OwnWalkIn
set_option linter.unusedSimpArgs false
set_option maxRecDepth 100000
set_option maxHeartbeats 4000000
set_option linter.unusedVariables false
namespace Go.Proofs.YtifiiojchlaghaaGreatDoor
section
open Go.RowKit Go.Shelf Tk

attribute [local go_sem] Oper.semAt_some

def nextV(f:Int×Int):Value:=if f.1<0 then .tuple #[.int .i64 0,.int .i64 0,.bool false] else .tuple #[.int .i64 f.1,.int .i64 f.2,.bool true]
theorem pnext_any(s:ByteArray)(k:Nat)(w:World)(h1:k<s.size)(hs:s.size≤1000000000) :
  Calls Tryz.prog 81 #[.string s,.int .i64 (k:Int)] w fun e w'=>e=.returned (nextV (Utf.piece (s.data.toList.drop k)))∧w'=w:=by
 have HP:=hide (piece_any s k w (by omega) (by omega) hs);rw[Int.toNat_natCast] at HP;have hp:=piece_at' s k h1;generalize Utf.piece (s.data.toList.drop k)=f at *
 unfold nextV
 by_cases hf:f.1<0
 ·go_enter Tryz.func81,Tryz.ntmps81
  go_wp2_with (go_at_call 116;refine HP.out.mono ?_;rintro e w' ⟨rfl,rfl⟩;unfold pieceV)
  go_ret3;simp[hf]
 go_enter Tryz.func81,Tryz.ntmps81
 go_wp2_with (go_at_call 116;refine HP.out.mono ?_;rintro e w' ⟨rfl,rfl⟩;unfold pieceV)
 go_ret3;simp[hf]
namespace Tk
def upTo:List (Nat×Int)→List (Nat×Int)
 | []=>[]
 | p :: l=>if p.2<0 then [p] else p :: upTo l
end Tk
theorem cont_m1:∀(l:List UInt8) (k:Nat) (r n lo hi:Int),0≤r→(Utf.cont l k r n lo hi).1<0→(Utf.cont l k r n lo hi).1 = -1:=fun l k r n lo hi hr h=>by
 rcases Utf.cont_neg l k r n lo hi hr with h1|⟨h1,-⟩<;>omega
theorem piece_m1(l:List UInt8)(h:(Utf.piece l).1<0):(Utf.piece l).1 = -1:=by
 cases l with
 | nil=>rfl
 | cons c l=>
  rw[Utf.piece_cons] at h ⊢;split
  ·rfl
  rename_i hc
  rw[if_neg hc] at h;refine cont_m1 _ _ _ _ _ _ ?_ h;have:=Utf.follow_cases c.toNat (by omega) (by have:=Utf.byte_lt c;omega);omega

theorem scalars1_in(n:Nat)(hn:1≤n)(l Bs:Nat)(s:ByteArray)(hs:s.size≤1000000000)
  (J Jx:List (Nat×Int)→World→Prop)
  (hY:∀pre x W,J pre W→pre.length<s.size→YieldAt Fence.wide (n-1) Tryz.prog l #[.int .i64 (x.1:Int),.int .i64 x.2] W fun e W'=>
   (e=.returned (.bool true)∧J (pre++[x]) W'∧SameBlk Bs W W')∨(e=.returned (.bool false)∧Jx (pre++[x]) W'))
  (W:World) (hBs:W.cell? ⟨Bs,0,none⟩=some (.string s)) (h0:J [] W) :
  CallsIn Fence.wide n Tryz.prog 80 #[.func (.yield l) #[] #[],.pointer (some ⟨Bs,0,none⟩)] W fun e W'=>(∃v,e=.returned v)∧
   ((∃ys:List (Nat×Int),ys=upTo (Utf.pieces s.data.toList)∧J ys W')∨(∃pre:List (Nat×Int),(∃rest,pre++rest=upTo (Utf.pieces s.data.toList))∧Jx pre W')):=by
 refine callsIn_of_wp Tryz.func80 rfl trivial ?_ rfl;simp only[Tryz.ntmps80,List.size_toArray,List.length_cons,List.length_nil,Nat.reduceAdd,Nat.reduceSub,Array.replicate_succ,Array.replicate_zero,List.push_toArray,List.append_toArray,List.nil_append,List.cons_append];obtain⟨all,hall⟩:∃all,upTo (Utf.pieces s.data.toList)=all:=⟨_,rfl⟩;rw[hall];have Hall:=hide hall;clear hall;gi_wp2
 gi_loopw [3] (fun i wr=>∃(k:Nat) (pre:List (Nat×Int)),k≤s.size∧i=.int .i64 k∧pre.length≤k∧pre++upTo (Utf.from_ k (s.data.toList.drop k))=all∧J pre wr∧SameBlk Bs W wr)
  (fun i _=>s.size-(intOf i).toNat)
 case atStart=>exact⟨0,[],Nat.zero_le _,rfl,Nat.le_refl _,by rw[←Hall.out];rfl,h0,rfl⟩
 case round=>
  obtain⟨k,pre,hk,rfl,hpl,hpre,hJs,hnx⟩:=hrel;have Hpre:=hide hpre;clear hpre;have hcx:wr.cell? ⟨Bs,0,none⟩=some (.string s):=hnx.cell hBs
  by_cases hlt:k<s.size
  ·have hfr:=from_at s k hlt;have hp:=piece_at' s k hlt;have hm1:=piece_m1 (s.data.toList.drop k);have HP:=hide (pnext_any s k wr hlt hs);obtain⟨f,hf⟩:∃f,Utf.piece (s.data.toList.drop k)=f:=⟨_,rfl⟩;rw[hf] at hp hfr HP hm1;have Hfr:=hide hfr;clear hf hfr
   by_cases hneg:f.1<0
   ·have hv:nextV f=.tuple #[.int .i64 0,.int .i64 0,.bool false]:=by unfold nextV;rw[if_pos hneg]
    rw[hv] at HP;have hf1:=hm1 hneg;have Hup:=hide (show upTo (Utf.from_ k (s.data.toList.drop k))=[(k,-1)] by rw[Hfr.out];unfold upTo;rw[if_pos hneg,hf1]);clear hm1 hv hneg hf1 Hfr hp;obtain⟨fn,tmps,assign,body,hy,hR⟩:=hY pre (k,-1) wr hJs (by omega);dsimp only at hy
    gi_wp2_with (refine⟨trivial,?_⟩;gi_at_call 81;refine (callsIn_wide.2 HP.out).mono ?_;rintro e w' ⟨rfl,rfl⟩)
    refine hR.mono ?_;rintro e W3 (⟨rfl,hJ3,hk3⟩|⟨rfl,hJx3⟩)
    ·gi_wp2;refine bodyPost_ret (results_none rfl _ _ _) rfl ?_;exact⟨⟨_,rfl⟩,.inl ⟨_,by rw[←Hpre.out,Hup.out],hJ3⟩⟩
    gi_wp2;refine bodyPost_ret (results_none rfl _ _ _) rfl ?_;exact⟨⟨_,rfl⟩,.inr ⟨_,⟨[],by rw[←Hpre.out,Hup.out,List.append_nil]⟩,hJx3⟩⟩
   have hv:nextV f=.tuple #[.int .i64 f.1,.int .i64 f.2,.bool true]:=by unfold nextV;rw[if_neg hneg]
   rw[hv] at HP;have Hup:=hide (show upTo (Utf.from_ k (s.data.toList.drop k))=(k,f.1) :: upTo (Utf.from_ (k+f.2.toNat) (s.data.toList.drop (k+f.2.toNat))) by rw[Hfr.out];conv=>lhs;unfold upTo;rw[if_neg hneg]);clear hm1 hv hneg Hfr;obtain⟨fn,tmps,assign,body,hy,hR⟩:=hY pre (k,f.1) wr hJs (by omega);dsimp only at hy
   gi_wp2_with (refine⟨trivial,?_⟩;gi_at_call 81;refine (callsIn_wide.2 HP.out).mono ?_;rintro e w' ⟨rfl,rfl⟩)
   refine hR.mono ?_;rintro e W3 (⟨rfl,hJ3,hk3⟩|⟨rfl,hJx3⟩)
   ·gi_wp2
    go_roundw
    case rel=>exact⟨k+f.2.toNat,pre++[(k,f.1)],by omega,int_eq (by omega),by simp;omega,by rw[←Hpre.out,Hup.out];simp,hJ3,hnx.trans hk3⟩
    case measure=>simp[intOf];omega
   gi_wp2;refine bodyPost_ret (results_none rfl _ _ _) rfl ?_;exact⟨⟨_,rfl⟩,.inr ⟨_,⟨_,by rw[←Hpre.out,Hup.out,List.append_assoc];rfl⟩,hJx3⟩⟩
  gi_wp2;go_end0;exact⟨⟨_,rfl⟩,.inl ⟨pre,by rw[←Hpre.out,List.drop_of_length_le (by simp;omega)];simp[Utf.from_nil,upTo],hJs⟩⟩

theorem scalars_mk(s:ByteArray)(w:World) :
  Calls Tryz.prog 52 #[.string s] w fun e w'=>e=.returned (.func (.func 80) #[] #[.pointer (some ⟨w.heap.size,0,none⟩)])∧w'=w.alloc (.cells #[.string s] 9):=by
 go_enter Tryz.func52,Tryz.ntmps52
 go_wp2;go_ret;exact⟨rfl,rfl⟩

theorem scalars_stops(n:Nat)(hn:1≤n)(Bs:Nat)(s:ByteArray)(hs:s.size≤1000000000)(w:World)(hBs:Bs<w.heap.size)(hc:w.cell? ⟨Bs,0,none⟩=some (.string s)) :
  SeqStopsK Fence.wide n Tryz.prog 80 #[.pointer (some ⟨Bs,0,none⟩)] (fun x:Nat×Int=>#[Value.int .i64 (x.1:Int),Value.int .i64 x.2]) (SameBlk Bs) (fun ys=>ys=upTo (Utf.pieces s.data.toList))
   (fun pre=>∃rest,pre++rest=upTo (Utf.pieces s.data.toList)) s.size w:=fun l J Jx W hW _ _ hY h0=>
 scalars1_in n hn l Bs s hs J Jx hY W ((hW.cell (p:=⟨Bs,0,none⟩) hBs).trans hc) h0
end
section
open Go.RowKit Tk

def rngs(l:List (Int×Int)):List Value:=l.flatMap fun p=>[.int .i64 p.1,.int .i64 p.2]
theorem rngs_length(l:List (Int×Int)):(rngs l).length=l.length*2:=by
 induction l with
 | nil=>rfl
 | cons p l ih=>unfold rngs at ih ⊢;rw[List.flatMap_cons,List.length_append,ih];simp;omega
theorem rngs_at:∀(l:List (Int×Int)) (k:Nat) (h:k<l.length),(rngs l)[k*2]?=some (.int .i64 l[k].1)∧(rngs l)[k*2+1]?=some (.int .i64 l[k].2)
 | p :: l,0,_=>⟨rfl,rfl⟩
 | p :: l,k+1,h=>by
  have ih:=rngs_at l k (by simpa using h);have e:rngs (p :: l)=.int .i64 p.1 :: .int .i64 p.2 :: rngs l:=rfl;rw[e,show (k+1)*2=k*2+2 by omega]
  simpa using ih
theorem blk_reads{w:World}{g t n s:Nat}{xs:List Value}(h:Blk w g t xs.toArray)(hl:xs.length=n*s):Reads w w.heap.size s (some ⟨g,0,none⟩) n xs :=
 ⟨hl,fun _=>⟨g,0,rfl,h.lt,fun j u hj=>by rw[Nat.zero_add,h.cell j];simpa using hj⟩⟩
def inOf(l:List (Int×Int))(r:Int):Bool:=l.any fun p=>within r p.1 p.2

theorem within_any(r:Int)(A:Option Addr)(c:Nat)(l:List (Int×Int))(w:World)(hA:Reads w w.heap.size 2 A l.length (rngs l))(hl:l.length≤1000) :
  Calls Tryz.prog 82 #[.int .i64 r,.slice A l.length c] w fun e w'=>e=.returned (.bool (inOf l r))∧Below w.heap.size w w':=by
 obtain⟨n,hn⟩:∃n,l.length=n:=⟨_,rfl⟩;have HA:=hide hA;rw[hn] at ⊢ hl;have Hn:=hide hn;clear hn hA
 go_enter Tryz.func82,Tryz.ntmps82
 go_wp2
 go_loopg [9] n (fun g v wr=>∃k:Nat,g=n-k∧k≤n∧v=.int .i64 k∧inOf l r=inOf (l.drop k) r∧Below w.heap.size w wr)
 case atStart=>exact⟨0,rfl,by omega,rfl,rfl,Below.refl _ _⟩
 case round=>
  obtain⟨k,hg,hk,rfl,hin,hb⟩:=hrel;have Hg:=hide hg;have Hin:=hide hin;have Hb:=hide hb;clear hg hin hb
  by_cases hlt:k<n
  ·have h1:k<l.length:=by rw[Hn.out];exact hlt
   obtain⟨b,off,rfl,hbl,hc⟩:=(HA.out.below Hb.out).2 (by omega);obtain⟨p,hp⟩:∃p,l[k]=p:=⟨_,rfl⟩;have c0:=hc _ _ (rngs_at l k h1).1;have c1:=hc _ _ (rngs_at l k h1).2;rw[←Nat.add_assoc] at c1;rw[hp] at c0 c1;have Hd:=hide (show l.drop k=p :: l.drop (k+1) by rw[←hp];exact List.drop_eq_getElem_cons h1);clear hc hp;obtain⟨p1,p2⟩:=p;dsimp only at c0 c1
   by_cases ha:p1≤r
   ·by_cases hb2:r≤p2
    ·go_wp2;go_ret;refine⟨ret_eq1 (bool_eq ?_),?_⟩
     ·rw[Hin.out,Hd.out];simp[inOf,within,ha,hb2]
     exact Hb.out.alloc Hb.out.size _
    go_wp2
    go_roundg (n-(k+1))
    case measure=>have:=Hg.out;omega
    case rel=>exact⟨k+1,rfl,by omega,by go_num,by rw[Hin.out,Hd.out];show (within r p1 p2||inOf _ r)=_;rw[show within r p1 p2=false by unfold within;rw[decide_eq_false (Int.not_le.2 hb2),Bool.and_false],Bool.false_or],Hb.out.alloc Hb.out.size _⟩
   go_wp2
   go_roundg (n-(k+1))
   case measure=>have:=Hg.out;omega
   case rel=>exact⟨k+1,rfl,by omega,by go_num,by rw[Hin.out,Hd.out];show (within r p1 p2||inOf _ r)=_;rw[show within r p1 p2=false by unfold within;rw[decide_eq_false (Int.not_le.2 ha),Bool.false_and],Bool.false_or],Hb.out.alloc Hb.out.size _⟩
  go_wp2;go_ret;refine⟨ret_eq1 (bool_eq ?_),Hb.out⟩;rw[Hin.out,List.drop_of_length_le (by rw[Hn.out];omega)];rfl
def firstRs:List (Int×Int):=[(97,122),(65,90),(95,95),(192,214),(216,246),(248,767),(880,893),(895,8191),(8204,8205),(8304,8591),(11264,12271),(12289,55295),(63744,64975),(65008,65533),(65536,983039)]
def furRs:List (Int×Int):=[(45,46),(48,57),(183,183),(768,879),(8255,8256)]
def charRs:List (Int×Int):=[(9,10),(13,13),(32,55295),(57344,65533),(65536,1114111)]
theorem first_in(r:Int):inOf firstRs r=firstOk r:=by
 unfold inOf firstRs firstOk;simp only[List.any_cons,List.any_nil,Bool.or_false,Bool.or_assoc]
theorem char_in(r:Int):inOf charRs r=charOk r:=by
 unfold inOf charRs charOk;simp only[List.any_cons,List.any_nil,Bool.or_false,Bool.or_assoc]
theorem fur_in(r:Int):(firstOk r||inOf furRs r)=furtherOk r:=by
 unfold inOf furRs furtherOk;simp only[List.any_cons,List.any_nil,Bool.or_false,Bool.or_assoc]
theorem within_new(r:Int)(l:List (Int×Int))(hl:l.length≤1000)(w W:World)(g:Nat)(hw:W=w.alloc (.cells (rngs l).toArray 137))(hg:g=w.heap.size) :
  Calls Tryz.prog 82 #[.int .i64 r,.slice (some ⟨g,0,none⟩) l.length l.length] W fun e w'=>e=.returned (.bool (inOf l r))∧Below w.heap.size w w':=by
 subst hw hg;have hk:=Blk.new w 137 (rngs l).toArray;refine (within_any r _ _ l _ (blk_reads hk (rngs_length l)) hl).mono ?_;rintro e w' ⟨rfl,hb⟩;exact⟨rfl,(below_alloc w _).trans (hb.mono (by simp))⟩
theorem first_any(r:Int)(w:World):Calls Tryz.prog 189 #[.int .i64 r] w fun e w'=>e=.returned (.bool (firstOk r))∧Below w.heap.size w w':=by
 have HW:=hide (show Calls Tryz.prog 82 #[.int .i64 r,.slice (some ⟨w.heap.size,0,none⟩) 15 15] (w.alloc (.cells #[.int .i64 97,.int .i64 122,.int .i64 65,.int .i64 90,.int .i64 95,.int .i64 95,.int .i64 192,.int .i64 214,.int .i64 216,.int .i64 246,.int .i64 248,.int .i64 767,.int .i64 880,.int .i64 893,.int .i64 895,.int .i64 8191,.int .i64 8204,.int .i64 8205,.int .i64 8304,.int .i64 8591,.int .i64 11264,.int .i64 12271,.int .i64 12289,.int .i64 55295,.int .i64 63744,.int .i64 64975,.int .i64 65008,.int .i64 65533,.int .i64 65536,.int .i64 983039] 137)) fun e w'=>e=.returned (.bool (firstOk r))∧Below w.heap.size w w' from by
  rw[←first_in];exact within_new r firstRs (by decide) w _ _ rfl rfl)
 generalize firstOk r=b at *
 go_enter Tryz.func189,Tryz.ntmps189
 go_wp2_with (go_at_call 82;refine HW.out.mono ?_;rintro e w' ⟨rfl,hb⟩)
 go_ret;exact⟨rfl,by assumption⟩
theorem char_any(r:Int)(w:World):Calls Tryz.prog 53 #[.int .i64 r] w fun e w'=>e=.returned (.bool (charOk r))∧Below w.heap.size w w':=by
 have HW:=hide (show Calls Tryz.prog 82 #[.int .i64 r,.slice (some ⟨w.heap.size,0,none⟩) 5 5] (w.alloc (.cells #[.int .i64 9,.int .i64 10,.int .i64 13,.int .i64 13,.int .i64 32,.int .i64 55295,.int .i64 57344,.int .i64 65533,.int .i64 65536,.int .i64 1114111] 137)) fun e w'=>e=.returned (.bool (charOk r))∧Below w.heap.size w w' from by
  rw[←char_in];exact within_new r charRs (by decide) w _ _ rfl rfl)
 generalize charOk r=b at *
 go_enter Tryz.func53,Tryz.ntmps53
 go_wp2_with (go_at_call 82;refine HW.out.mono ?_;rintro e w' ⟨rfl,hb⟩)
 go_ret;exact⟨rfl,by assumption⟩
theorem further_any(r:Int)(w:World):Calls Tryz.prog 166 #[.int .i64 r] w fun e w'=>e=.returned (.bool (furtherOk r))∧Below w.heap.size w w':=by
 have HF:=hide (first_any r)
 have HW:=hide fun (W:World)=>(show Calls Tryz.prog 82 #[.int .i64 r,.slice (some ⟨W.heap.size,0,none⟩) 5 5] (W.alloc (.cells #[.int .i64 45,.int .i64 46,.int .i64 48,.int .i64 57,.int .i64 183,.int .i64 183,.int .i64 768,.int .i64 879,.int .i64 8255,.int .i64 8256] 137)) fun e w'=>e=.returned (.bool (inOf furRs r))∧Below W.heap.size W w' from
  within_new r furRs (by decide) W _ _ rfl rfl)
 have HE:=hide (fur_in r);generalize furtherOk r=c at *
 generalize inOf furRs r=d at *
 generalize firstOk r=b at *
 cases b with
 | true=>
  go_enter Tryz.func166,Tryz.ntmps166
  go_wp2_with (go_at_call 189;refine (HF.out _).mono ?_;rintro e w' ⟨rfl,hb⟩)
  go_ret;exact⟨ret_eq1 (bool_eq (by rw[←HE.out];rfl)),by assumption⟩
 | false=>
  go_enter Tryz.func166,Tryz.ntmps166
  go_wp2_with fail
  refine (HF.out _).mono ?_;rintro e w1 ⟨rfl,hb⟩
  go_wp2_with fail
  refine (HW.out _).mono ?_;rintro e w2 ⟨rfl,hb2⟩;go_wp2;go_ret;exact⟨ret_eq1 (bool_eq (by rw[←HE.out];rfl)),hb.trans (hb2.mono hb.size)⟩
theorem take1_any(r:Int)(w:World):Calls Tryz.prog 185 #[.int .i64 r] w fun e w'=>e=.returned (.bool (furtherOk r||decide (r=58)))∧Below w.heap.size w w':=by
 have HF:=hide (further_any r);generalize furtherOk r=b at *
 by_cases hr:r=58
 ·subst hr
  go_enter Tryz.func185,Tryz.ntmps185
  go_wp2;go_ret;exact⟨ret_eq1 (bool_eq (by simp)),Below.refl _ _⟩
 have hd:(r==58)=false:=by rw[beq_eq_false_iff_ne];exact hr
 have Hd:=hide (show decide (r=58)=false by simpa using hr);rw[Hd.out];clear hr Hd
 go_enter Tryz.func185,Tryz.ntmps185
 go_wp2_with (go_at_call 166;refine (HF.out _).mono ?_;rintro e w' ⟨rfl,hb⟩)
 go_ret;exact⟨ret_eq1 (bool_eq (by simp)),by assumption⟩
end
section
open Go.RowKit

theorem own_form{w:World}{base e size n:Nat}{v:Value}{xs:List Value}(h:w.ownsRow base e size v n xs):∃A c,v=.slice A n c:=by
 rcases h.2 with ⟨rfl,rfl⟩|⟨g,cap,cur,rfl,_⟩
 ·exact⟨_,_,rfl⟩
 exact⟨_,_,rfl⟩

theorem strCells_is{t:ByteArray}{l:List UInt8}(h:StrIs t l):Lib.strCells t=byteVs l:=by
 unfold StrIs at h;rw[←h];rfl

theorem run_append_str{P:Program}(w:World)(base:Nat)(t u ty e:TypeId)(ht:P.underlying t=some (.slice e))(hu:P.underlying u=some .string)
  (hinfo:(P.info? e).map (fun i=>(i.zero,i.size,i.bytes))=some (some (.int .u8 0),1,1))
  (v:Value) (n:Nat) (l:List UInt8) (hown:w.ownsRow base e 1 v n (byteVs l)) (s:ByteArray) (m:List UInt8) (hm:StrIs s m)
  (hbytes:n+m.length≤140737488355328) (hbase:base≤w.heap.size) :
  ∃A c w',(Builtin.append_ #[t,u] ty #[v,.string s]).run P w=.ok (.slice A (n+m.length) c) w'∧w'.ownsRow base e 1 (.slice A (n+m.length) c) (n+m.length) (byteVs (l++m))∧w.grownBy w' v.ownBlock:=by
 obtain⟨i,hi,hz,hsize,hby⟩:=info_parts hinfo;have hsz:=hm.size;obtain⟨v',w',hr,h2,h3,_⟩:=Lib.run_append_own_string (P:=P) w base t u ty e i ht hu hi hz hsize hby v n (byteVs l) hown s (by unfold maxLen;omega) (by omega) hbase;rw[strCells_is hm,hsz,←byteVs_append] at h2;obtain⟨A,c,rfl⟩:=own_form h2;exact⟨A,c,w',hr,h2,h3⟩

theorem wpList_append_str{P:Program}(w:World){ops:Array Oper}{rest:List Oper}{o:Oper}{a:Act}{Q:Exit→Act→World→Prop}(hgd:o.guard=none)(sl x:Operand)(t u:TypeId)
  (ho:o.op=.call { callee:=.builtin .append,args:=#[sl,x],argTypes:=#[t,u] })
  (base:Nat) (e:TypeId) (ht:P.underlying t=some (.slice e)) (hu:P.underlying u=some .string) (hinfo:(P.info? e).map (fun i=>(i.zero,i.size,i.bytes))=some (some (.int .u8 0),1,1))
  (v:Value) (n:Nat) (l:List UInt8) (hs:a.eval sl=v) (hown:w.ownsRow base e 1 v n (byteVs l)) (s:ByteArray) (m:List UInt8) (hm:StrIs s m) (hx:a.eval x=.string s)
  (hbytes:n+m.length≤140737488355328) (hbase:base≤w.heap.size)
  (h:∀A c w',w'.ownsRow base e 1 (.slice A (n+m.length) c) (n+m.length) (byteVs (l++m))→w.grownBy w' v.ownBlock→wpList P ops Q rest (a.put o.dst (.slice A (n+m.length) c)) w'):wpList P ops Q (o :: rest) a w:=by
 refine wpList_plain hgd fun K hK=>?_;obtain⟨A,c,w',hr,h2,h3⟩:=run_append_str (P:=P) w base t u o.type e ht hu hinfo v n l hown s m hm hbytes hbase;unfold Oper.wp execOp;simp only[ho,resolve,invoke,builtin,Sem.run_bind,Sem.run_pure,Result.andThen_ok,List.map_toArray,List.map_cons,List.map_nil,hs,hx,hr];exact hK _ _ (h A c w' h2 h3)

theorem wpListIn_append_str{F:Fence}{N:Nat}{P:Program}(w:World){ops:Array Oper}{rest:List Oper}{o:Oper}{a:Act}{Q:Exit→Act→World→Prop}(hgd:o.guard=none)(sl x:Operand)(t u:TypeId)
  (ho:o.op=.call { callee:=.builtin .append,args:=#[sl,x],argTypes:=#[t,u] })
  (base:Nat) (e:TypeId) (ht:P.underlying t=some (.slice e)) (hu:P.underlying u=some .string) (hinfo:(P.info? e).map (fun i=>(i.zero,i.size,i.bytes))=some (some (.int .u8 0),1,1))
  (v:Value) (n:Nat) (l:List UInt8) (hs:a.eval sl=v) (hown:w.ownsRow base e 1 v n (byteVs l)) (s:ByteArray) (m:List UInt8) (hm:StrIs s m) (hx:a.eval x=.string s)
  (hbytes:n+m.length≤140737488355328) (hbase:base≤w.heap.size)
  (h:∀A c w',w'.ownsRow base e 1 (.slice A (n+m.length) c) (n+m.length) (byteVs (l++m))→w.grownBy w' v.ownBlock→wpListIn F N P ops Q rest (a.put o.dst (.slice A (n+m.length) c)) w'):wpListIn F N P ops Q (o :: rest) a w:=by
 refine wpListIn_plain hgd fun K hK=>?_;obtain⟨A,c,w',hr,h2,h3⟩:=run_append_str (P:=P) w base t u o.type e ht hu hinfo v n l hown s m hm hbytes hbase;unfold Oper.wpIn;refine⟨?_,?_⟩
 ·simp[Oper.about,ho,resolve,Target.leads,Sem.run_pure]
 rw[Oper.semAt_plain F _ _ (by rw[ho];intro c hc';cases hc')];simp[execOp,ho,resolve,invoke,builtin,hs,hx,hr,Result.andThen];exact hK _ _ (h A c w' h2 h3)

end
section
open Go.RowKit Go.Shelf

attribute [local go_sem] Oper.semAt_some

theorem info_u8:(Tryz.prog.info? 5).map (fun i=>(i.zero,i.size,i.bytes))=some (some (.int .u8 0),1,1):=by kernel_rfl

def pcs(l:List Pc):List (Nat×Int):=l.map (·.1)
theorem pcs_snoc(l:List Pc)(x:Pc):pcs (l++[x])=pcs l++[x.1]:=by simp[pcs]
theorem pcs_length(l:List Pc):(pcs l).length=l.length:=by simp[pcs]
theorem mended_snoc(l:List (Nat×Int))(x:Nat×Int):Utf.mended (l++[x])=Utf.mended l++(if x.2<0 then [0xEF,0xBF,0xBD] else (Utf.put x.2).map bv):=by
 unfold Utf.mended;rw[List.flatMap_append,List.flatMap_cons,List.flatMap_nil,List.append_nil];rfl
theorem mended_length(l:List (Nat×Int)):(Utf.mended l).length≤4*l.length:=by
 induction l with
 | nil=>simp[Utf.mended]
 | cons x l ih=>
  have h:=put_short x.2;unfold Utf.mended at ih ⊢;rw[List.flatMap_cons,List.length_append,List.length_cons]
  split<;>simp only[List.length_map,List.length_cons,List.length_nil]<;>omega

def LooseI(w:World)(pre:List Pc)(W:World):Prop :=
 (∃v n,Boxed W w.heap.size 37 v∧W.ownsRow w.heap.size 5 1 v n (byteVs (Utf.mended (pcs pre))))∧Boxed W (w.heap.size+1) 3 (.int .i64 (Utf.firstBad (pcs pre)))∧(∃u,Boxed W (w.heap.size+1+1) 9 u)∧Below w.heap.size w W

theorem LooseI_own(w:World):OwnFrom (w.heap.size+3) (LooseI w):=by
 rintro s X Y row ⟨⟨v,n,hv,hr⟩,h2,⟨u,hu⟩,h3⟩ hg hrow
 have hne:∀{B:Nat} {t:TypeId} {u:Value},Boxed X B t u→some B≠row:=fun h e=>by
  obtain⟨_,o,ho,hc⟩:=hrow _ e.symm;rw[show X.heap[_]?=_ from h] at ho;cases ho;cases hc
 refine⟨⟨v,n,hv.kept hg (hne hv),hr.kept hg ?_⟩,h2.kept hg (hne h2),⟨u,hu.kept hg (hne hu)⟩,h3.grown hg h3.size (fun k e=>by have:=(hrow k e).1;omega)⟩
 rcases hr.2 with ⟨rfl,_⟩|⟨g,cap,cur,rfl,_,hgb,_⟩
 ·exact .inl rfl
 refine .inr fun e'=>?_;obtain⟨_,o,ho,hc⟩:=hrow g (by simpa[Value.ownBlock] using e'.symm);rw[hgb] at ho;cases ho;cases hc

theorem grown_below{W w1:World}(h:Below W.heap.size W w1)(row:Option Nat):W.grownBy w1 row:=⟨h.os,h.tape,h.output,h.size,fun k hk _=>h.block k hk⟩
theorem others_below{W w1:World}(h:Below W.heap.size W w1):KeepsOthers W w1:=⟨h.size,fun k o hk _=>(h.block k (Array.getElem?_eq_some_iff.1 hk).1).trans hk⟩

theorem loose_step{w W W2 w1:World}{pre pre':List Pc}{v v':Value}{n n':Nat}{m:List UInt8}{f1:Int}(hB:Below w.heap.size w W)(h3:w.heap.size+3≤W.heap.size)
  (hko:KeepsOthers W W2) (hsb:SameBlk (w.heap.size+1+1) W W2) (hB2:Below w.heap.size w W2) (hcell:∃u,Boxed W2 (w.heap.size+1+1) 9 u)
  (hv:Boxed W2 w.heap.size 37 v) (hf:Boxed W2 (w.heap.size+1) 3 (.int .i64 f1)) (hrow:W2.ownsRow w.heap.size 5 1 v n (byteVs (Utf.mended (pcs pre))))
  (hown:w1.ownsRow w.heap.size 5 1 v' n' (byteVs (Utf.mended (pcs pre)++m))) (hgrow:W2.grownBy w1 v.ownBlock)
  (hm:Utf.mended (pcs pre')=Utf.mended (pcs pre)++m) (hf1:Utf.firstBad (pcs pre')=f1) :
  Boxed w1 w.heap.size 37 v∧KeepsOthers W (w1.setCell ⟨w.heap.size,0,none⟩ v')∧SameBlk (w.heap.size+1+1) W (w1.setCell ⟨w.heap.size,0,none⟩ v')∧LooseI w pre' (w1.setCell ⟨w.heap.size,0,none⟩ v'):=by
 have hv1:Boxed w1 w.heap.size 37 v:=hv.kept hgrow (hv.not_row (by decide) hrow);have hf1':Boxed w1 (w.heap.size+1) 3 (.int .i64 f1):=hf.kept hgrow (hf.not_row (by decide) hrow);obtain⟨u,hu⟩:=hcell;have hu1:w1.heap[w.heap.size+1+1]?=W2.heap[w.heap.size+1+1]?:=hgrow.block _ hu.lt (hu.not_row (by decide) hrow);have hsz:w.heap.size≤W2.heap.size:=hB2.size;refine⟨hv1,?_,?_,⟨v',n',hv1.set v',?_⟩,?_,⟨u,?_⟩,?_⟩
 ·refine (hko.trans (KeepsOthers.of_grownBy hgrow fun j o ej hj=>?_)).trans (KeepsOthers.setCell _ _ _);obtain⟨_,cs,fr,h⟩:=own_isT hrow j ej;rw[h] at hj;cases hj;rfl
 ·refine hsb.trans ?_;exact (Below.heap_setCell _ _ _ _ (by simp;omega)).trans hu1
 ·rw[hm];exact hown.kept (grownBy_setCell' w1 _ v') (.inr (hv1.not_row (by decide) hown).symm)
 ·rw[hf1];exact hf1'.kept (grownBy_setCell' w1 _ v') (by simp)
 ·exact (Below.heap_setCell _ _ _ _ (by simp;omega)).trans (hu1.trans hu)
 refine (hB2.grown hgrow hsz fun j ej=>(own_isT hrow j ej).1).setCell (p:=⟨w.heap.size,0,none⟩) (Nat.le_refl _) v'

theorem loose_any(b:ByteArray)(w:World)(hs:b.size≤1000000000) :
  Calls Tryz.prog 75 #[.string b] w fun e w'=>(∃t:ByteArray,e=.returned (.tuple #[.string t,.int .i64 (Utf.firstBad (Utf.pieces b.data.toList))])∧StrIs t (Utf.mended (Utf.pieces b.data.toList)))∧Below w.heap.size w w':=by
 refine (callsIn_wide (n:=5)).1 ?_;refine callsIn_of_wp_marks Tryz.func75 rfl trivial ?_ rfl;simp only[Tryz.ntmps75,List.size_toArray,List.length_cons,List.length_nil,Nat.reduceAdd,Nat.reduceSub,Array.replicate_succ,Array.replicate_zero,List.push_toArray,List.append_toArray,List.nil_append,List.cons_append]
 gi_wp2_with (refine⟨trivial,?_⟩;gi_at_call 108;refine (callsIn_wide.2 (pieces_any _ _)).mono ?_;rintro e w' ⟨rfl,rfl⟩)
 have b0:=Boxed.new w 37 (.slice none 0 0);have b1:=Boxed.new (w.alloc (.cells #[.slice none 0 0] 37)) 3 (.int .i64 (-1));rw[World.size_alloc] at b1;have b2:=Boxed.new ((w.alloc (.cells #[.slice none 0 0] 37)).alloc (.cells #[.int .i64 (-1)] 3)) 9 (.string b);rw[World.size_alloc,World.size_alloc] at b2
 have hB0:Below w.heap.size w (((w.alloc (.cells #[.slice none 0 0] 37)).alloc (.cells #[.int .i64 (-1)] 3)).alloc (.cells #[.string b] 9)) :=
  (((Below.refl _ w).alloc (Nat.le_refl _) _).alloc (by simp) _).alloc (by simp;omega) _
 refine wpIn_rangeFunc_ownG rfl (by omega) (gf:=145) (lb:=#[.pointer (some ⟨w.heap.size+1+1,0,none⟩)]) rfl trivial (enters_of Tryz.func145 (by kernel_rfl) rfl)
  (pieces_stops (5-1) (by omega) (w.heap.size+1+1) b hs _ (by simp) b2.cell) SameBlk.trans (sameBlk_b (by simp)) (Below.refl _ _) (fun _=>rfl)
  (LooseI w) (fun _ _ _=>False) (by simpa using LooseI_own w) (fun _ _ _ _ _ hs _ _=>hs)
  ⟨⟨_,0,(b0.alloc _).alloc _,World.ownsRow_nil _ _ _ _⟩,b1.alloc _,⟨_,b2⟩,hB0⟩
  (fun x=>{ tmps:=#[.string b,undef,.string ⟨#[]⟩,.int .i64 0,.pointer (some ⟨w.heap.size,0,none⟩),.pointer (some ⟨w.heap.size+1,0,none⟩),.int .i64 (x.1.1:Int),.int .i64 x.1.2,undef,undef,.string b,
   .func (.func 145) #[] #[.pointer (some ⟨w.heap.size+1+1,0,none⟩)],.int .i64 (x.1.1:Int),.int .i64 x.1.2,undef,undef,undef,undef,undef,undef,undef,undef,undef,undef,undef,undef,undef,undef,undef,undef],defers:=[] }) ?assign ?body ?done ?stop
 case assign=>
  intro l x W K hK;gi_wp2;exact hK
 case body=>
  rintro l pre ⟨⟨at_,r⟩,hx⟩ W ⟨⟨v,n,hv,hrow⟩,hf,hu,hB⟩ hlen;obtain⟨A,c,rfl⟩:=own_form hrow;dsimp only at hx ⊢
  have hn:n≤4*pre.length:=by
   have h1:=hrow.1;have h2:=mended_length (pcs pre);rw[byteVs_length] at h1;rw[pcs_length] at h2;omega
  have hc:=hv.cell;have hcf:=hf.cell;have hff:=hf.frozen;obtain⟨f0,hf0⟩:∃f0,Utf.firstBad (pcs pre)=f0:=⟨_,rfl⟩;have hge:=Utf.firstBad_ge (pcs pre);rw[hf0] at hf hcf hge;have Hf0:=hide hf0;clear hf0;have h3:w.heap.size+3≤W.heap.size:=by obtain⟨u,hu⟩:=hu;have:=hu.lt;omega
  by_cases hr:r<0
  ·have HP:=hide (fun W=>put_no r W (show Utf.isScalar r=false by simp[Utf.isScalar];omega));have hm:Utf.mended (pcs (pre++[⟨(at_,r),hx⟩]))=Utf.mended (pcs pre)++[0xEF,0xBF,0xBD]:=by rw[pcs_snoc,mended_snoc,if_pos hr]
   have hfb:Utf.firstBad (pcs (pre++[⟨(at_,r),hx⟩]))=if f0<0 then (at_:Int) else f0:=by rw[pcs_snoc,Utf.firstBad_snoc,Hf0.out,if_pos hr]
   have Hm:=hide hm;have Hfb:=hide hfb;clear hm hfb;generalize pre++[⟨(at_,r),hx⟩]=pre' at *
   by_cases hneg:f0<0
   ·have hko:KeepsOthers W (W.setCell ⟨w.heap.size+1,0,none⟩ (.int .i64 (at_:Int))):=KeepsOthers.setCell _ _ _;have hsb:SameBlk (w.heap.size+1+1) W (W.setCell ⟨w.heap.size+1,0,none⟩ (.int .i64 (at_:Int))):=Below.heap_setCell _ _ _ _ (by simp);have hB2:=hB.setCell (p:=⟨w.heap.size+1,0,none⟩) (by simp) (.int .i64 (at_:Int))
    have hcell:∃u,Boxed (W.setCell ⟨w.heap.size+1,0,none⟩ (.int .i64 (at_:Int))) (w.heap.size+1+1) 9 u:=by
     obtain⟨u,hu⟩:=hu;exact⟨u,hu.kept (grownBy_setCell' _ _ _) (by simp)⟩
    have hv2:Boxed (W.setCell ⟨w.heap.size+1,0,none⟩ (.int .i64 (at_:Int))) w.heap.size 37 (.slice A n c):=hv.kept (grownBy_setCell' _ _ _) (by simp);have hf2:=hf.set (.int .i64 (at_:Int));have hrow2:=hrow.kept (grownBy_setCell' W (w.heap.size+1) (.int .i64 (at_:Int))) (.inr (hf.not_row (by decide) hrow).symm);have Hpost:=hide (show Utf.firstBad (pcs pre')=(at_:Int) by rw[Hfb.out,if_pos hneg]);clear Hfb hu
    gi_wp2_with (first
     | (refine⟨trivial,?_⟩;gi_at_call 93;refine (CallsIn.inRound l (callsIn_wide.2 (HP.out _))).mono ?_;rintro e w' ⟨rfl,rfl⟩)
     | (gi_at_builtin;go_must (refine wpListIn_append_str _ rfl (.tmp 24) (.tmp 25) 37 9 rfl w.heap.size 5 Tryz.underlying37 Tryz.underlying9 info_u8 (.slice A n c) n (Utf.mended (pcs pre)) rfl hrow2 _ [0xEF,0xBF,0xBD] (show StrIs ⟨#[239,191,189]⟩ [0xEF,0xBF,0xBD] from rfl) rfl (by simp only[List.length_cons,List.length_nil];omega) hB2.size ?_);intro A1 c1 w1 hown1 hgrow1;obtain⟨hv1,hk1,hs1,hI1⟩:=loose_step hB h3 hko hsb hB2 hcell hv2 hf2 hrow2 hown1 hgrow1 Hm.out Hpost.out;have hc1:=hv1.cell;have hfz1:=hv1.frozen))
    exact⟨hk1.from _,hs1,hI1⟩
   have Hpost:=hide (show Utf.firstBad (pcs pre')=f0 by rw[Hfb.out,if_neg hneg]);clear Hfb;have Hfb:=Hpost;have hko:=KeepsOthers.refl W;have hsb:SameBlk (w.heap.size+1+1) W W:=rfl;have hB2:=hB;have hcell:=hu;have hv2:=hv;have hf2:=hf;have hrow2:=hrow;clear hu
   gi_wp2_with (first
    | (refine⟨trivial,?_⟩;gi_at_call 93;refine (CallsIn.inRound l (callsIn_wide.2 (HP.out _))).mono ?_;rintro e w' ⟨rfl,rfl⟩)
    | (gi_at_builtin;go_must (refine wpListIn_append_str _ rfl (.tmp 24) (.tmp 25) 37 9 rfl w.heap.size 5 Tryz.underlying37 Tryz.underlying9 info_u8 (.slice A n c) n (Utf.mended (pcs pre)) rfl hrow2 _ [0xEF,0xBF,0xBD] (show StrIs ⟨#[239,191,189]⟩ [0xEF,0xBF,0xBD] from rfl) rfl (by simp only[List.length_cons,List.length_nil];omega) hB2.size ?_);intro A1 c1 w2 hown1 hgrow1;obtain⟨hv1,hk1,hs1,hI1⟩:=loose_step hB h3 hko hsb hB2 hcell hv2 hf2 hrow2 hown1 hgrow1 Hm.out Hfb.out;have hc1:=hv1.cell;have hfz1:=hv1.frozen))
   exact⟨hk1.from _,hs1,hI1⟩
  have hsc:Utf.isScalar r=true:=by rcases hx with h|h;exact absurd h hr;exact h
  have HP:=hide (fun W=>put_yes r W hsc);have hm:Utf.mended (pcs (pre++[⟨(at_,r),hx⟩]))=Utf.mended (pcs pre)++(Utf.put r).map bv:=by rw[pcs_snoc,mended_snoc,if_neg hr]
  have hfb:Utf.firstBad (pcs (pre++[⟨(at_,r),hx⟩]))=f0:=by
   rw[pcs_snoc,Utf.firstBad_snoc,Hf0.out];simp only[hr,if_false]
   split<;>omega
  have Hm:=hide hm;have Hfb:=hide hfb;have hpl:=put_short r;clear hm hfb hsc;generalize pre++[⟨(at_,r),hx⟩]=pre' at *
  clear hx;obtain⟨u,hu⟩:=hu;obtain⟨pl,hpl2⟩:∃pl,(Utf.put r).map bv=pl:=⟨_,rfl⟩;have hpl3:pl.length≤4:=by rw[←hpl2];simpa using hpl
  rw[hpl2] at Hm;have Hpl:=hide hpl2;clear hpl2 hpl
  gi_wp2_with (first
   | (refine⟨trivial,?_⟩;gi_at_call 93;refine (CallsIn.inRound l (callsIn_wide.2 (HP.out _))).mono ?_;rintro e w1 ⟨⟨t,rfl,ht⟩,hb1⟩;rw[Hpl.out] at ht;have hko:=others_below hb1;have hsb:SameBlk (w.heap.size+1+1) W w1:=hb1.block _ (by omega);have hB2:Below w.heap.size w w1:=hB.trans (hb1.mono hB.size);have hcell:∃u,Boxed w1 (w.heap.size+1+1) 9 u:=⟨u,hu.kept (grown_below hb1 none) (by simp)⟩;have hv2:=hv.kept (grown_below hb1 none) (by simp);have hf2:=hf.kept (grown_below hb1 none) (by simp);have hrow2:=hrow.kept (grown_below hb1 none) (by simp[Value.ownBlock];cases A<;>simp);have hc2:=hv2.cell)
   | (gi_at_builtin;go_must (refine wpListIn_append_str _ rfl (.tmp 24) (.tmp 25) 37 9 rfl w.heap.size 5 Tryz.underlying37 Tryz.underlying9 info_u8 (.slice A n c) n (Utf.mended (pcs pre)) rfl hrow2 _ pl ht rfl (by omega) hB2.size ?_);intro A1 c1 w2 hown1 hgrow1;obtain⟨hv1,hk1,hs1,hI1⟩:=loose_step hB h3 hko hsb hB2 hcell hv2 hf2 hrow2 hown1 hgrow1 Hm.out Hfb.out;have hc1:=hv1.cell;have hfz1:=hv1.frozen))
  exact⟨hk1.from _,hs1,hI1⟩
 case done=>
  rintro D ys W hD hys ⟨⟨v,n,hv,hrow⟩,hf,hu,hB⟩ hK;obtain⟨A,c,rfl⟩:=own_form hrow;have hc:=hv.cell;have hcf:=hf.cell;have hys':pcs ys=Utf.pieces b.data.toList:=hys;rw[hys'] at hrow hcf;obtain⟨t,hcv,ht⟩:=run_to_string (P:=Tryz.prog) W.drew 37 9 5 Tryz.underlying37 Tryz.underlying5 Tryz.underlying9 (Utf.mended (Utf.pieces b.data.toList)) hrow.drew;have Ht:=hide ht;clear ht hys hys';obtain⟨md,hmd⟩:∃md,Utf.mended (Utf.pieces b.data.toList)=md:=⟨_,rfl⟩;obtain⟨fb,hfb⟩:∃fb,Utf.firstBad (Utf.pieces b.data.toList)=fb:=⟨_,rfl⟩;rw[hmd] at hrow;rw[hfb] at hcf;have Hmd:=hide hmd;have Hfb:=hide hfb;clear hmd hfb;gi_wp2
  gi_region
  all_goals gi_wp2
  all_goals
   refine⟨by simp,.inl ⟨_,_,rfl,run_takeDeferred (w:=W.drew) hK,?_⟩⟩;refine⟨_,results_tmp2 rfl _ _ _,?_⟩;exact⟨⟨t,ret_eq2 rfl (int_eq Hfb.out.symm),Ht.out⟩,hB.drew.trans (belowK_b (w:=w) (Nat.le_refl _) W.drew D _ _ (by simp at hD;omega) hK rfl rfl)⟩
 case stop=>
  rintro D c pre W _ _ h _;exact h.elim

theorem valid_any(s:ByteArray)(w:World)(hs:s.size≤1000000000) :
  Calls Tryz.prog 49 #[.string s] w fun e w'=>e=.returned (.bool (Utf.valid s.data.toList))∧Below w.heap.size w w':=by
 obtain⟨fb,hfb⟩:∃fb,Utf.firstBad (Utf.pieces s.data.toList)=fb:=⟨_,rfl⟩;have HV:=hide (Utf.valid_pieces s.data.toList);have Hfb:=hide hfb;have HL:=hide (loose_any s w hs);clear hfb
 go_enter Tryz.func49,Tryz.ntmps49
 go_wp2_with (go_at_call 75;refine HL.out.mono ?_;rintro e w' ⟨⟨t,rfl,_⟩,hb⟩;rw[Hfb.out])
 go_ret;exact⟨ret_eq1 (bool_eq (by rw[HV.out,Hfb.out])),hb⟩
end
section
open Go.RowKit Go.Shelf Tk

attribute [local go_sem] Oper.semAt_some

theorem upTo_find(f:Nat×Int→Bool)(hf:∀p,p.2<0→f p=true):∀l:List (Nat×Int),(upTo l).find? f=l.find? f
 | []=>rfl
 | p :: l=>by
  unfold upTo;split
  ·rename_i h
   rw[List.find?_cons,List.find?_cons,hf p h]
  rw[List.find?_cons,List.find?_cons,upTo_find f hf l]
theorem find_app{α:Type}{f:α→Bool}{pre rest:List α}{x:α}(h:∀p∈pre,f p=false)(hx:f x=true):(pre++[x]++rest).find? f=some x:=by
 rw[List.append_assoc,List.find?_append,List.find?_eq_none.2 (fun p hp=>by rw[h p hp];simp)];simp[hx]
theorem stop_at{ok:Nat→Int→Bool}(hok:∀k r,r<0→ok k r=false){l:L}{pre rest:List (Nat×Int)}{x:Nat×Int}(e:pre++[x]++rest=upTo (Utf.pieces l))(h:∀p∈pre,ok p.1 p.2=true)(hx:ok x.1 x.2=false):stop ok l=some x.1:=by
 unfold stop;rw[←upTo_find _ (fun p hp=>by rw[hok _ _ hp];rfl),←e,find_app (fun p hp=>by rw[h p hp];rfl) (by rw[hx];rfl)];rfl
theorem stop_none{ok:Nat→Int→Bool}(hok:∀k r,r<0→ok k r=false){l:L}(h:∀p∈upTo (Utf.pieces l),ok p.1 p.2=true):stop ok l=none:=by
 unfold stop;rw[←upTo_find _ (fun p hp=>by rw[hok _ _ hp];rfl),List.find?_eq_none.2 (fun p hp=>by rw[h p hp];simp)];rfl
theorem charOk_neg(r:Int)(h:r<0):charOk r=false:=by
 unfold charOk within;simp;omega
theorem firstOk_neg(r:Int)(h:r<0):firstOk r=false:=by
 unfold firstOk within;simp;omega
theorem furtherOk_neg(r:Int)(h:r<0):furtherOk r=false:=by
 unfold furtherOk;rw[firstOk_neg r h];unfold within;simp;omega
theorem nameOk_neg(k:Nat)(r:Int)(h:r<0):nameOk k r=false:=by
 unfold nameOk;rw[firstOk_neg r h,furtherOk_neg r h];simp;omega

def BadI(w:World)(pre:List (Nat×Int))(W:World):Prop:=(∀p∈pre,charOk p.2=true)∧(∃v,Boxed W w.heap.size 3 v)∧(∃u,Boxed W (w.heap.size+1) 9 u)∧Below w.heap.size w W
def BadX(w:World)(c:Code)(pre:List (Nat×Int))(W:World):Prop :=
 c=.ret∧∃pre0 x,pre=pre0++[x]∧(∀p∈pre0,charOk p.2=true)∧charOk x.2=false∧Boxed W w.heap.size 3 (.int .i64 (x.1:Int))∧Below w.heap.size w W
theorem box_row{X:World}{B:Nat}{t:TypeId}{u:Value}{row:Option Nat}{n:Nat}(hrow:∀r,row=some r→n≤r∧∃o:Obj,X.heap[r]?=some o∧o.isCells=false)(h:Boxed X B t u):some B≠row:=fun e=>by
 obtain⟨_,o,ho,hc⟩:=hrow _ e.symm;rw[show X.heap[_]?=_ from h] at ho;cases ho;cases hc
theorem BadI_own(w:World):OwnFrom (w.heap.size+1+1) (BadI w):=by
 rintro s X Y row ⟨h1,⟨v,hv⟩,⟨u,hu⟩,h3⟩ hg hrow;exact⟨h1,⟨v,hv.kept hg (box_row hrow hv)⟩,⟨u,hu.kept hg (box_row hrow hu)⟩,h3.grown hg h3.size (fun k e=>by have:=(hrow k e).1;omega)⟩
theorem BadX_own(w:World)(c:Code):OwnFrom (w.heap.size+1+1) (BadX w c):=by
 rintro s X Y row ⟨h1,p,x,h2,h4,h5,hv,h3⟩ hg hrow;exact⟨h1,p,x,h2,h4,h5,hv.kept hg (box_row hrow hv),h3.grown hg h3.size (fun k e=>by have:=(hrow k e).1;omega)⟩

theorem bad_any(s:ByteArray)(w:World)(hs:s.size≤1000000000) :
  Calls Tryz.prog 32 #[.string s] w fun e w'=>e=.returned (.int .i64 (bad s.data.toList))∧Below w.heap.size w w':=by
 refine (callsIn_wide (n:=5)).1 ?_;refine callsIn_of_wp_marks Tryz.func32 rfl trivial ?_ rfl;simp only[Tryz.ntmps32,List.size_toArray,List.length_cons,List.length_nil,Nat.reduceAdd,Nat.reduceSub,Array.replicate_succ,Array.replicate_zero,List.push_toArray,List.append_toArray,List.nil_append,List.cons_append]
 gi_wp2_with (refine⟨trivial,?_⟩;gi_at_call 52;refine (callsIn_wide.2 (scalars_mk _ _)).mono ?_;rintro e w' ⟨rfl,rfl⟩)
 have b0:=Boxed.new w 3 (.int .i64 0);have b1:=Boxed.new (w.alloc (.cells #[.int .i64 0] 3)) 9 (.string s);rw[World.size_alloc] at b1;have hB0:Below w.heap.size w ((w.alloc (.cells #[.int .i64 0] 3)).alloc (.cells #[.string s] 9)):=((Below.refl _ w).alloc (Nat.le_refl _) _).alloc (by simp) _
 refine wpIn_rangeFunc_ownG rfl (by omega) (gf:=80) (lb:=#[.pointer (some ⟨w.heap.size+1,0,none⟩)]) rfl trivial (enters_of Tryz.func80 (by kernel_rfl) rfl)
  (scalars_stops (5-1) (by omega) (w.heap.size+1) s hs _ (by simp) b1.cell) SameBlk.trans (sameBlk_b (by simp)) (Below.refl _ _) (fun _=>rfl)
  (BadI w) (BadX w) (by simpa using BadI_own w) (fun c=>by simpa using BadX_own w c)
  ⟨(fun p hp=>by cases hp),⟨_,b0.alloc _⟩,⟨_,b1⟩,hB0⟩
  (fun x=>{ tmps:=#[.string s,undef,.pointer (some ⟨w.heap.size,0,none⟩),.int .i64 (x.1:Int),.int .i64 x.2,.string s,
   .func (.func 80) #[] #[.pointer (some ⟨w.heap.size+1,0,none⟩)],.int .i64 (x.1:Int),.int .i64 x.2,undef,undef,undef,undef],defers:=[] }) ?assign ?body ?done ?stop
 case assign=>
  intro l x W K hK;gi_wp2;exact hK
 case body=>
  rintro l pre x W ⟨hp,⟨v,hv⟩,⟨u,hu⟩,hB⟩ hlen;have HP:=hide hp;have h2:w.heap.size+1<W.heap.size:=hu.lt;have HC:=hide (char_any x.2)
  cases hx:charOk x.2 with
  | true=>
   rw[hx] at HC;have HX:=hide hx;clear hp hx
   gi_wp2_with (refine⟨trivial,?_⟩;gi_at_call 53;refine (CallsIn.inRound l (callsIn_wide.2 (HC.out _))).mono ?_;rintro e w1 ⟨rfl,hb⟩)
   refine⟨(others_below hb).from _,hb.block _ (by omega),fun p hp=>?_,⟨v,hv.kept (grown_below hb none) (by simp)⟩,⟨u,hu.kept (grown_below hb none) (by simp)⟩,hB.trans (hb.mono hB.size)⟩
   rcases List.mem_append.1 hp with hp|hp
   ·exact HP.out p hp
   have:p=x:=by simpa using hp
   rw[this];exact HX.out
  | false=>
   rw[hx] at HC;have HX:=hide hx;clear hp hx
   gi_wp2_with (refine⟨trivial,?_⟩;gi_at_call 53;refine (CallsIn.inRound l (callsIn_wide.2 (HC.out _))).mono ?_;rintro e w1 ⟨rfl,hb⟩;have hv1:=hv.kept (grown_below hb none) (by simp);have hc1:=hv1.cell;have hf1:=hv1.frozen)
   exact⟨((others_below hb).trans (KeepsOthers.setCell _ _ _)).from _,rfl,pre,x,rfl,HP.out,HX.out,hv1.set _,(hB.trans (hb.mono hB.size)).setCell (p:=⟨w.heap.size,0,none⟩) (Nat.le_refl _) _⟩
 case done=>
  rintro D ys W hD hys ⟨hp,⟨v,hv⟩,⟨u,hu⟩,hB⟩ hK;have hc:=hv.cell;have hf:=hv.frozen
  have Hbad:=hide (show bad s.data.toList = -1 from by
   unfold bad;rw[stop_none (ok:=fun _ r=>charOk r) (fun _ r h=>charOk_neg r h) (by rw[←hys];exact fun p h=>hp p h)])
  clear hys hp;gi_wp2;have hv2:=hv.set (.int .i64 (-1));have hK2:=(KeepsOthers.setCell W ⟨w.heap.size,0,none⟩ (.int .i64 (-1))).same D _ hK rfl;refine⟨by simp,.inl ⟨_,_,rfl,run_takeDeferred hK2,?_⟩⟩;have hc2:=cell_kept hv2.cell (grownBy_putObj' _ D (.deferred none)) (fun r e=>by cases e;exact⟨_,hK2,rfl⟩);refine⟨.int .i64 (-1),?_,?_⟩
  ·simp[results,Tryz.results32,go_sem,hc2]
  exact⟨ret_eq1 (int_eq Hbad.out.symm),(hB.setCell (p:=⟨w.heap.size,0,none⟩) (Nat.le_refl _) _).trans (belowK_b (w:=w) (Nat.le_refl _) _ D _ _ (by simp at hD;omega) hK2 rfl rfl)⟩
 case stop=>
  rintro D c pre W hD ⟨rest,hsp⟩ ⟨rfl,pre0,x,rfl,hp,hx,hv,hB⟩ hK;have hc:=hv.cell;have hf:=hv.frozen
  have Hbad:=hide (show bad s.data.toList=(x.1:Int) from by
   unfold bad;rw[stop_at (ok:=fun _ r=>charOk r) (fun _ r h=>charOk_neg r h) hsp (fun p h=>hp p h) hx])
  clear hsp hp hx;gi_wp2;refine⟨by simp,.inl ⟨_,_,rfl,run_takeDeferred hK,?_⟩⟩;have hc2:=cell_kept hc (grownBy_putObj' _ D (.deferred none)) (fun r e=>by cases e;exact⟨_,hK,rfl⟩);refine⟨.int .i64 (x.1:Int),?_,?_⟩
  ·simp[results,Tryz.results32,go_sem,hc2]
  exact⟨ret_eq1 (int_eq Hbad.out.symm),hB.trans (belowK_b (w:=w) (Nat.le_refl _) _ D _ _ (by simp at hD;omega) hK rfl rfl)⟩
end
end Go.Proofs.YtifiiojchlaghaaGreatDoor
