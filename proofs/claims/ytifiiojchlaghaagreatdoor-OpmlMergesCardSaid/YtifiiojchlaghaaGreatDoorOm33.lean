/- opml: the document's Great, Same, has. And more. -/
import Derived.Test.YtifiiojchlaghaaGreatDoorOm01
import Derived.Test.YtifiiojchlaghaaGreatDoorOm08
import Derived.Test.YtifiiojchlaghaaGreatDoorOm29
import Derived.Test.YtifiiojchlaghaaGreatDoorOm30
import Derived.Test.YtifiiojchlaghaaGreatDoorOm31
set_option linter.unusedSimpArgs false
set_option maxRecDepth 100000
set_option maxHeartbeats 8000000
set_option linter.unusedVariables false
namespace Go.Proofs.YtifiiojchlaghaaGreatDoor
section
open Go.RowKit Tk Sx Go.WideShapes

namespace Opm
def om(x:ay):Bool:=decide (300<x.pre.length)||decide (300<x.ns.length)
def great(l:List ay):Bool:=(l.take 71).any om||decide (70<l.length)
theorem Ju{l:List ay}(h:great l=false):l.length≤70∧∀x∈l,x.pre.length≤300∧x.ns.length≤300:=by
 unfold great at h;simp only[Bool.or_eq_false_iff,decide_eq_false_iff_not,List.any_eq_false] at h;have hl:l.length≤70:=by omega
 refine⟨hl,fun x hx=>?_⟩;have h1:=h.1 x (by rw[List.take_of_length_le (by omega)];exact hx);unfold om at h1;simp only[Bool.or_eq_true,decide_eq_true_eq,not_or] at h1;omega
end Opm
theorem FO(l:List ay)(A:Option Addr)(c B:Nat)(w:World)(hR:Reads w B 2 A l.length (bj l))(hm:l.length≤maxLen) :
  Calls Tryz.prog 5 #[.slice A l.length c] w fun e w'=>e=.returned (.bool (Opm.great l))∧w'=w:=by
 obtain⟨n,hn⟩:∃n,l.length=n:=⟨_,rfl⟩;have HR:=hide hR;have Hn:=hide hn;have Hg:=hide (show Opm.great l=((l.take 71).any Opm.om||decide (70<n)) by unfold Opm.great;rw[hn]);rw[hn] at hm ⊢;clear hR hn;have e7:(n:Int)≤9223372036854775807:=by unfold maxLen at hm;omega
 go_enter Tryz.func5,Tryz.ntmps5
 go_wp2
 go_loopg [2,3,4,5,6,7,8,9,10,11,12,13,14,15,16,17,18,19,20,21,22,23,24,25,26,27,28,29] n (fun gk v2 v3 v4 v5 v6 v7 v8 v9 v10 v11 v12 v13 v14 v15 v16 v17 v18 v19 v20 v21 v22 v23 v24 v25 v26 v27 v28 v29 wr=>∃j:Nat,v3=.int .i64 (j:Int)∧gk=n-j∧j≤n∧j≤71∧(l.take j).any Opm.om=false∧wr=w)
 case atStart=>exact⟨0,rfl,rfl,by omega,by omega,rfl,rfl⟩
 case round=>
  obtain⟨j,rfl,aq,hj,ame,SB,rfl⟩:=hrel;have eM:=hide aq;have OV:=hide SB;clear aq SB
  by_cases hlt:j<n
  ·have dD:decide ((j:Int)<(n:Int))=true:=decide_eq_true (by omega)
   by_cases h70:j≤70
   ·have acN:decide ((j:Int)≤70)=true:=decide_eq_true (by omega);have fR:j<l.length:=by rw[Hn.out];exact hlt
    obtain⟨b,off,rfl,jl,x0,x1⟩:=HR.out.pF fR
    have hst:(l.take (j+1)).any Opm.om=((l.take j).any Opm.om||Opm.om l[j]):=by
     rw[List.take_add_one,List.getElem?_eq_getElem fR,List.any_append];simp
    rw[OV.out,Bool.false_or] at hst
    have gm:Opm.om l[j]=true→Opm.great l=true:=fun h=>by
     rw[Hg.out];have:(l.take 71).any Opm.om=true:=List.any_eq_true.2 ⟨l[j],List.mem_take_iff_getElem.2 ⟨j,by omega,rfl⟩,h⟩;rw[this];rfl
    obtain⟨⟨u,t⟩,hx⟩:∃x,l[j]=x:=⟨_,rfl⟩;rw[hx] at hst gm x0 x1;unfold Opm.om at hst gm;dsimp only at x0 x1 hst gm;have np:(0:Int)≤j∧(j:Int)<n:=by omega
    have z0:=aW u;have z1:=aW t;have bf:=hide hst;have kZ:=hide gm;clear hst gm hx
    by_cases hu:300<u.length
    ·have bH:decide ((300:Int)<(u.length:Int))=true:=decide_eq_true (by omega);have HF:=hide (kZ.out (by rw[decide_eq_true hu];rfl));clear bf kZ hu;go_wp2;go_ret;rw[HF.out];exact⟨rfl,rfl⟩
    have bH:decide ((300:Int)<(u.length:Int))=false:=decide_eq_false (by omega);rw[decide_eq_false hu,Bool.false_or] at bf kZ;clear hu
    by_cases ht:300<t.length
    ·have ju:decide ((300:Int)<(t.length:Int))=true:=decide_eq_true (by omega);have HF:=hide (kZ.out (decide_eq_true ht));clear bf kZ ht;go_wp2;go_ret;rw[HF.out];exact⟨rfl,rfl⟩
    have ju:decide ((300:Int)<(t.length:Int))=false:=decide_eq_false (by omega);rw[decide_eq_false ht] at bf;clear kZ ht;go_wp2
    go_roundg (n-(j+1))
    case measure=>have:=eM.out;omega
    case rel=>exact⟨j+1,by first|rfl|go_num,rfl,by omega,by omega,bf.out,rfl⟩
   have acN:decide ((j:Int)≤70)=false:=decide_eq_false (by omega);have HF:=hide (show Opm.great l=true by rw[Hg.out,decide_eq_true (show 70<n by omega)];simp);have amE:decide ((70:Int)<(n:Int))=true:=decide_eq_true (by omega);have cB:(j:Int)<n:=by omega
   have aY:¬(j:Int)≤70:=by omega
   have oB:(70:Int)<n:=by omega
   go_wp2;go_ret;rw[HF.out];exact⟨rfl,rfl⟩
  have cB:¬(j:Int)<n:=by omega
  have eO:j=n:=by omega
  have hF:Opm.great l=decide (70<n):=by
   rw[Hg.out]
   have:(l.take 71).any Opm.om=false:=by
    have h:=OV.out;rwa[eO,←Hn.out,List.take_length,←List.take_of_length_le (l:=l) (i:=71) (by rw[Hn.out];omega)] at h
   rw[this,Bool.false_or]
  by_cases h7:70<n
  ·have aY:(70:Int)<n:=by omega
   rw[decide_eq_true h7] at hF;have HF:=hide hF;clear eO hF;go_wp2;go_ret;rw[HF.out];exact⟨rfl,rfl⟩
  have aY:¬(70:Int)<n:=by omega
  rw[decide_eq_false h7] at hF;have HF:=hide hF;clear eO hF;go_wp2;go_ret;rw[HF.out];exact⟨rfl,rfl⟩
instance:DecidableEq ay:=fun x y=>decidable_of_iff (x.pre=y.pre∧x.ns=y.ns) (by cases x;cases y;simp)
theorem QQ(w:World)(k n:Nat):∃m,(w.drewN k).drewN n=w.drewN m:=⟨k+n,by simp[World.drewN,Nat.add_assoc]⟩
theorem Qj{a b:L}(h:a≠b):¬(aa a).toList=(aa b).toList:=fun e=>h ((ID a b).1 e)
theorem ZZ(la lb:List ay)(A B:Option Addr)(ca cb Na Nb:Nat)(w:World)(hA:Reads w Na 2 A la.length (bj la))(hB:Reads w Nb 2 B lb.length (bj lb))(hl:la.length≤1000000000) :
  Calls Tryz.prog 10 #[.slice A la.length ca,.slice B lb.length cb] w fun e w'=>e=.returned (.bool (decide (la=lb)))∧∃k,w'=w.drewN k:=by
 obtain⟨n,hn⟩:∃n,la.length=n:=⟨_,rfl⟩;obtain⟨m,hm⟩:∃n,lb.length=n:=⟨_,rfl⟩;have HA:=hide hA;have HB:=hide hB;have Hn:=hide hn;have Hm:=hide hm;rw[hn] at hl;rw[hn,hm];clear hA hB hn hm
 by_cases dh:n=m
 ·subst dh
  go_enter Tryz.func10,Tryz.ntmps10
  go_wp2
  go_loopg [4,5,11,12,13,14,15,16,17,18,19,20,21,22,23,24,25] n (fun gk v4 v5 v11 v12 v13 v14 v15 v16 v17 v18 v19 v20 v21 v22 v23 v24 v25 wr=>∃j:Nat,v5=.int .i64 (j:Int)∧gk=n-j∧j≤n∧la.take j=lb.take j∧∃k,wr=w.drewN k)
  case atStart=>exact⟨0,rfl,rfl,by omega,rfl,0,rfl⟩
  case round=>
   obtain⟨j,rfl,aq,hj,eR,k,rfl⟩:=hrel;have eM:=hide aq;have wW:=hide eR;clear aq eR
   by_cases hlt:j<n
   ·have cB:(j:Int)<n:=by omega
    have Kl:j<la.length:=by rw[Hn.out];exact hlt
    have hjb:j<lb.length:=by rw[Hm.out];exact hlt
    obtain⟨b,off,rfl,jl,x0,x1⟩:=HA.out.pF Kl;obtain⟨b',U4,rfl,alV,y0,y1⟩:=HB.out.pF hjb;have np:(0:Int)≤j∧(j:Int)<n:=by omega
    have ly:la.take (j+1)=la.take j++[la[j]]:=by rw[List.take_add_one,List.getElem?_eq_getElem Kl];rfl
    have au:lb.take (j+1)=lb.take j++[lb[j]]:=by rw[List.take_add_one,List.getElem?_eq_getElem hjb];rfl
    have hne:la[j]≠lb[j]→decide (la=lb)=false:=fun h=>decide_eq_false fun e=>h (by subst e;rfl);obtain⟨⟨u,t⟩,hx⟩:∃x,la[j]=x:=⟨_,rfl⟩;obtain⟨⟨u',t'⟩,hy⟩:∃x,lb[j]=x:=⟨_,rfl⟩;rw[hx] at x0 x1 ly hne;rw[hy] at y0 y1 au hne;dsimp only at x0 x1 y0 y1
    by_cases hu:u=u'
    ·subst hu
     by_cases ht:t=t'
     ·subst ht;have HT:=hide (show la.take (j+1)=lb.take (j+1) by rw[ly,au,wW.out]);clear hx hy ly au hne;go_wp2
      go_quiet (fail)
      go_wp2
      go_roundg (n-(j+1))
      case measure=>have:=eM.out;omega
      case rel=>exact⟨j+1,by first|rfl|go_num,rfl,by omega,HT.out,_,rfl⟩
     have HF:=hide (hne (fun e=>ht (ay.mk.inj e).2));have h1:=Qj ht;clear hx hy ly au hne ht;go_wp2
     go_quiet (fail)
     go_wp2;go_ret;rw[HF.out];exact⟨rfl,QQ _ _ _⟩
    have HF:=hide (hne (fun e=>hu (ay.mk.inj e).1));have h1:=Qj hu;clear hx hy ly au hne hu;go_wp2
    go_quiet (fail)
    go_wp2;go_ret;rw[HF.out];exact⟨rfl,QQ _ _ _⟩
   have cB:¬(j:Int)<n:=by omega
   have eO:j=n:=by omega
   have HF:=hide (show decide (la=lb)=true from decide_eq_true (by
    have h:=wW.out;rwa[eO,List.take_of_length_le (by rw[Hn.out];exact Nat.le_refl _),List.take_of_length_le (by rw[Hm.out];exact Nat.le_refl _)] at h))
   clear eO;go_wp2;go_ret;rw[HF.out];exact⟨rfl,_,rfl⟩
 have cB:¬(n:Int)=m:=by omega
 have HF:=hide (show decide (la=lb)=false from decide_eq_false fun e=>dh (by rw[←Hn.out,←Hm.out,e]));clear dh
 go_enter Tryz.func10,Tryz.ntmps10
 go_wp2;go_ret;rw[HF.out];exact⟨rfl,0,rfl⟩
theorem ac8(l:List ay)(A:Option Addr)(c B:Nat)(u:L)(w:World)(hR:Reads w B 2 A l.length (bj l))(hl:l.length≤1000000000) :
  Calls Tryz.prog 27 #[.slice A l.length c,.string (aa u)] w fun e w'=>e=.returned (.bool (decide (u∈l.map (·.pre))))∧w'=w:=by
 obtain⟨n,hn⟩:∃n,l.length=n:=⟨_,rfl⟩;have HR:=hide hR;have Hn:=hide hn;obtain⟨q,hq⟩:∃q,decide (u∈l.map (·.pre))=q:=⟨_,rfl⟩;have Hq:=hide hq;rw[hn] at hl;rw[hn,hq];clear hR hn hq
 go_enter Tryz.func27,Tryz.ntmps27
 go_wp2
 go_loopg [4,5,6,7,8,9,10,11,12,13,14,15,16,17,18] n (fun gk v4 v5 v6 v7 v8 v9 v10 v11 v12 v13 v14 v15 v16 v17 v18 wr=>∃j:Nat,v5=.int .i64 (j:Int)∧gk=n-j∧j≤n∧u∉(l.take j).map (·.pre)∧wr=w)
 case atStart=>exact⟨0,rfl,rfl,by omega,by simp,rfl⟩
 case round=>
  obtain⟨j,rfl,aq,hj,hno,rfl⟩:=hrel;have eM:=hide aq;have fH:=hide hno;clear aq hno
  by_cases hlt:j<n
  ·have cB:(j:Int)<n:=by omega
   have fR:j<l.length:=by rw[Hn.out];exact hlt
   obtain⟨b,off,rfl,jl,x0,x1⟩:=HR.out.pF fR;have np:(0:Int)≤j∧(j:Int)<n:=by omega
   have ly:l.take (j+1)=l.take j++[l[j]]:=by rw[List.take_add_one,List.getElem?_eq_getElem fR];rfl
   have bF:l[j]∈l:=List.getElem_mem fR;obtain⟨⟨v,t⟩,hx⟩:∃x,l[j]=x:=⟨_,rfl⟩;rw[hx] at x0 x1 ly bF;dsimp only at x0 x1;have he:=Dg v u
   by_cases hu:v=u
   ·rw[decide_eq_true hu] at he;have HF:=hide (show q=true from Hq.out▸decide_eq_true (List.mem_map.2 ⟨_,bF,hu⟩));clear hx ly bF hu;go_wp2;go_ret;rw[HF.out];exact⟨rfl,rfl⟩
   rw[decide_eq_false hu] at he
   have HN:=hide (show u∉(l.take (j+1)).map (·.pre) from by
    rw[ly,List.map_append,List.mem_append];rintro (h|h)
    ·exact fH.out h
    rw[List.map_singleton,List.mem_singleton] at h;exact hu h.symm)
   clear hx ly bF hu;go_wp2
   go_roundg (n-(j+1))
   case measure=>have:=eM.out;omega
   case rel=>exact⟨j+1,by first|rfl|go_num,rfl,by omega,HN.out,rfl⟩
  have cB:¬(j:Int)<n:=by omega
  have eO:j=n:=by omega
  have HF:=hide (show q=false from Hq.out▸decide_eq_false (by
   have h:=fH.out;rwa[eO,List.take_of_length_le (by rw[Hn.out];exact Nat.le_refl _)] at h))
  clear eO;go_wp2;go_ret;rw[HF.out];exact⟨rfl,rfl⟩
end
section
open Go.RowKit Go.WideShapes




theorem ahK(s:ByteArray)(w:World)(hs:s.size≤1000000000)(hv:Utf.valid s.data.toList=true) :
  Calls Tryz.prog 101 #[.string s] w fun e w'=>∃A c,e=.returned (.tuple #[.slice A (bo s.data.toList).length c,.bool true])∧Below w.heap.size w w'∧Reads w' w'.heap.size 1 A (bo s.data.toList).length (ar (bo s.data.toList)):=by
 have Zy:=hide hv;clear hv
 go_enter Tryz.func101,Tryz.ntmps101
 go_wp2
 go_loopg [4,5] s.size (fun g vo va wr=>∃(k:Nat) (A:Option Addr) (c:Nat) (pre:List Int),g=s.size-k∧k≤s.size∧pre.length≤k∧va=.int .i64 k∧vo=.slice A pre.length c∧Utf.valid (s.data.toList.drop k)=true∧
  bo s.data.toList=pre++(Utf.from_ k (s.data.toList.drop k)).map (·.2)∧wr.ownsRow w.heap.size 3 1 (.slice A pre.length c) pre.length (ar pre)∧Below w.heap.size w wr)
 case atStart=>exact⟨0,none,0,[],rfl,by omega,by simp,rfl,rfl,Zy.out,rfl,World.ownsRow_nil _ _ _ _,Below.refl _ _⟩
 case round=>
  obtain⟨k,A,c,pre,hg,hk,hn,rfl,rfl,hv,hsc,hown,hb⟩:=hrel;have Hv:=hide hv;have Hg:=hide hg;have k8:=hide hsc;clear hv hg hsc
  by_cases hlt:k<s.size
  ·have hp:=Vw s k hlt;have hval:=Xk s k hlt;have fO:=DF s k hlt;have HN:=hide (LN s k wr (by omega) (by omega) hs);rw[Int.toNat_natCast] at HN;obtain⟨f,hf⟩:∃f,Utf.piece (s.data.toList.drop k)=f:=⟨_,rfl⟩;rw[hf] at hp hval HN fO;rw[Hv.out] at hval;have eG:¬f.1<0:=fun h=>by rw[if_pos h] at hval;cases hval
   rw[if_neg eG] at hval;have CW:=hide hval;have qB:=hide fO;have e1:Hid (kK f=.tuple #[.int .i64 f.1,.int .i64 f.2,.bool true]):=by show kK f=_;unfold kK;rw[if_neg eG]
   obtain⟨m,hm⟩:∃m,pre.length=m:=⟨_,rfl⟩;have Hm:=hide hm;rw[hm] at hown hn ⊢;clear hf hval fO hm
   go_wp2_with fail
   refine HN.out.mono ?_;rintro e w' ⟨rfl,rfl⟩;rw[e1.out]
   go_wp2_with (first
    | (at_builtin;go_loud (refine fy wr rfl (.tmp 22) (.tmp 24) 166 rfl w.heap.size (.int .i64 0) 1 8 Tryz.underlying166 fU rfl (by omega) (.slice A m c) m (ar pre) rfl hown (cs:=[.int .i64 f.1]) rfl (by simp[Value.oneCell']) rfl (by unfold maxLen;omega) (by omega) hb.size ?_);intro g' cap' w1 hown1 cW kv iT au))
   go_roundg (s.size-(k+f.2.toNat))
   case measure=>have:=Hg.out;omega
   case rel=>
    have e2:(pre++[f.1]).length=m+1:=by rw[List.length_append,Hm.out];rfl
    refine⟨k+f.2.toNat,some ⟨g',0,none⟩,cap',pre++[f.1],rfl,by omega,by rw[e2];omega,int_eq (by omega),by rw[e2],CW.out.symm,?_,?_,hb.grown cW hb.size (fun j hj=>(aI hown j hj).1)⟩
    ·rw[k8.out,qB.out];simp
    rw[e2,show ar (pre++[f.1])=ar pre++[.int .i64 f.1] by simp[ar]];exact hown1
  have hall:(Utf.from_ k (s.data.toList.drop k)).map (·.2)=[]:=by rw[List.drop_of_length_le (by rw[b9];omega),Utf.zQ];rfl
  have hsc:=k8.out;rw[hall,List.append_nil] at hsc;have bt:=hide hsc;clear hall hsc;go_wp2;go_ret2;exact⟨A,c,by rw[bt.out];rfl,hb,by rw[bt.out];exact Reads.dA hown⟩
end
section
open Go.RowKit Go.WideShapes

theorem ahv(r:Int)(w:World)(h:Utf.isScalar r=false):Calls Tryz.prog 202 #[.int .i64 r] w fun e w'=>e=.returned (.bool false)∧w'=w:=by
 by_cases h1:0≤r
 ·by_cases h2:r≤1114111
  ·have h3:55296≤r∧r≤57343:=by
    simp[Utf.isScalar] at h;omega
   have d1:decide (0≤r)=true:=decide_eq_true h1;have d2:decide (r≤1114111)=true:=decide_eq_true h2;have d3:decide (r<55296)=false:=decide_eq_false (by omega);have d4:decide (57343<r)=false:=decide_eq_false (by omega);clear h h1 h2 h3
   go_enter Tryz.func202,Tryz.ntmps202
   go_wp2;go_ret;exact⟨rfl,rfl⟩
  have d1:decide (0≤r)=true:=decide_eq_true h1;have d2:decide (r≤1114111)=false:=decide_eq_false h2;clear h h1 h2
  go_enter Tryz.func202,Tryz.ntmps202
  go_wp2;go_ret;exact⟨rfl,rfl⟩
 have d1:decide (0≤r)=false:=decide_eq_false h1;clear h h1
 go_enter Tryz.func202,Tryz.ntmps202
 go_wp2;go_ret;exact⟨rfl,rfl⟩
theorem ahx(r:Int)(w:World)(h:Utf.isScalar r=false):Calls Tryz.prog 192 #[.int .i64 r] w fun e w'=>e=.returned (.int .i64 0)∧w'=w:=by
 have HI:=hide (fun W=>ahv r W h);clear h
 go_enter Tryz.func192,Tryz.ntmps192
 go_wp2_with fail
 refine cq (HI.out _) ?_
 go_wp2;go_ret;exact⟨rfl,rfl⟩
theorem ahJ(r:Int)(w:World)(h:Utf.isScalar r=false):Calls Tryz.prog 175 #[.int .i64 r] w fun e w'=>e=.returned (.tuple #[.string ⟨#[]⟩,.bool false])∧w'=w:=by
 have HI:=hide (fun W=>ahx r W h);clear h
 go_enter Tryz.func175,Tryz.ntmps175
 go_wp2_with fail
 refine cq (HI.out _) ?_
 go_wp2;go_ret2;exact⟨rfl,rfl⟩
theorem VV(l:List Int)(A:Option Addr)(c:Nat)(w:World)(hr:Reads w w.heap.size 1 A l.length (ar l))(hs:l.length≤100000000) :
  Calls Tryz.prog 141 #[.slice A l.length c] w fun e w'=>e=.returned (nH l)∧Below w.heap.size w w':=by
 obtain⟨L,hL⟩:∃L,l.length=L:=⟨_,rfl⟩;have HL:=hide hL;rw[hL] at hr hs;rw[hL];have HR:=hide hr;have Gw:=hide (fun r W h=>ahI r W h);have ux:=hide (fun r W h=>ahJ r W h);clear hL hr
 go_enter Tryz.func141,Tryz.ntmps141
 go_wp2
 go_loopg [4,5,6,7] L (fun gk v4 v5 v6 v7 wr=>∃(j:Nat) (A':Option Addr) (c' m:Nat),gk=L-j∧j≤L∧v5=.int .i64 (j:Int)∧v4=.slice A' m c'∧m=(Nf.bytesOf (l.take j)).length∧wr.ownsRow w.heap.size 5 1 (.slice A' m c') m (cA (Nf.bytesOf (l.take j)))∧(∀x∈l.take j,Utf.isScalar x=true)∧Below w.heap.size w wr)
 case atStart=>exact⟨0,none,0,0,rfl,by omega,rfl,rfl,rfl,World.ownsRow_nil _ _ _ _,by simp,Below.refl _ _⟩
 case round=>
  obtain⟨j,A',c',m,aq,hj,rfl,rfl,hm,ho,hsc,hb⟩:=hrel;have Hg:=hide aq;have HO:=hide ho;have bt:=hide hsc;have HB:=hide hb;have Hm:=hide hm;clear aq ho hsc hb hm
  by_cases hlt:j<L
  ·obtain⟨r,iw⟩:∃r,l[j]?=some r:=⟨_,List.getElem?_eq_getElem (by rw[HL.out];exact hlt)⟩;obtain⟨gb,off,rfl,dN,hcell⟩:=HR.out.2 (by omega);have y0:wr.cell? ⟨gb,off+j,none⟩=some (.int .i64 r):=(HB.out.cell dN).trans (hcell j _ (by unfold ar;rw[List.getElem?_map,iw];rfl));have HN:=hide (Nf.Qm iw);have yU:=hide iw;have gH:m≤400000000:=by rw[Hm.out];refine Nat.le_trans (Nf.IJ _) ?_;rw[List.length_take];omega
   clear hcell iw
   cases fT:Utf.isScalar r with
   | false=>
    have HP:=hide (ux.out r wr fT)
    have HV:=hide (show nH l=.tuple #[.string ⟨#[]⟩,.bool false] by
     unfold nH Nf.jR
     rw[if_neg (fun h=>by
      have:=List.all_eq_true.1 h r (List.mem_of_getElem? yU.out);rw[fT] at this
      cases this)])
    clear fT
    go_wp2_with fail
    refine HP.out.mono ?_;rintro e w2 ⟨rfl,hw2⟩;subst hw2;dsimp only;go_wp2;go_ret2;exact⟨by rw[HV.out];rfl,HB.out⟩
   | true=>
    have HP:=hide (Gw.out r wr fT);have G9:=hide fT;have cZ:((Utf.put r).map bv).length≤4:=by rw[List.length_map];exact yt r
    obtain⟨pl,hpl⟩:∃pl,(Utf.put r).map bv=pl:=⟨_,rfl⟩;unfold ld ic at HP;rw[hpl] at cZ HP HN;clear fT hpl
    go_wp2_with fail
    refine HP.out.mono ?_;rintro e w2 ⟨rfl,ag⟩;have HT:=hide (show gC (aa pl) pl from bg pl);have ah:=hide (HB.out.trans (ag.mono HB.out.size));have aL:=hide (Cc HO.out ag);have aM:=ah.out.size;have CR:=hide cZ;clear ag;dsimp only
    go_wp2_with (at_builtin;go_loud (refine Xz w2 rfl (.tmp 24) (.tmp 25) 37 9 rfl w.heap.size 5 Tryz.underlying37 Tryz.underlying9 vS _ m (Nf.bytesOf (l.take j)) rfl aL.out (aa pl) pl HT.out rfl (by omega) aM ?_);intro A3 c3 w3 bX bB;have cf:=hide bX;have ax:=hide (ah.out.grown bB ah.out.size (fun k e=>(aI aL.out k e).1));clear bX bB)
    go_roundg (L-(j+1))
    case measure=>have:=Hg.out;omega
    case rel=>
     refine⟨j+1,A3,c3,m+pl.length,rfl,by omega,by first|rfl|go_num,rfl,by rw[HN.out,List.length_append,←Hm.out],by rw[HN.out];exact cf.out,?_,ax.out⟩;rw[tW yU.out];intro x hx
     rcases List.mem_append.1 hx with hx|hx
     ·exact bt.out x hx
     rw[List.mem_singleton] at hx;subst hx;exact G9.out
  have xI:j=L:=by omega
  have eR:l.take j=l:=List.take_of_length_le (by rw[HL.out];omega);have HT:=hide eR;have aL:=hide (show wr.ownsRow w.heap.size 5 1 (.slice A' m c') m (cA (Nf.bytesOf l)) by have:=HO.out;rwa[eR] at this)
  have HV:=hide (show nH l=.tuple #[.string (aa (Nf.bytesOf l)),.bool true] by
    have hh:=bt.out;rw[eR] at hh;unfold nH Nf.jR;rw[if_pos (List.all_eq_true.2 hh)])
  clear xI eR
  go_wp2_with (refine o6 rfl 37 9 5 _ rfl Tryz.underlying37 Tryz.underlying5 Tryz.underlying9 w.heap.size _ m (by rfl) (Nf.bytesOf l) aL.out ?_;intro t ht;have Ht:=hide (My ht);clear ht)
  go_ret2;exact⟨by rw[HV.out,←Ht.out];rfl,HB.out⟩
end
section
open Go.RowKit Go.WideShapes

theorem VU(c:UInt8)(w:World):Calls Tryz.prog 107 #[.int .u8 (c.toNat:Int)] w fun e w'=>e=.returned (.bool (Tx.sp c))∧w'=w:=by
 obtain⟨n,hn⟩:∃n,c.toNat=n:=⟨_,rfl⟩;obtain⟨q,hq⟩:∃q,Tx.sp c=q:=⟨_,rfl⟩;have hs:decide (n=32∨n=9∨n=10∨n=13)=q:=by rw[←hq,←hn];rfl
 rw[hq,hn];clear hq hn
 by_cases h1:n=32
 ·obtain rfl:q=true:=by rw[←hs];exact decide_eq_true (.inl h1)
  subst h1;clear hs
  go_enter Tryz.func107,Tryz.ntmps107
  go_wp2;go_ret;exact⟨rfl,rfl⟩
 by_cases h2:n=9
 ·obtain rfl:q=true:=by rw[←hs];exact decide_eq_true (.inr (.inl h2))
  subst h2;clear hs h1
  go_enter Tryz.func107,Tryz.ntmps107
  go_wp2;go_ret;exact⟨rfl,rfl⟩
 by_cases h3:n=10
 ·obtain rfl:q=true:=by rw[←hs];exact decide_eq_true (.inr (.inr (.inl h3)))
  subst h3;clear hs h1 h2
  go_enter Tryz.func107,Tryz.ntmps107
  go_wp2;go_ret;exact⟨rfl,rfl⟩
 by_cases h4:n=13
 ·obtain rfl:q=true:=by rw[←hs];exact decide_eq_true (.inr (.inr (.inr h4)))
  subst h4;clear hs h1 h2 h3
  go_enter Tryz.func107,Tryz.ntmps107
  go_wp2;go_ret;exact⟨rfl,rfl⟩
 obtain rfl:q=false:=by rw[←hs];exact decide_eq_false (by omega)
 have e1:((n:Int)==32)=false:=by simp;omega
 have e2:((n:Int)==9)=false:=by simp;omega
 have e3:((n:Int)==10)=false:=by simp;omega
 have e4:((n:Int)==13)=false:=by simp;omega
 clear hs h1 h2 h3 h4
 go_enter Tryz.func107,Tryz.ntmps107
 go_wp2;go_ret;exact⟨rfl,rfl⟩
theorem ahN(s:ByteArray)(w:World)(hs:s.size≤1000000000):Calls Tryz.prog 106 #[.string s] w fun e w'=>e=.returned (.string (aa (Tx.trim s.data.toList)))∧w'=w:=by
 obtain⟨l,hl⟩:∃l,s.data.toList=l:=⟨_,rfl⟩;obtain rfl:s=aa l:=by rw[←hl,zK]
 clear hl;rw[bg];rw[aW] at hs;have j2:=hide (fun c W=>VU c W);have HX:=hide (fun (l:List UInt8) a b=>zJ l a b);have HZ:=hide (fun (l:List UInt8)=>aW l)
 go_enter Tryz.func106,Tryz.ntmps106
 go_wp2
 go_loopg [0] l.length (fun gk v0 wr=>∃m,gk=m.length∧v0=.string (aa m)∧Tx.lW m=Tx.lW l∧m.length≤l.length∧wr=w)
 case atStart=>exact⟨l,rfl,rfl,rfl,Nat.le_refl _,rfl⟩
 case round=>
  obtain⟨m,hg,rfl,ht,jJ,hwr⟩:=hrel;subst hwr;have Hg:=hide hg;have HT:=hide ht;have gB:=hide jJ;clear hg ht jJ
  cases m with
  | nil=>
   have J9:(aa ([]:List UInt8)).size=0:=aW _;have kX:=hide (show Tx.jS []=Tx.trim l by unfold Tx.trim;rw[←HT.out];rfl);go_wp2
   go_loopg [0] l.length (fun gk v0 wj=>∃m2,gk+([]:List UInt8).length=m2.length+l.length∧v0=.string (aa m2)∧Tx.jS m2=Tx.trim l∧m2.length≤l.length∧wj=wr)
   case atStart=>exact⟨[],by omega,rfl,kX.out,gB.out,rfl⟩
   case round=>
    obtain⟨m2,cH,rfl,ju,vG,KZ⟩:=hrel;subst KZ;have l9:=hide cH;have cz:=hide ju;have CP:=hide vG;clear cH ju vG
    rcases Nat.eq_zero_or_pos m2.length with hz|hz
    ·have hnil:m2=[]:=List.eq_nil_of_length_eq_zero hz;subst hnil;have td:(aa ([]:List UInt8)).size=0:=aW _;clear hz;go_wp2;go_ret;exact⟨by rw[←cz.out];rfl,rfl⟩
    obtain⟨m3,d,e3⟩:∃m3 d,m2=m3++[d]:=⟨m2.dropLast,m2.getLast (by intro e;subst e;simp at hz),(List.dropLast_concat_getLast _).symm⟩;subst e3;have Tf:(0:Int)<((m3.length:Nat):Int)+1:=by omega
    obtain⟨k,hk⟩:∃k,m3.length=k:=⟨_,rfl⟩;have eE:k+1≤l.length:=by have:=CP.out;rw[List.length_append,hk] at this;simpa using this
    have hsz:(aa (m3++[d])).size=k+1:=by rw[aW,List.length_append,hk];rfl
    have xG:∀w,(Instr.index 9 (.string (aa (m3++[d]))) (.int .i64 (k:Int))).run Tryz.prog w=.ok (.int .u8 (d.toNat:Nat)) w:=fun w=>vR (aa (m3++[d])) k d (by rw[bg,←hk,List.getElem?_append_right (Nat.le_refl _),Nat.sub_self];rfl) w;have hex:(aa (m3++[d])).extract 0 k=aa m3:=by rw[zJ,List.drop_zero,Nat.sub_zero,List.take_left' hk]
    have zk:IntKind.i64.wrap (((k+1:Nat):Int)-1)=(k:Int):=by rw[IntWalk.i64_in _ (by omega)];omega
    have fS:k<k+1:=Nat.lt_succ_self k;have Hk:=hide hk;clear hk hz;generalize hu:aa (m3++[d])=u at *
    cases jK:Tx.sp d with
    | true=>
     have uI:=hide jK;have HC:=hide (j2.out d wr);rw[jK] at HC;clear jK
     go_wp2_with fail
     go_wp2_with fail
     refine cq (HC.out) ?_
     dsimp only;go_wp2
     go_roundg (m3.length+l.length-([]:List UInt8).length)
     case measure=>have:=l9.out;rw[List.length_append,List.length_singleton] at this;have:=gB.out;omega
     case rel=>
      refine⟨m3,by have:=gB.out;omega,rfl,?_,by rw[Hk.out];omega,rfl⟩;rw[←cz.out,Tx.FE,if_pos uI.out]
    | false=>
     have uI:=hide jK;have HC:=hide (j2.out d wr);rw[jK] at HC;clear jK;have Hu:=hide hu;clear hu
     go_wp2_with fail
     go_wp2_with fail
     refine cq (HC.out) ?_
     dsimp only;go_wp2;go_ret;refine⟨?_,rfl⟩;rw[←cz.out,Tx.FE,if_neg (by rw[uI.out];simp),Hu.out];rfl
  | cons c m=>
   have xG:∀w,(Instr.index 9 (.string (aa (c :: m))) (.int .i64 0)).run Tryz.prog w=.ok (.int .u8 (c.toNat:Nat)) w:=fun w=>by have h:=vR (aa (c :: m)) 0 c (by rw[bg];rfl) w;exact h
   have hsz:(aa (c :: m)).size=m.length+1:=aW _;have hex:(aa (c :: m)).extract 1 (m.length+1)=aa m:=by rw[zJ,Nat.add_sub_cancel];show aa (m.take m.length)=_;rw[List.take_length]
   have hmz:0≤(1:Int)∧(1:Int)≤((m.length+1:Nat):Int):=by omega
   cases hsc:Tx.sp c with
   | true=>
    have k8:=hide hsc;have HC:=hide (j2.out c wr);rw[hsc] at HC;clear hsc
    go_wp2_with fail
    go_wp2_with fail
    refine cq (HC.out) ?_
    dsimp only;go_wp2
    go_roundg m.length
    case measure=>have:=Hg.out;rw[List.length_cons] at this;omega
    case rel=>
     refine⟨m,rfl,rfl,?_,by have:=gB.out;rw[List.length_cons] at this;omega,rfl⟩;rw[←HT.out];unfold Tx.lW;rw[List.dropWhile_cons,if_pos k8.out]
   | false=>
    have kX:=hide (show Tx.jS (c :: m)=Tx.trim l by
     unfold Tx.trim;rw[←HT.out];unfold Tx.lW;rw[List.dropWhile_cons,if_neg (by rw[hsc];simp)])
    have HC:=hide (j2.out c wr);rw[hsc] at HC;clear hsc
    go_wp2_with fail
    go_wp2_with fail
    refine cq (HC.out) ?_
    dsimp only;go_wp2
    go_loopg [0] l.length (fun gk v0 wj=>∃m2,gk+((c :: m):List UInt8).length=m2.length+l.length∧v0=.string (aa m2)∧Tx.jS m2=Tx.trim l∧m2.length≤l.length∧wj=wr)
    case atStart=>exact⟨(c :: m),by omega,rfl,kX.out,gB.out,rfl⟩
    case round=>
     obtain⟨m2,cH,rfl,ju,vG,KZ⟩:=hrel;subst KZ;have l9:=hide cH;have cz:=hide ju;have CP:=hide vG;clear cH ju vG
     rcases Nat.eq_zero_or_pos m2.length with hz|hz
     ·have hnil:m2=[]:=List.eq_nil_of_length_eq_zero hz;subst hnil;have td:(aa ([]:List UInt8)).size=0:=aW _;clear hz;go_wp2;go_ret;exact⟨by rw[←cz.out];rfl,rfl⟩
     obtain⟨m3,d,e3⟩:∃m3 d,m2=m3++[d]:=⟨m2.dropLast,m2.getLast (by intro e;subst e;simp at hz),(List.dropLast_concat_getLast _).symm⟩;subst e3;have Tf:(0:Int)<((m3.length:Nat):Int)+1:=by omega
     obtain⟨k,hk⟩:∃k,m3.length=k:=⟨_,rfl⟩;have eE:k+1≤l.length:=by have:=CP.out;rw[List.length_append,hk] at this;simpa using this
     have hsz:(aa (m3++[d])).size=k+1:=by rw[aW,List.length_append,hk];rfl
     have xG:∀w,(Instr.index 9 (.string (aa (m3++[d]))) (.int .i64 (k:Int))).run Tryz.prog w=.ok (.int .u8 (d.toNat:Nat)) w:=fun w=>vR (aa (m3++[d])) k d (by rw[bg,←hk,List.getElem?_append_right (Nat.le_refl _),Nat.sub_self];rfl) w;have hex:(aa (m3++[d])).extract 0 k=aa m3:=by rw[zJ,List.drop_zero,Nat.sub_zero,List.take_left' hk]
     have zk:IntKind.i64.wrap (((k+1:Nat):Int)-1)=(k:Int):=by rw[IntWalk.i64_in _ (by omega)];omega
     have fS:k<k+1:=Nat.lt_succ_self k;have Hk:=hide hk;clear hk hz;generalize hu:aa (m3++[d])=u at *
     cases jK:Tx.sp d with
     | true=>
      have uI:=hide jK;have HC:=hide (j2.out d wr);rw[jK] at HC;clear jK
      go_wp2_with fail
      go_wp2_with fail
      refine cq (HC.out) ?_
      dsimp only;go_wp2
      go_roundg (m3.length+l.length-((c :: m):List UInt8).length)
      case measure=>have:=l9.out;rw[List.length_append,List.length_singleton] at this;have:=gB.out;omega
      case rel=>
       refine⟨m3,by have:=gB.out;omega,rfl,?_,by rw[Hk.out];omega,rfl⟩;rw[←cz.out,Tx.FE,if_pos uI.out]
     | false=>
      have uI:=hide jK;have HC:=hide (j2.out d wr);rw[jK] at HC;clear jK;have Hu:=hide hu;clear hu
      go_wp2_with fail
      go_wp2_with fail
      refine cq (HC.out) ?_
      dsimp only;go_wp2;go_ret;refine⟨?_,rfl⟩;rw[←cz.out,Tx.FE,if_neg (by rw[uI.out];simp),Hu.out];rfl
end
section
namespace Tx
def iC:Bool→List UInt8→List UInt8
 | _,[]=>[]
 | prev,c :: l=>if sp c then (if prev then iC true l else 32 :: iC true l) else c :: iC false l
def join(ws:List (List UInt8)):List UInt8:=ws.foldl iD []
theorem Uf:∀(ws:List (List UInt8)) (a:List UInt8),a≠[]→ws.foldl iD a=a++ws.flatMap fun x=>32 :: x
 | [],a,_=>by simp
 | x :: ws,a,h=>by
  have e:iD a x=a++32 :: x:=by unfold iD;rw[if_neg h]
  rw[List.foldl_cons,e,Uf ws _ (by simp),List.flatMap_cons];simp
theorem join_cons{x:List UInt8}(hx:x≠[])(ws:List (List UInt8)):join (x :: ws)=x++ws.flatMap fun x=>32 :: x:=by
 unfold join;rw[List.foldl_cons];have e:iD [] x=x:=by unfold iD;rw[if_pos rfl]
 rw[e,Uf ws x hx]
theorem aeR{x y:List UInt8}(hx:x≠[])(hy:y≠[])(ws:List (List UInt8)):join (x :: y :: ws)=x++32 :: join (y :: ws):=by
 rw[join_cons hx,join_cons hy,List.flatMap_cons];simp
theorem FI:∀(l cur:List UInt8),∀x∈br cur l,x≠[]
 | [],cur,x,hx=>by
  unfold br at hx
  split at hx
  ·cases hx
  rename_i h
  rw[List.mem_singleton.1 hx];exact h
 | c :: l,cur,x,hx=>by
  unfold br at hx
  split at hx
  ·split at hx
   ·exact FI l [] x hx
   rename_i h
   rcases List.mem_cons.1 hx with rfl|hx
   ·exact h
   exact FI l [] x hx
  exact FI l _ x hx
def ki:List UInt8→Bool
 | []=>false
 | [c]=>!sp c
 | _ :: l=>ki l
theorem Jc{c:UInt8}{l:List UInt8}(h:l≠[]):ki (c :: l)=ki l:=by
 cases l with
 | nil=>exact absurd rfl h
 | cons d l=>rfl
theorem M0:∀(l cur:List UInt8),(ki l=true∨cur≠[])→br cur l≠[]
 | [],cur,h=>by
  unfold br
  rcases h with h|h
  ·cases h
  rw[if_neg h];simp
 | c :: l,cur,h=>by
  unfold br;split
  ·rename_i hc
   split
   ·rename_i h0
    have h1:ki (c :: l)=true:=by
     rcases h with h|h
     ·exact h
     exact absurd h0 h
    cases l with
    | nil=>unfold ki at h1;rw[hc] at h1;cases h1
    | cons d l=>exact M0 (d :: l) [] (.inl h1)
   simp
  exact M0 l _ (.inr (by simp))
theorem Ff:∀(l cur:List UInt8),(cur≠[]→l=[]∨ki l=true→join (br cur l)=cur++iC false l)∧(cur=[]→ki l=true→join (br [] l)=iC true l)
 | [],cur=>⟨fun h _=>by
   unfold br iC;rw[if_neg h,join_cons h]
   simp,fun _ h=>by cases h⟩
 | c :: l,cur=>by
  obtain⟨i1,_⟩:=Ff l (cur++[c]);obtain⟨_,i2⟩:=Ff l [];obtain⟨i3,_⟩:=Ff l [c];refine⟨fun h he=>?_,fun _ he=>?_⟩
  ·have hf:ki (c :: l)=true:=by
    rcases he with he|he
    ·cases he
    exact he
   unfold br iC
   by_cases hc:sp c=true
   ·rw[if_pos hc,if_pos hc,if_neg h,if_neg (by decide)]
    have hl:l≠[]:=by
     rintro rfl;unfold ki at hf;rw[hc] at hf;cases hf
    have tr:ki l=true:=by rwa[Jc hl] at hf
    have hs:=M0 l [] (.inl tr);have hi:=i2 rfl tr
    cases hw:br [] l with
    | nil=>exact absurd hw hs
    | cons y ws=>
     rw[hw] at hi;rw[aeR h (FI l [] y (by rw[hw];simp)),hi]
   rw[if_neg hc,if_neg hc]
   have:=i1 (by simp) (by
    cases l with
    | nil=>exact .inl rfl
    | cons d l=>exact .inr hf)
   rw[this,List.append_assoc];rfl
  unfold br iC
  by_cases hc:sp c=true
  ·have hl:l≠[]:=by
    rintro rfl;unfold ki at he;rw[hc] at he;cases he
   rw[if_pos hc,if_pos hc,if_pos rfl,if_pos rfl];exact i2 rfl (by rwa[Jc hl] at he)
  rw[if_neg hc,if_neg hc,List.nil_append]
  exact i3 (by simp) (by
   cases l with
   | nil=>exact .inl rfl
   | cons d l=>exact .inr he)
theorem QT:∀(l:List UInt8) (c:UInt8),ki (l++[c]) = !sp c
 | [],c=>rfl
 | d :: l,c=>by rw[List.cons_append,Jc (by simp),QT l c]
theorem Dv:∀l:List UInt8,l.dropWhile sp=[]∨∃c t,l.dropWhile sp=c :: t∧sp c=false
 | []=>.inl rfl
 | c :: l=>by
  rw[List.dropWhile_cons];split
  ·exact Dv l
  rename_i h
  exact .inr ⟨c,l,rfl,by simpa using h⟩
theorem akf(l:List UInt8):jS l=[]∨ki (jS l)=true:=by
 unfold jS
 rcases Dv l.reverse with e|⟨c,t,e,hc⟩
 ·rw[e];exact .inl rfl
 rw[e,List.reverse_cons,QT,hc];exact .inr rfl
theorem akX(l:List UInt8):br [] (lW l)=br [] l:=by
 unfold lW
 induction l with
 | nil=>rfl
 | cons c l ih=>
  rw[List.dropWhile_cons];split
  ·rename_i h
   rw[ih]
   conv=>rhs;unfold br
   rw[if_pos h,if_pos rfl]
  rfl
theorem MW:∀(l cur:List UInt8) (c:UInt8),sp c=true→br cur (l++[c])=br cur l
 | [],cur,c,h=>by
  rw[List.nil_append];unfold br;rw[if_pos h];unfold br;rw[if_pos rfl]
 | d :: l,cur,c,h=>by
  rw[List.cons_append];unfold br;rw[MW l [] c h,MW l _ c h]
theorem akY(l cur:List UInt8):br cur (jS l)=br cur l:=by
 unfold jS
 have key:∀m:List UInt8,br cur (m.dropWhile sp).reverse=br cur m.reverse:=fun m=>by
  induction m with
  | nil=>rfl
  | cons c m ih=>
   rw[List.dropWhile_cons];split
   ·rename_i h
    rw[ih,List.reverse_cons,MW _ _ _ h]
   rfl
 have:=key l.reverse;rwa[List.reverse_reverse] at this
theorem WZ(l:List UInt8):trim l=[]∨∃c t,trim l=c :: t∧sp c=false:=by
 unfold trim
 rcases Dv l with e|⟨c,t,e,hc⟩
 ·unfold lW;rw[e];exact .inl rfl
 unfold lW;rw[e];refine .inr ⟨c,?_⟩;unfold jS
 have key:∀m:List UInt8,∃t',((m++[c]).dropWhile sp).reverse=c :: t':=fun m=>by
  induction m with
  | nil=>exact⟨[],by rw[List.nil_append,List.dropWhile_cons,if_neg (by rw[hc];decide)];rfl⟩
  | cons d m ih=>
   rw[List.cons_append,List.dropWhile_cons];split
   ·exact ih
   exact⟨m.reverse++[d],by simp⟩
 obtain⟨t',ht⟩:=key t.reverse;rw[List.reverse_cons];exact⟨t',ht,hc⟩
theorem aga(l:List UInt8):one l=iC false (trim l):=by
 unfold one words;rw[←akX l,←akY (lW l) []];show join (br [] (trim l))=_
 rcases WZ l with e|⟨c,t,e,hc⟩
 ·rw[e];rfl
 have hf:ki (trim l)=true:=by
  rcases akf (lW l) with h|h
  ·unfold trim at e;rw[e] at h;cases h
  exact h
 rw[e] at hf ⊢;unfold br iC;rw[if_neg (by rw[hc];decide),if_neg (by rw[hc];decide),List.nil_append]
 have:=(Ff t [c]).1 (by simp) (by
  cases t with
  | nil=>exact .inl rfl
  | cons d t=>exact .inr hf)
 exact this
end Tx
end
end Go.Proofs.YtifiiojchlaghaaGreatDoor
