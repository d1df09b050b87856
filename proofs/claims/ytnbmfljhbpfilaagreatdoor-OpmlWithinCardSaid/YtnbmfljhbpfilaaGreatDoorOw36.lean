/- Texts, plain: the document's one line (blank by blank) is the program's (word by word); no program in sight. And more. -/
import Derived.Test.YtnbmfljhbpfilaaGreatDoorOw30
import Derived.Test.YtnbmfljhbpfilaaGreatDoorOw32
import Derived.Test.YtnbmfljhbpfilaaGreatDoorOw35
import Derived.BigQuiet
set_option linter.unusedSimpArgs false
set_option maxRecDepth 100000
set_option maxHeartbeats 16000000
set_option linter.unusedVariables false
namespace Go.Proofs.YtnbmfljhbpfilaaGreatDoor
section
namespace Tx
def ig:Bool→List UInt8→List UInt8
 | _,[]=>[]
 | prev,c :: l=>if sp c then (if prev then ig true l else 32 :: ig true l) else c :: ig false l
def join(ws:List (List UInt8)):List UInt8:=ws.foldl ij []
theorem Vv:∀(ws:List (List UInt8)) (a:List UInt8),a≠[]→ws.foldl ij a=a++ws.flatMap fun x=>32 :: x
 | [],a,_=>by simp
 | x :: ws,a,h=>by
  have e:ij a x=a++32 :: x:=by unfold ij;rw[if_neg h]
  rw[List.foldl_cons,e,Vv ws _ (by simp),List.flatMap_cons];simp
theorem join_cons{x:List UInt8}(hx:x≠[])(ws:List (List UInt8)):join (x :: ws)=x++ws.flatMap fun x=>32 :: x:=by
 unfold join;rw[List.foldl_cons];have e:ij [] x=x:=by unfold ij;rw[if_pos rfl]
 rw[e,Vv ws x hx]
theorem agC{x y:List UInt8}(hx:x≠[])(hy:y≠[])(ws:List (List UInt8)):join (x :: y :: ws)=x++32 :: join (y :: ws):=by
 rw[join_cons hx,join_cons hy,List.flatMap_cons];simp
theorem Gn:∀(l cur:List UInt8),∀x∈bq cur l,x≠[]
 | [],cur,x,hx=>by
  unfold bq at hx
  split at hx
  ·cases hx
  rename_i h
  rw[List.mem_singleton.1 hx];exact h
 | c :: l,cur,x,hx=>by
  unfold bq at hx
  split at hx
  ·split at hx
   ·exact Gn l [] x hx
   rename_i h
   rcases List.mem_cons.1 hx with rfl|hx
   ·exact h
   exact Gn l [] x hx
  exact Gn l _ x hx
def j3:List UInt8→Bool
 | []=>false
 | [c]=>!sp c
 | _ :: l=>j3 l
theorem JH{c:UInt8}{l:List UInt8}(h:l≠[]):j3 (c :: l)=j3 l:=by
 cases l with
 | nil=>exact absurd rfl h
 | cons d l=>rfl
theorem Om:∀(l cur:List UInt8),(j3 l=true∨cur≠[])→bq cur l≠[]
 | [],cur,h=>by
  unfold bq
  rcases h with h|h
  ·cases h
  rw[if_neg h];simp
 | c :: l,cur,h=>by
  unfold bq;split
  ·rename_i hc
   split
   ·rename_i h0
    have h1:j3 (c :: l)=true:=by
     rcases h with h|h
     ·exact h
     exact absurd h0 h
    cases l with
    | nil=>unfold j3 at h1;rw[hc] at h1;cases h1
    | cons d l=>exact Om (d :: l) [] (.inl h1)
   simp
  exact Om l _ (.inr (by simp))
theorem FG:∀(l cur:List UInt8),(cur≠[]→l=[]∨j3 l=true→join (bq cur l)=cur++ig false l)∧(cur=[]→j3 l=true→join (bq [] l)=ig true l)
 | [],cur=>⟨fun h _=>by
   unfold bq ig;rw[if_neg h,join_cons h]
   simp,fun _ h=>by cases h⟩
 | c :: l,cur=>by
  obtain⟨i1,_⟩:=FG l (cur++[c]);obtain⟨_,i2⟩:=FG l [];obtain⟨i3,_⟩:=FG l [c];refine⟨fun h he=>?_,fun _ he=>?_⟩
  ·have hf:j3 (c :: l)=true:=by
    rcases he with he|he
    ·cases he
    exact he
   unfold bq ig
   by_cases hc:sp c=true
   ·rw[if_pos hc,if_pos hc,if_neg h,if_neg (by decide)]
    have hl:l≠[]:=by
     rintro rfl;unfold j3 at hf;rw[hc] at hf;cases hf
    have sR:j3 l=true:=by rwa[JH hl] at hf
    have hs:=Om l [] (.inl sR);have hi:=i2 rfl sR
    cases hw:bq [] l with
    | nil=>exact absurd hw hs
    | cons y ws=>
     rw[hw] at hi;rw[agC h (Gn l [] y (by rw[hw];simp)),hi]
   rw[if_neg hc,if_neg hc]
   have:=i1 (by simp) (by
    cases l with
    | nil=>exact .inl rfl
    | cons d l=>exact .inr hf)
   rw[this,List.append_assoc];rfl
  unfold bq ig
  by_cases hc:sp c=true
  ·have hl:l≠[]:=by
    rintro rfl;unfold j3 at he;rw[hc] at he;cases he
   rw[if_pos hc,if_pos hc,if_pos rfl,if_pos rfl];exact i2 rfl (by rwa[JH hl] at he)
  rw[if_neg hc,if_neg hc,List.nil_append]
  exact i3 (by simp) (by
   cases l with
   | nil=>exact .inl rfl
   | cons d l=>exact .inr he)
theorem Sd:∀(l:List UInt8) (c:UInt8),j3 (l++[c]) = !sp c
 | [],c=>rfl
 | d :: l,c=>by rw[List.cons_append,JH (by simp),Sd l c]
theorem zX:∀l:List UInt8,l.dropWhile sp=[]∨∃c t,l.dropWhile sp=c :: t∧sp c=false
 | []=>.inl rfl
 | c :: l=>by
  rw[List.dropWhile_cons];split
  ·exact zX l
  rename_i h
  exact .inr ⟨c,l,rfl,by simpa using h⟩
theorem amf(l:List UInt8):jN l=[]∨j3 (jN l)=true:=by
 unfold jN
 rcases zX l.reverse with e|⟨c,t,e,hc⟩
 ·rw[e];exact .inl rfl
 rw[e,List.reverse_cons,Sd,hc];exact .inr rfl
theorem am3(l:List UInt8):bq [] (lS l)=bq [] l:=by
 unfold lS
 induction l with
 | nil=>rfl
 | cons c l ih=>
  rw[List.dropWhile_cons];split
  ·rename_i h
   rw[ih]
   conv=>rhs;unfold bq
   rw[if_pos h,if_pos rfl]
  rfl
theorem Oi:∀(l cur:List UInt8) (c:UInt8),sp c=true→bq cur (l++[c])=bq cur l
 | [],cur,c,h=>by
  rw[List.nil_append];unfold bq;rw[if_pos h];unfold bq;rw[if_pos rfl]
 | d :: l,cur,c,h=>by
  rw[List.cons_append];unfold bq;rw[Oi l [] c h,Oi l _ c h]
theorem am4(l cur:List UInt8):bq cur (jN l)=bq cur l:=by
 unfold jN
 have key:∀m:List UInt8,bq cur (m.dropWhile sp).reverse=bq cur m.reverse:=fun m=>by
  induction m with
  | nil=>rfl
  | cons c m ih=>
   rw[List.dropWhile_cons];split
   ·rename_i h
    rw[ih,List.reverse_cons,Oi _ _ _ h]
   rfl
 have:=key l.reverse;rwa[List.reverse_reverse] at this
theorem Yo(l:List UInt8):trim l=[]∨∃c t,trim l=c :: t∧sp c=false:=by
 unfold trim
 rcases zX l with e|⟨c,t,e,hc⟩
 ·unfold lS;rw[e];exact .inl rfl
 unfold lS;rw[e];refine .inr ⟨c,?_⟩;unfold jN
 have key:∀m:List UInt8,∃t',((m++[c]).dropWhile sp).reverse=c :: t':=fun m=>by
  induction m with
  | nil=>exact⟨[],by rw[List.nil_append,List.dropWhile_cons,if_neg (by rw[hc];decide)];rfl⟩
  | cons d m ih=>
   rw[List.cons_append,List.dropWhile_cons];split
   ·exact ih
   exact⟨m.reverse++[d],by simp⟩
 obtain⟨t',ht⟩:=key t.reverse;rw[List.reverse_cons];exact⟨t',ht,hc⟩
theorem ahU(l:List UInt8):one l=ig false (trim l):=by
 unfold one words;rw[←am3 l,←am4 (lS l) []];show join (bq [] (trim l))=_
 rcases Yo l with e|⟨c,t,e,hc⟩
 ·rw[e];rfl
 have hf:j3 (trim l)=true:=by
  rcases amf (lS l) with h|h
  ·unfold trim at e;rw[e] at h;cases h
  exact h
 rw[e] at hf ⊢;unfold bq ig;rw[if_neg (by rw[hc];decide),if_neg (by rw[hc];decide),List.nil_append]
 have:=(FG t [c]).1 (by simp) (by
  cases t with
  | nil=>exact .inl rfl
  | cons d t=>exact .inr hf)
 exact this
end Tx
end
section
open Go.RowKit Go.WideShapes

theorem ahR{l:List UInt8}{i:Nat}{c:UInt8}(h:l[i]?=some c)(prev:Bool):Tx.ig prev (l.drop i)=if Tx.sp c then (if prev then Tx.ig true (l.drop (i+1)) else 32 :: Tx.ig true (l.drop (i+1))) else c :: Tx.ig false (l.drop (i+1)):=by
 rw[LY h];rfl
theorem ajA(s:ByteArray)(w:World)(hs:s.size≤1000000) :
  Calls Tryz.prog 46 #[.string s] w fun e w'=>e=.returned (.string (aa (Tx.one s.data.toList)))∧Below w.heap.size w w':=by
 have lV:=hide (ajM s w (by omega));obtain⟨l,hl⟩:∃l,Tx.trim s.data.toList=l:=⟨_,rfl⟩;have Z6:=hide (show Tx.one s.data.toList=Tx.ig false l by rw[Tx.ahU,hl]);have kj:l.length≤1000000:=by rw[←hl];have:=Tx.ami s.data.toList;rw[bL] at this;omega
 have ZK:=hide (show ∀c,l[0]?=some c→Tx.sp c=false from fun c hc=>by
  rcases Tx.Yo s.data.toList with e|⟨d,t,e,hd⟩
  ·rw[hl] at e;rw[e] at hc;cases hc
  rw[hl] at e;rw[e] at hc;cases hc;exact hd)
 rw[hl] at lV;clear hl;obtain⟨N,hN⟩:∃N,l.length=N:=⟨_,rfl⟩;have HN:=hide hN;have pZ:=hide (show (aa l).size=N by rw[aC,hN]);rw[hN] at kj;have oR:=hide (fun i c (h:l[i]?=some c) W=>rb (aa l) i c (by rw[aP];exact h) W);have ju:=hide (fun c W=>Xn c W);obtain⟨S,hS⟩:∃S,aa l=S:=⟨_,rfl⟩;rw[hS] at lV pZ oR;clear hS hN hs
 go_enter Tryz.func46,Tryz.ntmps46
 go_wp2_with fail
 go_wp2_with fail
 refine cq (lV.out) ?_
 have hsz:=pZ.out;go_wp2
 go_loopg [3,4] N (fun gk v3 v4 wr=>∃(i m:Nat) (A:Option Addr) (c:Nat) (pre:List UInt8) (prev:Bool),gk=N-i∧i≤N∧v4=.int .i64 (i:Int)∧v3=.slice A m c∧pre.length=m∧m≤i∧wr.ownsRow w.heap.size 5 1 (.slice A m c) m (cm pre)∧pre++Tx.ig prev (l.drop i)=Tx.ig false l∧(∀j d,j+1=i→l[j]?=some d→Tx.sp d=prev)∧Below w.heap.size w wr)
 case atStart=>exact⟨0,0,none,0,[],false,rfl,by omega,rfl,rfl,rfl,by omega,World.ownsRow_nil _ _ _ _,rfl,fun j d h=>(by omega),Below.refl _ _⟩
 case round=>
  obtain⟨i,m,A,c,pre,prev,au,hi,rfl,rfl,UI,hm,ho,heq,xZ,hb⟩:=hrel;have Hg:=hide au;have HO:=hide ho;have G6:=hide UI;have HEq:=hide heq;have HPv:=hide xZ;have HB:=hide hb;clear au ho UI heq xZ hb
  by_cases hlt:i<N
  ·obtain⟨x,hx⟩:∃x,l[i]?=some x:=⟨_,List.getElem?_eq_getElem (by rw[HN.out];exact hlt)⟩;have fY:=oR.out i x hx;have bB:=ahR hx prev;have HX:=hide hx;have HC:=hide (ju.out x);have aK:w.heap.size≤wr.heap.size:=HB.out.size;clear hx
   cases pF:Tx.sp x with
   | false=>
    simp only[pF,Bool.false_eq_true,if_false] at bB;rw[pF] at HC;have bC:=hide bB;have Df:=hide pF;clear bB pF
    go_wp2_with fail
    go_wp2_with fail
    refine cq (HC.out _) ?_
    go_wp2_with (at_builtin;go_loud (refine fG wr rfl (.tmp 18) (.tmp 22) 58 rfl w.heap.size (.int .u8 0) 1 1 Tryz.underlying58 vM rfl (by omega) (.slice A m c) m (cm pre) rfl HO.out (cs:=[.int .u8 (x.toNat:Int)]) rfl (by simp[Value.oneCell']) rfl (by unfold maxLen;omega) (by omega) aK ?_);intro g' cap' w1 hown1 cL j9 fL aq;have eN:=hide hown1;have ay:=hide (HB.out.grown cL aK (fun k e=>(aG HO.out k e).1));clear hown1 cL j9 fL aq)
    go_roundg (N-(i+1))
    case measure=>have:=Hg.out;omega
    case rel=>
     refine⟨i+1,m+1,some ⟨g',0,none⟩,cap',pre++[x],false,rfl,by omega,by first|rfl|go_num,rfl,by rw[List.length_append,G6.out];rfl,by omega,?_,?_,fun j d hj hd=>?_,ay.out⟩
     ·rw[Jq];exact eN.out
     ·rw[List.append_assoc];have:=HEq.out;rw[bC.out] at this;exact this
     obtain rfl:j=i:=by omega
     rw[HX.out] at hd;cases hd;exact Df.out
   | true=>
    have qI:i≠0:=by
     rintro rfl;rw[ZK.out x HX.out] at pF;cases pF
    obtain⟨j,hj⟩:∃j,j+1=i:=⟨i-1,by omega⟩;have hjz:0≤(j:Int)∧(j:Int)<N:=by omega
    obtain⟨d,hd⟩:∃d,l[j]?=some d:=⟨_,List.getElem?_eq_getElem (by rw[HN.out];omega)⟩;have jH:=HPv.out j d hj hd;have aoh:=oR.out j d hd;have HD:=hide (ju.out d);rw[jH] at HD;simp only[pF,if_true] at bB;rw[pF] at HC;have z1:IntKind.i64.wrap ((i:Int)-1)=(j:Int):=by rw[IntWalk.i64_in _ (by omega)];omega
    have Df:=hide pF;clear hd jH qI pF hj
    cases prev with
    | true=>
     simp only[if_true] at bB;have bC:=hide bB;clear bB
     go_wp2_with fail
     go_wp2_with fail
     refine cq (HC.out _) ?_
     go_wp2_with fail
     go_wp2_with fail
     refine cq (HD.out _) ?_
     go_wp2
     go_roundg (N-(i+1))
     case measure=>have:=Hg.out;omega
     case rel=>
      refine⟨i+1,m,A,c,pre,true,rfl,by omega,by first|rfl|go_num,rfl,G6.out,by omega,HO.out,?_,fun k d2 hk bg=>?_,HB.out⟩
      ·have:=HEq.out;rw[bC.out] at this;exact this
      obtain rfl:k=i:=by omega
      rw[HX.out] at bg;cases bg;exact Df.out
    | false=>
     simp only[Bool.false_eq_true,if_false] at bB;have bC:=hide bB;clear bB
     go_wp2_with fail
     go_wp2_with fail
     refine cq (HC.out _) ?_
     go_wp2_with fail
     go_wp2_with fail
     refine cq (HD.out _) ?_
     go_wp2_with (at_builtin;go_loud (refine fG wr rfl (.tmp 30) (.tmp 31) 58 rfl w.heap.size (.int .u8 0) 1 1 Tryz.underlying58 vM rfl (by omega) (.slice A m c) m (cm pre) rfl HO.out (cs:=[.int .u8 32]) rfl (by simp[Value.oneCell']) rfl (by unfold maxLen;omega) (by omega) aK ?_);intro g' cap' w1 hown1 cL j9 fL aq;have eN:=hide hown1;have ay:=hide (HB.out.grown cL aK (fun k e=>(aG HO.out k e).1));clear hown1 cL j9 fL aq)
     go_roundg (N-(i+1))
     case measure=>have:=Hg.out;omega
     case rel=>
      refine⟨i+1,m+1,some ⟨g',0,none⟩,cap',pre++[32],true,rfl,by omega,by first|rfl|go_num,rfl,by rw[List.length_append,G6.out];rfl,by omega,?_,?_,fun k d2 hk bg=>?_,ay.out⟩
      ·rw[Jq];exact eN.out
      ·rw[List.append_assoc];have:=HEq.out;rw[bC.out] at this;exact this
      obtain rfl:k=i:=by omega
      rw[HX.out] at bg;cases bg;exact Df.out
  have KP:=HEq.out;rw[List.drop_eq_nil_of_le (by rw[HN.out];omega)] at KP;have he:Tx.ig false l=pre:=by rw[←KP];unfold Tx.ig;simp
  have aJ:=HO;have HE:=hide he;clear KP he
  go_wp2_with (refine oK rfl 58 9 5 _ rfl Tryz.underlying58 Tryz.underlying5 Tryz.underlying9 w.heap.size _ m (by rfl) pre aJ.out ?_;intro t ht;have Ht:=hide (NB ht);clear ht)
  go_ret;exact⟨by rw[Z6.out,HE.out,←Ht.out];rfl,HB.out⟩
end
section
open Go.RowKit Go.WideShapes

theorem Xi(r:Int)(w:World):Calls Tryz.prog 146 #[.int .i64 r] w fun e w'=>e=.returned (.int .i64 (Nf.cls r))∧w'=w:=by
 obtain⟨q,hq⟩:∃q,Nf.cls r=q:=⟨_,rfl⟩;rw[hq]
 by_cases hc:r=832
 ·subst hc;have hv:q=230:=by rw[←hq];decide
  subst hv;clear hq
  go_enter Tryz.func146,Tryz.ntmps146
  go_wp2;go_ret;exact⟨rfl,rfl⟩
 have aps:(r==832)=false:=by simp;omega
 have yq:=hc;clear hc
 by_cases hc:r=833
 ·subst hc;have hv:q=230:=by rw[←hq];decide
  subst hv;clear hq
  go_enter Tryz.func146,Tryz.ntmps146
  go_wp2;go_ret;exact⟨rfl,rfl⟩
 have apt:(r==833)=false:=by simp;omega
 have yr:=hc;clear hc
 by_cases hc:r=789
 ·subst hc;have hv:q=232:=by rw[←hq];decide
  subst hv;clear hq
  go_enter Tryz.func146,Tryz.ntmps146
  go_wp2;go_ret;exact⟨rfl,rfl⟩
 have apm:(r==789)=false:=by simp;omega
 have yl:=hc;clear hc
 by_cases hc:r=795
 ·subst hc;have hv:q=216:=by rw[←hq];decide
  subst hv;clear hq
  go_enter Tryz.func146,Tryz.ntmps146
  go_wp2;go_ret;exact⟨rfl,rfl⟩
 have apn:(r==795)=false:=by simp;omega
 have ym:=hc;clear hc
 by_cases hc:r=807
 ·subst hc;have hv:q=202:=by rw[←hq];decide
  subst hv;clear hq
  go_enter Tryz.func146,Tryz.ntmps146
  go_wp2;go_ret;exact⟨rfl,rfl⟩
 have apo:(r==807)=false:=by simp;omega
 have yn:=hc;clear hc
 by_cases hc:r=808
 ·subst hc;have hv:q=202:=by rw[←hq];decide
  subst hv;clear hq
  go_enter Tryz.func146,Tryz.ntmps146
  go_wp2;go_ret;exact⟨rfl,rfl⟩
 have apq:(r==808)=false:=by simp;omega
 have yo:=hc;clear hc
 by_cases hc:r=824
 ·subst hc;have hv:q=1:=by rw[←hq];decide
  subst hv;clear hq
  go_enter Tryz.func146,Tryz.ntmps146
  go_wp2;go_ret;exact⟨rfl,rfl⟩
 have apr:(r==824)=false:=by simp;omega
 have yp:=hc;clear hc
 by_cases hc:r=837
 ·subst hc;have hv:q=240:=by rw[←hq];decide
  subst hv;clear hq
  go_enter Tryz.func146,Tryz.ntmps146
  go_wp2;go_ret;exact⟨rfl,rfl⟩
 have apu:(r==837)=false:=by simp;omega
 have yt:=hc;clear hc
 by_cases g1:r<768
 ·have hv:q=0:=by rw[←hq];unfold Nf.cls;(repeat' split)<;>omega
  subst hv;have f0:decide (768≤r)=false:=decide_eq_false (by omega);have f1:decide (790≤r)=false:=decide_eq_false (by omega);have f2:decide (803≤r)=false:=decide_eq_false (by omega);clear hq g1 yq yr yl ym yn yo yp yt
  go_enter Tryz.func146,Tryz.ntmps146
  go_wp2;go_ret;exact⟨rfl,rfl⟩
 by_cases g2:r≤788
 ·have hv:q=230:=by rw[←hq];unfold Nf.cls;(repeat' split)<;>omega
  subst hv;have f0:decide (768≤r)=true:=decide_eq_true (by omega);have f1:decide (r≤788)=true:=decide_eq_true (by omega);clear hq g1 g2 yq yr yl ym yn yo yp yt
  go_enter Tryz.func146,Tryz.ntmps146
  go_wp2;go_ret;exact⟨rfl,rfl⟩
 by_cases g3:r≤793
 ·have hv:q=220:=by rw[←hq];unfold Nf.cls;(repeat' split)<;>omega
  subst hv;have f0:decide (768≤r)=true:=decide_eq_true (by omega);have f1:decide (r≤788)=false:=decide_eq_false (by omega);have f2:decide (790≤r)=true:=decide_eq_true (by omega);have f3:decide (r≤793)=true:=decide_eq_true (by omega);clear hq g1 g2 g3 yq yr yl ym yn yo yp yt
  go_enter Tryz.func146,Tryz.ntmps146
  go_wp2;go_ret;exact⟨rfl,rfl⟩
 by_cases g4:r<803
 ·have hv:q=0:=by rw[←hq];unfold Nf.cls;(repeat' split)<;>omega
  subst hv;have f0:decide (768≤r)=true:=decide_eq_true (by omega);have f1:decide (r≤788)=false:=decide_eq_false (by omega);have f2:decide (790≤r)=true:=decide_eq_true (by omega);have f3:decide (r≤793)=false:=decide_eq_false (by omega);have f4:decide (803≤r)=false:=decide_eq_false (by omega);clear hq g1 g2 g3 g4 yq yr yl ym yn yo yp yt
  go_enter Tryz.func146,Tryz.ntmps146
  go_wp2;go_ret;exact⟨rfl,rfl⟩
 by_cases g5:r≤806
 ·have hv:q=220:=by rw[←hq];unfold Nf.cls;(repeat' split)<;>omega
  subst hv;have f0:decide (768≤r)=true:=decide_eq_true (by omega);have f1:decide (r≤788)=false:=decide_eq_false (by omega);have f2:decide (790≤r)=true:=decide_eq_true (by omega);have f3:decide (r≤793)=false:=decide_eq_false (by omega);have f4:decide (803≤r)=true:=decide_eq_true (by omega);have f5:decide (r≤806)=true:=decide_eq_true (by omega);clear hq g1 g2 g3 g4 g5 yq yr yl ym yn yo yp yt
  go_enter Tryz.func146,Tryz.ntmps146
  go_wp2;go_ret;exact⟨rfl,rfl⟩
 have hv:q=0:=by rw[←hq];unfold Nf.cls;(repeat' split)<;>omega
 subst hv;have f0:decide (768≤r)=true:=decide_eq_true (by omega);have f1:decide (r≤788)=false:=decide_eq_false (by omega);have f2:decide (790≤r)=true:=decide_eq_true (by omega);have f3:decide (r≤793)=false:=decide_eq_false (by omega);have f4:decide (803≤r)=true:=decide_eq_true (by omega);have f5:decide (r≤806)=false:=decide_eq_false (by omega);clear hq g1 g2 g3 g4 g5 yq yr yl ym yn yo yp yt
 go_enter Tryz.func146,Tryz.ntmps146
 go_wp2;go_ret;exact⟨rfl,rfl⟩
theorem Xk(r:Int)(w:World):Calls Tryz.prog 179 #[.int .i64 r] w fun e w'=>e=.returned (.bool (Nf.fX r))∧w'=w:=by
 obtain⟨q,hq⟩:∃q,Nf.fX r=q:=⟨_,rfl⟩;rw[hq];unfold Nf.fX at hq
 by_cases h1:44032≤r
 ·by_cases h2:r<55204
  ·have hv:q=true:=by rw[←hq];exact decide_eq_true (by omega)
   subst hv;clear hq
   go_enter Tryz.func179,Tryz.ntmps179
   go_wp2;go_ret;exact⟨rfl,rfl⟩
  have hv:q=false:=by rw[←hq];exact decide_eq_false (by omega)
  subst hv;clear hq
  go_enter Tryz.func179,Tryz.ntmps179
  go_wp2;go_ret;exact⟨rfl,rfl⟩
 have hv:q=false:=by rw[←hq];exact decide_eq_false (by omega)
 subst hv;clear hq
 go_enter Tryz.func179,Tryz.ntmps179
 go_wp2;go_ret;exact⟨rfl,rfl⟩
end
section
open Go.RowKit Go.WideShapes

theorem mM(a b:ByteArray):(a++b).data.toList=a.data.toList++b.data.toList:=by simp
theorem Xj(q:Bool)(l:List UInt8)(w:World)(hs:l.length≤1000000000) :
  Calls Tryz.prog 13 #[.string (aa l),.bool q] w fun e w'=>e=.returned (.string (aa (Tx.escape q l)))∧w'=w:=by
 obtain⟨N,hN⟩:∃N,l.length=N:=⟨_,rfl⟩;have HN:=hide hN;have pZ:=hide (show (aa l).size=N by rw[aC,hN]);rw[hN] at hs;have oR:=hide (fun i c (h:l[i]?=some c) W=>rb (aa l) i c (by rw[aP];exact h) W);have ub:=hide (fun i c (h:l[i]?=some c)=>show (aa l).extract i (i+1)=aa [c] by rw[xk,Nat.add_sub_cancel_left,LY h];rfl)
 have ZQ:=hide (fun j (T:ByteArray) (hj:j≤N) (h:T.data.toList=Tx.escape q (l.take j))=>show T.size≤6000000000 by
  rw[←bL,h];have:=Tx.pg q (l.take j);rw[List.length_take] at this
  omega)
 obtain⟨S,hS⟩:∃S,aa l=S:=⟨_,rfl⟩;rw[hS] at pZ oR ub ⊢;clear hS hN;have hsz:=pZ.out
 go_enter Tryz.func13,Tryz.ntmps13
 go_wp2
 go_loopg [5,6,20,27,34,41,48,58,68] N (fun gk v5 v6 v20 v27 v34 v41 v48 v58 v68 wr=>∃(j:Nat) (T:ByteArray),gk=N-j∧j≤N∧v6=.int .i64 (j:Int)∧v5=.string T∧T.data.toList=Tx.escape q (l.take j)∧wr=w)
 case atStart=>exact⟨0,_,rfl,by omega,rfl,rfl,rfl,rfl⟩
 case round=>
  obtain⟨j,T,au,hj,rfl,rfl,hT,hwr⟩:=hrel;subst hwr;have Hg:=hide au;have HT:=hide hT;have jn:=ZQ.out j T hj hT;clear au hT
  by_cases hlt:j<N
  ·obtain⟨x,hx⟩:∃x,l[j]?=some x:=⟨_,List.getElem?_eq_getElem (by rw[HN.out];exact hlt)⟩;have fY:=oR.out j x hx;have hex:=ub.out j x hx;have bC:=hide (Tx.Sn (q:=q) hx);have vx:0≤(j:Int)∧(j:Int)+1≤(N:Int):=by omega
   have z1:IntKind.i64.wrap ((j:Int)+1)=((j+1:Nat):Int):=by rw[IntWalk.i64_in _ (by omega)];omega
   have kk:∀n:Nat,n≤10→¬9223372036854775807<T.size+n:=fun n hn=>by omega
   have k1:=kk 1 (by omega);have k4:=kk 4 (by omega);have k5:=kk 5 (by omega);have k6:=kk 6 (by omega);have hs1:(aa [x]).size=1:=aC _;clear hx kk jn
   by_cases Fa:x=38
   ·subst Fa;have xO:∀W,(Instr.index 9 (.string S) (.int .i64 (j:Int))).run Tryz.prog W=.ok (.int .u8 38) W:=fY;clear fY hex hs1;go_wp2
    go_roundg (N-(j+1))
    case measure=>have:=Hg.out;omega
    case rel=>exact⟨j+1,_,rfl,by omega,by first|rfl|go_num,rfl,by rw[mM,bC.out,←HT.out];rfl,rfl⟩
   by_cases Fb:x=60
   ·subst Fb;have xO:∀W,(Instr.index 9 (.string S) (.int .i64 (j:Int))).run Tryz.prog W=.ok (.int .u8 60) W:=fY;clear fY hex hs1;go_wp2
    go_roundg (N-(j+1))
    case measure=>have:=Hg.out;omega
    case rel=>exact⟨j+1,_,rfl,by omega,by first|rfl|go_num,rfl,by rw[mM,bC.out,←HT.out];rfl,rfl⟩
   by_cases Fe:x=62
   ·subst Fe;have xO:∀W,(Instr.index 9 (.string S) (.int .i64 (j:Int))).run Tryz.prog W=.ok (.int .u8 62) W:=fY;clear fY hex hs1;go_wp2
    go_roundg (N-(j+1))
    case measure=>have:=Hg.out;omega
    case rel=>exact⟨j+1,_,rfl,by omega,by first|rfl|go_num,rfl,by rw[mM,bC.out,←HT.out];rfl,rfl⟩
   by_cases E8:x=13
   ·subst E8;have xO:∀W,(Instr.index 9 (.string S) (.int .i64 (j:Int))).run Tryz.prog W=.ok (.int .u8 13) W:=fY;clear fY hex hs1;go_wp2
    go_roundg (N-(j+1))
    case measure=>have:=Hg.out;omega
    case rel=>exact⟨j+1,_,rfl,by omega,by first|rfl|go_num,rfl,by rw[mM,bC.out,←HT.out];rfl,rfl⟩
   by_cases E9:x=34
   ·subst E9;have xO:∀W,(Instr.index 9 (.string S) (.int .i64 (j:Int))).run Tryz.prog W=.ok (.int .u8 34) W:=fY;clear fY
    cases q with
    | true=>
     clear hex hs1;go_wp2
     go_roundg (N-(j+1))
     case measure=>have:=Hg.out;omega
     case rel=>exact⟨j+1,_,rfl,by omega,by first|rfl|go_num,rfl,by rw[mM,bC.out,←HT.out];rfl,rfl⟩
    | false=>
     skip
     go_wp2
     go_roundg (N-(j+1))
     case measure=>have:=Hg.out;omega
     case rel=>exact⟨j+1,_,rfl,by omega,by first|rfl|go_num,rfl,by rw[mM,bC.out,←HT.out];rfl,rfl⟩
   by_cases Ff:x=9
   ·subst Ff;have xO:∀W,(Instr.index 9 (.string S) (.int .i64 (j:Int))).run Tryz.prog W=.ok (.int .u8 9) W:=fY;clear fY
    cases q with
    | true=>
     clear hex hs1;go_wp2
     go_roundg (N-(j+1))
     case measure=>have:=Hg.out;omega
     case rel=>exact⟨j+1,_,rfl,by omega,by first|rfl|go_num,rfl,by rw[mM,bC.out,←HT.out];rfl,rfl⟩
    | false=>
     skip
     go_wp2
     go_roundg (N-(j+1))
     case measure=>have:=Hg.out;omega
     case rel=>exact⟨j+1,_,rfl,by omega,by first|rfl|go_num,rfl,by rw[mM,bC.out,←HT.out];rfl,rfl⟩
   by_cases E7:x=10
   ·subst E7;have xO:∀W,(Instr.index 9 (.string S) (.int .i64 (j:Int))).run Tryz.prog W=.ok (.int .u8 10) W:=fY;clear fY
    cases q with
    | true=>
     clear hex hs1;go_wp2
     go_roundg (N-(j+1))
     case measure=>have:=Hg.out;omega
     case rel=>exact⟨j+1,_,rfl,by omega,by first|rfl|go_num,rfl,by rw[mM,bC.out,←HT.out];rfl,rfl⟩
    | false=>
     skip
     go_wp2
     go_roundg (N-(j+1))
     case measure=>have:=Hg.out;omega
     case rel=>exact⟨j+1,_,rfl,by omega,by first|rfl|go_num,rfl,by rw[mM,bC.out,←HT.out];rfl,rfl⟩
   have he:Tx.bU q x=[x]:=by
    unfold Tx.bU;rw[if_neg Fa,if_neg Fb,if_neg Fe,if_neg E8,if_neg (fun h=>E9 h.2),if_neg (fun h=>Ff h.2),if_neg (fun h=>E7 h.2)]
   rw[he] at bC
   have hne:∀c:UInt8,x≠c→((x.toNat:Int)==(c.toNat:Int))=false:=fun c h=>by
    have:x.toNat≠c.toNat:=fun e=>h (UInt8.toNat_inj.1 e)
    simp;omega
   have n38:((x.toNat:Int)==38)=false:=hne 38 Fa;have n60:((x.toNat:Int)==60)=false:=hne 60 Fb;have V0:((x.toNat:Int)==62)=false:=hne 62 Fe;have n13:((x.toNat:Int)==13)=false:=hne 13 E8;have n34:((x.toNat:Int)==34)=false:=hne 34 E9;have n9:((x.toNat:Int)==9)=false:=hne 9 Ff;have n10:((x.toNat:Int)==10)=false:=hne 10 E7;clear hne he Fa Fb Fe E8 E9 Ff E7
   cases q with
   | true=>
    skip
    go_wp2
    go_roundg (N-(j+1))
    case measure=>have:=Hg.out;omega
    case rel=>exact⟨j+1,_,rfl,by omega,by first|rfl|go_num,rfl,by rw[mM,bC.out,←HT.out];rfl,rfl⟩
   | false=>
    skip
    go_wp2
    go_roundg (N-(j+1))
    case measure=>have:=Hg.out;omega
    case rel=>exact⟨j+1,_,rfl,by omega,by first|rfl|go_num,rfl,by rw[mM,bC.out,←HT.out];rfl,rfl⟩
  have oc:l.take j=l:=List.take_of_length_le (by rw[HN.out];omega);have he:=HT.out;rw[oc] at he;have hT:T=aa (Tx.escape q l):=by rw[←he,xl]
  have HTe:=hide hT;clear oc he hT jn;go_wp2;go_ret;exact⟨by rw[←HTe.out];rfl,rfl⟩
end
section
open Go.RowKit Tk Sx Go.WideShapes

theorem Mq(k:Int){n:Nat}(hn:0<n):∃m:Int,Int.tmod k (n:Int)=m∧-(n:Int)<m∧m<n∧∃j:Nat,Int.tmod (m+n) (n:Int)=j∧j<n:=by
 refine⟨_,rfl,by have:=Int.lt_tmod_of_pos k (show (0:Int)<n by omega);omega,Int.tmod_lt_of_pos k (by omega),?_⟩;have h1:=Int.lt_tmod_of_pos k (show (0:Int)<n by omega);have h2:=Int.tmod_nonneg (n:Int) (show 0≤Int.tmod k n+n by omega);have h3:=Int.tmod_lt_of_pos (Int.tmod k n+n) (show (0:Int)<n by omega);exact⟨(Int.tmod (Int.tmod k n+n) (n:Int)).toNat,by omega,by omega⟩
theorem abi(x:ax)(w:World)(h1:x.pre.length≤300)(h2:x.ns.length≤300) :
  Calls Tryz.prog 7 #[.agg #[.string (aa x.pre),.string (aa x.ns)]] w fun e w'=>e=.returned (.string (aa (Opm.one x)))∧Below w.heap.size w w':=by
 have HN:=hide (fun W=>Xj true x.ns W (by omega));have HU:=hide (fun W=>Xj true x.pre W (by omega));have l1:=Tx.pg true x.ns;have l2:=Tx.pg true x.pre
 have hO:(⟨#[60,111,117,116,108,105,110,101,32,116,101,120,116,61,34]⟩:ByteArray)++aa (Tx.escape true x.ns)++⟨#[34,32,120,109,108,85,114,108,61,34]⟩++aa (Tx.escape true x.pre)++⟨#[34,47,62]⟩=aa (Opm.one x):=by
  unfold Opm.one;rw[←jA,←jA,←jA,←jA];rfl
 have s1:(aa (Tx.escape true x.ns)).size≤2000:=by rw[aC];omega
 have s2:(aa (Tx.escape true x.pre)).size≤2000:=by rw[aC];omega
 generalize aa (Tx.escape true x.ns)=E1 at *
 generalize aa (Tx.escape true x.pre)=E2 at *
 obtain⟨T1,e1⟩:∃T,(⟨#[60,111,117,116,108,105,110,101,32,116,101,120,116,61,34]⟩:ByteArray)++E1=T:=⟨_,rfl⟩;obtain⟨T2,e2⟩:∃T,T1++(⟨#[34,32,120,109,108,85,114,108,61,34]⟩:ByteArray)=T:=⟨_,rfl⟩;obtain⟨T3,e3⟩:∃T,T2++E2=T:=⟨_,rfl⟩;have t1:T1.size=15+E1.size:=by rw[←e1,ByteArray.size_append];rfl
 have t2:T2.size=T1.size+10:=by rw[←e2,ByteArray.size_append];rfl
 have t3:T3.size=T2.size+E2.size:=by rw[←e3,ByteArray.size_append]
 have z1:¬9223372036854775807<(⟨#[60,111,117,116,108,105,110,101,32,116,101,120,116,61,34]⟩:ByteArray).size+E1.size:=by show ¬_<15+_;omega
 have z2:¬9223372036854775807<T1.size+(⟨#[34,32,120,109,108,85,114,108,61,34]⟩:ByteArray).size:=by show ¬_<_+10;omega
 have z3:¬9223372036854775807<T2.size+E2.size:=by omega
 have z4:¬9223372036854775807<T3.size+(⟨#[34,47,62]⟩:ByteArray).size:=by show ¬_<_+3;omega
 rw[e1,e2,e3] at hO;generalize aa x.ns=N0 at *
 generalize aa x.pre=U0 at *
 have V:=hide (ae.new w 27 #[.string U0,.string N0]);have B:=hide ((Below.refl _ w).alloc (Nat.le_refl _) (.cells #[.string U0,.string N0] 27));clear t1 t2 t3 s1 s2 l1 l2
 go_enter Tryz.func7,Tryz.ntmps7
 go_wp2;generalize w.alloc (.cells #[.string U0,.string N0] 27)=W at *
 have y0:W.cell? ⟨w.heap.size,0,none⟩=some (.string U0):=V.out.cell 0;have y1:W.cell? ⟨w.heap.size,1,none⟩=some (.string N0):=V.out.cell 1;clear V;refine wp_region_quiet_lit (by kernel_rfl) (by kernel_rfl) ?_
 repeat (go_big_quiet_step (fail))
 go_big_quiet_step ((go_at_call 13;exact Calls.quiet_of_same (HN.out _)))
 repeat (go_big_quiet_step (fail))
 go_big_quiet_step ((go_at_call 13;exact Calls.quiet_of_same (HU.out _)))
 repeat (go_big_quiet_step (fail))
 refine wpQuiet_nil ?_;rintro _ ⟨nq,rfl⟩;go_wp2;go_ret;exact⟨rfl,below_drewN B.out _⟩
end
end Go.Proofs.YtnbmfljhbpfilaaGreatDoor
