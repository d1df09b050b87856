/- Texts: the document's One. And more. -/
import Derived.Test.YtifiiojchlaghaaGreatDoorOm24
import Derived.Test.YtifiiojchlaghaaGreatDoorOm33
set_option linter.unusedSimpArgs false
set_option maxRecDepth 100000
set_option maxHeartbeats 8000000
set_option linter.unusedVariables false
namespace Go.Proofs.YtifiiojchlaghaaGreatDoor
section
open Go.RowKit Go.WideShapes

theorem af7{l:List UInt8}{i:Nat}{c:UInt8}(h:l[i]?=some c)(prev:Bool):Tx.iC prev (l.drop i)=if Tx.sp c then (if prev then Tx.iC true (l.drop (i+1)) else 32 :: Tx.iC true (l.drop (i+1))) else c :: Tx.iC false (l.drop (i+1)):=by
 rw[TX h];rfl
theorem ahB(s:ByteArray)(w:World)(hs:s.size≤1000000) :
  Calls Tryz.prog 74 #[.string s] w fun e w'=>e=.returned (.string (aa (Tx.one s.data.toList)))∧Below w.heap.size w w':=by
 have lZ:=hide (ahN s w (by omega));obtain⟨l,hl⟩:∃l,Tx.trim s.data.toList=l:=⟨_,rfl⟩;have YD:=hide (show Tx.one s.data.toList=Tx.iC false l by rw[Tx.aga,hl]);have iR:l.length≤1000000:=by rw[←hl];have:=Tx.akh s.data.toList;rw[b9] at this;omega
 have Yf:=hide (show ∀c,l[0]?=some c→Tx.sp c=false from fun c hc=>by
  rcases Tx.WZ s.data.toList with e|⟨d,t,e,hd⟩
  ·rw[hl] at e;rw[e] at hc;cases hc
  rw[hl] at e;rw[e] at hc;cases hc;exact hd)
 rw[hl] at lZ;clear hl;obtain⟨N,hN⟩:∃N,l.length=N:=⟨_,rfl⟩;have HN:=hide hN;have wO:=hide (show (aa l).size=N by rw[aW,hN]);rw[hN] at iR;have uq:=hide (fun i c (h:l[i]?=some c) W=>vR (aa l) i c (by rw[bg];exact h) W);have j2:=hide (fun c W=>VU c W);obtain⟨S,hS⟩:∃S,aa l=S:=⟨_,rfl⟩;rw[hS] at lZ wO uq;clear hS hN hs
 go_enter Tryz.func74,Tryz.ntmps74
 go_wp2_with fail
 go_wp2_with fail
 refine cq (lZ.out) ?_
 have hsz:=wO.out;go_wp2
 go_loopg [3,4] N (fun gk v3 v4 wr=>∃(i m:Nat) (A:Option Addr) (c:Nat) (pre:List UInt8) (prev:Bool),gk=N-i∧i≤N∧v4=.int .i64 (i:Int)∧v3=.slice A m c∧pre.length=m∧m≤i∧wr.ownsRow w.heap.size 5 1 (.slice A m c) m (cA pre)∧pre++Tx.iC prev (l.drop i)=Tx.iC false l∧(∀j d,j+1=i→l[j]?=some d→Tx.sp d=prev)∧Below w.heap.size w wr)
 case atStart=>exact⟨0,0,none,0,[],false,rfl,by omega,rfl,rfl,rfl,by omega,World.ownsRow_nil _ _ _ _,rfl,fun j d h=>(by omega),Below.refl _ _⟩
 case round=>
  obtain⟨i,m,A,c,pre,prev,aq,hi,rfl,rfl,Te,hm,ho,heq,Ti,hb⟩:=hrel;have Hg:=hide aq;have HO:=hide ho;have Gv:=hide Te;have HEq:=hide heq;have YJ:=hide Ti;have HB:=hide hb;clear aq ho Te heq Ti hb
  by_cases hlt:i<N
  ·obtain⟨x,hx⟩:∃x,l[i]?=some x:=⟨_,List.getElem?_eq_getElem (by rw[HN.out];exact hlt)⟩;have xG:=uq.out i x hx;have bD:=af7 hx prev;have HX:=hide hx;have HC:=hide (j2.out x);have aM:w.heap.size≤wr.heap.size:=HB.out.size;clear hx
   cases pR:Tx.sp x with
   | false=>
    simp only[pR,Bool.false_eq_true,if_false] at bD;rw[pR] at HC;have dB:=hide bD;have CV:=hide pR;clear bD pR
    go_wp2_with fail
    go_wp2_with fail
    refine cq (HC.out _) ?_
    go_wp2_with (at_builtin;go_loud (refine fy wr rfl (.tmp 18) (.tmp 22) 37 rfl w.heap.size (.int .u8 0) 1 1 Tryz.underlying37 vS rfl (by omega) (.slice A m c) m (cA pre) rfl HO.out (cs:=[.int .u8 (x.toNat:Int)]) rfl (by simp[Value.oneCell']) rfl (by unfold maxLen;omega) (by omega) aM ?_);intro g' cap' w1 hown1 cW kv iT au;have fg:=hide hown1;have az:=hide (HB.out.grown cW aM (fun k e=>(aI HO.out k e).1));clear hown1 cW kv iT au)
    go_roundg (N-(i+1))
    case measure=>have:=Hg.out;omega
    case rel=>
     refine⟨i+1,m+1,some ⟨g',0,none⟩,cap',pre++[x],false,rfl,by omega,by first|rfl|go_num,rfl,by rw[List.length_append,Gv.out];rfl,by omega,?_,?_,fun j d hj hd=>?_,az.out⟩
     ·rw[IG];exact fg.out
     ·rw[List.append_assoc];have:=HEq.out;rw[dB.out] at this;exact this
     obtain rfl:j=i:=by omega
     rw[HX.out] at hd;cases hd;exact CV.out
   | true=>
    have qX:i≠0:=by
     rintro rfl;rw[Yf.out x HX.out] at pR;cases pR
    obtain⟨j,hj⟩:∃j,j+1=i:=⟨i-1,by omega⟩;have hjz:0≤(j:Int)∧(j:Int)<N:=by omega
    obtain⟨d,hd⟩:∃d,l[j]?=some d:=⟨_,List.getElem?_eq_getElem (by rw[HN.out];omega)⟩;have jK:=YJ.out j d hj hd;have amc:=uq.out j d hd;have HD:=hide (j2.out d);rw[jK] at HD;simp only[pR,if_true] at bD;rw[pR] at HC;have z1:IntKind.i64.wrap ((i:Int)-1)=(j:Int):=by rw[IntWalk.i64_in _ (by omega)];omega
    have CV:=hide pR;clear hd jK qX pR hj
    cases prev with
    | true=>
     simp only[if_true] at bD;have dB:=hide bD;clear bD
     go_wp2_with fail
     go_wp2_with fail
     refine cq (HC.out _) ?_
     go_wp2_with fail
     go_wp2_with fail
     refine cq (HD.out _) ?_
     go_wp2
     go_roundg (N-(i+1))
     case measure=>have:=Hg.out;omega
     case rel=>
      refine⟨i+1,m,A,c,pre,true,rfl,by omega,by first|rfl|go_num,rfl,Gv.out,by omega,HO.out,?_,fun k d2 hk bK=>?_,HB.out⟩
      ·have:=HEq.out;rw[dB.out] at this;exact this
      obtain rfl:k=i:=by omega
      rw[HX.out] at bK;cases bK;exact CV.out
    | false=>
     simp only[Bool.false_eq_true,if_false] at bD;have dB:=hide bD;clear bD
     go_wp2_with fail
     go_wp2_with fail
     refine cq (HC.out _) ?_
     go_wp2_with fail
     go_wp2_with fail
     refine cq (HD.out _) ?_
     go_wp2_with (at_builtin;go_loud (refine fy wr rfl (.tmp 30) (.tmp 31) 37 rfl w.heap.size (.int .u8 0) 1 1 Tryz.underlying37 vS rfl (by omega) (.slice A m c) m (cA pre) rfl HO.out (cs:=[.int .u8 32]) rfl (by simp[Value.oneCell']) rfl (by unfold maxLen;omega) (by omega) aM ?_);intro g' cap' w1 hown1 cW kv iT au;have fg:=hide hown1;have az:=hide (HB.out.grown cW aM (fun k e=>(aI HO.out k e).1));clear hown1 cW kv iT au)
     go_roundg (N-(i+1))
     case measure=>have:=Hg.out;omega
     case rel=>
      refine⟨i+1,m+1,some ⟨g',0,none⟩,cap',pre++[32],true,rfl,by omega,by first|rfl|go_num,rfl,by rw[List.length_append,Gv.out];rfl,by omega,?_,?_,fun k d2 hk bK=>?_,az.out⟩
      ·rw[IG];exact fg.out
      ·rw[List.append_assoc];have:=HEq.out;rw[dB.out] at this;exact this
      obtain rfl:k=i:=by omega
      rw[HX.out] at bK;cases bK;exact CV.out
  have Kc:=HEq.out;rw[List.drop_eq_nil_of_le (by rw[HN.out];omega)] at Kc;have he:Tx.iC false l=pre:=by rw[←Kc];unfold Tx.iC;simp
  have aL:=HO;have HE:=hide he;clear Kc he
  go_wp2_with (refine o6 rfl 37 9 5 _ rfl Tryz.underlying37 Tryz.underlying5 Tryz.underlying9 w.heap.size _ m (by rfl) pre aL.out ?_;intro t ht;have Ht:=hide (My ht);clear ht)
  go_ret;exact⟨by rw[YD.out,HE.out,←Ht.out];rfl,HB.out⟩
end
section
open Go.RowKit Go.WideShapes

theorem VQ(r:Int)(w:World):Calls Tryz.prog 176 #[.int .i64 r] w fun e w'=>e=.returned (.int .i64 (Nf.cls r))∧w'=w:=by
 obtain⟨q,hq⟩:∃q,Nf.cls r=q:=⟨_,rfl⟩;rw[hq]
 by_cases hc:r=832
 ·subst hc;have hv:q=230:=by rw[←hq];decide
  subst hv;clear hq
  go_enter Tryz.func176,Tryz.ntmps176
  go_wp2;go_ret;exact⟨rfl,rfl⟩
 have ang:(r==832)=false:=by simp;omega
 have yc:=hc;clear hc
 by_cases hc:r=833
 ·subst hc;have hv:q=230:=by rw[←hq];decide
  subst hv;clear hq
  go_enter Tryz.func176,Tryz.ntmps176
  go_wp2;go_ret;exact⟨rfl,rfl⟩
 have anh:(r==833)=false:=by simp;omega
 have yd:=hc;clear hc
 by_cases hc:r=789
 ·subst hc;have hv:q=232:=by rw[←hq];decide
  subst hv;clear hq
  go_enter Tryz.func176,Tryz.ntmps176
  go_wp2;go_ret;exact⟨rfl,rfl⟩
 have ana:(r==789)=false:=by simp;omega
 have x5:=hc;clear hc
 by_cases hc:r=795
 ·subst hc;have hv:q=216:=by rw[←hq];decide
  subst hv;clear hq
  go_enter Tryz.func176,Tryz.ntmps176
  go_wp2;go_ret;exact⟨rfl,rfl⟩
 have anb:(r==795)=false:=by simp;omega
 have x6:=hc;clear hc
 by_cases hc:r=807
 ·subst hc;have hv:q=202:=by rw[←hq];decide
  subst hv;clear hq
  go_enter Tryz.func176,Tryz.ntmps176
  go_wp2;go_ret;exact⟨rfl,rfl⟩
 have anc:(r==807)=false:=by simp;omega
 have x7:=hc;clear hc
 by_cases hc:r=808
 ·subst hc;have hv:q=202:=by rw[←hq];decide
  subst hv;clear hq
  go_enter Tryz.func176,Tryz.ntmps176
  go_wp2;go_ret;exact⟨rfl,rfl⟩
 have ane:(r==808)=false:=by simp;omega
 have x8:=hc;clear hc
 by_cases hc:r=824
 ·subst hc;have hv:q=1:=by rw[←hq];decide
  subst hv;clear hq
  go_enter Tryz.func176,Tryz.ntmps176
  go_wp2;go_ret;exact⟨rfl,rfl⟩
 have anf:(r==824)=false:=by simp;omega
 have x9:=hc;clear hc
 by_cases hc:r=837
 ·subst hc;have hv:q=240:=by rw[←hq];decide
  subst hv;clear hq
  go_enter Tryz.func176,Tryz.ntmps176
  go_wp2;go_ret;exact⟨rfl,rfl⟩
 have ani:(r==837)=false:=by simp;omega
 have ye:=hc;clear hc
 by_cases g1:r<768
 ·have hv:q=0:=by rw[←hq];unfold Nf.cls;(repeat' split)<;>omega
  subst hv;have f0:decide (768≤r)=false:=decide_eq_false (by omega);have f1:decide (790≤r)=false:=decide_eq_false (by omega);have f2:decide (803≤r)=false:=decide_eq_false (by omega);clear hq g1 yc yd x5 x6 x7 x8 x9 ye
  go_enter Tryz.func176,Tryz.ntmps176
  go_wp2;go_ret;exact⟨rfl,rfl⟩
 by_cases g2:r≤788
 ·have hv:q=230:=by rw[←hq];unfold Nf.cls;(repeat' split)<;>omega
  subst hv;have f0:decide (768≤r)=true:=decide_eq_true (by omega);have f1:decide (r≤788)=true:=decide_eq_true (by omega);clear hq g1 g2 yc yd x5 x6 x7 x8 x9 ye
  go_enter Tryz.func176,Tryz.ntmps176
  go_wp2;go_ret;exact⟨rfl,rfl⟩
 by_cases g3:r≤793
 ·have hv:q=220:=by rw[←hq];unfold Nf.cls;(repeat' split)<;>omega
  subst hv;have f0:decide (768≤r)=true:=decide_eq_true (by omega);have f1:decide (r≤788)=false:=decide_eq_false (by omega);have f2:decide (790≤r)=true:=decide_eq_true (by omega);have f3:decide (r≤793)=true:=decide_eq_true (by omega);clear hq g1 g2 g3 yc yd x5 x6 x7 x8 x9 ye
  go_enter Tryz.func176,Tryz.ntmps176
  go_wp2;go_ret;exact⟨rfl,rfl⟩
 by_cases g4:r<803
 ·have hv:q=0:=by rw[←hq];unfold Nf.cls;(repeat' split)<;>omega
  subst hv;have f0:decide (768≤r)=true:=decide_eq_true (by omega);have f1:decide (r≤788)=false:=decide_eq_false (by omega);have f2:decide (790≤r)=true:=decide_eq_true (by omega);have f3:decide (r≤793)=false:=decide_eq_false (by omega);have f4:decide (803≤r)=false:=decide_eq_false (by omega);clear hq g1 g2 g3 g4 yc yd x5 x6 x7 x8 x9 ye
  go_enter Tryz.func176,Tryz.ntmps176
  go_wp2;go_ret;exact⟨rfl,rfl⟩
 by_cases g5:r≤806
 ·have hv:q=220:=by rw[←hq];unfold Nf.cls;(repeat' split)<;>omega
  subst hv;have f0:decide (768≤r)=true:=decide_eq_true (by omega);have f1:decide (r≤788)=false:=decide_eq_false (by omega);have f2:decide (790≤r)=true:=decide_eq_true (by omega);have f3:decide (r≤793)=false:=decide_eq_false (by omega);have f4:decide (803≤r)=true:=decide_eq_true (by omega);have f5:decide (r≤806)=true:=decide_eq_true (by omega);clear hq g1 g2 g3 g4 g5 yc yd x5 x6 x7 x8 x9 ye
  go_enter Tryz.func176,Tryz.ntmps176
  go_wp2;go_ret;exact⟨rfl,rfl⟩
 have hv:q=0:=by rw[←hq];unfold Nf.cls;(repeat' split)<;>omega
 subst hv;have f0:decide (768≤r)=true:=decide_eq_true (by omega);have f1:decide (r≤788)=false:=decide_eq_false (by omega);have f2:decide (790≤r)=true:=decide_eq_true (by omega);have f3:decide (r≤793)=false:=decide_eq_false (by omega);have f4:decide (803≤r)=true:=decide_eq_true (by omega);have f5:decide (r≤806)=false:=decide_eq_false (by omega);clear hq g1 g2 g3 g4 g5 yc yd x5 x6 x7 x8 x9 ye
 go_enter Tryz.func176,Tryz.ntmps176
 go_wp2;go_ret;exact⟨rfl,rfl⟩
theorem VR(r:Int)(w:World):Calls Tryz.prog 193 #[.int .i64 r] w fun e w'=>e=.returned (.bool (Nf.fN r))∧w'=w:=by
 obtain⟨q,hq⟩:∃q,Nf.fN r=q:=⟨_,rfl⟩;rw[hq];unfold Nf.fN at hq
 by_cases h1:44032≤r
 ·by_cases h2:r<55204
  ·have hv:q=true:=by rw[←hq];exact decide_eq_true (by omega)
   subst hv;clear hq
   go_enter Tryz.func193,Tryz.ntmps193
   go_wp2;go_ret;exact⟨rfl,rfl⟩
  have hv:q=false:=by rw[←hq];exact decide_eq_false (by omega)
  subst hv;clear hq
  go_enter Tryz.func193,Tryz.ntmps193
  go_wp2;go_ret;exact⟨rfl,rfl⟩
 have hv:q=false:=by rw[←hq];exact decide_eq_false (by omega)
 subst hv;clear hq
 go_enter Tryz.func193,Tryz.ntmps193
 go_wp2;go_ret;exact⟨rfl,rfl⟩
end
section
namespace Nf
def carry(c:Int):List Int→List Int
 | []=>[c]
 | b :: l=>if 0<cls b∧cls b<cls c then b :: carry c l else c :: carry b l
def pass:List Int→List Int
 | []=>[]
 | c :: l=>carry c l
def rP:Nat→List Int→List Int
 | 0,l=>l
 | n+1,l=>rP n (pass l)
theorem Qq:∀(l:List Int) (c:Int),(carry c l).length=l.length+1
 | [],c=>rfl
 | b :: l,c=>by
  unfold carry
  split<;>rw[List.length_cons,Qq l,List.length_cons]
theorem agN:∀l:List Int,(pass l).length=l.length
 | []=>rfl
 | c :: l=>Qq l c
theorem Ub{a b:Int}(h:cls b<cls a):∀acc:List Int,ins b (ins a acc)=ins a (ins b acc)
 | []=>by
  have e1:ins b [a]=[b,a]:=by rw[ins,if_pos h]
  have e2:ins a [b]=[b,a]:=by rw[ins,if_neg (by omega)];rfl
  show ins b [a]=ins a [b];rw[e1,e2]
 | y :: l=>by
  by_cases h1:cls b<cls y
  ·by_cases h2:cls a<cls y
   ·have e1:ins a (y :: l)=a :: y :: l:=by rw[ins,if_pos h2]
    have e2:ins b (y :: l)=b :: y :: l:=by rw[ins,if_pos h1]
    rw[e1,e2,ins,if_pos h,ins,if_neg (by omega),e1]
   have e1:ins a (y :: l)=y :: ins a l:=by rw[ins,if_neg h2]
   have e2:ins b (y :: l)=b :: y :: l:=by rw[ins,if_pos h1]
   rw[e1,e2,ins,if_pos h1,ins,if_neg (by omega),e1]
  have e1:ins a (y :: l)=y :: ins a l:=by rw[ins,if_neg (by omega)]
  have e2:ins b (y :: l)=y :: ins b l:=by rw[ins,if_neg h1]
  rw[e1,e2,ins,if_neg h1,ins,if_neg (by omega),Ub h l]
theorem Wt{a b:Int}(h:cls b<cls a)(P M:List Int):aC (P++a :: b :: M)=aC (P++b :: a :: M):=by
 unfold aC;rw[List.foldl_append,List.foldl_append,List.foldl_cons,List.foldl_cons,List.foldl_cons,List.foldl_cons,Ub h]
theorem BM(n:Nat)(r:Int)(l:List Int):runs (n+1) (r :: l)=(r :: marks l) :: runs n (l.drop (marks l).length):=by rw[runs]
theorem vW{b:Int}(h:0<cls b)(l:List Int):marks (b :: l)=b :: marks l:=by
 unfold marks;rw[List.takeWhile_cons,if_pos (by simpa using h)]
theorem WL{a b:Int}(h0:0<cls b)(h:cls b<cls a)(Y:List Int):∀(n:Nat) (P:List Int),(runs n (P++a :: b :: Y)).flatMap aC=(runs n (P++b :: a :: Y)).flatMap aC
 | 0,_=>by simp[runs]
 | n+1,[]=>by
  rw[List.nil_append,List.nil_append,BM,BM,vW h0,vW (show 0<cls a by omega),List.flatMap_cons,List.flatMap_cons];rw[List.length_cons,List.length_cons,List.drop_succ_cons,List.drop_succ_cons];have:=Wt h [] (marks Y);rw[List.nil_append,List.nil_append] at this;rw[this]
 | n+1,p :: P=>by
  rw[List.cons_append,List.cons_append,BM,BM,List.flatMap_cons,List.flatMap_cons]
  have e:∀X:List Int,marks (P++X)=if (marks P).length=P.length then P++marks X else marks P:=fun X=>by
   unfold marks;exact List.takeWhile_append
  rw[e,e]
  by_cases hp:(marks P).length=P.length
  ·rw[if_pos hp,if_pos hp,vW (show 0<cls a by omega),vW h0,vW h0,vW (show 0<cls a by omega)];have h1:=Wt h (p :: P) (marks Y);rw[List.cons_append,List.cons_append] at h1;rw[h1];congr 2
   have e2:∀u v:Int,(P++u :: v :: Y).drop (P++u :: v :: marks Y).length=Y.drop (marks Y).length:=fun u v=>by
    rw[List.length_append,List.drop_append];simp
   rw[e2,e2]
  rw[if_neg hp,if_neg hp];have hl:(marks P).length≤P.length:=by unfold marks;exact (List.takeWhile_sublist _).length_le
  rw[List.drop_append_of_le_length hl,List.drop_append_of_le_length hl,WL h0 h Y n]
theorem ai8{a b:Int}(h0:0<cls b)(h:cls b<cls a)(P Y:List Int):sort (P++a :: b :: Y)=sort (P++b :: a :: Y):=by
 unfold sort;rw[WL h0 h Y];simp
theorem Mp:∀(l:List Int) (c:Int) (P:List Int),sort (P++carry c l)=sort (P++c :: l)
 | [],c,P=>rfl
 | b :: l,c,P=>by
  unfold carry;split
  ·rename_i hc
   have:=Mp l c (P++[b]);rw[List.append_assoc,List.append_assoc] at this;exact this.trans (ai8 hc.1 hc.2 P l).symm
  have:=Mp l b (P++[c]);rw[List.append_assoc,List.append_assoc] at this;exact this
theorem ai6(l:List Int):sort (pass l)=sort l:=by
 cases l with
 | nil=>rfl
 | cons c l=>exact Mp l c []
theorem Wu:∀(n:Nat) (l:List Int),sort (rP n l)=sort l
 | 0,_=>rfl
 | n+1,l=>(Wu n _).trans (ai6 l)
def gt(c:Int)(ctx:List Int):Nat:=(ctx.filter fun y=>decide (c<cls y)).length
def Bd(k:Nat):List Int→List Int→Prop
 | _,[]=>True
 | ctx,b :: l=>(cls b=0∨gt (cls b) ctx≤k)∧Bd k (if cls b=0 then [] else b :: ctx) l
theorem zV(c y:Int)(ctx:List Int):gt c (y :: ctx)=(if c<cls y then 1 else 0)+gt c ctx:=by
 unfold gt;rw[List.filter_cons]
 by_cases h:c<cls y
 ·rw[if_pos (by simpa using h),if_pos h,List.length_cons];omega
 rw[if_neg (by simpa using h),if_neg h];omega
theorem acH(c:Int)(ctx:List Int):gt c ctx≤ctx.length:=by unfold gt;exact List.length_filter_le _ _
theorem Jv{c:Int}:∀{ctx:List Int},(∀y∈ctx,cls y≤c)→gt c ctx=0
 | [],_=>rfl
 | y :: ctx,h=>by
  rw[zV,if_neg (by have:=h y (by simp);omega),Jv (fun z hz=>h z (by simp[hz]))]
theorem Bd.ctx{k:Nat}:∀{l c1 c2:List Int},(∀c,gt c c1=gt c c2)→Bd k c1 l→Bd k c2 l
 | [],_,_,_,_=>trivial
 | b :: l,c1,c2,h,hb=>by
  unfold Bd at hb ⊢;refine⟨by rw[←h];exact hb.1,?_⟩
  by_cases h0:cls b=0
  ·have h2:=hb.2;rw[if_pos h0] at h2 ⊢;exact h2
  have h2:=hb.2;rw[if_neg h0] at h2 ⊢;exact Bd.ctx (fun c=>by rw[zV,zV,h]) h2
theorem Df{k:Nat}:∀(l:List Int) (c:Int) (ctx:List Int),(cls c=0∨∀y∈ctx,cls y≤cls c)→Bd (k+1) (if cls c=0 then [] else c :: ctx) l→Bd k ctx (carry c l)
 | [],c,ctx,h,_=>by
  unfold carry Bd;refine⟨?_,trivial⟩
  rcases h with h|h
  ·exact .inl h
  exact .inr (by rw[Jv h];omega)
 | b :: l,c,ctx,h,hb=>by
  have Am:=(n8 b).1;unfold carry
  by_cases hs:0<cls b∧cls b<cls c
  ·rw[if_pos hs]
   have hc:∀y∈ctx,cls y≤cls c:=by
    rcases h with h|h
    ·omega
    exact h
   rw[if_neg (by omega)] at hb;unfold Bd at hb ⊢;rw[if_neg (by omega)] at hb ⊢;obtain⟨h1,h2⟩:=hb;refine⟨.inr ?_,Df l c (b :: ctx) (.inr fun y hy=>?_) ?_⟩
   ·rcases h1 with h1|h1
    ·omega
    rw[zV,if_pos hs.2] at h1;omega
   ·rcases List.mem_cons.1 hy with rfl|hy
    ·omega
    exact hc y hy
   rw[if_neg (by omega)];exact Bd.ctx (fun z=>by simp only[zV];omega) h2
  rw[if_neg hs];unfold Bd;refine⟨?_,?_⟩
  ·rcases h with h|h
   ·exact .inl h
   exact .inr (by rw[Jv h];omega)
  unfold Bd at hb;obtain⟨_,h2⟩:=hb
  by_cases hc0:cls c=0
  ·rw[if_pos hc0] at h2 ⊢;exact Df l b [] (.inr fun y hy=>by cases hy) h2
  rw[if_neg hc0] at h2 ⊢;refine Df l b (c :: ctx) ?_ h2
  by_cases aJ:cls b=0
  ·exact .inl aJ
  refine .inr fun y hy=>?_;have hcn:=(n8 c).1
  rcases List.mem_cons.1 hy with rfl|hy
  ·omega
  rcases h with h|h
  ·omega
  have:=h y hy;omega
theorem aaF{k:Nat}(l:List Int)(h:Bd (k+1) [] l):Bd k [] (pass l):=by
 cases l with
 | nil=>exact trivial
 | cons c l=>exact Df l c [] (.inr fun y hy=>by cases hy) h.2
theorem Qb:∀(l ctx:List Int) (k:Nat),ctx.length+l.length≤k→Bd k ctx l
 | [],_,_,_=>trivial
 | b :: l,ctx,k,h=>by
  rw[List.length_cons] at h;unfold Bd;refine⟨.inr (by have:=acH (cls b) ctx;omega),Qb l _ k ?_⟩;split
  ·simp;omega
  rw[List.length_cons];omega
theorem Qd:∀(n:Nat) (l:List Int),Bd n [] l→Bd 0 [] (rP n l)
 | 0,_,h=>h
 | n+1,l,h=>Qd n _ (aaF l h)
theorem Qe:∀(l ctx:List Int),Bd 0 ctx l→(∀b∈marks l,∀y∈ctx,cls y≤cls b)∧Up (marks l)∧Bd 0 [] (l.drop (marks l).length)
 | [],ctx,_=>by
  unfold marks Up;simp[Bd]
 | b :: l,ctx,h=>by
  have Am:=(n8 b).1;unfold Bd at h
  by_cases h0:cls b=0
  ·have e:marks (b :: l)=[]:=by
    unfold marks;rw[List.takeWhile_cons,if_neg (by simp;omega)]
   rw[e];refine⟨fun x hx=>(by cases hx),List.Pairwise.nil,?_⟩;rw[List.length_nil,List.drop_zero];have h2:=h.2;rw[if_pos h0] at h2;unfold Bd;rw[if_pos h0];exact⟨.inl h0,h2⟩
  rw[if_neg h0] at h;obtain⟨h1,h2⟩:=h;obtain⟨i1,i2,i3⟩:=Qe l (b :: ctx) h2;rw[vW (by omega)]
  have hz:∀y∈ctx,cls y≤cls b:=fun y hy=>by
   rcases h1 with h1|h1
   ·omega
   unfold gt at h1;have:=List.length_eq_zero_iff.1 (Nat.le_zero.1 h1);rw[List.filter_eq_nil_iff] at this;have:=this y hy;simp at this;exact this
  refine⟨fun x hx y hy=>?_,?_,?_⟩
  ·rcases List.mem_cons.1 hx with rfl|hx
   ·exact hz y hy
   exact i1 x hx y (by simp[hy])
  ·unfold Up at i2 ⊢;rw[List.pairwise_cons];exact⟨fun x hx=>i1 x hx b (by simp),i2⟩
  rw[List.length_cons,List.drop_succ_cons];exact i3
theorem Mm:∀(n:Nat) (l:List Int),l.length<n→Bd 0 [] l→(runs n l).flatMap aC=l
 | 0,_,h,_=>by omega
 | n+1,[],_,_=>by simp[runs]
 | n+1,r :: t,h,hb=>by
  unfold Bd at hb;obtain⟨i1,i2,i3⟩:=Qe t _ hb.2
  have iz:Up (r :: marks t):=by
   unfold Up at i2 ⊢;rw[List.pairwise_cons];refine⟨fun x hx=>?_,i2⟩
   by_cases h0:cls r=0
   ·have:=(n8 x).1;omega
   exact i1 x hx r (by rw[if_neg h0];simp)
  have hl:(t.drop (marks t).length).length<n:=by
   rw[List.length_cons] at h;rw[List.length_drop];omega
  rw[BM,List.flatMap_cons,←BU iz (cj.refl _),Mm n _ hl i3]
  have e:marks t=t.take (marks t).length:=by
   have h2:marks t <+: t:=by unfold marks;exact List.takeWhile_prefix _
   exact List.prefix_iff_eq_take.1 h2
  rw[List.cons_append]
  conv=>lhs;rw[e]
  have h3:(t.take (marks t).length).length=(marks t).length:=by rw[←e]
  rw[h3,List.take_append_drop]
theorem Qk(l:List Int):rP l.length l=sort l:=by
 have h:=Qd l.length l (Qb l [] l.length (by simp));rw[←Wu l.length l];unfold sort;exact (Mm _ _ (by omega) h).symm
end Nf
end
section
namespace Nf
def mi(out:List Int)(st c:Int):Bool:=decide (st<0)||(out.drop (st+1).toNat).any fun x=>decide (cls x=0)||decide (c≤cls x)
def pG(s:List Int×Int)(r:Int):List Int×Int :=
 match (if mi s.1 s.2 (cls r)=true then none else whole (s.1.getD s.2.toNat 0) r) with
 | some w=>(s.1.set s.2.toNat w,s.2)
 | none=>(s.1++[r],if cls r=0 then s.1.length else s.2)
def Ds(l:List Int):List Int:=(l.foldl pG ([],-1)).1
structure sG(s:Cs)(d:List Int×Int):Prop where
 out:s.out=d.1
 st:s.st=d.2
 lo : -1≤s.st
 up:s.st<s.out.length
 le:0≤s.st→∀x∈s.out.drop (s.st+1).toNat,0<cls x∧cls x≤s.hi
 hi:0≤s.st→s.hi = -1∨∃x∈s.out.drop (s.st+1).toNat,cls x=s.hi
theorem sG.blocked{s:Cs}{d:List Int×Int}(h:sG s d)(c:Int)(hc:0≤c):mi d.1 d.2 c = !decide (0≤s.st∧s.hi<c):=by
 unfold mi;rw[←h.out,←h.st]
 by_cases h0:0≤s.st
 ·rw[decide_eq_false (by omega),Bool.false_or]
  by_cases hh:s.hi<c
  ·rw[decide_eq_true ⟨h0,hh⟩,Bool.not_true,List.any_eq_false];intro x hx;have:=h.le h0 x hx;simp;omega
  rw[decide_eq_false (fun e=>hh e.2),Bool.not_false,List.any_eq_true]
  rcases h.hi h0 with e|⟨x,hx,e⟩
  ·omega
  exact⟨x,hx,by simp;omega⟩
 rw[decide_eq_true (by omega),Bool.true_or,decide_eq_false (fun e=>h0 e.1)];rfl
theorem sG.step{s:Cs}{d:List Int×Int}(h:sG s d)(r:Int):sG (gR s r) (pG d r):=by
 have hb:=h.blocked (cls r) (n8 r).1;have vE:=h.lo;have iz:=h.up;unfold gR pG;rw[hb]
 have e:(if (!decide (0≤s.st∧s.hi<cls r))=true then none else whole (d.1.getD d.2.toNat 0) r)=(if 0≤s.st∧s.hi<cls r then whole (s.out.getD s.st.toNat 0) r else none):=by
  rw[←h.out,←h.st]
  by_cases hc:0≤s.st∧s.hi<cls r
  ·rw[decide_eq_true hc,if_pos hc];simp
  rw[decide_eq_false hc,if_neg hc];simp
 rw[e]
 cases hw:(if 0≤s.st∧s.hi<cls r then whole (s.out.getD s.st.toNat 0) r else none) with
 | some w=>
  dsimp only
  have hc:0≤s.st:=by
   by_cases hc:0≤s.st∧s.hi<cls r
   ·exact hc.1
   rw[if_neg hc] at hw;cases hw
  have ed:(s.out.set s.st.toNat w).drop (s.st+1).toNat=s.out.drop (s.st+1).toNat:=List.drop_set_of_lt (by omega)
  exact⟨by rw[h.out,h.st],h.st,vE,by rw[List.length_set];exact iz,fun h0 x hx=>h.le h0 x (ed▸hx),fun h0=>by
   rcases h.hi h0 with e|⟨x,hx,e⟩
   ·exact .inl e
   exact .inr ⟨x,by dsimp only;rw[ed];exact hx,e⟩⟩
 | none=>
  dsimp only
  by_cases hr:cls r=0
  ·rw[if_pos hr,if_pos hr];have ed:(s.out++[r]).drop (((s.out.length:Nat):Int)+1).toNat=[]:=List.drop_eq_nil_of_le (by rw[List.length_append,List.length_singleton];omega);exact⟨by rw[h.out],by rw[h.out],by show (-1:Int)≤((s.out.length:Nat):Int);omega,by show ((s.out.length:Nat):Int)<_;rw[List.length_append,List.length_singleton];omega,fun _ x hx=>(by dsimp only at hx;rw[ed] at hx;cases hx),fun _=>.inl rfl⟩
  rw[if_neg hr,if_neg hr];have hc0:=(n8 r).1;have ed:0≤s.st→(s.out++[r]).drop (s.st+1).toNat=s.out.drop (s.st+1).toNat++[r]:=fun h0=>List.drop_append_of_le_length (by omega);refine⟨by rw[h.out],h.st,vE,by dsimp only;rw[List.length_append];omega,fun h0 x hx=>?_,fun h0=>?_⟩
  ·dsimp only at h0 hx ⊢;rw[ed h0] at hx
   rcases List.mem_append.1 hx with hx|hx
   ·have:=h.le h0 x hx;omega
   rw[List.mem_singleton.1 hx];omega
  dsimp only at h0 ⊢;rw[ed h0];refine .inr ?_
  by_cases hm:s.hi≤cls r
  ·exact⟨r,by simp,by omega⟩
  rcases h.hi h0 with e|⟨x,hx,e⟩
  ·omega
  exact⟨x,by simp[hx],by omega⟩
theorem Lt:∀(l:List Int) (s:Cs) (d:List Int×Int),sG s d→sG (l.foldl gR s) (l.foldl pG d)
 | [],_,_,h=>h
 | r :: l,s,d,h=>Lt l _ _ (h.step r)
theorem abn(l:List Int):Ds l=compose l :=
 (Lt l ⟨[],-1,-1⟩ ([],-1) ⟨rfl,rfl,by decide,by decide,fun h=>absurd h (by decide),fun h=>absurd h (by decide)⟩).out.symm
end Nf
end
section
namespace Nf
structure Pr where
 w:Int
 f:Int
 s:Int
def dG:List (Int×List Int) :=
 [(0x300,[65,0xC0,69,0xC8,73,0xCC,79,0xD2,85,0xD9,97,0xE0,101,0xE8,105,0xEC,111,0xF2,117,0xF9]),
  (0x301,[65,0xC1,69,0xC9,73,0xCD,79,0xD3,85,0xDA,89,0xDD,97,0xE1,101,0xE9,105,0xED,111,0xF3,117,0xFA,121,0xFD,0xEA,0x1EBF,0xFC,0x1D8]),
  (0x302,[65,0xC2,69,0xCA,73,0xCE,79,0xD4,85,0xDB,97,0xE2,101,0xEA,105,0xEE,111,0xF4,117,0xFB,0x1EB9,0x1EC7]),
  (0x303,[65,0xC3,78,0xD1,79,0xD5,97,0xE3,110,0xF1,111,0xF5]),
  (0x304,[0xFC,0x1D6]),
  (0x306,[0x418,0x419,0x438,0x439]),
  (0x308,[65,0xC4,69,0xCB,73,0xCF,79,0xD6,85,0xDC,97,0xE4,101,0xEB,105,0xEF,111,0xF6,117,0xFC,121,0xFF,0x415,0x401,0x435,0x451]),
  (0x30A,[65,0xC5,97,0xE5]),
  (0x30C,[67,0x10C,83,0x160,90,0x17D,99,0x10D,115,0x161,122,0x17E]),
  (0x323,[101,0x1EB9]),
  (0x327,[67,0xC7,99,0xE7])]
def mI(m:Int):List Int→List Pr
 | a :: w :: l=>⟨w,a,m⟩ :: mI m l
 | _=>[]
def ml(l:List Pr)(p:Pr):List Pr:=l.takeWhile (fun x=>decide (x.w<p.w))++p :: l.dropWhile (fun x=>decide (x.w<p.w))
def oa:List Pr:=[⟨0x340,0x300,0⟩,⟨0x341,0x301,0⟩,⟨0x2126,0x3A9,0⟩,⟨0x212A,75,0⟩,⟨0x212B,0xC5,0⟩]
def iE:List Pr:=(dG.flatMap fun x=>mI x.1 x.2).foldl ml []++oa
def mF(r:Int):List Pr→Option (Int×Int)
 | []=>none
 | x :: l=>if x.w=r then some (x.f,x.s) else mF r l
def bZ(a b:Int):List Pr→Option Int
 | []=>none
 | x :: l=>if x.f=a∧x.s=b∧b≠0 then some x.w else bZ a b l
def Dt(r:Int):Option (Int×Int) :=
 if fN r then
  if 0<(r-0xAC00) % 28 then some (r-(r-0xAC00) % 28,0x11A7+(r-0xAC00) % 28)
  else some (0x1100+(r-0xAC00) / 28 / 21,0x1161+(r-0xAC00) / 28 % 21)
 else mF r iE
def Dx(a b:Int):Option Int :=
 if (0x1100≤a∧a<0x1100+19)∧(0x1161≤b∧b<0x1161+21) then some (0xAC00+((a-0x1100)*21+b-0x1161)*28)
 else if fN a=true∧(a-0xAC00) % 28=0∧(0x11A8≤b∧b<0x11A8+27) then some (a+b-0x11A7)
 else bZ a b iE
theorem Uw{r:Int}{p:Int×Int}:∀{l:List Pr},mF r l=some p→(⟨r,p.1,p.2⟩:Pr)∈l
 | x :: l,h=>by
  unfold mF at h
  split at h
  ·rename_i hx
   cases h;rw[←hx];exact List.mem_cons_self ..
  exact List.mem_cons_of_mem _ (Uw h)
theorem Ux{r:Int}:∀{l:List Pr},mF r l=none→∀x∈l,x.w≠r
 | y :: l,h,x,hx=>by
  unfold mF at h
  split at h
  ·cases h
  rename_i hy
  rcases List.mem_cons.1 hx with rfl|hx
  ·exact hy
  exact Ux h x hx
theorem Lz{a b v:Int}:∀{l:List Pr},bZ a b l=some v→(⟨v,a,b⟩:Pr)∈l∧b≠0
 | x :: l,h=>by
  unfold bZ at h
  split at h
  ·rename_i hx
   cases h;rw[←hx.1,←hx.2.1];exact⟨List.mem_cons_self ..,by rw[hx.2.1];exact hx.2.2⟩
  exact⟨List.mem_cons_of_mem _ (Lz h).1,(Lz h).2⟩
theorem Uy{a b:Int}:∀{l:List Pr},bZ a b l=none→∀x∈l,¬(x.f=a∧x.s=b∧b≠0)
 | y :: l,h,x,hx=>by
  unfold bZ at h
  split at h
  ·cases h
  rename_i hy
  rcases List.mem_cons.1 hx with rfl|hx
  ·exact hy
  exact Uy h x hx
theorem x3{p:Int×Int}{v:Int}:∀{l:List ((Int×Int)×Int)},lookW p l=some v→(p,v)∈l
 | x :: l,h=>by
  unfold lookW at h
  split at h
  ·rename_i hx
   cases h;rw[←hx];exact List.mem_cons_self ..
  exact List.mem_cons_of_mem _ (x3 h)
def ME(r:Int):Option (Int×Int):=match fu r table with
 | some p=>some p
 | none=>(jP r kh).map fun a=>(a,0)
theorem agA:∀x∈iE,ME x.w=some (x.f,x.s):=by decide +kernel
theorem ajR:∀x∈table,∃y∈iE,y.w=x.2:=by decide +kernel
theorem abG:∀x∈kh,∃y∈iE,y.w=x.1:=by decide +kernel
theorem agB:∀x∈iE,x.s≠0→lookW (x.f,x.s) table=some x.w:=by decide +kernel
theorem ajV:∀x∈table,x.1.2≠0∧∃y∈iE,y.f=x.1.1∧y.s=x.1.2:=by decide +kernel
theorem abB(r:Int):Dt r=made r:=by
 unfold Dt made;split
 ·rfl
 show mF r iE=ME r
 cases h:mF r iE with
 | some p=>exact (agA _ (Uw h)).symm
 | none=>
  have hn:=Ux h;unfold ME
  cases h2:fu r table with
  | some p=>
   obtain⟨y,hy,e⟩:=ajR _ (xZ h2);exact absurd e (hn y hy)
  | none=>
   cases h3:jP r kh with
   | some a=>
    obtain⟨y,hy,e⟩:=abG _ (E7 h3);exact absurd e (hn y hy)
   | none=>rfl
theorem abL(a b:Int):Dx a b=whole a b:=by
 unfold Dx whole;split
 ·rfl
 split
 ·rfl
 cases h:bZ a b iE with
 | some v=>
  obtain⟨h1,h2⟩:=Lz h;exact (agB _ h1 h2).symm
 | none=>
  have hn:=Uy h
  cases h2:lookW (a,b) table with
  | some v=>
   obtain⟨h3,y,hy,e1,e2⟩:=ajV _ (x3 h2);exact absurd ⟨e1,e2,h3⟩ (hn y hy)
  | none=>rfl
end Nf
end
section
open Go.RowKit Go.WideShapes

theorem aht(w:World):Calls Tryz.prog 205 #[] w fun e w'=>e=.returned (.slice (some ⟨w.heap.size,0,none⟩) 10 10)∧w'=w.alloc (.cells #[.int .i64 832,.int .i64 768,.int .i64 833,.int .i64 769,.int .i64 8486,.int .i64 937,.int .i64 8490,.int .i64 75,.int .i64 8491,.int .i64 197] 3):=by
 go_enter Tryz.func205,Tryz.ntmps205
 go_wp2;go_ret;exact⟨rfl,rfl⟩
def laid(w:World):List Obj→World
 | []=>w
 | o :: l=>laid (w.alloc o) l
def oY(x:Int×List Int):Obj:=.cells (ar x.2).toArray 3
def mK:Nat→List (Int×List Int)→List Value
 | _,[]=>[]
 | Z,x :: l=>.int .i64 x.1 :: .slice (some ⟨Z,0,none⟩) x.2.length x.2.length :: mK (Z+1) l
theorem ahM(w:World):Calls Tryz.prog 203 #[] w fun e w'=>e=.returned (.slice (some ⟨w.heap.size+11,0,none⟩) 11 11)∧w'=(laid w (Nf.dG.map oY)).alloc (.cells (mK w.heap.size Nf.dG).toArray 254):=by
 go_enter Tryz.func203,Tryz.ntmps203
 go_wp2;go_ret;exact⟨rfl,rfl⟩
end
end Go.Proofs.YtifiiojchlaghaaGreatDoor
