/- NFC: scalars as text by the document (ref02.Text). And more. -/
import Derived.Test.YtpdkeckeekchlaaGreatDoorOt37
set_option linter.unusedSimpArgs false
set_option maxRecDepth 100000
set_option maxHeartbeats 8000000
set_option linter.unusedVariables false
namespace Go.Proofs.YtpdkeckeekchlaaGreatDoor
section
open Go.RowKit Go.WideShapes

theorem ajV(r:Int)(w:World)(h:Utf.isScalar r=false):Calls Tryz.prog 236 #[.int .i64 r] w fun e w'=>e=.returned (.bool false)∧w'=w:=by
 by_cases h1:0≤r
 ·by_cases h2:r≤1114111
  ·have h3:55296≤r∧r≤57343:=by
    simp[Utf.isScalar] at h;omega
   have d1:decide (0≤r)=true:=decide_eq_true h1;have d2:decide (r≤1114111)=true:=decide_eq_true h2;have d3:decide (r<55296)=false:=decide_eq_false (by omega);have d4:decide (57343<r)=false:=decide_eq_false (by omega);clear h h1 h2 h3
   go_enter Tryz.func236,Tryz.ntmps236
   go_wp2;go_ret;exact⟨rfl,rfl⟩
  have d1:decide (0≤r)=true:=decide_eq_true h1;have d2:decide (r≤1114111)=false:=decide_eq_false h2;clear h h1 h2
  go_enter Tryz.func236,Tryz.ntmps236
  go_wp2;go_ret;exact⟨rfl,rfl⟩
 have d1:decide (0≤r)=false:=decide_eq_false h1;clear h h1
 go_enter Tryz.func236,Tryz.ntmps236
 go_wp2;go_ret;exact⟨rfl,rfl⟩
theorem ajY(r:Int)(w:World)(h:Utf.isScalar r=false):Calls Tryz.prog 219 #[.int .i64 r] w fun e w'=>e=.returned (.int .i64 0)∧w'=w:=by
 have HI:=ap (fun W=>ajV r W h);clear h
 go_enter Tryz.func219,Tryz.ntmps219
 go_wp2_with fail
 refine cq (HI.o _) ?_
 go_wp2;go_ret;exact⟨rfl,rfl⟩
theorem aka(r:Int)(w:World)(h:Utf.isScalar r=false):Calls Tryz.prog 189 #[.int .i64 r] w fun e w'=>e=.returned (.tuple #[.string ⟨#[]⟩,.bool false])∧w'=w:=by
 have HI:=ap (fun W=>ajY r W h);clear h
 go_enter Tryz.func189,Tryz.ntmps189
 go_wp2_with fail
 refine cq (HI.o _) ?_
 go_wp2;go_ret2;exact⟨rfl,rfl⟩
theorem XP(l:List Int)(A:Option Addr)(c:Nat)(w:World)(hr:Reads w w.heap.size 1 A l.length (aq l))(hs:l.length≤100000000) :
  Calls Tryz.prog 139 #[.slice A l.length c] w fun e w'=>e=.returned (nU l)∧Below w.heap.size w w':=by
 obtain⟨L,hL⟩:∃L,l.length=L:=⟨_,rfl⟩;have HL:=ap hL;rw[hL] at hr hs;rw[hL];have HR:=ap hr;have IU:=ap (fun r W h=>aj9 r W h);have uS:=ap (fun r W h=>aka r W h);clear hL hr
 go_enter Tryz.func139,Tryz.ntmps139
 go_wp2
 go_loopg [4,5,6,7] L (fun gk v4 v5 v6 v7 wr=>∃(j:Nat) (A':Option Addr) (c' m:Nat),gk=L-j∧j≤L∧v5=.int .i64 (j:Int)∧v4=.slice A' m c'∧m=(Nf.bytesOf (l.take j)).length∧wr.ownsRow w.heap.size 5 1 (.slice A' m c') m (bE (Nf.bytesOf (l.take j)))∧(∀x∈l.take j,Utf.isScalar x=true)∧Below w.heap.size w wr)
 case atStart=>exact⟨0,none,0,0,rfl,by omega,rfl,rfl,rfl,World.ownsRow_nil _ _ _ _,by simp,Below.refl _ _⟩
 case round=>
  obtain⟨j,A',c',m,au,hj,rfl,rfl,hm,ho,hsc,hb⟩:=hrel;have Hg:=ap au;have HO:=ap ho;have bt:=ap hsc;have HB:=ap hb;have Hm:=ap hm;clear au ho hsc hb hm
  by_cases hlt:j<L
  ·obtain⟨r,ir⟩:∃r,l[j]?=some r:=⟨_,List.getElem?_eq_getElem (by rw[HL.o];exact hlt)⟩;obtain⟨gb,off,rfl,dC,hcell⟩:=HR.o.2 (by omega);have y0:wr.cell? ⟨gb,off+j,none⟩=some (.int .i64 r):=(HB.o.cell dC).trans (hcell j _ (by unfold aq;rw[List.getElem?_map,ir];rfl));have HN:=ap (Nf.RY ir);have zT:=ap ir;have gS:m≤400000000:=by rw[Hm.o];refine Nat.le_trans (Nf.J1 _) ?_;rw[List.length_take];omega
   clear hcell ir
   cases fL:Utf.isScalar r with
   | false=>
    have HP:=ap (uS.o r wr fL)
    have HV:=ap (show nU l=.tuple #[.string ⟨#[]⟩,.bool false] by
     unfold nU Nf.jT
     rw[if_neg (fun h=>by
      have:=List.all_eq_true.1 h r (List.mem_of_getElem? zT.o);rw[fL] at this
      cases this)])
    clear fL
    go_wp2_with fail
    refine HP.o.mono ?_;rintro e w2 ⟨rfl,hw2⟩;subst hw2;dsimp only;go_wp2;go_ret2;exact⟨by rw[HV.o];rfl,HB.o⟩
   | true=>
    have HP:=ap (IU.o r wr fL);have Jy:=ap fL;have cP:((Utf.put r).map bv).length≤4:=by rw[List.length_map];exact zj r
    obtain⟨pl,hpl⟩:∃pl,(Utf.put r).map bv=pl:=⟨_,rfl⟩;unfold ln gY at HP;rw[hpl] at cP HP HN;clear fL hpl
    go_wp2_with fail
    refine HP.o.mono ?_;rintro e w2 ⟨rfl,af⟩;have HT:=ap (show fS (aa pl) pl from aZ pl);have ag:=ap (HB.o.trans (af.mono HB.o.size));have aK:=ap (CZ HO.o af);have aN:=ag.o.size;have DV:=ap cP;clear af;dsimp only
    go_wp2_with (at_builtin;go_loud (refine OM w2 rfl (.tmp 24) (.tmp 25) 50 9 rfl w.heap.size 5 Tryz.underlying50 Tryz.underlying9 wM _ m (Nf.bytesOf (l.take j)) rfl aK.o (aa pl) pl HT.o rfl (by omega) aN ?_);intro A3 c3 w3 b7 bz;have cf:=ap b7;have aw:=ap (ag.o.grown bz ag.o.size (fun k e=>(aD aK.o k e).1));clear b7 bz)
    go_roundg (L-(j+1))
    case measure=>have:=Hg.o;omega
    case rel=>
     refine⟨j+1,A3,c3,m+pl.length,rfl,by omega,by first|rfl|go_num,rfl,by rw[HN.o,List.length_append,←Hm.o],by rw[HN.o];exact cf.o,?_,aw.o⟩;rw[ux zT.o];intro x hx
     rcases List.mem_append.1 hx with hx|hx
     ·exact bt.o x hx
     rw[List.mem_singleton] at hx;subst hx;exact Jy.o
  have yq:j=L:=by omega
  have eF:l.take j=l:=List.take_of_length_le (by rw[HL.o];omega);have HT:=ap eF;have aK:=ap (show wr.ownsRow w.heap.size 5 1 (.slice A' m c') m (bE (Nf.bytesOf l)) by have:=HO.o;rwa[eF] at this)
  have HV:=ap (show nU l=.tuple #[.string (aa (Nf.bytesOf l)),.bool true] by
    have hh:=bt.o;rw[eF] at hh;unfold nU Nf.jT;rw[if_pos (List.all_eq_true.2 hh)])
  clear yq eF
  go_wp2_with (refine nW rfl 50 9 5 _ rfl Tryz.underlying50 Tryz.underlying5 Tryz.underlying9 w.heap.size _ m (by rfl) (Nf.bytesOf l) aK.o ?_;intro t ht;have Ht:=ap (NX ht);clear ht)
  go_ret2;exact⟨by rw[HV.o,←Ht.o];rfl,HB.o⟩
end
section
namespace Nf
def carry(c:Int):List Int→List Int
 | []=>[c]
 | b :: l=>if 0<cls b∧cls b<cls c then b :: carry c l else c :: carry b l
def pass:List Int→List Int
 | []=>[]
 | c :: l=>carry c l
def r8:Nat→List Int→List Int
 | 0,l=>l
 | n+1,l=>r8 n (pass l)
theorem R8:∀(l:List Int) (c:Int),(carry c l).length=l.length+1
 | [],c=>rfl
 | b :: l,c=>by
  unfold carry
  split<;>rw[List.length_cons,R8 l,List.length_cons]
theorem ai8:∀l:List Int,(pass l).length=l.length
 | []=>rfl
 | c :: l=>R8 l c
theorem VQ{a b:Int}(h:cls b<cls a):∀acc:List Int,ins b (ins a acc)=ins a (ins b acc)
 | []=>by
  have e1:ins b [a]=[b,a]:=by rw[ins,if_pos h]
  have e2:ins a [b]=[b,a]:=by rw[ins,if_neg (by omega)];rfl
  show ins b [a]=ins a [b];rw[e1,e2]
 | y :: l=>by
  by_cases h1:cls b<cls y
  ·by_cases h2:cls a<cls y
   ·have e1:ins a (y :: l)=a :: y :: l:=by rw[ins,if_pos h2]
    have e2:ins b (y :: l)=b :: y :: l:=by rw[ins,if_pos h1]
    rw[e1,e2,ins,if_pos h,ins,if_neg (by omega),e1]
   have e1:ins a (y :: l)=y :: ins a l:=by rw[ins,if_neg h2]
   have e2:ins b (y :: l)=b :: y :: l:=by rw[ins,if_pos h1]
   rw[e1,e2,ins,if_pos h1,ins,if_neg (by omega),e1]
  have e1:ins a (y :: l)=y :: ins a l:=by rw[ins,if_neg (by omega)]
  have e2:ins b (y :: l)=y :: ins b l:=by rw[ins,if_neg h1]
  rw[e1,e2,ins,if_neg h1,ins,if_neg (by omega),VQ h l]
theorem Yk{a b:Int}(h:cls b<cls a)(P M:List Int):az (P++a :: b :: M)=az (P++b :: a :: M):=by
 unfold az;rw[List.foldl_append,List.foldl_append,List.foldl_cons,List.foldl_cons,List.foldl_cons,List.foldl_cons,VQ h]
theorem CM(n:Nat)(r:Int)(l:List Int):runs (n+1) (r :: l)=(r :: marks l) :: runs n (l.drop (marks l).length):=by rw[runs]
theorem wR{b:Int}(h:0<cls b)(l:List Int):marks (b :: l)=b :: marks l:=by
 unfold marks;rw[List.takeWhile_cons,if_pos (by simpa using h)]
theorem YD{a b:Int}(h0:0<cls b)(h:cls b<cls a)(Y:List Int):∀(n:Nat) (P:List Int),(runs n (P++a :: b :: Y)).flatMap az=(runs n (P++b :: a :: Y)).flatMap az
 | 0,_=>by simp[runs]
 | n+1,[]=>by
  rw[List.nil_append,List.nil_append,CM,CM,wR h0,wR (show 0<cls a by omega),List.flatMap_cons,List.flatMap_cons];rw[List.length_cons,List.length_cons,List.drop_succ_cons,List.drop_succ_cons];have:=Yk h [] (marks Y);rw[List.nil_append,List.nil_append] at this;rw[this]
 | n+1,p :: P=>by
  rw[List.cons_append,List.cons_append,CM,CM,List.flatMap_cons,List.flatMap_cons]
  have e:∀X:List Int,marks (P++X)=if (marks P).length=P.length then P++marks X else marks P:=fun X=>by
   unfold marks;exact List.takeWhile_append
  rw[e,e]
  by_cases hp:(marks P).length=P.length
  ·rw[if_pos hp,if_pos hp,wR (show 0<cls a by omega),wR h0,wR h0,wR (show 0<cls a by omega)];have h1:=Yk h (p :: P) (marks Y);rw[List.cons_append,List.cons_append] at h1;rw[h1];congr 2
   have e2:∀u v:Int,(P++u :: v :: Y).drop (P++u :: v :: marks Y).length=Y.drop (marks Y).length:=fun u v=>by
    rw[List.length_append,List.drop_append];simp
   rw[e2,e2]
  rw[if_neg hp,if_neg hp];have hl:(marks P).length≤P.length:=by unfold marks;exact (List.takeWhile_sublist _).length_le
  rw[List.drop_append_of_le_length hl,List.drop_append_of_le_length hl,YD h0 h Y n]
theorem alJ{a b:Int}(h0:0<cls b)(h:cls b<cls a)(P Y:List Int):sort (P++a :: b :: Y)=sort (P++b :: a :: Y):=by
 unfold sort;rw[YD h0 h Y];simp
theorem NQ:∀(l:List Int) (c:Int) (P:List Int),sort (P++carry c l)=sort (P++c :: l)
 | [],c,P=>rfl
 | b :: l,c,P=>by
  unfold carry;split
  ·rename_i hc
   have:=NQ l c (P++[b]);rw[List.append_assoc,List.append_assoc] at this;exact this.trans (alJ hc.1 hc.2 P l).symm
  have:=NQ l b (P++[c]);rw[List.append_assoc,List.append_assoc] at this;exact this
theorem alH(l:List Int):sort (pass l)=sort l:=by
 cases l with
 | nil=>rfl
 | cons c l=>exact NQ l c []
theorem Yl:∀(n:Nat) (l:List Int),sort (r8 n l)=sort l
 | 0,_=>rfl
 | n+1,l=>(Yl n _).trans (alH l)
def gt(c:Int)(ctx:List Int):Nat:=(ctx.filter fun y=>decide (c<cls y)).length
def Bd(k:Nat):List Int→List Int→Prop
 | _,[]=>True
 | ctx,b :: l=>(cls b=0∨gt (cls b) ctx≤k)∧Bd k (if cls b=0 then [] else b :: ctx) l
theorem AW(c y:Int)(ctx:List Int):gt c (y :: ctx)=(if c<cls y then 1 else 0)+gt c ctx:=by
 unfold gt;rw[List.filter_cons]
 by_cases h:c<cls y
 ·rw[if_pos (by simpa using h),if_pos h,List.length_cons];omega
 rw[if_neg (by simpa using h),if_neg h];omega
theorem aeN(c:Int)(ctx:List Int):gt c ctx≤ctx.length:=by unfold gt;exact List.length_filter_le _ _
theorem KG{c:Int}:∀{ctx:List Int},(∀y∈ctx,cls y≤c)→gt c ctx=0
 | [],_=>rfl
 | y :: ctx,h=>by
  rw[AW,if_neg (by have:=h y (by simp);omega),KG (fun z hz=>h z (by simp[hz]))]
theorem Bd.ctx{k:Nat}:∀{l c1 c2:List Int},(∀c,gt c c1=gt c c2)→Bd k c1 l→Bd k c2 l
 | [],_,_,_,_=>trivial
 | b :: l,c1,c2,h,hb=>by
  unfold Bd at hb ⊢;refine⟨by rw[←h];exact hb.1,?_⟩
  by_cases h0:cls b=0
  ·have h2:=hb.2;rw[if_pos h0] at h2 ⊢;exact h2
  have h2:=hb.2;rw[if_neg h0] at h2 ⊢;exact Bd.ctx (fun c=>by rw[AW,AW,h]) h2
theorem En{k:Nat}:∀(l:List Int) (c:Int) (ctx:List Int),(cls c=0∨∀y∈ctx,cls y≤cls c)→Bd (k+1) (if cls c=0 then [] else c :: ctx) l→Bd k ctx (carry c l)
 | [],c,ctx,h,_=>by
  unfold carry Bd;refine⟨?_,trivial⟩
  rcases h with h|h
  ·exact .inl h
  exact .inr (by rw[KG h];omega)
 | b :: l,c,ctx,h,hb=>by
  have Bn:=(oy b).1;unfold carry
  by_cases hs:0<cls b∧cls b<cls c
  ·rw[if_pos hs]
   have hc:∀y∈ctx,cls y≤cls c:=by
    rcases h with h|h
    ·omega
    exact h
   rw[if_neg (by omega)] at hb;unfold Bd at hb ⊢;rw[if_neg (by omega)] at hb ⊢;obtain⟨h1,h2⟩:=hb;refine⟨.inr ?_,En l c (b :: ctx) (.inr fun y hy=>?_) ?_⟩
   ·rcases h1 with h1|h1
    ·omega
    rw[AW,if_pos hs.2] at h1;omega
   ·rcases List.mem_cons.1 hy with rfl|hy
    ·omega
    exact hc y hy
   rw[if_neg (by omega)];exact Bd.ctx (fun z=>by simp only[AW];omega) h2
  rw[if_neg hs];unfold Bd;refine⟨?_,?_⟩
  ·rcases h with h|h
   ·exact .inl h
   exact .inr (by rw[KG h];omega)
  unfold Bd at hb;obtain⟨_,h2⟩:=hb
  by_cases hc0:cls c=0
  ·rw[if_pos hc0] at h2 ⊢;exact En l b [] (.inr fun y hy=>by cases hy) h2
  rw[if_neg hc0] at h2 ⊢;refine En l b (c :: ctx) ?_ h2
  by_cases dA:cls b=0
  ·exact .inl dA
  refine .inr fun y hy=>?_;have hcn:=(oy c).1
  rcases List.mem_cons.1 hy with rfl|hy
  ·omega
  rcases h with h|h
  ·omega
  have:=h y hy;omega
theorem acw{k:Nat}(l:List Int)(h:Bd (k+1) [] l):Bd k [] (pass l):=by
 cases l with
 | nil=>exact trivial
 | cons c l=>exact En l c [] (.inr fun y hy=>by cases hy) h.2
theorem RL:∀(l ctx:List Int) (k:Nat),ctx.length+l.length≤k→Bd k ctx l
 | [],_,_,_=>trivial
 | b :: l,ctx,k,h=>by
  rw[List.length_cons] at h;unfold Bd;refine⟨.inr (by have:=aeN (cls b) ctx;omega),RL l _ k ?_⟩;split
  ·simp;omega
  rw[List.length_cons];omega
theorem RN:∀(n:Nat) (l:List Int),Bd n [] l→Bd 0 [] (r8 n l)
 | 0,_,h=>h
 | n+1,l,h=>RN n _ (acw l h)
theorem RO:∀(l ctx:List Int),Bd 0 ctx l→(∀b∈marks l,∀y∈ctx,cls y≤cls b)∧Up (marks l)∧Bd 0 [] (l.drop (marks l).length)
 | [],ctx,_=>by
  unfold marks Up;simp[Bd]
 | b :: l,ctx,h=>by
  have Bn:=(oy b).1;unfold Bd at h
  by_cases h0:cls b=0
  ·have e:marks (b :: l)=[]:=by
    unfold marks;rw[List.takeWhile_cons,if_neg (by simp;omega)]
   rw[e];refine⟨fun x hx=>(by cases hx),List.Pairwise.nil,?_⟩;rw[List.length_nil,List.drop_zero];have h2:=h.2;rw[if_pos h0] at h2;unfold Bd;rw[if_pos h0];exact⟨.inl h0,h2⟩
  rw[if_neg h0] at h;obtain⟨h1,h2⟩:=h;obtain⟨i1,i2,i3⟩:=RO l (b :: ctx) h2;rw[wR (by omega)]
  have hz:∀y∈ctx,cls y≤cls b:=fun y hy=>by
   rcases h1 with h1|h1
   ·omega
   unfold gt at h1;have:=List.length_eq_zero_iff.1 (Nat.le_zero.1 h1);rw[List.filter_eq_nil_iff] at this;have:=this y hy;simp at this;exact this
  refine⟨fun x hx y hy=>?_,?_,?_⟩
  ·rcases List.mem_cons.1 hx with rfl|hx
   ·exact hz y hy
   exact i1 x hx y (by simp[hy])
  ·unfold Up at i2 ⊢;rw[List.pairwise_cons];exact⟨fun x hx=>i1 x hx b (by simp),i2⟩
  rw[List.length_cons,List.drop_succ_cons];exact i3
theorem NM:∀(n:Nat) (l:List Int),l.length<n→Bd 0 [] l→(runs n l).flatMap az=l
 | 0,_,h,_=>by omega
 | n+1,[],_,_=>by simp[runs]
 | n+1,r :: t,h,hb=>by
  unfold Bd at hb;obtain⟨i1,i2,i3⟩:=RO t _ hb.2
  have iz:Up (r :: marks t):=by
   unfold Up at i2 ⊢;rw[List.pairwise_cons];refine⟨fun x hx=>?_,i2⟩
   by_cases h0:cls r=0
   ·have:=(oy x).1;omega
   exact i1 x hx r (by rw[if_neg h0];simp)
  have hl:(t.drop (marks t).length).length<n:=by
   rw[List.length_cons] at h;rw[List.length_drop];omega
  rw[CM,List.flatMap_cons,←CT iz (cj.refl _),NM n _ hl i3]
  have e:marks t=t.take (marks t).length:=by
   have h2:marks t <+: t:=by unfold marks;exact List.takeWhile_prefix _
   exact List.prefix_iff_eq_take.1 h2
  rw[List.cons_append]
  conv=>lhs;rw[e]
  have h3:(t.take (marks t).length).length=(marks t).length:=by rw[←e]
  rw[h3,List.take_append_drop]
theorem RU(l:List Int):r8 l.length l=sort l:=by
 have h:=RN l.length l (RL l [] l.length (by simp));rw[←Yl l.length l];unfold sort;exact (NM _ _ (by omega) h).symm
end Nf
end
section
namespace Nf
def mn(out:List Int)(st c:Int):Bool:=decide (st<0)||(out.drop (st+1).toNat).any fun x=>decide (cls x=0)||decide (c≤cls x)
def pM(s:List Int×Int)(r:Int):List Int×Int :=
 match (if mn s.1 s.2 (cls r)=true then none else whole (s.1.getD s.2.toNat 0) r) with
 | some w=>(s.1.set s.2.toNat w,s.2)
 | none=>(s.1++[r],if cls r=0 then s.1.length else s.2)
def EE(l:List Int):List Int:=(l.foldl pM ([],-1)).1
structure sV(s:Cs)(d:List Int×Int):Prop where
 o:s.o=d.1
 st:s.st=d.2
 lo : -1≤s.st
 up:s.st<s.o.length
 le:0≤s.st→∀x∈s.o.drop (s.st+1).toNat,0<cls x∧cls x≤s.hi
 hi:0≤s.st→s.hi = -1∨∃x∈s.o.drop (s.st+1).toNat,cls x=s.hi
theorem sV.blocked{s:Cs}{d:List Int×Int}(h:sV s d)(c:Int)(hc:0≤c):mn d.1 d.2 c = !decide (0≤s.st∧s.hi<c):=by
 unfold mn;rw[←h.o,←h.st]
 by_cases h0:0≤s.st
 ·rw[decide_eq_false (by omega),Bool.false_or]
  by_cases hh:s.hi<c
  ·rw[decide_eq_true ⟨h0,hh⟩,Bool.not_true,List.any_eq_false];intro x hx;have:=h.le h0 x hx;simp;omega
  rw[decide_eq_false (fun e=>hh e.2),Bool.not_false,List.any_eq_true]
  rcases h.hi h0 with e|⟨x,hx,e⟩
  ·omega
  exact⟨x,hx,by simp;omega⟩
 rw[decide_eq_true (by omega),Bool.true_or,decide_eq_false (fun e=>h0 e.1)];rfl
theorem sV.step{s:Cs}{d:List Int×Int}(h:sV s d)(r:Int):sV (gN s r) (pM d r):=by
 have hb:=h.blocked (cls r) (oy r).1;have wA:=h.lo;have iz:=h.up;unfold gN pM;rw[hb]
 have e:(if (!decide (0≤s.st∧s.hi<cls r))=true then none else whole (d.1.getD d.2.toNat 0) r)=(if 0≤s.st∧s.hi<cls r then whole (s.o.getD s.st.toNat 0) r else none):=by
  rw[←h.o,←h.st]
  by_cases hc:0≤s.st∧s.hi<cls r
  ·rw[decide_eq_true hc,if_pos hc];simp
  rw[decide_eq_false hc,if_neg hc];simp
 rw[e]
 cases hw:(if 0≤s.st∧s.hi<cls r then whole (s.o.getD s.st.toNat 0) r else none) with
 | some w=>
  dsimp only
  have hc:0≤s.st:=by
   by_cases hc:0≤s.st∧s.hi<cls r
   ·exact hc.1
   rw[if_neg hc] at hw;cases hw
  have ed:(s.o.set s.st.toNat w).drop (s.st+1).toNat=s.o.drop (s.st+1).toNat:=List.drop_set_of_lt (by omega)
  exact⟨by rw[h.o,h.st],h.st,wA,by rw[List.length_set];exact iz,fun h0 x hx=>h.le h0 x (ed▸hx),fun h0=>by
   rcases h.hi h0 with e|⟨x,hx,e⟩
   ·exact .inl e
   exact .inr ⟨x,by dsimp only;rw[ed];exact hx,e⟩⟩
 | none=>
  dsimp only
  by_cases hr:cls r=0
  ·rw[if_pos hr,if_pos hr];have ed:(s.o++[r]).drop (((s.o.length:Nat):Int)+1).toNat=[]:=List.drop_eq_nil_of_le (by rw[List.length_append,List.length_singleton];omega);exact⟨by rw[h.o],by rw[h.o],by show (-1:Int)≤((s.o.length:Nat):Int);omega,by show ((s.o.length:Nat):Int)<_;rw[List.length_append,List.length_singleton];omega,fun _ x hx=>(by dsimp only at hx;rw[ed] at hx;cases hx),fun _=>.inl rfl⟩
  rw[if_neg hr,if_neg hr];have hc0:=(oy r).1;have ed:0≤s.st→(s.o++[r]).drop (s.st+1).toNat=s.o.drop (s.st+1).toNat++[r]:=fun h0=>List.drop_append_of_le_length (by omega);refine⟨by rw[h.o],h.st,wA,by dsimp only;rw[List.length_append];omega,fun h0 x hx=>?_,fun h0=>?_⟩
  ·dsimp only at h0 hx ⊢;rw[ed h0] at hx
   rcases List.mem_append.1 hx with hx|hx
   ·have:=h.le h0 x hx;omega
   rw[List.mem_singleton.1 hx];omega
  dsimp only at h0 ⊢;rw[ed h0];refine .inr ?_
  by_cases hm:s.hi≤cls r
  ·exact⟨r,by simp,by omega⟩
  rcases h.hi h0 with e|⟨x,hx,e⟩
  ·omega
  exact⟨x,by simp[hx],by omega⟩
theorem MN:∀(l:List Int) (s:Cs) (d:List Int×Int),sV s d→sV (l.foldl gN s) (l.foldl pM d)
 | [],_,_,h=>h
 | r :: l,s,d,h=>MN l _ _ (h.step r)
theorem adf(l:List Int):EE l=compose l :=
 (MN l ⟨[],-1,-1⟩ ([],-1) ⟨rfl,rfl,by decide,by decide,fun h=>absurd h (by decide),fun h=>absurd h (by decide)⟩).o.symm
end Nf
end
section
namespace Nf
structure Pr where
 w:Int
 f:Int
 s:Int
def dr:List (Int×List Int) :=
 [(0x300,[65,0xC0,69,0xC8,73,0xCC,79,0xD2,85,0xD9,97,0xE0,101,0xE8,105,0xEC,111,0xF2,117,0xF9]),
  (0x301,[65,0xC1,69,0xC9,73,0xCD,79,0xD3,85,0xDA,89,0xDD,97,0xE1,101,0xE9,105,0xED,111,0xF3,117,0xFA,121,0xFD,0xEA,0x1EBF,0xFC,0x1D8]),
  (0x302,[65,0xC2,69,0xCA,73,0xCE,79,0xD4,85,0xDB,97,0xE2,101,0xEA,105,0xEE,111,0xF4,117,0xFB,0x1EB9,0x1EC7]),
  (0x303,[65,0xC3,78,0xD1,79,0xD5,97,0xE3,110,0xF1,111,0xF5]),
  (0x304,[0xFC,0x1D6]),
  (0x306,[0x418,0x419,0x438,0x439]),
  (0x308,[65,0xC4,69,0xCB,73,0xCF,79,0xD6,85,0xDC,97,0xE4,101,0xEB,105,0xEF,111,0xF6,117,0xFC,121,0xFF,0x415,0x401,0x435,0x451]),
  (0x30A,[65,0xC5,97,0xE5]),
  (0x30C,[67,0x10C,83,0x160,90,0x17D,99,0x10D,115,0x161,122,0x17E]),
  (0x323,[101,0x1EB9]),
  (0x327,[67,0xC7,99,0xE7])]
def mO(m:Int):List Int→List Pr
 | a :: w :: l=>⟨w,a,m⟩ :: mO m l
 | _=>[]
def mq(l:List Pr)(p:Pr):List Pr:=l.takeWhile (fun x=>decide (x.w<p.w))++p :: l.dropWhile (fun x=>decide (x.w<p.w))
def oz:List Pr:=[⟨0x340,0x300,0⟩,⟨0x341,0x301,0⟩,⟨0x2126,0x3A9,0⟩,⟨0x212A,75,0⟩,⟨0x212B,0xC5,0⟩]
def iE:List Pr:=(dr.flatMap fun x=>mO x.1 x.2).foldl mq []++oz
def mK(r:Int):List Pr→Option (Int×Int)
 | []=>none
 | x :: l=>if x.w=r then some (x.f,x.s) else mK r l
def lW(a b:Int):List Pr→Option Int
 | []=>none
 | x :: l=>if x.f=a∧x.s=b∧b≠0 then some x.w else lW a b l
def EF(r:Int):Option (Int×Int) :=
 if gA r then
  if 0<(r-0xAC00) % 28 then some (r-(r-0xAC00) % 28,0x11A7+(r-0xAC00) % 28)
  else some (0x1100+(r-0xAC00) / 28 / 21,0x1161+(r-0xAC00) / 28 % 21)
 else mK r iE
def EI(a b:Int):Option Int :=
 if (0x1100≤a∧a<0x1100+19)∧(0x1161≤b∧b<0x1161+21) then some (0xAC00+((a-0x1100)*21+b-0x1161)*28)
 else if gA a=true∧(a-0xAC00) % 28=0∧(0x11A8≤b∧b<0x11A8+27) then some (a+b-0x11A7)
 else lW a b iE
theorem Wn{r:Int}{p:Int×Int}:∀{l:List Pr},mK r l=some p→(⟨r,p.1,p.2⟩:Pr)∈l
 | x :: l,h=>by
  unfold mK at h
  split at h
  ·rename_i hx
   cases h;rw[←hx];exact List.mem_cons_self ..
  exact List.mem_cons_of_mem _ (Wn h)
theorem Wo{r:Int}:∀{l:List Pr},mK r l=none→∀x∈l,x.w≠r
 | y :: l,h,x,hx=>by
  unfold mK at h
  split at h
  ·cases h
  rename_i hy
  rcases List.mem_cons.1 hx with rfl|hx
  ·exact hy
  exact Wo h x hx
theorem MQ{a b v:Int}:∀{l:List Pr},lW a b l=some v→(⟨v,a,b⟩:Pr)∈l∧b≠0
 | x :: l,h=>by
  unfold lW at h
  split at h
  ·rename_i hx
   cases h;rw[←hx.1,←hx.2.1];exact⟨List.mem_cons_self ..,by rw[hx.2.1];exact hx.2.2⟩
  exact⟨List.mem_cons_of_mem _ (MQ h).1,(MQ h).2⟩
theorem Wp{a b:Int}:∀{l:List Pr},lW a b l=none→∀x∈l,¬(x.f=a∧x.s=b∧b≠0)
 | y :: l,h,x,hx=>by
  unfold lW at h
  split at h
  ·cases h
  rename_i hy
  rcases List.mem_cons.1 hx with rfl|hx
  ·exact hy
  exact Wp h x hx
theorem yL{p:Int×Int}{v:Int}:∀{l:List ((Int×Int)×Int)},lookW p l=some v→(p,v)∈l
 | x :: l,h=>by
  unfold lookW at h
  split at h
  ·rename_i hx
   cases h;rw[←hx];exact List.mem_cons_self ..
  exact List.mem_cons_of_mem _ (yL h)
def N8(r:Int):Option (Int×Int):=match fj r table with
 | some p=>some p
 | none=>(jQ r ki).map fun a=>(a,0)
theorem aiV:∀x∈iE,N8 x.w=some (x.f,x.s):=by decide +kernel
theorem amv:∀x∈table,∃y∈iE,y.w=x.2:=by decide +kernel
theorem adx:∀x∈ki,∃y∈iE,y.w=x.1:=by decide +kernel
theorem aiW:∀x∈iE,x.s≠0→lookW (x.f,x.s) table=some x.w:=by decide +kernel
theorem amz:∀x∈table,x.1.2≠0∧∃y∈iE,y.f=x.1.1∧y.s=x.1.2:=by decide +kernel
theorem ads(r:Int):EF r=made r:=by
 unfold EF made;split
 ·rfl
 show mK r iE=N8 r
 cases h:mK r iE with
 | some p=>exact (aiV _ (Wn h)).symm
 | none=>
  have hn:=Wo h;unfold N8
  cases h2:fj r table with
  | some p=>
   obtain⟨y,hy,e⟩:=amv _ (yK h2);exact absurd e (hn y hy)
  | none=>
   cases h3:jQ r ki with
   | some a=>
    obtain⟨y,hy,e⟩:=adx _ (Gn h3);exact absurd e (hn y hy)
   | none=>rfl
theorem adD(a b:Int):EI a b=whole a b:=by
 unfold EI whole;split
 ·rfl
 split
 ·rfl
 cases h:lW a b iE with
 | some v=>
  obtain⟨h1,h2⟩:=MQ h;exact (aiW _ h1 h2).symm
 | none=>
  have hn:=Wp h
  cases h2:lookW (a,b) table with
  | some v=>
   obtain⟨h3,y,hy,e1,e2⟩:=amz _ (yL h2);exact absurd ⟨e1,e2,h3⟩ (hn y hy)
  | none=>rfl
end Nf
end
section
open Go.RowKit Go.WideShapes

theorem ajU(w:World):Calls Tryz.prog 239 #[] w fun e w'=>e=.returned (.slice (some ⟨w.heap.size,0,none⟩) 10 10)∧w'=w.alloc (.cells #[.int .i64 832,.int .i64 768,.int .i64 833,.int .i64 769,.int .i64 8486,.int .i64 937,.int .i64 8490,.int .i64 75,.int .i64 8491,.int .i64 197] 3):=by
 go_enter Tryz.func239,Tryz.ntmps239
 go_wp2;go_ret;exact⟨rfl,rfl⟩
def laid(w:World):List Obj→World
 | []=>w
 | o :: l=>laid (w.alloc o) l
def pg(x:Int×List Int):Obj:=.cells (aq x.2).toArray 3
def mQ:Nat→List (Int×List Int)→List Value
 | _,[]=>[]
 | Z,x :: l=>.int .i64 x.1 :: .slice (some ⟨Z,0,none⟩) x.2.length x.2.length :: mQ (Z+1) l
theorem akd(w:World):Calls Tryz.prog 237 #[] w fun e w'=>e=.returned (.slice (some ⟨w.heap.size+11,0,none⟩) 11 11)∧w'=(laid w (Nf.dr.map pg)).alloc (.cells (mQ w.heap.size Nf.dr).toArray 297):=by
 go_enter Tryz.func237,Tryz.ntmps237
 go_wp2;go_ret;exact⟨rfl,rfl⟩
end
end Go.Proofs.YtpdkeckeekchlaaGreatDoor
