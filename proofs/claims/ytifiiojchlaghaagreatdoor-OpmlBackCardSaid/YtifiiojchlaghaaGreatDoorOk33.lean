/- Outlines written: the tokens of what is written, and what a parse makes of them; no program in sight. And more. -/
import Derived.Test.YtifiiojchlaghaaGreatDoorOk29
import Derived.Test.YtifiiojchlaghaaGreatDoorOk32
set_option linter.unusedSimpArgs false
set_option linter.unusedVariables false
namespace Go.Proofs.YtifiiojchlaghaaGreatDoor
section
open Go Tk Sx
namespace Opm
def nHead:Nm:=⟨[],[104,101,97,100]⟩
def nVersion:Nm:=⟨[],[118,101,114,115,105,111,110]⟩
def IsOne(x:Dcl)(t:Tok):Prop:=∃a1 a2 k e,t=⟨0,nOutline.loc,[⟨nText.loc,Tx.escape true x.ns,a1⟩,⟨nUrl.loc,Tx.escape true x.pre,a2⟩],true,[],k,e⟩
theorem name_of{p:L}(h:(Utf.valid p&&(Utf.from_ 0 p).all fun q=>nameOk q.1 q.2)=true):Name p:=by
 simp only[Bool.and_eq_true,List.all_eq_true] at h;exact h
theorem eqW{e:L}(h:(34:UInt8)∉e):EqW (61 :: 34 :: (e++[34])) e:=⟨[],[],34,rfl,rfl,.inl rfl,h,rfl⟩
theorem one_tok(at_:Nat)(x:Dcl):∃t,TokW at_ (one x) t∧IsOne x t:=by
 have key:∀W,60 :: (nOutline.loc++([32]++(nText.loc++((61 :: 34 :: (Tx.escape true x.ns++[34]))++([32]++(nUrl.loc++((61 :: 34 :: (Tx.escape true x.pre++[34]))++([]++[47,62]))))))))=W→∃t,TokW at_ W t∧IsOne x t:=by
  rintro _ rfl
  exact⟨_,.start at_ nOutline.loc _ _ true (name_of (by kernel_rfl)) (by decide) (.more _ [32] nText.loc _ _ _ _ _ rfl (by simp) (name_of (by kernel_rfl)) (by decide) (eqW fun h=>(escape_mem h).2.1 rfl) (fun h=>(escape_mem h).1 rfl)
   (.more _ [32] nUrl.loc _ _ _ _ _ rfl (by simp) (name_of (by kernel_rfl)) (by decide) (eqW fun h=>(escape_mem h).2.1 rfl) (fun h=>(escape_mem h).1 rfl) (.two _ [] rfl))),_,_,_,_,rfl⟩
 exact key _ (by simp[one,c1,c2,c3,nOutline,nText,nUrl])
def Ones:List Dcl→List Tok→Prop
 | [],ts=>ts=[]
 | x :: l,ts=>∃t r,ts=t :: r∧IsOne x t∧Ones l r
theorem ones_row:∀(l:List Dcl) (at_:Nat) (rest:L),(∀x∈l,fine (one x)=true)→∃ts,Row at_ (l.flatMap one) rest ts∧Ones l ts
 | [],at_,rest,_=>⟨[],.nil _ _,rfl⟩
 | x :: l,at_,rest,h=>by
  obtain⟨t,h1,h2⟩:=one_tok at_ x;obtain⟨ts,h3,h4⟩:=ones_row l (at_+(one x).length) rest fun y hy=>h y (List.mem_cons_of_mem _ hy);refine⟨t :: ts,?_,t,ts,rfl,h2,h4⟩;rw[List.flatMap_cons];refine .cons at_ (one x) t _ rest ts h1 (h x (List.mem_cons_self ..)) (fun hk=>?_) h3;obtain⟨_,_,_,_,rfl⟩:=h2;exact absurd hk (by simp)
theorem ones_len:∀{l:List Dcl} {ts:List Tok},Ones l ts→ts.length=l.length
 | [],_,h=>by rw[show _=_ from h];rfl
 | x :: l,_,⟨t,r,rfl,_,h⟩=>by rw[List.length_cons,ones_len h,List.length_cons]
theorem ones_mem:∀{l:List Dcl} {ts:List Tok},Ones l ts→∀t∈ts,∃x∈l,IsOne x t
 | [],_,h,t,ht=>by rw[show _=_ from h] at ht;cases ht
 | x :: l,_,⟨t,r,rfl,h1,h⟩,u,hu=>by
  rcases List.mem_cons.1 hu with rfl|hu
  ·exact⟨x,List.mem_cons_self ..,h1⟩
  obtain⟨y,hy,h2⟩:=ones_mem h u hu;exact⟨y,List.mem_cons_of_mem _ hy,h2⟩
def tA:Tok:=⟨0,nOpml.loc,[⟨nVersion.loc,[50,46,48],6⟩],false,[],0,20⟩
def tB:Tok:=⟨0,nHead.loc,[],true,[],20,27⟩
def tC:Tok:=⟨0,nBody.loc,[],false,[],27,33⟩
def tD(k:Nat):Tok:=⟨1,nBody.loc,[],false,[],k,k+7⟩
def tE(k:Nat):Tok:=⟨1,nOpml.loc,[],false,[],k,k+7⟩
theorem head_row(rest:L):Row 0 c0 rest [tA,tB,tC]:=by
 have wA:TokW 0 [60,111,112,109,108,32,118,101,114,115,105,111,110,61,34,50,46,48,34,62] tA :=
  .start 0 nOpml.loc _ _ false (name_of (by kernel_rfl)) (by decide) (.more _ [32] nVersion.loc (61 :: 34 :: ([50,46,48]++[34])) [50,46,48] _ _ _ rfl (by simp) (name_of (by kernel_rfl)) (by decide) (eqW (by decide)) (by decide) (.one _ [] rfl))
 have wB:TokW 20 [60,104,101,97,100,47,62] tB:=.start 20 nHead.loc _ _ true (name_of (by kernel_rfl)) (by decide) (.two _ [] rfl);have wC:TokW 27 [60,98,111,100,121,62] tC:=.start 27 nBody.loc _ _ false (name_of (by kernel_rfl)) (by decide) (.one _ [] rfl);exact .cons 0 _ tA _ rest _ wA (by kernel_rfl) (fun h=>absurd h (by decide)) (.cons 20 _ tB _ rest _ wB (by kernel_rfl) (fun h=>absurd h (by decide)) (.cons 27 _ tC [] rest _ wC (by kernel_rfl) (fun h=>absurd h (by decide)) (.nil _ _)))
theorem foot_row(k:Nat):Row k c4 [] [tD k,tE (k+7)]:=by
 have wD:TokW k [60,47,98,111,100,121,62] (tD k):=.end_ k nBody.loc [] (name_of (by kernel_rfl)) (by decide) rfl;have wE:TokW (k+7) [60,47,111,112,109,108,62] (tE (k+7)):=.end_ (k+7) nOpml.loc [] (name_of (by kernel_rfl)) (by decide) rfl;exact .cons k _ (tD k) _ [] _ wD (by kernel_rfl) (fun h=>absurd h (by simp[tD])) (.cons (k+7) _ (tE (k+7)) [] [] _ wE (by kernel_rfl) (fun h=>absurd h (by simp[tE])) (.nil _ _))
theorem text_row(l:List Dcl)(h:∀x∈l,fine (one x)=true):∃ts k,Row 0 (text l) [] ([tA,tB,tC]++ts++[tD k,tE (k+7)])∧Ones l ts:=by
 obtain⟨ts,h1,h2⟩:=ones_row l (0+c0.length) (c4++[]) h;exact⟨ts,_,(Row.join (Row.join (head_row _) h1) (foot_row _)),h2⟩
def evsOne(x:Dcl):List Ev:=[⟨0,nOutline,[⟨nText,x.ns⟩,⟨nUrl,x.pre⟩],[]⟩,⟨1,nOutline,[],[]⟩]
def evsA:List Ev:=[⟨0,nOpml,[⟨nVersion,[50,46,48]⟩],[]⟩,⟨0,nHead,[],[]⟩,⟨1,nHead,[],[]⟩,⟨0,nBody,[],[]⟩]
def evsZ:List Ev:=[⟨1,nBody,[],[]⟩,⟨1,nOpml,[],[]⟩]
def evsOf(l:List Dcl):List Ev:=evsA++l.flatMap evsOne++evsZ
def stB(evs:List Ev):St:=⟨[⟨nOpml.loc,nOpml,0⟩,⟨nBody.loc,nBody,0⟩],[],evs,true⟩
theorem run_head:run st0 [tA,tB,tC]=.ok (stB evsA):=by kernel_rfl
theorem valued_one(n:L)(x:L)(a:Nat)(h:splOf ⟨n,Tx.escape true x,a⟩=⟨[],n,[],a⟩):valued ⟨n,Tx.escape true x,a⟩=⟨[],n,x,a⟩:=by
 unfold valued Sx.valOf;rw[h,value_esc]
theorem step_one{x:Dcl}{t:Tok}(h:IsOne x t)(evs:List Ev):Sx.step (stB evs) t=.ok (stB (evs++evsOne x)):=by
 obtain⟨a1,a2,k,e,rfl⟩:=h
 have hs:splits ⟨0,nOutline.loc,[⟨nText.loc,Tx.escape true x.ns,a1⟩,⟨nUrl.loc,Tx.escape true x.pre,a2⟩],true,[],k,e⟩=[⟨[],nText.loc,x.ns,a1⟩,⟨[],nUrl.loc,x.pre,a2⟩]:=by
  unfold splits;simp only[List.map_cons,List.map_nil];rw[valued_one _ _ _ (by kernel_rfl),valued_one _ _ _ (by kernel_rfl)]
 have hv:valsAt [⟨nText.loc,Tx.escape true x.ns,a1⟩,⟨nUrl.loc,Tx.escape true x.pre,a2⟩]=none:=by
  simp only[valsAt,value_esc]
 have he:Sx.early (stB evs) ⟨0,nOutline.loc,[⟨nText.loc,Tx.escape true x.ns,a1⟩,⟨nUrl.loc,Tx.escape true x.pre,a2⟩],true,[],k,e⟩=none:=by kernel_rfl
 have hl:Sx.late (stB evs) ⟨0,nOutline.loc,[⟨nText.loc,Tx.escape true x.ns,a1⟩,⟨nUrl.loc,Tx.escape true x.pre,a2⟩],true,[],k,e⟩=none:=by
  unfold Sx.late Sx.scope';rw[hv,hs]
  kernel_rfl
 have hd:Sx.closeSt (Sx.started (stB evs) ⟨0,nOutline.loc,[⟨nText.loc,Tx.escape true x.ns,a1⟩,⟨nUrl.loc,Tx.escape true x.pre,a2⟩],true,[],k,e⟩)=stB (evs++[⟨0,nOutline,[⟨nText,x.ns⟩,⟨nUrl,x.pre⟩],[]⟩]++[⟨1,nOutline,[],[]⟩]):=by
  unfold Sx.started Sx.scope';rw[hs]
  kernel_rfl
 unfold Sx.step;rw[if_pos rfl];unfold Sx.start;rw[he];dsimp only;rw[hl];dsimp only;rw[if_pos rfl,hd,List.append_assoc];rfl
theorem run_ones:∀{l:List Dcl} {ts:List Tok},Ones l ts→∀evs,run (stB evs) ts=.ok (stB (evs++l.flatMap evsOne))
 | [],_,h,evs=>by rw[show _=_ from h];simp[run]
 | x :: l,_,⟨t,r,rfl,h1,h⟩,evs=>by
  rw[run,step_one h1];dsimp only;rw[run_ones h,List.flatMap_cons,List.append_assoc]
theorem run_foot(k:Nat)(evs:List Ev):run (stB evs) [tD k,tE (k+7)]=.ok ⟨[],[],evs++evsZ,true⟩:=by
 have:run (stB evs) [tD k,tE (k+7)]=.ok ⟨[],[],evs++[⟨1,nBody,[],[]⟩]++[⟨1,nOpml,[],[]⟩],true⟩:=by kernel_rfl
 rw[this,List.append_assoc];rfl
theorem fine_one{x:Dcl}(h1:fine x.ns=true)(h2:fine x.pre=true):fine (one x)=true:=by
 unfold one;exact fine_both (fine_both (fine_both (fine_both (by kernel_rfl) (fine_escape _ _ (Nat.le_refl _) h1)) (by kernel_rfl)) (fine_escape _ _ (Nat.le_refl _) h2)) (by kernel_rfl)
theorem fine_ones:∀{l:List Dcl},(∀x∈l,fine (one x)=true)→fine (l.flatMap one)=true
 | [],_=>by kernel_rfl
 | x :: l,h=>by
  rw[List.flatMap_cons];exact fine_both (h x (List.mem_cons_self ..)) (fine_ones fun y hy=>h y (List.mem_cons_of_mem _ hy))
theorem fine_text{l:List Dcl}(h:∀x∈l,fine (one x)=true):fine (text l)=true:=fine_both (fine_both (by kernel_rfl) (fine_ones h)) (by kernel_rfl)
theorem last_one(x:Dcl):(one x).getLast?=some 62:=by
 unfold one c3;simp
theorem nb_one(x:Dcl):Nb (one x):=by
 have no:∀y:L,Nb (Tx.escape true y)∧(Tx.escape true y).getLast?≠some 60:=fun y=>⟨Nb.no fun h=>(escape_mem h).1 rfl,fun h=>(escape_mem (List.mem_of_getLast? h)).1 rfl⟩
 have last:∀(a b:L),b≠[]→b.getLast?≠some 60→(a++b).getLast?≠some 60:=fun a b h1 h2=>by
  rw[List.getLast?_append];obtain⟨z,hz⟩:∃z,b.getLast?=some z:=⟨_,List.getLast?_eq_some_getLast h1⟩;rw[hz] at h2 ⊢;exact h2
 have last2:∀(a b:L),a.getLast?≠some 60→b.getLast?≠some 60→(a++b).getLast?≠some 60:=fun a b h1 h2=>by
  by_cases hb:b=[]
  ·rw[hb,List.append_nil];exact h1
  exact last a b hb h2
 unfold one;refine ((((Nb.of (by kernel_rfl)).app (no _).1 (by decide)).app (Nb.of (by kernel_rfl)) ?_).app (no _).1 ?_).app (Nb.of (by kernel_rfl)) ?_
 ·exact last2 _ _ (by decide) (no _).2
 ·exact last _ _ (by decide) (by decide)
 exact last2 _ _ (last _ _ (by decide) (by decide)) (no _).2
theorem nb_ones:∀l:List Dcl,Nb (l.flatMap one)∧(l.flatMap one).getLast?≠some 60
 | []=>⟨Nb.no (by simp),by simp⟩
 | x :: l=>by
  obtain⟨h1,h2⟩:=nb_ones l;rw[List.flatMap_cons];refine⟨(nb_one x).app h1 (by rw[last_one];decide),?_⟩;rw[List.getLast?_append,last_one]
  cases hl:(l.flatMap one).getLast? with
  | none=>decide
  | some z=>rw[hl] at h2;exact h2
theorem nb_text(l:List Dcl):Nb (text l):=by
 unfold text;refine ((Nb.of (by kernel_rfl)).app (nb_ones l).1 (by decide)).app (Nb.of (by kernel_rfl)) ?_;rw[List.getLast?_append]
 cases hl:(l.flatMap one).getLast? with
 | none=>decide
 | some z=>
  have:=(nb_ones l).2;rw[hl] at this;exact this
theorem cr_text(l:List Dcl):(13:UInt8)∉text l:=by
 unfold text;intro h;simp only[List.mem_append,List.mem_flatMap] at h
 rcases h with (h|⟨x,-,h⟩) | h
 ·exact absurd h (by decide)
 ·unfold one at h;simp only[List.mem_append] at h
  rcases h with (((h|h) | h) | h) | h
  ·exact absurd h (by decide)
  ·exact (escape_mem h).2.2.1 rfl
  ·exact absurd h (by decide)
  ·exact (escape_mem h).2.2.1 rfl
  exact absurd h (by decide)
 exact absurd h (by decide)
theorem text_read{l:List Dcl}(hf:∀x∈l,fine x.ns=true∧fine x.pre=true)(hs:∀x∈l,x.pre.length≤300∧x.ns.length≤300)(hl:l.length≤70) :
  Sx.parse (text l)=.ok (evsOf l)∧fine (text l)=true∧SmlT (text l)∧SmlS (text l):=by
 have hfo:∀x∈l,fine (one x)=true:=fun x hx=>fine_one (hf x hx).1 (hf x hx).2;have hft:=fine_text hfo;obtain⟨ts,k,hr,ho⟩:=text_row l hfo;have ht:=toks_row hr (.inl rfl) (text l).length (by rw[List.append_nil];exact Nat.le_refl _);rw[List.append_nil] at ht;have he:=row_last hr (by simp);rw[Nat.zero_add] at he
 have hrun:run st0 ([tA,tB,tC]++ts++[tD k,tE (k+7)])=.ok ⟨[],[],evsOf l,true⟩:=by
  rw[List.append_assoc,run_app,run_head];dsimp only;rw[run_app,run_ones ho];dsimp only;exact run_foot k _
 have hb:¬0≤bad (text l):=fun h=>by
  have hbf:=bad_fine (text l);rw[hft,decide_eq_true h] at hbf;cases hbf
 refine⟨?_,hft,smlT_row hft (nb_text l),smlS_toks ht (fun t h=>?_) ?_⟩
 ·unfold Sx.parse;rw[if_neg hb,ht,if_neg (fun h=>h he),hrun];exact if_pos ⟨rfl,rfl⟩
 ·rcases List.mem_append.1 h with h|h
  ·rcases List.mem_append.1 h with h|h
   ·simp only[List.mem_cons,List.not_mem_nil,or_false] at h
    rcases h with rfl|rfl|rfl
    ·exact⟨by decide,by decide,by decide,by decide,by decide⟩
    ·exact⟨by decide,by decide,by decide,by decide,by decide⟩
    exact⟨by decide,by decide,by decide,by decide,by decide⟩
   obtain⟨x,hx,a1,a2,k,e,rfl⟩:=ones_mem ho t h;refine⟨by simp[nOutline],by simp,by simp,fun a ha=>?_,.inl rfl⟩;have h1:=Tx.escape_len true x.ns;have h2:=Tx.escape_len true x.pre;have h3:=hs x hx;simp only[List.mem_cons,List.not_mem_nil,or_false] at ha
   rcases ha with rfl|rfl
   ·exact⟨by simp[nText],by dsimp only;omega⟩
   exact⟨by simp[nUrl],by dsimp only;omega⟩
  simp only[List.mem_cons,List.not_mem_nil,or_false] at h
  rcases h with rfl|rfl
  ·exact⟨by simp[tD,nBody],by simp[tD],by simp[tD],by simp[tD],.inr (.inl rfl)⟩
  exact⟨by simp[tE,nOpml],by simp[tE],by simp[tE],by simp[tE],.inr (.inl rfl)⟩
 have:=ones_len ho;simp only[List.length_append,List.length_cons,List.length_nil];omega
end Opm
end
section
open Go Tk Sx
theorem bal_snoc2{evs:List Ev}{e:Ev}(h:Bal evs)(hg:GoodE (opn [] evs) evs.length (evs.getLast?) e):Bal (evs++[e]):=by
 intro k x hx
 by_cases hk:k<evs.length
 ·rw[List.getElem?_append_left hk] at hx;have:=h k x hx;rw[List.take_append_of_le_length (by omega),List.getElem?_append_left (by omega)];exact this
 have hk2:k=evs.length:=by
  have:=(List.getElem?_eq_some_iff.1 hx).1;rw[List.length_append] at this;simp at this;omega
 subst hk2;rw[List.getElem?_append_right (Nat.le_refl _),Nat.sub_self] at hx;simp only[List.getElem?_cons_zero,Option.some.injEq] at hx;subst hx;rw[List.take_left]
 rcases hg with hg|hg|⟨h1,h2,h3,h4,p,h5,h6⟩
 ·exact .inl hg
 ·exact .inr (.inl hg)
 refine .inr (.inr ⟨h1,h2,h3,h4,p,?_,h6⟩);have hne:evs≠[]:=fun e=>by rw[e] at h5;cases h5
 have:=List.length_pos_iff.2 hne;rw[List.getElem?_append_left (by omega),←List.getLast?_eq_getElem?];exact h5
namespace Opm
theorem ones_bal:∀(l:List Dcl) (evs:List Ev),Bal evs→evs≠[]→opn [] evs=[nOpml,nBody]→Bal (evs++l.flatMap evsOne)∧opn [] (evs++l.flatMap evsOne)=[nOpml,nBody]
 | [],evs,h,_,ho=>by simpa using ⟨h,ho⟩
 | x :: l,evs,h,hn,ho=>by
  have h1:Bal (evs++[⟨0,nOutline,[⟨nText,x.ns⟩,⟨nUrl,x.pre⟩],[]⟩]):=bal_snoc2 (e:=⟨0,nOutline,[⟨nText,x.ns⟩,⟨nUrl,x.pre⟩],[]⟩) h (by rw[ho];exact .inl ⟨rfl,fun e=>(by cases e),by decide,by simp,by simp[nOutline]⟩);have o1:opn [] (evs++[⟨0,nOutline,[⟨nText,x.ns⟩,⟨nUrl,x.pre⟩],[]⟩])=[nOpml,nBody,nOutline]:=by rw[opn_snoc,ho];rfl
  have h2:=bal_snoc2 h1 (e:=⟨1,nOutline,[],[]⟩) (.inr (.inl ⟨rfl,by rw[o1];rfl⟩));have o2:opn [] (evs++[⟨0,nOutline,[⟨nText,x.ns⟩,⟨nUrl,x.pre⟩],[]⟩]++[⟨1,nOutline,[],[]⟩])=[nOpml,nBody]:=by rw[opn_snoc,o1];rfl
  have:=ones_bal l _ h2 (by simp) o2;rw[List.flatMap_cons];rw[List.append_assoc,List.append_assoc] at this;exact this
theorem fld_of(l:List Dcl):∀e∈evsOf l,Evs.Fld e:=by
 intro e he;unfold evsOf at he;simp only[List.mem_append,List.mem_flatMap] at he
 rcases he with (he|⟨x,-,he⟩) | he
 ·have:∀e∈evsA,Evs.Fld e:=by decide +kernel
  exact this e he
 ·simp only[evsOne,List.mem_cons,List.not_mem_nil,or_false] at he
  rcases he with rfl|rfl
  ·refine .inl ⟨rfl,by simp[nOutline],rfl,by simp[nText,nUrl],fun a ha=>?_⟩;simp only[List.mem_cons,List.not_mem_nil,or_false] at ha
   rcases ha with rfl|rfl
   ·show nText.loc≠[]
    decide
   show nUrl.loc≠[]
   decide
  exact .inr (.inl ⟨rfl,by decide,rfl,rfl⟩)
 have:∀e∈evsZ,Evs.Fld e:=by decide +kernel
 exact this e he
theorem whl_of(l:List Dcl):Evs.Whl (evsOf l):=by
 obtain⟨h1,o1⟩:=ones_bal l evsA (bal_of (by kernel_rfl)) (by decide) (by kernel_rfl);have h2:=bal_snoc2 h1 (e:=⟨1,nBody,[],[]⟩) (.inr (.inl ⟨rfl,by rw[o1];rfl⟩));have o2:opn [] (evsA++l.flatMap evsOne++[⟨1,nBody,[],[]⟩])=[nOpml]:=by rw[opn_snoc,o1];rfl
 have h3:=bal_snoc2 h2 (e:=⟨1,nOpml,[],[]⟩) (.inr (.inl ⟨rfl,by rw[o2];rfl⟩));have o3:opn [] (evsA++l.flatMap evsOne++[⟨1,nBody,[],[]⟩]++[⟨1,nOpml,[],[]⟩])=[]:=by rw[opn_snoc,o2];rfl
 rw[List.append_assoc] at h3 o3;exact⟨fld_of l,h3,o3,by simp[evsOf,evsA]⟩
def U(l:List Ev):List Nat×List (Nat×Nat):=Evs.upto l l.length
theorem upto_app(a b:List Ev):∀i,i≤a.length→Evs.upto (a++b) i=Evs.upto a i
 | 0,_=>rfl
 | i+1,h=>by rw[Evs.upto,Evs.upto,upto_app a b i (by omega),List.getElem?_append_left (by omega)]
theorem U_snoc(a:List Ev)(e:Ev):U (a++[e])=Evs.stp (U a) a.length e:=by
 unfold U;rw[List.length_append,List.length_singleton,Evs.upto_next (e:=e) (by rw[List.getElem?_append_right (Nat.le_refl _),Nat.sub_self];rfl),upto_app a [e] _ (Nat.le_refl _)]
theorem U_ones:∀(l:List Dcl) (evs:List Ev) (m:List (Nat×Nat)),4≤evs.length→U evs=([0,3],m)→Evs.lookE 1 m=some 2→∃m',U (evs++l.flatMap evsOne)=([0,3],m')∧Evs.lookE 1 m'=some 2
 | [],evs,m,_,h,h1=>⟨m,by simpa using h,h1⟩
 | x :: l,evs,m,h4,h,h1=>by
  have o1:U (evs++[⟨0,nOutline,[⟨nText,x.ns⟩,⟨nUrl,x.pre⟩],[]⟩])=([0,3,evs.length],m):=by rw[U_snoc,h];rfl
  have o2:U (evs++[⟨0,nOutline,[⟨nText,x.ns⟩,⟨nUrl,x.pre⟩],[]⟩]++[⟨1,nOutline,[],[]⟩])=([0,3],(evs.length,evs.length+1) :: m):=by
   rw[U_snoc,o1,List.length_append];rfl
  obtain⟨m',h2,h3⟩:=U_ones l _ _ (by simp;omega) o2 (by unfold Evs.lookE;rw[if_neg (by dsimp only;omega)];exact h1);refine⟨m',?_,h3⟩;rw[List.flatMap_cons];rw[List.append_assoc,List.append_assoc] at h2;exact h2
theorem flat_len2:∀l:List Dcl,(l.flatMap evsOne).length=2*l.length
 | []=>rfl
 | x :: l=>by rw[List.flatMap_cons,List.length_append,flat_len2 l,List.length_cons];simp[evsOne];omega
theorem evs_len(l:List Dcl):(evsOf l).length=2*l.length+6:=by
 unfold evsOf;rw[List.length_append,List.length_append,flat_len2];simp[evsA,evsZ];omega
theorem ends_of(l:List Dcl):∃m,Evs.endsOf (evsOf l)=(0,2*l.length+5) :: (3,2*l.length+4) :: m∧Evs.lookE 1 m=some 2:=by
 obtain⟨m,h1,h2⟩:=U_ones l evsA [(1,2)] (by decide) (by kernel_rfl) rfl;refine⟨m,?_,h2⟩;have hl:(evsA++l.flatMap evsOne).length=2*l.length+4:=by rw[List.length_append,flat_len2];simp[evsA];omega
 have o1:U (evsA++l.flatMap evsOne++[⟨1,nBody,[],[]⟩])=([0],(3,2*l.length+4) :: m):=by rw[U_snoc,h1,hl];rfl
 have o2:U (evsA++l.flatMap evsOne++[⟨1,nBody,[],[]⟩]++[⟨1,nOpml,[],[]⟩])=([],(0,2*l.length+5) :: (3,2*l.length+4) :: m):=by
  rw[U_snoc,o1,List.length_append,hl];rfl
 rw[List.append_assoc] at o2;exact congrArg Prod.snd o2
theorem kids_of(l:List Dcl):∃r,Evs.kidsOf (evsOf l) 0=1 :: 3 :: r:=by
 obtain⟨m,h1,h2⟩:=ends_of l;unfold Evs.kidsOf Evs.endAt;rw[h1,evs_len];have l0:Evs.lookE 0 ((0,2*l.length+5) :: (3,2*l.length+4) :: m)=some (2*l.length+5):=rfl;have l1:Evs.lookE 1 ((0,2*l.length+5) :: (3,2*l.length+4) :: m)=some 2:=by rw[←h2];rfl
 have l3:Evs.lookE 3 ((0,2*l.length+5) :: (3,2*l.length+4) :: m)=some (2*l.length+4):=rfl;rw[l0,Option.getD_some];generalize (0,2*l.length+5) :: (3,2*l.length+4) :: m=M at *
 refine⟨Evs.kidsN M (2*l.length+5) (2*l.length+4) (2*l.length+4+1),?_⟩;rw[show 2*l.length+6=(2*l.length+5)+1 from rfl,Evs.kidsN,if_pos (by omega),l1];dsimp only;rw[show 2*l.length+5=(2*l.length+4)+1 from rfl,Evs.kidsN,if_pos (by omega),l3]
theorem fst_of{x:Dcl}(h1:Tx.line x.pre=x.pre)(h2:Tx.line x.ns=x.ns)(h0:x.pre≠[]):outOf [⟨nText,x.ns⟩,⟨nUrl,x.pre⟩]=x:=by
 have a1:(Evs.attrOf ⟨[],nUrl.loc⟩ [⟨nText,x.ns⟩,⟨nUrl,x.pre⟩]).getD []=x.pre:=by kernel_rfl
 have a2:(Evs.attrOf ⟨[],nTitle.loc⟩ [⟨nText,x.ns⟩,⟨nUrl,x.pre⟩]).getD []=[]:=by kernel_rfl
 have a3:(Evs.attrOf ⟨[],nText.loc⟩ [⟨nText,x.ns⟩,⟨nUrl,x.pre⟩]).getD []=x.ns:=by kernel_rfl
 have a4:Tx.line []=[]:=by kernel_rfl
 unfold outOf;simp only[fstOf,a1,a2,a3,a4,h1,h2];rw[if_neg h0]
 try rw[if_pos rfl]
 by_cases hn:x.ns=[]
 ·cases x;simp at hn;subst hn;simp
 simp[hn]
theorem outs_ones:∀(l:List Dcl) (pre post:List Ev) (seen:List L) (acc:List Dcl) (f:Nat),mayOn seen l=true→(∀u∈acc.map (·.pre),u∈seen)→2*l.length≤f→
  (elemsN (pre++l.flatMap evsOne++post) nOutline (pre.length+2*l.length) f pre.length).foldl (fun a k=>addTo a (outOf (attsAt (pre++l.flatMap evsOne++post) k))) acc=acc++l
 | [],pre,post,seen,acc,f,_,_,_=>by
  cases f with
  | zero=>simp[elemsN]
  | succ f=>rw[elemsN,if_neg (by simp)];simp
 | x :: l,pre,post,seen,acc,f,hm,ha,hf=>by
  rw[mayOn] at hm;simp only[Bool.and_eq_true,decide_eq_true_eq,Bool.not_eq_true',decide_eq_false_iff_not] at hm;obtain⟨h0,hl1,hl2,hx,hm⟩:=hm;rw[List.length_cons] at hf ⊢
  match f,hf with
  | 0,hf=>omega
  | 1,hf=>omega
  | f+2,hf=>
   have e0:pre++(x :: l).flatMap evsOne++post=(pre++evsOne x)++l.flatMap evsOne++post:=by rw[List.flatMap_cons];simp[List.append_assoc]
   rw[e0]
   have g0:((pre++evsOne x)++l.flatMap evsOne++post)[pre.length]?=some ⟨0,nOutline,[⟨nText,x.ns⟩,⟨nUrl,x.pre⟩],[]⟩:=by
    rw[List.append_assoc,List.append_assoc,List.getElem?_append_right (Nat.le_refl _),Nat.sub_self];rfl
   have g1:((pre++evsOne x)++l.flatMap evsOne++post)[pre.length+1]?=some ⟨1,nOutline,[],[]⟩:=by
    rw[List.append_assoc,List.append_assoc,List.getElem?_append_right (by omega),Nat.add_sub_cancel_left];rfl
   have ih:=outs_ones l (pre++evsOne x) post (x.pre :: seen) (acc++[x]) f hm (fun u hu=>by
    rw[List.map_append,List.mem_append] at hu
    rcases hu with hu|hu
    ·exact List.mem_cons_of_mem _ (ha u hu)
    simp at hu;rw[hu];exact List.mem_cons_self ..) (by omega)
   have hle:(pre++evsOne x).length=pre.length+2:=by rw[List.length_append];rfl
   rw[hle] at ih;generalize (pre++evsOne x)++l.flatMap evsOne++post=E at *
   have k0:hit E nOutline pre.length=true:=by unfold hit;rw[g0];kernel_rfl
   have k1:hit E nOutline (pre.length+1)=false:=by unfold hit;rw[g1];kernel_rfl
   have at0:attsAt E pre.length=[⟨nText,x.ns⟩,⟨nUrl,x.pre⟩]:=by unfold attsAt;rw[g0];rfl
   have add:addTo acc x=acc++[x]:=by
    unfold addTo;rw[if_neg];rintro (h|h)
    ·exact h0 h
    exact hx (ha _ h)
   have isl:∀{y:L},Tx.isLine y=true→Tx.line y=y:=fun {y} h=>by
    unfold Tx.isLine at h;simp only[Bool.and_eq_true,decide_eq_true_eq] at h;exact h.2
   rw[elemsN,if_pos (by omega),if_pos k0,List.foldl_cons,at0,fst_of (isl hl1) (isl hl2) h0,add,elemsN,if_pos (by omega),if_neg (by rw[k1];simp),show pre.length+2*(l.length+1)=pre.length+2+2*l.length by omega,ih];simp
theorem read_of{l:List Dcl}(h:may l=true):readE (evsOf l)=.ok l:=by
 unfold may at h;simp only[Bool.and_eq_true,decide_eq_true_eq] at h;obtain⟨r,hk⟩:=kids_of l;obtain⟨m,he,-⟩:=ends_of l;have n0:Evs.nmAt (evsOf l) 0=nOpml:=rfl;have n1:Evs.nmAt (evsOf l) 1=nHead:=rfl;have n3:Evs.nmAt (evsOf l) 3=nBody:=rfl
 have hf:Evs.firstIn (evsOf l) nBody (Evs.kidsOf (evsOf l) 0)=some 3:=by
  unfold Evs.firstIn;rw[hk,List.find?_cons_of_neg (by rw[n1];decide),List.find?_cons_of_pos (by rw[n3];decide)]
 have ho:outs (evsOf l) (elemsOf (evsOf l) nOutline 3)=l:=by
  have k3:hit (evsOf l) nOutline 3=false:=by kernel_rfl
  unfold outs elemsOf Evs.endAt;rw[he,evs_len];have l3:Evs.lookE 3 ((0,2*l.length+5) :: (3,2*l.length+4) :: m)=some (2*l.length+4):=rfl;rw[l3,Option.getD_some,show 2*l.length+6=(2*l.length+5)+1 from rfl,elemsN,if_pos (by omega),if_neg (by rw[k3];simp)];have:=outs_ones l evsA evsZ [] [] (2*l.length+5) h.1 (by simp) (by omega);rw[show evsA.length=4 from rfl,Nat.add_comm 4,List.nil_append] at this;exact this
 unfold readE;rw[hf];dsimp only;rw[n0,ho,if_pos (by kernel_rfl),if_neg (by omega)]
theorem fine_line{y:L}(h:Tx.isLine y=true):fine y=true:=by
 unfold Tx.isLine Tx.right at h;simp only[Bool.and_eq_true,decide_eq_true_eq] at h;have hb:=bad_fine y;rw[decide_eq_false (by omega)] at hb
 simpa using hb
theorem mayOn_fine:∀{l:List Dcl} {seen:List L},mayOn seen l=true→∀x∈l,fine x.ns=true∧fine x.pre=true
 | [],_,_,x,hx=>by cases hx
 | y :: l,seen,h,x,hx=>by
  rw[mayOn] at h;simp only[Bool.and_eq_true] at h
  rcases List.mem_cons.1 hx with rfl|hx
  ·exact⟨fine_line h.2.2.1,fine_line h.2.1⟩
  exact mayOn_fine h.2.2.2.2 x hx
theorem text_len{l:List Dcl}(hs:∀x∈l,x.pre.length≤300∧x.ns.length≤300):(text l).length≤47+3628*l.length:=by
 have key:∀l:List Dcl,(∀x∈l,x.pre.length≤300∧x.ns.length≤300)→(l.flatMap one).length≤3628*l.length:=by
  intro l
  induction l with
  | nil=>intro _;simp
  | cons x l ih=>
   intro h;rw[List.flatMap_cons,List.length_append,List.length_cons];have h0:=ih fun y hy=>h y (List.mem_cons_of_mem _ hy);have h1:=Tx.escape_len true x.ns;have h2:=Tx.escape_len true x.pre;have h3:=h x (List.mem_cons_self ..)
   have h4:(one x).length=28+(Tx.escape true x.ns).length+(Tx.escape true x.pre).length:=by
    unfold one;simp only[List.length_append];rw[show c1.length=15 from rfl,show c2.length=10 from rfl,show c3.length=3 from rfl];omega
   omega
 unfold text;have:=key l hs;simp only[List.length_append];rw[show c0.length=33 from rfl,show c4.length=14 from rfl];omega
theorem few_of{l:List Dcl}(hs:∀x∈l,x.pre.length≤300∧x.ns.length≤300):∀e∈evsOf l,e.attrs.length≤1000000∧∀a∈e.attrs,SmallN a.name∧a.val.length≤100000:=by
 intro e he;unfold evsOf at he;simp only[List.mem_append,List.mem_flatMap] at he
 rcases he with (he|⟨x,hx,he⟩) | he
 ·simp only[evsA,List.mem_cons,List.not_mem_nil,or_false] at he
  rcases he with rfl|rfl|rfl|rfl<;>refine⟨by simp,fun a ha=>?_⟩<;>simp at ha
  subst ha;exact⟨⟨by decide,by decide⟩,by decide⟩
 ·have h3:=hs x hx;simp only[evsOne,List.mem_cons,List.not_mem_nil,or_false] at he
  rcases he with rfl|rfl<;>refine⟨by simp,fun a ha=>?_⟩<;>simp at ha
  rcases ha with rfl|rfl
  ·exact⟨⟨by simp[nText],by simp[nText]⟩,by dsimp only;omega⟩
  exact⟨⟨by simp[nUrl],by simp[nUrl]⟩,by dsimp only;omega⟩
 simp only[evsZ,List.mem_cons,List.not_mem_nil,or_false] at he
 rcases he with rfl|rfl<;>exact⟨by simp,fun a ha=>by cases ha⟩
end Opm
end
end Go.Proofs.YtifiiojchlaghaaGreatDoor
