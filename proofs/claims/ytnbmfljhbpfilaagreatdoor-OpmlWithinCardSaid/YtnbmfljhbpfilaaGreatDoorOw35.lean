/- Outlines within others: the events are whole, and told as the outlines; no program in sight. And more. -/
import Derived.Test.YtnbmfljhbpfilaaGreatDoorOw01
import Derived.Test.YtnbmfljhbpfilaaGreatDoorOw30
import Derived.Test.YtnbmfljhbpfilaaGreatDoorOw31
import Derived.Test.YtnbmfljhbpfilaaGreatDoorOw34
set_option linter.unusedSimpArgs false
set_option maxHeartbeats 8000000
set_option linter.unusedVariables false
namespace Go.Proofs.YtnbmfljhbpfilaaGreatDoor
section
open Go Tk Sx
namespace Opm
def Ge(e:Ev):Prop:=Evs.tP e∧e.attrs.length≤1000000∧∀a∈e.attrs,gP a.name∧a.val.length≤100000
instance(n:Nm):Decidable (gP n):=by unfold gP;infer_instance
instance(e:Ev):Decidable (Ge e):=by unfold Ge;infer_instance
theorem mQ{a b:List Ev}(h:∀e∈a,Ge e)(k:∀e∈b,Ge e):∀e∈a++b,Ge e:=fun e he=>(List.mem_append.1 he).elim (h e) (k e)
theorem ael{x:ax}(h1:x.ns.length≤300)(h2:x.pre.length≤300):∀e∈sF x,Ge e:=by
 intro e he;simp only[sF,List.mem_cons,List.not_mem_nil,or_false] at he
 rcases he with rfl|rfl
 ·refine⟨.inl ⟨rfl,by simp[aN],rfl,by simp[cy,bH],fun a ha=>?_⟩,by simp,fun a ha=>?_⟩<;>simp only[List.mem_cons,List.not_mem_nil,or_false] at ha
  ·rcases ha with rfl|rfl
   ·show cy.loc≠[]
    decide
   show bH.loc≠[]
   decide
  rcases ha with rfl|rfl
  ·exact⟨⟨by simp[cy],by simp[cy]⟩,by dsimp only;omega⟩
  exact⟨⟨by simp[bH],by simp[bH]⟩,by dsimp only;omega⟩
 exact⟨.inr (.inl ⟨rfl,by decide,rfl,rfl⟩),by simp,fun a ha=>(by cases ha)⟩
theorem Sg.ge{h:Nat}{w:L}{b:List Ev}{l:List ax}(H:Sg h w b l):∀e∈b,Ge e:=by
 induction H with
 | nil=>exact fun e he=>(by cases he)
 | ln h x h1 h2 h3 h4=>exact mQ (ael h3 h4) (by decide +kernel)
 | gr h w b l _ ih=>exact mQ (a:=[sz]) (by decide +kernel) (mQ ih (by decide +kernel))
 | xx h w b l _ ih=>exact mQ (a:=[uK,lR [116]]) (by decide +kernel) (mQ ih (by decide +kernel))
 | app _ _ _ _ _ _ _ _ _ i1 i2=>exact mQ i1 i2
structure Bd(evs:List Ev)(O:List Nm)(I:List Nat)(m:List (Nat×Nat)):Prop where
 xh:yQ evs
 opn:opn [] evs=O
 u:U evs=(I,m)
theorem Bd.start{evs:List Ev}{O:List Nm}{I:List Nat}{m:List (Nat×Nat)}{e:Ev}(h:Bd evs O I m)(hO:O≠[])(hl:O.length<16)(h0:e.kind=0)(ha:e.attrs.length≤16)(hn:e.name.loc≠[]):Bd (evs++[e]) (O++[e.name]) (I++[evs.length]) m :=
 ⟨Jn h.xh (by rw[h.opn];exact .inl ⟨h0,fun e=>absurd e hO,hl,ha,hn⟩),by rw[FH,h.opn,yz,if_pos h0],by rw[Jf,h.u,Evs.jt,if_pos h0]⟩
theorem Bd.end_{evs:List Ev}{O:List Nm}{I:List Nat}{m:List (Nat×Nat)}{n:Nm}{i:Nat}(h:Bd evs (O++[n]) (I++[i]) m):Bd (evs++[⟨1,n,[],[]⟩]) O I ((i,evs.length) :: m) :=
 ⟨Jn h.xh (by rw[h.opn];exact .inr (.inl ⟨rfl,by simp⟩)),by rw[FH,h.opn];simp[yz],by rw[Jf,h.u];simp[Evs.jt]⟩
theorem Bd.text{evs:List Ev}{y:Ev}{O:List Nm}{I:List Nat}{m:List (Nat×Nat)}{t:L}(h:Bd (evs++[y]) O I m)(hO:O≠[])(hy:y.kind≠2)(ht:t≠[])(hf:fine t=true):Bd (evs++[y]++[lR t]) O I m :=
 ⟨Jn h.xh (by rw[h.opn];exact .inr (.inr ⟨rfl,hO,ht,hf,y,by simp,hy⟩)),by rw[FH,h.opn];rfl,by rw[Jf,h.u];rfl⟩
theorem pI{p q r:Nat}{m:List (Nat×Nat)}(h:q≠p):Evs.bj p ((q,r) :: m)=Evs.bj p m:=if_neg h
theorem Sg.bd{h:Nat}{w:L}{b:List Ev}{l:List ax}(H:Sg h w b l):∀(evs:List Ev) (O:List Nm) (I:List Nat) (m:List (Nat×Nat)),Bd evs O I m→O≠[]→O.length+h≤16→∃m',Bd (evs++b) O I m'∧∀k,k<evs.length→Evs.bj k m'=Evs.bj k m:=by
 induction H with
 | nil=>exact fun evs O I m hb _ _=>⟨m,by rwa[List.append_nil],fun _ _=>rfl⟩
 | ln h x=>
  intro evs O I m hb hO hl;have:=(hb.start (e:=⟨0,aN,[⟨cy,x.ns⟩,⟨bH,x.pre⟩],[]⟩) hO (by omega) rfl (by simp) (by simp[aN])).end_.text (t:=[10]) hO (by simp) (by decide) (by kernel_rfl);refine⟨_,by simpa[sF] using this,fun k hk=>pI (by omega)⟩
 | gr h w b l _ ih=>
  intro evs O I m hb hO hl;obtain⟨m',h1,h2⟩:=ih _ _ _ _ (hb.start (e:=sz) hO (by omega) rfl (by decide) (by decide)) (by simp) (by simp;omega);have:=h1.end_.text (t:=[10]) hO (by simp) (by decide) (by kernel_rfl);refine⟨_,by simpa[sz] using this,fun k hk=>?_⟩;rw[pI (by omega)];exact h2 k (by simp;omega)
 | xx h w b l _ ih=>
  intro evs O I m hb hO hl;obtain⟨m',h1,h2⟩:=ih _ _ _ _ ((hb.start (e:=uK) hO (by omega) rfl (by decide) (by decide)).text (t:=[116]) (by simp) (by decide) (by decide) (by kernel_rfl)) (by simp) (by simp;omega);have:=h1.end_;refine⟨_,by simpa[uK] using this,fun k hk=>?_⟩;rw[pI (by omega)];exact h2 k (by simp;omega)
 | app h w v b c l n _ _ i1 i2=>
  intro evs O I m hb hO hl;obtain⟨m1,h1,h2⟩:=i1 evs O I m hb hO hl;obtain⟨m2,h3,h4⟩:=i2 _ O I m1 h1 hO hl;exact⟨m2,by rwa[List.append_assoc] at h3,fun k hk=>by rw[h4 k (by rw[List.length_append];omega),h2 k hk]⟩
def vX(acc:List ax)(e:Ev):List ax:=if (decide (e.kind=0)&&eD e.name aN)=true then iV acc (oB e.attrs) else acc
theorem SD(E:List Ev):∀(b pre post:List Ev) (f:Nat) (acc:List ax),E=pre++b++post→b.length≤f→
  (kZ E aN (pre.length+b.length) f pre.length).foldl (fun a k=>iV a (oB (uH E k))) acc=b.foldl vX acc
 | [],pre,post,f,acc,_,_=>by
  cases f with
  | zero=>rfl
  | succ f=>rw[kZ,if_neg (by simp)];rfl
 | e :: b,pre,post,0,acc,_,h=>by simp at h
 | e :: b,pre,post,f+1,acc,he,h=>by
  have ih:=fun acc=>SD E b (pre++[e]) post f acc (by rw[he];simp) (by simpa using h);rw[List.length_append,List.length_singleton] at ih;have hk:E[pre.length]?=some e:=by rw[he];simp
  rw[kZ,if_pos (by simp),List.foldl_cons,vX,List.length_cons,show pre.length+(b.length+1)=pre.length+1+b.length by omega,show hit E aN pre.length=(decide (e.kind=0)&&eD e.name aN) by unfold hit;rw[hk]];split
  ·rw[List.foldl_cons,ih,show uH E pre.length=e.attrs by unfold uH;rw[hk];rfl]
  exact ih acc
def Gw(l:List ax):Prop:=(∀x∈l,x.pre≠[]∧Tx.gI x.pre=true∧Tx.gI x.ns=true)∧(l.map (·.pre)).Nodup
theorem VL{y:L}(h:Tx.gI y=true):Tx.line y=y:=by
 unfold Tx.gI at h;simp only[Bool.and_eq_true,decide_eq_true_eq] at h;exact h.2
theorem Sg.fold{h:Nat}{w:L}{b:List Ev}{l:List ax}(H:Sg h w b l):∀acc,Gw (acc++l)→b.foldl vX acc=acc++l:=by
 induction H with
 | nil=>exact fun acc _=>(List.append_nil acc).symm
 | ln h x=>
  intro acc ⟨h1,h2⟩;obtain⟨h3,h4,h5⟩:=h1 x (by simp);show iV acc (oB [⟨cy,x.ns⟩,⟨bH,x.pre⟩])=_;rw[aef (VL h4) (VL h5) h3,iV,if_neg];rintro (e|e)
  ·exact h3 e
  rw[List.map_append,List.nodup_append] at h2;exact h2.2.2 _ e _ (by simp) rfl
 | gr h w b l _ ih=>
  intro acc hg
  have e0:vX acc sz=acc:=by
   show iV acc (oB sz.attrs)=acc;rw[iV,if_pos (.inl (by kernel_rfl))]
  rw[List.foldl_cons,e0,List.foldl_append,ih acc hg];rfl
 | xx h w b l _ ih=>
  intro acc hg;have e0:vX acc uK=acc:=if_neg (by decide);rw[List.foldl_cons,e0,List.foldl_cons];show List.foldl vX acc _=_;rw[List.foldl_append,ih acc hg];rfl
 | app h w v b c l n _ _ i1 i2=>
  intro acc hg;rw[←List.append_assoc] at hg ⊢
  have hg1:Gw (acc++l):=⟨fun x hx=>hg.1 x (List.mem_append_left _ hx),by
   have:=hg.2;rw[List.map_append] at this;exact (List.nodup_append.1 this).1⟩
  rw[List.foldl_append,i1 acc hg1,i2 _ hg]
theorem JZ:∀{l:List ax} {seen:List L},gh seen l=true→Gw l∧∀x∈l,x.pre∉seen
 | [],_,_=>⟨⟨fun x hx=>(by cases hx),.nil⟩,fun x hx=>(by cases hx)⟩
 | y :: l,seen,h=>by
  rw[gh] at h;simp only[Bool.and_eq_true,decide_eq_true_eq,Bool.not_eq_true',decide_eq_false_iff_not] at h;obtain⟨h0,h1,h2,h3,h4⟩:=h;obtain⟨⟨g1,g2⟩,g3⟩:=JZ h4;refine⟨⟨fun x hx=>?_,?_⟩,fun x hx=>?_⟩
  ·rcases List.mem_cons.1 hx with rfl|hx
   ·exact⟨h0,h1,h2⟩
   exact g1 x hx
  ·rw[List.map_cons,List.nodup_cons];refine⟨fun hm=>?_,g2⟩;obtain⟨x,hx,e⟩:=List.mem_map.1 hm;exact g3 x hx (by rw[e];exact List.mem_cons_self ..)
  rcases List.mem_cons.1 hx with rfl|hx
  ·exact h3
  exact fun e=>g3 x hx (List.mem_cons_of_mem _ e)
def j4:List Ev:=[⟨0,dr,[],[]⟩,⟨0,tF,[],[]⟩,⟨0,aN,[⟨bH,[110,111]⟩],[]⟩,⟨1,aN,[],[]⟩,⟨1,tF,[],[]⟩]
def pj:Ev:=⟨0,bQ,[⟨nX,[121]⟩],[]⟩
def sA:List Ev:=[⟨1,bQ,[],[]⟩,⟨0,bQ,[],[]⟩,⟨0,aN,[⟨bH,[110,111]⟩],[]⟩,⟨1,aN,[],[]⟩,⟨1,bQ,[],[]⟩,⟨1,dr,[],[]⟩]
def eo(b:List Ev):List Ev:=j4++pj :: b++sA
theorem Sg.whole{h:Nat}{w:L}{b:List Ev}{l:List ax}(H:Sg h w b l)(hh:h≤13):Evs.oY (eo b)∧∃m,Evs.fq (eo b)=(0,b.length+11) :: (b.length+7,b.length+10) :: (b.length+8,b.length+9) :: (5,b.length+6) :: m∧Evs.bj 1 m=some 4:=by
 obtain⟨m,h1,h2⟩:=H.bd (j4++[pj]) [dr,bQ] [0,5] [(1,4),(2,3)] ⟨Jm (by kernel_rfl),by kernel_rfl,by kernel_rfl⟩ (by decide) (by simp;omega);have e1:=Bd.end_ (O:=[dr]) (I:=[0]) h1;have e2:=e1.start (e:=⟨0,bQ,[],[]⟩) (by decide) (by decide) rfl (by decide) (by decide);have e3:=e2.start (e:=⟨0,aN,[⟨bH,[110,111]⟩],[]⟩) (by decide) (by decide) rfl (by decide) (by decide);have e4:=Bd.end_ (O:=[dr,bQ]) (I:=[0,_]) e3;have e5:=Bd.end_ (O:=[dr]) (I:=[0]) e4;have e6:=Bd.end_ (O:=[]) (I:=[]) e5;have hE:j4++[pj]++b++[⟨1,bQ,[],[]⟩]++[⟨0,bQ,[],[]⟩]++[⟨0,aN,[⟨bH,[110,111]⟩],[]⟩]++[⟨1,aN,[],[]⟩]++[⟨1,bQ,[],[]⟩]++[⟨1,dr,[],[]⟩]=eo b:=by simp[eo,sA]
 rw[hE] at e6;refine⟨⟨fun e he=>?_,e6.xh,e6.opn,by simp[eo,j4]⟩,m,?_,by rw[h2 1 (by decide)];rfl⟩
 ·refine (mQ (mQ (a:=j4) (by decide +kernel) (mQ (a:=[pj]) (by decide +kernel) H.ge)) (b:=sA) (by decide +kernel) e he).1
 have:=congrArg Prod.snd e6.u;simp only[List.length_append,List.length_singleton,show j4.length=5 from rfl] at this;refine Eq.trans this ?_;simp only[List.cons.injEq,Prod.mk.injEq];refine⟨⟨trivial,?_⟩,⟨?_,?_⟩,⟨?_,?_⟩,⟨trivial,?_⟩,trivial⟩<;>omega
theorem Sg.few{h:Nat}{w:L}{b:List Ev}{l:List ax}(H:Sg h w b l):∀e∈eo b,e.attrs.length≤1000000∧∀a∈e.attrs,gP a.name∧a.val.length≤100000 :=
 fun e he=>(mQ (mQ (a:=j4) (by decide +kernel) (mQ (a:=[pj]) (by decide +kernel) H.ge)) (b:=sA) (by decide +kernel) e he).2
theorem Sg.read{h:Nat}{w:L}{b:List Ev}{l:List ax}(H:Sg h w b l)(hh:h≤13)(hm:may l=true):oF (eo b)=.ok l:=by
 unfold may at hm;simp only[Bool.and_eq_true,decide_eq_true_eq] at hm;obtain⟨-,m,he,h1⟩:=H.whole hh;have hl:(eo b).length=b.length+11+1:=by simp[eo,j4,sA]
 have n0:Evs.iK (eo b) 0=dr:=rfl;have n1:Evs.iK (eo b) 1=tF:=rfl;have n5:Evs.iK (eo b) 5=bQ:=rfl;have l1:Evs.bj 1 (Evs.fq (eo b))=some 4:=by rw[he,pI (by omega),pI (by omega),pI (by omega),pI (by omega),h1]
 have l5:Evs.bj 5 (Evs.fq (eo b))=some (b.length+6):=by rw[he,pI (by omega),pI (by omega),pI (by omega)];rfl
 have l0:Evs.o8 (eo b) 0=b.length+11:=by unfold Evs.o8;rw[he,Evs.bj,if_pos rfl];rfl
 have hf:Evs.pk (eo b) bQ (Evs.ou (eo b) 0)=some 5:=by
  unfold Evs.pk Evs.ou;rw[l0,hl,Evs.gK,if_pos (by omega),l1];dsimp only;rw[show b.length+11=b.length+10+1 from rfl,Evs.gK,if_pos (by omega),l5];dsimp only;rw[List.find?_cons_of_neg (by rw[n1];decide),List.find?_cons_of_pos (by rw[n5];decide)]
 have ho:outs (eo b) (k8 (eo b) aN 5)=l:=by
  unfold outs k8 Evs.o8;rw[l5,Option.getD_some,hl];have:=SD (eo b) (pj :: b) j4 sA (b.length+11+1) [] rfl (by simp only[List.length_cons];omega);rw[show j4.length+(pj :: b).length=b.length+6 by simp[j4];omega,show j4.length=5 from rfl] at this;rw[this,List.foldl_cons,show vX [] pj=[] from if_neg (by decide)];exact H.fold [] (JZ hm.1).1
 unfold oF;rw[hf];dsimp only;rw[n0,ho,if_pos (by kernel_rfl),if_neg (by omega)]
end Opm
end
section
open Go Tk Sx
namespace Opm
def gM(w:L):L:=(rL++[10])++(wO++(w++wZ))
theorem Sg.text{h:Nat}{w:L}{b:List Ev}{l:List ax}(H:Sg h w b l)(hh:h≤13)(hl:(gM w).length≤300000):Sx.parse (gM w)=.ok (eo b)∧fine (gM w)=true∧(13:UInt8)∉gM w∧sk (gM w)∧sj (gM w):=by
 obtain⟨ts,h1,h2⟩:=H.run 75 [el dr,el bQ] (j4++[pj]) _ (by decide) (by simp;omega)
 have ai:dV 0 (gM w) [] ([kS 21 0,kT 10 21]++([kO 22,kH 28,kN 34,kE tF 56,kB 63]++(ts++[kE bQ (75+w.length),kC (75+w.length+7),kN (75+w.length+13),kE bQ (75+w.length+35),kE dr (75+w.length+42)]))) :=
  .app (acP _) (.app (ae0 22 _) (.app h1 (aeg _)))
 have hrun:Sx.run eK ([kS 21 0,kT 10 21]++([kO 22,kH 28,kN 34,kE tF 56,kB 63]++(ts++[kE bQ (75+w.length),kC (75+w.length+7),kN (75+w.length+13),kE bQ (75+w.length+35),kE dr (75+w.length+42)])))=.ok ⟨[],[],eo b,true⟩:=by
  rw[←List.append_assoc,Cc,show Sx.run eK ([kS 21 0,kT 10 21]++[kO 22,kH 28,kN 34,kE tF 56,kB 63])=.ok (eI [el dr,el bQ] (j4++[pj])) by kernel_rfl];dsimp only;rw[Cc,h2];dsimp only;generalize 75+w.length=k;have:∀evs,Sx.run (eI [el dr,el bQ] evs) [kE bQ k,kC (k+7),kN (k+13),kE bQ (k+35),kE dr (k+42)]=.ok ⟨[],[],evs++[⟨1,bQ,[],[]⟩]++[⟨0,bQ,[],[]⟩]++[⟨0,aN,[⟨bH,[110,111]⟩],[]⟩]++[⟨1,aN,[],[]⟩]++[⟨1,bQ,[],[]⟩]++[⟨1,dr,[],[]⟩],true⟩:=fun evs=>by kernel_rfl
  rw[this];simp[eo,sA]
 obtain⟨h3,h4,h5,h6⟩:=ai.mem;obtain⟨h7,h8⟩:=ai.sml hl;refine⟨?_,h5,h6,h7,h8⟩
 have hb:¬0≤bad (gM w):=fun h=>by
  have lr:=Dt (gM w);rw[h5,decide_eq_true h] at lr;cases lr
 unfold Sx.parse;rw[if_neg hb,ai.eY _ (Nat.le_refl _),if_neg,hrun]
 ·exact if_pos ⟨rfl,rfl⟩
 intro he
 apply he
 simp only[Gc,List.getLast?_append,List.getLast?_cons_cons,List.getLast?_singleton];simp[gM,kE,rL,wO,wZ,dr];omega
end Opm
end
section
open Go Tk Sx
namespace Opm
def fj:Nat→L
 | 0=>[]
 | i+1=>fj i++if i % 2=0 then wG else wX++[116]
def eC:Nat→L
 | 0=>[]
 | i+1=>(if i % 2=0 then wL else wY)++eC i
def ie(x:ax):L:=one x++[10]
def fE(l:List ax):L:=l.flatMap ie
def cF(f t i:Nat)(a:L)(x:ax)(p:L×L):L×L :=
 if i+1=t∧f<t then ((if i=f then p.1++a else p.1)++ie x++p.2,[]) else ((if i=f then p.1++a else p.1)++ie x,p.2)
def gT(f t:Nat)(a:L):Nat→List ax→L×L→L×L
 | _,[],p=>p
 | i,x :: l,p=>gT f t a (i+1) l (cF f t i a x p)
theorem SS{f t:Nat}{a:L}:∀(l:List ax) (i:Nat) (p:L×L),f<i→∃m n,l=m++n∧(gT f t a i l p).1++(gT f t a i l p).2=p.1++(fE m++(p.2++fE n))
 | [],_,p,_=>⟨[],[],rfl,by simp[gT,fE]⟩
 | x :: l,i,p,h=>by
  obtain⟨m,n,rfl,e⟩:=SS (f:=f) (t:=t) (a:=a) l (i+1) (cF f t i a x p) (by omega);rw[gT,e,cF,if_neg (by omega:¬i=f)];split
  ·exact⟨[x],m++n,rfl,by simp[fE]⟩
  exact⟨x :: m,n,rfl,by simp[fE]⟩
theorem SU{f t:Nat}{a:L}:∀(l:List ax) (i:Nat) (p:L×L),i≤f→
  (f<i+l.length→∃k m n,l=k++(m++n)∧(gT f t a i l p).1++(gT f t a i l p).2=p.1++(fE k++(a++(fE m++(p.2++fE n)))))∧(i+l.length≤f→gT f t a i l p=(p.1++fE l,p.2))
 | [],i,p,h=>⟨fun h2=>absurd h2 (by simp;omega),fun _=>by simp[gT,fE]⟩
 | x :: l,i,p,h=>by
  rw[List.length_cons,gT]
  by_cases hi:i=f
  ·obtain⟨m,n,rfl,e⟩:=SS (f:=f) (t:=t) (a:=a) l (i+1) (cF f t i a x p) (by omega);refine⟨fun _=>?_,fun h2=>by omega⟩;rw[e,cF,if_pos hi];split
   ·exact⟨[],[x],m++n,rfl,by simp[fE]⟩
   exact⟨[],x :: m,n,rfl,by simp[fE]⟩
  obtain⟨h1,h2⟩:=SU (f:=f) (t:=t) (a:=a) l (i+1) (cF f t i a x p) (by omega);rw[cF,if_neg (by omega),if_neg hi] at h1 h2 ⊢;refine⟨fun h3=>?_,fun h3=>by rw[h2 (by omega)];simp[fE]⟩;obtain⟨k,m,n,rfl,e⟩:=h1 (by omega);exact⟨x :: k,m,n,rfl,by rw[e];simp[fE]⟩
def qq(l:List ax):Prop:=∀x∈l,fine x.ns=true∧fine x.pre=true∧x.ns.length≤300∧x.pre.length≤300
theorem Cl(h:Nat):∀l:List ax,qq l→∃b,Sg (h+1) (fE l) b l
 | [],_=>⟨_,.nil _⟩
 | x :: l,hl=>by
  obtain⟨b,hb⟩:=Cl h l fun y hy=>hl y (List.mem_cons_of_mem _ hy);obtain⟨h1,h2,h3,h4⟩:=hl x (List.mem_cons_self ..);exact⟨_,.app _ _ _ _ _ [x] l (.ln h x h1 h2 h3 h4) hb⟩
theorem XI:∀(d h:Nat) (w:L) (b:List Ev) (l:List ax),Sg h w b l→∃c,Sg (h+d) (fj d++(w++eC d)) c l
 | 0,h,w,b,l,H=>⟨b,by simpa[fj,eC] using H⟩
 | d+1,h,w,b,l,H=>by
  have key:∀X Y c,Sg (h+1) (X++(w++Y)) c l→∃c,Sg (h+(d+1)) (fj d++X++(w++(Y++eC d))) c l:=fun X Y c K=>by
   obtain⟨c,hc⟩:=XI d (h+1) _ _ l K;exact⟨c,by simpa[Nat.add_assoc,Nat.add_comm 1 d] using hc⟩
  rw[fj,eC]
  by_cases hd:d % 2=0
  ·rw[if_pos hd,if_pos hd];exact key wG wL _ (.gr h w b l H)
  rw[if_neg hd,if_neg hd];exact key (wX++[116]) wY _ (by rw[List.append_assoc];exact .xx h w b l H)
theorem vP:∀l:List ax,qq l→(fE l).length≤3629*l.length
 | [],_=>by simp[fE]
 | x :: l,hl=>by
  have h0:=vP l fun y hy=>hl y (List.mem_cons_of_mem _ hy);obtain⟨-,-,h3,h4⟩:=hl x (List.mem_cons_self ..);have h1:=Tx.pg true x.ns;have h2:=Tx.pg true x.pre
  have h5:(ie x).length=29+(Tx.escape true x.ns).length+(Tx.escape true x.pre).length:=by
   unfold ie one;simp only[List.length_append];rw[show c1.length=15 from rfl,show c2.length=10 from rfl,show c3.length=3 from rfl,List.length_singleton];omega
  rw[show fE (x :: l)=ie x++fE l from List.flatMap_cons,List.length_append,List.length_cons];omega
theorem Dq:∀d,(fj d).length≤29*d∧(eC d).length≤14*d
 | 0=>by simp[fj,eC]
 | d+1=>by
  have h:=Dq d;have h1:(if d % 2=0 then wG else wX++[116]).length≤29∧(if d % 2=0 then wL else wY).length≤14:=by split<;>decide
  rw[fj,eC,List.length_append,List.length_append];omega
theorem ai3{f t i:Nat}{a:L}{x:ax}{p:L×L}(hx:qq [x])(ha:a.length≤300)(h:p.1.length+p.2.length≤1000+4000*i):(cF f t i a x p).1.length+(cF f t i a x p).2.length≤1000+4000*(i+1):=by
 have:=vP [x] hx;rw[show fE [x]=ie x from by simp[fE],List.length_singleton] at this;unfold cF
 split<;>split<;>simp only[List.length_append,List.length_nil]<;>omega
def wH:L:=(rL++[10])++wO
theorem agX{f t d:Nat}{l:List ax}(hd:d≤9)(hl:qq l)(hn:l.length≤64):∃w b,(if f<l.length then (gT f t (fj d) 0 l (wH,eC d)).1++(gT f t (fj d) 0 l (wH,eC d)).2 else (gT f t (fj d) 0 l (wH,eC d)).1)++wZ=gM w∧Sg 10 w b l∧(gM w).length≤300000:=by
 obtain⟨h1,h2⟩:=SU (t:=t) (a:=fj d) l 0 (wH,eC d) (Nat.zero_le f)
 have hlen:∀w:L,(gM w).length=w.length+124:=fun w=>by
  simp only[gM,List.length_append];rw[show rL.length=21 from rfl,show wO.length=53 from rfl,show wZ.length=49 from rfl,List.length_singleton];omega
 have ht:∀w:L,wH++w++wZ=gM w:=fun w=>by simp[gM,wH]
 split
 ·rename_i hf
  obtain⟨k,m,n,rfl,e⟩:=h1 (by omega);have ok:qq k∧qq m∧qq n:=⟨fun x hx=>hl x (by simp[hx]),fun x hx=>hl x (by simp[hx]),fun x hx=>hl x (by simp[hx])⟩;obtain⟨bk,hk⟩:=Cl 9 k ok.1;obtain⟨bm,hm⟩:=Cl (9-d) m ok.2.1;obtain⟨bn,uZ⟩:=Cl 9 n ok.2.2;obtain⟨c,hc⟩:=XI d _ _ _ _ hm;rw[show 9-d+1+d=9+1 by omega] at hc;have:=vP k ok.1;have:=vP m ok.2.1;have:=vP n ok.2.2;have:=Dq d;have hW:=Sg.app _ _ _ _ _ _ _ hk (Sg.app _ _ _ _ _ _ _ hc uZ);refine⟨_,_,?_,hW,?_⟩
  ·rw[e,←ht];simp
  rw[hlen];simp only[List.length_append] at hn ⊢;omega
 rename_i hf
 obtain⟨b,hb⟩:=Cl 9 l hl;have:=vP l hl;exact⟨_,b,by rw[h2 (by omega),←ht],hb,by rw[hlen];omega⟩
theorem Sg.evs{h:Nat}{w:L}{b:List Ev}{l:List ax}(H:Sg h w b l):b.length≤w.length:=by
 induction H with
 | nil=>exact Nat.le_refl _
 | ln=>
  have:c1.length=15:=rfl;simp[sF,one];omega
 | gr h w b l _ ih=>simp[wG,wL];omega
 | xx h w b l _ ih=>simp[wX,wY,yN];omega
 | app=>simp;omega
theorem aeq{f t:Nat}{a:L}{i:Nat}{l:List ax}{x:ax}{p:L×L}(h:l[i]?=some x):gT f t a i (l.drop i) p=gT f t a (i+1) (l.drop (i+1)) (cF f t i a x p):=by
 obtain⟨hi,e⟩:=List.getElem?_eq_some_iff.1 h;rw[List.drop_eq_getElem_cons hi,e,gT]
theorem ahj{l:List ax}(h:may l=true)(hs:∀x∈l,x.pre.length≤300∧x.ns.length≤300):qq l∧l.length≤64:=by
 unfold may at h;simp only[Bool.and_eq_true,decide_eq_true_eq] at h
 have hf:∀{y:L},Tx.gI y=true→fine y=true:=fun {y} h=>by
  unfold Tx.gI Tx.right at h;simp only[Bool.and_eq_true,decide_eq_true_eq] at h;have hb:=Dt y;rw[decide_eq_false (by omega)] at hb
  simpa using hb
 exact⟨fun x hx=>by
  obtain⟨-,h1,h2⟩:=(JZ h.1).1.1 x hx;exact⟨hf h2,hf h1,(hs x hx).2,(hs x hx).1⟩,h.2⟩
end Opm
end
section
open Go.RowKit Tk Sx Go.WideShapes

namespace Opm
def nU(x:ax):Bool:=decide (300<x.pre.length)||decide (300<x.ns.length)
def great(l:List ax):Bool:=(l.take 71).any nU||decide (70<l.length)
theorem aer{l:List ax}(h:great l=false):l.length≤70∧∀x∈l,x.pre.length≤300∧x.ns.length≤300:=by
 unfold great at h;simp only[Bool.or_eq_false_iff,decide_eq_false_iff_not,List.any_eq_false] at h;have hl:l.length≤70:=by omega
 refine⟨hl,fun x hx=>?_⟩;have h1:=h.1 x (by rw[List.take_of_length_le (by omega)];exact hx);unfold nU at h1;simp only[Bool.or_eq_true,decide_eq_true_eq,not_or] at h1;omega
end Opm
theorem Zp(l:List ax)(A:Option Addr)(c B:Nat)(w:World)(hR:Reads w B 2 A l.length (bP l))(hm:l.length≤maxLen) :
  Calls Tryz.prog 4 #[.slice A l.length c] w fun e w'=>e=.returned (.bool (Opm.great l))∧w'=w:=by
 obtain⟨n,hn⟩:∃n,l.length=n:=⟨_,rfl⟩;have HR:=hide hR;have Hn:=hide hn;have Hg:=hide (show Opm.great l=((l.take 71).any Opm.nU||decide (70<n)) by unfold Opm.great;rw[hn]);rw[hn] at hm ⊢;clear hR hn;have er:(n:Int)≤9223372036854775807:=by unfold maxLen at hm;omega
 go_enter Tryz.func4,Tryz.ntmps4
 go_wp2
 go_loopg [2,3,4,5,6,7,8,9,10,11,12,13,14,15,16,17,18,19,20,21,22,23,24,25,26,27,28,29] n (fun gk v2 v3 v4 v5 v6 v7 v8 v9 v10 v11 v12 v13 v14 v15 v16 v17 v18 v19 v20 v21 v22 v23 v24 v25 v26 v27 v28 v29 wr=>∃j:Nat,v3=.int .i64 (j:Int)∧gk=n-j∧j≤n∧j≤71∧(l.take j).any Opm.nU=false∧wr=w)
 case atStart=>exact⟨0,rfl,rfl,by omega,by omega,rfl,rfl⟩
 case round=>
  obtain⟨j,rfl,au,hj,aok,Ue,rfl⟩:=hrel;have dF:=hide au;have Qf:=hide Ue;clear au Ue
  by_cases hlt:j<n
  ·have dI:decide ((j:Int)<(n:Int))=true:=decide_eq_true (by omega)
   by_cases h70:j≤70
   ·have aez:decide ((j:Int)≤70)=true:=decide_eq_true (by omega);have fy:j<l.length:=by rw[Hn.out];exact hlt
    obtain⟨b,off,rfl,jC,x0,x1⟩:=HR.out.o5 fy
    have hst:(l.take (j+1)).any Opm.nU=((l.take j).any Opm.nU||Opm.nU l[j]):=by
     rw[List.take_add_one,List.getElem?_eq_getElem fy,List.any_append];simp
    rw[Qf.out,Bool.false_or] at hst
    have fK:Opm.nU l[j]=true→Opm.great l=true:=fun h=>by
     rw[Hg.out];have:(l.take 71).any Opm.nU=true:=List.any_eq_true.2 ⟨l[j],List.mem_take_iff_getElem.2 ⟨j,by omega,rfl⟩,h⟩;rw[this];rfl
    obtain⟨⟨u,t⟩,hx⟩:∃x,l[j]=x:=⟨_,rfl⟩;rw[hx] at hst fK x0 x1;unfold Opm.nU at hst fK;dsimp only at x0 x1 hst fK;have od:(0:Int)≤j∧(j:Int)<n:=by omega
    have z0:=aC u;have z1:=aC t;have aW:=hide hst;have kR:=hide fK;clear hst fK hx
    by_cases hu:300<u.length
    ·have bh:decide ((300:Int)<(u.length:Int))=true:=decide_eq_true (by omega);have HF:=hide (kR.out (by rw[decide_eq_true hu];rfl));clear aW kR hu;go_wp2;go_ret;rw[HF.out];exact⟨rfl,rfl⟩
    have bh:decide ((300:Int)<(u.length:Int))=false:=decide_eq_false (by omega);rw[decide_eq_false hu,Bool.false_or] at aW kR;clear hu
    by_cases ht:300<t.length
    ·have jm:decide ((300:Int)<(t.length:Int))=true:=decide_eq_true (by omega);have HF:=hide (kR.out (decide_eq_true ht));clear aW kR ht;go_wp2;go_ret;rw[HF.out];exact⟨rfl,rfl⟩
    have jm:decide ((300:Int)<(t.length:Int))=false:=decide_eq_false (by omega);rw[decide_eq_false ht] at aW;clear kR ht;go_wp2
    go_roundg (n-(j+1))
    case measure=>have:=dF.out;omega
    case rel=>exact⟨j+1,by first|rfl|go_num,rfl,by omega,by omega,aW.out,rfl⟩
   have aez:decide ((j:Int)≤70)=false:=decide_eq_false (by omega);have HF:=hide (show Opm.great l=true by rw[Hg.out,decide_eq_true (show 70<n by omega)];simp);have aoL:decide ((70:Int)<(n:Int))=true:=decide_eq_true (by omega);have cE:(j:Int)<n:=by omega
   have sU:¬(j:Int)≤70:=by omega
   have pz:(70:Int)<n:=by omega
   go_wp2;go_ret;rw[HF.out];exact⟨rfl,rfl⟩
  have cE:¬(j:Int)<n:=by omega
  have fx:j=n:=by omega
  have hF:Opm.great l=decide (70<n):=by
   rw[Hg.out]
   have:(l.take 71).any Opm.nU=false:=by
    have h:=Qf.out;rwa[fx,←Hn.out,List.take_length,←List.take_of_length_le (l:=l) (i:=71) (by rw[Hn.out];omega)] at h
   rw[this,Bool.false_or]
  by_cases h7:70<n
  ·have sU:(70:Int)<n:=by omega
   rw[decide_eq_true h7] at hF;have HF:=hide hF;clear fx hF;go_wp2;go_ret;rw[HF.out];exact⟨rfl,rfl⟩
  have sU:¬(70:Int)<n:=by omega
  rw[decide_eq_false h7] at hF;have HF:=hide hF;clear fx hF;go_wp2;go_ret;rw[HF.out];exact⟨rfl,rfl⟩
instance:DecidableEq ax:=fun x y=>decidable_of_iff (x.pre=y.pre∧x.ns=y.ns) (by cases x;cases y;simp)
theorem R8(w:World)(k n:Nat):∃m,(w.drewN k).drewN n=w.drewN m:=⟨k+n,by simp[World.drewN,Nat.add_assoc]⟩
theorem Rk{a b:L}(h:a≠b):¬(aa a).toList=(aa b).toList:=fun e=>h ((Jp a b).1 e)
theorem abq(la lb:List ax)(A B:Option Addr)(ca cb Na Nb:Nat)(w:World)(hA:Reads w Na 2 A la.length (bP la))(hB:Reads w Nb 2 B lb.length (bP lb))(hl:la.length≤1000000000) :
  Calls Tryz.prog 9 #[.slice A la.length ca,.slice B lb.length cb] w fun e w'=>e=.returned (.bool (decide (la=lb)))∧∃k,w'=w.drewN k:=by
 obtain⟨n,hn⟩:∃n,la.length=n:=⟨_,rfl⟩;obtain⟨m,hm⟩:∃n,lb.length=n:=⟨_,rfl⟩;have HA:=hide hA;have HB:=hide hB;have Hn:=hide hn;have Hm:=hide hm;rw[hn] at hl;rw[hn,hm];clear hA hB hn hm
 by_cases cR:n=m
 ·subst cR
  go_enter Tryz.func9,Tryz.ntmps9
  go_wp2
  go_loopg [4,5,11,12,13,14,15,16,17,18,19,20,21,22,23,24,25] n (fun gk v4 v5 v11 v12 v13 v14 v15 v16 v17 v18 v19 v20 v21 v22 v23 v24 v25 wr=>∃j:Nat,v5=.int .i64 (j:Int)∧gk=n-j∧j≤n∧la.take j=lb.take j∧∃k,wr=w.drewN k)
  case atStart=>exact⟨0,rfl,rfl,by omega,rfl,0,rfl⟩
  case round=>
   obtain⟨j,rfl,au,hj,cN,k,rfl⟩:=hrel;have dF:=hide au;have xc:=hide cN;clear au cN
   by_cases hlt:j<n
   ·have cE:(j:Int)<n:=by omega
    have La:j<la.length:=by rw[Hn.out];exact hlt
    have hjb:j<lb.length:=by rw[Hm.out];exact hlt
    obtain⟨b,off,rfl,jC,x0,x1⟩:=HA.out.o5 La;obtain⟨b',Wl,rfl,anX,y0,y1⟩:=HB.out.o5 hjb;have od:(0:Int)≤j∧(j:Int)<n:=by omega
    have lp:la.take (j+1)=la.take j++[la[j]]:=by rw[List.take_add_one,List.getElem?_eq_getElem La];rfl
    have aq:lb.take (j+1)=lb.take j++[lb[j]]:=by rw[List.take_add_one,List.getElem?_eq_getElem hjb];rfl
    have hne:la[j]≠lb[j]→decide (la=lb)=false:=fun h=>decide_eq_false fun e=>h (by subst e;rfl);obtain⟨⟨u,t⟩,hx⟩:∃x,la[j]=x:=⟨_,rfl⟩;obtain⟨⟨u',t'⟩,hy⟩:∃x,lb[j]=x:=⟨_,rfl⟩;rw[hx] at x0 x1 lp hne;rw[hy] at y0 y1 aq hne;dsimp only at x0 x1 y0 y1
    by_cases hu:u=u'
    ·subst hu
     by_cases ht:t=t'
     ·subst ht;have HT:=hide (show la.take (j+1)=lb.take (j+1) by rw[lp,aq,xc.out]);clear hx hy lp aq hne;go_wp2
      go_quiet (fail)
      go_wp2
      go_roundg (n-(j+1))
      case measure=>have:=dF.out;omega
      case rel=>exact⟨j+1,by first|rfl|go_num,rfl,by omega,HT.out,_,rfl⟩
     have HF:=hide (hne (fun e=>ht (ax.mk.inj e).2));have h1:=Rk ht;clear hx hy lp aq hne ht;go_wp2
     go_quiet (fail)
     go_wp2;go_ret;rw[HF.out];exact⟨rfl,R8 _ _ _⟩
    have HF:=hide (hne (fun e=>hu (ax.mk.inj e).1));have h1:=Rk hu;clear hx hy lp aq hne hu;go_wp2
    go_quiet (fail)
    go_wp2;go_ret;rw[HF.out];exact⟨rfl,R8 _ _ _⟩
   have cE:¬(j:Int)<n:=by omega
   have fx:j=n:=by omega
   have HF:=hide (show decide (la=lb)=true from decide_eq_true (by
    have h:=xc.out;rwa[fx,List.take_of_length_le (by rw[Hn.out];exact Nat.le_refl _),List.take_of_length_le (by rw[Hm.out];exact Nat.le_refl _)] at h))
   clear fx;go_wp2;go_ret;rw[HF.out];exact⟨rfl,_,rfl⟩
 have cE:¬(n:Int)=m:=by omega
 have HF:=hide (show decide (la=lb)=false from decide_eq_false fun e=>cR (by rw[←Hn.out,←Hm.out,e]));clear cR
 go_enter Tryz.func9,Tryz.ntmps9
 go_wp2;go_ret;rw[HF.out];exact⟨rfl,0,rfl⟩
theorem aeU(l:List ax)(A:Option Addr)(c B:Nat)(u:L)(w:World)(hR:Reads w B 2 A l.length (bP l))(hl:l.length≤1000000000) :
  Calls Tryz.prog 11 #[.slice A l.length c,.string (aa u)] w fun e w'=>e=.returned (.bool (decide (u∈l.map (·.pre))))∧w'=w:=by
 obtain⟨n,hn⟩:∃n,l.length=n:=⟨_,rfl⟩;have HR:=hide hR;have Hn:=hide hn;obtain⟨q,hq⟩:∃q,decide (u∈l.map (·.pre))=q:=⟨_,rfl⟩;have Hq:=hide hq;rw[hn] at hl;rw[hn,hq];clear hR hn hq
 go_enter Tryz.func11,Tryz.ntmps11
 go_wp2
 go_loopg [4,5,6,7,8,9,10,11,12,13,14,15,16,17,18] n (fun gk v4 v5 v6 v7 v8 v9 v10 v11 v12 v13 v14 v15 v16 v17 v18 wr=>∃j:Nat,v5=.int .i64 (j:Int)∧gk=n-j∧j≤n∧u∉(l.take j).map (·.pre)∧wr=w)
 case atStart=>exact⟨0,rfl,rfl,by omega,by simp,rfl⟩
 case round=>
  obtain⟨j,rfl,au,hj,hno,rfl⟩:=hrel;have dF:=hide au;have fh:=hide hno;clear au hno
  by_cases hlt:j<n
  ·have cE:(j:Int)<n:=by omega
   have fy:j<l.length:=by rw[Hn.out];exact hlt
   obtain⟨b,off,rfl,jC,x0,x1⟩:=HR.out.o5 fy;have od:(0:Int)≤j∧(j:Int)<n:=by omega
   have lp:l.take (j+1)=l.take j++[l[j]]:=by rw[List.take_add_one,List.getElem?_eq_getElem fy];rfl
   have cd:l[j]∈l:=List.getElem_mem fy;obtain⟨⟨v,t⟩,hx⟩:∃x,l[j]=x:=⟨_,rfl⟩;rw[hx] at x0 x1 lp cd;dsimp only at x0 x1;have he:=Dv v u
   by_cases hu:v=u
   ·rw[decide_eq_true hu] at he;have HF:=hide (show q=true from Hq.out▸decide_eq_true (List.mem_map.2 ⟨_,cd,hu⟩));clear hx lp cd hu;go_wp2;go_ret;rw[HF.out];exact⟨rfl,rfl⟩
   rw[decide_eq_false hu] at he
   have HN:=hide (show u∉(l.take (j+1)).map (·.pre) from by
    rw[lp,List.map_append,List.mem_append];rintro (h|h)
    ·exact fh.out h
    rw[List.map_singleton,List.mem_singleton] at h;exact hu h.symm)
   clear hx lp cd hu;go_wp2
   go_roundg (n-(j+1))
   case measure=>have:=dF.out;omega
   case rel=>exact⟨j+1,by first|rfl|go_num,rfl,by omega,HN.out,rfl⟩
  have cE:¬(j:Int)<n:=by omega
  have fx:j=n:=by omega
  have HF:=hide (show q=false from Hq.out▸decide_eq_false (by
   have h:=fh.out;rwa[fx,List.take_of_length_le (by rw[Hn.out];exact Nat.le_refl _)] at h))
  clear fx;go_wp2;go_ret;rw[HF.out];exact⟨rfl,rfl⟩
end
section
open Go.RowKit Go.WideShapes

theorem Xn(c:UInt8)(w:World):Calls Tryz.prog 78 #[.int .u8 (c.toNat:Int)] w fun e w'=>e=.returned (.bool (Tx.sp c))∧w'=w:=by
 obtain⟨n,hn⟩:∃n,c.toNat=n:=⟨_,rfl⟩;obtain⟨q,hq⟩:∃q,Tx.sp c=q:=⟨_,rfl⟩;have hs:decide (n=32∨n=9∨n=10∨n=13)=q:=by rw[←hq,←hn];rfl
 rw[hq,hn];clear hq hn
 by_cases h1:n=32
 ·obtain rfl:q=true:=by rw[←hs];exact decide_eq_true (.inl h1)
  subst h1;clear hs
  go_enter Tryz.func78,Tryz.ntmps78
  go_wp2;go_ret;exact⟨rfl,rfl⟩
 by_cases h2:n=9
 ·obtain rfl:q=true:=by rw[←hs];exact decide_eq_true (.inr (.inl h2))
  subst h2;clear hs h1
  go_enter Tryz.func78,Tryz.ntmps78
  go_wp2;go_ret;exact⟨rfl,rfl⟩
 by_cases h3:n=10
 ·obtain rfl:q=true:=by rw[←hs];exact decide_eq_true (.inr (.inr (.inl h3)))
  subst h3;clear hs h1 h2
  go_enter Tryz.func78,Tryz.ntmps78
  go_wp2;go_ret;exact⟨rfl,rfl⟩
 by_cases h4:n=13
 ·obtain rfl:q=true:=by rw[←hs];exact decide_eq_true (.inr (.inr (.inr h4)))
  subst h4;clear hs h1 h2 h3
  go_enter Tryz.func78,Tryz.ntmps78
  go_wp2;go_ret;exact⟨rfl,rfl⟩
 obtain rfl:q=false:=by rw[←hs];exact decide_eq_false (by omega)
 have e1:((n:Int)==32)=false:=by simp;omega
 have e2:((n:Int)==9)=false:=by simp;omega
 have e3:((n:Int)==10)=false:=by simp;omega
 have e4:((n:Int)==13)=false:=by simp;omega
 clear hs h1 h2 h3 h4
 go_enter Tryz.func78,Tryz.ntmps78
 go_wp2;go_ret;exact⟨rfl,rfl⟩
theorem ajM(s:ByteArray)(w:World)(hs:s.size≤1000000000):Calls Tryz.prog 77 #[.string s] w fun e w'=>e=.returned (.string (aa (Tx.trim s.data.toList)))∧w'=w:=by
 obtain⟨l,hl⟩:∃l,s.data.toList=l:=⟨_,rfl⟩;obtain rfl:s=aa l:=by rw[←hl,xl]
 clear hl;rw[aP];rw[aC] at hs;have ju:=hide (fun c W=>Xn c W);have HX:=hide (fun (l:List UInt8) a b=>xk l a b);have HZ:=hide (fun (l:List UInt8)=>aC l)
 go_enter Tryz.func77,Tryz.ntmps77
 go_wp2
 go_loopg [0] l.length (fun gk v0 wr=>∃m,gk=m.length∧v0=.string (aa m)∧Tx.lS m=Tx.lS l∧m.length≤l.length∧wr=w)
 case atStart=>exact⟨l,rfl,rfl,rfl,Nat.le_refl _,rfl⟩
 case round=>
  obtain⟨m,hg,rfl,ht,jG,hwr⟩:=hrel;subst hwr;have Hg:=hide hg;have HT:=hide ht;have fS:=hide jG;clear hg ht jG
  cases m with
  | nil=>
   have KM:(aa ([]:List UInt8)).size=0:=aC _;have kP:=hide (show Tx.jN []=Tx.trim l by unfold Tx.trim;rw[←HT.out];rfl);go_wp2
   go_loopg [0] l.length (fun gk v0 wj=>∃m2,gk+([]:List UInt8).length=m2.length+l.length∧v0=.string (aa m2)∧Tx.jN m2=Tx.trim l∧m2.length≤l.length∧wj=wr)
   case atStart=>exact⟨[],by omega,rfl,kP.out,fS.out,rfl⟩
   case round=>
    obtain⟨m2,cD,rfl,jm,vB,LQ⟩:=hrel;subst LQ;have l4:=hide cD;have cj:=hide jm;have C8:=hide vB;clear cD jm vB
    rcases Nat.eq_zero_or_pos m2.length with hz|hz
    ·have hnil:m2=[]:=List.eq_nil_of_length_eq_zero hz;subst hnil;have sQ:(aa ([]:List UInt8)).size=0:=aC _;clear hz;go_wp2;go_ret;exact⟨by rw[←cj.out];rfl,rfl⟩
    obtain⟨m3,d,e3⟩:∃m3 d,m2=m3++[d]:=⟨m2.dropLast,m2.getLast (by intro e;subst e;simp at hz),(List.dropLast_concat_getLast _).symm⟩;subst e3;have UJ:(0:Int)<((m3.length:Nat):Int)+1:=by omega
    obtain⟨k,hk⟩:∃k,m3.length=k:=⟨_,rfl⟩;have dW:k+1≤l.length:=by have:=C8.out;rw[List.length_append,hk] at this;simpa using this
    have hsz:(aa (m3++[d])).size=k+1:=by rw[aC,List.length_append,hk];rfl
    have fY:∀w,(Instr.index 9 (.string (aa (m3++[d]))) (.int .i64 (k:Int))).run Tryz.prog w=.ok (.int .u8 (d.toNat:Nat)) w:=fun w=>rb (aa (m3++[d])) k d (by rw[aP,←hk,List.getElem?_append_right (Nat.le_refl _),Nat.sub_self];rfl) w;have hex:(aa (m3++[d])).extract 0 k=aa m3:=by rw[xk,List.drop_zero,Nat.sub_zero,List.take_left' hk]
    have zk:IntKind.i64.wrap (((k+1:Nat):Int)-1)=(k:Int):=by rw[IntWalk.i64_in _ (by omega)];omega
    have jh:k<k+1:=Nat.lt_succ_self k;have Hk:=hide hk;clear hk hz;generalize hu:aa (m3++[d])=u at *
    cases jH:Tx.sp d with
    | true=>
     have uz:=hide jH;have HC:=hide (ju.out d wr);rw[jH] at HC;clear jH
     go_wp2_with fail
     go_wp2_with fail
     refine cq (HC.out) ?_
     dsimp only;go_wp2
     go_roundg (m3.length+l.length-([]:List UInt8).length)
     case measure=>have:=l4.out;rw[List.length_append,List.length_singleton] at this;have:=fS.out;omega
     case rel=>
      refine⟨m3,by have:=fS.out;omega,rfl,?_,by rw[Hk.out];omega,rfl⟩;rw[←cj.out,Tx.Gd,if_pos uz.out]
    | false=>
     have uz:=hide jH;have HC:=hide (ju.out d wr);rw[jH] at HC;clear jH;have Hu:=hide hu;clear hu
     go_wp2_with fail
     go_wp2_with fail
     refine cq (HC.out) ?_
     dsimp only;go_wp2;go_ret;refine⟨?_,rfl⟩;rw[←cj.out,Tx.Gd,if_neg (by rw[uz.out];simp),Hu.out];rfl
  | cons c m=>
   have fY:∀w,(Instr.index 9 (.string (aa (c :: m))) (.int .i64 0)).run Tryz.prog w=.ok (.int .u8 (c.toNat:Nat)) w:=fun w=>by have h:=rb (aa (c :: m)) 0 c (by rw[aP];rfl) w;exact h
   have hsz:(aa (c :: m)).size=m.length+1:=aC _;have hex:(aa (c :: m)).extract 1 (m.length+1)=aa m:=by rw[xk,Nat.add_sub_cancel];show aa (m.take m.length)=_;rw[List.take_length]
   have hmz:0≤(1:Int)∧(1:Int)≤((m.length+1:Nat):Int):=by omega
   cases hsc:Tx.sp c with
   | true=>
    have kV:=hide hsc;have HC:=hide (ju.out c wr);rw[hsc] at HC;clear hsc
    go_wp2_with fail
    go_wp2_with fail
    refine cq (HC.out) ?_
    dsimp only;go_wp2
    go_roundg m.length
    case measure=>have:=Hg.out;rw[List.length_cons] at this;omega
    case rel=>
     refine⟨m,rfl,rfl,?_,by have:=fS.out;rw[List.length_cons] at this;omega,rfl⟩;rw[←HT.out];unfold Tx.lS;rw[List.dropWhile_cons,if_pos kV.out]
   | false=>
    have kP:=hide (show Tx.jN (c :: m)=Tx.trim l by
     unfold Tx.trim;rw[←HT.out];unfold Tx.lS;rw[List.dropWhile_cons,if_neg (by rw[hsc];simp)])
    have HC:=hide (ju.out c wr);rw[hsc] at HC;clear hsc
    go_wp2_with fail
    go_wp2_with fail
    refine cq (HC.out) ?_
    dsimp only;go_wp2
    go_loopg [0] l.length (fun gk v0 wj=>∃m2,gk+((c :: m):List UInt8).length=m2.length+l.length∧v0=.string (aa m2)∧Tx.jN m2=Tx.trim l∧m2.length≤l.length∧wj=wr)
    case atStart=>exact⟨(c :: m),by omega,rfl,kP.out,fS.out,rfl⟩
    case round=>
     obtain⟨m2,cD,rfl,jm,vB,LQ⟩:=hrel;subst LQ;have l4:=hide cD;have cj:=hide jm;have C8:=hide vB;clear cD jm vB
     rcases Nat.eq_zero_or_pos m2.length with hz|hz
     ·have hnil:m2=[]:=List.eq_nil_of_length_eq_zero hz;subst hnil;have sQ:(aa ([]:List UInt8)).size=0:=aC _;clear hz;go_wp2;go_ret;exact⟨by rw[←cj.out];rfl,rfl⟩
     obtain⟨m3,d,e3⟩:∃m3 d,m2=m3++[d]:=⟨m2.dropLast,m2.getLast (by intro e;subst e;simp at hz),(List.dropLast_concat_getLast _).symm⟩;subst e3;have UJ:(0:Int)<((m3.length:Nat):Int)+1:=by omega
     obtain⟨k,hk⟩:∃k,m3.length=k:=⟨_,rfl⟩;have dW:k+1≤l.length:=by have:=C8.out;rw[List.length_append,hk] at this;simpa using this
     have hsz:(aa (m3++[d])).size=k+1:=by rw[aC,List.length_append,hk];rfl
     have fY:∀w,(Instr.index 9 (.string (aa (m3++[d]))) (.int .i64 (k:Int))).run Tryz.prog w=.ok (.int .u8 (d.toNat:Nat)) w:=fun w=>rb (aa (m3++[d])) k d (by rw[aP,←hk,List.getElem?_append_right (Nat.le_refl _),Nat.sub_self];rfl) w;have hex:(aa (m3++[d])).extract 0 k=aa m3:=by rw[xk,List.drop_zero,Nat.sub_zero,List.take_left' hk]
     have zk:IntKind.i64.wrap (((k+1:Nat):Int)-1)=(k:Int):=by rw[IntWalk.i64_in _ (by omega)];omega
     have jh:k<k+1:=Nat.lt_succ_self k;have Hk:=hide hk;clear hk hz;generalize hu:aa (m3++[d])=u at *
     cases jH:Tx.sp d with
     | true=>
      have uz:=hide jH;have HC:=hide (ju.out d wr);rw[jH] at HC;clear jH
      go_wp2_with fail
      go_wp2_with fail
      refine cq (HC.out) ?_
      dsimp only;go_wp2
      go_roundg (m3.length+l.length-((c :: m):List UInt8).length)
      case measure=>have:=l4.out;rw[List.length_append,List.length_singleton] at this;have:=fS.out;omega
      case rel=>
       refine⟨m3,by have:=fS.out;omega,rfl,?_,by rw[Hk.out];omega,rfl⟩;rw[←cj.out,Tx.Gd,if_pos uz.out]
     | false=>
      have uz:=hide jH;have HC:=hide (ju.out d wr);rw[jH] at HC;clear jH;have Hu:=hide hu;clear hu
      go_wp2_with fail
      go_wp2_with fail
      refine cq (HC.out) ?_
      dsimp only;go_wp2;go_ret;refine⟨?_,rfl⟩;rw[←cj.out,Tx.Gd,if_neg (by rw[uz.out];simp),Hu.out];rfl
end
end Go.Proofs.YtnbmfljhbpfilaaGreatDoor
