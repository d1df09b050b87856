/- Outlines written: what is escaped is undone; no program in sight. And more. -/
import Derived.Test.YtnbmfljhbpfilaaGreatDoorOw08
import Derived.Test.YtnbmfljhbpfilaaGreatDoorOw11
import Derived.Test.YtnbmfljhbpfilaaGreatDoorOw19
import Derived.Test.YtnbmfljhbpfilaaGreatDoorOw31
import Derived.Test.YtnbmfljhbpfilaaGreatDoorOw33
set_option linter.unusedSimpArgs false
set_option linter.unusedVariables false
namespace Go.Proofs.YtnbmfljhbpfilaaGreatDoor
section
open Go Tk Sx
namespace Opm
theorem JK(c:UInt8)(r:L):Tx.escape true (c :: r)=Tx.bU true c++Tx.escape true r:=List.flatMap_cons
theorem adG(a b:L):Tx.escape true (a++b)=Tx.escape true a++Tx.escape true b:=List.flatMap_append
theorem JJ(c:UInt8):(c=38∨c=60∨c=62∨c=13∨c=34∨c=9∨c=10)∨(c≠38∧Tx.bU true c=[c]∧c≠60∧c≠34∧c≠13∧c≠9∧c≠10):=by
 by_cases h1:c=38
 ·exact .inl (.inl h1)
 by_cases h2:c=60
 ·exact .inl (.inr (.inl h2))
 by_cases h3:c=62
 ·exact .inl (.inr (.inr (.inl h3)))
 by_cases h4:c=13
 ·exact .inl (.inr (.inr (.inr (.inl h4))))
 by_cases h5:c=34
 ·exact .inl (.inr (.inr (.inr (.inr (.inl h5)))))
 by_cases h6:c=9
 ·exact .inl (.inr (.inr (.inr (.inr (.inr (.inl h6))))))
 by_cases h7:c=10
 ·exact .inl (.inr (.inr (.inr (.inr (.inr (.inr h7))))))
 refine .inr ⟨h1,?_,h2,h5,h4,h6,h7⟩;unfold Tx.bU;rw[if_neg h1,if_neg h2,if_neg h3,if_neg h4,if_neg (fun h=>h5 h.2),if_neg (fun h=>h6 h.2),if_neg (fun h=>h7 h.2)]
theorem Nq:∀(x:L) (f k:Nat),(Tx.escape true x).length≤f→cP f k (Tx.escape true x)=.ok x
 | [],f,k,_=>F6
 | c :: r,f,k,h=>by
  rw[JK] at h ⊢;rw[List.length_append] at h
  have ref:∀(w:L) (n v:Nat),Tx.bU true c=38 :: w→(∀E:L,ends (w++E)=some n)→(∀E:L,Sx.scalar ((w++E).take n)=some v)→(∀E:L,(w++E).drop (n+1)=E)→cF v=[c]→cP f k (Tx.bU true c++Tx.escape true r)=.ok (c :: r):=by
   intro w n v h1 h2 h3 h4 h5;rw[h1] at h ⊢;rw[List.length_cons] at h
   match f,h with
   | 0,h=>omega
   | f+1,h=>
    rw[List.cons_append,Nt (h2 _) (h3 _),h4,Nq r f _ (by omega),h5];rfl
  rcases JJ c with h1|⟨h1,h2,-⟩
  ·rcases h1 with rfl|rfl|rfl|rfl|rfl|rfl|rfl
   ·exact ref [97,109,112,59] 3 38 (by decide) (fun E=>by rfl) (fun E=>by rfl) (fun E=>rfl) (by decide)
   ·exact ref [108,116,59] 2 60 (by decide) (fun E=>by rfl) (fun E=>by rfl) (fun E=>rfl) (by decide)
   ·exact ref [103,116,59] 2 62 (by decide) (fun E=>by rfl) (fun E=>by rfl) (fun E=>rfl) (by decide)
   ·exact ref [35,49,51,59] 3 13 (by decide) (fun E=>by rfl) (fun E=>by rfl) (fun E=>rfl) (by decide)
   ·exact ref [113,117,111,116,59] 4 34 (by decide) (fun E=>by rfl) (fun E=>by rfl) (fun E=>rfl) (by decide)
   ·exact ref [35,57,59] 2 9 (by decide) (fun E=>by rfl) (fun E=>by rfl) (fun E=>rfl) (by decide)
   exact ref [35,49,48,59] 3 10 (by decide) (fun E=>by rfl) (fun E=>by rfl) (fun E=>rfl) (by decide)
  rw[h2] at h ⊢
  match f,h with
  | 0,h=>simp at h
  | f+1,h=>
   rw[List.cons_append,List.nil_append,Np h1,Nq r f _ (by simp at h;omega)];rfl
theorem sy{x:L}{d:UInt8}(h:d∈Tx.escape true x):d≠60∧d≠34∧d≠13∧d≠9∧d≠10:=by
 obtain⟨c,-,h⟩:=List.mem_flatMap.1 h
 rcases JJ c with h1|⟨-,h2,h3⟩
 ·have key:∀w:L,Tx.bU true c=w→(w.all fun d=>d != 60&&(d != 34&&(d != 13&&(d != 9&&d != 10))))=true→d≠60∧d≠34∧d≠13∧d≠9∧d≠10:=fun w e hw=>by
   rw[e] at h;have:=List.all_eq_true.1 hw d h
   simpa using this
  rcases h1 with rfl|rfl|rfl|rfl|rfl|rfl|rfl<;>exact key _ rfl (by decide)
 rw[h2,List.mem_singleton] at h;subst h;exact h3
theorem VJ:∀{l:L},(60:UInt8)∉l→less l=none
 | [],_=>rfl
 | c :: r,h=>by
  rw[less,if_neg (fun e=>h (by rw[e];exact List.mem_cons_self ..)),VJ (fun e=>h (List.mem_cons_of_mem _ e))];rfl
theorem YG(x:L):value (Tx.escape true x)=.ok x:=by
 unfold value;rw[VJ (fun h=>(sy h).1 rfl)]
 have hn:(Tx.escape true x).map norm=Tx.escape true x:=by
  conv=>rhs;rw[←List.map_id (Tx.escape true x)]
  refine List.map_congr_left fun d hd=>?_;obtain⟨-,-,h1,h2,h3⟩:=sy hd;exact if_neg (by simp[h1,h2,h3])
 dsimp only;rw[hn,Nq x _ _ (Nat.le_refl _)]
theorem DY:∀(n:Nat) (x:L),x.length≤n→fine x=true→fine (Tx.escape true x)=true
 | n,x,hn,hf=>by
  cases hx:x.find? (fun c=>decide (Tx.bU true c≠[c])) with
  | none=>
   have:Tx.escape true x=x:=by
    have h:=List.find?_eq_none.1 hx;clear hx hn hf
    induction x with
    | nil=>rfl
    | cons c r ih=>
     rw[JK,ih fun d hd=>h d (List.mem_cons_of_mem _ hd),show Tx.bU true c=[c] by simpa using h c (List.mem_cons_self ..)];rfl
   rw[this];exact hf
  | some c=>
   obtain⟨h1,p,q,rfl,h2⟩:=List.find?_eq_some_iff_append.1 hx
   have hc:c=38∨c=60∨c=62∨c=13∨c=34∨c=9∨c=10:=by
    rcases JJ c with h|h
    ·exact h
    exact absurd h.2.1 (by simpa using h1)
   obtain⟨f1,f2⟩:=adV (by rcases hc with rfl|rfl|rfl|rfl|rfl|rfl|rfl<;>decide) hf
   match n,hn with
   | 0,hn=>simp at hn
   | n+1,hn=>
    rw[List.length_append,List.length_cons] at hn;rw[adG,JK];refine uL (DY n p (by omega) f1) (uL ?_ (DY n q (by omega) f2))
    rcases hc with rfl|rfl|rfl|rfl|rfl|rfl|rfl<;>decide
end Opm
end
section
open Go.RowKit Tk Sx

theorem Ws{st:St}{n M k:Nat}(h:Ok st n M)(x:L)(hx:x.length≤k):Ok (yH st x) (n+1) (M+k):=by
 refine⟨h.op,Nat.le_trans h.sc (Nat.le_succ _),?_,?_,h.rf,h.vZ⟩
 ·exact Nat.le_trans (MJ st.evs (lR x)) (Nat.succ_le_succ h.ev)
 show ∀y∈dg st.evs (lR x),y.text.length≤M+k;intro y hy;unfold dg at hy;rw[if_neg (by simp[lR])] at hy;have h1:∀z∈st.evs,z.text.length≤M:=h.tx
 split at hy
 ·rename_i z hz
  have yc:=List.mem_of_getLast? hz
  split at hy
  ·rcases List.mem_append.1 hy with hy|hy
   ·exact Nat.le_trans (h1 y (List.dropLast_subset _ hy)) (Nat.le_add_right _ _)
   rw[List.mem_singleton.1 hy];have:=h1 z yc;show (z.text++x).length≤_;rw[List.length_append];omega
  split at hy
  ·exact Nat.le_trans (h1 y hy) (Nat.le_add_right _ _)
  rcases List.mem_append.1 hy with hy|hy
  ·exact Nat.le_trans (h1 y hy) (Nat.le_add_right _ _)
  rw[List.mem_singleton.1 hy];show x.length≤_;omega
 split at hy
 ·exact Nat.le_trans (h1 y hy) (Nat.le_add_right _ _)
 rcases List.mem_append.1 hy with hy|hy
 ·exact Nat.le_trans (h1 y hy) (Nat.le_add_right _ _)
 rw[List.mem_singleton.1 hy];show x.length≤_;omega
theorem Wq{st:St}{n M:Nat}(h:Ok st n M):Ok (jZ st) (n+1) M:=by
 unfold jZ;split
 ·exact Dm h (Nat.le_succ _)
 rename_i x hx
 have eF:=List.mem_of_getLast? hx
 have hsp:st.open_=st.open_.dropLast++[x]:=by
  have hne:st.open_≠[]:=fun e=>by rw[e] at hx;cases hx
  rw[List.getLast?_eq_some_getLast hne] at hx;rw[←Option.some.inj hx,List.dropLast_concat_getLast]
 have hp:=h.vZ;rw[hsp,List.pairwise_append] at hp;refine⟨?_,?_,?_,?_,?_,hp.1⟩
 ·exact Nat.le_trans (by rw[List.length_dropLast];omega) h.op
 ·exact Nat.le_trans (by rw[List.length_take];omega) (Nat.le_trans h.sc (Nat.le_succ _))
 ·exact Nat.le_trans (MJ st.evs ⟨1,x.name,[],[]⟩) (Nat.succ_le_succ h.ev)
 ·exact Xc (x:=⟨1,x.name,[],[]⟩) h.tx (by simp) (by simp)
 intro y hy;show y.scope≤(st.scope.take x.scope).length;have h1:=hp.2.2 y hy x (List.mem_singleton.2 rfl);have h2:=h.rf x eF;rw[List.length_take];omega
theorem RG(st:St):∀d∈(jZ st).scope,d∈st.scope:=by
 unfold jZ;split
 ·exact fun d h=>h
 exact fun d h=>List.mem_of_mem_take h
theorem amE{N:Nat}{t:Tok}(h:nM N t):∀s∈splits t,s.val.length≤4*N:=by
 intro s hs;obtain⟨a,ha,rfl⟩:=List.mem_map.1 hs;have h1:=Yz a;have h2:=(h.an a ha).2;exact Nat.le_trans h1 (Nat.mul_le_mul_left 4 h2)
theorem ahN{st st':St}{t:Tok}{n M V N:Nat}(h:si st n M V)(ht:nM N t)(hV:4*N≤V)(hs:Sx.start st t=.ok st'):si st' (n+18) M V:=by
 unfold Sx.start at hs
 cases he:Sx.early st t with
 | some b=>rw[he] at hs;cases hs
 | none=>
  rw[he] at hs
  have vh:t.attrs.length≤16∧st.open_.length≠16:=by
   unfold Sx.early at he
   cases hn:names t with
   | some a=>rw[hn] at he;cases he
   | none=>
    rw[hn] at he;dsimp only at he
    split at he
    ·cases he
    split at he
    ·cases he
    split at he
    ·cases he
    omega
  dsimp only at hs;rw[VG] at hs
  cases hb:b3 st t with
  | some a=>rw[hb] at hs;cases hs
  | none=>
   rw[hb] at hs;dsimp only at hs;rw[←X4 hb] at hs
   have hl:(cV st t).length≤n+17:=by
    unfold cV;split
    ·have:=JD (splits t) st.scope;rw[show (splits t).length=t.attrs.length from List.length_map _] at this;have:=h.ok.sc;unfold scope';omega
    have:=h.ok.sc;omega
   have bF:=X3 h.ok vh.2 hl (by omega)
   have lC:∀d∈(wh st t (cV st t)).scope,d.ns.length≤V:=by
    intro d hd;have bg:d∈cV st t:=hd;unfold cV at bg
    split at bg
    ·exact DJ (splits t) st.scope h.ns (fun s hs=>Nat.le_trans (amE ht s hs) hV) d bg
    exact h.ns d bg
   cases lJ:t.empty with
   | true=>
    rw[lJ] at hs;simp only[if_true,Except.ok.injEq] at hs;subst hs;exact⟨Wq bF,fun d hd=>lC d (RG _ d hd)⟩
   | false=>
    rw[lJ] at hs;simp only[Bool.false_eq_true,if_false,Except.ok.injEq] at hs;subst hs;exact⟨Dm bF (by omega),lC⟩
theorem ahO{st st':St}{t:Tok}{n M V N:Nat}(h:si st n M V)(ht:nM N t)(hV:4*N≤V)(hs:Sx.step st t=.ok st'):si st' (n+18) (M+4*N) V:=by
 have up:∀{st:St} {m M':Nat},Ok st m M'→m≤n+18→M'≤M+4*N→Ok st (n+18) (M+4*N):=fun {st m M'} k h1 h2=>⟨k.op,Nat.le_trans k.sc h1,Nat.le_trans k.ev h1,fun y hy=>Nat.le_trans (k.tx y hy) h2,k.rf,k.vZ⟩;unfold Sx.step at hs
 split at hs
 ·have:=ahN h ht hV hs;exact⟨up this.ok (by omega) (by omega),this.ns⟩
 split at hs
 ·unfold Sx.end_ at hs
  split at hs
  ·cases hs
  split at hs
  ·simp only[Except.ok.injEq] at hs;subst hs;exact⟨up (Wq h.ok) (by omega) (by omega),fun d hd=>h.ns d (RG _ d hd)⟩
  cases hs
 split at hs
 ·unfold Sx.text at hs
  split at hs
  ·split at hs
   ·simp only[Except.ok.injEq] at hs;subst hs;exact⟨up h.ok (by omega) (by omega),h.ns⟩
   cases hs
  split at hs
  ·rename_i x hx
   simp only[Except.ok.injEq] at hs;subst hs;have:=Nr _ _ _ _ hx;have:=ht.tx;exact⟨up (Ws h.ok x (k:=4*N) (by omega)) (by omega) (by omega),h.ns⟩
  cases hs
 split at hs
 ·unfold Sx.data at hs
  split at hs
  ·cases hs
  simp only[Except.ok.injEq] at hs;subst hs;have:=ht.tx;exact⟨up (Ws h.ok t.text (k:=4*N) (by omega)) (by omega) (by omega),h.ns⟩
 simp only[Except.ok.injEq] at hs;subst hs;exact⟨up h.ok (by omega) (by omega),h.ns⟩
end
section
open Go Tk Sx
theorem Cc(st:St)(a b:List Tok):run st (a++b)=match run st a with | .error x=>.error x | .ok st'=>run st' b:=by
 induction a generalizing st with
 | nil=>rfl
 | cons t a ih=>
  rw[List.cons_append,run,run]
  cases Sx.step st t with
  | error x=>rfl
  | ok st'=>exact ih st'
theorem akN{D:L}{ts:List Tok}(ht:eY D.length 0 D=ts)(hs:∀t∈ts,nM 100000 t)(hl:ts.length≤300000):sj D:=by
 have key:∀k st,k≤ts.length→run eK (ts.take k)=.ok st→si st (18*k) (400000*k) 1000000:=by
  intro k
  induction k with
  | zero=>
   intro st _ h;cases h;exact⟨⟨by simp[eK],by simp[eK],by simp[eK],by simp[eK],by simp[eK],by simp[eK]⟩,by simp[eK]⟩
  | succ k ih=>
   intro st hk h;rw[List.take_add_one,List.getElem?_eq_getElem (by omega),Option.toList_some,Xx] at h
   cases hr:run eK (ts.take k) with
   | error x=>rw[hr] at h;cases h
   | ok st'=>
    rw[hr] at h;have:=ahO (N:=100000) (ih st' (by omega) hr) (hs _ (List.getElem_mem (by omega))) (by decide) h;exact⟨⟨this.ok.op,Nat.le_trans this.ok.sc (by omega),Nat.le_trans this.ok.ev (by omega),fun y hy=>Nat.le_trans (this.ok.tx y hy) (by omega),this.ok.rf,this.ok.vZ⟩,this.ns⟩
 refine⟨by rw[ht];exact hs,fun k st h=>?_⟩;rw[ht,List.take_eq_take_min] at h;have:=key _ st (by omega) h;have hm:min k ts.length≤300000:=by omega
 exact⟨⟨this.ok.op,Nat.le_trans this.ok.sc (by omega),Nat.le_trans this.ok.ev (by omega),fun y hy=>Nat.le_trans (this.ok.tx y hy) (by omega),this.ok.rf,this.ok.vZ⟩,this.ns⟩
end
section
open Go Tk Sx
namespace Opm
def tF:Nm:=⟨[],[104,101,97,100]⟩
def Dk(x:ax)(t:Tok):Prop:=∃a1 a2 k e,t=⟨0,aN.loc,[⟨cy.loc,Tx.escape true x.ns,a1⟩,⟨bH.loc,Tx.escape true x.pre,a2⟩],true,[],k,e⟩
theorem Mt{p:L}(h:(Utf.valid p&&(Utf.from_ 0 p).all fun q=>gi q.1 q.2)=true):Name p:=by
 simp only[Bool.and_eq_true,List.all_eq_true] at h;exact h
theorem Si{e:L}(h:(34:UInt8)∉e):yR (61 :: 34 :: (e++[34])) e:=⟨[],[],34,rfl,rfl,.inl rfl,h,rfl⟩
theorem ahY(at_:Nat)(x:ax):∃t,jz at_ (one x) t∧Dk x t:=by
 have key:∀W,60 :: (aN.loc++([32]++(cy.loc++((61 :: 34 :: (Tx.escape true x.ns++[34]))++([32]++(bH.loc++((61 :: 34 :: (Tx.escape true x.pre++[34]))++([]++[47,62]))))))))=W→∃t,jz at_ W t∧Dk x t:=by
  rintro _ rfl
  exact⟨_,.start at_ aN.loc _ _ true (Mt (by kernel_rfl)) (by decide) (.more _ [32] cy.loc _ _ _ _ _ rfl (by simp) (Mt (by kernel_rfl)) (by decide) (Si fun h=>(sy h).2.1 rfl) (fun h=>(sy h).1 rfl)
   (.more _ [32] bH.loc _ _ _ _ _ rfl (by simp) (Mt (by kernel_rfl)) (by decide) (Si fun h=>(sy h).2.1 rfl) (fun h=>(sy h).1 rfl) (.two _ [] rfl))),_,_,_,_,rfl⟩
 exact key _ (by simp[one,c1,c2,c3,aN,cy,bH])
def sF(x:ax):List Ev:=[⟨0,aN,[⟨cy,x.ns⟩,⟨bH,x.pre⟩],[]⟩,⟨1,aN,[],[]⟩]
theorem YH(n:L)(x:L)(a:Nat)(h:eJ ⟨n,Tx.escape true x,a⟩=⟨[],n,[],a⟩):oJ ⟨n,Tx.escape true x,a⟩=⟨[],n,x,a⟩:=by
 unfold oJ Sx.valOf;rw[h,YG]
theorem adT{x:ax}(h1:fine x.ns=true)(h2:fine x.pre=true):fine (one x)=true:=by
 unfold one;exact uL (uL (uL (uL (by kernel_rfl) (DY _ _ (Nat.le_refl _) h1)) (by kernel_rfl)) (DY _ _ (Nat.le_refl _) h2)) (by kernel_rfl)
end Opm
end
section
open Go Tk Sx
namespace Opm
def Fc(w:L):Prop:=fine w=true∧(13:UInt8)∉w
theorem Fc.app{a b:L}(h:Fc a)(k:Fc b):Fc (a++b):=⟨uL h.1 k.1,fun e=>(List.mem_append.1 e).elim h.2 k.2⟩
inductive dV:Nat→L→L→List Tok→Prop
 | nil (p:Nat) (rest:L):dV p [] rest []
 | cons (p:Nat) (w w2 rest:L) (t:Tok) (ts:List Tok):t.end_=p+w.length→w≠[]→Tk.one p (w++(w2++rest))=some t→Pl p (w++(w2++rest))→nM 100000 t→Fc w→dV (p+w.length) w2 rest ts→dV p (w++w2) rest (t :: ts)
theorem dV.app{p:Nat}{a b rest:L}{ts us:List Tok}(h:dV p a (b++rest) ts)(h2:dV (p+a.length) b rest us):dV p (a++b) rest (ts++us):=by
 generalize hr:b++rest=r at h
 induction h with
 | nil=>exact h2
 | cons p w w2 _ t ts h1 h3 h4 h5 h6 h7 _ ih=>
  subst hr;rw[List.append_assoc];exact .cons p w _ rest t _ h1 h3 (by rw[List.append_assoc];exact h4) (by rw[List.append_assoc];exact h5) h6 h7 (ih (by rw[Nat.add_assoc,←List.length_append];exact h2) rfl)
theorem dV.eY{p:Nat}{w:L}{ts:List Tok}(h:dV p w [] ts):∀k,w.length≤k→Tk.eY k p w=ts:=by
 generalize hr:([]:L)=r at h
 induction h with
 | nil=>intro k _;cases k<;>rfl
 | cons p w w2 _ t ts h1 h2 h3 _ _ _ _ ih=>
  subst hr;intro k hk;have:=List.length_pos_iff.2 h2;rw[List.length_append] at hk
  match k,hk with
  | 0,hk=>omega
  | k+1,hk=>
   rw[List.append_nil] at h3;rw[Tk.eY,if_neg (by simp[h2]),h3];dsimp only;rw[h1,Nat.add_sub_cancel_left,List.drop_left,ih rfl k (by omega)]
theorem dV.at_{w:L}{ts us:List Tok}:∀{p:Nat},dV p w [] (ts++us)→∃a b,w=a++b∧(ts.getLast?.map (·.end_)).getD p=p+a.length∧dV (p+a.length) b [] us:=by
 induction ts generalizing w with
 | nil=>exact fun h=>⟨[],w,rfl,rfl,h⟩
 | cons t ts ih=>
  intro p h
  cases h with
  | cons _ w w2 _ _ _ h1 _ _ _ _ _ h4=>
   obtain⟨a,b,rfl,h5,h6⟩:=ih h4;refine⟨w++a,b,by simp,?_,by rw[List.length_append,←Nat.add_assoc];exact h6⟩;rw[List.getLast?_cons,Option.map_some,Option.getD_some,List.length_append,←Nat.add_assoc,←h5,←h1]
   cases ts.getLast?<;>rfl
theorem dV.mem{p:Nat}{w r:L}{ts:List Tok}(h:dV p w r ts):(∀t∈ts,nM 100000 t)∧ts.length≤w.length∧Fc w:=by
 induction h with
 | nil=>exact⟨fun t h=>(by cases h),Nat.le_refl _,by kernel_rfl,by decide⟩
 | cons p w w2 _ t ts _ h2 _ _ h4 h5 _ ih=>
  have:=List.length_pos_iff.2 h2;refine⟨fun u hu=>?_,by rw[List.length_append,List.length_cons];omega,h5.app ih.2.2⟩
  rcases List.mem_cons.1 hu with rfl|hu
  ·exact h4
  exact ih.1 u hu
theorem dV.sml{D:L}{ts:List Tok}(h:dV 0 D [] ts)(hD:D.length≤300000):sk D∧sj D:=by
 obtain⟨h1,h2,h3⟩:=h.mem;have ht:=h.eY D.length (Nat.le_refl _);refine⟨⟨JO h3.1,fun p us hr hp=>?_⟩,akN ht h1 (by omega)⟩;obtain⟨-,he,f,-,hr⟩:=hr;rw[ht] at hr;rw[hr] at h;obtain⟨a,b,hab,h4,h5⟩:=h.at_;have UH:p=0+a.length:=by rw[←h4];exact he.symm
 rw[←UH] at h5;have hd:D.drop p=b:=by rw[hab,UH,Nat.zero_add,List.drop_left]
 rw[hd];have hl:b.length=D.length-p:=by rw[←hd,List.length_drop]
 generalize Tk.eY f p (D.drop p)=vs at h5
 cases h5 with
 | nil=>simp at hl;omega
 | cons _ w w2 _ t ts e1 e2 e3 e4=>
  have:=List.length_pos_iff.2 e2;rw[List.append_nil] at e3 e4;rw[List.length_append] at hl;refine⟨e4,fun u hu=>?_⟩;rw[e3] at hu;cases hu;omega
theorem Mz{p:Nat}{w r:L}{t:Tok}(h:Tk.piece p (w++r)=some t)(he:t.end_=p+w.length)(hf:fine w=true):Tk.one p (w++r)=some t:=by
 unfold Tk.one;rw[h,Option.bind_some,he,Nat.add_sub_cancel_left,List.take_left,if_pos hf]
def wO:L:=[60,111,112,109,108,62,60,104,101,97,100,62,60,111,117,116,108,105,110,101,32,120,109,108,85,114,108,61,34,110,111,34,47,62,60,47,104,101,97,100,62,60,98,111,100,121,32,120,61,34,121,34,62]
def wG:L:=[60,111,117,116,108,105,110,101,32,116,101,120,116,61,34,103,34,32,120,109,108,85,114,108,61,34,32,34,62]
def wX:L:=[60,120,32,120,109,108,85,114,108,61,34,110,111,34,62]
def wZ:L:=[60,47,98,111,100,121,62,60,98,111,100,121,62,60,111,117,116,108,105,110,101,32,120,109,108,85,114,108,61,34,110,111,34,47,62,60,47,98,111,100,121,62,60,47,111,112,109,108,62]
def kO(p:Nat):Tok:=⟨0,dr.loc,[],false,[],p,p+6⟩
def kH(p:Nat):Tok:=⟨0,tF.loc,[],false,[],p,p+6⟩
def kN(p:Nat):Tok:=⟨0,aN.loc,[⟨bH.loc,[110,111],p+9⟩],true,[],p,p+22⟩
def kB(p:Nat):Tok:=⟨0,bQ.loc,[⟨[120],[121],p+6⟩],false,[],p,p+12⟩
def kC(p:Nat):Tok:=⟨0,bQ.loc,[],false,[],p,p+6⟩
def kE(n:Nm)(p:Nat):Tok:=⟨1,n.loc,[],false,[],p,p+n.loc.length+3⟩
def kG(p:Nat):Tok:=⟨0,aN.loc,[⟨cy.loc,[103],p+9⟩,⟨bH.loc,[32],p+18⟩],false,[],p,p+29⟩
def nX:Nm:=⟨[],[120]⟩
def kX(p:Nat):Tok:=⟨0,nX.loc,[⟨bH.loc,[110,111],p+3⟩],false,[],p,p+15⟩
def kT(c:UInt8)(p:Nat):Tok:=⟨2,[],[],false,[c],p,p+1⟩
def kS(n p:Nat):Tok:=⟨4,[],[],false,[],p,p+n⟩
theorem NL{t:Tok}(h:NK t=true):nM 100000 t:=by
 obtain⟨h1,h2,h3,h4,h5⟩:=of_decide_eq_true h;exact⟨h1,h2,h3,h4,h5⟩
theorem dV.lit{p:Nat}{w w2 r:L}{t:Tok}{ts:List Tok}(hr:dV (p+w.length) w2 r ts)(h:Tk.piece p (w++(w2++r))=some t)(he:t.end_=p+w.length:=by rfl)(hf:Fc w:=by exact⟨by kernel_rfl,by decide⟩)(hn:w≠[]:=by decide)
  (hp:FR (w++(w2++r))=true:=by kernel_rfl) (hs:NK t=true:=by kernel_rfl):dV p (w++w2) r (t :: ts):=.cons p w w2 r t ts he hn (Mz h he hf.1) (.inl hp) (NL hs) hf hr
theorem ae0(p:Nat)(r:L):dV p wO r [kO p,kH (p+6),kN (p+12),kE tF (p+34),kB (p+41)]:=by
 show dV p ([60,111,112,109,108,62]++([60,104,101,97,100,62]++([60,111,117,116,108,105,110,101,32,120,109,108,85,114,108,61,34,110,111,34,47,62]++([60,47,104,101,97,100,62]++([60,98,111,100,121,32,120,61,34,121,34,62]++[]))))) r _;exact .lit (.lit (.lit (.lit (.lit (.nil _ _) (by kernel_rfl)) (by kernel_rfl)) (by kernel_rfl)) (by kernel_rfl)) (by kernel_rfl)
theorem aeg(p:Nat):dV p wZ [] [kE bQ p,kC (p+7),kN (p+13),kE bQ (p+35),kE dr (p+42)]:=by
 show dV p ([60,47,98,111,100,121,62]++([60,98,111,100,121,62]++([60,111,117,116,108,105,110,101,32,120,109,108,85,114,108,61,34,110,111,34,47,62]++([60,47,98,111,100,121,62]++([60,47,111,112,109,108,62]++[]))))) [] _;exact .lit (.lit (.lit (.lit (.lit (.nil _ _) (by kernel_rfl)) (by kernel_rfl)) (by kernel_rfl)) (by kernel_rfl)) (by kernel_rfl)
theorem acP(s:L):dV 0 (rL++[10]) (60 :: s) [kS 21 0,kT 10 21] :=
 .cons 0 rL [10] (60 :: s) (kS 21 0) _ rfl (by decide) (Mz (by kernel_rfl) rfl (by kernel_rfl)) (.inr (.inl ⟨rfl,_,rfl⟩)) (NL (by kernel_rfl)) ⟨by kernel_rfl,by decide⟩ (.lit (w:=[10]) (w2:=[]) (.nil _ _) (by kernel_rfl))
abbrev eI(S:List El)(evs:List Ev):St:=⟨S,[],evs,true⟩
def el(n:Nm):El:=⟨n.loc,n,0⟩
theorem R9{S:List El}{evs:List Ev}{t:Tok}(hS:S≠[])(hl:S.length<16)(hn:names t=none)(ha:t.attrs.length≤16):Sx.early (eI S evs) t=none:=by
 have h1:S.isEmpty=false:=by simp[hS]
 simp only[Sx.early,hn,eI,h1,Bool.and_false,Bool.false_eq_true,if_false,if_neg (show ¬16<t.attrs.length by omega)];exact if_neg (by omega)
theorem X5{S:List El}{evs:List Ev}{t:Tok}{st:St}(hS:S≠[])(hl:S.length<16)(h0:t.kind=0)(he:t.empty=false)(hn:names t=none)(ha:t.attrs.length≤16)(dB:Sx.late (eI S evs) t=none)(hst:Sx.started (eI S evs) t=st):Sx.step (eI S evs) t=.ok st:=by
 unfold Sx.step Sx.start;rw[if_pos h0,R9 hS hl hn ha];dsimp only;rw[dB];dsimp only;rw[he,hst];rfl
theorem RF(S:List El)(n:Nm)(evs:List Ev):jZ (eI (S++[el n]) evs)=eI S (evs++[⟨1,n,[],[]⟩]):=by
 unfold jZ eI;simp only[List.getLast?_concat,List.dropLast_concat];rfl
theorem X6(S:List El)(n:Nm)(evs:List Ev)(p:Nat):Sx.step (eI (S++[el n]) evs) (kE n p)=.ok (eI S (evs++[⟨1,n,[],[]⟩])):=by
 rw[←RF];unfold Sx.step Sx.end_;rw[if_neg (by simp[kE]),if_pos (show (kE n p).kind=1 from rfl)];simp only[eI,List.getLast?_concat];rw[if_pos (show (el n).written=(kE n p).name from rfl)]
theorem Nv{S:List El}{evs:List Ev}{y:Ev}{c:UInt8}(p:Nat)(hS:S≠[])(hy:y.kind≠2)(hc:cP 1 0 [c]=.ok [c]):Sx.step (eI S (evs++[y])) (kT c p)=.ok (eI S (evs++[y]++[lR [c]])):=by
 unfold Sx.step Sx.text;rw[if_neg (by simp[kT]),if_neg (by simp[kT]),if_pos (show (kT c p).kind=2 from rfl)];simp only[eI,kT,List.length_singleton];rw[if_neg hS,hc];unfold yH dg;simp only[lR,List.getLast?_concat];rw[if_neg (by simp),if_neg hy];rfl
theorem als(st:St)(n p:Nat):Sx.step st (kS n p)=.ok st:=rfl
theorem rF{st st':St}{t:Tok}(h:Sx.step st t=.ok st')(r:List Tok):run st (t :: r)=run st' r:=by rw[run,h]
theorem alu{x:ax}{t:Tok}(h:Dk x t){S:List El}{evs:List Ev}(hS:S≠[])(hl:S.length<16):Sx.step (eI S evs) t=.ok (eI S (evs++sF x)):=by
 obtain⟨a1,a2,k,e,rfl⟩:=h
 have hs:splits ⟨0,aN.loc,[⟨cy.loc,Tx.escape true x.ns,a1⟩,⟨bH.loc,Tx.escape true x.pre,a2⟩],true,[],k,e⟩=[⟨[],cy.loc,x.ns,a1⟩,⟨[],bH.loc,x.pre,a2⟩]:=by
  unfold splits;simp only[List.map_cons,List.map_nil];rw[YH _ _ _ (by kernel_rfl),YH _ _ _ (by kernel_rfl)]
 have hv:iN [⟨cy.loc,Tx.escape true x.ns,a1⟩,⟨bH.loc,Tx.escape true x.pre,a2⟩]=none:=by
  simp only[iN,YG]
 have dB:Sx.late (eI S evs) ⟨0,aN.loc,[⟨cy.loc,Tx.escape true x.ns,a1⟩,⟨bH.loc,Tx.escape true x.pre,a2⟩],true,[],k,e⟩=none:=by
  unfold Sx.late Sx.scope';rw[hv,hs]
  kernel_rfl
 have hst:Sx.started (eI S evs) ⟨0,aN.loc,[⟨cy.loc,Tx.escape true x.ns,a1⟩,⟨bH.loc,Tx.escape true x.pre,a2⟩],true,[],k,e⟩=eI (S++[el aN]) (evs++[⟨0,aN,[⟨cy,x.ns⟩,⟨bH,x.pre⟩],[]⟩]):=by
  unfold Sx.started Sx.scope';rw[hs]
  kernel_rfl
 unfold Sx.step Sx.start;rw[if_pos rfl,R9 hS hl (by kernel_rfl) (by simp)];dsimp only;rw[dB];dsimp only;rw[if_pos rfl,hst,RF,List.append_assoc];rfl
def sz:Ev:=⟨0,aN,[⟨cy,[103]⟩,⟨bH,[32]⟩],[]⟩
def uK:Ev:=⟨0,nX,[⟨bH,[110,111]⟩],[]⟩
def wL:L:=[60,47,111,117,116,108,105,110,101,62,10]
def wY:L:=yN++[60,47,120,62]
inductive Sg:Nat→L→List Ev→List ax→Prop
 | nil (h:Nat):Sg h [] [] []
 | ln (h:Nat) (x:ax):fine x.ns=true→fine x.pre=true→x.ns.length≤300→x.pre.length≤300→Sg (h+1) (one x++[10]) (sF x++[lR [10]]) [x]
 | gr (h:Nat) (w:L) (b:List Ev) (l:List ax):Sg h w b l→Sg (h+1) (wG++(w++wL)) (sz :: (b++[⟨1,aN,[],[]⟩,lR [10]])) l
 | xx (h:Nat) (w:L) (b:List Ev) (l:List ax):Sg h w b l→Sg (h+1) (wX++(116 :: (w++wY))) (uK :: lR [116] :: (b++[⟨1,nX,[],[]⟩])) l
 | app (h:Nat) (w v:L) (b c:List Ev) (l m:List ax):Sg h w b l→Sg h v c m→Sg h (w++v) (b++c) (l++m)
theorem Sg.front{h:Nat}{w:L}{b:List Ev}{l:List ax}(H:Sg h w b l)(s:L):∃r,w++60 :: s=60 :: r:=by
 induction H generalizing s with
 | nil=>exact⟨s,rfl⟩
 | ln h x=>exact⟨_,by rw[one,List.append_assoc];rfl⟩
 | gr=>exact⟨_,rfl⟩
 | xx=>exact⟨_,rfl⟩
 | app h w v b c l m _ _ i1 i2=>
  obtain⟨r,e⟩:=i2 s;rw[List.append_assoc,e];exact i1 r
theorem ahX(p:Nat)(x:ax)(h1:fine x.ns=true)(h2:fine x.pre=true)(h3:x.ns.length≤300)(h4:x.pre.length≤300)(s:L):∃t,dV p (one x++[10]) (60 :: s) [t,kT 10 (p+(one x).length)]∧Dk x t:=by
 obtain⟨t,ht,hi⟩:=ahY p x;refine⟨t,?_,hi⟩;have hf:=adT h1 h2;refine .cons p (one x) [10] (60 :: s) t _ ht.Sb ht.ne (ahW ht hf fun hk=>by obtain⟨_,_,_,_,rfl⟩:=hi;exact absurd hk (by simp)) (.inl ?_) ?_ ⟨hf,?_⟩ (.lit (w:=[10]) (w2:=[]) (.nil _ _) (by kernel_rfl))
 ·rw[one,List.append_assoc];rfl
 ·obtain⟨a1,a2,k,e,rfl⟩:=hi;refine⟨by simp[aN],by simp,by simp,fun a ha=>?_,.inl rfl⟩;have h5:=Tx.pg true x.ns;have h6:=Tx.pg true x.pre;simp only[List.mem_cons,List.not_mem_nil,or_false] at ha
  rcases ha with rfl|rfl
  ·exact⟨by simp[cy],by dsimp only;omega⟩
  exact⟨by simp[bH],by dsimp only;omega⟩
 unfold one;intro h;simp only[List.mem_append] at h
 rcases h with (((h|h) | h) | h) | h
 ·exact absurd h (by decide)
 ·exact (sy h).2.2.1 rfl
 ·exact absurd h (by decide)
 ·exact (sy h).2.2.1 rfl
 exact absurd h (by decide)
theorem Sg.run{h:Nat}{w:L}{b:List Ev}{l:List ax}(H:Sg h w b l):∀(p:Nat) (S:List El) (evs:List Ev) (s:L),S≠[]→S.length+h≤16→∃ts,dV p w (60 :: s) ts∧Sx.run (eI S evs) ts=.ok (eI S (evs++b)):=by
 induction H with
 | nil=>exact fun p S evs s _ _=>⟨[],.nil _ _,by rw[List.append_nil];rfl⟩
 | ln h x h1 h2 h3 h4=>
  intro p S evs s hS hl;obtain⟨t,hw,hi⟩:=ahX p x h1 h2 h3 h4 s;refine⟨_,hw,?_⟩;rw[rF (alu hi hS (by omega)),show evs++sF x=evs++[⟨0,aN,[⟨cy,x.ns⟩,⟨bH,x.pre⟩],[]⟩]++[⟨1,aN,[],[]⟩] by rw[List.append_assoc];rfl,rF (Nv _ hS (by decide) rfl)];simp[Sx.run,sF]
 | gr h w b l _ ih=>
  intro p S evs s hS hl;obtain⟨ts,h1,h2⟩:=ih (p+29) (S++[el aN]) (evs++[sz]) _ (by simp) (by simp;omega);refine⟨kG p :: (ts++[kE aN (p+29+w.length),kT 10 (p+29+w.length+10)]),.lit (w:=wG) (.app h1 (.lit (w:=[60,47,111,117,116,108,105,110,101,62]) (w2:=[10]) (.lit (w:=[10]) (w2:=[]) (.nil _ _) (by kernel_rfl)) (by kernel_rfl))) ?_,?_⟩
  ·kernel_rfl
  rw[rF (st':=eI (S++[el aN]) (evs++[sz])) (X5 hS (by omega) rfl rfl (by kernel_rfl) (Nat.le_of_ble_eq_true rfl) (by kernel_rfl) (by kernel_rfl)),Cc,h2];dsimp only;rw[rF (X6 ..),rF (Nv _ hS (by decide) rfl)];simp[Sx.run]
 | xx h w b l H ih=>
  intro p S evs s hS hl;obtain⟨ts,h1,h2⟩:=ih (p+15+1) (S++[el nX]) (evs++[uK]++[lR [116]]) _ (by simp) (by simp;omega);obtain⟨r,e⟩:=H.front ([33,45,45,32,121,32,45,45,62]++([60,47,120,62]++60 :: s));refine⟨kX p :: kT 116 (p+15) :: (ts++[kS 10 (p+15+1+w.length),kE nX (p+15+1+w.length+10)]),.lit (w:=wX) (.lit (w:=[116]) (.app h1 (.cons _ yN [60,47,120,62] (60 :: s) _ _ rfl (by decide) (Mz (by kernel_rfl) rfl (by kernel_rfl)) (.inr (.inr ⟨_,rfl⟩)) (NL (by kernel_rfl)) ⟨by kernel_rfl,by decide⟩ (.lit (w:=[60,47,120,62]) (w2:=[]) (.nil _ _) (by kernel_rfl)))) ?_) ?_,?_⟩
  ·refine Eq.trans (congrArg (fun z=>Tk.piece _ (116 :: z)) (show (w++wY)++60 :: s=60 :: r by rw[List.append_assoc];exact e)) ?_
   kernel_rfl
  ·kernel_rfl
  rw[rF (st':=eI (S++[el nX]) (evs++[uK])) (X5 hS (by omega) rfl rfl (by kernel_rfl) (Nat.le_of_ble_eq_true rfl) (by kernel_rfl) (by kernel_rfl)),rF (Nv _ (by simp) (by decide) rfl),Cc,h2];dsimp only;rw[rF (als ..),rF (X6 ..)];simp[Sx.run]
 | app h w v b c l m _ hv i1 i2=>
  intro p S evs s hS hl;obtain⟨r,e⟩:=hv.front s;obtain⟨t1,h1,h2⟩:=i1 p S evs r hS hl;obtain⟨t2,h3,h4⟩:=i2 (p+w.length) S (evs++b) s hS hl;rw[←e] at h1;exact⟨_,h1.app h3,by rw[Cc,h2];dsimp only;rw[h4,List.append_assoc]⟩
end Opm
end
section
open Go Tk Sx
theorem Jn{evs:List Ev}{e:Ev}(h:yQ evs)(hg:OE (opn [] evs) evs.length (evs.getLast?) e):yQ (evs++[e]):=by
 intro k x hx
 by_cases hk:k<evs.length
 ·rw[List.getElem?_append_left hk] at hx;have:=h k x hx;rw[List.take_append_of_le_length (by omega),List.getElem?_append_left (by omega)];exact this
 have cu:k=evs.length:=by
  have:=(List.getElem?_eq_some_iff.1 hx).1;rw[List.length_append] at this;simp at this;omega
 subst cu;rw[List.getElem?_append_right (Nat.le_refl _),Nat.sub_self] at hx;simp only[List.getElem?_cons_zero,Option.some.injEq] at hx;subst hx;rw[List.take_left]
 rcases hg with hg|hg|⟨h1,h2,h3,h4,p,h5,h6⟩
 ·exact .inl hg
 ·exact .inr (.inl hg)
 refine .inr (.inr ⟨h1,h2,h3,h4,p,?_,h6⟩);have hne:evs≠[]:=fun e=>by rw[e] at h5;cases h5
 have:=List.length_pos_iff.2 hne;rw[List.getElem?_append_left (by omega),←List.getLast?_eq_getElem?];exact h5
namespace Opm
def U(l:List Ev):List Nat×List (Nat×Nat):=Evs.upto l l.length
theorem Yt(a b:List Ev):∀i,i≤a.length→Evs.upto (a++b) i=Evs.upto a i
 | 0,_=>rfl
 | i+1,h=>by rw[Evs.upto,Evs.upto,Yt a b i (by omega),List.getElem?_append_left (by omega)]
theorem Jf(a:List Ev)(e:Ev):U (a++[e])=Evs.jt (U a) a.length e:=by
 unfold U;rw[List.length_append,List.length_singleton,Evs.Gf (e:=e) (by rw[List.getElem?_append_right (Nat.le_refl _),Nat.sub_self];rfl),Yt a [e] _ (Nat.le_refl _)]
theorem aef{x:ax}(h1:Tx.line x.pre=x.pre)(h2:Tx.line x.ns=x.ns)(h0:x.pre≠[]):oB [⟨cy,x.ns⟩,⟨bH,x.pre⟩]=x:=by
 have a1:(Evs.iz ⟨[],bH.loc⟩ [⟨cy,x.ns⟩,⟨bH,x.pre⟩]).getD []=x.pre:=by kernel_rfl
 have a2:(Evs.iz ⟨[],oy.loc⟩ [⟨cy,x.ns⟩,⟨bH,x.pre⟩]).getD []=[]:=by kernel_rfl
 have a3:(Evs.iz ⟨[],cy.loc⟩ [⟨cy,x.ns⟩,⟨bH,x.pre⟩]).getD []=x.ns:=by kernel_rfl
 have a4:Tx.line []=[]:=by kernel_rfl
 unfold oB;simp only[ft,a1,a2,a3,a4,h1,h2];rw[if_neg h0]
 try rw[if_pos rfl]
 by_cases hn:x.ns=[]
 ·cases x;simp at hn;subst hn;simp
 simp[hn]
end Opm
end
end Go.Proofs.YtnbmfljhbpfilaaGreatDoor
