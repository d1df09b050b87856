/- opml.elements: its value; opml.first: the first attribute of some that, as a line, is not empty. And more. -/
import Derived.Test.YtnbmfljhbpfilaaGreatDoorOw07
import Derived.Test.YtnbmfljhbpfilaaGreatDoorOw08
import Derived.Test.YtnbmfljhbpfilaaGreatDoorOw10
import Derived.Test.YtnbmfljhbpfilaaGreatDoorOw11
import Derived.Test.YtnbmfljhbpfilaaGreatDoorOw19
import Derived.Test.YtnbmfljhbpfilaaGreatDoorOw22
import Derived.Test.YtnbmfljhbpfilaaGreatDoorOw28
import Derived.Test.YtnbmfljhbpfilaaGreatDoorOw30
import Derived.Test.YtnbmfljhbpfilaaGreatDoorShelf
import Derived.Maps.AppendAt
import Derived.Lib.AppendStr
set_option linter.unusedSimpArgs false
set_option maxRecDepth 100000
set_option maxHeartbeats 8000000
set_option linter.unusedVariables false
namespace Go.Proofs.YtnbmfljhbpfilaaGreatDoor
section
open Go.RowKit Go.Shelf Tk Sx Go.WideShapes

namespace Opm
def ft(ak:List eZ):List L→L
 | []=>[]
 | n :: r=>if Tx.line ((Evs.iz ⟨[],n⟩ ak).getD [])=[] then ft ak r else Tx.line ((Evs.iz ⟨[],n⟩ ak).getD [])
end Opm
theorem abP(o:Option L):Q0 o=.tuple #[.string (aa (o.getD [])),.bool o.isSome]:=by cases o<;>rfl
def FJ(l:List L):List Value:=l.map fun x=>Value.string (aa x)
theorem ahP(s:L)(w:World)(jf:(13:UInt8)∉s):Calls Tryz.prog 15 #[.string (aa s)] w fun e w'=>e=.returned (.string (aa s))∧w'=w:=by
 have HI:=hide (show Calls Tryz.prog 35 #[.string (aa s),.int .u8 13] w fun e w'=>e=.returned (.int .i64 (-1))∧w'=w from by
  have h:=Tryz.strings_IndexByte (aa s) 13 w;rw[aP] at h
  have h1:Lib.indexByte s 13 = -1:=by
   have h2:=Lib.indexByte_ge s 13
   rcases Int.lt_or_le (Lib.indexByte s 13) 0 with h3|h3
   ·omega
   exfalso
   obtain⟨m,hm⟩:∃m:Nat,Lib.indexByte s 13=m:=⟨(Lib.indexByte s 13).toNat,by omega⟩;exact jf (List.mem_of_getElem? (L5 hm).2)
  rw[←h1];exact h)
 go_enter Tryz.func15,Tryz.ntmps15
 go_wp2_with fail
 refine cq HI.out ?_;dsimp only;go_wp2;go_ret;exact⟨rfl,rfl⟩
theorem adp(A:Option Addr)(n c i:Nat)(nm:Nm)(w:World):Calls Tryz.prog 18 #[.slice A n c,.int .i64 (i:Int),.agg #[.string (aa nm.ns),.string (aa nm.loc)]] w fun e w'=>
  e=.returned (.func (.func 39) #[] #[.pointer (some ⟨w.heap.size,0,none⟩),.pointer (some ⟨w.heap.size+1,0,none⟩),.pointer (some ⟨w.heap.size+2,0,none⟩)])∧w'=((w.alloc (.cells #[.slice A n c] 38)).alloc (.cells #[.int .i64 (i:Int)] 3)).alloc (.cells #[.string (aa nm.ns),.string (aa nm.loc)] 45):=by
 go_enter Tryz.func18,Tryz.ntmps18
 go_wp2;go_ret;exact⟨rfl,rfl⟩
theorem adr(A:Option Addr)(n c i:Nat)(nm:Nm)(w w':World)(h:w'=((w.alloc (.cells #[.slice A n c] 38)).alloc (.cells #[.int .i64 (i:Int)] 3)).alloc (.cells #[.string (aa nm.ns),.string (aa nm.loc)] 45)) :
  ae w' w.heap.size 38 #[.slice A n c]∧ae w' (w.heap.size+1) 3 #[.int .i64 (i:Int)]∧ae w' (w.heap.size+2) 45 #[.string (aa nm.ns),.string (aa nm.loc)]∧Below w.heap.size w w':=by
 subst h;have h1:=ae.new (w.alloc (.cells #[.slice A n c] 38)) 3 #[.int .i64 (i:Int)];have h2:=ae.new ((w.alloc (.cells #[.slice A n c] 38)).alloc (.cells #[.int .i64 (i:Int)] 3)) 45 #[.string (aa nm.ns),.string (aa nm.loc)];rw[World.size_alloc] at h1;rw[World.size_alloc,World.size_alloc] at h2;exact⟨((ae.new w _ _).alloc _).alloc _,h1.alloc _,h2,((az w _).alloc (by simp) _).alloc (by simp;omega) _⟩
theorem ads(n:Nat)(hn:1≤n)(Lb Ab Nb i B:Nat)(A:Option Addr)(c N:Nat)(xs:List Ew)(x:Ew)(nm:Nm)(hN:xs.length=N)(w:World)
  (hE:nA w B A c xs) (hx:xs[i]?=some x) (hk:x.e.kind=0)
  (xG:ae w Lb 38 #[.slice A N c]) (xB:ae w Ab 3 #[.int .i64 (i:Int)]) (Ak:ae w Nb 45 #[.string (aa nm.ns),.string (aa nm.loc)]) :
  SeqStopsK Fence.wide n Tryz.prog 39 #[.pointer (some ⟨Lb,0,none⟩),.pointer (some ⟨Ab,0,none⟩),.pointer (some ⟨Nb,0,none⟩)] (fun x:Ke N (xs.map (·.e)) nm=>#[Value.int .i64 (x.1:Int)]) (iU B [Lb,Ab,Nb]) (fun ys=>ys.map (·.1)=Opm.k8 (xs.map (·.e)) nm i)
   (fun pre=>∃rest,pre.map (·.1)++rest=Opm.k8 (xs.map (·.e)) nm i) N w:=fun l J Jx W hW hJ _ hY h0=>
 adq n hn l Lb Ab Nb i B A c N xs x nm hN J Jx W hJ hY (hE.go hW) hx hk (xG.go hW) (xB.go hW) (Ak.go hW) h0
theorem Wn(xs:List Ew)(A:Option Addr)(c B i R:Nat)(x:Ew)(ns:List L)(w:World)(h:nA w B A c xs)(hx:xs[i]?=some x)(hk:x.e.kind=0)(hv:∀a∈x.e.attrs,a.val.length≤100000)
  (hR:ae w R 9 (FJ ns).toArray) (hn:ns.length≤1000) :
  Calls Tryz.prog 19 #[.slice A xs.length c,.int .i64 (i:Int),.slice (some ⟨R,0,none⟩) ns.length ns.length] w fun e w'=>e=.returned (.string (aa (Opm.ft x.e.attrs ns)))∧Below w.heap.size w w':=by
 have HN:=hide (fun l W=>Wt l W);have HA:=hide (fun (l:L) (W:World) (hb:Below w.heap.size w W)=>Y8 xs A c B i x ⟨[],l⟩ W (h.go hb) hx hk);have HL:=hide (fun (l:L) (W:World) (hs:l.length≤200000)=>VK l W hs)
 have HV:=hide (show ∀n:L,((Evs.iz ⟨[],n⟩ x.e.attrs).getD []).length≤200000 from fun n=>by
  unfold Evs.iz
  cases hi:Evs.mq ⟨[],n⟩ x.e.attrs with
  | none=>exact Nat.zero_le _
  | some k=>
   obtain⟨a,ha,-⟩:=Evs.Fj hi;show (((x.e.attrs[k]?).map (·.val)).getD []).length≤200000;rw[ha];exact Nat.le_trans (hv a (List.mem_of_getElem? ha)) (by omega))
 have HR:=hide hR;obtain⟨ak,has⟩:∃ak,x.e.attrs=ak:=⟨_,rfl⟩;rw[has] at HA HV ⊢;obtain⟨N,hN⟩:∃N,xs.length=N:=⟨_,rfl⟩;rw[hN] at HA ⊢;obtain⟨m,hm⟩:∃m,ns.length=m:=⟨_,rfl⟩;have Hm:=hide hm;rw[hm] at hn ⊢;simp only[abP] at HA;clear h hx hk hv hR has hN hm
 go_enter Tryz.func19,Tryz.ntmps19
 go_wp2
 go_loopg [6,8,9,10,13,14,15,16,17,18,19,20,21,22,23,24,25,26,27,28,29,30] m (fun gk v6 v8 v9 v10 v13 v14 v15 v16 v17 v18 v19 v20 v21 v22 v23 v24 v25 v26 v27 v28 v29 v30 wr=>∃j:Nat,v13=.int .i64 (j:Int)∧gk=m-j∧j≤m∧Opm.ft ak ns=Opm.ft ak (ns.drop j)∧Below w.heap.size w wr)
 case atStart=>exact⟨0,rfl,rfl,by omega,rfl,Below.refl _ _⟩
 case round=>
  obtain⟨j,rfl,au,hj,hst,hb⟩:=hrel;have aW:=hide hst;have HB:=hide hb;have dF:=hide au;have fQ:=HR.out.go hb;clear hst hb au
  by_cases hlt:j<m
  ·obtain⟨t,ht⟩:∃t,ns[j]?=some t:=⟨_,List.getElem?_eq_getElem (by rw[Hm.out];exact hlt)⟩
   have hc:wr.cell? ⟨R,j,none⟩=some (.string (aa t)):=by
    rw[fQ.cell j];simp[FJ,ht]
   have hd:ns.drop j=t :: ns.drop (j+1):=by
    obtain⟨h1,h2⟩:=List.getElem?_eq_some_iff.1 ht;rw[List.drop_eq_getElem_cons h1,h2]
   have hstep:Opm.ft ak (ns.drop j)=if Tx.line ((Evs.iz ⟨[],t⟩ ak).getD [])=[] then Opm.ft ak (ns.drop (j+1)) else Tx.line ((Evs.iz ⟨[],t⟩ ak).getD []):=by rw[hd,Opm.ft]
   have Hs:=hide hstep;have hj2:(0:Int)≤j∧(j:Int)<m:=by omega
   obtain⟨v,hv⟩:∃v,(Evs.iz ⟨[],t⟩ ak).getD []=v:=⟨_,rfl⟩;obtain⟨q,hq⟩:∃q,(Evs.iz ⟨[],t⟩ ak).isSome=q:=⟨_,rfl⟩;have ko:=HV.out t;have e8:=hide (HA.out t);rw[hv] at Hs ko e8;rw[hq] at e8;have ZT:=hide ko;clear hstep hd ht ko fQ hv hq
   go_wp2_with fail
   refine (HN.out t wr).mono ?_;rintro e w1 ⟨rfl,aq⟩;have ay:=hide (HB.out.trans (aq.mono HB.out.size));clear aq;dsimp only
   go_wp2_with fail
   refine (e8.out w1 ay.out).mono ?_;rintro e w2 ⟨rfl,af⟩;have ah:=hide (ay.out.trans (af.mono ay.out.size));clear af;dsimp only
   go_wp2_with fail
   refine (HL.out v w2 ZT.out).mono ?_;rintro e w3 ⟨rfl,aB⟩;have aw:=hide (ah.out.trans (aB.mono ah.out.size));clear aB;dsimp only;obtain⟨y,hy⟩:∃y,Tx.line v=y:=⟨_,rfl⟩;rw[hy] at Hs ⊢;clear hy
   cases y with
   | nil=>
    have e1:=uJ [];go_wp2
    go_roundg (m-(j+1))
    case measure=>have:=dF.out;omega
    case rel=>exact⟨j+1,by first|rfl|go_num,rfl,by omega,by rw[aW.out,Hs.out];simp,aw.out⟩
   | cons a y=>
    have e1:=sx (t:=a :: y) (by simp);go_wp2;go_ret;refine⟨?_,aw.out⟩;rw[aW.out,Hs.out];simp
  have fx:j=m:=by omega
  have Hz:=hide (show Opm.ft ak (ns.drop j)=[] by rw[fx,←Hm.out,List.drop_length];rfl);have dI:¬(j:Int)<m:=by omega
  clear fx;go_wp2;go_ret;refine⟨?_,HB.out⟩;rw[aW.out,Hz.out];rfl
end
section
open Tk Sx
def XL(D:L):Bool:=Utf.valid D&&(List.range D.length).all fun p=>FR (D.drop p)&&match Tk.one p (D.drop p) with
 | none=>true
 | some t=>decide (p<t.end_)&&decide (t.end_≤D.length)
theorem XM{D:L}(h:XL D=true):sk D:=by
 unfold XL at h;simp only[Bool.and_eq_true,List.all_eq_true,List.mem_range] at h;refine⟨h.1,fun p _ _ hp=>⟨.inl (h.2 p hp).1,fun t ht=>?_⟩⟩;have h:=(h.2 p hp).2;rw[ht] at h
 simpa using h
def NK(t:Tok):Bool:=decide (t.name.length≤100000∧t.text.length≤100000∧t.attrs.length≤100000∧(∀a∈t.attrs,a.name.length≤100000∧a.value.length≤100000)∧(t.kind=0∨t.kind=1∨t.kind=2∨t.kind=3∨t.kind=4))
def ahM(st:St):Bool:=decide ((st.open_.length≤16∧st.scope.length≤90000000∧st.evs.length≤90000000∧(∀y∈st.evs,y.text.length≤100000000000000000)∧(∀x∈st.open_,x.scope≤st.scope.length)∧st.open_.Pairwise fun a b=>a.scope≤b.scope)∧∀d∈st.scope,d.ns.length≤1000000)
def XJ(D:L):Bool:=(eY D.length 0 D).all NK&&(List.range ((eY D.length 0 D).length+1)).all fun k=>match run eK ((eY D.length 0 D).take k) with
 | .ok st=>ahM st
 | .error _=>true
theorem XK{D:L}(h:XJ D=true):sj D:=by
 unfold XJ at h;simp only[Bool.and_eq_true,List.all_eq_true,List.mem_range] at h;refine⟨fun t ht=>?_,fun k st hk=>?_⟩
 ·obtain⟨h1,h2,h3,h4,h5⟩:=of_decide_eq_true (h.1 t ht);exact⟨h1,h2,h3,h4,h5⟩
 have h2:=h.2 (min k (eY D.length 0 D).length) (by omega);rw[←List.take_eq_take_min,hk] at h2;obtain⟨⟨h1,h2,h3,h4,h5,h6⟩,h7⟩:=of_decide_eq_true h2;exact⟨⟨h1,h2,h3,h4,h5,h6⟩,h7⟩
def Q9(l:List Ev):Bool:=(List.range l.length).all fun k=>match l[k]? with
 | none=>true
 | some e=>decide ((e.kind=0∧(opn [] (l.take k)=[]→k=0)∧(opn [] (l.take k)).length<16∧e.attrs.length≤16∧e.name.loc≠[])∨(e.kind=1∧(opn [] (l.take k)).getLast?=some e.name))
theorem Jm{l:List Ev}(h:Q9 l=true):yQ l:=by
 unfold Q9 at h;simp only[List.all_eq_true,List.mem_range] at h;intro k e he;have h:=h k (List.getElem?_eq_some_iff.1 he).1;rw[he] at h
 rcases of_decide_eq_true h with h|h
 ·exact .inl h
 exact .inr (.inl h)
namespace Opm
def t1:L:=[60,111,112,109,108,62,60,98,111,100,121,62,60,111,117,116,108,105,110,101,32,116,101,120,116,61,34,97,34,62,60,111,117,116,108,105,110,101,32,116,105,116,108,101,61,34,98,34,32,120,109,108,85,114,108,61,34,32,117,32,34,47,62,60,47,111,117,116,108,105,110,101,62,60,47,98,111,100,121,62,60,47,111,112,109,108,62]
def t2:L:=[60,111,112,109,108,47,62]
def dr:Nm:=⟨[],[111,112,109,108]⟩
def bQ:Nm:=⟨[],[98,111,100,121]⟩
def aN:Nm:=⟨[],[111,117,116,108,105,110,101]⟩
def bH:Nm:=⟨[],[120,109,108,85,114,108]⟩
def oy:Nm:=⟨[],[116,105,116,108,101]⟩
def cy:Nm:=⟨[],[116,101,120,116]⟩
def sB:List Ev:=[⟨0,dr,[],[]⟩,⟨0,bQ,[],[]⟩,⟨0,aN,[⟨cy,[97]⟩],[]⟩,⟨0,aN,[⟨oy,[98]⟩,⟨bH,[32,117,32]⟩],[]⟩,⟨1,aN,[],[]⟩,⟨1,aN,[],[]⟩,⟨1,bQ,[],[]⟩,⟨1,dr,[],[]⟩]
def sD:List Ev:=[⟨0,dr,[],[]⟩,⟨1,dr,[],[]⟩]
def Wo(r:Except (Nat×Nat) (List Ev))(l:List Ev):Bool:=match r with
 | .ok l'=>decide (l'=l)
 | .error _=>false
theorem Wp{r:Except (Nat×Nat) (List Ev)}{l:List Ev}(h:Wo r l=true):r=.ok l:=by
 unfold Wo at h
 split at h
 ·rw[of_decide_eq_true h]
 cases h
theorem aiv:Sx.parse t1=.ok sB:=Wp (by kernel_rfl)
theorem aiw:Sx.parse t2=.ok sD:=Wp (by kernel_rfl)
instance(e:Ev):Decidable (Evs.tP e):=by unfold Evs.tP;infer_instance
theorem amQ:Evs.oY sB:=⟨by decide +kernel,Jm (by kernel_rfl),of_decide_eq_true (by kernel_rfl),by simp[sB]⟩
theorem amR:Evs.oY sD:=⟨by decide +kernel,Jm (by kernel_rfl),of_decide_eq_true (by kernel_rfl),by simp[sD]⟩
theorem akO:sk t1:=XM (by kernel_rfl)
theorem akP:sk t2:=XM (by kernel_rfl)
theorem akL:sj t1:=XK (by kernel_rfl)
theorem akM:sj t2:=XK (by kernel_rfl)
theorem adQ:fine t1=true:=by kernel_rfl
theorem adR:fine t2=true:=by kernel_rfl
end Opm
end
section
open Go.RowKit Go.Shelf Tk Sx Go.WideShapes

namespace Evs
theorem amS{l:List Ev}(h:oY l):∃e,l[0]?=some e∧e.kind=0:=by
 have hl:0<l.length:=List.length_pos_iff.2 h.ne;obtain⟨e,he⟩:∃e,l[0]?=some e:=⟨_,List.getElem?_eq_getElem hl⟩;refine⟨e,he,?_⟩
 rcases (Og h he).2 with h1|⟨-,o,p,h2,-⟩|⟨-,h2,-⟩
 ·exact h1.1
 ·simp[upto] at h2
 exact absurd rfl h2
theorem Yv{l:List Ev}(h:oY l):∀i,i≤l.length→(∀p∈(upto l i).1,∃e,l[p]?=some e∧e.kind=0)∧∀p k,bj p (upto l i).2=some k→∃e,l[p]?=some e∧e.kind=0
 | 0,_=>⟨fun p hp=>by simp[upto] at hp,fun p k hp=>by cases hp⟩
 | i+1,hi=>by
  obtain⟨h1,h2⟩:=Yv h i (by omega);obtain⟨e,he⟩:∃e,l[i]?=some e:=⟨_,List.getElem?_eq_getElem (by omega)⟩;rw[Gf he];unfold jt
  rcases (Og h he).2 with ⟨h0,-⟩|⟨h0,o,p,hop,-⟩|⟨h0,-⟩
  ·rw[if_pos h0];refine⟨fun q hq=>?_,h2⟩
   rcases List.mem_append.1 hq with hq|hq
   ·exact h1 q hq
   rw[List.mem_singleton] at hq;subst hq;exact⟨e,he,h0⟩
  ·rw[if_neg (by omega),if_pos h0];refine⟨fun q hq=>h1 q (List.dropLast_subset _ hq),fun q k hq=>?_⟩;unfold bj at hq
   split at hq
   ·rename_i EX
    dsimp only at EX;refine h1 q ?_;rw[←EX,hop];simp
   exact h2 q k hq
  rw[if_neg (by omega),if_neg (by omega)];exact⟨h1,h2⟩
theorem Md{m:List (Nat×Nat)}{en b:Nat}:∀f k,b∈gK m en f k→∃e,bj b m=some e
 | 0,k,h=>by cases h
 | f+1,k,h=>by
  rw[gK] at h
  split at h
  ·cases hl:bj k m with
   | none=>rw[hl] at h;exact Md f _ h
   | some e=>
    rw[hl] at h
    rcases List.mem_cons.1 h with h|h
    ·subst h;exact⟨e,hl⟩
    exact Md f _ h
  cases h
theorem adZ{l:List Ev}(h:oY l){n:Nm}{i b:Nat}(hb:pk l n (ou l i)=some b):∃e,l[b]?=some e∧e.kind=0:=by
 obtain⟨e,he⟩:=Md _ _ (List.mem_of_find?_eq_some hb);exact (Yv h l.length (Nat.le_refl _)).2 b e he
end Evs
namespace Opm
def oB(ak:List eZ):ax:=⟨ft ak [bH.loc],ft ak [oy.loc,cy.loc]⟩
def iV(acc:List ax)(x:ax):List ax:=if x.pre=[]∨x.pre∈acc.map (·.pre) then acc else acc++[x]
def uH(evs:List Ev)(k:Nat):List eZ:=((evs[k]?).map (·.attrs)).getD []
def outs(evs:List Ev)(ks:List Nat):List ax:=ks.foldl (fun acc k=>iV acc (oB (uH evs k))) []
theorem aia(evs:List Ev)(ks:List Nat)(k:Nat):outs evs (ks++[k])=iV (outs evs ks) (oB (uH evs k)):=by simp[outs]
theorem ah9(evs:List Ev)(ks:List Nat):(outs evs ks).length≤ks.length:=by
 have h:∀(ks:List Nat) (acc:List ax),(ks.foldl (fun acc k=>iV acc (oB (uH evs k))) acc).length≤acc.length+ks.length:=by
  intro ks
  induction ks with
  | nil=>intro acc;simp
  | cons k ks ih=>
   intro acc;rw[List.foldl_cons];refine Nat.le_trans (ih _) ?_;unfold iV;split
   ·simp
    try omega
   simp
   try omega
 have:=h ks []
 simpa[outs] using this
def oF(evs:List Ev):Except Nat (List ax):=match Evs.pk evs bQ (Evs.ou evs 0) with
 | none=>.error 43
 | some b=>if eD (Evs.iK evs 0) dr=true then (if 64<(outs evs (k8 evs aN b)).length then .error 42 else .ok (outs evs (k8 evs aN b))) else .error 43
end Opm
namespace Nf
theorem acC(s:List UInt8):(jB s).length≤4*s.length:=by
 unfold jB via;split
 ·refine Nat.le_trans Yi ?_;have:=Jz (bc s);have:=yK s;omega
 omega
theorem ahA(s:List UInt8):(oz s).length≤256*s.length:=by
 unfold oz;split
 ·have:=acC (gB s);have:=JF s;omega
 omega
end Nf
theorem Tx.ag1(l:L):(Tx.line l).length≤256*(l.length+1):=by
 unfold Tx.line;have:=Nf.ahA (Tx.one l);have:=Tx.yy l;omega
theorem Opm.SK{ak:List eZ}(h:∀a∈ak,a.val.length≤100000):∀ns,(Opm.ft ak ns).length≤30000000
 | []=>Nat.zero_le _
 | n :: r=>by
  unfold Opm.ft;split
  ·exact Opm.SK h r
  have h1:=Tx.ag1 ((Evs.iz ⟨[],n⟩ ak).getD [])
  have h2:((Evs.iz ⟨[],n⟩ ak).getD []).length≤100000:=by
   unfold Evs.iz
   cases hi:Evs.mq ⟨[],n⟩ ak with
   | none=>exact Nat.zero_le _
   | some k=>
    obtain⟨a,ha,-⟩:=Evs.Fj hi;show (((ak[k]?).map (·.val)).getD []).length≤100000;rw[ha];exact h a (List.mem_of_getElem? ha)
  omega
theorem ail{W:World}{base e size n:Nat}{v:Value}{xs:List Value}{D:Nat}{o:Obj}(h:W.ownsRow base e size v n xs)(hD:W.heap[D]?=some o)(o':Obj)(ho:o.isCells=false:=by rfl):(W.putObj D o').ownsRow base e size v n xs:=h.kept (grownBy_putObj' W D o') (by
 cases hb:v.ownBlock with
 | none=>exact .inl rfl
 | some g=>
  refine .inr fun e=>?_;obtain⟨_,cs,fr,hc⟩:=aG h g hb;injection e with e
  subst e;rw[hD] at hc;cases hc;cases ho)
theorem aij{w:World}{base e size:Nat}{A:Option Addr}{n c:Nat}{xs:List Value}(h:w.ownsRow base e size (.slice A n c) n xs):n≤c:=by
 rcases h.2 with ⟨h0,h1⟩|⟨g',cap',cur,e,hb,hh,h1,h2,h3,h4⟩
 ·omega
 cases e;exact h1
theorem agF{B:Nat}{W W':World}(h:Below W.heap.size W W'):KeepsFrom B W W':=⟨h.size,fun k o _ hk _=>(h.block k (Array.getElem?_eq_some_iff.1 hk).1).trans hk⟩
def abp(w':World)(e:Ending)(r:Except Nat (List ax)):Prop:=match r with
 | .error c=>e=.returned (.tuple #[.slice none 0 0,.int .i64 (c:Int)])
 | .ok l=>∃A c,e=.returned (.tuple #[.slice A l.length c,.int .i64 0])∧l.length≤c∧Reads w' w'.heap.size 2 A l.length (bP l)
theorem adX(o:Option Nat):Sw o=.tuple #[.int .i64 ((o.getD 0:Nat):Int),.bool o.isSome]:=by cases o<;>rfl
theorem ahx(W:World)(x y:Nm):(if (aa x.ns).toList=(aa y.ns).toList then if (aa x.loc).toList=(aa y.loc).toList then Result.ok (Next.value (Value.bool false)) W else Result.ok (Next.value (Value.bool true)) W else Result.ok (Next.value (Value.bool true)) W)=Result.ok (Next.value (Value.bool (!eD x y))) W:=by
 unfold eD;simp only[Jp]
 by_cases h1:x.ns=y.ns<;>by_cases h2:x.loc=y.loc<;>simp[h1,h2]
theorem agR{B z:Nat}{L:List Nat}(hB:B≤z)(hL:∀k∈L,k<z)(W:World)(l:Nat)(o o':Obj)(hl:z≤l)(_:W.heap[l]?=some o)(_:o.isCells=false)(_:o.isWalk=false):iU B L W (W.putObj l o') :=
 ⟨⟨rfl,rfl,rfl,by simp[World.putObj],fun k hk=>World.putObj_heap_other (by omega)⟩,fun k hk=>World.putObj_heap_other (by have:=hL k hk;omega)⟩
theorem agv:(Tryz.prog.info? 27).map (fun i=>(i.zero,i.size,i.bytes))=some (some (.agg #[.string ⟨#[]⟩,.string ⟨#[]⟩]),2,32):=by kernel_rfl
structure gy(w:World)(Lb mb Wb Ob:Nat)(lv:Value)(k:Nat)(S:List L)(acc:List ax)(W:World):Prop where
 l:ae W Lb 38 #[lv]
 wb:ae W Wb 52 #[.map (some mb)]
 s:∃(n:Nat) (D:DataW Unit) (seen:List L),gz W mb n seen D∧n≤k∧∀x,x∈seen↔x∈S
 o:∃A c,ae W Ob 22 #[.slice A acc.length c]∧W.ownsRow (Ob+1) 27 2 (.slice A acc.length c) acc.length (bP acc)
 b:Below w.heap.size w W
section
variable {w W W' X Y:World} {Lb mb Wb Ob k:Nat} {lv:Value} {S:List L} {acc:List ax}
theorem gy.z(h:gy w Lb mb Wb Ob lv k S acc W):Ob<W.heap.size:=by
 obtain⟨A,c,ho,hr⟩:=h.o;exact ho.lt
theorem gy.go(h:gy w Lb mb Wb Ob lv k S acc W)(hb:Below W.heap.size W W'):gy w Lb mb Wb Ob lv k S acc W':=by
 obtain⟨n,D,seen,hs,hn,hx⟩:=h.s;obtain⟨A,c,ho,hr⟩:=h.o;refine⟨h.l.go hb,h.wb.go hb,⟨n,D,seen,hs.same (hb.block _ hs.lt),hn,hx⟩,⟨A,c,ho.go hb,?_⟩,h.b.trans (hb.mono h.b.size)⟩
 rcases hr.2 with h0|⟨g,cap,cur,e,hg,hh,rest⟩
 ·exact⟨hr.1,.inl h0⟩
 exact⟨hr.1,.inr ⟨g,cap,cur,e,hg,(hb.block g (Array.getElem?_eq_some_iff.1 hh).1).trans hh,rest⟩⟩
theorem gy.up{k':Nat}(h:gy w Lb mb Wb Ob lv k S acc W)(hk:k≤k'):gy w Lb mb Wb Ob lv k' S acc W:=by
 obtain⟨n,D,seen,hs,hn,hx⟩:=h.s;exact⟨h.l,h.wb,⟨n,D,seen,hs,Nat.le_trans hn hk,hx⟩,h.o,h.b⟩
theorem gy.kept{z:Nat}{row:Option Nat}(h:gy w Lb mb Wb Ob lv k S acc X)(hz:mb<z)(hw:w.heap.size≤z)(hg:X.grownBy Y row)(ai:∀r,row=some r→z≤r∧∃o:Obj,X.heap[r]?=some o∧o.isCells=false):gy w Lb mb Wb Ob lv k S acc Y:=by
 obtain⟨n,D,seen,hs,hn,hx⟩:=h.s;obtain⟨A,c,ho,hr⟩:=h.o;refine⟨h.l.grown hg (mN ai h.l),h.wb.grown hg (mN ai h.wb),⟨n,D,seen,hs.same (hg.block _ hs.lt fun e=>?_),hn,hx⟩,⟨A,c,ho.grown hg (mN ai ho),hr.kept hg ?_⟩,h.b.grown hg h.b.size (fun k e=>by have:=(ai k e).1;omega)⟩
 ·have:=(ai mb e.symm).1;omega
 cases hb:(Value.slice A acc.length c).ownBlock with
 | none=>exact .inl rfl
 | some g=>
  refine .inr fun e=>?_;obtain⟨_,cs,fr,hc⟩:=aG hr g hb;obtain⟨_,o,bE,bf⟩:=ai g e.symm;rw[bE] at hc;cases hc;cases bf
theorem gy.fresh{n:Nat}{u:L}{D':DataW Unit}{seen S':List L}(h:gy w Lb mb Wb Ob lv k S acc X)(hmw:w.heap.size≤mb)(hn:n≤k)(hm:∃es cl,X.heap[mb]?=some (.map es cl))(hS:∀x,x∈u :: seen↔x∈S')(hg:X.grownBy Y (some mb))(hs:gz Y mb (n+1) (u :: seen) D'):gy w Lb mb Wb Ob lv (k+1) S' acc Y:=by
 have hne:∀{t cs},∀B,ae X B t cs→some B≠some mb:=fun B hB e=>by
  injection e with e
  subst e;obtain⟨es,cl,h2⟩:=hm;rw[show X.heap[B]?=_ from hB] at h2;cases h2
 obtain⟨A,c,ho,hr⟩:=h.o;refine⟨h.l.grown hg (hne _ h.l),h.wb.grown hg (hne _ h.wb),⟨n+1,D',_,hs,by omega,hS⟩,⟨A,c,ho.grown hg (hne _ ho),hr.kept hg ?_⟩,h.b.grown hg h.b.size (fun k e=>by injection e with e;omega)⟩
 cases hb:(Value.slice A acc.length c).ownBlock with
 | none=>exact .inl rfl
 | some g=>
  refine .inr fun e=>?_;obtain⟨_,cs,fr,hc⟩:=aG hr g hb;obtain⟨es,cl,h2⟩:=hm;injection e with e
  subst e;rw[hc] at h2;cases h2
theorem gy.app{A:Option Addr}{c g cap:Nat}{o:Obj}{x:ax}(h:gy w Lb mb Wb Ob lv k S acc X)(hO:ae X Ob 22 #[.slice A acc.length c])(hr:X.ownsRow (Ob+1) 27 2 (.slice A acc.length c) acc.length (bP acc))(hwO:w.heap.size≤Ob)(hLO:Lb≠Ob)(hWO:Wb≠Ob)(hmO:mb≠Ob)
  (hg:(X.alloc o).grownBy Y (Value.slice A acc.length c).ownBlock) (ho:Y.ownsRow (Ob+1) 27 2 (.slice (some ⟨g,0,none⟩) (acc.length+1) cap) (acc.length+1) (bP acc++nQ x)) (hgO:Ob+1≤g) :
  gy w Lb mb Wb Ob lv k S (acc++[x]) (Y.setCell ⟨Ob,0,none⟩ (.slice (some ⟨g,0,none⟩) (acc.length+1) cap)):=by
 have hown:=aG hr;have hne:∀{t cs},t≠27→∀B,ae X B t cs→some B≠(Value.slice A acc.length c).ownBlock:=fun ht B hB e=>cU hr hB (fun e2=>ht e2.symm) e.symm;have hl:(acc++[x]).length=acc.length+1:=by simp
 obtain⟨n,D,seen,hs,hn,hx⟩:=h.s;refine⟨?_,?_,⟨n,D,seen,hs.same ?_,hn,hx⟩,⟨some ⟨g,0,none⟩,cap,?_,?_⟩,?_⟩
 ·exact (((h.l.alloc o).grown hg (hne (by decide) _ h.l))).far (p:=⟨Ob,0,none⟩) hLO _
 ·exact (((h.wb.alloc o).grown hg (hne (by decide) _ h.wb))).far (p:=⟨Ob,0,none⟩) hWO _
 ·rw[Below.heap_setCell _ _ _ _ hmO,hg.block _ (by have:=hs.lt;simp;omega) (fun e=>?_),Below.heap_alloc _ _ _ hs.lt];obtain⟨es,cl,h2⟩:=(show ∃es cl,X.heap[mb]?=some (.map es cl) by obtain⟨es,cl,hb,_⟩:=hs.own;exact⟨es,cl,hb⟩);obtain⟨_,cs,fr,h3⟩:=hown _ e.symm;rw[h3] at h2;cases h2
 ·rw[hl];have:=((hO.alloc o).grown hg (hne (by decide) _ hO)).aI 0 (.slice (some ⟨g,0,none⟩) (acc.length+1) cap)
  simpa using this
 ·rw[hl,show bP (acc++[x])=bP acc++nQ x by simp[bP]];exact ownsRow_setCell_other ho (by simp[Value.ownBlock];omega) _
 refine Below.setCell ((h.b.alloc h.b.size o).grown hg (by simp;have:=h.b.size;omega) (fun r e=>?_)) (p:=⟨Ob,0,none⟩) hwO _;have:=(hown r e).1;omega
end
end
section
open Go.RowKit Tk Sx Go.WideShapes

namespace Opm
end Opm
structure MgI(w:World)(rv:Array Value)(mb k:Nat)(S:List L)(acc:List ax)(v:Value)(W:World):Prop where
 s:∃(n:Nat) (D:DataW Unit) (seen:List L),gz W mb n seen D∧n≤k∧∀x,x∈seen↔x∈S
 o:∃A c,v=.slice A acc.length c∧W.ownsRow w.heap.size 27 2 v acc.length (bP acc)
 b:Below w.heap.size w W
 r:ae W (w.heap.size+1) 22 rv
section
variable {w W W' X Y:World} {rv:Array Value} {mb k:Nat} {v:Value} {S:List L} {acc:List ax}
end
end
section
open Go.RowKit Go.WideShapes

theorem Rj{a b:List UInt8}(h:a≠b):aa a≠aa b:=fun e=>h (str_inj e)
theorem Ri{a b:List UInt8}(h:a≠b):((aa a).toList==(aa b).toList)=false:=by
 rw[ByteArray.toList_eq,ByteArray.toList_eq,aP,aP];exact beq_eq_false_iff_ne.2 h
theorem agA(l:List UInt8)(w:World)(hs:l.length≤200000) :
  Calls Tryz.prog 47 #[.string (aa l)] w fun e w'=>e=.returned (.bool (Tx.gI l))∧Below w.heap.size w w':=by
 have H1:=hide (ajR l w hs);have H2:=hide (fun W=>VK l W hs);unfold Tx.gI
 cases hv:Tx.right l with
 | false=>
  rw[hv] at H1;clear hv
  go_enter Tryz.func47,Tryz.ntmps47
  go_wp2_with fail
  refine H1.out.mono ?_;rintro e w1 ⟨rfl,hb⟩;have HB:=hide hb;clear hb;dsimp only;go_wp2;go_ret;exact⟨rfl,HB.out⟩
 | true=>
  rw[hv] at H1;clear hv
  by_cases he:Tx.line l=l
  ·rw[decide_eq_true he];rw[he] at H2;clear he
   go_enter Tryz.func47,Tryz.ntmps47
   go_wp2_with fail
   refine H1.out.mono ?_;rintro e w1 ⟨rfl,hb⟩;have HB:=hide hb;clear hb;dsimp only
   go_wp2_with fail
   refine (H2.out w1).mono ?_;rintro e w2 ⟨rfl,hb⟩;have ah:=hide (HB.out.trans (hb.mono HB.out.size));clear hb;dsimp only;go_wp2;go_ret;exact⟨rfl,ah.out⟩
  rw[decide_eq_false he];have hne:=Rj he;have hbq:=Ri he;clear he;generalize Tx.line l=m at *
  go_enter Tryz.func47,Tryz.ntmps47
  go_wp2_with fail
  refine H1.out.mono ?_;rintro e w1 ⟨rfl,hb⟩;have HB:=hide hb;clear hb;dsimp only
  go_wp2_with fail
  refine (H2.out w1).mono ?_;rintro e w2 ⟨rfl,hb⟩;have ah:=hide (HB.out.trans (hb.mono HB.out.size));clear hb;dsimp only;go_wp2;go_ret;exact⟨rfl,ah.out⟩
end
section
open Go.RowKit Go.WideShapes

theorem abG{P:Program}(w:World)(base:Nat)(t u ty e:TypeId)(i:TypeInfo)(ht:P.underlying t=some (.slice e))(hu:P.underlying u=some .string)(hi:P.info? e=some i)(hz:i.zero=some (.int .u8 0))
  (hsize:i.size=1) (hby:i.bytes=1) (v:Value) (n:Nat) (xs:List Value) (hown:w.ownsRow base e 1 v n xs) (s:ByteArray) (hbytes:n+s.size≤140737488355328)
  {v':Value} {w':World} (hr:(Builtin.append_ #[t,u] ty #[v,.string s]).run P w=.ok v' w'):v'.ownBlock=v.ownBlock∨v'.ownBlock=some w.heap.size:=by
 have jq:xs.length=n:=by simpa using hown.1
 rcases hown.2 with ⟨rfl,rfl⟩|⟨g,cap,cur,rfl,jd,hg,Lm,hcm,hcs,ao4⟩
 ·by_cases hm:s.size=0
  ·left
   have hf:=Lib.run_firstCells_string (P:=P) w 1 s;rw[hm] at hf;simp[Builtin.append_,run_underlying ht,run_underlying hu,sizeOf,typeInfo,hi,hsize,Builtin.lenOf,hm,hf] at hr;rw[←hr.1]
  right
  have h:=run_append_nil_string (P:=P) w t u ty e i (.int .u8 0) ht hu hi hz s (by omega) (by omega) (by rw[hby];omega);rw[hr] at h;injection h with h1 _
  rw[h1];rfl
 by_cases hroom:n+s.size≤cap
 ·left
  have an4:cur.size=cap:=by simpa using hcs
  have h:=Lib.run_append_room_string (P:=P) w t u ty e i ht hu hi hsize g n cap cur hg s hroom (by omega);rw[hr] at h;injection h with h1 _
  rw[h1];rfl
 right
 have holds:∀j u,xs[j]?=some u→w.cell? ((⟨g,0,none⟩:Addr).add j)=some u:=hown.cells (g:=g) rfl;have h:=Lib.run_append_grow_string (P:=P) w t u ty e i (.int .u8 0) ht hu hi hz ⟨g,0,none⟩ n cap xs (by rw[hsize];simpa using jq) holds s (by omega) (by omega) (by rw[hby];exact growslice_fits (by omega) (by omega));rw[hr] at h;injection h with h1 _
 rw[h1];rfl
theorem am9{P:Program}(w:World){ops:Array Oper}{rest:List Oper}{o:Oper}{a:Act}{Q:Exit→Act→World→Prop}(hgd:o.guard=none)(sl x:Operand)(t u:TypeId)
  (ho:o.op=.call { callee:=.builtin .append,args:=#[sl,x],argTypes:=#[t,u] })
  (base:Nat) (e:TypeId) (ht:P.underlying t=some (.slice e)) (hu:P.underlying u=some .string) (fw:(P.info? e).map (fun i=>(i.zero,i.size,i.bytes))=some (some (.int .u8 0),1,1))
  (v:Value) (n:Nat) (xs:List Value) (hs:a.eval sl=v) (hown:w.ownsRow base e 1 v n xs) (s:ByteArray) (hx:a.eval x=.string s)
  (hbytes:n+s.size≤140737488355328) (hbase:base≤w.heap.size)
  (h:∀v' w',w'.ownsRow base e 1 v' (n+s.size) (xs++Lib.strCells s)→w.grownBy w' v.ownBlock→(v'.ownBlock=v.ownBlock∨v'.ownBlock=some w.heap.size)→wpList P ops Q rest (a.put o.dst v') w'):wpList P ops Q (o :: rest) a w:=by
 refine wpList_plain hgd fun K hK=>?_;obtain⟨i,hi,hz,hsize,hby⟩:=info_parts fw;obtain⟨v',w',hr,h2,h3,_⟩:=Lib.run_append_own_string (P:=P) w base t u o.type e i ht hu hi hz hsize hby v n xs hown s (by unfold maxLen;omega) hbytes hbase;have h4:=abG (P:=P) w base t u o.type e i ht hu hi hz hsize hby v n xs hown s hbytes hr;unfold Oper.wp execOp;simp only[ho,resolve,invoke,builtin,Sem.run_bind,Sem.run_pure,Result.andThen_ok,List.map_toArray,List.map_cons,List.map_nil,hs,hx,hr];exact hK _ _ (h v' w' h2 h3 h4)
def Bf(B b:Nat)(l:List UInt8)(r:Option Nat)(w:World):Prop :=
 B≤b∧∃p v,(p=.pointer none∨p=.pointer (some ⟨b,0,none⟩))∧ae w b 60 #[p,v]∧w.ownsRow B 5 1 v l.length (Lib.byteCells l)∧v.ownBlock=r
structure Fz(b:Nat)(r:Option Nat)(w w':World):Prop where
 os:w'.os=w.os
 tape:w'.tape=w.tape
 output:w'.output=w.output
 size:w.heap.size≤w'.heap.size
 block:∀k,k<w.heap.size→k≠b→some k≠r→w'.heap[k]?=w.heap[k]?
theorem Fz.refl(b:Nat)(r:Option Nat)(w:World):Fz b r w w:=⟨rfl,rfl,rfl,Nat.le_refl _,fun _ _ _ _=>rfl⟩
theorem Bf.bx{B b:Nat}{l:List UInt8}{r:Option Nat}{w:World}(h:Bf B b l r w):Bx B b l w:=by
 obtain⟨hB,p,v,hp,hk,ho,_⟩:=h;have hat:Lib.BuilderAt 60 5 B b p (Lib.byteCells l) w:=⟨hB,v,hk,by rw[Lib.byteCells_length];exact ho,cU ho hk (by decide)⟩
 rcases hp with rfl|rfl
 ·exact .inl hat
 exact .inr hat
theorem Bf.fresh(w:World):Bf w.heap.size w.heap.size [] none (w.alloc (.cells #[.pointer none,.slice none 0 0] 60)) :=
 ⟨Nat.le_refl _,_,_,.inl rfl,ae.new w _ _,World.ownsRow_nil _ _ _ _,rfl⟩
def Bg(W0:World)(B b:Nat)(r0:Option Nat)(l:List UInt8)(W:World):Prop:=∃r,Bf B b l r W∧(r=r0∨∃k,r=some k∧W0.heap.size≤k)∧Fz b r0 W0 W
theorem Bg.step{W0 W W':World}{B b:Nat}{r0 r:Option Nat}{l':List UInt8}(h0:r=r0∨∃k,r=some k∧W0.heap.size≤k)(hz:Fz b r0 W0 W)(h:Bg W B b r l' W'):Bg W0 B b r0 l' W':=by
 obtain⟨r',hb,hr,hf⟩:=h;refine⟨r',hb,?_,⟨hf.os.trans hz.os,hf.tape.trans hz.tape,hf.output.trans hz.output,Nat.le_trans hz.size hf.size,fun k hk hne Le=>(hf.block k (Nat.lt_of_lt_of_le hk hz.size) hne ?_).trans (hz.block k hk hne Le)⟩⟩
 ·rcases hr with rfl|⟨k,rfl,hk⟩
  ·exact h0
  exact .inr ⟨k,rfl,Nat.le_trans hz.size hk⟩
 rcases h0 with rfl|⟨k0,rfl,iF⟩
 ·exact Le
 intro e;injection e with e;omega
theorem Rv{B b:Nat}{l:List UInt8}{r:Option Nat}{w:World}(h:Bf B b l r w) :
  Calls Tryz.prog 48 #[.pointer (some ⟨b,0,none⟩)] w fun e w'=>e=.returned (.tuple #[])∧∃v,ae w' b 60 #[.pointer (some ⟨b,0,none⟩),v]∧w'.ownsRow B 5 1 v l.length (Lib.byteCells l)∧v.ownBlock=r∧Fz b r w w':=by
 obtain⟨hB,p,v,hp,hk,ho,hr⟩:=h;have hne:=cU ho hk (by decide)
 rcases hp with rfl|rfl
 ·refine (Rx b w (hk.cell 0) (by unfold ae at hk;simp[World.shape?,hk]) (hk.frozen 0)).mono ?_;rintro e w' ⟨rfl,rfl⟩;refine⟨rfl,v,by simpa using hk.aI 0 (.pointer (some ⟨b,0,none⟩)),ownsRow_setCell_other ho hne _,hr,⟨rfl,rfl,rfl,by simp[World.setCell],fun k cu h1 h2=>Below.heap_setCell _ _ _ _ (by exact h1)⟩⟩
 refine (Ry b w (hk.cell 0)).mono ?_;rintro e w' ⟨rfl,rfl⟩;exact⟨rfl,v,hk,ho,hr,Fz.refl _ _ _⟩
theorem SN{B b:Nat}{r:Option Nat}{l':List UInt8}{w w1 w2:World}{v v':Value}(hB:B≤b)(hf:Fz b r w w1)(hk:ae w1 b 60 #[.pointer (some ⟨b,0,none⟩),v])(hr:v.ownBlock=r)(hne:v.ownBlock≠some b)
  (ho:w2.ownsRow B 5 1 v' l'.length (Lib.byteCells l')) (hg:w1.grownBy w2 v.ownBlock) (hat:v'.ownBlock=v.ownBlock∨∃k,v'.ownBlock=some k∧w1.heap.size≤k):Bg w B b r l' (w2.setCell ⟨b,1,none⟩ v'):=by
 have cu:ae w2 b 60 #[.pointer (some ⟨b,0,none⟩),v]:=hk.grown hg (fun e=>hne e.symm);have EP:=cU ho cu (by decide);refine⟨v'.ownBlock,⟨hB,_,v',.inr rfl,by simpa using cu.aI 1 v',ownsRow_setCell_other ho EP _,rfl⟩,?_,⟨hg.os.trans hf.os,hg.tape.trans hf.tape,hg.output.trans hf.output,?_,fun k h1 h2 h3=>?_⟩⟩
 ·rcases hat with h|⟨k,h,aH⟩
  ·exact .inl (h.trans hr)
  exact .inr ⟨k,h,Nat.le_trans hf.size aH⟩
 ·have:=hf.size;have:=hg.size;simp only[World.setCell,Array.size_modify];omega
 rw[Below.heap_setCell _ _ _ _ (by exact h2),hg.block k (Nat.lt_of_lt_of_le h1 hf.size) (by rw[hr];exact h3)];exact hf.block k h1 h2 h3
theorem ane{B b:Nat}{l:List UInt8}{r:Option Nat}{w:World}(m:List UInt8)(h:Bf B b l r w)(hlen:l.length+m.length≤140737488355328)(gU:B≤w.heap.size) :
  Calls Tryz.prog 25 #[.pointer (some ⟨b,0,none⟩),.string (aa m)] w fun e w'=>(∃v,e=.returned v)∧Bg w B b r (l++m) w':=by
 have hB:=h.1;have HC:=hide (Rv h);have Uy:(aa m).size=m.length:=aC m;have HM:=hide Uy;clear h
 go_enter Tryz.func25,Tryz.ntmps25
 go_wp2_with fail
 refine HC.out.mono ?_;rintro e w1 ⟨rfl,v,hk,ho,hr,hf⟩;have hne:=cU ho hk (by decide);have HK:=hide hk;have HO:=hide ho;have HF:=hide hf;have Hr:=hide hr;have HN:=hide hne;have c0:=hk.cell 0;have c1:=hk.cell 1;have hsz:=hf.size;have HB:=hide hB;have TS:B≤w1.heap.size:=Nat.le_trans gU hsz;clear hk ho hr hf hne Uy hB;dsimp only
 go_wp2_with (at_builtin;go_loud (refine am9 w1 rfl _ _ 58 9 rfl B 5 Tryz.underlying58 Tryz.underlying9 Fl _ _ _ rfl HO.out (aa m) rfl (by rw[HM.out];exact hlen) TS ?_);intro v' w2 bE cD Au;have cu:=HK.out.grown cD (fun e=>HN.out e.symm);have d0:=cu.cell 0;have d1:=cu.cell 1;have f1:=cu.frozen 1;have aJ:=hide bE;have GM:=hide cD;have GD:=hide Au;obtain⟨ao,cap,rfl⟩:=rq bE;clear bE cD Au cu)
 go_ret2;refine⟨⟨_,rfl⟩,?_⟩;refine SN HB.out HF.out HK.out Hr.out HN.out ?_ GM.out (GD.out.imp id fun h=>⟨_,h,Nat.le_refl _⟩);have h:=aJ.out;rw[HM.out] at h;rw[List.length_append,Dx];exact h
theorem amN{B b:Nat}{l:List UInt8}{r:Option Nat}{w:World}(c:UInt8)(h:Bf B b l r w)(hlen:l.length+1≤140737488355328)(gU:B≤w.heap.size) :
  Calls Tryz.prog 49 #[.pointer (some ⟨b,0,none⟩),.int .u8 (c.toNat:Nat)] w fun e w'=>e=.returned .nilIface∧Bg w B b r (l++[c]) w':=by
 have hB:=h.1;have HC:=hide (Rv h);obtain⟨i0,hi,hz0,hz1,hz2⟩:=info_parts Fl;clear h
 go_enter Tryz.func49,Tryz.ntmps49
 go_wp2_with fail
 refine HC.out.mono ?_;rintro e w1 ⟨rfl,v,hk,ho,hr,hf⟩;have hne:=cU ho hk (by decide);have HK:=hide hk;have HO:=hide ho;have HF:=hide hf;have Hr:=hide hr;have HN:=hide hne;have c0:=hk.cell 0;have c1:=hk.cell 1;have hsz:=hf.size;have HB:=hide hB;have TS:B≤w1.heap.size:=Nat.le_trans gU hsz;clear hk ho hr hf hne hB;dsimp only
 go_wp2_with (at_builtin;refine wpList_append_own_at _ rfl _ _ 58 rfl B 5 i0 (.int .u8 0) 1 1 Tryz.underlying58 hi hz0 hz1 hz2 rfl (by decide) _ _ _ rfl (HO.out.alloc _) ⟨w1.heap.size,0,none⟩ 1 1 [.int .u8 (c.toNat:Nat)] rfl rfl ?c1 ?c2 ?c3 ?c4 ?c5 ?_)
 case c1=>
  intro j u hj
  match j,hj with
  | 0,hj=>simp at hj;subst hj;simp[Addr.add]
 case c2=>intro u hu;simp at hu;subst hu;rfl
 case c3=>unfold maxLen;omega
 case c4=>omega
 case c5=>simp;omega
 intro v' w2 bE cD _ Au;have bw:w1.grownBy w2 v.ownBlock:=⟨cD.os,cD.tape,cD.output,Nat.le_trans (by simp) cD.size,fun k hk hne=>(cD.block k (by simp;omega) hne).trans (Below.heap_alloc w1 _ k hk)⟩
 have TJ:v'.ownBlock=v.ownBlock∨∃k,v'.ownBlock=some k∧w1.heap.size≤k:=by
  rcases Au with h|h
  ·exact .inl h
  exact .inr ⟨_,h,by simp⟩
 have cu:=HK.out.grown bw (fun e=>HN.out e.symm);have d0:=cu.cell 0;have d1:=cu.cell 1;have f1:=cu.frozen 1;have aJ:=hide bE;have GM:=hide bw;have GD:=hide TJ;obtain⟨ao,cap,rfl⟩:=rq bE;clear bE cD bw Au TJ cu;go_wp2;go_ret;refine⟨rfl,?_⟩;refine SN HB.out HF.out HK.out Hr.out HN.out ?_ GM.out GD.out;rw[List.length_append,Dx];exact aJ.out
end
end Go.Proofs.YtnbmfljhbpfilaaGreatDoor
