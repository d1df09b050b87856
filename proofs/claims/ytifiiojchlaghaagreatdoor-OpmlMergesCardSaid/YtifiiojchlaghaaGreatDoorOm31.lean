/- opml.elements: its value; opml.first: the first attribute of some that, as a line, is not empty. And more. -/
import Derived.Test.YtifiiojchlaghaaGreatDoorOm07
import Derived.Test.YtifiiojchlaghaaGreatDoorOm08
import Derived.Test.YtifiiojchlaghaaGreatDoorOm09
import Derived.Test.YtifiiojchlaghaaGreatDoorOm10
import Derived.Test.YtifiiojchlaghaaGreatDoorOm19
import Derived.Test.YtifiiojchlaghaaGreatDoorOm22
import Derived.Test.YtifiiojchlaghaaGreatDoorOm28
import Derived.Test.YtifiiojchlaghaaGreatDoorOm30
import Derived.Test.YtifiiojchlaghaaGreatDoorShelf
set_option linter.unusedSimpArgs false
set_option maxRecDepth 100000
set_option maxHeartbeats 8000000
set_option linter.unusedVariables false
namespace Go.Proofs.YtifiiojchlaghaaGreatDoor
section
open Go.RowKit Go.Shelf Tk Sx Go.WideShapes

namespace Opm
def gl(aw:List fA):List L→L
 | []=>[]
 | n :: r=>if Tx.line ((Evs.ke ⟨[],n⟩ aw).getD [])=[] then gl aw r else Tx.line ((Evs.ke ⟨[],n⟩ aw).getD [])
end Opm
theorem aao(o:Option L):PX o=.tuple #[.string (aa (o.getD [])),.bool o.isSome]:=by cases o<;>rfl
def Fh(l:List L):List Value:=l.map fun x=>Value.string (aa x)
theorem af5(s:L)(w:World)(lC:(13:UInt8)∉s):Calls Tryz.prog 21 #[.string (aa s)] w fun e w'=>e=.returned (.string (aa s))∧w'=w:=by
 have HI:=hide (show Calls Tryz.prog 39 #[.string (aa s),.int .u8 13] w fun e w'=>e=.returned (.int .i64 (-1))∧w'=w from by
  have h:=Tryz.strings_IndexByte (aa s) 13 w;rw[bg] at h
  have h1:Lib.indexByte s 13 = -1:=by
   have h2:=Lib.indexByte_ge s 13
   rcases Int.lt_or_le (Lib.indexByte s 13) 0 with h3|h3
   ·omega
   exfalso
   obtain⟨m,hm⟩:∃m:Nat,Lib.indexByte s 13=m:=⟨(Lib.indexByte s 13).toNat,by omega⟩;exact lC (List.mem_of_getElem? (Lj hm).2)
  rw[←h1];exact h)
 go_enter Tryz.func21,Tryz.ntmps21
 go_wp2_with fail
 refine cq HI.out ?_;dsimp only;go_wp2;go_ret;exact⟨rfl,rfl⟩
theorem abO(A:Option Addr)(n c i:Nat)(nm:Nm)(w:World):Calls Tryz.prog 24 #[.slice A n c,.int .i64 (i:Int),.agg #[.string (aa nm.ns),.string (aa nm.loc)]] w fun e w'=>
  e=.returned (.func (.func 43) #[] #[.pointer (some ⟨w.heap.size,0,none⟩),.pointer (some ⟨w.heap.size+1,0,none⟩),.pointer (some ⟨w.heap.size+2,0,none⟩)])∧w'=((w.alloc (.cells #[.slice A n c] 50)).alloc (.cells #[.int .i64 (i:Int)] 3)).alloc (.cells #[.string (aa nm.ns),.string (aa nm.loc)] 57):=by
 go_enter Tryz.func24,Tryz.ntmps24
 go_wp2;go_ret;exact⟨rfl,rfl⟩
theorem abQ(A:Option Addr)(n c i:Nat)(nm:Nm)(w w':World)(h:w'=((w.alloc (.cells #[.slice A n c] 50)).alloc (.cells #[.int .i64 (i:Int)] 3)).alloc (.cells #[.string (aa nm.ns),.string (aa nm.loc)] 57)) :
  ae w' w.heap.size 50 #[.slice A n c]∧ae w' (w.heap.size+1) 3 #[.int .i64 (i:Int)]∧ae w' (w.heap.size+2) 57 #[.string (aa nm.ns),.string (aa nm.loc)]∧Below w.heap.size w w':=by
 subst h;have h1:=ae.new (w.alloc (.cells #[.slice A n c] 50)) 3 #[.int .i64 (i:Int)];have h2:=ae.new ((w.alloc (.cells #[.slice A n c] 50)).alloc (.cells #[.int .i64 (i:Int)] 3)) 57 #[.string (aa nm.ns),.string (aa nm.loc)];rw[World.size_alloc] at h1;rw[World.size_alloc,World.size_alloc] at h2;exact⟨((ae.new w _ _).alloc _).alloc _,h1.alloc _,h2,((aA w _).alloc (by simp) _).alloc (by simp;omega) _⟩
theorem abR(n:Nat)(hn:1≤n)(Lb Ab Nb i B:Nat)(A:Option Addr)(c N:Nat)(xs:List Ew)(x:Ew)(nm:Nm)(hN:xs.length=N)(w:World)
  (hE:nK w B A c xs) (hx:xs[i]?=some x) (hk:x.e.kind=0)
  (xx:ae w Lb 50 #[.slice A N c]) (xp:ae w Ab 3 #[.int .i64 (i:Int)]) (z8:ae w Nb 57 #[.string (aa nm.ns),.string (aa nm.loc)]) :
  SeqStopsK Fence.wide n Tryz.prog 43 #[.pointer (some ⟨Lb,0,none⟩),.pointer (some ⟨Ab,0,none⟩),.pointer (some ⟨Nb,0,none⟩)] (fun x:Ke N (xs.map (·.e)) nm=>#[Value.int .i64 (x.1:Int)]) (jf B [Lb,Ab,Nb]) (fun ys=>ys.map (·.1)=Opm.mY (xs.map (·.e)) nm i)
   (fun pre=>∃rest,pre.map (·.1)++rest=Opm.mY (xs.map (·.e)) nm i) N w:=fun l J Jx W hW hJ _ hY h0=>
 abP n hn l Lb Ab Nb i B A c N xs x nm hN J Jx W hJ hY (hE.go hW) hx hk (xx.go hW) (xp.go hW) (z8.go hW) h0
theorem U6(xs:List Ew)(A:Option Addr)(c B i R:Nat)(x:Ew)(ns:List L)(w:World)(h:nK w B A c xs)(hx:xs[i]?=some x)(hk:x.e.kind=0)(hv:∀a∈x.e.attrs,a.val.length≤100000)
  (hR:ae w R 9 (Fh ns).toArray) (hn:ns.length≤1000) :
  Calls Tryz.prog 25 #[.slice A xs.length c,.int .i64 (i:Int),.slice (some ⟨R,0,none⟩) ns.length ns.length] w fun e w'=>e=.returned (.string (aa (Opm.gl x.e.attrs ns)))∧Below w.heap.size w w':=by
 have HN:=hide (fun l W=>U9 l W);have HA:=hide (fun (l:L) (W:World) (hb:Below w.heap.size w W)=>XG xs A c B i x ⟨[],l⟩ W (h.go hb) hx hk);have HL:=hide (fun (l:L) (W:World) (hs:l.length≤200000)=>Uu l W hs)
 have HV:=hide (show ∀n:L,((Evs.ke ⟨[],n⟩ x.e.attrs).getD []).length≤200000 from fun n=>by
  unfold Evs.ke
  cases hi:Evs.mD ⟨[],n⟩ x.e.attrs with
  | none=>exact Nat.zero_le _
  | some k=>
   obtain⟨a,ha,-⟩:=Evs.ES hi;show (((x.e.attrs[k]?).map (·.val)).getD []).length≤200000;rw[ha];exact Nat.le_trans (hv a (List.mem_of_getElem? ha)) (by omega))
 have HR:=hide hR;obtain⟨aw,has⟩:∃aw,x.e.attrs=aw:=⟨_,rfl⟩;rw[has] at HA HV ⊢;obtain⟨N,hN⟩:∃N,xs.length=N:=⟨_,rfl⟩;rw[hN] at HA ⊢;obtain⟨m,hm⟩:∃m,ns.length=m:=⟨_,rfl⟩;have Hm:=hide hm;rw[hm] at hn ⊢;simp only[aao] at HA;clear h hx hk hv hR has hN hm
 go_enter Tryz.func25,Tryz.ntmps25
 go_wp2
 go_loopg [6,8,9,10,13,14,15,16,17,18,19,20,21,22,23,24,25,26,27,28,29,30] m (fun gk v6 v8 v9 v10 v13 v14 v15 v16 v17 v18 v19 v20 v21 v22 v23 v24 v25 v26 v27 v28 v29 v30 wr=>∃j:Nat,v13=.int .i64 (j:Int)∧gk=m-j∧j≤m∧Opm.gl aw ns=Opm.gl aw (ns.drop j)∧Below w.heap.size w wr)
 case atStart=>exact⟨0,rfl,rfl,by omega,rfl,Below.refl _ _⟩
 case round=>
  obtain⟨j,rfl,aq,hj,hst,hb⟩:=hrel;have bf:=hide hst;have HB:=hide hb;have eM:=hide aq;have gz:=HR.out.go hb;clear hst hb aq
  by_cases hlt:j<m
  ·obtain⟨t,ht⟩:∃t,ns[j]?=some t:=⟨_,List.getElem?_eq_getElem (by rw[Hm.out];exact hlt)⟩
   have hc:wr.cell? ⟨R,j,none⟩=some (.string (aa t)):=by
    rw[gz.cell j];simp[Fh,ht]
   have hd:ns.drop j=t :: ns.drop (j+1):=by
    obtain⟨h1,h2⟩:=List.getElem?_eq_some_iff.1 ht;rw[List.drop_eq_getElem_cons h1,h2]
   have hstep:Opm.gl aw (ns.drop j)=if Tx.line ((Evs.ke ⟨[],t⟩ aw).getD [])=[] then Opm.gl aw (ns.drop (j+1)) else Tx.line ((Evs.ke ⟨[],t⟩ aw).getD []):=by rw[hd,Opm.gl]
   have Hs:=hide hstep;have hj2:(0:Int)≤j∧(j:Int)<m:=by omega
   obtain⟨v,hv⟩:∃v,(Evs.ke ⟨[],t⟩ aw).getD []=v:=⟨_,rfl⟩;obtain⟨q,hq⟩:∃q,(Evs.ke ⟨[],t⟩ aw).isSome=q:=⟨_,rfl⟩;have kB:=HV.out t;have fC:=hide (HA.out t);rw[hv] at Hs kB fC;rw[hq] at fC;have Ym:=hide kB;clear hstep hd ht kB gz hv hq
   go_wp2_with fail
   refine (HN.out t wr).mono ?_;rintro e w1 ⟨rfl,au⟩;have az:=hide (HB.out.trans (au.mono HB.out.size));clear au;dsimp only
   go_wp2_with fail
   refine (fC.out w1 az.out).mono ?_;rintro e w2 ⟨rfl,ag⟩;have ah:=hide (az.out.trans (ag.mono az.out.size));clear ag;dsimp only
   go_wp2_with fail
   refine (HL.out v w2 Ym.out).mono ?_;rintro e w3 ⟨rfl,aD⟩;have ax:=hide (ah.out.trans (aD.mono ah.out.size));clear aD;dsimp only;obtain⟨y,hy⟩:∃y,Tx.line v=y:=⟨_,rfl⟩;rw[hy] at Hs ⊢;clear hy
   cases y with
   | nil=>
    have e1:=uS [];go_wp2
    go_roundg (m-(j+1))
    case measure=>have:=eM.out;omega
    case rel=>exact⟨j+1,by first|rfl|go_num,rfl,by omega,by rw[bf.out,Hs.out];simp,ax.out⟩
   | cons a y=>
    have e1:=sM (t:=a :: y) (by simp);go_wp2;go_ret;refine⟨?_,ax.out⟩;rw[bf.out,Hs.out];simp
  have eO:j=m:=by omega
  have Hz:=hide (show Opm.gl aw (ns.drop j)=[] by rw[eO,←Hm.out,List.drop_length];rfl);have dD:¬(j:Int)<m:=by omega
  clear eO;go_wp2;go_ret;refine⟨?_,HB.out⟩;rw[bf.out,Hz.out];rfl
end
section
open Tk Sx
def Wn(D:L):Bool:=Utf.valid D&&(List.range D.length).all fun p=>wk (D.drop p)&&match Tk.one p (D.drop p) with
 | none=>true
 | some t=>decide (p<t.end_)&&decide (t.end_≤D.length)
theorem Wo{D:L}(h:Wn D=true):wX D:=by
 unfold Wn at h;simp only[Bool.and_eq_true,List.all_eq_true,List.mem_range] at h;refine⟨h.1,fun p hp=>(h.2 p hp).1,fun p hp t ht=>?_⟩;have h:=(h.2 p hp).2;rw[ht] at h
 simpa using h
def ake(t:Tok):Bool:=decide (t.name.length≤100000∧t.text.length≤100000∧t.attrs.length≤100000∧(∀a∈t.attrs,a.name.length≤100000∧a.value.length≤100000)∧(t.kind=0∨t.kind=1∨t.kind=2∨t.kind=3∨t.kind=4))
def af4(st:St):Bool:=decide ((st.open_.length≤16∧st.scope.length≤90000000∧st.evs.length≤90000000∧(∀y∈st.evs,y.text.length≤100000000000000000)∧(∀x∈st.open_,x.scope≤st.scope.length)∧st.open_.Pairwise fun a b=>a.scope≤b.scope)∧∀d∈st.scope,d.ns.length≤1000000)
def Wl(D:L):Bool:=(jA D.length 0 D).all ake&&(List.range ((jA D.length 0 D).length+1)).all fun k=>match run lU ((jA D.length 0 D).take k) with
 | .ok st=>af4 st
 | .error _=>true
theorem Wm{D:L}(h:Wl D=true):zx D:=by
 unfold Wl at h;simp only[Bool.and_eq_true,List.all_eq_true,List.mem_range] at h;refine⟨fun t ht=>?_,fun k st hk=>?_⟩
 ·obtain⟨h1,h2,h3,h4,h5⟩:=of_decide_eq_true (h.1 t ht);exact⟨h1,h2,h3,h4,h5⟩
 have h2:=h.2 (min k (jA D.length 0 D).length) (by omega);rw[←List.take_eq_take_min,hk] at h2;obtain⟨⟨h1,h2,h3,h4,h5,h6⟩,h7⟩:=of_decide_eq_true h2;exact⟨⟨h1,h2,h3,h4,h5,h6⟩,h7⟩
def PZ(l:List Ev):Bool:=(List.range l.length).all fun k=>match l[k]? with
 | none=>true
 | some e=>decide ((e.kind=0∧(opn [] (l.take k)=[]→k=0)∧(opn [] (l.take k)).length<16∧e.attrs.length≤16∧e.name.loc≠[])∨(e.kind=1∧(opn [] (l.take k)).getLast?=some e.name))
theorem Qa{l:List Ev}(h:PZ l=true):Nn l:=by
 unfold PZ at h;simp only[List.all_eq_true,List.mem_range] at h;intro k e he;have h:=h k (List.getElem?_eq_some_iff.1 he).1;rw[he] at h
 rcases of_decide_eq_true h with h|h
 ·exact .inl h
 exact .inr (.inl h)
namespace Opm
def t1:L:=[60,111,112,109,108,62,60,98,111,100,121,62,60,111,117,116,108,105,110,101,32,116,101,120,116,61,34,97,34,62,60,111,117,116,108,105,110,101,32,116,105,116,108,101,61,34,98,34,32,120,109,108,85,114,108,61,34,32,117,32,34,47,62,60,47,111,117,116,108,105,110,101,62,60,47,98,111,100,121,62,60,47,111,112,109,108,62]
def t2:L:=[60,111,112,109,108,47,62]
def mG:Nm:=⟨[],[111,112,109,108]⟩
def nB:Nm:=⟨[],[98,111,100,121]⟩
def eH:Nm:=⟨[],[111,117,116,108,105,110,101]⟩
def oU:Nm:=⟨[],[120,109,108,85,114,108]⟩
def pX:Nm:=⟨[],[116,105,116,108,101]⟩
def pW:Nm:=⟨[],[116,101,120,116]⟩
def sN:List Ev:=[⟨0,mG,[],[]⟩,⟨0,nB,[],[]⟩,⟨0,eH,[⟨pW,[97]⟩],[]⟩,⟨0,eH,[⟨pX,[98]⟩,⟨oU,[32,117,32]⟩],[]⟩,⟨1,eH,[],[]⟩,⟨1,eH,[],[]⟩,⟨1,nB,[],[]⟩,⟨1,mG,[],[]⟩]
def sO:List Ev:=[⟨0,mG,[],[]⟩,⟨1,mG,[],[]⟩]
def U7(r:Except (Nat×Nat) (List Ev))(l:List Ev):Bool:=match r with
 | .ok l'=>decide (l'=l)
 | .error _=>false
theorem U8{r:Except (Nat×Nat) (List Ev)}{l:List Ev}(h:U7 r l=true):r=.ok l:=by
 unfold U7 at h
 split at h
 ·rw[of_decide_eq_true h]
 cases h
theorem agC:Sx.parse t1=.ok sN:=U8 (by kernel_rfl)
theorem agD:Sx.parse t2=.ok sO:=U8 (by kernel_rfl)
instance(e:Ev):Decidable (Evs.wG e):=by unfold Evs.wG;infer_instance
theorem akN:Evs.qM sN:=⟨by decide +kernel,Qa (by kernel_rfl),of_decide_eq_true (by kernel_rfl),by simp[sN]⟩
theorem akO:Evs.qM sO:=⟨by decide +kernel,Qa (by kernel_rfl),of_decide_eq_true (by kernel_rfl),by simp[sO]⟩
theorem aiU:wX t1:=Wo (by kernel_rfl)
theorem aiV:wX t2:=Wo (by kernel_rfl)
theorem aiS:zx t1:=Wm (by kernel_rfl)
theorem aiT:zx t2:=Wm (by kernel_rfl)
theorem ace:fine t1=true:=by kernel_rfl
theorem acf:fine t2=true:=by kernel_rfl
end Opm
end
section
open Go.RowKit Go.Shelf Tk Sx Go.WideShapes

namespace Evs
theorem akP{l:List Ev}(h:qM l):∃e,l[0]?=some e∧e.kind=0:=by
 have hl:0<l.length:=List.length_pos_iff.2 h.ne;obtain⟨e,he⟩:∃e,l[0]?=some e:=⟨_,List.getElem?_eq_getElem hl⟩;refine⟨e,he,?_⟩
 rcases (MU h he).2 with h1|⟨-,o,p,h2,-⟩|⟨-,h2,-⟩
 ·exact h1.1
 ·simp[upto] at h2
 exact absurd rfl h2
theorem Xc{l:List Ev}(h:qM l):∀i,i≤l.length→(∀p∈(upto l i).1,∃e,l[p]?=some e∧e.kind=0)∧∀p k,bO p (upto l i).2=some k→∃e,l[p]?=some e∧e.kind=0
 | 0,_=>⟨fun p hp=>by simp[upto] at hp,fun p k hp=>by cases hp⟩
 | i+1,hi=>by
  obtain⟨h1,h2⟩:=Xc h i (by omega);obtain⟨e,he⟩:∃e,l[i]?=some e:=⟨_,List.getElem?_eq_getElem (by omega)⟩;rw[MM he];unfold lV
  rcases (MU h he).2 with ⟨h0,-⟩|⟨h0,o,p,hop,-⟩|⟨h0,-⟩
  ·rw[if_pos h0];refine⟨fun q hq=>?_,h2⟩
   rcases List.mem_append.1 hq with hq|hq
   ·exact h1 q hq
   rw[List.mem_singleton] at hq;subst hq;exact⟨e,he,h0⟩
  ·rw[if_neg (by omega),if_pos h0];refine⟨fun q hq=>h1 q (List.dropLast_subset _ hq),fun q k hq=>?_⟩;unfold bO at hq
   split at hq
   ·rename_i EE
    dsimp only at EE;refine h1 q ?_;rw[←EE,hop];simp
   exact h2 q k hq
  rw[if_neg (by omega),if_neg (by omega)];exact⟨h1,h2⟩
theorem Lq{m:List (Nat×Nat)}{en b:Nat}:∀f k,b∈iV m en f k→∃e,bO b m=some e
 | 0,k,h=>by cases h
 | f+1,k,h=>by
  rw[iV] at h
  split at h
  ·cases hl:bO k m with
   | none=>rw[hl] at h;exact Lq f _ h
   | some e=>
    rw[hl] at h
    rcases List.mem_cons.1 h with h|h
    ·subst h;exact⟨e,hl⟩
    exact Lq f _ h
  cases h
theorem acj{l:List Ev}(h:qM l){n:Nm}{i b:Nat}(hb:sQ l n (rH l i)=some b):∃e,l[b]?=some e∧e.kind=0:=by
 obtain⟨e,he⟩:=Lq _ _ (List.mem_of_find?_eq_some hb);exact (Xc h l.length (Nat.le_refl _)).2 b e he
end Evs
namespace Opm
def BD(aw:List fA):ay:=⟨gl aw [oU.loc],gl aw [pX.loc,pW.loc]⟩
def n6(acc:List ay)(x:ay):List ay:=if x.pre=[]∨x.pre∈acc.map (·.pre) then acc else acc++[x]
def De(evs:List Ev)(k:Nat):List fA:=((evs[k]?).map (·.attrs)).getD []
def outs(evs:List Ev)(ks:List Nat):List ay:=ks.foldl (fun acc k=>n6 acc (BD (De evs k))) []
theorem agn(evs:List Ev)(ks:List Nat)(k:Nat):outs evs (ks++[k])=n6 (outs evs ks) (BD (De evs k)):=by simp[outs]
theorem agm(evs:List Ev)(ks:List Nat):(outs evs ks).length≤ks.length:=by
 have h:∀(ks:List Nat) (acc:List ay),(ks.foldl (fun acc k=>n6 acc (BD (De evs k))) acc).length≤acc.length+ks.length:=by
  intro ks
  induction ks with
  | nil=>intro acc;simp
  | cons k ks ih=>
   intro acc;rw[List.foldl_cons];refine Nat.le_trans (ih _) ?_;unfold n6;split
   ·simp
    try omega
   simp
   try omega
 have:=h ks []
 simpa[outs] using this
def rQ(evs:List Ev):Except Nat (List ay):=match Evs.sQ evs nB (Evs.rH evs 0) with
 | none=>.error 43
 | some b=>if fL (Evs.kL evs 0) mG=true then (if 64<(outs evs (mY evs eH b)).length then .error 42 else .ok (outs evs (mY evs eH b))) else .error 43
end Opm
namespace Nf
theorem aa6(s:List UInt8):(jF s).length≤4*s.length:=by
 unfold jF via;split
 ·refine Nat.le_trans WU ?_;have:=IW (bo s);have:=yw s;omega
 omega
theorem afS(s:List UInt8):(nD s).length≤256*s.length:=by
 unfold nD;split
 ·have:=aa6 (gS s);have:=Ja s;omega
 omega
end Nf
theorem Tx.afg(l:L):(Tx.line l).length≤256*(l.length+1):=by
 unfold Tx.line;have:=Nf.afS (Tx.one l);have:=Tx.yj l;omega
theorem Opm.Ri{aw:List fA}(h:∀a∈aw,a.val.length≤100000):∀ns,(Opm.gl aw ns).length≤30000000
 | []=>Nat.zero_le _
 | n :: r=>by
  unfold Opm.gl;split
  ·exact Opm.Ri h r
  have h1:=Tx.afg ((Evs.ke ⟨[],n⟩ aw).getD [])
  have h2:((Evs.ke ⟨[],n⟩ aw).getD []).length≤100000:=by
   unfold Evs.ke
   cases hi:Evs.mD ⟨[],n⟩ aw with
   | none=>exact Nat.zero_le _
   | some k=>
    obtain⟨a,ha,-⟩:=Evs.ES hi;show (((aw[k]?).map (·.val)).getD []).length≤100000;rw[ha];exact h a (List.mem_of_getElem? ha)
  omega
theorem agw{W:World}{base e size n:Nat}{v:Value}{xs:List Value}{D:Nat}{o:Obj}(h:W.ownsRow base e size v n xs)(hD:W.heap[D]?=some o)(o':Obj)(ho:o.isCells=false:=by rfl):(W.putObj D o').ownsRow base e size v n xs:=h.kept (grownBy_putObj' W D o') (by
 cases hb:v.ownBlock with
 | none=>exact .inl rfl
 | some g=>
  refine .inr fun e=>?_;obtain⟨_,cs,fr,hc⟩:=aI h g hb;injection e with e
  subst e;rw[hD] at hc;cases hc;cases ho)
theorem Vi{w:World}{base e size:Nat}{A:Option Addr}{n c:Nat}{xs:List Value}(h:w.ownsRow base e size (.slice A n c) n xs):n≤c:=by
 rcases h.2 with ⟨h0,h1⟩|⟨g',cap',cur,e,hb,hh,h1,h2,h3,h4⟩
 ·omega
 cases e;exact h1
theorem aeU{B:Nat}{W W':World}(h:Below W.heap.size W W'):KeepsFrom B W W':=⟨h.size,fun k o _ hk _=>(h.block k (Array.getElem?_eq_some_iff.1 hk).1).trans hk⟩
def ZY(w':World)(e:Ending)(r:Except Nat (List ay)):Prop:=match r with
 | .error c=>e=.returned (.tuple #[.slice none 0 0,.int .i64 (c:Int)])
 | .ok l=>∃A c,e=.returned (.tuple #[.slice A l.length c,.int .i64 0])∧l.length≤c∧Reads w' w'.heap.size 2 A l.length (bj l)
theorem ach(o:Option Nat):Q9 o=.tuple #[.int .i64 ((o.getD 0:Nat):Int),.bool o.isSome]:=by cases o<;>rfl
theorem afP(W:World)(x y:Nm):(if (aa x.ns).toList=(aa y.ns).toList then if (aa x.loc).toList=(aa y.loc).toList then Result.ok (Next.value (Value.bool false)) W else Result.ok (Next.value (Value.bool true)) W else Result.ok (Next.value (Value.bool true)) W)=Result.ok (Next.value (Value.bool (!fL x y))) W:=by
 unfold fL;simp only[ID]
 by_cases h1:x.ns=y.ns<;>by_cases h2:x.loc=y.loc<;>simp[h1,h2]
theorem ae6{B z:Nat}{L:List Nat}(hB:B≤z)(hL:∀k∈L,k<z)(W:World)(l:Nat)(o o':Obj)(hl:z≤l)(_:W.heap[l]?=some o)(_:o.isCells=false)(_:o.isWalk=false):jf B L W (W.putObj l o') :=
 ⟨⟨rfl,rfl,rfl,by simp[World.putObj],fun k hk=>World.putObj_heap_other (by omega)⟩,fun k hk=>World.putObj_heap_other (by have:=hL k hk;omega)⟩
theorem Ua:(Tryz.prog.info? 35).map (fun i=>(i.zero,i.size,i.bytes))=some (some (.agg #[.string ⟨#[]⟩,.string ⟨#[]⟩]),2,32):=by kernel_rfl
structure gQ(w:World)(Lb mb Wb Ob:Nat)(lv:Value)(k:Nat)(S:List L)(acc:List ay)(W:World):Prop where
 l:ae W Lb 50 #[lv]
 wb:ae W Wb 49 #[.map (some mb)]
 s:∃(n:Nat) (D:DataW Unit) (seen:List L),gh W mb n seen D∧n≤k∧∀x,x∈seen↔x∈S
 o:∃A c,ae W Ob 22 #[.slice A acc.length c]∧W.ownsRow (Ob+1) 35 2 (.slice A acc.length c) acc.length (bj acc)
 b:Below w.heap.size w W
section
variable {w W W' X Y:World} {Lb mb Wb Ob k:Nat} {lv:Value} {S:List L} {acc:List ay}
theorem gQ.z(h:gQ w Lb mb Wb Ob lv k S acc W):Ob<W.heap.size:=by
 obtain⟨A,c,ho,hr⟩:=h.o;exact ho.lt
theorem gQ.go(h:gQ w Lb mb Wb Ob lv k S acc W)(hb:Below W.heap.size W W'):gQ w Lb mb Wb Ob lv k S acc W':=by
 obtain⟨n,D,seen,hs,hn,hx⟩:=h.s;obtain⟨A,c,ho,hr⟩:=h.o;refine⟨h.l.go hb,h.wb.go hb,⟨n,D,seen,hs.same (hb.block _ hs.lt),hn,hx⟩,⟨A,c,ho.go hb,?_⟩,h.b.trans (hb.mono h.b.size)⟩
 rcases hr.2 with h0|⟨g,cap,cur,e,hg,hh,rest⟩
 ·exact⟨hr.1,.inl h0⟩
 exact⟨hr.1,.inr ⟨g,cap,cur,e,hg,(hb.block g (Array.getElem?_eq_some_iff.1 hh).1).trans hh,rest⟩⟩
theorem gQ.up{k':Nat}(h:gQ w Lb mb Wb Ob lv k S acc W)(hk:k≤k'):gQ w Lb mb Wb Ob lv k' S acc W:=by
 obtain⟨n,D,seen,hs,hn,hx⟩:=h.s;exact⟨h.l,h.wb,⟨n,D,seen,hs,Nat.le_trans hn hk,hx⟩,h.o,h.b⟩
theorem gQ.kept{z:Nat}{row:Option Nat}(h:gQ w Lb mb Wb Ob lv k S acc X)(hz:mb<z)(hw:w.heap.size≤z)(hg:X.grownBy Y row)(aj:∀r,row=some r→z≤r∧∃o:Obj,X.heap[r]?=some o∧o.isCells=false):gQ w Lb mb Wb Ob lv k S acc Y:=by
 obtain⟨n,D,seen,hs,hn,hx⟩:=h.s;obtain⟨A,c,ho,hr⟩:=h.o;refine⟨h.l.grown hg (mV aj h.l),h.wb.grown hg (mV aj h.wb),⟨n,D,seen,hs.same (hg.block _ hs.lt fun e=>?_),hn,hx⟩,⟨A,c,ho.grown hg (mV aj ho),hr.kept hg ?_⟩,h.b.grown hg h.b.size (fun k e=>by have:=(aj k e).1;omega)⟩
 ·have:=(aj mb e.symm).1;omega
 cases hb:(Value.slice A acc.length c).ownBlock with
 | none=>exact .inl rfl
 | some g=>
  refine .inr fun e=>?_;obtain⟨_,cs,fr,hc⟩:=aI hr g hb;obtain⟨_,o,bG,bk⟩:=aj g e.symm;rw[bG] at hc;cases hc;cases bk
theorem gQ.fresh{n:Nat}{u:L}{D':DataW Unit}{seen S':List L}(h:gQ w Lb mb Wb Ob lv k S acc X)(hmw:w.heap.size≤mb)(hn:n≤k)(hm:∃es cl,X.heap[mb]?=some (.map es cl))(hS:∀x,x∈u :: seen↔x∈S')(hg:X.grownBy Y (some mb))(hs:gh Y mb (n+1) (u :: seen) D'):gQ w Lb mb Wb Ob lv (k+1) S' acc Y:=by
 have hne:∀{t cs},∀B,ae X B t cs→some B≠some mb:=fun B hB e=>by
  injection e with e
  subst e;obtain⟨es,cl,h2⟩:=hm;rw[show X.heap[B]?=_ from hB] at h2;cases h2
 obtain⟨A,c,ho,hr⟩:=h.o;refine⟨h.l.grown hg (hne _ h.l),h.wb.grown hg (hne _ h.wb),⟨n+1,D',_,hs,by omega,hS⟩,⟨A,c,ho.grown hg (hne _ ho),hr.kept hg ?_⟩,h.b.grown hg h.b.size (fun k e=>by injection e with e;omega)⟩
 cases hb:(Value.slice A acc.length c).ownBlock with
 | none=>exact .inl rfl
 | some g=>
  refine .inr fun e=>?_;obtain⟨_,cs,fr,hc⟩:=aI hr g hb;obtain⟨es,cl,h2⟩:=hm;injection e with e
  subst e;rw[hc] at h2;cases h2
theorem gQ.app{A:Option Addr}{c g cap:Nat}{o:Obj}{x:ay}(h:gQ w Lb mb Wb Ob lv k S acc X)(hO:ae X Ob 22 #[.slice A acc.length c])(hr:X.ownsRow (Ob+1) 35 2 (.slice A acc.length c) acc.length (bj acc))(hwO:w.heap.size≤Ob)(hLO:Lb≠Ob)(hWO:Wb≠Ob)(hmO:mb≠Ob)
  (hg:(X.alloc o).grownBy Y (Value.slice A acc.length c).ownBlock) (ho:Y.ownsRow (Ob+1) 35 2 (.slice (some ⟨g,0,none⟩) (acc.length+1) cap) (acc.length+1) (bj acc++mj x)) (hgO:Ob+1≤g) :
  gQ w Lb mb Wb Ob lv k S (acc++[x]) (Y.setCell ⟨Ob,0,none⟩ (.slice (some ⟨g,0,none⟩) (acc.length+1) cap)):=by
 have hown:=aI hr;have hne:∀{t cs},t≠35→∀B,ae X B t cs→some B≠(Value.slice A acc.length c).ownBlock:=fun ht B hB e=>dc hr hB (fun e2=>ht e2.symm) e.symm;have hl:(acc++[x]).length=acc.length+1:=by simp
 obtain⟨n,D,seen,hs,hn,hx⟩:=h.s;refine⟨?_,?_,⟨n,D,seen,hs.same ?_,hn,hx⟩,⟨some ⟨g,0,none⟩,cap,?_,?_⟩,?_⟩
 ·exact (((h.l.alloc o).grown hg (hne (by decide) _ h.l))).far (p:=⟨Ob,0,none⟩) hLO _
 ·exact (((h.wb.alloc o).grown hg (hne (by decide) _ h.wb))).far (p:=⟨Ob,0,none⟩) hWO _
 ·rw[Below.heap_setCell _ _ _ _ hmO,hg.block _ (by have:=hs.lt;simp;omega) (fun e=>?_),Below.heap_alloc _ _ _ hs.lt];obtain⟨es,cl,h2⟩:=(show ∃es cl,X.heap[mb]?=some (.map es cl) by obtain⟨es,cl,hb,_⟩:=hs.own;exact⟨es,cl,hb⟩);obtain⟨_,cs,fr,h3⟩:=hown _ e.symm;rw[h3] at h2;cases h2
 ·rw[hl];have:=((hO.alloc o).grown hg (hne (by decide) _ hO)).aG 0 (.slice (some ⟨g,0,none⟩) (acc.length+1) cap)
  simpa using this
 ·rw[hl,show bj (acc++[x])=bj acc++mj x by simp[bj]];exact ownsRow_setCell_other ho (by simp[Value.ownBlock];omega) _
 refine Below.setCell ((h.b.alloc h.b.size o).grown hg (by simp;have:=h.b.size;omega) (fun r e=>?_)) (p:=⟨Ob,0,none⟩) hwO _;have:=(hown r e).1;omega
end
end
section
open Go.RowKit Tk Sx Go.WideShapes

namespace Opm
def j9(acc:List ay)(x:ay):List ay:=if x.pre∈acc.map (·.pre) then acc else acc++[x]
def e9(acc l:List ay):List ay:=l.foldl j9 acc
def di(a b:List ay):List ay:=e9 (e9 [] a) b
theorem afC(acc l:List ay)(x:ay):e9 acc (l++[x])=j9 (e9 acc l) x:=by simp[e9]
theorem Bt(l:List ay):∀acc,(e9 acc l).length≤acc.length+l.length:=by
 induction l with
 | nil=>intro acc;simp[e9]
 | cons x l ih=>
  intro acc;have h:=ih (j9 acc x)
  have h2:(j9 acc x).length≤acc.length+1:=by
   unfold j9;split
   ·omega
   simp
  have h3:e9 acc (x :: l)=e9 (j9 acc x) l:=rfl;rw[h3,List.length_cons];omega
def sI(a b:List ay):Nat→List ay
 | 0=>[]
 | 1=>e9 [] a
 | _=>di a b
theorem aaa(a b:List ay)(i:Nat):(sI a b i).length≤a.length+b.length:=by
 have h1:=Bt a [];have h2:=Bt b (e9 [] a);rw[List.length_nil] at h1
 rcases i with _|_|i
 ·exact Nat.zero_le _
 ·show (e9 [] a).length≤_;omega
 show (di a b).length≤_;unfold di;omega
end Opm
structure k9(w:World)(rv:Array Value)(mb k:Nat)(S:List L)(acc:List ay)(v:Value)(W:World):Prop where
 s:∃(n:Nat) (D:DataW Unit) (seen:List L),gh W mb n seen D∧n≤k∧∀x,x∈seen↔x∈S
 o:∃A c,v=.slice A acc.length c∧W.ownsRow w.heap.size 35 2 v acc.length (bj acc)
 b:Below w.heap.size w W
 r:ae W (w.heap.size+1) 22 rv
section
variable {w W W' X Y:World} {rv:Array Value} {mb k:Nat} {v:Value} {S:List L} {acc:List ay}
theorem k9.alloc(h:k9 w rv mb k S acc v W)(o:Obj):k9 w rv mb k S acc v (W.alloc o):=by
 obtain⟨n,D,seen,hs,hn,hx⟩:=h.s;obtain⟨A,c,ho,hr⟩:=h.o;exact⟨⟨n,D,seen,hs.same (Below.heap_alloc _ _ _ hs.lt),hn,hx⟩,⟨A,c,ho,hr.alloc _⟩,h.b.alloc h.b.size _,h.r.alloc _⟩
theorem k9.fresh{n:Nat}{u:L}{D':DataW Unit}{seen S':List L}(h:k9 w rv mb k S acc v X)(hmw:w.heap.size≤mb)(hn:n≤k)(hm:∃es cl,X.heap[mb]?=some (.map es cl))(hS:∀x,x∈u :: seen↔x∈S')(hg:X.grownBy Y (some mb))(hs:gh Y mb (n+1) (u :: seen) D'):k9 w rv mb (k+1) S' acc v Y:=by
 obtain⟨A,c,ho,hr⟩:=h.o;refine⟨⟨n+1,D',_,hs,by omega,hS⟩,⟨A,c,ho,hr.kept hg ?_⟩,h.b.grown hg h.b.size (fun k e=>by injection e with e;omega),h.r.grown hg fun e=>?_⟩;rotate_left
 ·injection e with e
  obtain⟨es,cl,h2⟩:=hm;rw[←e,show X.heap[w.heap.size+1]?=_ from h.r] at h2;cases h2
 cases hb:v.ownBlock with
 | none=>exact .inl rfl
 | some g=>
  refine .inr fun e=>?_;obtain⟨_,cs,fr,hc⟩:=aI hr g hb;obtain⟨es,cl,h2⟩:=hm;injection e with e
  subst e;rw[hc] at h2;cases h2
theorem k9.app{A:Option Addr}{c g cap:Nat}{x:ay}(h:k9 w rv mb k S acc v X)(hv:v=.slice A acc.length c)(hg:X.grownBy Y v.ownBlock)(ho:Y.ownsRow w.heap.size 35 2 (.slice (some ⟨g,0,none⟩) (acc.length+1) cap) (acc.length+1) (bj acc++mj x)) :
  k9 w rv mb k S (acc++[x]) (.slice (some ⟨g,0,none⟩) (acc.length+1) cap) Y:=by
 have hl:(acc++[x]).length=acc.length+1:=by simp
 obtain⟨n,D,seen,hs,hn,hx⟩:=h.s;obtain⟨A2,c2,c7,hr⟩:=h.o;have hown:=aI hr;refine⟨⟨n,D,seen,hs.same ?_,hn,hx⟩,⟨some ⟨g,0,none⟩,cap,by rw[hl],by rw[hl,show bj (acc++[x])=bj acc++mj x by simp[bj]];exact ho⟩,h.b.grown hg h.b.size (fun r e=>(hown r e).1),h.r.grown hg (fun e=>dc hr h.r (by decide) e.symm)⟩;refine hg.block _ hs.lt (fun e=>?_);obtain⟨es,cl,h2⟩:=(show ∃es cl,X.heap[mb]?=some (.map es cl) by obtain⟨es,cl,hb,_⟩:=hs.own;exact⟨es,cl,hb⟩);obtain⟨_,cs,fr,h3⟩:=hown _ e.symm;rw[h3] at h2;cases h2
end
theorem ZL(la lb:List ay)(A B:Option Addr)(ca cb:Nat)(w:World)(hA:Reads w w.heap.size 2 A la.length (bj la))(hB:Reads w w.heap.size 2 B lb.length (bj lb))(cn:la.length≤1000000)(eP:lb.length≤1000000)(hu:∀x∈la++lb,x.pre.length≤1000000) :
  Calls Tryz.prog 13 #[.slice A la.length ca,.slice B lb.length cb] w fun e w'=>∃A' c',e=.returned (.slice A' (Opm.di la lb).length c')∧w'.ownsRow w.heap.size 35 2 (.slice A' (Opm.di la lb).length c') (Opm.di la lb).length (bj (Opm.di la lb))∧Below w.heap.size w w':=by
 obtain⟨na,dy⟩:∃n,la.length=n:=⟨_,rfl⟩;obtain⟨nb,eF⟩:∃n,lb.length=n:=⟨_,rfl⟩;have yS:=hide hA;have Gy:=hide hB;have HU:=hide hu;have fj:=hide dy;have GX:=hide eF;rw[dy] at yS cn ⊢;rw[eF] at Gy eP ⊢;have ir:=@run_makeMap Tryz.prog;have fM:=ae.new (w.alloc (.map #[] 0)) 22 #[.slice A na ca,.slice B nb cb];rw[World.size_alloc] at fM;have sU:k9 w #[.slice A na ca,.slice B nb cb] w.heap.size 0 [] [] (.slice none 0 0) ((w.alloc (.map #[] 0)).alloc (.cells #[.slice A na ca,.slice B nb cb] 22)):=⟨⟨0,_,_,(gh.new w).same (Below.heap_alloc _ _ _ (by simp)),Nat.le_refl _,fun x=>by simp⟩,⟨none,0,rfl,World.ownsRow_nil _ _ _ _⟩,(aA w _).alloc (by simp) _,fM⟩;have eX:=hide sU
 have HP:=hide (show ∀i,i<2→∃(l:List ay) (Al:Option Addr) (n cl:Nat),l.length=n∧Reads w w.heap.size 2 Al l.length (bj l)∧n≤1000000∧Opm.sI la lb (i+1)=Opm.e9 (Opm.sI la lb i) l∧(#[Value.slice A na ca,Value.slice B nb cb]:Array Value)[i]?=some (.slice Al n cl)∧∀x∈l,x.pre.length≤1000000 from by
  intro i hi
  rcases (show i=0∨i=1 by omega) with rfl|rfl
  ·exact⟨la,A,na,ca,dy,by rw[dy];exact yS.out,cn,rfl,rfl,fun x hx=>hu x (List.mem_append_left _ hx)⟩
  exact⟨lb,B,nb,cb,eF,by rw[eF];exact Gy.out,eP,rfl,rfl,fun x hx=>hu x (List.mem_append_right _ hx)⟩)
 have mm:=fun i=>Opm.aaa la lb i;rw[dy,eF] at mm;have r9:=hide mm;clear hA hB hu dy eF sU fM yS Gy HU fj GX mm
 go_enter Tryz.func13,Tryz.ntmps13
 go_wp2;clear ir;obtain⟨w0,hw0⟩:∃w0,(w.alloc (.map #[] 0)).alloc (.cells #[.slice A na ca,.slice B nb cb] 22)=w0:=⟨_,rfl⟩;rw[hw0] at eX ⊢;obtain⟨rv,AW⟩:∃rv,(#[Value.slice A na ca,Value.slice B nb cb]:Array Value)=rv:=⟨_,rfl⟩;rw[AW] at eX HP;obtain⟨M,hM⟩:∃M,w.heap.size=M:=⟨_,rfl⟩;have HM:=hide hM;rw[hM] at eX;simp only[hM];clear hw0 AW hM
 go_loopg [4,7,9,15,16,17,18,19,20,21,22,23,24,25,26,27,28,29,30,31,32,33,34] 2 (fun gk v4 v7 v9 v15 v16 v17 v18 v19 v20 v21 v22 v23 v24 v25 v26 v27 v28 v29 v30 v31 v32 v33 v34 wr=>∃i:Nat,v15=.int .i64 (i:Int)∧gk=2-i∧i≤2∧k9 w rv M (i*1000000) ((Opm.sI la lb i).map (·.pre)) (Opm.sI la lb i) v4 wr)
 case atStart=>exact⟨0,rfl,rfl,by omega,eX.out⟩
 case round=>
  obtain⟨i,rfl,aq,hi,hI⟩:=hrel;have eM:=hide aq;have HI:=hide hI
  rename World=>wo
  clear aq hI eX
  by_cases aY:i<2
  ·obtain⟨l,Al,n,cl,iR,hR,hn6,ou,AW,A6⟩:=HP.out i aY;have hri:=HI.out.r.cell i;rw[HM.out,AW] at hri;have dD:(0:Int)≤i∧(i:Int)<2:=by omega
   have yN:=hide iR;have HR:=hide hR;have YT:=hide A6;have OM:=hide ou;obtain⟨acc,iM⟩:∃acc,Opm.sI la lb i=acc:=⟨_,rfl⟩;have acO:=r9.out i;rw[iM] at HI OM acO;have Cu:=hide (show k9 w rv M (i*1000000+0) ((Opm.e9 acc (l.take 0)).map (·.pre)) (Opm.e9 acc (l.take 0)) _ wo from by rw[Nat.add_zero,List.take_zero];exact HI.out);clear iR hR A6 ou iM AW HP;go_wp2
   go_loopg [4,9,21,22,23,24,25,26,27,28,29,30,31,32,33] n (fun gj v4 v9 v21 v22 v23 v24 v25 v26 v27 v28 v29 v30 v31 v32 v33 wr=>∃j:Nat,v21=.int .i64 (j:Int)∧gj=n-j∧j≤n∧k9 w rv M (i*1000000+j) ((Opm.e9 acc (l.take j)).map (·.pre)) (Opm.e9 acc (l.take j)) v4 wr)
   case atStart=>exact⟨0,by first|rfl|go_num,rfl,by omega,Cu.out⟩
   case round=>
    obtain⟨j,rfl,tv,hj,hI⟩:=hrel;have wS:=hide tv;have ja:=hide hI;have Kr:=Opm.Bt (l.take j) acc;clear tv hI
    by_cases hjn:j<n
    ·have fR:j<l.length:=by rw[yN.out];exact hjn
     have oH:=Opm.afC acc (l.take j) l[j];rw[show l.take j++[l[j]]=l.take (j+1) by rw[List.take_add_one,List.getElem?_eq_getElem fR];rfl] at oH;obtain⟨b,off,rfl,jl,x0,x1⟩:=(HR.out.below ja.out.b).pF fR;have TT:=YT.out l[j] (List.getElem_mem fR);obtain⟨⟨u,t⟩,hx⟩:∃x,l[j]=x:=⟨_,rfl⟩;rw[hx] at oH x0 x1 TT;dsimp only at x0 x1 TT;have np:(0:Int)≤j∧(j:Int)<n:=by omega
     have mR:=hide oH;obtain⟨k,hk⟩:∃k,i*1000000+j=k:=⟨_,rfl⟩;have cm:i*1000000+(j+1)=k+1:=by omega
     have AJ:k≤3000000:=by omega
     rw[hk] at ja;have SR:(Opm.e9 acc (l.take j)).length≤4000000:=by rw[List.length_take] at Kr;omega
     obtain⟨ac,ou⟩:∃ac,Opm.e9 acc (l.take j)=ac:=⟨_,rfl⟩;rw[ou] at ja mR SR;have pH:=ja.out.alloc (.cells #[.string (aa u),.string (aa t)] 35);have uZ:=ae.new wr 35 #[.string (aa u),.string (aa t)];have jX:=hide pH;have cD:=hide uZ;obtain⟨m,D,seen,vK,xM,TN⟩:=pH.s;have jW:=hide (Jr M m seen D u _ vK (by omega) (by unfold maxLen;omega));have jY:=hide (show ∃es cl,(wr.alloc (.cells #[.string (aa u),.string (aa t)] 35)).heap[M]?=some (.map es cl) by obtain⟨es,cl,hb,_⟩:=vK.own;exact⟨es,cl,hb⟩);have qx:=hide TN;have k0:=uZ.cell 0;have k1:=uZ.cell 1;have pK:=ja.out.b.size;rw[HM.out] at pK
     have hMl:M<wr.heap.size:=by
      obtain⟨_,_,_,hs,_⟩:=ja.out.s;exact hs.lt
     clear oH hx hk ou pH uZ vK TN Kr
     go_wp2_with fail
     refine jW.out.mono ?_;rintro e w9 ⟨rfl,fP,D',nz⟩;dsimp only;have Ye:=hide fP
     by_cases bF:u∈ac.map (·.pre)
     ·rw[show Opm.j9 ac ⟨u,t⟩=ac by simp only[Opm.j9];rw[if_pos bF]] at mR;have hd:decide (u∈seen)=true:=decide_eq_true ((qx.out u).2 bF);have lq:=jX.out.fresh (by rw[HM.out];exact Nat.le_refl _) xM jY.out (S':=ac.map (·.pre)) (fun z=>by rw[List.mem_cons,qx.out];exact⟨fun h=>h.elim (fun e=>e▸bF) id,.inr⟩) fP nz;have yI:=hide lq;clear fP nz bF lq jW k0 k1 x0 x1;rw[hd];simp only[Bool.not_true];go_wp2
      go_roundg (n-(j+1))
      case measure=>have:=wS.out;omega
      case rel=>exact⟨j+1,by first|rfl|go_num,rfl,by omega,by rw[cm,mR.out];exact yI.out⟩
     rw[show Opm.j9 ac ⟨u,t⟩=ac++[⟨u,t⟩] by simp only[Opm.j9];rw[if_neg bF]] at mR;have hd:decide (u∈seen)=false:=decide_eq_false (fun h=>bF ((qx.out u).1 h));have lq:=jX.out.fresh (by rw[HM.out];exact Nat.le_refl _) xM jY.out (S':=(ac++[(⟨u,t⟩:ay)]).map (·.pre)) (fun z=>by rw[List.mem_cons,qx.out];simp[or_comm]) fP nz;obtain⟨A9,c9,rfl,xR⟩:=lq.o;have JI:ae w9 wr.heap.size 35 #[.string (aa u),.string (aa t)]:=cD.out.grown fP (fun e=>by injection e with e;omega);have y0:=JI.cell 0;have y1:=JI.cell 1;have pz:=hide xR;have yI:=hide lq;have hbase:=lq.b.size;obtain⟨UM,Kz⟩:∃q,ac.length=q:=⟨_,rfl⟩;have GW:=hide Kz;rw[Kz] at pz SR ⊢;clear fP nz bF lq xR jW k0 k1 x0 x1 JI Kz;rw[hd];simp only[Bool.not_false]
     go_wp2_with (at_builtin;go_loud (refine fy w9 (cs:=[.string (aa u),.string (aa t)]) rfl (.tmp 29) (.tmp 31) 22 rfl w.heap.size (.agg #[.string ⟨#[]⟩,.string ⟨#[]⟩]) 2 32 Tryz.underlying22 Ua rfl (by omega) (.slice A9 UM c9) UM (bj ac) rfl pz.out rfl (by simp[Value.oneCell']) rfl (by unfold maxLen;omega) (by omega) hbase ?_);intro g cap kP tH xF jH adI Ed;have Gx:=hide tH;have uo:=hide xF;clear tH xF)
     have xt:=yI.out.app (x:=⟨u,t⟩) (g:=g) (cap:=cap) (Y:=kP) rfl (by rw[GW.out];exact uo.out) (by rw[GW.out];exact Gx.out);rw[GW.out] at xt;have Yi:=hide xt;clear xt
     go_roundg (n-(j+1))
     case measure=>have:=wS.out;omega
     case rel=>exact⟨j+1,by first|rfl|go_num,rfl,by omega,by rw[cm,mR.out];exact Yi.out⟩
    have eO:j=n:=by omega
    have oC:¬(j:Int)<(n:Int):=by omega
    have pH:=ja.out;rw[show l.take j=l by rw[eO,←yN.out,List.take_length]] at pH
    have jX:=hide (show k9 w rv M ((i+1)*1000000) ((Opm.sI la lb (i+1)).map (·.pre)) (Opm.sI la lb (i+1)) _ wr from by
     rw[OM.out];obtain⟨m,D,seen,hs,hm,hx⟩:=pH.s;exact⟨⟨m,D,seen,hs,by omega,hx⟩,pH.o,pH.b,pH.r⟩)
    clear pH eO;go_wp2
    go_roundg (2-(i+1))
    case measure=>have:=eM.out;omega
    case rel=>exact⟨i+1,by first|rfl|go_num,rfl,by omega,jX.out⟩
  have hie:i=2:=by omega
  subst hie;have dD:¬((2:Nat):Int)<2:=by omega
  obtain⟨A',c',rfl,hr⟩:=HI.out.o;have HR:=hide (show wo.ownsRow w.heap.size 35 2 (.slice A' (Opm.di la lb).length c') (Opm.di la lb).length (bj (Opm.di la lb))∧Below w.heap.size w wo from⟨hr,HI.out.b⟩);clear hr;go_wp2;go_ret;exact⟨A',c',rfl,HR.out⟩
end
section
open Go.RowKit Go.WideShapes

theorem Qi{a b:List UInt8}(h:a≠b):aa a≠aa b:=fun e=>h (str_inj e)
theorem Qh{a b:List UInt8}(h:a≠b):((aa a).toList==(aa b).toList)=false:=by
 rw[ByteArray.toList_eq,ByteArray.toList_eq,bg,bg];exact beq_eq_false_iff_ne.2 h
theorem aeP(l:List UInt8)(w:World)(hs:l.length≤200000) :
  Calls Tryz.prog 18 #[.string (aa l)] w fun e w'=>e=.returned (.bool (Tx.jN l))∧Below w.heap.size w w':=by
 have H1:=hide (ahS l w hs);have H2:=hide (fun W=>Uu l W hs);unfold Tx.jN
 cases hv:Tx.right l with
 | false=>
  rw[hv] at H1;clear hv
  go_enter Tryz.func18,Tryz.ntmps18
  go_wp2_with fail
  refine H1.out.mono ?_;rintro e w1 ⟨rfl,hb⟩;have HB:=hide hb;clear hb;dsimp only;go_wp2;go_ret;exact⟨rfl,HB.out⟩
 | true=>
  rw[hv] at H1;clear hv
  by_cases he:Tx.line l=l
  ·rw[decide_eq_true he];rw[he] at H2;clear he
   go_enter Tryz.func18,Tryz.ntmps18
   go_wp2_with fail
   refine H1.out.mono ?_;rintro e w1 ⟨rfl,hb⟩;have HB:=hide hb;clear hb;dsimp only
   go_wp2_with fail
   refine (H2.out w1).mono ?_;rintro e w2 ⟨rfl,hb⟩;have ah:=hide (HB.out.trans (hb.mono HB.out.size));clear hb;dsimp only;go_wp2;go_ret;exact⟨rfl,ah.out⟩
  rw[decide_eq_false he];have hne:=Qi he;have hbq:=Qh he;clear he;generalize Tx.line l=m at *
  go_enter Tryz.func18,Tryz.ntmps18
  go_wp2_with fail
  refine H1.out.mono ?_;rintro e w1 ⟨rfl,hb⟩;have HB:=hide hb;clear hb;dsimp only
  go_wp2_with fail
  refine (H2.out w1).mono ?_;rintro e w2 ⟨rfl,hb⟩;have ah:=hide (HB.out.trans (hb.mono HB.out.size));clear hb;dsimp only;go_wp2;go_ret;exact⟨rfl,ah.out⟩
end
end Go.Proofs.YtifiiojchlaghaaGreatDoor
