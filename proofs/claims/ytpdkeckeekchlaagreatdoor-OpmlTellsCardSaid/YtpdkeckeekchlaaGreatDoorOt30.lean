/- opml.elements: its value; opml.first: the first attribute of some that, as a line, is not empty. And more. -/
import Derived.Test.YtpdkeckeekchlaaGreatDoorOt29
set_option linter.unusedSimpArgs false
set_option maxRecDepth 100000
set_option maxHeartbeats 8000000
set_option linter.unusedVariables false
namespace Go.Proofs.YtpdkeckeekchlaaGreatDoor
section
open Go.RowKit Go.Shelf Tk Sx Go.WideShapes

namespace Opm
def fT(ar:List ft):List L→L
 | []=>[]
 | n :: r=>if Tx.line ((Evs.kf ⟨[],n⟩ ar).getD [])=[] then fT ar r else Tx.line ((Evs.kf ⟨[],n⟩ ar).getD [])
end Opm
theorem acf(o:Option L):RG o=.tuple #[.string (aa (o.getD [])),.bool o.isSome]:=by cases o<;>rfl
def GA(l:List L):List Value:=l.map fun x=>Value.string (aa x)
theorem aik(s:L)(w:World)(lK:(13:UInt8)∉s):Calls Tryz.prog 31 #[.string (aa s)] w fun e w'=>e=.returned (.string (aa s))∧w'=w:=by
 have HI:=ap (show Calls Tryz.prog 54 #[.string (aa s),.int .u8 13] w fun e w'=>e=.returned (.int .i64 (-1))∧w'=w from by
  have h:=Tryz.strings_IndexByte (aa s) 13 w;rw[aZ] at h
  have h1:Lib.indexByte s 13 = -1:=by
   have h2:=Lib.indexByte_ge s 13
   rcases Int.lt_or_le (Lib.indexByte s 13) 0 with h3|h3
   ·omega
   exfalso
   obtain⟨m,hm⟩:∃m:Nat,Lib.indexByte s 13=m:=⟨(Lib.indexByte s 13).toNat,by omega⟩;exact lK (List.mem_of_getElem? (ME hm).2)
  rw[←h1];exact h)
 go_enter Tryz.func31,Tryz.ntmps31
 go_wp2_with fail
 refine cq HI.o ?_;dsimp only;go_wp2;go_ret;exact⟨rfl,rfl⟩
theorem adG(A:Option Addr)(n c i:Nat)(nm:Nm)(w:World):Calls Tryz.prog 34 #[.slice A n c,.int .i64 (i:Int),.agg #[.string (aa nm.ns),.string (aa nm.loc)]] w fun e w'=>
  e=.returned (.func (.func 58) #[] #[.pointer (some ⟨w.heap.size,0,none⟩),.pointer (some ⟨w.heap.size+1,0,none⟩),.pointer (some ⟨w.heap.size+2,0,none⟩)])∧w'=((w.alloc (.cells #[.slice A n c] 68)).alloc (.cells #[.int .i64 (i:Int)] 3)).alloc (.cells #[.string (aa nm.ns),.string (aa nm.loc)] 75):=by
 go_enter Tryz.func34,Tryz.ntmps34
 go_wp2;go_ret;exact⟨rfl,rfl⟩
theorem adI(A:Option Addr)(n c i:Nat)(nm:Nm)(w w':World)(h:w'=((w.alloc (.cells #[.slice A n c] 68)).alloc (.cells #[.int .i64 (i:Int)] 3)).alloc (.cells #[.string (aa nm.ns),.string (aa nm.loc)] 75)) :
  ae w' w.heap.size 68 #[.slice A n c]∧ae w' (w.heap.size+1) 3 #[.int .i64 (i:Int)]∧ae w' (w.heap.size+2) 75 #[.string (aa nm.ns),.string (aa nm.loc)]∧Below w.heap.size w w':=by
 subst h;have h1:=ae.new (w.alloc (.cells #[.slice A n c] 68)) 3 #[.int .i64 (i:Int)];have h2:=ae.new ((w.alloc (.cells #[.slice A n c] 68)).alloc (.cells #[.int .i64 (i:Int)] 3)) 75 #[.string (aa nm.ns),.string (aa nm.loc)];rw[World.size_alloc] at h1;rw[World.size_alloc,World.size_alloc] at h2;exact⟨((ae.new w _ _).alloc _).alloc _,h1.alloc _,h2,((ay w _).alloc (by simp) _).alloc (by simp;omega) _⟩
theorem adJ(n:Nat)(hn:1≤n)(Lb Ab Nb i B:Nat)(A:Option Addr)(c N:Nat)(xs:List Ew)(x:Ew)(nm:Nm)(hN:xs.length=N)(w:World)
  (hE:nX w B A c xs) (hx:xs[i]?=some x) (hk:x.e.kind=0)
  (vR:ae w Lb 68 #[.slice A N c]) (xZ:ae w Ab 3 #[.int .i64 (i:Int)]) (Ba:ae w Nb 75 #[.string (aa nm.ns),.string (aa nm.loc)]) :
  SeqStopsK Fence.wide n Tryz.prog 58 #[.pointer (some ⟨Lb,0,none⟩),.pointer (some ⟨Ab,0,none⟩),.pointer (some ⟨Nb,0,none⟩)] (fun x:Ke N (xs.map (·.e)) nm=>#[Value.int .i64 (x.1:Int)]) (ji B [Lb,Ab,Nb]) (fun ys=>ys.map (·.1)=Opm.nr (xs.map (·.e)) nm i)
   (fun pre=>∃rest,pre.map (·.1)++rest=Opm.nr (xs.map (·.e)) nm i) N w:=fun l J Jx W hW hJ _ hY h0=>
 adH n hn l Lb Ab Nb i B A c N xs x nm hN J Jx W hJ hY (hE.go hW) hx hk (vR.go hW) (xZ.go hW) (Ba.go hW) h0
theorem WT(xs:List Ew)(A:Option Addr)(c B i R:Nat)(x:Ew)(ns:List L)(w:World)(h:nX w B A c xs)(hx:xs[i]?=some x)(hk:x.e.kind=0)(hv:∀a∈x.e.attrs,a.val.length≤100000)
  (hR:ae w R 9 (GA ns).toArray) (hn:ns.length≤1000) :
  Calls Tryz.prog 35 #[.slice A xs.length c,.int .i64 (i:Int),.slice (some ⟨R,0,none⟩) ns.length ns.length] w fun e w'=>e=.returned (.string (aa (Opm.fT x.e.attrs ns)))∧Below w.heap.size w w':=by
 have HN:=ap (fun l W=>WY l W);have HA:=ap (fun (l:L) (W:World) (hb:Below w.heap.size w W)=>Zv xs A c B i x ⟨[],l⟩ W (h.go hb) hx hk);have HL:=ap (fun (l:L) (W:World) (hs:l.length≤200000)=>Wl l W hs)
 have HV:=ap (show ∀n:L,((Evs.kf ⟨[],n⟩ x.e.attrs).getD []).length≤200000 from fun n=>by
  unfold Evs.kf
  cases hi:Evs.mH ⟨[],n⟩ x.e.attrs with
  | none=>exact Nat.zero_le _
  | some k=>
   obtain⟨a,ha,-⟩:=Evs.FY hi;show (((x.e.attrs[k]?).map (·.val)).getD []).length≤200000;rw[ha];exact Nat.le_trans (hv a (List.mem_of_getElem? ha)) (by omega))
 have HR:=ap hR;obtain⟨ar,has⟩:∃ar,x.e.attrs=ar:=⟨_,rfl⟩;rw[has] at HA HV ⊢;obtain⟨N,hN⟩:∃N,xs.length=N:=⟨_,rfl⟩;rw[hN] at HA ⊢;obtain⟨m,hm⟩:∃m,ns.length=m:=⟨_,rfl⟩;have Hm:=ap hm;rw[hm] at hn ⊢;simp only[acf] at HA;clear h hx hk hv hR has hN hm
 go_enter Tryz.func35,Tryz.ntmps35
 go_wp2
 go_loopg [6,8,9,10,13,14,15,16,17,18,19,20,21,22,23,24,25,26,27,28,29,30] m (fun gk v6 v8 v9 v10 v13 v14 v15 v16 v17 v18 v19 v20 v21 v22 v23 v24 v25 v26 v27 v28 v29 v30 wr=>∃j:Nat,v13=.int .i64 (j:Int)∧gk=m-j∧j≤m∧Opm.fT ar ns=Opm.fT ar (ns.drop j)∧Below w.heap.size w wr)
 case atStart=>exact⟨0,rfl,rfl,by omega,rfl,Below.refl _ _⟩
 case round=>
  obtain⟨j,rfl,au,hj,hst,hb⟩:=hrel;have bf:=ap hst;have HB:=ap hb;have dQ:=ap au;have gu:=HR.o.go hb;clear hst hb au
  by_cases hlt:j<m
  ·obtain⟨t,ht⟩:∃t,ns[j]?=some t:=⟨_,List.getElem?_eq_getElem (by rw[Hm.o];exact hlt)⟩
   have hc:wr.cell? ⟨R,j,none⟩=some (.string (aa t)):=by
    rw[gu.cell j];simp[GA,ht]
   have hd:ns.drop j=t :: ns.drop (j+1):=by
    obtain⟨h1,h2⟩:=List.getElem?_eq_some_iff.1 ht;rw[List.drop_eq_getElem_cons h1,h2]
   have hstep:Opm.fT ar (ns.drop j)=if Tx.line ((Evs.kf ⟨[],t⟩ ar).getD [])=[] then Opm.fT ar (ns.drop (j+1)) else Tx.line ((Evs.kf ⟨[],t⟩ ar).getD []):=by rw[hd,Opm.fT]
   have Hs:=ap hstep;have hj2:(0:Int)≤j∧(j:Int)<m:=by omega
   obtain⟨v,hv⟩:∃v,(Evs.kf ⟨[],t⟩ ar).getD []=v:=⟨_,rfl⟩;obtain⟨q,hq⟩:∃q,(Evs.kf ⟨[],t⟩ ar).isSome=q:=⟨_,rfl⟩;have kI:=HV.o t;have fw:=ap (HA.o t);rw[hv] at Hs kI fw;rw[hq] at fw;have HLv:=ap kI;clear hstep hd ht kI gu hv hq
   go_wp2_with fail
   refine (HN.o t wr).mono ?_;rintro e w1 ⟨rfl,ak⟩;have ax:=ap (HB.o.trans (ak.mono HB.o.size));clear ak;dsimp only
   go_wp2_with fail
   refine (fw.o w1 ax.o).mono ?_;rintro e w2 ⟨rfl,af⟩;have ag:=ap (ax.o.trans (af.mono ax.o.size));clear af;dsimp only
   go_wp2_with fail
   refine (HL.o v w2 HLv.o).mono ?_;rintro e w3 ⟨rfl,aA⟩;have aw:=ap (ag.o.trans (aA.mono ag.o.size));clear aA;dsimp only;obtain⟨y,hy⟩:∃y,Tx.line v=y:=⟨_,rfl⟩;rw[hy] at Hs ⊢;clear hy
   cases y with
   | nil=>
    have e1:=vF [];go_wp2
    go_roundg (m-(j+1))
    case measure=>have:=dQ.o;omega
    case rel=>exact⟨j+1,by first|rfl|go_num,rfl,by omega,by rw[bf.o,Hs.o];simp,aw.o⟩
   | cons a y=>
    have e1:=td (t:=a :: y) (by simp);go_wp2;go_ret;refine⟨?_,aw.o⟩;rw[bf.o,Hs.o];simp
  have eD:j=m:=by omega
  have Hz:=ap (show Opm.fT ar (ns.drop j)=[] by rw[eD,←Hm.o,List.drop_length];rfl);have dg:¬(j:Int)<m:=by omega
  clear eD;go_wp2;go_ret;refine⟨?_,HB.o⟩;rw[bf.o,Hz.o];rfl
end
section
open Tk Sx
def Yf(D:L):Bool:=Utf.valid D&&(List.range D.length).all fun p=>wV (D.drop p)&&match Tk.one p (D.drop p) with
 | none=>true
 | some t=>decide (p<t.end_)&&decide (t.end_≤D.length)
theorem Yg{D:L}(h:Yf D=true):xI D:=by
 unfold Yf at h;simp only[Bool.and_eq_true,List.all_eq_true,List.mem_range] at h;refine⟨h.1,fun p hp=>(h.2 p hp).1,fun p hp t ht=>?_⟩;have h:=(h.2 p hp).2;rw[ht] at h
 simpa using h
def amT(t:Tok):Bool:=decide (t.name.length≤100000∧t.text.length≤100000∧t.attrs.length≤100000∧(∀a∈t.attrs,a.name.length≤100000∧a.value.length≤100000)∧(t.kind=0∨t.kind=1∨t.kind=2∨t.kind=3∨t.kind=4))
def aic(st:St):Bool:=decide ((st.open_.length≤16∧st.scope.length≤90000000∧st.evs.length≤90000000∧(∀y∈st.evs,y.text.length≤100000000000000000)∧(∀x∈st.open_,x.scope≤st.scope.length)∧st.open_.Pairwise fun a b=>a.scope≤b.scope)∧∀d∈st.scope,d.ns.length≤1000000)
def Yc(D:L):Bool:=(jD D.length 0 D).all amT&&(List.range ((jD D.length 0 D).length+1)).all fun k=>match run lZ ((jD D.length 0 D).take k) with
 | .ok st=>aic st
 | .error _=>true
theorem Ye{D:L}(h:Yc D=true):Aw D:=by
 unfold Yc at h;simp only[Bool.and_eq_true,List.all_eq_true,List.mem_range] at h;refine⟨fun t ht=>?_,fun k st hk=>?_⟩
 ·obtain⟨h1,h2,h3,h4,h5⟩:=of_decide_eq_true (h.1 t ht);exact⟨h1,h2,h3,h4,h5⟩
 have h2:=h.2 (min k (jD D.length 0 D).length) (by omega);rw[←List.take_eq_take_min,hk] at h2;obtain⟨⟨h1,h2,h3,h4,h5,h6⟩,h7⟩:=of_decide_eq_true h2;exact⟨⟨h1,h2,h3,h4,h5,h6⟩,h7⟩
def RI(l:List Ev):Bool:=(List.range l.length).all fun k=>match l[k]? with
 | none=>true
 | some e=>decide ((e.kind=0∧(opn [] (l.take k)=[]→k=0)∧(opn [] (l.take k)).length<16∧e.attrs.length≤16∧e.name.loc≠[])∨(e.kind=1∧(opn [] (l.take k)).getLast?=some e.name))
theorem RJ{l:List Ev}(h:RI l=true):OY l:=by
 unfold RI at h;simp only[List.all_eq_true,List.mem_range] at h;intro k e he;have h:=h k (List.getElem?_eq_some_iff.1 he).1;rw[he] at h
 rcases of_decide_eq_true h with h|h
 ·exact .inl h
 exact .inr (.inl h)
namespace Opm
def t1:L:=[60,111,112,109,108,62,60,98,111,100,121,62,60,111,117,116,108,105,110,101,32,116,101,120,116,61,34,97,34,62,60,111,117,116,108,105,110,101,32,116,105,116,108,101,61,34,98,34,32,120,109,108,85,114,108,61,34,32,117,32,34,47,62,60,47,111,117,116,108,105,110,101,62,60,47,98,111,100,121,62,60,47,111,112,109,108,62]
def t2:L:=[60,111,112,109,108,47,62]
def mL:Nm:=⟨[],[111,112,109,108]⟩
def nP:Nm:=⟨[],[98,111,100,121]⟩
def eo:Nm:=⟨[],[111,117,116,108,105,110,101]⟩
def oY:Nm:=⟨[],[120,109,108,85,114,108]⟩
def qp:Nm:=⟨[],[116,105,116,108,101]⟩
def qo:Nm:=⟨[],[116,101,120,116]⟩
def tq:List Ev:=[⟨0,mL,[],[]⟩,⟨0,nP,[],[]⟩,⟨0,eo,[⟨qo,[97]⟩],[]⟩,⟨0,eo,[⟨qp,[98]⟩,⟨oY,[32,117,32]⟩],[]⟩,⟨1,eo,[],[]⟩,⟨1,eo,[],[]⟩,⟨1,nP,[],[]⟩,⟨1,mL,[],[]⟩]
def tr:List Ev:=[⟨0,mL,[],[]⟩,⟨1,mL,[],[]⟩]
def WU(r:Except (Nat×Nat) (List Ev))(l:List Ev):Bool:=match r with
 | .ok l'=>decide (l'=l)
 | .error _=>false
theorem WV{r:Except (Nat×Nat) (List Ev)}{l:List Ev}(h:WU r l=true):r=.ok l:=by
 unfold WU at h
 split at h
 ·rw[of_decide_eq_true h]
 cases h
theorem aiX:Sx.parse t1=.ok tq:=WV (by kernel_rfl)
theorem aiY:Sx.parse t2=.ok tr:=WV (by kernel_rfl)
instance(e:Ev):Decidable (Evs.xk e):=by unfold Evs.xk;infer_instance
theorem ant:Evs.rf tq:=⟨by decide +kernel,RJ (by kernel_rfl),of_decide_eq_true (by kernel_rfl),by simp[tq]⟩
theorem anu:Evs.rf tr:=⟨by decide +kernel,RJ (by kernel_rfl),of_decide_eq_true (by kernel_rfl),by simp[tr]⟩
theorem alv:xI t1:=Yg (by kernel_rfl)
theorem alw:xI t2:=Yg (by kernel_rfl)
theorem als:Aw t1:=Ye (by kernel_rfl)
theorem alu:Aw t2:=Ye (by kernel_rfl)
theorem aec:fine t1=true:=by kernel_rfl
theorem aed:fine t2=true:=by kernel_rfl
end Opm
end
section
open Go.RowKit Go.Shelf Tk Sx Go.WideShapes

namespace Evs
theorem anv{l:List Ev}(h:rf l):∃e,l[0]?=some e∧e.kind=0:=by
 have hl:0<l.length:=List.length_pos_iff.2 h.ne;obtain⟨e,he⟩:∃e,l[0]?=some e:=⟨_,List.getElem?_eq_getElem hl⟩;refine⟨e,he,?_⟩
 rcases (OD h he).2 with h1|⟨-,o,p,h2,-⟩|⟨-,h2,-⟩
 ·exact h1.1
 ·simp[upto] at h2
 exact absurd rfl h2
theorem YY{l:List Ev}(h:rf l):∀i,i≤l.length→(∀p∈(upto l i).1,∃e,l[p]?=some e∧e.kind=0)∧∀p k,bQ p (upto l i).2=some k→∃e,l[p]?=some e∧e.kind=0
 | 0,_=>⟨fun p hp=>by simp[upto] at hp,fun p k hp=>by cases hp⟩
 | i+1,hi=>by
  obtain⟨h1,h2⟩:=YY h i (by omega);obtain⟨e,he⟩:∃e,l[i]?=some e:=⟨_,List.getElem?_eq_getElem (by omega)⟩;rw[Oh he];unfold l4
  rcases (OD h he).2 with ⟨h0,-⟩|⟨h0,o,p,hop,-⟩|⟨h0,-⟩
  ·rw[if_pos h0];refine⟨fun q hq=>?_,h2⟩
   rcases List.mem_append.1 hq with hq|hq
   ·exact h1 q hq
   rw[List.mem_singleton] at hq;subst hq;exact⟨e,he,h0⟩
  ·rw[if_neg (by omega),if_pos h0];refine⟨fun q hq=>h1 q (List.dropLast_subset _ hq),fun q k hq=>?_⟩;unfold bQ at hq
   split at hq
   ·rename_i FD
    dsimp only at FD;refine h1 q ?_;rw[←FD,hop];simp
   exact h2 q k hq
  rw[if_neg (by omega),if_neg (by omega)];exact⟨h1,h2⟩
theorem MJ{m:List (Nat×Nat)}{en b:Nat}:∀f k,b∈iX m en f k→∃e,bQ b m=some e
 | 0,k,h=>by cases h
 | f+1,k,h=>by
  rw[iX] at h
  split at h
  ·cases hl:bQ k m with
   | none=>rw[hl] at h;exact MJ f _ h
   | some e=>
    rw[hl] at h
    rcases List.mem_cons.1 h with h|h
    ·subst h;exact⟨e,hl⟩
    exact MJ f _ h
  cases h
theorem aeh{l:List Ev}(h:rf l){n:Nm}{i b:Nat}(hb:tz l n (rW l i)=some b):∃e,l[b]?=some e∧e.kind=0:=by
 obtain⟨e,he⟩:=MJ _ _ (List.mem_of_find?_eq_some hb);exact (YY h l.length (Nat.le_refl _)).2 b e he
end Evs
namespace Opm
def CE(ar:List ft):aB:=⟨fT ar [oY.loc],fT ar [qp.loc,qo.loc]⟩
def ou(acc:List aB)(x:aB):List aB:=if x.pre=[]∨x.pre∈acc.map (·.pre) then acc else acc++[x]
def Em(evs:List Ev)(k:Nat):List ft:=((evs[k]?).map (·.attrs)).getD []
def outs(evs:List Ev)(ks:List Nat):List aB:=ks.foldl (fun acc k=>ou acc (CE (Em evs k))) []
theorem aiE(evs:List Ev)(ks:List Nat)(k:Nat):outs evs (ks++[k])=ou (outs evs ks) (CE (Em evs k)):=by simp[outs]
theorem aiD(evs:List Ev)(ks:List Nat):(outs evs ks).length≤ks.length:=by
 have h:∀(ks:List Nat) (acc:List aB),(ks.foldl (fun acc k=>ou acc (CE (Em evs k))) acc).length≤acc.length+ks.length:=by
  intro ks
  induction ks with
  | nil=>intro acc;simp
  | cons k ks ih=>
   intro acc;rw[List.foldl_cons];refine Nat.le_trans (ih _) ?_;unfold ou;split
   ·simp
    try omega
   simp
   try omega
 have:=h ks []
 simpa[outs] using this
def r9(evs:List Ev):Except Nat (List aB):=match Evs.tz evs nP (Evs.rW evs 0) with
 | none=>.error 43
 | some b=>if fF (Evs.kP evs 0) mL=true then (if 64<(outs evs (nr evs eo b)).length then .error 42 else .ok (outs evs (nr evs eo b))) else .error 43
end Opm
namespace Nf
theorem acW(s:List UInt8):(jG s).length≤4*s.length:=by
 unfold jG via;split
 ·refine Nat.le_trans YL ?_;have:=J8 (bn s);have:=zq s;omega
 omega
theorem ahY(s:List UInt8):(oZ s).length≤256*s.length:=by
 unfold oZ;split
 ·have:=acW (gO s);have:=Kg s;omega
 omega
end Nf
theorem Tx.ahq(l:L):(Tx.line l).length≤256*(l.length+1):=by
 unfold Tx.line;have:=Nf.ahY (Tx.one l);have:=Tx.y8 l;omega
theorem Opm.Tp{ar:List ft}(h:∀a∈ar,a.val.length≤100000):∀ns,(Opm.fT ar ns).length≤30000000
 | []=>Nat.zero_le _
 | n :: r=>by
  unfold Opm.fT;split
  ·exact Opm.Tp h r
  have h1:=Tx.ahq ((Evs.kf ⟨[],n⟩ ar).getD [])
  have h2:((Evs.kf ⟨[],n⟩ ar).getD []).length≤100000:=by
   unfold Evs.kf
   cases hi:Evs.mH ⟨[],n⟩ ar with
   | none=>exact Nat.zero_le _
   | some k=>
    obtain⟨a,ha,-⟩:=Evs.FY hi;show (((ar[k]?).map (·.val)).getD []).length≤100000;rw[ha];exact h a (List.mem_of_getElem? ha)
  omega
theorem aiN{W:World}{base e size n:Nat}{v:Value}{xs:List Value}{D:Nat}{o:Obj}(h:W.ownsRow base e size v n xs)(hD:W.heap[D]?=some o)(o':Obj)(ho:o.isCells=false:=by rfl):(W.putObj D o').ownsRow base e size v n xs:=h.kept (grownBy_putObj' W D o') (by
 cases hb:v.ownBlock with
 | none=>exact .inl rfl
 | some g=>
  refine .inr fun e=>?_;obtain⟨_,cs,fr,hc⟩:=aD h g hb;injection e with e
  subst e;rw[hD] at hc;cases hc;cases ho)
theorem Xf{w:World}{base e size:Nat}{A:Option Addr}{n c:Nat}{xs:List Value}(h:w.ownsRow base e size (.slice A n c) n xs):n≤c:=by
 rcases h.2 with ⟨h0,h1⟩|⟨g',cap',cur,e,hb,hh,h1,h2,h3,h4⟩
 ·omega
 cases e;exact h1
theorem agX{B:Nat}{W W':World}(h:Below W.heap.size W W'):KeepsFrom B W W':=⟨h.size,fun k o _ hk _=>(h.block k (Array.getElem?_eq_some_iff.1 hk).1).trans hk⟩
def abN(w':World)(e:Ending)(r:Except Nat (List aB)):Prop:=match r with
 | .error c=>e=.returned (.tuple #[.slice none 0 0,.int .i64 (c:Int)])
 | .ok l=>∃A c,e=.returned (.tuple #[.slice A l.length c,.int .i64 0])∧l.length≤c∧Reads w' w'.heap.size 2 A l.length (aM l)
theorem aef(o:Option Nat):SY o=.tuple #[.int .i64 ((o.getD 0:Nat):Int),.bool o.isSome]:=by cases o<;>rfl
theorem ahV(W:World)(x y:Nm):(if (aa x.ns).toList=(aa y.ns).toList then if (aa x.loc).toList=(aa y.loc).toList then Result.ok (Next.value (Value.bool false)) W else Result.ok (Next.value (Value.bool true)) W else Result.ok (Next.value (Value.bool true)) W)=Result.ok (Next.value (Value.bool (!fF x y))) W:=by
 unfold fF;simp only[JY]
 by_cases h1:x.ns=y.ns<;>by_cases h2:x.loc=y.loc<;>simp[h1,h2]
theorem ahe{B z:Nat}{L:List Nat}(hB:B≤z)(hL:∀k∈L,k<z)(W:World)(l:Nat)(o o':Obj)(hl:z≤l)(_:W.heap[l]?=some o)(_:o.isCells=false)(_:o.isWalk=false):ji B L W (W.putObj l o') :=
 ⟨⟨rfl,rfl,rfl,by simp[World.putObj],fun k hk=>World.putObj_heap_other (by omega)⟩,fun k hk=>World.putObj_heap_other (by have:=hL k hk;omega)⟩
theorem Ch:(Tryz.prog.info? 37).map (fun i=>(i.zero,i.size,i.bytes))=some (some (.agg #[.string ⟨#[]⟩,.string ⟨#[]⟩]),2,32):=by kernel_rfl
structure gL(w:World)(Lb mb Wb Ob:Nat)(lv:Value)(k:Nat)(S:List L)(acc:List aB)(W:World):Prop where
 l:ae W Lb 68 #[lv]
 wb:ae W Wb 64 #[.map (some mb)]
 s:∃(n:Nat) (D:DataW Unit) (seen:List L),fR W mb n seen D∧n≤k∧∀x,x∈seen↔x∈S
 o:∃A c,ae W Ob 22 #[.slice A acc.length c]∧W.ownsRow (Ob+1) 37 2 (.slice A acc.length c) acc.length (aM acc)
 b:Below w.heap.size w W
section
variable {w W W' X Y:World} {Lb mb Wb Ob k:Nat} {lv:Value} {S:List L} {acc:List aB}
theorem gL.z(h:gL w Lb mb Wb Ob lv k S acc W):Ob<W.heap.size:=by
 obtain⟨A,c,ho,hr⟩:=h.o;exact ho.lt
theorem gL.go(h:gL w Lb mb Wb Ob lv k S acc W)(hb:Below W.heap.size W W'):gL w Lb mb Wb Ob lv k S acc W':=by
 obtain⟨n,D,seen,hs,hn,hx⟩:=h.s;obtain⟨A,c,ho,hr⟩:=h.o;refine⟨h.l.go hb,h.wb.go hb,⟨n,D,seen,hs.same (hb.block _ hs.lt),hn,hx⟩,⟨A,c,ho.go hb,?_⟩,h.b.trans (hb.mono h.b.size)⟩
 rcases hr.2 with h0|⟨g,cap,cur,e,hg,hh,rest⟩
 ·exact⟨hr.1,.inl h0⟩
 exact⟨hr.1,.inr ⟨g,cap,cur,e,hg,(hb.block g (Array.getElem?_eq_some_iff.1 hh).1).trans hh,rest⟩⟩
theorem gL.up{k':Nat}(h:gL w Lb mb Wb Ob lv k S acc W)(hk:k≤k'):gL w Lb mb Wb Ob lv k' S acc W:=by
 obtain⟨n,D,seen,hs,hn,hx⟩:=h.s;exact⟨h.l,h.wb,⟨n,D,seen,hs,Nat.le_trans hn hk,hx⟩,h.o,h.b⟩
theorem gL.kept{z:Nat}{row:Option Nat}(h:gL w Lb mb Wb Ob lv k S acc X)(hz:mb<z)(hw:w.heap.size≤z)(hg:X.grownBy Y row)(ah:∀r,row=some r→z≤r∧∃o:Obj,X.heap[r]?=some o∧o.isCells=false):gL w Lb mb Wb Ob lv k S acc Y:=by
 obtain⟨n,D,seen,hs,hn,hx⟩:=h.s;obtain⟨A,c,ho,hr⟩:=h.o;refine⟨h.l.grown hg (ni ah h.l),h.wb.grown hg (ni ah h.wb),⟨n,D,seen,hs.same (hg.block _ hs.lt fun e=>?_),hn,hx⟩,⟨A,c,ho.grown hg (ni ah ho),hr.kept hg ?_⟩,h.b.grown hg h.b.size (fun k e=>by have:=(ah k e).1;omega)⟩
 ·have:=(ah mb e.symm).1;omega
 cases hb:(Value.slice A acc.length c).ownBlock with
 | none=>exact .inl rfl
 | some g=>
  refine .inr fun e=>?_;obtain⟨_,cs,fr,hc⟩:=aD hr g hb;obtain⟨_,o,bg,bj⟩:=ah g e.symm;rw[bg] at hc;cases hc;cases bj
theorem gL.fresh{n:Nat}{u:L}{D':DataW Unit}{seen S':List L}(h:gL w Lb mb Wb Ob lv k S acc X)(hmw:w.heap.size≤mb)(hn:n≤k)(hm:∃es cl,X.heap[mb]?=some (.map es cl))(hS:∀x,x∈u :: seen↔x∈S')(hg:X.grownBy Y (some mb))(hs:fR Y mb (n+1) (u :: seen) D'):gL w Lb mb Wb Ob lv (k+1) S' acc Y:=by
 have hne:∀{t cs},∀B,ae X B t cs→some B≠some mb:=fun B hB e=>by
  injection e with e
  subst e;obtain⟨es,cl,h2⟩:=hm;rw[show X.heap[B]?=_ from hB] at h2;cases h2
 obtain⟨A,c,ho,hr⟩:=h.o;refine⟨h.l.grown hg (hne _ h.l),h.wb.grown hg (hne _ h.wb),⟨n+1,D',_,hs,by omega,hS⟩,⟨A,c,ho.grown hg (hne _ ho),hr.kept hg ?_⟩,h.b.grown hg h.b.size (fun k e=>by injection e with e;omega)⟩
 cases hb:(Value.slice A acc.length c).ownBlock with
 | none=>exact .inl rfl
 | some g=>
  refine .inr fun e=>?_;obtain⟨_,cs,fr,hc⟩:=aD hr g hb;obtain⟨es,cl,h2⟩:=hm;injection e with e
  subst e;rw[hc] at h2;cases h2
theorem gL.app{A:Option Addr}{c g cap:Nat}{o:Obj}{x:aB}(h:gL w Lb mb Wb Ob lv k S acc X)(hO:ae X Ob 22 #[.slice A acc.length c])(hr:X.ownsRow (Ob+1) 37 2 (.slice A acc.length c) acc.length (aM acc))(hwO:w.heap.size≤Ob)(hLO:Lb≠Ob)(hWO:Wb≠Ob)(hmO:mb≠Ob)
  (hg:(X.alloc o).grownBy Y (Value.slice A acc.length c).ownBlock) (ho:Y.ownsRow (Ob+1) 37 2 (.slice (some ⟨g,0,none⟩) (acc.length+1) cap) (acc.length+1) (aM acc++jH x)) (hgO:Ob+1≤g) :
  gL w Lb mb Wb Ob lv k S (acc++[x]) (Y.setCell ⟨Ob,0,none⟩ (.slice (some ⟨g,0,none⟩) (acc.length+1) cap)):=by
 have hown:=aD hr;have hne:∀{t cs},t≠37→∀B,ae X B t cs→some B≠(Value.slice A acc.length c).ownBlock:=fun ht B hB e=>bR hr hB (fun e2=>ht e2.symm) e.symm;have hl:(acc++[x]).length=acc.length+1:=by simp
 obtain⟨n,D,seen,hs,hn,hx⟩:=h.s;refine⟨?_,?_,⟨n,D,seen,hs.same ?_,hn,hx⟩,⟨some ⟨g,0,none⟩,cap,?_,?_⟩,?_⟩
 ·exact (((h.l.alloc o).grown hg (hne (by decide) _ h.l))).far (p:=⟨Ob,0,none⟩) hLO _
 ·exact (((h.wb.alloc o).grown hg (hne (by decide) _ h.wb))).far (p:=⟨Ob,0,none⟩) hWO _
 ·rw[Below.heap_setCell _ _ _ _ hmO,hg.block _ (by have:=hs.lt;simp;omega) (fun e=>?_),Below.heap_alloc _ _ _ hs.lt];obtain⟨es,cl,h2⟩:=(show ∃es cl,X.heap[mb]?=some (.map es cl) by obtain⟨es,cl,hb,_⟩:=hs.own;exact⟨es,cl,hb⟩);obtain⟨_,cs,fr,h3⟩:=hown _ e.symm;rw[h3] at h2;cases h2
 ·rw[hl];have:=((hO.alloc o).grown hg (hne (by decide) _ hO)).aH 0 (.slice (some ⟨g,0,none⟩) (acc.length+1) cap)
  simpa using this
 ·rw[hl,show aM (acc++[x])=aM acc++jH x by simp[aM]];exact ownsRow_setCell_other ho (by simp[Value.ownBlock];omega) _
 refine Below.setCell ((h.b.alloc h.b.size o).grown hg (by simp;have:=h.b.size;omega) (fun r e=>?_)) (p:=⟨Ob,0,none⟩) hwO _;have:=(hown r e).1;omega
end
end
section
open Go

def SF(md:Region.Mode)(ops:Array Oper):Bool:=(List.range ops.size).all fun i=>((ops[i]?).map fun o=>o.after.all fun e=>!Region.binds md e||decide (e.on<i)).getD false
def RB(p:Prop):Prop:=p
theorem ann{p:Prop}(h:RB p):p:=h
def xd(md:Region.Mode)(ops:Array Oper)(i j:Nat):Bool:=((ops[i]?).map fun o=>o.after.any fun e=>Region.binds md e&&e.on==j).getD false
theorem aj{a b c:Prop}(h:a→c)(hb:¬b):a∨b→c:=fun h2=>h2.elim h fun h3=>absurd h3 hb
section
variable {F:Fence} {n:Nat} {P:Program} {ops:Array Oper} {Q:Exit→Act→World→Prop} {md:Region.Mode} {Iv:(Nat→Prop)→Act→World→Prop}
theorem MH{listed:Array Bool}{i:Nat}(hi:i<listed.size):(fun k=>(listed.setIfInBounds i true).getD k false=true)=fun k=>listed.getD k false=true∨k=i:=by
 funext k
 by_cases h:k=i
 ·subst h;simp[Array.getD,hi]
 simp only[Array.getD_eq_getD_getElem?,Array.getElem?_setIfInBounds,if_neg (fun e:i=k=>h e.symm),h,or_false]
theorem anJ(hl:SF md ops=true)
  (hstep:∀(L:Nat→Prop) (a:Act) (w:World) (i:Nat),Iv L a w→i<ops.size→¬L i→(∀j,xd md ops i j=true→L j)→(∀j,xd md ops j i=true→¬L j)→wpOpIn F n P ops Q i (Iv fun k=>L k∨k=i) a w)
  (hdone:∀(L:Nat→Prop) (a:Act) (w:World),Iv L a w→(∀i,i<ops.size→L i)→Q .normal a w) :
  ∀(fuel:Nat) (listed:Array Bool) (a:Act) (w:World),listed.size=ops.size→(∀j k,listed.getD j false=true→xd md ops j k=true→listed.getD k false=true)→listed.toList.count false≤fuel→Iv (fun k=>listed.getD k false=true) a w→wpAnyIn F n P md ops Q fuel listed a w:=by
 have hall:∀(listed:Array Bool),listed.size=ops.size→Region.ready md ops listed=[]→∀i,i<ops.size→listed.getD i false=true:=by
  intro listed hs hr i
  induction i using Nat.strongRecOn with
  | _ i ih=>
   intro hi
   cases hv:listed.getD i false with
   | true=>rfl
   | false=>
    exfalso
    have hm:i∈Region.ready md ops listed:=by
     unfold Region.ready;rw[List.mem_filter];refine⟨List.mem_range.2 hi,?_⟩
     have h1:listed.getD i true=false:=by
      simp only[Array.getD,hs,hi,dif_pos] at hv ⊢;exact hv
     have h2:=List.all_eq_true.1 hl i (List.mem_range.2 hi);rw[Array.getElem?_eq_getElem hi] at h2 ⊢;simp only[Option.map_some,Option.getD_some] at h2 ⊢;rw[h1,Bool.not_false,Bool.true_and,Array.all_eq_true'];intro e he;have h3:=Array.all_eq_true'.1 h2 e he
     cases hb:Region.binds md e with
     | false=>rfl
     | true=>
      rw[hb] at h3;have h4:e.on<i:=by simpa using h3
      rw[ih _ h4 (by omega),Bool.or_true]
    rw[hr] at hm;cases hm
 intro fuel
 induction fuel with
 | zero=>
  intro listed a w hs jI hc hI
  have h0:∀i,i<listed.size→listed.getD i true=true:=by
   intro i hi;have:=List.count_eq_zero.1 (Nat.le_zero.1 hc);simp only[Array.getD,hi,dif_pos]
   cases hv:listed[i] with
   | true=>exact hv
   | false=>exact absurd (hv▸Array.getElem_mem_toList hi) this
  have hr:Region.ready md ops listed=[]:=by
   unfold Region.ready;rw[List.filter_eq_nil_iff];intro i hi;rw[h0 i (by rw[hs];exact List.mem_range.1 hi)];simp
  exact⟨hr,hdone _ a w hI (hall listed hs hr)⟩
 | succ fuel ih=>
  intro listed a w hs jI hc hI;refine⟨fun hr=>hdone _ a w hI (hall listed hs hr),fun i hi=>?_⟩;unfold Region.ready at hi;rw[List.mem_filter] at hi;obtain⟨cm,pS⟩:=hi;have cm:=List.mem_range.1 cm;have ho:ops[i]?=some ops[i]:=Array.getElem?_eq_getElem cm;rw[ho] at pS;simp only[Option.map_some,Option.getD_some,Bool.and_eq_true,Bool.not_eq_true'] at pS
  have U3:¬listed.getD i false=true:=fun h=>by
   have h1:=pS.1;simp only[Array.getD,hs,cm,dif_pos] at h h1;rw[h] at h1;cases h1
  have Ux:∀j,xd md ops i j=true→listed.getD j false=true:=fun j hj=>by
   unfold xd at hj;rw[ho] at hj;simp only[Option.map_some,Option.getD_some] at hj;obtain⟨e,he,hb⟩:=Array.any_eq_true'.1 hj;simp only[Bool.and_eq_true,beq_iff_eq] at hb;have:=Array.all_eq_true'.1 pS.2 e he;rw[hb.1,hb.2] at this
   simpa using this
  refine wpOpIn_mono (fun a' w' h=>ih _ a' w' (by simpa using hs) ?_ ?_ ?_) (hstep _ a w i hI cm U3 Ux fun j hj hl=>U3 (jI j i hl hj))
  ·intro j k hj hw;have h1:=congrFun (MH (listed:=listed) (i:=i) (by rw[hs];exact cm)) j;have h2:=congrFun (MH (listed:=listed) (i:=i) (by rw[hs];exact cm)) k;rw[h1] at hj;rw[h2]
   rcases hj with hj|rfl
   ·exact .inl (jI j k hj hw)
   exact .inl (Ux k hw)
  ·have hlt:i<listed.toList.length:=by simpa[hs] using cm
   have hf:listed.toList[i]=false:=by
    have:=pS.1
    simpa[Array.getD,hs,cm] using this
   rw[Array.toList_setIfInBounds,List.count_set hlt,hf];have Va:0<listed.toList.count false:=List.count_pos_iff.2 (hf▸List.getElem_mem hlt);show listed.toList.count false-1+0≤fuel;omega
  rw[MH (by rw[hs];exact cm)];exact h
theorem C8{id:Nat}{a:Act}{w:World}(hm:P.follows .mixedOrders=true)(hl:SF .any ops=true)(Iv:(Nat→Prop)→Act→World→Prop)(h0:Iv (fun _=>False) a w.drew)
  (hstep:∀(L:Nat→Prop) (a:Act) (w:World) (i:Nat),Iv L a w→i<ops.size→¬L i→(∀j,xd .any ops i j=true→L j)→(∀j,xd .any ops j i=true→¬L j)→wpOpIn F n P ops Q i (Iv fun k=>L k∨k=i) a w)
  (hdone:∀(L:Nat→Prop) (a:Act) (w:World),Iv L a w→(∀i,i<ops.size→L i)→Q .normal a w):(Code.region id ops true).wpIn F n P Q a w:=by
 refine wpIn_region_any hm (anJ hl hstep hdone _ _ _ _ (by simp) (fun j k h=>by simp[Array.getD] at h) (by simp) ?_)
 have:(fun k=>(Array.replicate ops.size false).getD k false=true)=fun _=>False:=by
  funext k
  simp[Array.getD]
 rw[this];exact h0
theorem dL{i:Nat}{o:Oper}{K:Act→World→Prop}{a:Act}{w:World}(ho:ops[i]?=some o)(hw:Region.wanted o (yielded ops a.tmps)=true)(h:∀K':Act→World→Prop,(∀a w,K a w→K' a w)→Oper.wpIn F n P o a w K' Q):wpOpIn F n P ops Q i K a w:=by
 unfold wpOpIn;rw[ho];dsimp only;rw[if_pos hw];exact h K fun _ _ h=>h
end
end
end Go.Proofs.YtpdkeckeekchlaaGreatDoor
