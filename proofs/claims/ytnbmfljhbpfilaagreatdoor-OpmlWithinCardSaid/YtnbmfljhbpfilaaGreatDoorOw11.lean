/- Strict in plain data: names, values, a start's attributes, a parse on its way; no program in sight. And more. -/
import Derived.Test.YtnbmfljhbpfilaaGreatDoorOw01
import Derived.Test.YtnbmfljhbpfilaaGreatDoorOw02
import Derived.Test.YtnbmfljhbpfilaaGreatDoorOw03
import Derived.Test.YtnbmfljhbpfilaaGreatDoorOw04
import Derived.Test.YtnbmfljhbpfilaaGreatDoorOw08
import Derived.Test.YtnbmfljhbpfilaaGreatDoorOw10
import Derived.Test.YtnbmfljhbpfilaaGreatDoorShelf
import Derived.RangeFuncNested
import Derived.Lib.Builder
import Derived.Laws.Externs
import Derived.OrdersIn
set_option linter.unusedSimpArgs false
set_option maxRecDepth 100000
set_option maxHeartbeats 4000000
set_option linter.unusedVariables false
namespace Go.Proofs.YtnbmfljhbpfilaaGreatDoor
section
open Go Tk Sx
namespace Sx
def jL(k:Nat)(r:Int):Bool:=if k=0 then iC r else j5 r
def oC(l:L):Bool:=!l.isEmpty&&(stop jL l).isNone
def split(l:L):Option (L×L) :=
 if (Lib.cut l [58]).2.2 then if oC (Lib.cut l [58]).1&&oC (Lib.cut l [58]).2.1 then some ((Lib.cut l [58]).1,(Lib.cut l [58]).2.1) else none
 else if oC l then some ([],l) else none
def norm(c:UInt8):UInt8:=if c=9∨c=10∨c=13 then 32 else c
def less:L→Option Nat
 | []=>none
 | c :: r=>if c=60 then some 0 else (less r).map (· + 1)
def value(l:L):Except Nat L :=
 match less l with
 | some k=>match cP k 0 ((l.take k).map norm) with
  | .error a=>.error a
  | .ok _=>.error k
 | none=>cP l.length 0 (l.map norm)
structure Nm where
 ns:L
 loc:L
 deriving DecidableEq
structure eZ where
 name:Nm
 val:L
 deriving DecidableEq
structure Ev where
 kind:Nat
 name:Nm
 attrs:List eZ
 text:L
 deriving DecidableEq
structure El where
 written:L
 name:Nm
 scope:Nat
structure St where
 open_:List El
 scope:List ax
 evs:List Ev
 gu:Bool
structure bS where
 pre:L
 loc:L
 val:L
 at_:Nat
def FC:Nm:=⟨[],[]⟩
abbrev bR:=Option (Nat×Nat)
def yB(b:bR)(at_ e:Nat):bR:=match b with
 | some x=>some x
 | none=>some (at_,e)
def kI:L:=[120,109,108,110,115]
def eJ(a:At):bS:=match split a.name with
 | some (p,l)=>⟨p,l,[],a.at_⟩
 | none=>⟨[],[],[],a.at_⟩
def iJ:List L→List At→Option Nat
 | _,[]=>none
 | seen,a :: r=>if (split a.name).isNone=true∨a.name∈seen then some a.at_ else iJ (seen++[a.name]) r
def names(t:Tok):Option Nat:=if (split t.name).isNone then some t.at_ else iJ [] t.attrs
def valOf(a:At):L:=match value a.value with
 | .ok v=>v
 | .error _=>[]
def oJ(a:At):bS:=⟨(eJ a).pre,(eJ a).loc,valOf a,a.at_⟩
def iN:List At→Option Nat
 | []=>none
 | a :: r=>match value a.value with
  | .ok _=>iN r
  | .error _=>some a.at_
def declares(s:bS):L×Bool:=if s.pre=kI then (s.loc,true) else ([],decide (s.pre=[]∧s.loc=kI))
def vS(p u:L):Bool:=decide (p≠kI)&&decide (u≠Gp)&&(decide (p=vU)==decide (u=yO))&&(decide (p=[])||decide (u≠[]))
def declared:List ax→List bS→List ax
 | sc,[]=>sc
 | sc,s :: r=>if (declares s).2 then declared (sc++[⟨(declares s).1,s.val⟩]) r else declared sc r
def iB:List bS→Option Nat
 | []=>none
 | s :: r=>if (declares s).2 && !vS (declares s).1 s.val then some s.at_ else iB r
def uG(sc:List ax)(s:bS):L×Bool:=if s.pre=[] then ([],true) else lQ sc s.pre
def oZ(sc:List ax)(s:bS):Nm:=⟨(uG sc s).1,s.loc⟩
def cz(sc:List ax):List bS→List eZ
 | []=>[]
 | s :: r=>if (declares s).2 then cz sc r else ⟨oZ sc s,s.val⟩ :: cz sc r
def iW(sc:List ax):List Nm→List bS→Option Nat
 | _,[]=>none
 | seen,s :: r=>if (declares s).2 then iW sc seen r else if (uG sc s).2=false∨oZ sc s∈seen then some s.at_ else iW sc (seen++[oZ sc s]) r
def dg(l:List Ev)(x:Ev):List Ev:=if x.kind≠2 then l++[x] else match l.getLast? with
 | some y=>if y.kind=2 then l.dropLast++[⟨2,y.name,y.attrs,y.text++x.text⟩] else if x.text=[] then l else l++[x]
 | none=>if x.text=[] then l else l++[x]
def lR(t:L):Ev:=⟨2,FC,[],t⟩
def jZ(st:St):St:=match st.open_.getLast? with
 | none=>st
 | some x=>⟨st.open_.dropLast,st.scope.take x.scope,dg st.evs ⟨1,x.name,[],[]⟩,st.gu⟩
def jr(t:Tok):L:=((split t.name).getD ([],[])).1
def ni(t:Tok):L:=((split t.name).getD ([],[])).2
def early(st:St)(t:Tok):bR:=match names t with
 | some a=>some (a,50)
 | none=>if st.gu&&st.open_.isEmpty then some (t.at_,50) else if 16<t.attrs.length then some (t.at_,42) else if st.open_.length=16 then some (t.at_,41) else none
def splits(t:Tok):List bS:=t.attrs.map oJ
def scope'(st:St)(t:Tok):List ax:=declared st.scope (splits t)
def late(st:St)(t:Tok):Option Nat:=match iN t.attrs with
 | some a=>some a
 | none=>match iB (splits t) with
  | some a=>some a
  | none=>if (lQ (scope' st t) (jr t)).2=false∨jr t=kI then some t.at_ else iW (scope' st t) [] (splits t)
def started(st:St)(t:Tok):St :=
 ⟨st.open_++[⟨t.name,⟨(lQ (scope' st t) (jr t)).1,ni t⟩,st.scope.length⟩],scope' st t,
  dg st.evs ⟨0,⟨(lQ (scope' st t) (jr t)).1,ni t⟩,cz (scope' st t) (splits t),[]⟩,true⟩
def start(st:St)(t:Tok):Except (Nat×Nat) St:=match early st t with
 | some b=>.error b
 | none=>match late st t with
  | some a=>.error (a,50)
  | none=>.ok (if t.empty then jZ (started st t) else started st t)
def end_(st:St)(t:Tok):Except (Nat×Nat) St:=match st.open_.getLast? with
 | none=>.error (t.at_,50)
 | some x=>if x.written=t.name then .ok (jZ st) else .error (t.at_,50)
def yH(st:St)(t:L):St:=⟨st.open_,st.scope,dg st.evs (lR t),st.gu⟩
def text(st:St)(t:Tok):Except (Nat×Nat) St:=if st.open_=[] then if t.text.all sp then .ok st else .error (t.at_,50) else match cP t.text.length 0 t.text with
 | .ok s=>.ok (yH st s)
 | .error _=>.error (t.at_,50)
def data(st:St)(t:Tok):Except (Nat×Nat) St:=if st.open_=[] then .error (t.at_,50) else .ok (yH st t.text)
def step(st:St)(t:Tok):Except (Nat×Nat) St :=
 if t.kind=0 then start st t else if t.kind=1 then end_ st t else if t.kind=2 then text st t else if t.kind=3 then data st t else .ok st
def run:St→List Tok→Except (Nat×Nat) St
 | st,[]=>.ok st
 | st,t :: r=>match step st t with
  | .error x=>.error x
  | .ok st'=>run st' r
def eK:St:=⟨[],[],[],false⟩
def Gc(ts:List Tok):Nat:=(ts.getLast?.map (·.end_)).getD 0
def parse(s:L):Except (Nat×Nat) (List Ev) :=
 if 0≤bad s then .error ((bad s).toNat,50)
 else if Gc (eY s.length 0 s)≠s.length then .error (Gc (eY s.length 0 s),50)
 else match run eK (eY s.length 0 s) with
  | .error x=>.error x
  | .ok st=>if st.open_=[]∧st.gu=true then .ok st.evs else .error (s.length,50)
end Sx
end
section
open Tk Sx
def yz(o:List Nm)(e:Ev):List Nm:=if e.kind=0 then o++[e.name] else if e.kind=1 then o.dropLast else o
def opn:List Nm→List Ev→List Nm
 | o,[]=>o
 | o,e :: r=>opn (yz o e) r
theorem Ww:∀(l:List Ev) (o:List Nm) (r:List Ev),opn o (l++r)=opn (opn o l) r
 | [],_,_=>rfl
 | e :: l,o,r=>Ww l (yz o e) r
theorem FH(l:List Ev)(o:List Nm)(e:Ev):opn o (l++[e])=yz (opn o l) e:=Ww l o [e]
def OE(o:List Nm)(k:Nat)(prev:Option Ev)(e:Ev):Prop :=
 (e.kind=0∧(o=[]→k=0)∧o.length<16∧e.attrs.length≤16∧e.name.loc≠[])∨(e.kind=1∧o.getLast?=some e.name)∨(e.kind=2∧o≠[]∧e.text≠[]∧fine e.text=true∧∃p,prev=some p∧p.kind≠2)
def yQ(evs:List Ev):Prop:=∀k e,evs[k]?=some e→OE (opn [] (evs.take k)) k (evs[k-1]?) e
namespace Evs
def tP(e:Ev):Prop :=
 (e.kind=0∧e.name.loc≠[]∧e.text=[]∧(e.attrs.map (·.name)).Nodup∧∀a∈e.attrs,a.name.loc≠[])∨(e.kind=1∧e.name.loc≠[]∧e.attrs=[]∧e.text=[])∨(e.kind=2∧e.name=FC∧e.attrs=[]∧e.text≠[])
structure oY(l:List Ev):Prop where
 fld:∀e∈l,tP e
 xh:yQ l
 shut:opn [] l=[]
 ne:l≠[]
def jt(s:List Nat×List (Nat×Nat))(i:Nat)(e:Ev):List Nat×List (Nat×Nat) :=
 if e.kind=0 then (s.1++[i],s.2) else if e.kind=1 then (s.1.dropLast,(s.1.getLastD 0,i) :: s.2) else s
def upto(l:List Ev):Nat→List Nat×List (Nat×Nat)
 | 0=>([],[])
 | i+1=>match l[i]? with
  | some e=>jt (upto l i) i e
  | none=>upto l i
theorem Gf{l:List Ev}{i:Nat}{e:Ev}(h:l[i]?=some e):upto l (i+1)=jt (upto l i) i e:=by
 rw[upto,h]
def bj(p:Nat):List (Nat×Nat)→Option Nat
 | []=>none
 | x :: m=>if x.1=p then some x.2 else bj p m
def iK(l:List Ev)(p:Nat):Nm:=((l[p]?).map (·.name)).getD FC
theorem NS(l:List Ev):∀i,i≤l.length→(upto l i).1.map (iK l)=opn [] (l.take i)
 | 0,_=>rfl
 | i+1,h=>by
  have ih:=NS l i (by omega);obtain⟨e,he⟩:∃e,l[i]?=some e:=⟨_,List.getElem?_eq_getElem (by omega)⟩;rw[Gf he,List.take_add_one,he];show _=opn [] (l.take i++[e]);rw[FH,←ih];unfold jt yz
  by_cases h0:e.kind=0
  ·rw[if_pos h0,if_pos h0,List.map_append];simp[iK,he]
  rw[if_neg h0,if_neg h0]
  by_cases h1:e.kind=1
  ·rw[if_pos h1,if_pos h1];simp[List.map_dropLast]
  rw[if_neg h1,if_neg h1]
theorem NR(l:List Ev):∀i,∀p∈(upto l i).1,p<i
 | 0,p,h=>by simp[upto] at h
 | i+1,p,h=>by
  have ih:=NR l i;rw[upto] at h
  cases he:l[i]? with
  | none=>
   rw[he] at h;have:=ih p h;omega
  | some e=>
   rw[he] at h;dsimp only at h;unfold jt at h
   split at h
   ·rcases List.mem_append.1 h with h|h
    ·have:=ih p h;omega
    rw[List.mem_singleton] at h;omega
   split at h
   ·have:=ih p (List.dropLast_subset _ h);omega
   have:=ih p h;omega
def fq(l:List Ev):List (Nat×Nat):=(upto l l.length).2
theorem Og{l:List Ev}(h:oY l){i:Nat}{e:Ev}(he:l[i]?=some e) :
  tP e∧((e.kind=0∧((upto l i).1=[]→i=0))∨(e.kind=1∧∃o p,(upto l i).1=o++[p]∧p<i∧iK l p=e.name)∨(e.kind=2∧(upto l i).1≠[]∧∃q,0<i∧l[i-1]?=some q∧q.kind≠2)):=by
 have hi:i<l.length:=(List.getElem?_eq_some_iff.1 he).1;have ho:=NS l i (by omega);refine⟨h.fld e (List.mem_of_getElem? he),?_⟩
 rcases h.xh i e he with ⟨h0,h1,-,-,-⟩|⟨h0,h1⟩|⟨h0,h1,-,-,q,h2,h3⟩
 ·refine .inl ⟨h0,fun hn=>h1 ?_⟩;rw[←ho,hn];rfl
 ·refine .inr (.inl ⟨h0,?_⟩);rw[←ho,List.getLast?_map] at h1;obtain⟨p,hp,e1⟩:=Option.map_eq_some_iff.1 h1;obtain⟨o,bE⟩:=List.getLast?_eq_some_iff.1 hp;exact⟨o,p,bE,NR l i p (by rw[bE];simp),e1⟩
 refine .inr (.inr ⟨h0,fun hn=>h1 (by rw[←ho,hn];rfl),q,?_,h2,h3⟩)
 rcases Nat.eq_zero_or_pos i with hz|hz
 ·subst hz;exact absurd rfl h1
 exact hz
end Evs
end
section
open Go.RowKit Go.Shelf Tk Sx

attribute [local go_sem] Oper.semAt_some

def OB(w:World)(pre:List (Nat×Int))(W:World):Prop :=
 (∀p∈pre,jL p.1 p.2=true)∧Boxed W w.heap.size 91 (.func (.func 160) #[] #[])∧(∃v,Boxed W (w.heap.size+1) 3 v)∧(∃u,Boxed W (w.heap.size+1+1) 9 u)∧Below w.heap.size w W
def OD(w:World)(c:Code)(pre:List (Nat×Int))(W:World):Prop :=
 c=.ret∧∃il x,pre=il++[x]∧(∀p∈il,jL p.1 p.2=true)∧jL x.1 x.2=false∧Boxed W (w.heap.size+1) 3 (.int .i64 (x.1:Int))∧Below w.heap.size w W
theorem Zi(w:World):OwnFrom (w.heap.size+1+1+1) (OB w):=by
 rintro s X Y row ⟨h1,hb,⟨v,hv⟩,⟨u,hu⟩,h3⟩ hg ai;exact⟨h1,hb.kept hg (nO ai hb),⟨v,hv.kept hg (nO ai hv)⟩,⟨u,hu.kept hg (nO ai hu)⟩,h3.grown hg h3.size (fun k e=>by have:=(ai k e).1;omega)⟩
theorem Zk(w:World)(c:Code):OwnFrom (w.heap.size+1+1+1) (OD w c):=by
 rintro s X Y row ⟨h1,p,x,h2,h4,h5,hv,h3⟩ hg ai;exact⟨h1,p,x,h2,h4,h5,hv.kept hg (nO ai hv),h3.grown hg h3.size (fun k e=>by have:=(ai k e).1;omega)⟩
theorem W5(k:Nat)(r:Int)(h:r<0):jL k r=false:=by
 unfold jL;rw[JQ r h,SL r h];simp
def sI(l:L):Nat:=(stop jL l).getD l.length
theorem aed(s:ByteArray)(w:World)(hs:s.size≤1000000000) :
  Calls Tryz.prog 159 #[.string s,.func (.func 160) #[] #[]] w fun e w'=>e=.returned (.int .i64 (sI s.data.toList:Nat))∧Below w.heap.size w w':=by
 refine (callsIn_wide (n:=5)).1 ?_;refine callsIn_of_wp_marks Tryz.func159 rfl trivial ?_ rfl;simp only[Tryz.ntmps159,List.size_toArray,List.length_cons,List.length_nil,Nat.reduceAdd,Nat.reduceSub,Array.replicate_succ,Array.replicate_zero,List.push_toArray,List.append_toArray,List.nil_append,List.cons_append]
 gi_wp2_with (refine⟨trivial,?_⟩;gi_at_call 50;refine (callsIn_wide.2 (Nc _ _)).mono ?_;rintro e w' ⟨rfl,rfl⟩)
 have b0:=Boxed.new w 91 (.func (.func 160) #[] #[]);have b1:=Boxed.new (w.alloc (.cells #[.func (.func 160) #[] #[]] 91)) 3 (.int .i64 0);rw[World.size_alloc] at b1;have b2:=Boxed.new ((w.alloc (.cells #[.func (.func 160) #[] #[]] 91)).alloc (.cells #[.int .i64 0] 3)) 9 (.string s);rw[World.size_alloc,World.size_alloc] at b2
 have qE:Below w.heap.size w (((w.alloc (.cells #[.func (.func 160) #[] #[]] 91)).alloc (.cells #[.int .i64 0] 3)).alloc (.cells #[.string s] 9)) :=
  (((Below.refl _ w).alloc (Nat.le_refl _) _).alloc (by simp) _).alloc (by simp;omega) _
 refine wpIn_rangeFunc_ownG rfl (by omega) (gf:=81) (lb:=#[.pointer (some ⟨w.heap.size+1+1,0,none⟩)]) rfl trivial (enters_of Tryz.func81 (by kernel_rfl) rfl)
  (Nd (5-1) (by omega) (w.heap.size+1+1) s hs _ (by simp) b2.cell) eP.trans (Ck (by simp)) (Below.refl _ _) (fun _=>rfl)
  (OB w) (OD w) (by simpa using Zi w) (fun c=>by simpa using Zk w c)
  ⟨(fun p hp=>by cases hp),(b0.alloc _).alloc _,⟨_,b1.alloc _⟩,⟨_,b2⟩,qE⟩
  (fun x=>{ tmps:=#[.string s,.func (.func 160) #[] #[],undef,.pointer (some ⟨w.heap.size,0,none⟩),.pointer (some ⟨w.heap.size+1,0,none⟩),.int .i64 (x.1:Int),.int .i64 x.2,.string s,
   .func (.func 81) #[] #[.pointer (some ⟨w.heap.size+1+1,0,none⟩)],.int .i64 (x.1:Int),.int .i64 x.2,undef,undef,undef,undef,undef,undef,undef,undef,undef,undef,undef,undef,undef,undef,undef,undef],defers:=[] }) ?assign ?body ?done ?stop
 case assign=>
  intro l x W K hK;gi_wp2;exact hK
 case body=>
  rintro l pre x W ⟨hp,dz,⟨v,hv⟩,⟨u,hu⟩,hB⟩ hlen;have HP:=hide hp;have h2:w.heap.size+1+1<W.heap.size:=hu.lt;have HF:=hide (JS x.2);have HT:=hide (SM x.2);have qc:=hide (Sy (r:=x.2));clear hp
  by_cases h0:x.1=0
  ·have J1:((x.1:Int)==0)=true:=by simp[h0]
   cases hx:iC x.2 with
   | false=>
    rw[hx] at HF;have HX:=hide (show jL x.1 x.2=false by unfold jL;rw[if_pos h0,hx]);clear hx h0 HT qc
    gi_wp2_with (refine⟨trivial,?_⟩;gi_at_call 186;refine (CallsIn.inRound l (callsIn_wide.2 (HF.out _))).mono ?_;rintro e w1 ⟨rfl,hb⟩;have aX:=hv.kept (cK hb none) (by simp);have dG:=aX.cell;have ly:=aX.frozen)
    refine⟨fun _ h=>(by cases h),?_⟩;gi_wp2;exact⟨((mA hb).trans (KeepsOthers.setCell _ _ _)).from _,rfl,pre,x,rfl,HP.out,HX.out,aX.set _,(hB.trans (hb.mono hB.size)).setCell (p:=⟨w.heap.size+1,0,none⟩) (by simp) _⟩
   | true=>
    rw[hx] at HF;rw[qc.out hx] at HT;have HX:=hide (show jL x.1 x.2=true by unfold jL;rw[if_pos h0,hx]);clear hx h0 qc
    gi_wp2_with first
     | (refine⟨trivial,?_⟩;gi_at_call 186;refine (CallsIn.inRound l (callsIn_wide.2 (HF.out _))).mono ?_;rintro e w1 ⟨rfl,hb⟩;have hc0:=(dz.kept (cK hb none) (by simp)).cell)
     | (refine⟨trivial,?_⟩;gi_at_call 160;refine (CallsIn.inRound l (callsIn_wide.2 (HT.out _))).mono ?_;rintro e w2 ⟨rfl,af⟩)
    have hb:=hb.trans (af.mono hb.size);refine⟨(mA hb).from _,hb.block _ (by omega),fun p hp=>?_,dz.kept (cK hb none) (by simp),⟨v,hv.kept (cK hb none) (by simp)⟩,⟨u,hu.kept (cK hb none) (by simp)⟩,hB.trans (hb.mono hB.size)⟩
    rcases List.mem_append.1 hp with hp|hp
    ·exact HP.out p hp
    have:p=x:=by simpa using hp
    rw[this];exact HX.out
  have J1:((x.1:Int)==0)=false:=by rw[beq_eq_false_iff_ne];omega
  have hc0:=dz.cell;obtain⟨b,je⟩:∃b,j5 x.2=b:=⟨_,rfl⟩;rw[je] at HT;have HX:=hide (show jL x.1 x.2=b by unfold jL;rw[if_neg h0,je]);clear je h0 qc HF
  gi_wp2_with fail
  refine⟨trivial,?_⟩
  cases b with
  | false=>
   gi_wp2_with (refine⟨trivial,?_⟩;gi_at_call 160;refine (CallsIn.inRound l (callsIn_wide.2 (HT.out _))).mono ?_;rintro e w1 ⟨rfl,hb⟩;have aX:=hv.kept (cK hb none) (by simp);have dG:=aX.cell;have ly:=aX.frozen)
   exact⟨((mA hb).trans (KeepsOthers.setCell _ _ _)).from _,rfl,pre,x,rfl,HP.out,HX.out,aX.set _,(hB.trans (hb.mono hB.size)).setCell (p:=⟨w.heap.size+1,0,none⟩) (by simp) _⟩
  | true=>
   gi_wp2_with (refine⟨trivial,?_⟩;gi_at_call 160;refine (CallsIn.inRound l (callsIn_wide.2 (HT.out _))).mono ?_;rintro e w1 ⟨rfl,hb⟩)
   refine⟨(mA hb).from _,hb.block _ (by omega),fun p hp=>?_,dz.kept (cK hb none) (by simp),⟨v,hv.kept (cK hb none) (by simp)⟩,⟨u,hu.kept (cK hb none) (by simp)⟩,hB.trans (hb.mono hB.size)⟩
   rcases List.mem_append.1 hp with hp|hp
   ·exact HP.out p hp
   have:p=x:=by simpa using hp
   rw[this];exact HX.out
 case done=>
  rintro D ys W hD dS ⟨hp,dz,⟨v,hv⟩,⟨u,hu⟩,hB⟩ hK;have hc:=hv.cell;have hf:=hv.frozen
  have nH:=hide (show sI s.data.toList=s.size from by
   unfold sI;rw[Nx (ok:=jL) W5 (by rw[←dS];exact fun p h=>hp p h)];exact bL s)
  clear dS hp;gi_wp2;have cS:=hv.set (.int .i64 (s.size:Int));have fV:=(KeepsOthers.setCell W ⟨w.heap.size+1,0,none⟩ (.int .i64 (s.size:Int))).same D _ hK rfl;refine⟨by simp,.inl ⟨_,_,rfl,run_takeDeferred fV,?_⟩⟩;have bf:=cell_kept cS.cell (grownBy_putObj' _ D (.deferred none)) (fun r e=>by cases e;exact⟨_,fV,rfl⟩);refine⟨.int .i64 (s.size:Int),?_,?_⟩
  ·simp[results,Tryz.results159,go_sem,bf]
  exact⟨aO (int_eq (by rw[nH.out])),(hB.setCell (p:=⟨w.heap.size+1,0,none⟩) (by simp) _).trans (belowK_b (w:=w) (Nat.le_refl _) _ D _ _ (by simp at hD;omega) fV rfl rfl)⟩
 case stop=>
  rintro D c pre W hD ⟨rest,hsp⟩ ⟨rfl,il,x,rfl,hp,hx,hv,hB⟩ hK;have hc:=hv.cell;have hf:=hv.frozen
  have nH:=hide (show sI s.data.toList=x.1 from by
   unfold sI;rw[Nw (ok:=jL) W5 hsp (fun p h=>hp p h) hx]
   rfl)
  clear hsp hp hx;gi_wp2;refine⟨by simp,.inl ⟨_,_,rfl,run_takeDeferred hK,?_⟩⟩;have bf:=cell_kept hc (grownBy_putObj' _ D (.deferred none)) (fun r e=>by cases e;exact⟨_,hK,rfl⟩);refine⟨.int .i64 (x.1:Int),?_,?_⟩
  ·simp[results,Tryz.results159,go_sem,bf]
  exact⟨aO (int_eq (by rw[nH.out])),hB.trans (belowK_b (w:=w) (Nat.le_refl _) _ D _ _ (by simp at hD;omega) hK rfl rfl)⟩
theorem alx{ok:Nat→Int→Bool}{l:L}{k:Nat}(h:stop ok l=some k):k<l.length:=by
 unfold stop at h
 cases hf:(Utf.pieces l).find? fun p=>!ok p.1 p.2 with
 | none=>rw[hf] at h;cases h
 | some p=>
  rw[hf] at h;simp only[Option.map_some,Option.some.injEq] at h;have:=WY l p (List.mem_of_find?_eq_some hf);omega
theorem aiV(l:L):oC l=(!l.isEmpty&&decide (sI l=l.length)):=by
 unfold oC sI
 cases h:stop jL l with
 | none=>simp
 | some k=>
  have:=alx h;simp;intro _;omega
theorem acL(l:L)(w:World)(hg:Gm w)(hl:l.length≤1000000000) :
  Calls Tryz.prog 125 #[.string (aa l),.string ⟨#[58]⟩] w fun e w'=>e=.returned (.tuple #[.string (aa (Lib.cut l [58]).1),.string (aa (Lib.cut l [58]).2.1),.bool (Lib.cut l [58]).2.2])∧Below w.heap.size w w':=by
 obtain⟨m,hm⟩:=hg.most;refine (Tryz.strings_Cut (aa l) ⟨#[58]⟩ m w (by rw[aC];omega) hm).mono ?_;rintro e w' ⟨rfl,n,rfl⟩;exact⟨rfl,below_drewN (Below.refl _ _) n⟩
theorem RT(l q:L):(Lib.cut l q).1.length≤l.length∧(Lib.cut l q).2.1.length≤l.length:=by
 unfold Lib.cut;split
 ·simp only[List.length_take,List.length_drop];omega
 simp

theorem MH(l:L)(w:World)(hl:l.length≤1000000000) :
  Calls Tryz.prog 126 #[.string (aa l)] w fun e w'=>e=.returned (.bool (oC l))∧Below w.heap.size w w':=by
 have KJ:(aa l).toList.isEmpty=decide (l=[]):=by rw[ByteArray.toList_eq,aP];cases l<;>simp
 have HF:=hide (fun W=>aed (aa l) W (by rw[aC];exact hl));rw[aP] at HF
 by_cases h:l=[]
 ·rw[decide_eq_true h] at KJ;have Hr:=hide (show false=oC l by rw[h];rfl);clear h
  go_enter Tryz.func126,Tryz.ntmps126
  go_wp2;go_ret;exact⟨aO (ck Hr.out),Below.refl _ _⟩
 rw[decide_eq_false h] at KJ;obtain⟨n,hn⟩:∃n,sI l=n:=⟨_,rfl⟩;rw[hn] at HF;obtain⟨b,hb⟩:∃b,oC l=b:=⟨_,rfl⟩
 have hq:((n:Int)==((aa l).size:Int))=b:=by
  rw[←hb,aiV,hn,aC]
  cases l with
  | nil=>exact absurd rfl h
  | cons c r=>
   rw[Bool.eq_iff_iff,beq_iff_eq];simp;omega
 rw[hb];clear hn hb h
 go_enter Tryz.func126,Tryz.ntmps126
 go_wp2_with fail
 refine (HF.out _).mono ?_
 rintro e w1 ⟨rfl,b1⟩
 go_wp2;go_ret;exact⟨rfl,b1⟩
def rH(x:Option (L×L)):Value:=match x with
 | some (p,l)=>.tuple #[.string (aa p),.string (aa l),.bool true]
 | none=>.tuple #[.string ⟨#[]⟩,.string ⟨#[]⟩,.bool false]

theorem alc(l:L)(w:World)(hg:Gm w)(hl:l.length≤1000000000) :
  Calls Tryz.prog 90 #[.string (aa l)] w fun e w'=>e=.returned (rH (split l))∧Below w.heap.size w w':=by
 have HC:=hide (fun W (h:Gm W)=>acL l W h hl);have HG:=hide hg;have hcs:=RT l [58];obtain⟨x,hx⟩:∃x,split l=x:=⟨_,rfl⟩;rw[hx];unfold split at hx;obtain⟨⟨p,r,ok⟩,hc⟩:∃c,Lib.cut l [58]=c:=⟨_,rfl⟩;rw[hc] at HC hx hcs;dsimp only at HC hx hcs;have HP:=hide (fun W=>MH p W (by omega));have HR:=hide (fun W=>MH r W (by omega));have HL:=hide (fun W=>MH l W hl);clear hcs hc hg
 cases ok with
 | false=>
  cases hb:oC l with
  | false=>
   rw[hb] at HL hx;have Hr:=hide (show rH x=.tuple #[.string ⟨#[]⟩,.string ⟨#[]⟩,.bool false] by rw[←hx];rfl);clear hx hb
   go_enter Tryz.func90,Tryz.ntmps90
   go_wp2_with fail
   refine (HC.out _ HG.out).mono ?_
   rintro e w1 ⟨rfl,b1⟩
   go_wp2_with fail
   refine (HL.out _).mono ?_
   rintro e w2 ⟨rfl,b2⟩
   go_wp2;go_ret3;rw[Hr.out];exact⟨rfl,b1.trans (b2.mono b1.size)⟩
  | true=>
   rw[hb] at HL hx;have Hr:=hide (show rH x=.tuple #[.string ⟨#[]⟩,.string (aa l),.bool true] by rw[←hx];rfl);clear hx hb
   go_enter Tryz.func90,Tryz.ntmps90
   go_wp2_with fail
   refine (HC.out _ HG.out).mono ?_
   rintro e w1 ⟨rfl,b1⟩
   go_wp2_with fail
   refine (HL.out _).mono ?_
   rintro e w2 ⟨rfl,b2⟩
   go_wp2;go_ret3;rw[Hr.out];exact⟨rfl,b1.trans (b2.mono b1.size)⟩
 | true=>
  cases hb:oC p with
  | false=>
   rw[hb] at HP hx;have Hr:=hide (show rH x=.tuple #[.string ⟨#[]⟩,.string ⟨#[]⟩,.bool false] by rw[←hx];rfl);clear hx hb
   go_enter Tryz.func90,Tryz.ntmps90
   go_wp2_with fail
   refine (HC.out _ HG.out).mono ?_
   rintro e w1 ⟨rfl,b1⟩
   go_wp2_with fail
   refine (HP.out _).mono ?_
   rintro e w2 ⟨rfl,b2⟩
   go_wp2;go_ret3;rw[Hr.out];exact⟨rfl,b1.trans (b2.mono b1.size)⟩
  | true=>
   cases hd:oC r with
   | false=>
    rw[hb] at HP hx;rw[hd] at HR hx;have Hr:=hide (show rH x=.tuple #[.string ⟨#[]⟩,.string ⟨#[]⟩,.bool false] by rw[←hx];rfl);clear hx hb hd
    go_enter Tryz.func90,Tryz.ntmps90
    go_wp2_with fail
    refine (HC.out _ HG.out).mono ?_
    rintro e w1 ⟨rfl,b1⟩
    go_wp2_with fail
    refine (HP.out _).mono ?_
    rintro e w2 ⟨rfl,b2⟩
    go_wp2_with fail
    refine (HR.out _).mono ?_
    rintro e w3 ⟨rfl,b3⟩
    go_wp2;go_ret3;rw[Hr.out];exact⟨rfl,(b1.trans (b2.mono b1.size)).trans (b3.mono (b1.trans (b2.mono b1.size)).size)⟩
   | true=>
    rw[hb] at HP hx;rw[hd] at HR hx;have Hr:=hide (show rH x=.tuple #[.string (aa p),.string (aa r),.bool true] by rw[←hx];rfl);clear hx hb hd
    go_enter Tryz.func90,Tryz.ntmps90
    go_wp2_with fail
    refine (HC.out _ HG.out).mono ?_
    rintro e w1 ⟨rfl,b1⟩
    go_wp2_with fail
    refine (HP.out _).mono ?_
    rintro e w2 ⟨rfl,b2⟩
    go_wp2_with fail
    refine (HR.out _).mono ?_
    rintro e w3 ⟨rfl,b3⟩
    go_wp2;go_ret3;rw[Hr.out];exact⟨rfl,(b1.trans (b2.mono b1.size)).trans (b3.mono (b1.trans (b2.mono b1.size)).size)⟩
theorem XV(l:L)(w:World)(hg:Gl w)(hl:l.length≤1000000000) :
  Calls Tryz.prog 90 #[.string (aa l)] w fun e w'=>e=.returned (rH (split l))∧Below w.heap.size w w':=alc l w hg.m hl
end
section
open Go.RowKit

theorem ajg{α:Type}{F:Fence}{n:Nat}{P:Program}{g:Operand}{ps:Array Tmp}{assign body:Code}{Q:Exit→Act→World→Prop}{a:Act}{w:World}
  (hro:F.round=none) (h1:1≤n) {gf:Nat} {lb:Array Value} (hg:a.eval g=.func (.func gf) #[] lb) (J8:F.fn gf) (eg:∀args w,(callFunc gf args).run P w=.ok (.enter gf args) w)
  {nT:α→Array Value} {Kp:World→World→Prop} {S Sp:List α→Prop} {N:Nat} (LB:SeqStopsK F (n-1) P gf lb nT Kp S Sp N w)
  (xF:∀{A B C:World},Kp A B→Kp B C→Kp A C) (uS:∀(W:World) (l:Nat) (o o':Obj),w.heap.size≤l→W.heap[l]?=some o→o.isCells=false→o.isWalk=false→Kp W (W.putObj l o')) (hKa:∀W o,Kp W (W.alloc o))
  (cM:∀x,(nT x).size=ps.size) (I:List α→World→Prop) (Ix:Code→List α→World→Prop) (hI:OwnFrom w.heap.size I) (Aj:∀c,OwnFrom w.heap.size (Ix c)) (h0:I [] w) (obj:α→Obj) (a₁:α→Nat→Act)
  (Kw:∀(l:Nat) (x:α) (W:World) (K:Act→World→Prop),K (a₁ x W.heap.size) (W.alloc (obj x))→
   assign.wpIn (F.inRound l) (n-1-1) P (Exit.then K (fun _ _ _=>False)) { tmps:=(ps.zip (nT x)).foldl (fun t (p,v)=>t.setIfInBounds p v) a.tmps,defers:=[] } W)
  (KE:∀(l:Nat) (pre:List α) (x:α) (H:Nat) (W:World),I pre W→pre.length<N→w.heap.size+2≤H→W.heap[H]?=some (obj x)→W.heap.size=H+1→
   body.wpIn (F.inRound l) (n-1-1) P (ownPostG w.heap.size Kp I Ix (pre++[x]) W) (a₁ x H) W)
  (hdone:∀(D:Nat) (xs:List α) (W:World),w.heap.size≤D→S xs→I xs W→W.heap[D]?=some (.deferred (some []))→Q .normal { a with defers:={ target:=.collected D,args:=#[] } :: a.defers } W)
  (af0:∀(D:Nat) (c:Code) (pre:List α) (W:World),w.heap.size≤D→Sp pre→Ix c pre W→W.heap[D]?=some (.deferred (some []))→c.wpIn F n P Q { a with defers:={ target:=.collected D,args:=#[] } :: a.defers } W) :
  (Code.rangeFunc g ps assign body).wpIn F n P Q a w:=by
 refine wpIn_rangeFunc fun fn vt=>?_;rw[hro]
 let D:=w.heap.size
 let rr:LoopState→Option Code→Loop:=fun st pe=>{ state:=st,pending:=pe,fn,tmps:=a.tmps,params:=ps,assign,body,defers:=D }
 let W0:=(w.alloc (.deferred (some []))).alloc (.loop (rr .ready none))
 have hsz:W0.heap.size=D+2:=by show ((w.alloc _).alloc _).heap.size=_;simp[D]
 have qJ:W0.heap[D+1]?=some (.loop (rr .ready none)):=by
  have:=World.alloc_heap_new (w.alloc (.deferred (some []))) (.loop (rr .ready none));rwa[World.size_alloc] at this
 have n7:W0.heap[D]?=some (.deferred (some [])):=(Below.heap_alloc _ _ _ (by simp[D])).trans (World.alloc_heap_new w _);have uY:Below w.heap.size w W0:=((Below.refl _ w).alloc (Nat.le_refl _) _).alloc (by simp) _
 have UC:∀{A:World} {row:Option Nat},(∀r,row=some r→W0.heap.size≤r∧∃o:Obj,A.heap[r]?=some o∧o.isWalk=true)→∀r,row=some r→w.heap.size≤r∧∃o:Obj,A.heap[r]?=some o∧o.isCells=false :=
  fun hr r e=>by obtain⟨hB,o,ho,hw⟩:=hr r e;exact⟨by rw[hsz] at hB;show D≤r;omega,o,ho,Obj.not_cells_of_walk hw⟩
 have keep:∀{A B:World} {row:Option Nat} {k:Nat} {o:Obj},A.grownBy B row→(∀r,row=some r→W0.heap.size≤r∧∃o:Obj,A.heap[r]?=some o∧o.isWalk=true)→A.heap[k]?=some o→k<D+2→B.heap[k]?=some o :=
  fun hgr hr hk hlt=>(hgr.block _ (Array.getElem?_eq_some_iff.1 hk).1 (fun e=>by have:=(hr _ e.symm).1;omega)).trans hk
 refine⟨D+1,[{ target:=.collected D,args:=#[] }],W0,{ target:=.fn (.func gf) lb,args:=#[.func (.yield (D+1)) #[] #[]] },W0,gf,#[.func (.yield (D+1)) #[] #[]]++lb,W0,
  run_enterLoop_outer _ _ _ _ _,by simp only[resolve,hg];simp[go_sem],fun f' vq=>by simp[Target.leads] at vq;subst vq;exact J8,by simp[invoke,go_sem,eg],fun _=>h1,?_⟩
 refine (LB (D+1) (fun pre W=>I pre W∧W.heap[D+1]?=some (.loop (rr .ready none))∧W.heap[D]?=some (.deferred (some [])))
  (fun pre W=>∃c,Ix c pre W∧W.heap[D+1]?=some (.loop (rr .done (some c)))∧W.heap[D]?=some (.deferred (some []))) W0 uY ?_ ?_ ?_ ⟨hI.alloc _ (hI.alloc _ h0),qJ,n7⟩).mono ?_
 ·rintro s A B row ⟨hi,hl,hd⟩ hgr hr;exact⟨hI s A B row hi hgr (UC hr),keep hgr hr hl (by omega),keep hgr hr hd (by omega)⟩
 ·rintro s A B row ⟨c,hi,hl,hd⟩ hgr hr;exact⟨c,Aj c s A B row hi hgr (UC hr),keep hgr hr hl (by omega),keep hgr hr hd (by omega)⟩
 ·rintro pre x W ⟨hi,hl,hd⟩ hlen;have hlt:D+1<W.heap.size:=(Array.getElem?_eq_some_iff.1 hl).1;have hy:=run_yield (P:=P) (args:=nT x) hl (cM x);have dB:(W.alloc (obj x)).heap[D+1]?=some (.loop (rr .ready none)):=(Below.heap_alloc _ _ _ hlt).trans hl;have hda:(W.alloc (obj x)).heap[D]?=some (.deferred (some [])):=(Below.heap_alloc _ _ _ (by omega)).trans hd;have aft:D+1<(W.alloc (obj x)).heap.size:=by simp;omega
  refine⟨fn,_,assign,body,hy,roundIn_of_wpIn vt (Kw _ x W _ ⟨_,run_beginRound dB rfl,?_⟩)⟩;have mY:((W.alloc (obj x)).putObj (D+1) (.loop (rr .busy none))).heap[D+1]?=some (.loop (rr .busy none)):=World.putObj_heap_same aft;have bg:((W.alloc (obj x)).putObj (D+1) (.loop (rr .busy none))).heap[D]?=some (.deferred (some [])):=(World.putObj_heap_other (by omega)).trans hda;have vL:((W.alloc (obj x)).putObj (D+1) (.loop (rr .busy none))).heap[W.heap.size]?=some (obj x):=(World.putObj_heap_other (by omega)).trans (World.alloc_heap_new W _);have hia:I pre ((W.alloc (obj x)).putObj (D+1) (.loop (rr .busy none))):=hI.putObj _ (hI.alloc _ hi) (Nat.le_succ D) dB rfl;refine wpIn_mono (KE _ pre x W.heap.size _ hia hlen (by show D+2≤_;omega) vL (by simp)) ?_;rintro e a3 W3 hp
  cases e with
  | normal=>
   obtain⟨aH,jF,pz⟩:=hp;have eQ:=aH.same _ _ (Nat.le_succ D) mY rfl;have gD:=aH.same _ _ (Nat.le_refl _) bg rfl;have pC:=(Array.getElem?_eq_some_iff.1 eQ).1;have he:=run_endRound (P:=P) none eQ;exact⟨_,_,he,.inl ⟨rfl,⟨hI.putObj _ pz (Nat.le_succ D) eQ rfl,World.putObj_heap_same pC,(World.putObj_heap_other (by omega)).trans gD⟩,xF (xF (xF (hKa W (obj x)) (uS _ _ _ _ (Nat.le_succ D) dB rfl rfl)) jF) (uS _ _ _ _ (Nat.le_succ D) eQ rfl rfl)⟩⟩
  | ret=>
   obtain⟨aH,pz⟩:=hp;have eQ:=aH.same _ _ (Nat.le_succ D) mY rfl;have gD:=aH.same _ _ (Nat.le_refl _) bg rfl;have pC:=(Array.getElem?_eq_some_iff.1 eQ).1;have he:=run_endRound (P:=P) (some .ret) eQ;exact⟨_,_,he,.inr ⟨rfl,.ret,(Aj _).putObj _ pz (Nat.le_succ D) eQ rfl,World.putObj_heap_same pC,(World.putObj_heap_other (by omega)).trans gD⟩⟩
  | exit id=>
   obtain⟨aH,pz⟩:=hp;have eQ:=aH.same _ _ (Nat.le_succ D) mY rfl;have gD:=aH.same _ _ (Nat.le_refl _) bg rfl;have pC:=(Array.getElem?_eq_some_iff.1 eQ).1;have he:=run_endRound (P:=P) (some (.exit id)) eQ;exact⟨_,_,he,.inr ⟨rfl,.exit id,(Aj _).putObj _ pz (Nat.le_succ D) eQ rfl,World.putObj_heap_same pC,(World.putObj_heap_other (by omega)).trans gD⟩⟩
  | goto t=>
   obtain⟨aH,pz⟩:=hp;have eQ:=aH.same _ _ (Nat.le_succ D) mY rfl;have gD:=aH.same _ _ (Nat.le_refl _) bg rfl;have pC:=(Array.getElem?_eq_some_iff.1 eQ).1;have he:=run_endRound (P:=P) (some (.goto t)) eQ;exact⟨_,_,he,.inr ⟨rfl,.goto t,(Aj _).putObj _ pz (Nat.le_succ D) eQ rfl,World.putObj_heap_same pC,(World.putObj_heap_other (by omega)).trans gD⟩⟩
  | panic ch=>exact hp.elim
  | outgrown=>exact hp.elim
 rintro e W2 ⟨⟨v,rfl⟩,⟨xs,hS,hi,hl,hd⟩|⟨pre,hSp,c,hi,hl,hd⟩⟩
 ·have hlt:=(Array.getElem?_eq_some_iff.1 hl).1;exact⟨none,_,run_endLoop (P:=P) hl (by simp[rr]),hdone D xs _ (Nat.le_refl _) hS (hI.putObj _ hi (Nat.le_succ D) hl rfl) ((World.putObj_heap_other (by omega)).trans hd)⟩
 have hlt:=(Array.getElem?_eq_some_iff.1 hl).1;exact⟨some c,_,run_endLoop (P:=P) hl (by simp[rr]),af0 D c pre _ (Nat.le_refl _) hSp ((Aj c).putObj _ hi (Nat.le_succ D) hl rfl) ((World.putObj_heap_other (by omega)).trans hd)⟩
end
section
open Go.RowKit

theorem Vm:(Tryz.prog.info? 60).map (·.size)=some 2:=by kernel_rfl
theorem ag0:liesAt Tryz.prog Tryz.prog.depth 60 (2 / Tryz.prog.cellsOf 60) 0 60 1=true:=by kernel_rfl
theorem Fl:(Tryz.prog.info? 5).map (fun i=>(i.zero,i.size,i.bytes))=some (some (.int .u8 0),1,1):=by kernel_rfl
theorem Ry(b:Nat)(w:World)(h0:w.cell? ⟨b,0,none⟩=some (.pointer (some ⟨b,0,none⟩))) :
  Calls Tryz.prog 48 #[.pointer (some ⟨b,0,none⟩)] w fun e w'=>e=.returned (.tuple #[])∧w'=w:=by
 obtain⟨j,hj,_⟩:=Option.map_eq_some_iff.1 Vm
 go_enter Tryz.func48,Tryz.ntmps48
 go_wp2;rw[Lib.run_neq_ptr_same w _ Tryz.underlying57 hj];go_wp2;go_end0;exact⟨rfl,rfl⟩
theorem Rx(b:Nat)(w:World)(h0:w.cell? ⟨b,0,none⟩=some (.pointer none))(vH:w.shape? b=some (60,2))(EB:w.frozen? ⟨b,0,none⟩=false) :
  Calls Tryz.prog 48 #[.pointer (some ⟨b,0,none⟩)] w fun e w'=>e=.returned (.tuple #[])∧w'=w.setCell ⟨b,0,none⟩ (.pointer (some ⟨b,0,none⟩)):=by
 obtain⟨j,hj,EF⟩:=Option.map_eq_some_iff.1 Vm
 go_enter Tryz.func48,Tryz.ntmps48
 go_wp2;rw[Lib.run_to_unsafe w ⟨b,0,none⟩ Tryz.underlying57 Tryz.underlying130 hj (by rw[EF];decide) vH (Nat.zero_lt_succ 1)];simp only[Result.andThen];rw[Oper.upon_value];go_wp2;rw[run_callFunc_extern Tryz.func80 (by kernel_rfl) (by kernel_rfl) (by kernel_rfl) (e:=Extern.AbiNoEscape.same) (by kernel_rfl)];rw[Lib.run_noEscape];simp only[Result.andThen];rw[Oper.upon_value];go_wp2;rw[Lib.run_from_unsafe w ⟨b,0,none⟩ Tryz.underlying130 Tryz.underlying57 hj vH ag0];simp only[Result.andThen];rw[Oper.upon_value];go_wp2;go_end0;exact⟨rfl,rfl⟩
structure bK(B b:Nat)(w w':World):Prop where
 os:w'.os=w.os
 tape:w'.tape=w.tape
 output:w'.output=w.output
 size:w.heap.size≤w'.heap.size
 block:∀k,k<w.heap.size→k≠b→(k<B∨¬bO w k 5)→w'.heap[k]?=w.heap[k]?
theorem bK.refl(B b:Nat)(w:World):bK B b w w:=⟨rfl,rfl,rfl,Nat.le_refl _,fun _ _ _ _=>rfl⟩
theorem bK.trans{B b:Nat}{w w1 w':World}(h:bK B b w w1)(k:bK B b w1 w'):bK B b w w' :=
 ⟨k.os.trans h.os,k.tape.trans h.tape,k.output.trans h.output,Nat.le_trans h.size k.size,fun i hi hb ht=>by
  have e1:=h.block i hi hb ht;refine (k.block i (Nat.lt_of_lt_of_le hi h.size) hb (ht.imp id fun hn hT=>hn ?_)).trans e1;obtain⟨cs,fr,hh⟩:=hT;exact⟨cs,fr,e1.symm.trans hh⟩⟩
theorem bK.below{B b:Nat}{w w':World}(h:bK B b w w')(hb:B≤b)(hs:B≤w.heap.size):Below B w w':=⟨h.os,h.tape,h.output,h.size,fun k hk=>h.block k (by omega) (by omega) (.inl hk)⟩
theorem bK.blk{B b g t:Nat}{cs:Array Value}{w w':World}(h:bK B b w w')(hg:ae w g t cs)(hb:g≠b)(ht:t≠5):ae w' g t cs :=
 (h.block g hg.lt hb (.inr fun⟨cs',fr,hh⟩=>by
  have:=(show w.heap[g]?=some (.cells cs t (0,0)) from hg).symm.trans hh;injection this with this
  injection this with _ h3
  exact ht h3)).trans hg
theorem bK.bX{B b:Nat}{w w':World}(h:Below w.heap.size w w'):bK B b w w':=⟨h.os,h.tape,h.output,h.size,fun k hk _ _=>h.block k hk⟩
theorem bK.setCell{B b:Nat}{w w1:World}(h:bK B b w w1)(i:Nat)(u:Value):bK B b w (w1.setCell ⟨b,i,none⟩ u) :=
 ⟨h.os,h.tape,h.output,by simpa[World.setCell] using h.size,fun k hk hb ht=>by
  rw[Below.heap_setCell _ _ _ _ (by exact hb)];exact h.block k hk hb ht⟩
theorem bK.alloc{B b:Nat}{w w1:World}(h:bK B b w w1)(o:Obj):bK B b w (w1.alloc o):=h.trans (bK.bX (az w1 o))
theorem bK.grown{B b:Nat}{w w1 w2:World}{row:Option Nat}(h:bK B b w w1)(hg:w1.grownBy w2 row)(hr:∀k,row=some k→B≤k∧bO w1 k 5):bK B b w w2 :=
 h.trans ⟨hg.os,hg.tape,hg.output,hg.size,fun k hk _ ht=>hg.block k hk fun e=>by
  obtain⟨h1,h2⟩:=hr k e.symm
  rcases ht with ht|ht
  ·omega
  exact ht h2⟩
theorem Ru(B b:Nat)(bs:List Value)(w:World)(h:Lib.IsBuilder 60 5 B b bs w) :
  Calls Tryz.prog 48 #[.pointer (some ⟨b,0,none⟩)] w fun e w'=>e=.returned (.tuple #[])∧(Lib.BuilderAt 60 5 B b (.pointer (some ⟨b,0,none⟩)) bs w'∧bK B b w w'):=by
 rcases h with h|h
 ·refine (Rx b w h.cell0 h.shape h.frozen0).mono ?_;rintro e w' ⟨rfl,rfl⟩;exact⟨rfl,h.used _,(bK.refl B b w).setCell 0 _⟩
 refine (Ry b w h.cell0).mono ?_;rintro e w' ⟨rfl,rfl⟩;exact⟨rfl,h,bK.refl B b _⟩
theorem neB5:60≠5:=by decide
theorem YV(B b:Nat)(bs:List Value)(s:ByteArray)(w:World)(h:Lib.IsBuilder 60 5 B b bs w)(hlen:bs.length+s.size≤140737488355328)(gU:B≤w.heap.size) :
  Calls Tryz.prog 25 #[.pointer (some ⟨b,0,none⟩),.string s] w fun e w'=>e=.returned (.tuple #[.int .i64 s.size,.nilIface])∧(Lib.IsBuilder 60 5 B b (bs++Lib.strCells s) w'∧bK B b w w'):=by
 obtain⟨i0,hi,hz0,hz1,hz2⟩:=info_parts Fl
 go_enter Tryz.func25,Tryz.ntmps25
 go_wp2_with fail
 refine (Ru B b bs _ h).mono ?_;rintro e w1 ⟨rfl,h1,aq⟩;obtain⟨hB,v,b9,hown,hne⟩:=h1;have c0:w1.cell? ⟨b,0,none⟩=some (.pointer (some ⟨b,0,none⟩)):=by rw[Lib.cell_of_heap b9];rfl
 have c1:w1.cell? ⟨b,1,none⟩=some v:=by rw[Lib.cell_of_heap b9];rfl
 go_wp2_with (at_builtin;refine Lib.wpList_append_own_string _ rfl _ _ 58 9 rfl B 5 i0 Tryz.underlying58 Tryz.underlying9 hi hz0 hz1 hz2 _ _ _ rfl hown s rfl ?c3 ?c4 ?c5 ?_)
 case c3=>unfold maxLen;omega
 case c4=>omega
 case c5=>have:=aq.size;omega
 intro v' w2 hown' hgrow _
 have hlt:b<w1.heap.size:=by
  rcases Nat.lt_or_ge b w1.heap.size with h' | h'
  ·exact h'
  simp[Array.getElem?_eq_none h'] at b9
 have af:w2.heap[b]?=some (.cells #[.pointer (some ⟨b,0,none⟩),v] 60 (0,0)):=by
  rw[hgrow.block b hlt (fun e=>hne e.symm)];exact b9
 have d0:w2.cell? ⟨b,0,none⟩=some (.pointer (some ⟨b,0,none⟩)):=by rw[Lib.cell_of_heap af];rfl
 have d1:w2.cell? ⟨b,1,none⟩=some v:=by rw[Lib.cell_of_heap af];rfl
 have f1:w2.frozen? ⟨b,1,none⟩=false:=Lib.frozen_of_heap af 1
 obtain⟨ao,n',cap,rfl⟩:∃ao n' cap,v'=.slice ao n' cap:=by
  rcases hown'.2 with ⟨hv,_⟩|⟨g,cap,cur,hv,_⟩
  ·exact⟨_,_,_,hv⟩
  exact⟨_,_,_,hv⟩
 go_wp2;go_ret2;refine⟨rfl,.inr ?_,?_⟩
 ·exact Lib.BuilderAt.put (T:=60) (e:=5) hB af (bs':=bs++Lib.strCells s) (by simpa[Lib.strCells_length] using hown') neB5
 exact (aq.grown hgrow (fun k hk=>⟨(hown.lt k hk).1,(aG hown k hk).2⟩)).setCell 1 _
end
section
open Go

section
variable {F:Fence} {n:Nat} {P:Program} {l:List Oper} {Q:Exit→Act→World→Prop} {md:Region.Mode}
theorem mr{i:Nat}{oi:Oper}{fuel:Nat}{listed:Array Bool}{a:Act}{w:World}{rs:List Nat}(hi:l[i]?=some oi)(hw:Region.wanted oi (yielded l.toArray a.tmps)=true)
  (h:∀K':Act→World→Prop,(∀a w,wpAnyIn F n P md l.toArray Q fuel (listed.setIfInBounds i true) a w→K' a w)→Oper.wpIn F n P oi a w K' Q)
  (hs:AllReadyIn F n P md l.toArray Q fuel listed a w rs):AllReadyIn F n P md l.toArray Q fuel listed a w (i :: rs) :=
 AllReadyIn.cons (o:=oi) (by simpa using hi) (fun K hK=>by rw[if_pos hw];exact h K hK) hs
theorem iI{i:Nat}{oi:Oper}{fuel:Nat}{listed:Array Bool}{a:Act}{w:World}(hi:l[i]?=some oi)(hr:Region.ready md l.toArray listed=[i])(hw:Region.wanted oi (yielded l.toArray a.tmps)=true)
  (h:∀K':Act→World→Prop,(∀a w,wpAnyIn F n P md l.toArray Q fuel (listed.setIfInBounds i true) a w→K' a w)→Oper.wpIn F n P oi a w K' Q):wpAnyIn F n P md l.toArray Q (fuel+1) listed a w :=
 wpAnyIn_ready hr (by simp) (mr hi hw h AllReadyIn.nil)
end
end
end Go.Proofs.YtnbmfljhbpfilaaGreatDoor
