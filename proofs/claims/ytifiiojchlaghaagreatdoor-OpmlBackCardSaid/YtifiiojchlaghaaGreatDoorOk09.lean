/- Strict in plain data: names, values, a start's attributes, a parse on its way; no program in sight. And more. -/
import Derived.Test.YtifiiojchlaghaaGreatDoorOk01
import Derived.Test.YtifiiojchlaghaaGreatDoorOk03
import Derived.Test.YtifiiojchlaghaaGreatDoorOk04
import Derived.Test.YtifiiojchlaghaaGreatDoorOk07
import Derived.Test.YtifiiojchlaghaaGreatDoorOk08
import Derived.Test.YtifiiojchlaghaaGreatDoorShelf
import Derived.RangeFuncNested
import Derived.Lib.Builder
import Derived.Laws.Externs
import Derived.OrdersIn
set_option linter.unusedSimpArgs false
set_option maxRecDepth 100000
set_option maxHeartbeats 4000000
set_option linter.unusedVariables false
namespace Go.Proofs.YtifiiojchlaghaaGreatDoor
section
open Go Tk Sx
namespace Sx
def plainAt(k:Nat)(r:Int):Bool:=if k=0 then firstOk r else furtherOk r
def plainOk(l:L):Bool:=!l.isEmpty&&(stop plainAt l).isNone
def split(l:L):Option (L×L) :=
 if (Lib.cut l [58]).2.2 then if plainOk (Lib.cut l [58]).1&&plainOk (Lib.cut l [58]).2.1 then some ((Lib.cut l [58]).1,(Lib.cut l [58]).2.1) else none
 else if plainOk l then some ([],l) else none
def norm(c:UInt8):UInt8:=if c=9∨c=10∨c=13 then 32 else c
def less:L→Option Nat
 | []=>none
 | c :: r=>if c=60 then some 0 else (less r).map (· + 1)
def value(l:L):Except Nat L :=
 match less l with
 | some k=>match sref k 0 ((l.take k).map norm) with
  | .error a=>.error a
  | .ok _=>.error k
 | none=>sref l.length 0 (l.map norm)
structure Nm where
 ns:L
 loc:L
 deriving DecidableEq
structure Att where
 name:Nm
 val:L
 deriving DecidableEq
structure Ev where
 kind:Nat
 name:Nm
 attrs:List Att
 text:L
 deriving DecidableEq
structure El where
 written:L
 name:Nm
 scope:Nat
structure St where
 open_:List El
 scope:List Dcl
 evs:List Ev
 rooted:Bool
structure Spl where
 pre:L
 loc:L
 val:L
 at_:Nat
def noNm:Nm:=⟨[],[]⟩
abbrev Bad:=Option (Nat×Nat)
def orB(b:Bad)(at_ e:Nat):Bad:=match b with
 | some x=>some x
 | none=>some (at_,e)
def pXmlns:L:=[120,109,108,110,115]
def splOf(a:At):Spl:=match split a.name with
 | some (p,l)=>⟨p,l,[],a.at_⟩
 | none=>⟨[],[],[],a.at_⟩
def namesAt:List L→List At→Option Nat
 | _,[]=>none
 | seen,a :: r=>if (split a.name).isNone=true∨a.name∈seen then some a.at_ else namesAt (seen++[a.name]) r
def names(t:Tok):Option Nat:=if (split t.name).isNone then some t.at_ else namesAt [] t.attrs
def valOf(a:At):L:=match value a.value with
 | .ok v=>v
 | .error _=>[]
def valued(a:At):Spl:=⟨(splOf a).pre,(splOf a).loc,valOf a,a.at_⟩
def valsAt:List At→Option Nat
 | []=>none
 | a :: r=>match value a.value with
  | .ok _=>valsAt r
  | .error _=>some a.at_
def declares(s:Spl):L×Bool:=if s.pre=pXmlns then (s.loc,true) else ([],decide (s.pre=[]∧s.loc=pXmlns))
def mayD(p u:L):Bool:=decide (p≠pXmlns)&&decide (u≠xmlnsNs)&&(decide (p=pXml)==decide (u=xmlNs))&&(decide (p=[])||decide (u≠[]))
def declared:List Dcl→List Spl→List Dcl
 | sc,[]=>sc
 | sc,s :: r=>if (declares s).2 then declared (sc++[⟨(declares s).1,s.val⟩]) r else declared sc r
def declAt:List Spl→Option Nat
 | []=>none
 | s :: r=>if (declares s).2 && !mayD (declares s).1 s.val then some s.at_ else declAt r
def attSp(sc:List Dcl)(s:Spl):L×Bool:=if s.pre=[] then ([],true) else spaceOf sc s.pre
def attNm(sc:List Dcl)(s:Spl):Nm:=⟨(attSp sc s).1,s.loc⟩
def attrsOf(sc:List Dcl):List Spl→List Att
 | []=>[]
 | s :: r=>if (declares s).2 then attrsOf sc r else ⟨attNm sc s,s.val⟩ :: attrsOf sc r
def attrsAt(sc:List Dcl):List Nm→List Spl→Option Nat
 | _,[]=>none
 | seen,s :: r=>if (declares s).2 then attrsAt sc seen r else if (attSp sc s).2=false∨attNm sc s∈seen then some s.at_ else attrsAt sc (seen++[attNm sc s]) r
def putEv(l:List Ev)(x:Ev):List Ev:=if x.kind≠2 then l++[x] else match l.getLast? with
 | some y=>if y.kind=2 then l.dropLast++[⟨2,y.name,y.attrs,y.text++x.text⟩] else if x.text=[] then l else l++[x]
 | none=>if x.text=[] then l else l++[x]
def textEv(t:L):Ev:=⟨2,noNm,[],t⟩
def closeSt(st:St):St:=match st.open_.getLast? with
 | none=>st
 | some x=>⟨st.open_.dropLast,st.scope.take x.scope,putEv st.evs ⟨1,x.name,[],[]⟩,st.rooted⟩
def preOf(t:Tok):L:=((split t.name).getD ([],[])).1
def locOf(t:Tok):L:=((split t.name).getD ([],[])).2
def early(st:St)(t:Tok):Bad:=match names t with
 | some a=>some (a,50)
 | none=>if st.rooted&&st.open_.isEmpty then some (t.at_,50) else if 16<t.attrs.length then some (t.at_,42) else if st.open_.length=16 then some (t.at_,41) else none
def splits(t:Tok):List Spl:=t.attrs.map valued
def scope'(st:St)(t:Tok):List Dcl:=declared st.scope (splits t)
def late(st:St)(t:Tok):Option Nat:=match valsAt t.attrs with
 | some a=>some a
 | none=>match declAt (splits t) with
  | some a=>some a
  | none=>if (spaceOf (scope' st t) (preOf t)).2=false∨preOf t=pXmlns then some t.at_ else attrsAt (scope' st t) [] (splits t)
def started(st:St)(t:Tok):St :=
 ⟨st.open_++[⟨t.name,⟨(spaceOf (scope' st t) (preOf t)).1,locOf t⟩,st.scope.length⟩],scope' st t,
  putEv st.evs ⟨0,⟨(spaceOf (scope' st t) (preOf t)).1,locOf t⟩,attrsOf (scope' st t) (splits t),[]⟩,true⟩
def start(st:St)(t:Tok):Except (Nat×Nat) St:=match early st t with
 | some b=>.error b
 | none=>match late st t with
  | some a=>.error (a,50)
  | none=>.ok (if t.empty then closeSt (started st t) else started st t)
def end_(st:St)(t:Tok):Except (Nat×Nat) St:=match st.open_.getLast? with
 | none=>.error (t.at_,50)
 | some x=>if x.written=t.name then .ok (closeSt st) else .error (t.at_,50)
def putSt(st:St)(t:L):St:=⟨st.open_,st.scope,putEv st.evs (textEv t),st.rooted⟩
def text(st:St)(t:Tok):Except (Nat×Nat) St:=if st.open_=[] then if t.text.all sp then .ok st else .error (t.at_,50) else match sref t.text.length 0 t.text with
 | .ok s=>.ok (putSt st s)
 | .error _=>.error (t.at_,50)
def data(st:St)(t:Tok):Except (Nat×Nat) St:=if st.open_=[] then .error (t.at_,50) else .ok (putSt st t.text)
def step(st:St)(t:Tok):Except (Nat×Nat) St :=
 if t.kind=0 then start st t else if t.kind=1 then end_ st t else if t.kind=2 then text st t else if t.kind=3 then data st t else .ok st
def run:St→List Tok→Except (Nat×Nat) St
 | st,[]=>.ok st
 | st,t :: r=>match step st t with
  | .error x=>.error x
  | .ok st'=>run st' r
def st0:St:=⟨[],[],[],false⟩
def tokEnd(ts:List Tok):Nat:=(ts.getLast?.map (·.end_)).getD 0
def parse(s:L):Except (Nat×Nat) (List Ev) :=
 if 0≤bad s then .error ((bad s).toNat,50)
 else if tokEnd (toks s.length 0 s)≠s.length then .error (tokEnd (toks s.length 0 s),50)
 else match run st0 (toks s.length 0 s) with
  | .error x=>.error x
  | .ok st=>if st.open_=[]∧st.rooted=true then .ok st.evs else .error (s.length,50)
end Sx
end
section
open Tk Sx
def opnS(o:List Nm)(e:Ev):List Nm:=if e.kind=0 then o++[e.name] else if e.kind=1 then o.dropLast else o
def opn:List Nm→List Ev→List Nm
 | o,[]=>o
 | o,e :: r=>opn (opnS o e) r
theorem opn_app:∀(l:List Ev) (o:List Nm) (r:List Ev),opn o (l++r)=opn (opn o l) r
 | [],_,_=>rfl
 | e :: l,o,r=>opn_app l (opnS o e) r
theorem opn_snoc(l:List Ev)(o:List Nm)(e:Ev):opn o (l++[e])=opnS (opn o l) e:=opn_app l o [e]
def GoodE(o:List Nm)(k:Nat)(prev:Option Ev)(e:Ev):Prop :=
 (e.kind=0∧(o=[]→k=0)∧o.length<16∧e.attrs.length≤16∧e.name.loc≠[])∨(e.kind=1∧o.getLast?=some e.name)∨(e.kind=2∧o≠[]∧e.text≠[]∧fine e.text=true∧∃p,prev=some p∧p.kind≠2)
def Bal(evs:List Ev):Prop:=∀k e,evs[k]?=some e→GoodE (opn [] (evs.take k)) k (evs[k-1]?) e
namespace Evs
def Fld(e:Ev):Prop :=
 (e.kind=0∧e.name.loc≠[]∧e.text=[]∧(e.attrs.map (·.name)).Nodup∧∀a∈e.attrs,a.name.loc≠[])∨(e.kind=1∧e.name.loc≠[]∧e.attrs=[]∧e.text=[])∨(e.kind=2∧e.name=noNm∧e.attrs=[]∧e.text≠[])
structure Whl(l:List Ev):Prop where
 fld:∀e∈l,Fld e
 bal:Bal l
 shut:opn [] l=[]
 ne:l≠[]
def stp(s:List Nat×List (Nat×Nat))(i:Nat)(e:Ev):List Nat×List (Nat×Nat) :=
 if e.kind=0 then (s.1++[i],s.2) else if e.kind=1 then (s.1.dropLast,(s.1.getLastD 0,i) :: s.2) else s
def upto(l:List Ev):Nat→List Nat×List (Nat×Nat)
 | 0=>([],[])
 | i+1=>match l[i]? with
  | some e=>stp (upto l i) i e
  | none=>upto l i
theorem upto_next{l:List Ev}{i:Nat}{e:Ev}(h:l[i]?=some e):upto l (i+1)=stp (upto l i) i e:=by
 rw[upto,h]
def lookE(p:Nat):List (Nat×Nat)→Option Nat
 | []=>none
 | x :: m=>if x.1=p then some x.2 else lookE p m
def nmAt(l:List Ev)(p:Nat):Nm:=((l[p]?).map (·.name)).getD noNm
theorem upto_opn(l:List Ev):∀i,i≤l.length→(upto l i).1.map (nmAt l)=opn [] (l.take i)
 | 0,_=>rfl
 | i+1,h=>by
  have ih:=upto_opn l i (by omega);obtain⟨e,he⟩:∃e,l[i]?=some e:=⟨_,List.getElem?_eq_getElem (by omega)⟩;rw[upto_next he,List.take_add_one,he];show _=opn [] (l.take i++[e]);rw[opn_snoc,←ih];unfold stp opnS
  by_cases h0:e.kind=0
  ·rw[if_pos h0,if_pos h0,List.map_append];simp[nmAt,he]
  rw[if_neg h0,if_neg h0]
  by_cases h1:e.kind=1
  ·rw[if_pos h1,if_pos h1];simp[List.map_dropLast]
  rw[if_neg h1,if_neg h1]
theorem upto_lt(l:List Ev):∀i,∀p∈(upto l i).1,p<i
 | 0,p,h=>by simp[upto] at h
 | i+1,p,h=>by
  have ih:=upto_lt l i;rw[upto] at h
  cases he:l[i]? with
  | none=>
   rw[he] at h;have:=ih p h;omega
  | some e=>
   rw[he] at h;dsimp only at h;unfold stp at h
   split at h
   ·rcases List.mem_append.1 h with h|h
    ·have:=ih p h;omega
    rw[List.mem_singleton] at h;omega
   split at h
   ·have:=ih p (List.dropLast_subset _ h);omega
   have:=ih p h;omega
def endsOf(l:List Ev):List (Nat×Nat):=(upto l l.length).2
theorem whl_at{l:List Ev}(h:Whl l){i:Nat}{e:Ev}(he:l[i]?=some e) :
  Fld e∧((e.kind=0∧((upto l i).1=[]→i=0))∨(e.kind=1∧∃o p,(upto l i).1=o++[p]∧p<i∧nmAt l p=e.name)∨(e.kind=2∧(upto l i).1≠[]∧∃q,0<i∧l[i-1]?=some q∧q.kind≠2)):=by
 have hi:i<l.length:=(List.getElem?_eq_some_iff.1 he).1;have ho:=upto_opn l i (by omega);refine⟨h.fld e (List.mem_of_getElem? he),?_⟩
 rcases h.bal i e he with ⟨h0,h1,-,-,-⟩|⟨h0,h1⟩|⟨h0,h1,-,-,q,h2,h3⟩
 ·refine .inl ⟨h0,fun hn=>h1 ?_⟩;rw[←ho,hn];rfl
 ·refine .inr (.inl ⟨h0,?_⟩);rw[←ho,List.getLast?_map] at h1;obtain⟨p,hp,e1⟩:=Option.map_eq_some_iff.1 h1;obtain⟨o,ho2⟩:=List.getLast?_eq_some_iff.1 hp;exact⟨o,p,ho2,upto_lt l i p (by rw[ho2];simp),e1⟩
 refine .inr (.inr ⟨h0,fun hn=>h1 (by rw[←ho,hn];rfl),q,?_,h2,h3⟩)
 rcases Nat.eq_zero_or_pos i with hz|hz
 ·subst hz;exact absurd rfl h1
 exact hz
end Evs
end
section
open Go.RowKit Go.Shelf Tk Sx

attribute [local go_sem] Oper.semAt_some

def FrontI2(w:World)(pre:List (Nat×Int))(W:World):Prop :=
 (∀p∈pre,plainAt p.1 p.2=true)∧Boxed W w.heap.size 94 (.func (.func 166) #[] #[])∧(∃v,Boxed W (w.heap.size+1) 3 v)∧(∃u,Boxed W (w.heap.size+1+1) 9 u)∧Below w.heap.size w W
def FrontX2(w:World)(c:Code)(pre:List (Nat×Int))(W:World):Prop :=
 c=.ret∧∃pre0 x,pre=pre0++[x]∧(∀p∈pre0,plainAt p.1 p.2=true)∧plainAt x.1 x.2=false∧Boxed W (w.heap.size+1) 3 (.int .i64 (x.1:Int))∧Below w.heap.size w W
theorem FrontI2_own(w:World):OwnFrom (w.heap.size+1+1+1) (FrontI2 w):=by
 rintro s X Y row ⟨h1,hb,⟨v,hv⟩,⟨u,hu⟩,h3⟩ hg hrow;exact⟨h1,hb.kept hg (box_row hrow hb),⟨v,hv.kept hg (box_row hrow hv)⟩,⟨u,hu.kept hg (box_row hrow hu)⟩,h3.grown hg h3.size (fun k e=>by have:=(hrow k e).1;omega)⟩
theorem FrontX2_own(w:World)(c:Code):OwnFrom (w.heap.size+1+1+1) (FrontX2 w c):=by
 rintro s X Y row ⟨h1,p,x,h2,h4,h5,hv,h3⟩ hg hrow;exact⟨h1,p,x,h2,h4,h5,hv.kept hg (box_row hrow hv),h3.grown hg h3.size (fun k e=>by have:=(hrow k e).1;omega)⟩
theorem plainAt_neg(k:Nat)(r:Int)(h:r<0):plainAt k r=false:=by
 unfold plainAt;rw[firstOk_neg r h,furtherOk_neg r h];simp
def frontP(l:L):Nat:=(stop plainAt l).getD l.length
theorem front2_any(s:ByteArray)(w:World)(hs:s.size≤1000000000) :
  Calls Tryz.prog 165 #[.string s,.func (.func 166) #[] #[]] w fun e w'=>e=.returned (.int .i64 (frontP s.data.toList:Nat))∧Below w.heap.size w w':=by
 refine (callsIn_wide (n:=5)).1 ?_;refine callsIn_of_wp_marks Tryz.func165 rfl trivial ?_ rfl;simp only[Tryz.ntmps165,List.size_toArray,List.length_cons,List.length_nil,Nat.reduceAdd,Nat.reduceSub,Array.replicate_succ,Array.replicate_zero,List.push_toArray,List.append_toArray,List.nil_append,List.cons_append]
 gi_wp2_with (refine⟨trivial,?_⟩;gi_at_call 52;refine (callsIn_wide.2 (scalars_mk _ _)).mono ?_;rintro e w' ⟨rfl,rfl⟩)
 have b0:=Boxed.new w 94 (.func (.func 166) #[] #[]);have b1:=Boxed.new (w.alloc (.cells #[.func (.func 166) #[] #[]] 94)) 3 (.int .i64 0);rw[World.size_alloc] at b1;have b2:=Boxed.new ((w.alloc (.cells #[.func (.func 166) #[] #[]] 94)).alloc (.cells #[.int .i64 0] 3)) 9 (.string s);rw[World.size_alloc,World.size_alloc] at b2
 have hB0:Below w.heap.size w (((w.alloc (.cells #[.func (.func 166) #[] #[]] 94)).alloc (.cells #[.int .i64 0] 3)).alloc (.cells #[.string s] 9)) :=
  (((Below.refl _ w).alloc (Nat.le_refl _) _).alloc (by simp) _).alloc (by simp;omega) _
 refine wpIn_rangeFunc_ownG rfl (by omega) (gf:=80) (lb:=#[.pointer (some ⟨w.heap.size+1+1,0,none⟩)]) rfl trivial (enters_of Tryz.func80 (by kernel_rfl) rfl)
  (scalars_stops (5-1) (by omega) (w.heap.size+1+1) s hs _ (by simp) b2.cell) SameBlk.trans (sameBlk_b (by simp)) (Below.refl _ _) (fun _=>rfl)
  (FrontI2 w) (FrontX2 w) (by simpa using FrontI2_own w) (fun c=>by simpa using FrontX2_own w c)
  ⟨(fun p hp=>by cases hp),(b0.alloc _).alloc _,⟨_,b1.alloc _⟩,⟨_,b2⟩,hB0⟩
  (fun x=>{ tmps:=#[.string s,.func (.func 166) #[] #[],undef,.pointer (some ⟨w.heap.size,0,none⟩),.pointer (some ⟨w.heap.size+1,0,none⟩),.int .i64 (x.1:Int),.int .i64 x.2,.string s,
   .func (.func 80) #[] #[.pointer (some ⟨w.heap.size+1+1,0,none⟩)],.int .i64 (x.1:Int),.int .i64 x.2,undef,undef,undef,undef,undef,undef,undef,undef,undef,undef,undef,undef,undef,undef,undef,undef],defers:=[] }) ?assign ?body ?done ?stop
 case assign=>
  intro l x W K hK;gi_wp2;exact hK
 case body=>
  rintro l pre x W ⟨hp,hb0,⟨v,hv⟩,⟨u,hu⟩,hB⟩ hlen;have HP:=hide hp;have h2:w.heap.size+1+1<W.heap.size:=hu.lt;have HF:=hide (first_any x.2);have HT:=hide (further_any x.2);have Hff:=hide (first_further (r:=x.2));clear hp
  by_cases h0:x.1=0
  ·have h0':((x.1:Int)==0)=true:=by simp[h0]
   cases hx:firstOk x.2 with
   | false=>
    rw[hx] at HF;have HX:=hide (show plainAt x.1 x.2=false by unfold plainAt;rw[if_pos h0,hx]);clear hx h0 HT Hff
    gi_wp2_with (refine⟨trivial,?_⟩;gi_at_call 189;refine (CallsIn.inRound l (callsIn_wide.2 (HF.out _))).mono ?_;rintro e w1 ⟨rfl,hb⟩;have hv1:=hv.kept (grown_below hb none) (by simp);have hc1:=hv1.cell;have hf1:=hv1.frozen)
    refine⟨fun _ h=>(by cases h),?_⟩;gi_wp2;exact⟨((others_below hb).trans (KeepsOthers.setCell _ _ _)).from _,rfl,pre,x,rfl,HP.out,HX.out,hv1.set _,(hB.trans (hb.mono hB.size)).setCell (p:=⟨w.heap.size+1,0,none⟩) (by simp) _⟩
   | true=>
    rw[hx] at HF;rw[Hff.out hx] at HT;have HX:=hide (show plainAt x.1 x.2=true by unfold plainAt;rw[if_pos h0,hx]);clear hx h0 Hff
    gi_wp2_with first
     | (refine⟨trivial,?_⟩;gi_at_call 189;refine (CallsIn.inRound l (callsIn_wide.2 (HF.out _))).mono ?_;rintro e w1 ⟨rfl,hb⟩;have hc0:=(hb0.kept (grown_below hb none) (by simp)).cell)
     | (refine⟨trivial,?_⟩;gi_at_call 166;refine (CallsIn.inRound l (callsIn_wide.2 (HT.out _))).mono ?_;rintro e w2 ⟨rfl,hb2⟩)
    have hb:=hb.trans (hb2.mono hb.size);refine⟨(others_below hb).from _,hb.block _ (by omega),fun p hp=>?_,hb0.kept (grown_below hb none) (by simp),⟨v,hv.kept (grown_below hb none) (by simp)⟩,⟨u,hu.kept (grown_below hb none) (by simp)⟩,hB.trans (hb.mono hB.size)⟩
    rcases List.mem_append.1 hp with hp|hp
    ·exact HP.out p hp
    have:p=x:=by simpa using hp
    rw[this];exact HX.out
  have h0':((x.1:Int)==0)=false:=by rw[beq_eq_false_iff_ne];omega
  have hc0:=hb0.cell;obtain⟨b,hbx⟩:∃b,furtherOk x.2=b:=⟨_,rfl⟩;rw[hbx] at HT;have HX:=hide (show plainAt x.1 x.2=b by unfold plainAt;rw[if_neg h0,hbx]);clear hbx h0 Hff HF
  gi_wp2_with fail
  refine⟨trivial,?_⟩
  cases b with
  | false=>
   gi_wp2_with (refine⟨trivial,?_⟩;gi_at_call 166;refine (CallsIn.inRound l (callsIn_wide.2 (HT.out _))).mono ?_;rintro e w1 ⟨rfl,hb⟩;have hv1:=hv.kept (grown_below hb none) (by simp);have hc1:=hv1.cell;have hf1:=hv1.frozen)
   exact⟨((others_below hb).trans (KeepsOthers.setCell _ _ _)).from _,rfl,pre,x,rfl,HP.out,HX.out,hv1.set _,(hB.trans (hb.mono hB.size)).setCell (p:=⟨w.heap.size+1,0,none⟩) (by simp) _⟩
  | true=>
   gi_wp2_with (refine⟨trivial,?_⟩;gi_at_call 166;refine (CallsIn.inRound l (callsIn_wide.2 (HT.out _))).mono ?_;rintro e w1 ⟨rfl,hb⟩)
   refine⟨(others_below hb).from _,hb.block _ (by omega),fun p hp=>?_,hb0.kept (grown_below hb none) (by simp),⟨v,hv.kept (grown_below hb none) (by simp)⟩,⟨u,hu.kept (grown_below hb none) (by simp)⟩,hB.trans (hb.mono hB.size)⟩
   rcases List.mem_append.1 hp with hp|hp
   ·exact HP.out p hp
   have:p=x:=by simpa using hp
   rw[this];exact HX.out
 case done=>
  rintro D ys W hD hys ⟨hp,hb0,⟨v,hv⟩,⟨u,hu⟩,hB⟩ hK;have hc:=hv.cell;have hf:=hv.frozen
  have Hbad:=hide (show frontP s.data.toList=s.size from by
   unfold frontP;rw[stop_none (ok:=plainAt) plainAt_neg (by rw[←hys];exact fun p h=>hp p h)];exact size_list s)
  clear hys hp;gi_wp2;have hv2:=hv.set (.int .i64 (s.size:Int));have hK2:=(KeepsOthers.setCell W ⟨w.heap.size+1,0,none⟩ (.int .i64 (s.size:Int))).same D _ hK rfl;refine⟨by simp,.inl ⟨_,_,rfl,run_takeDeferred hK2,?_⟩⟩;have hc2:=cell_kept hv2.cell (grownBy_putObj' _ D (.deferred none)) (fun r e=>by cases e;exact⟨_,hK2,rfl⟩);refine⟨.int .i64 (s.size:Int),?_,?_⟩
  ·simp[results,Tryz.results165,go_sem,hc2]
  exact⟨ret_eq1 (int_eq (by rw[Hbad.out])),(hB.setCell (p:=⟨w.heap.size+1,0,none⟩) (by simp) _).trans (belowK_b (w:=w) (Nat.le_refl _) _ D _ _ (by simp at hD;omega) hK2 rfl rfl)⟩
 case stop=>
  rintro D c pre W hD ⟨rest,hsp⟩ ⟨rfl,pre0,x,rfl,hp,hx,hv,hB⟩ hK;have hc:=hv.cell;have hf:=hv.frozen
  have Hbad:=hide (show frontP s.data.toList=x.1 from by
   unfold frontP;rw[stop_at (ok:=plainAt) plainAt_neg hsp (fun p h=>hp p h) hx]
   rfl)
  clear hsp hp hx;gi_wp2;refine⟨by simp,.inl ⟨_,_,rfl,run_takeDeferred hK,?_⟩⟩;have hc2:=cell_kept hc (grownBy_putObj' _ D (.deferred none)) (fun r e=>by cases e;exact⟨_,hK,rfl⟩);refine⟨.int .i64 (x.1:Int),?_,?_⟩
  ·simp[results,Tryz.results165,go_sem,hc2]
  exact⟨ret_eq1 (int_eq (by rw[Hbad.out])),hB.trans (belowK_b (w:=w) (Nat.le_refl _) _ D _ _ (by simp at hD;omega) hK rfl rfl)⟩
theorem stop_lt{ok:Nat→Int→Bool}{l:L}{k:Nat}(h:stop ok l=some k):k<l.length:=by
 unfold stop at h
 cases hf:(Utf.pieces l).find? fun p=>!ok p.1 p.2 with
 | none=>rw[hf] at h;cases h
 | some p=>
  rw[hf] at h;simp only[Option.map_some,Option.some.injEq] at h;have:=pieces_lt l p (List.mem_of_find?_eq_some hf);omega
theorem plainOk_is(l:L):plainOk l=(!l.isEmpty&&decide (frontP l=l.length)):=by
 unfold plainOk frontP
 cases h:stop plainAt l with
 | none=>simp
 | some k=>
  have:=stop_lt h;simp;intro _;omega
theorem cutc_any(l:L)(w:World)(hg:Gm w)(hl:l.length≤1000000000) :
  Calls Tryz.prog 127 #[.string (bstr l),.string ⟨#[58]⟩] w fun e w'=>e=.returned (.tuple #[.string (bstr (Lib.cut l [58]).1),.string (bstr (Lib.cut l [58]).2.1),.bool (Lib.cut l [58]).2.2])∧Below w.heap.size w w':=by
 obtain⟨m,hm⟩:=hg.most;refine (Tryz.strings_Cut (bstr l) ⟨#[58]⟩ m w (by rw[bstr_size];omega) hm).mono ?_;rintro e w' ⟨rfl,n,rfl⟩;exact⟨rfl,below_drewN (Below.refl _ _) n⟩
theorem cut_short'(l q:L):(Lib.cut l q).1.length≤l.length∧(Lib.cut l q).2.1.length≤l.length:=by
 unfold Lib.cut;split
 ·simp only[List.length_take,List.length_drop];omega
 simp

theorem plain_any(l:L)(w:World)(hl:l.length≤1000000000) :
  Calls Tryz.prog 128 #[.string (bstr l)] w fun e w'=>e=.returned (.bool (plainOk l))∧Below w.heap.size w w':=by
 have hem:(bstr l).toList.isEmpty=decide (l=[]):=by rw[ByteArray.toList_eq,bstr_list];cases l<;>simp
 have HF:=hide (fun W=>front2_any (bstr l) W (by rw[bstr_size];exact hl));rw[bstr_list] at HF
 by_cases h:l=[]
 ·rw[decide_eq_true h] at hem;have Hr:=hide (show false=plainOk l by rw[h];rfl);clear h
  go_enter Tryz.func128,Tryz.ntmps128
  go_wp2;go_ret;exact⟨ret_eq1 (bool_eq Hr.out),Below.refl _ _⟩
 rw[decide_eq_false h] at hem;obtain⟨n,hn⟩:∃n,frontP l=n:=⟨_,rfl⟩;rw[hn] at HF;obtain⟨b,hb⟩:∃b,plainOk l=b:=⟨_,rfl⟩
 have hq:((n:Int)==((bstr l).size:Int))=b:=by
  rw[←hb,plainOk_is,hn,bstr_size]
  cases l with
  | nil=>exact absurd rfl h
  | cons c r=>
   rw[Bool.eq_iff_iff,beq_iff_eq];simp;omega
 rw[hb];clear hn hb h
 go_enter Tryz.func128,Tryz.ntmps128
 go_wp2_with fail
 refine (HF.out _).mono ?_
 rintro e w1 ⟨rfl,b1⟩
 go_wp2;go_ret;exact⟨rfl,b1⟩
def splV(x:Option (L×L)):Value:=match x with
 | some (p,l)=>.tuple #[.string (bstr p),.string (bstr l),.bool true]
 | none=>.tuple #[.string ⟨#[]⟩,.string ⟨#[]⟩,.bool false]

theorem splitm_any(l:L)(w:World)(hg:Gm w)(hl:l.length≤1000000000) :
  Calls Tryz.prog 88 #[.string (bstr l)] w fun e w'=>e=.returned (splV (split l))∧Below w.heap.size w w':=by
 have HC:=hide (fun W (h:Gm W)=>cutc_any l W h hl);have HG:=hide hg;have hcs:=cut_short' l [58];obtain⟨x,hx⟩:∃x,split l=x:=⟨_,rfl⟩;rw[hx];unfold split at hx;obtain⟨⟨p,r,ok⟩,hc⟩:∃c,Lib.cut l [58]=c:=⟨_,rfl⟩;rw[hc] at HC hx hcs;dsimp only at HC hx hcs;have HP:=hide (fun W=>plain_any p W (by omega));have HR:=hide (fun W=>plain_any r W (by omega));have HL:=hide (fun W=>plain_any l W hl);clear hcs hc hg
 cases ok with
 | false=>
  cases hb:plainOk l with
  | false=>
   rw[hb] at HL hx;have Hr:=hide (show splV x=.tuple #[.string ⟨#[]⟩,.string ⟨#[]⟩,.bool false] by rw[←hx];rfl);clear hx hb
   go_enter Tryz.func88,Tryz.ntmps88
   go_wp2_with fail
   refine (HC.out _ HG.out).mono ?_
   rintro e w1 ⟨rfl,b1⟩
   go_wp2_with fail
   refine (HL.out _).mono ?_
   rintro e w2 ⟨rfl,b2⟩
   go_wp2;go_ret3;rw[Hr.out];exact⟨rfl,b1.trans (b2.mono b1.size)⟩
  | true=>
   rw[hb] at HL hx;have Hr:=hide (show splV x=.tuple #[.string ⟨#[]⟩,.string (bstr l),.bool true] by rw[←hx];rfl);clear hx hb
   go_enter Tryz.func88,Tryz.ntmps88
   go_wp2_with fail
   refine (HC.out _ HG.out).mono ?_
   rintro e w1 ⟨rfl,b1⟩
   go_wp2_with fail
   refine (HL.out _).mono ?_
   rintro e w2 ⟨rfl,b2⟩
   go_wp2;go_ret3;rw[Hr.out];exact⟨rfl,b1.trans (b2.mono b1.size)⟩
 | true=>
  cases hb:plainOk p with
  | false=>
   rw[hb] at HP hx;have Hr:=hide (show splV x=.tuple #[.string ⟨#[]⟩,.string ⟨#[]⟩,.bool false] by rw[←hx];rfl);clear hx hb
   go_enter Tryz.func88,Tryz.ntmps88
   go_wp2_with fail
   refine (HC.out _ HG.out).mono ?_
   rintro e w1 ⟨rfl,b1⟩
   go_wp2_with fail
   refine (HP.out _).mono ?_
   rintro e w2 ⟨rfl,b2⟩
   go_wp2;go_ret3;rw[Hr.out];exact⟨rfl,b1.trans (b2.mono b1.size)⟩
  | true=>
   cases hd:plainOk r with
   | false=>
    rw[hb] at HP hx;rw[hd] at HR hx;have Hr:=hide (show splV x=.tuple #[.string ⟨#[]⟩,.string ⟨#[]⟩,.bool false] by rw[←hx];rfl);clear hx hb hd
    go_enter Tryz.func88,Tryz.ntmps88
    go_wp2_with fail
    refine (HC.out _ HG.out).mono ?_
    rintro e w1 ⟨rfl,b1⟩
    go_wp2_with fail
    refine (HP.out _).mono ?_
    rintro e w2 ⟨rfl,b2⟩
    go_wp2_with fail
    refine (HR.out _).mono ?_
    rintro e w3 ⟨rfl,b3⟩
    go_wp2;go_ret3;rw[Hr.out];exact⟨rfl,(b1.trans (b2.mono b1.size)).trans (b3.mono (b1.trans (b2.mono b1.size)).size)⟩
   | true=>
    rw[hb] at HP hx;rw[hd] at HR hx;have Hr:=hide (show splV x=.tuple #[.string (bstr p),.string (bstr r),.bool true] by rw[←hx];rfl);clear hx hb hd
    go_enter Tryz.func88,Tryz.ntmps88
    go_wp2_with fail
    refine (HC.out _ HG.out).mono ?_
    rintro e w1 ⟨rfl,b1⟩
    go_wp2_with fail
    refine (HP.out _).mono ?_
    rintro e w2 ⟨rfl,b2⟩
    go_wp2_with fail
    refine (HR.out _).mono ?_
    rintro e w3 ⟨rfl,b3⟩
    go_wp2;go_ret3;rw[Hr.out];exact⟨rfl,(b1.trans (b2.mono b1.size)).trans (b3.mono (b1.trans (b2.mono b1.size)).size)⟩
theorem split_any(l:L)(w:World)(hg:Gl w)(hl:l.length≤1000000000) :
  Calls Tryz.prog 88 #[.string (bstr l)] w fun e w'=>e=.returned (splV (split l))∧Below w.heap.size w w':=splitm_any l w hg.m hl
end
section
open Go.RowKit

theorem range_own{α:Type}{F:Fence}{n:Nat}{P:Program}{g:Operand}{ps:Array Tmp}{assign body:Code}{Q:Exit→Act→World→Prop}{a:Act}{w:World}
  (hro:F.round=none) (h1:1≤n) {gf:Nat} {lb:Array Value} (hg:a.eval g=.func (.func gf) #[] lb) (hFg:F.fn gf) (eg:∀args w,(callFunc gf args).run P w=.ok (.enter gf args) w)
  {encs:α→Array Value} {Kp:World→World→Prop} {S Sp:List α→Prop} {N:Nat} (hseq:SeqStopsK F (n-1) P gf lb encs Kp S Sp N w)
  (hKt:∀{A B C:World},Kp A B→Kp B C→Kp A C) (hKb:∀(W:World) (l:Nat) (o o':Obj),w.heap.size≤l→W.heap[l]?=some o→o.isCells=false→o.isWalk=false→Kp W (W.putObj l o')) (hKa:∀W o,Kp W (W.alloc o))
  (hps:∀x,(encs x).size=ps.size) (I:List α→World→Prop) (Ix:Code→List α→World→Prop) (hI:OwnFrom w.heap.size I) (hIx:∀c,OwnFrom w.heap.size (Ix c)) (h0:I [] w) (obj:α→Obj) (a₁:α→Nat→Act)
  (hassign:∀(l:Nat) (x:α) (W:World) (K:Act→World→Prop),K (a₁ x W.heap.size) (W.alloc (obj x))→
   assign.wpIn (F.inRound l) (n-1-1) P (Exit.then K (fun _ _ _=>False)) { tmps:=(ps.zip (encs x)).foldl (fun t (p,v)=>t.setIfInBounds p v) a.tmps,defers:=[] } W)
  (hbody:∀(l:Nat) (pre:List α) (x:α) (H:Nat) (W:World),I pre W→pre.length<N→w.heap.size+2≤H→W.heap[H]?=some (obj x)→W.heap.size=H+1→
   body.wpIn (F.inRound l) (n-1-1) P (ownPostG w.heap.size Kp I Ix (pre++[x]) W) (a₁ x H) W)
  (hdone:∀(D:Nat) (xs:List α) (W:World),w.heap.size≤D→S xs→I xs W→W.heap[D]?=some (.deferred (some []))→Q .normal { a with defers:={ target:=.collected D,args:=#[] } :: a.defers } W)
  (hstop:∀(D:Nat) (c:Code) (pre:List α) (W:World),w.heap.size≤D→Sp pre→Ix c pre W→W.heap[D]?=some (.deferred (some []))→c.wpIn F n P Q { a with defers:={ target:=.collected D,args:=#[] } :: a.defers } W) :
  (Code.rangeFunc g ps assign body).wpIn F n P Q a w:=by
 refine wpIn_rangeFunc fun fn hfn=>?_;rw[hro]
 let D:=w.heap.size
 let rr:LoopState→Option Code→Loop:=fun st pe=>{ state:=st,pending:=pe,fn,tmps:=a.tmps,params:=ps,assign,body,defers:=D }
 let W0:=(w.alloc (.deferred (some []))).alloc (.loop (rr .ready none))
 have hsz:W0.heap.size=D+2:=by show ((w.alloc _).alloc _).heap.size=_;simp[D]
 have hl0:W0.heap[D+1]?=some (.loop (rr .ready none)):=by
  have:=World.alloc_heap_new (w.alloc (.deferred (some []))) (.loop (rr .ready none));rwa[World.size_alloc] at this
 have hd0:W0.heap[D]?=some (.deferred (some [])):=(Below.heap_alloc _ _ _ (by simp[D])).trans (World.alloc_heap_new w _);have hbW:Below w.heap.size w W0:=((Below.refl _ w).alloc (Nat.le_refl _) _).alloc (by simp) _
 have hnw:∀{A:World} {row:Option Nat},(∀r,row=some r→W0.heap.size≤r∧∃o:Obj,A.heap[r]?=some o∧o.isWalk=true)→∀r,row=some r→w.heap.size≤r∧∃o:Obj,A.heap[r]?=some o∧o.isCells=false :=
  fun hr r e=>by obtain⟨hB,o,ho,hw⟩:=hr r e;exact⟨by rw[hsz] at hB;show D≤r;omega,o,ho,Obj.not_cells_of_walk hw⟩
 have keep:∀{A B:World} {row:Option Nat} {k:Nat} {o:Obj},A.grownBy B row→(∀r,row=some r→W0.heap.size≤r∧∃o:Obj,A.heap[r]?=some o∧o.isWalk=true)→A.heap[k]?=some o→k<D+2→B.heap[k]?=some o :=
  fun hgr hr hk hlt=>(hgr.block _ (Array.getElem?_eq_some_iff.1 hk).1 (fun e=>by have:=(hr _ e.symm).1;omega)).trans hk
 refine⟨D+1,[{ target:=.collected D,args:=#[] }],W0,{ target:=.fn (.func gf) lb,args:=#[.func (.yield (D+1)) #[] #[]] },W0,gf,#[.func (.yield (D+1)) #[] #[]]++lb,W0,
  run_enterLoop_outer _ _ _ _ _,by simp only[resolve,hg];simp[go_sem],fun f' hf'=>by simp[Target.leads] at hf';subst hf';exact hFg,by simp[invoke,go_sem,eg],fun _=>h1,?_⟩
 refine (hseq (D+1) (fun pre W=>I pre W∧W.heap[D+1]?=some (.loop (rr .ready none))∧W.heap[D]?=some (.deferred (some [])))
  (fun pre W=>∃c,Ix c pre W∧W.heap[D+1]?=some (.loop (rr .done (some c)))∧W.heap[D]?=some (.deferred (some []))) W0 hbW ?_ ?_ ?_ ⟨hI.alloc _ (hI.alloc _ h0),hl0,hd0⟩).mono ?_
 ·rintro s A B row ⟨hi,hl,hd⟩ hgr hr;exact⟨hI s A B row hi hgr (hnw hr),keep hgr hr hl (by omega),keep hgr hr hd (by omega)⟩
 ·rintro s A B row ⟨c,hi,hl,hd⟩ hgr hr;exact⟨c,hIx c s A B row hi hgr (hnw hr),keep hgr hr hl (by omega),keep hgr hr hd (by omega)⟩
 ·rintro pre x W ⟨hi,hl,hd⟩ hlen;have hlt:D+1<W.heap.size:=(Array.getElem?_eq_some_iff.1 hl).1;have hy:=run_yield (P:=P) (args:=encs x) hl (hps x);have hla:(W.alloc (obj x)).heap[D+1]?=some (.loop (rr .ready none)):=(Below.heap_alloc _ _ _ hlt).trans hl;have hda:(W.alloc (obj x)).heap[D]?=some (.deferred (some [])):=(Below.heap_alloc _ _ _ (by omega)).trans hd;have hlta:D+1<(W.alloc (obj x)).heap.size:=by simp;omega
  refine⟨fn,_,assign,body,hy,roundIn_of_wpIn hfn (hassign _ x W _ ⟨_,run_beginRound hla rfl,?_⟩)⟩;have hl2:((W.alloc (obj x)).putObj (D+1) (.loop (rr .busy none))).heap[D+1]?=some (.loop (rr .busy none)):=World.putObj_heap_same hlta;have hd2:((W.alloc (obj x)).putObj (D+1) (.loop (rr .busy none))).heap[D]?=some (.deferred (some [])):=(World.putObj_heap_other (by omega)).trans hda;have hx2:((W.alloc (obj x)).putObj (D+1) (.loop (rr .busy none))).heap[W.heap.size]?=some (obj x):=(World.putObj_heap_other (by omega)).trans (World.alloc_heap_new W _);have hia:I pre ((W.alloc (obj x)).putObj (D+1) (.loop (rr .busy none))):=hI.putObj _ (hI.alloc _ hi) (Nat.le_succ D) hla rfl;refine wpIn_mono (hbody _ pre x W.heap.size _ hia hlen (by show D+2≤_;omega) hx2 (by simp)) ?_;rintro e a3 W3 hp
  cases e with
  | normal=>
   obtain⟨hk3,hkp,hi3⟩:=hp;have hl3:=hk3.same _ _ (Nat.le_succ D) hl2 rfl;have hd3:=hk3.same _ _ (Nat.le_refl _) hd2 rfl;have hlt3:=(Array.getElem?_eq_some_iff.1 hl3).1;have he:=run_endRound (P:=P) none hl3;exact⟨_,_,he,.inl ⟨rfl,⟨hI.putObj _ hi3 (Nat.le_succ D) hl3 rfl,World.putObj_heap_same hlt3,(World.putObj_heap_other (by omega)).trans hd3⟩,hKt (hKt (hKt (hKa W (obj x)) (hKb _ _ _ _ (Nat.le_succ D) hla rfl rfl)) hkp) (hKb _ _ _ _ (Nat.le_succ D) hl3 rfl rfl)⟩⟩
  | ret=>
   obtain⟨hk3,hi3⟩:=hp;have hl3:=hk3.same _ _ (Nat.le_succ D) hl2 rfl;have hd3:=hk3.same _ _ (Nat.le_refl _) hd2 rfl;have hlt3:=(Array.getElem?_eq_some_iff.1 hl3).1;have he:=run_endRound (P:=P) (some .ret) hl3;exact⟨_,_,he,.inr ⟨rfl,.ret,(hIx _).putObj _ hi3 (Nat.le_succ D) hl3 rfl,World.putObj_heap_same hlt3,(World.putObj_heap_other (by omega)).trans hd3⟩⟩
  | exit id=>
   obtain⟨hk3,hi3⟩:=hp;have hl3:=hk3.same _ _ (Nat.le_succ D) hl2 rfl;have hd3:=hk3.same _ _ (Nat.le_refl _) hd2 rfl;have hlt3:=(Array.getElem?_eq_some_iff.1 hl3).1;have he:=run_endRound (P:=P) (some (.exit id)) hl3;exact⟨_,_,he,.inr ⟨rfl,.exit id,(hIx _).putObj _ hi3 (Nat.le_succ D) hl3 rfl,World.putObj_heap_same hlt3,(World.putObj_heap_other (by omega)).trans hd3⟩⟩
  | goto t=>
   obtain⟨hk3,hi3⟩:=hp;have hl3:=hk3.same _ _ (Nat.le_succ D) hl2 rfl;have hd3:=hk3.same _ _ (Nat.le_refl _) hd2 rfl;have hlt3:=(Array.getElem?_eq_some_iff.1 hl3).1;have he:=run_endRound (P:=P) (some (.goto t)) hl3;exact⟨_,_,he,.inr ⟨rfl,.goto t,(hIx _).putObj _ hi3 (Nat.le_succ D) hl3 rfl,World.putObj_heap_same hlt3,(World.putObj_heap_other (by omega)).trans hd3⟩⟩
  | panic ch=>exact hp.elim
  | outgrown=>exact hp.elim
 rintro e W2 ⟨⟨v,rfl⟩,⟨xs,hS,hi,hl,hd⟩|⟨pre,hSp,c,hi,hl,hd⟩⟩
 ·have hlt:=(Array.getElem?_eq_some_iff.1 hl).1;exact⟨none,_,run_endLoop (P:=P) hl (by simp[rr]),hdone D xs _ (Nat.le_refl _) hS (hI.putObj _ hi (Nat.le_succ D) hl rfl) ((World.putObj_heap_other (by omega)).trans hd)⟩
 have hlt:=(Array.getElem?_eq_some_iff.1 hl).1;exact⟨some c,_,run_endLoop (P:=P) hl (by simp[rr]),hstop D c pre _ (Nat.le_refl _) hSp ((hIx c).putObj _ hi (Nat.le_succ D) hl rfl) ((World.putObj_heap_other (by omega)).trans hd)⟩
end
section
open Go.RowKit

theorem info_bld:(Tryz.prog.info? 39).map (·.size)=some 2:=by kernel_rfl
theorem lies_bld:liesAt Tryz.prog Tryz.prog.depth 39 (2 / Tryz.prog.cellsOf 39) 0 39 1=true:=by kernel_rfl
theorem info_u8b:(Tryz.prog.info? 5).map (fun i=>(i.zero,i.size,i.bytes))=some (some (.int .u8 0),1,1):=by kernel_rfl
theorem cc_used(b:Nat)(w:World)(h0:w.cell? ⟨b,0,none⟩=some (.pointer (some ⟨b,0,none⟩))) :
  Calls Tryz.prog 28 #[.pointer (some ⟨b,0,none⟩)] w fun e w'=>e=.returned (.tuple #[])∧w'=w:=by
 obtain⟨j,hj,_⟩:=Option.map_eq_some_iff.1 info_bld
 go_enter Tryz.func28,Tryz.ntmps28
 go_wp2;rw[Lib.run_neq_ptr_same w _ Tryz.underlying36 hj];go_wp2;go_end0;exact⟨rfl,rfl⟩
theorem cc_fresh(b:Nat)(w:World)(h0:w.cell? ⟨b,0,none⟩=some (.pointer none))(hsh:w.shape? b=some (39,2))(hfz:w.frozen? ⟨b,0,none⟩=false) :
  Calls Tryz.prog 28 #[.pointer (some ⟨b,0,none⟩)] w fun e w'=>e=.returned (.tuple #[])∧w'=w.setCell ⟨b,0,none⟩ (.pointer (some ⟨b,0,none⟩)):=by
 obtain⟨j,hj,hjs⟩:=Option.map_eq_some_iff.1 info_bld
 go_enter Tryz.func28,Tryz.ntmps28
 go_wp2;rw[Lib.run_to_unsafe w ⟨b,0,none⟩ Tryz.underlying36 Tryz.underlying98 hj (by rw[hjs];decide) hsh (Nat.zero_lt_succ 1)];simp only[Result.andThen];rw[Oper.upon_value];go_wp2;rw[run_callFunc_extern Tryz.func48 (by kernel_rfl) (by kernel_rfl) (by kernel_rfl) (e:=Extern.AbiNoEscape.same) (by kernel_rfl)];rw[Lib.run_noEscape];simp only[Result.andThen];rw[Oper.upon_value];go_wp2;rw[Lib.run_from_unsafe w ⟨b,0,none⟩ Tryz.underlying98 Tryz.underlying36 hj hsh lies_bld];simp only[Result.andThen];rw[Oper.upon_value];go_wp2;go_end0;exact⟨rfl,rfl⟩
structure BlT(B b:Nat)(w w':World):Prop where
 os:w'.os=w.os
 tape:w'.tape=w.tape
 output:w'.output=w.output
 size:w.heap.size≤w'.heap.size
 block:∀k,k<w.heap.size→k≠b→(k<B∨¬IsT w k 5)→w'.heap[k]?=w.heap[k]?
theorem BlT.refl(B b:Nat)(w:World):BlT B b w w:=⟨rfl,rfl,rfl,Nat.le_refl _,fun _ _ _ _=>rfl⟩
theorem BlT.trans{B b:Nat}{w w1 w':World}(h:BlT B b w w1)(k:BlT B b w1 w'):BlT B b w w' :=
 ⟨k.os.trans h.os,k.tape.trans h.tape,k.output.trans h.output,Nat.le_trans h.size k.size,fun i hi hb ht=>by
  have e1:=h.block i hi hb ht;refine (k.block i (Nat.lt_of_lt_of_le hi h.size) hb (ht.imp id fun hn hT=>hn ?_)).trans e1;obtain⟨cs,fr,hh⟩:=hT;exact⟨cs,fr,e1.symm.trans hh⟩⟩
theorem BlT.below{B b:Nat}{w w':World}(h:BlT B b w w')(hb:B≤b)(hs:B≤w.heap.size):Below B w w':=⟨h.os,h.tape,h.output,h.size,fun k hk=>h.block k (by omega) (by omega) (.inl hk)⟩
theorem BlT.blk{B b g t:Nat}{cs:Array Value}{w w':World}(h:BlT B b w w')(hg:Blk w g t cs)(hb:g≠b)(ht:t≠5):Blk w' g t cs :=
 (h.block g hg.lt hb (.inr fun⟨cs',fr,hh⟩=>by
  have:=(show w.heap[g]?=some (.cells cs t (0,0)) from hg).symm.trans hh;injection this with this
  injection this with _ h3
  exact ht h3)).trans hg
theorem BlT.of_below{B b:Nat}{w w':World}(h:Below w.heap.size w w'):BlT B b w w':=⟨h.os,h.tape,h.output,h.size,fun k hk _ _=>h.block k hk⟩
theorem BlT.setCell{B b:Nat}{w w1:World}(h:BlT B b w w1)(i:Nat)(u:Value):BlT B b w (w1.setCell ⟨b,i,none⟩ u) :=
 ⟨h.os,h.tape,h.output,by simpa[World.setCell] using h.size,fun k hk hb ht=>by
  rw[Below.heap_setCell _ _ _ _ (by exact hb)];exact h.block k hk hb ht⟩
theorem BlT.alloc{B b:Nat}{w w1:World}(h:BlT B b w w1)(o:Obj):BlT B b w (w1.alloc o):=h.trans (BlT.of_below (below_alloc w1 o))
theorem BlT.grown{B b:Nat}{w w1 w2:World}{row:Option Nat}(h:BlT B b w w1)(hg:w1.grownBy w2 row)(hr:∀k,row=some k→B≤k∧IsT w1 k 5):BlT B b w w2 :=
 h.trans ⟨hg.os,hg.tape,hg.output,hg.size,fun k hk _ ht=>hg.block k hk fun e=>by
  obtain⟨h1,h2⟩:=hr k e.symm
  rcases ht with ht|ht
  ·omega
  exact ht h2⟩
theorem cc_blt(B b:Nat)(bs:List Value)(w:World)(h:Lib.IsBuilder 39 5 B b bs w) :
  Calls Tryz.prog 28 #[.pointer (some ⟨b,0,none⟩)] w fun e w'=>e=.returned (.tuple #[])∧(Lib.BuilderAt 39 5 B b (.pointer (some ⟨b,0,none⟩)) bs w'∧BlT B b w w'):=by
 rcases h with h|h
 ·refine (cc_fresh b w h.cell0 h.shape h.frozen0).mono ?_;rintro e w' ⟨rfl,rfl⟩;exact⟨rfl,h.used _,(BlT.refl B b w).setCell 0 _⟩
 refine (cc_used b w h.cell0).mono ?_;rintro e w' ⟨rfl,rfl⟩;exact⟨rfl,h,BlT.refl B b _⟩
theorem neB5:39≠5:=by decide
theorem ws_any(B b:Nat)(bs:List Value)(s:ByteArray)(w:World)(h:Lib.IsBuilder 39 5 B b bs w)(hlen:bs.length+s.size≤140737488355328)(hBw:B≤w.heap.size) :
  Calls Tryz.prog 15 #[.pointer (some ⟨b,0,none⟩),.string s] w fun e w'=>e=.returned (.tuple #[.int .i64 s.size,.nilIface])∧(Lib.IsBuilder 39 5 B b (bs++Lib.strCells s) w'∧BlT B b w w'):=by
 obtain⟨i0,hi,hz0,hz1,hz2⟩:=info_parts info_u8b
 go_enter Tryz.func15,Tryz.ntmps15
 go_wp2_with fail
 refine (cc_blt B b bs _ h).mono ?_;rintro e w1 ⟨rfl,h1,hb1⟩;obtain⟨hB,v,hbk,hown,hne⟩:=h1;have c0:w1.cell? ⟨b,0,none⟩=some (.pointer (some ⟨b,0,none⟩)):=by rw[Lib.cell_of_heap hbk];rfl
 have c1:w1.cell? ⟨b,1,none⟩=some v:=by rw[Lib.cell_of_heap hbk];rfl
 go_wp2_with (at_builtin;refine Lib.wpList_append_own_string _ rfl _ _ 37 9 rfl B 5 i0 Tryz.underlying37 Tryz.underlying9 hi hz0 hz1 hz2 _ _ _ rfl hown s rfl ?c3 ?c4 ?c5 ?_)
 case c3=>unfold maxLen;omega
 case c4=>omega
 case c5=>have:=hb1.size;omega
 intro v' w2 hown' hgrow _
 have hlt:b<w1.heap.size:=by
  rcases Nat.lt_or_ge b w1.heap.size with h' | h'
  ·exact h'
  simp[Array.getElem?_eq_none h'] at hbk
 have hb2:w2.heap[b]?=some (.cells #[.pointer (some ⟨b,0,none⟩),v] 39 (0,0)):=by
  rw[hgrow.block b hlt (fun e=>hne e.symm)];exact hbk
 have d0:w2.cell? ⟨b,0,none⟩=some (.pointer (some ⟨b,0,none⟩)):=by rw[Lib.cell_of_heap hb2];rfl
 have d1:w2.cell? ⟨b,1,none⟩=some v:=by rw[Lib.cell_of_heap hb2];rfl
 have f1:w2.frozen? ⟨b,1,none⟩=false:=Lib.frozen_of_heap hb2 1
 obtain⟨ao,n',cap,rfl⟩:∃ao n' cap,v'=.slice ao n' cap:=by
  rcases hown'.2 with ⟨hv,_⟩|⟨g,cap,cur,hv,_⟩
  ·exact⟨_,_,_,hv⟩
  exact⟨_,_,_,hv⟩
 go_wp2;go_ret2;refine⟨rfl,.inr ?_,?_⟩
 ·exact Lib.BuilderAt.put (T:=39) (e:=5) hB hb2 (bs':=bs++Lib.strCells s) (by simpa[Lib.strCells_length] using hown') neB5
 exact (hb1.grown hgrow (fun k hk=>⟨(hown.lt k hk).1,(own_isT hown k hk).2⟩)).setCell 1 _
end
section
open Go

section
variable {F:Fence} {n:Nat} {P:Program} {l:List Oper} {Q:Exit→Act→World→Prop} {md:Region.Mode}
theorem in_cons{i:Nat}{oi:Oper}{fuel:Nat}{listed:Array Bool}{a:Act}{w:World}{rs:List Nat}(hi:l[i]?=some oi)(hw:Region.wanted oi (yielded l.toArray a.tmps)=true)
  (h:∀K':Act→World→Prop,(∀a w,wpAnyIn F n P md l.toArray Q fuel (listed.setIfInBounds i true) a w→K' a w)→Oper.wpIn F n P oi a w K' Q)
  (hs:AllReadyIn F n P md l.toArray Q fuel listed a w rs):AllReadyIn F n P md l.toArray Q fuel listed a w (i :: rs) :=
 AllReadyIn.cons (o:=oi) (by simpa using hi) (fun K hK=>by rw[if_pos hw];exact h K hK) hs
theorem in_one{i:Nat}{oi:Oper}{fuel:Nat}{listed:Array Bool}{a:Act}{w:World}(hi:l[i]?=some oi)(hr:Region.ready md l.toArray listed=[i])(hw:Region.wanted oi (yielded l.toArray a.tmps)=true)
  (h:∀K':Act→World→Prop,(∀a w,wpAnyIn F n P md l.toArray Q fuel (listed.setIfInBounds i true) a w→K' a w)→Oper.wpIn F n P oi a w K' Q):wpAnyIn F n P md l.toArray Q (fuel+1) listed a w :=
 wpAnyIn_ready hr (by simp) (in_cons hi hw h AllReadyIn.nil)
end
end
end Go.Proofs.YtifiiojchlaghaaGreatDoor
