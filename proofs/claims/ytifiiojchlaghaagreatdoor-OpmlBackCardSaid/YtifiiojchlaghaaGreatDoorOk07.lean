/- Tokens: a list of tokens in memory, each with a row of attributes of its own. And more. -/
import Derived.Test.YtifiiojchlaghaaGreatDoorOk01
import Derived.Test.YtifiiojchlaghaaGreatDoorOk02
import Derived.Test.YtifiiojchlaghaaGreatDoorOk03
import Derived.Test.YtifiiojchlaghaaGreatDoorOk04
import Derived.Test.YtifiiojchlaghaaGreatDoorOk06
import Derived.Test.YtifiiojchlaghaaGreatDoorShelf
import Derived.Deep.QuietTactic
import Derived.BigQuiet
import Derived.Deep.LoopGhost
import Derived.WalkSpells
import Derived.WalkLawsBesides
set_option linter.unusedSimpArgs false
set_option maxRecDepth 20000
set_option maxHeartbeats 16000000
set_option linter.unusedVariables false
namespace Go.Proofs.YtifiiojchlaghaaGreatDoor
section
open Go.RowKit Tk

def Above(B:Nat)(A:Option Addr):Prop:=∀a,A=some a→B≤a.block
theorem Above.more{B B':Nat}{A:Option Addr}(h:Above B A)(hB:B'≤B):Above B' A:=fun a ha=>Nat.le_trans hB (h a ha)
theorem above_own{w:World}{B e size n c:Nat}{A:Option Addr}{xs:List Value}(h:w.ownsRow B e size (.slice A n c) n xs):Above B A:=by
 intro a ha;subst ha
 rcases h.2 with ⟨h1,_⟩|⟨g,cap,cur,hv,hb,_⟩
 ·cases h1
 cases hv;exact hb
def Typed(w:World)(A:Option Addr)(t:TypeId):Prop:=∀a,A=some a→IsT w a.block t
theorem typed_own{w:World}{B e size n c:Nat}{A:Option Addr}{xs:List Value}(h:w.ownsRow B e size (.slice A n c) n xs):Typed w A e:=by
 intro a ha;subst ha
 rcases h.2 with ⟨h1,_⟩|⟨g,cap,cur,hv,hb,hh,_⟩
 ·cases h1
 cases hv;exact⟨_,_,hh⟩
theorem own_cap{w:World}{B e size n c:Nat}{A:Option Addr}{xs:List Value}(h:w.ownsRow B e size (.slice A n c) n xs):n≤c:=by
 rcases h.2 with ⟨h1,_⟩|⟨g,cap,cur,hv,hb,hh,hrest⟩
 ·cases h1;omega
 cases hv;exact hrest.1
theorem isT_ne{w:World}{k t t':Nat}(h:IsT w k t)(h':IsT w k t')(hne:t≠t'):False:=by
 obtain⟨cs,fr,h1⟩:=h;obtain⟨cs',fr',h2⟩:=h';rw[h1] at h2;injection h2 with h2
 injection h2 with _ h3
 exact hne h3
structure Tv where
 t:Tok
 A:Option Addr
 c:Nat
def Tv.row(x:Tv):List Value:=tokCells x.t (.slice x.A x.t.attrs.length x.c) x.t.end_
def tvRows(xs:List Tv):List Value:=xs.flatMap Tv.row
theorem tvRows_snoc(xs:List Tv)(x:Tv):tvRows (xs++[x])=tvRows xs++x.row:=by simp[tvRows]
theorem tv_one(x:Tv):∀u∈x.row,u.oneCell'=true:=by
 intro u hu;simp only[Tv.row,tokCells,List.mem_cons,List.not_mem_nil,or_false] at hu
 rcases hu with rfl|rfl|rfl|rfl|rfl|rfl|rfl<;>rfl
theorem info_tok:(Tryz.prog.info? 85).map (fun i=>(i.zero,i.size,i.bytes))=some (some (.agg #[.int .i8 0,.string ⟨#[]⟩,.slice none 0 0,.bool false,.string ⟨#[]⟩,.int .i64 0,.int .i64 0]),7,88):=by kernel_rfl
structure Tv.In(x:Tv)(B:Nat)(W:World):Prop where
 a:Reads W W.heap.size 3 x.A x.t.attrs.length (attrVs x.t.attrs)
 va:Above B x.A
 ta:Typed W x.A 148
theorem Reads.same{w w':World}{B B' size n:Nat}{A:Option Addr}{xs:List Value}(h:Reads w B size A n xs)(hk:∀a,A=some a→w'.heap[a.block]?=w.heap[a.block]?)(hB:B≤B'):Reads w' B' size A n xs :=
 ⟨h.1,fun hn=>by
  obtain⟨b,off,e,hb,hc⟩:=h.2 hn;exact⟨b,off,e,by omega,fun j u hu=>(World.cell?_of_block (a:=⟨b,off+j,none⟩) (hk ⟨b,off,none⟩ e)).trans (hc j u hu)⟩⟩
theorem Typed.same{w w':World}{A:Option Addr}{t:TypeId}(h:Typed w A t)(hk:∀a,A=some a→w'.heap[a.block]?=w.heap[a.block]?):Typed w' A t:=fun a ha=>by
 obtain⟨cs,fr,hh⟩:=h a ha;exact⟨cs,fr,(hk a ha).trans hh⟩
theorem Tv.In.turn{x:Tv}{B:Nat}{W W':World}(h:x.In B W)(hk:∀k,B≤k→k<W.heap.size→¬IsT W k 85→W'.heap[k]?=W.heap[k]?)(hs:W.heap.size≤W'.heap.size):x.In B W':=by
 have sa:∀a,x.A=some a→W'.heap[a.block]?=W.heap[a.block]?:=fun a ha=>hk _ (h.va a ha) (h.ta a ha).lt fun h2=>isT_ne (h.ta a ha) h2 (by decide);exact⟨h.a.same sa hs,h.va,h.ta.same sa⟩
theorem Tv.In.below{x:Tv}{B:Nat}{W W':World}(h:x.In B W)(hb:Below W.heap.size W W'):x.In B W':=h.turn (fun k _ h2 _=>hb.block k h2) hb.size
theorem Tv.In.more{x:Tv}{B B':Nat}{W:World}(h:x.In B W)(hB:B'≤B):x.In B' W:=⟨h.a,h.va.more hB,h.ta⟩
theorem Tv.In.of_own{w:World}{base:Nat}{t:Tok}{A:Option Addr}{c:Nat}(h:w.ownsRow base 148 3 (.slice A t.attrs.length c) t.attrs.length (attrVs t.attrs)):(Tv.mk t A c).In base w:=⟨Reads.of_own h,above_own h,typed_own h⟩
theorem Tv.In.grown{x:Tv}{B base n c:Nat}{A:Option Addr}{W w8:World}{cs:List Value}{o:Obj}(h:x.In B W)(hr:W.ownsRow base 85 7 (.slice A n c) n cs)(hg:(W.alloc o).drew.grownBy w8 (Value.slice A n c).ownBlock):x.In B w8:=by
 refine (h.below (below_alloc W o)).turn (fun k _ hk hT=>?_) hg.size;refine (hg.block k hk fun e=>?_);obtain⟨cs,fr,hh⟩:=(own_isT hr k e.symm).2;have hlt:=(own_isT hr k e.symm).2.lt;exact hT ⟨cs,fr,(Below.heap_alloc _ _ _ hlt).trans hh⟩
def TksR(w:World)(s:L)(e:Ending)(w':World):Prop :=
 ∃(xs:List Tv) (A:Option Addr) (c n:Nat) (ok:Bool),AllT s (xs.map (·.t)) n ok∧xs.length≤s.length∧xs.length≤c∧e=.returned (.tuple #[.slice A xs.length c,.int .i64 (n:Int),.bool ok])∧
  Below w.heap.size w w'∧Reads w' w'.heap.size 7 A xs.length (tvRows xs)∧Above w.heap.size A∧Typed w' A 85∧∀x∈xs,x.In w.heap.size w'
end
section
open Go.RowKit Tk

structure Ga where
 name:ByteArray
 value:ByteArray
 at_:Int
structure Gt where
 kind:Int
 name:ByteArray
 as_:List Ga
 A:Option Addr
 c:Nat
 empty:Bool
 text:ByteArray
 at_:Int
 end_:Int
def gaCells(x:Ga):List Value:=[.string x.name,.string x.value,.int .i64 x.at_]
def gtCells(x:Gt):List Value:=[.int .i8 x.kind,.string x.name,.slice x.A x.as_.length x.c,.bool x.empty,.string x.text,.int .i64 x.at_,.int .i64 x.end_]
def gas(l:List Ga):List Value:=l.flatMap gaCells
def gts(l:List Gt):List Value:=l.flatMap gtCells
theorem gas_at:∀(l:List Ga) (k:Nat) (hk:k<l.length) (j:Nat),j<3→(gas l)[k*3+j]?=(gaCells l[k])[j]?:=by
 intro l
 induction l with
 | nil=>intro k hk;simp at hk
 | cons x l ih=>
  intro k hk j hj;have hl:(gaCells x).length=3:=rfl;unfold gas;rw[List.flatMap_cons]
  cases k with
  | zero=>rw[List.getElem?_append_left (by omega)];simp
  | succ k=>
   rw[List.getElem?_append_right (by omega),hl,show (k+1)*3+j-3=k*3+j from by omega];exact ih k (by simpa using hk) j hj
theorem gts_at:∀(l:List Gt) (k:Nat) (hk:k<l.length) (j:Nat),j<7→(gts l)[k*7+j]?=(gtCells l[k])[j]?:=by
 intro l
 induction l with
 | nil=>intro k hk;simp at hk
 | cons x l ih=>
  intro k hk j hj;have hl:(gtCells x).length=7:=rfl;unfold gts;rw[List.flatMap_cons]
  cases k with
  | zero=>rw[List.getElem?_append_left (by omega)];simp
  | succ k=>
   rw[List.getElem?_append_right (by omega),hl,show (k+1)*7+j-7=k*7+j from by omega];exact ih k (by simpa using hk) j hj
structure GaAt(w:World)(b o:Nat)(x:Ga):Prop where
 c0:w.cell? ⟨b,o,none⟩=some (.string x.name)
 c1:w.cell? ⟨b,o+1,none⟩=some (.string x.value)
 c2:w.cell? ⟨b,o+2,none⟩=some (.int .i64 x.at_)
structure GtAt(w:World)(b o:Nat)(x:Gt):Prop where
 c0:w.cell? ⟨b,o,none⟩=some (.int .i8 x.kind)
 c1:w.cell? ⟨b,o+1,none⟩=some (.string x.name)
 c2:w.cell? ⟨b,o+2,none⟩=some (.slice x.A x.as_.length x.c)
 c3:w.cell? ⟨b,o+3,none⟩=some (.bool x.empty)
 c4:w.cell? ⟨b,o+4,none⟩=some (.string x.text)
 c5:w.cell? ⟨b,o+5,none⟩=some (.int .i64 x.at_)
 c6:w.cell? ⟨b,o+6,none⟩=some (.int .i64 x.end_)
section
variable {w:World} {B:Nat} {A:Option Addr}
theorem Reads.ga{l:List Ga}(h:Reads w B 3 A l.length (gas l)){k:Nat}(hk:k<l.length):∃b off,A=some ⟨b,off,none⟩∧b<B∧GaAt w b (off+k*3) l[k]:=by
 obtain⟨b,off,hA,hb,hc⟩:=h.2 (by omega);have hx:=gas_at l k hk;refine⟨b,off,hA,hb,?_⟩
 constructor
 ·have:=hc (k*3+0) _ (hx 0 (by omega));simpa using this
 ·have:=hc (k*3+1) _ (hx 1 (by omega));rwa[←Nat.add_assoc] at this
 have:=hc (k*3+2) _ (hx 2 (by omega));rwa[←Nat.add_assoc] at this
theorem Reads.gt{l:List Gt}(h:Reads w B 7 A l.length (gts l)){k:Nat}(hk:k<l.length):∃b off,A=some ⟨b,off,none⟩∧b<B∧GtAt w b (off+k*7) l[k]:=by
 obtain⟨b,off,hA,hb,hc⟩:=h.2 (by omega);have hx:=gts_at l k hk;refine⟨b,off,hA,hb,?_⟩
 constructor
 ·have:=hc (k*7+0) _ (hx 0 (by omega));simpa using this
 ·have:=hc (k*7+1) _ (hx 1 (by omega));rwa[←Nat.add_assoc] at this
 ·have:=hc (k*7+2) _ (hx 2 (by omega));rwa[←Nat.add_assoc] at this
 ·have:=hc (k*7+3) _ (hx 3 (by omega));rwa[←Nat.add_assoc] at this
 ·have:=hc (k*7+4) _ (hx 4 (by omega));rwa[←Nat.add_assoc] at this
 ·have:=hc (k*7+5) _ (hx 5 (by omega));rwa[←Nat.add_assoc] at this
 have:=hc (k*7+6) _ (hx 6 (by omega));rwa[←Nat.add_assoc] at this
end
theorem below_drewN{B:Nat}{w w':World}(h:Below B w w')(m:Nat):Below B w (w'.drewN m):=⟨h.os,h.tape,h.output,h.size,h.block⟩
structure TkL(w:World)(B:Nat)(A:Option Addr)(xs:List Gt):Prop where
 row:Reads w B 7 A xs.length (gts xs)
 sub:∀x∈xs,Reads w B 3 x.A x.as_.length (gas x.as_)
end
section
open Go.RowKit Tk Sx

structure Dcl where
 pre:L
 ns:L
def dclCells(x:Dcl):List Value:=[.string (bstr x.pre),.string (bstr x.ns)]
def dcls(l:List Dcl):List Value:=l.flatMap dclCells
def xmlNs:L:=[104,116,116,112,58,47,47,119,119,119,46,119,51,46,111,114,103,47,88,77,76,47,49,57,57,56,47,110,97,109,101,115,112,97,99,101]
def xmlnsNs:L:=[104,116,116,112,58,47,47,119,119,119,46,119,51,46,111,114,103,47,50,48,48,48,47,120,109,108,110,115,47]
def pXml:L:=[120,109,108]
def spaceAt(l:List Dcl)(p:L)(m:Nat):L×Bool:=match (l.take m).reverse.find? fun d=>decide (d.pre=p) with
 | some d=>(d.ns,true)
 | none=>([],decide (p=[]))
def spaceOf(l:List Dcl)(p:L):L×Bool:=if p=pXml then (xmlNs,true) else spaceAt l p l.length
def spV(x:L×Bool):Value:=.tuple #[.string (bstr x.1),.bool x.2]
theorem spaceAt_zero{l:List Dcl}{p:L}:spaceAt l p 0=([],decide (p=[])):=rfl
theorem spaceAt_step{l:List Dcl}{p:L}{m:Nat}(h:m<l.length):spaceAt l p (m+1)=if l[m].pre=p then (l[m].ns,true) else spaceAt l p m:=by
 unfold spaceAt;rw[List.take_succ_eq_append_getElem h,List.reverse_append,List.reverse_singleton,List.singleton_append,List.find?_cons]
 by_cases he:l[m].pre=p
 ·rw[if_pos he];simp[he]
 rw[if_neg he];simp[he]
theorem dcls_at:∀(l:List Dcl) (k:Nat) (hk:k<l.length) (j:Nat),j<2→(dcls l)[k*2+j]?=(dclCells l[k])[j]?:=by
 intro l
 induction l with
 | nil=>intro k hk;simp at hk
 | cons x l ih=>
  intro k hk j hj;have hl:(dclCells x).length=2:=rfl;unfold dcls;rw[List.flatMap_cons]
  cases k with
  | zero=>rw[List.getElem?_append_left (by omega)];simp
  | succ k=>
   rw[List.getElem?_append_right (by omega),hl,show (k+1)*2+j-2=k*2+j from by omega];exact ih k (by simpa using hk) j hj
theorem Reads.dcl{w:World}{B:Nat}{A:Option Addr}{l:List Dcl}(h:Reads w B 2 A l.length (dcls l)){k:Nat}(hk:k<l.length) :
  ∃b off,A=some ⟨b,off,none⟩∧b<B∧w.cell? ⟨b,off+k*2,none⟩=some (.string (bstr l[k].pre))∧w.cell? ⟨b,off+k*2+1,none⟩=some (.string (bstr l[k].ns)):=by
 obtain⟨b,off,hA,hb,hc⟩:=h.2 (by omega);have hx:=dcls_at l k hk;refine⟨b,off,hA,hb,?_,?_⟩
 ·have:=hc (k*2+0) _ (hx 0 (by omega));simpa using this
 have:=hc (k*2+1) _ (hx 1 (by omega));rwa[←Nat.add_assoc] at this
theorem beq_bstr(a b:L):((bstr a).toList==(bstr b).toList)=decide (a=b):=by
 rw[ByteArray.toList_eq,ByteArray.toList_eq,bstr_list,bstr_list,Bool.eq_iff_iff,beq_iff_eq,decide_eq_true_iff]

end
section
open Go.RowKit Tk Sx

theorem space15_any(A:Option Addr)(c B:Nat)(l:List Dcl)(p:L)(w:World)(h:Reads w B 2 A l.length (dcls l))(hB:B≤w.heap.size)(hl:l.length≤1000000000) :
  Calls Tryz.prog 59 #[.slice A l.length c,.string (bstr p)] w fun e w'=>e=.returned (spV (spaceOf l p))∧Below w.heap.size w w':=by
 have hx:((bstr p).toList==[120,109,108])=decide (p=pXml):=by rw[ByteArray.toList_eq,bstr_list,Bool.eq_iff_iff,beq_iff_eq,decide_eq_true_iff];exact Iff.rfl
 have hem:(bstr p).toList.isEmpty=decide (p=[]):=by rw[ByteArray.toList_eq,bstr_list];cases p<;>simp
 obtain⟨z,hz⟩:∃z,spaceOf l p=z:=⟨_,rfl⟩;rw[hz];unfold spaceOf at hz;have HR:=hide h;obtain⟨n,hn⟩:∃n,l.length=n:=⟨_,rfl⟩;have Hn:=hide hn;rw[hn] at hz hl ⊢;clear h hn
 by_cases hp:p=pXml
 ·rw[decide_eq_true hp] at hx;have Hr:=hide (show spV z=.tuple #[.string (bstr xmlNs),.bool true] by rw[←hz,if_pos hp];rfl);clear hz hp
  go_enter Tryz.func59,Tryz.ntmps59
  go_wp2;go_ret2;rw[Hr.out];exact⟨rfl,Below.refl _ _⟩
 rw[decide_eq_false hp] at hx;rw[if_neg hp] at hz;have Hz:=hide hz;clear hz hp
 go_enter Tryz.func59,Tryz.ntmps59
 go_wp2
 go_loopg [12] n (fun g v wr=>∃i m:Nat,g=m∧i+m=n∧v=.int .i64 (i:Int)∧spaceAt l p m=z∧Below w.heap.size w wr)
 case atStart=>exact⟨0,n,rfl,by omega,rfl,Hz.out,Below.refl _ _⟩
 case round=>
  obtain⟨i,m,hg,him,rfl,hzm,hbl⟩:=hrel;have Hg:=hide hg;have Hzm:=hide hzm;have HB:=hide hbl;clear hg hzm Hz hbl
  cases m with
  | zero=>
   have Hr:=hide (show spV z=.tuple #[.string ⟨#[]⟩,.bool (decide (p=[]))] by rw[←Hzm.out,spaceAt_zero];rfl);have g0:¬i<n:=by omega
   clear him;go_wp2;go_ret2;rw[Hr.out];exact⟨rfl,HB.out⟩
  | succ m=>
   have h1:m<l.length:=by rw[Hn.out];omega
   obtain⟨b,off,rfl,hb,c0,c1⟩:=Reads.dcl (HR.out.below (HB.out.mono hB)) h1;have hst:=spaceAt_step (p:=p) h1;have hq:=beq_bstr l[m].pre p;obtain⟨d,hd⟩:∃d,l[m]=d:=⟨_,rfl⟩;rw[hd] at c0 c1 hst hq;have hin:i<n:=by omega
   have hmn:m<n:=by omega
   have hw1:IntKind.i64.wrap ((n:Int)-1)=(n:Int)-1:=IntWalk.i64_in _ (by omega);have hw2:IntKind.i64.wrap ((n:Int)-1-(i:Int))=(m:Int):=by rw[IntWalk.i64_in _ (by omega)];omega
   have Him:=hide him;have HT:=hide (Blk.new wr 152 #[.string (bstr d.pre),.string (bstr d.ns)]);have HB2:=hide (HB.out.alloc HB.out.size (.cells #[.string (bstr d.pre),.string (bstr d.ns)] 152));have y0:=Blk.cell HT.out 0;have y1:=Blk.cell HT.out 1;clear him
   by_cases he:d.pre=p
   ·rw[decide_eq_true he] at hq;have Hr:=hide (show spV z=.tuple #[.string (bstr d.ns),.bool true] by rw[←Hzm.out,hst,if_pos he];rfl);clear hst he hd;go_wp2;go_ret2;rw[Hr.out];exact⟨rfl,HB2.out⟩
   rw[decide_eq_false he] at hq;have Hn2:=hide (show spaceAt l p m=z by rw[←Hzm.out,hst,if_neg he]);clear hst he hd;go_wp2
   go_roundg m
   case measure=>have:=Hg.out;omega
   case rel=>exact⟨i+1,m,rfl,by have:=Him.out;omega,by first|rfl|go_num,Hn2.out,HB2.out⟩
end
section
open Go.RowKit Tk Sx

def putL(r:Int):L:=(Utf.put r).map bv
def PutR(r:Int)(w:World)(e:Ending)(w':World):Prop:=e=.returned (.tuple #[.string (bstr (putL r)),.bool true])∧Below w.heap.size w w'
theorem PutR.of{r:Int}{w w':World}{t:ByteArray}{e:Ending}(he:e=.returned (.tuple #[.string t,.bool true]))(ht:StrIs t (putL r))(hb:Below w.heap.size w w'):PutR r w e w':=by
 unfold StrIs at ht;have:t=bstr (putL r):=by rw[←ht,bstr_of]
 subst this;exact⟨he,hb⟩
theorem pPut_any(r:Int)(w:World)(h:Utf.isScalar r=true):Calls Tryz.prog 93 #[.int .i64 r] w (PutR r w) :=
 (put_yes r w h).mono fun _ _ ⟨⟨_,he,ht⟩,hb⟩=>PutR.of he ht hb
theorem putL_short(r:Int):(putL r).length≤4:=by unfold putL;rw[List.length_map];exact put_short r
end
section
open Go.RowKit Tk

end
section
open Go.RowKit Tk Sx

def optV(o:Option Nat):Value:=match o with
 | some v=>.tuple #[.int .i64 (v:Int),.bool true]
 | none=>.tuple #[.int .i64 0,.bool false]
theorem lit_eq(s:ByteArray)(q:L):(s.toList==q)=decide (s.data.toList=q):=by
 rw[ByteArray.toList_eq,Bool.eq_iff_iff,beq_iff_eq,decide_eq_true_iff]
theorem named_any(s:ByteArray)(w:World):Calls Tryz.prog 132 #[.string s] w fun e w'=>e=.returned (optV (named s.data.toList))∧w'=w:=by
 have h1:(s.toList==[108,116])=decide (s.data.toList=sLt):=lit_eq s sLt;have h2:(s.toList==[103,116])=decide (s.data.toList=sGt):=lit_eq s sGt;have h3:(s.toList==[97,109,112])=decide (s.data.toList=sAmp):=lit_eq s sAmp;have h4:(s.toList==[97,112,111,115])=decide (s.data.toList=sApos):=lit_eq s sApos;have h5:(s.toList==[113,117,111,116])=decide (s.data.toList=sQuot):=lit_eq s sQuot;obtain⟨z,hz⟩:∃z,named s.data.toList=z:=⟨_,rfl⟩;rw[hz]
 have hz':(if decide (s.data.toList=sLt)=true then some 60 else if decide (s.data.toList=sGt)=true then some 62 else if decide (s.data.toList=sAmp)=true then some 38 else if decide (s.data.toList=sApos)=true then some 39 else if decide (s.data.toList=sQuot)=true then some 34 else none)=z:=by
  rw[←hz];unfold named;simp only[decide_eq_true_eq]
 clear hz;generalize decide (s.data.toList=sLt)=b1 at *
 generalize decide (s.data.toList=sGt)=b2 at *
 generalize decide (s.data.toList=sAmp)=b3 at *
 generalize decide (s.data.toList=sApos)=b4 at *
 generalize decide (s.data.toList=sQuot)=b5 at *

 cases b1 with
 | true=>
  have Hr:=hide (show some 60=z from hz');clear hz'
  go_enter Tryz.func132,Tryz.ntmps132
  go_wp2
  go_ret2
  rw[←Hr.out]
  exact⟨rfl,rfl⟩
 | false=>
  cases b2 with
  | true=>
   have Hr:=hide (show some 62=z from hz');clear hz'
   go_enter Tryz.func132,Tryz.ntmps132
   go_wp2
   go_ret2
   rw[←Hr.out]
   exact⟨rfl,rfl⟩
  | false=>
   cases b3 with
   | true=>
    have Hr:=hide (show some 38=z from hz');clear hz'
    go_enter Tryz.func132,Tryz.ntmps132
    go_wp2
    go_ret2
    rw[←Hr.out]
    exact⟨rfl,rfl⟩
   | false=>
    cases b4 with
    | true=>
     have Hr:=hide (show some 39=z from hz');clear hz'
     go_enter Tryz.func132,Tryz.ntmps132
     go_wp2
     go_ret2
     rw[←Hr.out]
     exact⟨rfl,rfl⟩
    | false=>
     cases b5 with
     | true=>
      have Hr:=hide (show some 34=z from hz');clear hz'
      go_enter Tryz.func132,Tryz.ntmps132
      go_wp2
      go_ret2
      rw[←Hr.out]
      exact⟨rfl,rfl⟩
     | false=>
      have Hr:=hide (show none=z from hz');clear hz'
      go_enter Tryz.func132,Tryz.ntmps132
      go_wp2
      go_ret2
      rw[←Hr.out]
      exact⟨rfl,rfl⟩

def hpre(q s:L):Bool:=q.isPrefixOf s
theorem scalar_any(s:ByteArray)(w:World)(HN:∀W,Calls Tryz.prog 131 #[.string s] W fun e w'=>e=.returned (match number s.data.toList with|none=>.tuple #[.int .i64 0,.bool false,.bool false] | some none=>.tuple #[.int .i64 0,.bool true,.bool false] | some (some v)=>.tuple #[.int .i64 ((v:Nat):Int),.bool true,.bool true])∧Below W.heap.size W w') :
  Calls Tryz.prog 92 #[.string s] w fun e w'=>e=.returned (optV (scalar s.data.toList))∧Below w.heap.size w w':=by
 have HNm:=hide (fun W=>named_any s W);have HN':=hide HN;obtain⟨D,hD⟩:∃D,s.data.toList=D:=⟨_,rfl⟩;rw[hD] at HNm HN' ⊢;have hz:scalar D=match number D with|some (some v)=>some v|_=>named D:=rfl
 clear HN hD;obtain⟨z,hzz⟩:∃z,scalar D=z:=⟨_,rfl⟩;rw[hzz] at hz ⊢;clear hzz;generalize named D=nm at *
 cases hn:number D with
 | none=>
  rw[hn] at HN' hz;have Hr:=hide hz;clear hz hn
  cases nm with
  | none=>
   go_enter Tryz.func92,Tryz.ntmps92
   go_wp2_with fail
   refine (HN'.out _).mono ?_
   rintro e w1 ⟨rfl,b1⟩
   go_wp2_with fail
   refine cq (HNm.out _) ?_
   unfold optV;go_wp2;go_ret2;rw[Hr.out];exact⟨rfl,b1⟩
  | some v=>
   go_enter Tryz.func92,Tryz.ntmps92
   go_wp2_with fail
   refine (HN'.out _).mono ?_
   rintro e w1 ⟨rfl,b1⟩
   go_wp2_with fail
   refine cq (HNm.out _) ?_
   unfold optV;go_wp2;go_ret2;rw[Hr.out];exact⟨rfl,b1⟩
 | some x=>
  cases x with
  | none=>
   rw[hn] at HN' hz;have Hr:=hide hz;clear hz hn
   cases nm with
   | none=>
    go_enter Tryz.func92,Tryz.ntmps92
    go_wp2_with fail
    refine (HN'.out _).mono ?_
    rintro e w1 ⟨rfl,b1⟩
    go_wp2_with fail
    refine cq (HNm.out _) ?_
    unfold optV;go_wp2;go_ret2;rw[Hr.out];exact⟨rfl,b1⟩
   | some v=>
    go_enter Tryz.func92,Tryz.ntmps92
    go_wp2_with fail
    refine (HN'.out _).mono ?_
    rintro e w1 ⟨rfl,b1⟩
    go_wp2_with fail
    refine cq (HNm.out _) ?_
    unfold optV;go_wp2;go_ret2;rw[Hr.out];exact⟨rfl,b1⟩
  | some v=>
   rw[hn] at HN' hz;have Hr:=hide hz;clear hz hn
   go_enter Tryz.func92,Tryz.ntmps92
   go_wp2_with fail
   refine (HN'.out _).mono ?_
   rintro e w1 ⟨rfl,b1⟩
   go_wp2;go_ret2;rw[Hr.out];exact⟨rfl,b1⟩
end
section
open Go.RowKit Tk Sx

def cutP(q D:L):L×Bool:=if q.isPrefixOf D then (D.drop q.length,true) else (D,false)
def cutV(x:L×Bool):Value:=.tuple #[.string (bstr x.1),.bool x.2]
theorem cut0_any(D q:L)(w:World)(hD:D.length≤1000000000):Calls Tryz.prog 190 #[.string (bstr D),.string (bstr q)] w fun e w'=>e=.returned (cutV (cutP q D))∧w'=w:=by
 have HP:=hide (show ∀W,Calls Tryz.prog 163 #[.string (bstr D),.string (bstr q)] W fun e w'=>e=.returned (.bool (q.isPrefixOf D))∧w'=W from fun W=>Tryz.stringslite_HasPrefix (bstr D) (bstr q) W)
 cases hp:q.isPrefixOf D with
 | false=>
  rw[hp] at HP;have Hr:=hide (show cutP q D=(D,false) by unfold cutP;rw[hp];rfl);clear hp
  go_enter Tryz.func190,Tryz.ntmps190
  go_wp2_with fail
  refine cq (HP.out _) ?_
  go_wp2
  go_ret2
  rw[Hr.out]
  exact⟨rfl,rfl⟩
 | true=>
  rw[hp] at HP;have hl:=(List.isPrefixOf_iff_prefix.1 hp).length_le;have hb:0≤((bstr q).size:Int)∧((bstr q).size:Int)≤((bstr D).size:Int)∧((bstr D).size:Int)≤((bstr D).size:Int):=by rw[bstr_size,bstr_size];omega
  have hx:(bstr D).extract (bstr q).size (bstr D).size=bstr (D.drop q.length):=by rw[extract_end,bstr_list,bstr_size]
  have Hr:=hide (show cutV (cutP q D)=.tuple #[.string ((bstr D).extract (bstr q).size (bstr D).size),.bool true] by unfold cutP cutV;rw[hp,hx];rfl);clear hp hl hx
  go_enter Tryz.func190,Tryz.ntmps190
  go_wp2_with fail
  refine cq (HP.out _) ?_
  go_wp2
  go_ret2
  rw[Hr.out]
  exact⟨rfl,rfl⟩
theorem cut_any(D q:L)(w:World)(hD:D.length≤1000000000):Calls Tryz.prog 167 #[.string (bstr D),.string (bstr q)] w fun e w'=>e=.returned (cutV (cutP q D))∧w'=w:=by
 have HP:=hide (fun W=>cut0_any D q W hD);obtain⟨x,hx⟩:∃x,cutP q D=x:=⟨_,rfl⟩;rw[hx] at HP ⊢;obtain⟨a,b⟩:=x;unfold cutV at HP ⊢;clear hx
 go_enter Tryz.func167,Tryz.ntmps167
 go_wp2_with fail
 refine cq (HP.out _) ?_
 go_wp2;go_ret2;exact⟨rfl,rfl⟩
def digs(D:L):L×Nat:=if (cutP [120] (cutP [35] D).1).2 then ((cutP [120] (cutP [35] D).1).1,16) else ((cutP [35] D).1,10)
theorem pfx1(c:UInt8)(D:L):([c]:L).isPrefixOf D=decide (D.head?=some c):=by
 cases D with
 | nil=>simp[List.isPrefixOf]
 | cons d r=>
  rw[Bool.eq_iff_iff,decide_eq_true_iff];simp[List.isPrefixOf];exact eq_comm
theorem number_is(D:L):number D=if (cutP [35] D).2=true∧(digs D).1≠[] then (numVal (digs D).2 0 (digs D).1).map chk else none:=by
 unfold number digs cutP;simp only[pfx1]
 by_cases h:D.head?=some 35
 ·simp only[h,decide_true,if_true,if_pos,List.length_cons,List.length_nil,Nat.zero_add,List.drop_one]
  by_cases h2:D.tail.head?=some 120
  ·simp only[h2,decide_true,if_true,if_pos,List.length_cons,List.length_nil,Nat.zero_add,List.drop_one]
   by_cases h3:D.tail.tail=[]
   ·simp[h3]
   simp[h3]
  simp only[h2,decide_false,Bool.false_eq_true,if_false,if_neg]
  by_cases h3:D.tail=[]
  ·simp[h3]
  simp[h3]
 simp[h]
theorem char_sat(v:Nat):charOk ((min v 1073741824:Nat):Int)=charOk (v:Int):=by
 by_cases h:v≤1073741824
 ·rw[Nat.min_eq_left h]
 rw[Nat.min_eq_right (by omega)];have h1:charOk ((1073741824:Nat):Int)=false:=by decide
 rw[h1]
 symm
 unfold charOk Tk.within;rw[Bool.eq_false_iff];intro hc;simp only[Bool.or_eq_true,Bool.and_eq_true,decide_eq_true_eq] at hc;omega
end
section
open Go.RowKit Tk Sx

def numV(o:Option (Option Nat)):Value:=match o with
 | none=>.tuple #[.int .i64 0,.bool false,.bool false]
 | some none=>.tuple #[.int .i64 0,.bool true,.bool false]
 | some (some v)=>.tuple #[.int .i64 ((v:Nat):Int),.bool true,.bool true]
theorem worth_le(c:UInt8):worth c≤16:=by
 unfold worth;split
 ·omega
 split
 ·omega
 split<;>omega
theorem sat_next(v base d:Nat)(hb:1≤base):min (min v 1073741824*base+d) 1073741824=min (v*base+d) 1073741824:=by
 by_cases h:v≤1073741824
 ·rw[Nat.min_eq_left h]
 rw[Nat.min_eq_right (by omega:1073741824≤v)];have h1:1073741824≤1073741824*base:=Nat.le_mul_of_pos_right _ hb;have h2:1073741824*base≤v*base:=Nat.mul_le_mul_right _ (by omega);rw[Nat.min_eq_right (by omega),Nat.min_eq_right (by omega)]

theorem number_any(D:L)(w:World)(hD:D.length≤1000000000) :
  Calls Tryz.prog 131 #[.string (bstr D)] w fun e w'=>e=.returned (numV (number D))∧Below w.heap.size w w':=by
 have H1:=hide (fun W=>cut_any D [35] W hD);have hAl:(cutP [35] D).1.length≤D.length:=by unfold cutP;split<;>simp
 have H2:=hide (fun W=>cut_any (cutP [35] D).1 [120] W (by omega));have hn:=number_is D;unfold digs at hn;obtain⟨x1,hx1⟩:∃x,cutP [35] D=x:=⟨_,rfl⟩;rw[hx1] at H1 H2 hn hAl;obtain⟨A,is⟩:=x1;dsimp only at H2 hn hAl;have hBl:(cutP [120] A).1.length≤A.length:=by unfold cutP;split<;>simp
 obtain⟨x2,hx2⟩:∃x,cutP [120] A=x:=⟨_,rfl⟩;rw[hx2] at H2 hn hBl;obtain⟨B,hex⟩:=x2;dsimp only at hn hBl;unfold cutV at H1 H2;dsimp only at H1 H2;obtain⟨z,hz⟩:∃z,number D=z:=⟨_,rfl⟩;rw[hz] at hn ⊢;obtain⟨E,hE⟩:∃E,(if hex=true then (B,16) else (A,10)).1=E:=⟨_,rfl⟩;obtain⟨base,hbs⟩:∃b,(if hex=true then (B,16) else (A,10)).2=b:=⟨_,rfl⟩;rw[hE,hbs] at hn;have hEl:E.length≤D.length:=by rw[←hE];split<;>(dsimp only;omega)
 have hb:base=10∨base=16:=by rw[←hbs];split<;>simp
 have Hn:=hide hn;have hEe:(bstr E).toList.isEmpty=decide (E=[]):=by rw[ByteArray.toList_eq,bstr_list];cases E<;>simp
 have hEq:((bstr E).toList==([]:L))=decide (E=[]):=by rw[ByteArray.toList_eq,bstr_list];cases E<;>simp
 clear hn hz hx1 hx2 hBl hAl
 cases is with
 | false=>
  have Hr:=hide (show numV z=.tuple #[.int .i64 0,.bool false,.bool false] by rw[Hn.out,if_neg (by simp)];rfl);clear Hn;cases hex
  ·clear hE hbs hEe hEq hb hEl
   go_enter Tryz.func131,Tryz.ntmps131
   go_wp2_with fail
   refine cq (H1.out _) ?_
   go_wp2_with fail
   refine cq (H2.out _) ?_
   go_wp2;go_ret3;rw[Hr.out];exact⟨rfl,Below.refl _ _⟩
  clear hE hbs hEe hEq hb hEl
  go_enter Tryz.func131,Tryz.ntmps131
  go_wp2_with fail
  refine cq (H1.out _) ?_
  go_wp2_with fail
  refine cq (H2.out _) ?_
  go_wp2;go_ret3;rw[Hr.out];exact⟨rfl,Below.refl _ _⟩
 | true=>
  by_cases h0:E=[]
  ·have Hr:=hide (show numV z=.tuple #[.int .i64 0,.bool false,.bool false] by rw[Hn.out,if_neg (by simp[h0])];rfl);rw[decide_eq_true h0] at hEe hEq;clear Hn h0;cases hex
   ·obtain rfl:A=E:=hE;clear hbs hb hEl
    go_enter Tryz.func131,Tryz.ntmps131
    go_wp2_with fail
    refine cq (H1.out _) ?_
    go_wp2_with fail
    refine cq (H2.out _) ?_
    go_wp2;go_ret3;rw[Hr.out];exact⟨rfl,Below.refl _ _⟩
   obtain rfl:B=E:=hE;clear hbs hb hEl
   go_enter Tryz.func131,Tryz.ntmps131
   go_wp2_with fail
   refine cq (H1.out _) ?_
   go_wp2_with fail
   refine cq (H2.out _) ?_
   go_wp2;go_ret3;rw[Hr.out];exact⟨rfl,Below.refl _ _⟩
  rw[decide_eq_false h0] at hEe hEq;have Hz:=hide (show z=(numVal base 0 E).map chk by rw[Hn.out,if_pos ⟨rfl,h0⟩]);obtain⟨W,g,cap,hconv,hbl,hg,hat⟩:=bytes_of (bstr E) w;have Hat:=hide hat;have HB:=hide hbl;rw[bstr_list] at Hat;have HEl:=hide hEl;have Hs:=hide (bstr_size E);have hsz:(bstr E).size≤1000000000:=by rw[bstr_size];omega
  clear Hn h0 hat hbl hEl;have Hb:=hide hb;cases hex
  ·obtain rfl:A=E:=hE;obtain rfl:10=base:=hbs;clear hb
   go_enter Tryz.func131,Tryz.ntmps131
   go_wp2_with fail
   refine cq (H1.out _) ?_
   go_wp2_with fail
   refine cq (H2.out _) ?_
   go_wp2;clear hconv
   go_loopg [2,33] (bstr A).size (fun gk vr vi wr=>∃k v:Nat,gk=(bstr A).size-k∧k≤(bstr A).size∧vi=.int .i64 (k:Int)∧vr=.int .i64 ((min v 1073741824:Nat):Int)∧numVal 10 0 A=numVal 10 v (A.drop k)∧wr=W)
   case atStart=>exact⟨0,0,rfl,by omega,rfl,rfl,rfl,rfl⟩
   case round=>
    obtain⟨k,v,hgk,hk,rfl,rfl,hv,rfl⟩:=hrel;have Hg:=hide hgk;have Hv:=hide hv;clear hgk hv;obtain⟨rr,hrr⟩:∃rr,min v 1073741824=rr:=⟨_,rfl⟩;have Hrr:=hide hrr;have hrl:rr≤1073741824:=by rw[←hrr];exact Nat.min_le_right _ _
    rw[hrr];clear hrr
    by_cases hlt:k<(bstr A).size
    ·obtain⟨c,hc⟩:∃c,A[k]?=some c:=⟨_,List.getElem?_eq_getElem (by rw[←Hs.out];exact hlt)⟩;have hcell:=Hat.out k c hc;have hk0:(0:Int)≤(k:Int):=by omega
     have HW:=hide (fun W=>worth_any c W);have hdr:=drop_cons0 hc;have hstep:numVal 10 v (A.drop k)=if 10≤worth c then none else numVal 10 (v*10+worth c) (A.drop (k+1)):=by rw[hdr];rfl
     have hwl:=worth_le c;generalize worth c=d at *
     have Hst:=hide hstep;clear hstep hdr hc
     by_cases hd:10≤d
     ·have gd:(10:Int)≤(d:Int):=by omega
      have Hr:=hide (show numV z=.tuple #[.int .i64 0,.bool false,.bool false] by rw[Hz.out,Hv.out,Hst.out,if_pos hd];rfl);clear hd Hst
      go_wp2_with fail
      refine cq (HW.out _) ?_
      go_wp2;go_ret3;rw[Hr.out];exact⟨rfl,HB.out⟩
     have gd:¬(10:Int)≤(d:Int):=by omega
     have Hv2:=hide (show numVal 10 0 A=numVal 10 (v*10+d) (A.drop (k+1)) by rw[Hv.out,Hst.out,if_neg hd]);have hw1:IntKind.i64.wrap ((rr:Int)*10)=(rr:Int)*10:=IntWalk.i64_in _ (by omega);have hw2:IntKind.i64.wrap ((rr:Int)*10+(d:Int))=(rr:Int)*10+(d:Int):=IntWalk.i64_in _ (by omega)
     have hmin:min ((rr:Int)*10+(d:Int)) 1073741824=((min (v*10+d) 1073741824:Nat):Int):=by
      rw[←sat_next v 10 d (by omega),Hrr.out];omega
     clear hd Hst
     go_wp2_with fail
     refine cq (HW.out _) ?_
     go_wp2
     go_roundg ((bstr A).size-(k+1))
     case measure=>have:=Hg.out;omega
     case rel=>exact⟨k+1,v*10+d,rfl,by omega,by go_num,rfl,Hv2.out,rfl⟩
    have hfin:numVal 10 v (A.drop k)=some v:=by rw[List.drop_of_length_le (by rw[←Hs.out];omega)];rfl
    have Hfin:=hide hfin;have HCh:=hide (fun W=>char_any (rr:Int) W);have hcs:charOk (rr:Int)=charOk (v:Int):=by rw[←char_sat v,Hrr.out]
    rw[hcs] at HCh;clear hcs hfin
    cases hco:charOk (v:Int) with
    | false=>
     rw[hco] at HCh;have Hr:=hide (show numV z=.tuple #[.int .i64 0,.bool true,.bool false] by rw[Hz.out,Hv.out,Hfin.out,Option.map_some];unfold chk;rw[hco];rfl);clear hco
     go_wp2_with fail
     refine (HCh.out _).mono ?_;rintro e w5 ⟨rfl,b5⟩;go_wp2;go_ret3;rw[Hr.out];exact⟨rfl,HB.out.trans (b5.mono HB.out.size)⟩
    | true=>
     rw[hco] at HCh
     have hvs:rr=v:=by
      rw[←Hrr.out];refine Nat.min_eq_left ?_;rw[←Nat.not_lt];intro h;have:=char_sat v;rw[hco,Nat.min_eq_right (by omega)] at this
      revert this
      decide
     have Hr:=hide (show numV z=.tuple #[.int .i64 (rr:Int),.bool true,.bool true] by rw[Hz.out,Hv.out,Hfin.out,Option.map_some];unfold chk;rw[hco,hvs];rfl);clear hco hvs
     go_wp2_with fail
     refine (HCh.out _).mono ?_;rintro e w5 ⟨rfl,b5⟩;go_wp2;go_ret3;rw[Hr.out];exact⟨rfl,HB.out.trans (b5.mono HB.out.size)⟩
  obtain rfl:B=E:=hE;obtain rfl:16=base:=hbs;clear hb
  go_enter Tryz.func131,Tryz.ntmps131
  go_wp2_with fail
  refine cq (H1.out _) ?_
  go_wp2_with fail
  refine cq (H2.out _) ?_
  go_wp2;clear hconv
  go_loopg [2,33] (bstr B).size (fun gk vr vi wr=>∃k v:Nat,gk=(bstr B).size-k∧k≤(bstr B).size∧vi=.int .i64 (k:Int)∧vr=.int .i64 ((min v 1073741824:Nat):Int)∧numVal 16 0 B=numVal 16 v (B.drop k)∧wr=W)
  case atStart=>exact⟨0,0,rfl,by omega,rfl,rfl,rfl,rfl⟩
  case round=>
   obtain⟨k,v,hgk,hk,rfl,rfl,hv,rfl⟩:=hrel;have Hg:=hide hgk;have Hv:=hide hv;clear hgk hv;obtain⟨rr,hrr⟩:∃rr,min v 1073741824=rr:=⟨_,rfl⟩;have Hrr:=hide hrr;have hrl:rr≤1073741824:=by rw[←hrr];exact Nat.min_le_right _ _
   rw[hrr];clear hrr
   by_cases hlt:k<(bstr B).size
   ·obtain⟨c,hc⟩:∃c,B[k]?=some c:=⟨_,List.getElem?_eq_getElem (by rw[←Hs.out];exact hlt)⟩;have hcell:=Hat.out k c hc;have hk0:(0:Int)≤(k:Int):=by omega
    have HW:=hide (fun W=>worth_any c W);have hdr:=drop_cons0 hc;have hstep:numVal 16 v (B.drop k)=if 16≤worth c then none else numVal 16 (v*16+worth c) (B.drop (k+1)):=by rw[hdr];rfl
    have hwl:=worth_le c;generalize worth c=d at *
    have Hst:=hide hstep;clear hstep hdr hc
    by_cases hd:16≤d
    ·have gd:(16:Int)≤(d:Int):=by omega
     have Hr:=hide (show numV z=.tuple #[.int .i64 0,.bool false,.bool false] by rw[Hz.out,Hv.out,Hst.out,if_pos hd];rfl);clear hd Hst
     go_wp2_with fail
     refine cq (HW.out _) ?_
     go_wp2;go_ret3;rw[Hr.out];exact⟨rfl,HB.out⟩
    have gd:¬(16:Int)≤(d:Int):=by omega
    have Hv2:=hide (show numVal 16 0 B=numVal 16 (v*16+d) (B.drop (k+1)) by rw[Hv.out,Hst.out,if_neg hd]);have hw1:IntKind.i64.wrap ((rr:Int)*16)=(rr:Int)*16:=IntWalk.i64_in _ (by omega);have hw2:IntKind.i64.wrap ((rr:Int)*16+(d:Int))=(rr:Int)*16+(d:Int):=IntWalk.i64_in _ (by omega)
    have hmin:min ((rr:Int)*16+(d:Int)) 1073741824=((min (v*16+d) 1073741824:Nat):Int):=by
     rw[←sat_next v 16 d (by omega),Hrr.out];omega
    clear hd Hst
    go_wp2_with fail
    refine cq (HW.out _) ?_
    go_wp2
    go_roundg ((bstr B).size-(k+1))
    case measure=>have:=Hg.out;omega
    case rel=>exact⟨k+1,v*16+d,rfl,by omega,by go_num,rfl,Hv2.out,rfl⟩
   have hfin:numVal 16 v (B.drop k)=some v:=by rw[List.drop_of_length_le (by rw[←Hs.out];omega)];rfl
   have Hfin:=hide hfin;have HCh:=hide (fun W=>char_any (rr:Int) W);have hcs:charOk (rr:Int)=charOk (v:Int):=by rw[←char_sat v,Hrr.out]
   rw[hcs] at HCh;clear hcs hfin
   cases hco:charOk (v:Int) with
   | false=>
    rw[hco] at HCh;have Hr:=hide (show numV z=.tuple #[.int .i64 0,.bool true,.bool false] by rw[Hz.out,Hv.out,Hfin.out,Option.map_some];unfold chk;rw[hco];rfl);clear hco
    go_wp2_with fail
    refine (HCh.out _).mono ?_;rintro e w5 ⟨rfl,b5⟩;go_wp2;go_ret3;rw[Hr.out];exact⟨rfl,HB.out.trans (b5.mono HB.out.size)⟩
   | true=>
    rw[hco] at HCh
    have hvs:rr=v:=by
     rw[←Hrr.out];refine Nat.min_eq_left ?_;rw[←Nat.not_lt];intro h;have:=char_sat v;rw[hco,Nat.min_eq_right (by omega)] at this
     revert this
     decide
    have Hr:=hide (show numV z=.tuple #[.int .i64 (rr:Int),.bool true,.bool true] by rw[Hz.out,Hv.out,Hfin.out,Option.map_some];unfold chk;rw[hco,hvs];rfl);clear hco hvs
    go_wp2_with fail
    refine (HCh.out _).mono ?_;rintro e w5 ⟨rfl,b5⟩;go_wp2;go_ret3;rw[Hr.out];exact⟨rfl,HB.out.trans (b5.mono HB.out.size)⟩
theorem scal_any(D:L)(w:World)(hD:D.length≤1000000000):Calls Tryz.prog 92 #[.string (bstr D)] w fun e w'=>e=.returned (optV (scalar D))∧Below w.heap.size w w' :=
 scalar_any (bstr D) w fun W=>number_any D W hD
end
section
open Go.RowKit Tk Sx

end
section
open Go.RowKit Tk Sx

end
section
open Go.RowKit Tk Sx

namespace Sx
def glueE(out:L):Except Nat L→Except Nat L
 | .ok l=>.ok (out++l)
 | .error a=>.error a
def sref:Nat→Nat→L→Except Nat L
 | 0,_,_=>.ok []
 | _+1,_,[]=>.ok []
 | f+1,at_,c :: r=>if c≠38 then glueE [c] (sref f (at_+1) r) else match ends r with
  | none=>.error at_
  | some n=>match scalar (r.take n) with
   | none=>.error at_
   | some v=>glueE (putL v) (sref f (at_+n+2) (r.drop (n+1)))
theorem glueE_glue(a b:L)(e:Except Nat L):glueE a (glueE b e)=glueE (a++b) e:=by cases e<;>simp[glueE]
theorem sref_nil{f at_:Nat}:sref f at_ []=.ok []:=by cases f<;>rfl
theorem sref_byte{f k:Nat}{c:UInt8}{r:L}(h:c≠38):sref (f+1) k (c :: r)=glueE [c] (sref f (k+1) r):=by rw[sref,if_pos h]
theorem sref_none{f k:Nat}{r:L}(h:ends r=none):sref (f+1) k (38 :: r)=.error k:=by rw[sref,if_neg (by simp),h]
theorem sref_bad{f k n:Nat}{r:L}(h:ends r=some n)(hs:scalar (r.take n)=none):sref (f+1) k (38 :: r)=.error k:=by rw[sref,if_neg (by simp),h];simp only[hs]
theorem sref_ref{f k n v:Nat}{r:L}(h:ends r=some n)(hs:scalar (r.take n)=some v):sref (f+1) k (38 :: r)=glueE (putL v) (sref f (k+n+2) (r.drop (n+1))):=by rw[sref,if_neg (by simp),h];simp only[hs]
theorem char_scalar{v:Int}(h:charOk v=true):Utf.isScalar v=true:=by
 unfold charOk Tk.within at h;simp only[Bool.or_eq_true,Bool.and_eq_true,decide_eq_true_eq] at h;simp[Utf.isScalar];omega
theorem scalar_is{s:L}{v:Nat}(h:scalar s=some v):Utf.isScalar (v:Int)=true:=by
 unfold scalar at h
 have hn:∀{v:Nat},named s=some v→Utf.isScalar (v:Int)=true:=fun {v} h=>by
  unfold named at h
  repeat' (split at h)
  all_goals first | (cases h;done) | (simp only[Option.some.injEq] at h;subst h;decide)
 cases hm:number s with
 | none=>rw[hm] at h;exact hn h
 | some x=>
  cases x with
  | none=>rw[hm] at h;exact hn h
  | some u=>
   rw[hm] at h;simp only[Option.some.injEq] at h;subst h;refine char_scalar ?_;rw[number_is] at hm
   split at hm
   ·cases hv:numVal (digs s).2 0 (digs s).1 with
    | none=>rw[hv] at hm;cases hm
    | some y=>
     rw[hv,Option.map_some] at hm;unfold chk at hm
     by_cases hc:charOk (y:Int)=true
     ·rw[if_pos hc] at hm;cases hm;exact hc
     rw[if_neg hc] at hm;cases hm
   cases hm
end Sx
def strV(z:Except Nat L):Value:=match z with
 | .ok out=>.tuple #[.string (bstr out),.int .i64 (-1),.int .i64 0]
 | .error a=>.tuple #[.string ⟨#[]⟩,.int .i64 (a:Int),.int .i64 50]
end
end Go.Proofs.YtifiiojchlaghaaGreatDoor
