/- Tokens: a list of tokens in memory, each with a row of attributes of its own. And more. -/
import Derived.Test.YtpdkeckeekchlaaGreatDoorOt06
set_option linter.unusedSimpArgs false
set_option maxHeartbeats 8000000
set_option linter.unusedVariables false
namespace Go.Proofs.YtpdkeckeekchlaaGreatDoor
section
open Go.RowKit Tk

def px(B:Nat)(A:Option Addr):Prop:=∀a,A=some a→B≤a.block
theorem px.more{B B':Nat}{A:Option Addr}(h:px B A)(hB:B'≤B):px B' A:=fun a ha=>Nat.le_trans hB (h a ha)
theorem AB{w:World}{B e size n c:Nat}{A:Option Addr}{xs:List Value}(h:w.ownsRow B e size (.slice A n c) n xs):px B A:=by
 intro a ha;subst ha
 rcases h.2 with ⟨h1,_⟩|⟨g,cap,cur,hv,hb,_⟩
 ·cases h1
 cases hv;exact hb
def Typed(w:World)(A:Option Addr)(t:TypeId):Prop:=∀a,A=some a→bN w a.block t
theorem CY{w:World}{B e size n c:Nat}{A:Option Addr}{xs:List Value}(h:w.ownsRow B e size (.slice A n c) n xs):Typed w A e:=by
 intro a ha;subst ha
 rcases h.2 with ⟨h1,_⟩|⟨g,cap,cur,hv,hb,hh,_⟩
 ·cases h1
 cases hv;exact⟨_,_,hh⟩
theorem zf{w:World}{B e size n c:Nat}{A:Option Addr}{xs:List Value}(h:w.ownsRow B e size (.slice A n c) n xs):n≤c:=by
 rcases h.2 with ⟨h1,_⟩|⟨g,cap,cur,hv,hb,hh,agi⟩
 ·cases h1;omega
 cases hv;exact agi.1
theorem gV{w:World}{k t t':Nat}(h:bN w k t)(h':bN w k t')(hne:t≠t'):False:=by
 obtain⟨cs,fr,h1⟩:=h;obtain⟨cs',fr',h2⟩:=h';rw[h1] at h2;injection h2 with h2
 injection h2 with _ h3
 exact hne h3
structure Tv where
 t:Tok
 A:Option Addr
 c:Nat
def Tv.row(x:Tv):List Value:=CX x.t (.slice x.A x.t.attrs.length x.c) x.t.end_
def si(xs:List Tv):List Value:=xs.flatMap Tv.row
theorem amZ(xs:List Tv)(x:Tv):si (xs++[x])=si xs++x.row:=by simp[si]
theorem am0(x:Tv):∀u∈x.row,u.oneCell'=true:=by
 intro u hu;simp only[Tv.row,CX,List.mem_cons,List.not_mem_nil,or_false] at hu
 rcases hu with rfl|rfl|rfl|rfl|rfl|rfl|rfl<;>rfl
theorem agO:(Tryz.prog.info? 112).map (fun i=>(i.zero,i.size,i.bytes))=some (some (.agg #[.int .i8 0,.string ⟨#[]⟩,.slice none 0 0,.bool false,.string ⟨#[]⟩,.int .i64 0,.int .i64 0]),7,88):=by kernel_rfl
structure Tv.In(x:Tv)(B:Nat)(W:World):Prop where
 a:Reads W W.heap.size 3 x.A x.t.attrs.length (kg x.t.attrs)
 va:px B x.A
 ta:Typed W x.A 183
theorem Reads.same{w w':World}{B B' size n:Nat}{A:Option Addr}{xs:List Value}(h:Reads w B size A n xs)(hk:∀a,A=some a→w'.heap[a.block]?=w.heap[a.block]?)(hB:B≤B'):Reads w' B' size A n xs :=
 ⟨h.1,fun hn=>by
  obtain⟨b,off,e,hb,hc⟩:=h.2 hn;exact⟨b,off,e,by omega,fun j u hu=>(World.cell?_of_block (a:=⟨b,off+j,none⟩) (hk ⟨b,off,none⟩ e)).trans (hc j u hu)⟩⟩
theorem Typed.same{w w':World}{A:Option Addr}{t:TypeId}(h:Typed w A t)(hk:∀a,A=some a→w'.heap[a.block]?=w.heap[a.block]?):Typed w' A t:=fun a ha=>by
 obtain⟨cs,fr,hh⟩:=h a ha;exact⟨cs,fr,(hk a ha).trans hh⟩
theorem Tv.In.turn{x:Tv}{B:Nat}{W W':World}(h:x.In B W)(hk:∀k,B≤k→k<W.heap.size→¬bN W k 112→W'.heap[k]?=W.heap[k]?)(hs:W.heap.size≤W'.heap.size):x.In B W':=by
 have sa:∀a,x.A=some a→W'.heap[a.block]?=W.heap[a.block]?:=fun a ha=>hk _ (h.va a ha) (h.ta a ha).lt fun h2=>gV (h.ta a ha) h2 (by decide);exact⟨h.a.same sa hs,h.va,h.ta.same sa⟩
theorem Tv.In.below{x:Tv}{B:Nat}{W W':World}(h:x.In B W)(hb:Below W.heap.size W W'):x.In B W':=h.turn (fun k _ h2 _=>hb.block k h2) hb.size
theorem Tv.In.more{x:Tv}{B B':Nat}{W:World}(h:x.In B W)(hB:B'≤B):x.In B' W:=⟨h.a,h.va.more hB,h.ta⟩
theorem Tv.In.cY{w:World}{base:Nat}{t:Tok}{A:Option Addr}{c:Nat}(h:w.ownsRow base 183 3 (.slice A t.attrs.length c) t.attrs.length (kg t.attrs)):(Tv.mk t A c).In base w:=⟨Reads.cY h,AB h,CY h⟩
theorem Tv.In.grown{x:Tv}{B base n c:Nat}{A:Option Addr}{W w8:World}{cs:List Value}{o:Obj}(h:x.In B W)(hr:W.ownsRow base 112 7 (.slice A n c) n cs)(hg:(W.alloc o).drew.grownBy w8 (Value.slice A n c).ownBlock):x.In B w8:=by
 refine (h.below (ay W o)).turn (fun k _ hk hT=>?_) hg.size;refine (hg.block k hk fun e=>?_);obtain⟨cs,fr,hh⟩:=(aD hr k e.symm).2;have hlt:=(aD hr k e.symm).2.lt;exact hT ⟨cs,fr,(Below.heap_alloc _ _ _ hlt).trans hh⟩
def abT(w:World)(s:L)(e:Ending)(w':World):Prop :=
 ∃(xs:List Tv) (A:Option Addr) (c n:Nat) (ok:Bool),zu s (xs.map (·.t)) n ok∧xs.length≤s.length∧xs.length≤c∧e=.returned (.tuple #[.slice A xs.length c,.int .i64 (n:Int),.bool ok])∧
  Below w.heap.size w w'∧Reads w' w'.heap.size 7 A xs.length (si xs)∧px w.heap.size A∧Typed w' A 112∧∀x∈xs,x.In w.heap.size w'
end
section
open Go.RowKit Tk

structure Ga where
 name:ByteArray
 value:ByteArray
 at_:Int
structure Gt where
 kind:Int
 name:ByteArray
 ar:List Ga
 A:Option Addr
 c:Nat
 empty:Bool
 text:ByteArray
 at_:Int
 end_:Int
def KE(x:Ga):List Value:=[.string x.name,.string x.value,.int .i64 x.at_]
def AV(x:Gt):List Value:=[.int .i8 x.kind,.string x.name,.slice x.A x.ar.length x.c,.bool x.empty,.string x.text,.int .i64 x.at_,.int .i64 x.end_]
def lz(l:List Ga):List Value:=l.flatMap KE
def xY(l:List Gt):List Value:=l.flatMap AV
theorem aeF:∀(l:List Ga) (k:Nat) (hk:k<l.length) (j:Nat),j<3→(lz l)[k*3+j]?=(KE l[k])[j]?:=by
 intro l
 induction l with
 | nil=>intro k hk;simp at hk
 | cons x l ih=>
  intro k hk j hj;have hl:(KE x).length=3:=rfl;unfold lz;rw[List.flatMap_cons]
  cases k with
  | zero=>rw[List.getElem?_append_left (by omega)];simp
  | succ k=>
   rw[List.getElem?_append_right (by omega),hl,show (k+1)*3+j-3=k*3+j from by omega];exact ih k (by simpa using hk) j hj
theorem aeO:∀(l:List Gt) (k:Nat) (hk:k<l.length) (j:Nat),j<7→(xY l)[k*7+j]?=(AV l[k])[j]?:=by
 intro l
 induction l with
 | nil=>intro k hk;simp at hk
 | cons x l ih=>
  intro k hk j hj;have hl:(AV x).length=7:=rfl;unfold xY;rw[List.flatMap_cons]
  cases k with
  | zero=>rw[List.getElem?_append_left (by omega)];simp
  | succ k=>
   rw[List.getElem?_append_right (by omega),hl,show (k+1)*7+j-7=k*7+j from by omega];exact ih k (by simpa using hk) j hj
structure ZM(w:World)(b o:Nat)(x:Ga):Prop where
 c0:w.cell? ⟨b,o,none⟩=some (.string x.name)
 c1:w.cell? ⟨b,o+1,none⟩=some (.string x.value)
 c2:w.cell? ⟨b,o+2,none⟩=some (.int .i64 x.at_)
structure Pg(w:World)(b o:Nat)(x:Gt):Prop where
 c0:w.cell? ⟨b,o,none⟩=some (.int .i8 x.kind)
 c1:w.cell? ⟨b,o+1,none⟩=some (.string x.name)
 c2:w.cell? ⟨b,o+2,none⟩=some (.slice x.A x.ar.length x.c)
 c3:w.cell? ⟨b,o+3,none⟩=some (.bool x.empty)
 c4:w.cell? ⟨b,o+4,none⟩=some (.string x.text)
 c5:w.cell? ⟨b,o+5,none⟩=some (.int .i64 x.at_)
 c6:w.cell? ⟨b,o+6,none⟩=some (.int .i64 x.end_)
section
variable {w:World} {B:Nat} {A:Option Addr}
theorem Reads.ga{l:List Ga}(h:Reads w B 3 A l.length (lz l)){k:Nat}(hk:k<l.length):∃b off,A=some ⟨b,off,none⟩∧b<B∧ZM w b (off+k*3) l[k]:=by
 obtain⟨b,off,hA,hb,hc⟩:=h.2 (by omega);have hx:=aeF l k hk;refine⟨b,off,hA,hb,?_⟩
 constructor
 ·have:=hc (k*3+0) _ (hx 0 (by omega));simpa using this
 ·have:=hc (k*3+1) _ (hx 1 (by omega));rwa[←Nat.add_assoc] at this
 have:=hc (k*3+2) _ (hx 2 (by omega));rwa[←Nat.add_assoc] at this
theorem Reads.gt{l:List Gt}(h:Reads w B 7 A l.length (xY l)){k:Nat}(hk:k<l.length):∃b off,A=some ⟨b,off,none⟩∧b<B∧Pg w b (off+k*7) l[k]:=by
 obtain⟨b,off,hA,hb,hc⟩:=h.2 (by omega);have hx:=aeO l k hk;refine⟨b,off,hA,hb,?_⟩
 constructor
 ·have:=hc (k*7+0) _ (hx 0 (by omega));simpa using this
 ·have:=hc (k*7+1) _ (hx 1 (by omega));rwa[←Nat.add_assoc] at this
 ·have:=hc (k*7+2) _ (hx 2 (by omega));rwa[←Nat.add_assoc] at this
 ·have:=hc (k*7+3) _ (hx 3 (by omega));rwa[←Nat.add_assoc] at this
 ·have:=hc (k*7+4) _ (hx 4 (by omega));rwa[←Nat.add_assoc] at this
 ·have:=hc (k*7+5) _ (hx 5 (by omega));rwa[←Nat.add_assoc] at this
 have:=hc (k*7+6) _ (hx 6 (by omega));rwa[←Nat.add_assoc] at this
end
theorem ox{w w':World}{a:Addr}{v:Value}(hb:Below w.heap.size w w')(h:w.cell? a=some v):w'.cell? a=some v:=(hb.cell (dE h)).trans h
theorem below_drewN{B:Nat}{w w':World}(h:Below B w w')(m:Nat):Below B w (w'.drewN m):=⟨h.os,h.tape,h.output,h.size,h.block⟩
structure AA(w:World)(B:Nat)(A:Option Addr)(xs:List Gt):Prop where
 row:Reads w B 7 A xs.length (xY xs)
 sub:∀x∈xs,Reads w B 3 x.A x.ar.length (lz x.ar)
end
section
open Go.RowKit Tk Sx

structure aB where
 pre:L
 ns:L
def jH(x:aB):List Value:=[.string (aa x.pre),.string (aa x.ns)]
def aM(l:List aB):List Value:=l.flatMap jH
def zt:L:=[104,116,116,112,58,47,47,119,119,119,46,119,51,46,111,114,103,47,88,77,76,47,49,57,57,56,47,110,97,109,101,115,112,97,99,101]
def G8:L:=[104,116,116,112,58,47,47,119,119,119,46,119,51,46,111,114,103,47,50,48,48,48,47,120,109,108,110,115,47]
def wT:L:=[120,109,108]
def uv(l:List aB)(p:L)(m:Nat):L×Bool:=match (l.take m).reverse.find? fun d=>decide (d.pre=p) with
 | some d=>(d.ns,true)
 | none=>([],decide (p=[]))
def lY(l:List aB)(p:L):L×Bool:=if p=wT then (zt,true) else uv l p l.length
def lX(x:L×Bool):Value:=.tuple #[.string (aa x.1),.bool x.2]
theorem alN{l:List aB}{p:L}:uv l p 0=([],decide (p=[])):=rfl
theorem alM{l:List aB}{p:L}{m:Nat}(h:m<l.length):uv l p (m+1)=if l[m].pre=p then (l[m].ns,true) else uv l p m:=by
 unfold uv;rw[List.take_succ_eq_append_getElem h,List.reverse_append,List.reverse_singleton,List.singleton_append,List.find?_cons]
 by_cases he:l[m].pre=p
 ·rw[if_pos he];simp[he]
 rw[if_neg he];simp[he]
theorem ade(l:List aB):(aM l).length=l.length*2:=by
 induction l with
 | nil=>rfl
 | cons x l ih=>unfold aM at ih ⊢;rw[List.flatMap_cons,List.length_append,ih,List.length_cons];simp[jH];omega
theorem adb:∀(l:List aB) (k:Nat) (hk:k<l.length) (j:Nat),j<2→(aM l)[k*2+j]?=(jH l[k])[j]?:=by
 intro l
 induction l with
 | nil=>intro k hk;simp at hk
 | cons x l ih=>
  intro k hk j hj;have hl:(jH x).length=2:=rfl;unfold aM;rw[List.flatMap_cons]
  cases k with
  | zero=>rw[List.getElem?_append_left (by omega)];simp
  | succ k=>
   rw[List.getElem?_append_right (by omega),hl,show (k+1)*2+j-2=k*2+j from by omega];exact ih k (by simpa using hk) j hj
theorem Reads.mo{w:World}{B:Nat}{A:Option Addr}{l:List aB}(h:Reads w B 2 A l.length (aM l)){k:Nat}(hk:k<l.length) :
  ∃b off,A=some ⟨b,off,none⟩∧b<B∧w.cell? ⟨b,off+k*2,none⟩=some (.string (aa l[k].pre))∧w.cell? ⟨b,off+k*2+1,none⟩=some (.string (aa l[k].ns)):=by
 obtain⟨b,off,hA,hb,hc⟩:=h.2 (by omega);have hx:=adb l k hk;refine⟨b,off,hA,hb,?_,?_⟩
 ·have:=hc (k*2+0) _ (hx 0 (by omega));simpa using this
 have:=hc (k*2+1) _ (hx 1 (by omega));rwa[←Nat.add_assoc] at this
theorem Eo(a b:L):((aa a).toList==(aa b).toList)=decide (a=b):=by
 rw[ByteArray.toList_eq,ByteArray.toList_eq,aZ,aZ,Bool.eq_iff_iff,beq_iff_eq,decide_eq_true_iff]

end
section
open Go.RowKit Tk Sx

theorem Ym(A:Option Addr)(c B:Nat)(l:List aB)(p:L)(w:World)(h:Reads w B 2 A l.length (aM l))(hB:B≤w.heap.size)(hl:l.length≤1000000000) :
  Calls Tryz.prog 79 #[.slice A l.length c,.string (aa p)] w fun e w'=>e=.returned (lX (lY l p))∧Below w.heap.size w w':=by
 have hx:((aa p).toList==[120,109,108])=decide (p=wT):=by rw[ByteArray.toList_eq,aZ,Bool.eq_iff_iff,beq_iff_eq,decide_eq_true_iff];exact Iff.rfl
 have Ly:(aa p).toList.isEmpty=decide (p=[]):=by rw[ByteArray.toList_eq,aZ];cases p<;>simp
 obtain⟨z,hz⟩:∃z,lY l p=z:=⟨_,rfl⟩;rw[hz];unfold lY at hz;have HR:=ap h;obtain⟨n,hn⟩:∃n,l.length=n:=⟨_,rfl⟩;have Hn:=ap hn;rw[hn] at hz hl ⊢;clear h hn
 by_cases hp:p=wT
 ·rw[decide_eq_true hp] at hx;have Hr:=ap (show lX z=.tuple #[.string (aa zt),.bool true] by rw[←hz,if_pos hp];rfl);clear hz hp
  go_enter Tryz.func79,Tryz.ntmps79
  go_wp2;go_ret2;rw[Hr.o];exact⟨rfl,Below.refl _ _⟩
 rw[decide_eq_false hp] at hx;rw[if_neg hp] at hz;have Hz:=ap hz;clear hz hp
 go_enter Tryz.func79,Tryz.ntmps79
 go_wp2
 go_loopg [12] n (fun g v wr=>∃i m:Nat,g=m∧i+m=n∧v=.int .i64 (i:Int)∧uv l p m=z∧Below w.heap.size w wr)
 case atStart=>exact⟨0,n,rfl,by omega,rfl,Hz.o,Below.refl _ _⟩
 case round=>
  obtain⟨i,m,hg,tR,rfl,FU,bh⟩:=hrel;have Hg:=ap hg;have JD:=ap FU;have HB:=ap bh;clear hg FU Hz bh
  cases m with
  | zero=>
   have Hr:=ap (show lX z=.tuple #[.string ⟨#[]⟩,.bool (decide (p=[]))] by rw[←JD.o,alN];rfl);have g0:¬i<n:=by omega
   clear tR;go_wp2;go_ret2;rw[Hr.o];exact⟨rfl,HB.o⟩
  | succ m=>
   have h1:m<l.length:=by rw[Hn.o];omega
   obtain⟨b,off,rfl,hb,c0,c1⟩:=Reads.mo (HR.o.below (HB.o.mono hB)) h1;have hst:=alM (p:=p) h1;have hq:=Eo l[m].pre p;obtain⟨d,hd⟩:∃d,l[m]=d:=⟨_,rfl⟩;rw[hd] at c0 c1 hst hq;have bB:i<n:=by omega
   have wC:m<n:=by omega
   have jN:IntKind.i64.wrap ((n:Int)-1)=(n:Int)-1:=IntWalk.i64_in _ (by omega);have hw2:IntKind.i64.wrap ((n:Int)-1-(i:Int))=(m:Int):=by rw[IntWalk.i64_in _ (by omega)];omega
   have DK:=ap tR;have HT:=ap (ae.new wr 187 #[.string (aa d.pre),.string (aa d.ns)]);have ag:=ap (HB.o.alloc HB.o.size (.cells #[.string (aa d.pre),.string (aa d.ns)] 187));have y0:=ae.cell HT.o 0;have y1:=ae.cell HT.o 1;clear tR
   by_cases he:d.pre=p
   ·rw[decide_eq_true he] at hq;have Hr:=ap (show lX z=.tuple #[.string (aa d.ns),.bool true] by rw[←JD.o,hst,if_pos he];rfl);clear hst he hd;go_wp2;go_ret2;rw[Hr.o];exact⟨rfl,ag.o⟩
   rw[decide_eq_false he] at hq;have Hn2:=ap (show uv l p m=z by rw[←JD.o,hst,if_neg he]);clear hst he hd;go_wp2
   go_roundg m
   case measure=>have:=Hg.o;omega
   case rel=>exact⟨i+1,m,rfl,by have:=DK.o;omega,by first|rfl|go_num,Hn2.o,ag.o⟩
end
section
open Go.RowKit Tk Sx

theorem ajW(r:Int)(w:World)(h:Utf.isScalar r=true):Calls Tryz.prog 236 #[.int .i64 r] w fun e w'=>e=.returned (.bool true)∧w'=w:=by
 simp[Utf.isScalar] at h;have g1:(0:Int)≤r:=h.1;have g2:r≤1114111:=h.2.1
 by_cases h3:r<55296
 ·clear h
  go_enter Tryz.func236,Tryz.ntmps236
  go_wp2;go_ret;exact⟨rfl,rfl⟩
 have g4:57343<r:=by omega
 clear h
 go_enter Tryz.func236,Tryz.ntmps236
 go_wp2;go_ret;exact⟨rfl,rfl⟩
theorem GQ(r:Int)(w:World)(h:Utf.isScalar r=true):Calls Tryz.prog 219 #[.int .i64 r] w fun e w'=>e=.returned (.int .i64 (lenOf r))∧w'=w:=by
 have HI:=ap (fun W=>ajW r W h);obtain⟨z,hz⟩:∃z,lenOf r=z:=⟨_,rfl⟩;rw[hz];unfold lenOf at hz;clear h
 by_cases h1:r<128
 ·have Hr:=ap (show (1:Int)=z by rw[←hz,if_pos h1]);clear hz
  go_enter Tryz.func219,Tryz.ntmps219
  go_wp2_with fail
  refine cq (HI.o _) ?_
  go_wp2
  go_ret
  exact⟨aC (int_eq (Hr.o)),rfl⟩
 by_cases h2:r<2048
 ·have Hr:=ap (show (2:Int)=z by rw[←hz,if_neg h1,if_pos h2]);clear hz
  go_enter Tryz.func219,Tryz.ntmps219
  go_wp2_with fail
  refine cq (HI.o _) ?_
  go_wp2
  go_ret
  exact⟨aC (int_eq (Hr.o)),rfl⟩
 by_cases h3:r<65536
 ·have Hr:=ap (show (3:Int)=z by rw[←hz,if_neg h1,if_neg h2,if_pos h3]);clear hz
  go_enter Tryz.func219,Tryz.ntmps219
  go_wp2_with fail
  refine cq (HI.o _) ?_
  go_wp2
  go_ret
  exact⟨aC (int_eq (Hr.o)),rfl⟩
 have Hr:=ap (show (4:Int)=z by rw[←hz,if_neg h1,if_neg h2,if_neg h3]);clear hz
 go_enter Tryz.func219,Tryz.ntmps219
 go_wp2_with fail
 refine cq (HI.o _) ?_
 go_wp2
 go_ret
 exact⟨aC (int_eq (Hr.o)),rfl⟩

theorem FX(x y:Int)(k:Nat)(h0:0≤x)(hy:0≤y)(hk:y<2 ^ k)(hx:x*2 ^ k+y<9223372036854775808)(z:Int)(hz:z=x*2 ^ k):bits .or .i64 z y=z+y:=by
 subst hz;exact VL x y k h0 hy hk hx
theorem yM(x:Int)(h0:0≤x)(h1:x<9223372036854775808):bits .and .i64 x 63=x % 64:=ug x 6 h0 h1 (by omega) _ rfl
theorem y9(x:Int):bits .or .i64 128 (x % 64)=128+x % 64:=FX 2 _ 6 (by omega) (by omega) (by omega) (by omega) _ rfl
def gY(r:Int):L:=(Utf.put r).map bv
def ln(r:Int)(w:World)(e:Ending)(w':World):Prop:=e=.returned (.tuple #[.string (aa (gY r)),.bool true])∧Below w.heap.size w w'
theorem ln.of{r:Int}{w w':World}{t:ByteArray}{e:Ending}(he:e=.returned (.tuple #[.string t,.bool true]))(ht:fS t (gY r))(hb:Below w.heap.size w w'):ln r w e w':=by
 unfold fS at ht;have:t=aa (gY r):=by rw[←ht,vC]
 subst this;exact⟨he,hb⟩
theorem aj5(r:Int)(w:World)(h:Utf.isScalar r=true)(h1:r<128):Calls Tryz.prog 189 #[.int .i64 r] w (ln r w):=by
 have HL:=ap (show ∀W,Calls Tryz.prog 219 #[.int .i64 r] W fun e w'=>e=.returned (.int .i64 1)∧w'=W from fun W=>by have:=GQ r W h;unfold lenOf at this;rwa[if_pos h1] at this);have h0:0≤r∧r≤1114111:=by simp[Utf.isScalar] at h;omega
 have HP:=ap (show [bv (r)]=gY r by
  unfold gY Utf.put;rw[if_pos h1];simp only[List.map_cons,List.map_nil]
  all_goals rw[show (r)=(r:Int) by omega])
 clear h
 go_enter Tryz.func189,Tryz.ntmps189
 go_wp2_with fail
 refine cq (HL.o _) ?_
 go_wp2_with (with_reducible show wpList _ _ _ (⟨_,.convert 50 9 _,_,_,_,_⟩ :: _) _ _;refine nW rfl 50 9 5 _ rfl Tryz.underlying50 Tryz.underlying5 Tryz.underlying9 w.heap.size _ 1 rfl _ (aiI w _ _ _ rfl (Nat.le_refl _) (r) ⟨by omega,by omega⟩) ?_;intro t ht)
 go_ret2;exact ln.of rfl (by rw[←HP.o];exact ht) (ay w _)
theorem aj6(r:Int)(w:World)(h:Utf.isScalar r=true)(h1:¬r<128)(h2:r<2048):Calls Tryz.prog 189 #[.int .i64 r] w (ln r w):=by
 have HL:=ap (show ∀W,Calls Tryz.prog 219 #[.int .i64 r] W fun e w'=>e=.returned (.int .i64 2)∧w'=W from fun W=>by have:=GQ r W h;unfold lenOf at this;rwa[if_neg h1,if_pos h2] at this);have h0:0≤r∧r≤1114111:=by simp[Utf.isScalar] at h;omega
 have a0:bits .and .i64 r 63=r % 64:=yM r (by omega) (by omega);have b0:=y9 r;have o1:bits .or .i64 192 (r / 64)=192+r / 64:=FX 6 _ 5 (by omega) (by omega) (by omega) (by omega) _ rfl
 have HP:=ap (show [bv ((192+r / 64)),bv ((128+r % 64))]=gY r by
  unfold gY Utf.put;rw[if_neg h1,if_pos h2];simp only[List.map_cons,List.map_nil]
  all_goals rw[show ((192+r / 64))=(192+r / 64:Int) by omega,show ((128+r % 64))=(128+r % 64:Int) by omega])
 clear h
 go_enter Tryz.func189,Tryz.ntmps189
 go_wp2_with fail
 refine cq (HL.o _) ?_
 go_wp2_with (with_reducible show wpList _ _ _ (⟨_,.convert 50 9 _,_,_,_,_⟩ :: _) _ _;refine nW rfl 50 9 5 _ rfl Tryz.underlying50 Tryz.underlying5 Tryz.underlying9 w.heap.size _ 2 rfl _ (Xc w _ _ _ rfl (Nat.le_refl _) ((192+r / 64)) ((128+r % 64)) ⟨by omega,by omega⟩ ⟨by omega,by omega⟩) ?_;intro t ht)
 go_ret2;exact ln.of rfl (by rw[←HP.o];exact ht) (ay w _)
theorem aj7(r:Int)(w:World)(h:Utf.isScalar r=true)(h1:¬r<128)(h2:¬r<2048)(h3:r<65536):Calls Tryz.prog 189 #[.int .i64 r] w (ln r w):=by
 have HL:=ap (show ∀W,Calls Tryz.prog 219 #[.int .i64 r] W fun e w'=>e=.returned (.int .i64 3)∧w'=W from fun W=>by have:=GQ r W h;unfold lenOf at this;rwa[if_neg h1,if_neg h2,if_pos h3] at this);have h0:0≤r∧r≤1114111:=by simp[Utf.isScalar] at h;omega
 have a0:bits .and .i64 r 63=r % 64:=yM r (by omega) (by omega);have b0:=y9 r;have a1:bits .and .i64 (r / 64) 63=r / 64 % 64:=yM _ (by omega) (by omega);have b1:=y9 (r / 64);have o1:bits .or .i64 224 (r / 4096)=224+r / 4096:=FX 14 _ 4 (by omega) (by omega) (by omega) (by omega) _ rfl
 have HP:=ap (show [bv ((224+r / 4096)),bv ((128+r / 64 % 64)),bv ((128+r % 64))]=gY r by
  unfold gY Utf.put;rw[if_neg h1,if_neg h2,if_pos h3];simp only[List.map_cons,List.map_nil]
  all_goals rw[show ((224+r / 4096))=(224+r / 64 / 64:Int) by omega,show ((128+r / 64 % 64))=(128+r / 64 % 64:Int) by omega,show ((128+r % 64))=(128+r % 64:Int) by omega])
 clear h
 go_enter Tryz.func189,Tryz.ntmps189
 go_wp2_with fail
 refine cq (HL.o _) ?_
 go_wp2_with (with_reducible show wpList _ _ _ (⟨_,.convert 50 9 _,_,_,_,_⟩ :: _) _ _;refine nW rfl 50 9 5 _ rfl Tryz.underlying50 Tryz.underlying5 Tryz.underlying9 w.heap.size _ 3 rfl _ (Xd w _ _ _ rfl (Nat.le_refl _) ((224+r / 4096)) ((128+r / 64 % 64)) ((128+r % 64)) ⟨by omega,by omega⟩ ⟨by omega,by omega⟩ ⟨by omega,by omega⟩) ?_;intro t ht)
 go_ret2;exact ln.of rfl (by rw[←HP.o];exact ht) (ay w _)
theorem aj8(r:Int)(w:World)(h:Utf.isScalar r=true)(h1:¬r<128)(h2:¬r<2048)(h3:¬r<65536):Calls Tryz.prog 189 #[.int .i64 r] w (ln r w):=by
 have HL:=ap (show ∀W,Calls Tryz.prog 219 #[.int .i64 r] W fun e w'=>e=.returned (.int .i64 4)∧w'=W from fun W=>by have:=GQ r W h;unfold lenOf at this;rwa[if_neg h1,if_neg h2,if_neg h3] at this);have h0:0≤r∧r≤1114111:=by simp[Utf.isScalar] at h;omega
 have a0:bits .and .i64 r 63=r % 64:=yM r (by omega) (by omega);have b0:=y9 r;have a1:bits .and .i64 (r / 64) 63=r / 64 % 64:=yM _ (by omega) (by omega);have b1:=y9 (r / 64);have a2:bits .and .i64 (r / 4096) 63=r / 4096 % 64:=yM _ (by omega) (by omega);have b2:=y9 (r / 4096);have o1:bits .or .i64 240 (r / 262144)=240+r / 262144:=FX 30 _ 3 (by omega) (by omega) (by omega) (by omega) _ rfl
 have HP:=ap (show [bv ((240+r / 262144)),bv ((128+r / 4096 % 64)),bv ((128+r / 64 % 64)),bv ((128+r % 64))]=gY r by
  unfold gY Utf.put;rw[if_neg h1,if_neg h2,if_neg h3];simp only[List.map_cons,List.map_nil]
  all_goals rw[show ((240+r / 262144))=(240+r / 64 / 64 / 64:Int) by omega,show ((128+r / 4096 % 64))=(128+r / 64 / 64 % 64:Int) by omega,show ((128+r / 64 % 64))=(128+r / 64 % 64:Int) by omega,show ((128+r % 64))=(128+r % 64:Int) by omega])
 clear h
 go_enter Tryz.func189,Tryz.ntmps189
 go_wp2_with fail
 refine cq (HL.o _) ?_
 go_wp2_with (with_reducible show wpList _ _ _ (⟨_,.convert 50 9 _,_,_,_,_⟩ :: _) _ _;refine nW rfl 50 9 5 _ rfl Tryz.underlying50 Tryz.underlying5 Tryz.underlying9 w.heap.size _ 4 rfl _ (Xe w _ _ _ rfl (Nat.le_refl _) ((240+r / 262144)) ((128+r / 4096 % 64)) ((128+r / 64 % 64)) ((128+r % 64)) ⟨by omega,by omega⟩ ⟨by omega,by omega⟩ ⟨by omega,by omega⟩ ⟨by omega,by omega⟩) ?_;intro t ht)
 go_ret2;exact ln.of rfl (by rw[←HP.o];exact ht) (ay w _)
theorem aj9(r:Int)(w:World)(h:Utf.isScalar r=true):Calls Tryz.prog 189 #[.int .i64 r] w (ln r w):=by
 by_cases h1:r<128
 ·exact aj5 r w h h1
 by_cases h2:r<2048
 ·exact aj6 r w h h1 h2
 by_cases h3:r<65536
 ·exact aj7 r w h h1 h2 h3
 exact aj8 r w h h1 h2 h3
theorem aiT(r:Int)(w:World)(h:Utf.isScalar r=true):Calls Tryz.prog 118 #[.int .i64 r] w (ln r w) :=
 (Nt r w h).mono fun _ _ ⟨⟨_,he,ht⟩,hb⟩=>ln.of he ht hb
theorem Ns(r:Int):(gY r).length≤4:=by unfold gY;rw[List.length_map];exact zj r
end
section
open Go.RowKit Tk

theorem Nx(r a b:Int)(w:World):Calls Tryz.prog 138 #[.int .i64 r,.int .i64 a,.int .i64 b] w fun e w'=>e=.returned (.bool (Tk.within r a b))∧w'=w:=by
 unfold Tk.within
 by_cases h1:a≤r
 ·by_cases h2:r≤b
  ·go_enter Tryz.func138,Tryz.ntmps138
   go_wp2;go_ret;simp[h1,h2]
  go_enter Tryz.func138,Tryz.ntmps138
  go_wp2;go_ret;simp[h1,h2]
 go_enter Tryz.func138,Tryz.ntmps138
 go_wp2;go_ret;simp[h1];intro h;omega
theorem acL(r:Int):bX r=(decide (r=9)||(decide (r=10)||(decide (r=13)||(Tk.within r 32 55295||(Tk.within r 57344 65533||Tk.within r 65536 1114111))))):=by
 have e:(Tk.within r 9 10||Tk.within r 13 13)=(decide (r=9)||(decide (r=10)||decide (r=13))):=by
  unfold Tk.within;rw[Bool.eq_iff_iff];simp only[Bool.or_eq_true,Bool.and_eq_true,decide_eq_true_eq];omega
 unfold bX;rw[e];simp only[Bool.or_assoc]
theorem ajO(r:Int)(w:World):Calls Tryz.prog 100 #[.int .i64 r] w fun e w'=>e=.returned (.bool (bX r))∧w'=w:=by
 rw[acL];have HA:=ap (Nx r 32 55295);have HB:=ap (Nx r 57344 65533);have HC:=ap (Nx r 65536 1114111);generalize Tk.within r 32 55295=a at *
 generalize Tk.within r 57344 65533=b at *
 generalize Tk.within r 65536 1114111=c at *
 by_cases h1:r=9
 ·have th1:(r==9)=true:=by simpa using h1
  go_enter Tryz.func100,Tryz.ntmps100
  go_wp2;go_ret;exact⟨aC (aR (by simp[*])),rfl⟩
 have th1:(r==9)=false:=by simpa using h1
 by_cases h2:r=10
 ·have th2:(r==10)=true:=by simpa using h2
  go_enter Tryz.func100,Tryz.ntmps100
  go_wp2;go_ret;exact⟨aC (aR (by simp[*])),rfl⟩
 have th2:(r==10)=false:=by simpa using h2
 by_cases h3:r=13
 ·have th3:(r==13)=true:=by simpa using h3
  go_enter Tryz.func100,Tryz.ntmps100
  go_wp2;go_ret;exact⟨aC (aR (by simp[*])),rfl⟩
 have th3:(r==13)=false:=by simpa using h3
 cases a with
 | true=>
  go_enter Tryz.func100,Tryz.ntmps100
  go_wp2_with fail
  refine (HA.o _).mono ?_;rintro e w' ⟨rfl,rfl⟩;go_wp2;go_ret;exact⟨aC (aR (by simp[*])),rfl⟩
 | false=>
  cases b with
  | true=>
   go_enter Tryz.func100,Tryz.ntmps100
   go_wp2_with fail
   refine (HA.o _).mono ?_;rintro e w' ⟨rfl,rfl⟩
   go_wp2_with fail
   refine (HB.o _).mono ?_;rintro e w' ⟨rfl,rfl⟩;go_wp2;go_ret;exact⟨aC (aR (by simp[*])),rfl⟩
  | false=>
   cases c with
   | true=>
    go_enter Tryz.func100,Tryz.ntmps100
    go_wp2_with fail
    refine (HA.o _).mono ?_;rintro e w' ⟨rfl,rfl⟩
    go_wp2_with fail
    refine (HB.o _).mono ?_;rintro e w' ⟨rfl,rfl⟩
    go_wp2_with fail
    refine (HC.o _).mono ?_;rintro e w' ⟨rfl,rfl⟩;go_wp2;go_ret;exact⟨aC (aR (by simp[*])),rfl⟩
   | false=>
    go_enter Tryz.func100,Tryz.ntmps100
    go_wp2_with fail
    refine (HA.o _).mono ?_;rintro e w' ⟨rfl,rfl⟩
    go_wp2_with fail
    refine (HB.o _).mono ?_;rintro e w' ⟨rfl,rfl⟩
    go_wp2_with fail
    refine (HC.o _).mono ?_;rintro e w' ⟨rfl,rfl⟩;go_wp2;go_ret;exact⟨aC (aR (by simp[*])),rfl⟩

theorem ajN(s:ByteArray)(w:World)(hs:s.size≤1000000000) :
  Calls Tryz.prog 69 #[.string s] w fun e w'=>e=.returned (.int .i64 (bad s.data.toList))∧w'=w:=by
 obtain⟨z,hz⟩:∃z,bad s.data.toList=z:=⟨_,rfl⟩;have Hz:=ap (show (match ((Utf.from_ 0 (s.data.toList.drop 0)).find? (fun p=>!bX p.2)).map (·.1) with|some k=>(k:Int) | none=>-1)=z from by rw[←hz];rfl);rw[hz];clear hz
 go_enter Tryz.func69,Tryz.ntmps69
 go_wp2
 go_loopg [3] s.size (fun g v wr=>∃k:Nat,g=s.size-k∧k≤s.size∧v=.int .i64 (k:Int)∧(match ((Utf.from_ k (s.data.toList.drop k)).find? (fun p=>!bX p.2)).map (·.1) with|some k=>(k:Int) | none=>-1)=z∧wr=w)
 case atStart=>exact⟨0,rfl,by omega,rfl,Hz.o,rfl⟩
 case round=>
  obtain⟨k,hg,hk,rfl,hz,rfl⟩:=hrel;have Hg:=ap hg
  by_cases hlt:k<s.size
  ·have hN:=MZ s (k:Int) wr (by omega) (by omega) hs;rw[Int.toNat_natCast] at hN;have fJ:=ER s k hlt;have hp:=GI s k hlt;rw[fJ,List.find?_cons] at hz;obtain⟨f,hf⟩:∃f,Utf.piece (s.data.toList.drop k)=f:=⟨_,rfl⟩;rw[hf] at hN hz hp;have HC:=ap (ajO f.1);have ek:=J5 f.1;dsimp only at hz
   cases hc:bX f.1 with
   | false=>
    rw[hc] at hz HC;have j6:=ap (show (k:Int)=z from hz)
    by_cases hn:f.1<0
    ·have HN:=ap (show Calls Tryz.prog 99 #[.string s,.int .i64 (k:Int)] wr fun e w'=>e=.returned (.tuple #[.int .i64 0,.int .i64 0,.bool false])∧wr=w' from by
      unfold kO at hN;rw[if_pos hn] at hN;exact hN)
     clear hN hz fJ hf hg hc ek hn
     go_wp2_with fail
     refine HN.o.mono ?_;rintro e w' ⟨rfl,rfl⟩;go_wp2;go_ret;exact⟨aC (int_eq j6.o),rfl⟩
    have HN:=ap (show Calls Tryz.prog 99 #[.string s,.int .i64 (k:Int)] wr fun e w'=>e=.returned (.tuple #[.int .i64 f.1,.int .i64 f.2,.bool true])∧wr=w' from by
     unfold kO at hN;rw[if_neg hn] at hN;exact hN)
    clear hN hz fJ hf hg hc ek hn
    go_wp2_with fail
    refine HN.o.mono ?_;rintro e w' ⟨rfl,rfl⟩
    go_wp2_with fail
    refine (HC.o _).mono ?_;rintro e w' ⟨rfl,rfl⟩;go_wp2;go_ret;exact⟨aC (int_eq j6.o),rfl⟩
   | true=>
    rw[hc] at hz HC;have hn:¬f.1<0:=fun h=>by rw[ek h] at hc;cases hc
    have j6:=ap hz
    have HN:=ap (show Calls Tryz.prog 99 #[.string s,.int .i64 (k:Int)] wr fun e w'=>e=.returned (.tuple #[.int .i64 f.1,.int .i64 f.2,.bool true])∧wr=w' from by
      unfold kO at hN;rw[if_neg hn] at hN;exact hN)
    obtain⟨m,hm⟩:∃m:Nat,f.2=m:=⟨f.2.toNat,by omega⟩;have e2:f.2.toNat=m:=by omega
    rw[e2] at j6;rw[hm] at HN hp;clear hN hz fJ hf hg hc ek hn e2 hm
    go_wp2_with fail
    refine HN.o.mono ?_;rintro e w' ⟨rfl,rfl⟩
    go_wp2_with fail
    refine (HC.o _).mono ?_;rintro e w' ⟨rfl,rfl⟩;go_wp2
    go_roundg (s.size-(k+m))
    case measure=>have:=Hg.o;omega
    case rel=>exact⟨k+m,rfl,by omega,by go_num,j6.o,rfl⟩
  have tT:k=s.size:=by omega
  subst tT;have j6:=ap (show (-1:Int)=z from by rw[←hz,List.drop_of_length_le (by rw[bV];exact Nat.le_refl _)];rfl);clear hz;go_wp2;go_ret;exact⟨aC (int_eq j6.o),rfl⟩
end
section
open Go.RowKit Tk Sx

def o5(o:Option Nat):Value:=match o with
 | some v=>.tuple #[.int .i64 (v:Int),.bool true]
 | none=>.tuple #[.int .i64 0,.bool false]
theorem kL(s:ByteArray)(q:L):(s.toList==q)=decide (s.data.toList=q):=by
 rw[ByteArray.toList_eq,Bool.eq_iff_iff,beq_iff_eq,decide_eq_true_iff]
theorem ahP(s:ByteArray)(w:World):Calls Tryz.prog 159 #[.string s] w fun e w'=>e=.returned (o5 (named s.data.toList))∧w'=w:=by
 have h1:(s.toList==[108,116])=decide (s.data.toList=CQ):=kL s CQ;have h2:(s.toList==[103,116])=decide (s.data.toList=CP):=kL s CP;have h3:(s.toList==[97,109,112])=decide (s.data.toList=CN):=kL s CN;have h4:(s.toList==[97,112,111,115])=decide (s.data.toList=CO):=kL s CO;have h5:(s.toList==[113,117,111,116])=decide (s.data.toList=CR):=kL s CR;obtain⟨z,hz⟩:∃z,named s.data.toList=z:=⟨_,rfl⟩;rw[hz]
 have hz':(if decide (s.data.toList=CQ)=true then some 60 else if decide (s.data.toList=CP)=true then some 62 else if decide (s.data.toList=CN)=true then some 38 else if decide (s.data.toList=CO)=true then some 39 else if decide (s.data.toList=CR)=true then some 34 else none)=z:=by
  rw[←hz];unfold named;simp only[decide_eq_true_eq]
 clear hz;generalize decide (s.data.toList=CQ)=b1 at *
 generalize decide (s.data.toList=CP)=b2 at *
 generalize decide (s.data.toList=CN)=b3 at *
 generalize decide (s.data.toList=CO)=b4 at *
 generalize decide (s.data.toList=CR)=b5 at *

 cases b1 with
 | true=>
  have Hr:=ap (show some 60=z from hz');clear hz'
  go_enter Tryz.func159,Tryz.ntmps159
  go_wp2
  go_ret2
  rw[←Hr.o]
  exact⟨rfl,rfl⟩
 | false=>
  cases b2 with
  | true=>
   have Hr:=ap (show some 62=z from hz');clear hz'
   go_enter Tryz.func159,Tryz.ntmps159
   go_wp2
   go_ret2
   rw[←Hr.o]
   exact⟨rfl,rfl⟩
  | false=>
   cases b3 with
   | true=>
    have Hr:=ap (show some 38=z from hz');clear hz'
    go_enter Tryz.func159,Tryz.ntmps159
    go_wp2
    go_ret2
    rw[←Hr.o]
    exact⟨rfl,rfl⟩
   | false=>
    cases b4 with
    | true=>
     have Hr:=ap (show some 39=z from hz');clear hz'
     go_enter Tryz.func159,Tryz.ntmps159
     go_wp2
     go_ret2
     rw[←Hr.o]
     exact⟨rfl,rfl⟩
    | false=>
     cases b5 with
     | true=>
      have Hr:=ap (show some 34=z from hz');clear hz'
      go_enter Tryz.func159,Tryz.ntmps159
      go_wp2
      go_ret2
      rw[←Hr.o]
      exact⟨rfl,rfl⟩
     | false=>
      have Hr:=ap (show none=z from hz');clear hz'
      go_enter Tryz.func159,Tryz.ntmps159
      go_wp2
      go_ret2
      rw[←Hr.o]
      exact⟨rfl,rfl⟩

def jx(q s:L):Bool:=q.isPrefixOf s
theorem ale(s:ByteArray)(w:World)(HN:∀W,Calls Tryz.prog 158 #[.string s] W fun e w'=>e=.returned (match number s.data.toList with|none=>.tuple #[.int .i64 0,.bool false,.bool false] | some none=>.tuple #[.int .i64 0,.bool true,.bool false] | some (some v)=>.tuple #[.int .i64 ((v:Nat):Int),.bool true,.bool true])∧Below W.heap.size W w') :
  Calls Tryz.prog 117 #[.string s] w fun e w'=>e=.returned (o5 (scalar s.data.toList))∧Below w.heap.size w w':=by
 have eQ:=ap (fun W=>ahP s W);have qC:=ap HN;obtain⟨D,hD⟩:∃D,s.data.toList=D:=⟨_,rfl⟩;rw[hD] at eQ qC ⊢;have hz:scalar D=match number D with|some (some v)=>some v|_=>named D:=rfl
 clear HN hD;obtain⟨z,hzz⟩:∃z,scalar D=z:=⟨_,rfl⟩;rw[hzz] at hz ⊢;clear hzz;generalize named D=nm at *
 cases hn:number D with
 | none=>
  rw[hn] at qC hz;have Hr:=ap hz;clear hz hn
  cases nm with
  | none=>
   go_enter Tryz.func117,Tryz.ntmps117
   go_wp2_with fail
   refine (qC.o _).mono ?_
   rintro e w1 ⟨rfl,b1⟩
   go_wp2_with fail
   refine cq (eQ.o _) ?_
   unfold o5;go_wp2;go_ret2;rw[Hr.o];exact⟨rfl,b1⟩
  | some v=>
   go_enter Tryz.func117,Tryz.ntmps117
   go_wp2_with fail
   refine (qC.o _).mono ?_
   rintro e w1 ⟨rfl,b1⟩
   go_wp2_with fail
   refine cq (eQ.o _) ?_
   unfold o5;go_wp2;go_ret2;rw[Hr.o];exact⟨rfl,b1⟩
 | some x=>
  cases x with
  | none=>
   rw[hn] at qC hz;have Hr:=ap hz;clear hz hn
   cases nm with
   | none=>
    go_enter Tryz.func117,Tryz.ntmps117
    go_wp2_with fail
    refine (qC.o _).mono ?_
    rintro e w1 ⟨rfl,b1⟩
    go_wp2_with fail
    refine cq (eQ.o _) ?_
    unfold o5;go_wp2;go_ret2;rw[Hr.o];exact⟨rfl,b1⟩
   | some v=>
    go_enter Tryz.func117,Tryz.ntmps117
    go_wp2_with fail
    refine (qC.o _).mono ?_
    rintro e w1 ⟨rfl,b1⟩
    go_wp2_with fail
    refine cq (eQ.o _) ?_
    unfold o5;go_wp2;go_ret2;rw[Hr.o];exact⟨rfl,b1⟩
  | some v=>
   rw[hn] at qC hz;have Hr:=ap hz;clear hz hn
   go_enter Tryz.func117,Tryz.ntmps117
   go_wp2_with fail
   refine (qC.o _).mono ?_
   rintro e w1 ⟨rfl,b1⟩
   go_wp2;go_ret2;rw[Hr.o];exact⟨rfl,b1⟩
end
section
open Go.RowKit Tk Sx

def gw(q D:L):L×Bool:=if q.isPrefixOf D then (D.drop q.length,true) else (D,false)
def xO(x:L×Bool):Value:=.tuple #[.string (aa x.1),.bool x.2]
theorem ac3(D q:L)(w:World)(hD:D.length≤1000000000):Calls Tryz.prog 228 #[.string (aa D),.string (aa q)] w fun e w'=>e=.returned (xO (gw q D))∧w'=w:=by
 have HP:=ap (show ∀W,Calls Tryz.prog 200 #[.string (aa D),.string (aa q)] W fun e w'=>e=.returned (.bool (q.isPrefixOf D))∧w'=W from fun W=>Tryz.stringslite_HasPrefix (aa D) (aa q) W)
 cases hp:q.isPrefixOf D with
 | false=>
  rw[hp] at HP;have Hr:=ap (show gw q D=(D,false) by unfold gw;rw[hp];rfl);clear hp
  go_enter Tryz.func228,Tryz.ntmps228
  go_wp2_with fail
  refine cq (HP.o _) ?_
  go_wp2
  go_ret2
  rw[Hr.o]
  exact⟨rfl,rfl⟩
 | true=>
  rw[hp] at HP;have hl:=(List.isPrefixOf_iff_prefix.1 hp).length_le;have hb:0≤((aa q).size:Int)∧((aa q).size:Int)≤((aa D).size:Int)∧((aa D).size:Int)≤((aa D).size:Int):=by rw[aO,aO];omega
  have hx:(aa D).extract (aa q).size (aa D).size=aa (D.drop q.length):=by rw[ko,aZ,aO]
  have Hr:=ap (show xO (gw q D)=.tuple #[.string ((aa D).extract (aa q).size (aa D).size),.bool true] by unfold gw xO;rw[hp,hx];rfl);clear hp hl hx
  go_enter Tryz.func228,Tryz.ntmps228
  go_wp2_with fail
  refine cq (HP.o _) ?_
  go_wp2
  go_ret2
  rw[Hr.o]
  exact⟨rfl,rfl⟩
theorem Sy(D q:L)(w:World)(hD:D.length≤1000000000):Calls Tryz.prog 204 #[.string (aa D),.string (aa q)] w fun e w'=>e=.returned (xO (gw q D))∧w'=w:=by
 have HP:=ap (fun W=>ac3 D q W hD);obtain⟨x,hx⟩:∃x,gw q D=x:=⟨_,rfl⟩;rw[hx] at HP ⊢;obtain⟨a,b⟩:=x;unfold xO at HP ⊢;clear hx
 go_enter Tryz.func204,Tryz.ntmps204
 go_wp2_with fail
 refine cq (HP.o _) ?_
 go_wp2;go_ret2;exact⟨rfl,rfl⟩
def vD(D:L):L×Nat:=if (gw [120] (gw [35] D).1).2 then ((gw [120] (gw [35] D).1).1,16) else ((gw [35] D).1,10)
theorem aja(c:UInt8)(D:L):([c]:L).isPrefixOf D=decide (D.head?=some c):=by
 cases D with
 | nil=>simp[List.isPrefixOf]
 | cons d r=>
  rw[Bool.eq_iff_iff,decide_eq_true_iff];simp[List.isPrefixOf];exact eq_comm
theorem WN(D:L):number D=if (gw [35] D).2=true∧(vD D).1≠[] then (gW (vD D).2 0 (vD D).1).map rk else none:=by
 unfold number vD gw;simp only[aja]
 by_cases h:D.head?=some 35
 ·simp only[h,decide_true,if_true,if_pos,List.length_cons,List.length_nil,Nat.zero_add,List.drop_one]
  by_cases h2:D.tail.head?=some 120
  ·simp only[h2,decide_true,if_true,if_pos,List.length_cons,List.length_nil,Nat.zero_add,List.drop_one]
   by_cases h3:D.tail.tail=[]
   ·simp[h3]
   simp[h3]
  simp only[h2,decide_false,Bool.false_eq_true,if_false,if_neg]
  by_cases h3:D.tail=[]
  ·simp[h3]
  simp[h3]
 simp[h]
theorem Ez(v:Nat):bX ((min v 1073741824:Nat):Int)=bX (v:Int):=by
 by_cases h:v≤1073741824
 ·rw[Nat.min_eq_left h]
 rw[Nat.min_eq_right (by omega)];have h1:bX ((1073741824:Nat):Int)=false:=by decide
 rw[h1]
 symm
 unfold bX Tk.within;rw[Bool.eq_false_iff];intro hc;simp only[Bool.or_eq_true,Bool.and_eq_true,decide_eq_true_eq] at hc;omega
end
end Go.Proofs.YtpdkeckeekchlaaGreatDoor
