/- References in plain data: a row of pieces, taken one by one. And more. -/
import Derived.Test.YtpdkeckeekchlaaGreatDoorOt08
set_option linter.unusedSimpArgs false
set_option maxRecDepth 100000
set_option maxHeartbeats 8000000
set_option linter.unusedVariables false
namespace Go.Proofs.YtpdkeckeekchlaaGreatDoor
section
open Go Tk Sx
namespace Sx
def fq(x:dv):Option L:=if x.ref=false∧x.text≠[38] then some x.text else if x.ref then (scalar x.text).map fun v=>gY v else none
def kQ(l:List dv):L:=l.flatMap fun x=>(fq x).getD []
theorem aiC(l:List dv)(x:dv):kQ (l++[x])=kQ l++(fq x).getD []:=by simp[kQ]
theorem NT{x:dv}{r:List dv}:nT (x :: r)=match fq x with
  | some t=>jm t (nT r)
  | none=>.error x.at_:=by
 conv=>lhs;unfold nT
 unfold fq
 by_cases h:x.ref=false∧x.text≠[38]
 ·rw[if_pos h,if_pos h]
 rw[if_neg h,if_neg h]
 cases hr:x.ref with
 | false=>simp
 | true=>
  simp only[if_true]
  cases scalar x.text with
  | none=>rfl
  | some v=>rfl
theorem Yx:∀{l:List dv},(∀x∈l,(fq x).isSome=true)→nT l=.ok (kQ l)
 | [],_=>rfl
 | x :: r,h=>by
  rw[NT];obtain⟨t,ht⟩:=Option.isSome_iff_exists.1 (h x (by simp));rw[ht,Yx fun y hy=>h y (List.mem_cons_of_mem _ hy)];simp[jm,kQ,ht]
theorem Yv:∀{pre:List dv} {x:dv} {rest:List dv},(∀y∈pre,(fq y).isSome=true)→fq x=none→nT (pre++x :: rest)=.error x.at_
 | [],x,rest,_,hx=>by rw[List.nil_append,NT,hx]
 | y :: pre,x,rest,h,hx=>by
  rw[List.cons_append,NT];obtain⟨t,ht⟩:=Option.isSome_iff_exists.1 (h y (by simp));rw[ht,Yv (fun z hz=>h z (List.mem_cons_of_mem _ hz)) hx];rfl
theorem al9{x:dv}(h:x.text.length≤100000):((fq x).getD []).length≤100000:=by
 unfold fq;split
 ·exact h
 split
 ·cases scalar x.text with
  | none=>simp
  | some v=>have:=Ns (v:Int);simp;omega
 simp
theorem ac6(x:dv):(dR x).text.length≤100000:=by unfold dR;simp only[List.length_take];omega
theorem Xa:∀{l:List dv},(kQ (l.map dR)).length≤l.length*100000
 | []=>by simp[kQ]
 | x :: r=>by
  have ih:=Xa (l:=r);have hx:=al9 (ac6 x);have e:kQ ((x :: r).map dR)=(fq (dR x)).getD []++kQ (r.map dR):=by simp[kQ]
  rw[e,List.length_append,List.length_cons];omega
theorem akM:∀(f k:Nat) (l:L),∀x∈cd f k l,x.text.length≤max 1 l.length:=by
 intro f
 induction f with
 | zero=>intro k l x hx;simp[cd] at hx
 | succ f ih=>
  intro k l x hx
  by_cases h0:l=[]
  ·subst h0;rw[CL] at hx;cases hx
  have tN:=Lib.indexByte_ge l 38
  by_cases hn:Lib.indexByte l 38<0
  ·rw[ND h0 hn] at hx;simp only[List.mem_singleton] at hx;subst hx;exact Nat.le_max_right _ _
  obtain⟨m,hm⟩:∃m:Nat,Lib.indexByte l 38=m:=⟨(Lib.indexByte l 38).toNat,by omega⟩
  have step:∀(t:dv) (k' j:Nat),t.text.length≤max 1 l.length→x∈t :: cd f k' (l.drop j)→x.text.length≤max 1 l.length:=fun t k' j ht hm=>by
   rcases List.mem_cons.1 hm with e|e
   ·rw[e];exact ht
   have:=ih _ _ x e;rw[List.length_drop] at this;omega
  by_cases rH:m=0
  ·subst rH
   cases he:ends l.tail with
   | none=>rw[NB h0 hm he] at hx;exact step _ _ _ (by simp;omega) hx
   | some n=>rw[NC h0 hm he] at hx;exact step _ _ _ (by simp;omega) hx
  rw[NF h0 hm (by omega)] at hx;exact step _ _ _ (by simp;omega) hx
theorem XY{s:L}(hs:s.length≤100000)(k f:Nat):(cd f k s).map dR=cd f k s:=by
 have h:=akM f k s;generalize cd f k s=r at *
 induction r with
 | nil=>rfl
 | cons x r ih=>
  rw[List.map_cons,ih fun y hy=>h y (List.mem_cons_of_mem _ hy)];congr 1;refine Sw ?_;have:=h x (by simp);omega
end Sx
end
section
open Go.RowKit Tk

theorem amQ(w:World)(s:ByteArray)(hg:Gl w)(jO:6≤w.heap.size)(hs:s.size≤1000000)(hS:xI s.data.toList) :
  Calls Tryz.prog 48 #[.string s] w (abT w s.data.toList):=by
 have HV:=ap (fun W=>Om s W (by omega));obtain⟨D,hD⟩:∃D,s.data.toList=D:=⟨_,rfl⟩;have HD:=ap hD;have cy:=ap (show D.length=s.size by rw[←hD,bV]);have HO:=ap (fun W k (h1:Gl W) (h2:6≤W.heap.size) (h3:k<s.size)=>aio W s k h1 h2 h3 (by omega) (hS.pl k (by rw[bV];exact h3)));rw[hD] at HV HO hS ⊢;have HS:=ap hS;clear hD hS;have HG:=ap hg;clear hg;rw[HS.o.val] at HV
 go_enter Tryz.func48,Tryz.ntmps48
 go_wp2
 go_step3
 go_wp2_with fail
 refine (HV.o _).mono ?_;rintro e w1 ⟨rfl,b1⟩;have B1:=ap b1;clear b1 HV;go_wp2
 go_step3
 go_wp2
 go_loopg [2,3] s.size (fun g vl va wr=>∃(p:Nat) (xs:List Tv) (A:Option Addr) (c:Nat),g=s.size-p∧p≤s.size∧va=.int .i64 (p:Int)∧vl=.slice A xs.length c∧
  wr.ownsRow w.heap.size 112 7 (.slice A xs.length c) xs.length (si xs)∧(∀x∈xs,x.In w.heap.size wr)∧Below w.heap.size w wr∧vy D p (xs.map (·.t)))
 case atStart=>exact⟨0,[],none,0,rfl,by omega,rfl,rfl,World.ownsRow_nil _ _ _ _,(fun x hx=>by cases hx),B1.o,.zero _⟩
 case round=>
  obtain⟨p,xs,A,c,dT,hp,rfl,rfl,ah,hi,hB,hR⟩:=hrel;have Hg:=ap dT;have bI:=ap ah;have Hi:=ap hi;have HB:=ap hB;have HR:=ap hR;clear dT ah hi hB hR B1
  by_cases hlt:p<s.size
  ·have yA:=HO.o wr p (HG.o.below HB.o) (by have:=HB.o.size;omega) hlt
   cases ho:Tk.one p (D.drop p) with
   | none=>
    rw[ho] at yA;have HX:=ap (show Calls Tryz.prog 74 #[.string s,.int .i64 (p:Int)] wr fun e w'=>Below wr.heap.size wr w'∧e=.returned (.tuple #[.agg #[.int .i8 0,.string ⟨#[]⟩,.slice none 0 0,.bool false,.string ⟨#[]⟩,.int .i64 0,.int .i64 0],.bool false]) from yA)
    have HP:=ap (show zu D (xs.map (·.t)) p ((p:Int)==(s.size:Int)) by
     have h:=XX HR.o (.inr ho);rw[cy.o] at h;rw[show ((p:Int)==(s.size:Int))=decide (p=s.size) by rw[show decide (p=s.size)=decide ((p:Int)=(s.size:Int)) from decide_eq_decide.2 (by omega)];rfl];exact h)
    have mj:=ap (show xs.length≤D.length by have:=HR.o.1;have:=cy.o;rw[List.length_map] at *;omega);clear yA ho HO HR
    go_wp2_with fail
    refine HX.o.mono ?_;rintro e w2 ⟨b2,rfl⟩;have B2:=ap (b2.alloc b2.size (.cells #[.int .i8 0,.string ⟨#[]⟩,.slice none 0 0,.bool false,.string ⟨#[]⟩,.int .i64 0,.int .i64 0] 112));clear b2;have Own2:=ap (Ni bI.o B2.o);have Ef:=ap (fun x hx=>(Hi.o x hx).below B2.o);have ag:=ap (HB.o.trans (B2.o.mono HB.o.size));go_wp2;rw[Exit.noGoto_ret];go_ret3;exact⟨xs,A,c,p,_,HP.o,mj.o,zf bI.o,rfl,ag.o,Reads.cY Own2.o,AB Own2.o,CY Own2.o,Ef.o⟩
   | some t=>
    rw[ho] at yA
    have HX:=ap (show Calls Tryz.prog 74 #[.string s,.int .i64 (p:Int)] wr fun e w'=>Below wr.heap.size wr w'∧∃A c,e=.returned (.tuple #[.agg #[.int .i8 t.kind,.string (aa t.name),.slice A t.attrs.length c,.bool t.empty,.string (aa t.text),.int .i64 (t.at_:Int),.int .i64 (t.end_:Int)],.bool true])∧
     w'.ownsRow wr.heap.size 183 3 (.slice A t.attrs.length c) t.attrs.length (kg t.attrs) from yA)
    have HN:=ap (show p<t.end_∧t.end_≤D.length∧vy D t.end_ (xs.map (·.t)++[t]) from have h:=HS.o.one p (by rw[cy.o];exact hlt) t ho;⟨h.1,h.2,akH HR.o (by rw[cy.o];exact hlt) ho h.1⟩);have mj:=ap (show xs.length≤D.length by have:=HR.o.1;have:=cy.o;rw[List.length_map] at *;omega);clear yA ho HO HR
    go_wp2_with fail
    refine HX.o.mono ?_;rintro e w2 ⟨b2,A2,c2,rfl,o2⟩;have B2:=ap b2;have N2:=ap (Tv.In.cY o2);have Own2:=ap (Ni bI.o b2);have Ef:=ap (fun x hx=>(Hi.o x hx).below b2);have ag:=ap (HB.o.trans (b2.mono HB.o.size));have Aq:=ap (Own2.o.alloc (.cells #[.int .i8 t.kind,.string (aa t.name),.slice A2 t.attrs.length c2,.bool t.empty,.string (aa t.text),.int .i64 (t.at_:Int),.int .i64 (t.end_:Int)] 112));have In3:=ap (fun x hx=>(Ef.o x hx).below (ay w2 (.cells #[.int .i8 t.kind,.string (aa t.name),.slice A2 t.attrs.length c2,.bool t.empty,.string (aa t.text),.int .i64 (t.at_:Int),.int .i64 (t.end_:Int)] 112)));have N3:=ap ((N2.o.below (ay w2 (.cells #[.int .i8 t.kind,.string (aa t.name),.slice A2 t.attrs.length c2,.bool t.empty,.string (aa t.text),.int .i64 (t.at_:Int),.int .i64 (t.end_:Int)] 112))).more HB.o.size);have aw:=ap (ag.o.alloc ag.o.size (.cells #[.int .i8 t.kind,.string (aa t.name),.slice A2 t.attrs.length c2,.bool t.empty,.string (aa t.text),.int .i64 (t.at_:Int),.int .i64 (t.end_:Int)] 112));have V3:=ap (ae.new w2 112 #[.int .i8 t.kind,.string (aa t.name),.slice A2 t.attrs.length c2,.bool t.empty,.string (aa t.text),.int .i64 (t.at_:Int),.int .i64 (t.end_:Int)])
    have HVn:=ap (show (Value.slice A xs.length c).ownBlock≠some w2.heap.size from fun e=>by have:=(Own2.o.lt _ e).2;omega);have Ee:=ap (show xs.length≤1000000 by have:=mj.o;have:=cy.o;omega);clear b2 o2 N2 Own2 Ef ag B2;go_wp2;generalize w2.alloc (.cells #[.int .i8 t.kind,.string (aa t.name),.slice A2 t.attrs.length c2,.bool t.empty,.string (aa t.text),.int .i64 (t.at_:Int),.int .i64 (t.end_:Int)] 112)=W3 at *
    generalize w2.heap.size=V at *
    have y0:=V3.o.cell 0;have y1:=V3.o.cell 1;have y2:=V3.o.cell 2;have y3:=V3.o.cell 3;have y4:=V3.o.cell 4;have y5:=V3.o.cell 5;have y6:=V3.o.cell 6;have xa:∀o,(W3.alloc o).cell? ⟨V,6,none⟩=some (.int .i64 (t.end_:Int)):=fun o=>(V3.o.alloc o).cell 6
    go_region_law
     (show if Region.wanted (⟨some 25,_,_,_,_,_⟩:Oper) _=true then _ else _;refine GU _ (by rfl) _ _ _ (by rfl) w.heap.size 112 _ 7 88 Tryz.underlying99 agO (by rfl) (by omega) (.slice A xs.length c) xs.length (si xs) (by rfl) (by first|exact Aq.o.alloc _|exact (Aq.o.alloc _).drew) (Tv.row ⟨t,A2,c2⟩) rfl (am0 ⟨t,A2,c2⟩) W3.heap.size (by first|exact ae.new W3 112 _|exact (ae.new W3 112 _).drew) (by rfl) (by unfold maxLen;have:=Ee.o;omega) (by have:=Ee.o;omega) (by have:=aw.o.size;simp[World.drew];omega) ?_;intro gg cap w8 aP aG cX;have V8:=ap (ae.grown (ae.drew (ae.alloc V3.o (.cells (Tv.row ⟨t,A2,c2⟩).toArray 112))) aG HVn.o.symm);have z6:w8.cell? ⟨V,6,none⟩=some (.int .i64 (t.end_:Int)):=V8.o.cell 6;have z8:=ap aG;have Jr:=ap aP;clear aP aG cX)
    all_goals go_wp2
    all_goals
     have Pk:=ap ((aw.o.alloc aw.o.size (.cells (Tv.row ⟨t,A2,c2⟩).toArray 112)).drew);have dY:=ap (Pk.o.grown z8.o Pk.o.size fun j e=>(aD Aq.o j e).1)
     have In8:=ap (show ∀x∈xs++[Tv.mk t A2 c2],x.In w.heap.size w8 from fun x hx=>by
      rcases List.mem_append.1 hx with hx|hx
      ·exact (In3.o x hx).grown Aq.o z8.o
      simp only[List.mem_singleton] at hx;subst hx;exact N3.o.grown Aq.o z8.o)
     go_roundg (s.size-t.end_)
     case measure=>have:=Hg.o;have:=HN.o.1;have:=HN.o.2.1;have:=cy.o;omega
     case rel=>exact⟨t.end_,xs++[⟨t,A2,c2⟩],some ⟨gg,0,none⟩,cap,rfl,by have:=HN.o.2.1;have:=cy.o;omega,rfl,by rw[List.length_append];rfl,by rw[List.length_append,amZ];exact Jr.o,In8.o,dY.o,by rw[List.map_append];exact HN.o.2.2⟩
  have hpe:p=s.size:=by omega
  subst hpe
  have HP:=ap (show zu D (xs.map (·.t)) s.size true by
   have h:=XX HR.o (.inl cy.o.symm);rwa[cy.o,decide_eq_true rfl] at h)
  have mj:=ap (show xs.length≤D.length by have:=HR.o.1;have:=cy.o;rw[List.length_map] at *;omega);go_wp2;rw[Exit.noGoto_ret];go_ret3;exact⟨xs,A,c,s.size,_,HP.o,mj.o,zf bI.o,rfl,HB.o,Reads.cY bI.o,AB bI.o,CY bI.o,Hi.o⟩
end
section
open Go.RowKit Tk

def Tk.At.g(a:At):Ga:=⟨aa a.name,aa a.value,(a.at_:Int)⟩
def Tv.g(x:Tv):Gt:=⟨x.t.kind,aa x.t.name,x.t.attrs.map At.g,x.A,x.c,x.t.empty,aa x.t.text,(x.t.at_:Int),(x.t.end_:Int)⟩
theorem acg(l:List At):kg l=lz (l.map At.g):=by
 induction l with
 | nil=>rfl
 | cons a l ih=>unfold kg lz at ih ⊢;rw[List.flatMap_cons,List.map_cons,List.flatMap_cons,ih];rfl
theorem akF(x:Tv):x.row=AV x.g:=by
 unfold Tv.row CX AV Tv.g;simp only[List.length_map]
theorem amY(xs:List Tv):si xs=xY (xs.map Tv.g):=by
 induction xs with
 | nil=>rfl
 | cons a l ih=>unfold si xY at ih ⊢;rw[List.flatMap_cons,List.map_cons,List.flatMap_cons,ih,akF]
theorem Tv.In.g{x:Tv}{B:Nat}{W:World}(h:x.In B W):Reads W W.heap.size 3 x.g.A x.g.ar.length (lz x.g.ar):=by
 have:=h.a;rw[acg] at this;unfold Tv.g;simp only[List.length_map];exact this
theorem AA.of{W:World}{A:Option Addr}{xs:List Tv}{B:Nat}(h:Reads W W.heap.size 7 A xs.length (si xs))(hi:∀x∈xs,x.In B W):AA W W.heap.size A (xs.map Tv.g):=by
 refine⟨?_,fun x hx=>?_⟩
 ·rw[List.length_map,←amY];exact h
 obtain⟨y,hy,rfl⟩:=List.mem_map.1 hx;exact (hi y hy).g
end
section
open Go Tk Sx
namespace Sx
def jS(k:Nat)(r:Int):Bool:=if k=0 then kp r else ly r
def o6(l:L):Bool:=!l.isEmpty&&(stop jS l).isNone
def split(l:L):Option (L×L) :=
 if (Lib.cut l [58]).2.2 then if o6 (Lib.cut l [58]).1&&o6 (Lib.cut l [58]).2.1 then some ((Lib.cut l [58]).1,(Lib.cut l [58]).2.1) else none
 else if o6 l then some ([],l) else none
def norm(c:UInt8):UInt8:=if c=9∨c=10∨c=13 then 32 else c
def less:L→Option Nat
 | []=>none
 | c :: r=>if c=60 then some 0 else (less r).map (· + 1)
def value(l:L):Except Nat L :=
 match less l with
 | some k=>match dm k 0 ((l.take k).map norm) with
  | .error a=>.error a
  | .ok _=>.error k
 | none=>dm l.length 0 (l.map norm)
structure Nm where
 ns:L
 loc:L
 deriving DecidableEq
structure ft where
 name:Nm
 val:L
 deriving DecidableEq
structure Ev where
 kind:Nat
 name:Nm
 attrs:List ft
 text:L
 deriving DecidableEq
structure El where
 written:L
 name:Nm
 scope:Nat
structure St where
 open_:List El
 scope:List aB
 evs:List Ev
 gI:Bool
structure bT where
 pre:L
 loc:L
 val:L
 at_:Nat
def Gr:Nm:=⟨[],[]⟩
abbrev bS:=Option (Nat×Nat)
def za(b:bS)(at_ e:Nat):bS:=match b with
 | some x=>some x
 | none=>some (at_,e)
def kR:L:=[120,109,108,110,115]
def fp(a:At):bT:=match split a.name with
 | some (p,l)=>⟨p,l,[],a.at_⟩
 | none=>⟨[],[],[],a.at_⟩
def iY:List L→List At→Option Nat
 | _,[]=>none
 | seen,a :: r=>if (split a.name).isNone=true∨a.name∈seen then some a.at_ else iY (seen++[a.name]) r
def names(t:Tok):Option Nat:=if (split t.name).isNone then some t.at_ else iY [] t.attrs
def valOf(a:At):L:=match value a.value with
 | .ok v=>v
 | .error _=>[]
def sj(a:At):bT:=⟨(fp a).pre,(fp a).loc,valOf a,a.at_⟩
def jV:List At→Option Nat
 | []=>none
 | a :: r=>match value a.value with
  | .ok _=>jV r
  | .error _=>some a.at_
def declares(s:bT):L×Bool:=if s.pre=kR then (s.loc,true) else ([],decide (s.pre=[]∧s.loc=kR))
def wS(p u:L):Bool:=decide (p≠kR)&&decide (u≠G8)&&(decide (p=wT)==decide (u=zt))&&(decide (p=[])||decide (u≠[]))
def declared:List aB→List bT→List aB
 | sc,[]=>sc
 | sc,s :: r=>if (declares s).2 then declared (sc++[⟨(declares s).1,s.val⟩]) r else declared sc r
def iO:List bT→Option Nat
 | []=>none
 | s :: r=>if (declares s).2 && !wS (declares s).1 s.val then some s.at_ else iO r
def vA(sc:List aB)(s:bT):L×Bool:=if s.pre=[] then ([],true) else lY sc s.pre
def pL(sc:List aB)(s:bT):Nm:=⟨(vA sc s).1,s.loc⟩
def cF(sc:List aB):List bT→List ft
 | []=>[]
 | s :: r=>if (declares s).2 then cF sc r else ⟨pL sc s,s.val⟩ :: cF sc r
def jk(sc:List aB):List Nm→List bT→Option Nat
 | _,[]=>none
 | seen,s :: r=>if (declares s).2 then jk sc seen r else if (vA sc s).2=false∨pL sc s∈seen then some s.at_ else jk sc (seen++[pL sc s]) r
def dO(l:List Ev)(x:Ev):List Ev:=if x.kind≠2 then l++[x] else match l.getLast? with
 | some y=>if y.kind=2 then l.dropLast++[⟨2,y.name,y.attrs,y.text++x.text⟩] else if x.text=[] then l else l++[x]
 | none=>if x.text=[] then l else l++[x]
def N7(t:L):Ev:=⟨2,Gr,[],t⟩
def rp(st:St):St:=match st.open_.getLast? with
 | none=>st
 | some x=>⟨st.open_.dropLast,st.scope.take x.scope,dO st.evs ⟨1,x.name,[],[]⟩,st.gI⟩
def jB(t:Tok):L:=((split t.name).getD ([],[])).1
def nN(t:Tok):L:=((split t.name).getD ([],[])).2
def early(st:St)(t:Tok):bS:=match names t with
 | some a=>some (a,50)
 | none=>if st.gI&&st.open_.isEmpty then some (t.at_,50) else if 16<t.attrs.length then some (t.at_,42) else if st.open_.length=16 then some (t.at_,41) else none
def splits(t:Tok):List bT:=t.attrs.map sj
def scope'(st:St)(t:Tok):List aB:=declared st.scope (splits t)
def late(st:St)(t:Tok):Option Nat:=match jV t.attrs with
 | some a=>some a
 | none=>match iO (splits t) with
  | some a=>some a
  | none=>if (lY (scope' st t) (jB t)).2=false∨jB t=kR then some t.at_ else jk (scope' st t) [] (splits t)
def started(st:St)(t:Tok):St :=
 ⟨st.open_++[⟨t.name,⟨(lY (scope' st t) (jB t)).1,nN t⟩,st.scope.length⟩],scope' st t,
  dO st.evs ⟨0,⟨(lY (scope' st t) (jB t)).1,nN t⟩,cF (scope' st t) (splits t),[]⟩,true⟩
def start(st:St)(t:Tok):Except (Nat×Nat) St:=match early st t with
 | some b=>.error b
 | none=>match late st t with
  | some a=>.error (a,50)
  | none=>.ok (if t.empty then rp (started st t) else started st t)
def end_(st:St)(t:Tok):Except (Nat×Nat) St:=match st.open_.getLast? with
 | none=>.error (t.at_,50)
 | some x=>if x.written=t.name then .ok (rp st) else .error (t.at_,50)
def GM(st:St)(t:L):St:=⟨st.open_,st.scope,dO st.evs (N7 t),st.gI⟩
def text(st:St)(t:Tok):Except (Nat×Nat) St:=if st.open_=[] then if t.text.all sp then .ok st else .error (t.at_,50) else match dm t.text.length 0 t.text with
 | .ok s=>.ok (GM st s)
 | .error _=>.error (t.at_,50)
def data(st:St)(t:Tok):Except (Nat×Nat) St:=if st.open_=[] then .error (t.at_,50) else .ok (GM st t.text)
def step(st:St)(t:Tok):Except (Nat×Nat) St :=
 if t.kind=0 then start st t else if t.kind=1 then end_ st t else if t.kind=2 then text st t else if t.kind=3 then data st t else .ok st
def run:St→List Tok→Except (Nat×Nat) St
 | st,[]=>.ok st
 | st,t :: r=>match step st t with
  | .error x=>.error x
  | .ok iH=>run iH r
def lZ:St:=⟨[],[],[],false⟩
def N9(ts:List Tok):Nat:=(ts.getLast?.map (·.end_)).getD 0
def parse(s:L):Except (Nat×Nat) (List Ev) :=
 if 0≤bad s then .error ((bad s).toNat,50)
 else if N9 (jD s.length 0 s)≠s.length then .error (N9 (jD s.length 0 s),50)
 else match run lZ (jD s.length 0 s) with
  | .error x=>.error x
  | .ok st=>if st.open_=[]∧st.gI=true then .ok st.evs else .error (s.length,50)
end Sx
end
section
open Tk Sx
def Gy(o:List Nm)(e:Ev):List Nm:=if e.kind=0 then o++[e.name] else if e.kind=1 then o.dropLast else o
def opn:List Nm→List Ev→List Nm
 | o,[]=>o
 | o,e :: r=>opn (Gy o e) r
theorem W9:∀(l:List Ev) (o:List Nm) (r:List Ev),opn o (l++r)=opn (opn o l) r
 | [],_,_=>rfl
 | e :: l,o,r=>W9 l (Gy o e) r
theorem aiz(l:List Ev)(o:List Nm)(e:Ev):opn o (l++[e])=Gy (opn o l) e:=W9 l o [e]
def ZN(o:List Nm)(k:Nat)(prev:Option Ev)(e:Ev):Prop :=
 (e.kind=0∧(o=[]→k=0)∧o.length<16∧e.attrs.length≤16∧e.name.loc≠[])∨(e.kind=1∧o.getLast?=some e.name)∨(e.kind=2∧o≠[]∧e.text≠[]∧fine e.text=true∧∃p,prev=some p∧p.kind≠2)
def OY(evs:List Ev):Prop:=∀k e,evs[k]?=some e→ZN (opn [] (evs.take k)) k (evs[k-1]?) e
namespace Evs
def xk(e:Ev):Prop :=
 (e.kind=0∧e.name.loc≠[]∧e.text=[]∧(e.attrs.map (·.name)).Nodup∧∀a∈e.attrs,a.name.loc≠[])∨(e.kind=1∧e.name.loc≠[]∧e.attrs=[]∧e.text=[])∨(e.kind=2∧e.name=Gr∧e.attrs=[]∧e.text≠[])
structure rf(l:List Ev):Prop where
 fld:∀e∈l,xk e
 bal:OY l
 shut:opn [] l=[]
 ne:l≠[]
def l4(s:List Nat×List (Nat×Nat))(i:Nat)(e:Ev):List Nat×List (Nat×Nat) :=
 if e.kind=0 then (s.1++[i],s.2) else if e.kind=1 then (s.1.dropLast,(s.1.getLastD 0,i) :: s.2) else s
def upto(l:List Ev):Nat→List Nat×List (Nat×Nat)
 | 0=>([],[])
 | i+1=>match l[i]? with
  | some e=>l4 (upto l i) i e
  | none=>upto l i
theorem Oh{l:List Ev}{i:Nat}{e:Ev}(h:l[i]?=some e):upto l (i+1)=l4 (upto l i) i e:=by
 rw[upto,h]
def bQ(p:Nat):List (Nat×Nat)→Option Nat
 | []=>none
 | x :: m=>if x.1=p then some x.2 else bQ p m
def kP(l:List Ev)(p:Nat):Nm:=((l[p]?).map (·.name)).getD Gr
theorem Oi(l:List Ev):∀i,i≤l.length→(upto l i).1.map (kP l)=opn [] (l.take i)
 | 0,_=>rfl
 | i+1,h=>by
  have ih:=Oi l i (by omega);obtain⟨e,he⟩:∃e,l[i]?=some e:=⟨_,List.getElem?_eq_getElem (by omega)⟩;rw[Oh he,List.take_add_one,he];show _=opn [] (l.take i++[e]);rw[aiz,←ih];unfold l4 Gy
  by_cases h0:e.kind=0
  ·rw[if_pos h0,if_pos h0,List.map_append];simp[kP,he]
  rw[if_neg h0,if_neg h0]
  by_cases h1:e.kind=1
  ·rw[if_pos h1,if_pos h1];simp[List.map_dropLast]
  rw[if_neg h1,if_neg h1]
theorem Og(l:List Ev):∀i,∀p∈(upto l i).1,p<i
 | 0,p,h=>by simp[upto] at h
 | i+1,p,h=>by
  have ih:=Og l i;rw[upto] at h
  cases he:l[i]? with
  | none=>
   rw[he] at h;have:=ih p h;omega
  | some e=>
   rw[he] at h;dsimp only at h;unfold l4 at h
   split at h
   ·rcases List.mem_append.1 h with h|h
    ·have:=ih p h;omega
    rw[List.mem_singleton] at h;omega
   split at h
   ·have:=ih p (List.dropLast_subset _ h);omega
   have:=ih p h;omega
def gP(l:List Ev):List (Nat×Nat):=(upto l l.length).2
theorem OD{l:List Ev}(h:rf l){i:Nat}{e:Ev}(he:l[i]?=some e) :
  xk e∧((e.kind=0∧((upto l i).1=[]→i=0))∨(e.kind=1∧∃o p,(upto l i).1=o++[p]∧p<i∧kP l p=e.name)∨(e.kind=2∧(upto l i).1≠[]∧∃q,0<i∧l[i-1]?=some q∧q.kind≠2)):=by
 have hi:i<l.length:=(List.getElem?_eq_some_iff.1 he).1;have ho:=Oi l i (by omega);refine⟨h.fld e (List.mem_of_getElem? he),?_⟩
 rcases h.bal i e he with ⟨h0,h1,-,-,-⟩|⟨h0,h1⟩|⟨h0,h1,-,-,q,h2,h3⟩
 ·refine .inl ⟨h0,fun hn=>h1 ?_⟩;rw[←ho,hn];rfl
 ·refine .inr (.inl ⟨h0,?_⟩);rw[←ho,List.getLast?_map] at h1;obtain⟨p,hp,e1⟩:=Option.map_eq_some_iff.1 h1;obtain⟨o,bg⟩:=List.getLast?_eq_some_iff.1 hp;exact⟨o,p,bg,Og l i p (by rw[bg];simp),e1⟩
 refine .inr (.inr ⟨h0,fun hn=>h1 (by rw[←ho,hn];rfl),q,?_,h2,h3⟩)
 rcases Nat.eq_zero_or_pos i with hz|hz
 ·subst hz;exact absurd rfl h1
 exact hz
end Evs
end
section
open Go.RowKit Go.Shelf Tk Sx

attribute [local go_sem] Oper.semAt_some

def Pb(w:World)(pre:List (Nat×Int))(W:World):Prop :=
 (∀p∈pre,jS p.1 p.2=true)∧Boxed W w.heap.size 121 (.func (.func 203) #[] #[])∧(∃v,Boxed W (w.heap.size+1) 3 v)∧(∃u,Boxed W (w.heap.size+1+1) 9 u)∧Below w.heap.size w W
def Pe(w:World)(c:Code)(pre:List (Nat×Int))(W:World):Prop :=
 c=.ret∧∃iF x,pre=iF++[x]∧(∀p∈iF,jS p.1 p.2=true)∧jS x.1 x.2=false∧Boxed W (w.heap.size+1) 3 (.int .i64 (x.1:Int))∧Below w.heap.size w W
theorem ZG(w:World):OwnFrom (w.heap.size+1+1+1) (Pb w):=by
 rintro s X Y row ⟨h1,hb,⟨v,hv⟩,⟨u,hu⟩,h3⟩ hg ah;exact⟨h1,hb.kept hg (ow ah hb),⟨v,hv.kept hg (ow ah hv)⟩,⟨u,hu.kept hg (ow ah hu)⟩,h3.grown hg h3.size (fun k e=>by have:=(ah k e).1;omega)⟩
theorem ZI(w:World)(c:Code):OwnFrom (w.heap.size+1+1+1) (Pe w c):=by
 rintro s X Y row ⟨h1,p,x,h2,h4,h5,hv,h3⟩ hg ah;exact⟨h1,p,x,h2,h4,h5,hv.kept hg (ow ah hv),h3.grown hg h3.size (fun k e=>by have:=(ah k e).1;omega)⟩
theorem Xy(k:Nat)(r:Int)(h:r<0):jS k r=false:=by
 unfold jS;rw[Kt r h,Tq r h];simp
def tB(l:L):Nat:=(stop jS l).getD l.length
theorem aeA(s:ByteArray)(w:World)(hs:s.size≤1000000000) :
  Calls Tryz.prog 202 #[.string s,.func (.func 203) #[] #[]] w fun e w'=>e=.returned (.int .i64 (tB s.data.toList:Nat))∧Below w.heap.size w w':=by
 refine (callsIn_wide (n:=5)).1 ?_;refine callsIn_of_wp_marks Tryz.func202 rfl trivial ?_ rfl;simp only[Tryz.ntmps202,List.size_toArray,List.length_cons,List.length_nil,Nat.reduceAdd,Nat.reduceSub,Array.replicate_succ,Array.replicate_zero,List.push_toArray,List.append_toArray,List.nil_append,List.cons_append]
 gi_wp2_with (refine⟨trivial,?_⟩;gi_at_call 72;refine (callsIn_wide.2 (NI _ _)).mono ?_;rintro e w' ⟨rfl,rfl⟩)
 have b0:=Boxed.new w 121 (.func (.func 203) #[] #[]);have b1:=Boxed.new (w.alloc (.cells #[.func (.func 203) #[] #[]] 121)) 3 (.int .i64 0);rw[World.size_alloc] at b1;have b2:=Boxed.new ((w.alloc (.cells #[.func (.func 203) #[] #[]] 121)).alloc (.cells #[.int .i64 0] 3)) 9 (.string s);rw[World.size_alloc,World.size_alloc] at b2
 have rq:Below w.heap.size w (((w.alloc (.cells #[.func (.func 203) #[] #[]] 121)).alloc (.cells #[.int .i64 0] 3)).alloc (.cells #[.string s] 9)) :=
  (((Below.refl _ w).alloc (Nat.le_refl _) _).alloc (by simp) _).alloc (by simp;omega) _
 refine wpIn_rangeFunc_ownG rfl (by omega) (gf:=105) (lb:=#[.pointer (some ⟨w.heap.size+1+1,0,none⟩)]) rfl trivial (enters_of Tryz.func105 (by kernel_rfl) rfl)
  (NJ (5-1) (by omega) (w.heap.size+1+1) s hs _ (by simp) b2.cell) eX.trans (CS (by simp)) (Below.refl _ _) (fun _=>rfl)
  (Pb w) (Pe w) (by simpa using ZG w) (fun c=>by simpa using ZI w c)
  ⟨(fun p hp=>by cases hp),(b0.alloc _).alloc _,⟨_,b1.alloc _⟩,⟨_,b2⟩,rq⟩
  (fun x=>{ tmps:=#[.string s,.func (.func 203) #[] #[],undef,.pointer (some ⟨w.heap.size,0,none⟩),.pointer (some ⟨w.heap.size+1,0,none⟩),.int .i64 (x.1:Int),.int .i64 x.2,.string s,
   .func (.func 105) #[] #[.pointer (some ⟨w.heap.size+1+1,0,none⟩)],.int .i64 (x.1:Int),.int .i64 x.2,undef,undef,undef,undef,undef,undef,undef,undef,undef,undef,undef,undef,undef,undef,undef,undef],defers:=[] }) ?assign ?body ?done ?stop
 case assign=>
  intro l x W K hK;gi_wp2;exact hK
 case body=>
  rintro l pre x W ⟨hp,dA,⟨v,hv⟩,⟨u,hu⟩,hB⟩ hlen;have HP:=ap hp;have h2:w.heap.size+1+1<W.heap.size:=hu.lt;have HF:=ap (Kv x.2);have HT:=ap (Tr x.2);have qN:=ap (SZ (r:=x.2));clear hp
  by_cases h0:x.1=0
  ·have KH:((x.1:Int)==0)=true:=by simp[h0]
   cases hx:kp x.2 with
   | false=>
    rw[hx] at HF;have HX:=ap (show jS x.1 x.2=false by unfold jS;rw[if_pos h0,hx]);clear hx h0 HT qN
    gi_wp2_with (refine⟨trivial,?_⟩;gi_at_call 227;refine (CallsIn.inRound l (callsIn_wide.2 (HF.o _))).mono ?_;rintro e w1 ⟨rfl,hb⟩;have aU:=hv.kept (cM hb none) (by simp);have cR:=aU.cell;have nz:=aU.frozen)
    refine⟨fun _ h=>(by cases h),?_⟩;gi_wp2;exact⟨((mN hb).trans (KeepsOthers.setCell _ _ _)).from _,rfl,pre,x,rfl,HP.o,HX.o,aU.set _,(hB.trans (hb.mono hB.size)).setCell (p:=⟨w.heap.size+1,0,none⟩) (by simp) _⟩
   | true=>
    rw[hx] at HF;rw[qN.o hx] at HT;have HX:=ap (show jS x.1 x.2=true by unfold jS;rw[if_pos h0,hx]);clear hx h0 qN
    gi_wp2_with first
     | (refine⟨trivial,?_⟩;gi_at_call 227;refine (CallsIn.inRound l (callsIn_wide.2 (HF.o _))).mono ?_;rintro e w1 ⟨rfl,hb⟩;have hc0:=(dA.kept (cM hb none) (by simp)).cell)
     | (refine⟨trivial,?_⟩;gi_at_call 203;refine (CallsIn.inRound l (callsIn_wide.2 (HT.o _))).mono ?_;rintro e w2 ⟨rfl,af⟩)
    have hb:=hb.trans (af.mono hb.size);refine⟨(mN hb).from _,hb.block _ (by omega),fun p hp=>?_,dA.kept (cM hb none) (by simp),⟨v,hv.kept (cM hb none) (by simp)⟩,⟨u,hu.kept (cM hb none) (by simp)⟩,hB.trans (hb.mono hB.size)⟩
    rcases List.mem_append.1 hp with hp|hp
    ·exact HP.o p hp
    have:p=x:=by simpa using hp
    rw[this];exact HX.o
  have KH:((x.1:Int)==0)=false:=by rw[beq_eq_false_iff_ne];omega
  have hc0:=dA.cell;obtain⟨b,fI⟩:∃b,ly x.2=b:=⟨_,rfl⟩;rw[fI] at HT;have HX:=ap (show jS x.1 x.2=b by unfold jS;rw[if_neg h0,fI]);clear fI h0 qN HF
  gi_wp2_with fail
  refine⟨trivial,?_⟩
  cases b with
  | false=>
   gi_wp2_with (refine⟨trivial,?_⟩;gi_at_call 203;refine (CallsIn.inRound l (callsIn_wide.2 (HT.o _))).mono ?_;rintro e w1 ⟨rfl,hb⟩;have aU:=hv.kept (cM hb none) (by simp);have cR:=aU.cell;have nz:=aU.frozen)
   exact⟨((mN hb).trans (KeepsOthers.setCell _ _ _)).from _,rfl,pre,x,rfl,HP.o,HX.o,aU.set _,(hB.trans (hb.mono hB.size)).setCell (p:=⟨w.heap.size+1,0,none⟩) (by simp) _⟩
  | true=>
   gi_wp2_with (refine⟨trivial,?_⟩;gi_at_call 203;refine (CallsIn.inRound l (callsIn_wide.2 (HT.o _))).mono ?_;rintro e w1 ⟨rfl,hb⟩)
   refine⟨(mN hb).from _,hb.block _ (by omega),fun p hp=>?_,dA.kept (cM hb none) (by simp),⟨v,hv.kept (cM hb none) (by simp)⟩,⟨u,hu.kept (cM hb none) (by simp)⟩,hB.trans (hb.mono hB.size)⟩
   rcases List.mem_append.1 hp with hp|hp
   ·exact HP.o p hp
   have:p=x:=by simpa using hp
   rw[this];exact HX.o
 case done=>
  rintro D ys W hD dW ⟨hp,dA,⟨v,hv⟩,⟨u,hu⟩,hB⟩ hK;have hc:=hv.cell;have hf:=hv.frozen
  have og:=ap (show tB s.data.toList=s.size from by
   unfold tB;rw[NV (ok:=jS) Xy (by rw[←dW];exact fun p h=>hp p h)];exact bV s)
  clear dW hp;gi_wp2;have cQ:=hv.set (.int .i64 (s.size:Int));have gy:=(KeepsOthers.setCell W ⟨w.heap.size+1,0,none⟩ (.int .i64 (s.size:Int))).same D _ hK rfl;refine⟨by simp,.inl ⟨_,_,rfl,run_takeDeferred gy,?_⟩⟩;have bj:=cell_kept cQ.cell (grownBy_putObj' _ D (.deferred none)) (fun r e=>by cases e;exact⟨_,gy,rfl⟩);refine⟨.int .i64 (s.size:Int),?_,?_⟩
  ·simp[results,Tryz.results202,go_sem,bj]
  exact⟨aC (int_eq (by rw[og.o])),(hB.setCell (p:=⟨w.heap.size+1,0,none⟩) (by simp) _).trans (belowK_b (w:=w) (Nat.le_refl _) _ D _ _ (by simp at hD;omega) gy rfl rfl)⟩
 case stop=>
  rintro D c pre W hD ⟨rest,hsp⟩ ⟨rfl,iF,x,rfl,hp,hx,hv,hB⟩ hK;have hc:=hv.cell;have hf:=hv.frozen
  have og:=ap (show tB s.data.toList=x.1 from by
   unfold tB;rw[NU (ok:=jS) Xy hsp (fun p h=>hp p h) hx]
   rfl)
  clear hsp hp hx;gi_wp2;refine⟨by simp,.inl ⟨_,_,rfl,run_takeDeferred hK,?_⟩⟩;have bj:=cell_kept hc (grownBy_putObj' _ D (.deferred none)) (fun r e=>by cases e;exact⟨_,hK,rfl⟩);refine⟨.int .i64 (x.1:Int),?_,?_⟩
  ·simp[results,Tryz.results202,go_sem,bj]
  exact⟨aC (int_eq (by rw[og.o])),hB.trans (belowK_b (w:=w) (Nat.le_refl _) _ D _ _ (by simp at hD;omega) hK rfl rfl)⟩
theorem amb{ok:Nat→Int→Bool}{l:L}{k:Nat}(h:stop ok l=some k):k<l.length:=by
 unfold stop at h
 cases hf:(Utf.pieces l).find? fun p=>!ok p.1 p.2 with
 | none=>rw[hf] at h;cases h
 | some p=>
  rw[hf] at h;simp only[Option.map_some,Option.some.injEq] at h;have:=Xw l p (List.mem_of_find?_eq_some hf);omega
theorem aji(l:L):o6 l=(!l.isEmpty&&decide (tB l=l.length)):=by
 unfold o6 tB
 cases h:stop jS l with
 | none=>simp
 | some k=>
  have:=amb h;simp;intro _;omega
theorem ac7(l:L)(w:World)(hg:Gm w)(hl:l.length≤1000000000) :
  Calls Tryz.prog 154 #[.string (aa l),.string ⟨#[58]⟩] w fun e w'=>e=.returned (.tuple #[.string (aa (Lib.cut l [58]).1),.string (aa (Lib.cut l [58]).2.1),.bool (Lib.cut l [58]).2.2])∧Below w.heap.size w w':=by
 obtain⟨m,hm⟩:=hg.most;refine (Tryz.strings_Cut (aa l) ⟨#[58]⟩ m w (by rw[aO];omega) hm).mono ?_;rintro e w' ⟨rfl,n,rfl⟩;exact⟨rfl,below_drewN (Below.refl _ _) n⟩
theorem Sz(l q:L):(Lib.cut l q).1.length≤l.length∧(Lib.cut l q).2.1.length≤l.length:=by
 unfold Lib.cut;split
 ·simp only[List.length_take,List.length_drop];omega
 simp

theorem Np(l:L)(w:World)(hl:l.length≤1000000000) :
  Calls Tryz.prog 155 #[.string (aa l)] w fun e w'=>e=.returned (.bool (o6 l))∧Below w.heap.size w w':=by
 have Ly:(aa l).toList.isEmpty=decide (l=[]):=by rw[ByteArray.toList_eq,aZ];cases l<;>simp
 have HF:=ap (fun W=>aeA (aa l) W (by rw[aO];exact hl));rw[aZ] at HF
 by_cases h:l=[]
 ·rw[decide_eq_true h] at Ly;have Hr:=ap (show false=o6 l by rw[h];rfl);clear h
  go_enter Tryz.func155,Tryz.ntmps155
  go_wp2;go_ret;exact⟨aC (aR Hr.o),Below.refl _ _⟩
 rw[decide_eq_false h] at Ly;obtain⟨n,hn⟩:∃n,tB l=n:=⟨_,rfl⟩;rw[hn] at HF;obtain⟨b,hb⟩:∃b,o6 l=b:=⟨_,rfl⟩
 have hq:((n:Int)==((aa l).size:Int))=b:=by
  rw[←hb,aji,hn,aO]
  cases l with
  | nil=>exact absurd rfl h
  | cons c r=>
   rw[Bool.eq_iff_iff,beq_iff_eq];simp;omega
 rw[hb];clear hn hb h
 go_enter Tryz.func155,Tryz.ntmps155
 go_wp2_with fail
 refine (HF.o _).mono ?_
 rintro e w1 ⟨rfl,b1⟩
 go_wp2;go_ret;exact⟨rfl,b1⟩
def sg(x:Option (L×L)):Value:=match x with
 | some (p,l)=>.tuple #[.string (aa p),.string (aa l),.bool true]
 | none=>.tuple #[.string ⟨#[]⟩,.string ⟨#[]⟩,.bool false]

theorem alT(l:L)(w:World)(hg:Gm w)(hl:l.length≤1000000000) :
  Calls Tryz.prog 113 #[.string (aa l)] w fun e w'=>e=.returned (sg (split l))∧Below w.heap.size w w':=by
 have HC:=ap (fun W (h:Gm W)=>ac7 l W h hl);have HG:=ap hg;have hcs:=Sz l [58];obtain⟨x,hx⟩:∃x,split l=x:=⟨_,rfl⟩;rw[hx];unfold split at hx;obtain⟨⟨p,r,ok⟩,hc⟩:∃c,Lib.cut l [58]=c:=⟨_,rfl⟩;rw[hc] at HC hx hcs;dsimp only at HC hx hcs;have HP:=ap (fun W=>Np p W (by omega));have HR:=ap (fun W=>Np r W (by omega));have HL:=ap (fun W=>Np l W hl);clear hcs hc hg
 cases ok with
 | false=>
  cases hb:o6 l with
  | false=>
   rw[hb] at HL hx;have Hr:=ap (show sg x=.tuple #[.string ⟨#[]⟩,.string ⟨#[]⟩,.bool false] by rw[←hx];rfl);clear hx hb
   go_enter Tryz.func113,Tryz.ntmps113
   go_wp2_with fail
   refine (HC.o _ HG.o).mono ?_
   rintro e w1 ⟨rfl,b1⟩
   go_wp2_with fail
   refine (HL.o _).mono ?_
   rintro e w2 ⟨rfl,b2⟩
   go_wp2;go_ret3;rw[Hr.o];exact⟨rfl,b1.trans (b2.mono b1.size)⟩
  | true=>
   rw[hb] at HL hx;have Hr:=ap (show sg x=.tuple #[.string ⟨#[]⟩,.string (aa l),.bool true] by rw[←hx];rfl);clear hx hb
   go_enter Tryz.func113,Tryz.ntmps113
   go_wp2_with fail
   refine (HC.o _ HG.o).mono ?_
   rintro e w1 ⟨rfl,b1⟩
   go_wp2_with fail
   refine (HL.o _).mono ?_
   rintro e w2 ⟨rfl,b2⟩
   go_wp2;go_ret3;rw[Hr.o];exact⟨rfl,b1.trans (b2.mono b1.size)⟩
 | true=>
  cases hb:o6 p with
  | false=>
   rw[hb] at HP hx;have Hr:=ap (show sg x=.tuple #[.string ⟨#[]⟩,.string ⟨#[]⟩,.bool false] by rw[←hx];rfl);clear hx hb
   go_enter Tryz.func113,Tryz.ntmps113
   go_wp2_with fail
   refine (HC.o _ HG.o).mono ?_
   rintro e w1 ⟨rfl,b1⟩
   go_wp2_with fail
   refine (HP.o _).mono ?_
   rintro e w2 ⟨rfl,b2⟩
   go_wp2;go_ret3;rw[Hr.o];exact⟨rfl,b1.trans (b2.mono b1.size)⟩
  | true=>
   cases hd:o6 r with
   | false=>
    rw[hb] at HP hx;rw[hd] at HR hx;have Hr:=ap (show sg x=.tuple #[.string ⟨#[]⟩,.string ⟨#[]⟩,.bool false] by rw[←hx];rfl);clear hx hb hd
    go_enter Tryz.func113,Tryz.ntmps113
    go_wp2_with fail
    refine (HC.o _ HG.o).mono ?_
    rintro e w1 ⟨rfl,b1⟩
    go_wp2_with fail
    refine (HP.o _).mono ?_
    rintro e w2 ⟨rfl,b2⟩
    go_wp2_with fail
    refine (HR.o _).mono ?_
    rintro e w3 ⟨rfl,b3⟩
    go_wp2;go_ret3;rw[Hr.o];exact⟨rfl,(b1.trans (b2.mono b1.size)).trans (b3.mono (b1.trans (b2.mono b1.size)).size)⟩
   | true=>
    rw[hb] at HP hx;rw[hd] at HR hx;have Hr:=ap (show sg x=.tuple #[.string (aa p),.string (aa r),.bool true] by rw[←hx];rfl);clear hx hb hd
    go_enter Tryz.func113,Tryz.ntmps113
    go_wp2_with fail
    refine (HC.o _ HG.o).mono ?_
    rintro e w1 ⟨rfl,b1⟩
    go_wp2_with fail
    refine (HP.o _).mono ?_
    rintro e w2 ⟨rfl,b2⟩
    go_wp2_with fail
    refine (HR.o _).mono ?_
    rintro e w3 ⟨rfl,b3⟩
    go_wp2;go_ret3;rw[Hr.o];exact⟨rfl,(b1.trans (b2.mono b1.size)).trans (b3.mono (b1.trans (b2.mono b1.size)).size)⟩
theorem Yp(l:L)(w:World)(hg:Gl w)(hl:l.length≤1000000000) :
  Calls Tryz.prog 113 #[.string (aa l)] w fun e w'=>e=.returned (sg (split l))∧Below w.heap.size w w':=alT l w hg.m hl
end
end Go.Proofs.YtpdkeckeekchlaaGreatDoor
