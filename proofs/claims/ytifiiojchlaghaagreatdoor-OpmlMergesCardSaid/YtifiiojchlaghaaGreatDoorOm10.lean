/- References in plain data: a row of pieces, taken one by one. And more. -/
import Derived.Test.YtifiiojchlaghaaGreatDoorOm04
import Derived.Test.YtifiiojchlaghaaGreatDoorOm08
import Derived.Test.YtifiiojchlaghaaGreatDoorOm09
import Derived.Test.YtifiiojchlaghaaGreatDoorShelf
set_option linter.unusedSimpArgs false
set_option maxRecDepth 100000
set_option maxHeartbeats 8000000
set_option linter.unusedVariables false
namespace Go.Proofs.YtifiiojchlaghaaGreatDoor
section
open Go Tk Sx
namespace Sx
def fw(x:dI):Option L:=if x.ref=false∧x.text≠[38] then some x.text else if x.ref then (scalar x.text).map fun v=>ic v else none
def kM(l:List dI):L:=l.flatMap fun x=>(fw x).getD []
theorem agl(l:List dI)(x:dI):kM (l++[x])=kM l++(fw x).getD []:=by simp[kM]
theorem Mt{x:dI}{r:List dI}:nG (x :: r)=match fw x with
  | some t=>ji t (nG r)
  | none=>.error x.at_:=by
 conv=>lhs;unfold nG
 unfold fw
 by_cases h:x.ref=false∧x.text≠[38]
 ·rw[if_pos h,if_pos h]
 rw[if_neg h,if_neg h]
 cases hr:x.ref with
 | false=>simp
 | true=>
  simp only[if_true]
  cases scalar x.text with
  | none=>rfl
  | some v=>rfl
theorem WH:∀{l:List dI},(∀x∈l,(fw x).isSome=true)→nG l=.ok (kM l)
 | [],_=>rfl
 | x :: r,h=>by
  rw[Mt];obtain⟨t,ht⟩:=Option.isSome_iff_exists.1 (h x (by simp));rw[ht,WH fun y hy=>h y (List.mem_cons_of_mem _ hy)];simp[ji,kM,ht]
theorem WE:∀{pre:List dI} {x:dI} {rest:List dI},(∀y∈pre,(fw y).isSome=true)→fw x=none→nG (pre++x :: rest)=.error x.at_
 | [],x,rest,_,hx=>by rw[List.nil_append,Mt,hx]
 | y :: pre,x,rest,h,hx=>by
  rw[List.cons_append,Mt];obtain⟨t,ht⟩:=Option.isSome_iff_exists.1 (h y (by simp));rw[ht,WE (fun z hz=>h z (List.mem_cons_of_mem _ hz)) hx];rfl
theorem ajx{x:dI}(h:x.text.length≤100000):((fw x).getD []).length≤100000:=by
 unfold fw;split
 ·exact h
 split
 ·cases scalar x.text with
  | none=>simp
  | some v=>have:=LY (v:Int);simp;omega
 simp
theorem abg(x:dI):(ek x).text.length≤100000:=by unfold ek;simp only[List.length_take];omega
theorem Vd:∀{l:List dI},(kM (l.map ek)).length≤l.length*100000
 | []=>by simp[kM]
 | x :: r=>by
  have ih:=Vd (l:=r);have hx:=ajx (abg x);have e:kM ((x :: r).map ek)=(fw (ek x)).getD []++kM (r.map ek):=by simp[kM]
  rw[e,List.length_append,List.length_cons];omega
theorem aii:∀(f k:Nat) (l:L),∀x∈b8 f k l,x.text.length≤max 1 l.length:=by
 intro f
 induction f with
 | zero=>intro k l x hx;simp[b8] at hx
 | succ f ih=>
  intro k l x hx
  by_cases h0:l=[]
  ·subst h0;rw[BL] at hx;cases hx
  have tu:=Lib.indexByte_ge l 38
  by_cases hn:Lib.indexByte l 38<0
  ·rw[Me h0 hn] at hx;simp only[List.mem_singleton] at hx;subst hx;exact Nat.le_max_right _ _
  obtain⟨m,hm⟩:∃m:Nat,Lib.indexByte l 38=m:=⟨(Lib.indexByte l 38).toNat,by omega⟩
  have step:∀(t:dI) (k' j:Nat),t.text.length≤max 1 l.length→x∈t :: b8 f k' (l.drop j)→x.text.length≤max 1 l.length:=fun t k' j ht hm=>by
   rcases List.mem_cons.1 hm with e|e
   ·rw[e];exact ht
   have:=ih _ _ x e;rw[List.length_drop] at this;omega
  by_cases rb:m=0
  ·subst rb
   cases he:ends l.tail with
   | none=>rw[Mc h0 hm he] at hx;exact step _ _ _ (by simp;omega) hx
   | some n=>rw[Md h0 hm he] at hx;exact step _ _ _ (by simp;omega) hx
  rw[Mf h0 hm (by omega)] at hx;exact step _ _ _ (by simp;omega) hx
theorem V5{s:L}(hs:s.length≤100000)(k f:Nat):(b8 f k s).map ek=b8 f k s:=by
 have h:=aii f k s;generalize b8 f k s=r at *
 induction r with
 | nil=>rfl
 | cons x r ih=>
  rw[List.map_cons,ih fun y hy=>h y (List.mem_cons_of_mem _ hy)];congr 1;refine QE ?_;have:=h x (by simp);omega
end Sx
end
section
open Go.RowKit Tk

theorem akc(w:World)(s:ByteArray)(hg:Gl w)(jM:6≤w.heap.size)(hs:s.size≤1000000)(hS:wX s.data.toList) :
  Calls Tryz.prog 33 #[.string s] w (Z3 w s.data.toList):=by
 have HV:=hide (fun W=>Xj s W (by omega));obtain⟨D,hD⟩:∃D,s.data.toList=D:=⟨_,rfl⟩;have HD:=hide hD;have cu:=hide (show D.length=s.size by rw[←hD,b9]);have HO:=hide (fun W k (h1:Gl W) (h2:6≤W.heap.size) (h3:k<s.size)=>af9 W s k h1 h2 h3 (by omega) (hS.pl k (by rw[b9];exact h3)));rw[hD] at HV HO hS ⊢;have HS:=hide hS;clear hD hS;have HG:=hide hg;clear hg;rw[HS.out.val] at HV
 go_enter Tryz.func33,Tryz.ntmps33
 go_wp2
 go_step3
 go_wp2_with fail
 refine (HV.out _).mono ?_;rintro e w1 ⟨rfl,b1⟩;have B1:=hide b1;clear b1 HV;go_wp2
 go_step3
 go_wp2
 go_loopg [2,3] s.size (fun g vl va wr=>∃(p:Nat) (xs:List Tv) (A:Option Addr) (c:Nat),g=s.size-p∧p≤s.size∧va=.int .i64 (p:Int)∧vl=.slice A xs.length c∧
  wr.ownsRow w.heap.size 85 7 (.slice A xs.length c) xs.length (rW xs)∧(∀x∈xs,x.In w.heap.size wr)∧Below w.heap.size w wr∧uN D p (xs.map (·.t)))
 case atStart=>exact⟨0,[],none,0,rfl,by omega,rfl,rfl,World.ownsRow_nil _ _ _ _,(fun x hx=>by cases hx),B1.out,.zero _⟩
 case round=>
  obtain⟨p,xs,A,c,et,hp,rfl,rfl,aj,hi,hB,hR⟩:=hrel;have Hg:=hide et;have jD:=hide aj;have Hi:=hide hi;have HB:=hide hB;have HR:=hide hR;clear et aj hi hB hR B1
  by_cases hlt:p<s.size
  ·have xQ:=HO.out wr p (HG.out.below HB.out) (by have:=HB.out.size;omega) hlt
   cases ho:Tk.one p (D.drop p) with
   | none=>
    rw[ho] at xQ;have HX:=hide (show Calls Tryz.prog 54 #[.string s,.int .i64 (p:Int)] wr fun e w'=>Below wr.heap.size wr w'∧e=.returned (.tuple #[.agg #[.int .i8 0,.string ⟨#[]⟩,.slice none 0 0,.bool false,.string ⟨#[]⟩,.int .i64 0,.int .i64 0],.bool false]) from xQ)
    have HP:=hide (show yz D (xs.map (·.t)) p ((p:Int)==(s.size:Int)) by
     have h:=V4 HR.out (.inr ho);rw[cu.out] at h;rw[show ((p:Int)==(s.size:Int))=decide (p=s.size) by rw[show decide (p=s.size)=decide ((p:Int)=(s.size:Int)) from decide_eq_decide.2 (by omega)];rfl];exact h)
    have mf:=hide (show xs.length≤D.length by have:=HR.out.1;have:=cu.out;rw[List.length_map] at *;omega);clear xQ ho HO HR
    go_wp2_with fail
    refine HX.out.mono ?_;rintro e w2 ⟨b2,rfl⟩;have B2:=hide (b2.alloc b2.size (.cells #[.int .i8 0,.string ⟨#[]⟩,.slice none 0 0,.bool false,.string ⟨#[]⟩,.int .i64 0,.int .i64 0] 85));clear b2;have Own2:=hide (LS jD.out B2.out);have C7:=hide (fun x hx=>(Hi.out x hx).below B2.out);have ah:=hide (HB.out.trans (B2.out.mono HB.out.size));go_wp2;rw[Exit.noGoto_ret];go_ret3;exact⟨xs,A,c,p,_,HP.out,mf.out,yo jD.out,rfl,ah.out,Reads.dA Own2.out,zD Own2.out,Cb Own2.out,C7.out⟩
   | some t=>
    rw[ho] at xQ
    have HX:=hide (show Calls Tryz.prog 54 #[.string s,.int .i64 (p:Int)] wr fun e w'=>Below wr.heap.size wr w'∧∃A c,e=.returned (.tuple #[.agg #[.int .i8 t.kind,.string (aa t.name),.slice A t.attrs.length c,.bool t.empty,.string (aa t.text),.int .i64 (t.at_:Int),.int .i64 (t.end_:Int)],.bool true])∧
     w'.ownsRow wr.heap.size 148 3 (.slice A t.attrs.length c) t.attrs.length (kf t.attrs) from xQ)
    have HN:=hide (show p<t.end_∧t.end_≤D.length∧uN D t.end_ (xs.map (·.t)++[t]) from have h:=HS.out.one p (by rw[cu.out];exact hlt) t ho;⟨h.1,h.2,aic HR.out (by rw[cu.out];exact hlt) ho h.1⟩);have mf:=hide (show xs.length≤D.length by have:=HR.out.1;have:=cu.out;rw[List.length_map] at *;omega);clear xQ ho HO HR
    go_wp2_with fail
    refine HX.out.mono ?_;rintro e w2 ⟨b2,A2,c2,rfl,o2⟩;have B2:=hide b2;have N2:=hide (Tv.In.dA o2);have Own2:=hide (LS jD.out b2);have C7:=hide (fun x hx=>(Hi.out x hx).below b2);have ah:=hide (HB.out.trans (b2.mono HB.out.size));have zu:=hide (Own2.out.alloc (.cells #[.int .i8 t.kind,.string (aa t.name),.slice A2 t.attrs.length c2,.bool t.empty,.string (aa t.text),.int .i64 (t.at_:Int),.int .i64 (t.end_:Int)] 85));have ZF:=hide (fun x hx=>(C7.out x hx).below (aA w2 (.cells #[.int .i8 t.kind,.string (aa t.name),.slice A2 t.attrs.length c2,.bool t.empty,.string (aa t.text),.int .i64 (t.at_:Int),.int .i64 (t.end_:Int)] 85)));have N3:=hide ((N2.out.below (aA w2 (.cells #[.int .i8 t.kind,.string (aa t.name),.slice A2 t.attrs.length c2,.bool t.empty,.string (aa t.text),.int .i64 (t.at_:Int),.int .i64 (t.end_:Int)] 85))).more HB.out.size);have ax:=hide (ah.out.alloc ah.out.size (.cells #[.int .i8 t.kind,.string (aa t.name),.slice A2 t.attrs.length c2,.bool t.empty,.string (aa t.text),.int .i64 (t.at_:Int),.int .i64 (t.end_:Int)] 85));have V3:=hide (ae.new w2 85 #[.int .i8 t.kind,.string (aa t.name),.slice A2 t.attrs.length c2,.bool t.empty,.string (aa t.text),.int .i64 (t.at_:Int),.int .i64 (t.end_:Int)])
    have YY:=hide (show (Value.slice A xs.length c).ownBlock≠some w2.heap.size from fun e=>by have:=(Own2.out.lt _ e).2;omega);have CZ:=hide (show xs.length≤1000000 by have:=mf.out;have:=cu.out;omega);clear b2 o2 N2 Own2 C7 ah B2;go_wp2;generalize w2.alloc (.cells #[.int .i8 t.kind,.string (aa t.name),.slice A2 t.attrs.length c2,.bool t.empty,.string (aa t.text),.int .i64 (t.at_:Int),.int .i64 (t.end_:Int)] 85)=W3 at *
    generalize w2.heap.size=V at *
    have y0:=V3.out.cell 0;have y1:=V3.out.cell 1;have y2:=V3.out.cell 2;have y3:=V3.out.cell 3;have y4:=V3.out.cell 4;have y5:=V3.out.cell 5;have y6:=V3.out.cell 6;have xa:∀o,(W3.alloc o).cell? ⟨V,6,none⟩=some (.int .i64 (t.end_:Int)):=fun o=>(V3.out.alloc o).cell 6
    go_region_law
     (show if Region.wanted (⟨some 25,_,_,_,_,_⟩:Oper) _=true then _ else _;refine Fy _ (by rfl) _ _ _ (by rfl) w.heap.size 85 _ 7 88 Tryz.underlying72 aeL (by rfl) (by omega) (.slice A xs.length c) xs.length (rW xs) (by rfl) (by first|exact zu.out.alloc _|exact (zu.out.alloc _).drew) (Tv.row ⟨t,A2,c2⟩) rfl (akl ⟨t,A2,c2⟩) W3.heap.size (by first|exact ae.new W3 85 _|exact (ae.new W3 85 _).drew) (by rfl) (by unfold maxLen;have:=CZ.out;omega) (by have:=CZ.out;omega) (by have:=ax.out.size;simp[World.drew];omega) ?_;intro gg cap w8 aN aF cY;have V8:=hide (ae.grown (ae.drew (ae.alloc V3.out (.cells (Tv.row ⟨t,A2,c2⟩).toArray 85))) aF YY.out.symm);have z6:w8.cell? ⟨V,6,none⟩=some (.int .i64 (t.end_:Int)):=V8.out.cell 6;have za:=hide aF;have GZ:=hide aN;clear aN aF cY)
    all_goals go_wp2
    all_goals
     have NC:=hide ((ax.out.alloc ax.out.size (.cells (Tv.row ⟨t,A2,c2⟩).toArray 85)).drew);have gO:=hide (NC.out.grown za.out NC.out.size fun j e=>(aI zu.out j e).1)
     have ZG:=hide (show ∀x∈xs++[Tv.mk t A2 c2],x.In w.heap.size w8 from fun x hx=>by
      rcases List.mem_append.1 hx with hx|hx
      ·exact (ZF.out x hx).grown zu.out za.out
      simp only[List.mem_singleton] at hx;subst hx;exact N3.out.grown zu.out za.out)
     go_roundg (s.size-t.end_)
     case measure=>have:=Hg.out;have:=HN.out.1;have:=HN.out.2.1;have:=cu.out;omega
     case rel=>exact⟨t.end_,xs++[⟨t,A2,c2⟩],some ⟨gg,0,none⟩,cap,rfl,by have:=HN.out.2.1;have:=cu.out;omega,rfl,by rw[List.length_append];rfl,by rw[List.length_append,akk];exact GZ.out,ZG.out,gO.out,by rw[List.map_append];exact HN.out.2.2⟩
  have hpe:p=s.size:=by omega
  subst hpe
  have HP:=hide (show yz D (xs.map (·.t)) s.size true by
   have h:=V4 HR.out (.inl cu.out.symm);rwa[cu.out,decide_eq_true rfl] at h)
  have mf:=hide (show xs.length≤D.length by have:=HR.out.1;have:=cu.out;rw[List.length_map] at *;omega);go_wp2;rw[Exit.noGoto_ret];go_ret3;exact⟨xs,A,c,s.size,_,HP.out,mf.out,yo jD.out,rfl,HB.out,Reads.dA jD.out,zD jD.out,Cb jD.out,Hi.out⟩
end
section
open Go.RowKit Tk

def Tk.At.g(a:At):Ga:=⟨aa a.name,aa a.value,(a.at_:Int)⟩
def Tv.g(x:Tv):Gt:=⟨x.t.kind,aa x.t.name,x.t.attrs.map At.g,x.A,x.c,x.t.empty,aa x.t.text,(x.t.at_:Int),(x.t.end_:Int)⟩
theorem aap(l:List At):kf l=ln (l.map At.g):=by
 induction l with
 | nil=>rfl
 | cons a l ih=>unfold kf ln at ih ⊢;rw[List.flatMap_cons,List.map_cons,List.flatMap_cons,ih];rfl
theorem aib(x:Tv):x.row=zU x.g:=by
 unfold Tv.row Ca zU Tv.g;simp only[List.length_map]
theorem akj(xs:List Tv):rW xs=xo (xs.map Tv.g):=by
 induction xs with
 | nil=>rfl
 | cons a l ih=>unfold rW xo at ih ⊢;rw[List.flatMap_cons,List.map_cons,List.flatMap_cons,ih,aib]
theorem Tv.In.g{x:Tv}{B:Nat}{W:World}(h:x.In B W):Reads W W.heap.size 3 x.g.A x.g.aw.length (ln x.g.aw):=by
 have:=h.a;rw[aap] at this;unfold Tv.g;simp only[List.length_map];exact this
theorem zC.of{W:World}{A:Option Addr}{xs:List Tv}{B:Nat}(h:Reads W W.heap.size 7 A xs.length (rW xs))(hi:∀x∈xs,x.In B W):zC W W.heap.size A (xs.map Tv.g):=by
 refine⟨?_,fun x hx=>?_⟩
 ·rw[List.length_map,←akj];exact h
 obtain⟨y,hy,rfl⟩:=List.mem_map.1 hx;exact (hi y hy).g
end
section
open Go Tk Sx
namespace Sx
def jQ(k:Nat)(r:Int):Bool:=if k=0 then ko r else lj r
def oW(l:L):Bool:=!l.isEmpty&&(stop jQ l).isNone
def split(l:L):Option (L×L) :=
 if (Lib.cut l [58]).2.2 then if oW (Lib.cut l [58]).1&&oW (Lib.cut l [58]).2.1 then some ((Lib.cut l [58]).1,(Lib.cut l [58]).2.1) else none
 else if oW l then some ([],l) else none
def norm(c:UInt8):UInt8:=if c=9∨c=10∨c=13 then 32 else c
def less:L→Option Nat
 | []=>none
 | c :: r=>if c=60 then some 0 else (less r).map (· + 1)
def value(l:L):Except Nat L :=
 match less l with
 | some k=>match dF k 0 ((l.take k).map norm) with
  | .error a=>.error a
  | .ok _=>.error k
 | none=>dF l.length 0 (l.map norm)
structure Nm where
 ns:L
 loc:L
 deriving DecidableEq
structure fA where
 name:Nm
 val:L
 deriving DecidableEq
structure Ev where
 kind:Nat
 name:Nm
 attrs:List fA
 text:L
 deriving DecidableEq
structure El where
 written:L
 name:Nm
 scope:Nat
structure St where
 open_:List El
 scope:List ay
 evs:List Ev
 gL:Bool
structure bR where
 pre:L
 loc:L
 val:L
 at_:Nat
def Fa:Nm:=⟨[],[]⟩
abbrev bQ:=Option (Nat×Nat)
def ym(b:bQ)(at_ e:Nat):bQ:=match b with
 | some x=>some x
 | none=>some (at_,e)
def kO:L:=[120,109,108,110,115]
def dm(a:At):bR:=match split a.name with
 | some (p,l)=>⟨p,l,[],a.at_⟩
 | none=>⟨[],[],[],a.at_⟩
def gZ:List L→List At→Option Nat
 | _,[]=>none
 | seen,a :: r=>if (split a.name).isNone=true∨a.name∈seen then some a.at_ else gZ (seen++[a.name]) r
def names(t:Tok):Option Nat:=if (split t.name).isNone then some t.at_ else gZ [] t.attrs
def valOf(a:At):L:=match value a.value with
 | .ok v=>v
 | .error _=>[]
def rY(a:At):bR:=⟨(dm a).pre,(dm a).loc,valOf a,a.at_⟩
def jT:List At→Option Nat
 | []=>none
 | a :: r=>match value a.value with
  | .ok _=>jT r
  | .error _=>some a.at_
def declares(s:bR):L×Bool:=if s.pre=kO then (s.loc,true) else ([],decide (s.pre=[]∧s.loc=kO))
def vX(p u:L):Bool:=decide (p≠kO)&&decide (u≠FJ)&&(decide (p=wa)==decide (u=yy))&&(decide (p=[])||decide (u≠[]))
def declared:List ay→List bR→List ay
 | sc,[]=>sc
 | sc,s :: r=>if (declares s).2 then declared (sc++[⟨(declares s).1,s.val⟩]) r else declared sc r
def iL:List bR→Option Nat
 | []=>none
 | s :: r=>if (declares s).2 && !vX (declares s).1 s.val then some s.at_ else iL r
def uP(sc:List ay)(s:bR):L×Bool:=if s.pre=[] then ([],true) else lT sc s.pre
def pE(sc:List ay)(s:bR):Nm:=⟨(uP sc s).1,s.loc⟩
def cE(sc:List ay):List bR→List fA
 | []=>[]
 | s :: r=>if (declares s).2 then cE sc r else ⟨pE sc s,s.val⟩ :: cE sc r
def jg(sc:List ay):List Nm→List bR→Option Nat
 | _,[]=>none
 | seen,s :: r=>if (declares s).2 then jg sc seen r else if (uP sc s).2=false∨pE sc s∈seen then some s.at_ else jg sc (seen++[pE sc s]) r
def dY(l:List Ev)(x:Ev):List Ev:=if x.kind≠2 then l++[x] else match l.getLast? with
 | some y=>if y.kind=2 then l.dropLast++[⟨2,y.name,y.attrs,y.text++x.text⟩] else if x.text=[] then l else l++[x]
 | none=>if x.text=[] then l else l++[x]
def MD(t:L):Ev:=⟨2,Fa,[],t⟩
def qQ(st:St):St:=match st.open_.getLast? with
 | none=>st
 | some x=>⟨st.open_.dropLast,st.scope.take x.scope,dY st.evs ⟨1,x.name,[],[]⟩,st.gL⟩
def jy(t:Tok):L:=((split t.name).getD ([],[])).1
def nA(t:Tok):L:=((split t.name).getD ([],[])).2
def early(st:St)(t:Tok):bQ:=match names t with
 | some a=>some (a,50)
 | none=>if st.gL&&st.open_.isEmpty then some (t.at_,50) else if 16<t.attrs.length then some (t.at_,42) else if st.open_.length=16 then some (t.at_,41) else none
def splits(t:Tok):List bR:=t.attrs.map rY
def scope'(st:St)(t:Tok):List ay:=declared st.scope (splits t)
def late(st:St)(t:Tok):Option Nat:=match jT t.attrs with
 | some a=>some a
 | none=>match iL (splits t) with
  | some a=>some a
  | none=>if (lT (scope' st t) (jy t)).2=false∨jy t=kO then some t.at_ else jg (scope' st t) [] (splits t)
def started(st:St)(t:Tok):St :=
 ⟨st.open_++[⟨t.name,⟨(lT (scope' st t) (jy t)).1,nA t⟩,st.scope.length⟩],scope' st t,
  dY st.evs ⟨0,⟨(lT (scope' st t) (jy t)).1,nA t⟩,cE (scope' st t) (splits t),[]⟩,true⟩
def start(st:St)(t:Tok):Except (Nat×Nat) St:=match early st t with
 | some b=>.error b
 | none=>match late st t with
  | some a=>.error (a,50)
  | none=>.ok (if t.empty then qQ (started st t) else started st t)
def end_(st:St)(t:Tok):Except (Nat×Nat) St:=match st.open_.getLast? with
 | none=>.error (t.at_,50)
 | some x=>if x.written=t.name then .ok (qQ st) else .error (t.at_,50)
def Ft(st:St)(t:L):St:=⟨st.open_,st.scope,dY st.evs (MD t),st.gL⟩
def text(st:St)(t:Tok):Except (Nat×Nat) St:=if st.open_=[] then if t.text.all sp then .ok st else .error (t.at_,50) else match dF t.text.length 0 t.text with
 | .ok s=>.ok (Ft st s)
 | .error _=>.error (t.at_,50)
def data(st:St)(t:Tok):Except (Nat×Nat) St:=if st.open_=[] then .error (t.at_,50) else .ok (Ft st t.text)
def step(st:St)(t:Tok):Except (Nat×Nat) St :=
 if t.kind=0 then start st t else if t.kind=1 then end_ st t else if t.kind=2 then text st t else if t.kind=3 then data st t else .ok st
def run:St→List Tok→Except (Nat×Nat) St
 | st,[]=>.ok st
 | st,t :: r=>match step st t with
  | .error x=>.error x
  | .ok iH=>run iH r
def lU:St:=⟨[],[],[],false⟩
def MF(ts:List Tok):Nat:=(ts.getLast?.map (·.end_)).getD 0
def parse(s:L):Except (Nat×Nat) (List Ev) :=
 if 0≤bad s then .error ((bad s).toNat,50)
 else if MF (jA s.length 0 s)≠s.length then .error (MF (jA s.length 0 s),50)
 else match run lU (jA s.length 0 s) with
  | .error x=>.error x
  | .ok st=>if st.open_=[]∧st.gL=true then .ok st.evs else .error (s.length,50)
end Sx
end
section
open Tk Sx
def Fg(o:List Nm)(e:Ev):List Nm:=if e.kind=0 then o++[e.name] else if e.kind=1 then o.dropLast else o
def opn:List Nm→List Ev→List Nm
 | o,[]=>o
 | o,e :: r=>opn (Fg o e) r
theorem Vc:∀(l:List Ev) (o:List Nm) (r:List Ev),opn o (l++r)=opn (opn o l) r
 | [],_,_=>rfl
 | e :: l,o,r=>Vc l (Fg o e) r
theorem agi(l:List Ev)(o:List Nm)(e:Ev):opn o (l++[e])=Fg (opn o l) e:=Vc l o [e]
def XX(o:List Nm)(k:Nat)(prev:Option Ev)(e:Ev):Prop :=
 (e.kind=0∧(o=[]→k=0)∧o.length<16∧e.attrs.length≤16∧e.name.loc≠[])∨(e.kind=1∧o.getLast?=some e.name)∨(e.kind=2∧o≠[]∧e.text≠[]∧fine e.text=true∧∃p,prev=some p∧p.kind≠2)
def Nn(evs:List Ev):Prop:=∀k e,evs[k]?=some e→XX (opn [] (evs.take k)) k (evs[k-1]?) e
namespace Evs
def wG(e:Ev):Prop :=
 (e.kind=0∧e.name.loc≠[]∧e.text=[]∧(e.attrs.map (·.name)).Nodup∧∀a∈e.attrs,a.name.loc≠[])∨(e.kind=1∧e.name.loc≠[]∧e.attrs=[]∧e.text=[])∨(e.kind=2∧e.name=Fa∧e.attrs=[]∧e.text≠[])
structure qM(l:List Ev):Prop where
 fld:∀e∈l,wG e
 bal:Nn l
 shut:opn [] l=[]
 ne:l≠[]
def lV(s:List Nat×List (Nat×Nat))(i:Nat)(e:Ev):List Nat×List (Nat×Nat) :=
 if e.kind=0 then (s.1++[i],s.2) else if e.kind=1 then (s.1.dropLast,(s.1.getLastD 0,i) :: s.2) else s
def upto(l:List Ev):Nat→List Nat×List (Nat×Nat)
 | 0=>([],[])
 | i+1=>match l[i]? with
  | some e=>lV (upto l i) i e
  | none=>upto l i
theorem MM{l:List Ev}{i:Nat}{e:Ev}(h:l[i]?=some e):upto l (i+1)=lV (upto l i) i e:=by
 rw[upto,h]
def bO(p:Nat):List (Nat×Nat)→Option Nat
 | []=>none
 | x :: m=>if x.1=p then some x.2 else bO p m
def kL(l:List Ev)(p:Nat):Nm:=((l[p]?).map (·.name)).getD Fa
theorem MN(l:List Ev):∀i,i≤l.length→(upto l i).1.map (kL l)=opn [] (l.take i)
 | 0,_=>rfl
 | i+1,h=>by
  have ih:=MN l i (by omega);obtain⟨e,he⟩:∃e,l[i]?=some e:=⟨_,List.getElem?_eq_getElem (by omega)⟩;rw[MM he,List.take_add_one,he];show _=opn [] (l.take i++[e]);rw[agi,←ih];unfold lV Fg
  by_cases h0:e.kind=0
  ·rw[if_pos h0,if_pos h0,List.map_append];simp[kL,he]
  rw[if_neg h0,if_neg h0]
  by_cases h1:e.kind=1
  ·rw[if_pos h1,if_pos h1];simp[List.map_dropLast]
  rw[if_neg h1,if_neg h1]
theorem ML(l:List Ev):∀i,∀p∈(upto l i).1,p<i
 | 0,p,h=>by simp[upto] at h
 | i+1,p,h=>by
  have ih:=ML l i;rw[upto] at h
  cases he:l[i]? with
  | none=>
   rw[he] at h;have:=ih p h;omega
  | some e=>
   rw[he] at h;dsimp only at h;unfold lV at h
   split at h
   ·rcases List.mem_append.1 h with h|h
    ·have:=ih p h;omega
    rw[List.mem_singleton] at h;omega
   split at h
   ·have:=ih p (List.dropLast_subset _ h);omega
   have:=ih p h;omega
def gT(l:List Ev):List (Nat×Nat):=(upto l l.length).2
theorem MU{l:List Ev}(h:qM l){i:Nat}{e:Ev}(he:l[i]?=some e) :
  wG e∧((e.kind=0∧((upto l i).1=[]→i=0))∨(e.kind=1∧∃o p,(upto l i).1=o++[p]∧p<i∧kL l p=e.name)∨(e.kind=2∧(upto l i).1≠[]∧∃q,0<i∧l[i-1]?=some q∧q.kind≠2)):=by
 have hi:i<l.length:=(List.getElem?_eq_some_iff.1 he).1;have ho:=MN l i (by omega);refine⟨h.fld e (List.mem_of_getElem? he),?_⟩
 rcases h.bal i e he with ⟨h0,h1,-,-,-⟩|⟨h0,h1⟩|⟨h0,h1,-,-,q,h2,h3⟩
 ·refine .inl ⟨h0,fun hn=>h1 ?_⟩;rw[←ho,hn];rfl
 ·refine .inr (.inl ⟨h0,?_⟩);rw[←ho,List.getLast?_map] at h1;obtain⟨p,hp,e1⟩:=Option.map_eq_some_iff.1 h1;obtain⟨o,bG⟩:=List.getLast?_eq_some_iff.1 hp;exact⟨o,p,bG,ML l i p (by rw[bG];simp),e1⟩
 refine .inr (.inr ⟨h0,fun hn=>h1 (by rw[←ho,hn];rfl),q,?_,h2,h3⟩)
 rcases Nat.eq_zero_or_pos i with hz|hz
 ·subst hz;exact absurd rfl h1
 exact hz
end Evs
end
section
open Go.RowKit Go.Shelf Tk Sx

attribute [local go_sem] Oper.semAt_some

def Ns(w:World)(pre:List (Nat×Int))(W:World):Prop :=
 (∀p∈pre,jQ p.1 p.2=true)∧Boxed W w.heap.size 94 (.func (.func 166) #[] #[])∧(∃v,Boxed W (w.heap.size+1) 3 v)∧(∃u,Boxed W (w.heap.size+1+1) 9 u)∧Below w.heap.size w W
def Nu(w:World)(c:Code)(pre:List (Nat×Int))(W:World):Prop :=
 c=.ret∧∃iF x,pre=iF++[x]∧(∀p∈iF,jQ p.1 p.2=true)∧jQ x.1 x.2=false∧Boxed W (w.heap.size+1) 3 (.int .i64 (x.1:Int))∧Below w.heap.size w W
theorem XQ(w:World):OwnFrom (w.heap.size+1+1+1) (Ns w):=by
 rintro s X Y row ⟨h1,hb,⟨v,hv⟩,⟨u,hu⟩,h3⟩ hg aj;exact⟨h1,hb.kept hg (n7 aj hb),⟨v,hv.kept hg (n7 aj hv)⟩,⟨u,hu.kept hg (n7 aj hu)⟩,h3.grown hg h3.size (fun k e=>by have:=(aj k e).1;omega)⟩
theorem XS(w:World)(c:Code):OwnFrom (w.heap.size+1+1+1) (Nu w c):=by
 rintro s X Y row ⟨h1,p,x,h2,h4,h5,hv,h3⟩ hg aj;exact⟨h1,p,x,h2,h4,h5,hv.kept hg (n7 aj hv),h3.grown hg h3.size (fun k e=>by have:=(aj k e).1;omega)⟩
theorem VF(k:Nat)(r:Int)(h:r<0):jQ k r=false:=by
 unfold jQ;rw[Jk r h,Rj r h];simp
def sS(l:L):Nat:=(stop jQ l).getD l.length
theorem acw(s:ByteArray)(w:World)(hs:s.size≤1000000000) :
  Calls Tryz.prog 165 #[.string s,.func (.func 166) #[] #[]] w fun e w'=>e=.returned (.int .i64 (sS s.data.toList:Nat))∧Below w.heap.size w w':=by
 refine (callsIn_wide (n:=5)).1 ?_;refine callsIn_of_wp_marks Tryz.func165 rfl trivial ?_ rfl;simp only[Tryz.ntmps165,List.size_toArray,List.length_cons,List.length_nil,Nat.reduceAdd,Nat.reduceSub,Array.replicate_succ,Array.replicate_zero,List.push_toArray,List.append_toArray,List.nil_append,List.cons_append]
 gi_wp2_with (refine⟨trivial,?_⟩;gi_at_call 52;refine (callsIn_wide.2 (Mi _ _)).mono ?_;rintro e w' ⟨rfl,rfl⟩)
 have b0:=Boxed.new w 94 (.func (.func 166) #[] #[]);have b1:=Boxed.new (w.alloc (.cells #[.func (.func 166) #[] #[]] 94)) 3 (.int .i64 0);rw[World.size_alloc] at b1;have b2:=Boxed.new ((w.alloc (.cells #[.func (.func 166) #[] #[]] 94)).alloc (.cells #[.int .i64 0] 3)) 9 (.string s);rw[World.size_alloc,World.size_alloc] at b2
 have qT:Below w.heap.size w (((w.alloc (.cells #[.func (.func 166) #[] #[]] 94)).alloc (.cells #[.int .i64 0] 3)).alloc (.cells #[.string s] 9)) :=
  (((Below.refl _ w).alloc (Nat.le_refl _) _).alloc (by simp) _).alloc (by simp;omega) _
 refine wpIn_rangeFunc_ownG rfl (by omega) (gf:=80) (lb:=#[.pointer (some ⟨w.heap.size+1+1,0,none⟩)]) rfl trivial (enters_of Tryz.func80 (by kernel_rfl) rfl)
  (Mj (5-1) (by omega) (w.heap.size+1+1) s hs _ (by simp) b2.cell) fo.trans (BS (by simp)) (Below.refl _ _) (fun _=>rfl)
  (Ns w) (Nu w) (by simpa using XQ w) (fun c=>by simpa using XS w c)
  ⟨(fun p hp=>by cases hp),(b0.alloc _).alloc _,⟨_,b1.alloc _⟩,⟨_,b2⟩,qT⟩
  (fun x=>{ tmps:=#[.string s,.func (.func 166) #[] #[],undef,.pointer (some ⟨w.heap.size,0,none⟩),.pointer (some ⟨w.heap.size+1,0,none⟩),.int .i64 (x.1:Int),.int .i64 x.2,.string s,
   .func (.func 80) #[] #[.pointer (some ⟨w.heap.size+1+1,0,none⟩)],.int .i64 (x.1:Int),.int .i64 x.2,undef,undef,undef,undef,undef,undef,undef,undef,undef,undef,undef,undef,undef,undef,undef,undef],defers:=[] }) ?assign ?body ?done ?stop
 case assign=>
  intro l x W K hK;gi_wp2;exact hK
 case body=>
  rintro l pre x W ⟨hp,aJ,⟨v,hv⟩,⟨u,hu⟩,hB⟩ hlen;have HP:=hide hp;have h2:w.heap.size+1+1<W.heap.size:=hu.lt;have HF:=hide (Jm x.2);have HT:=hide (Rk x.2);have qA:=hide (Ra (r:=x.2));clear hp
  by_cases h0:x.1=0
  ·have Jw:((x.1:Int)==0)=true:=by simp[h0]
   cases hx:ko x.2 with
   | false=>
    rw[hx] at HF;have HX:=hide (show jQ x.1 x.2=false by unfold jQ;rw[if_pos h0,hx]);clear hx h0 HT qA
    gi_wp2_with (refine⟨trivial,?_⟩;gi_at_call 189;refine (CallsIn.inRound l (callsIn_wide.2 (HF.out _))).mono ?_;rintro e w1 ⟨rfl,hb⟩;have bh:=hv.kept (cR hb none) (by simp);have cU:=bh.cell;have ni:=bh.frozen)
    refine⟨fun _ h=>(by cases h),?_⟩;gi_wp2;exact⟨((mH hb).trans (KeepsOthers.setCell _ _ _)).from _,rfl,pre,x,rfl,HP.out,HX.out,bh.set _,(hB.trans (hb.mono hB.size)).setCell (p:=⟨w.heap.size+1,0,none⟩) (by simp) _⟩
   | true=>
    rw[hx] at HF;rw[qA.out hx] at HT;have HX:=hide (show jQ x.1 x.2=true by unfold jQ;rw[if_pos h0,hx]);clear hx h0 qA
    gi_wp2_with first
     | (refine⟨trivial,?_⟩;gi_at_call 189;refine (CallsIn.inRound l (callsIn_wide.2 (HF.out _))).mono ?_;rintro e w1 ⟨rfl,hb⟩;have hc0:=(aJ.kept (cR hb none) (by simp)).cell)
     | (refine⟨trivial,?_⟩;gi_at_call 166;refine (CallsIn.inRound l (callsIn_wide.2 (HT.out _))).mono ?_;rintro e w2 ⟨rfl,ag⟩)
    have hb:=hb.trans (ag.mono hb.size);refine⟨(mH hb).from _,hb.block _ (by omega),fun p hp=>?_,aJ.kept (cR hb none) (by simp),⟨v,hv.kept (cR hb none) (by simp)⟩,⟨u,hu.kept (cR hb none) (by simp)⟩,hB.trans (hb.mono hB.size)⟩
    rcases List.mem_append.1 hp with hp|hp
    ·exact HP.out p hp
    have:p=x:=by simpa using hp
    rw[this];exact HX.out
  have Jw:((x.1:Int)==0)=false:=by rw[beq_eq_false_iff_ne];omega
  have hc0:=aJ.cell;obtain⟨b,jq⟩:∃b,lj x.2=b:=⟨_,rfl⟩;rw[jq] at HT;have HX:=hide (show jQ x.1 x.2=b by unfold jQ;rw[if_neg h0,jq]);clear jq h0 qA HF
  gi_wp2_with fail
  refine⟨trivial,?_⟩
  cases b with
  | false=>
   gi_wp2_with (refine⟨trivial,?_⟩;gi_at_call 166;refine (CallsIn.inRound l (callsIn_wide.2 (HT.out _))).mono ?_;rintro e w1 ⟨rfl,hb⟩;have bh:=hv.kept (cR hb none) (by simp);have cU:=bh.cell;have ni:=bh.frozen)
   exact⟨((mH hb).trans (KeepsOthers.setCell _ _ _)).from _,rfl,pre,x,rfl,HP.out,HX.out,bh.set _,(hB.trans (hb.mono hB.size)).setCell (p:=⟨w.heap.size+1,0,none⟩) (by simp) _⟩
  | true=>
   gi_wp2_with (refine⟨trivial,?_⟩;gi_at_call 166;refine (CallsIn.inRound l (callsIn_wide.2 (HT.out _))).mono ?_;rintro e w1 ⟨rfl,hb⟩)
   refine⟨(mH hb).from _,hb.block _ (by omega),fun p hp=>?_,aJ.kept (cR hb none) (by simp),⟨v,hv.kept (cR hb none) (by simp)⟩,⟨u,hu.kept (cR hb none) (by simp)⟩,hB.trans (hb.mono hB.size)⟩
   rcases List.mem_append.1 hp with hp|hp
   ·exact HP.out p hp
   have:p=x:=by simpa using hp
   rw[this];exact HX.out
 case done=>
  rintro D ys W hD ew ⟨hp,aJ,⟨v,hv⟩,⟨u,hu⟩,hB⟩ hK;have hc:=hv.cell;have hf:=hv.frozen
  have nU:=hide (show sS s.data.toList=s.size from by
   unfold sS;rw[Mw (ok:=jQ) VF (by rw[←ew];exact fun p h=>hp p h)];exact b9 s)
  clear ew hp;gi_wp2;have c7:=hv.set (.int .i64 (s.size:Int));have gF:=(KeepsOthers.setCell W ⟨w.heap.size+1,0,none⟩ (.int .i64 (s.size:Int))).same D _ hK rfl;refine⟨by simp,.inl ⟨_,_,rfl,run_takeDeferred gF,?_⟩⟩;have bk:=cell_kept c7.cell (grownBy_putObj' _ D (.deferred none)) (fun r e=>by cases e;exact⟨_,gF,rfl⟩);refine⟨.int .i64 (s.size:Int),?_,?_⟩
  ·simp[results,Tryz.results165,go_sem,bk]
  exact⟨aU (int_eq (by rw[nU.out])),(hB.setCell (p:=⟨w.heap.size+1,0,none⟩) (by simp) _).trans (belowK_b (w:=w) (Nat.le_refl _) _ D _ _ (by simp at hD;omega) gF rfl rfl)⟩
 case stop=>
  rintro D c pre W hD ⟨rest,hsp⟩ ⟨rfl,iF,x,rfl,hp,hx,hv,hB⟩ hK;have hc:=hv.cell;have hf:=hv.frozen
  have nU:=hide (show sS s.data.toList=x.1 from by
   unfold sS;rw[Mv (ok:=jQ) VF hsp (fun p h=>hp p h) hx]
   rfl)
  clear hsp hp hx;gi_wp2;refine⟨by simp,.inl ⟨_,_,rfl,run_takeDeferred hK,?_⟩⟩;have bk:=cell_kept hc (grownBy_putObj' _ D (.deferred none)) (fun r e=>by cases e;exact⟨_,hK,rfl⟩);refine⟨.int .i64 (x.1:Int),?_,?_⟩
  ·simp[results,Tryz.results165,go_sem,bk]
  exact⟨aU (int_eq (by rw[nU.out])),hB.trans (belowK_b (w:=w) (Nat.le_refl _) _ D _ _ (by simp at hD;omega) hK rfl rfl)⟩
theorem ajz{ok:Nat→Int→Bool}{l:L}{k:Nat}(h:stop ok l=some k):k<l.length:=by
 unfold stop at h
 cases hf:(Utf.pieces l).find? fun p=>!ok p.1 p.2 with
 | none=>rw[hf] at h;cases h
 | some p=>
  rw[hf] at h;simp only[Option.map_some,Option.some.injEq] at h;have:=VD l p (List.mem_of_find?_eq_some hf);omega
theorem agX(l:L):oW l=(!l.isEmpty&&decide (sS l=l.length)):=by
 unfold oW sS
 cases h:stop jQ l with
 | none=>simp
 | some k=>
  have:=ajz h;simp;intro _;omega
theorem abh(l:L)(w:World)(hg:Gm w)(hl:l.length≤1000000000) :
  Calls Tryz.prog 127 #[.string (aa l),.string ⟨#[58]⟩] w fun e w'=>e=.returned (.tuple #[.string (aa (Lib.cut l [58]).1),.string (aa (Lib.cut l [58]).2.1),.bool (Lib.cut l [58]).2.2])∧Below w.heap.size w w':=by
 obtain⟨m,hm⟩:=hg.most;refine (Tryz.strings_Cut (aa l) ⟨#[58]⟩ m w (by rw[aW];omega) hm).mono ?_;rintro e w' ⟨rfl,n,rfl⟩;exact⟨rfl,below_drewN (Below.refl _ _) n⟩
theorem QG(l q:L):(Lib.cut l q).1.length≤l.length∧(Lib.cut l q).2.1.length≤l.length:=by
 unfold Lib.cut;split
 ·simp only[List.length_take,List.length_drop];omega
 simp

theorem LW(l:L)(w:World)(hl:l.length≤1000000000) :
  Calls Tryz.prog 128 #[.string (aa l)] w fun e w'=>e=.returned (.bool (oW l))∧Below w.heap.size w w':=by
 have J8:(aa l).toList.isEmpty=decide (l=[]):=by rw[ByteArray.toList_eq,bg];cases l<;>simp
 have HF:=hide (fun W=>acw (aa l) W (by rw[aW];exact hl));rw[bg] at HF
 by_cases h:l=[]
 ·rw[decide_eq_true h] at J8;have Hr:=hide (show false=oW l by rw[h];rfl);clear h
  go_enter Tryz.func128,Tryz.ntmps128
  go_wp2;go_ret;exact⟨aU (dw Hr.out),Below.refl _ _⟩
 rw[decide_eq_false h] at J8;obtain⟨n,hn⟩:∃n,sS l=n:=⟨_,rfl⟩;rw[hn] at HF;obtain⟨b,hb⟩:∃b,oW l=b:=⟨_,rfl⟩
 have hq:((n:Int)==((aa l).size:Int))=b:=by
  rw[←hb,agX,hn,aW]
  cases l with
  | nil=>exact absurd rfl h
  | cons c r=>
   rw[Bool.eq_iff_iff,beq_iff_eq];simp;omega
 rw[hb];clear hn hb h
 go_enter Tryz.func128,Tryz.ntmps128
 go_wp2_with fail
 refine (HF.out _).mono ?_
 rintro e w1 ⟨rfl,b1⟩
 go_wp2;go_ret;exact⟨rfl,b1⟩
def qc(x:Option (L×L)):Value:=match x with
 | some (p,l)=>.tuple #[.string (aa p),.string (aa l),.bool true]
 | none=>.tuple #[.string ⟨#[]⟩,.string ⟨#[]⟩,.bool false]

theorem aji(l:L)(w:World)(hg:Gm w)(hl:l.length≤1000000000) :
  Calls Tryz.prog 88 #[.string (aa l)] w fun e w'=>e=.returned (qc (split l))∧Below w.heap.size w w':=by
 have HC:=hide (fun W (h:Gm W)=>abh l W h hl);have HG:=hide hg;have hcs:=QG l [58];obtain⟨x,hx⟩:∃x,split l=x:=⟨_,rfl⟩;rw[hx];unfold split at hx;obtain⟨⟨p,r,ok⟩,hc⟩:∃c,Lib.cut l [58]=c:=⟨_,rfl⟩;rw[hc] at HC hx hcs;dsimp only at HC hx hcs;have HP:=hide (fun W=>LW p W (by omega));have HR:=hide (fun W=>LW r W (by omega));have HL:=hide (fun W=>LW l W hl);clear hcs hc hg
 cases ok with
 | false=>
  cases hb:oW l with
  | false=>
   rw[hb] at HL hx;have Hr:=hide (show qc x=.tuple #[.string ⟨#[]⟩,.string ⟨#[]⟩,.bool false] by rw[←hx];rfl);clear hx hb
   go_enter Tryz.func88,Tryz.ntmps88
   go_wp2_with fail
   refine (HC.out _ HG.out).mono ?_
   rintro e w1 ⟨rfl,b1⟩
   go_wp2_with fail
   refine (HL.out _).mono ?_
   rintro e w2 ⟨rfl,b2⟩
   go_wp2;go_ret3;rw[Hr.out];exact⟨rfl,b1.trans (b2.mono b1.size)⟩
  | true=>
   rw[hb] at HL hx;have Hr:=hide (show qc x=.tuple #[.string ⟨#[]⟩,.string (aa l),.bool true] by rw[←hx];rfl);clear hx hb
   go_enter Tryz.func88,Tryz.ntmps88
   go_wp2_with fail
   refine (HC.out _ HG.out).mono ?_
   rintro e w1 ⟨rfl,b1⟩
   go_wp2_with fail
   refine (HL.out _).mono ?_
   rintro e w2 ⟨rfl,b2⟩
   go_wp2;go_ret3;rw[Hr.out];exact⟨rfl,b1.trans (b2.mono b1.size)⟩
 | true=>
  cases hb:oW p with
  | false=>
   rw[hb] at HP hx;have Hr:=hide (show qc x=.tuple #[.string ⟨#[]⟩,.string ⟨#[]⟩,.bool false] by rw[←hx];rfl);clear hx hb
   go_enter Tryz.func88,Tryz.ntmps88
   go_wp2_with fail
   refine (HC.out _ HG.out).mono ?_
   rintro e w1 ⟨rfl,b1⟩
   go_wp2_with fail
   refine (HP.out _).mono ?_
   rintro e w2 ⟨rfl,b2⟩
   go_wp2;go_ret3;rw[Hr.out];exact⟨rfl,b1.trans (b2.mono b1.size)⟩
  | true=>
   cases hd:oW r with
   | false=>
    rw[hb] at HP hx;rw[hd] at HR hx;have Hr:=hide (show qc x=.tuple #[.string ⟨#[]⟩,.string ⟨#[]⟩,.bool false] by rw[←hx];rfl);clear hx hb hd
    go_enter Tryz.func88,Tryz.ntmps88
    go_wp2_with fail
    refine (HC.out _ HG.out).mono ?_
    rintro e w1 ⟨rfl,b1⟩
    go_wp2_with fail
    refine (HP.out _).mono ?_
    rintro e w2 ⟨rfl,b2⟩
    go_wp2_with fail
    refine (HR.out _).mono ?_
    rintro e w3 ⟨rfl,b3⟩
    go_wp2;go_ret3;rw[Hr.out];exact⟨rfl,(b1.trans (b2.mono b1.size)).trans (b3.mono (b1.trans (b2.mono b1.size)).size)⟩
   | true=>
    rw[hb] at HP hx;rw[hd] at HR hx;have Hr:=hide (show qc x=.tuple #[.string (aa p),.string (aa r),.bool true] by rw[←hx];rfl);clear hx hb hd
    go_enter Tryz.func88,Tryz.ntmps88
    go_wp2_with fail
    refine (HC.out _ HG.out).mono ?_
    rintro e w1 ⟨rfl,b1⟩
    go_wp2_with fail
    refine (HP.out _).mono ?_
    rintro e w2 ⟨rfl,b2⟩
    go_wp2_with fail
    refine (HR.out _).mono ?_
    rintro e w3 ⟨rfl,b3⟩
    go_wp2;go_ret3;rw[Hr.out];exact⟨rfl,(b1.trans (b2.mono b1.size)).trans (b3.mono (b1.trans (b2.mono b1.size)).size)⟩
theorem Wy(l:L)(w:World)(hg:Gl w)(hl:l.length≤1000000000) :
  Calls Tryz.prog 88 #[.string (aa l)] w fun e w'=>e=.returned (qc (split l))∧Below w.heap.size w w':=aji l w hg.m hl
end
end Go.Proofs.YtifiiojchlaghaaGreatDoor
