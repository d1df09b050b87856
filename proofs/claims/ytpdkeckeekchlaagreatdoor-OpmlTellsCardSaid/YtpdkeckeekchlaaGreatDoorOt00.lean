/- UTF-8 in plain lists of bytes: what a first byte says, what stands at a byte, whether a text is right; no program in sight. And more. -/
import Derived.Test.YtpdkeckeekchlaaGreatDoorProg
import Derived.Lib.Index
import Derived.Below
import Derived.Laws.OwnMore
import Derived.Deep.AppendLies
import Derived.Deep.Draws
import Derived.Laws.Rows
import Derived.Maps.AppendAt
import Derived.RegionTactic
import Derived.OwnWalk
import Derived.Laws.IdiomStrings
import Derived.WalkKit
import Derived.WalkSpells
import Derived.WalkLawsBesides
set_option linter.unusedSimpArgs false
set_option maxHeartbeats 400000
set_option linter.unusedVariables false
namespace Go.Proofs.YtpdkeckeekchlaaGreatDoor
section
namespace Utf

def follow(c:Int):Int×Int×Int×Int :=
 if c<128 then (0,c,128,191)
 else if c<194∨244<c then (-1,0,128,191)
 else if c<224 then (1,c % 32,128,191)
 else if c<240 then (2,c % 16,if c=224 then 160 else 128,if c=237 then 159 else 191)
 else (3,c % 8,if c=240 then 144 else 128,if c=244 then 143 else 191)

def cont:List UInt8→Nat→Int→Int→Int→Int→Int×Int
 | _,0,r,n,_,_=>(r,n)
 | [],_+1,_,n,_,_=>(-1,n)
 | c :: l,k+1,r,n,lo,hi=>if (c.toNat:Int)<lo∨hi<(c.toNat:Int) then (-1,n) else cont l k (r*64+(c.toNat:Int) % 64) (n+1) 128 191

def piece:List UInt8→Int×Int
 | []=>(-1,1)
 | c :: l=>if (follow c.toNat).1<0 then (-1,1) else cont l (follow c.toNat).1.toNat (follow c.toNat).2.1 1 (follow c.toNat).2.2.1 (follow c.toNat).2.2.2

def wY:Nat→List UInt8→Bool
 | _,[]=>true
 | 0,_ :: _=>false
 | k+1,c :: l=>if (piece (c :: l)).1<0 then false else wY k ((c :: l).drop (piece (c :: l)).2.toNat)

def valid(l:List UInt8):Bool:=wY l.length l

def isScalar(r:Int):Bool:=decide (0≤r∧r≤1114111∧(r<55296∨57343<r))

def put(r:Int):List Int :=
 if r<128 then [r] else if r<2048 then [192+r / 64,128+r % 64] else if r<65536 then [224+r / 64 / 64,128+r / 64 % 64,128+r % 64]
 else [240+r / 64 / 64 / 64,128+r / 64 / 64 % 64,128+r / 64 % 64,128+r % 64]

theorem AQ(c:Int)(h0:0≤c)(h1:c≤255) :
  ((follow c).1=0∧(follow c).2.1=c∧c<128)∨((follow c).1 = -1∧(follow c).2.1=0)∨
  ((follow c).1=1∧2≤(follow c).2.1∧(follow c).2.1<32∧(follow c).2.2.1=128∧(follow c).2.2.2=191)∨
  ((follow c).1=2∧0≤(follow c).2.1∧(follow c).2.1<16∧128≤(follow c).2.2.1∧(follow c).2.2.2≤191∧
   ((follow c).2.1=13→(follow c).2.2.2=159)∧((follow c).2.1=0→(follow c).2.2.1=160))∨
  ((follow c).1=3∧0≤(follow c).2.1∧(follow c).2.1≤4∧128≤(follow c).2.2.1∧(follow c).2.2.2≤191∧
   ((follow c).2.1=4→(follow c).2.2.2=143)∧((follow c).2.1=0→(follow c).2.2.1=144)):=by
 unfold follow
 by_cases a:c<128
 ·left;simp[a]
 by_cases b:c<194∨244<c
 ·right;left;simp[a,b]
 by_cases d:c<224
 ·right;right;left;rw[if_neg a,if_neg b,if_pos d];refine⟨rfl,?_,?_,rfl,rfl⟩<;>simp only<;>omega
 by_cases e:c<240
 ·right;right;right;left
  rw[if_neg a,if_neg b,if_neg d,if_pos e];simp only;refine⟨trivial,by omega,by omega,?_,?_,?_,?_⟩
  ·split<;>omega
  ·split<;>omega
  ·intro h;rw[if_pos (by omega)]
  intro h;rw[if_pos (by omega)]
 right;right;right;right
 rw[if_neg a,if_neg b,if_neg d,if_neg e];simp only;refine⟨trivial,by omega,by omega,?_,?_,?_,?_⟩
 ·split<;>omega
 ·split<;>omega
 ·intro h;rw[if_pos (by omega)]
 intro h;rw[if_pos (by omega)]

theorem aex(c:Int):((follow c).1=1→(follow c).2.1=c % 32)∧((follow c).1=2→(follow c).2.1=c % 16)∧((follow c).1=3→(follow c).2.1=c % 8):=by
 unfold follow
 by_cases a:c<128
 ·rw[if_pos a];simp
 by_cases b:c<194∨244<c
 ·rw[if_neg a,if_pos b];simp
 by_cases d:c<224
 ·rw[if_neg a,if_neg b,if_pos d];simp
 by_cases e:c<240
 ·rw[if_neg a,if_neg b,if_neg d,if_pos e];simp
 rw[if_neg a,if_neg b,if_neg d,if_neg e];simp

theorem acX:∀(l:List UInt8) (k:Nat) (r n lo hi:Int),n≤(cont l k r n lo hi).2∧(cont l k r n lo hi).2≤n+k∧(cont l k r n lo hi).2≤n+l.length:=by
 intro l
 induction l with
 | nil=>intro k r n lo hi;cases k<;>simp[cont]<;>omega
 | cons c l ih=>
  intro k r n lo hi
  cases k with
  | zero=>simp[cont];omega
  | succ k=>
   simp only[cont]
   by_cases h:(c.toNat:Int)<lo∨hi<(c.toNat:Int)
   ·rw[if_pos h];simp;omega
   rw[if_neg h];have:=ih k (r*64+(c.toNat:Int) % 64) (n+1) 128 191;simp only[List.length_cons];omega

theorem zg(c:UInt8)(l:List UInt8):piece (c :: l)=if (follow c.toNat).1<0 then (-1,1) else cont l (follow c.toNat).1.toNat (follow c.toNat).2.1 1 (follow c.toNat).2.2.1 (follow c.toNat).2.2.2:=rfl

theorem jF(c:UInt8):(c.toNat:Int)<256:=by have:=c.toNat_lt;omega

theorem uu(c:UInt8)(l:List UInt8):1≤(piece (c :: l)).2∧(piece (c :: l)).2≤4∧(piece (c :: l)).2≤(c :: l).length:=by
 have hb:=jF c;rw[zg]
 by_cases h:(follow c.toNat).1<0
 ·rw[if_pos h];simp;omega
 rw[if_neg h];have h1:=acX l (follow c.toNat).1.toNat (follow c.toNat).2.1 1 (follow c.toNat).2.2.1 (follow c.toNat).2.2.2;have h2:=AQ c.toNat (by omega) (by omega);simp only[List.length_cons];have:(follow c.toNat).1≤3:=by rcases h2 with h|h|h|h|h<;>omega
 omega

theorem acZ:∀(l:List UInt8) (k:Nat) (r n lo hi:Int),0≤r→(cont l k r n lo hi).1 = -1∨(0≤(cont l k r n lo hi).1∧(cont l k r n lo hi).2=n+k):=by
 intro l
 induction l with
 | nil=>
  intro k r n lo hi hr
  cases k with
  | zero=>right;simp[cont,hr]
  | succ k=>left;simp[cont]
 | cons c l ih=>
  intro k r n lo hi hr
  cases k with
  | zero=>right;simp[cont,hr]
  | succ k=>
   simp only[cont]
   by_cases h:(c.toNat:Int)<lo∨hi<(c.toNat:Int)
   ·left;rw[if_pos h]
   rw[if_neg h]
   rcases ih k (r*64+(c.toNat:Int) % 64) (n+1) 128 191 (by omega) with h1|⟨h1,h2⟩
   ·exact .inl h1
   exact .inr ⟨h1,by rw[h2];omega⟩

theorem aje(l:List UInt8)(h:0≤(piece l).1):isScalar (piece l).1=true:=by
 cases l with
 | nil=>simp[piece] at h
 | cons c l=>
  have hb:=jF c;have hc:=AQ c.toNat (by omega) (by omega);rw[zg] at h ⊢
  by_cases hn:(follow c.toNat).1<0
  ·rw[if_pos hn] at h;simp at h
  rw[if_neg hn] at h ⊢;unfold isScalar;rw[decide_eq_true_eq]
  revert h
  rcases hc with ⟨e,e2,h3⟩|⟨e,_⟩|⟨e,h3,h4,e5,e6⟩|⟨e,h3,h4,h5,h6,h7,h8⟩|⟨e,h3,h4,h5,h6,h7,h8⟩
  ·rw[e];simp only[Int.toNat_zero]
   cases l<;>simp only[cont]<;>omega
  ·omega
  ·rw[e];simp only[show (1:Int).toNat=1 from rfl]
   cases l with
   | nil=>simp[cont]
   | cons c1 l=>
    have b1:=jF c1;simp only[cont];split
    ·simp
    cases l<;>simp only[cont]<;>omega
  ·rw[e];simp only[show (2:Int).toNat=2 from rfl]
   cases l with
   | nil=>simp[cont]
   | cons c1 l=>
    have b1:=jF c1;simp only[cont];split
    ·simp
    cases l with
    | nil=>simp[cont]
    | cons c2 l=>
     have b2:=jF c2;simp only[cont];split
     ·simp
     cases l<;>simp only[cont]<;>omega
  rw[e];simp only[show (3:Int).toNat=3 from rfl]
  cases l with
  | nil=>simp[cont]
  | cons c1 l=>
   have b1:=jF c1;simp only[cont];split
   ·simp
   cases l with
   | nil=>simp[cont]
   | cons c2 l=>
    have b2:=jF c2;simp only[cont];split
    ·simp
    cases l with
    | nil=>simp[cont]
    | cons c3 l=>
     have b3:=jF c3;simp only[cont];split
     ·simp
     cases l<;>simp only[cont]<;>omega

def part(f:Int×Int):Int×Int×Bool:=if f.1<0 then (0,f.2,false) else (f.1,f.2,true)

theorem ane:∀(k:Nat) (l:List UInt8),l.length≤k→wY k l=wY l.length l:=by
 intro k
 induction k using Nat.strongRecOn with
 | _ k ih=>
  intro l hl
  cases l with
  | nil=>cases k<;>simp[wY]
  | cons c l=>
   cases k with
   | zero=>simp at hl
   | succ k=>
    have hp:=uu c l;simp only[wY,List.length_cons]
    by_cases h:(piece (c :: l)).1<0
    ·rw[if_pos h,if_pos h]
    rw[if_neg h,if_neg h];simp only[List.length_cons] at hl hp;have e:((c :: l).drop (piece (c :: l)).2.toNat).length=l.length+1-(piece (c :: l)).2.toNat:=by simp
    rw[ih k (by omega) _ (by rw[e];omega)]
    by_cases hk:l.length=k
    ·rw[hk,ih k (by omega) _ (by rw[e];omega)]
    rw[ih l.length (by omega) _ (by rw[e];omega)]

theorem Zb:valid []=true:=rfl
theorem Za(c:UInt8)(l:List UInt8):valid (c :: l)=if (piece (c :: l)).1<0 then false else valid ((c :: l).drop (piece (c :: l)).2.toNat):=by
 have hp:=uu c l;unfold valid;simp only[List.length_cons,wY]
 by_cases h:(piece (c :: l)).1<0
 ·rw[if_pos h,if_pos h]
 rw[if_neg h,if_neg h];exact ane _ _ (by simp at hp ⊢;omega)

def gi:Nat→Nat→List UInt8→List (Nat×Int)
 | _,_,[]=>[]
 | 0,_,_ :: _=>[]
 | k+1,at_,c :: l=>(at_,(piece (c :: l)).1) :: gi k (at_+(piece (c :: l)).2.toNat) ((c :: l).drop (piece (c :: l)).2.toNat)
def pieces(l:List UInt8):List (Nat×Int):=gi l.length 0 l

theorem ajg:∀(k at_:Nat) (l:List UInt8),l.length≤k→gi k at_ l=gi l.length at_ l:=by
 intro k
 induction k using Nat.strongRecOn with
 | _ k ih=>
  intro at_ l hl
  cases l with
  | nil=>cases k<;>simp[gi]
  | cons c l=>
   cases k with
   | zero=>simp at hl
   | succ k=>
    have hp:=uu c l;simp only[gi,List.length_cons];simp only[List.length_cons] at hl hp;have e:((c :: l).drop (piece (c :: l)).2.toNat).length=l.length+1-(piece (c :: l)).2.toNat:=by simp
    rw[ih k (by omega) _ _ (by rw[e];omega)]
    by_cases hk:l.length=k
    ·rw[hk,ih k (by omega) _ _ (by rw[e];omega)]
    rw[ih l.length (by omega) _ _ (by rw[e];omega)]

def from_(at_:Nat)(l:List UInt8):List (Nat×Int):=gi l.length at_ l
theorem AR(at_:Nat):from_ at_ []=[]:=rfl
theorem Tj(at_:Nat)(c:UInt8)(l:List UInt8):from_ at_ (c :: l)=(at_,(piece (c :: l)).1) :: from_ (at_+(piece (c :: l)).2.toNat) ((c :: l).drop (piece (c :: l)).2.toNat):=by
 have hp:=uu c l;unfold from_;simp only[List.length_cons,gi];rw[ajg _ _ _ (by simp at hp ⊢;omega)]

def dz:List (Nat×Int)→Int
 | []=>-1
 | p :: l=>if p.2<0 then (p.1:Int) else dz l

theorem SV(p:Nat×Int)(l:List (Nat×Int)):dz (p :: l)=if p.2<0 then (p.1:Int) else dz l:=rfl
theorem Kr{p:Nat×Int}(l:List (Nat×Int))(h:p.2<0):dz (p :: l)=p.1:=by rw[SV,if_pos h]
theorem Ks{p:Nat×Int}(l:List (Nat×Int))(h:¬p.2<0):dz (p :: l)=dz l:=by rw[SV,if_neg h]

theorem SX(l:List (Nat×Int))(p:Nat×Int):dz (l++[p])=if dz l<0 then (if p.2<0 then (p.1:Int) else -1) else dz l:=by
 induction l with
 | nil=>simp[dz]
 | cons q l ih=>
  rw[List.cons_append]
  by_cases h:q.2<0
  ·rw[Kr _ h,Kr _ h,if_neg (by omega)]
  rw[Ks _ h,Ks _ h,ih]

theorem aee(l:List (Nat×Int)):-1≤dz l:=by
 induction l with
 | nil=>simp[dz]
 | cons q l ih=>simp only[dz];split<;>omega

def mended(l:List (Nat×Int)):List UInt8:=l.flatMap fun p=>if p.2<0 then [0xEF,0xBF,0xBD] else (put p.2).map fun n=>UInt8.ofNat n.toNat

theorem anf:∀(k:Nat) (l:List UInt8) (at_:Nat),l.length≤k→(valid l=true↔dz (from_ at_ l)<0):=by
 intro k
 induction k with
 | zero=>
  intro l at_ hl
  cases l with
  | nil=>simp[Zb,AR,dz]
  | cons c l=>simp at hl
 | succ k ih=>
  intro l at_ hl
  cases l with
  | nil=>simp[Zb,AR,dz]
  | cons c l=>
   have hp:=uu c l;simp only[List.length_cons] at hl hp;rw[Za,Tj];simp only[dz]
   by_cases h:(piece (c :: l)).1<0
   ·rw[if_pos h,if_pos h];simp
   rw[if_neg h,if_neg h];exact ih _ _ (by simp;omega)

theorem Zc(l:List UInt8):valid l=decide (dz (pieces l)<0):=by
 rw[Bool.eq_iff_iff,decide_eq_true_eq];exact anf l.length l 0 (Nat.le_refl _)

end Utf
end
section
open Go
namespace Tk
abbrev L:=List UInt8
def sp(c:UInt8):Bool:=c==32||c==9||c==10||c==13
def aS(l:L):Nat:=(l.takeWhile sp).length
def within(r a b:Int):Bool:=decide (a≤r)&&decide (r≤b)
def bX(r:Int):Bool:=within r 9 10||within r 13 13||within r 32 55295||within r 57344 65533||within r 65536 1114111
def kp(r:Int):Bool :=
 within r 97 122||within r 65 90||within r 95 95||within r 192 214||within r 216 246||within r 248 767||within r 880 893||within r 895 8191||within r 8204 8205||within r 8304 8591 ||
  within r 11264 12271||within r 12289 55295||within r 63744 64975||within r 65008 65533||within r 65536 983039
def ly(r:Int):Bool:=kp r||(within r 45 46||within r 48 57||within r 183 183||within r 768 879||within r 8255 8256)
def kM(at_:Nat)(r:Int):Bool:=if at_=0 then kp r else ly r||decide (r=58)
def stop(ok:Nat→Int→Bool)(l:L):Option Nat:=((Utf.pieces l).find? fun p=>!ok p.1 p.2).map (·.1)
def take(l:L):Nat:=(stop kM l).getD l.length
def fine(l:L):Bool:=(Utf.pieces l).all fun p=>bX p.2
def bad(l:L):Int:=match stop (fun _ r=>bX r) l with
 | some k=>k
 | none=>-1
def till(p l:L):Option Nat:=if Lib.index l p<0 then none else some (Lib.index l p).toNat
def quoted:L→Option (L×Nat)
 | []=>none
 | q :: r=>if q=34∨q=39 then (till [q] r).map fun k=>(r.take k,k+2) else none
def eqv(l:L):Option (L×Nat) :=
 match l.drop (aS l) with
 | []=>none
 | c :: r=>if c=61 then (quoted (r.drop (aS r))).map fun x=>(x.1,aS l+1+aS r+x.2) else none
def part(name l:L):Option (L×Nat) :=
 if aS l=0 then none else if name.isPrefixOf (l.drop (aS l)) then (eqv (l.drop (aS l+name.length))).map fun x=>(x.1,aS l+name.length+x.2) else none
def digit(c:UInt8):Bool:=decide (48≤c)&&decide (c≤57)
def letter(c:UInt8):Bool:=(decide (65≤c)&&decide (c≤90))||(decide (97≤c)&&decide (c≤122))
def ak9:L:=[118,101,114,115,105,111,110]
def ak8:L:=[101,110,99,111,100,105,110,103]
def ak5:L:=[115,116,97,110,100,97,108,111,110,101]
def version(v:L):Bool:=[49,46].isPrefixOf v && !(v.drop 2).isEmpty&&(v.drop 2).all digit
def adL(c:UInt8):Bool:=letter c||digit c||c==46||c==95||c==45
def encoding:L→Bool
 | []=>false
 | c :: r=>letter c&&r.all adL
def alone(v:L):Bool:=decide (v=[121,101,115])||decide (v=[110,111])
def opt(name:L)(may:L→Bool)(l:L):Option Nat :=
 match part name l with
 | none=>some 0
 | some x=>if may x.1 then some x.2 else none
def decl(l:L):Option Nat :=
 (part ak9 l).bind fun x=>if version x.1 then
  (opt ak8 encoding (l.drop x.2)).bind fun a=>(opt ak5 alone (l.drop (x.2+a))).bind fun b=>
   if [63,62].isPrefixOf ((l.drop (x.2+a+b)).drop (aS (l.drop (x.2+a+b)))) then some (x.2+a+b+aS (l.drop (x.2+a+b))+2) else none
 else none
def lower(c:UInt8):UInt8:=if 65≤c∧c≤90 then c+32 else c
def xml(n:L):Bool:=decide (n.map lower=[120,109,108])
def agS(l:L):Option Nat :=
 if take l=0∨xml (l.take (take l))=true then none
 else if [63,62].isPrefixOf (l.drop (take l)) then some (take l+2)
 else (till [63,62] (l.drop (take l))).bind fun k=>if ((l.drop (take l)).head?.map sp).getD false then some (take l+k+2) else none
def comment(l:L):Option Nat:=(till [45,45] l).bind fun k=>if [62].isPrefixOf (l.drop (k+2)) then some (k+3) else none

structure At where
 name:L
 value:L
 at_:Nat
 deriving DecidableEq
structure Tok where
 kind:Int
 name:L
 attrs:List At
 empty:Bool
 text:L
 at_:Nat
 end_:Nat
 deriving DecidableEq
def attrs:Nat→Nat→L→Option (List At×Bool×Nat)
 | 0,_,_=>none
 | k+1,off,l=>
  if [47,62].isPrefixOf (l.drop (aS l)) then some ([],true,off+aS l+2)
  else if [62].isPrefixOf (l.drop (aS l)) then some ([],false,off+aS l+1)
  else if aS l=0 then none
  else
   let r:=l.drop (aS l)
   let m:=take r
   if m=0 then none
   else (eqv (r.drop m)).bind fun x=>if (60:UInt8)∈x.1 then none
    else (attrs k (off+aS l+m+x.2) (r.drop (m+x.2))).map fun y=>(⟨r.take m,x.1,off+aS l⟩ :: y.1,y.2)
def ak6:L:=[60,33,45,45]
def ak7:L:=[60,33,91,67,68,65,84,65,91]
def ala:L:=[60,63,120,109,108]
def start(at_:Nat)(l:L):Option Tok :=
 if take l.tail=0 then none
 else (attrs l.length (at_+1+take l.tail) (l.drop (1+take l.tail))).map fun x=>⟨0,l.tail.take (take l.tail),x.1,x.2.1,[],at_,x.2.2⟩
def end_(at_:Nat)(l:L):Option Tok :=
 let r:=l.drop 2
 if take r=0 then none
 else if [62].isPrefixOf ((r.drop (take r)).drop (aS (r.drop (take r)))) then some ⟨1,r.take (take r),[],false,[],at_,at_+2+take r+aS (r.drop (take r))+1⟩ else none
def text(at_:Nat)(l:L):Option Tok :=
 let n:=(till [60] l).getD l.length
 if Lib.index (l.take n) [93,93,62]<0 then some ⟨2,[],[],false,l.take n,at_,at_+n⟩ else none
def skip(at_:Nat)(l:L):Option Tok :=
 if ak6.isPrefixOf l then (comment (l.drop 4)).map fun n=>⟨4,[],[],false,[],at_,at_+4+n⟩
 else if ak7.isPrefixOf l then (till [93,93,62] (l.drop 9)).map fun k=>⟨3,[],[],false,(l.drop 9).take k,at_,at_+9+k+3⟩
 else if at_=0∧ala.isPrefixOf l=true∧((l.drop 5).head?.map sp).getD false=true then (decl (l.drop 5)).map fun n=>⟨4,[],[],false,[],at_,at_+5+n⟩
 else if [60,63].isPrefixOf l then (agS (l.drop 2)).map fun n=>⟨4,[],[],false,[],at_,at_+2+n⟩
 else none
def piece(at_:Nat)(l:L):Option Tok :=
 if [60,47].isPrefixOf l then end_ at_ l
 else if [60,33].isPrefixOf l||[60,63].isPrefixOf l then skip at_ l
 else if [60].isPrefixOf l then start at_ l
 else text at_ l
def one(at_:Nat)(l:L):Option Tok:=(piece at_ l).bind fun t=>if fine (l.take (t.end_-at_)) then some t else none
def jD:Nat→Nat→L→List Tok
 | 0,_,_=>[]
 | k+1,at_,l=>if l.isEmpty then [] else match one at_ l with
  | none=>[]
  | some t=>t :: jD k t.end_ (l.drop (t.end_-at_))
end Tk
end
section
open Go Tk
namespace Sx
def ends:L→Option Nat
 | []=>none
 | c :: r=>if c=59 then some 0 else if c=38∨c=60 then none else (ends r).map (· + 1)
def nV(c:UInt8):Nat:=if 48≤c.toNat∧c.toNat≤57 then c.toNat-48 else if 97≤c.toNat∧c.toNat≤102 then c.toNat-87 else if 65≤c.toNat∧c.toNat≤70 then c.toNat-55 else 16
def gW(base:Nat):Nat→L→Option Nat
 | v,[]=>some v
 | v,c :: r=>if base≤nV c then none else gW base (v*base+nV c) r
def rk(v:Nat):Option Nat:=if bX v then some v else none
def number(s:L):Option (Option Nat) :=
 if s.head?=some 35 then
  if s.tail.head?=some 120 then if s.tail.tail=[] then none else (gW 16 0 s.tail.tail).map rk
  else if s.tail=[] then none else (gW 10 0 s.tail).map rk
 else none
def CQ:L:=[108,116]
def CP:L:=[103,116]
def CN:L:=[97,109,112]
def CO:L:=[97,112,111,115]
def CR:L:=[113,117,111,116]
def named(s:L):Option Nat:=if s=CQ then some 60 else if s=CP then some 62 else if s=CN then some 38 else if s=CO then some 39 else if s=CR then some 34 else none
def scalar(s:L):Option Nat:=match number s with
 | some (some v)=>some v
 | _=>named s
theorem Kk:∀{s:L} {n:Nat},ends s=some n→n<s.length
 | [],n,h=>by cases h
 | c :: r,n,h=>by
  unfold ends at h
  by_cases h1:c=59
  ·rw[if_pos h1] at h;cases h;simp
  rw[if_neg h1] at h
  by_cases h2:c=38∨c=60
  ·rw[if_pos h2] at h;cases h
  rw[if_neg h2] at h
  cases he:ends r with
  | none=>rw[he] at h;cases h
  | some m=>
   rw[he] at h;simp only[Option.map_some,Option.some.injEq] at h;have:=Kk he;simp only[List.length_cons];omega
end Sx
end
section
open Go.RowKit

def Reads(w:World)(B size:Nat)(A:Option Addr)(n:Nat)(xs:List Value):Prop :=
 xs.length=n*size∧(0<n→∃b off,A=some ⟨b,off,none⟩∧b<B∧∀j u,xs[j]?=some u→w.cell? ⟨b,off+j,none⟩=some u)

section
variable {w w':World} {B B' size n:Nat} {A:Option Addr} {xs:List Value}
theorem Reads.none_:Reads w B size A 0 []:=⟨by simp,fun h=>absurd h (by omega)⟩
theorem Reads.keep(h:Reads w B size A n xs)(hk:∀p:Addr,p.block<B→w'.cell? p=w.cell? p):Reads w' B size A n xs :=
 ⟨h.1,fun hn=>by
  obtain⟨b,off,e,hb,hc⟩:=h.2 hn;exact⟨b,off,e,hb,fun j u hu=>(hk _ hb).trans (hc j u hu)⟩⟩
theorem Reads.more(h:Reads w B size A n xs)(hB:B≤B'):Reads w B' size A n xs :=
 ⟨h.1,fun hn=>by
  obtain⟨b,off,e,hb,hc⟩:=h.2 hn;exact⟨b,off,e,by omega,hc⟩⟩
theorem Reads.below(h:Reads w B size A n xs)(hb:Below B w w'):Reads w' B size A n xs:=h.keep fun _ hp=>hb.cell hp
theorem Reads.cY{base:Nat}{e:TypeId}{c:Nat}(h:w.ownsRow base e size (.slice A n c) n xs):Reads w w.heap.size size A n xs:=by
 refine⟨h.1,fun hn=>?_⟩;obtain⟨g,cap,hv,_,hlt⟩:=h.form hn;have hA:A=some ⟨g,0,none⟩:=by injection hv
 subst hA
 exact⟨g,0,rfl,hlt,fun j u hu=>by
  have:=h.cells (g:=g) rfl j u hu;unfold Addr.add at this
  split at this
  ·subst_vars;exact this
  exact this⟩
end

def ae(w:World)(g:Nat)(t:TypeId)(cs:Array Value):Prop:=w.heap[g]?=some (.cells cs t (0,0))

section
variable {w w':World} {g:Nat} {t:TypeId} {cs:Array Value}
theorem ae.lt(h:ae w g t cs):g<w.heap.size:=by
 rcases Nat.lt_or_ge g w.heap.size with hlt|tN
 ·exact hlt
 unfold ae at h;rw[Array.getElem?_eq_none tN] at h;cases h
theorem ae.cell(h:ae w g t cs)(i:Nat):w.cell? ⟨g,i,none⟩=cs[i]?:=cell_of_row w g i cs t (0,0) h
theorem ae.frozen(h:ae w g t cs)(i:Nat):w.frozen? ⟨g,i,none⟩=false:=by
 unfold ae at h;simp[World.frozen?,h]
theorem ae.new(w:World)(t:TypeId)(cs:Array Value):ae (w.alloc (.cells cs t)) w.heap.size t cs:=heap_alloc_new w _
theorem ae.drew(h:ae w g t cs):ae w.drew g t cs:=h
theorem ae.drewN(h:ae w g t cs)(n:Nat):ae (w.drewN n) g t cs:=h
theorem ae.alloc(h:ae w g t cs)(o:Obj):ae (w.alloc o) g t cs:=(Below.heap_alloc w o g h.lt).trans h
theorem ae.aH(h:ae w g t cs)(i:Nat)(u:Value):ae (w.setCell ⟨g,i,none⟩ u) g t (cs.setIfInBounds i u):=by
 unfold ae at h ⊢;simp[World.setCell,Array.getElem?_modify,h]
theorem ae.far(h:ae w g t cs){p:Addr}(hp:g≠p.block)(u:Value):ae (w.setCell p u) g t cs:=(Below.heap_setCell w p u g hp).trans h
theorem ae.below{B:Nat}(h:ae w g t cs)(hb:Below B w w')(hg:g<B):ae w' g t cs:=(hb.block g hg).trans h
theorem ae.grown{row:Option Nat}(h:ae w g t cs)(hb:w.grownBy w' row)(hg:some g≠row):ae w' g t cs:=(hb.block g h.lt hg).trans h
theorem ae.Gq{g':Nat}{t':TypeId}{cs':Array Value}(h:ae w g t cs)(h':ae w g' t' cs')(hne:t≠t'):g≠g':=by
 rintro rfl;unfold ae at h h';rw[h] at h';injection h' with h'
 injection h' with _ ht
 exact hne ht
theorem bR{base:Nat}{e:TypeId}{size n:Nat}{v:Value}{xs:List Value}(h:w.ownsRow base e size v n xs)(hg:ae w g t cs)(hne:e≠t):v.ownBlock≠some g:=by
 rcases h.2 with ⟨rfl,_⟩|⟨g',cap,cur,rfl,_,hh,_⟩
 ·simp[Value.ownBlock]
 intro he;have:g'=g:=by simpa[Value.ownBlock] using he
 subst this;exact ae.Gq (t:=e) hh hg hne rfl
end

def bN(w:World)(k:Nat)(t:TypeId):Prop:=∃cs fr,w.heap[k]?=some (.cells cs t fr)

theorem ae.fh{w:World}{g t:Nat}{cs:Array Value}(h:ae w g t cs):bN w g t:=⟨cs,_,h⟩
theorem bN.lt{w:World}{k t:Nat}(h:bN w k t):k<w.heap.size:=by
 obtain⟨cs,fr,h⟩:=h
 rcases Nat.lt_or_ge k w.heap.size with hlt|tN
 ·exact hlt
 rw[Array.getElem?_eq_none tN] at h;cases h

section
variable {base t b:Nat} {w w1 w':World}
end

theorem aD{w:World}{base e size n:Nat}{v:Value}{xs:List Value}(h:w.ownsRow base e size v n xs):∀k,v.ownBlock=some k→base≤k∧bN w k e:=by
 intro k hk
 rcases h.2 with ⟨rfl,_⟩|⟨g',cap,cur,rfl,hb,hh,_⟩
 ·simp[Value.ownBlock] at hk
 have:g'=k:=by simpa[Value.ownBlock] using hk
 subst this;exact⟨hb,cur,_,hh⟩

theorem et{P:Program}(W:World){e:TypeId}{cs:List Value}{ops:Array Oper}{rest:List Oper}{o:Oper}{a:Act}{Q:Exit→Act→World→Prop}(hgd:o.guard=none)(s x:Operand)(t:TypeId)
  (ho:o.op=.call { callee:=.builtin .append,args:=#[s,x],argTypes:=#[t,t] })
  (base:Nat) (z:Value) (size bytes:Nat) (ht:P.underlying t=some (.slice e)) (eL:(P.info? e).map (fun i=>(i.zero,i.size,i.bytes))=some (some z,size,bytes))
  (hzs:z.cells.size=size) (hsz:0<size)
  (v:Value) (n:Nat) (xs:List Value) (hs:a.eval s=v) (hown:W.ownsRow base e size v n xs)
  (hcs:cs.length=size) (h1:∀u∈cs,u.oneCell'=true) (hx:a.eval x=.slice (some ⟨W.heap.size,0,none⟩) 1 1)
  (h63:n+1≤maxLen) (hbytes:(n+1)*bytes≤140737488355328) (hbase:base≤W.heap.size)
  (h:∀g cap w',w'.ownsRow base e size (.slice (some ⟨g,0,none⟩) (n+1) cap) (n+1) (xs++cs)→W.grownBy w' v.ownBlock→(v.ownBlock=some g∨W.heap.size≤g)→g<w'.heap.size→base≤g→
   wpList P ops Q rest (a.put o.dst (.slice (some ⟨g,0,none⟩) (n+1) cap)) w'):wpList P ops Q (o :: rest) a (W.alloc (.cells cs.toArray e)):=by
 obtain⟨i,hi,hz,hsize,hby⟩:=info_parts eL;refine wpList_append_lies (W.alloc (.cells cs.toArray e)) hgd s x t ho base e i z size bytes ht hi hz hsize hby hzs hsz v n xs hs (hown.alloc _) ⟨W.heap.size,0,none⟩ 1 1 cs hx (by omega) ?_ h1 (by omega) h63 hbytes (by simp;omega) _ rfl ?_
 ·intro j u hu;exact World.news_of_block (ae.new W e cs.toArray) j u (by simpa using hu)
 intro g cap w' hown' hgrow hg hlt;have hb:base≤g:=(aD hown' g rfl).1;refine h g cap w' hown' ⟨hgrow.os,hgrow.tape,hgrow.output,Nat.le_trans (by simp) hgrow.size,fun k hk hne=>?_⟩ ?_ hlt hb
 ·exact (hgrow.block k (by simp;omega) hne).trans (Below.heap_alloc W _ k hk)
 rcases hg with hg|hg
 ·exact .inl hg
 exact .inr (by simp at hg;omega)

theorem Ny{x x' y y':Value}(h1:x=x')(h2:y=y'):Ending.returned (.tuple #[x,y])=.returned (.tuple #[x',y']):=by rw[h1,h2]
theorem aC{x x':Value}(h1:x=x'):Ending.returned x=.returned x':=by rw[h1]
theorem aR{a b:Bool}(h:a=b):Value.bool a=.bool b:=by rw[h]
theorem int_eq{k:IntKind}{a b:Int}(h:a=b):Value.int k a=.int k b:=by rw[h]

def bE(l:List UInt8):List Value:=l.map fun b=>.int .u8 (b.toNat:Int)
theorem Et(a b:List UInt8):bE (a++b)=bE a++bE b:=by simp[bE]
theorem J0(a:List UInt8):(bE a).length=a.length:=by simp[bE]
theorem acG(l:List UInt8):∀u∈bE l,u.oneCell'=true:=by
 intro u hu;simp only[bE,List.mem_map] at hu;obtain⟨b,_,rfl⟩:=hu;rfl
def bv(n:Int):UInt8:=UInt8.ofNat n.toNat
theorem RV(n:Int)(h0:0≤n)(h1:n<256):((bv n).toNat:Int)=n:=by
 unfold bv;rw[UInt8.toNat_ofNat'];omega
theorem RX(n:Int)(h0:0≤n)(h1:n<256):bE [bv n]=[.int .u8 n]:=by
 show [Value.int .u8 ((bv n).toNat:Int)]=_;rw[RV n h0 h1]

def fS(t:ByteArray)(l:List UInt8):Prop:=t.data.toList=l
theorem fS.size{t:ByteArray}{l:List UInt8}(h:fS t l):t.size=l.length:=by
 unfold fS at h;rw[←h];simp

theorem X0{P:Program}(w:World)(src dst e:TypeId)(hs:P.underlying src=some (.slice e))(he:P.underlying e=some (.int .u8))(hd:P.underlying dst=some .string)
  {base:Nat} {v:Value} {n:Nat} (l:List UInt8) (hown:w.ownsRow base e 1 v n (bE l)):∃t:ByteArray,(convert src dst v).run P w=.ok (.string t) w∧fS t l:=by
 have hn:l.length=n:=by have:=hown.1;rw[J0] at this;omega
 rcases hown.2 with ⟨rfl,hx⟩|⟨g,cap,cur,rfl,_⟩
 ·subst hx
  have hl:l=[]:=by
   exact List.eq_nil_of_length_eq_zero (by have:=hown.1;rw[J0] at this;omega)
  subst hl;refine⟨ByteArray.empty,?_,rfl⟩;rw[run_convert_bytes_string w src dst e _ _ _ hs he hd];simp[Conv.bytesToString]
 subst hn;refine⟨⟨l.toArray⟩,run_convert_bytes_back w src dst e ⟨g,0,none⟩ cap l hs he hd ?_,rfl⟩;intro j hj;exact hown.cells (g:=g) rfl j _ (by simp[bE,List.getElem?_eq_getElem hj])

theorem nW{P:Program}{w:World}{ops:Array Oper}{rest:List Oper}{o:Oper}{a:Act}{Q:Exit→Act→World→Prop}(hgd:o.guard=none)(src dst e:TypeId)(x:Operand)
  (ho:o.op=.convert src dst x) (hs:P.underlying src=some (.slice e)) (he:P.underlying e=some (.int .u8)) (hd:P.underlying dst=some .string)
  (base:Nat) (v:Value) (n:Nat) (hx:a.eval x=v) (l:List UInt8) (hown:w.ownsRow base e 1 v n (bE l))
  (h:∀t:ByteArray,fS t l→wpList P ops Q rest (a.put o.dst (.string t)) w):wpList P ops Q (o :: rest) a w:=by
 obtain⟨t,hrun,ht⟩:=X0 (P:=P) w src dst e hs he hd l hown;refine wpList_plain hgd fun K hK=>?_;unfold Oper.wp execOp;simp only[ho,Sem.run_bind,Sem.run_pure,Result.andThen_ok,hx,hrun];exact hK _ _ (h t ht)

theorem aiH(w:World)(e:TypeId)(n:Int)(h0:0≤n)(h1:n<256):(w.alloc (.cells #[.int .u8 n] e)).ownsRow w.heap.size e 1 (.slice (some ⟨w.heap.size,0,none⟩) 1 1) 1 (bE [bv n]):=by
 rw[RX n h0 h1];exact World.ownsRow_lit w #[.int .u8 n] 1 (Nat.le_refl _) (by unfold maxLen;omega) rfl

theorem GC(w:World)(e:TypeId)(ns:List Int)(h:∀n∈ns,0≤n∧n<256)(hl:ns.length≤1000) :
  (w.alloc (.cells (ns.map (Value.int .u8)).toArray e)).ownsRow w.heap.size e 1 (.slice (some ⟨w.heap.size,0,none⟩) ns.length ns.length) ns.length (bE (ns.map bv)):=by
 have e1:bE (ns.map bv)=ns.map (Value.int .u8):=by
  unfold bE;rw[List.map_map]
  apply List.map_congr_left
  intro n hn;have:=h n hn;simp only[Function.comp,RV n this.1 this.2]
 rw[e1];have:=World.ownsRow_lit (base:=w.heap.size) (e:=e) (size:=1) w (ns.map (Value.int .u8)).toArray ns.length (Nat.le_refl _) (by unfold maxLen;omega) (by simp)
 simpa using this
theorem aiI(w:World)(e:TypeId)(base g:Nat)(hg:w.heap.size=g)(hbase:base≤g)(a:Int)(ha:0≤a∧a<256) :
  (w.alloc (.cells #[.int .u8 a] e)).ownsRow base e 1 (.slice (some ⟨g,0,none⟩) 1 1) 1 (bE [bv a]):=by
 subst hg;have:=GC w e [a] (by simp[ha]) (by simp)
 exact⟨this.1,.inr (by
  rcases this.2 with ⟨h,_⟩|⟨g,cap,cur,h1,h2,h3⟩
  ·simp at h
  exact⟨g,cap,cur,h1,by omega,h3⟩)⟩
theorem Xc(w:World)(e:TypeId)(base g:Nat)(hg:w.heap.size=g)(hbase:base≤g)(a b:Int)(ha:0≤a∧a<256)(hb:0≤b∧b<256) :
  (w.alloc (.cells #[.int .u8 a,.int .u8 b] e)).ownsRow base e 1 (.slice (some ⟨g,0,none⟩) 2 2) 2 (bE [bv a,bv b]):=by
 subst hg;have:=GC w e [a,b] (by simp[ha,hb]) (by simp)
 exact⟨this.1,.inr (by
  rcases this.2 with ⟨h,_⟩|⟨g,cap,cur,h1,h2,h3⟩
  ·simp at h
  exact⟨g,cap,cur,h1,by omega,h3⟩)⟩
theorem Xd(w:World)(e:TypeId)(base g:Nat)(hg:w.heap.size=g)(hbase:base≤g)(a b c:Int)(ha:0≤a∧a<256)(hb:0≤b∧b<256)(hc:0≤c∧c<256) :
  (w.alloc (.cells #[.int .u8 a,.int .u8 b,.int .u8 c] e)).ownsRow base e 1 (.slice (some ⟨g,0,none⟩) 3 3) 3 (bE [bv a,bv b,bv c]):=by
 subst hg;have:=GC w e [a,b,c] (by simp[ha,hb,hc]) (by simp)
 exact⟨this.1,.inr (by
  rcases this.2 with ⟨h,_⟩|⟨g,cap,cur,h1,h2,h3⟩
  ·simp at h
  exact⟨g,cap,cur,h1,by omega,h3⟩)⟩
theorem Xe(w:World)(e:TypeId)(base g:Nat)(hg:w.heap.size=g)(hbase:base≤g)(a b c d:Int)(ha:0≤a∧a<256)(hb:0≤b∧b<256)(hc:0≤c∧c<256)(hd:0≤d∧d<256) :
  (w.alloc (.cells #[.int .u8 a,.int .u8 b,.int .u8 c,.int .u8 d] e)).ownsRow base e 1 (.slice (some ⟨g,0,none⟩) 4 4) 4 (bE [bv a,bv b,bv c,bv d]):=by
 subst hg;have:=GC w e [a,b,c,d] (by simp[ha,hb,hc,hd]) (by simp)
 exact⟨this.1,.inr (by
  rcases this.2 with ⟨h,_⟩|⟨g,cap,cur,h1,h2,h3⟩
  ·simp at h
  exact⟨g,cap,cur,h1,by omega,h3⟩)⟩
end
section
open Go.RowKit

def am(p:Prop):Prop:=p
theorem am.o{p:Prop}(h:am p):p:=h
theorem ap{p:Prop}(h:p):am p:=h
theorem cq{P:Program}{f:FuncId}{args:Array Value}{w:World}{v:Value}{Q:Ending→World→Prop}(h:Calls P f args w fun e w'=>e=.returned v∧w'=w)(k:Q (.returned v) w):Calls P f args w Q :=
 h.mono (by rintro e w' ⟨rfl,rfl⟩;exact k)

theorem Gu(a:Nat)(ha:a<9223372036854775808):(BitVec.ofInt 64 (a:Int)).toNat=a:=by
 rw[BitVec.ofInt_natCast,BitVec.toNat_ofNat];exact Nat.mod_eq_of_lt (by omega)
theorem agC(a b:Nat)(ha:a<9223372036854775808)(hb:b<9223372036854775808):bits .and .i64 (a:Int) (b:Int)=((a &&& b:Nat):Int):=by
 have hx:a &&& b<2 ^ 63:=Nat.and_lt_two_pow _ (by omega);show IntKind.i64.wrap ((BitVec.ofInt 64 (a:Int) &&& BitVec.ofInt 64 (b:Int)).toNat:Int)=_;rw[BitVec.toNat_and,Gu a ha,Gu b hb,IntKind.wrap_i64];omega
theorem agD(a b:Nat)(ha:a<9223372036854775808)(hb:b<9223372036854775808):bits .or .i64 (a:Int) (b:Int)=((a ||| b:Nat):Int):=by
 have hx:a ||| b<2 ^ 63:=Nat.or_lt_two_pow (by omega) (by omega)
 show IntKind.i64.wrap ((BitVec.ofInt 64 (a:Int) ||| BitVec.ofInt 64 (b:Int)).toNat:Int)=_;rw[BitVec.toNat_or,Gu a ha,Gu b hb,IntKind.wrap_i64];omega
theorem ofInt_u8(a:Nat)(ha:a<256):(BitVec.ofInt 8 (a:Int)).toNat=a:=by
 rw[BitVec.ofInt_natCast,BitVec.toNat_ofNat];exact Nat.mod_eq_of_lt (by omega)
theorem u8_and_nat(a b:Nat)(ha:a<256)(hb:b<256):bits .and .u8 (a:Int) (b:Int)=((a &&& b:Nat):Int):=by
 have hx:a &&& b<2 ^ 8:=Nat.and_lt_two_pow _ (by omega);show IntKind.u8.wrap ((BitVec.ofInt 8 (a:Int) &&& BitVec.ofInt 8 (b:Int)).toNat:Int)=_;rw[BitVec.toNat_and,ofInt_u8 a ha,ofInt_u8 b hb,IntKind.wrap_u8];omega
theorem u8_or_nat(a b:Nat)(ha:a<256)(hb:b<256):bits .or .u8 (a:Int) (b:Int)=((a ||| b:Nat):Int):=by
 have hx:a ||| b<2 ^ 8:=Nat.or_lt_two_pow (by omega) (by omega)
 show IntKind.u8.wrap ((BitVec.ofInt 8 (a:Int) ||| BitVec.ofInt 8 (b:Int)).toNat:Int)=_;rw[BitVec.toNat_or,ofInt_u8 a ha,ofInt_u8 b hb,IntKind.wrap_u8];omega

theorem ug(x:Int)(k:Nat)(h0:0≤x)(h1:x<9223372036854775808)(hk:k<63)(m:Int)(hm:m=2 ^ k-1):bits .and .i64 x m=x % 2 ^ k:=by
 obtain⟨a,rfl⟩:=Int.eq_ofNat_of_zero_le h0;have h2:(2:Nat) ^ k<2 ^ 63:=Nat.pow_lt_pow_right (by omega) hk;have h3:0<(2:Nat) ^ k:=Nat.two_pow_pos k;obtain rfl:m=((2 ^ k-1:Nat):Int):=by rw[hm,Int.ofNat_sub h3];simp
 rw[agC a _ (by omega) (by omega),Nat.and_two_pow_sub_one_eq_mod];simp
theorem am4(x:Int)(k:Nat)(h0:0≤x)(h1:x<256)(hk:k<8)(m:Int)(hm:m=2 ^ k-1):bits .and .u8 x m=x % 2 ^ k:=by
 obtain⟨a,rfl⟩:=Int.eq_ofNat_of_zero_le h0;have h2:(2:Nat) ^ k<2 ^ 8:=Nat.pow_lt_pow_right (by omega) hk;have h3:0<(2:Nat) ^ k:=Nat.two_pow_pos k;obtain rfl:m=((2 ^ k-1:Nat):Int):=by rw[hm,Int.ofNat_sub h3];simp
 rw[u8_and_nat a _ (by omega) (by omega),Nat.and_two_pow_sub_one_eq_mod];simp

theorem VL(x y:Int)(k:Nat)(h0:0≤x)(hy:0≤y)(hk:y<2 ^ k)(hx:x*2 ^ k+y<9223372036854775808):bits .or .i64 (x*2 ^ k) y=x*2 ^ k+y:=by
 obtain⟨a,rfl⟩:=Int.eq_ofNat_of_zero_le h0;obtain⟨b,rfl⟩:=Int.eq_ofNat_of_zero_le hy;have e:((a:Int)*2 ^ k)=((a*2 ^ k:Nat):Int):=by simp
 have hb:b<2 ^ k:=by
  have:((2 ^ k:Nat):Int)=(2:Int) ^ k:=by simp
  omega
 rw[e] at hx ⊢;rw[agD _ _ (by omega) (by omega)];rw[Nat.mul_comm a,←Nat.two_pow_add_eq_or_of_lt hb];simp
theorem am5(x y:Int)(k:Nat)(h0:0≤x)(hy:0≤y)(hk:y<2 ^ k)(hx:x*2 ^ k+y<256):bits .or .u8 (x*2 ^ k) y=x*2 ^ k+y:=by
 obtain⟨a,rfl⟩:=Int.eq_ofNat_of_zero_le h0;obtain⟨b,rfl⟩:=Int.eq_ofNat_of_zero_le hy;have e:((a:Int)*2 ^ k)=((a*2 ^ k:Nat):Int):=by simp
 have hb:b<2 ^ k:=by
  have:((2 ^ k:Nat):Int)=(2:Int) ^ k:=by simp
  omega
 rw[e] at hx ⊢;rw[u8_or_nat _ _ (by omega) (by omega)];rw[Nat.mul_comm a,←Nat.two_pow_add_eq_or_of_lt hb];simp

theorem u8_and63(x:Int)(h0:0≤x)(h1:x<256):bits .and .u8 x 63=x % 64:=am4 x 6 h0 h1 (by omega) _ rfl
theorem FW(x y:Int)(h0:0≤x)(h1:x<100000000000)(h2:0≤y)(h3:y<64):bits .or .i64 (x*64) y=x*64+y:=by
 have:=VL x y 6 h0 h2 (by omega) (by omega)
 simpa using this
end
section
open Go.RowKit

structure ai(R:Nat)(w w':World):Prop where
 os:w'.os=w.os
 tape:w'.tape=w.tape
 output:w'.output=w.output
 size:w.heap.size≤w'.heap.size
 block:∀k,k<w.heap.size→k≠R→w'.heap[k]?=w.heap[k]?
section
variable {R:Nat} {w w1 w':World}
theorem ai.refl(R:Nat)(w:World):ai R w w:=⟨rfl,rfl,rfl,Nat.le_refl _,fun _ _ _=>rfl⟩
theorem ai.trans(h:ai R w w1)(k:ai R w1 w'):ai R w w' :=
 ⟨k.os.trans h.os,k.tape.trans h.tape,k.output.trans h.output,Nat.le_trans h.size k.size,fun i hi hb=>(k.block i (Nat.lt_of_lt_of_le hi h.size) hb).trans (h.block i hi hb)⟩
theorem ai.below{B:Nat}(h:ai R w w')(hb:B≤R)(hs:B≤w.heap.size):Below B w w':=⟨h.os,h.tape,h.output,h.size,fun k hk=>h.block k (by omega) (by omega)⟩
theorem ai.b8(h:Below w.heap.size w w'):ai R w w':=⟨h.os,h.tape,h.output,h.size,fun k hk _=>h.block k hk⟩
theorem ai.blk{g t':Nat}{cs:Array Value}(h:ai R w w')(hg:ae w g t' cs)(hb:g≠R):ae w' g t' cs:=(h.block g hg.lt hb).trans hg
theorem ai.alloc(h:ai R w w1)(o:Obj):ai R w (w1.alloc o):=h.trans ⟨rfl,rfl,rfl,by simp,fun k hk _=>Below.heap_alloc _ _ _ hk⟩
theorem ai.drew(h:ai R w w1):ai R w w1.drew:=⟨h.os,h.tape,h.output,h.size,h.block⟩
theorem ai.setCell(h:ai R w w1){p:Addr}(hp:p.block=R∨w.heap.size≤p.block)(u:Value):ai R w (w1.setCell p u):=by
 refine⟨h.os,h.tape,h.output,by simpa[World.setCell] using h.size,fun k hk hb=>?_⟩;rw[Below.heap_setCell _ _ _ _ (by omega)];exact h.block k hk hb
theorem ai.go(h:ai R w w1)(hb:Below w1.heap.size w1 w'):ai R w w':=h.trans (ai.b8 hb)
end
theorem ay(w:World)(o:Obj):Below w.heap.size w (w.alloc o):=(Below.refl _ _).alloc (Nat.le_refl _) o
theorem ae.go{w w':World}{g t:Nat}{cs:Array Value}(h:ae w g t cs)(hb:Below w.heap.size w w'):ae w' g t cs:=h.below hb h.lt

def aa(l:List UInt8):ByteArray:=⟨l.toArray⟩
theorem aZ(l:List UInt8):(aa l).data.toList=l:=rfl
theorem vC(b:ByteArray):aa b.data.toList=b:=rfl
theorem aO(l:List UInt8):(aa l).size=l.length:=List.size_toArray ..
theorem bV(s:ByteArray):s.data.toList.length=s.size:=Array.length_toList
theorem oD(s:ByteArray)(a b:Nat):s.extract a b=aa ((s.data.toList.drop a).take (b-a)):=by
 apply ByteArray.ext
 apply Array.ext'
 rw[ByteArray.data_extract,Array.toList_extract];rfl
theorem ko(s:ByteArray)(a:Nat):s.extract a s.size=aa (s.data.toList.drop a):=by
 rw[oD,List.take_of_length_le (by rw[List.length_drop,bV];exact Nat.le_refl _)]
theorem str_inj{a b:List UInt8}(h:aa a=aa b):a=b:=congrArg (fun x:ByteArray=>x.data.toList) h
end
section
open Go.RowKit

theorem akh{fn:Func}{t u v x:Tmp}(h:fn.results=#[.tmp t,.tmp u,.tmp v,.tmp x])(tmps:Array Value)(P:Program)(w:World) :
  (results fn tmps).run P w=.ok (.tuple #[tmps.getD t undef,tmps.getD u undef,tmps.getD v undef,tmps.getD x undef]) w:=by simp[results,h]

def KB(f:Int×Int×Int×Int):Value:=.tuple #[.int .i64 f.1,.int .i64 f.2.1,.int .u8 f.2.2.1,.int .u8 f.2.2.2]

theorem aev{c a b d e:Int}(h:(a,b,d,e)=Utf.follow c):Ending.returned (.tuple #[.int .i64 a,.int .i64 b,.int .u8 d,.int .u8 e])=.returned (KB (Utf.follow c)):=by
 rw[←h];rfl

theorem aew(c:Int)(w:World)(h0:0≤c)(h1:c≤255) :
  Calls Tryz.prog 193 #[.int .u8 c] w fun e w'=>e=.returned (KB (Utf.follow c))∧w=w':=by
 have b1:bits .and .i64 c 31=c % 32:=ug c 5 h0 (by omega) (by omega) _ rfl;have b2:bits .and .i64 c 15=c % 16:=ug c 4 h0 (by omega) (by omega) _ rfl;have b3:bits .and .i64 c 7=c % 8:=ug c 3 h0 (by omega) (by omega) _ rfl
 go_enter Tryz.func193,Tryz.ntmps193
 go_wp2
 all_goals
  refine bodyPost_ret (akh rfl _ _ _) rfl ?_;refine⟨aev ?_,rfl⟩
  try simp only[beq_iff_eq,beq_eq_false_iff_ne] at *
  unfold Utf.follow
  repeat (first|rw[if_pos (by omega)] | rw[if_neg (by omega)])

def rY(f:Int×Int×Int×Int):Int×Int×Int:=if f.1<0 then (-1,0,0) else if f.1=0 then (0,0,0) else (f.1,f.2.2.1,f.2.2.2)
def wP(f:Int×Int×Int):Value:=.tuple #[.int .i64 f.1,.int .u8 f.2.1,.int .u8 f.2.2]
theorem ahl{c a b d:Int}(h:(a,b,d)=rY (Utf.follow c)):Ending.returned (.tuple #[.int .i64 a,.int .u8 b,.int .u8 d])=.returned (wP (rY (Utf.follow c))):=by
 rw[←h];rfl

theorem Cy(c:Int)(w:World)(h0:0≤c)(h1:c≤255) :
  Calls Tryz.prog 188 #[.int .u8 c] w fun e w'=>e=.returned (wP (rY (Utf.follow c)))∧w=w':=by
 go_enter Tryz.func188,Tryz.ntmps188
 go_wp2
 all_goals
  go_ret3;refine⟨ahl ?_,rfl⟩
  try simp only[beq_iff_eq,beq_eq_false_iff_ne] at *
  obtain⟨q,hq⟩:∃q,q=Utf.follow c:=⟨_,rfl⟩;rw[←hq];unfold Utf.follow at hq
  repeat (first|rw[if_pos (by omega)] at hq|rw[if_neg (by omega)] at hq)
  subst hq
  first|rfl | (unfold rY;simp)
end
end Go.Proofs.YtpdkeckeekchlaaGreatDoor
