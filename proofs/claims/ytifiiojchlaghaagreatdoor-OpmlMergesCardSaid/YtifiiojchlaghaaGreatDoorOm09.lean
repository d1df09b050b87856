/- References: a number's scalar: the walk. And more. -/
import Derived.Test.YtifiiojchlaghaaGreatDoorOm04
import Derived.Test.YtifiiojchlaghaaGreatDoorOm08
set_option linter.unusedSimpArgs false
set_option maxRecDepth 100000
set_option maxHeartbeats 16000000
set_option linter.unusedVariables false
namespace Go.Proofs.YtifiiojchlaghaaGreatDoor
section
open Go.RowKit Tk Sx

def rL(o:Option (Option Nat)):Value:=match o with
 | none=>.tuple #[.int .i64 0,.bool false,.bool false]
 | some none=>.tuple #[.int .i64 0,.bool true,.bool false]
 | some (some v)=>.tuple #[.int .i64 ((v:Nat):Int),.bool true,.bool true]
theorem Xu(c:UInt8):nJ c≤16:=by
 unfold nJ;split
 ·omega
 split
 ·omega
 split<;>omega
theorem V9(v base d:Nat)(hb:1≤base):min (min v 1073741824*base+d) 1073741824=min (v*base+d) 1073741824:=by
 by_cases h:v≤1073741824
 ·rw[Nat.min_eq_left h]
 rw[Nat.min_eq_right (by omega:1073741824≤v)];have h1:1073741824≤1073741824*base:=Nat.le_mul_of_pos_right _ hb;have h2:1073741824*base≤v*base:=Nat.mul_le_mul_right _ (by omega);rw[Nat.min_eq_right (by omega),Nat.min_eq_right (by omega)]

theorem af1(D:L)(w:World)(hD:D.length≤1000000000) :
  Calls Tryz.prog 131 #[.string (aa D)] w fun e w'=>e=.returned (rL (number D))∧Below w.heap.size w w':=by
 have H1:=hide (fun W=>QF D [35] W hD);have mm:(gD [35] D).1.length≤D.length:=by unfold gD;split<;>simp
 have H2:=hide (fun W=>QF (gD [35] D).1 [120] W (by omega));have hn:=UX D;unfold uQ at hn;obtain⟨x1,TM⟩:∃x,gD [35] D=x:=⟨_,rfl⟩;rw[TM] at H1 H2 hn mm;obtain⟨A,is⟩:=x1;dsimp only at H2 hn mm;have xr:(gD [120] A).1.length≤A.length:=by unfold gD;split<;>simp
 obtain⟨x2,vQ⟩:∃x,gD [120] A=x:=⟨_,rfl⟩;rw[vQ] at H2 hn xr;obtain⟨B,hex⟩:=x2;dsimp only at hn xr;unfold xe at H1 H2;dsimp only at H1 H2;obtain⟨z,hz⟩:∃z,number D=z:=⟨_,rfl⟩;rw[hz] at hn ⊢;obtain⟨E,hE⟩:∃E,(if hex=true then (B,16) else (A,10)).1=E:=⟨_,rfl⟩;obtain⟨base,aM⟩:∃b,(if hex=true then (B,16) else (A,10)).2=b:=⟨_,rfl⟩;rw[hE,aM] at hn;have mo:E.length≤D.length:=by rw[←hE];split<;>(dsimp only;omega)
 have hb:base=10∨base=16:=by rw[←aM];split<;>simp
 have Hn:=hide hn;have DN:(aa E).toList.isEmpty=decide (E=[]):=by rw[ByteArray.toList_eq,bg];cases E<;>simp
 have DR:((aa E).toList==([]:L))=decide (E=[]):=by rw[ByteArray.toList_eq,bg];cases E<;>simp
 clear hn hz TM vQ xr mm
 cases is with
 | false=>
  have Hr:=hide (show rL z=.tuple #[.int .i64 0,.bool false,.bool false] by rw[Hn.out,if_neg (by simp)];rfl);clear Hn;cases hex
  ·clear hE aM DN DR hb mo
   go_enter Tryz.func131,Tryz.ntmps131
   go_wp2_with fail
   refine cq (H1.out _) ?_
   go_wp2_with fail
   refine cq (H2.out _) ?_
   go_wp2;go_ret3;rw[Hr.out];exact⟨rfl,Below.refl _ _⟩
  clear hE aM DN DR hb mo
  go_enter Tryz.func131,Tryz.ntmps131
  go_wp2_with fail
  refine cq (H1.out _) ?_
  go_wp2_with fail
  refine cq (H2.out _) ?_
  go_wp2;go_ret3;rw[Hr.out];exact⟨rfl,Below.refl _ _⟩
 | true=>
  by_cases h0:E=[]
  ·have Hr:=hide (show rL z=.tuple #[.int .i64 0,.bool false,.bool false] by rw[Hn.out,if_neg (by simp[h0])];rfl);rw[decide_eq_true h0] at DN DR;clear Hn h0;cases hex
   ·obtain rfl:A=E:=hE;clear aM hb mo
    go_enter Tryz.func131,Tryz.ntmps131
    go_wp2_with fail
    refine cq (H1.out _) ?_
    go_wp2_with fail
    refine cq (H2.out _) ?_
    go_wp2;go_ret3;rw[Hr.out];exact⟨rfl,Below.refl _ _⟩
   obtain rfl:B=E:=hE;clear aM hb mo
   go_enter Tryz.func131,Tryz.ntmps131
   go_wp2_with fail
   refine cq (H1.out _) ?_
   go_wp2_with fail
   refine cq (H2.out _) ?_
   go_wp2;go_ret3;rw[Hr.out];exact⟨rfl,Below.refl _ _⟩
  rw[decide_eq_false h0] at DN DR;have Hz:=hide (show z=(ia base 0 E).map qP by rw[Hn.out,if_pos ⟨rfl,h0⟩]);obtain⟨W,g,cap,nh,aP,hg,hat⟩:=Dk (aa E) w;have qy:=hide hat;have HB:=hide aP;rw[bg] at qy;have NM:=hide mo;have Hs:=hide (aW E);have hsz:(aa E).size≤1000000000:=by rw[aW];omega
  clear Hn h0 hat aP mo;have Hb:=hide hb;cases hex
  ·obtain rfl:A=E:=hE;obtain rfl:10=base:=aM;clear hb
   go_enter Tryz.func131,Tryz.ntmps131
   go_wp2_with fail
   refine cq (H1.out _) ?_
   go_wp2_with fail
   refine cq (H2.out _) ?_
   go_wp2;clear nh
   go_loopg [2,33] (aa A).size (fun gk vr vi wr=>∃k v:Nat,gk=(aa A).size-k∧k≤(aa A).size∧vi=.int .i64 (k:Int)∧vr=.int .i64 ((min v 1073741824:Nat):Int)∧ia 10 0 A=ia 10 v (A.drop k)∧wr=W)
   case atStart=>exact⟨0,0,rfl,by omega,rfl,rfl,rfl,rfl⟩
   case round=>
    obtain⟨k,v,aq,hk,rfl,rfl,hv,rfl⟩:=hrel;have Hg:=hide aq;have Hv:=hide hv;clear aq hv;obtain⟨rr,eQ⟩:∃rr,min v 1073741824=rr:=⟨_,rfl⟩;have uH:=hide eQ;have EF:rr≤1073741824:=by rw[←eQ];exact Nat.min_le_right _ _
    rw[eQ];clear eQ
    by_cases hlt:k<(aa A).size
    ·obtain⟨c,hc⟩:∃c,A[k]?=some c:=⟨_,List.getElem?_eq_getElem (by rw[←Hs.out];exact hlt)⟩;have hcell:=qy.out k c hc;have iQ:(0:Int)≤(k:Int):=by omega
     have HW:=hide (fun W=>Xt c W);have hdr:=xj hc;have hstep:ia 10 v (A.drop k)=if 10≤nJ c then none else ia 10 (v*10+nJ c) (A.drop (k+1)):=by rw[hdr];rfl
     have hwl:=Xu c;generalize nJ c=d at *
     have bf:=hide hstep;clear hstep hdr hc
     by_cases hd:10≤d
     ·have gd:(10:Int)≤(d:Int):=by omega
      have Hr:=hide (show rL z=.tuple #[.int .i64 0,.bool false,.bool false] by rw[Hz.out,Hv.out,bf.out,if_pos hd];rfl);clear hd bf
      go_wp2_with fail
      refine cq (HW.out _) ?_
      go_wp2;go_ret3;rw[Hr.out];exact⟨rfl,HB.out⟩
     have gd:¬(10:Int)≤(d:Int):=by omega
     have zn:=hide (show ia 10 0 A=ia 10 (v*10+d) (A.drop (k+1)) by rw[Hv.out,bf.out,if_neg hd]);have mB:IntKind.i64.wrap ((rr:Int)*10)=(rr:Int)*10:=IntWalk.i64_in _ (by omega);have hw2:IntKind.i64.wrap ((rr:Int)*10+(d:Int))=(rr:Int)*10+(d:Int):=IntWalk.i64_in _ (by omega)
     have adQ:min ((rr:Int)*10+(d:Int)) 1073741824=((min (v*10+d) 1073741824:Nat):Int):=by
      rw[←V9 v 10 d (by omega),uH.out];omega
     clear hd bf
     go_wp2_with fail
     refine cq (HW.out _) ?_
     go_wp2
     go_roundg ((aa A).size-(k+1))
     case measure=>have:=Hg.out;omega
     case rel=>exact⟨k+1,v*10+d,rfl,by omega,by go_num,rfl,zn.out,rfl⟩
    have AA:ia 10 v (A.drop k)=some v:=by rw[List.drop_of_length_le (by rw[←Hs.out];omega)];rfl
    have y8:=hide AA;have nN:=hide (fun W=>IQ (rr:Int) W);have hcs:bT (rr:Int)=bT (v:Int):=by rw[←Dm v,uH.out]
    rw[hcs] at nN;clear hcs AA
    cases iO:bT (v:Int) with
    | false=>
     rw[iO] at nN;have Hr:=hide (show rL z=.tuple #[.int .i64 0,.bool true,.bool false] by rw[Hz.out,Hv.out,y8.out,Option.map_some];unfold qP;rw[iO];rfl);clear iO
     go_wp2_with fail
     refine (nN.out _).mono ?_;rintro e w5 ⟨rfl,b5⟩;go_wp2;go_ret3;rw[Hr.out];exact⟨rfl,HB.out.trans (b5.mono HB.out.size)⟩
    | true=>
     rw[iO] at nN
     have Bb:rr=v:=by
      rw[←uH.out];refine Nat.min_eq_left ?_;rw[←Nat.not_lt];intro h;have:=Dm v;rw[iO,Nat.min_eq_right (by omega)] at this
      revert this
      decide
     have Hr:=hide (show rL z=.tuple #[.int .i64 (rr:Int),.bool true,.bool true] by rw[Hz.out,Hv.out,y8.out,Option.map_some];unfold qP;rw[iO,Bb];rfl);clear iO Bb
     go_wp2_with fail
     refine (nN.out _).mono ?_;rintro e w5 ⟨rfl,b5⟩;go_wp2;go_ret3;rw[Hr.out];exact⟨rfl,HB.out.trans (b5.mono HB.out.size)⟩
  obtain rfl:B=E:=hE;obtain rfl:16=base:=aM;clear hb
  go_enter Tryz.func131,Tryz.ntmps131
  go_wp2_with fail
  refine cq (H1.out _) ?_
  go_wp2_with fail
  refine cq (H2.out _) ?_
  go_wp2;clear nh
  go_loopg [2,33] (aa B).size (fun gk vr vi wr=>∃k v:Nat,gk=(aa B).size-k∧k≤(aa B).size∧vi=.int .i64 (k:Int)∧vr=.int .i64 ((min v 1073741824:Nat):Int)∧ia 16 0 B=ia 16 v (B.drop k)∧wr=W)
  case atStart=>exact⟨0,0,rfl,by omega,rfl,rfl,rfl,rfl⟩
  case round=>
   obtain⟨k,v,aq,hk,rfl,rfl,hv,rfl⟩:=hrel;have Hg:=hide aq;have Hv:=hide hv;clear aq hv;obtain⟨rr,eQ⟩:∃rr,min v 1073741824=rr:=⟨_,rfl⟩;have uH:=hide eQ;have EF:rr≤1073741824:=by rw[←eQ];exact Nat.min_le_right _ _
   rw[eQ];clear eQ
   by_cases hlt:k<(aa B).size
   ·obtain⟨c,hc⟩:∃c,B[k]?=some c:=⟨_,List.getElem?_eq_getElem (by rw[←Hs.out];exact hlt)⟩;have hcell:=qy.out k c hc;have iQ:(0:Int)≤(k:Int):=by omega
    have HW:=hide (fun W=>Xt c W);have hdr:=xj hc;have hstep:ia 16 v (B.drop k)=if 16≤nJ c then none else ia 16 (v*16+nJ c) (B.drop (k+1)):=by rw[hdr];rfl
    have hwl:=Xu c;generalize nJ c=d at *
    have bf:=hide hstep;clear hstep hdr hc
    by_cases hd:16≤d
    ·have gd:(16:Int)≤(d:Int):=by omega
     have Hr:=hide (show rL z=.tuple #[.int .i64 0,.bool false,.bool false] by rw[Hz.out,Hv.out,bf.out,if_pos hd];rfl);clear hd bf
     go_wp2_with fail
     refine cq (HW.out _) ?_
     go_wp2;go_ret3;rw[Hr.out];exact⟨rfl,HB.out⟩
    have gd:¬(16:Int)≤(d:Int):=by omega
    have zn:=hide (show ia 16 0 B=ia 16 (v*16+d) (B.drop (k+1)) by rw[Hv.out,bf.out,if_neg hd]);have mB:IntKind.i64.wrap ((rr:Int)*16)=(rr:Int)*16:=IntWalk.i64_in _ (by omega);have hw2:IntKind.i64.wrap ((rr:Int)*16+(d:Int))=(rr:Int)*16+(d:Int):=IntWalk.i64_in _ (by omega)
    have adQ:min ((rr:Int)*16+(d:Int)) 1073741824=((min (v*16+d) 1073741824:Nat):Int):=by
     rw[←V9 v 16 d (by omega),uH.out];omega
    clear hd bf
    go_wp2_with fail
    refine cq (HW.out _) ?_
    go_wp2
    go_roundg ((aa B).size-(k+1))
    case measure=>have:=Hg.out;omega
    case rel=>exact⟨k+1,v*16+d,rfl,by omega,by go_num,rfl,zn.out,rfl⟩
   have AA:ia 16 v (B.drop k)=some v:=by rw[List.drop_of_length_le (by rw[←Hs.out];omega)];rfl
   have y8:=hide AA;have nN:=hide (fun W=>IQ (rr:Int) W);have hcs:bT (rr:Int)=bT (v:Int):=by rw[←Dm v,uH.out]
   rw[hcs] at nN;clear hcs AA
   cases iO:bT (v:Int) with
   | false=>
    rw[iO] at nN;have Hr:=hide (show rL z=.tuple #[.int .i64 0,.bool true,.bool false] by rw[Hz.out,Hv.out,y8.out,Option.map_some];unfold qP;rw[iO];rfl);clear iO
    go_wp2_with fail
    refine (nN.out _).mono ?_;rintro e w5 ⟨rfl,b5⟩;go_wp2;go_ret3;rw[Hr.out];exact⟨rfl,HB.out.trans (b5.mono HB.out.size)⟩
   | true=>
    rw[iO] at nN
    have Bb:rr=v:=by
     rw[←uH.out];refine Nat.min_eq_left ?_;rw[←Nat.not_lt];intro h;have:=Dm v;rw[iO,Nat.min_eq_right (by omega)] at this
     revert this
     decide
    have Hr:=hide (show rL z=.tuple #[.int .i64 (rr:Int),.bool true,.bool true] by rw[Hz.out,Hv.out,y8.out,Option.map_some];unfold qP;rw[iO,Bb];rfl);clear iO Bb
    go_wp2_with fail
    refine (nN.out _).mono ?_;rintro e w5 ⟨rfl,b5⟩;go_wp2;go_ret3;rw[Hr.out];exact⟨rfl,HB.out.trans (b5.mono HB.out.size)⟩
theorem Wa(D:L)(w:World)(hD:D.length≤1000000000):Calls Tryz.prog 92 #[.string (aa D)] w fun e w'=>e=.returned (oV (scalar D))∧Below w.heap.size w w' :=
 aiI (aa D) w fun W=>af1 D W hD
end
section
open Go.RowKit Tk Sx

end
section
open Go.RowKit Tk Sx

end
section
open Go.RowKit Tk Sx

namespace Sx
def ji(out:L):Except Nat L→Except Nat L
 | .ok l=>.ok (out++l)
 | .error a=>.error a
def dF:Nat→Nat→L→Except Nat L
 | 0,_,_=>.ok []
 | _+1,_,[]=>.ok []
 | f+1,at_,c :: r=>if c≠38 then ji [c] (dF f (at_+1) r) else match ends r with
  | none=>.error at_
  | some n=>match scalar (r.take n) with
   | none=>.error at_
   | some v=>ji (ic v) (dF f (at_+n+2) (r.drop (n+1)))
theorem acD(a b:L)(e:Except Nat L):ji a (ji b e)=ji (a++b) e:=by cases e<;>simp[ji]
theorem Mr{f at_:Nat}:dF f at_ []=.ok []:=by cases f<;>rfl
theorem WA{f k:Nat}{c:UInt8}{r:L}(h:c≠38):dF (f+1) k (c :: r)=ji [c] (dF f (k+1) r):=by rw[dF,if_pos h]
theorem WC{f k:Nat}{r:L}(h:ends r=none):dF (f+1) k (38 :: r)=.error k:=by rw[dF,if_neg (by simp),h]
theorem Wz{f k n:Nat}{r:L}(h:ends r=some n)(hs:scalar (r.take n)=none):dF (f+1) k (38 :: r)=.error k:=by rw[dF,if_neg (by simp),h];simp only[hs]
theorem WD{f k n v:Nat}{r:L}(h:ends r=some n)(hs:scalar (r.take n)=some v):dF (f+1) k (38 :: r)=ji (ic v) (dF f (k+n+2) (r.drop (n+1))):=by rw[dF,if_neg (by simp),h];simp only[hs]
theorem aaY{v:Int}(h:bT v=true):Utf.isScalar v=true:=by
 unfold bT Tk.within at h;simp only[Bool.or_eq_true,Bool.and_eq_true,decide_eq_true_eq] at h;simp[Utf.isScalar];omega
theorem aiJ{s:L}{v:Nat}(h:scalar s=some v):Utf.isScalar (v:Int)=true:=by
 unfold scalar at h
 have hn:∀{v:Nat},named s=some v→Utf.isScalar (v:Int)=true:=fun {v} h=>by
  unfold named at h
  repeat' (split at h)
  all_goals first | (cases h;done) | (simp only[Option.some.injEq] at h;subst h;decide)
 cases hm:number s with
 | none=>rw[hm] at h;exact hn h
 | some x=>
  cases x with
  | none=>rw[hm] at h;exact hn h
  | some u=>
   rw[hm] at h;simp only[Option.some.injEq] at h;subst h;refine aaY ?_;rw[UX] at hm
   split at hm
   ·cases hv:ia (uQ s).2 0 (uQ s).1 with
    | none=>rw[hv] at hm;cases hm
    | some y=>
     rw[hv,Option.map_some] at hm;unfold qP at hm
     by_cases hc:bT (y:Int)=true
     ·rw[if_pos hc] at hm;cases hm;exact hc
     rw[if_neg hc] at hm;cases hm
   cases hm
end Sx
def iW(z:Except Nat L):Value:=match z with
 | .ok out=>.tuple #[.string (aa out),.int .i64 (-1),.int .i64 0]
 | .error a=>.tuple #[.string ⟨#[]⟩,.int .i64 (a:Int),.int .i64 50]
end
section
open Go.RowKit Go.Shelf Tk Sx

attribute [local go_sem] Oper.semAt_some

namespace Sx
structure dI where
 at_:Nat
 ref:Bool
 text:L
def b8:Nat→Nat→L→List dI
 | 0,_,_=>[]
 | f+1,at_,l=>if l=[] then [] else
  if 0<Lib.indexByte l 38 then ⟨at_,false,l.take (Lib.indexByte l 38).toNat⟩ :: b8 f (at_+(Lib.indexByte l 38).toNat) (l.drop (Lib.indexByte l 38).toNat)
  else if Lib.indexByte l 38=0 then match ends l.tail with
   | some n=>⟨at_,true,l.tail.take n⟩ :: b8 f (at_+n+2) (l.drop (n+2))
   | none=>⟨at_,false,[38]⟩ :: b8 f (at_+1) (l.drop 1)
  else [⟨at_,false,l⟩]
end Sx
def wh(x:dI):Array Value:=#[.agg #[.int .i64 (x.at_:Int),.bool x.ref,.string (aa x.text)]]
def PK(Bs:Nat)(W W':World):Prop:=W.heap.size≤W'.heap.size∧∀g,g<W.heap.size→(g=Bs∨bJ W g 159)→W'.heap[g]?=W.heap[g]?
theorem PK.trans{Bs:Nat}{X Y Z:World}(h:PK Bs X Y)(k:PK Bs Y Z):PK Bs X Z:=⟨Nat.le_trans h.1 k.1,fun g hg hk=>by
 have e:=h.2 g hg hk;rw[←e];refine k.2 g (Nat.lt_of_lt_of_le hg h.1) ?_
 rcases hk with hk|⟨cs,fr,hk⟩
 ·exact .inl hk
 exact .inr ⟨cs,fr,e.trans hk⟩⟩
theorem BH{Bs:Nat}{W W':World}(h:Below W.heap.size W W'):PK Bs W W':=⟨h.size,fun g hg _=>h.block g hg⟩
theorem BL{f at_:Nat}:b8 f at_ []=[]:=by cases f<;>simp[b8]
theorem Mf{f k m:Nat}{l:L}(h0:l≠[])(h:Lib.indexByte l 38=(m:Int))(hm:0<m):b8 (f+1) k l=⟨k,false,l.take m⟩ :: b8 f (k+m) (l.drop m):=by
 rw[b8,if_neg h0,h,if_pos (by omega),Int.toNat_natCast]
theorem Md{f k n:Nat}{l:L}(h0:l≠[])(h:Lib.indexByte l 38=0)(he:ends l.tail=some n):b8 (f+1) k l=⟨k,true,l.tail.take n⟩ :: b8 f (k+n+2) (l.drop (n+2)):=by
 rw[b8,if_neg h0,h,if_neg (by omega),if_pos rfl,he]
theorem Mc{f k:Nat}{l:L}(h0:l≠[])(h:Lib.indexByte l 38=0)(he:ends l.tail=none):b8 (f+1) k l=⟨k,false,[38]⟩ :: b8 f (k+1) (l.drop 1):=by
 rw[b8,if_neg h0,h,if_neg (by omega),if_pos rfl,he]
theorem Me{f k:Nat}{l:L}(h0:l≠[])(h:Lib.indexByte l 38<0):b8 (f+1) k l=[⟨k,false,l⟩]:=by
 rw[b8,if_neg h0,if_neg (by omega),if_neg (by omega)]
theorem aeE{l:L}{c:UInt8}{k:Nat}(h:Lib.indexByte l c=k):k<l.length:=by
 induction l generalizing k with
 | nil=>simp[Lib.indexByte] at h
 | cons b l ih=>
  unfold Lib.indexByte at h
  split at h
  ·have:k=0:=by omega
   subst this;simp
  (try dsimp only at h)
  split at h
  ·omega
  rename_i h1 h2
  have hg:=Lib.indexByte_ge l c
  obtain⟨j,hj⟩:∃j:Nat,Lib.indexByte l c=j:=⟨(Lib.indexByte l c).toNat,by
   have:Lib.indexByte l c≠-1:=by simpa using h2
   omega⟩
  have:=ih hj;simp only[List.length_cons];omega

theorem aie(n:Nat)(hn:1≤n)(l Bs:Nat)(s:ByteArray)(hs:s.size≤1000000000)
  (J Jx:List dI→World→Prop) (W:World) (hJ:AbidesFrom W.heap.size J) (xr:Bs<W.heap.size)
  (hY:∀pre x W,J pre W→pre.length<s.size→x.text.length≤s.size→x∈b8 s.size 0 s.data.toList→YieldAt Fence.wide (n-1) Tryz.prog l (wh x) W fun e W'=>
   (e=.returned (.bool true)∧J (pre++[x]) W'∧PK Bs W W')∨(e=.returned (.bool false)∧Jx (pre++[x]) W'))
  (mn:W.cell? ⟨Bs,0,none⟩=some (.string s)) (h0:J [] W) :
  CallsIn Fence.wide n Tryz.prog 129 #[.func (.yield l) #[] #[],.pointer (some ⟨Bs,0,none⟩)] W fun e W'=>(∃v,e=.returned v)∧
   ((∃ys:List dI,ys=b8 s.size 0 s.data.toList∧J ys W')∨(∃pre:List dI,(∃rest,pre++rest=b8 s.size 0 s.data.toList)∧Jx pre W')):=by
 have HJ:=hide (fun pre W1 W2 (h:J pre W1) (hb:Below W1.heap.size W1 W2)=>hJ pre W1 W2 none h (cR hb none) (fun r e=>by cases e));refine callsIn_of_wp Tryz.func129 rfl trivial ?_ rfl;simp only[Tryz.ntmps129,List.size_toArray,List.length_cons,List.length_nil,Nat.reduceAdd,Nat.reduceSub,Array.replicate_succ,Array.replicate_zero,List.push_toArray,List.append_toArray,List.nil_append,List.cons_append];obtain⟨D,hD⟩:∃D,s.data.toList=D:=⟨_,rfl⟩;have cu:=hide (show D.length=s.size by rw[←hD,b9]);have SA:∀k:Nat,s.extract k s.size=aa (D.drop k):=fun k=>by rw[kj,hD]
 have OC:=hide SA;have Cr:=hide (show ∀a b:Nat,s.extract a b=aa ((D.drop a).take (b-a)) from fun a b=>by rw[oh,hD]);rw[hD];obtain⟨all,hall⟩:∃all,b8 s.size 0 D=all:=⟨_,rfl⟩;rw[hall];have l5:=hide hall;have HA:=hide (show b8 s.size 0 s.data.toList=all by rw[hD,hall]);have uq:Hid (∀(q:L) W,Calls Tryz.prog 39 #[.string (aa q),.int .u8 38] W fun e w'=>e=.returned (.int .i64 (Lib.indexByte q 38))∧w'=W):=hide (fun (q:L) W=>Tryz.strings_IndexByte (aa q) 38 W);have Yb:=hide (fun (q:L) W (h:q.length≤1000000000)=>abZ (aa q) W (by rw[aW];exact h));clear hall SA hD hJ;gi_wp2
 gi_loopw [3] (fun i wr=>∃(k f:Nat) (pre:List dI),k≤s.size∧i=.int .i64 k∧pre.length≤k∧s.size-k≤f∧pre++b8 f k (D.drop k)=all∧J pre wr∧PK Bs W wr)
  (fun i _=>s.size-(intOf i).toNat)
 case atStart=>exact⟨0,s.size,[],Nat.zero_le _,rfl,Nat.le_refl _,by omega,by rw[←l5.out];rfl,h0,⟨Nat.le_refl _,fun _ _ _=>rfl⟩⟩
 case round=>
  obtain⟨k,f,pre,hk,rfl,hpl,hf,jt,jk,bD⟩:=hrel;have cN:=hide jt;have qh:=hide jk;have dB:=hide bD;have vu:wr.cell? ⟨Bs,0,none⟩=some (.string s):=(World.cell?_of_block (a:=⟨Bs,0,none⟩) (bD.2 Bs xr (.inl rfl))).trans mn;have im:Bs<wr.heap.size:=Nat.lt_of_lt_of_le xr bD.1;clear jt jk bD
  by_cases hlt:k<s.size
  ·have hne:D.drop k≠[]:=fun e=>by have:=congrArg List.length e;rw[List.length_drop,cu.out] at this;simp at this;omega
   obtain⟨f,rfl⟩:∃f',f=f'+1:=⟨f-1,by omega⟩;have aT:(D.drop k).length=s.size-k:=by rw[List.length_drop,cu.out]
   have hxk:=OC.out k;have hI:=uq.out (D.drop k);obtain⟨z,hz⟩:∃z,Lib.indexByte (D.drop k) 38=z:=⟨_,rfl⟩;rw[hz] at hI
   by_cases hz1:0<z
   ·obtain⟨m,rfl⟩:∃m:Nat,z=m:=⟨z.toNat,by omega⟩;have jJ:=aeE hz;have Hp:=hide (show b8 (f+1) k (D.drop k)=⟨k,false,(D.drop k).take m⟩ :: b8 f (k+m) (D.drop (k+m)) by rw[Mf hne hz (by omega),List.drop_drop]);have mC:(aa (D.drop k)).extract 0 m=aa ((D.drop k).take m):=by rw[oh,bg,List.drop_zero,Nat.sub_zero]
    have KR:((D.drop k).take m).length≤s.size:=by rw[List.length_take];omega
    have hsz:(aa ((D.drop k).take m)).size=m:=by rw[aW,List.length_take];omega
    have hb:0≤(m:Int)∧(m:Int)≤((aa (D.drop k)).size:Int):=by rw[aW];omega
    have hwm:IntKind.i64.wrap ((k:Int)+(m:Int))=(k:Int)+(m:Int):=IntWalk.i64_in _ (by omega);have HN:=hide (show k+m≤s.size∧0<m by omega);have rb:(0:Int)<(m:Int):=by omega
    generalize (D.drop k).take m=tx at *
    have cy:=hide (ae.new wr 159 #[.int .i64 (k:Int),.bool false,.string (aa tx)]);have sk:=hide (BH (Bs:=Bs) (aA wr (.cells #[.int .i64 (k:Int),.bool false,.string (aa tx)] 159)));have uX:=HJ.out pre wr _ qh.out (aA wr (.cells #[.int .i64 (k:Int),.bool false,.string (aa tx)] 159));obtain⟨fn,tmps,assign,body,hy,hR⟩:=hY pre ⟨k,false,tx⟩ _ uX (by omega) KR (by rw[HA.out,←cN.out,Hp.out];simp);unfold wh at hy;dsimp only at hy;clear hz aT hne hz1 jJ
    gi_wp2_with (refine⟨trivial,?_⟩;gi_at_call 39;refine (callsIn_wide.2 (hI _)).mono ?_;rintro e w2 ⟨rfl,hw2⟩;subst w2)
    refine hR.mono ?_;rintro e W3 (⟨rfl,bU,aK⟩|⟨rfl,iq⟩)
    ·have eT:=aK.2 wr.heap.size cy.out.lt (.inr cy.out.ft);have t0:=(World.cell?_of_block (a:=⟨wr.heap.size,0,none⟩) eT).trans (cy.out.cell 0);have t1:=(World.cell?_of_block (a:=⟨wr.heap.size,1,none⟩) eT).trans (cy.out.cell 1);have t2:=(World.cell?_of_block (a:=⟨wr.heap.size,2,none⟩) eT).trans (cy.out.cell 2);have cD:=hide aK;have ie:=hide bU;clear eT aK bU;gi_wp2
     go_roundw
     case rel=>exact⟨k+m,f,pre++[⟨k,false,tx⟩],HN.out.1,int_eq (by have:=HN.out.2;omega),by simp;have:=HN.out.2;omega,by have:=HN.out;omega,by rw[←cN.out,Hp.out];simp,ie.out,dB.out.trans (sk.out.trans cD.out)⟩
     case measure=>have:=HN.out;simp[intOf];omega
    gi_wp2;refine bodyPost_ret (results_none rfl _ _ _) rfl ?_;exact⟨⟨_,rfl⟩,.inr ⟨_,⟨_,by rw[←cN.out,Hp.out,List.append_assoc];rfl⟩,iq⟩⟩
   by_cases hz0:z=0
   ·subst hz0;have cC:k+1≤s.size:=by omega
    have lQ:(D.drop k).tail=D.drop (k+1):=by rw[List.tail_drop]
    have am1:=OC.out (k+1);have mB:IntKind.i64.wrap ((k:Int)+1)=(k:Int)+1:=IntWalk.i64_in _ (by omega);have au:0≤(k:Int)+1∧(k:Int)+1≤(s.size:Int)∧(s.size:Int)≤(s.size:Int):=by omega
    have tn1:((k:Int)+1).toNat=k+1:=by omega
    have hE:=Yb.out (D.drop (k+1)) (wr.alloc (.cells #[.int .i64 (k:Int),.bool false,.string (aa [38])] 159)) (by rw[List.length_drop,cu.out];omega);rw[bg] at hE;unfold lh at hE;rw[List.drop_zero] at hE;have cy:=hide (ae.new wr 159 #[.int .i64 (k:Int),.bool false,.string (aa [38])]);have az:=hide (aA wr (.cells #[.int .i64 (k:Int),.bool false,.string (aa [38])] 159));have PV:aa [38]=⟨#[38]⟩:=rfl
    cases he:ends (D.drop (k+1)) with
    | none=>
     rw[he] at hE;dsimp only at hE;have um:=hide hE;have Hp:=hide (show b8 (f+1) k (D.drop k)=⟨k,false,[38]⟩ :: b8 f (k+1) (D.drop (k+1)) by rw[Mc hne hz (by rw[lQ];exact he),List.drop_drop]);have HN:=hide (show k+1≤s.size∧0<1 by omega);have hsz:(aa [38]).size=1:=rfl;rw[PV] at *
     clear hz aT hne hz1 he hE lQ
     gi_wp2_with (first | (refine⟨trivial,?_⟩;gi_at_call 39;refine (callsIn_wide.2 (hI _)).mono ?_;rintro e w2 ⟨rfl,hw2⟩;subst w2) | fail)
     refine⟨trivial,?_⟩
     gi_at_call 130
     refine (callsIn_wide.2 um.out).mono ?_;rintro e w3 ⟨rfl,b3⟩;have cz:=hide (ae.go cy.out b3);have ax:=hide (az.out.trans (b3.mono az.out.size));have wN:=hide (BH (Bs:=Bs) ax.out);have uX:=HJ.out pre wr _ qh.out ax.out;have y0:=ae.cell cz.out 0;have y1:=ae.cell cz.out 1;have y2:=ae.cell cz.out 2;obtain⟨fn,tmps,assign,body,hy,hR⟩:=hY pre ⟨k,false,[38]⟩ _ uX (by omega) (by show 1≤s.size;omega) (by rw[HA.out,←cN.out,Hp.out];simp);unfold wh at hy;dsimp only at hy;clear b3 cy az;have EJ:(aa [38]).size=1:=rfl;gi_wp2;refine hR.mono ?_;rintro e W3 (⟨rfl,bU,aK⟩|⟨rfl,iq⟩)
     ·have eT:=aK.2 wr.heap.size cz.out.lt (.inr cz.out.ft);have t0:=(World.cell?_of_block (a:=⟨wr.heap.size,0,none⟩) eT).trans (cz.out.cell 0);have t1:=(World.cell?_of_block (a:=⟨wr.heap.size,1,none⟩) eT).trans (cz.out.cell 1);have t2:=(World.cell?_of_block (a:=⟨wr.heap.size,2,none⟩) eT).trans (cz.out.cell 2);have cD:=hide aK;have ie:=hide bU;clear eT aK bU;gi_wp2
      go_roundw
      case rel=>exact⟨k+1,f,pre++[⟨k,false,[38]⟩],HN.out.1,int_eq (by have:=HN.out.2;omega),by simp;have:=HN.out.2;omega,by have:=HN.out;omega,by rw[←cN.out,Hp.out];simp,ie.out,dB.out.trans (wN.out.trans cD.out)⟩
      case measure=>have:=HN.out;simp[intOf];omega
     gi_wp2;refine bodyPost_ret (results_none rfl _ _ _) rfl ?_;exact⟨⟨_,rfl⟩,.inr ⟨_,⟨_,by rw[←cN.out,Hp.out,List.append_assoc];rfl⟩,iq⟩⟩
    | some n0=>
     rw[he] at hE;dsimp only at hE;rw[Nat.zero_add] at hE;have um:=hide hE;have js:=Jd he;rw[List.length_drop,cu.out] at js;have Hp:=hide (show b8 (f+1) k (D.drop k)=⟨k,true,(D.drop (k+1)).take n0⟩ :: b8 f (k+n0+2) (D.drop (k+n0+2)) by rw[Md hne hz (by rw[lQ];exact he),List.drop_drop,lQ,show k+(n0+2)=k+n0+2 by omega]);have hxt:s.extract (k+1) (k+1+n0)=aa ((D.drop (k+1)).take n0):=by rw[Cr.out,Nat.add_sub_cancel_left]
     have KR:((D.drop (k+1)).take n0).length≤s.size:=by rw[List.length_take];omega
     have hsz:(aa ((D.drop (k+1)).take n0)).size=n0:=by rw[aW,List.length_take,List.length_drop,cu.out];omega
     generalize (D.drop (k+1)).take n0=tx at *
     obtain⟨q,hq⟩:∃q,k+1+n0=q:=⟨_,rfl⟩;rw[hq] at hxt;have HN:=hide (show k+n0+2≤s.size∧0<n0+2 by omega);have hgn:(0:Int)≤(n0:Int):=by omega
     have hw2:IntKind.i64.wrap ((k:Int)+1+(n0:Int))=(q:Int):=by rw[IntWalk.i64_in _ (by omega)];omega
     have ag:0≤(k:Int)+1∧(k:Int)+1≤(q:Int)∧(q:Int)≤(s.size:Int):=by omega
     have hw3:IntKind.i64.wrap ((k:Int)+(n0:Int))=(k:Int)+(n0:Int):=IntWalk.i64_in _ (by omega);have hw4:IntKind.i64.wrap ((k:Int)+(n0:Int)+2)=(k:Int)+(n0:Int)+2:=IntWalk.i64_in _ (by omega);rw[PV] at *
     clear hz aT hne hz1 he hE lQ js hq
     gi_wp2_with (first | (refine⟨trivial,?_⟩;gi_at_call 39;refine (callsIn_wide.2 (hI _)).mono ?_;rintro e w2 ⟨rfl,hw2⟩;subst w2) | fail)
     refine⟨trivial,?_⟩
     gi_at_call 130
     refine (callsIn_wide.2 um.out).mono ?_;rintro e w3 ⟨rfl,b3⟩;have cz:=hide (ae.go cy.out b3);have ax:=hide (az.out.trans (b3.mono az.out.size));have Ar:w3.cell? ⟨Bs,0,none⟩=some (.string s):=(ax.out.cell (p:=⟨Bs,0,none⟩) im).trans vu;have y0:=ae.cell cz.out 0;have y1:=ae.cell cz.out 1;have y2:=ae.cell cz.out 2;have fz:=fun i=>ae.frozen cz.out i;have amF:wr.heap.size≠Bs:=by omega
     clear b3 cy az;gi_wp2
     gi_region
     have iJ:=hide (show ae (((w3.setCell ⟨wr.heap.size,1,none⟩ (.bool true)).setCell ⟨wr.heap.size,2,none⟩ (.string (aa tx))).drew) wr.heap.size 159 #[.int .i64 (k:Int),.bool true,.string (aa tx)] from by
      have:=ae.drew (ae.aG (ae.aG cz.out 1 (.bool true)) 2 (.string (aa tx)))
      simpa using this)
     have cd:=hide (((ax.out.setCell (p:=⟨wr.heap.size,1,none⟩) (Nat.le_refl _) (.bool true)).setCell (p:=⟨wr.heap.size,2,none⟩) (Nat.le_refl _) (.string (aa tx))).drew);clear cz ax y0 y1 y2 fz Ar;generalize ((w3.setCell ⟨wr.heap.size,1,none⟩ (.bool true)).setCell ⟨wr.heap.size,2,none⟩ (.string (aa tx))).drew=W4 at *
     have CF:=hide (BH (Bs:=Bs) cd.out);have uX:=HJ.out pre wr _ qh.out cd.out;have y0:=ae.cell iJ.out 0;have y1:=ae.cell iJ.out 1;have y2:=ae.cell iJ.out 2;obtain⟨fn,tmps,assign,body,hy,hR⟩:=hY pre ⟨k,true,tx⟩ _ uX (by omega) KR (by rw[HA.out,←cN.out,Hp.out];simp);unfold wh at hy;dsimp only at hy;gi_wp2;refine hR.mono ?_;rintro e W3 (⟨rfl,bU,aK⟩|⟨rfl,iq⟩)
     ·have eT:=aK.2 wr.heap.size iJ.out.lt (.inr iJ.out.ft);have t0:=(World.cell?_of_block (a:=⟨wr.heap.size,0,none⟩) eT).trans (iJ.out.cell 0);have t1:=(World.cell?_of_block (a:=⟨wr.heap.size,1,none⟩) eT).trans (iJ.out.cell 1);have t2:=(World.cell?_of_block (a:=⟨wr.heap.size,2,none⟩) eT).trans (iJ.out.cell 2);have cD:=hide aK;have ie:=hide bU;clear eT aK bU;gi_wp2
      go_roundw
      case rel=>exact⟨k+n0+2,f,pre++[⟨k,true,tx⟩],HN.out.1,int_eq (by have:=HN.out.2;omega),by simp;have:=HN.out.2;omega,by have:=HN.out;omega,by rw[←cN.out,Hp.out];simp,ie.out,dB.out.trans (CF.out.trans cD.out)⟩
      case measure=>have:=HN.out;simp[intOf];omega
     gi_wp2;refine bodyPost_ret (results_none rfl _ _ _) rfl ?_;exact⟨⟨_,rfl⟩,.inr ⟨_,⟨_,by rw[←cN.out,Hp.out,List.append_assoc];rfl⟩,iq⟩⟩
   have hz2:z<0:=by have:=Lib.indexByte_ge (D.drop k) 38;omega
   have EN:z = -1:=by have:=Lib.indexByte_ge (D.drop k) 38;omega
   subst EN;have Hp:=hide (show b8 (f+1) k (D.drop k)=[⟨k,false,D.drop k⟩] by rw[Me hne (by omega)]);have hsz:(aa (D.drop k)).size=s.size-k:=by rw[aW,aT]
   have hwm:IntKind.i64.wrap ((k:Int)+((s.size-k:Nat):Int))=(k:Int)+((s.size-k:Nat):Int):=IntWalk.i64_in _ (by omega);have HN:=hide (show s.size≤s.size∧k<s.size by omega);have hnil:D.drop s.size=[]:=List.drop_of_length_le (by rw[cu.out];exact Nat.le_refl _);have Zp:=hide hnil;have cy:=hide (ae.new wr 159 #[.int .i64 (k:Int),.bool false,.string (aa (D.drop k))]);have sk:=hide (BH (Bs:=Bs) (aA wr (.cells #[.int .i64 (k:Int),.bool false,.string (aa (D.drop k))] 159)));have uX:=HJ.out pre wr _ qh.out (aA wr (.cells #[.int .i64 (k:Int),.bool false,.string (aa (D.drop k))] 159));obtain⟨fn,tmps,assign,body,hy,hR⟩:=hY pre ⟨k,false,D.drop k⟩ _ uX (by omega) (by show (D.drop k).length≤s.size;omega) (by rw[HA.out,←cN.out,Hp.out];simp);unfold wh at hy;dsimp only at hy;generalize hL:s.size-k=L0 at *
   have HL:=hide hL;clear hz aT hne hz1 hz0 hz2 hnil hL
   gi_wp2_with (refine⟨trivial,?_⟩;gi_at_call 39;refine (callsIn_wide.2 (hI _)).mono ?_;rintro e w2 ⟨rfl,hw2⟩;subst w2)
   refine hR.mono ?_;rintro e W3 (⟨rfl,bU,aK⟩|⟨rfl,iq⟩)
   ·have eT:=aK.2 wr.heap.size cy.out.lt (.inr cy.out.ft);have t0:=(World.cell?_of_block (a:=⟨wr.heap.size,0,none⟩) eT).trans (cy.out.cell 0);have t1:=(World.cell?_of_block (a:=⟨wr.heap.size,1,none⟩) eT).trans (cy.out.cell 1);have t2:=(World.cell?_of_block (a:=⟨wr.heap.size,2,none⟩) eT).trans (cy.out.cell 2);have cD:=hide aK;have ie:=hide bU;clear eT aK bU;gi_wp2
    go_roundw
    case rel=>exact⟨s.size,f,pre++[⟨k,false,D.drop k⟩],HN.out.1,int_eq (by have:=HL.out;have:=HN.out.2;omega),by simp;have:=HN.out.2;omega,by have:=HN.out;omega,by rw[←cN.out,Hp.out];rw[Zp.out,BL,List.append_nil],ie.out,dB.out.trans (sk.out.trans cD.out)⟩
    case measure=>have:=HL.out;have:=HN.out;simp[intOf];omega
   gi_wp2;refine bodyPost_ret (results_none rfl _ _ _) rfl ?_;exact⟨⟨_,rfl⟩,.inr ⟨_,⟨_,by rw[←cN.out,Hp.out,List.append_assoc];rfl⟩,iq⟩⟩
  gi_wp2;go_end0;exact⟨⟨_,rfl⟩,.inl ⟨pre,by rw[←cN.out,List.drop_of_length_le (by rw[cu.out];omega),BL,List.append_nil],qh.out⟩⟩

theorem aif(s:ByteArray)(w:World) :
  Calls Tryz.prog 91 #[.string s] w fun e w'=>e=.returned (.func (.func 129) #[] #[.pointer (some ⟨w.heap.size,0,none⟩)])∧w'=w.alloc (.cells #[.string s] 9):=by
 go_enter Tryz.func91,Tryz.ntmps91
 go_wp2;go_ret;exact⟨rfl,rfl⟩
def ek(x:dI):dI:=⟨x.at_,x.ref,x.text.take 100000⟩
theorem QE{x:dI}(h:x.text.length≤100000):ek x=x:=by unfold ek;rw[List.take_of_length_le h]
theorem aih(n:Nat)(hn:1≤n)(Bs:Nat)(s:ByteArray)(hs:s.size≤100000)(w:World)(mn:Bs<w.heap.size)(hc:w.cell? ⟨Bs,0,none⟩=some (.string s)) :
  SeqStopsK Fence.wide n Tryz.prog 129 #[.pointer (some ⟨Bs,0,none⟩)] (fun x=>wh (ek x)) (PK Bs) (fun ys=>ys=b8 s.size 0 s.data.toList)
   (fun pre=>∃rest,pre++rest=b8 s.size 0 s.data.toList) s.size w:=fun l J Jx W hW hJ _ hY h0=>
 aie n hn l Bs s (by omega) J Jx W hJ (Nat.lt_of_lt_of_le mn hW.size) (fun pre x W1 h1 h2 h3 _=>by have:=hY pre x W1 h1 h2;dsimp only at this;rwa[QE (Nat.le_trans h3 hs)] at this) ((hW.cell (p:=⟨Bs,0,none⟩) mn).trans hc) h0
theorem agW{w:World}{B:Nat}(hB:B<w.heap.size)(W:World)(l:Nat)(o o':Obj)(hl:w.heap.size≤l)(ho:W.heap[l]?=some o)(hc:o.isCells=false)(_:o.isWalk=false):PK B W (W.putObj l o'):=by
 refine⟨by simp[World.putObj],fun g hg hk=>?_⟩
 have dN:g≠l:=by
  rcases hk with rfl|⟨cs,fr,hk⟩
  ·omega
  rintro rfl;rw[hk] at ho;cases ho;cases hc
 show (W.heap.setIfInBounds l o')[g]?=W.heap[g]?;exact Array.getElem?_setIfInBounds_ne (Ne.symm dN)
end
section
open Go Tk Sx
namespace Sx
def nG:List dI→Except Nat L
 | []=>.ok []
 | x :: r=>if x.ref=false∧x.text≠[38] then ji x.text (nG r) else if x.ref then match scalar x.text with
   | some v=>ji (ic v) (nG r)
   | none=>.error x.at_
  else .error x.at_
theorem acE(e:Except Nat L):ji [] e=e:=by cases e<;>simp[ji]
theorem Ms:∀(a:L) (f k:Nat) (r:L),(38:UInt8)∉a→dF (a.length+f) k (a++r)=ji a (dF f (k+a.length) r)
 | [],f,k,r,_=>by simp[acE]
 | c :: a,f,k,r,h=>by
  have hc:c≠38:=fun e=>h (by rw[e];simp);have ha:(38:UInt8)∉a:=fun e=>h (List.mem_cons_of_mem _ e);rw[List.length_cons,show a.length+1+f=(a.length+f)+1 by omega,List.cons_append,WA hc,Ms a f (k+1) r ha,acD,show k+1+a.length=k+(a.length+1) by omega];rfl
theorem TY:∀{l:L} {c:UInt8},Lib.indexByte l c<0→c∉l
 | [],c,_=>by simp
 | b :: l,c,h=>by
  unfold Lib.indexByte at h
  split at h
  ·omega
  rename_i hb
  (try dsimp only at h)
  split at h
  ·rename_i h2
   have:Lib.indexByte l c = -1:=by simpa using h2
   have ih:=TY (l:=l) (c:=c) (by omega);intro hm
   rcases List.mem_cons.1 hm with e|e
   ·rw[e] at hb;simp at hb
   exact ih e
  rename_i h2
  have hg:=Lib.indexByte_ge l c;have:Lib.indexByte l c≠-1:=by simpa using h2
  omega
theorem Lj:∀{l:L} {c:UInt8} {m:Nat},Lib.indexByte l c=m→c∉l.take m∧l[m]?=some c
 | [],c,m,h=>by simp[Lib.indexByte] at h
 | b :: l,c,m,h=>by
  unfold Lib.indexByte at h
  split at h
  ·rename_i hb
   have:m=0:=by omega
   subst this;have hb':b=c:=by simpa using hb
   simp[hb']
  rename_i hb
  (try dsimp only at h)
  split at h
  ·omega
  rename_i h2
  have hg:=Lib.indexByte_ge l c;have h3:Lib.indexByte l c≠-1:=by simpa using h2
  obtain⟨j,hj⟩:∃j:Nat,Lib.indexByte l c=j:=⟨(Lib.indexByte l c).toNat,by omega⟩;obtain⟨h4,h5⟩:=Lj hj;have:m=j+1:=by omega
  subst this;refine⟨?_,by simpa using h5⟩;rw[List.take_succ_cons];intro hm
  rcases List.mem_cons.1 hm with e|e
  ·rw[e] at hb;simp at hb
  exact h4 e
theorem WG:∀(f:Nat) (k:Nat) (l:L) (g:Nat),l.length≤f→l.length≤g→nG (b8 f k l)=dF g k l:=by
 intro f
 induction f with
 | zero=>
  intro k l g hf _;have:l=[]:=List.length_eq_zero_iff.1 (by omega);subst this;rw[BL,Mr];rfl
 | succ f ih=>
  intro k l g hf hg
  by_cases h0:l=[]
  ·subst h0;rw[BL,Mr];rfl
  have hlp:=List.length_pos_iff.2 h0;have tu:=Lib.indexByte_ge l 38
  by_cases hn:Lib.indexByte l 38<0
  ·rw[Me h0 hn];have lp:=TY hn;have e:=Ms l (g-l.length) k [] lp;rw[List.append_nil,show l.length+(g-l.length)=g by omega,Mr] at e;rw[e];unfold nG;rw[if_pos ⟨rfl,fun e=>lp (by have e2:l=[38]:=e;rw[e2];simp)⟩];rfl
  obtain⟨m,hm⟩:∃m:Nat,Lib.indexByte l 38=m:=⟨(Lib.indexByte l 38).toNat,by omega⟩;obtain⟨lp,hat⟩:=Lj hm;have jJ:=(List.getElem?_eq_some_iff.1 hat).1
  by_cases rb:m=0
  ·subst rb;obtain⟨c,r,rfl⟩:∃c r,l=c :: r:=⟨_,_,(List.cons_head_tail h0).symm⟩;have hc:c=38:=by simpa using hat
   subst hc;rw[List.length_cons] at hf hg;obtain⟨g,rfl⟩:∃g',g=g'+1:=⟨g-1,by omega⟩
   cases he:ends r with
   | none=>
    rw[Mc h0 hm he,WC he];unfold nG;rw[if_neg (by simp),if_neg (by simp)]
   | some n=>
    rw[Md h0 hm he];unfold nG;rw[if_neg (by simp),if_pos rfl];simp only[List.tail_cons]
    cases hs:scalar (r.take n) with
    | none=>rw[Wz he hs]
    | some v=>
     rw[WD he hs];simp only;congr 1;have e:(38 :: r:L).drop (n+2)=r.drop (n+1):=rfl;rw[e];exact ih _ _ _ (by rw[List.length_drop];omega) (by rw[List.length_drop];omega)
  rw[Mf h0 hm (by omega)];unfold nG;have hne:l.take m≠[38]:=fun e=>lp (by rw[e];simp);rw[if_pos ⟨rfl,hne⟩];simp only;have hlt:(l.take m).length=m:=by rw[List.length_take];omega
  have e:=Ms (l.take m) (g-m) k (l.drop m) lp;rw[List.take_append_drop,hlt,show m+(g-m)=g by omega] at e;rw[e];congr 1;exact ih _ _ _ (by rw[List.length_drop];omega) (by rw[List.length_drop];omega)
end Sx
end
end Go.Proofs.YtifiiojchlaghaaGreatDoor
