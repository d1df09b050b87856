/- References: a number's scalar: the walk. And more. -/
import Derived.Test.YtpdkeckeekchlaaGreatDoorOt07
set_option linter.unusedSimpArgs false
set_option maxRecDepth 100000
set_option maxHeartbeats 16000000
set_option linter.unusedVariables false
namespace Go.Proofs.YtpdkeckeekchlaaGreatDoor
section
open Go.RowKit Tk Sx

def r5(o:Option (Option Nat)):Value:=match o with
 | none=>.tuple #[.int .i64 0,.bool false,.bool false]
 | some none=>.tuple #[.int .i64 0,.bool true,.bool false]
 | some (some v)=>.tuple #[.int .i64 ((v:Nat):Int),.bool true,.bool true]
theorem Zj(c:UInt8):nV c≤16:=by
 unfold nV;split
 ·omega
 split
 ·omega
 split<;>omega
theorem X1(v base d:Nat)(hb:1≤base):min (min v 1073741824*base+d) 1073741824=min (v*base+d) 1073741824:=by
 by_cases h:v≤1073741824
 ·rw[Nat.min_eq_left h]
 rw[Nat.min_eq_right (by omega:1073741824≤v)];have h1:1073741824≤1073741824*base:=Nat.le_mul_of_pos_right _ hb;have h2:1073741824*base≤v*base:=Nat.mul_le_mul_right _ (by omega);rw[Nat.min_eq_right (by omega),Nat.min_eq_right (by omega)]

theorem ah8(D:L)(w:World)(hD:D.length≤1000000000) :
  Calls Tryz.prog 158 #[.string (aa D)] w fun e w'=>e=.returned (r5 (number D))∧Below w.heap.size w w':=by
 have H1:=ap (fun W=>Sy D [35] W hD);have mr:(gw [35] D).1.length≤D.length:=by unfold gw;split<;>simp
 have H2:=ap (fun W=>Sy (gw [35] D).1 [120] W (by omega));have hn:=WN D;unfold vD at hn;obtain⟨x1,VA⟩:∃x,gw [35] D=x:=⟨_,rfl⟩;rw[VA] at H1 H2 hn mr;obtain⟨A,is⟩:=x1;dsimp only at H2 hn mr;have x9:(gw [120] A).1.length≤A.length:=by unfold gw;split<;>simp
 obtain⟨x2,wL⟩:∃x,gw [120] A=x:=⟨_,rfl⟩;rw[wL] at H2 hn x9;obtain⟨B,hex⟩:=x2;dsimp only at hn x9;unfold xO at H1 H2;dsimp only at H1 H2;obtain⟨z,hz⟩:∃z,number D=z:=⟨_,rfl⟩;rw[hz] at hn ⊢;obtain⟨E,hE⟩:∃E,(if hex=true then (B,16) else (A,10)).1=E:=⟨_,rfl⟩;obtain⟨base,aN⟩:∃b,(if hex=true then (B,16) else (A,10)).2=b:=⟨_,rfl⟩;rw[hE,aN] at hn;have mA:E.length≤D.length:=by rw[←hE];split<;>(dsimp only;omega)
 have hb:base=10∨base=16:=by rw[←aN];split<;>simp
 have Hn:=ap hn;have EX:(aa E).toList.isEmpty=decide (E=[]):=by rw[ByteArray.toList_eq,aZ];cases E<;>simp
 have EY:((aa E).toList==([]:L))=decide (E=[]):=by rw[ByteArray.toList_eq,aZ];cases E<;>simp
 clear hn hz VA wL x9 mr
 cases is with
 | false=>
  have Hr:=ap (show r5 z=.tuple #[.int .i64 0,.bool false,.bool false] by rw[Hn.o,if_neg (by simp)];rfl);clear Hn;cases hex
  ·clear hE aN EX EY hb mA
   go_enter Tryz.func158,Tryz.ntmps158
   go_wp2_with fail
   refine cq (H1.o _) ?_
   go_wp2_with fail
   refine cq (H2.o _) ?_
   go_wp2;go_ret3;rw[Hr.o];exact⟨rfl,Below.refl _ _⟩
  clear hE aN EX EY hb mA
  go_enter Tryz.func158,Tryz.ntmps158
  go_wp2_with fail
  refine cq (H1.o _) ?_
  go_wp2_with fail
  refine cq (H2.o _) ?_
  go_wp2;go_ret3;rw[Hr.o];exact⟨rfl,Below.refl _ _⟩
 | true=>
  by_cases h0:E=[]
  ·have Hr:=ap (show r5 z=.tuple #[.int .i64 0,.bool false,.bool false] by rw[Hn.o,if_neg (by simp[h0])];rfl);rw[decide_eq_true h0] at EX EY;clear Hn h0;cases hex
   ·obtain rfl:A=E:=hE;clear aN hb mA
    go_enter Tryz.func158,Tryz.ntmps158
    go_wp2_with fail
    refine cq (H1.o _) ?_
    go_wp2_with fail
    refine cq (H2.o _) ?_
    go_wp2;go_ret3;rw[Hr.o];exact⟨rfl,Below.refl _ _⟩
   obtain rfl:B=E:=hE;clear aN hb mA
   go_enter Tryz.func158,Tryz.ntmps158
   go_wp2_with fail
   refine cq (H1.o _) ?_
   go_wp2_with fail
   refine cq (H2.o _) ?_
   go_wp2;go_ret3;rw[Hr.o];exact⟨rfl,Below.refl _ _⟩
  rw[decide_eq_false h0] at EX EY;have Hz:=ap (show z=(gW base 0 E).map rk by rw[Hn.o,if_pos ⟨rfl,h0⟩]);obtain⟨W,g,cap,ny,bh,hg,hat⟩:=Eu (aa E) w;have qL:=ap hat;have HB:=ap bh;rw[aZ] at qL;have Pu:=ap mA;have Hs:=ap (aO E);have hsz:(aa E).size≤1000000000:=by rw[aO];omega
  clear Hn h0 hat bh mA;have Hb:=ap hb;cases hex
  ·obtain rfl:A=E:=hE;obtain rfl:10=base:=aN;clear hb
   go_enter Tryz.func158,Tryz.ntmps158
   go_wp2_with fail
   refine cq (H1.o _) ?_
   go_wp2_with fail
   refine cq (H2.o _) ?_
   go_wp2;clear ny
   go_loopg [2,33] (aa A).size (fun gk vr vi wr=>∃k v:Nat,gk=(aa A).size-k∧k≤(aa A).size∧vi=.int .i64 (k:Int)∧vr=.int .i64 ((min v 1073741824:Nat):Int)∧gW 10 0 A=gW 10 v (A.drop k)∧wr=W)
   case atStart=>exact⟨0,0,rfl,by omega,rfl,rfl,rfl,rfl⟩
   case round=>
    obtain⟨k,v,au,hk,rfl,rfl,hv,rfl⟩:=hrel;have Hg:=ap au;have Hv:=ap hv;clear au hv;obtain⟨rr,eE⟩:∃rr,min v 1073741824=rr:=⟨_,rfl⟩;have vh:=ap eE;have FE:rr≤1073741824:=by rw[←eE];exact Nat.min_le_right _ _
    rw[eE];clear eE
    by_cases hlt:k<(aa A).size
    ·obtain⟨c,hc⟩:∃c,A[k]?=some c:=⟨_,List.getElem?_eq_getElem (by rw[←Hs.o];exact hlt)⟩;have hcell:=qL.o k c hc;have iT:(0:Int)≤(k:Int):=by omega
     have HW:=ap (fun W=>Zi c W);have hdr:=xR hc;have hstep:gW 10 v (A.drop k)=if 10≤nV c then none else gW 10 (v*10+nV c) (A.drop (k+1)):=by rw[hdr];rfl
     have hwl:=Zj c;generalize nV c=d at *
     have bf:=ap hstep;clear hstep hdr hc
     by_cases hd:10≤d
     ·have gd:(10:Int)≤(d:Int):=by omega
      have Hr:=ap (show r5 z=.tuple #[.int .i64 0,.bool false,.bool false] by rw[Hz.o,Hv.o,bf.o,if_pos hd];rfl);clear hd bf
      go_wp2_with fail
      refine cq (HW.o _) ?_
      go_wp2;go_ret3;rw[Hr.o];exact⟨rfl,HB.o⟩
     have gd:¬(10:Int)≤(d:Int):=by omega
     have Ai:=ap (show gW 10 0 A=gW 10 (v*10+d) (A.drop (k+1)) by rw[Hv.o,bf.o,if_neg hd]);have jN:IntKind.i64.wrap ((rr:Int)*10)=(rr:Int)*10:=IntWalk.i64_in _ (by omega);have hw2:IntKind.i64.wrap ((rr:Int)*10+(d:Int))=(rr:Int)*10+(d:Int):=IntWalk.i64_in _ (by omega)
     have afW:min ((rr:Int)*10+(d:Int)) 1073741824=((min (v*10+d) 1073741824:Nat):Int):=by
      rw[←X1 v 10 d (by omega),vh.o];omega
     clear hd bf
     go_wp2_with fail
     refine cq (HW.o _) ?_
     go_wp2
     go_roundg ((aa A).size-(k+1))
     case measure=>have:=Hg.o;omega
     case rel=>exact⟨k+1,v*10+d,rfl,by omega,by go_num,rfl,Ai.o,rfl⟩
    have BC:gW 10 v (A.drop k)=some v:=by rw[List.drop_of_length_le (by rw[←Hs.o];omega)];rfl
    have zY:=ap BC;have nZ:=ap (fun W=>J7 (rr:Int) W);have hcs:bX (rr:Int)=bX (v:Int):=by rw[←Ez v,vh.o]
    rw[hcs] at nZ;clear hcs BC
    cases iQ:bX (v:Int) with
    | false=>
     rw[iQ] at nZ;have Hr:=ap (show r5 z=.tuple #[.int .i64 0,.bool true,.bool false] by rw[Hz.o,Hv.o,zY.o,Option.map_some];unfold rk;rw[iQ];rfl);clear iQ
     go_wp2_with fail
     refine (nZ.o _).mono ?_;rintro e w5 ⟨rfl,b5⟩;go_wp2;go_ret3;rw[Hr.o];exact⟨rfl,HB.o.trans (b5.mono HB.o.size)⟩
    | true=>
     rw[iQ] at nZ
     have Cb:rr=v:=by
      rw[←vh.o];refine Nat.min_eq_left ?_;rw[←Nat.not_lt];intro h;have:=Ez v;rw[iQ,Nat.min_eq_right (by omega)] at this
      revert this
      decide
     have Hr:=ap (show r5 z=.tuple #[.int .i64 (rr:Int),.bool true,.bool true] by rw[Hz.o,Hv.o,zY.o,Option.map_some];unfold rk;rw[iQ,Cb];rfl);clear iQ Cb
     go_wp2_with fail
     refine (nZ.o _).mono ?_;rintro e w5 ⟨rfl,b5⟩;go_wp2;go_ret3;rw[Hr.o];exact⟨rfl,HB.o.trans (b5.mono HB.o.size)⟩
  obtain rfl:B=E:=hE;obtain rfl:16=base:=aN;clear hb
  go_enter Tryz.func158,Tryz.ntmps158
  go_wp2_with fail
  refine cq (H1.o _) ?_
  go_wp2_with fail
  refine cq (H2.o _) ?_
  go_wp2;clear ny
  go_loopg [2,33] (aa B).size (fun gk vr vi wr=>∃k v:Nat,gk=(aa B).size-k∧k≤(aa B).size∧vi=.int .i64 (k:Int)∧vr=.int .i64 ((min v 1073741824:Nat):Int)∧gW 16 0 B=gW 16 v (B.drop k)∧wr=W)
  case atStart=>exact⟨0,0,rfl,by omega,rfl,rfl,rfl,rfl⟩
  case round=>
   obtain⟨k,v,au,hk,rfl,rfl,hv,rfl⟩:=hrel;have Hg:=ap au;have Hv:=ap hv;clear au hv;obtain⟨rr,eE⟩:∃rr,min v 1073741824=rr:=⟨_,rfl⟩;have vh:=ap eE;have FE:rr≤1073741824:=by rw[←eE];exact Nat.min_le_right _ _
   rw[eE];clear eE
   by_cases hlt:k<(aa B).size
   ·obtain⟨c,hc⟩:∃c,B[k]?=some c:=⟨_,List.getElem?_eq_getElem (by rw[←Hs.o];exact hlt)⟩;have hcell:=qL.o k c hc;have iT:(0:Int)≤(k:Int):=by omega
    have HW:=ap (fun W=>Zi c W);have hdr:=xR hc;have hstep:gW 16 v (B.drop k)=if 16≤nV c then none else gW 16 (v*16+nV c) (B.drop (k+1)):=by rw[hdr];rfl
    have hwl:=Zj c;generalize nV c=d at *
    have bf:=ap hstep;clear hstep hdr hc
    by_cases hd:16≤d
    ·have gd:(16:Int)≤(d:Int):=by omega
     have Hr:=ap (show r5 z=.tuple #[.int .i64 0,.bool false,.bool false] by rw[Hz.o,Hv.o,bf.o,if_pos hd];rfl);clear hd bf
     go_wp2_with fail
     refine cq (HW.o _) ?_
     go_wp2;go_ret3;rw[Hr.o];exact⟨rfl,HB.o⟩
    have gd:¬(16:Int)≤(d:Int):=by omega
    have Ai:=ap (show gW 16 0 B=gW 16 (v*16+d) (B.drop (k+1)) by rw[Hv.o,bf.o,if_neg hd]);have jN:IntKind.i64.wrap ((rr:Int)*16)=(rr:Int)*16:=IntWalk.i64_in _ (by omega);have hw2:IntKind.i64.wrap ((rr:Int)*16+(d:Int))=(rr:Int)*16+(d:Int):=IntWalk.i64_in _ (by omega)
    have afW:min ((rr:Int)*16+(d:Int)) 1073741824=((min (v*16+d) 1073741824:Nat):Int):=by
     rw[←X1 v 16 d (by omega),vh.o];omega
    clear hd bf
    go_wp2_with fail
    refine cq (HW.o _) ?_
    go_wp2
    go_roundg ((aa B).size-(k+1))
    case measure=>have:=Hg.o;omega
    case rel=>exact⟨k+1,v*16+d,rfl,by omega,by go_num,rfl,Ai.o,rfl⟩
   have BC:gW 16 v (B.drop k)=some v:=by rw[List.drop_of_length_le (by rw[←Hs.o];omega)];rfl
   have zY:=ap BC;have nZ:=ap (fun W=>J7 (rr:Int) W);have hcs:bX (rr:Int)=bX (v:Int):=by rw[←Ez v,vh.o]
   rw[hcs] at nZ;clear hcs BC
   cases iQ:bX (v:Int) with
   | false=>
    rw[iQ] at nZ;have Hr:=ap (show r5 z=.tuple #[.int .i64 0,.bool true,.bool false] by rw[Hz.o,Hv.o,zY.o,Option.map_some];unfold rk;rw[iQ];rfl);clear iQ
    go_wp2_with fail
    refine (nZ.o _).mono ?_;rintro e w5 ⟨rfl,b5⟩;go_wp2;go_ret3;rw[Hr.o];exact⟨rfl,HB.o.trans (b5.mono HB.o.size)⟩
   | true=>
    rw[iQ] at nZ
    have Cb:rr=v:=by
     rw[←vh.o];refine Nat.min_eq_left ?_;rw[←Nat.not_lt];intro h;have:=Ez v;rw[iQ,Nat.min_eq_right (by omega)] at this
     revert this
     decide
    have Hr:=ap (show r5 z=.tuple #[.int .i64 (rr:Int),.bool true,.bool true] by rw[Hz.o,Hv.o,zY.o,Option.map_some];unfold rk;rw[iQ,Cb];rfl);clear iQ Cb
    go_wp2_with fail
    refine (nZ.o _).mono ?_;rintro e w5 ⟨rfl,b5⟩;go_wp2;go_ret3;rw[Hr.o];exact⟨rfl,HB.o.trans (b5.mono HB.o.size)⟩
theorem X3(D:L)(w:World)(hD:D.length≤1000000000):Calls Tryz.prog 117 #[.string (aa D)] w fun e w'=>e=.returned (o5 (scalar D))∧Below w.heap.size w w' :=
 ale (aa D) w fun W=>ah8 D W hD
end
section
open Go.RowKit Tk Sx

end
section
open Go.RowKit Tk Sx

end
section
open Go.RowKit Tk Sx

namespace Sx
def jm(out:L):Except Nat L→Except Nat L
 | .ok l=>.ok (out++l)
 | .error a=>.error a
def dm:Nat→Nat→L→Except Nat L
 | 0,_,_=>.ok []
 | _+1,_,[]=>.ok []
 | f+1,at_,c :: r=>if c≠38 then jm [c] (dm f (at_+1) r) else match ends r with
  | none=>.error at_
  | some n=>match scalar (r.take n) with
   | none=>.error at_
   | some v=>jm (gY v) (dm f (at_+n+2) (r.drop (n+1)))
theorem aeH(a b:L)(e:Except Nat L):jm a (jm b e)=jm (a++b) e:=by cases e<;>simp[jm]
theorem NR{f at_:Nat}:dm f at_ []=.ok []:=by cases f<;>rfl
theorem Yr{f k:Nat}{c:UInt8}{r:L}(h:c≠38):dm (f+1) k (c :: r)=jm [c] (dm f (k+1) r):=by rw[dm,if_pos h]
theorem Yt{f k:Nat}{r:L}(h:ends r=none):dm (f+1) k (38 :: r)=.error k:=by rw[dm,if_neg (by simp),h]
theorem Yq{f k n:Nat}{r:L}(h:ends r=some n)(hs:scalar (r.take n)=none):dm (f+1) k (38 :: r)=.error k:=by rw[dm,if_neg (by simp),h];simp only[hs]
theorem Yu{f k n v:Nat}{r:L}(h:ends r=some n)(hs:scalar (r.take n)=some v):dm (f+1) k (38 :: r)=jm (gY v) (dm f (k+n+2) (r.drop (n+1))):=by rw[dm,if_neg (by simp),h];simp only[hs]
theorem acN{v:Int}(h:bX v=true):Utf.isScalar v=true:=by
 unfold bX Tk.within at h;simp only[Bool.or_eq_true,Bool.and_eq_true,decide_eq_true_eq] at h;simp[Utf.isScalar];omega
theorem alf{s:L}{v:Nat}(h:scalar s=some v):Utf.isScalar (v:Int)=true:=by
 unfold scalar at h
 have hn:∀{v:Nat},named s=some v→Utf.isScalar (v:Int)=true:=fun {v} h=>by
  unfold named at h
  repeat' (split at h)
  all_goals first | (cases h;done) | (simp only[Option.some.injEq] at h;subst h;decide)
 cases hm:number s with
 | none=>rw[hm] at h;exact hn h
 | some x=>
  cases x with
  | none=>rw[hm] at h;exact hn h
  | some u=>
   rw[hm] at h;simp only[Option.some.injEq] at h;subst h;refine acN ?_;rw[WN] at hm
   split at hm
   ·cases hv:gW (vD s).2 0 (vD s).1 with
    | none=>rw[hv] at hm;cases hm
    | some y=>
     rw[hv,Option.map_some] at hm;unfold rk at hm
     by_cases hc:bX (y:Int)=true
     ·rw[if_pos hc] at hm;cases hm;exact hc
     rw[if_neg hc] at hm;cases hm
   cases hm
end Sx
def iZ(z:Except Nat L):Value:=match z with
 | .ok out=>.tuple #[.string (aa out),.int .i64 (-1),.int .i64 0]
 | .error a=>.tuple #[.string ⟨#[]⟩,.int .i64 (a:Int),.int .i64 50]
end
section
open Go.RowKit Go.Shelf Tk Sx

attribute [local go_sem] Oper.semAt_some

namespace Sx
structure dv where
 at_:Nat
 ref:Bool
 text:L
def cd:Nat→Nat→L→List dv
 | 0,_,_=>[]
 | f+1,at_,l=>if l=[] then [] else
  if 0<Lib.indexByte l 38 then ⟨at_,false,l.take (Lib.indexByte l 38).toNat⟩ :: cd f (at_+(Lib.indexByte l 38).toNat) (l.drop (Lib.indexByte l 38).toNat)
  else if Lib.indexByte l 38=0 then match ends l.tail with
   | some n=>⟨at_,true,l.tail.take n⟩ :: cd f (at_+n+2) (l.drop (n+2))
   | none=>⟨at_,false,[38]⟩ :: cd f (at_+1) (l.drop 1)
  else [⟨at_,false,l⟩]
end Sx
def wU(x:dv):Array Value:=#[.agg #[.int .i64 (x.at_:Int),.bool x.ref,.string (aa x.text)]]
def PK(Bs:Nat)(W W':World):Prop:=W.heap.size≤W'.heap.size∧∀g,g<W.heap.size→(g=Bs∨bN W g 194)→W'.heap[g]?=W.heap[g]?
theorem PK.trans{Bs:Nat}{X Y Z:World}(h:PK Bs X Y)(k:PK Bs Y Z):PK Bs X Z:=⟨Nat.le_trans h.1 k.1,fun g hg hk=>by
 have e:=h.2 g hg hk;rw[←e];refine k.2 g (Nat.lt_of_lt_of_le hg h.1) ?_
 rcases hk with hk|⟨cs,fr,hk⟩
 ·exact .inl hk
 exact .inr ⟨cs,fr,e.trans hk⟩⟩
theorem CH{Bs:Nat}{W W':World}(h:Below W.heap.size W W'):PK Bs W W':=⟨h.size,fun g hg _=>h.block g hg⟩
theorem CL{f at_:Nat}:cd f at_ []=[]:=by cases f<;>simp[cd]
theorem NF{f k m:Nat}{l:L}(h0:l≠[])(h:Lib.indexByte l 38=(m:Int))(hm:0<m):cd (f+1) k l=⟨k,false,l.take m⟩ :: cd f (k+m) (l.drop m):=by
 rw[cd,if_neg h0,h,if_pos (by omega),Int.toNat_natCast]
theorem NC{f k n:Nat}{l:L}(h0:l≠[])(h:Lib.indexByte l 38=0)(he:ends l.tail=some n):cd (f+1) k l=⟨k,true,l.tail.take n⟩ :: cd f (k+n+2) (l.drop (n+2)):=by
 rw[cd,if_neg h0,h,if_neg (by omega),if_pos rfl,he]
theorem NB{f k:Nat}{l:L}(h0:l≠[])(h:Lib.indexByte l 38=0)(he:ends l.tail=none):cd (f+1) k l=⟨k,false,[38]⟩ :: cd f (k+1) (l.drop 1):=by
 rw[cd,if_neg h0,h,if_neg (by omega),if_pos rfl,he]
theorem ND{f k:Nat}{l:L}(h0:l≠[])(h:Lib.indexByte l 38<0):cd (f+1) k l=[⟨k,false,l⟩]:=by
 rw[cd,if_neg h0,if_neg (by omega),if_neg (by omega)]
theorem agH{l:L}{c:UInt8}{k:Nat}(h:Lib.indexByte l c=k):k<l.length:=by
 induction l generalizing k with
 | nil=>simp[Lib.indexByte] at h
 | cons b l ih=>
  unfold Lib.indexByte at h
  split at h
  ·have:k=0:=by omega
   subst this;simp
  (try dsimp only at h)
  split at h
  ·omega
  rename_i h1 h2
  have hg:=Lib.indexByte_ge l c
  obtain⟨j,hj⟩:∃j:Nat,Lib.indexByte l c=j:=⟨(Lib.indexByte l c).toNat,by
   have:Lib.indexByte l c≠-1:=by simpa using h2
   omega⟩
  have:=ih hj;simp only[List.length_cons];omega

theorem akJ(n:Nat)(hn:1≤n)(l Bs:Nat)(s:ByteArray)(hs:s.size≤1000000000)
  (J Jx:List dv→World→Prop) (W:World) (hJ:AbidesFrom W.heap.size J) (x9:Bs<W.heap.size)
  (hY:∀pre x W,J pre W→pre.length<s.size→x.text.length≤s.size→x∈cd s.size 0 s.data.toList→YieldAt Fence.wide (n-1) Tryz.prog l (wU x) W fun e W'=>
   (e=.returned (.bool true)∧J (pre++[x]) W'∧PK Bs W W')∨(e=.returned (.bool false)∧Jx (pre++[x]) W'))
  (mz:W.cell? ⟨Bs,0,none⟩=some (.string s)) (h0:J [] W) :
  CallsIn Fence.wide n Tryz.prog 156 #[.func (.yield l) #[] #[],.pointer (some ⟨Bs,0,none⟩)] W fun e W'=>(∃v,e=.returned v)∧
   ((∃ys:List dv,ys=cd s.size 0 s.data.toList∧J ys W')∨(∃pre:List dv,(∃rest,pre++rest=cd s.size 0 s.data.toList)∧Jx pre W')):=by
 have HJ:=ap (fun pre W1 W2 (h:J pre W1) (hb:Below W1.heap.size W1 W2)=>hJ pre W1 W2 none h (cM hb none) (fun r e=>by cases e));refine callsIn_of_wp Tryz.func156 rfl trivial ?_ rfl;simp only[Tryz.ntmps156,List.size_toArray,List.length_cons,List.length_nil,Nat.reduceAdd,Nat.reduceSub,Array.replicate_succ,Array.replicate_zero,List.push_toArray,List.append_toArray,List.nil_append,List.cons_append];obtain⟨D,hD⟩:∃D,s.data.toList=D:=⟨_,rfl⟩;have cy:=ap (show D.length=s.size by rw[←hD,bV]);have UD:∀k:Nat,s.extract k s.size=aa (D.drop k):=fun k=>by rw[ko,hD]
 have Qn:=ap UD;have uO:=ap (show ∀a b:Nat,s.extract a b=aa ((D.drop a).take (b-a)) from fun a b=>by rw[oD,hD]);rw[hD];obtain⟨all,hall⟩:∃all,cd s.size 0 D=all:=⟨_,rfl⟩;rw[hall];have mf:=ap hall;have HA:=ap (show cd s.size 0 s.data.toList=all by rw[hD,hall]);have pC:am (∀(q:L) W,Calls Tryz.prog 54 #[.string (aa q),.int .u8 38] W fun e w'=>e=.returned (.int .i64 (Lib.indexByte q 38))∧w'=W):=ap (fun (q:L) W=>Tryz.strings_IndexByte (aa q) 38 W);have Z0:=ap (fun (q:L) W (h:q.length≤1000000000)=>adR (aa q) W (by rw[aO];exact h));clear hall UD hD hJ;gi_wp2
 gi_loopw [3] (fun i wr=>∃(k f:Nat) (pre:List dv),k≤s.size∧i=.int .i64 k∧pre.length≤k∧s.size-k≤f∧pre++cd f k (D.drop k)=all∧J pre wr∧PK Bs W wr)
  (fun i _=>s.size-(intOf i).toNat)
 case atStart=>exact⟨0,s.size,[],Nat.zero_le _,rfl,Nat.le_refl _,by omega,by rw[←mf.o];rfl,h0,⟨Nat.le_refl _,fun _ _ _=>rfl⟩⟩
 case round=>
  obtain⟨k,f,pre,hk,rfl,hpl,hf,jx,jn,aX⟩:=hrel;have cL:=ap jx;have qx:=ap jn;have aQ:=ap aX;have vZ:wr.cell? ⟨Bs,0,none⟩=some (.string s):=(World.cell?_of_block (a:=⟨Bs,0,none⟩) (aX.2 Bs x9 (.inl rfl))).trans mz;have il:Bs<wr.heap.size:=Nat.lt_of_lt_of_le x9 aX.1;clear jx jn aX
  by_cases hlt:k<s.size
  ·have hne:D.drop k≠[]:=fun e=>by have:=congrArg List.length e;rw[List.length_drop,cy.o] at this;simp at this;omega
   obtain⟨f,rfl⟩:∃f',f=f'+1:=⟨f-1,by omega⟩;have aT:(D.drop k).length=s.size-k:=by rw[List.length_drop,cy.o]
   have FT:=Qn.o k;have hI:=pC.o (D.drop k);obtain⟨z,hz⟩:∃z,Lib.indexByte (D.drop k) 38=z:=⟨_,rfl⟩;rw[hz] at hI
   by_cases hz1:0<z
   ·obtain⟨m,rfl⟩:∃m:Nat,z=m:=⟨z.toNat,by omega⟩;have jt:=agH hz;have Hp:=ap (show cd (f+1) k (D.drop k)=⟨k,false,(D.drop k).take m⟩ :: cd f (k+m) (D.drop (k+m)) by rw[NF hne hz (by omega),List.drop_drop]);have mG:(aa (D.drop k)).extract 0 m=aa ((D.drop k).take m):=by rw[oD,aZ,List.drop_zero,Nat.sub_zero]
    have Ml:((D.drop k).take m).length≤s.size:=by rw[List.length_take];omega
    have hsz:(aa ((D.drop k).take m)).size=m:=by rw[aO,List.length_take];omega
    have hb:0≤(m:Int)∧(m:Int)≤((aa (D.drop k)).size:Int):=by rw[aO];omega
    have Mt:IntKind.i64.wrap ((k:Int)+(m:Int))=(k:Int)+(m:Int):=IntWalk.i64_in _ (by omega);have HN:=ap (show k+m≤s.size∧0<m by omega);have rH:(0:Int)<(m:Int):=by omega
    generalize (D.drop k).take m=tx at *
    have cA:=ap (ae.new wr 194 #[.int .i64 (k:Int),.bool false,.string (aa tx)]);have sH:=ap (CH (Bs:=Bs) (ay wr (.cells #[.int .i64 (k:Int),.bool false,.string (aa tx)] 194)));have vM:=HJ.o pre wr _ qx.o (ay wr (.cells #[.int .i64 (k:Int),.bool false,.string (aa tx)] 194));obtain⟨fn,tmps,assign,body,hy,hR⟩:=hY pre ⟨k,false,tx⟩ _ vM (by omega) Ml (by rw[HA.o,←cL.o,Hp.o];simp);unfold wU at hy;dsimp only at hy;clear hz aT hne hz1 jt
    gi_wp2_with (refine⟨trivial,?_⟩;gi_at_call 54;refine (callsIn_wide.2 (hI _)).mono ?_;rintro e w2 ⟨rfl,hw2⟩;subst w2)
    refine hR.mono ?_;rintro e W3 (⟨rfl,bY,aI⟩|⟨rfl,im⟩)
    ·have eT:=aI.2 wr.heap.size cA.o.lt (.inr cA.o.fh);have t0:=(World.cell?_of_block (a:=⟨wr.heap.size,0,none⟩) eT).trans (cA.o.cell 0);have t1:=(World.cell?_of_block (a:=⟨wr.heap.size,1,none⟩) eT).trans (cA.o.cell 1);have t2:=(World.cell?_of_block (a:=⟨wr.heap.size,2,none⟩) eT).trans (cA.o.cell 2);have br:=ap aI;have gZ:=ap bY;clear eT aI bY;gi_wp2
     go_roundw
     case rel=>exact⟨k+m,f,pre++[⟨k,false,tx⟩],HN.o.1,int_eq (by have:=HN.o.2;omega),by simp;have:=HN.o.2;omega,by have:=HN.o;omega,by rw[←cL.o,Hp.o];simp,gZ.o,aQ.o.trans (sH.o.trans br.o)⟩
     case measure=>have:=HN.o;simp[intOf];omega
    gi_wp2;refine bodyPost_ret (results_none rfl _ _ _) rfl ?_;exact⟨⟨_,rfl⟩,.inr ⟨_,⟨_,by rw[←cL.o,Hp.o,List.append_assoc];rfl⟩,im⟩⟩
   by_cases hz0:z=0
   ·subst hz0;have bZ:k+1≤s.size:=by omega
    have jy:(D.drop k).tail=D.drop (k+1):=by rw[List.tail_drop]
    have apF:=Qn.o (k+1);have jN:IntKind.i64.wrap ((k:Int)+1)=(k:Int)+1:=IntWalk.i64_in _ (by omega);have ak:0≤(k:Int)+1∧(k:Int)+1≤(s.size:Int)∧(s.size:Int)≤(s.size:Int):=by omega
    have tn1:((k:Int)+1).toNat=k+1:=by omega
    have hE:=Z0.o (D.drop (k+1)) (wr.alloc (.cells #[.int .i64 (k:Int),.bool false,.string (aa [38])] 194)) (by rw[List.length_drop,cy.o];omega);rw[aZ] at hE;unfold lr at hE;rw[List.drop_zero] at hE;have cA:=ap (ae.new wr 194 #[.int .i64 (k:Int),.bool false,.string (aa [38])]);have ax:=ap (ay wr (.cells #[.int .i64 (k:Int),.bool false,.string (aa [38])] 194));have RE:aa [38]=⟨#[38]⟩:=rfl
    cases he:ends (D.drop (k+1)) with
    | none=>
     rw[he] at hE;dsimp only at hE;have uN:=ap hE;have Hp:=ap (show cd (f+1) k (D.drop k)=⟨k,false,[38]⟩ :: cd f (k+1) (D.drop (k+1)) by rw[NB hne hz (by rw[jy];exact he),List.drop_drop]);have HN:=ap (show k+1≤s.size∧0<1 by omega);have hsz:(aa [38]).size=1:=rfl;rw[RE] at *
     clear hz aT hne hz1 he hE jy
     gi_wp2_with (first | (refine⟨trivial,?_⟩;gi_at_call 54;refine (callsIn_wide.2 (hI _)).mono ?_;rintro e w2 ⟨rfl,hw2⟩;subst w2) | fail)
     refine⟨trivial,?_⟩
     gi_at_call 157
     refine (callsIn_wide.2 uN.o).mono ?_;rintro e w3 ⟨rfl,b3⟩;have cB:=ap (ae.go cA.o b3);have aw:=ap (ax.o.trans (b3.mono ax.o.size));have xy:=ap (CH (Bs:=Bs) aw.o);have vM:=HJ.o pre wr _ qx.o aw.o;have y0:=ae.cell cB.o 0;have y1:=ae.cell cB.o 1;have y2:=ae.cell cB.o 2;obtain⟨fn,tmps,assign,body,hy,hR⟩:=hY pre ⟨k,false,[38]⟩ _ vM (by omega) (by show 1≤s.size;omega) (by rw[HA.o,←cL.o,Hp.o];simp);unfold wU at hy;dsimp only at hy;clear b3 cA ax;have FI:(aa [38]).size=1:=rfl;gi_wp2;refine hR.mono ?_;rintro e W3 (⟨rfl,bY,aI⟩|⟨rfl,im⟩)
     ·have eT:=aI.2 wr.heap.size cB.o.lt (.inr cB.o.fh);have t0:=(World.cell?_of_block (a:=⟨wr.heap.size,0,none⟩) eT).trans (cB.o.cell 0);have t1:=(World.cell?_of_block (a:=⟨wr.heap.size,1,none⟩) eT).trans (cB.o.cell 1);have t2:=(World.cell?_of_block (a:=⟨wr.heap.size,2,none⟩) eT).trans (cB.o.cell 2);have br:=ap aI;have gZ:=ap bY;clear eT aI bY;gi_wp2
      go_roundw
      case rel=>exact⟨k+1,f,pre++[⟨k,false,[38]⟩],HN.o.1,int_eq (by have:=HN.o.2;omega),by simp;have:=HN.o.2;omega,by have:=HN.o;omega,by rw[←cL.o,Hp.o];simp,gZ.o,aQ.o.trans (xy.o.trans br.o)⟩
      case measure=>have:=HN.o;simp[intOf];omega
     gi_wp2;refine bodyPost_ret (results_none rfl _ _ _) rfl ?_;exact⟨⟨_,rfl⟩,.inr ⟨_,⟨_,by rw[←cL.o,Hp.o,List.append_assoc];rfl⟩,im⟩⟩
    | some n0=>
     rw[he] at hE;dsimp only at hE;rw[Nat.zero_add] at hE;have uN:=ap hE;have ju:=Kk he;rw[List.length_drop,cy.o] at ju;have Hp:=ap (show cd (f+1) k (D.drop k)=⟨k,true,(D.drop (k+1)).take n0⟩ :: cd f (k+n0+2) (D.drop (k+n0+2)) by rw[NC hne hz (by rw[jy];exact he),List.drop_drop,jy,show k+(n0+2)=k+n0+2 by omega]);have hxt:s.extract (k+1) (k+1+n0)=aa ((D.drop (k+1)).take n0):=by rw[uO.o,Nat.add_sub_cancel_left]
     have Ml:((D.drop (k+1)).take n0).length≤s.size:=by rw[List.length_take];omega
     have hsz:(aa ((D.drop (k+1)).take n0)).size=n0:=by rw[aO,List.length_take,List.length_drop,cy.o];omega
     generalize (D.drop (k+1)).take n0=tx at *
     obtain⟨q,hq⟩:∃q,k+1+n0=q:=⟨_,rfl⟩;rw[hq] at hxt;have HN:=ap (show k+n0+2≤s.size∧0<n0+2 by omega);have hgn:(0:Int)≤(n0:Int):=by omega
     have hw2:IntKind.i64.wrap ((k:Int)+1+(n0:Int))=(q:Int):=by rw[IntWalk.i64_in _ (by omega)];omega
     have af:0≤(k:Int)+1∧(k:Int)+1≤(q:Int)∧(q:Int)≤(s.size:Int):=by omega
     have hw3:IntKind.i64.wrap ((k:Int)+(n0:Int))=(k:Int)+(n0:Int):=IntWalk.i64_in _ (by omega);have hw4:IntKind.i64.wrap ((k:Int)+(n0:Int)+2)=(k:Int)+(n0:Int)+2:=IntWalk.i64_in _ (by omega);rw[RE] at *
     clear hz aT hne hz1 he hE jy ju hq
     gi_wp2_with (first | (refine⟨trivial,?_⟩;gi_at_call 54;refine (callsIn_wide.2 (hI _)).mono ?_;rintro e w2 ⟨rfl,hw2⟩;subst w2) | fail)
     refine⟨trivial,?_⟩
     gi_at_call 157
     refine (callsIn_wide.2 uN.o).mono ?_;rintro e w3 ⟨rfl,b3⟩;have cB:=ap (ae.go cA.o b3);have aw:=ap (ax.o.trans (b3.mono ax.o.size));have Bp:w3.cell? ⟨Bs,0,none⟩=some (.string s):=(aw.o.cell (p:=⟨Bs,0,none⟩) il).trans vZ;have y0:=ae.cell cB.o 0;have y1:=ae.cell cB.o 1;have y2:=ae.cell cB.o 2;have fz:=fun i=>ae.frozen cB.o i;have api:wr.heap.size≠Bs:=by omega
     clear b3 cA ax;gi_wp2
     gi_region
     have iK:=ap (show ae (((w3.setCell ⟨wr.heap.size,1,none⟩ (.bool true)).setCell ⟨wr.heap.size,2,none⟩ (.string (aa tx))).drew) wr.heap.size 194 #[.int .i64 (k:Int),.bool true,.string (aa tx)] from by
      have:=ae.drew (ae.aH (ae.aH cB.o 1 (.bool true)) 2 (.string (aa tx)))
      simpa using this)
     have bW:=ap (((aw.o.setCell (p:=⟨wr.heap.size,1,none⟩) (Nat.le_refl _) (.bool true)).setCell (p:=⟨wr.heap.size,2,none⟩) (Nat.le_refl _) (.string (aa tx))).drew);clear cB aw y0 y1 y2 fz Bp;generalize ((w3.setCell ⟨wr.heap.size,1,none⟩ (.bool true)).setCell ⟨wr.heap.size,2,none⟩ (.string (aa tx))).drew=W4 at *
     have Dw:=ap (CH (Bs:=Bs) bW.o);have vM:=HJ.o pre wr _ qx.o bW.o;have y0:=ae.cell iK.o 0;have y1:=ae.cell iK.o 1;have y2:=ae.cell iK.o 2;obtain⟨fn,tmps,assign,body,hy,hR⟩:=hY pre ⟨k,true,tx⟩ _ vM (by omega) Ml (by rw[HA.o,←cL.o,Hp.o];simp);unfold wU at hy;dsimp only at hy;gi_wp2;refine hR.mono ?_;rintro e W3 (⟨rfl,bY,aI⟩|⟨rfl,im⟩)
     ·have eT:=aI.2 wr.heap.size iK.o.lt (.inr iK.o.fh);have t0:=(World.cell?_of_block (a:=⟨wr.heap.size,0,none⟩) eT).trans (iK.o.cell 0);have t1:=(World.cell?_of_block (a:=⟨wr.heap.size,1,none⟩) eT).trans (iK.o.cell 1);have t2:=(World.cell?_of_block (a:=⟨wr.heap.size,2,none⟩) eT).trans (iK.o.cell 2);have br:=ap aI;have gZ:=ap bY;clear eT aI bY;gi_wp2
      go_roundw
      case rel=>exact⟨k+n0+2,f,pre++[⟨k,true,tx⟩],HN.o.1,int_eq (by have:=HN.o.2;omega),by simp;have:=HN.o.2;omega,by have:=HN.o;omega,by rw[←cL.o,Hp.o];simp,gZ.o,aQ.o.trans (Dw.o.trans br.o)⟩
      case measure=>have:=HN.o;simp[intOf];omega
     gi_wp2;refine bodyPost_ret (results_none rfl _ _ _) rfl ?_;exact⟨⟨_,rfl⟩,.inr ⟨_,⟨_,by rw[←cL.o,Hp.o,List.append_assoc];rfl⟩,im⟩⟩
   have hz2:z<0:=by have:=Lib.indexByte_ge (D.drop k) 38;omega
   have FU:z = -1:=by have:=Lib.indexByte_ge (D.drop k) 38;omega
   subst FU;have Hp:=ap (show cd (f+1) k (D.drop k)=[⟨k,false,D.drop k⟩] by rw[ND hne (by omega)]);have hsz:(aa (D.drop k)).size=s.size-k:=by rw[aO,aT]
   have Mt:IntKind.i64.wrap ((k:Int)+((s.size-k:Nat):Int))=(k:Int)+((s.size-k:Nat):Int):=IntWalk.i64_in _ (by omega);have HN:=ap (show s.size≤s.size∧k<s.size by omega);have hnil:D.drop s.size=[]:=List.drop_of_length_le (by rw[cy.o];exact Nat.le_refl _);have abb:=ap hnil;have cA:=ap (ae.new wr 194 #[.int .i64 (k:Int),.bool false,.string (aa (D.drop k))]);have sH:=ap (CH (Bs:=Bs) (ay wr (.cells #[.int .i64 (k:Int),.bool false,.string (aa (D.drop k))] 194)));have vM:=HJ.o pre wr _ qx.o (ay wr (.cells #[.int .i64 (k:Int),.bool false,.string (aa (D.drop k))] 194));obtain⟨fn,tmps,assign,body,hy,hR⟩:=hY pre ⟨k,false,D.drop k⟩ _ vM (by omega) (by show (D.drop k).length≤s.size;omega) (by rw[HA.o,←cL.o,Hp.o];simp);unfold wU at hy;dsimp only at hy;generalize hL:s.size-k=L0 at *
   have HL:=ap hL;clear hz aT hne hz1 hz0 hz2 hnil hL
   gi_wp2_with (refine⟨trivial,?_⟩;gi_at_call 54;refine (callsIn_wide.2 (hI _)).mono ?_;rintro e w2 ⟨rfl,hw2⟩;subst w2)
   refine hR.mono ?_;rintro e W3 (⟨rfl,bY,aI⟩|⟨rfl,im⟩)
   ·have eT:=aI.2 wr.heap.size cA.o.lt (.inr cA.o.fh);have t0:=(World.cell?_of_block (a:=⟨wr.heap.size,0,none⟩) eT).trans (cA.o.cell 0);have t1:=(World.cell?_of_block (a:=⟨wr.heap.size,1,none⟩) eT).trans (cA.o.cell 1);have t2:=(World.cell?_of_block (a:=⟨wr.heap.size,2,none⟩) eT).trans (cA.o.cell 2);have br:=ap aI;have gZ:=ap bY;clear eT aI bY;gi_wp2
    go_roundw
    case rel=>exact⟨s.size,f,pre++[⟨k,false,D.drop k⟩],HN.o.1,int_eq (by have:=HL.o;have:=HN.o.2;omega),by simp;have:=HN.o.2;omega,by have:=HN.o;omega,by rw[←cL.o,Hp.o];rw[abb.o,CL,List.append_nil],gZ.o,aQ.o.trans (sH.o.trans br.o)⟩
    case measure=>have:=HL.o;have:=HN.o;simp[intOf];omega
   gi_wp2;refine bodyPost_ret (results_none rfl _ _ _) rfl ?_;exact⟨⟨_,rfl⟩,.inr ⟨_,⟨_,by rw[←cL.o,Hp.o,List.append_assoc];rfl⟩,im⟩⟩
  gi_wp2;go_end0;exact⟨⟨_,rfl⟩,.inl ⟨pre,by rw[←cL.o,List.drop_of_length_le (by rw[cy.o];omega),CL,List.append_nil],qx.o⟩⟩

theorem akK(s:ByteArray)(w:World) :
  Calls Tryz.prog 116 #[.string s] w fun e w'=>e=.returned (.func (.func 156) #[] #[.pointer (some ⟨w.heap.size,0,none⟩)])∧w'=w.alloc (.cells #[.string s] 9):=by
 go_enter Tryz.func116,Tryz.ntmps116
 go_wp2;go_ret;exact⟨rfl,rfl⟩
def dR(x:dv):dv:=⟨x.at_,x.ref,x.text.take 100000⟩
theorem Sw{x:dv}(h:x.text.length≤100000):dR x=x:=by unfold dR;rw[List.take_of_length_le h]
theorem akL(n:Nat)(hn:1≤n)(Bs:Nat)(s:ByteArray)(hs:s.size≤100000)(w:World)(mz:Bs<w.heap.size)(hc:w.cell? ⟨Bs,0,none⟩=some (.string s)) :
  SeqStopsK Fence.wide n Tryz.prog 156 #[.pointer (some ⟨Bs,0,none⟩)] (fun x=>wU (dR x)) (PK Bs) (fun ys=>ys=cd s.size 0 s.data.toList)
   (fun pre=>∃rest,pre++rest=cd s.size 0 s.data.toList) s.size w:=fun l J Jx W hW hJ _ hY h0=>
 akJ n hn l Bs s (by omega) J Jx W hJ (Nat.lt_of_lt_of_le mz hW.size) (fun pre x W1 h1 h2 h3 _=>by have:=hY pre x W1 h1 h2;dsimp only at this;rwa[Sw (Nat.le_trans h3 hs)] at this) ((hW.cell (p:=⟨Bs,0,none⟩) mz).trans hc) h0
theorem ajh{w:World}{B:Nat}(hB:B<w.heap.size)(W:World)(l:Nat)(o o':Obj)(hl:w.heap.size≤l)(ho:W.heap[l]?=some o)(hc:o.isCells=false)(_:o.isWalk=false):PK B W (W.putObj l o'):=by
 refine⟨by simp[World.putObj],fun g hg hk=>?_⟩
 have dC:g≠l:=by
  rcases hk with rfl|⟨cs,fr,hk⟩
  ·omega
  rintro rfl;rw[hk] at ho;cases ho;cases hc
 show (W.heap.setIfInBounds l o')[g]?=W.heap[g]?;exact Array.getElem?_setIfInBounds_ne (Ne.symm dC)
end
section
open Go Tk Sx
namespace Sx
def nT:List dv→Except Nat L
 | []=>.ok []
 | x :: r=>if x.ref=false∧x.text≠[38] then jm x.text (nT r) else if x.ref then match scalar x.text with
   | some v=>jm (gY v) (nT r)
   | none=>.error x.at_
  else .error x.at_
theorem aeI(e:Except Nat L):jm [] e=e:=by cases e<;>simp[jm]
theorem NS:∀(a:L) (f k:Nat) (r:L),(38:UInt8)∉a→dm (a.length+f) k (a++r)=jm a (dm f (k+a.length) r)
 | [],f,k,r,_=>by simp[aeI]
 | c :: a,f,k,r,h=>by
  have hc:c≠38:=fun e=>h (by rw[e];simp);have ha:(38:UInt8)∉a:=fun e=>h (List.mem_cons_of_mem _ e);rw[List.length_cons,show a.length+1+f=(a.length+f)+1 by omega,List.cons_append,Yr hc,NS a f (k+1) r ha,aeH,show k+1+a.length=k+(a.length+1) by omega];rfl
theorem VM:∀{l:L} {c:UInt8},Lib.indexByte l c<0→c∉l
 | [],c,_=>by simp
 | b :: l,c,h=>by
  unfold Lib.indexByte at h
  split at h
  ·omega
  rename_i hb
  (try dsimp only at h)
  split at h
  ·rename_i h2
   have:Lib.indexByte l c = -1:=by simpa using h2
   have ih:=VM (l:=l) (c:=c) (by omega);intro hm
   rcases List.mem_cons.1 hm with e|e
   ·rw[e] at hb;simp at hb
   exact ih e
  rename_i h2
  have hg:=Lib.indexByte_ge l c;have:Lib.indexByte l c≠-1:=by simpa using h2
  omega
theorem ME:∀{l:L} {c:UInt8} {m:Nat},Lib.indexByte l c=m→c∉l.take m∧l[m]?=some c
 | [],c,m,h=>by simp[Lib.indexByte] at h
 | b :: l,c,m,h=>by
  unfold Lib.indexByte at h
  split at h
  ·rename_i hb
   have:m=0:=by omega
   subst this;have hb':b=c:=by simpa using hb
   simp[hb']
  rename_i hb
  (try dsimp only at h)
  split at h
  ·omega
  rename_i h2
  have hg:=Lib.indexByte_ge l c;have h3:Lib.indexByte l c≠-1:=by simpa using h2
  obtain⟨j,hj⟩:∃j:Nat,Lib.indexByte l c=j:=⟨(Lib.indexByte l c).toNat,by omega⟩;obtain⟨h4,h5⟩:=ME hj;have:m=j+1:=by omega
  subst this;refine⟨?_,by simpa using h5⟩;rw[List.take_succ_cons];intro hm
  rcases List.mem_cons.1 hm with e|e
  ·rw[e] at hb;simp at hb
  exact h4 e
theorem Yw:∀(f:Nat) (k:Nat) (l:L) (g:Nat),l.length≤f→l.length≤g→nT (cd f k l)=dm g k l:=by
 intro f
 induction f with
 | zero=>
  intro k l g hf _;have:l=[]:=List.length_eq_zero_iff.1 (by omega);subst this;rw[CL,NR];rfl
 | succ f ih=>
  intro k l g hf hg
  by_cases h0:l=[]
  ·subst h0;rw[CL,NR];rfl
  have hlp:=List.length_pos_iff.2 h0;have tN:=Lib.indexByte_ge l 38
  by_cases hn:Lib.indexByte l 38<0
  ·rw[ND h0 hn];have lB:=VM hn;have e:=NS l (g-l.length) k [] lB;rw[List.append_nil,show l.length+(g-l.length)=g by omega,NR] at e;rw[e];unfold nT;rw[if_pos ⟨rfl,fun e=>lB (by have e2:l=[38]:=e;rw[e2];simp)⟩];rfl
  obtain⟨m,hm⟩:∃m:Nat,Lib.indexByte l 38=m:=⟨(Lib.indexByte l 38).toNat,by omega⟩;obtain⟨lB,hat⟩:=ME hm;have jt:=(List.getElem?_eq_some_iff.1 hat).1
  by_cases rH:m=0
  ·subst rH;obtain⟨c,r,rfl⟩:∃c r,l=c :: r:=⟨_,_,(List.cons_head_tail h0).symm⟩;have hc:c=38:=by simpa using hat
   subst hc;rw[List.length_cons] at hf hg;obtain⟨g,rfl⟩:∃g',g=g'+1:=⟨g-1,by omega⟩
   cases he:ends r with
   | none=>
    rw[NB h0 hm he,Yt he];unfold nT;rw[if_neg (by simp),if_neg (by simp)]
   | some n=>
    rw[NC h0 hm he];unfold nT;rw[if_neg (by simp),if_pos rfl];simp only[List.tail_cons]
    cases hs:scalar (r.take n) with
    | none=>rw[Yq he hs]
    | some v=>
     rw[Yu he hs];simp only;congr 1;have e:(38 :: r:L).drop (n+2)=r.drop (n+1):=rfl;rw[e];exact ih _ _ _ (by rw[List.length_drop];omega) (by rw[List.length_drop];omega)
  rw[NF h0 hm (by omega)];unfold nT;have hne:l.take m≠[38]:=fun e=>lB (by rw[e];simp);rw[if_pos ⟨rfl,hne⟩];simp only;have hlt:(l.take m).length=m:=by rw[List.length_take];omega
  have e:=NS (l.take m) (g-m) k (l.drop m) lB;rw[List.take_append_drop,hlt,show m+(g-m)=g by omega] at e;rw[e];congr 1;exact ih _ _ _ (by rw[List.length_drop];omega) (by rw[List.length_drop];omega)
end Sx
end
end Go.Proofs.YtpdkeckeekchlaaGreatDoor
