/- Tokens: white space. And more. -/
import Derived.Test.YtpdkeckeekchlaaGreatDoorOt00
import Derived.Deep.RegionHeld3
import Derived.Deep.LoopGhost
set_option linter.unusedSimpArgs false
set_option maxHeartbeats 4000000
set_option linter.unusedVariables false
namespace Go.Proofs.YtpdkeckeekchlaaGreatDoor
section
open Go.RowKit Tk

theorem alK:∀n:Fin 64,(bits BinOp.and IntKind.u64 (4294977024 / 2 ^ n.val) 1==1)=sp (UInt8.ofNat n.val):=by decide +kernel
theorem alL{c:UInt8}(h:¬c.toNat<64):sp c=false:=by
 unfold sp
 have e:∀k:UInt8,k.toNat<64→(c==k)=false:=fun k hk=>by
  rw[beq_eq_false_iff_ne];intro e;rw[e] at h;exact h hk
 rw[e 32 (by decide),e 9 (by decide),e 10 (by decide),e 13 (by decide)];rfl
theorem Yn(c:UInt8)(w:World):Calls Tryz.prog 149 #[.int .u8 (c.toNat:Nat)] w fun e w'=>e=.returned (.bool (sp c))∧w'=w:=by
 by_cases h:c.toNat<64
 ·have hb:=alK ⟨c.toNat,h⟩;rw[show UInt8.ofNat c.toNat=c from UInt8.ofNat_toNat] at hb;dsimp only at hb;have HB:=ap hb;clear hb
  go_enter Tryz.func149,Tryz.ntmps149
  go_wp2;go_ret;exact⟨aC (aR HB.o),rfl⟩
 have hs:=ap (alL h)
 go_enter Tryz.func149,Tryz.ntmps149
 go_wp2;go_ret;exact⟨aC (aR hs.o.symm),rfl⟩
end
section
open Go

section
variable {P:Program} {l:List Oper} {Q:Exit→Act→World→Prop} {md:Region.Mode} {S:World→Prop}
theorem GP{a:Act}{d:Option Tmp}{k:Tmp}{v:Value}(hd:d=some k):a.put d v={ tmps:=a.tmps.setIfInBounds k v,defers:=a.defers }:=by subst hd;rfl
theorem UC{i d:Nat}{oi:Oper}{v:Value}{fuel:Nat}{listed:Array Bool}{a:Act}{w:World}(hi:l[i]?=some oi)(hd:oi.dst=some d)
  (hs:Region.noSelect l.toArray=true) (hf:Region.free md l.toArray listed i=true) (hr:(Region.ready md l.toArray listed).contains i=true)
  (hQ:∀c a w,Q (.panic c) (a.put oi.dst v) w→Q (.panic c) a w) (hw:Region.wanted oi (yielded l.toArray a.tmps)=true) (hS:S w) (hy:∀w,S w→(execOp a.eval oi).run P w=.ok (.value v) w)
  (h:wpAnyH P md l.toArray Q S fuel (listed.setIfInBounds i true) { tmps:=a.tmps.setIfInBounds d v,defers:=a.defers } w):wpAnyH P md l.toArray Q S (fuel+1) listed a w :=
 wpAnyH_take (by simpa using hi) hs hf hr hQ (Or.inl ⟨hw,hy⟩) hS (by rw[GP hd];exact h)
theorem afr{i d:Nat}{oi:Oper}{fuel:Nat}{listed:Array Bool}{a:Act}{w:World}(hi:l[i]?=some oi)(hd:oi.dst=some d)
  (hs:Region.noSelect l.toArray=true) (hf:Region.free md l.toArray listed i=true) (hr:(Region.ready md l.toArray listed).contains i=true)
  (hQ:∀c a w,Q (.panic c) (a.put oi.dst undef) w→Q (.panic c) a w) (hw:Region.wanted oi (yielded l.toArray a.tmps)=false) (hS:S w)
  (h:wpAnyH P md l.toArray Q S fuel (listed.setIfInBounds i true) { tmps:=a.tmps.setIfInBounds d undef,defers:=a.defers } w):wpAnyH P md l.toArray Q S (fuel+1) listed a w :=
 wpAnyH_take (by simpa using hi) hs hf hr hQ (Or.inr ⟨hw,rfl⟩) hS (by rw[GP hd];exact h)
theorem fU{i:Nat}{oi:Oper}{fuel:Nat}{listed:Array Bool}{a:Act}{w:World}(hi:l[i]?=some oi)(hr:Region.ready md l.toArray listed=[i])(hw:Region.wanted oi (yielded l.toArray a.tmps)=true)
  (h:∀K':Act→World→Prop,Shut (∀a w,S w→(S w→wpAnyH P md l.toArray Q S fuel (listed.setIfInBounds i true) a w)→K' a w)→Oper.wp P oi a w K' Q):wpAnyH P md l.toArray Q S (fuel+1) listed a w :=
 wpAnyH_ready hr (by simp) (AllReadyH.cons (o:=oi) (by simpa using hi) (fun K hK=>by rw[if_pos hw];exact h K hK) AllReadyH.nil)
def nx:List Bool→Nat
 | true :: r=>nx r+1
 | _=>0
theorem aJ{d:Nat}{oi:Oper}{v:Value}{fuel:Nat}{ls:List Bool}{tm:List Value}{df:List Deferred}{w:World}(hi:l[nx ls]?=some oi)(hd:oi.dst=some d)(hS:S w)
  (hy:∀w,S w→(execOp (Act.eval ⟨tm.toArray,df⟩) oi).run P w=.ok (.value v) w) (h:wpAnyH P md l.toArray Q S fuel (ls.set (nx ls) true).toArray { tmps:=(tm.set d v).toArray,defers:=df } w)
  (hs:Region.noSelect l.toArray=true:=by kernel_rfl) (hf:Region.free md l.toArray ls.toArray (nx ls)=true:=by kernel_rfl) (hr:(Region.ready md l.toArray ls.toArray).contains (nx ls)=true:=by kernel_rfl)
  (hw:Region.wanted oi (yielded l.toArray tm.toArray)=true:=by kernel_rfl) (hQ:∀c a w,Q (.panic c) (a.put oi.dst v) w→Q (.panic c) a w:=by exact fun _ _ _ h=>h):wpAnyH P md l.toArray Q S (fuel+1) ls.toArray ⟨tm.toArray,df⟩ w :=
 UC hi hd hs hf hr hQ hw hS hy (by simpa using h)
theorem mM{d:Nat}{oi:Oper}{fuel:Nat}{ls:List Bool}{tm:List Value}{df:List Deferred}{w:World}(hi:l[nx ls]?=some oi)(hd:oi.dst=some d)(hS:S w)
  (h:wpAnyH P md l.toArray Q S fuel (ls.set (nx ls) true).toArray { tmps:=(tm.set d undef).toArray,defers:=df } w)
  (hs:Region.noSelect l.toArray=true:=by kernel_rfl) (hf:Region.free md l.toArray ls.toArray (nx ls)=true:=by kernel_rfl) (hr:(Region.ready md l.toArray ls.toArray).contains (nx ls)=true:=by kernel_rfl)
  (hw:Region.wanted oi (yielded l.toArray tm.toArray)=false:=by kernel_rfl) (hQ:∀c a w,Q (.panic c) (a.put oi.dst undef) w→Q (.panic c) a w:=by exact fun _ _ _ h=>h):wpAnyH P md l.toArray Q S (fuel+1) ls.toArray ⟨tm.toArray,df⟩ w :=
 afr hi hd hs hf hr hQ hw hS (by simpa using h)
end
end
section
open Go.RowKit

def CF(f:Int×Int):Value:=.tuple #[.int .i64 f.1,.int .i64 f.2]
theorem CG{a b:Int}{f:Int×Int}(h:(a,b)=f):Ending.returned (.tuple #[.int .i64 a,.int .i64 b])=.returned (CF f):=by
 rw[←h];rfl

theorem drop_at(s:ByteArray)(k:Nat)(h:k<s.size):s.data.toList.drop k=s[k] :: s.data.toList.drop (k+1):=by
 rw[List.drop_eq_getElem_cons (by simpa using h)];rfl

theorem EB{s:ByteArray}{a j k:Nat}{r n lo hi:Int}(h:s.size≤a+j):Utf.cont (s.data.toList.drop (a+j)) (k+1) r n lo hi=(-1,n):=by
 rw[List.drop_of_length_le (by simpa using h)];rfl
theorem s9{s:ByteArray}{a j k:Nat}{r n lo hi:Int}(h:a+j<s.size)(hc:(s[a+j].toNat:Int)<lo∨hi<(s[a+j].toNat:Int)):Utf.cont (s.data.toList.drop (a+j)) (k+1) r n lo hi=(-1,n):=by
 rw[drop_at s _ h];simp only[Utf.cont];rw[if_pos hc]
theorem EC{s:ByteArray}{a j k:Nat}{r n lo hi:Int}(h:a+j<s.size)(h1:lo≤(s[a+j].toNat:Int))(h2:(s[a+j].toNat:Int)≤hi) :
  Utf.cont (s.data.toList.drop (a+j)) (k+1) r n lo hi=Utf.cont (s.data.toList.drop (a+j+1)) k (r*64+(s[a+j].toNat:Int) % 64) (n+1) 128 191:=by
 rw[drop_at s _ h];simp only[Utf.cont];rw[if_neg (by omega)]

theorem Xo(s:ByteArray)(at_:Int)(w:World)(h0:0≤at_)(h1:at_<s.size)(hs:s.size≤1000000000) :
  Calls Tryz.prog 143 #[.string s,.int .i64 at_] w fun e w'=>e=.returned (CF (Utf.piece (s.data.toList.drop at_.toNat)))∧w=w':=by
 obtain⟨a,rfl⟩:=Int.eq_ofNat_of_zero_le h0;rw[Int.toNat_natCast];have ha:a<s.size:=by omega
 rw[drop_at s a ha,Utf.zg];obtain⟨c,hc⟩:∃c:Int,((s[a].toNat:Nat):Int)=c:=⟨_,rfl⟩;have hc0:0≤c:=by omega
 have cR:c≤255:=by have:=Utf.jF s[a];omega
 rw[hc];have hf:=Utf.AQ c (by omega) (by omega);have Hc:=ap hc;clear hc;obtain⟨m,r,lo,hi,hq⟩:∃m r lo hi,Utf.follow c=(m,r,lo,hi):=⟨_,_,_,_,rfl⟩;rw[hq] at hf ⊢;dsimp only at hf ⊢;have rH : -1≤m:=by omega
 have yv:m≤3:=by omega
 have qc:0≤r:=by omega
 have dH:r≤127:=by omega
 have Hq:=ap hq;clear hf hq;obtain⟨res,dD⟩:∃res,(if m<0 then (-1,1) else Utf.cont (s.data.toList.drop (a+1)) m.toNat r 1 lo hi)=res:=⟨_,rfl⟩;rw[dD];have qV:=ap dD;clear dD
 go_enter Tryz.func143,Tryz.ntmps143
 go_wp2
 go_step3
 go_wp2_with (go_at_call 193;rw[Hc.o];refine (aew _ _ hc0 cR).mono ?_;rintro e w' ⟨rfl,rfl⟩;rw[Hq.o];unfold KB;dsimp only)
 ·rw[Exit.noGoto_ret];go_ret2;exact⟨CG (by rw[←qV.o,if_pos (by assumption)]),rfl⟩
 have hm:0≤m:=by assumption
 obtain⟨k,rfl⟩:=Int.eq_ofNat_of_zero_le hm
 go_step3
 go_wp2
 go_loopg [4,5,7,8] (k+1) (fun g vr vn sr sq wr=>∃(j:Nat) (r' dM hi':Int),g=k+1-j∧j≤k∧vr=.int .i64 r'∧vn=.int .i64 ((j:Int)+1)∧sr=.int .u8 dM∧sq=.int .u8 hi'∧
  Utf.cont (s.data.toList.drop (a+(j+1))) (k-j) r' ((j:Int)+1) dM hi'=res∧0≤r'∧(r'≤127∧j=0∨r'≤8191∧j=1∨r'≤524287∧j=2∨r'≤33554431∧j=3)∧wr=w)
 case atStart=>exact⟨0,r,lo,hi,rfl,by omega,rfl,rfl,rfl,rfl,by rw[←qV.o,if_neg (by omega)];rfl,qc,.inl ⟨dH,rfl⟩,rfl⟩
 case round=>
  obtain⟨j,r',dM,hi',hg,hj,rfl,rfl,rfl,rfl,lJ,nL,lS,rfl⟩:=hrel;have eJ:=ap lJ;have Hr:=ap lS;have Hg:=ap hg;have bF:r'≤33554431:=by omega
  clear lJ lS hg dH
  by_cases hlt:j<k
  ·have kJ:r'≤524287:=by have:=Hr.o;omega
   by_cases kB:s.size≤a+(j+1)
   ·go_wp2;rw[Exit.noGoto_ret];go_ret2;exact⟨CG (by rw[←eJ.o,show k-j=(k-j-1)+1 from by omega,EB kB]),rfl⟩
   have dg:a+(j+1)<s.size:=by omega
   go_wp2
   ·rw[Exit.noGoto_ret];go_ret2;exact⟨CG (by rw[←eJ.o,show k-j=(k-j-1)+1 from by omega,s9 dg (by assumption)]),rfl⟩
   ·have bB:dM≤↑s[a+(j+1)].toNat∧↑s[a+(j+1)].toNat≤hi':=by assumption
    have hb:=Utf.jF s[a+(j+1)]
    go_roundg (k+1-(j+1))
    case measure=>have:=Hg.o;omega
    case rel=>
     refine⟨j+1,r'*64+(s[a+(j+1)].toNat:Int) % 64,128,191,rfl,by omega,?_,by go_num,rfl,rfl,?_,by omega,by have:=Hr.o;omega,rfl⟩
     ·rw[u8_and63 _ (by omega) hb,IntWalk.wrap64_in _ (by omega),FW r' _ nL (by omega) (by omega) (by omega)]
     rw[←eJ.o,show k-j=(k-(j+1))+1 from by omega,EC dg bB.1 bB.2];simp;rfl
   go_ret2;exact⟨CG (by rw[←eJ.o,show k-j=(k-j-1)+1 from by omega,s9 dg (.inl (by assumption))]),rfl⟩
  go_wp2;rw[Exit.noGoto_ret];go_ret2;exact⟨CG (by rw[←eJ.o,show k-j=0 from by omega];unfold Utf.cont;rfl),rfl⟩
end
section
open Go.RowKit

def partT(f:Int×Int×Bool):Value:=.tuple #[.int .i64 f.1,.int .i64 f.2.1,.bool f.2.2]
theorem mP{a b:Int}{c:Bool}{f:Int×Int×Bool}(h:(a,b,c)=f):Ending.returned (.tuple #[.int .i64 a,.int .i64 b,.bool c])=.returned (partT f):=by
 rw[←h];rfl

theorem i64_and127(x:Int)(h0:0≤x)(h1:x<256):bits .and .i64 x 127=x % 128:=ug x 7 h0 (by omega) (by omega) _ rfl
theorem agA(x:Int)(h0:0≤x)(h1:x<256):bits .and .i64 x 31=x % 32:=ug x 5 h0 (by omega) (by omega) _ rfl
theorem agz(x:Int)(h0:0≤x)(h1:x<256):bits .and .i64 x 15=x % 16:=ug x 4 h0 (by omega) (by omega) _ rfl
theorem agB(x:Int)(h0:0≤x)(h1:x<256):bits .and .i64 x 7=x % 8:=ug x 3 h0 (by omega) (by omega) _ rfl

theorem ai2(s:ByteArray)(a:Nat)(w:World)(ha:a<s.size)(hs:s.size≤1000000000)(hm:(Utf.follow s[a].toNat).1<0) :
  Calls Tryz.prog 137 #[.string s,.int .i64 a] w fun e w'=>e=.returned (partT (0,1,false))∧w=w':=by
 obtain⟨c,hc⟩:∃c:Int,((s[a].toNat:Nat):Int)=c:=⟨_,rfl⟩;have hc0:0≤c:=by omega
 have cR:c≤255:=by have:=Utf.jF s[a];omega
 rw[hc] at hm;have Hc:=ap hc
 have Hm:am (rY (Utf.follow c)=(-1,0,0)):=by
  show rY (Utf.follow c)=(-1,0,0);unfold rY;rw[if_pos hm]
 clear hc hm
 go_enter Tryz.func137,Tryz.ntmps137
 go_wp2_with (go_at_call 188;rw[Hc.o];refine (Cy _ _ hc0 cR).mono ?_;rintro e w' ⟨rfl,rfl⟩;rw[Hm.o];unfold wP;dsimp only)
 go_ret3;exact⟨rfl,rfl⟩

theorem ai1(s:ByteArray)(a k:Nat)(r lo hi least most:Int)(w:World)(ha:a<s.size)(hs:s.size≤1000000000)(hf:Utf.follow s[a].toNat=((k:Int),r,lo,hi))
  (hl:rY (Utf.follow s[a].toNat)=((k:Int),least,most)) (lM:0<k→least=lo∧most=hi) :
  Calls Tryz.prog 137 #[.string s,.int .i64 a] w fun e w'=>e=.returned (partT (Utf.part (Utf.cont (s.data.toList.drop (a+1)) k r 1 lo hi)))∧w=w':=by
 obtain⟨c,hc⟩:∃c:Int,((s[a].toNat:Nat):Int)=c:=⟨_,rfl⟩;have hc0:0≤c:=by omega
 have cR:c≤255:=by have:=Utf.jF s[a];omega
 rw[hc] at hf hl;have hcs:=Utf.AQ c hc0 cR;have aN:=Utf.aex c;rw[hf] at hcs aN;dsimp only at hcs aN;have Hc:=ap hc;have Hl:=ap hl;have qc:0≤r:=by omega
 have dH:r≤127:=by omega
 have aI:k≤3:=by omega
 have Hr:am ((k=0→c % 128=r)∧(k=1→c % 32=r)∧(k=2→c % 16=r)∧(k=3→c % 8=r)):=by
  show (k=0→c % 128=r)∧(k=1→c % 32=r)∧(k=2→c % 16=r)∧(k=3→c % 8=r);refine⟨?_,?_,?_,?_⟩<;>omega
 have Jl:=ap lM;obtain⟨res,dD⟩:∃res,Utf.part (Utf.cont (s.data.toList.drop (a+1)) k r 1 lo hi)=res:=⟨_,rfl⟩;rw[dD];have qV:=ap dD;clear dD hc hl hf hcs aN lM;have b0:bits .and .i64 c 127=c % 128:=i64_and127 c hc0 (by omega);have b1:bits .and .i64 c 31=c % 32:=agA c hc0 (by omega);have b2:bits .and .i64 c 15=c % 16:=agz c hc0 (by omega);have b3:bits .and .i64 c 7=c % 8:=agB c hc0 (by omega);have hk:k=0∨k=1∨k=2∨k=3:=by omega
 go_enter Tryz.func137,Tryz.ntmps137
 rcases hk with rfl|rfl|rfl|rfl
 ·go_wp2_with (go_at_call 188;rw[Hc.o];refine (Cy _ _ hc0 cR).mono ?_;rintro e w' ⟨rfl,rfl⟩;rw[Hl.o];unfold wP;dsimp only)
  have eE:bits .and .i64 (wrap64 (s[a].toNat:Int)) (127)=r:=by
   rw[Hc.o,IntWalk.wrap64_in c (by omega),b0];exact Hr.o.1 (by trivial)
  rw[eE];clear eE b0 b1 b2 b3
  go_loopg [8,9,11,12] (0+1) (fun g sr sq vr vn wr=>∃(j:Nat) (r' dM hi':Int),g=0+1-j∧j≤0∧vr=.int .i64 r'∧vn=.int .i64 ((j:Int)+1)∧sr=.int .u8 dM∧sq=.int .u8 hi'∧
   Utf.part (Utf.cont (s.data.toList.drop (a+(j+1))) (0-j) r' ((j:Int)+1) (if 0=0 then lo else dM) (if 0=0 then hi else hi'))=res∧0≤r'∧(r'≤127∧j=0∨r'≤8191∧j=1∨r'≤524287∧j=2∨r'≤33554431∧j=3)∧wr=w)
  case atStart=>
   refine⟨0,r,least,most,rfl,by omega,rfl,rfl,rfl,rfl,?_,qc,.inl ⟨dH,rfl⟩,rfl⟩;rw[←qV.o];rfl
  case round=>
   obtain⟨j,r',dM,hi',hg,hj,rfl,rfl,rfl,rfl,lJ,nL,lS,rfl⟩:=hrel;have eJ:=ap lJ;have qT:=ap lS;have Hg:=ap hg;have bF:r'≤33554431:=by omega
   clear lJ lS hg dH;go_wp2;go_ret3;exact⟨mP (by rw[←eJ.o,show j=0 from by omega];unfold Utf.cont;simp[Utf.part,nL,show ¬r'<0 from by omega]),rfl⟩
 ·go_wp2_with (go_at_call 188;rw[Hc.o];refine (Cy _ _ hc0 cR).mono ?_;rintro e w' ⟨rfl,rfl⟩;rw[Hl.o];unfold wP;dsimp only)
  have eE:bits .and .i64 (wrap64 (s[a].toNat:Int)) (31)=r:=by
   rw[Hc.o,IntWalk.wrap64_in c (by omega),b1];exact Hr.o.2.1 (by trivial)
  rw[eE];clear eE b0 b1 b2 b3
  go_loopg [8,9,11,12] (1+1) (fun g sr sq vr vn wr=>∃(j:Nat) (r' dM hi':Int),g=1+1-j∧j≤1∧vr=.int .i64 r'∧vn=.int .i64 ((j:Int)+1)∧sr=.int .u8 dM∧sq=.int .u8 hi'∧
   Utf.part (Utf.cont (s.data.toList.drop (a+(j+1))) (1-j) r' ((j:Int)+1) (if 1=0 then lo else dM) (if 1=0 then hi else hi'))=res∧0≤r'∧(r'≤127∧j=0∨r'≤8191∧j=1∨r'≤524287∧j=2∨r'≤33554431∧j=3)∧wr=w)
  case atStart=>
   refine⟨0,r,least,most,rfl,by omega,rfl,rfl,rfl,rfl,?_,qc,.inl ⟨dH,rfl⟩,rfl⟩;rw[←qV.o];have:=Jl.o (by omega);rw[this.1,this.2];rfl
  case round=>
   obtain⟨j,r',dM,hi',hg,hj,rfl,rfl,rfl,rfl,lJ,nL,lS,rfl⟩:=hrel;have eJ:=ap lJ;have qT:=ap lS;have Hg:=ap hg;have bF:r'≤33554431:=by omega
   clear lJ lS hg dH
   by_cases hlt:j<1
   ·have kJ:r'≤524287:=by have:=qT.o;omega
    by_cases kB:s.size≤a+(j+1)
    ·go_wp2;go_ret3;exact⟨mP (by rw[←eJ.o,show 1-j=(1-j-1)+1 from by omega,EB kB];rfl),rfl⟩
    have dg:a+(j+1)<s.size:=by omega
    go_wp2
    ·go_ret3;have hx:(↑s.size≤(a:Int)+((j:Int)+1)∨(s[a+(j+1)].toNat:Int)<dM)∨hi'<(s[a+(j+1)].toNat:Int):=by assumption
     exact⟨mP (by rw[←eJ.o,show 1-j=(1-j-1)+1 from by omega,s9 dg (by simp only[show (1=0)=False from by simp,if_false];omega)];rfl),rfl⟩
    ·have bB:((a:Int)+((j:Int)+1)<s.size∧dM≤(s[a+(j+1)].toNat:Int))∧(s[a+(j+1)].toNat:Int)≤hi':=by assumption
     have hb:=Utf.jF s[a+(j+1)]
     go_roundg (1+1-(j+1))
     case measure=>have:=Hg.o;omega
     case rel=>
      refine⟨j+1,r'*64+(s[a+(j+1)].toNat:Int) % 64,128,191,rfl,by omega,?_,by go_num,rfl,rfl,?_,by omega,by have:=qT.o;omega,rfl⟩
      ·rw[u8_and63 _ (by omega) hb,IntWalk.wrap64_in _ (by omega),FW r' _ nL (by omega) (by omega) (by omega)]
      rw[←eJ.o,show 1-j=(1-(j+1))+1 from by omega,EC dg (by simpa using bB.1.2) (by simpa using bB.2)];simp;rfl
    go_ret3;have hx:(s[a+(j+1)].toNat:Int)<dM:=by assumption
    exact⟨mP (by rw[←eJ.o,show 1-j=(1-j-1)+1 from by omega,s9 dg (.inl (by simpa using hx))];rfl),rfl⟩
   go_wp2;go_ret3;exact⟨mP (by rw[←eJ.o,show j=1 from by omega];unfold Utf.cont;simp[Utf.part,nL,show ¬r'<0 from by omega]),rfl⟩
 ·go_wp2_with (go_at_call 188;rw[Hc.o];refine (Cy _ _ hc0 cR).mono ?_;rintro e w' ⟨rfl,rfl⟩;rw[Hl.o];unfold wP;dsimp only)
  have eE:bits .and .i64 (wrap64 (s[a].toNat:Int)) (15)=r:=by
   rw[Hc.o,IntWalk.wrap64_in c (by omega),b2];exact Hr.o.2.2.1 (by trivial)
  rw[eE];clear eE b0 b1 b2 b3
  go_loopg [8,9,11,12] (2+1) (fun g sr sq vr vn wr=>∃(j:Nat) (r' dM hi':Int),g=2+1-j∧j≤2∧vr=.int .i64 r'∧vn=.int .i64 ((j:Int)+1)∧sr=.int .u8 dM∧sq=.int .u8 hi'∧
   Utf.part (Utf.cont (s.data.toList.drop (a+(j+1))) (2-j) r' ((j:Int)+1) (if 2=0 then lo else dM) (if 2=0 then hi else hi'))=res∧0≤r'∧(r'≤127∧j=0∨r'≤8191∧j=1∨r'≤524287∧j=2∨r'≤33554431∧j=3)∧wr=w)
  case atStart=>
   refine⟨0,r,least,most,rfl,by omega,rfl,rfl,rfl,rfl,?_,qc,.inl ⟨dH,rfl⟩,rfl⟩;rw[←qV.o];have:=Jl.o (by omega);rw[this.1,this.2];rfl
  case round=>
   obtain⟨j,r',dM,hi',hg,hj,rfl,rfl,rfl,rfl,lJ,nL,lS,rfl⟩:=hrel;have eJ:=ap lJ;have qT:=ap lS;have Hg:=ap hg;have bF:r'≤33554431:=by omega
   clear lJ lS hg dH
   by_cases hlt:j<2
   ·have kJ:r'≤524287:=by have:=qT.o;omega
    by_cases kB:s.size≤a+(j+1)
    ·go_wp2;go_ret3;exact⟨mP (by rw[←eJ.o,show 2-j=(2-j-1)+1 from by omega,EB kB];rfl),rfl⟩
    have dg:a+(j+1)<s.size:=by omega
    go_wp2
    ·go_ret3;have hx:(↑s.size≤(a:Int)+((j:Int)+1)∨(s[a+(j+1)].toNat:Int)<dM)∨hi'<(s[a+(j+1)].toNat:Int):=by assumption
     exact⟨mP (by rw[←eJ.o,show 2-j=(2-j-1)+1 from by omega,s9 dg (by simp only[show (2=0)=False from by simp,if_false];omega)];rfl),rfl⟩
    ·have bB:((a:Int)+((j:Int)+1)<s.size∧dM≤(s[a+(j+1)].toNat:Int))∧(s[a+(j+1)].toNat:Int)≤hi':=by assumption
     have hb:=Utf.jF s[a+(j+1)]
     go_roundg (2+1-(j+1))
     case measure=>have:=Hg.o;omega
     case rel=>
      refine⟨j+1,r'*64+(s[a+(j+1)].toNat:Int) % 64,128,191,rfl,by omega,?_,by go_num,rfl,rfl,?_,by omega,by have:=qT.o;omega,rfl⟩
      ·rw[u8_and63 _ (by omega) hb,IntWalk.wrap64_in _ (by omega),FW r' _ nL (by omega) (by omega) (by omega)]
      rw[←eJ.o,show 2-j=(2-(j+1))+1 from by omega,EC dg (by simpa using bB.1.2) (by simpa using bB.2)];simp;rfl
    go_ret3;have hx:(s[a+(j+1)].toNat:Int)<dM:=by assumption
    exact⟨mP (by rw[←eJ.o,show 2-j=(2-j-1)+1 from by omega,s9 dg (.inl (by simpa using hx))];rfl),rfl⟩
   go_wp2;go_ret3;exact⟨mP (by rw[←eJ.o,show j=2 from by omega];unfold Utf.cont;simp[Utf.part,nL,show ¬r'<0 from by omega]),rfl⟩
 go_wp2_with (go_at_call 188;rw[Hc.o];refine (Cy _ _ hc0 cR).mono ?_;rintro e w' ⟨rfl,rfl⟩;rw[Hl.o];unfold wP;dsimp only)
 have eE:bits .and .i64 (wrap64 (s[a].toNat:Int)) (7)=r:=by
  rw[Hc.o,IntWalk.wrap64_in c (by omega),b3];exact Hr.o.2.2.2 (by trivial)
 rw[eE];clear eE b0 b1 b2 b3
 go_loopg [8,9,11,12] (3+1) (fun g sr sq vr vn wr=>∃(j:Nat) (r' dM hi':Int),g=3+1-j∧j≤3∧vr=.int .i64 r'∧vn=.int .i64 ((j:Int)+1)∧sr=.int .u8 dM∧sq=.int .u8 hi'∧
  Utf.part (Utf.cont (s.data.toList.drop (a+(j+1))) (3-j) r' ((j:Int)+1) (if 3=0 then lo else dM) (if 3=0 then hi else hi'))=res∧0≤r'∧(r'≤127∧j=0∨r'≤8191∧j=1∨r'≤524287∧j=2∨r'≤33554431∧j=3)∧wr=w)
 case atStart=>
  refine⟨0,r,least,most,rfl,by omega,rfl,rfl,rfl,rfl,?_,qc,.inl ⟨dH,rfl⟩,rfl⟩;rw[←qV.o];have:=Jl.o (by omega);rw[this.1,this.2];rfl
 case round=>
  obtain⟨j,r',dM,hi',hg,hj,rfl,rfl,rfl,rfl,lJ,nL,lS,rfl⟩:=hrel;have eJ:=ap lJ;have qT:=ap lS;have Hg:=ap hg;have bF:r'≤33554431:=by omega
  clear lJ lS hg dH
  by_cases hlt:j<3
  ·have kJ:r'≤524287:=by have:=qT.o;omega
   by_cases kB:s.size≤a+(j+1)
   ·go_wp2;go_ret3;exact⟨mP (by rw[←eJ.o,show 3-j=(3-j-1)+1 from by omega,EB kB];rfl),rfl⟩
   have dg:a+(j+1)<s.size:=by omega
   go_wp2
   ·go_ret3;have hx:(↑s.size≤(a:Int)+((j:Int)+1)∨(s[a+(j+1)].toNat:Int)<dM)∨hi'<(s[a+(j+1)].toNat:Int):=by assumption
    exact⟨mP (by rw[←eJ.o,show 3-j=(3-j-1)+1 from by omega,s9 dg (by simp only[show (3=0)=False from by simp,if_false];omega)];rfl),rfl⟩
   ·have bB:((a:Int)+((j:Int)+1)<s.size∧dM≤(s[a+(j+1)].toNat:Int))∧(s[a+(j+1)].toNat:Int)≤hi':=by assumption
    have hb:=Utf.jF s[a+(j+1)]
    go_roundg (3+1-(j+1))
    case measure=>have:=Hg.o;omega
    case rel=>
     refine⟨j+1,r'*64+(s[a+(j+1)].toNat:Int) % 64,128,191,rfl,by omega,?_,by go_num,rfl,rfl,?_,by omega,by have:=qT.o;omega,rfl⟩
     ·rw[u8_and63 _ (by omega) hb,IntWalk.wrap64_in _ (by omega),FW r' _ nL (by omega) (by omega) (by omega)]
     rw[←eJ.o,show 3-j=(3-(j+1))+1 from by omega,EC dg (by simpa using bB.1.2) (by simpa using bB.2)];simp;rfl
   go_ret3;have hx:(s[a+(j+1)].toNat:Int)<dM:=by assumption
   exact⟨mP (by rw[←eJ.o,show 3-j=(3-j-1)+1 from by omega,s9 dg (.inl (by simpa using hx))];rfl),rfl⟩
  go_wp2;go_ret3;exact⟨mP (by rw[←eJ.o,show j=3 from by omega];unfold Utf.cont;simp[Utf.part,nL,show ¬r'<0 from by omega]),rfl⟩

end
section
open Go.RowKit

theorem ai0(s:ByteArray)(at_:Int)(w:World)(h0:0≤at_)(h1:at_<s.size)(hs:s.size≤1000000000) :
  Calls Tryz.prog 137 #[.string s,.int .i64 at_] w fun e w'=>e=.returned (partT (Utf.part (Utf.piece (s.data.toList.drop at_.toNat))))∧w=w':=by
 obtain⟨a,rfl⟩:=Int.eq_ofNat_of_zero_le h0;rw[Int.toNat_natCast];have ha:a<s.size:=by omega
 rw[drop_at s a ha,Utf.zg];have hw:=ai2 s a w ha hs;have hr:=fun k r lo hi least most=>ai1 s a k r lo hi least most w ha hs;obtain⟨c,hc⟩:∃c:Int,(s[a].toNat:Int)=c:=⟨_,rfl⟩;rw[hc] at hw ⊢;simp only[hc] at hr
 by_cases hm:(Utf.follow c).1<0
 ·rw[if_pos hm];exact hw hm
 rw[if_neg hm];obtain⟨m,r,lo,hi,hq⟩:∃m r lo hi,Utf.follow c=(m,r,lo,hi):=⟨_,_,_,_,rfl⟩;rw[hq] at hm hr ⊢;dsimp only at hm ⊢;obtain⟨k,rfl⟩:=Int.eq_ofNat_of_zero_le (show 0≤m by omega);rw[Int.toNat_natCast]
 by_cases iT:k=0
 ·subst iT;exact hr 0 r lo hi 0 0 rfl rfl (by omega)
 exact hr k r lo hi lo hi rfl (by unfold rY;rw[if_neg (by simp),if_neg (by simpa using iT)]) (fun _=>⟨rfl,rfl⟩)

def kO(f:Int×Int):Value:=if f.1<0 then .tuple #[.int .i64 0,.int .i64 0,.bool false] else .tuple #[.int .i64 f.1,.int .i64 f.2,.bool true]

theorem MZ(s:ByteArray)(at_:Int)(w:World)(h0:0≤at_)(h1:at_<s.size)(hs:s.size≤1000000000) :
  Calls Tryz.prog 99 #[.string s,.int .i64 at_] w fun e w'=>e=.returned (kO (Utf.piece (s.data.toList.drop at_.toNat)))∧w=w':=by
 have H:=ai0 s at_ w h0 h1 hs;generalize Utf.piece (s.data.toList.drop at_.toNat)=f at *
 have HH:=ap H;clear H;have g:¬at_<0:=by omega
 go_enter Tryz.func99,Tryz.ntmps99
 by_cases hf:f.1<0
 ·have e1:am (Utf.part f=(0,f.2,false)):=by show Utf.part f=_;unfold Utf.part;rw[if_pos hf]
  go_wp2_with (go_at_call 137;refine HH.o.mono ?_;rintro e w' ⟨rfl,rfl⟩;rw[e1.o];unfold partT;dsimp only)
  go_ret3;exact⟨by unfold kO;rw[if_pos hf];rfl,rfl⟩
 have e1:am (Utf.part f=(f.1,f.2,true)):=by show Utf.part f=_;unfold Utf.part;rw[if_neg hf]
 go_wp2_with (go_at_call 137;refine HH.o.mono ?_;rintro e w' ⟨rfl,rfl⟩;rw[e1.o];unfold partT;dsimp only)
 go_ret3;exact⟨by unfold kO;rw[if_neg (by omega)];rfl,rfl⟩
end
section
open Go.RowKit

theorem fM:(Tryz.prog.info? 3).map (fun i=>(i.zero,i.size,i.bytes))=some (some (.int .i64 0),1,8):=by kernel_rfl

theorem Y9(s:ByteArray)(k:Nat)(h:k<s.size) :
  Utf.valid (s.data.toList.drop k)=if (Utf.piece (s.data.toList.drop k)).1<0 then false else Utf.valid (s.data.toList.drop (k+(Utf.piece (s.data.toList.drop k)).2.toNat)):=by
 rw[drop_at s k h,Utf.Za,←drop_at s k h,List.drop_drop]
theorem Xp(s:ByteArray)(k:Nat)(h:k<s.size):1≤(Utf.piece (s.data.toList.drop k)).2∧(Utf.piece (s.data.toList.drop k)).2≤4∧(Utf.piece (s.data.toList.drop k)).2≤((s.size-k:Nat):Int):=by
 have:=Utf.uu s[k] (s.data.toList.drop (k+1));rw[←drop_at s k h] at this
 simpa using this

theorem X4(s:ByteArray)(w:World)(hs:s.size≤1000000000) :
  Calls Tryz.prog 98 #[.string s] w fun e w'=>∃v,e=.returned (.tuple #[v,.bool (Utf.valid s.data.toList)])∧Below w.heap.size w w':=by
 obtain⟨res,dD⟩:∃res,Utf.valid s.data.toList=res:=⟨_,rfl⟩;rw[dD];have qV:=ap dD;clear dD
 go_enter Tryz.func98,Tryz.ntmps98
 go_wp2
 go_loopg [4,5] s.size (fun g vo va wr=>∃(k n:Nat) (xs:List Value),g=s.size-k∧k≤s.size∧n≤k∧va=.int .i64 k∧Utf.valid (s.data.toList.drop k)=res∧wr.ownsRow w.heap.size 3 1 vo n xs∧Below w.heap.size w wr)
 case atStart=>exact⟨0,0,[],rfl,by omega,by omega,rfl,by rw[←qV.o];rfl,World.ownsRow_nil _ _ _ _,Below.refl _ _⟩
 case round=>
  obtain⟨k,n,xs,hg,hk,hn,rfl,hv,hown,hb⟩:=hrel;have Hv:=ap hv;have Hg:=ap hg;clear hv hg
  by_cases hlt:k<s.size
  ·have hp:=Xp s k hlt;have hval:=Y9 s k hlt;have HN:=ap (MZ s k wr (by omega) (by omega) hs);rw[Int.toNat_natCast] at HN;obtain⟨f,hf⟩:∃f,Utf.piece (s.data.toList.drop k)=f:=⟨_,rfl⟩;rw[hf] at hp hval HN;have Ec:=ap hval;clear hf hval
   by_cases ek:f.1<0
   ·have e1:am (kO f=.tuple #[.int .i64 0,.int .i64 0,.bool false]):=by show kO f=_;unfold kO;rw[if_pos ek]
    go_wp2_with (go_at_call 99;refine HN.o.mono ?_;rintro e w' ⟨rfl,rfl⟩;rw[e1.o])
    go_ret2;exact⟨_,Ny rfl (aR (by rw[←Hv.o,Ec.o,if_pos ek])),hb⟩
   have e1:am (kO f=.tuple #[.int .i64 f.1,.int .i64 f.2,.bool true]):=by show kO f=_;unfold kO;rw[if_neg ek]
   go_wp2_with fail
   refine HN.o.mono ?_;rintro e w' ⟨rfl,rfl⟩;rw[e1.o]
   go_wp2_with (first
    | (at_builtin;go_loud (refine et wr rfl (.tmp 22) (.tmp 24) 164 rfl w.heap.size (.int .i64 0) 1 8 Tryz.underlying164 fM rfl (by omega) u4 n xs rfl hown rfl (by simp[Value.oneCell']) rfl (by unfold maxLen;omega) (by omega) hb.size ?_);intro g' cap' w1 hown1 cN kv fX ak))
   go_roundg (s.size-(k+f.2.toNat))
   case measure=>have:=Hg.o;omega
   case rel=>
    exact⟨k+f.2.toNat,n+1,_,rfl,by omega,by omega,int_eq (by omega),by rw[←Hv.o,Ec.o,if_neg (by omega)],hown1,hb.grown cN hb.size (fun j hj=>(aD hown j hj).1)⟩
  go_wp2;go_ret2;exact⟨_,Ny rfl (aR (by rw[←Hv.o,List.drop_of_length_le (by simp;omega)];rfl)),hb⟩

theorem XQ(s:ByteArray)(w:World)(hs:s.size≤1000000000) :
  Calls Tryz.prog 68 #[.string s] w fun e w'=>e=.returned (.bool (Utf.valid s.data.toList))∧Below w.heap.size w w':=by
 go_enter Tryz.func68,Tryz.ntmps68
 go_wp2_with (go_at_call 98;refine (X4 s w hs).mono ?_;rintro e w' ⟨v,rfl,hb⟩)
 go_ret;exact⟨rfl,hb⟩
end
end Go.Proofs.YtpdkeckeekchlaaGreatDoor
