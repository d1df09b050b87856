/- One operation of a region that draws its order, taken by itself; the operation and its slot written out. And more. -/
import Derived.Test.YtifiiojchlaghaaGreatDoorOk00
import Derived.Test.YtifiiojchlaghaaGreatDoorShelf
import Derived.Deep.RegionHeld3
import Derived.Deep.LoopGhost
set_option linter.unusedSimpArgs false
set_option maxHeartbeats 8000000
set_option linter.unusedVariables false
namespace Go.Proofs.YtifiiojchlaghaaGreatDoor
section
open Go

section
variable {P:Program} {l:List Oper} {Q:Exit→Act→World→Prop} {md:Region.Mode} {S:World→Prop}
theorem put_some{a:Act}{d:Option Tmp}{k:Tmp}{v:Value}(hd:d=some k):a.put d v={ tmps:=a.tmps.setIfInBounds k v,defers:=a.defers }:=by subst hd;rfl
theorem held_take{i d:Nat}{oi:Oper}{v:Value}{fuel:Nat}{listed:Array Bool}{a:Act}{w:World}(hi:l[i]?=some oi)(hd:oi.dst=some d)
  (hs:Region.noSelect l.toArray=true) (hf:Region.free md l.toArray listed i=true) (hr:(Region.ready md l.toArray listed).contains i=true)
  (hQ:∀c a w,Q (.panic c) (a.put oi.dst v) w→Q (.panic c) a w) (hw:Region.wanted oi (yielded l.toArray a.tmps)=true) (hS:S w) (hy:∀w,S w→(execOp a.eval oi).run P w=.ok (.value v) w)
  (h:wpAnyH P md l.toArray Q S fuel (listed.setIfInBounds i true) { tmps:=a.tmps.setIfInBounds d v,defers:=a.defers } w):wpAnyH P md l.toArray Q S (fuel+1) listed a w :=
 wpAnyH_take (by simpa using hi) hs hf hr hQ (Or.inl ⟨hw,hy⟩) hS (by rw[put_some hd];exact h)
theorem held_skip{i d:Nat}{oi:Oper}{fuel:Nat}{listed:Array Bool}{a:Act}{w:World}(hi:l[i]?=some oi)(hd:oi.dst=some d)
  (hs:Region.noSelect l.toArray=true) (hf:Region.free md l.toArray listed i=true) (hr:(Region.ready md l.toArray listed).contains i=true)
  (hQ:∀c a w,Q (.panic c) (a.put oi.dst undef) w→Q (.panic c) a w) (hw:Region.wanted oi (yielded l.toArray a.tmps)=false) (hS:S w)
  (h:wpAnyH P md l.toArray Q S fuel (listed.setIfInBounds i true) { tmps:=a.tmps.setIfInBounds d undef,defers:=a.defers } w):wpAnyH P md l.toArray Q S (fuel+1) listed a w :=
 wpAnyH_take (by simpa using hi) hs hf hr hQ (Or.inr ⟨hw,rfl⟩) hS (by rw[put_some hd];exact h)
theorem held_call{i:Nat}{oi:Oper}{fuel:Nat}{listed:Array Bool}{a:Act}{w:World}(hi:l[i]?=some oi)(hr:Region.ready md l.toArray listed=[i])(hw:Region.wanted oi (yielded l.toArray a.tmps)=true)
  (h:∀K':Act→World→Prop,Shut (∀a w,S w→(S w→wpAnyH P md l.toArray Q S fuel (listed.setIfInBounds i true) a w)→K' a w)→Oper.wp P oi a w K' Q):wpAnyH P md l.toArray Q S (fuel+1) listed a w :=
 wpAnyH_ready hr (by simp) (AllReadyH.cons (o:=oi) (by simpa using hi) (fun K hK=>by rw[if_pos hw];exact h K hK) AllReadyH.nil)
def nx:List Bool→Nat
 | true :: r=>nx r+1
 | _=>0
theorem nxT{d:Nat}{oi:Oper}{v:Value}{fuel:Nat}{ls:List Bool}{tm:List Value}{df:List Deferred}{w:World}(hi:l[nx ls]?=some oi)(hd:oi.dst=some d)(hS:S w)
  (hy:∀w,S w→(execOp (Act.eval ⟨tm.toArray,df⟩) oi).run P w=.ok (.value v) w) (h:wpAnyH P md l.toArray Q S fuel (ls.set (nx ls) true).toArray { tmps:=(tm.set d v).toArray,defers:=df } w)
  (hs:Region.noSelect l.toArray=true:=by kernel_rfl) (hf:Region.free md l.toArray ls.toArray (nx ls)=true:=by kernel_rfl) (hr:(Region.ready md l.toArray ls.toArray).contains (nx ls)=true:=by kernel_rfl)
  (hw:Region.wanted oi (yielded l.toArray tm.toArray)=true:=by kernel_rfl) (hQ:∀c a w,Q (.panic c) (a.put oi.dst v) w→Q (.panic c) a w:=by exact fun _ _ _ h=>h):wpAnyH P md l.toArray Q S (fuel+1) ls.toArray ⟨tm.toArray,df⟩ w :=
 held_take hi hd hs hf hr hQ hw hS hy (by simpa using h)
theorem nxK{d:Nat}{oi:Oper}{fuel:Nat}{ls:List Bool}{tm:List Value}{df:List Deferred}{w:World}(hi:l[nx ls]?=some oi)(hd:oi.dst=some d)(hS:S w)
  (h:wpAnyH P md l.toArray Q S fuel (ls.set (nx ls) true).toArray { tmps:=(tm.set d undef).toArray,defers:=df } w)
  (hs:Region.noSelect l.toArray=true:=by kernel_rfl) (hf:Region.free md l.toArray ls.toArray (nx ls)=true:=by kernel_rfl) (hr:(Region.ready md l.toArray ls.toArray).contains (nx ls)=true:=by kernel_rfl)
  (hw:Region.wanted oi (yielded l.toArray tm.toArray)=false:=by kernel_rfl) (hQ:∀c a w,Q (.panic c) (a.put oi.dst undef) w→Q (.panic c) a w:=by exact fun _ _ _ h=>h):wpAnyH P md l.toArray Q S (fuel+1) ls.toArray ⟨tm.toArray,df⟩ w :=
 held_skip hi hd hs hf hr hQ hw hS (by simpa using h)
end
end
section
open Go.RowKit

def pieceV(f:Int×Int):Value:=.tuple #[.int .i64 f.1,.int .i64 f.2]
theorem pieceV_eq{a b:Int}{f:Int×Int}(h:(a,b)=f):Ending.returned (.tuple #[.int .i64 a,.int .i64 b])=.returned (pieceV f):=by
 rw[←h];rfl

theorem drop_at(s:ByteArray)(k:Nat)(h:k<s.size):s.data.toList.drop k=s[k] :: s.data.toList.drop (k+1):=by
 rw[List.drop_eq_getElem_cons (by simpa using h)];rfl

theorem cont_end{s:ByteArray}{a j k:Nat}{r n lo hi:Int}(h:s.size≤a+j):Utf.cont (s.data.toList.drop (a+j)) (k+1) r n lo hi=(-1,n):=by
 rw[List.drop_of_length_le (by simpa using h)];rfl
theorem cont_wrong{s:ByteArray}{a j k:Nat}{r n lo hi:Int}(h:a+j<s.size)(hc:(s[a+j].toNat:Int)<lo∨hi<(s[a+j].toNat:Int)):Utf.cont (s.data.toList.drop (a+j)) (k+1) r n lo hi=(-1,n):=by
 rw[drop_at s _ h];simp only[Utf.cont];rw[if_pos hc]
theorem cont_step{s:ByteArray}{a j k:Nat}{r n lo hi:Int}(h:a+j<s.size)(h1:lo≤(s[a+j].toNat:Int))(h2:(s[a+j].toNat:Int)≤hi) :
  Utf.cont (s.data.toList.drop (a+j)) (k+1) r n lo hi=Utf.cont (s.data.toList.drop (a+j+1)) k (r*64+(s[a+j].toNat:Int) % 64) (n+1) 128 191:=by
 rw[drop_at s _ h];simp only[Utf.cont];rw[if_neg (by omega)]

theorem piece_any(s:ByteArray)(at_:Int)(w:World)(h0:0≤at_)(h1:at_<s.size)(hs:s.size≤1000000000) :
  Calls Tryz.prog 116 #[.string s,.int .i64 at_] w fun e w'=>e=.returned (pieceV (Utf.piece (s.data.toList.drop at_.toNat)))∧w=w':=by
 obtain⟨a,rfl⟩:=Int.eq_ofNat_of_zero_le h0;rw[Int.toNat_natCast];have ha:a<s.size:=by omega
 rw[drop_at s a ha,Utf.piece_cons];obtain⟨c,hc⟩:∃c:Int,((s[a].toNat:Nat):Int)=c:=⟨_,rfl⟩;have hc0:0≤c:=by omega
 have hc1:c≤255:=by have:=Utf.byte_lt s[a];omega
 rw[hc];have hf:=Utf.follow_cases c (by omega) (by omega);have Hc:=hide hc;clear hc;obtain⟨m,r,lo,hi,hq⟩:∃m r lo hi,Utf.follow c=(m,r,lo,hi):=⟨_,_,_,_,rfl⟩;rw[hq] at hf ⊢;dsimp only at hf ⊢;have hm0 : -1≤m:=by omega
 have hm3:m≤3:=by omega
 have hr0:0≤r:=by omega
 have hr1:r≤127:=by omega
 have Hq:=hide hq;clear hf hq;obtain⟨res,hres⟩:∃res,(if m<0 then (-1,1) else Utf.cont (s.data.toList.drop (a+1)) m.toNat r 1 lo hi)=res:=⟨_,rfl⟩;rw[hres];have Hres:=hide hres;clear hres
 go_enter Tryz.func116,Tryz.ntmps116
 go_wp2
 go_step3
 go_wp2_with (go_at_call 156;rw[Hc.out];refine (follow_any _ _ hc0 hc1).mono ?_;rintro e w' ⟨rfl,rfl⟩;rw[Hq.out];unfold followV;dsimp only)
 ·rw[Exit.noGoto_ret];go_ret2;exact⟨pieceV_eq (by rw[←Hres.out,if_pos (by assumption)]),rfl⟩
 have hm:0≤m:=by assumption
 obtain⟨k,rfl⟩:=Int.eq_ofNat_of_zero_le hm
 go_step3
 go_wp2
 go_loopg [4,5,7,8] (k+1) (fun g vr vn vlo vhi wr=>∃(j:Nat) (r' lo' hi':Int),g=k+1-j∧j≤k∧vr=.int .i64 r'∧vn=.int .i64 ((j:Int)+1)∧vlo=.int .u8 lo'∧vhi=.int .u8 hi'∧
  Utf.cont (s.data.toList.drop (a+(j+1))) (k-j) r' ((j:Int)+1) lo' hi'=res∧0≤r'∧(r'≤127∧j=0∨r'≤8191∧j=1∨r'≤524287∧j=2∨r'≤33554431∧j=3)∧wr=w)
 case atStart=>exact⟨0,r,lo,hi,rfl,by omega,rfl,rfl,rfl,rfl,by rw[←Hres.out,if_neg (by omega)];rfl,hr0,.inl ⟨hr1,rfl⟩,rfl⟩
 case round=>
  obtain⟨j,r',lo',hi',hg,hj,rfl,rfl,rfl,rfl,hcont,hr0',hr1',rfl⟩:=hrel;have Hcont:=hide hcont;have Hr:=hide hr1';have Hg:=hide hg;have hr2:r'≤33554431:=by omega
  clear hcont hr1' hg hr1
  by_cases hlt:j<k
  ·have hr3:r'≤524287:=by have:=Hr.out;omega
   by_cases hend:s.size≤a+(j+1)
   ·go_wp2;rw[Exit.noGoto_ret];go_ret2;exact⟨pieceV_eq (by rw[←Hcont.out,show k-j=(k-j-1)+1 from by omega,cont_end hend]),rfl⟩
   have hlt2:a+(j+1)<s.size:=by omega
   go_wp2
   ·rw[Exit.noGoto_ret];go_ret2;exact⟨pieceV_eq (by rw[←Hcont.out,show k-j=(k-j-1)+1 from by omega,cont_wrong hlt2 (by assumption)]),rfl⟩
   ·have hin:lo'≤↑s[a+(j+1)].toNat∧↑s[a+(j+1)].toNat≤hi':=by assumption
    have hb:=Utf.byte_lt s[a+(j+1)]
    go_roundg (k+1-(j+1))
    case measure=>have:=Hg.out;omega
    case rel=>
     refine⟨j+1,r'*64+(s[a+(j+1)].toNat:Int) % 64,128,191,rfl,by omega,?_,by go_num,rfl,rfl,?_,by omega,by have:=Hr.out;omega,rfl⟩
     ·rw[u8_and63 _ (by omega) hb,IntWalk.wrap64_in _ (by omega),i64_or64 r' _ hr0' (by omega) (by omega) (by omega)]
     rw[←Hcont.out,show k-j=(k-(j+1))+1 from by omega,cont_step hlt2 hin.1 hin.2];simp;rfl
   go_ret2;exact⟨pieceV_eq (by rw[←Hcont.out,show k-j=(k-j-1)+1 from by omega,cont_wrong hlt2 (.inl (by assumption))]),rfl⟩
  go_wp2;rw[Exit.noGoto_ret];go_ret2;exact⟨pieceV_eq (by rw[←Hcont.out,show k-j=0 from by omega];unfold Utf.cont;rfl),rfl⟩
end
section
open Go.RowKit

end
section
open Go.RowKit

end
section
open Go.RowKit

theorem info_int:(Tryz.prog.info? 3).map (fun i=>(i.zero,i.size,i.bytes))=some (some (.int .i64 0),1,8):=by kernel_rfl

end
section
open Go.RowKit Tk

def Sc(w:World)(X:Nat)(s:ByteArray)(k:Nat):Prop:=Blk w X 143 #[.string s,.int .i64 (k:Int)]
theorem Sc.c0{w:World}{X:Nat}{s:ByteArray}{k:Nat}(h:Sc w X s k):w.cell? ⟨X,0,none⟩=some (.string s):=Blk.cell h 0
theorem Sc.c1{w:World}{X:Nat}{s:ByteArray}{k:Nat}(h:Sc w X s k):w.cell? ⟨X,1,none⟩=some (.int .i64 (k:Int)):=Blk.cell h 1
theorem Sc.f1{w:World}{X:Nat}{s:ByteArray}{k:Nat}(h:Sc w X s k):w.frozen? ⟨X,1,none⟩=false:=Blk.frozen h 1
theorem Sc.move{w:World}{X:Nat}{s:ByteArray}{k:Nat}(h:Sc w X s k)(j:Nat):Sc (w.setCell ⟨X,1,none⟩ (.int .i64 (j:Int))) X s j:=by
 have:=Blk.set_ h 1 (.int .i64 (j:Int))
 simpa[Sc] using this
theorem idx_run(s:ByteArray)(k:Nat)(c:UInt8)(h:s.data.toList[k]?=some c)(w:World):(Instr.index 9 (.string s) (.int .i64 (k:Int))).run Tryz.prog w=.ok (.int .u8 (c.toNat:Nat)) w:=by
 obtain⟨hk,hc⟩:=List.getElem?_eq_some_iff.1 h;rw[size_list] at hk;have hc':s[k]=c:=hc;go_simp
theorem nsp_at(l:L)(j:Nat)(h:j<nsp l):∃c,l[j]?=some c∧sp c=true:=by
 induction l generalizing j with
 | nil=>simp[nsp] at h
 | cons c l ih=>
  unfold nsp at h;rw[List.takeWhile_cons] at h
  split at h
  ·rename_i hc
   cases j with
   | zero=>exact⟨c,rfl,hc⟩
   | succ j=>exact ih j (by simpa[nsp] using h)
  simp at h
theorem nsp_end(l:L):l.length=nsp l∨∃c,l[nsp l]?=some c∧sp c=false:=by
 induction l with
 | nil=>left;rfl
 | cons c l ih=>
  unfold nsp;rw[List.takeWhile_cons];split
  ·rcases ih with h|⟨d,h1,h2⟩
   ·left;simpa[nsp] using h
   right;exact⟨d,by simpa[nsp] using h1,h2⟩
  rename_i hc
  right
  exact⟨c,rfl,by simpa using hc⟩
theorem nsp_le(l:L):nsp l≤l.length:=by
 unfold nsp;exact (List.takeWhile_sublist sp).length_le

theorem blanks_any(w:World)(X:Nat)(s:ByteArray)(at_:Nat)(hX:Sc w X s at_)(ha:at_≤s.size)(hs:s.size≤1000000000) :
  Calls Tryz.prog 118 #[.pointer (some ⟨X,0,none⟩)] w fun e w'=>e=.returned (.bool (decide (0<nsp (s.data.toList.drop at_))))∧Sc w' X s (at_+nsp (s.data.toList.drop at_))∧But X w w':=by
 obtain⟨N,hN⟩:∃N,nsp (s.data.toList.drop at_)=N:=⟨_,rfl⟩
 have HL:=hide (show at_+N≤s.size from by
  have:=nsp_le (s.data.toList.drop at_);rw[List.length_drop,size_list,hN] at this
  omega)
 have HI:=hide fun j (hj:j<N)=>(show ∃c,s.data.toList[at_+j]?=some c∧sp c=true from by
  obtain⟨c,h1,h2⟩:=nsp_at (s.data.toList.drop at_) j (by rw[hN];exact hj);exact⟨c,by rwa[List.getElem?_drop] at h1,h2⟩)
 have HE:=hide (show s.size=at_+N∨∃c,s.data.toList[at_+N]?=some c∧sp c=false from by
  rcases nsp_end (s.data.toList.drop at_) with h|⟨c,h1,h2⟩
  ·left
   rw[List.length_drop,size_list,hN] at h;omega
  right
  rw[hN] at h1;exact⟨c,by rwa[List.getElem?_drop] at h1,h2⟩)
 rw[hN];have q0:w.cell? ⟨X,0,none⟩=some (.string s):=Blk.cell hX 0;have q1:w.cell? ⟨X,1,none⟩=some (.int .i64 (at_:Int)):=Blk.cell hX 1;have HX:=hide hX;clear hX hN
 go_enter Tryz.func118,Tryz.ntmps118
 go_wp2;clear q0 q1
 go_loopg [] N (fun g wr=>∃k:Nat,g=at_+N-k∧at_≤k∧k≤at_+N∧Sc wr X s k∧But X w wr)
 case atStart=>exact⟨at_,by omega,by omega,by omega,HX.out,But.refl _ _⟩
 case round=>
  obtain⟨k,hg,hk0,hk1,hK,hB⟩:=hrel;have Hg:=hide hg;have HK:=hide hK;have HB:=hide hB;have hk2:k≤s.size:=by have:=HL.out;omega
  clear hg hK hB
  by_cases hlt:k<at_+N
  ·obtain⟨c,hc,hsp⟩:=HI.out (k-at_) (by omega);rw[show at_+(k-at_)=k by omega] at hc;have hks:k<s.size:=by have:=HL.out;omega
   have HSP:=hide (space_any c);rw[hsp] at HSP;have hix:=idx_run s k c hc;clear hc hsp;go_wp2;refine wp_region_held_drew (S:=fun W=>Sc W X s k∧But X w W) (by kernel_rfl) ?_ (fun hHeld=>?_)
   ·(try dsimp only)
    first|exact⟨Blk.drew HK.out,But.drew HB.out⟩|exact⟨Blk.go hHeld.1 hb,But.go hHeld.2 hb⟩|exact hHeld
   change wpAnyH _ _ _ _ _ 22 #[false,false,false,false,false,false,false,false,false,false,false,false,false,false,false,false,false,false,false,false,false,false] _ _;iterate 3 (refine nxT (v:=?_) rfl rfl hHeld ?_ ?_;rotate_left;(· (intro w hSw;(try dsimp only at hSw);go_simp;try with_reducible rfl));(try simp only[nx,List.set]))
   (refine nxT (v:=?_) rfl rfl hHeld ?_ ?_;rotate_left;(· (intro w hSw;(try dsimp only at hSw);have q0:=Sc.c0 hSw.1;have q1:=Sc.c1 hSw.1;go_simp;try with_reducible rfl));(try simp only[nx,List.set]));iterate 3 (refine nxT (v:=?_) rfl rfl hHeld ?_ ?_;rotate_left;(· (intro w hSw;(try dsimp only at hSw);go_simp;try with_reducible rfl));(try simp only[nx,List.set]))
   (refine nxT (v:=?_) rfl rfl hHeld ?_ ?_;rotate_left;(· (intro w hSw;(try dsimp only at hSw);have q0:=Sc.c0 hSw.1;have q1:=Sc.c1 hSw.1;go_simp;try with_reducible rfl));(try simp only[nx,List.set]));iterate 6 (refine nxT (v:=?_) rfl rfl hHeld ?_ ?_;rotate_left;(· (intro w hSw;(try dsimp only at hSw);go_simp;try with_reducible rfl));(try simp only[nx,List.set]))
   (refine nxT (v:=?_) rfl rfl hHeld ?_ ?_;rotate_left;(· (intro w hSw;(try dsimp only at hSw);have q0:=Sc.c0 hSw.1;have q1:=Sc.c1 hSw.1;go_simp;try with_reducible rfl));(try simp only[nx,List.set]));iterate 3 (refine nxT (v:=?_) rfl rfl hHeld ?_ ?_;rotate_left;(· (intro w hSw;(try dsimp only at hSw);go_simp;try with_reducible rfl));(try simp only[nx,List.set]))
   (refine nxT (v:=?_) rfl rfl hHeld ?_ ?_;rotate_left;(· (intro w hSw;(try dsimp only at hSw);have q0:=Sc.c0 hSw.1;have q1:=Sc.c1 hSw.1;go_simp;try with_reducible rfl));(try simp only[nx,List.set]));(refine nxT (v:=?_) rfl rfl hHeld ?_ ?_;rotate_left;(· (intro w hSw;(try dsimp only at hSw);go_simp;try with_reducible rfl));(try simp only[nx,List.set]));refine held_call (i:=20) rfl (by kernel_rfl) (by kernel_rfl) (fun K hK=>?_);go_simp
   go_at_call 122
   refine (HSP.out _).mono ?_;rintro e w' ⟨rfl,rfl⟩;(try dsimp only);refine hK.out _ _ ?_ (fun hHeld'=>?_)
   ·(try dsimp only)
    first|exact⟨Blk.drew HK.out,But.drew HB.out⟩|exact⟨Blk.go hHeld.1 hb,But.go hHeld.2 hb⟩|exact hHeld
   clear hK K hHeld;have hHeld:=hHeld';clear hHeld';(try simp only[Act.put,List.setIfInBounds_toArray,List.set_cons_zero,List.set_cons_succ]);(refine nxT (v:=?_) rfl rfl hHeld ?_ ?_;rotate_left;(· (intro w hSw;(try dsimp only at hSw);go_simp;try with_reducible rfl));(try simp only[nx,List.set]));refine wpAnyH_done (by kernel_rfl) ?_ _;have K1:=hide hHeld.1;have B1:=hide hHeld.2;have q1:=Sc.c1 hHeld.1;have f1:=Sc.f1 hHeld.1;clear hHeld;go_wp2
   go_roundg (at_+N-(k+1))
   case measure=>have:=Hg.out;omega
   case rel=>exact⟨k+1,by omega,by omega,by omega,Sc.move K1.out (k+1),B1.out.setCell (.inl rfl) _⟩
  have hke:k=at_+N:=by omega
  rcases HE.out with he|⟨c,hc,hsp⟩
  ·have hks:¬k<s.size:=by omega
   have HKE:=hide hke;clear hke he hlt;go_wp2;refine wp_region_held_drew (S:=fun W=>Sc W X s k∧But X w W) (by kernel_rfl) ?_ (fun hHeld=>?_)
   ·(try dsimp only)
    first|exact⟨Blk.drew HK.out,But.drew HB.out⟩|exact⟨Blk.go hHeld.1 hb,But.go hHeld.2 hb⟩|exact hHeld
   change wpAnyH _ _ _ _ _ 22 #[false,false,false,false,false,false,false,false,false,false,false,false,false,false,false,false,false,false,false,false,false,false] _ _;iterate 3 (refine nxT (v:=?_) rfl rfl hHeld ?_ ?_;rotate_left;(· (intro w hSw;(try dsimp only at hSw);go_simp;try with_reducible rfl));(try simp only[nx,List.set]))
   (refine nxT (v:=?_) rfl rfl hHeld ?_ ?_;rotate_left;(· (intro w hSw;(try dsimp only at hSw);have q0:=Sc.c0 hSw.1;have q1:=Sc.c1 hSw.1;go_simp;try with_reducible rfl));(try simp only[nx,List.set]));iterate 3 (refine nxT (v:=?_) rfl rfl hHeld ?_ ?_;rotate_left;(· (intro w hSw;(try dsimp only at hSw);go_simp;try with_reducible rfl));(try simp only[nx,List.set]))
   (refine nxT (v:=?_) rfl rfl hHeld ?_ ?_;rotate_left;(· (intro w hSw;(try dsimp only at hSw);have q0:=Sc.c0 hSw.1;have q1:=Sc.c1 hSw.1;go_simp;try with_reducible rfl));(try simp only[nx,List.set]));iterate 3 (refine nxT (v:=?_) rfl rfl hHeld ?_ ?_;rotate_left;(· (intro w hSw;(try dsimp only at hSw);go_simp;try with_reducible rfl));(try simp only[nx,List.set]))
   iterate 10 (refine nxK rfl rfl hHeld ?_;(try simp only[nx,List.set]))
   (refine nxT (v:=?_) rfl rfl hHeld ?_ ?_;rotate_left;(· (intro w hSw;(try dsimp only at hSw);go_simp;try with_reducible rfl));(try simp only[nx,List.set]));refine wpAnyH_done (by kernel_rfl) ?_ _;have K1:=hide hHeld.1;have B1:=hide hHeld.2;have q1:=Sc.c1 hHeld.1;clear hHeld;go_wp2;go_ret;exact⟨ret_eq1 (bool_eq (by rw[HKE.out];simp)),by rw[←HKE.out];exact K1.out,B1.out⟩
  rw[←hke] at hc
  have hks:k<s.size:=by
   have:=(List.getElem?_eq_some_iff.1 hc).1;rwa[size_list] at this
  have HSP:=hide (space_any c);rw[hsp] at HSP;have hix:=idx_run s k c hc;have HKE:=hide hke;clear hc hsp hke hlt;go_wp2;refine wp_region_held_drew (S:=fun W=>Sc W X s k∧But X w W) (by kernel_rfl) ?_ (fun hHeld=>?_)
  ·(try dsimp only)
   first|exact⟨Blk.drew HK.out,But.drew HB.out⟩|exact⟨Blk.go hHeld.1 hb,But.go hHeld.2 hb⟩|exact hHeld
  change wpAnyH _ _ _ _ _ 22 #[false,false,false,false,false,false,false,false,false,false,false,false,false,false,false,false,false,false,false,false,false,false] _ _;iterate 3 (refine nxT (v:=?_) rfl rfl hHeld ?_ ?_;rotate_left;(· (intro w hSw;(try dsimp only at hSw);go_simp;try with_reducible rfl));(try simp only[nx,List.set]))
  (refine nxT (v:=?_) rfl rfl hHeld ?_ ?_;rotate_left;(· (intro w hSw;(try dsimp only at hSw);have q0:=Sc.c0 hSw.1;have q1:=Sc.c1 hSw.1;go_simp;try with_reducible rfl));(try simp only[nx,List.set]));iterate 3 (refine nxT (v:=?_) rfl rfl hHeld ?_ ?_;rotate_left;(· (intro w hSw;(try dsimp only at hSw);go_simp;try with_reducible rfl));(try simp only[nx,List.set]))
  (refine nxT (v:=?_) rfl rfl hHeld ?_ ?_;rotate_left;(· (intro w hSw;(try dsimp only at hSw);have q0:=Sc.c0 hSw.1;have q1:=Sc.c1 hSw.1;go_simp;try with_reducible rfl));(try simp only[nx,List.set]));iterate 6 (refine nxT (v:=?_) rfl rfl hHeld ?_ ?_;rotate_left;(· (intro w hSw;(try dsimp only at hSw);go_simp;try with_reducible rfl));(try simp only[nx,List.set]))
  (refine nxT (v:=?_) rfl rfl hHeld ?_ ?_;rotate_left;(· (intro w hSw;(try dsimp only at hSw);have q0:=Sc.c0 hSw.1;have q1:=Sc.c1 hSw.1;go_simp;try with_reducible rfl));(try simp only[nx,List.set]));iterate 3 (refine nxT (v:=?_) rfl rfl hHeld ?_ ?_;rotate_left;(· (intro w hSw;(try dsimp only at hSw);go_simp;try with_reducible rfl));(try simp only[nx,List.set]))
  (refine nxT (v:=?_) rfl rfl hHeld ?_ ?_;rotate_left;(· (intro w hSw;(try dsimp only at hSw);have q0:=Sc.c0 hSw.1;have q1:=Sc.c1 hSw.1;go_simp;try with_reducible rfl));(try simp only[nx,List.set]));(refine nxT (v:=?_) rfl rfl hHeld ?_ ?_;rotate_left;(· (intro w hSw;(try dsimp only at hSw);go_simp;try with_reducible rfl));(try simp only[nx,List.set]));refine held_call (i:=20) rfl (by kernel_rfl) (by kernel_rfl) (fun K hK=>?_);go_simp
  go_at_call 122
  refine (HSP.out _).mono ?_;rintro e w' ⟨rfl,rfl⟩;(try dsimp only);refine hK.out _ _ ?_ (fun hHeld'=>?_)
  ·(try dsimp only)
   first|exact⟨Blk.drew HK.out,But.drew HB.out⟩|exact⟨Blk.go hHeld.1 hb,But.go hHeld.2 hb⟩|exact hHeld
  clear hK K hHeld;have hHeld:=hHeld';clear hHeld';(try simp only[Act.put,List.setIfInBounds_toArray,List.set_cons_zero,List.set_cons_succ]);(refine nxT (v:=?_) rfl rfl hHeld ?_ ?_;rotate_left;(· (intro w hSw;(try dsimp only at hSw);go_simp;try with_reducible rfl));(try simp only[nx,List.set]));refine wpAnyH_done (by kernel_rfl) ?_ _;have K1:=hide hHeld.1;have B1:=hide hHeld.2;have q1:=Sc.c1 hHeld.1;clear hHeld;go_wp2;go_ret;exact⟨ret_eq1 (bool_eq (by rw[HKE.out];simp)),by rw[←HKE.out];exact K1.out,B1.out⟩

theorem isp_any(w:World)(X:Nat)(s q:ByteArray)(k:Nat)(hX:Sc w X s k)(ha:k≤s.size)(hs:s.size≤1000000000)(hq:q.size≤1000) :
  Calls Tryz.prog 119 #[.pointer (some ⟨X,0,none⟩),.string q] w fun e w'=>e=.returned (.bool (q.data.toList.isPrefixOf (s.data.toList.drop k)))∧Sc w' X s (if q.data.toList.isPrefixOf (s.data.toList.drop k)=true then k+q.size else k)∧But X w w':=by
 have HP:=hide (show ∀W,Calls Tryz.prog 126 #[.string (s.extract k s.size),.string q] W fun e w'=>e=.returned (.bool (q.data.toList.isPrefixOf (s.data.toList.drop k)))∧w'=W from fun W=>by
  have h:=Tryz.strings_HasPrefix (s.extract k s.size) q W;rw[extract_end,bstr_list] at h;rw[extract_end];exact h)
 generalize q.data.toList.isPrefixOf (s.data.toList.drop k)=b at *
 have HK:=hide hX;have HB:=hide (But.refl X w);have hns:¬s.size<k:=by omega
 clear hX
 go_enter Tryz.func119,Tryz.ntmps119
 go_wp2;refine wp_region_held_drew (S:=fun W=>Sc W X s k∧But X w W) (by kernel_rfl) ?_ (fun hHeld=>?_)
 ·(try dsimp only)
  first|exact⟨Blk.drew HK.out,But.drew HB.out⟩|exact⟨Blk.go hHeld.1 hb,But.go hHeld.2 hb⟩|exact hHeld
 change wpAnyH _ _ _ _ _ 12 #[false,false,false,false,false,false,false,false,false,false,false,false] _ _;iterate 3 (refine nxT (v:=?_) rfl rfl hHeld ?_ ?_;rotate_left;(· (intro w hSw;(try dsimp only at hSw);go_simp;try with_reducible rfl));(try simp only[nx,List.set]))
 (refine nxT (v:=?_) rfl rfl hHeld ?_ ?_;rotate_left;(· (intro w hSw;(try dsimp only at hSw);have q0:=Sc.c0 hSw.1;have q1:=Sc.c1 hSw.1;go_simp;try with_reducible rfl));(try simp only[nx,List.set]));iterate 3 (refine nxT (v:=?_) rfl rfl hHeld ?_ ?_;rotate_left;(· (intro w hSw;(try dsimp only at hSw);go_simp;try with_reducible rfl));(try simp only[nx,List.set]))
 (refine nxT (v:=?_) rfl rfl hHeld ?_ ?_;rotate_left;(· (intro w hSw;(try dsimp only at hSw);have q0:=Sc.c0 hSw.1;have q1:=Sc.c1 hSw.1;go_simp;try with_reducible rfl));(try simp only[nx,List.set]));iterate 2 (refine nxT (v:=?_) rfl rfl hHeld ?_ ?_;rotate_left;(· (intro w hSw;(try dsimp only at hSw);go_simp;try with_reducible rfl));(try simp only[nx,List.set]))
 refine held_call (i:=10) rfl (by kernel_rfl) (by kernel_rfl) (fun K hK=>?_);go_simp
 go_at_call 126
 refine (HP.out _).mono ?_;rintro e w' ⟨rfl,rfl⟩;(try dsimp only);refine hK.out _ _ ?_ (fun hHeld'=>?_)
 ·(try dsimp only)
  first|exact⟨Blk.drew HK.out,But.drew HB.out⟩|exact⟨Blk.go hHeld.1 hb,But.go hHeld.2 hb⟩|exact hHeld
 clear hK K hHeld;have hHeld:=hHeld';clear hHeld';(try simp only[Act.put,List.setIfInBounds_toArray,List.set_cons_zero,List.set_cons_succ]);(refine nxT (v:=?_) rfl rfl hHeld ?_ ?_;rotate_left;(· (intro w hSw;(try dsimp only at hSw);go_simp;try with_reducible rfl));(try simp only[nx,List.set]));refine wpAnyH_done (by kernel_rfl) ?_ _;have K1:=hide hHeld.1;have B1:=hide hHeld.2;have q1:=Sc.c1 hHeld.1;have f1:=Sc.f1 hHeld.1;clear hHeld
 cases b with
 | true=>
  go_wp2;go_ret;exact⟨rfl,Blk.drew (Sc.move HK.out (k+q.size)),((But.refl X w).setCell (.inl rfl) _).drew⟩
 | false=>
  go_wp2;go_ret;exact⟨rfl,K1.out,B1.out⟩

theorem lt_of_cell{w:World}{a:Addr}{v:Value}(h:w.cell? a=some v):a.block<w.heap.size:=by
 by_cases hb:a.block<w.heap.size
 ·exact hb
 exfalso
 have hn:w.heap[a.block]?=none:=Array.getElem?_eq_none (by omega);unfold World.cell? at h;simp[hn] at h
structure Gm(w:World):Prop where
 most:∃m,w.cell? ⟨0,0,none⟩=some (.int .i64 m)
structure Gl(w:World):Prop where
 most:∃m,w.cell? ⟨0,0,none⟩=some (.int .i64 m)
 fold:∀p∈([(120,88),(88,120),(109,77),(77,109),(108,76),(76,108)]:List (Nat×Int)),w.cell? ⟨3,p.1,none⟩=some (.int .u16 p.2)
theorem Gl.m{w:World}(h:Gl w):Gm w:=⟨h.most⟩
theorem Gl.keep{w w':World}(h:Gl w)(hk:∀g i v,g<6→w.cell? ⟨g,i,none⟩=some v→w'.cell? ⟨g,i,none⟩=some v):Gl w' :=
 ⟨by obtain⟨m,hm⟩:=h.most;exact⟨m,hk _ _ _ (by decide) hm⟩,fun p hp=>hk _ _ _ (by decide) (h.fold p hp)⟩
theorem Gl.below{w w':World}(h:Gl w)(hb:Below w.heap.size w w'):Gl w':=h.keep fun g i v _ hv=>(hb.cell (lt_of_cell hv)).trans hv
theorem Gl.but{w w':World}{X:Nat}(h:Gl w)(hb:But X w w')(hX:6≤X):Gl w':=h.keep fun g i v hg hv=>
 (World.cell?_of_block (a:=⟨g,i,none⟩) (hb.block g (lt_of_cell hv) (by omega))).trans hv
theorem till_runm(s q:ByteArray)(w:World)(hg:Gm w)(hs:s.size≤1000000000) :
  Calls Tryz.prog 98 #[.string s,.string q] w fun e w'=>e=.returned (.int .i64 (Lib.index s.data.toList q.data.toList))∧w'=w:=by
 obtain⟨m,hm⟩:=hg.most;exact Tryz.strings_Index s q m w (by omega) hm
theorem till_run(s q:ByteArray)(w:World)(hg:Gl w)(hs:s.size≤1000000000) :
  Calls Tryz.prog 98 #[.string s,.string q] w fun e w'=>e=.returned (.int .i64 (Lib.index s.data.toList q.data.toList))∧w'=w:=till_runm s q w hg.m hs

theorem index_fits{s q:L}(h:0≤Lib.index s q):Lib.index s q+q.length≤s.length:=by
 induction s with
 | nil=>
  unfold Lib.index at h ⊢
  cases q with
  | nil=>simp
  | cons a q=>simp at h
 | cons c l ih=>
  unfold Lib.index at h ⊢;split
  ·rename_i hp
   have:=List.IsPrefix.length_le (List.isPrefixOf_iff_prefix.1 hp);simp at this ⊢;omega
  rename_i hp
  rw[if_neg hp] at h;split
  ·rename_i h1
   rw[if_pos h1] at h;omega
  rename_i h1
  rw[if_neg h1] at h;have h2:=Lib.index_ge l q;have h3:Lib.index l q≠-1:=by simpa using h1
  have:=ih (by omega);simp;omega

theorem till_some{q d:L}{n:Nat}(h:till q d=some n):Lib.index d q=n∧n+q.length≤d.length:=by
 unfold till at h
 split at h
 ·cases h
 rename_i hb
 have:=index_fits (s:=d) (q:=q) (by omega);simp only[Option.some.injEq] at h;omega
theorem till_none{q d:L}(h:till q d=none):Lib.index d q<0:=by
 unfold till at h
 split at h
 ·assumption
 cases h

theorem till_no(w:World)(X:Nat)(s q:ByteArray)(k:Nat)(h:till q.data.toList (s.data.toList.drop k)=none)(hX:Sc w X s k)(hX6:6≤X)(hg:Gl w)(ha:k≤s.size)(hs:s.size≤1000000000)(hq:q.size≤1000) :
  Calls Tryz.prog 121 #[.pointer (some ⟨X,0,none⟩),.string q] w fun e w'=>e=.returned (.tuple #[.string ⟨#[]⟩,.bool false])∧Sc w' X s k∧But X w w':=by
 have HP:=hide (show ∀W,Gl W→Calls Tryz.prog 98 #[.string (s.extract k s.size),.string q] W fun e w'=>e=.returned (.int .i64 (Lib.index (s.data.toList.drop k) q.data.toList))∧w'=W from fun W hW=>by
  have h:=till_run (s.extract k s.size) q W hW (by rw[ByteArray.size_extract];omega);rw[extract_end,bstr_list] at h;rw[extract_end];exact h)
 have hb:=till_none h;generalize Lib.index (s.data.toList.drop k) q.data.toList=b at *
 clear h;have HK:=hide hX;have HB:=hide (But.refl X w);have HGl:=hide hg;have hns:¬s.size<k:=by omega
 clear hX hg
 go_enter Tryz.func121,Tryz.ntmps121
 go_wp2;refine wp_region_held_drew (S:=fun W=>Sc W X s k∧But X w W) (by kernel_rfl) ?_ (fun hHeld=>?_)
 ·(try dsimp only)
  first|exact⟨Blk.drew HK.out,But.drew HB.out⟩|exact⟨Blk.go hHeld.1 hb,But.go hHeld.2 hb⟩|exact hHeld
 change wpAnyH _ _ _ _ _ 12 #[false,false,false,false,false,false,false,false,false,false,false,false] _ _;iterate 3 (refine nxT (v:=?_) rfl rfl hHeld ?_ ?_;rotate_left;(· (intro w hSw;(try dsimp only at hSw);go_simp;try with_reducible rfl));(try simp only[nx,List.set]))
 (refine nxT (v:=?_) rfl rfl hHeld ?_ ?_;rotate_left;(· (intro w hSw;(try dsimp only at hSw);have q0:=Sc.c0 hSw.1;have q1:=Sc.c1 hSw.1;go_simp;try with_reducible rfl));(try simp only[nx,List.set]));iterate 3 (refine nxT (v:=?_) rfl rfl hHeld ?_ ?_;rotate_left;(· (intro w hSw;(try dsimp only at hSw);go_simp;try with_reducible rfl));(try simp only[nx,List.set]))
 (refine nxT (v:=?_) rfl rfl hHeld ?_ ?_;rotate_left;(· (intro w hSw;(try dsimp only at hSw);have q0:=Sc.c0 hSw.1;have q1:=Sc.c1 hSw.1;go_simp;try with_reducible rfl));(try simp only[nx,List.set]));iterate 2 (refine nxT (v:=?_) rfl rfl hHeld ?_ ?_;rotate_left;(· (intro w hSw;(try dsimp only at hSw);go_simp;try with_reducible rfl));(try simp only[nx,List.set]))
 refine held_call (i:=10) rfl (by kernel_rfl) (by kernel_rfl) (fun K hK=>?_);go_simp
 go_at_call 98
 refine (HP.out _ (HGl.out.but hHeld.2 hX6)).mono ?_;rintro e w' ⟨rfl,rfl⟩;(try dsimp only);refine hK.out _ _ ?_ (fun hHeld'=>?_)
 ·(try dsimp only)
  first|exact⟨Blk.drew HK.out,But.drew HB.out⟩|exact⟨Blk.go hHeld.1 hb,But.go hHeld.2 hb⟩|exact hHeld
 clear hK K hHeld;have hHeld:=hHeld';clear hHeld';(try simp only[Act.put,List.setIfInBounds_toArray,List.set_cons_zero,List.set_cons_succ]);(refine nxT (v:=?_) rfl rfl hHeld ?_ ?_;rotate_left;(· (intro w hSw;(try dsimp only at hSw);go_simp;try with_reducible rfl));(try simp only[nx,List.set]));refine wpAnyH_done (by kernel_rfl) ?_ _;go_wp2;go_ret2;exact⟨rfl,hHeld.1,hHeld.2⟩

theorem till_yes(w:World)(X:Nat)(s q:ByteArray)(k:Nat)(n:Nat)(h:till q.data.toList (s.data.toList.drop k)=some n)(hX:Sc w X s k)(hX6:6≤X)(hg:Gl w)(ha:k≤s.size)(hs:s.size≤1000000000)(hq:q.size≤1000) :
  Calls Tryz.prog 121 #[.pointer (some ⟨X,0,none⟩),.string q] w fun e w'=>e=.returned (.tuple #[.string (s.extract k (k+n)),.bool true])∧Sc w' X s (k+n+q.size)∧But X w w':=by
 have HP:=hide (show ∀W,Gl W→Calls Tryz.prog 98 #[.string (s.extract k s.size),.string q] W fun e w'=>e=.returned (.int .i64 (Lib.index (s.data.toList.drop k) q.data.toList))∧w'=W from fun W hW=>by
  have h:=till_run (s.extract k s.size) q W hW (by rw[ByteArray.size_extract];omega);rw[extract_end,bstr_list] at h;rw[extract_end];exact h)
 obtain⟨hb,hn⟩:=till_some h;rw[hb] at HP;rw[List.length_drop,size_list,size_list] at hn;clear h hb;have HK:=hide hX;have HB:=hide (But.refl X w);have HGl:=hide hg;have hns:¬s.size<k:=by omega
 clear hX hg
 go_enter Tryz.func121,Tryz.ntmps121
 go_wp2;refine wp_region_held_drew (S:=fun W=>Sc W X s k∧But X w W) (by kernel_rfl) ?_ (fun hHeld=>?_)
 ·(try dsimp only)
  first|exact⟨Blk.drew HK.out,But.drew HB.out⟩|exact⟨Blk.go hHeld.1 hb,But.go hHeld.2 hb⟩|exact hHeld
 change wpAnyH _ _ _ _ _ 12 #[false,false,false,false,false,false,false,false,false,false,false,false] _ _;iterate 3 (refine nxT (v:=?_) rfl rfl hHeld ?_ ?_;rotate_left;(· (intro w hSw;(try dsimp only at hSw);go_simp;try with_reducible rfl));(try simp only[nx,List.set]))
 (refine nxT (v:=?_) rfl rfl hHeld ?_ ?_;rotate_left;(· (intro w hSw;(try dsimp only at hSw);have q0:=Sc.c0 hSw.1;have q1:=Sc.c1 hSw.1;go_simp;try with_reducible rfl));(try simp only[nx,List.set]));iterate 3 (refine nxT (v:=?_) rfl rfl hHeld ?_ ?_;rotate_left;(· (intro w hSw;(try dsimp only at hSw);go_simp;try with_reducible rfl));(try simp only[nx,List.set]))
 (refine nxT (v:=?_) rfl rfl hHeld ?_ ?_;rotate_left;(· (intro w hSw;(try dsimp only at hSw);have q0:=Sc.c0 hSw.1;have q1:=Sc.c1 hSw.1;go_simp;try with_reducible rfl));(try simp only[nx,List.set]));iterate 2 (refine nxT (v:=?_) rfl rfl hHeld ?_ ?_;rotate_left;(· (intro w hSw;(try dsimp only at hSw);go_simp;try with_reducible rfl));(try simp only[nx,List.set]))
 refine held_call (i:=10) rfl (by kernel_rfl) (by kernel_rfl) (fun K hK=>?_);go_simp
 go_at_call 98
 refine (HP.out _ (HGl.out.but hHeld.2 hX6)).mono ?_;rintro e w' ⟨rfl,rfl⟩;(try dsimp only);refine hK.out _ _ ?_ (fun hHeld'=>?_)
 ·(try dsimp only)
  first|exact⟨Blk.drew HK.out,But.drew HB.out⟩|exact⟨Blk.go hHeld.1 hb,But.go hHeld.2 hb⟩|exact hHeld
 clear hK K hHeld;have hHeld:=hHeld';clear hHeld';(try simp only[Act.put,List.setIfInBounds_toArray,List.set_cons_zero,List.set_cons_succ]);(refine nxT (v:=?_) rfl rfl hHeld ?_ ?_;rotate_left;(· (intro w hSw;(try dsimp only at hSw);go_simp;try with_reducible rfl));(try simp only[nx,List.set]));refine wpAnyH_done (by kernel_rfl) ?_ _;have HK2:=hide hHeld.1;have HB2:=hide hHeld.2;clear hHeld HP HK HB;have h0:¬((n:Int)<0):=by omega
 have h1:k+n≤s.size:=by omega
 have h2:¬s.size<k+n:=by omega
 have hw:IntKind.i64.wrap ((k:Int)+n)=(k:Int)+n:=IntWalk.i64_in _ (by omega);have h4:(0:Int)≤(k:Int)+n∧(k:Int)+n≤(s.size:Int):=by omega
 have h5:(k:Int)≤(k:Int)+n:=by omega
 have h6:((k:Int)+n).toNat=k+n:=by omega
 go_wp2;refine wp_region_held_drew (S:=fun W=>Sc W X s k∧But X w W) (by kernel_rfl) ?_ (fun hHeld=>?_)
 ·(try dsimp only)
  first|exact⟨Blk.drew HK2.out,But.drew HB2.out⟩|exact⟨Blk.go hHeld.1 hb,But.go hHeld.2 hb⟩|exact hHeld
 change wpAnyH _ _ _ _ _ 16 #[false,false,false,false,false,false,false,false,false,false,false,false,false,false,false,false] _ _;iterate 3 (refine nxT (v:=?_) rfl rfl hHeld ?_ ?_;rotate_left;(· (intro w hSw;(try dsimp only at hSw);go_simp;try with_reducible rfl));(try simp only[nx,List.set]))
 (refine nxT (v:=?_) rfl rfl hHeld ?_ ?_;rotate_left;(· (intro w hSw;(try dsimp only at hSw);have q0:=Sc.c0 hSw.1;have q1:=Sc.c1 hSw.1;go_simp;try with_reducible rfl));(try simp only[nx,List.set]));iterate 3 (refine nxT (v:=?_) rfl rfl hHeld ?_ ?_;rotate_left;(· (intro w hSw;(try dsimp only at hSw);go_simp;try with_reducible rfl));(try simp only[nx,List.set]))
 (refine nxT (v:=?_) rfl rfl hHeld ?_ ?_;rotate_left;(· (intro w hSw;(try dsimp only at hSw);have q0:=Sc.c0 hSw.1;have q1:=Sc.c1 hSw.1;go_simp;try with_reducible rfl));(try simp only[nx,List.set]));iterate 3 (refine nxT (v:=?_) rfl rfl hHeld ?_ ?_;rotate_left;(· (intro w hSw;(try dsimp only at hSw);go_simp;try with_reducible rfl));(try simp only[nx,List.set]))
 (refine nxT (v:=?_) rfl rfl hHeld ?_ ?_;rotate_left;(· (intro w hSw;(try dsimp only at hSw);have q0:=Sc.c0 hSw.1;have q1:=Sc.c1 hSw.1;go_simp;try with_reducible rfl));(try simp only[nx,List.set]));iterate 4 (refine nxT (v:=?_) rfl rfl hHeld ?_ ?_;rotate_left;(· (intro w hSw;(try dsimp only at hSw);go_simp;try with_reducible rfl));(try simp only[nx,List.set]))
 refine wpAnyH_done (by kernel_rfl) ?_ _;have K1:=hide hHeld.1;have B1:=hide hHeld.2;have q1:=Sc.c1 hHeld.1;have f1:=Sc.f1 hHeld.1;clear hHeld;go_wp2;go_ret2;exact⟨rfl,by rw[Nat.add_assoc];exact Sc.move K1.out (k+(n+q.size)),B1.out.setCell (.inl rfl) _⟩
end
end Go.Proofs.YtifiiojchlaghaaGreatDoor
