/- Tokens: the scan's small methods, walked. (Printed by wip/genTkA.py.) And more. -/
import Derived.Test.YtifiiojchlaghaaGreatDoorOm00
import Derived.Test.YtifiiojchlaghaaGreatDoorOm01
import Derived.Test.YtifiiojchlaghaaGreatDoorShelf
import Derived.Deep.QuietTactic
import Derived.BigQuiet
import Derived.Deep.LoopGhost
import Derived.WalkSpells
import Derived.WalkLawsBesides
import Derived.Laws.IdiomStrings
set_option linter.unusedSimpArgs false
set_option maxHeartbeats 8000000
set_option linter.unusedVariables false
namespace Go.Proofs.YtifiiojchlaghaaGreatDoor
section
open Go.RowKit Tk

def Sc(w:World)(X:Nat)(s:ByteArray)(k:Nat):Prop:=ae w X 143 #[.string s,.int .i64 (k:Int)]
theorem Sc.c0{w:World}{X:Nat}{s:ByteArray}{k:Nat}(h:Sc w X s k):w.cell? ⟨X,0,none⟩=some (.string s):=ae.cell h 0
theorem Sc.c1{w:World}{X:Nat}{s:ByteArray}{k:Nat}(h:Sc w X s k):w.cell? ⟨X,1,none⟩=some (.int .i64 (k:Int)):=ae.cell h 1
theorem Sc.f1{w:World}{X:Nat}{s:ByteArray}{k:Nat}(h:Sc w X s k):w.frozen? ⟨X,1,none⟩=false:=ae.frozen h 1
theorem Sc.move{w:World}{X:Nat}{s:ByteArray}{k:Nat}(h:Sc w X s k)(j:Nat):Sc (w.setCell ⟨X,1,none⟩ (.int .i64 (j:Int))) X s j:=by
 have:=ae.aG h 1 (.int .i64 (j:Int))
 simpa[Sc] using this
theorem vR(s:ByteArray)(k:Nat)(c:UInt8)(h:s.data.toList[k]?=some c)(w:World):(Instr.index 9 (.string s) (.int .i64 (k:Int))).run Tryz.prog w=.ok (.int .u8 (c.toNat:Nat)) w:=by
 obtain⟨hk,hc⟩:=List.getElem?_eq_some_iff.1 h;rw[b9] at hk;have hc':s[k]=c:=hc;go_simp
theorem afZ(l:L)(j:Nat)(h:j<aQ l):∃c,l[j]?=some c∧sp c=true:=by
 induction l generalizing j with
 | nil=>simp[aQ] at h
 | cons c l ih=>
  unfold aQ at h;rw[List.takeWhile_cons] at h
  split at h
  ·rename_i hc
   cases j with
   | zero=>exact⟨c,rfl,hc⟩
   | succ j=>exact ih j (by simpa[aQ] using h)
  simp at h
theorem af0(l:L):l.length=aQ l∨∃c,l[aQ l]?=some c∧sp c=false:=by
 induction l with
 | nil=>left;rfl
 | cons c l ih=>
  unfold aQ;rw[List.takeWhile_cons];split
  ·rcases ih with h|⟨d,h1,h2⟩
   ·left;simpa[aQ] using h
   right;exact⟨d,by simpa[aQ] using h1,h2⟩
  rename_i hc
  right
  exact⟨c,rfl,by simpa using hc⟩
theorem Bw(l:L):aQ l≤l.length:=by
 unfold aQ;exact (List.takeWhile_sublist sp).length_le

theorem Dh(w:World)(X:Nat)(s:ByteArray)(at_:Nat)(hX:Sc w X s at_)(ha:at_≤s.size)(hs:s.size≤1000000000) :
  Calls Tryz.prog 118 #[.pointer (some ⟨X,0,none⟩)] w fun e w'=>e=.returned (.bool (decide (0<aQ (s.data.toList.drop at_))))∧Sc w' X s (at_+aQ (s.data.toList.drop at_))∧ai X w w':=by
 obtain⟨N,hN⟩:∃N,aQ (s.data.toList.drop at_)=N:=⟨_,rfl⟩
 have HL:=hide (show at_+N≤s.size from by
  have:=Bw (s.data.toList.drop at_);rw[List.length_drop,b9,hN] at this
  omega)
 have HI:=hide fun j (hj:j<N)=>(show ∃c,s.data.toList[at_+j]?=some c∧sp c=true from by
  obtain⟨c,h1,h2⟩:=afZ (s.data.toList.drop at_) j (by rw[hN];exact hj);exact⟨c,by rwa[List.getElem?_drop] at h1,h2⟩)
 have HE:=hide (show s.size=at_+N∨∃c,s.data.toList[at_+N]?=some c∧sp c=false from by
  rcases af0 (s.data.toList.drop at_) with h|⟨c,h1,h2⟩
  ·left
   rw[List.length_drop,b9,hN] at h;omega
  right
  rw[hN] at h1;exact⟨c,by rwa[List.getElem?_drop] at h1,h2⟩)
 rw[hN];have q0:w.cell? ⟨X,0,none⟩=some (.string s):=ae.cell hX 0;have q1:w.cell? ⟨X,1,none⟩=some (.int .i64 (at_:Int)):=ae.cell hX 1;have HX:=hide hX;clear hX hN
 go_enter Tryz.func118,Tryz.ntmps118
 go_wp2;clear q0 q1
 go_loopg [] N (fun g wr=>∃k:Nat,g=at_+N-k∧at_≤k∧k≤at_+N∧Sc wr X s k∧ai X w wr)
 case atStart=>exact⟨at_,by omega,by omega,by omega,HX.out,ai.refl _ _⟩
 case round=>
  obtain⟨k,hg,iQ,cC,hK,hB⟩:=hrel;have Hg:=hide hg;have HK:=hide hK;have HB:=hide hB;have cm:k≤s.size:=by have:=HL.out;omega
  clear hg hK hB
  by_cases hlt:k<at_+N
  ·obtain⟨c,hc,hsp⟩:=HI.out (k-at_) (by omega);rw[show at_+(k-at_)=k by omega] at hc;have SJ:k<s.size:=by have:=HL.out;omega
   have yX:=hide (Wx c);rw[hsp] at yX;have xG:=vR s k c hc;clear hc hsp;go_wp2;refine wp_region_held_drew (S:=fun W=>Sc W X s k∧ai X w W) (by kernel_rfl) ?_ (fun hHeld=>?_)
   ·(try dsimp only)
    first|exact⟨ae.drew HK.out,ai.drew HB.out⟩|exact⟨ae.go hHeld.1 hb,ai.go hHeld.2 hb⟩|exact hHeld
   change wpAnyH _ _ _ _ _ 22 #[false,false,false,false,false,false,false,false,false,false,false,false,false,false,false,false,false,false,false,false,false,false] _ _;iterate 3 (refine aB (v:=?_) rfl rfl hHeld ?_ ?_;rotate_left;(· (intro w hSw;(try dsimp only at hSw);go_simp;try with_reducible rfl));(try simp only[nx,List.set]))
   (refine aB (v:=?_) rfl rfl hHeld ?_ ?_;rotate_left;(· (intro w hSw;(try dsimp only at hSw);have q0:=Sc.c0 hSw.1;have q1:=Sc.c1 hSw.1;go_simp;try with_reducible rfl));(try simp only[nx,List.set]));iterate 3 (refine aB (v:=?_) rfl rfl hHeld ?_ ?_;rotate_left;(· (intro w hSw;(try dsimp only at hSw);go_simp;try with_reducible rfl));(try simp only[nx,List.set]))
   (refine aB (v:=?_) rfl rfl hHeld ?_ ?_;rotate_left;(· (intro w hSw;(try dsimp only at hSw);have q0:=Sc.c0 hSw.1;have q1:=Sc.c1 hSw.1;go_simp;try with_reducible rfl));(try simp only[nx,List.set]));iterate 6 (refine aB (v:=?_) rfl rfl hHeld ?_ ?_;rotate_left;(· (intro w hSw;(try dsimp only at hSw);go_simp;try with_reducible rfl));(try simp only[nx,List.set]))
   (refine aB (v:=?_) rfl rfl hHeld ?_ ?_;rotate_left;(· (intro w hSw;(try dsimp only at hSw);have q0:=Sc.c0 hSw.1;have q1:=Sc.c1 hSw.1;go_simp;try with_reducible rfl));(try simp only[nx,List.set]));iterate 3 (refine aB (v:=?_) rfl rfl hHeld ?_ ?_;rotate_left;(· (intro w hSw;(try dsimp only at hSw);go_simp;try with_reducible rfl));(try simp only[nx,List.set]))
   (refine aB (v:=?_) rfl rfl hHeld ?_ ?_;rotate_left;(· (intro w hSw;(try dsimp only at hSw);have q0:=Sc.c0 hSw.1;have q1:=Sc.c1 hSw.1;go_simp;try with_reducible rfl));(try simp only[nx,List.set]));(refine aB (v:=?_) rfl rfl hHeld ?_ ?_;rotate_left;(· (intro w hSw;(try dsimp only at hSw);go_simp;try with_reducible rfl));(try simp only[nx,List.set]));refine jr (i:=20) rfl (by kernel_rfl) (by kernel_rfl) (fun K hK=>?_);go_simp
   go_at_call 122
   refine (yX.out _).mono ?_;rintro e w' ⟨rfl,rfl⟩;(try dsimp only);refine hK.out _ _ ?_ (fun bc=>?_)
   ·(try dsimp only)
    first|exact⟨ae.drew HK.out,ai.drew HB.out⟩|exact⟨ae.go hHeld.1 hb,ai.go hHeld.2 hb⟩|exact hHeld
   clear hK K hHeld;have hHeld:=bc;clear bc;(try simp only[Act.put,List.setIfInBounds_toArray,List.set_cons_zero,List.set_cons_succ]);(refine aB (v:=?_) rfl rfl hHeld ?_ ?_;rotate_left;(· (intro w hSw;(try dsimp only at hSw);go_simp;try with_reducible rfl));(try simp only[nx,List.set]));refine wpAnyH_done (by kernel_rfl) ?_ _;have K1:=hide hHeld.1;have B1:=hide hHeld.2;have q1:=Sc.c1 hHeld.1;have f1:=Sc.f1 hHeld.1;clear hHeld;go_wp2
   go_roundg (at_+N-(k+1))
   case measure=>have:=Hg.out;omega
   case rel=>exact⟨k+1,by omega,by omega,by omega,Sc.move K1.out (k+1),B1.out.setCell (.inl rfl) _⟩
  have xJ:k=at_+N:=by omega
  rcases HE.out with he|⟨c,hc,hsp⟩
  ·have SJ:¬k<s.size:=by omega
   have yM:=hide xJ;clear xJ he hlt;go_wp2;refine wp_region_held_drew (S:=fun W=>Sc W X s k∧ai X w W) (by kernel_rfl) ?_ (fun hHeld=>?_)
   ·(try dsimp only)
    first|exact⟨ae.drew HK.out,ai.drew HB.out⟩|exact⟨ae.go hHeld.1 hb,ai.go hHeld.2 hb⟩|exact hHeld
   change wpAnyH _ _ _ _ _ 22 #[false,false,false,false,false,false,false,false,false,false,false,false,false,false,false,false,false,false,false,false,false,false] _ _;iterate 3 (refine aB (v:=?_) rfl rfl hHeld ?_ ?_;rotate_left;(· (intro w hSw;(try dsimp only at hSw);go_simp;try with_reducible rfl));(try simp only[nx,List.set]))
   (refine aB (v:=?_) rfl rfl hHeld ?_ ?_;rotate_left;(· (intro w hSw;(try dsimp only at hSw);have q0:=Sc.c0 hSw.1;have q1:=Sc.c1 hSw.1;go_simp;try with_reducible rfl));(try simp only[nx,List.set]));iterate 3 (refine aB (v:=?_) rfl rfl hHeld ?_ ?_;rotate_left;(· (intro w hSw;(try dsimp only at hSw);go_simp;try with_reducible rfl));(try simp only[nx,List.set]))
   (refine aB (v:=?_) rfl rfl hHeld ?_ ?_;rotate_left;(· (intro w hSw;(try dsimp only at hSw);have q0:=Sc.c0 hSw.1;have q1:=Sc.c1 hSw.1;go_simp;try with_reducible rfl));(try simp only[nx,List.set]));iterate 3 (refine aB (v:=?_) rfl rfl hHeld ?_ ?_;rotate_left;(· (intro w hSw;(try dsimp only at hSw);go_simp;try with_reducible rfl));(try simp only[nx,List.set]))
   iterate 10 (refine vY rfl rfl hHeld ?_;(try simp only[nx,List.set]))
   (refine aB (v:=?_) rfl rfl hHeld ?_ ?_;rotate_left;(· (intro w hSw;(try dsimp only at hSw);go_simp;try with_reducible rfl));(try simp only[nx,List.set]));refine wpAnyH_done (by kernel_rfl) ?_ _;have K1:=hide hHeld.1;have B1:=hide hHeld.2;have q1:=Sc.c1 hHeld.1;clear hHeld;go_wp2;go_ret;exact⟨aU (dw (by rw[yM.out];simp)),by rw[←yM.out];exact K1.out,B1.out⟩
  rw[←xJ] at hc
  have SJ:k<s.size:=by
   have:=(List.getElem?_eq_some_iff.1 hc).1;rwa[b9] at this
  have yX:=hide (Wx c);rw[hsp] at yX;have xG:=vR s k c hc;have yM:=hide xJ;clear hc hsp xJ hlt;go_wp2;refine wp_region_held_drew (S:=fun W=>Sc W X s k∧ai X w W) (by kernel_rfl) ?_ (fun hHeld=>?_)
  ·(try dsimp only)
   first|exact⟨ae.drew HK.out,ai.drew HB.out⟩|exact⟨ae.go hHeld.1 hb,ai.go hHeld.2 hb⟩|exact hHeld
  change wpAnyH _ _ _ _ _ 22 #[false,false,false,false,false,false,false,false,false,false,false,false,false,false,false,false,false,false,false,false,false,false] _ _;iterate 3 (refine aB (v:=?_) rfl rfl hHeld ?_ ?_;rotate_left;(· (intro w hSw;(try dsimp only at hSw);go_simp;try with_reducible rfl));(try simp only[nx,List.set]))
  (refine aB (v:=?_) rfl rfl hHeld ?_ ?_;rotate_left;(· (intro w hSw;(try dsimp only at hSw);have q0:=Sc.c0 hSw.1;have q1:=Sc.c1 hSw.1;go_simp;try with_reducible rfl));(try simp only[nx,List.set]));iterate 3 (refine aB (v:=?_) rfl rfl hHeld ?_ ?_;rotate_left;(· (intro w hSw;(try dsimp only at hSw);go_simp;try with_reducible rfl));(try simp only[nx,List.set]))
  (refine aB (v:=?_) rfl rfl hHeld ?_ ?_;rotate_left;(· (intro w hSw;(try dsimp only at hSw);have q0:=Sc.c0 hSw.1;have q1:=Sc.c1 hSw.1;go_simp;try with_reducible rfl));(try simp only[nx,List.set]));iterate 6 (refine aB (v:=?_) rfl rfl hHeld ?_ ?_;rotate_left;(· (intro w hSw;(try dsimp only at hSw);go_simp;try with_reducible rfl));(try simp only[nx,List.set]))
  (refine aB (v:=?_) rfl rfl hHeld ?_ ?_;rotate_left;(· (intro w hSw;(try dsimp only at hSw);have q0:=Sc.c0 hSw.1;have q1:=Sc.c1 hSw.1;go_simp;try with_reducible rfl));(try simp only[nx,List.set]));iterate 3 (refine aB (v:=?_) rfl rfl hHeld ?_ ?_;rotate_left;(· (intro w hSw;(try dsimp only at hSw);go_simp;try with_reducible rfl));(try simp only[nx,List.set]))
  (refine aB (v:=?_) rfl rfl hHeld ?_ ?_;rotate_left;(· (intro w hSw;(try dsimp only at hSw);have q0:=Sc.c0 hSw.1;have q1:=Sc.c1 hSw.1;go_simp;try with_reducible rfl));(try simp only[nx,List.set]));(refine aB (v:=?_) rfl rfl hHeld ?_ ?_;rotate_left;(· (intro w hSw;(try dsimp only at hSw);go_simp;try with_reducible rfl));(try simp only[nx,List.set]));refine jr (i:=20) rfl (by kernel_rfl) (by kernel_rfl) (fun K hK=>?_);go_simp
  go_at_call 122
  refine (yX.out _).mono ?_;rintro e w' ⟨rfl,rfl⟩;(try dsimp only);refine hK.out _ _ ?_ (fun bc=>?_)
  ·(try dsimp only)
   first|exact⟨ae.drew HK.out,ai.drew HB.out⟩|exact⟨ae.go hHeld.1 hb,ai.go hHeld.2 hb⟩|exact hHeld
  clear hK K hHeld;have hHeld:=bc;clear bc;(try simp only[Act.put,List.setIfInBounds_toArray,List.set_cons_zero,List.set_cons_succ]);(refine aB (v:=?_) rfl rfl hHeld ?_ ?_;rotate_left;(· (intro w hSw;(try dsimp only at hSw);go_simp;try with_reducible rfl));(try simp only[nx,List.set]));refine wpAnyH_done (by kernel_rfl) ?_ _;have K1:=hide hHeld.1;have B1:=hide hHeld.2;have q1:=Sc.c1 hHeld.1;clear hHeld;go_wp2;go_ret;exact⟨aU (dw (by rw[yM.out];simp)),by rw[←yM.out];exact K1.out,B1.out⟩

theorem Bm(w:World)(X:Nat)(s q:ByteArray)(k:Nat)(hX:Sc w X s k)(ha:k≤s.size)(hs:s.size≤1000000000)(hq:q.size≤1000) :
  Calls Tryz.prog 119 #[.pointer (some ⟨X,0,none⟩),.string q] w fun e w'=>e=.returned (.bool (q.data.toList.isPrefixOf (s.data.toList.drop k)))∧Sc w' X s (if q.data.toList.isPrefixOf (s.data.toList.drop k)=true then k+q.size else k)∧ai X w w':=by
 have HP:=hide (show ∀W,Calls Tryz.prog 126 #[.string (s.extract k s.size),.string q] W fun e w'=>e=.returned (.bool (q.data.toList.isPrefixOf (s.data.toList.drop k)))∧w'=W from fun W=>by
  have h:=Tryz.strings_HasPrefix (s.extract k s.size) q W;rw[kj,bg] at h;rw[kj];exact h)
 generalize q.data.toList.isPrefixOf (s.data.toList.drop k)=b at *
 have HK:=hide hX;have HB:=hide (ai.refl X w);have pN:¬s.size<k:=by omega
 clear hX
 go_enter Tryz.func119,Tryz.ntmps119
 go_wp2;refine wp_region_held_drew (S:=fun W=>Sc W X s k∧ai X w W) (by kernel_rfl) ?_ (fun hHeld=>?_)
 ·(try dsimp only)
  first|exact⟨ae.drew HK.out,ai.drew HB.out⟩|exact⟨ae.go hHeld.1 hb,ai.go hHeld.2 hb⟩|exact hHeld
 change wpAnyH _ _ _ _ _ 12 #[false,false,false,false,false,false,false,false,false,false,false,false] _ _;iterate 3 (refine aB (v:=?_) rfl rfl hHeld ?_ ?_;rotate_left;(· (intro w hSw;(try dsimp only at hSw);go_simp;try with_reducible rfl));(try simp only[nx,List.set]))
 (refine aB (v:=?_) rfl rfl hHeld ?_ ?_;rotate_left;(· (intro w hSw;(try dsimp only at hSw);have q0:=Sc.c0 hSw.1;have q1:=Sc.c1 hSw.1;go_simp;try with_reducible rfl));(try simp only[nx,List.set]));iterate 3 (refine aB (v:=?_) rfl rfl hHeld ?_ ?_;rotate_left;(· (intro w hSw;(try dsimp only at hSw);go_simp;try with_reducible rfl));(try simp only[nx,List.set]))
 (refine aB (v:=?_) rfl rfl hHeld ?_ ?_;rotate_left;(· (intro w hSw;(try dsimp only at hSw);have q0:=Sc.c0 hSw.1;have q1:=Sc.c1 hSw.1;go_simp;try with_reducible rfl));(try simp only[nx,List.set]));iterate 2 (refine aB (v:=?_) rfl rfl hHeld ?_ ?_;rotate_left;(· (intro w hSw;(try dsimp only at hSw);go_simp;try with_reducible rfl));(try simp only[nx,List.set]))
 refine jr (i:=10) rfl (by kernel_rfl) (by kernel_rfl) (fun K hK=>?_);go_simp
 go_at_call 126
 refine (HP.out _).mono ?_;rintro e w' ⟨rfl,rfl⟩;(try dsimp only);refine hK.out _ _ ?_ (fun bc=>?_)
 ·(try dsimp only)
  first|exact⟨ae.drew HK.out,ai.drew HB.out⟩|exact⟨ae.go hHeld.1 hb,ai.go hHeld.2 hb⟩|exact hHeld
 clear hK K hHeld;have hHeld:=bc;clear bc;(try simp only[Act.put,List.setIfInBounds_toArray,List.set_cons_zero,List.set_cons_succ]);(refine aB (v:=?_) rfl rfl hHeld ?_ ?_;rotate_left;(· (intro w hSw;(try dsimp only at hSw);go_simp;try with_reducible rfl));(try simp only[nx,List.set]));refine wpAnyH_done (by kernel_rfl) ?_ _;have K1:=hide hHeld.1;have B1:=hide hHeld.2;have q1:=Sc.c1 hHeld.1;have f1:=Sc.f1 hHeld.1;clear hHeld
 cases b with
 | true=>
  go_wp2;go_ret;exact⟨rfl,ae.drew (Sc.move HK.out (k+q.size)),((ai.refl X w).setCell (.inl rfl) _).drew⟩
 | false=>
  go_wp2;go_ret;exact⟨rfl,K1.out,B1.out⟩

theorem bI{w:World}{a:Addr}{v:Value}(h:w.cell? a=some v):a.block<w.heap.size:=by
 by_cases hb:a.block<w.heap.size
 ·exact hb
 exfalso
 have hn:w.heap[a.block]?=none:=Array.getElem?_eq_none (by omega);unfold World.cell? at h;simp[hn] at h
structure Gm(w:World):Prop where
 most:∃m,w.cell? ⟨0,0,none⟩=some (.int .i64 m)
structure Gl(w:World):Prop where
 most:∃m,w.cell? ⟨0,0,none⟩=some (.int .i64 m)
 fold:∀p∈([(120,88),(88,120),(109,77),(77,109),(108,76),(76,108)]:List (Nat×Int)),w.cell? ⟨3,p.1,none⟩=some (.int .u16 p.2)
theorem Gl.m{w:World}(h:Gl w):Gm w:=⟨h.most⟩
theorem Gl.keep{w w':World}(h:Gl w)(hk:∀g i v,g<6→w.cell? ⟨g,i,none⟩=some v→w'.cell? ⟨g,i,none⟩=some v):Gl w' :=
 ⟨by obtain⟨m,hm⟩:=h.most;exact⟨m,hk _ _ _ (by decide) hm⟩,fun p hp=>hk _ _ _ (by decide) (h.fold p hp)⟩
theorem Gl.below{w w':World}(h:Gl w)(hb:Below w.heap.size w w'):Gl w':=h.keep fun g i v _ hv=>(hb.cell (bI hv)).trans hv
theorem Gl.but{w w':World}{X:Nat}(h:Gl w)(hb:ai X w w')(hX:6≤X):Gl w':=h.keep fun g i v hg hv=>
 (World.cell?_of_block (a:=⟨g,i,none⟩) (hb.block g (bI hv) (by omega))).trans hv
theorem aka(s q:ByteArray)(w:World)(hg:Gm w)(hs:s.size≤1000000000) :
  Calls Tryz.prog 98 #[.string s,.string q] w fun e w'=>e=.returned (.int .i64 (Lib.index s.data.toList q.data.toList))∧w'=w:=by
 obtain⟨m,hm⟩:=hg.most;exact Tryz.strings_Index s q m w (by omega) hm
theorem WW(s q:ByteArray)(w:World)(hg:Gl w)(hs:s.size≤1000000000) :
  Calls Tryz.prog 98 #[.string s,.string q] w fun e w'=>e=.returned (.int .i64 (Lib.index s.data.toList q.data.toList))∧w'=w:=aka s q w hg.m hs

theorem aeG{s q:L}(h:0≤Lib.index s q):Lib.index s q+q.length≤s.length:=by
 induction s with
 | nil=>
  unfold Lib.index at h ⊢
  cases q with
  | nil=>simp
  | cons a q=>simp at h
 | cons c l ih=>
  unfold Lib.index at h ⊢;split
  ·rename_i hp
   have:=List.IsPrefix.length_le (List.isPrefixOf_iff_prefix.1 hp);simp at this ⊢;omega
  rename_i hp
  rw[if_neg hp] at h;split
  ·rename_i h1
   rw[if_pos h1] at h;omega
  rename_i h1
  rw[if_neg h1] at h;have h2:=Lib.index_ge l q;have h3:Lib.index l q≠-1:=by simpa using h1
  have:=ih (by omega);simp;omega

theorem FC{q d:L}{n:Nat}(h:till q d=some n):Lib.index d q=n∧n+q.length≤d.length:=by
 unfold till at h
 split at h
 ·cases h
 rename_i hb
 have:=aeG (s:=d) (q:=q) (by omega);simp only[Option.some.injEq] at h;omega
theorem aj9{q d:L}(h:till q d=none):Lib.index d q<0:=by
 unfold till at h
 split at h
 ·assumption
 cases h

theorem aj8(w:World)(X:Nat)(s q:ByteArray)(k:Nat)(h:till q.data.toList (s.data.toList.drop k)=none)(hX:Sc w X s k)(fp:6≤X)(hg:Gl w)(ha:k≤s.size)(hs:s.size≤1000000000)(hq:q.size≤1000) :
  Calls Tryz.prog 121 #[.pointer (some ⟨X,0,none⟩),.string q] w fun e w'=>e=.returned (.tuple #[.string ⟨#[]⟩,.bool false])∧Sc w' X s k∧ai X w w':=by
 have HP:=hide (show ∀W,Gl W→Calls Tryz.prog 98 #[.string (s.extract k s.size),.string q] W fun e w'=>e=.returned (.int .i64 (Lib.index (s.data.toList.drop k) q.data.toList))∧w'=W from fun W hW=>by
  have h:=WW (s.extract k s.size) q W hW (by rw[ByteArray.size_extract];omega);rw[kj,bg] at h;rw[kj];exact h)
 have hb:=aj9 h;generalize Lib.index (s.data.toList.drop k) q.data.toList=b at *
 clear h;have HK:=hide hX;have HB:=hide (ai.refl X w);have Gd:=hide hg;have pN:¬s.size<k:=by omega
 clear hX hg
 go_enter Tryz.func121,Tryz.ntmps121
 go_wp2;refine wp_region_held_drew (S:=fun W=>Sc W X s k∧ai X w W) (by kernel_rfl) ?_ (fun hHeld=>?_)
 ·(try dsimp only)
  first|exact⟨ae.drew HK.out,ai.drew HB.out⟩|exact⟨ae.go hHeld.1 hb,ai.go hHeld.2 hb⟩|exact hHeld
 change wpAnyH _ _ _ _ _ 12 #[false,false,false,false,false,false,false,false,false,false,false,false] _ _;iterate 3 (refine aB (v:=?_) rfl rfl hHeld ?_ ?_;rotate_left;(· (intro w hSw;(try dsimp only at hSw);go_simp;try with_reducible rfl));(try simp only[nx,List.set]))
 (refine aB (v:=?_) rfl rfl hHeld ?_ ?_;rotate_left;(· (intro w hSw;(try dsimp only at hSw);have q0:=Sc.c0 hSw.1;have q1:=Sc.c1 hSw.1;go_simp;try with_reducible rfl));(try simp only[nx,List.set]));iterate 3 (refine aB (v:=?_) rfl rfl hHeld ?_ ?_;rotate_left;(· (intro w hSw;(try dsimp only at hSw);go_simp;try with_reducible rfl));(try simp only[nx,List.set]))
 (refine aB (v:=?_) rfl rfl hHeld ?_ ?_;rotate_left;(· (intro w hSw;(try dsimp only at hSw);have q0:=Sc.c0 hSw.1;have q1:=Sc.c1 hSw.1;go_simp;try with_reducible rfl));(try simp only[nx,List.set]));iterate 2 (refine aB (v:=?_) rfl rfl hHeld ?_ ?_;rotate_left;(· (intro w hSw;(try dsimp only at hSw);go_simp;try with_reducible rfl));(try simp only[nx,List.set]))
 refine jr (i:=10) rfl (by kernel_rfl) (by kernel_rfl) (fun K hK=>?_);go_simp
 go_at_call 98
 refine (HP.out _ (Gd.out.but hHeld.2 fp)).mono ?_;rintro e w' ⟨rfl,rfl⟩;(try dsimp only);refine hK.out _ _ ?_ (fun bc=>?_)
 ·(try dsimp only)
  first|exact⟨ae.drew HK.out,ai.drew HB.out⟩|exact⟨ae.go hHeld.1 hb,ai.go hHeld.2 hb⟩|exact hHeld
 clear hK K hHeld;have hHeld:=bc;clear bc;(try simp only[Act.put,List.setIfInBounds_toArray,List.set_cons_zero,List.set_cons_succ]);(refine aB (v:=?_) rfl rfl hHeld ?_ ?_;rotate_left;(· (intro w hSw;(try dsimp only at hSw);go_simp;try with_reducible rfl));(try simp only[nx,List.set]));refine wpAnyH_done (by kernel_rfl) ?_ _;go_wp2;go_ret2;exact⟨rfl,hHeld.1,hHeld.2⟩

theorem akb(w:World)(X:Nat)(s q:ByteArray)(k:Nat)(n:Nat)(h:till q.data.toList (s.data.toList.drop k)=some n)(hX:Sc w X s k)(fp:6≤X)(hg:Gl w)(ha:k≤s.size)(hs:s.size≤1000000000)(hq:q.size≤1000) :
  Calls Tryz.prog 121 #[.pointer (some ⟨X,0,none⟩),.string q] w fun e w'=>e=.returned (.tuple #[.string (s.extract k (k+n)),.bool true])∧Sc w' X s (k+n+q.size)∧ai X w w':=by
 have HP:=hide (show ∀W,Gl W→Calls Tryz.prog 98 #[.string (s.extract k s.size),.string q] W fun e w'=>e=.returned (.int .i64 (Lib.index (s.data.toList.drop k) q.data.toList))∧w'=W from fun W hW=>by
  have h:=WW (s.extract k s.size) q W hW (by rw[ByteArray.size_extract];omega);rw[kj,bg] at h;rw[kj];exact h)
 obtain⟨hb,hn⟩:=FC h;rw[hb] at HP;rw[List.length_drop,b9,b9] at hn;clear h hb;have HK:=hide hX;have HB:=hide (ai.refl X w);have Gd:=hide hg;have pN:¬s.size<k:=by omega
 clear hX hg
 go_enter Tryz.func121,Tryz.ntmps121
 go_wp2;refine wp_region_held_drew (S:=fun W=>Sc W X s k∧ai X w W) (by kernel_rfl) ?_ (fun hHeld=>?_)
 ·(try dsimp only)
  first|exact⟨ae.drew HK.out,ai.drew HB.out⟩|exact⟨ae.go hHeld.1 hb,ai.go hHeld.2 hb⟩|exact hHeld
 change wpAnyH _ _ _ _ _ 12 #[false,false,false,false,false,false,false,false,false,false,false,false] _ _;iterate 3 (refine aB (v:=?_) rfl rfl hHeld ?_ ?_;rotate_left;(· (intro w hSw;(try dsimp only at hSw);go_simp;try with_reducible rfl));(try simp only[nx,List.set]))
 (refine aB (v:=?_) rfl rfl hHeld ?_ ?_;rotate_left;(· (intro w hSw;(try dsimp only at hSw);have q0:=Sc.c0 hSw.1;have q1:=Sc.c1 hSw.1;go_simp;try with_reducible rfl));(try simp only[nx,List.set]));iterate 3 (refine aB (v:=?_) rfl rfl hHeld ?_ ?_;rotate_left;(· (intro w hSw;(try dsimp only at hSw);go_simp;try with_reducible rfl));(try simp only[nx,List.set]))
 (refine aB (v:=?_) rfl rfl hHeld ?_ ?_;rotate_left;(· (intro w hSw;(try dsimp only at hSw);have q0:=Sc.c0 hSw.1;have q1:=Sc.c1 hSw.1;go_simp;try with_reducible rfl));(try simp only[nx,List.set]));iterate 2 (refine aB (v:=?_) rfl rfl hHeld ?_ ?_;rotate_left;(· (intro w hSw;(try dsimp only at hSw);go_simp;try with_reducible rfl));(try simp only[nx,List.set]))
 refine jr (i:=10) rfl (by kernel_rfl) (by kernel_rfl) (fun K hK=>?_);go_simp
 go_at_call 98
 refine (HP.out _ (Gd.out.but hHeld.2 fp)).mono ?_;rintro e w' ⟨rfl,rfl⟩;(try dsimp only);refine hK.out _ _ ?_ (fun bc=>?_)
 ·(try dsimp only)
  first|exact⟨ae.drew HK.out,ai.drew HB.out⟩|exact⟨ae.go hHeld.1 hb,ai.go hHeld.2 hb⟩|exact hHeld
 clear hK K hHeld;have hHeld:=bc;clear bc;(try simp only[Act.put,List.setIfInBounds_toArray,List.set_cons_zero,List.set_cons_succ]);(refine aB (v:=?_) rfl rfl hHeld ?_ ?_;rotate_left;(· (intro w hSw;(try dsimp only at hSw);go_simp;try with_reducible rfl));(try simp only[nx,List.set]));refine wpAnyH_done (by kernel_rfl) ?_ _;have cK:=hide hHeld.1;have ah:=hide hHeld.2;clear hHeld HP HK HB;have h0:¬((n:Int)<0):=by omega
 have h1:k+n≤s.size:=by omega
 have h2:¬s.size<k+n:=by omega
 have hw:IntKind.i64.wrap ((k:Int)+n)=(k:Int)+n:=IntWalk.i64_in _ (by omega);have h4:(0:Int)≤(k:Int)+n∧(k:Int)+n≤(s.size:Int):=by omega
 have h5:(k:Int)≤(k:Int)+n:=by omega
 have h6:((k:Int)+n).toNat=k+n:=by omega
 go_wp2;refine wp_region_held_drew (S:=fun W=>Sc W X s k∧ai X w W) (by kernel_rfl) ?_ (fun hHeld=>?_)
 ·(try dsimp only)
  first|exact⟨ae.drew cK.out,ai.drew ah.out⟩|exact⟨ae.go hHeld.1 hb,ai.go hHeld.2 hb⟩|exact hHeld
 change wpAnyH _ _ _ _ _ 16 #[false,false,false,false,false,false,false,false,false,false,false,false,false,false,false,false] _ _;iterate 3 (refine aB (v:=?_) rfl rfl hHeld ?_ ?_;rotate_left;(· (intro w hSw;(try dsimp only at hSw);go_simp;try with_reducible rfl));(try simp only[nx,List.set]))
 (refine aB (v:=?_) rfl rfl hHeld ?_ ?_;rotate_left;(· (intro w hSw;(try dsimp only at hSw);have q0:=Sc.c0 hSw.1;have q1:=Sc.c1 hSw.1;go_simp;try with_reducible rfl));(try simp only[nx,List.set]));iterate 3 (refine aB (v:=?_) rfl rfl hHeld ?_ ?_;rotate_left;(· (intro w hSw;(try dsimp only at hSw);go_simp;try with_reducible rfl));(try simp only[nx,List.set]))
 (refine aB (v:=?_) rfl rfl hHeld ?_ ?_;rotate_left;(· (intro w hSw;(try dsimp only at hSw);have q0:=Sc.c0 hSw.1;have q1:=Sc.c1 hSw.1;go_simp;try with_reducible rfl));(try simp only[nx,List.set]));iterate 3 (refine aB (v:=?_) rfl rfl hHeld ?_ ?_;rotate_left;(· (intro w hSw;(try dsimp only at hSw);go_simp;try with_reducible rfl));(try simp only[nx,List.set]))
 (refine aB (v:=?_) rfl rfl hHeld ?_ ?_;rotate_left;(· (intro w hSw;(try dsimp only at hSw);have q0:=Sc.c0 hSw.1;have q1:=Sc.c1 hSw.1;go_simp;try with_reducible rfl));(try simp only[nx,List.set]));iterate 4 (refine aB (v:=?_) rfl rfl hHeld ?_ ?_;rotate_left;(· (intro w hSw;(try dsimp only at hSw);go_simp;try with_reducible rfl));(try simp only[nx,List.set]))
 refine wpAnyH_done (by kernel_rfl) ?_ _;have K1:=hide hHeld.1;have B1:=hide hHeld.2;have q1:=Sc.c1 hHeld.1;have f1:=Sc.f1 hHeld.1;clear hHeld;go_wp2;go_ret2;exact⟨rfl,by rw[Nat.add_assoc];exact Sc.move K1.out (k+(n+q.size)),B1.out.setCell (.inl rfl) _⟩
end
section
namespace Utf

theorem aba(l:List UInt8)(r n lo hi:Int):cont l 0 r n lo hi=(r,n):=by cases l<;>simp[cont]
theorem agQ{c:UInt8}(h:c.toNat<128)(l:List UInt8):piece (c :: l)=((c.toNat:Int),1):=by
 have e:follow (c.toNat:Int)=(0,(c.toNat:Int),128,191):=by unfold follow;rw[if_pos (by omega)]
 rw[yq,e];simp[aba]
end Utf
namespace Tk
end Tk
end
section
open Go.RowKit Tk

end
section
open Go.RowKit Tk Sx

theorem xj{D:L}{k:Nat}{c:UInt8}(h:D[k]?=some c):D.drop k=c :: D.drop (k+1):=by
 obtain⟨h1,h2⟩:=List.getElem?_eq_some_iff.1 h;rw[←h2,←List.drop_eq_getElem_cons]
theorem Dk(s:ByteArray)(w:World):∃W g cap,(Go.convert 9 37 (.string s)).run Tryz.prog w=.ok (.slice (some ⟨g,0,none⟩) s.size cap) W∧Below w.heap.size w W∧g<W.heap.size∧
  ∀(k:Nat) (c:UInt8),s.data.toList[k]?=some c→W.cell? ⟨g,k,none⟩=some (.int .u8 (c.toNat:Nat)):=by
 refine⟨_,_,_,run_bytes_of_string (P:=Tryz.prog) w 9 37 5 s Tryz.underlying9 Tryz.underlying37 Tryz.underlying5,?_,?_,?_⟩
 ·exact (Below.refl _ w).drew.alloc (by simp) _
 ·simp
 intro k c hc;obtain⟨h1,h2⟩:=List.getElem?_eq_some_iff.1 hc;have hk:k<s.data.size:=by simpa using h1
 have:=bytesRow_at s (grownCap w s.size 0 5) k hk;have e:w.heap.size=w.drew.heap.size:=rfl;rw[e,World.cell?_alloc_mark,this];have h3:s.data[k]=c:=by simpa using h2
 rw[h3]

theorem ae9(c:UInt8):bits BinOp.and IntKind.u8 (c.toNat:Int) 15=((c.toNat % 16:Nat):Int):=by
 have h:∀n:Fin 256,bits BinOp.and IntKind.u8 (n.val:Int) 15=((n.val % 16:Nat):Int):=by decide +kernel
 exact h ⟨c.toNat,c.toNat_lt⟩

theorem Xt(c:UInt8)(w:World):Calls Tryz.prog 168 #[.int .u8 (c.toNat:Nat)] w fun e w'=>e=.returned (.int .i64 ((nJ c:Nat):Int))∧w'=w:=by
 have hb:=ae9 c;have hlt:=c.toNat_lt;have hm:c.toNat % 16<16:=Nat.mod_lt _ (by omega);obtain⟨z,hz⟩:∃z:Nat,c.toNat % 16=z:=⟨_,rfl⟩;rw[hz] at hb hm;have hw:IntKind.i64.wrap (z:Int)=(z:Int):=IntWalk.i64_in _ (by omega);have hw9:IntKind.i64.wrap ((z:Int)+9)=(z:Int)+9:=IntWalk.i64_in _ (by omega);obtain⟨q,hq⟩:∃q:Nat,c.toNat=q:=⟨_,rfl⟩;have Hq:nJ c=if 48≤q∧q≤57 then q-48 else if 97≤q∧q≤102 then q-87 else if 65≤q∧q≤70 then q-55 else 16:=by rw[←hq];rfl
 rw[Hq];rw[hq] at hb hlt hz;rw[hq];clear hq Hq;obtain⟨R,hR⟩:∃R:Nat,(if 48≤q∧q≤57 then q-48 else if 97≤q∧q≤102 then q-87 else if 65≤q∧q≤70 then q-55 else 16)=R:=⟨_,rfl⟩;rw[hR]
 by_cases a1:48≤q
 ·by_cases a2:q≤57
  ·have Hr:=hide (show (z:Int)=(R:Int) by rw[←hR,if_pos ⟨a1,a2⟩];omega);have g1:(48:Int)≤(q:Int):=by omega
   have g2:(q:Int)≤57:=by omega
   clear hR hz hlt a1 a2
   go_enter Tryz.func168,Tryz.ntmps168
   go_wp2
   go_ret
   exact⟨aU (int_eq (Hr.out)),rfl⟩
  by_cases b1:97≤q
  ·by_cases b2:q≤102
   ·have Hr:=hide (show (z:Int)+9=(R:Int) by rw[←hR,if_neg (by omega),if_pos ⟨b1,b2⟩];omega);have g1:(48:Int)≤(q:Int):=by omega
    have g2:¬(q:Int)≤57:=by omega
    have g3:(97:Int)≤(q:Int):=by omega
    have g4:(q:Int)≤102:=by omega
    clear hR hz hlt a1 a2 b1 b2
    go_enter Tryz.func168,Tryz.ntmps168
    go_wp2
    go_ret
    exact⟨aU (int_eq (Hr.out)),rfl⟩
   have Hr:=hide (show (16:Int)=(R:Int) by rw[←hR,if_neg (by omega),if_neg (by omega),if_neg (by omega)];rfl);have g1:(48:Int)≤(q:Int):=by omega
   have g2:¬(q:Int)≤57:=by omega
   have g3:(97:Int)≤(q:Int):=by omega
   have g4:¬(q:Int)≤102:=by omega
   have g5:(65:Int)≤(q:Int):=by omega
   have g6:¬(q:Int)≤70:=by omega
   clear hR hz hlt a1 a2 b1 b2
   go_enter Tryz.func168,Tryz.ntmps168
   go_wp2
   go_ret
   exact⟨aU (int_eq (Hr.out)),rfl⟩
  by_cases d1:65≤q
  ·by_cases d2:q≤70
   ·have Hr:=hide (show (z:Int)+9=(R:Int) by rw[←hR,if_neg (by omega),if_neg (by omega),if_pos ⟨d1,d2⟩];omega);have g1:(48:Int)≤(q:Int):=by omega
    have g2:¬(q:Int)≤57:=by omega
    have g3:¬(97:Int)≤(q:Int):=by omega
    have g5:(65:Int)≤(q:Int):=by omega
    have g6:(q:Int)≤70:=by omega
    clear hR hz hlt a1 a2 b1 d1 d2
    go_enter Tryz.func168,Tryz.ntmps168
    go_wp2
    go_ret
    exact⟨aU (int_eq (Hr.out)),rfl⟩
   have Hr:=hide (show (16:Int)=(R:Int) by rw[←hR,if_neg (by omega),if_neg (by omega),if_neg (by omega)];rfl);have g1:(48:Int)≤(q:Int):=by omega
   have g2:¬(q:Int)≤57:=by omega
   have g3:¬(97:Int)≤(q:Int):=by omega
   have g5:(65:Int)≤(q:Int):=by omega
   have g6:¬(q:Int)≤70:=by omega
   clear hR hz hlt a1 a2 b1 d1 d2
   go_enter Tryz.func168,Tryz.ntmps168
   go_wp2
   go_ret
   exact⟨aU (int_eq (Hr.out)),rfl⟩
  have Hr:=hide (show (16:Int)=(R:Int) by rw[←hR,if_neg (by omega),if_neg (by omega),if_neg (by omega)];rfl);have g1:(48:Int)≤(q:Int):=by omega
  have g2:¬(q:Int)≤57:=by omega
  have g3:¬(97:Int)≤(q:Int):=by omega
  have g5:¬(65:Int)≤(q:Int):=by omega
  clear hR hz hlt a1 a2 b1 d1
  go_enter Tryz.func168,Tryz.ntmps168
  go_wp2
  go_ret
  exact⟨aU (int_eq (Hr.out)),rfl⟩
 have Hr:=hide (show (16:Int)=(R:Int) by rw[←hR,if_neg (by omega),if_neg (by omega),if_neg (by omega)];rfl);have g1:¬(48:Int)≤(q:Int):=by omega
 have g3:¬(97:Int)≤(q:Int):=by omega
 have g5:¬(65:Int)≤(q:Int):=by omega
 clear hR hz hlt a1
 go_enter Tryz.func168,Tryz.ntmps168
 go_wp2
 go_ret
 exact⟨aU (int_eq (Hr.out)),rfl⟩

def lh(l:L)(k:Nat):Int:=match Sx.ends (l.drop k) with
 | some n=>((k+n:Nat):Int)
 | none=>-1
theorem abW{l:L}{k:Nat}{c:UInt8}(hc:l[k]?=some c)(h:c=59):lh l k=k:=by
 unfold lh;rw[xj hc];unfold Sx.ends;rw[if_pos h];rfl
theorem QU{l:L}{k:Nat}{c:UInt8}(hc:l[k]?=some c)(h0:c≠59)(h:c=38∨c=60):lh l k = -1:=by
 unfold lh;rw[xj hc];unfold Sx.ends;rw[if_neg h0,if_pos h]
theorem abX{l:L}{k:Nat}{c:UInt8}(hc:l[k]?=some c)(h0:c≠59)(h1:c≠38)(h2:c≠60):lh l k=lh l (k+1):=by
 unfold lh;rw[xj hc]
 conv=>lhs;unfold Sx.ends
 rw[if_neg h0,if_neg (by simp[h1,h2])]
 cases Sx.ends (l.drop (k+1)) with
 | none=>rfl
 | some n=>simp only[Option.map_some];congr 1;omega
theorem abY{l:L}{k:Nat}(h:l.length≤k):lh l k = -1:=by
 unfold lh;rw[List.drop_of_length_le h];rfl

theorem abZ(s:ByteArray)(w:World)(hs:s.size≤1000000000) :
  Calls Tryz.prog 130 #[.string s] w fun e w'=>e=.returned (.int .i64 (lh s.data.toList 0))∧Below w.heap.size w w':=by
 obtain⟨W,g,cap,nh,hb,hg,hat⟩:=Dk s w;obtain⟨D,hD⟩:∃D,s.data.toList=D:=⟨_,rfl⟩;have cu:=hide (show D.length=s.size by rw[←hD,b9]);rw[hD] at hat ⊢;obtain⟨z,hz⟩:∃z,lh D 0=z:=⟨_,rfl⟩;have Hz:=hide hz;rw[hz];have qy:=hide hat;have HB:=hide hb;clear hD hz hat hb
 go_enter Tryz.func130,Tryz.ntmps130
 go_wp2;clear nh
 go_loopg [8] s.size (fun gk v wr=>∃k:Nat,gk=s.size-k∧k≤s.size∧v=.int .i64 (k:Int)∧lh D k=z∧wr=W)
 case atStart=>exact⟨0,rfl,by omega,rfl,Hz.out,rfl⟩
 case round=>
  obtain⟨k,aq,hk,rfl,Bj,rfl⟩:=hrel;have Hg:=hide aq;have j5:=hide Bj;clear aq Bj Hz
  by_cases hlt:k<s.size
  ·obtain⟨c,hc⟩:∃c,D[k]?=some c:=⟨_,List.getElem?_eq_getElem (by rw[cu.out];exact hlt)⟩;have hcell:=qy.out k c hc;have iQ:(0:Int)≤(k:Int):=by omega
   have key:∀d:UInt8,((c.toNat:Int)==(d.toNat:Int))=(c==d):=fun d=>by
    rw[Bool.eq_iff_iff,beq_iff_eq,beq_iff_eq];exact⟨fun h=>UInt8.toNat_inj.1 (by omega),fun h=>by rw[h]⟩
   have e1:((c.toNat:Int)==59)=(c==59):=key 59;have e2:((c.toNat:Int)==38)=(c==38):=key 38;have e3:((c.toNat:Int)==60)=(c==60):=key 60;clear key
   by_cases h1:c=59
   ·have Hr:=hide (show (k:Int)=z by rw[←j5.out,abW hc h1]);have q1:(c==59)=true:=by rw[beq_iff_eq];exact h1
    clear h1 hc j5 e2 e3;go_wp2;go_ret;exact⟨aU (int_eq Hr.out),HB.out⟩
   have q1:(c==59)=false:=by rw[beq_eq_false_iff_ne];exact h1
   by_cases h2:c=38
   ·have Hr:=hide (show (-1:Int)=z by rw[←j5.out,QU hc h1 (.inl h2)]);have q2:(c==38)=true:=by rw[beq_iff_eq];exact h2
    clear h1 h2 hc j5 e3;go_wp2;go_ret;exact⟨aU (int_eq Hr.out),HB.out⟩
   have q2:(c==38)=false:=by rw[beq_eq_false_iff_ne];exact h2
   by_cases h3:c=60
   ·have Hr:=hide (show (-1:Int)=z by rw[←j5.out,QU hc h1 (.inr h3)]);have q3:(c==60)=true:=by rw[beq_iff_eq];exact h3
    clear h1 h2 h3 hc j5;go_wp2;go_ret;exact⟨aU (int_eq Hr.out),HB.out⟩
   have q3:(c==60)=false:=by rw[beq_eq_false_iff_ne];exact h3
   have Hn:=hide (show lh D (k+1)=z by rw[←j5.out,abX hc h1 h2 h3]);clear h1 h2 h3 hc j5;go_wp2
   go_roundg (s.size-(k+1))
   case measure=>have:=Hg.out;omega
   case rel=>exact⟨k+1,rfl,by omega,by go_num,Hn.out,rfl⟩
  have Hr:=hide (show (-1:Int)=z by rw[←j5.out,abY (by rw[cu.out];omega)]);clear j5;go_wp2;go_ret;exact⟨aU (int_eq Hr.out),HB.out⟩
end
end Go.Proofs.YtifiiojchlaghaaGreatDoor
