/- Tokens: the scan's small methods, walked. (Printed by wip/genTkA.py.) And more. -/
import Derived.Test.YtpdkeckeekchlaaGreatDoorOt01
import Derived.Test.YtpdkeckeekchlaaGreatDoorShelf
import Derived.Deep.QuietTactic
import Derived.BigQuiet
import Derived.LoopN
set_option linter.unusedSimpArgs false
set_option maxHeartbeats 8000000
set_option linter.unusedVariables false
namespace Go.Proofs.YtpdkeckeekchlaaGreatDoor
section
open Go.RowKit Tk

def Sc(w:World)(X:Nat)(s:ByteArray)(k:Nat):Prop:=ae w X 178 #[.string s,.int .i64 (k:Int)]
theorem Sc.c0{w:World}{X:Nat}{s:ByteArray}{k:Nat}(h:Sc w X s k):w.cell? ⟨X,0,none⟩=some (.string s):=ae.cell h 0
theorem Sc.c1{w:World}{X:Nat}{s:ByteArray}{k:Nat}(h:Sc w X s k):w.cell? ⟨X,1,none⟩=some (.int .i64 (k:Int)):=ae.cell h 1
theorem Sc.f1{w:World}{X:Nat}{s:ByteArray}{k:Nat}(h:Sc w X s k):w.frozen? ⟨X,1,none⟩=false:=ae.frozen h 1
theorem Sc.move{w:World}{X:Nat}{s:ByteArray}{k:Nat}(h:Sc w X s k)(j:Nat):Sc (w.setCell ⟨X,1,none⟩ (.int .i64 (j:Int))) X s j:=by
 have:=ae.aH h 1 (.int .i64 (j:Int))
 simpa[Sc] using this
theorem uh(s:ByteArray)(k:Nat)(c:UInt8)(h:s.data.toList[k]?=some c)(w:World):(Instr.index 9 (.string s) (.int .i64 (k:Int))).run Tryz.prog w=.ok (.int .u8 (c.toNat:Nat)) w:=by
 obtain⟨hk,hc⟩:=List.getElem?_eq_some_iff.1 h;rw[bV] at hk;have hc':s[k]=c:=hc;go_simp
theorem ah5(l:L)(j:Nat)(h:j<aS l):∃c,l[j]?=some c∧sp c=true:=by
 induction l generalizing j with
 | nil=>simp[aS] at h
 | cons c l ih=>
  unfold aS at h;rw[List.takeWhile_cons] at h
  split at h
  ·rename_i hc
   cases j with
   | zero=>exact⟨c,rfl,hc⟩
   | succ j=>exact ih j (by simpa[aS] using h)
  simp at h
theorem ah6(l:L):l.length=aS l∨∃c,l[aS l]?=some c∧sp c=false:=by
 induction l with
 | nil=>left;rfl
 | cons c l ih=>
  unfold aS;rw[List.takeWhile_cons];split
  ·rcases ih with h|⟨d,h1,h2⟩
   ·left;simpa[aS] using h
   right;exact⟨d,by simpa[aS] using h1,h2⟩
  rename_i hc
  right
  exact⟨c,rfl,by simpa using hc⟩
theorem CB(l:L):aS l≤l.length:=by
 unfold aS;exact (List.takeWhile_sublist sp).length_le

theorem Ep(w:World)(X:Nat)(s:ByteArray)(at_:Nat)(hX:Sc w X s at_)(ha:at_≤s.size)(hs:s.size≤1000000000) :
  Calls Tryz.prog 145 #[.pointer (some ⟨X,0,none⟩)] w fun e w'=>e=.returned (.bool (decide (0<aS (s.data.toList.drop at_))))∧Sc w' X s (at_+aS (s.data.toList.drop at_))∧ai X w w':=by
 obtain⟨N,hN⟩:∃N,aS (s.data.toList.drop at_)=N:=⟨_,rfl⟩
 have HL:=ap (show at_+N≤s.size from by
  have:=CB (s.data.toList.drop at_);rw[List.length_drop,bV,hN] at this
  omega)
 have HI:=ap fun j (hj:j<N)=>(show ∃c,s.data.toList[at_+j]?=some c∧sp c=true from by
  obtain⟨c,h1,h2⟩:=ah5 (s.data.toList.drop at_) j (by rw[hN];exact hj);exact⟨c,by rwa[List.getElem?_drop] at h1,h2⟩)
 have HE:=ap (show s.size=at_+N∨∃c,s.data.toList[at_+N]?=some c∧sp c=false from by
  rcases ah6 (s.data.toList.drop at_) with h|⟨c,h1,h2⟩
  ·left
   rw[List.length_drop,bV,hN] at h;omega
  right
  rw[hN] at h1;exact⟨c,by rwa[List.getElem?_drop] at h1,h2⟩)
 rw[hN];have q0:w.cell? ⟨X,0,none⟩=some (.string s):=ae.cell hX 0;have q1:w.cell? ⟨X,1,none⟩=some (.int .i64 (at_:Int)):=ae.cell hX 1;have HX:=ap hX;clear hX hN
 go_enter Tryz.func145,Tryz.ntmps145
 go_wp2;clear q0 q1
 go_loopg [] N (fun g wr=>∃k:Nat,g=at_+N-k∧at_≤k∧k≤at_+N∧Sc wr X s k∧ai X w wr)
 case atStart=>exact⟨at_,by omega,by omega,by omega,HX.o,ai.refl _ _⟩
 case round=>
  obtain⟨k,hg,iT,bZ,hK,hB⟩:=hrel;have Hg:=ap hg;have HK:=ap hK;have HB:=ap hB;have bu:k≤s.size:=by have:=HL.o;omega
  clear hg hK hB
  by_cases hlt:k<at_+N
  ·obtain⟨c,hc,hsp⟩:=HI.o (k-at_) (by omega);rw[show at_+(k-at_)=k by omega] at hc;have yt:k<s.size:=by have:=HL.o;omega
   have zU:=ap (Yn c);rw[hsp] at zU;have gB:=uh s k c hc;clear hc hsp;go_wp2;refine wp_region_held_drew (S:=fun W=>Sc W X s k∧ai X w W) (by kernel_rfl) ?_ (fun hHeld=>?_)
   ·(try dsimp only)
    first|exact⟨ae.drew HK.o,ai.drew HB.o⟩|exact⟨ae.go hHeld.1 hb,ai.go hHeld.2 hb⟩|exact hHeld
   change wpAnyH _ _ _ _ _ 22 #[false,false,false,false,false,false,false,false,false,false,false,false,false,false,false,false,false,false,false,false,false,false] _ _;iterate 20 (refine aJ (v:=?_) rfl rfl hHeld ?_ ?_;rotate_left;(· (intro w hSw;(try dsimp only at hSw);have q0:=Sc.c0 hSw.1;have q1:=Sc.c1 hSw.1;go_simp;try with_reducible rfl));(try simp only[nx,List.set]))
   refine fU (i:=20) rfl (by kernel_rfl) (by kernel_rfl) (fun K hK=>?_);go_simp
   go_at_call 149
   refine (zU.o _).mono ?_;rintro e w' ⟨rfl,rfl⟩;(try dsimp only);refine hK.out _ _ ?_ (fun aL=>?_)
   ·(try dsimp only)
    first|exact⟨ae.drew HK.o,ai.drew HB.o⟩|exact⟨ae.go hHeld.1 hb,ai.go hHeld.2 hb⟩|exact hHeld
   clear hK K hHeld;have hHeld:=aL;clear aL;(try simp only[Act.put,List.setIfInBounds_toArray,List.set_cons_zero,List.set_cons_succ]);(refine aJ (v:=?_) rfl rfl hHeld ?_ ?_;rotate_left;(· (intro w hSw;(try dsimp only at hSw);go_simp;try with_reducible rfl));(try simp only[nx,List.set]));refine wpAnyH_done (by kernel_rfl) ?_ _;have K1:=ap hHeld.1;have B1:=ap hHeld.2;have q1:=Sc.c1 hHeld.1;have f1:=Sc.f1 hHeld.1;clear hHeld;go_wp2
   go_roundg (at_+N-(k+1))
   case measure=>have:=Hg.o;omega
   case rel=>exact⟨k+1,by omega,by omega,by omega,Sc.move K1.o (k+1),B1.o.setCell (.inl rfl) _⟩
  have yr:k=at_+N:=by omega
  rcases HE.o with he|⟨c,hc,hsp⟩
  ·have yt:¬k<s.size:=by omega
   have zJ:=ap yr;clear yr he hlt;go_wp2;refine wp_region_held_drew (S:=fun W=>Sc W X s k∧ai X w W) (by kernel_rfl) ?_ (fun hHeld=>?_)
   ·(try dsimp only)
    first|exact⟨ae.drew HK.o,ai.drew HB.o⟩|exact⟨ae.go hHeld.1 hb,ai.go hHeld.2 hb⟩|exact hHeld
   change wpAnyH _ _ _ _ _ 22 #[false,false,false,false,false,false,false,false,false,false,false,false,false,false,false,false,false,false,false,false,false,false] _ _;iterate 3 (refine aJ (v:=?_) rfl rfl hHeld ?_ ?_;rotate_left;(· (intro w hSw;(try dsimp only at hSw);go_simp;try with_reducible rfl));(try simp only[nx,List.set]))
   (refine aJ (v:=?_) rfl rfl hHeld ?_ ?_;rotate_left;(· (intro w hSw;(try dsimp only at hSw);have q0:=Sc.c0 hSw.1;have q1:=Sc.c1 hSw.1;go_simp;try with_reducible rfl));(try simp only[nx,List.set]));iterate 3 (refine aJ (v:=?_) rfl rfl hHeld ?_ ?_;rotate_left;(· (intro w hSw;(try dsimp only at hSw);go_simp;try with_reducible rfl));(try simp only[nx,List.set]))
   (refine aJ (v:=?_) rfl rfl hHeld ?_ ?_;rotate_left;(· (intro w hSw;(try dsimp only at hSw);have q0:=Sc.c0 hSw.1;have q1:=Sc.c1 hSw.1;go_simp;try with_reducible rfl));(try simp only[nx,List.set]));iterate 3 (refine aJ (v:=?_) rfl rfl hHeld ?_ ?_;rotate_left;(· (intro w hSw;(try dsimp only at hSw);go_simp;try with_reducible rfl));(try simp only[nx,List.set]))
   iterate 10 (refine mM rfl rfl hHeld ?_;(try simp only[nx,List.set]))
   (refine aJ (v:=?_) rfl rfl hHeld ?_ ?_;rotate_left;(· (intro w hSw;(try dsimp only at hSw);go_simp;try with_reducible rfl));(try simp only[nx,List.set]));refine wpAnyH_done (by kernel_rfl) ?_ _;have K1:=ap hHeld.1;have B1:=ap hHeld.2;have q1:=Sc.c1 hHeld.1;clear hHeld;go_wp2;go_ret;exact⟨aC (aR (by rw[zJ.o];simp)),by rw[←zJ.o];exact K1.o,B1.o⟩
  rw[←yr] at hc
  have yt:k<s.size:=by
   have:=(List.getElem?_eq_some_iff.1 hc).1;rwa[bV] at this
  have zU:=ap (Yn c);rw[hsp] at zU;have gB:=uh s k c hc;have zJ:=ap yr;clear hc hsp yr hlt;go_wp2;refine wp_region_held_drew (S:=fun W=>Sc W X s k∧ai X w W) (by kernel_rfl) ?_ (fun hHeld=>?_)
  ·(try dsimp only)
   first|exact⟨ae.drew HK.o,ai.drew HB.o⟩|exact⟨ae.go hHeld.1 hb,ai.go hHeld.2 hb⟩|exact hHeld
  change wpAnyH _ _ _ _ _ 22 #[false,false,false,false,false,false,false,false,false,false,false,false,false,false,false,false,false,false,false,false,false,false] _ _;iterate 20 (refine aJ (v:=?_) rfl rfl hHeld ?_ ?_;rotate_left;(· (intro w hSw;(try dsimp only at hSw);have q0:=Sc.c0 hSw.1;have q1:=Sc.c1 hSw.1;go_simp;try with_reducible rfl));(try simp only[nx,List.set]))
  refine fU (i:=20) rfl (by kernel_rfl) (by kernel_rfl) (fun K hK=>?_);go_simp
  go_at_call 149
  refine (zU.o _).mono ?_;rintro e w' ⟨rfl,rfl⟩;(try dsimp only);refine hK.out _ _ ?_ (fun aL=>?_)
  ·(try dsimp only)
   first|exact⟨ae.drew HK.o,ai.drew HB.o⟩|exact⟨ae.go hHeld.1 hb,ai.go hHeld.2 hb⟩|exact hHeld
  clear hK K hHeld;have hHeld:=aL;clear aL;(try simp only[Act.put,List.setIfInBounds_toArray,List.set_cons_zero,List.set_cons_succ]);(refine aJ (v:=?_) rfl rfl hHeld ?_ ?_;rotate_left;(· (intro w hSw;(try dsimp only at hSw);go_simp;try with_reducible rfl));(try simp only[nx,List.set]));refine wpAnyH_done (by kernel_rfl) ?_ _;have K1:=ap hHeld.1;have B1:=ap hHeld.2;have q1:=Sc.c1 hHeld.1;clear hHeld;go_wp2;go_ret;exact⟨aC (aR (by rw[zJ.o];simp)),by rw[←zJ.o];exact K1.o,B1.o⟩

theorem Cj(w:World)(X:Nat)(s q:ByteArray)(k:Nat)(hX:Sc w X s k)(ha:k≤s.size)(hs:s.size≤1000000000)(hq:q.size≤1000) :
  Calls Tryz.prog 146 #[.pointer (some ⟨X,0,none⟩),.string q] w fun e w'=>e=.returned (.bool (q.data.toList.isPrefixOf (s.data.toList.drop k)))∧Sc w' X s (if q.data.toList.isPrefixOf (s.data.toList.drop k)=true then k+q.size else k)∧ai X w w':=by
 have HP:=ap (show ∀W,Calls Tryz.prog 153 #[.string (s.extract k s.size),.string q] W fun e w'=>e=.returned (.bool (q.data.toList.isPrefixOf (s.data.toList.drop k)))∧w'=W from fun W=>by
  have h:=Tryz.strings_HasPrefix (s.extract k s.size) q W;rw[ko,aZ] at h;rw[ko];exact h)
 generalize q.data.toList.isPrefixOf (s.data.toList.drop k)=b at *
 have HK:=ap hX;have HB:=ap (ai.refl X w);have pZ:¬s.size<k:=by omega
 clear hX
 go_enter Tryz.func146,Tryz.ntmps146
 go_wp2;refine wp_region_held_drew (S:=fun W=>Sc W X s k∧ai X w W) (by kernel_rfl) ?_ (fun hHeld=>?_)
 ·(try dsimp only)
  first|exact⟨ae.drew HK.o,ai.drew HB.o⟩|exact⟨ae.go hHeld.1 hb,ai.go hHeld.2 hb⟩|exact hHeld
 change wpAnyH _ _ _ _ _ 12 #[false,false,false,false,false,false,false,false,false,false,false,false] _ _;iterate 10 (refine aJ (v:=?_) rfl rfl hHeld ?_ ?_;rotate_left;(· (intro w hSw;(try dsimp only at hSw);have q0:=Sc.c0 hSw.1;have q1:=Sc.c1 hSw.1;go_simp;try with_reducible rfl));(try simp only[nx,List.set]))
 refine fU (i:=10) rfl (by kernel_rfl) (by kernel_rfl) (fun K hK=>?_);go_simp
 go_at_call 153
 refine (HP.o _).mono ?_;rintro e w' ⟨rfl,rfl⟩;(try dsimp only);refine hK.out _ _ ?_ (fun aL=>?_)
 ·(try dsimp only)
  first|exact⟨ae.drew HK.o,ai.drew HB.o⟩|exact⟨ae.go hHeld.1 hb,ai.go hHeld.2 hb⟩|exact hHeld
 clear hK K hHeld;have hHeld:=aL;clear aL;(try simp only[Act.put,List.setIfInBounds_toArray,List.set_cons_zero,List.set_cons_succ]);(refine aJ (v:=?_) rfl rfl hHeld ?_ ?_;rotate_left;(· (intro w hSw;(try dsimp only at hSw);go_simp;try with_reducible rfl));(try simp only[nx,List.set]));refine wpAnyH_done (by kernel_rfl) ?_ _;have K1:=ap hHeld.1;have B1:=ap hHeld.2;have q1:=Sc.c1 hHeld.1;have f1:=Sc.f1 hHeld.1;clear hHeld
 cases b with
 | true=>
  go_wp2;go_ret;exact⟨rfl,ae.drew (Sc.move HK.o (k+q.size)),((ai.refl X w).setCell (.inl rfl) _).drew⟩
 | false=>
  go_wp2;go_ret;exact⟨rfl,K1.o,B1.o⟩

theorem dE{w:World}{a:Addr}{v:Value}(h:w.cell? a=some v):a.block<w.heap.size:=by
 by_cases hb:a.block<w.heap.size
 ·exact hb
 exfalso
 have hn:w.heap[a.block]?=none:=Array.getElem?_eq_none (by omega);unfold World.cell? at h;simp[hn] at h
structure Gm(w:World):Prop where
 most:∃m,w.cell? ⟨0,0,none⟩=some (.int .i64 m)
structure Gl(w:World):Prop where
 most:∃m,w.cell? ⟨0,0,none⟩=some (.int .i64 m)
 fold:∀p∈([(120,88),(88,120),(109,77),(77,109),(108,76),(76,108)]:List (Nat×Int)),w.cell? ⟨3,p.1,none⟩=some (.int .u16 p.2)
theorem Gl.m{w:World}(h:Gl w):Gm w:=⟨h.most⟩
theorem Gl.keep{w w':World}(h:Gl w)(hk:∀g i v,g<6→w.cell? ⟨g,i,none⟩=some v→w'.cell? ⟨g,i,none⟩=some v):Gl w' :=
 ⟨by obtain⟨m,hm⟩:=h.most;exact⟨m,hk _ _ _ (by decide) hm⟩,fun p hp=>hk _ _ _ (by decide) (h.fold p hp)⟩
theorem Gl.below{w w':World}(h:Gl w)(hb:Below w.heap.size w w'):Gl w':=h.keep fun g i v _ hv=>(hb.cell (dE hv)).trans hv
theorem Gl.but{w w':World}{X:Nat}(h:Gl w)(hb:ai X w w')(hX:6≤X):Gl w':=h.keep fun g i v hg hv=>
 (World.cell?_of_block (a:=⟨g,i,none⟩) (hb.block g (dE hv) (by omega))).trans hv
theorem amO(s q:ByteArray)(w:World)(hg:Gm w)(hs:s.size≤1000000000) :
  Calls Tryz.prog 123 #[.string s,.string q] w fun e w'=>e=.returned (.int .i64 (Lib.index s.data.toList q.data.toList))∧w'=w:=by
 obtain⟨m,hm⟩:=hg.most;exact Tryz.strings_Index s q m w (by omega) hm
theorem YN(s q:ByteArray)(w:World)(hg:Gl w)(hs:s.size≤1000000000) :
  Calls Tryz.prog 123 #[.string s,.string q] w fun e w'=>e=.returned (.int .i64 (Lib.index s.data.toList q.data.toList))∧w'=w:=amO s q w hg.m hs

theorem agJ{s q:L}(h:0≤Lib.index s q):Lib.index s q+q.length≤s.length:=by
 induction s with
 | nil=>
  unfold Lib.index at h ⊢
  cases q with
  | nil=>simp
  | cons a q=>simp at h
 | cons c l ih=>
  unfold Lib.index at h ⊢;split
  ·rename_i hp
   have:=List.IsPrefix.length_le (List.isPrefixOf_iff_prefix.1 hp);simp at this ⊢;omega
  rename_i hp
  rw[if_neg hp] at h;split
  ·rename_i h1
   rw[if_pos h1] at h;omega
  rename_i h1
  rw[if_neg h1] at h;have h2:=Lib.index_ge l q;have h3:Lib.index l q≠-1:=by simpa using h1
  have:=ih (by omega);simp;omega

theorem GX{q d:L}{n:Nat}(h:till q d=some n):Lib.index d q=n∧n+q.length≤d.length:=by
 unfold till at h
 split at h
 ·cases h
 rename_i hb
 have:=agJ (s:=d) (q:=q) (by omega);simp only[Option.some.injEq] at h;omega
theorem amN{q d:L}(h:till q d=none):Lib.index d q<0:=by
 unfold till at h
 split at h
 ·assumption
 cases h

theorem amM(w:World)(X:Nat)(s q:ByteArray)(k:Nat)(h:till q.data.toList (s.data.toList.drop k)=none)(hX:Sc w X s k)(eY:6≤X)(hg:Gl w)(ha:k≤s.size)(hs:s.size≤1000000000)(hq:q.size≤1000) :
  Calls Tryz.prog 148 #[.pointer (some ⟨X,0,none⟩),.string q] w fun e w'=>e=.returned (.tuple #[.string ⟨#[]⟩,.bool false])∧Sc w' X s k∧ai X w w':=by
 have HP:=ap (show ∀W,Gl W→Calls Tryz.prog 123 #[.string (s.extract k s.size),.string q] W fun e w'=>e=.returned (.int .i64 (Lib.index (s.data.toList.drop k) q.data.toList))∧w'=W from fun W hW=>by
  have h:=YN (s.extract k s.size) q W hW (by rw[ByteArray.size_extract];omega);rw[ko,aZ] at h;rw[ko];exact h)
 have hb:=amN h;generalize Lib.index (s.data.toList.drop k) q.data.toList=b at *
 clear h;have HK:=ap hX;have HB:=ap (ai.refl X w);have Iw:=ap hg;have pZ:¬s.size<k:=by omega
 clear hX hg
 go_enter Tryz.func148,Tryz.ntmps148
 go_wp2;refine wp_region_held_drew (S:=fun W=>Sc W X s k∧ai X w W) (by kernel_rfl) ?_ (fun hHeld=>?_)
 ·(try dsimp only)
  first|exact⟨ae.drew HK.o,ai.drew HB.o⟩|exact⟨ae.go hHeld.1 hb,ai.go hHeld.2 hb⟩|exact hHeld
 change wpAnyH _ _ _ _ _ 12 #[false,false,false,false,false,false,false,false,false,false,false,false] _ _;iterate 10 (refine aJ (v:=?_) rfl rfl hHeld ?_ ?_;rotate_left;(· (intro w hSw;(try dsimp only at hSw);have q0:=Sc.c0 hSw.1;have q1:=Sc.c1 hSw.1;go_simp;try with_reducible rfl));(try simp only[nx,List.set]))
 refine fU (i:=10) rfl (by kernel_rfl) (by kernel_rfl) (fun K hK=>?_);go_simp
 go_at_call 123
 refine (HP.o _ (Iw.o.but hHeld.2 eY)).mono ?_;rintro e w' ⟨rfl,rfl⟩;(try dsimp only);refine hK.out _ _ ?_ (fun aL=>?_)
 ·(try dsimp only)
  first|exact⟨ae.drew HK.o,ai.drew HB.o⟩|exact⟨ae.go hHeld.1 hb,ai.go hHeld.2 hb⟩|exact hHeld
 clear hK K hHeld;have hHeld:=aL;clear aL;(try simp only[Act.put,List.setIfInBounds_toArray,List.set_cons_zero,List.set_cons_succ]);(refine aJ (v:=?_) rfl rfl hHeld ?_ ?_;rotate_left;(· (intro w hSw;(try dsimp only at hSw);go_simp;try with_reducible rfl));(try simp only[nx,List.set]));refine wpAnyH_done (by kernel_rfl) ?_ _;go_wp2;go_ret2;exact⟨rfl,hHeld.1,hHeld.2⟩

theorem amP(w:World)(X:Nat)(s q:ByteArray)(k:Nat)(n:Nat)(h:till q.data.toList (s.data.toList.drop k)=some n)(hX:Sc w X s k)(eY:6≤X)(hg:Gl w)(ha:k≤s.size)(hs:s.size≤1000000000)(hq:q.size≤1000) :
  Calls Tryz.prog 148 #[.pointer (some ⟨X,0,none⟩),.string q] w fun e w'=>e=.returned (.tuple #[.string (s.extract k (k+n)),.bool true])∧Sc w' X s (k+n+q.size)∧ai X w w':=by
 have HP:=ap (show ∀W,Gl W→Calls Tryz.prog 123 #[.string (s.extract k s.size),.string q] W fun e w'=>e=.returned (.int .i64 (Lib.index (s.data.toList.drop k) q.data.toList))∧w'=W from fun W hW=>by
  have h:=YN (s.extract k s.size) q W hW (by rw[ByteArray.size_extract];omega);rw[ko,aZ] at h;rw[ko];exact h)
 obtain⟨hb,hn⟩:=GX h;rw[hb] at HP;rw[List.length_drop,bV,bV] at hn;clear h hb;have HK:=ap hX;have HB:=ap (ai.refl X w);have Iw:=ap hg;have pZ:¬s.size<k:=by omega
 clear hX hg
 go_enter Tryz.func148,Tryz.ntmps148
 go_wp2;refine wp_region_held_drew (S:=fun W=>Sc W X s k∧ai X w W) (by kernel_rfl) ?_ (fun hHeld=>?_)
 ·(try dsimp only)
  first|exact⟨ae.drew HK.o,ai.drew HB.o⟩|exact⟨ae.go hHeld.1 hb,ai.go hHeld.2 hb⟩|exact hHeld
 change wpAnyH _ _ _ _ _ 12 #[false,false,false,false,false,false,false,false,false,false,false,false] _ _;iterate 10 (refine aJ (v:=?_) rfl rfl hHeld ?_ ?_;rotate_left;(· (intro w hSw;(try dsimp only at hSw);have q0:=Sc.c0 hSw.1;have q1:=Sc.c1 hSw.1;go_simp;try with_reducible rfl));(try simp only[nx,List.set]))
 refine fU (i:=10) rfl (by kernel_rfl) (by kernel_rfl) (fun K hK=>?_);go_simp
 go_at_call 123
 refine (HP.o _ (Iw.o.but hHeld.2 eY)).mono ?_;rintro e w' ⟨rfl,rfl⟩;(try dsimp only);refine hK.out _ _ ?_ (fun aL=>?_)
 ·(try dsimp only)
  first|exact⟨ae.drew HK.o,ai.drew HB.o⟩|exact⟨ae.go hHeld.1 hb,ai.go hHeld.2 hb⟩|exact hHeld
 clear hK K hHeld;have hHeld:=aL;clear aL;(try simp only[Act.put,List.setIfInBounds_toArray,List.set_cons_zero,List.set_cons_succ]);(refine aJ (v:=?_) rfl rfl hHeld ?_ ?_;rotate_left;(· (intro w hSw;(try dsimp only at hSw);go_simp;try with_reducible rfl));(try simp only[nx,List.set]));refine wpAnyH_done (by kernel_rfl) ?_ _;have bm:=ap hHeld.1;have ag:=ap hHeld.2;clear hHeld HP HK HB;have h0:¬((n:Int)<0):=by omega
 have h1:k+n≤s.size:=by omega
 have h2:¬s.size<k+n:=by omega
 have hw:IntKind.i64.wrap ((k:Int)+n)=(k:Int)+n:=IntWalk.i64_in _ (by omega);have h4:(0:Int)≤(k:Int)+n∧(k:Int)+n≤(s.size:Int):=by omega
 have h5:(k:Int)≤(k:Int)+n:=by omega
 have h6:((k:Int)+n).toNat=k+n:=by omega
 go_wp2;refine wp_region_held_drew (S:=fun W=>Sc W X s k∧ai X w W) (by kernel_rfl) ?_ (fun hHeld=>?_)
 ·(try dsimp only)
  first|exact⟨ae.drew bm.o,ai.drew ag.o⟩|exact⟨ae.go hHeld.1 hb,ai.go hHeld.2 hb⟩|exact hHeld
 change wpAnyH _ _ _ _ _ 16 #[false,false,false,false,false,false,false,false,false,false,false,false,false,false,false,false] _ _;iterate 16 (refine aJ (v:=?_) rfl rfl hHeld ?_ ?_;rotate_left;(· (intro w hSw;(try dsimp only at hSw);have q0:=Sc.c0 hSw.1;have q1:=Sc.c1 hSw.1;go_simp;try with_reducible rfl));(try simp only[nx,List.set]))
 refine wpAnyH_done (by kernel_rfl) ?_ _;have K1:=ap hHeld.1;have B1:=ap hHeld.2;have q1:=Sc.c1 hHeld.1;have f1:=Sc.f1 hHeld.1;clear hHeld;go_wp2;go_ret2;exact⟨rfl,by rw[Nat.add_assoc];exact Sc.move K1.o (k+(n+q.size)),B1.o.setCell (.inl rfl) _⟩
end
section
namespace Utf

theorem ac0(l:List UInt8)(r n lo hi:Int):cont l 0 r n lo hi=(r,n):=by cases l<;>simp[cont]
theorem ajb{c:UInt8}(h:c.toNat<128)(l:List UInt8):piece (c :: l)=((c.toNat:Int),1):=by
 have e:follow (c.toNat:Int)=(0,(c.toNat:Int),128,191):=by unfold follow;rw[if_pos (by omega)]
 rw[zg,e];simp[ac0]
end Utf
namespace Tk
end Tk
end
section
open Go.RowKit Tk

end
section
open Go.RowKit Tk Sx

theorem xR{D:L}{k:Nat}{c:UInt8}(h:D[k]?=some c):D.drop k=c :: D.drop (k+1):=by
 obtain⟨h1,h2⟩:=List.getElem?_eq_some_iff.1 h;rw[←h2,←List.drop_eq_getElem_cons]
theorem Eu(s:ByteArray)(w:World):∃W g cap,(Go.convert 9 50 (.string s)).run Tryz.prog w=.ok (.slice (some ⟨g,0,none⟩) s.size cap) W∧Below w.heap.size w W∧g<W.heap.size∧
  ∀(k:Nat) (c:UInt8),s.data.toList[k]?=some c→W.cell? ⟨g,k,none⟩=some (.int .u8 (c.toNat:Nat)):=by
 refine⟨_,_,_,run_bytes_of_string (P:=Tryz.prog) w 9 50 5 s Tryz.underlying9 Tryz.underlying50 Tryz.underlying5,?_,?_,?_⟩
 ·exact (Below.refl _ w).drew.alloc (by simp) _
 ·simp
 intro k c hc;obtain⟨h1,h2⟩:=List.getElem?_eq_some_iff.1 hc;have hk:k<s.data.size:=by simpa using h1
 have:=bytesRow_at s (grownCap w s.size 0 5) k hk;have e:w.heap.size=w.drew.heap.size:=rfl;rw[e,World.cell?_alloc_mark,this];have h3:s.data[k]=c:=by simpa using h2
 rw[h3]

theorem ahh(c:UInt8):bits BinOp.and IntKind.u8 (c.toNat:Int) 15=((c.toNat % 16:Nat):Int):=by
 have h:∀n:Fin 256,bits BinOp.and IntKind.u8 (n.val:Int) 15=((n.val % 16:Nat):Int):=by decide +kernel
 exact h ⟨c.toNat,c.toNat_lt⟩

theorem Zi(c:UInt8)(w:World):Calls Tryz.prog 205 #[.int .u8 (c.toNat:Nat)] w fun e w'=>e=.returned (.int .i64 ((nV c:Nat):Int))∧w'=w:=by
 have hb:=ahh c;have hlt:=c.toNat_lt;have hm:c.toNat % 16<16:=Nat.mod_lt _ (by omega);obtain⟨z,hz⟩:∃z:Nat,c.toNat % 16=z:=⟨_,rfl⟩;rw[hz] at hb hm;have hw:IntKind.i64.wrap (z:Int)=(z:Int):=IntWalk.i64_in _ (by omega);have hw9:IntKind.i64.wrap ((z:Int)+9)=(z:Int)+9:=IntWalk.i64_in _ (by omega);obtain⟨q,hq⟩:∃q:Nat,c.toNat=q:=⟨_,rfl⟩;have Hq:nV c=if 48≤q∧q≤57 then q-48 else if 97≤q∧q≤102 then q-87 else if 65≤q∧q≤70 then q-55 else 16:=by rw[←hq];rfl
 rw[Hq];rw[hq] at hb hlt hz;rw[hq];clear hq Hq;obtain⟨R,hR⟩:∃R:Nat,(if 48≤q∧q≤57 then q-48 else if 97≤q∧q≤102 then q-87 else if 65≤q∧q≤70 then q-55 else 16)=R:=⟨_,rfl⟩;rw[hR]
 by_cases a1:48≤q
 ·by_cases a2:q≤57
  ·have Hr:=ap (show (z:Int)=(R:Int) by rw[←hR,if_pos ⟨a1,a2⟩];omega);have g1:(48:Int)≤(q:Int):=by omega
   have g2:(q:Int)≤57:=by omega
   clear hR hz hlt a1 a2
   go_enter Tryz.func205,Tryz.ntmps205
   go_wp2
   go_ret
   exact⟨aC (int_eq (Hr.o)),rfl⟩
  by_cases b1:97≤q
  ·by_cases b2:q≤102
   ·have Hr:=ap (show (z:Int)+9=(R:Int) by rw[←hR,if_neg (by omega),if_pos ⟨b1,b2⟩];omega);have g1:(48:Int)≤(q:Int):=by omega
    have g2:¬(q:Int)≤57:=by omega
    have g3:(97:Int)≤(q:Int):=by omega
    have g4:(q:Int)≤102:=by omega
    clear hR hz hlt a1 a2 b1 b2
    go_enter Tryz.func205,Tryz.ntmps205
    go_wp2
    go_ret
    exact⟨aC (int_eq (Hr.o)),rfl⟩
   have Hr:=ap (show (16:Int)=(R:Int) by rw[←hR,if_neg (by omega),if_neg (by omega),if_neg (by omega)];rfl);have g1:(48:Int)≤(q:Int):=by omega
   have g2:¬(q:Int)≤57:=by omega
   have g3:(97:Int)≤(q:Int):=by omega
   have g4:¬(q:Int)≤102:=by omega
   have g5:(65:Int)≤(q:Int):=by omega
   have g6:¬(q:Int)≤70:=by omega
   clear hR hz hlt a1 a2 b1 b2
   go_enter Tryz.func205,Tryz.ntmps205
   go_wp2
   go_ret
   exact⟨aC (int_eq (Hr.o)),rfl⟩
  by_cases d1:65≤q
  ·by_cases d2:q≤70
   ·have Hr:=ap (show (z:Int)+9=(R:Int) by rw[←hR,if_neg (by omega),if_neg (by omega),if_pos ⟨d1,d2⟩];omega);have g1:(48:Int)≤(q:Int):=by omega
    have g2:¬(q:Int)≤57:=by omega
    have g3:¬(97:Int)≤(q:Int):=by omega
    have g5:(65:Int)≤(q:Int):=by omega
    have g6:(q:Int)≤70:=by omega
    clear hR hz hlt a1 a2 b1 d1 d2
    go_enter Tryz.func205,Tryz.ntmps205
    go_wp2
    go_ret
    exact⟨aC (int_eq (Hr.o)),rfl⟩
   have Hr:=ap (show (16:Int)=(R:Int) by rw[←hR,if_neg (by omega),if_neg (by omega),if_neg (by omega)];rfl);have g1:(48:Int)≤(q:Int):=by omega
   have g2:¬(q:Int)≤57:=by omega
   have g3:¬(97:Int)≤(q:Int):=by omega
   have g5:(65:Int)≤(q:Int):=by omega
   have g6:¬(q:Int)≤70:=by omega
   clear hR hz hlt a1 a2 b1 d1 d2
   go_enter Tryz.func205,Tryz.ntmps205
   go_wp2
   go_ret
   exact⟨aC (int_eq (Hr.o)),rfl⟩
  have Hr:=ap (show (16:Int)=(R:Int) by rw[←hR,if_neg (by omega),if_neg (by omega),if_neg (by omega)];rfl);have g1:(48:Int)≤(q:Int):=by omega
  have g2:¬(q:Int)≤57:=by omega
  have g3:¬(97:Int)≤(q:Int):=by omega
  have g5:¬(65:Int)≤(q:Int):=by omega
  clear hR hz hlt a1 a2 b1 d1
  go_enter Tryz.func205,Tryz.ntmps205
  go_wp2
  go_ret
  exact⟨aC (int_eq (Hr.o)),rfl⟩
 have Hr:=ap (show (16:Int)=(R:Int) by rw[←hR,if_neg (by omega),if_neg (by omega),if_neg (by omega)];rfl);have g1:¬(48:Int)≤(q:Int):=by omega
 have g3:¬(97:Int)≤(q:Int):=by omega
 have g5:¬(65:Int)≤(q:Int):=by omega
 clear hR hz hlt a1
 go_enter Tryz.func205,Tryz.ntmps205
 go_wp2
 go_ret
 exact⟨aC (int_eq (Hr.o)),rfl⟩

def lr(l:L)(k:Nat):Int:=match Sx.ends (l.drop k) with
 | some n=>((k+n:Nat):Int)
 | none=>-1
theorem adO{l:L}{k:Nat}{c:UInt8}(hc:l[k]?=some c)(h:c=59):lr l k=k:=by
 unfold lr;rw[xR hc];unfold Sx.ends;rw[if_pos h];rfl
theorem SL{l:L}{k:Nat}{c:UInt8}(hc:l[k]?=some c)(h0:c≠59)(h:c=38∨c=60):lr l k = -1:=by
 unfold lr;rw[xR hc];unfold Sx.ends;rw[if_neg h0,if_pos h]
theorem adP{l:L}{k:Nat}{c:UInt8}(hc:l[k]?=some c)(h0:c≠59)(h1:c≠38)(h2:c≠60):lr l k=lr l (k+1):=by
 unfold lr;rw[xR hc]
 conv=>lhs;unfold Sx.ends
 rw[if_neg h0,if_neg (by simp[h1,h2])]
 cases Sx.ends (l.drop (k+1)) with
 | none=>rfl
 | some n=>simp only[Option.map_some];congr 1;omega
theorem adQ{l:L}{k:Nat}(h:l.length≤k):lr l k = -1:=by
 unfold lr;rw[List.drop_of_length_le h];rfl

theorem adR(s:ByteArray)(w:World)(hs:s.size≤1000000000) :
  Calls Tryz.prog 157 #[.string s] w fun e w'=>e=.returned (.int .i64 (lr s.data.toList 0))∧Below w.heap.size w w':=by
 obtain⟨W,g,cap,ny,hb,hg,hat⟩:=Eu s w;obtain⟨D,hD⟩:∃D,s.data.toList=D:=⟨_,rfl⟩;have cy:=ap (show D.length=s.size by rw[←hD,bV]);rw[hD] at hat ⊢;obtain⟨z,hz⟩:∃z,lr D 0=z:=⟨_,rfl⟩;have Hz:=ap hz;rw[hz];have qL:=ap hat;have HB:=ap hb;clear hD hz hat hb
 go_enter Tryz.func157,Tryz.ntmps157
 go_wp2;clear ny
 go_loopg [8] s.size (fun gk v wr=>∃k:Nat,gk=s.size-k∧k≤s.size∧v=.int .i64 (k:Int)∧lr D k=z∧wr=W)
 case atStart=>exact⟨0,rfl,by omega,rfl,Hz.o,rfl⟩
 case round=>
  obtain⟨k,au,hk,rfl,qj,rfl⟩:=hrel;have Hg:=ap au;have j7:=ap qj;clear au qj Hz
  by_cases hlt:k<s.size
  ·obtain⟨c,hc⟩:∃c,D[k]?=some c:=⟨_,List.getElem?_eq_getElem (by rw[cy.o];exact hlt)⟩;have hcell:=qL.o k c hc;have iT:(0:Int)≤(k:Int):=by omega
   have key:∀d:UInt8,((c.toNat:Int)==(d.toNat:Int))=(c==d):=fun d=>by
    rw[Bool.eq_iff_iff,beq_iff_eq,beq_iff_eq];exact⟨fun h=>UInt8.toNat_inj.1 (by omega),fun h=>by rw[h]⟩
   have e1:((c.toNat:Int)==59)=(c==59):=key 59;have e2:((c.toNat:Int)==38)=(c==38):=key 38;have e3:((c.toNat:Int)==60)=(c==60):=key 60;clear key
   by_cases h1:c=59
   ·have Hr:=ap (show (k:Int)=z by rw[←j7.o,adO hc h1]);have q1:(c==59)=true:=by rw[beq_iff_eq];exact h1
    clear h1 hc j7 e2 e3;go_wp2;go_ret;exact⟨aC (int_eq Hr.o),HB.o⟩
   have q1:(c==59)=false:=by rw[beq_eq_false_iff_ne];exact h1
   by_cases h2:c=38
   ·have Hr:=ap (show (-1:Int)=z by rw[←j7.o,SL hc h1 (.inl h2)]);have q2:(c==38)=true:=by rw[beq_iff_eq];exact h2
    clear h1 h2 hc j7 e3;go_wp2;go_ret;exact⟨aC (int_eq Hr.o),HB.o⟩
   have q2:(c==38)=false:=by rw[beq_eq_false_iff_ne];exact h2
   by_cases h3:c=60
   ·have Hr:=ap (show (-1:Int)=z by rw[←j7.o,SL hc h1 (.inr h3)]);have q3:(c==60)=true:=by rw[beq_iff_eq];exact h3
    clear h1 h2 h3 hc j7;go_wp2;go_ret;exact⟨aC (int_eq Hr.o),HB.o⟩
   have q3:(c==60)=false:=by rw[beq_eq_false_iff_ne];exact h3
   have Hn:=ap (show lr D (k+1)=z by rw[←j7.o,adP hc h1 h2 h3]);clear h1 h2 h3 hc j7;go_wp2
   go_roundg (s.size-(k+1))
   case measure=>have:=Hg.o;omega
   case rel=>exact⟨k+1,rfl,by omega,by go_num,Hn.o,rfl⟩
  have Hr:=ap (show (-1:Int)=z by rw[←j7.o,adQ (by rw[cy.o];omega)]);clear j7;go_wp2;go_ret;exact⟨aC (int_eq Hr.o),HB.o⟩
end
section
open Go.RowKit

theorem VU(r:Int)(w:World):Calls Tryz.prog 206 #[.int .i64 r] w fun e w'=>e=.returned (.bool (Utf.isScalar r))∧w=w':=by
 by_cases h0:0≤r
 ·by_cases h1:r≤1114111
  ·by_cases h2:r<55296
   all_goals
    go_enter Tryz.func206,Tryz.ntmps206
    go_wp2;go_ret;exact⟨aC (aR (by rw[Bool.eq_iff_iff];simp[Utf.isScalar];omega)),rfl⟩
  go_enter Tryz.func206,Tryz.ntmps206
  go_wp2;go_ret;exact⟨aC (aR (by rw[Bool.eq_iff_iff];simp[Utf.isScalar];omega)),rfl⟩
 go_enter Tryz.func206,Tryz.ntmps206
 go_wp2;go_ret;exact⟨aC (aR (by rw[Bool.eq_iff_iff];simp[Utf.isScalar];omega)),rfl⟩

def lenOf(r:Int):Int:=if r<128 then 1 else if r<2048 then 2 else if r<65536 then 3 else 4

theorem ahn(r:Int)(w:World)(h:Utf.isScalar r=false):Calls Tryz.prog 160 #[.int .i64 r] w fun e w'=>e=.returned (.int .i64 0)∧w=w':=by
 have H:=ap h;clear h
 go_enter Tryz.func160,Tryz.ntmps160
 go_wp2_with (go_at_call 206;refine (VU _ _).mono ?_;rintro e w' ⟨rfl,rfl⟩;rw[H.o])
 go_ret;exact⟨rfl,rfl⟩

theorem Gj(r:Int)(w:World)(h:Utf.isScalar r=true):Calls Tryz.prog 160 #[.int .i64 r] w fun e w'=>e=.returned (.int .i64 (lenOf r))∧Below w.heap.size w w':=by
 have h1:0≤r∧r≤1114111:=by simp[Utf.isScalar] at h;omega
 obtain⟨h1,h2⟩:=h1;have H:=ap h;clear h;have i0:∀w,(Instr.index 253 (.agg #[.int .i64 128,.int .i64 2048,.int .i64 65536,.int .i64 1114112]) (.int .i64 0)).run Tryz.prog w=.ok (.int .i64 128) w:=fun _=>by kernel_rfl
 have i1:∀w,(Instr.index 253 (.agg #[.int .i64 128,.int .i64 2048,.int .i64 65536,.int .i64 1114112]) (.int .i64 1)).run Tryz.prog w=.ok (.int .i64 2048) w:=fun _=>by kernel_rfl
 have i2:∀w,(Instr.index 253 (.agg #[.int .i64 128,.int .i64 2048,.int .i64 65536,.int .i64 1114112]) (.int .i64 2)).run Tryz.prog w=.ok (.int .i64 65536) w:=fun _=>by kernel_rfl
 have i3:∀w,(Instr.index 253 (.agg #[.int .i64 128,.int .i64 2048,.int .i64 65536,.int .i64 1114112]) (.int .i64 3)).run Tryz.prog w=.ok (.int .i64 1114112) w:=fun _=>by kernel_rfl
 go_enter Tryz.func160,Tryz.ntmps160
 go_wp2_with (go_at_call 206;refine (VU _ _).mono ?_;rintro e w' ⟨rfl,rfl⟩;rw[H.o])
 refine wp_loop_rounds 4 ?_;rw[rounds_succ];go_wp2
 ·go_ret;exact⟨aC (int_eq (by unfold lenOf;rw[if_pos (by omega)])),(Below.refl _ _).alloc (Nat.le_refl _) _⟩
 rw[rounds_succ];go_wp2
 ·go_ret;exact⟨aC (int_eq (by unfold lenOf;rw[if_neg (by omega),if_pos (by omega)])),(Below.refl _ _).alloc (Nat.le_refl _) _⟩
 rw[rounds_succ];go_wp2
 ·go_ret;exact⟨aC (int_eq (by unfold lenOf;rw[if_neg (by omega),if_neg (by omega),if_pos (by omega)])),(Below.refl _ _).alloc (Nat.le_refl _) _⟩
 rw[rounds_succ];go_wp2;go_ret;exact⟨aC (int_eq (by unfold lenOf;rw[if_neg (by omega),if_neg (by omega),if_neg (by omega)])),(Below.refl _ _).alloc (Nat.le_refl _) _⟩

theorem XD(r:Int)(w:World)(h:Utf.isScalar r=false):Calls Tryz.prog 118 #[.int .i64 r] w fun e w'=>e=.returned (.tuple #[.string ⟨#[]⟩,.bool false])∧w=w':=by
 go_enter Tryz.func118,Tryz.ntmps118
 have H:=ap h;clear h
 go_wp2_with (go_at_call 160;refine (ahn _ _ H.o).mono ?_;rintro e w' ⟨rfl,rfl⟩)
 go_ret2;exact⟨rfl,rfl⟩

theorem ajv(r:Int)(w:World)(h0:0≤r)(h1:r<128):Calls Tryz.prog 118 #[.int .i64 r] w fun e w'=>(∃t:ByteArray,e=.returned (.tuple #[.string t,.bool true])∧fS t ((Utf.put r).map bv))∧Below w.heap.size w w':=by
 have H:am (Utf.isScalar r=true):=by show Utf.isScalar r=true;simp[Utf.isScalar];omega
 have L:am (lenOf r=1):=by show lenOf r=1;unfold lenOf;rw[if_pos h1]
 go_enter Tryz.func118,Tryz.ntmps118
 go_wp2_with (first
  | (go_at_call 160;refine (Gj _ _ H.o).mono ?_;rintro e w1 ⟨rfl,hb⟩;rw[L.o])
  | (with_reducible show wpList _ _ _ (⟨_,.convert 50 9 _,_,_,_,_⟩ :: _) _ _;refine nW rfl 50 9 5 _ rfl Tryz.underlying50 Tryz.underlying5 Tryz.underlying9 w1.heap.size _ 1 rfl [bv r] (aiH w1 _ r h0 (by omega)) ?_;intro t ht))
 go_ret2;exact⟨⟨t,rfl,by unfold Utf.put;rw[if_pos h1];exact ht⟩,hb.alloc hb.size _⟩

theorem am6(x y:Int)(k:Nat)(h0:0≤x)(hy:0≤y)(hk:y<2 ^ k)(hx:x*2 ^ k+y<256)(z:Int)(hz:z=x*2 ^ k):bits .or .u8 z y=z+y:=by
 subst hz;exact am5 x y k h0 hy hk hx

theorem ajt(r:Int)(w:World)(h0:128≤r)(h1:Utf.isScalar r=true):Calls Tryz.prog 118 #[.int .i64 r] w fun e w'=>(∃t:ByteArray,e=.returned (.tuple #[.string t,.bool true])∧fS t ((Utf.put r).map bv))∧Below w.heap.size w w':=by
 have h2:r≤1114111:=by simp[Utf.isScalar] at h1;omega
 have H:=ap h1;clear h1
 go_enter Tryz.func118,Tryz.ntmps118
 by_cases ha:r<2048
 ·have L:am (lenOf r=2):=by show lenOf r=2;unfold lenOf;rw[if_neg (by omega),if_pos ha]
  have rJ:∀w,(Instr.makeSlice 50 (.int .i64 2) (.int .i64 2)).run Tryz.prog w=.ok (.slice (some ⟨w.heap.size,0,none⟩) 2 2) (w.alloc (.cells #[.int .u8 0,.int .u8 0] 5)):=fun _=>by kernel_rfl
  have hor:bits .or .u8 192 (r / 64 % 256)=192+r / 64:=by rw[show r / 64 % 256=r / 64 from by omega];exact am6 6 _ 5 (by omega) (by omega) (by omega) (by omega) _ rfl
  go_wp2_with (first
   | (go_at_call 160;refine (Gj _ _ H.o).mono ?_;rintro e w1 ⟨rfl,hb⟩;rw[L.o]))
  refine wp_loop_rounds 2 ?_;rw[rounds_succ];go_wp2;rw[rounds_succ]
  go_wp2_with (with_reducible show wpList _ _ _ (⟨_,.convert 50 9 _,_,_,_,_⟩ :: _) _ _;refine nW rfl 50 9 5 _ rfl Tryz.underlying50 Tryz.underlying5 Tryz.underlying9 (w1.heap.size+1) _ 2 rfl _ (Xc (w1.alloc _) _ _ _ (by simp) (Nat.le_refl _) (192+r / 64) (128+r % 64) (by omega) (by omega)) ?_;intro t ht)
  go_ret2;exact⟨⟨t,rfl,by unfold Utf.put;rw[if_neg (show ¬r<128 by omega),if_pos (show r<2048 by omega)];exact ht⟩,(hb.alloc hb.size _).alloc (by have:=hb.size;simp;omega) _⟩
 by_cases TB:r<65536
 ·have L:am (lenOf r=3):=by show lenOf r=3;unfold lenOf;rw[if_neg (by omega),if_neg ha,if_pos TB]
  have rJ:∀w,(Instr.makeSlice 50 (.int .i64 3) (.int .i64 3)).run Tryz.prog w=.ok (.slice (some ⟨w.heap.size,0,none⟩) 3 3) (w.alloc (.cells #[.int .u8 0,.int .u8 0,.int .u8 0] 5)):=fun _=>by kernel_rfl
  go_wp2_with (first
   | (go_at_call 160;refine (Gj _ _ H.o).mono ?_;rintro e w1 ⟨rfl,hb⟩;rw[L.o]))
  refine wp_loop_rounds 3 ?_;rw[rounds_succ];go_wp2;rw[rounds_succ];go_wp2;rw[rounds_succ]
  go_wp2_with (with_reducible show wpList _ _ _ (⟨_,.convert 50 9 _,_,_,_,_⟩ :: _) _ _;refine nW rfl 50 9 5 _ rfl Tryz.underlying50 Tryz.underlying5 Tryz.underlying9 (w1.heap.size+1) _ 3 rfl _ (Xd (w1.alloc _) _ _ _ (by simp) (Nat.le_refl _) (224+r / 64 / 64) (128+r / 64 % 64) (128+r % 64) (by omega) (by omega) (by omega)) ?_;intro t ht)
  go_ret2;exact⟨⟨t,rfl,by unfold Utf.put;rw[if_neg (show ¬r<128 by omega),if_neg (show ¬r<2048 by omega),if_pos (show r<65536 by omega)];exact ht⟩,(hb.alloc hb.size _).alloc (by have:=hb.size;simp;omega) _⟩
 have L:am (lenOf r=4):=by show lenOf r=4;unfold lenOf;rw[if_neg (by omega),if_neg ha,if_neg TB]
 have rJ:∀w,(Instr.makeSlice 50 (.int .i64 4) (.int .i64 4)).run Tryz.prog w=.ok (.slice (some ⟨w.heap.size,0,none⟩) 4 4) (w.alloc (.cells #[.int .u8 0,.int .u8 0,.int .u8 0,.int .u8 0] 5)):=fun _=>by kernel_rfl
 go_wp2_with (first
  | (go_at_call 160;refine (Gj _ _ H.o).mono ?_;rintro e w1 ⟨rfl,hb⟩;rw[L.o]))
 refine wp_loop_rounds 4 ?_;rw[rounds_succ];go_wp2;rw[rounds_succ];go_wp2;rw[rounds_succ];go_wp2;rw[rounds_succ]
 go_wp2_with (with_reducible show wpList _ _ _ (⟨_,.convert 50 9 _,_,_,_,_⟩ :: _) _ _;refine nW rfl 50 9 5 _ rfl Tryz.underlying50 Tryz.underlying5 Tryz.underlying9 (w1.heap.size+1) _ 4 rfl _ (Xe (w1.alloc _) _ _ _ (by simp) (Nat.le_refl _) (240+r / 64 / 64 / 64) (128+r / 64 / 64 % 64) (128+r / 64 % 64) (128+r % 64) (by omega) (by omega) (by omega) (by omega)) ?_;intro t ht)
 go_ret2;exact⟨⟨t,rfl,by unfold Utf.put;rw[if_neg (show ¬r<128 by omega),if_neg (show ¬r<2048 by omega),if_neg (show ¬r<65536 by omega)];exact ht⟩,(hb.alloc hb.size _).alloc (by have:=hb.size;simp;omega) _⟩

theorem Nt(r:Int)(w:World)(h:Utf.isScalar r=true):Calls Tryz.prog 118 #[.int .i64 r] w fun e w'=>(∃t:ByteArray,e=.returned (.tuple #[.string t,.bool true])∧fS t ((Utf.put r).map bv))∧Below w.heap.size w w':=by
 have h2:0≤r:=by simp[Utf.isScalar] at h;omega
 by_cases h1:r<128
 ·exact ajv r w h2 h1
 exact ajt r w (by omega) h

theorem zj(r:Int):(Utf.put r).length≤4:=by
 unfold Utf.put;split
 ·simp
 split
 ·simp
 split<;>simp
end
end Go.Proofs.YtpdkeckeekchlaaGreatDoor
