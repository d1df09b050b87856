/- Tokens: the scan's small methods, walked. (Printed by wip/genTkA.py.) And more. -/
import Derived.Test.YtnbmfljhbpfilaaGreatDoorOw00
import Derived.Test.YtnbmfljhbpfilaaGreatDoorOw01
import Derived.Test.YtnbmfljhbpfilaaGreatDoorShelf
import Derived.Deep.QuietTactic
import Derived.BigQuiet
import Derived.Deep.LoopGhost
import Derived.WalkSpells
import Derived.WalkLawsBesides
import Derived.Laws.IdiomStrings
set_option linter.unusedSimpArgs false
set_option maxHeartbeats 8000000
set_option linter.unusedVariables false
namespace Go.Proofs.YtnbmfljhbpfilaaGreatDoor
section
open Go.RowKit Tk

def Sc(w:World)(X:Nat)(s:ByteArray)(k:Nat):Prop:=ae w X 142 #[.string s,.int .i64 (k:Int)]
theorem Sc.c0{w:World}{X:Nat}{s:ByteArray}{k:Nat}(h:Sc w X s k):w.cell? ⟨X,0,none⟩=some (.string s):=ae.cell h 0
theorem Sc.c1{w:World}{X:Nat}{s:ByteArray}{k:Nat}(h:Sc w X s k):w.cell? ⟨X,1,none⟩=some (.int .i64 (k:Int)):=ae.cell h 1
theorem Sc.f1{w:World}{X:Nat}{s:ByteArray}{k:Nat}(h:Sc w X s k):w.frozen? ⟨X,1,none⟩=false:=ae.frozen h 1
theorem Sc.move{w:World}{X:Nat}{s:ByteArray}{k:Nat}(h:Sc w X s k)(j:Nat):Sc (w.setCell ⟨X,1,none⟩ (.int .i64 (j:Int))) X s j:=by
 have:=ae.aI h 1 (.int .i64 (j:Int))
 simpa[Sc] using this
theorem rb(s:ByteArray)(k:Nat)(c:UInt8)(h:s.data.toList[k]?=some c)(w:World):(Instr.index 9 (.string s) (.int .i64 (k:Int))).run Tryz.prog w=.ok (.int .u8 (c.toNat:Nat)) w:=by
 obtain⟨hk,hc⟩:=List.getElem?_eq_some_iff.1 h;rw[bL] at hk;have hc':s[k]=c:=hc;go_simp
theorem ahH(l:L)(j:Nat)(h:j<aL l):∃c,l[j]?=some c∧sp c=true:=by
 induction l generalizing j with
 | nil=>simp[aL] at h
 | cons c l ih=>
  unfold aL at h;rw[List.takeWhile_cons] at h
  split at h
  ·rename_i hc
   cases j with
   | zero=>exact⟨c,rfl,hc⟩
   | succ j=>exact ih j (by simpa[aL] using h)
  simp at h
theorem ahI(l:L):l.length=aL l∨∃c,l[aL l]?=some c∧sp c=false:=by
 induction l with
 | nil=>left;rfl
 | cons c l ih=>
  unfold aL;rw[List.takeWhile_cons];split
  ·rcases ih with h|⟨d,h1,h2⟩
   ·left;simpa[aL] using h
   right;exact⟨d,by simpa[aL] using h1,h2⟩
  rename_i hc
  right
  exact⟨c,rfl,by simpa using hc⟩
theorem BP(l:L):aL l≤l.length:=by
 unfold aL;exact (List.takeWhile_sublist sp).length_le

theorem xj(w:World)(X:Nat)(s:ByteArray)(at_:Nat)(hX:Sc w X s at_)(ha:at_≤s.size)(hs:s.size≤1000000000) :
  Calls Tryz.prog 116 #[.pointer (some ⟨X,0,none⟩)] w fun e w'=>e=.returned (.bool (decide (0<aL (s.data.toList.drop at_))))∧Sc w' X s (at_+aL (s.data.toList.drop at_))∧ag X w w':=by
 obtain⟨N,hN⟩:∃N,aL (s.data.toList.drop at_)=N:=⟨_,rfl⟩
 have HL:=hide (show at_+N≤s.size from by
  have:=BP (s.data.toList.drop at_);rw[List.length_drop,bL,hN] at this
  omega)
 have HI:=hide fun j (hj:j<N)=>(show ∃c,s.data.toList[at_+j]?=some c∧sp c=true from by
  obtain⟨c,h1,h2⟩:=ahH (s.data.toList.drop at_) j (by rw[hN];exact hj);exact⟨c,by rwa[List.getElem?_drop] at h1,h2⟩)
 have HE:=hide (show s.size=at_+N∨∃c,s.data.toList[at_+N]?=some c∧sp c=false from by
  rcases ahI (s.data.toList.drop at_) with h|⟨c,h1,h2⟩
  ·left
   rw[List.length_drop,bL,hN] at h;omega
  right
  rw[hN] at h1;exact⟨c,by rwa[List.getElem?_drop] at h1,h2⟩)
 rw[hN];have q0:w.cell? ⟨X,0,none⟩=some (.string s):=ae.cell hX 0;have q1:w.cell? ⟨X,1,none⟩=some (.int .i64 (at_:Int)):=ae.cell hX 1;have HX:=hide hX;clear hX hN
 go_enter Tryz.func116,Tryz.ntmps116
 go_wp2;clear q0 q1
 go_loopg [] N (fun g wr=>∃k:Nat,g=at_+N-k∧at_≤k∧k≤at_+N∧Sc wr X s k∧ag X w wr)
 case atStart=>exact⟨at_,by omega,by omega,by omega,HX.out,ag.refl _ _⟩
 case round=>
  obtain⟨k,hg,iF,cn,hK,hB⟩:=hrel;have Hg:=hide hg;have HK:=hide hK;have HB:=hide hB;have cu:k≤s.size:=by have:=HL.out;omega
  clear hg hK hB
  by_cases hlt:k<at_+N
  ·obtain⟨c,hc,hsp⟩:=HI.out (k-at_) (by omega);rw[show at_+(k-at_)=k by omega] at hc;have Um:k<s.size:=by have:=HL.out;omega
   have zr:=hide (Nn c);rw[hsp] at zr;have fY:=rb s k c hc;clear hc hsp;go_wp2;refine wp_region_held_drew (S:=fun W=>Sc W X s k∧ag X w W) (by kernel_rfl) ?_ (fun hHeld=>?_)
   ·(try dsimp only)
    first|exact⟨ae.drew HK.out,ag.drew HB.out⟩|exact⟨ae.go hHeld.1 hb,ag.go hHeld.2 hb⟩|exact hHeld
   change wpAnyH _ _ _ _ _ 22 #[false,false,false,false,false,false,false,false,false,false,false,false,false,false,false,false,false,false,false,false,false,false] _ _;iterate 20 (refine aY (v:=?_) rfl rfl hHeld ?_ ?_;rotate_left;(· (intro w hSw;(try dsimp only at hSw);have q0:=Sc.c0 hSw.1;have q1:=Sc.c1 hSw.1;go_simp;try with_reducible rfl));(try simp only[nx,List.set]))
   refine jg (i:=20) rfl (by kernel_rfl) (by kernel_rfl) (fun K hK=>?_);go_simp
   go_at_call 120
   refine (zr.out _).mono ?_;rintro e w' ⟨rfl,rfl⟩;(try dsimp only);refine hK.out _ _ ?_ (fun aV=>?_)
   ·(try dsimp only)
    first|exact⟨ae.drew HK.out,ag.drew HB.out⟩|exact⟨ae.go hHeld.1 hb,ag.go hHeld.2 hb⟩|exact hHeld
   clear hK K hHeld;have hHeld:=aV;clear aV;(try simp only[Act.put,List.setIfInBounds_toArray,List.set_cons_zero,List.set_cons_succ]);(refine aY (v:=?_) rfl rfl hHeld ?_ ?_;rotate_left;(· (intro w hSw;(try dsimp only at hSw);go_simp;try with_reducible rfl));(try simp only[nx,List.set]));refine wpAnyH_done (by kernel_rfl) ?_ _;have K1:=hide hHeld.1;have B1:=hide hHeld.2;have q1:=Sc.c1 hHeld.1;have f1:=Sc.f1 hHeld.1;clear hHeld;go_wp2
   go_roundg (at_+N-(k+1))
   case measure=>have:=Hg.out;omega
   case rel=>exact⟨k+1,by omega,by omega,by omega,Sc.move K1.out (k+1),B1.out.setCell (.inl rfl) _⟩
  have xQ:k=at_+N:=by omega
  rcases HE.out with he|⟨c,hc,hsp⟩
  ·have Um:¬k<s.size:=by omega
   have zf:=hide xQ;clear xQ he hlt;go_wp2;refine wp_region_held_drew (S:=fun W=>Sc W X s k∧ag X w W) (by kernel_rfl) ?_ (fun hHeld=>?_)
   ·(try dsimp only)
    first|exact⟨ae.drew HK.out,ag.drew HB.out⟩|exact⟨ae.go hHeld.1 hb,ag.go hHeld.2 hb⟩|exact hHeld
   change wpAnyH _ _ _ _ _ 22 #[false,false,false,false,false,false,false,false,false,false,false,false,false,false,false,false,false,false,false,false,false,false] _ _;iterate 3 (refine aY (v:=?_) rfl rfl hHeld ?_ ?_;rotate_left;(· (intro w hSw;(try dsimp only at hSw);go_simp;try with_reducible rfl));(try simp only[nx,List.set]))
   (refine aY (v:=?_) rfl rfl hHeld ?_ ?_;rotate_left;(· (intro w hSw;(try dsimp only at hSw);have q0:=Sc.c0 hSw.1;have q1:=Sc.c1 hSw.1;go_simp;try with_reducible rfl));(try simp only[nx,List.set]));iterate 3 (refine aY (v:=?_) rfl rfl hHeld ?_ ?_;rotate_left;(· (intro w hSw;(try dsimp only at hSw);go_simp;try with_reducible rfl));(try simp only[nx,List.set]))
   (refine aY (v:=?_) rfl rfl hHeld ?_ ?_;rotate_left;(· (intro w hSw;(try dsimp only at hSw);have q0:=Sc.c0 hSw.1;have q1:=Sc.c1 hSw.1;go_simp;try with_reducible rfl));(try simp only[nx,List.set]));iterate 3 (refine aY (v:=?_) rfl rfl hHeld ?_ ?_;rotate_left;(· (intro w hSw;(try dsimp only at hSw);go_simp;try with_reducible rfl));(try simp only[nx,List.set]))
   iterate 10 (refine vT rfl rfl hHeld ?_;(try simp only[nx,List.set]))
   (refine aY (v:=?_) rfl rfl hHeld ?_ ?_;rotate_left;(· (intro w hSw;(try dsimp only at hSw);go_simp;try with_reducible rfl));(try simp only[nx,List.set]));refine wpAnyH_done (by kernel_rfl) ?_ _;have K1:=hide hHeld.1;have B1:=hide hHeld.2;have q1:=Sc.c1 hHeld.1;clear hHeld;go_wp2;go_ret;exact⟨aO (ck (by rw[zf.out];simp)),by rw[←zf.out];exact K1.out,B1.out⟩
  rw[←xQ] at hc
  have Um:k<s.size:=by
   have:=(List.getElem?_eq_some_iff.1 hc).1;rwa[bL] at this
  have zr:=hide (Nn c);rw[hsp] at zr;have fY:=rb s k c hc;have zf:=hide xQ;clear hc hsp xQ hlt;go_wp2;refine wp_region_held_drew (S:=fun W=>Sc W X s k∧ag X w W) (by kernel_rfl) ?_ (fun hHeld=>?_)
  ·(try dsimp only)
   first|exact⟨ae.drew HK.out,ag.drew HB.out⟩|exact⟨ae.go hHeld.1 hb,ag.go hHeld.2 hb⟩|exact hHeld
  change wpAnyH _ _ _ _ _ 22 #[false,false,false,false,false,false,false,false,false,false,false,false,false,false,false,false,false,false,false,false,false,false] _ _;iterate 20 (refine aY (v:=?_) rfl rfl hHeld ?_ ?_;rotate_left;(· (intro w hSw;(try dsimp only at hSw);have q0:=Sc.c0 hSw.1;have q1:=Sc.c1 hSw.1;go_simp;try with_reducible rfl));(try simp only[nx,List.set]))
  refine jg (i:=20) rfl (by kernel_rfl) (by kernel_rfl) (fun K hK=>?_);go_simp
  go_at_call 120
  refine (zr.out _).mono ?_;rintro e w' ⟨rfl,rfl⟩;(try dsimp only);refine hK.out _ _ ?_ (fun aV=>?_)
  ·(try dsimp only)
   first|exact⟨ae.drew HK.out,ag.drew HB.out⟩|exact⟨ae.go hHeld.1 hb,ag.go hHeld.2 hb⟩|exact hHeld
  clear hK K hHeld;have hHeld:=aV;clear aV;(try simp only[Act.put,List.setIfInBounds_toArray,List.set_cons_zero,List.set_cons_succ]);(refine aY (v:=?_) rfl rfl hHeld ?_ ?_;rotate_left;(· (intro w hSw;(try dsimp only at hSw);go_simp;try with_reducible rfl));(try simp only[nx,List.set]));refine wpAnyH_done (by kernel_rfl) ?_ _;have K1:=hide hHeld.1;have B1:=hide hHeld.2;have q1:=Sc.c1 hHeld.1;clear hHeld;go_wp2;go_ret;exact⟨aO (ck (by rw[zf.out];simp)),by rw[←zf.out];exact K1.out,B1.out⟩

theorem rh(w:World)(X:Nat)(s q:ByteArray)(k:Nat)(hX:Sc w X s k)(ha:k≤s.size)(hs:s.size≤1000000000)(hq:q.size≤1000) :
  Calls Tryz.prog 117 #[.pointer (some ⟨X,0,none⟩),.string q] w fun e w'=>e=.returned (.bool (q.data.toList.isPrefixOf (s.data.toList.drop k)))∧Sc w' X s (if q.data.toList.isPrefixOf (s.data.toList.drop k)=true then k+q.size else k)∧ag X w w':=by
 have HP:=hide (show ∀W,Calls Tryz.prog 124 #[.string (s.extract k s.size),.string q] W fun e w'=>e=.returned (.bool (q.data.toList.isPrefixOf (s.data.toList.drop k)))∧w'=W from fun W=>by
  have h:=Tryz.strings_HasPrefix (s.extract k s.size) q W;rw[iY,aP] at h;rw[iY];exact h)
 generalize q.data.toList.isPrefixOf (s.data.toList.drop k)=b at *
 have HK:=hide hX;have HB:=hide (ag.refl X w);have lC:¬s.size<k:=by omega
 clear hX
 go_enter Tryz.func117,Tryz.ntmps117
 go_wp2;refine wp_region_held_drew (S:=fun W=>Sc W X s k∧ag X w W) (by kernel_rfl) ?_ (fun hHeld=>?_)
 ·(try dsimp only)
  first|exact⟨ae.drew HK.out,ag.drew HB.out⟩|exact⟨ae.go hHeld.1 hb,ag.go hHeld.2 hb⟩|exact hHeld
 change wpAnyH _ _ _ _ _ 12 #[false,false,false,false,false,false,false,false,false,false,false,false] _ _;iterate 10 (refine aY (v:=?_) rfl rfl hHeld ?_ ?_;rotate_left;(· (intro w hSw;(try dsimp only at hSw);have q0:=Sc.c0 hSw.1;have q1:=Sc.c1 hSw.1;go_simp;try with_reducible rfl));(try simp only[nx,List.set]))
 refine jg (i:=10) rfl (by kernel_rfl) (by kernel_rfl) (fun K hK=>?_);go_simp
 go_at_call 124
 refine (HP.out _).mono ?_;rintro e w' ⟨rfl,rfl⟩;(try dsimp only);refine hK.out _ _ ?_ (fun aV=>?_)
 ·(try dsimp only)
  first|exact⟨ae.drew HK.out,ag.drew HB.out⟩|exact⟨ae.go hHeld.1 hb,ag.go hHeld.2 hb⟩|exact hHeld
 clear hK K hHeld;have hHeld:=aV;clear aV;(try simp only[Act.put,List.setIfInBounds_toArray,List.set_cons_zero,List.set_cons_succ]);(refine aY (v:=?_) rfl rfl hHeld ?_ ?_;rotate_left;(· (intro w hSw;(try dsimp only at hSw);go_simp;try with_reducible rfl));(try simp only[nx,List.set]));refine wpAnyH_done (by kernel_rfl) ?_ _;have K1:=hide hHeld.1;have B1:=hide hHeld.2;have q1:=Sc.c1 hHeld.1;have f1:=Sc.f1 hHeld.1;clear hHeld
 cases b with
 | true=>
  go_wp2;go_ret;exact⟨rfl,ae.drew (Sc.move HK.out (k+q.size)),((ag.refl X w).setCell (.inl rfl) _).drew⟩
 | false=>
  go_wp2;go_ret;exact⟨rfl,K1.out,B1.out⟩

theorem dN{w:World}{a:Addr}{v:Value}(h:w.cell? a=some v):a.block<w.heap.size:=by
 by_cases hb:a.block<w.heap.size
 ·exact hb
 exfalso
 have hn:w.heap[a.block]?=none:=Array.getElem?_eq_none (by omega);unfold World.cell? at h;simp[hn] at h
structure Gm(w:World):Prop where
 most:∃m,w.cell? ⟨0,0,none⟩=some (.int .i64 m)
structure Gl(w:World):Prop where
 most:∃m,w.cell? ⟨0,0,none⟩=some (.int .i64 m)
 fold:∀p∈([(120,88),(88,120),(109,77),(77,109),(108,76),(76,108)]:List (Nat×Int)),w.cell? ⟨3,p.1,none⟩=some (.int .u16 p.2)
theorem Gl.m{w:World}(h:Gl w):Gm w:=⟨h.most⟩
theorem Gl.keep{w w':World}(h:Gl w)(hk:∀g i v,g<6→w.cell? ⟨g,i,none⟩=some v→w'.cell? ⟨g,i,none⟩=some v):Gl w' :=
 ⟨by obtain⟨m,hm⟩:=h.most;exact⟨m,hk _ _ _ (by decide) hm⟩,fun p hp=>hk _ _ _ (by decide) (h.fold p hp)⟩
theorem Gl.below{w w':World}(h:Gl w)(hb:Below w.heap.size w w'):Gl w':=h.keep fun g i v _ hv=>(hb.cell (dN hv)).trans hv
theorem Gl.but{w w':World}{X:Nat}(h:Gl w)(hb:ag X w w')(hX:6≤X):Gl w':=h.keep fun g i v hg hv=>
 (World.cell?_of_block (a:=⟨g,i,none⟩) (hb.block g (dN hv) (by omega))).trans hv
theorem amc(s q:ByteArray)(w:World)(hg:Gm w)(hs:s.size≤1000000000) :
  Calls Tryz.prog 100 #[.string s,.string q] w fun e w'=>e=.returned (.int .i64 (Lib.index s.data.toList q.data.toList))∧w'=w:=by
 obtain⟨m,hm⟩:=hg.most;exact Tryz.strings_Index s q m w (by omega) hm
theorem Yl(s q:ByteArray)(w:World)(hg:Gl w)(hs:s.size≤1000000000) :
  Calls Tryz.prog 100 #[.string s,.string q] w fun e w'=>e=.returned (.int .i64 (Lib.index s.data.toList q.data.toList))∧w'=w:=amc s q w hg.m hs

theorem agq{s q:L}(h:0≤Lib.index s q):Lib.index s q+q.length≤s.length:=by
 induction s with
 | nil=>
  unfold Lib.index at h ⊢
  cases q with
  | nil=>simp
  | cons a q=>simp at h
 | cons c l ih=>
  unfold Lib.index at h ⊢;split
  ·rename_i hp
   have:=List.IsPrefix.length_le (List.isPrefixOf_iff_prefix.1 hp);simp at this ⊢;omega
  rename_i hp
  rw[if_neg hp] at h;split
  ·rename_i h1
   rw[if_pos h1] at h;omega
  rename_i h1
  rw[if_neg h1] at h;have h2:=Lib.index_ge l q;have h3:Lib.index l q≠-1:=by simpa using h1
  have:=ih (by omega);simp;omega

theorem Cr{q d:L}{n:Nat}(h:till q d=some n):Lib.index d q=n∧n+q.length≤d.length:=by
 unfold till at h
 split at h
 ·cases h
 rename_i hb
 have:=agq (s:=d) (q:=q) (by omega);simp only[Option.some.injEq] at h;omega
theorem ama{q d:L}(h:till q d=none):Lib.index d q<0:=by
 unfold till at h
 split at h
 ·assumption
 cases h

theorem al9(w:World)(X:Nat)(s q:ByteArray)(k:Nat)(h:till q.data.toList (s.data.toList.drop k)=none)(hX:Sc w X s k)(bN:6≤X)(hg:Gl w)(ha:k≤s.size)(hs:s.size≤1000000000)(hq:q.size≤1000) :
  Calls Tryz.prog 119 #[.pointer (some ⟨X,0,none⟩),.string q] w fun e w'=>e=.returned (.tuple #[.string ⟨#[]⟩,.bool false])∧Sc w' X s k∧ag X w w':=by
 have HP:=hide (show ∀W,Gl W→Calls Tryz.prog 100 #[.string (s.extract k s.size),.string q] W fun e w'=>e=.returned (.int .i64 (Lib.index (s.data.toList.drop k) q.data.toList))∧w'=W from fun W hW=>by
  have h:=Yl (s.extract k s.size) q W hW (by rw[ByteArray.size_extract];omega);rw[iY,aP] at h;rw[iY];exact h)
 have hb:=ama h;generalize Lib.index (s.data.toList.drop k) q.data.toList=b at *
 clear h;have HK:=hide hX;have HB:=hide (ag.refl X w);have GN:=hide hg;have lC:¬s.size<k:=by omega
 clear hX hg
 go_enter Tryz.func119,Tryz.ntmps119
 go_wp2;refine wp_region_held_drew (S:=fun W=>Sc W X s k∧ag X w W) (by kernel_rfl) ?_ (fun hHeld=>?_)
 ·(try dsimp only)
  first|exact⟨ae.drew HK.out,ag.drew HB.out⟩|exact⟨ae.go hHeld.1 hb,ag.go hHeld.2 hb⟩|exact hHeld
 change wpAnyH _ _ _ _ _ 12 #[false,false,false,false,false,false,false,false,false,false,false,false] _ _;iterate 10 (refine aY (v:=?_) rfl rfl hHeld ?_ ?_;rotate_left;(· (intro w hSw;(try dsimp only at hSw);have q0:=Sc.c0 hSw.1;have q1:=Sc.c1 hSw.1;go_simp;try with_reducible rfl));(try simp only[nx,List.set]))
 refine jg (i:=10) rfl (by kernel_rfl) (by kernel_rfl) (fun K hK=>?_);go_simp
 go_at_call 100
 refine (HP.out _ (GN.out.but hHeld.2 bN)).mono ?_;rintro e w' ⟨rfl,rfl⟩;(try dsimp only);refine hK.out _ _ ?_ (fun aV=>?_)
 ·(try dsimp only)
  first|exact⟨ae.drew HK.out,ag.drew HB.out⟩|exact⟨ae.go hHeld.1 hb,ag.go hHeld.2 hb⟩|exact hHeld
 clear hK K hHeld;have hHeld:=aV;clear aV;(try simp only[Act.put,List.setIfInBounds_toArray,List.set_cons_zero,List.set_cons_succ]);(refine aY (v:=?_) rfl rfl hHeld ?_ ?_;rotate_left;(· (intro w hSw;(try dsimp only at hSw);go_simp;try with_reducible rfl));(try simp only[nx,List.set]));refine wpAnyH_done (by kernel_rfl) ?_ _;go_wp2;go_ret2;exact⟨rfl,hHeld.1,hHeld.2⟩

theorem Gb(w:World)(X:Nat)(s q:ByteArray)(k:Nat)(n:Nat)(h:till q.data.toList (s.data.toList.drop k)=some n)(hX:Sc w X s k)(bN:6≤X)(hg:Gl w)(ha:k≤s.size)(hs:s.size≤1000000000)(hq:q.size≤1000) :
  Calls Tryz.prog 119 #[.pointer (some ⟨X,0,none⟩),.string q] w fun e w'=>e=.returned (.tuple #[.string (s.extract k (k+n)),.bool true])∧Sc w' X s (k+n+q.size)∧ag X w w':=by
 have HP:=hide (show ∀W,Gl W→Calls Tryz.prog 100 #[.string (s.extract k s.size),.string q] W fun e w'=>e=.returned (.int .i64 (Lib.index (s.data.toList.drop k) q.data.toList))∧w'=W from fun W hW=>by
  have h:=Yl (s.extract k s.size) q W hW (by rw[ByteArray.size_extract];omega);rw[iY,aP] at h;rw[iY];exact h)
 obtain⟨hb,hn⟩:=Cr h;rw[hb] at HP;rw[List.length_drop,bL,bL] at hn;clear h hb;have HK:=hide hX;have HB:=hide (ag.refl X w);have GN:=hide hg;have lC:¬s.size<k:=by omega
 clear hX hg
 go_enter Tryz.func119,Tryz.ntmps119
 go_wp2;refine wp_region_held_drew (S:=fun W=>Sc W X s k∧ag X w W) (by kernel_rfl) ?_ (fun hHeld=>?_)
 ·(try dsimp only)
  first|exact⟨ae.drew HK.out,ag.drew HB.out⟩|exact⟨ae.go hHeld.1 hb,ag.go hHeld.2 hb⟩|exact hHeld
 change wpAnyH _ _ _ _ _ 12 #[false,false,false,false,false,false,false,false,false,false,false,false] _ _;iterate 10 (refine aY (v:=?_) rfl rfl hHeld ?_ ?_;rotate_left;(· (intro w hSw;(try dsimp only at hSw);have q0:=Sc.c0 hSw.1;have q1:=Sc.c1 hSw.1;go_simp;try with_reducible rfl));(try simp only[nx,List.set]))
 refine jg (i:=10) rfl (by kernel_rfl) (by kernel_rfl) (fun K hK=>?_);go_simp
 go_at_call 100
 refine (HP.out _ (GN.out.but hHeld.2 bN)).mono ?_;rintro e w' ⟨rfl,rfl⟩;(try dsimp only);refine hK.out _ _ ?_ (fun aV=>?_)
 ·(try dsimp only)
  first|exact⟨ae.drew HK.out,ag.drew HB.out⟩|exact⟨ae.go hHeld.1 hb,ag.go hHeld.2 hb⟩|exact hHeld
 clear hK K hHeld;have hHeld:=aV;clear aV;(try simp only[Act.put,List.setIfInBounds_toArray,List.set_cons_zero,List.set_cons_succ]);(refine aY (v:=?_) rfl rfl hHeld ?_ ?_;rotate_left;(· (intro w hSw;(try dsimp only at hSw);go_simp;try with_reducible rfl));(try simp only[nx,List.set]));refine wpAnyH_done (by kernel_rfl) ?_ _;have cH:=hide hHeld.1;have ah:=hide hHeld.2;clear hHeld HP HK HB;have h0:¬((n:Int)<0):=by omega
 have h1:k+n≤s.size:=by omega
 have h2:¬s.size<k+n:=by omega
 have hw:IntKind.i64.wrap ((k:Int)+n)=(k:Int)+n:=IntWalk.i64_in _ (by omega);have h4:(0:Int)≤(k:Int)+n∧(k:Int)+n≤(s.size:Int):=by omega
 have h5:(k:Int)≤(k:Int)+n:=by omega
 have h6:((k:Int)+n).toNat=k+n:=by omega
 go_wp2;refine wp_region_held_drew (S:=fun W=>Sc W X s k∧ag X w W) (by kernel_rfl) ?_ (fun hHeld=>?_)
 ·(try dsimp only)
  first|exact⟨ae.drew cH.out,ag.drew ah.out⟩|exact⟨ae.go hHeld.1 hb,ag.go hHeld.2 hb⟩|exact hHeld
 change wpAnyH _ _ _ _ _ 16 #[false,false,false,false,false,false,false,false,false,false,false,false,false,false,false,false] _ _;iterate 16 (refine aY (v:=?_) rfl rfl hHeld ?_ ?_;rotate_left;(· (intro w hSw;(try dsimp only at hSw);have q0:=Sc.c0 hSw.1;have q1:=Sc.c1 hSw.1;go_simp;try with_reducible rfl));(try simp only[nx,List.set]))
 refine wpAnyH_done (by kernel_rfl) ?_ _;have K1:=hide hHeld.1;have B1:=hide hHeld.2;have q1:=Sc.c1 hHeld.1;have f1:=Sc.f1 hHeld.1;clear hHeld;go_wp2;go_ret2;exact⟨rfl,by rw[Nat.add_assoc];exact Sc.move K1.out (k+(n+q.size)),B1.out.setCell (.inl rfl) _⟩
end
section
namespace Utf

theorem RN(l:List UInt8)(r n lo hi:Int):cont l 0 r n lo hi=(r,n):=by cases l<;>simp[cont]
theorem RM:∀(l:List UInt8) (k:Nat) (r n lo hi:Int),0≤(cont l k r n lo hi).1→∀y,cont (l.take k++y) k r n lo hi=cont l k r n lo hi
 | l,0,r,n,lo,hi,_,y=>by simp only[RN]
 | [],k+1,r,n,lo,hi,h,_=>by simp[cont] at h
 | c :: l,k+1,r,n,lo,hi,h,y=>by
  rw[List.take_succ_cons,List.cons_append];simp only[cont] at h ⊢;split
  ·rfl
  rename_i hb;rw[if_neg hb] at h;exact RM l k _ _ _ _ h y
theorem SE(c:UInt8):0≤(follow c.toNat).2.1:=by
 have hb:=iA c;have:=uN c.toNat (by omega) (by omega);omega
theorem WS{l:List UInt8}(h:0≤(piece l).1)(y:List UInt8):piece (l.take (piece l).2.toNat++y)=piece l:=by
 cases l with
 | nil=>simp[piece] at h
 | cons c l=>
  have hb:=SE c;rw[rA] at h ⊢
  by_cases hn:(follow c.toNat).1<0
  ·rw[if_pos hn] at h;simp at h
  rw[if_neg hn] at h ⊢;have h2:=JA l (follow c.toNat).1.toNat (follow c.toNat).2.1 1 (follow c.toNat).2.2.1 (follow c.toNat).2.2.2 hb
  rcases h2 with h2|⟨_,h2⟩
  ·omega
  have e:(cont l (follow c.toNat).1.toNat (follow c.toNat).2.1 1 (follow c.toNat).2.2.1 (follow c.toNat).2.2.2).2.toNat=(follow c.toNat).1.toNat+1:=by rw[h2];omega
  rw[e,List.take_succ_cons,List.cons_append,rA,if_neg hn];exact RM _ _ _ _ _ _ h y
theorem WO{p:List UInt8}(h:0≤(piece p).1)(q:List UInt8):piece (p++q)=piece p:=by
 have:=WS h (p.drop (piece p).2.toNat++q);rwa[←List.append_assoc,List.take_append_drop] at this
theorem MG{c:UInt8}(h:c.toNat<128)(l:List UInt8):piece (c :: l)=((c.toNat:Int),1):=by
 have e:follow (c.toNat:Int)=(0,(c.toNat:Int),128,191):=by unfold follow;rw[if_pos (by omega)]
 rw[rA,e];simp[RN]
theorem FQ(c:UInt8)(l:List UInt8):1≤(piece (c :: l)).2.toNat∧(piece (c :: l)).2.toNat≤(c :: l).length:=by
 have:=rC c l;omega
theorem YE{c:UInt8}{l:List UInt8}(h:valid (c :: l)=true):0≤(piece (c :: l)).1∧valid ((c :: l).drop (piece (c :: l)).2.toNat)=true:=by
 rw[Gh] at h
 split at h
 ·cases h
 exact⟨by omega,h⟩
theorem abF{c:UInt8}{l:List UInt8}(h:0≤(piece (c :: l)).1)(q:List UInt8):(c :: l++q).drop (piece (c :: l++q)).2.toNat=(c :: l).drop (piece (c :: l)).2.toNat++q:=by
 rw[WO h,List.drop_append_of_le_length (FQ c l).2]
theorem aea:∀(k:Nat) (p q:List UInt8) (at_:Nat),p.length≤k→valid p=true→from_ at_ (p++q)=from_ at_ p++from_ (at_+p.length) q:=by
 intro k
 induction k with
 | zero=>intro p q at_ hk _;cases p with
  | nil=>simp[qC]
  | cons c l=>simp at hk
 | succ k ih=>
  intro p q at_ hk hv
  cases p with
  | nil=>simp[qC]
  | cons c l=>
   obtain⟨h1,h2⟩:=YE hv;have hn:=FQ c l;rw[List.cons_append,sH,sH,←List.cons_append,abF h1,WO h1,ih _ q _ (by rw[List.length_drop];omega) h2,List.cons_append,List.length_drop];generalize (piece (c :: l)).2.toNat=m at *
   rw[show at_+m+((c :: l).length-m)=at_+(c :: l).length by omega]
theorem SG{p:List UInt8}(h:valid p=true)(q:List UInt8)(at_:Nat):from_ at_ (p++q)=from_ at_ p++from_ (at_+p.length) q:=aea _ p q at_ (Nat.le_refl _) h
theorem RL:∀(l:List UInt8) (k:Nat) (r n lo hi:Int),128≤lo→0≤(cont l k r n lo hi).1→∀i,i<k→∃c,l[i]?=some c∧128≤c.toNat
 | l,0,_,_,_,_,_,_,i,hi'=>by omega
 | [],k+1,_,_,_,_,_,h,_,_=>by simp[cont] at h
 | c :: l,k+1,r,n,lo,hi,pB,h,i,hi'=>by
  simp only[cont] at h
  split at h
  ·simp at h
  rename_i hb
  cases i with
  | zero=>exact⟨c,rfl,by omega⟩
  | succ i=>
   obtain⟨d,h1,h2⟩:=RL l k _ _ 128 191 (by omega) h i (by omega);exact⟨d,by simpa using h1,h2⟩
theorem aiO{l:List UInt8}(h:0≤(piece l).1)(i:Nat)(h1:0<i)(h2:i<(piece l).2.toNat):∃c,l[i]?=some c∧128≤c.toNat:=by
 cases l with
 | nil=>simp[piece] at h
 | cons c l=>
  have hb:=iA c;have hc:=uN c.toNat (by omega) (by omega);rw[rA] at h h2
  by_cases hn:(follow c.toNat).1<0
  ·rw[if_pos hn] at h;simp at h
  rw[if_neg hn] at h h2;have h3:=JA l (follow c.toNat).1.toNat (follow c.toNat).2.1 1 (follow c.toNat).2.2.1 (follow c.toNat).2.2.2 (SE c)
  rcases h3 with h3|⟨_,h3⟩
  ·omega
  rw[h3] at h2
  cases i with
  | zero=>omega
  | succ i=>
   obtain⟨d,e1,e2⟩:=RL l _ _ _ _ _ (by
    rcases hc with hc|hc|hc|hc|hc
    ·have e:follow (c.toNat:Int)=(0,(c.toNat:Int),128,191):=by unfold follow;rw[if_pos hc.2.2]
     rw[e];exact Int.le_refl 128
    all_goals omega) h i (by omega)
   exact⟨d,by simpa using e1,e2⟩
theorem amC:∀(k:Nat) (p:List UInt8) (c:UInt8) (q:List UInt8),p.length≤k→c.toNat<128→valid (p++c :: q)=true→valid p=true:=by
 intro k
 induction k with
 | zero=>intro p c q hk _ _;cases p with
  | nil=>rfl
  | cons d l=>simp at hk
 | succ k ih=>
  intro p c q hk hc hv
  cases p with
  | nil=>rfl
  | cons d l=>
   obtain⟨h1,h2⟩:=YE (c:=d) (l:=l++c :: q) hv;have hn:=FQ d (l++c :: q)
   have hle:(piece (d :: (l++c :: q))).2.toNat≤(d :: l).length:=by
    apply Nat.le_of_not_lt
    intro hlt;obtain⟨e,e1,e2⟩:=aiO h1 (d :: l).length (by simp) hlt;rw[←List.cons_append,List.getElem?_append_right (Nat.le_refl _),Nat.sub_self] at e1;simp only[List.getElem?_cons_zero,Option.some.injEq] at e1;subst e1;omega
   have h3:=WS h1 ((d :: l).drop (piece (d :: (l++c :: q))).2.toNat);rw[←List.cons_append,List.take_append_of_le_length (by rw[List.cons_append];exact hle),List.cons_append,List.take_append_drop] at h3;rw[Gh,h3,if_neg (by omega)];rw[←List.cons_append,List.drop_append_of_le_length (by rw[List.cons_append];exact hle),List.cons_append] at h2;exact ih _ c q (by rw[List.length_drop];omega) hc h2
theorem amB{p:List UInt8}{c:UInt8}{q:List UInt8}(hc:c.toNat<128)(hv:valid (p++c :: q)=true):valid p=true:=amC _ p c q (Nat.le_refl _) hc hv
theorem SH{c:UInt8}(hc:c.toNat<128)(q:List UInt8)(at_:Nat):from_ at_ (c :: q)=(at_,(c.toNat:Int)) :: from_ (at_+1) q:=by
 rw[sH,MG hc];rfl
theorem aec:∀(k:Nat) (l:List UInt8) (at_ d:Nat),l.length≤k→from_ (at_+d) l=(from_ at_ l).map fun p=>(p.1+d,p.2):=by
 intro k
 induction k with
 | zero=>intro l at_ d hk;cases l with
  | nil=>rfl
  | cons c l=>simp at hk
 | succ k ih=>
  intro l at_ d hk
  cases l with
  | nil=>rfl
  | cons c l=>
   have hn:=FQ c l;rw[sH,sH,List.map_cons,←ih _ _ _ (by rw[List.length_drop];omega),Nat.add_right_comm]
theorem aeb(l:List UInt8)(at_ d:Nat):from_ (at_+d) l=(from_ at_ l).map fun p=>(p.1+d,p.2):=aec _ l at_ d (Nat.le_refl _)
end Utf
namespace Tk
def Name(p:L):Prop:=Utf.valid p=true∧∀q∈Utf.from_ 0 p,gi q.1 q.2=true
theorem Cy{r a b:Int}(h:r<0)(ha:0≤a):within r a b=false:=by
 unfold within;rw[decide_eq_false (by omega)];rfl
theorem acq(r:Int)(h:r<0):bI r=false:=by
 unfold bI;simp only[Cy h (by decide:(0:Int)≤9),Cy h (by decide:(0:Int)≤13),Cy h (by decide:(0:Int)≤32),Cy h (by decide:(0:Int)≤57344),Cy h (by decide:(0:Int)≤65536)];rfl
theorem alY{p q:L}(h:Name p)(hq:q=[]∨gi p.length (Utf.piece q).1=false):take (p++q)=p.length:=by
 unfold take stop;have e:Utf.pieces (p++q)=Utf.from_ 0 p++Utf.from_ (0+p.length) q:=Utf.SG h.1 q 0;have hn:(Utf.from_ 0 p).find? (fun p=>!gi p.1 p.2)=none:=List.find?_eq_none.2 fun x hx=>by rw[h.2 x hx];simp
 rw[e,List.find?_append,hn,Option.none_or,Nat.zero_add]
 rcases hq with rfl|hq
 ·simp[Utf.qC]
 cases q with
 | nil=>simp[Utf.qC]
 | cons c q=>
  rw[Utf.sH,List.find?_cons];dsimp only;rw[hq];rfl
theorem aiM{p a r:L}(h:p.length≤a.length):p.isPrefixOf (a++r)=p.isPrefixOf a:=by
 rw[Bool.eq_iff_iff,List.isPrefixOf_iff_prefix,List.isPrefixOf_iff_prefix];exact⟨fun hp=>List.prefix_of_prefix_length_le hp (List.prefix_append _ _) h,fun hp=>hp.trans (List.prefix_append _ _)⟩
theorem Vl{s p:L}{n:Nat}(h:Lib.index s p=n):Lib.occAt s p n=true∧n≤s.length∧∀j,j<n→Lib.occAt s p j=false:=by
 induction s generalizing n with
 | nil=>
  unfold Lib.index at h
  split at h
  ·rename_i he
   have:n=0:=by omega
   subst this;refine⟨?_,Nat.le_refl _,fun j hj=>by omega⟩
   cases p with
   | nil=>rfl
   | cons a t=>cases he
  omega
 | cons b l ih=>
  unfold Lib.index at h
  split at h
  ·rename_i he
   have:n=0:=by omega
   subst this;exact⟨by simpa[Lib.occAt] using he,by simp,fun j hj=>by omega⟩
  rename_i he
  split at h
  ·omega
  rename_i vh
  have vh:Lib.index l p≠-1:=by simpa using vh
  have hg:=Lib.index_ge l p;obtain⟨n',rfl⟩:∃n',n=n'+1:=⟨n-1,by omega⟩;obtain⟨h1,h2,h3⟩:=ih (n:=n') (by omega);refine⟨by simpa[Lib.occAt] using h1,by simpa using h2,fun j hj=>?_⟩
  cases j with
  | zero=>exact Bool.eq_false_iff.2 he
  | succ j=>simpa[Lib.occAt] using h3 j (by omega)
theorem NH{p l:L}{n:Nat}:till p l=some n↔Lib.index l p=n:=by
 unfold till
 constructor
 ·intro h
  split at h
  ·cases h
  rename_i hn
  have:=Option.some.inj h;omega
 intro h;rw[if_neg (by omega),h];simp
theorem Wi{p a r:L}{i:Nat}(h:i+p.length≤a.length):Lib.occAt (a++r) p i=Lib.occAt a p i:=by
 unfold Lib.occAt;rw[List.drop_append_of_le_length (by omega),aiM (by rw[List.length_drop];omega)]
theorem al8{p a r r':L}{n:Nat}(h:till p (a++r)=some n)(hn:n+p.length≤a.length):till p (a++r')=some n:=by
 rw[NH] at h ⊢;obtain⟨h1,h2,h3⟩:=Vl h;refine Lib.index_first (by rw[List.length_append];omega) ?_ fun j hj=>?_
 ·rw[Wi hn] at h1 ⊢;exact h1
 have:=h3 j hj;rw[Wi (by omega)] at this ⊢;exact this
end Tk
end
section
open Go.RowKit Tk

end
section
open Go.RowKit Tk Sx

theorem xr{D:L}{k:Nat}{c:UInt8}(h:D[k]?=some c):D.drop k=c :: D.drop (k+1):=by
 obtain⟨h1,h2⟩:=List.getElem?_eq_some_iff.1 h;rw[←h2,←List.drop_eq_getElem_cons]
theorem Dz(s:ByteArray)(w:World):∃W g cap,(Go.convert 9 58 (.string s)).run Tryz.prog w=.ok (.slice (some ⟨g,0,none⟩) s.size cap) W∧Below w.heap.size w W∧g<W.heap.size∧
  ∀(k:Nat) (c:UInt8),s.data.toList[k]?=some c→W.cell? ⟨g,k,none⟩=some (.int .u8 (c.toNat:Nat)):=by
 refine⟨_,_,_,run_bytes_of_string (P:=Tryz.prog) w 9 58 5 s Tryz.underlying9 Tryz.underlying58 Tryz.underlying5,?_,?_,?_⟩
 ·exact (Below.refl _ w).drew.alloc (by simp) _
 ·simp
 intro k c hc;obtain⟨h1,h2⟩:=List.getElem?_eq_some_iff.1 hc;have hk:k<s.data.size:=by simpa using h1
 have:=bytesRow_at s (grownCap w s.size 0 5) k hk;have e:w.heap.size=w.drew.heap.size:=rfl;rw[e,World.cell?_alloc_mark,this];have h3:s.data[k]=c:=by simpa using h2
 rw[h3]

theorem agU(c:UInt8):bits BinOp.and IntKind.u8 (c.toNat:Int) 15=((c.toNat % 16:Nat):Int):=by
 have h:∀n:Fin 256,bits BinOp.and IntKind.u8 (n.val:Int) 15=((n.val % 16:Nat):Int):=by decide +kernel
 exact h ⟨c.toNat,c.toNat_lt⟩

theorem YN(c:UInt8)(w:World):Calls Tryz.prog 162 #[.int .u8 (c.toNat:Nat)] w fun e w'=>e=.returned (.int .i64 ((nz c:Nat):Int))∧w'=w:=by
 have hb:=agU c;have hlt:=c.toNat_lt;have hm:c.toNat % 16<16:=Nat.mod_lt _ (by omega);obtain⟨z,hz⟩:∃z:Nat,c.toNat % 16=z:=⟨_,rfl⟩;rw[hz] at hb hm;have hw:IntKind.i64.wrap (z:Int)=(z:Int):=IntWalk.i64_in _ (by omega);have hw9:IntKind.i64.wrap ((z:Int)+9)=(z:Int)+9:=IntWalk.i64_in _ (by omega);obtain⟨q,hq⟩:∃q:Nat,c.toNat=q:=⟨_,rfl⟩;have Hq:nz c=if 48≤q∧q≤57 then q-48 else if 97≤q∧q≤102 then q-87 else if 65≤q∧q≤70 then q-55 else 16:=by rw[←hq];rfl
 rw[Hq];rw[hq] at hb hlt hz;rw[hq];clear hq Hq;obtain⟨R,hR⟩:∃R:Nat,(if 48≤q∧q≤57 then q-48 else if 97≤q∧q≤102 then q-87 else if 65≤q∧q≤70 then q-55 else 16)=R:=⟨_,rfl⟩;rw[hR]
 by_cases a1:48≤q
 ·by_cases a2:q≤57
  ·have Hr:=hide (show (z:Int)=(R:Int) by rw[←hR,if_pos ⟨a1,a2⟩];omega);have g1:(48:Int)≤(q:Int):=by omega
   have g2:(q:Int)≤57:=by omega
   clear hR hz hlt a1 a2
   go_enter Tryz.func162,Tryz.ntmps162
   go_wp2
   go_ret
   exact⟨aO (int_eq (Hr.out)),rfl⟩
  by_cases b1:97≤q
  ·by_cases b2:q≤102
   ·have Hr:=hide (show (z:Int)+9=(R:Int) by rw[←hR,if_neg (by omega),if_pos ⟨b1,b2⟩];omega);have g1:(48:Int)≤(q:Int):=by omega
    have g2:¬(q:Int)≤57:=by omega
    have g3:(97:Int)≤(q:Int):=by omega
    have g4:(q:Int)≤102:=by omega
    clear hR hz hlt a1 a2 b1 b2
    go_enter Tryz.func162,Tryz.ntmps162
    go_wp2
    go_ret
    exact⟨aO (int_eq (Hr.out)),rfl⟩
   have Hr:=hide (show (16:Int)=(R:Int) by rw[←hR,if_neg (by omega),if_neg (by omega),if_neg (by omega)];rfl);have g1:(48:Int)≤(q:Int):=by omega
   have g2:¬(q:Int)≤57:=by omega
   have g3:(97:Int)≤(q:Int):=by omega
   have g4:¬(q:Int)≤102:=by omega
   have g5:(65:Int)≤(q:Int):=by omega
   have g6:¬(q:Int)≤70:=by omega
   clear hR hz hlt a1 a2 b1 b2
   go_enter Tryz.func162,Tryz.ntmps162
   go_wp2
   go_ret
   exact⟨aO (int_eq (Hr.out)),rfl⟩
  by_cases d1:65≤q
  ·by_cases d2:q≤70
   ·have Hr:=hide (show (z:Int)+9=(R:Int) by rw[←hR,if_neg (by omega),if_neg (by omega),if_pos ⟨d1,d2⟩];omega);have g1:(48:Int)≤(q:Int):=by omega
    have g2:¬(q:Int)≤57:=by omega
    have g3:¬(97:Int)≤(q:Int):=by omega
    have g5:(65:Int)≤(q:Int):=by omega
    have g6:(q:Int)≤70:=by omega
    clear hR hz hlt a1 a2 b1 d1 d2
    go_enter Tryz.func162,Tryz.ntmps162
    go_wp2
    go_ret
    exact⟨aO (int_eq (Hr.out)),rfl⟩
   have Hr:=hide (show (16:Int)=(R:Int) by rw[←hR,if_neg (by omega),if_neg (by omega),if_neg (by omega)];rfl);have g1:(48:Int)≤(q:Int):=by omega
   have g2:¬(q:Int)≤57:=by omega
   have g3:¬(97:Int)≤(q:Int):=by omega
   have g5:(65:Int)≤(q:Int):=by omega
   have g6:¬(q:Int)≤70:=by omega
   clear hR hz hlt a1 a2 b1 d1 d2
   go_enter Tryz.func162,Tryz.ntmps162
   go_wp2
   go_ret
   exact⟨aO (int_eq (Hr.out)),rfl⟩
  have Hr:=hide (show (16:Int)=(R:Int) by rw[←hR,if_neg (by omega),if_neg (by omega),if_neg (by omega)];rfl);have g1:(48:Int)≤(q:Int):=by omega
  have g2:¬(q:Int)≤57:=by omega
  have g3:¬(97:Int)≤(q:Int):=by omega
  have g5:¬(65:Int)≤(q:Int):=by omega
  clear hR hz hlt a1 a2 b1 d1
  go_enter Tryz.func162,Tryz.ntmps162
  go_wp2
  go_ret
  exact⟨aO (int_eq (Hr.out)),rfl⟩
 have Hr:=hide (show (16:Int)=(R:Int) by rw[←hR,if_neg (by omega),if_neg (by omega),if_neg (by omega)];rfl);have g1:¬(48:Int)≤(q:Int):=by omega
 have g3:¬(97:Int)≤(q:Int):=by omega
 have g5:¬(65:Int)≤(q:Int):=by omega
 clear hR hz hlt a1
 go_enter Tryz.func162,Tryz.ntmps162
 go_wp2
 go_ret
 exact⟨aO (int_eq (Hr.out)),rfl⟩

def k9(l:L)(k:Nat):Int:=match Sx.ends (l.drop k) with
 | some n=>((k+n:Nat):Int)
 | none=>-1
theorem adx{l:L}{k:Nat}{c:UInt8}(hc:l[k]?=some c)(h:c=59):k9 l k=k:=by
 unfold k9;rw[xr hc];unfold Sx.ends;rw[if_pos h];rfl
theorem Sh{l:L}{k:Nat}{c:UInt8}(hc:l[k]?=some c)(h0:c≠59)(h:c=38∨c=60):k9 l k = -1:=by
 unfold k9;rw[xr hc];unfold Sx.ends;rw[if_neg h0,if_pos h]
theorem ady{l:L}{k:Nat}{c:UInt8}(hc:l[k]?=some c)(h0:c≠59)(h1:c≠38)(h2:c≠60):k9 l k=k9 l (k+1):=by
 unfold k9;rw[xr hc]
 conv=>lhs;unfold Sx.ends
 rw[if_neg h0,if_neg (by simp[h1,h2])]
 cases Sx.ends (l.drop (k+1)) with
 | none=>rfl
 | some n=>simp only[Option.map_some];congr 1;omega
theorem adz{l:L}{k:Nat}(h:l.length≤k):k9 l k = -1:=by
 unfold k9;rw[List.drop_of_length_le h];rfl

theorem adA(s:ByteArray)(w:World)(hs:s.size≤1000000000) :
  Calls Tryz.prog 128 #[.string s] w fun e w'=>e=.returned (.int .i64 (k9 s.data.toList 0))∧Below w.heap.size w w':=by
 obtain⟨W,g,cap,mU,hb,hg,hat⟩:=Dz s w;obtain⟨D,hD⟩:∃D,s.data.toList=D:=⟨_,rfl⟩;have cf:=hide (show D.length=s.size by rw[←hD,bL]);rw[hD] at hat ⊢;obtain⟨z,hz⟩:∃z,k9 D 0=z:=⟨_,rfl⟩;have Hz:=hide hz;rw[hz];have qa:=hide hat;have HB:=hide hb;clear hD hz hat hb
 go_enter Tryz.func128,Tryz.ntmps128
 go_wp2;clear mU
 go_loopg [8] s.size (fun gk v wr=>∃k:Nat,gk=s.size-k∧k≤s.size∧v=.int .i64 (k:Int)∧k9 D k=z∧wr=W)
 case atStart=>exact⟨0,rfl,by omega,rfl,Hz.out,rfl⟩
 case round=>
  obtain⟨k,au,hk,rfl,Bq,rfl⟩:=hrel;have Hg:=hide au;have jU:=hide Bq;clear au Bq Hz
  by_cases hlt:k<s.size
  ·obtain⟨c,hc⟩:∃c,D[k]?=some c:=⟨_,List.getElem?_eq_getElem (by rw[cf.out];exact hlt)⟩;have hcell:=qa.out k c hc;have iF:(0:Int)≤(k:Int):=by omega
   have key:∀d:UInt8,((c.toNat:Int)==(d.toNat:Int))=(c==d):=fun d=>by
    rw[Bool.eq_iff_iff,beq_iff_eq,beq_iff_eq];exact⟨fun h=>UInt8.toNat_inj.1 (by omega),fun h=>by rw[h]⟩
   have e1:((c.toNat:Int)==59)=(c==59):=key 59;have e2:((c.toNat:Int)==38)=(c==38):=key 38;have e3:((c.toNat:Int)==60)=(c==60):=key 60;clear key
   by_cases h1:c=59
   ·have Hr:=hide (show (k:Int)=z by rw[←jU.out,adx hc h1]);have q1:(c==59)=true:=by rw[beq_iff_eq];exact h1
    clear h1 hc jU e2 e3;go_wp2;go_ret;exact⟨aO (int_eq Hr.out),HB.out⟩
   have q1:(c==59)=false:=by rw[beq_eq_false_iff_ne];exact h1
   by_cases h2:c=38
   ·have Hr:=hide (show (-1:Int)=z by rw[←jU.out,Sh hc h1 (.inl h2)]);have q2:(c==38)=true:=by rw[beq_iff_eq];exact h2
    clear h1 h2 hc jU e3;go_wp2;go_ret;exact⟨aO (int_eq Hr.out),HB.out⟩
   have q2:(c==38)=false:=by rw[beq_eq_false_iff_ne];exact h2
   by_cases h3:c=60
   ·have Hr:=hide (show (-1:Int)=z by rw[←jU.out,Sh hc h1 (.inr h3)]);have q3:(c==60)=true:=by rw[beq_iff_eq];exact h3
    clear h1 h2 h3 hc jU;go_wp2;go_ret;exact⟨aO (int_eq Hr.out),HB.out⟩
   have q3:(c==60)=false:=by rw[beq_eq_false_iff_ne];exact h3
   have Hn:=hide (show k9 D (k+1)=z by rw[←jU.out,ady hc h1 h2 h3]);clear h1 h2 h3 hc jU;go_wp2
   go_roundg (s.size-(k+1))
   case measure=>have:=Hg.out;omega
   case rel=>exact⟨k+1,rfl,by omega,by go_num,Hn.out,rfl⟩
  have Hr:=hide (show (-1:Int)=z by rw[←jU.out,adz (by rw[cf.out];omega)]);clear jU;go_wp2;go_ret;exact⟨aO (int_eq Hr.out),HB.out⟩
end
end Go.Proofs.YtnbmfljhbpfilaaGreatDoor
