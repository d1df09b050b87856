/- Whether an entry may be kept. And more. -/
import Derived.Test.YtpdkeckeekchlaaGreatDoorOt33
import Derived.Deep.DrawnRows
import Derived.IntWalk
set_option linter.unusedSimpArgs false
set_option maxHeartbeats 8000000
set_option linter.unusedVariables false
namespace Go.Proofs.YtpdkeckeekchlaaGreatDoor
section
open Go.RowKit Rec

theorem amS(s:ByteArray):s.toList.length=s.size:=by rw[ByteArray.toList_eq];simp
theorem toList_nil(s:ByteArray):s.toList=[]↔s.size=0:=by rw[←List.length_eq_zero_iff,amS]
theorem isEmpty_eq(s:ByteArray):(!s.toList.isEmpty)=decide (0<s.size):=by
 rw[Bool.eq_iff_iff,Bool.not_eq_true',List.isEmpty_eq_false_iff,decide_eq_true_eq,ne_eq,toList_nil];omega
theorem aij(s:ByteArray):(!s.toList.isEmpty&&decide ((s.size:Int)≤64))=gX s:=by
 rw[isEmpty_eq];unfold gX;rw[Bool.decide_and];congr 1;rw[decide_eq_decide];omega
theorem aii(s:ByteArray)(h:s.toList=[]):false=gX s:=by
 rw[toList_nil] at h;unfold gX;rw[eq_comm,decide_eq_false_iff_not];omega
theorem am7(s:ByteArray)(w:World):Calls Tryz.prog 168 #[.string s] w fun e w'=>e=.returned (.bool (gX s))∧w'=w:=by
 go_enter Tryz.func168,Tryz.ntmps168
 go_wp2
 ·go_ret;exact⟨aC (aR (aii s (by assumption))),rfl⟩
 go_ret;exact⟨aC (aR (aij s)),rfl⟩
theorem akf(s:ByteArray)(w:World):Calls Tryz.prog 66 #[.string s] w fun e w'=>e=.returned (.bool (gX s))∧w'=w:=by
 go_enter Tryz.func66,Tryz.ntmps66
 go_wp2
 ·go_ret;exact⟨aC (aR (by unfold gX;rw[decide_eq_decide];omega)),rfl⟩
 go_ret;exact⟨aC (aR (by unfold gX;rw[eq_comm,decide_eq_false_iff_not];omega)),rfl⟩
theorem anr(h:Bool)(s:Int)(w:World):Calls Tryz.prog 136 #[.agg #[.bool h,.int .i64 s]] w fun e w'=>e=.returned (.bool (gH h s))∧Below w.heap.size w w':=by
 cases h
 ·go_enter Tryz.func136,Tryz.ntmps136
  go_wp2;go_ret;exact⟨aC (aR (agE s 0)),(Below.refl _ _).alloc (Nat.le_refl _) _⟩
 go_enter Tryz.func136,Tryz.ntmps136
 go_wp2
 ·go_ret;exact⟨aC (aR (by unfold gH;rw[if_pos rfl,decide_eq_decide];omega)),(Below.refl _ _).alloc (Nat.le_refl _) _⟩
 go_ret;exact⟨aC (aR (by unfold gH;rw[if_pos rfl,eq_comm,decide_eq_false_iff_not];omega)),(Below.refl _ _).alloc (Nat.le_refl _) _⟩

def five(x:bH):Nat→ByteArray
 | 0=>x.id
 | 1=>x.title
 | 2=>x.link
 | 3=>x.bP
 | _=>x.content
def sumTo(x:bH):Nat→Nat
 | 0=>0
 | k+1=>sumTo x k+(five x k).size
theorem S8(x:bH):five x 0=x.id:=rfl
theorem S9(x:bH):five x 1=x.title:=rfl
theorem Ta(x:bH):five x 2=x.link:=rfl
theorem Tc(x:bH):five x 3=x.bP:=rfl
theorem Td(x:bH):five x 4=x.content:=rfl
theorem Gb{x:bH}{k:Nat}(hk:k<5)(h:jR (five x k)=false):false=keeps x:=by
 have:k=0∨k=1∨k=2∨k=3∨k=4:=by omega
 rcases this with rfl|rfl|rfl|rfl|rfl<;>(simp only[S8,S9,Ta,Tc,Td] at h;unfold keeps;rw[h];simp)
theorem VY{x:bH}(h:∀j,j<5→jR (five x j)=true):keeps x=(gH x.has x.sec&&decide (0<x.id.size)&&decide (sumTo x 5≤30000)):=by
 have h0:=h 0 (by omega);have h1:=h 1 (by omega);have h2:=h 2 (by omega);have h3:=h 3 (by omega);have h4:=h 4 (by omega);simp only[S8,S9,Ta,Tc,Td] at h0 h1 h2 h3 h4;unfold keeps;rw[h0,h1,h2,h3,h4];simp[sumTo,five]
theorem Gv{s:ByteArray}{z:Nat}{v:Bool}(hz:s.size=z)(hv:Utf.valid s.data.toList=v)(h:30000<(z:Int)∨(!v)=true):jR s=false:=by
 subst hz hv;unfold jR
 rcases h with h|h
 ·have:¬s.size≤30000:=by omega
  simp[this]
 simp at h;simp[h]
theorem WW{s:ByteArray}{z:Nat}{v:Bool}(hz:s.size=z)(hv:Utf.valid s.data.toList=v)(h:(z:Int)≤30000)(h':(!v)=false):jR s=true:=by
 subst hz hv;unfold jR;have:s.size≤30000:=by omega
 simp at h';simp[h',this]

theorem WX{x:bH}{k:Nat}(h:∀j,j<k→jR (five x j)=true)(hk:jR (five x k)=true):∀j,j<k+1→jR (five x j)=true:=by
 intro j hj
 rcases Nat.lt_succ_iff_lt_or_eq.mp hj with hj|rfl
 ·exact h j hj
 exact hk

theorem ael(x:bH)(w:World):(Instr.index 128 (.agg #[.string x.id,.string x.title,.string x.link,.string x.bP,.string x.content]) (.int .i64 0)).run Tryz.prog w=.ok (.string x.id) w:=by kernel_rfl
theorem aem(x:bH)(w:World):(Instr.index 128 (.agg #[.string x.id,.string x.title,.string x.link,.string x.bP,.string x.content]) (.int .i64 1)).run Tryz.prog w=.ok (.string x.title) w:=by kernel_rfl
theorem aen(x:bH)(w:World):(Instr.index 128 (.agg #[.string x.id,.string x.title,.string x.link,.string x.bP,.string x.content]) (.int .i64 2)).run Tryz.prog w=.ok (.string x.link) w:=by kernel_rfl
theorem aeo(x:bH)(w:World):(Instr.index 128 (.agg #[.string x.id,.string x.title,.string x.link,.string x.bP,.string x.content]) (.int .i64 3)).run Tryz.prog w=.ok (.string x.bP) w:=by kernel_rfl
theorem aep(x:bH)(w:World):(Instr.index 128 (.agg #[.string x.id,.string x.title,.string x.link,.string x.bP,.string x.content]) (.int .i64 4)).run Tryz.prog w=.ok (.string x.content) w:=by kernel_rfl
theorem aek(x:bH)(k:Nat)(hk:k<5)(w:World):(Instr.index 128 (.agg #[.string x.id,.string x.title,.string x.link,.string x.bP,.string x.content]) (.int .i64 k)).run Tryz.prog w=.ok (.string (five x k)) w:=by
 have:k=0∨k=1∨k=2∨k=3∨k=4:=by omega
 rcases this with h|h|h|h|h
 ·subst h;exact ael x w
 ·subst h;exact aem x w
 ·subst h;exact aen x w
 ·subst h;exact aeo x w
 subst h;exact aep x w

theorem SS{x:bH}{n:Nat}(hk:keeps x=(gH x.has x.sec&&decide (0<x.id.size)&&decide (n≤30000)))(h:gH x.has x.sec=false):false=keeps x:=by rw[hk,h];rfl
theorem Ko{x:bH}{n:Nat}(hk:keeps x=(gH x.has x.sec&&decide (0<x.id.size)&&decide (n≤30000)))(h:x.id.toList=[]):false=keeps x:=by
 rw[toList_nil] at h;rw[hk,h];simp
theorem SU{x:bH}{n:Nat}(hk:keeps x=(gH x.has x.sec&&decide (0<x.id.size)&&decide (n≤30000)))(h:gH x.has x.sec=true):(!x.id.toList.isEmpty&&decide ((n:Int)≤30000))=keeps x:=by
 rw[hk,h,isEmpty_eq,Bool.true_and];congr 1;rw[decide_eq_decide];omega
theorem aif{x:bH}(hh:x.has=true)(h : -62135596800≤x.sec∧x.sec≤253402300799):gH x.has x.sec=true:=by rw[hh];unfold gH;rw[if_pos rfl,decide_eq_true_eq];exact h
theorem aih{x:bH}(hh:x.has=true)(h:x.sec < -62135596800∨253402300799<x.sec):gH x.has x.sec=false:=by rw[hh];unfold gH;rw[if_pos rfl,decide_eq_false_iff_not];omega
theorem aid{x:bH}(hh:x.has=false)(h:x.sec=0):gH x.has x.sec=true:=by rw[hh,h];rfl
theorem aie{x:bH}(hh:x.has=false)(h:¬x.sec=0):gH x.has x.sec=false:=by rw[hh];unfold gH;rw[if_neg (by simp),decide_eq_false_iff_not];exact h

theorem VX(x:bH)(w:World)(hz:∀k,k<5→(five x k).size≤1000000000) :
  Calls Tryz.prog 40 #[.agg (lx x).toArray] w fun e w'=>e=.returned (.bool (keeps x))∧Below w.heap.size w w':=by
 have HZ:=ap hz;clear hz;have hi:=ap (aek x);have h5:=ap (@sumTo.eq_2 x);unfold lx
 go_enter Tryz.func40,Tryz.ntmps40
 go_wp2;have k0:=ae.new w 91 #[.string x.id,.string x.title,.string x.link,.string x.bP,.string x.content,.bool x.has,.int .i64 x.sec];have kb:=ay w (.cells #[.string x.id,.string x.title,.string x.link,.string x.bP,.string x.content,.bool x.has,.int .i64 x.sec] 91);obtain⟨W0,jo⟩:∃W0,(w.alloc (.cells #[.string x.id,.string x.title,.string x.link,.string x.bP,.string x.content,.bool x.has,.int .i64 x.sec] 91))=W0:=⟨_,rfl⟩;rw[jo] at k0 kb ⊢;clear jo;have HK:=ap k0;have HB:=ap kb;clear k0 kb
 go_loopg [3,17] 5 (fun g vn vi wr=>∃k:Nat,g=5-k∧k≤5∧(∃n:Nat,vn=.int .i64 n∧n≤30000*k∧sumTo x k=n)∧vi=.int .i64 k∧(∀j,j<k→jR (five x j)=true)∧ae wr w.heap.size 91 #[.string x.id,.string x.title,.string x.link,.string x.bP,.string x.content,.bool x.has,.int .i64 x.sec]∧Below w.heap.size w wr)
 case atStart=>exact⟨0,rfl,by omega,⟨0,rfl,by omega,rfl⟩,rfl,fun j hj=>absurd hj (by omega),HK.o,HB.o⟩
 case round=>
  obtain⟨k,hg,hk,⟨n,rfl,hn,dI⟩,rfl,bK,k0,kb⟩:=hrel;clear HK HB;have Hg:=ap hg;have Hn:=ap dI;have vg:=ap bK;have K0:=ap k0;have Kb:=ap kb;clear hg dI bK
  by_cases hlt:k<5
  ·have ix:=hi.o k hlt;have hz:=HZ.o k hlt;obtain⟨s,hs⟩:∃s,five x k=s:=⟨_,rfl⟩;rw[hs] at ix hz;have hv:=Om s;obtain⟨v,aU⟩:∃v,Utf.valid s.data.toList=v:=⟨_,rfl⟩;rw[aU] at hv;have V:=ap fun W=>hv W hz;have Hs:=ap hs;have Hv:=ap aU;clear hs hv aU hz
   go_wp2_with (go_at_call 63;refine (V.o _).mono ?_;rintro e w' ⟨rfl,hb⟩;replace K0:=ap (K0.o.below hb K0.o.lt);replace Kb:=ap (Kb.o.trans (hb.mono Kb.o.size));clear hb)
   ·go_ret;exact⟨aC (aR (Gb hlt (by rw[Hs.o];exact Gv rfl Hv.o (by assumption)))),Kb.o⟩
   ·go_roundg (5-(k+1))
    case measure=>have:=Hg.o;omega
    case rel=>exact⟨k+1,rfl,by omega,⟨n+s.size,by go_num,by omega,by rw[h5.o,Hn.o,Hs.o]⟩,by go_num,WX vg.o (by rw[Hs.o];exact WW rfl Hv.o (by assumption) (And.right (by assumption))),K0.o,Kb.o⟩
   go_ret;exact⟨aC (aR (Gb hlt (by rw[Hs.o];exact Gv rfl Hv.o (.inl (by assumption))))),Kb.o⟩
  have nD:k=5:=by omega
  have eM:=VY (x:=x) (nD▸vg.o);rw[←nD,Hn.o] at eM;have pH:=ap eM;have q0:=k0.cell 0;have q5:=k0.cell 5;have q6:=k0.cell 6;clear eM nD
  rcases Bool.eq_false_or_eq_true x.has with hh|hh
  ·rw[hh] at q5;have Hh:=ap hh;clear hh;go_wp2
   all_goals go_ret
   all_goals first
    | exact⟨aC (aR (Ko pH.o (by assumption))),Kb.o⟩
    | exact⟨aC (aR (SU pH.o (aif Hh.o (by assumption)))),Kb.o⟩
    | exact⟨aC (aR (SS pH.o (aih Hh.o (by first|assumption|exact .inl (by assumption))))),Kb.o⟩
  rw[hh] at q5;have Hh:=ap hh;clear hh;go_wp2
  all_goals go_ret
  all_goals first
   | exact⟨aC (aR (Ko pH.o (by assumption))),Kb.o⟩
   | exact⟨aC (aR (SU pH.o (aid Hh.o (by assumption)))),Kb.o⟩
   | exact⟨aC (aR (SS pH.o (aie Hh.o (by first|assumption|exact .inl (by assumption))))),Kb.o⟩
end
section
open Go.RowKit Rec

theorem apM(x:iM)(w:World)(hz:∀k,k<5→(five x.e k).size≤1000000000) :
  Calls Tryz.prog 171 #[.agg (wO x).toArray] w fun e w'=>e=.returned (.bool (keeps x.e))∧Below w.heap.size w w':=by
 have H:=ap fun (W:World)=>VX x.e W hz;clear hz;unfold wO;unfold lx at H ⊢
 go_enter Tryz.func171,Tryz.ntmps171
 go_wp2_with (go_at_call 40;refine (H.o _).mono ?_;rintro e w' ⟨rfl,hb⟩)
 go_ret;exact⟨rfl,(ay _ _).trans (hb.mono (by simp))⟩

theorem aej(x:bH)(k:Nat)(hk:k<5):(#[Value.string x.id,.string x.title,.string x.link,.string x.bP,.string x.content]:Array Value)[k]?=some (.string (five x k)):=by
 have:k=0∨k=1∨k=2∨k=3∨k=4:=by omega
 rcases this with h|h|h|h|h
 ·subst h;rfl
 ·subst h;rfl
 ·subst h;rfl
 ·subst h;rfl
 subst h;rfl
theorem akj{x:bH}{n:Nat}{b:Bool}(hk:keeps x=(gH x.has x.sec&&decide (0<x.id.size)&&decide (n≤30000)))(h1:¬x.id.toList=[])(h2:(n:Int)≤30000)(hb:gH x.has x.sec=b):(!x.id.toList.isEmpty&&b)=keeps x:=by
 rw[isEmpty_eq];rw[toList_nil] at h1;rw[hk,hb];have:n≤30000:=by omega
 have:0<x.id.size:=by omega
 simp[*]
theorem akk{x:bH}{n:Nat}(hk:keeps x=(gH x.has x.sec&&decide (0<x.id.size)&&decide (n≤30000)))(h2:30000<(n:Int)):false=keeps x:=by
 rw[hk];have:¬n≤30000:=by omega
 simp[*]

theorem ajX(x:bH)(w:World)(hz:∀k,k<5→(five x k).size≤1000000000) :
  Calls Tryz.prog 97 #[.agg (lx x).toArray] w fun e w'=>e=.returned (.bool (keeps x))∧Below w.heap.size w w':=by
 have HZ:=ap hz;clear hz;have h5:=ap (@sumTo.eq_2 x);have HW:=ap fun (W:World)=>anr x.has x.sec W;obtain⟨ok,L3⟩:∃b,gH x.has x.sec=b:=⟨_,rfl⟩;rw[L3] at HW;have abc:=ap L3;clear L3;unfold lx
 go_enter Tryz.func97,Tryz.ntmps97
 go_wp2;have k0:=(ae.new w 91 #[.string x.id,.string x.title,.string x.link,.string x.bP,.string x.content,.bool x.has,.int .i64 x.sec]).alloc (.cells #[.string x.id,.string x.title,.string x.link,.string x.bP,.string x.content] 9);have k1:=ae.new (w.alloc (.cells #[.string x.id,.string x.title,.string x.link,.string x.bP,.string x.content,.bool x.has,.int .i64 x.sec] 91)) 9 #[.string x.id,.string x.title,.string x.link,.string x.bP,.string x.content];rw[World.size_alloc] at k1;have kb:=ri w (.cells #[.string x.id,.string x.title,.string x.link,.string x.bP,.string x.content,.bool x.has,.int .i64 x.sec] 91) (.cells #[.string x.id,.string x.title,.string x.link,.string x.bP,.string x.content] 9);obtain⟨W0,jo⟩:∃W0,((w.alloc (.cells #[.string x.id,.string x.title,.string x.link,.string x.bP,.string x.content,.bool x.has,.int .i64 x.sec] 91)).alloc (.cells #[.string x.id,.string x.title,.string x.link,.string x.bP,.string x.content] 9))=W0:=⟨_,rfl⟩;rw[jo] at k0 k1 kb ⊢;clear jo;have HK:=ap k0;have gl:=ap k1;have HB:=ap kb;clear k0 kb k1
 go_loopg [4,5] 5 (fun g vn vi wr=>∃k:Nat,g=5-k∧k≤5∧(∃n:Nat,vn=.int .i64 n∧n≤30000*k∧sumTo x k=n)∧vi=.int .i64 k∧(∀j,j<k→jR (five x j)=true)∧ae wr w.heap.size 91 #[.string x.id,.string x.title,.string x.link,.string x.bP,.string x.content,.bool x.has,.int .i64 x.sec]∧
  ae wr (w.heap.size+1) 9 #[.string x.id,.string x.title,.string x.link,.string x.bP,.string x.content]∧Below w.heap.size w wr)
 case atStart=>exact⟨0,rfl,by omega,⟨0,rfl,by omega,rfl⟩,rfl,fun j hj=>absurd hj (by omega),HK.o,gl.o,HB.o⟩
 case round=>
  obtain⟨k,hg,hk,⟨n,rfl,hn,dI⟩,rfl,bK,k0,k1,kb⟩:=hrel;clear HK HB gl;have Hg:=ap hg;have Hn:=ap dI;have vg:=ap bK;have K0:=ap k0;have K1:=ap k1;have Kb:=ap kb;clear hg dI bK
  by_cases hlt:k<5
  ·have ix:=(k1.cell k).trans (aej x k hlt);have hz:=HZ.o k hlt;obtain⟨s,hs⟩:∃s,five x k=s:=⟨_,rfl⟩;rw[hs] at ix hz;have hv:=XQ s;obtain⟨v,aU⟩:∃v,Utf.valid s.data.toList=v:=⟨_,rfl⟩;rw[aU] at hv;have V:=ap fun W=>hv W hz;have Hs:=ap hs;have Hv:=ap aU;clear hs hv aU hz k0 k1 kb
   go_wp2_with (go_at_call 68;refine (V.o _).mono ?_;rintro e w' ⟨rfl,hb⟩;replace ix:=(hb.cell (show (⟨w.heap.size+1,k,none⟩:Addr).block<_ from K1.o.lt)).trans ix;replace K0:=ap (K0.o.below hb K0.o.lt);replace K1:=ap (K1.o.below hb K1.o.lt);replace Kb:=ap (Kb.o.trans (hb.mono Kb.o.size));clear hb)
   ·go_ret;exact⟨aC (aR (Gb hlt (by rw[Hs.o];exact Gv rfl Hv.o (by assumption)))),Kb.o⟩
   ·go_roundg (5-(k+1))
    case measure=>have:=Hg.o;omega
    case rel=>exact⟨k+1,rfl,by omega,⟨n+s.size,by go_num,by omega,by rw[h5.o,Hn.o,Hs.o]⟩,by go_num,WX vg.o (by rw[Hs.o];exact WW rfl Hv.o (by assumption) (And.right (by assumption))),K0.o,K1.o,Kb.o⟩
   go_ret;exact⟨aC (aR (Gb hlt (by rw[Hs.o];exact Gv rfl Hv.o (.inl (by assumption))))),Kb.o⟩
  have nD:k=5:=by omega
  have eM:=VY (x:=x) (nD▸vg.o);rw[←nD,Hn.o] at eM;have pH:=ap eM;have q0:=k0.cell 0;have q5:=k0.cell 5;have q6:=k0.cell 6;clear eM nD k0 k1 kb
  go_wp2_with (go_at_call 136;refine (HW.o _).mono ?_;rintro e w' ⟨rfl,hb⟩;replace Kb:=ap (Kb.o.trans (hb.mono Kb.o.size));clear hb)
  all_goals go_ret
  all_goals first
    | exact⟨aC (aR (Ko pH.o (by assumption))),Kb.o⟩
    | exact⟨aC (aR (akj pH.o (by assumption) (by assumption) abc.o)),Kb.o⟩
    | exact⟨aC (aR (akk pH.o (by assumption))),Kb.o⟩
end
section
open Go.RowKit Rec

theorem J3{w:World}{a:Addr}{v:Value}(h:w.cell? a=some v):a.block<w.heap.size:=by
 rcases Nat.lt_or_ge a.block w.heap.size with h2|h2
 ·exact h2
 unfold World.cell? at h;rw[Array.getElem?_eq_none h2] at h;cases h
theorem mm{B:Nat}{w0 w w':World}(h:Below B w0 w)(hb:Below w.heap.size w w')(hB:B≤w0.heap.size):Below B w0 w':=h.trans (hb.mono (Nat.le_trans hB h.size))
namespace Rec
section
variable {α:Type} {ok:α→Bool} {ky:α→ByteArray} {l:List α} {k:Nat}
def Up(ok:α→Bool)(ky:α→ByteArray)(l:List α)(k:Nat):Prop:=∀(j:Nat) (h:j<l.length),j<k→ok l[j]=true∧(0<j→below (ky l[j-1]) (ky l[j])=true)
noncomputable def rs (ok:α→Bool) (ky:α→ByteArray) (l:List α):Bool:=@decide (Up ok ky l l.length) (Classical.propDecidable _)
theorem Up.zero:Up ok ky l 0:=fun _ _ h=>absurd h (by omega)
theorem Up.next(hu:Up ok ky l k)(h:k<l.length)(h1:ok l[k]=true)(h2:0<k→below (ky l[k-1]) (ky l[k])=true):Up ok ky l (k+1):=fun j hj hk=>by
 rcases Nat.lt_or_ge j k with h3|h3
 ·exact hu j hj h3
 obtain rfl:j=k:=by omega
 exact⟨h1,h2⟩
theorem Up.all(hu:Up ok ky l k)(h:l.length≤k):rs ok ky l=true:=@decide_eq_true _ (Classical.propDecidable _) fun j hj _=>hu j hj (by omega)
theorem Up.no(h:k<l.length)(hn:ok l[k]=true→0<k∧below (ky l[k-1]) (ky l[k])=false):rs ok ky l=false:=@decide_eq_false _ (Classical.propDecidable _) fun hu=>by
 obtain⟨h1,h2⟩:=hu k h h;obtain⟨h3,h4⟩:=hn h1;rw[h2 h3] at h4;cases h4
theorem Up.of(h:rs ok ky l=true)(hk:k<l.length):ok l[k]=true:=(@of_decide_eq_true _ (Classical.propDecidable _) h k hk hk).1
end
def mJ(x:iM):Bool:=keeps x.e
def kid(x:iM):ByteArray:=x.e.id
end Rec
end
section
open Go.RowKit Rec

instance:Inhabited bH:=⟨⟨⟨#[]⟩,⟨#[]⟩,⟨#[]⟩,⟨#[]⟩,⟨#[]⟩,false,0⟩⟩
instance:Inhabited iM:=⟨⟨default,false⟩⟩
structure Sb where
 u:ByteArray
 A:Option Addr
 c:Nat
 ks:List iM
instance:Inhabited Sb:=⟨⟨⟨#[]⟩,none,0,[]⟩⟩
def GR(x:Sb):List Value:=[.string x.u,.slice x.A x.ks.length x.c]
def X2(l:List Sb):List Value:=l.flatMap GR
def pk(x:Sb):List Value:=[.int .i8 0,.int .i64 0,.string ⟨#[]⟩,.string ⟨#[]⟩,.bool false,.slice none 0 0,.string x.u,.slice x.A x.ks.length x.c]
theorem Tf{α:Type}{f:α→List Value}{s:Nat}(hf:∀x,(f x).length=s):∀(l:List α) (k:Nat) (hk:k<l.length) (j:Nat),j<s→(l.flatMap f)[k*s+j]?=(f l[k])[j]?
 | [],k,hk,_,_=>absurd hk (by simp)
 | x :: l,0,_,j,hj=>by rw[List.flatMap_cons,List.getElem?_append_left (by rw[hf];omega)];simp
 | x :: l,k+1,hk,j,hj=>by
  rw[List.flatMap_cons,List.getElem?_append_right (by rw[hf,Nat.succ_mul];omega),hf,show (k+1)*s+j-s=k*s+j from by rw[Nat.succ_mul];omega];exact Tf hf l k (by simpa using hk) j hj
theorem Reads.flat{α:Type}{f:α→List Value}{s:Nat}{w:World}{B:Nat}{A:Option Addr}{l:List α}(hf:∀x,(f x).length=s)(h:Reads w B s A l.length (l.flatMap f)){k:Nat}(hk:k<l.length) :
  ∃b off,A=some ⟨b,off,none⟩∧b<B∧∀j v,j<s→(f l[k])[j]?=some v→w.cell? ⟨b,off+k*s+j,none⟩=some v:=by
 obtain⟨b,off,hA,hb,hc⟩:=h.2 (by omega);exact⟨b,off,hA,hb,fun j v hj hv=>by rw[Nat.add_assoc];exact hc _ _ ((Tf hf l k hk j hj).trans hv)⟩
theorem Reads.sb{w:World}{B:Nat}{A:Option Addr}{l:List Sb}(h:Reads w B 2 A l.length (X2 l)){k:Nat}(hk:k<l.length) :
  ∃b off,A=some ⟨b,off,none⟩∧b<B∧w.cell? ⟨b,off+k*2,none⟩=some (.string l[k].u)∧w.cell? ⟨b,off+k*2+1,none⟩=some (.slice l[k].A l[k].ks.length l[k].c):=by
 obtain⟨b,off,hA,hb,hc⟩:=Reads.flat (f:=GR) (fun _=>rfl) h hk;exact⟨b,off,hA,hb,hc 0 _ (by omega) rfl,hc 1 _ (by omega) rfl⟩
structure ot(w:World)(B:Nat)(A:Option Addr)(l:List Sb):Prop where
 a:Reads w B 2 A l.length (X2 l)
 k:∀x∈l,Reads w B 8 x.A x.ks.length (qm x.ks)
 n:l.length≤maxLen
 nk:∀x∈l,x.ks.length≤maxLen
theorem ot.below{w w':World}{A:Option Addr}{l:List Sb}(h:ot w w.heap.size A l)(hb:Below w.heap.size w w'):ot w' w'.heap.size A l :=
 ⟨(h.a.below hb).more hb.size,fun x hx=>((h.k x hx).below hb).more hb.size,h.n,h.nk⟩
def xH(l:List Sb):Prop:=l.length≤1000∧∀x∈l,x.u.size≤100000∧x.ks.length≤1000∧∀y∈x.ks,∀k,k<5→(five y.e k).size≤100000
noncomputable def Rec.okS (x:Sb):Bool:=gX x.u&&(rs mJ kid x.ks&&decide (x.ks.length≤32))
noncomputable def Rec.mayS (l:List Sb):Bool:=rs okS Sb.u l&&decide (l.length≤8)
end
section
open Go.RowKit Rec
attribute [local go_sem ↓] Go.wp_at_zero Go.wp_at_succ

theorem ahL(w:World)(a q:Nat)(h:min a 70000=q):(Builtin.min_ #[3,3] 3 #[.int .i64 (a:Int),.int .i64 70000]).run Tryz.prog w=.ok (.int .i64 (q:Int)) w:=by
 rcases Nat.lt_or_ge 70000 a with hh|hh
 ·have h1:(70000:Int)<a:=by omega
  have h2:q=70000:=by omega
  subst h2;go_simp;omega
 have h1:¬(70000:Int)<a:=by omega
 have h2:q=a:=by omega
 subst h2;go_simp;omega
theorem aei{x:bH}{b:Nat}(h0:x.id.size≤b)(h1:x.title.size≤b)(h2:x.link.size≤b)(h3:x.bP.size≤b)(h4:x.content.size≤b):∀k,k<5→(five x k).size≤b
 | 0,_=>h0
 | 1,_=>h1
 | 2,_=>h2
 | 3,_=>h3
 | 4,_=>h4
 | k+5,h=>absurd h (by omega)
theorem Yb(A:Option Addr)(c:Nat)(l:List bH)(w:World)(hA:Reads w w.heap.size 7 A l.length (xS l))(hl:l.length≤maxLen) :
  Calls Tryz.prog 46 #[.slice A l.length c] w fun e w'=>(∃z:Nat,e=.returned (.int .i64 z)∧z≤21350061∧(z≤30000→l.length≤60∧∀x∈l,∀k,k<5→(five x k).size≤30000))∧Below w.heap.size w w':=by
 obtain⟨n,hn⟩:∃n,l.length=n:=⟨_,rfl⟩;have HA:=ap hA;have hl':(n:Int)≤9223372036854775807:=by rw[←hn];unfold maxLen at hl;omega
 rw[hn] at ⊢;have Hn:=ap hn;clear hn hA hl
 go_enter Tryz.func46,Tryz.ntmps46
 go_wp2
 go_loopg [3,4] 61 (fun g vn vi wr=>∃k z:Nat,g=61-k∧k≤61∧k≤n∧vi=.int .i64 k∧vn=.int .i64 z∧z≤350001*k∧(z≤30000→∀(j:Nat) (h:j<l.length),j<k→∀i,i<5→(five l[j] i).size≤30000)∧Below w.heap.size w wr)
 case atStart=>exact⟨0,0,rfl,by omega,by omega,rfl,rfl,by omega,fun _ _ _ h=>absurd h (by omega),Below.refl _ _⟩
 case round=>
  obtain⟨k,z,hg,hk,js,rfl,rfl,hz1,hz,kb⟩:=hrel;have Hg:=ap hg;have Kb:=ap kb;have Hz:=ap hz;clear hg hz kb
  by_cases hlt:k<n
  ·by_cases tD:k≤60
   ·have h1:k<l.length:=by rw[Hn.o];exact hlt
    obtain⟨b,off,rfl,hb,hx⟩:=(HA.o.below Kb.o).adS h1;obtain⟨x,ex⟩:∃x,l[k]=x:=⟨_,rfl⟩;rw[ex] at hx;have Ex:=ap ex;have x0:=hx.c0;have x1:=hx.c1;have x2:=hx.c2;have x3:=hx.c3;have x4:=hx.c4;have x5:=hx.c5;have x6:=hx.c6;clear hx ex;have Kb':=ap (Kb.o.trans ((ay wr (.cells #[.string x.id,.string x.title,.string x.link,.string x.bP,.string x.content,.bool x.has,.int .i64 x.sec] 91)).mono Kb.o.size));go_wp2
    all_goals
     go_roundg (61-(k+1))
     case measure=>have:=Hg.o;omega
     case rel=>
      refine⟨k+1,z+1+min x.id.size 70000+min x.title.size 70000+min x.link.size 70000+min x.bP.size 70000+min x.content.size 70000,rfl,by omega,by omega,by go_num,int_eq (by omega),by omega,fun h j hj hjk=>?_,Kb'.o⟩
      rcases Nat.lt_or_ge j k with h2|h2
      ·exact Hz.o (by omega) j hj h2
      obtain rfl:j=k:=by omega
      rw[Ex.o];exact aei (by omega) (by omega) (by omega) (by omega) (by omega)
   go_wp2;go_ret;exact⟨⟨1048576,rfl,by omega,fun h=>by omega⟩,Kb.o⟩
  go_wp2
  ·go_ret;exact⟨⟨1048576,rfl,by omega,fun h=>by omega⟩,Kb.o⟩
  go_ret;refine⟨⟨z,rfl,by omega,fun h=>⟨by omega,fun x hx=>?_⟩⟩,Kb.o⟩;obtain⟨j,hj,rfl⟩:=List.getElem_of_mem hx;exact Hz.o h j hj (by rw[Hn.o] at hj;omega)
def yY(sk:List Nat):Nat→List Bool→Nat
 | i,b :: r=>if b||sk.contains i then yY sk (i+1) r else i
 | i,[]=>i
section
variable {P:Program} {l:List Oper} {Q:Exit→Act→World→Prop} {md:Region.Mode} {S:World→Prop}
theorem ah9(sk:List Nat){d:Nat}{oi:Oper}{v:Value}{fuel:Nat}{ls:List Bool}{tm:List Value}{df:List Deferred}{w:World}(hi:l[yY sk 0 ls]?=some oi)(hd:oi.dst=some d)(hS:S w)
  (hy:∀w,S w→(execOp (Act.eval ⟨tm.toArray,df⟩) oi).run P w=.ok (.value v) w) (h:wpAnyH P md l.toArray Q S fuel (ls.set (yY sk 0 ls) true).toArray { tmps:=(tm.set d v).toArray,defers:=df } w)
  (hs:Region.noSelect l.toArray=true:=by kernel_rfl) (hf:Region.free md l.toArray ls.toArray (yY sk 0 ls)=true:=by kernel_rfl) (hr:(Region.ready md l.toArray ls.toArray).contains (yY sk 0 ls)=true:=by kernel_rfl)
  (hw:Region.wanted oi (yielded l.toArray tm.toArray)=true:=by kernel_rfl) (hQ:∀c a w,Q (.panic c) (a.put oi.dst v) w→Q (.panic c) a w:=by exact fun _ _ _ h=>h):wpAnyH P md l.toArray Q S (fuel+1) ls.toArray ⟨tm.toArray,df⟩ w :=
 UC hi hd hs hf hr hQ hw hS hy (by simpa using h)
end
def AO(l:List iM):List Value:=xS (l.map (·.e))
theorem abP(u:ByteArray)(A:Option Addr)(c:Nat)(ks:List iM)(w:World)(hk:Reads w w.heap.size 8 A ks.length (qm ks))(hm:ks.length≤maxLen) :
  Calls Tryz.prog 29 #[.agg #[.int .i8 0,.int .i64 0,.string ⟨#[]⟩,.string ⟨#[]⟩,.bool false,.slice none 0 0,.string u,.slice A ks.length c]] w fun e w'=>(∃z:Nat,e=.returned (.int .i64 z)∧z≤50000000∧(z≤30000→u.size≤30000∧ks.length≤60∧∀x∈ks,∀k,k<5→(five x.e k).size≤30000))∧Below w.heap.size w w':=by
 obtain⟨n,hn⟩:∃n,ks.length=n:=⟨_,rfl⟩;have hl':(n:Int)≤9223372036854775807:=by rw[←hn];unfold maxLen at hm;omega
 have HI:=ap hk;rw[hn];have Hn:=ap hn;have K0:=ap (ae.new w 45 #[.int .i8 0,.int .i64 0,.string ⟨#[]⟩,.string ⟨#[]⟩,.bool false,.slice none 0 0,.string u,.slice A n c]);have B0:=ap (ay w (.cells #[.int .i8 0,.int .i64 0,.string ⟨#[]⟩,.string ⟨#[]⟩,.bool false,.slice none 0 0,.string u,.slice A n c] 45));clear hn hk hm
 go_enter Tryz.func29,Tryz.ntmps29
 go_wp2
 go_loopg [3,4] 61 (fun g vl vi wr=>∃(k:Nat) (A2:Option Addr) (c2:Nat),g=61-k∧k≤61∧k≤n∧vi=.int .i64 k∧vl=.slice A2 k c2∧wr.ownsRow (w.heap.size+1) 91 7 (.slice A2 k c2) k (AO (ks.take k))∧Below w.heap.size w wr∧ae wr w.heap.size 45 #[.int .i8 0,.int .i64 0,.string ⟨#[]⟩,.string ⟨#[]⟩,.bool false,.slice none 0 0,.string u,.slice A n c])
 case atStart=>exact⟨0,none,0,rfl,by omega,by omega,rfl,rfl,World.ownsRow_nil _ _ _ _,B0.o,K0.o⟩
 case round=>
  obtain⟨k,A2,c2,hg,hk,js,rfl,rfl,ah,hB,hK⟩:=hrel;have Hg:=ap hg;have bI:=ap ah;have HB:=ap hB;have HK:=ap hK;have x7:=hK.cell 7;clear hg ah hB hK K0 B0
  by_cases hlt:k<n
  ·by_cases tD:k≤60
   ·have h1:k<ks.length:=by rw[Hn.o];exact hlt
    obtain⟨bb,off,rfl,gQ,hx⟩:=(HI.o.below HB.o).Ge h1;have aQ:=ap (show AO (ks.take (k+1))=AO (ks.take k)++lx ks[k].e by unfold AO xS;rw[List.take_succ_eq_append_getElem h1,List.map_append,List.flatMap_append];congr 1);obtain⟨x,ex⟩:∃x,ks[k].e=x:=⟨_,rfl⟩;have y0:=hx.c0;have y1:=hx.c1;have y2:=hx.c2;have y3:=hx.c3;have y4:=hx.c4;have y5:=hx.c5;have y6:=hx.c6;rw[ex] at y0 y1 y2 y3 y4 y5 y6 aQ;clear hx ex
    go_wp2_with (at_builtin;go_loud (refine su (wr.alloc (.cells #[.string x.id,.string x.title,.string x.link,.string x.bP,.string x.content,.bool x.has,.int .i64 x.sec] 91)) rfl (.tmp 17) (.tmp 25) 43 rfl (w.heap.size+1) 91 (.agg #[.string ⟨#[]⟩,.string ⟨#[]⟩,.string ⟨#[]⟩,.string ⟨#[]⟩,.string ⟨#[]⟩,.bool false,.int .i64 0]) 7 96 Tryz.underlying43 (by kernel_rfl) rfl (by omega) (.slice A2 k c2) k (AO (ks.take k)) rfl (bI.o.alloc _) (lx x) rfl (by intro u hu;simp only[lx,List.mem_cons,List.not_mem_nil,or_false] at hu;rcases hu with rfl|rfl|rfl|rfl|rfl|rfl|rfl<;>rfl) wr.heap.size (ae.new wr 91 _) rfl (by unfold maxLen;omega) (by omega) (by have:=HK.o.lt;simp;omega) ?_);intro g cap w3 BO BG kG;have Jq:=ap BO;have z7:=ap BG;clear BO BG kG)
    have aw:=ap (show Below w.heap.size w w3 from (HB.o.alloc HB.o.size _).grown z7.o (by have:=HB.o.size;simp;omega) (fun j e=>by have:=(aD bI.o j e).1;omega));have br:=ap (ae.grown (HK.o.alloc _) z7.o (bR bI.o HK.o (by decide)).symm)
    go_roundg (61-(k+1))
    case measure=>have:=Hg.o;omega
    case rel=>exact⟨k+1,some ⟨g,0,none⟩,cap,rfl,by omega,by omega,by go_num,rfl,by rw[aQ.o];exact Jq.o,aw.o,br.o⟩
   go_wp2;go_ret;exact⟨⟨1048576,rfl,by omega,fun h=>by omega⟩,HB.o⟩
  obtain rfl:k=n:=by omega
  by_cases tD:k≤60
  ·have gC:(ks.map (·.e)).length=k:=by simp[Hn.o]
   have Ha:=ap fun (W:World)=>Yb none 0 [] W Reads.none_ (by simp)
   have Hk:=ap fun (W:World) (hW:Below wr.heap.size wr W)=>by
    have h:=Yb A2 c2 (ks.map (·.e)) W (by
     rw[gC];have h2:=bI.o;rw[show ks.take k=ks from List.take_of_length_le (by rw[Hn.o];omega)] at h2;exact ((Reads.cY h2).below hW).more hW.size) (by rw[gC];unfold maxLen;omega)
    rw[gC] at h;exact h
   obtain⟨q,hq⟩:∃q,min u.size 70000=q:=⟨_,rfl⟩;have nK:q≤70000:=by omega
   have Hq:=ap (show q≤30000→u.size≤30000 by omega);have m0:min (0:Int) 70000=0:=by decide
   clear hlt js hk gC;go_wp2;refine wp_region_held_drew (S:=fun W=>ae W w.heap.size 45 #[.int .i8 0,.int .i64 0,.string ⟨#[]⟩,.string ⟨#[]⟩,.bool false,.slice none 0 0,.string u,.slice A k c]∧Below wr.heap.size wr W) (by kernel_rfl) ⟨HK.o,(Below.refl _ _).drew⟩ (fun hHeld=>?_);change wpAnyH _ _ _ _ _ 23 (List.toArray [false,false,false,false,false,false,false,false,false,false,false,false,false,false,false,false,false,false,false,false,false,false,false]) _ _;iterate 16 (refine ah9 [2,4,5,10,15,21,22] (v:=?_) rfl rfl hHeld ?_ ?_;rotate_left;(· (intro w hSw;have q0:=hSw.1.cell 5;have q1:=hSw.1.cell 3;have q2:=hSw.1.cell 2;have q3:=hSw.1.cell 6;have m1:=ahL w u.size q hq;go_simp;try with_reducible rfl));(try simp only[nx,yY,List.set]))
   refine fU (i:=2) rfl (by kernel_rfl) (by kernel_rfl) (fun K hK=>?_);go_simp;refine (Ha.o _).mono ?_;rintro e w' ⟨⟨z1,rfl,hz1,-⟩,hb⟩;(try dsimp only);refine hK.out _ _ ⟨hHeld.1.below hb hHeld.1.lt,mm hHeld.2 hb (Nat.le_refl _)⟩ (fun aL=>?_);clear hK K hHeld hb;have hHeld:=aL;clear aL;(try simp only[Act.put,List.setIfInBounds_toArray,List.set_cons_zero,List.set_cons_succ]);refine fU (i:=4) rfl (by kernel_rfl) (by kernel_rfl) (fun K hK=>?_);go_simp;refine (Hk.o _ hHeld.2).mono ?_;rintro e w' ⟨⟨z2,rfl,hz2,hf⟩,hb⟩;(try dsimp only);refine hK.out _ _ ⟨hHeld.1.below hb hHeld.1.lt,mm hHeld.2 hb (Nat.le_refl _)⟩ (fun aL=>?_);clear hK K hHeld hb;have hHeld:=aL;have Hf:=ap hf;clear aL hf;(try simp only[Act.put,List.setIfInBounds_toArray,List.set_cons_zero,List.set_cons_succ]);have s1:IntKind.i64.wrap ((z1:Int)+z2)=(z1:Int)+z2:=IntWalk.i64_in _ (by omega);have s2:IntKind.i64.wrap ((z1:Int)+z2+q)=(z1:Int)+z2+q:=IntWalk.i64_in _ (by omega);iterate 5 (refine aJ (v:=?_) rfl rfl hHeld ?_ ?_;rotate_left;(· (intro w hSw;go_simp;try with_reducible rfl));(try simp only[nx,List.set]))
   refine wpAnyH_done (by kernel_rfl) ?_ _;have uE:=ap (HB.o.trans (hHeld.2.mono HB.o.size));clear hHeld;go_wp2;go_ret;exact⟨⟨z1+z2+q,aC (int_eq (by omega)),by omega,fun h=>⟨Hq.o (by omega),tD,fun x hx=>(Hf.o (by omega)).2 x.e (List.mem_map_of_mem hx)⟩⟩,uE.o⟩
  go_wp2;go_ret;exact⟨⟨1048576,rfl,by omega,fun h=>by omega⟩,HB.o⟩
def RD(P:Prop)(e:Ending):Prop:=∃g,e=.returned (.bool g)∧(g=false→P)
def Rp(x:Sb):Prop:=x.u.size≤30000∧x.ks.length≤60∧∀y∈x.ks,∀k,k<5→(five y.e k).size≤30000
theorem aeK(A:Option Addr)(c:Nat)(l:List Sb)(w:World)(hA:Reads w w.heap.size 8 A l.length (l.flatMap pk))(hk:∀x∈l,Reads w w.heap.size 8 x.A x.ks.length (qm x.ks)∧x.ks.length≤maxLen)(hl:l.length≤21) :
  Calls Tryz.prog 16 #[.slice A l.length c] w fun e w'=>RD (∀x∈l,Rp x) e∧Below w.heap.size w w':=by
 obtain⟨n,hn⟩:∃n,l.length=n:=⟨_,rfl⟩;have HA:=ap hA;have HK:=ap hk;rw[hn] at hl ⊢;have Hn:=ap hn;clear hn hA hk
 go_enter Tryz.func16,Tryz.ntmps16
 go_wp2
 go_loopg [3,4] n (fun g vn vi wr=>∃k z:Nat,g=n-k∧k≤n∧vi=.int .i64 k∧vn=.int .i64 z∧z≤50000000*k∧(z≤30000→∀(j:Nat) (h:j<l.length),j<k→Rp l[j])∧Below w.heap.size w wr)
 case atStart=>exact⟨0,0,rfl,by omega,rfl,rfl,by omega,fun _ _ _ h=>absurd h (by omega),Below.refl _ _⟩
 case round=>
  obtain⟨k,z,hg,js,rfl,rfl,hz1,hz,kb⟩:=hrel;have Hg:=ap hg;have Kb:=ap kb;have Hz:=ap hz;clear hg hz kb
  by_cases hlt:k<n
  ·have h1:k<l.length:=by rw[Hn.o];exact hlt
   obtain⟨b,off,rfl,hb,hc⟩:=Reads.flat (f:=pk) (fun _=>rfl) (HA.o.below Kb.o) h1;have x0:wr.cell? ⟨b,off+k*8,none⟩=some (.int .i8 0):=hc 0 _ (by omega) rfl;have x1:wr.cell? ⟨b,off+k*8+1,none⟩=some (.int .i64 0):=hc 1 _ (by omega) rfl;have x2:wr.cell? ⟨b,off+k*8+2,none⟩=some (.string ⟨#[]⟩):=hc 2 _ (by omega) rfl;have x3:wr.cell? ⟨b,off+k*8+3,none⟩=some (.string ⟨#[]⟩):=hc 3 _ (by omega) rfl;have x4:wr.cell? ⟨b,off+k*8+4,none⟩=some (.bool false):=hc 4 _ (by omega) rfl;have x5:wr.cell? ⟨b,off+k*8+5,none⟩=some (.slice none 0 0):=hc 5 _ (by omega) rfl;have x6:wr.cell? ⟨b,off+k*8+6,none⟩=some (.string l[k].u):=hc 6 _ (by omega) rfl;have x7:wr.cell? ⟨b,off+k*8+7,none⟩=some (.slice l[k].A l[k].ks.length l[k].c):=hc 7 _ (by omega) rfl;have FT:=HK.o _ (List.getElem_mem h1);have HS:=ap fun (W:World) (hW:Below w.heap.size w W)=>abP l[k].u l[k].A l[k].c l[k].ks W ((FT.1.below hW).more hW.size) FT.2;obtain⟨x,ex⟩:∃x,l[k]=x:=⟨_,rfl⟩;simp only[ex] at x0 x1 x2 x3 x4 x5 x6 x7 HS;have Ex:=ap ex;clear hc FT ex
   go_wp2_with fail
   refine (HS.o _ Kb.o).mono ?_;rintro e w1 ⟨⟨z1,rfl,hz2,hf⟩,ak⟩;have Hf:=ap hf;have Kb1:=ap (Kb.o.trans (ak.mono Kb.o.size));clear ak hf;go_wp2
   go_roundg (n-(k+1))
   case measure=>have:=Hg.o;omega
   case rel=>
    refine⟨k+1,z+z1,rfl,by omega,by go_num,int_eq (by omega),by omega,fun h j hj hjk=>?_,Kb1.o⟩
    rcases Nat.lt_or_ge j k with h2|h2
    ·exact Hz.o (by omega) j hj h2
    obtain rfl:j=k:=by omega
    rw[Ex.o];exact Hf.o (by omega)
  go_wp2;go_ret;refine⟨⟨_,rfl,fun h x hx=>?_⟩,Kb.o⟩;obtain⟨j,hj,rfl⟩:=List.getElem_of_mem hx;simp at h;exact Hz.o (by omega) j hj (by rw[Hn.o] at hj;omega)
theorem aeL(A:Option Addr)(c:Nat)(l:List Sb)(w:World)(hL:ot w w.heap.size A l) :
  Calls Tryz.prog 5 #[.agg #[.slice A l.length c]] w fun e w'=>RD (xH l) e∧Below w.heap.size w w':=by
 obtain⟨n,hn⟩:∃n,l.length=n:=⟨_,rfl⟩;have hl':(n:Int)≤9223372036854775807:=by have:=hL.n;rw[←hn];unfold maxLen at this;omega
 have HL:=ap hL;rw[hn];have Hn:=ap hn;have K0:=ap (ae.new w 25 #[.slice A n c]);have B0:=ap (ay w (.cells #[.slice A n c] 25));clear hn hL
 go_enter Tryz.func5,Tryz.ntmps5
 go_wp2
 go_loopg [3,4] 21 (fun g vl vi wr=>∃(k:Nat) (A2:Option Addr) (c2:Nat),g=21-k∧k≤21∧k≤n∧vi=.int .i64 k∧vl=.slice A2 k c2∧wr.ownsRow (w.heap.size+1) 45 8 (.slice A2 k c2) k ((l.take k).flatMap pk)∧Below w.heap.size w wr∧ae wr w.heap.size 25 #[.slice A n c])
 case atStart=>exact⟨0,none,0,rfl,by omega,by omega,rfl,rfl,World.ownsRow_nil _ _ _ _,B0.o,K0.o⟩
 case round=>
  obtain⟨k,A2,c2,hg,hk,js,rfl,rfl,ah,hB,hK⟩:=hrel;have Hg:=ap hg;have bI:=ap ah;have HB:=ap hB;have HK:=ap hK;have q0:=hK.cell 0;clear hg ah hB hK K0 B0
  by_cases hlt:k<n
  ·by_cases h20:k≤20
   ·have h1:k<l.length:=by rw[Hn.o];exact hlt
    obtain⟨bb,off,rfl,gQ,x0,x1⟩:=(HL.o.a.below HB.o).sb h1;have aQ:=ap (show (l.take (k+1)).flatMap pk=(l.take k).flatMap pk++pk l[k] by rw[List.take_succ_eq_append_getElem h1,List.flatMap_append];simp);obtain⟨x,ex⟩:∃x,l[k]=x:=⟨_,rfl⟩;rw[ex] at x0 x1 aQ;clear ex
    go_wp2_with (at_builtin;go_loud (refine su (wr.alloc (.cells (pk x).toArray 45)) rfl (.tmp 16) (.tmp 23) 38 rfl (w.heap.size+1) 45 (.agg #[.int .i8 0,.int .i64 0,.string ⟨#[]⟩,.string ⟨#[]⟩,.bool false,.slice none 0 0,.string ⟨#[]⟩,.slice none 0 0]) 8 120 Tryz.underlying38 (by kernel_rfl) rfl (by omega) (.slice A2 k c2) k ((l.take k).flatMap pk) rfl (bI.o.alloc _) (pk x) rfl (by intro u hu;simp only[pk,List.mem_cons,List.not_mem_nil,or_false] at hu;rcases hu with rfl|rfl|rfl|rfl|rfl|rfl|rfl|rfl<;>rfl) wr.heap.size (ae.new wr 45 _) rfl (by unfold maxLen;omega) (by omega) (by have:=HK.o.lt;simp;omega) ?_);intro g cap w3 BO BG kG;have Jq:=ap BO;have z7:=ap BG;clear BO BG kG)
    have aw:=ap (show Below w.heap.size w w3 from (HB.o.alloc HB.o.size _).grown z7.o (by have:=HB.o.size;simp;omega) (fun j e=>by have:=(aD bI.o j e).1;omega));have br:=ap (ae.grown (HK.o.alloc _) z7.o (bR bI.o HK.o (by decide)).symm)
    go_roundg (21-(k+1))
    case measure=>have:=Hg.o;omega
    case rel=>exact⟨k+1,some ⟨g,0,none⟩,cap,rfl,by omega,by omega,by go_num,rfl,by rw[aQ.o];exact Jq.o,aw.o,br.o⟩
   go_wp2;go_ret;exact⟨⟨true,rfl,fun h=>by cases h⟩,HB.o⟩
  obtain rfl:k=n:=by omega
  have Hr:=ap (show wr.ownsRow (w.heap.size+1) 45 8 (.slice A2 l.length c2) l.length (l.flatMap pk) from by
   have h:=bI.o;rw[List.take_of_length_le (by rw[Hn.o];omega)] at h;rw[Hn.o];exact h)
  by_cases h20:k≤20
  ·have HG:=ap (aeK A2 c2 l wr (Reads.cY Hr.o) (fun x hx=>⟨((HL.o.k x hx).below HB.o).more HB.o.size,HL.o.nk x hx⟩) (by rw[Hn.o];omega));rw[Hn.o] at HG;clear Hr bI hlt js hk
   go_wp2_with fail
   refine HG.o.mono ?_;rintro e w1 ⟨⟨g,rfl,hf⟩,hb⟩
   have HF:=ap (show g=false→xH l from fun h=>⟨by rw[Hn.o];omega,fun x hx=>by
    obtain⟨h1,h2,h3⟩:=hf h x hx;exact⟨by omega,by omega,fun y hy k hk=>Nat.le_trans (h3 y hy k hk) (by omega)⟩⟩)
   have ax:=ap (HB.o.trans (hb.mono HB.o.size));have hd:decide ((20:Int)<(k:Int))=false:=decide_eq_false (by omega);clear hb hf HG;go_wp2;go_ret;exact⟨⟨g,rfl,HF.o⟩,ax.o⟩
  go_wp2;go_ret;exact⟨⟨true,rfl,fun h=>by cases h⟩,HB.o⟩
end
end Go.Proofs.YtpdkeckeekchlaaGreatDoor
