/- Tokens: what a piece's reading leaves; an end. And more. -/
import Derived.Test.YtpdkeckeekchlaaGreatDoorOt04
import Derived.ScopeJumps
import Derived.WalkMore
set_option linter.unusedSimpArgs false
set_option maxRecDepth 20000
set_option maxHeartbeats 16000000
set_option linter.unusedVariables false
namespace Go.Proofs.YtpdkeckeekchlaaGreatDoor
section
open Go.RowKit Tk

def kg(l:List At):List Value:=l.flatMap fun a=>[.string (aa a.name),.string (aa a.value),.int .i64 (a.at_:Int)]
def Ry(w:World)(base T:Nat)(t:Tok)(e:Nat):Prop :=
 ∃A c,Tb w T t.kind (aa t.name) (.slice A t.attrs.length c) t.empty (aa t.text) t.at_ e∧w.ownsRow base 183 3 (.slice A t.attrs.length c) t.attrs.length (kg t.attrs)
def JP(w:World)(T:Nat):Prop:=∃kind name ar empty text a e,Tb w T kind name ar empty text a e
def eW(w:World)(base X T:Nat)(s:ByteArray)(k:Nat)(o:Option Tok)(e:Ending)(w':World):Prop :=
 aY X T w w'∧match o with
  | none=>e=.returned (.bool false)∧(∃k',k'≤s.size∧Sc w' X s k')∧JP w' T
  | some t=>e=.returned (.bool true)∧t.end_≤s.size∧k<t.end_∧Sc w' X s t.end_∧Ry w' base T t 0
theorem eW.no{w:World}{base X T:Nat}{s:ByteArray}{k k':Nat}{o:Option Tok}{e:Ending}{w':World}(ho:o=none)(h1:aY X T w w')(h2:e=.returned (.bool false))(h3:k'≤s.size)(h4:Sc w' X s k')(h5:JP w' T):eW w base X T s k o e w':=by
 subst ho;exact⟨h1,h2,⟨k',h3,h4⟩,h5⟩
theorem eW.yes{w:World}{base X T:Nat}{s:ByteArray}{k:Nat}{t:Tok}{o:Option Tok}{e:Ending}{w':World}(ho:o=some t)(h1:aY X T w w')(h2:e=.returned (.bool true))(h3:t.end_≤s.size)(h4:k<t.end_)(h5:Sc w' X s t.end_)(h6:Ry w' base T t 0):eW w base X T s k o e w':=by
 subst ho;exact⟨h1,h2,h3,h4,h5,h6⟩
def T0(w:World)(T k:Nat):Prop:=Tb w T 0 ⟨#[]⟩ (.slice none 0 0) false ⟨#[]⟩ k 0
theorem NW(l:L):((aa l).toList==([]:L))=l.isEmpty:=amf (aa l)

theorem adN(w:World)(base X T:Nat)(s:ByteArray)(k:Nat)(hX:Sc w X s k)(hT:T0 w T k)(hne:X≠T)(ha:k+2≤s.size)(hs:s.size≤1000000000) :
  Calls Tryz.prog 109 #[.pointer (some ⟨X,0,none⟩),.pointer (some ⟨T,0,none⟩)] w (eW w base X T s k (Tk.end_ k (s.data.toList.drop k))):=by
 obtain⟨d,hd⟩:∃d,s.data.toList.drop k=d:=⟨_,rfl⟩;have bJ:s.data.toList.drop (k+2)=d.drop 2:=by rw[vE,hd]
 have HN:=ap fun W (hW:Sc W X s (k+2))=>WH W X s (k+2) hW ha hs;rw[bJ] at HN;rw[hd];obtain⟨r,hr⟩:∃r,d.drop 2=r:=⟨_,rfl⟩;rw[hr] at HN bJ;have FE:r.length=s.size-(k+2):=by rw[←bJ,List.length_drop,bV]
 obtain⟨n,hn⟩:∃n,take r=n:=⟨_,rfl⟩;have ju:n≤s.size-(k+2):=by have:=GV r;omega
 have hex:s.extract (k+2) (k+2+n)=aa (r.take n):=by rw[oD,bJ,show k+2+n-(k+2)=n by omega]
 rw[hn,hex] at HN;have ym:s.data.toList.drop (k+2+n)=r.drop n:=by rw[vE,bJ]
 have HB:=ap fun W (hW:Sc W X s (k+2+n))=>Ep W X s (k+2+n) hW (by omega) hs;obtain⟨m,hm⟩:∃m,aS (r.drop n)=m:=⟨_,rfl⟩;have jt:m≤s.size-(k+2+n):=by have:=CB (r.drop n);rw[List.length_drop] at this;omega
 rw[ym,hm] at HB;have tI:s.data.toList.drop (k+2+n+m)=(r.drop n).drop m:=by rw[vE,ym]
 have HI:=ap fun W (hW:Sc W X s (k+2+n+m))=>Cj W X s ⟨#[62]⟩ (k+2+n+m) hW (by omega) hs (by decide);rw[tI] at HI;obtain⟨p,hp⟩:∃p,([62]:L).isPrefixOf ((r.drop n).drop m)=p:=⟨_,rfl⟩;rw[show ((⟨#[62]⟩:ByteArray).data.toList.isPrefixOf ((r.drop n).drop m))=p from hp] at HI;obtain⟨res,dD⟩:∃o,Tk.end_ k d=o:=⟨_,rfl⟩;rw[dD]
 have hR:res=if n=0 then none else if p=true then some ⟨1,r.take n,[],false,[],k,k+2+n+m+1⟩ else none:=by
  rw[←dD];unfold Tk.end_;dsimp only;rw[hr,hn,hm,hp]
 have hpl:p=true→k+2+n+m+1≤s.size:=fun h=>by
  have:=GH (by rw[hp];exact h);rw[←tI,List.length_drop,bV] at this;have e:([62]:L).length=1:=rfl;omega
 have hE:=NW (r.take n)
 have oG:(r.take n).isEmpty=decide (n=0):=by
  rw[Bool.eq_iff_iff,List.isEmpty_iff,decide_eq_true_eq]
  constructor
  ·intro h;have:=congrArg List.length h;rw[List.length_take,List.length_nil] at this;omega
  intro h;rw[h,List.take_zero]
 rw[oG] at hE;have HR:=ap hR;have IP:=ap hpl;have kX:=ap hX;have ee:=ap hT;have q1:=Sc.c1 hX;have f1:=Sc.f1 hX;have f0:=Tb.f hT 0;have c0:=Tb.c0 hT;have qJ:=ap (show k+2+n+m≤s.size by omega);obtain⟨nm,cD⟩:∃nm,aa (r.take n)=nm:=⟨_,rfl⟩;rw[cD] at HN hE;have eQ:=ap cD;clear cD dD hR hpl hX hT hd bJ hr FE hn ju hex ym hm jt tI hp oG;have hw2:IntKind.i64.wrap ((k:Int)+2)=(k:Int)+2:=IntWalk.i64_in _ (by omega)
 go_enter Tryz.func109,Tryz.ntmps109
 go_wp2_with fail
 have S1:=ap (Sc.move (Sc.far kX.o hne (i:=0) (.int .i8 1)) (k+2));have T1:=ap (Tb.far (i:=1) (Tb.V7 ee.o 1) (Ne.symm hne) (.int .i64 ((k+2:Nat):Int)));have B1:=ap (((aY.refl X T w).setCell (p:=⟨T,0,none⟩) (.inr (.inl rfl)) (.int .i8 1)).setCell (p:=⟨X,1,none⟩) (.inl rfl) (.int .i64 ((k+2:Nat):Int)));clear q1 f1 f0 c0;refine (HN.o _ S1.o).mono ?_;rintro e w2 ⟨rfl,s2,b2⟩;have T2:=ap (T1.o.AE b2 (Ne.symm hne));have B2:=ap (B1.o.one b2);have S2:=ap s2;have f0:=Tb.f T2.o 1;have c0:=Tb.c1 T2.o;clear s2 b2 HN S1 T1 B1
 go_wp2_with fail
 have S3:=ap (Sc.far (i:=1) S2.o hne (.string nm));have T3:=ap (Tb.MW T2.o nm);have B3:=ap (B2.o.setCell (p:=⟨T,1,none⟩) (.inr (.inl rfl)) (.string nm));clear f0 c0 S2 T2 B2;refine (HB.o _ S3.o).mono ?_;rintro e w4 ⟨rfl,s4,b4⟩;have T4:=ap (T3.o.AE b4 (Ne.symm hne));have B4:=ap (B3.o.one b4);have S4:=ap s4;have c1:=Tb.c1 T4.o;clear s4 b4 HB S3 T3 B3
 by_cases h0:n=0
 ·rw[decide_eq_true h0] at hE;have iJ:=ap (show res=none by rw[HR.o,if_pos h0]);clear h0 HR HI;go_wp2;go_ret;exact eW.no iJ.o B4.o rfl qJ.o S4.o ⟨_,_,_,_,_,_,_,T4.o⟩
 rw[decide_eq_false h0] at hE;have iJ:=ap (show res=if p=true then some ⟨1,r.take n,[],false,[],k,k+2+n+m+1⟩ else none by rw[HR.o,if_neg h0]);clear h0 HR
 go_wp2_with fail
 refine (HI.o _ S4.o).mono ?_;rintro e w5 ⟨rfl,s5,b5⟩;have T5:=ap (T4.o.AE b5 (Ne.symm hne));have B5:=ap (B4.o.one b5);have S5:=ap s5;clear s5 b5 HI S4 T4 B4 c1
 cases p with
 | false=>
  go_wp2;go_ret;refine eW.no (by rw[iJ.o];rfl) B5.o rfl qJ.o (k':=k+2+n+m) ?_ ⟨_,_,_,_,_,_,_,T5.o⟩
  simpa using S5.o
 | true=>
  go_wp2;go_ret;refine eW.yes (t:=⟨1,r.take n,[],false,[],k,k+2+n+m+1⟩) (by rw[iJ.o];rfl) B5.o rfl (IP.o (by simp)) (by dsimp only;omega) ?_ ?_
  ·have h:=S5.o;rw[if_pos (by simp)] at h;exact h
  refine⟨none,0,?_,World.ownsRow_nil _ _ _ _⟩;have h:=T5.o;rw[←eQ.o] at h;exact h
end
section
open Go.RowKit Tk

theorem index_one(l:L)(c:UInt8):Lib.index l [c]=Lib.indexByte l c:=by
 induction l with
 | nil=>rfl
 | cons b l ih=>
  unfold Lib.index Lib.indexByte;rw[ih]
  have:([c]:L).isPrefixOf (b :: l)=(b==c):=by
   simp only[List.isPrefixOf,Bool.and_true];rw[Bool.eq_iff_iff,beq_iff_eq,beq_iff_eq];exact eq_comm
  rw[this]
theorem amG(l:L):(till [60] l).getD l.length=if Lib.indexByte l 60<0 then l.length else (Lib.indexByte l 60).toNat:=by
 unfold till;rw[index_one]
 split<;>rfl
theorem agK{c:UInt8}{l:L}(h:([c]:L).isPrefixOf l=false):Lib.index l [c]≠0:=by
 cases l with
 | nil=>simp[Lib.index]
 | cons b l=>
  unfold Lib.index;rw[h];have h1:=Lib.index_ge l [c];show (if Lib.index l [c] == -1 then -1 else Lib.index l [c]+1)≠0;split
  ·decide
  rename_i h2
  have h3:Lib.index l [c]≠-1:=by simpa using h2
  omega
theorem amH{l:L}(h:([60]:L).isPrefixOf l=false)(h0:0<l.length):0<(till [60] l).getD l.length:=by
 cases ht:till [60] l with
 | none=>exact h0
 | some n=>
  have h1:=(GX ht).1;have h2:=agK h;simp;omega
theorem amI(l:L):(till [60] l).getD l.length≤l.length:=by
 cases h:till [60] l with
 | none=>exact Nat.le_refl _
 | some n=>
  have:=(GX h).2;simp at this ⊢;omega

theorem amE(w:World)(base X T:Nat)(s:ByteArray)(k:Nat)(hX:Sc w X s k)(hT:T0 w T k)(hne:X≠T)(eY:6≤X)(nw:6≤T)(hg:Gl w)(ha:k<s.size)(hs:s.size≤1000000000)(tD:([60]:L).isPrefixOf (s.data.toList.drop k)=false) :
  Calls Tryz.prog 111 #[.pointer (some ⟨X,0,none⟩),.pointer (some ⟨T,0,none⟩)] w (eW w base X T s k (Tk.text k (s.data.toList.drop k))):=by
 have HP:=ap (show ∀W,Calls Tryz.prog 54 #[.string (s.extract k s.size),.int .u8 60] W fun e w'=>e=.returned (.int .i64 (Lib.indexByte (s.data.toList.drop k) 60))∧w'=W from fun W=>by
  have h:=Tryz.strings_IndexByte (s.extract k s.size) 60 W;rw[ko,aZ] at h;rw[ko];exact h)
 have kX:=ap hX;have ee:=ap hT;have f0:=Tb.f hT 0;have c0:=Tb.c0 hT;have pZ:¬s.size<k:=by omega
 have HG:=ap hg;obtain⟨z,hz⟩:∃z,Lib.indexByte (s.data.toList.drop k) 60=z:=⟨_,rfl⟩;obtain⟨n,hn⟩:∃n,(till [60] (s.data.toList.drop k)).getD (s.data.toList.drop k).length=n:=⟨_,rfl⟩;have oQ:=amG (s.data.toList.drop k);have iy:=amI (s.data.toList.drop k);have Mn:=amH tD;rw[hn,List.length_drop,bV] at iy Mn;rw[hn,hz,List.length_drop,bV] at oQ;rw[hz] at HP;have HX:=ap (show s.extract k (k+n)=aa ((s.data.toList.drop k).take n) by rw[oD,show k+n-k=n by omega])
 have HC:=ap fun W (hW:Gl W)=>(show Calls Tryz.prog 152 #[.string (s.extract k (k+n)),.string ⟨#[93,93,62]⟩] W fun e w'=>e=.returned (.bool (decide (0≤Lib.index ((s.data.toList.drop k).take n) [93,93,62])))∧w'=W from by
  obtain⟨m,hm⟩:=hW.most;have h:=Tryz.strings_Contains (s.extract k (k+n)) ⟨#[93,93,62]⟩ m W (by rw[ByteArray.size_extract];omega) hm;rw[HX.o,aZ] at h;rw[HX.o];exact h)
 obtain⟨res,dD⟩:∃o,Tk.text k (s.data.toList.drop k)=o:=⟨_,rfl⟩;rw[dD]
 have hR:res=if Lib.index ((s.data.toList.drop k).take n) [93,93,62]<0 then some ⟨2,[],[],false,(s.data.toList.drop k).take n,k,k+n⟩ else none:=by
  rw[←dD];unfold Tk.text;dsimp only;rw[hn]
 obtain⟨cb,yj⟩:∃b,decide (0≤Lib.index ((s.data.toList.drop k).take n) [93,93,62])=b:=⟨_,rfl⟩;rw[yj] at HC
 have TX:res=if cb=true then none else some ⟨2,[],[],false,(s.data.toList.drop k).take n,k,k+n⟩:=by
  rw[hR,←yj]
  by_cases h:Lib.index ((s.data.toList.drop k).take n) [93,93,62]<0
  ·rw[if_pos h,if_neg (by simp;omega)]
  rw[if_neg h,if_pos (by simp;omega)]
 have HR:=ap TX;have HN:=ap (show k+n≤s.size by omega);have xx:=ap (show 0<n from Mn (by omega));clear dD hR TX yj hn iy Mn hz tD;have aow:k≤s.size:=by omega
 clear ha
 go_enter Tryz.func111,Tryz.ntmps111
 go_wp2;have S1:=ap (Sc.far kX.o hne (i:=0) (.int .i8 2));have T1:=ap (Tb.V7 ee.o 2);have B1:=ap ((aY.refl X T w).setCell (p:=⟨T,0,none⟩) (.inr (.inl rfl)) (.int .i8 2));clear f0 c0;refine wp_region_held_drew (S:=fun W=>Sc W X s k∧aY X T w W∧Tb W T 2 ⟨#[]⟩ (.slice none 0 0) false ⟨#[]⟩ k 0) (by kernel_rfl) ?_ (fun hHeld=>?_)
 ·(try dsimp only)
  first|exact⟨ae.drew S1.o,aY.drew B1.o,ae.drew T1.o⟩|exact⟨ae.go hHeld.1 hb,aY.go hHeld.2.1 hb,ae.go hHeld.2.2 hb⟩|exact hHeld
 change wpAnyH _ _ _ _ _ 11 #[false,false,false,false,false,false,false,false,false,false,false] _ _;iterate 9 (refine aJ (v:=?_) rfl rfl hHeld ?_ ?_;rotate_left;(· (intro w hSw;(try dsimp only at hSw);have q0:=Sc.c0 hSw.1;have q1:=Sc.c1 hSw.1;go_simp;try with_reducible rfl));(try simp only[nx,List.set]))
 refine fU (i:=9) rfl (by kernel_rfl) (by kernel_rfl) (fun K hK=>?_);go_simp
 go_at_call 54
 refine (HP.o _).mono ?_;rintro e w' ⟨rfl,rfl⟩;(try dsimp only);refine hK.out _ _ ?_ (fun aL=>?_)
 ·(try dsimp only)
  first|exact⟨ae.drew S1.o,aY.drew B1.o,ae.drew T1.o⟩|exact⟨ae.go hHeld.1 hb,aY.go hHeld.2.1 hb,ae.go hHeld.2.2 hb⟩|exact hHeld
 clear hK K hHeld;have hHeld:=aL;clear aL;(try simp only[Act.put,List.setIfInBounds_toArray,List.set_cons_zero,List.set_cons_succ]);(refine aJ (v:=?_) rfl rfl hHeld ?_ ?_;rotate_left;(· (intro w hSw;(try dsimp only at hSw);go_simp;try with_reducible rfl));(try simp only[nx,List.set]));refine wpAnyH_done (by kernel_rfl) ?_ _;have S2:=ap hHeld.1;have B2:=ap hHeld.2.1;have T2:=ap hHeld.2.2;clear hHeld HP S1 B1 T1 kX ee;generalize (w.setCell ⟨T,0,none⟩ (.int .i8 2)).drew=W2 at *
 have hw0:IntKind.i64.wrap ((k:Int)+n)=(k:Int)+n:=IntWalk.i64_in _ (by have:=HN.o;omega);have h4:(0:Int)≤(k:Int)+n∧(k:Int)+n≤(s.size:Int):=by have:=HN.o;omega
 have h5:(k:Int)≤(k:Int)+n:=by omega
 have h6:((k:Int)+n).toNat=k+n:=by omega
 by_cases hz:z<0
 ·rw[if_pos hz] at oQ;have jN:IntKind.i64.wrap ((s.size:Int)-k)=(n:Int):=by rw[show (s.size:Int)-k=n by omega];exact IntWalk.i64_in _ (by omega)
  have hnk:s.size-k=n:=by omega
  have hw2:IntKind.i64.wrap ((s.size-k:Nat):Int)=(n:Int):=by rw[show s.size-k=n by omega];exact IntWalk.i64_in _ (by omega)
  clear oQ;go_wp2;refine wp_region_held_drew (S:=fun W=>Sc W X s k∧aY X T w W∧Tb W T 2 ⟨#[]⟩ (.slice none 0 0) false ⟨#[]⟩ k 0) (by kernel_rfl) ?_ (fun hHeld=>?_)
  ·(try dsimp only)
   first|exact⟨ae.drew S2.o,aY.drew B2.o,ae.drew T2.o⟩|exact⟨ae.go hHeld.1 hb,aY.go hHeld.2.1 hb,ae.go hHeld.2.2 hb⟩|exact hHeld
  change wpAnyH _ _ _ _ _ 11 #[false,false,false,false,false,false,false,false,false,false,false] _ _;iterate 11 (refine aJ (v:=?_) rfl rfl hHeld ?_ ?_;rotate_left;(· (intro w hSw;(try dsimp only at hSw);have q0:=Sc.c0 hSw.1;have q1:=Sc.c1 hSw.1;go_simp;try with_reducible rfl));(try simp only[nx,List.set]))
  refine wpAnyH_done (by kernel_rfl) ?_ _;have S3:=ap hHeld.1;have B3:=ap hHeld.2.1;have T3:=ap hHeld.2.2;clear hHeld S2 B2 T2 hz;generalize W2.drew=W3 at *
  go_wp2;refine wp_region_held_drew (S:=fun W=>Sc W X s k∧aY X T w W∧∃tx,Tb W T 2 ⟨#[]⟩ (.slice none 0 0) false tx k 0) (by kernel_rfl) ?_ (fun hHeld=>?_)
  ·(try dsimp only)
   first|exact⟨ae.drew S3.o,aY.drew B3.o,⟨_,ae.drew T3.o⟩⟩|exact⟨ae.go hHeld.1 hb,aY.go hHeld.2.1 hb,ae.go hHeld.2.2 hb⟩|exact hHeld
  change wpAnyH _ _ _ _ _ 19 #[false,false,false,false,false,false,false,false,false,false,false,false,false,false,false,false,false,false,false] _ _;iterate 18 (refine aJ (v:=?_) rfl rfl hHeld ?_ ?_;rotate_left;(· (intro w hSw;(try dsimp only at hSw);have q0:=Sc.c0 hSw.1;have q1:=Sc.c1 hSw.1;go_simp;try with_reducible rfl));(try simp only[nx,List.set]))
  obtain⟨tx,rz⟩:=hHeld.2.2;have f4:=Tb.f rz 4;have c4:=Tb.c4 rz;have S6:=ap (Sc.far (i:=4) hHeld.1 hne (.string (s.extract k (k+n))));have B6:=ap (hHeld.2.1.setCell (p:=⟨T,4,none⟩) (.inr (.inl rfl)) (.string (s.extract k (k+n))));have T6:=ap (Tb.YM rz (s.extract k (k+n)));clear rz;refine fU (i:=18) rfl (by kernel_rfl) (by kernel_rfl) (fun K hK=>?_);go_simp;(try dsimp only);refine hK.out _ _ ?_ (fun aL=>?_)
  ·exact⟨S6.o,B6.o,_,T6.o⟩
  clear f4 c4;clear hK K hHeld;have hHeld:=aL;clear aL;(try simp only[Act.put,List.setIfInBounds_toArray,List.set_cons_zero,List.set_cons_succ]);refine wpAnyH_done (by kernel_rfl) ?_ _;clear hHeld S3 B3 T3;obtain⟨W6,oH⟩:∃W6,(W3.setCell ⟨T,4,none⟩ (.string (s.extract k (k+n)))).drew=W6:=⟨_,rfl⟩;rw[oH];replace S6:=ap (show Sc W6 X s k by rw[←oH];exact S6.o);replace B6:=ap (show aY X T w W6 by rw[←oH];exact B6.o);replace T6:=ap (show Tb W6 T 2 ⟨#[]⟩ (.slice none 0 0) false (s.extract k (k+n)) k 0 by rw[←oH];exact T6.o);clear oH;have q1:=Sc.c1 S6.o;have f1:=Sc.f1 S6.o;have c4:=Tb.c4 T6.o
  go_wp2_with fail
  have S7:=ap (Sc.move S6.o (k+n));have B7:=ap (B6.o.setCell (p:=⟨X,1,none⟩) (.inl rfl) (.int .i64 ((k+n:Nat):Int)));have T7:=ap (Tb.far (i:=1) T6.o (Ne.symm hne) (.int .i64 ((k+n:Nat):Int)));clear q1 f1 c4;refine (HC.o _ (HG.o.JZ B7.o eY nw)).mono ?_;rintro e w8 ⟨rfl,rfl⟩
  cases cb with
  | true=>
   go_wp2;go_ret;exact eW.no (HR.o.trans (by simp)) B7.o rfl HN.o S7.o ⟨_,_,_,_,_,_,_,T7.o⟩
  | false=>
   go_wp2;go_ret;refine eW.yes (t:=⟨2,[],[],false,(s.data.toList.drop k).take n,k,k+n⟩) (HR.o.trans (by simp)) B7.o rfl HN.o (by have:=xx.o;dsimp only;omega) S7.o ⟨none,0,?_,World.ownsRow_nil _ _ _ _⟩;have h:=T7.o;rw[HX.o] at h;exact h
 rw[if_neg hz] at oQ;obtain rfl:z=(n:Int):=by omega
 have Cg:¬((n:Int)<0):=by omega
 clear hz oQ;go_wp2;refine wp_region_held_drew (S:=fun W=>Sc W X s k∧aY X T w W∧∃tx,Tb W T 2 ⟨#[]⟩ (.slice none 0 0) false tx k 0) (by kernel_rfl) ?_ (fun hHeld=>?_)
 ·(try dsimp only)
  first|exact⟨ae.drew S2.o,aY.drew B2.o,⟨_,ae.drew T2.o⟩⟩|exact⟨ae.go hHeld.1 hb,aY.go hHeld.2.1 hb,ae.go hHeld.2.2 hb⟩|exact hHeld
 change wpAnyH _ _ _ _ _ 19 #[false,false,false,false,false,false,false,false,false,false,false,false,false,false,false,false,false,false,false] _ _;iterate 18 (refine aJ (v:=?_) rfl rfl hHeld ?_ ?_;rotate_left;(· (intro w hSw;(try dsimp only at hSw);have q0:=Sc.c0 hSw.1;have q1:=Sc.c1 hSw.1;go_simp;try with_reducible rfl));(try simp only[nx,List.set]))
 obtain⟨tx,rz⟩:=hHeld.2.2;have f4:=Tb.f rz 4;have c4:=Tb.c4 rz;have S6:=ap (Sc.far (i:=4) hHeld.1 hne (.string (s.extract k (k+n))));have B6:=ap (hHeld.2.1.setCell (p:=⟨T,4,none⟩) (.inr (.inl rfl)) (.string (s.extract k (k+n))));have T6:=ap (Tb.YM rz (s.extract k (k+n)));clear rz;refine fU (i:=18) rfl (by kernel_rfl) (by kernel_rfl) (fun K hK=>?_);go_simp;(try dsimp only);refine hK.out _ _ ?_ (fun aL=>?_)
 ·exact⟨S6.o,B6.o,_,T6.o⟩
 clear f4 c4;clear hK K hHeld;have hHeld:=aL;clear aL;(try simp only[Act.put,List.setIfInBounds_toArray,List.set_cons_zero,List.set_cons_succ]);refine wpAnyH_done (by kernel_rfl) ?_ _;clear hHeld S2 B2 T2;obtain⟨W6,oH⟩:∃W6,(W2.setCell ⟨T,4,none⟩ (.string (s.extract k (k+n)))).drew=W6:=⟨_,rfl⟩;rw[oH];replace S6:=ap (show Sc W6 X s k by rw[←oH];exact S6.o);replace B6:=ap (show aY X T w W6 by rw[←oH];exact B6.o);replace T6:=ap (show Tb W6 T 2 ⟨#[]⟩ (.slice none 0 0) false (s.extract k (k+n)) k 0 by rw[←oH];exact T6.o);clear oH;have q1:=Sc.c1 S6.o;have f1:=Sc.f1 S6.o;have c4:=Tb.c4 T6.o
 go_wp2_with fail
 have S7:=ap (Sc.move S6.o (k+n));have B7:=ap (B6.o.setCell (p:=⟨X,1,none⟩) (.inl rfl) (.int .i64 ((k+n:Nat):Int)));have T7:=ap (Tb.far (i:=1) T6.o (Ne.symm hne) (.int .i64 ((k+n:Nat):Int)));clear q1 f1 c4;refine (HC.o _ (HG.o.JZ B7.o eY nw)).mono ?_;rintro e w8 ⟨rfl,rfl⟩
 cases cb with
 | true=>
  go_wp2;go_ret;exact eW.no (HR.o.trans (by simp)) B7.o rfl HN.o S7.o ⟨_,_,_,_,_,_,_,T7.o⟩
 | false=>
  go_wp2;go_ret;refine eW.yes (t:=⟨2,[],[],false,(s.data.toList.drop k).take n,k,k+n⟩) (HR.o.trans (by simp)) B7.o rfl HN.o (by have:=xx.o;dsimp only;omega) S7.o ⟨none,0,?_,World.ownsRow_nil _ _ _ _⟩;have h:=T7.o;rw[HX.o] at h;exact h
end
section
open Go.RowKit Tk

section
variable {P:Program} {ops:Array Oper} {o:Oper} {a:Act} {K:Act→World→Prop} {Q:Exit→Act→World→Prop} {E:Prop}
theorem GU(W:World)(hgd:o.guard=none)(s x:Operand)(t:TypeId)(ho:o.op=.call { callee:=.builtin .append,args:=#[s,x],argTypes:=#[t,t] })
  (base:Nat) (e:TypeId) (z:Value) (size bytes:Nat) (ht:P.underlying t=some (.slice e)) (eL:(P.info? e).map (fun i=>(i.zero,i.size,i.bytes))=some (some z,size,bytes))
  (hzs:z.cells.size=size) (hsz:0<size) (v:Value) (n:Nat) (xs:List Value) (hs:a.eval s=v) (hown:W.ownsRow base e size v n xs)
  (cs:List Value) (hcs:cs.length=size) (h1:∀u∈cs,u.oneCell'=true) (H:Nat) (hH:ae W H e cs.toArray) (hx:a.eval x=.slice (some ⟨H,0,none⟩) 1 1)
  (h63:n+1≤maxLen) (hbytes:(n+1)*bytes≤140737488355328) (hbase:base≤W.heap.size)
  (h:∀g cap w',w'.ownsRow base e size (.slice (some ⟨g,0,none⟩) (n+1) cap) (n+1) (xs++cs)→W.grownBy w' v.ownBlock→g<w'.heap.size→
   K (a.put o.dst (.slice (some ⟨g,0,none⟩) (n+1) cap)) w') :
  if Region.wanted o (yielded ops a.tmps)=true then Oper.wp P o a W K Q else E:=by
 obtain⟨i,hi,hz,hsize,hby⟩:=info_parts eL;refine step_append_lies _ hgd s x t ho base e i z size bytes ht hi hz hsize hby hzs hsz v n xs hs hown ⟨H,0,none⟩ 1 1 cs hx (by omega) ?_ h1 (by omega) h63 hbytes hbase _ rfl ?_
 ·intro j u hu;exact World.news_of_block hH j u (by simpa using hu)
 intro g cap w' hown' hgrow _ hlt;exact h g cap w' hown' hgrow hlt
theorem su{rest:List Oper}{Q:Exit→Act→World→Prop}(W:World)(hgd:o.guard=none)(s x:Operand)(t:TypeId)(ho:o.op=.call { callee:=.builtin .append,args:=#[s,x],argTypes:=#[t,t] })
  (base:Nat) (e:TypeId) (z:Value) (size bytes:Nat) (ht:P.underlying t=some (.slice e)) (eL:(P.info? e).map (fun i=>(i.zero,i.size,i.bytes))=some (some z,size,bytes))
  (hzs:z.cells.size=size) (hsz:0<size) (v:Value) (n:Nat) (xs:List Value) (hs:a.eval s=v) (hown:W.ownsRow base e size v n xs)
  (cs:List Value) (hcs:cs.length=size) (h1:∀u∈cs,u.oneCell'=true) (H:Nat) (hH:ae W H e cs.toArray) (hx:a.eval x=.slice (some ⟨H,0,none⟩) 1 1)
  (h63:n+1≤maxLen) (hbytes:(n+1)*bytes≤140737488355328) (hbase:base≤W.heap.size)
  (h:∀g cap w',w'.ownsRow base e size (.slice (some ⟨g,0,none⟩) (n+1) cap) (n+1) (xs++cs)→W.grownBy w' v.ownBlock→g<w'.heap.size→
   wpList P ops Q rest (a.put o.dst (.slice (some ⟨g,0,none⟩) (n+1) cap)) w') :
  wpList P ops Q (o :: rest) a W:=by
 obtain⟨i,hi,hz,hsize,hby⟩:=info_parts eL;refine wpList_append_lies W hgd s x t ho base e i z size bytes ht hi hz hsize hby hzs hsz v n xs hs hown ⟨H,0,none⟩ 1 1 cs hx (by omega) ?_ h1 (by omega) h63 hbytes hbase _ rfl ?_
 ·intro j u hu;exact World.news_of_block hH j u (by simpa using hu)
 intro g cap w' hown' hgrow _ hlt;exact h g cap w' hown' hgrow hlt
end

theorem ach(l:List At)(a:At):kg (l++[a])=kg l++[.string (aa a.name),.string (aa a.value),.int .i64 (a.at_:Int)]:=by simp[kg]
theorem acb(a:At):∀u∈([.string (aa a.name),.string (aa a.value),.int .i64 (a.at_:Int)]:List Value),u.oneCell'=true:=by
 intro u hu;simp only[List.mem_cons,List.not_mem_nil,or_false] at hu
 rcases hu with rfl|rfl|rfl<;>rfl
theorem agM:(Tryz.prog.info? 183).map (fun i=>(i.zero,i.size,i.bytes))=some (some (.agg #[.string ⟨#[]⟩,.string ⟨#[]⟩,.int .i64 0]),3,40):=by kernel_rfl

structure ig(w W:World)(base X T:Nat)(s:ByteArray)(k k':Nat)(nm:ByteArray)(L:List At)(A:Option Addr)(c:Nat):Prop where
 sc:Sc W X s k'
 tb:Tb W T 0 nm (.slice A L.length c) false ⟨#[]⟩ k 0
 own:W.ownsRow base 183 3 (.slice A L.length c) L.length (kg L)
 but:aY X T w W
section
variable {w W W':World} {base X T:Nat} {s:ByteArray} {k k' j:Nat} {nm:ByteArray} {L:List At} {A:Option Addr} {c:Nat}
theorem ig.go(h:ig w W base X T s k k' nm L A c)(hne:X≠T)(hb:ai X W W')(hs:Sc W' X s j):ig w W' base X T s k j nm L A c :=
 ⟨hs,h.tb.AE hb (Ne.symm hne),h.own.kept (row:=some X) ⟨hb.os,hb.tape,hb.output,hb.size,fun i hi hn=>hb.block i hi (fun e=>hn (by rw[e]))⟩ (.inr (bR h.own h.sc (by decide))),h.but.one hb⟩
theorem ig.alloc(h:ig w W base X T s k k' nm L A c)(o:Obj):ig w (W.alloc o) base X T s k k' nm L A c :=
 ⟨ae.alloc h.sc o,ae.alloc h.tb o,h.own.alloc o,h.but.alloc o⟩
theorem ig.far(h:ig w W base X T s k k' nm L A c){p:Addr}(hp:w.heap.size≤p.block)(hX:X≠p.block)(hT:T≠p.block)(hA:(Value.slice A L.length c).ownBlock≠some p.block)(u:Value):ig w (W.setCell p u) base X T s k k' nm L A c :=
 ⟨ae.far h.sc hX u,ae.far h.tb hT u,ownsRow_setCell_other h.own hA u,h.but.setCell (.inr (.inr hp)) u⟩
theorem ig.some_(h:ig w W base X T s k k' nm L A c):JP W T:=⟨_,_,_,_,_,_,_,h.tb⟩
theorem ig.Ki(h:ig w W base X T s k k' nm L A c)(hne:X≠T):Sc (W.setCell ⟨T,3,none⟩ (.bool true)) X s k'∧Tb (W.setCell ⟨T,3,none⟩ (.bool true)) T 0 nm (.slice A L.length c) true ⟨#[]⟩ k 0∧
  (W.setCell ⟨T,3,none⟩ (.bool true)).ownsRow base 183 3 (.slice A L.length c) L.length (kg L)∧aY X T w (W.setCell ⟨T,3,none⟩ (.bool true)) :=
 ⟨Sc.far h.sc hne _,Tb.Ki h.tb true,ownsRow_setCell_other h.own (a:=⟨T,3,none⟩) (bR h.own h.tb (by decide)) _,h.but.setCell (.inr (.inl rfl)) _⟩
end
theorem aco{f off:Nat}{l:L}(h:([47,62]:L).isPrefixOf (l.drop (aS l))=true):attrs (f+1) off l=some ([],true,off+aS l+2):=by
 unfold attrs;rw[if_pos h]
theorem acn{f off:Nat}{l:L}(h:([47,62]:L).isPrefixOf (l.drop (aS l))=false)(h2:([62]:L).isPrefixOf (l.drop (aS l))=true):attrs (f+1) off l=some ([],false,off+aS l+1):=by
 unfold attrs;rw[if_neg (by rw[h];simp),if_pos h2]
theorem acq{f off:Nat}{l:L}(h:([47,62]:L).isPrefixOf (l.drop (aS l))=false)(h2:([62]:L).isPrefixOf (l.drop (aS l))=false)(h3:aS l=0):attrs (f+1) off l=none:=by
 unfold attrs;rw[if_neg (by rw[h];simp),if_neg (by rw[h2];simp),if_pos h3]
theorem acp{f off:Nat}{l:L}(h:([47,62]:L).isPrefixOf (l.drop (aS l))=false)(h2:([62]:L).isPrefixOf (l.drop (aS l))=false)(h3:aS l≠0) :
  attrs (f+1) off l=if take (l.drop (aS l))=0 then none else (eqv ((l.drop (aS l)).drop (take (l.drop (aS l))))).bind fun x=>if (60:UInt8)∈x.1 then none
    else (attrs f (off+aS l+take (l.drop (aS l))+x.2) ((l.drop (aS l)).drop (take (l.drop (aS l))+x.2))).map fun y=>(⟨(l.drop (aS l)).take (take (l.drop (aS l))),x.1,off+aS l⟩ :: y.1,y.2):=by
 rw[attrs,if_neg (by rw[h];simp),if_neg (by rw[h2];simp),if_neg h3]
theorem ahx(v:L):(0≤Lib.indexByte v 60)↔(60:UInt8)∈v:=by
 induction v with
 | nil=>simp[Lib.indexByte]
 | cons b l ih=>
  unfold Lib.indexByte
  by_cases hb:b=60
  ·subst hb;simp
  rw[if_neg (by simpa using hb)];have h1:=Lib.indexByte_ge l 60;have:(60:UInt8)∈b :: l↔(60:UInt8)∈l:=by simp[Ne.symm hb]
  rw[this,←ih];(try dsimp only);split
  ·rename_i h2
   have:Lib.indexByte l 60 = -1:=by simpa using h2
   omega
  rename_i h2
  have:Lib.indexByte l 60≠-1:=by simpa using h2
  omega
def glue(L:List At)(o:Option (List At×Bool×Nat)):Option (List At×Bool×Nat):=o.map fun y=>(L++y.1,y.2)
theorem Tw(L:List At)(b:Bool)(e:Nat):glue L (some ([],b,e))=some (L,b,e):=by simp[glue]
theorem aeJ(L:List At)(a:At)(o:Option (List At×Bool×Nat)):glue L (o.map fun y=>(a :: y.1,y.2))=glue (L++[a]) o:=by
 cases o<;>simp[glue]
theorem anO{P:Program}{a:Act}{w:World}{Q:Exit→Act→World→Prop}{c rest:Code}(l:Nat)(J:Act→World→Prop)(μ:Act→World→Nat)(hf:findLabel c l=some (.seq .skip rest))
  (first:(∀a w,J a w→rest.wp P (Exit.jump l J Q) a w)→c.wp P (Exit.jump l J Q) a w)
  (pass:∀a w,J a w→rest.wp P (Exit.jump l (fun a' w'=>J a' w'∧μ a' w'<μ a w) Q) a w):(Code.scope c).wp P Q a w :=
 wp_scope_jumps l J μ hf (first fun a w h=>Code.wp_mono (fun e a' w' q=>by cases e<;>first|exact⟨q.1,q.2.1⟩|exact q) (pass a w h)) fun a w h=>wp_seq (wp_skip (pass a w h))
theorem agV{l:Nat}{J:Act→World→Prop}{Q:Exit→Act→World→Prop}{a:Act}{w:World}(h:J a w):Exit.jump l J Q (.goto l) a w:=⟨rfl,h⟩
theorem aY.grown{X T:Nat}{w w1 w':World}(h:aY X T w w1){row:Option Nat}(hg:w1.grownBy w' row)(hr:∀k,row=some k→w.heap.size≤k):aY X T w w' :=
 ⟨hg.os.trans h.os,hg.tape.trans h.tape,hg.output.trans h.output,Nat.le_trans h.size hg.size,fun k hk h1 h2=>(hg.block k (Nat.lt_of_lt_of_le hk h.size) (fun e=>by have:=hr k e.symm;omega)).trans (h.block k hk h1 h2)⟩
theorem ig.app{w W w8:World}{base X T:Nat}{s:ByteArray}{k k' gg cap:Nat}{nm:ByteArray}{L:List At}{A:Option Addr}{c:Nat}{o:Obj}(a:At)(h:ig w W base X T s k k' nm L A c)(hb:base=w.heap.size)(hne:X≠T)
  (hg:(W.alloc o).drew.grownBy w8 (Value.slice A L.length c).ownBlock)
  (hown:w8.ownsRow base 183 3 (.slice (some ⟨gg,0,none⟩) (L.length+1) cap) (L.length+1) (kg L++[.string (aa a.name),.string (aa a.value),.int .i64 (a.at_:Int)])) :
  ig w (w8.setCell ⟨T,2,none⟩ (.slice (some ⟨gg,0,none⟩) (L.length+1) cap)) base X T s k k' nm (L++[a]) (some ⟨gg,0,none⟩) cap:=by
 have hX:Sc w8 X s k':=ae.grown (ae.drew (ae.alloc h.sc o)) hg (bR h.own h.sc (by decide)).symm;have hT:Tb w8 T 0 nm (.slice A L.length c) false ⟨#[]⟩ k 0:=ae.grown (ae.drew (ae.alloc h.tb o)) hg (bR h.own h.tb (by decide)).symm;have hl:(L++[a]).length=L.length+1:=by simp
 refine⟨Sc.far hX hne _,?_,?_,?_⟩
 ·rw[hl];exact Tb.ab5 hT _
 ·rw[hl,ach];exact ownsRow_setCell_other hown (a:=⟨T,2,none⟩) (bR hown hT (by decide)) _
 refine (aY.grown ((h.but.alloc o).drew) hg fun i hi=>?_).setCell (.inr (.inl rfl)) _;have:=(aD h.own i hi).1;omega
def xK(w:World)(X:Nat):Nat:=match w.cell? ⟨X,1,none⟩ with
 | some (.int _ k)=>k.toNat
 | _=>0
theorem Sc.xK{w:World}{X:Nat}{s:ByteArray}{k:Nat}(h:Sc w X s k):xK w X=k:=by
 unfold Go.Proofs.YtpdkeckeekchlaaGreatDoor.xK;rw[Sc.c1 h];rfl
end
end Go.Proofs.YtpdkeckeekchlaaGreatDoor
