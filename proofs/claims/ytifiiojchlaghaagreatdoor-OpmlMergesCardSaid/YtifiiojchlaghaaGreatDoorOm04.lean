/- The program's 'Loose' and 'Valid'. And more. -/
import Derived.Test.YtifiiojchlaghaaGreatDoorOm02
import Derived.Test.YtifiiojchlaghaaGreatDoorOm03
set_option linter.unusedSimpArgs false
set_option maxRecDepth 100000
set_option maxHeartbeats 8000000
set_option linter.unusedVariables false
namespace Go.Proofs.YtifiiojchlaghaaGreatDoor
section
open Go.RowKit Go.Shelf

attribute [local go_sem] Oper.semAt_some

theorem vS:(Tryz.prog.info? 5).map (fun i=>(i.zero,i.size,i.bytes))=some (some (.int .u8 0),1,1):=by kernel_rfl

def eI(l:List Pc):List (Nat×Int):=l.map (·.1)
theorem Fm(l:List Pc)(x:Pc):eI (l++[x])=eI l++[x.1]:=by simp[eI]
theorem agO(l:List Pc):(eI l).length=l.length:=by simp[eI]
theorem UI(l:List (Nat×Int))(x:Nat×Int):Utf.mended (l++[x])=Utf.mended l++(if x.2<0 then [0xEF,0xBF,0xBD] else (Utf.put x.2).map bv):=by
 unfold Utf.mended;rw[List.flatMap_append,List.flatMap_cons,List.flatMap_nil,List.append_nil];rfl
theorem afz(l:List (Nat×Int)):(Utf.mended l).length≤4*l.length:=by
 induction l with
 | nil=>simp[Utf.mended]
 | cons x l ih=>
  have h:=yt x.2;unfold Utf.mended at ih ⊢;rw[List.flatMap_cons,List.length_append,List.length_cons]
  split<;>simp only[List.length_map,List.length_cons,List.length_nil]<;>omega

def Ij(w:World)(pre:List Pc)(W:World):Prop :=
 (∃v n,Boxed W w.heap.size 37 v∧W.ownsRow w.heap.size 5 1 v n (cA (Utf.mended (eI pre))))∧Boxed W (w.heap.size+1) 3 (.int .i64 (Utf.dK (eI pre)))∧(∃u,Boxed W (w.heap.size+1+1) 9 u)∧Below w.heap.size w W

theorem ZH(w:World):OwnFrom (w.heap.size+3) (Ij w):=by
 rintro s X Y row ⟨⟨v,n,hv,hr⟩,h2,⟨u,hu⟩,h3⟩ hg aj
 have hne:∀{B:Nat} {t:TypeId} {u:Value},Boxed X B t u→some B≠row:=fun h e=>by
  obtain⟨_,o,ho,hc⟩:=aj _ e.symm;rw[show X.heap[_]?=_ from h] at ho;cases ho;cases hc
 refine⟨⟨v,n,hv.kept hg (hne hv),hr.kept hg ?_⟩,h2.kept hg (hne h2),⟨u,hu.kept hg (hne hu)⟩,h3.grown hg h3.size (fun k e=>by have:=(aj k e).1;omega)⟩
 rcases hr.2 with ⟨rfl,_⟩|⟨g,cap,cur,rfl,_,aR,_⟩
 ·exact .inl rfl
 refine .inr fun e'=>?_;obtain⟨_,o,ho,hc⟩:=aj g (by simpa[Value.ownBlock] using e'.symm);rw[aR] at ho;cases ho;cases hc

theorem cR{W w1:World}(h:Below W.heap.size W w1)(row:Option Nat):W.grownBy w1 row:=⟨h.os,h.tape,h.output,h.size,fun k hk _=>h.block k hk⟩
theorem mH{W w1:World}(h:Below W.heap.size W w1):KeepsOthers W w1:=⟨h.size,fun k o hk _=>(h.block k (Array.getElem?_eq_some_iff.1 hk).1).trans hk⟩

theorem LA{w W W2 w1:World}{pre pre':List Pc}{v v':Value}{n n':Nat}{m:List UInt8}{f1:Int}(hB:Below w.heap.size w W)(h3:w.heap.size+3≤W.heap.size)
  (vD:KeepsOthers W W2) (rq:fo (w.heap.size+1+1) W W2) (dL:Below w.heap.size w W2) (hcell:∃u,Boxed W2 (w.heap.size+1+1) 9 u)
  (hv:Boxed W2 w.heap.size 37 v) (hf:Boxed W2 (w.heap.size+1) 3 (.int .i64 f1)) (aj:W2.ownsRow w.heap.size 5 1 v n (cA (Utf.mended (eI pre))))
  (hown:w1.ownsRow w.heap.size 5 1 v' n' (cA (Utf.mended (eI pre)++m))) (hgrow:W2.grownBy w1 v.ownBlock)
  (hm:Utf.mended (eI pre')=Utf.mended (eI pre)++m) (ni:Utf.dK (eI pre')=f1) :
  Boxed w1 w.heap.size 37 v∧KeepsOthers W (w1.setCell ⟨w.heap.size,0,none⟩ v')∧fo (w.heap.size+1+1) W (w1.setCell ⟨w.heap.size,0,none⟩ v')∧Ij w pre' (w1.setCell ⟨w.heap.size,0,none⟩ v'):=by
 have bh:Boxed w1 w.heap.size 37 v:=hv.kept hgrow (hv.not_row (by decide) aj);have adk:Boxed w1 (w.heap.size+1) 3 (.int .i64 f1):=hf.kept hgrow (hf.not_row (by decide) aj);obtain⟨u,hu⟩:=hcell;have dT:w1.heap[w.heap.size+1+1]?=W2.heap[w.heap.size+1+1]?:=hgrow.block _ hu.lt (hu.not_row (by decide) aj);have hsz:w.heap.size≤W2.heap.size:=dL.size;refine⟨bh,?_,?_,⟨v',n',bh.set v',?_⟩,?_,⟨u,?_⟩,?_⟩
 ·refine (vD.trans (KeepsOthers.of_grownBy hgrow fun j o ej hj=>?_)).trans (KeepsOthers.setCell _ _ _);obtain⟨_,cs,fr,h⟩:=aI aj j ej;rw[h] at hj;cases hj;rfl
 ·refine rq.trans ?_;exact (Below.heap_setCell _ _ _ _ (by simp;omega)).trans dT
 ·rw[hm];exact hown.kept (grownBy_setCell' w1 _ v') (.inr (bh.not_row (by decide) hown).symm)
 ·rw[ni];exact adk.kept (grownBy_setCell' w1 _ v') (by simp)
 ·exact (Below.heap_setCell _ _ _ _ (by simp;omega)).trans (dT.trans hu)
 refine (dL.grown hgrow hsz fun j ej=>(aI aj j ej).1).setCell (p:=⟨w.heap.size,0,none⟩) (Nat.le_refl _) v'

theorem afm(b:ByteArray)(w:World)(hs:b.size≤1000000000) :
  Calls Tryz.prog 75 #[.string b] w fun e w'=>(∃t:ByteArray,e=.returned (.tuple #[.string t,.int .i64 (Utf.dK (Utf.pieces b.data.toList))])∧gC t (Utf.mended (Utf.pieces b.data.toList)))∧Below w.heap.size w w':=by
 refine (callsIn_wide (n:=5)).1 ?_;refine callsIn_of_wp_marks Tryz.func75 rfl trivial ?_ rfl;simp only[Tryz.ntmps75,List.size_toArray,List.length_cons,List.length_nil,Nat.reduceAdd,Nat.reduceSub,Array.replicate_succ,Array.replicate_zero,List.push_toArray,List.append_toArray,List.nil_append,List.cons_append]
 gi_wp2_with (refine⟨trivial,?_⟩;gi_at_call 108;refine (callsIn_wide.2 (VB _ _)).mono ?_;rintro e w' ⟨rfl,rfl⟩)
 have b0:=Boxed.new w 37 (.slice none 0 0);have b1:=Boxed.new (w.alloc (.cells #[.slice none 0 0] 37)) 3 (.int .i64 (-1));rw[World.size_alloc] at b1;have b2:=Boxed.new ((w.alloc (.cells #[.slice none 0 0] 37)).alloc (.cells #[.int .i64 (-1)] 3)) 9 (.string b);rw[World.size_alloc,World.size_alloc] at b2
 have qT:Below w.heap.size w (((w.alloc (.cells #[.slice none 0 0] 37)).alloc (.cells #[.int .i64 (-1)] 3)).alloc (.cells #[.string b] 9)) :=
  (((Below.refl _ w).alloc (Nat.le_refl _) _).alloc (by simp) _).alloc (by simp;omega) _
 refine wpIn_rangeFunc_ownG rfl (by omega) (gf:=145) (lb:=#[.pointer (some ⟨w.heap.size+1+1,0,none⟩)]) rfl trivial (enters_of Tryz.func145 (by kernel_rfl) rfl)
  (VE (5-1) (by omega) (w.heap.size+1+1) b hs _ (by simp) b2.cell) fo.trans (BS (by simp)) (Below.refl _ _) (fun _=>rfl)
  (Ij w) (fun _ _ _=>False) (by simpa using ZH w) (fun _ _ _ _ _ hs _ _=>hs)
  ⟨⟨_,0,(b0.alloc _).alloc _,World.ownsRow_nil _ _ _ _⟩,b1.alloc _,⟨_,b2⟩,qT⟩
  (fun x=>{ tmps:=#[.string b,undef,.string ⟨#[]⟩,.int .i64 0,.pointer (some ⟨w.heap.size,0,none⟩),.pointer (some ⟨w.heap.size+1,0,none⟩),.int .i64 (x.1.1:Int),.int .i64 x.1.2,undef,undef,.string b,
   .func (.func 145) #[] #[.pointer (some ⟨w.heap.size+1+1,0,none⟩)],.int .i64 (x.1.1:Int),.int .i64 x.1.2,undef,undef,undef,undef,undef,undef,undef,undef,undef,undef,undef,undef,undef,undef,undef,undef],defers:=[] }) ?assign ?body ?done ?stop
 case assign=>
  intro l x W K hK;gi_wp2;exact hK
 case body=>
  rintro l pre ⟨⟨at_,r⟩,hx⟩ W ⟨⟨v,n,hv,aj⟩,hf,hu,hB⟩ hlen;obtain⟨A,c,rfl⟩:=rN aj;dsimp only at hx ⊢
  have hn:n≤4*pre.length:=by
   have h1:=aj.1;have h2:=afz (eI pre);rw[II] at h1;rw[agO] at h2;omega
  have hc:=hv.cell;have Au:=hf.cell;have hff:=hf.frozen;obtain⟨f0,Ay⟩:∃f0,Utf.dK (eI pre)=f0:=⟨_,rfl⟩;have tu:=Utf.acg (eI pre);rw[Ay] at hf Au tu;have OU:=hide Ay;clear Ay;have h3:w.heap.size+3≤W.heap.size:=by obtain⟨u,hu⟩:=hu;have:=hu.lt;omega
  by_cases hr:r<0
  ·have HP:=hide (fun W=>VL r W (show Utf.isScalar r=false by simp[Utf.isScalar];omega));have hm:Utf.mended (eI (pre++[⟨(at_,r),hx⟩]))=Utf.mended (eI pre)++[0xEF,0xBF,0xBD]:=by rw[Fm,UI,if_pos hr]
   have nj:Utf.dK (eI (pre++[⟨(at_,r),hx⟩]))=if f0<0 then (at_:Int) else f0:=by rw[Fm,Utf.Q0,OU.out,if_pos hr]
   have Hm:=hide hm;have l8:=hide nj;clear hm nj;generalize pre++[⟨(at_,r),hx⟩]=pre' at *
   by_cases eG:f0<0
   ·have vD:KeepsOthers W (W.setCell ⟨w.heap.size+1,0,none⟩ (.int .i64 (at_:Int))):=KeepsOthers.setCell _ _ _;have rq:fo (w.heap.size+1+1) W (W.setCell ⟨w.heap.size+1,0,none⟩ (.int .i64 (at_:Int))):=Below.heap_setCell _ _ _ _ (by simp);have dL:=hB.setCell (p:=⟨w.heap.size+1,0,none⟩) (by simp) (.int .i64 (at_:Int))
    have hcell:∃u,Boxed (W.setCell ⟨w.heap.size+1,0,none⟩ (.int .i64 (at_:Int))) (w.heap.size+1+1) 9 u:=by
     obtain⟨u,hu⟩:=hu;exact⟨u,hu.kept (grownBy_setCell' _ _ _) (by simp)⟩
    have c7:Boxed (W.setCell ⟨w.heap.size+1,0,none⟩ (.int .i64 (at_:Int))) w.heap.size 37 (.slice A n c):=hv.kept (grownBy_setCell' _ _ _) (by simp);have xE:=hf.set (.int .i64 (at_:Int));have lO:=aj.kept (grownBy_setCell' W (w.heap.size+1) (.int .i64 (at_:Int))) (.inr (hf.not_row (by decide) aj).symm);have G4:=hide (show Utf.dK (eI pre')=(at_:Int) by rw[l8.out,if_pos eG]);clear l8 hu
    gi_wp2_with (first
     | (refine⟨trivial,?_⟩;gi_at_call 93;refine (CallsIn.inRound l (callsIn_wide.2 (HP.out _))).mono ?_;rintro e w' ⟨rfl,rfl⟩)
     | (gi_at_builtin;go_must (refine Nc _ rfl (.tmp 24) (.tmp 25) 37 9 rfl w.heap.size 5 Tryz.underlying37 Tryz.underlying9 vS (.slice A n c) n (Utf.mended (eI pre)) rfl lO _ [0xEF,0xBF,0xBD] (show gC ⟨#[239,191,189]⟩ [0xEF,0xBF,0xBD] from rfl) rfl (by simp only[List.length_cons,List.length_nil];omega) dL.size ?_);intro A1 c1 w1 hown1 cW;obtain⟨bh,cC,hs1,zY⟩:=LA hB h3 vD rq dL hcell c7 xE lO hown1 cW Hm.out G4.out;have cU:=bh.cell;have SD:=bh.frozen))
    exact⟨cC.from _,hs1,zY⟩
   have G4:=hide (show Utf.dK (eI pre')=f0 by rw[l8.out,if_neg eG]);clear l8;have l8:=G4;have vD:=KeepsOthers.refl W;have rq:fo (w.heap.size+1+1) W W:=rfl;have dL:=hB;have hcell:=hu;have c7:=hv;have xE:=hf;have lO:=aj;clear hu
   gi_wp2_with (first
    | (refine⟨trivial,?_⟩;gi_at_call 93;refine (CallsIn.inRound l (callsIn_wide.2 (HP.out _))).mono ?_;rintro e w' ⟨rfl,rfl⟩)
    | (gi_at_builtin;go_must (refine Nc _ rfl (.tmp 24) (.tmp 25) 37 9 rfl w.heap.size 5 Tryz.underlying37 Tryz.underlying9 vS (.slice A n c) n (Utf.mended (eI pre)) rfl lO _ [0xEF,0xBF,0xBD] (show gC ⟨#[239,191,189]⟩ [0xEF,0xBF,0xBD] from rfl) rfl (by simp only[List.length_cons,List.length_nil];omega) dL.size ?_);intro A1 c1 w2 hown1 cW;obtain⟨bh,cC,hs1,zY⟩:=LA hB h3 vD rq dL hcell c7 xE lO hown1 cW Hm.out l8.out;have cU:=bh.cell;have SD:=bh.frozen))
   exact⟨cC.from _,hs1,zY⟩
  have hsc:Utf.isScalar r=true:=by rcases hx with h|h;exact absurd h hr;exact h
  have HP:=hide (fun W=>LZ r W hsc);have hm:Utf.mended (eI (pre++[⟨(at_,r),hx⟩]))=Utf.mended (eI pre)++(Utf.put r).map bv:=by rw[Fm,UI,if_neg hr]
  have nj:Utf.dK (eI (pre++[⟨(at_,r),hx⟩]))=f0:=by
   rw[Fm,Utf.Q0,OU.out];simp only[hr,if_false]
   split<;>omega
  have Hm:=hide hm;have l8:=hide nj;have hpl:=yt r;clear hm nj hsc;generalize pre++[⟨(at_,r),hx⟩]=pre' at *
  clear hx;obtain⟨u,hu⟩:=hu;obtain⟨pl,EC⟩:∃pl,(Utf.put r).map bv=pl:=⟨_,rfl⟩;have amM:pl.length≤4:=by rw[←EC];simpa using hpl
  rw[EC] at Hm;have Zr:=hide EC;clear EC hpl
  gi_wp2_with (first
   | (refine⟨trivial,?_⟩;gi_at_call 93;refine (CallsIn.inRound l (callsIn_wide.2 (HP.out _))).mono ?_;rintro e w1 ⟨⟨t,rfl,ht⟩,au⟩;rw[Zr.out] at ht;have vD:=mH au;have rq:fo (w.heap.size+1+1) W w1:=au.block _ (by omega);have dL:Below w.heap.size w w1:=hB.trans (au.mono hB.size);have hcell:∃u,Boxed w1 (w.heap.size+1+1) 9 u:=⟨u,hu.kept (cR au none) (by simp)⟩;have c7:=hv.kept (cR au none) (by simp);have xE:=hf.kept (cR au none) (by simp);have lO:=aj.kept (cR au none) (by simp[Value.ownBlock];cases A<;>simp);have bk:=c7.cell)
   | (gi_at_builtin;go_must (refine Nc _ rfl (.tmp 24) (.tmp 25) 37 9 rfl w.heap.size 5 Tryz.underlying37 Tryz.underlying9 vS (.slice A n c) n (Utf.mended (eI pre)) rfl lO _ pl ht rfl (by omega) dL.size ?_);intro A1 c1 w2 hown1 cW;obtain⟨bh,cC,hs1,zY⟩:=LA hB h3 vD rq dL hcell c7 xE lO hown1 cW Hm.out l8.out;have cU:=bh.cell;have SD:=bh.frozen))
  exact⟨cC.from _,hs1,zY⟩
 case done=>
  rintro D ys W hD ew ⟨⟨v,n,hv,aj⟩,hf,hu,hB⟩ hK;obtain⟨A,c,rfl⟩:=rN aj;have hc:=hv.cell;have Au:=hf.cell;have TV:eI ys=Utf.pieces b.data.toList:=ew;rw[TV] at aj Au;obtain⟨t,hcv,ht⟩:=V7 (P:=Tryz.prog) W.drew 37 9 5 Tryz.underlying37 Tryz.underlying5 Tryz.underlying9 (Utf.mended (Utf.pieces b.data.toList)) aj.drew;have Ht:=hide ht;clear ht ew TV;obtain⟨md,tE⟩:∃md,Utf.mended (Utf.pieces b.data.toList)=md:=⟨_,rfl⟩;obtain⟨fb,nj⟩:∃fb,Utf.dK (Utf.pieces b.data.toList)=fb:=⟨_,rfl⟩;rw[tE] at aj;rw[nj] at Au;have Zl:=hide tE;have l8:=hide nj;clear tE nj;gi_wp2
  gi_region
  all_goals gi_wp2
  all_goals
   refine⟨by simp,.inl ⟨_,_,rfl,run_takeDeferred (w:=W.drew) hK,?_⟩⟩;refine⟨_,results_tmp2 rfl _ _ _,?_⟩;exact⟨⟨t,L8 rfl (int_eq l8.out.symm),Ht.out⟩,hB.drew.trans (belowK_b (w:=w) (Nat.le_refl _) W.drew D _ _ (by simp at hD;omega) hK rfl rfl)⟩
 case stop=>
  rintro D c pre W _ _ h _;exact h.elim

theorem Xj(s:ByteArray)(w:World)(hs:s.size≤1000000000) :
  Calls Tryz.prog 49 #[.string s] w fun e w'=>e=.returned (.bool (Utf.valid s.data.toList))∧Below w.heap.size w w':=by
 obtain⟨fb,nj⟩:∃fb,Utf.dK (Utf.pieces s.data.toList)=fb:=⟨_,rfl⟩;have HV:=hide (Utf.Xn s.data.toList);have l8:=hide nj;have HL:=hide (afm s w hs);clear nj
 go_enter Tryz.func49,Tryz.ntmps49
 go_wp2_with (go_at_call 75;refine HL.out.mono ?_;rintro e w' ⟨⟨t,rfl,_⟩,hb⟩;rw[l8.out])
 go_ret;exact⟨aU (dw (by rw[HV.out,l8.out])),hb⟩
end
section
open Go.RowKit Go.Shelf Tk

attribute [local go_sem] Oper.semAt_some

theorem MI(f:Nat×Int→Bool)(hf:∀p,p.2<0→f p=true):∀l:List (Nat×Int),(upTo l).find? f=l.find? f
 | []=>rfl
 | p :: l=>by
  unfold upTo;split
  ·rename_i h
   rw[List.find?_cons,List.find?_cons,hf p h]
  rw[List.find?_cons,List.find?_cons,MI f hf l]
theorem acd{α:Type}{f:α→Bool}{pre rest:List α}{x:α}(h:∀p∈pre,f p=false)(hx:f x=true):(pre++[x]++rest).find? f=some x:=by
 rw[List.append_assoc,List.find?_append,List.find?_eq_none.2 (fun p hp=>by rw[h p hp];simp)];simp[hx]
theorem Mv{ok:Nat→Int→Bool}(bY:∀k r,r<0→ok k r=false){l:L}{pre rest:List (Nat×Int)}{x:Nat×Int}(e:pre++[x]++rest=upTo (Utf.pieces l))(h:∀p∈pre,ok p.1 p.2=true)(hx:ok x.1 x.2=false):stop ok l=some x.1:=by
 unfold stop;rw[←MI _ (fun p hp=>by rw[bY _ _ hp];rfl),←e,acd (fun p hp=>by rw[h p hp];rfl) (by rw[hx];rfl)];rfl
theorem Mw{ok:Nat→Int→Bool}(bY:∀k r,r<0→ok k r=false){l:L}(h:∀p∈upTo (Utf.pieces l),ok p.1 p.2=true):stop ok l=none:=by
 unfold stop;rw[←MI _ (fun p hp=>by rw[bY _ _ hp];rfl),List.find?_eq_none.2 (fun p hp=>by rw[h p hp];simp)];rfl
theorem IM(r:Int)(h:r<0):bT r=false:=by
 unfold bT within;simp;omega
theorem Jk(r:Int)(h:r<0):ko r=false:=by
 unfold ko within;simp;omega
theorem Rj(r:Int)(h:r<0):lj r=false:=by
 unfold lj;rw[Jk r h];unfold within;simp;omega
theorem UN(k:Nat)(r:Int)(h:r<0):kJ k r=false:=by
 unfold kJ;rw[Jk r h,Rj r h];simp;omega

def Nk(w:World)(pre:List (Nat×Int))(W:World):Prop:=(∀p∈pre,bT p.2=true)∧(∃v,Boxed W w.heap.size 3 v)∧(∃u,Boxed W (w.heap.size+1) 9 u)∧Below w.heap.size w W
def Nl(w:World)(c:Code)(pre:List (Nat×Int))(W:World):Prop :=
 c=.ret∧∃iF x,pre=iF++[x]∧(∀p∈iF,bT p.2=true)∧bT x.2=false∧Boxed W w.heap.size 3 (.int .i64 (x.1:Int))∧Below w.heap.size w W
theorem n7{X:World}{B:Nat}{t:TypeId}{u:Value}{row:Option Nat}{n:Nat}(aj:∀r,row=some r→n≤r∧∃o:Obj,X.heap[r]?=some o∧o.isCells=false)(h:Boxed X B t u):some B≠row:=fun e=>by
 obtain⟨_,o,ho,hc⟩:=aj _ e.symm;rw[show X.heap[_]?=_ from h] at ho;cases ho;cases hc
theorem XK(w:World):OwnFrom (w.heap.size+1+1) (Nk w):=by
 rintro s X Y row ⟨h1,⟨v,hv⟩,⟨u,hu⟩,h3⟩ hg aj;exact⟨h1,⟨v,hv.kept hg (n7 aj hv)⟩,⟨u,hu.kept hg (n7 aj hu)⟩,h3.grown hg h3.size (fun k e=>by have:=(aj k e).1;omega)⟩
theorem XL(w:World)(c:Code):OwnFrom (w.heap.size+1+1) (Nl w c):=by
 rintro s X Y row ⟨h1,p,x,h2,h4,h5,hv,h3⟩ hg aj;exact⟨h1,p,x,h2,h4,h5,hv.kept hg (n7 aj hv),h3.grown hg h3.size (fun k e=>by have:=(aj k e).1;omega)⟩

theorem IB(s:ByteArray)(w:World)(hs:s.size≤1000000000) :
  Calls Tryz.prog 32 #[.string s] w fun e w'=>e=.returned (.int .i64 (bad s.data.toList))∧Below w.heap.size w w':=by
 refine (callsIn_wide (n:=5)).1 ?_;refine callsIn_of_wp_marks Tryz.func32 rfl trivial ?_ rfl;simp only[Tryz.ntmps32,List.size_toArray,List.length_cons,List.length_nil,Nat.reduceAdd,Nat.reduceSub,Array.replicate_succ,Array.replicate_zero,List.push_toArray,List.append_toArray,List.nil_append,List.cons_append]
 gi_wp2_with (refine⟨trivial,?_⟩;gi_at_call 52;refine (callsIn_wide.2 (Mi _ _)).mono ?_;rintro e w' ⟨rfl,rfl⟩)
 have b0:=Boxed.new w 3 (.int .i64 0);have b1:=Boxed.new (w.alloc (.cells #[.int .i64 0] 3)) 9 (.string s);rw[World.size_alloc] at b1;have qT:Below w.heap.size w ((w.alloc (.cells #[.int .i64 0] 3)).alloc (.cells #[.string s] 9)):=((Below.refl _ w).alloc (Nat.le_refl _) _).alloc (by simp) _
 refine wpIn_rangeFunc_ownG rfl (by omega) (gf:=80) (lb:=#[.pointer (some ⟨w.heap.size+1,0,none⟩)]) rfl trivial (enters_of Tryz.func80 (by kernel_rfl) rfl)
  (Mj (5-1) (by omega) (w.heap.size+1) s hs _ (by simp) b1.cell) fo.trans (BS (by simp)) (Below.refl _ _) (fun _=>rfl)
  (Nk w) (Nl w) (by simpa using XK w) (fun c=>by simpa using XL w c)
  ⟨(fun p hp=>by cases hp),⟨_,b0.alloc _⟩,⟨_,b1⟩,qT⟩
  (fun x=>{ tmps:=#[.string s,undef,.pointer (some ⟨w.heap.size,0,none⟩),.int .i64 (x.1:Int),.int .i64 x.2,.string s,
   .func (.func 80) #[] #[.pointer (some ⟨w.heap.size+1,0,none⟩)],.int .i64 (x.1:Int),.int .i64 x.2,undef,undef,undef,undef],defers:=[] }) ?assign ?body ?done ?stop
 case assign=>
  intro l x W K hK;gi_wp2;exact hK
 case body=>
  rintro l pre x W ⟨hp,⟨v,hv⟩,⟨u,hu⟩,hB⟩ hlen;have HP:=hide hp;have h2:w.heap.size+1<W.heap.size:=hu.lt;have HC:=hide (IQ x.2)
  cases hx:bT x.2 with
  | true=>
   rw[hx] at HC;have HX:=hide hx;clear hp hx
   gi_wp2_with (refine⟨trivial,?_⟩;gi_at_call 53;refine (CallsIn.inRound l (callsIn_wide.2 (HC.out _))).mono ?_;rintro e w1 ⟨rfl,hb⟩)
   refine⟨(mH hb).from _,hb.block _ (by omega),fun p hp=>?_,⟨v,hv.kept (cR hb none) (by simp)⟩,⟨u,hu.kept (cR hb none) (by simp)⟩,hB.trans (hb.mono hB.size)⟩
   rcases List.mem_append.1 hp with hp|hp
   ·exact HP.out p hp
   have:p=x:=by simpa using hp
   rw[this];exact HX.out
  | false=>
   rw[hx] at HC;have HX:=hide hx;clear hp hx
   gi_wp2_with (refine⟨trivial,?_⟩;gi_at_call 53;refine (CallsIn.inRound l (callsIn_wide.2 (HC.out _))).mono ?_;rintro e w1 ⟨rfl,hb⟩;have bh:=hv.kept (cR hb none) (by simp);have cU:=bh.cell;have ni:=bh.frozen)
   exact⟨((mH hb).trans (KeepsOthers.setCell _ _ _)).from _,rfl,pre,x,rfl,HP.out,HX.out,bh.set _,(hB.trans (hb.mono hB.size)).setCell (p:=⟨w.heap.size,0,none⟩) (Nat.le_refl _) _⟩
 case done=>
  rintro D ys W hD ew ⟨hp,⟨v,hv⟩,⟨u,hu⟩,hB⟩ hK;have hc:=hv.cell;have hf:=hv.frozen
  have nU:=hide (show bad s.data.toList = -1 from by
   unfold bad;rw[Mw (ok:=fun _ r=>bT r) (fun _ r h=>IM r h) (by rw[←ew];exact fun p h=>hp p h)])
  clear ew hp;gi_wp2;have c7:=hv.set (.int .i64 (-1));have gF:=(KeepsOthers.setCell W ⟨w.heap.size,0,none⟩ (.int .i64 (-1))).same D _ hK rfl;refine⟨by simp,.inl ⟨_,_,rfl,run_takeDeferred gF,?_⟩⟩;have bk:=cell_kept c7.cell (grownBy_putObj' _ D (.deferred none)) (fun r e=>by cases e;exact⟨_,gF,rfl⟩);refine⟨.int .i64 (-1),?_,?_⟩
  ·simp[results,Tryz.results32,go_sem,bk]
  exact⟨aU (int_eq nU.out.symm),(hB.setCell (p:=⟨w.heap.size,0,none⟩) (Nat.le_refl _) _).trans (belowK_b (w:=w) (Nat.le_refl _) _ D _ _ (by simp at hD;omega) gF rfl rfl)⟩
 case stop=>
  rintro D c pre W hD ⟨rest,hsp⟩ ⟨rfl,iF,x,rfl,hp,hx,hv,hB⟩ hK;have hc:=hv.cell;have hf:=hv.frozen
  have nU:=hide (show bad s.data.toList=(x.1:Int) from by
   unfold bad;rw[Mv (ok:=fun _ r=>bT r) (fun _ r h=>IM r h) hsp (fun p h=>hp p h) hx])
  clear hsp hp hx;gi_wp2;refine⟨by simp,.inl ⟨_,_,rfl,run_takeDeferred hK,?_⟩⟩;have bk:=cell_kept hc (grownBy_putObj' _ D (.deferred none)) (fun r e=>by cases e;exact⟨_,hK,rfl⟩);refine⟨.int .i64 (x.1:Int),?_,?_⟩
  ·simp[results,Tryz.results32,go_sem,bk]
  exact⟨aU (int_eq nU.out.symm),hB.trans (belowK_b (w:=w) (Nat.le_refl _) _ D _ _ (by simp at hD;omega) hK rfl rfl)⟩
end
section
open Go.RowKit Go.Shelf Tk

attribute [local go_sem] Oper.semAt_some

def Nr(w:World)(pre:List (Nat×Int))(W:World):Prop :=
 (∀p∈pre,kJ p.1 p.2=true)∧Boxed W w.heap.size 94 (.func (.func 185) #[] #[])∧(∃v,Boxed W (w.heap.size+1) 3 v)∧(∃u,Boxed W (w.heap.size+1+1) 9 u)∧Below w.heap.size w W
def Nt(w:World)(c:Code)(pre:List (Nat×Int))(W:World):Prop :=
 c=.ret∧∃iF x,pre=iF++[x]∧(∀p∈iF,kJ p.1 p.2=true)∧kJ x.1 x.2=false∧Boxed W (w.heap.size+1) 3 (.int .i64 (x.1:Int))∧Below w.heap.size w W
theorem XR(w:World):OwnFrom (w.heap.size+1+1+1) (Nr w):=by
 rintro s X Y row ⟨h1,hb,⟨v,hv⟩,⟨u,hu⟩,h3⟩ hg aj;exact⟨h1,hb.kept hg (n7 aj hb),⟨v,hv.kept hg (n7 aj hv)⟩,⟨u,hu.kept hg (n7 aj hu)⟩,h3.grown hg h3.size (fun k e=>by have:=(aj k e).1;omega)⟩
theorem XT(w:World)(c:Code):OwnFrom (w.heap.size+1+1+1) (Nt w c):=by
 rintro s X Y row ⟨h1,p,x,h2,h4,h5,hv,h3⟩ hg aj;exact⟨h1,p,x,h2,h4,h5,hv.kept hg (n7 aj hv),h3.grown hg h3.size (fun k e=>by have:=(aj k e).1;omega)⟩
theorem Ra{r:Int}(h:ko r=true):lj r=true:=by unfold lj;rw[h];rfl

theorem acx(s:ByteArray)(w:World)(hs:s.size≤1000000000) :
  Calls Tryz.prog 165 #[.string s,.func (.func 185) #[] #[]] w fun e w'=>e=.returned (.int .i64 (take s.data.toList:Nat))∧Below w.heap.size w w':=by
 refine (callsIn_wide (n:=5)).1 ?_;refine callsIn_of_wp_marks Tryz.func165 rfl trivial ?_ rfl;simp only[Tryz.ntmps165,List.size_toArray,List.length_cons,List.length_nil,Nat.reduceAdd,Nat.reduceSub,Array.replicate_succ,Array.replicate_zero,List.push_toArray,List.append_toArray,List.nil_append,List.cons_append]
 gi_wp2_with (refine⟨trivial,?_⟩;gi_at_call 52;refine (callsIn_wide.2 (Mi _ _)).mono ?_;rintro e w' ⟨rfl,rfl⟩)
 have b0:=Boxed.new w 94 (.func (.func 185) #[] #[]);have b1:=Boxed.new (w.alloc (.cells #[.func (.func 185) #[] #[]] 94)) 3 (.int .i64 0);rw[World.size_alloc] at b1;have b2:=Boxed.new ((w.alloc (.cells #[.func (.func 185) #[] #[]] 94)).alloc (.cells #[.int .i64 0] 3)) 9 (.string s);rw[World.size_alloc,World.size_alloc] at b2
 have qT:Below w.heap.size w (((w.alloc (.cells #[.func (.func 185) #[] #[]] 94)).alloc (.cells #[.int .i64 0] 3)).alloc (.cells #[.string s] 9)) :=
  (((Below.refl _ w).alloc (Nat.le_refl _) _).alloc (by simp) _).alloc (by simp;omega) _
 refine wpIn_rangeFunc_ownG rfl (by omega) (gf:=80) (lb:=#[.pointer (some ⟨w.heap.size+1+1,0,none⟩)]) rfl trivial (enters_of Tryz.func80 (by kernel_rfl) rfl)
  (Mj (5-1) (by omega) (w.heap.size+1+1) s hs _ (by simp) b2.cell) fo.trans (BS (by simp)) (Below.refl _ _) (fun _=>rfl)
  (Nr w) (Nt w) (by simpa using XR w) (fun c=>by simpa using XT w c)
  ⟨(fun p hp=>by cases hp),(b0.alloc _).alloc _,⟨_,b1.alloc _⟩,⟨_,b2⟩,qT⟩
  (fun x=>{ tmps:=#[.string s,.func (.func 185) #[] #[],undef,.pointer (some ⟨w.heap.size,0,none⟩),.pointer (some ⟨w.heap.size+1,0,none⟩),.int .i64 (x.1:Int),.int .i64 x.2,.string s,
   .func (.func 80) #[] #[.pointer (some ⟨w.heap.size+1+1,0,none⟩)],.int .i64 (x.1:Int),.int .i64 x.2,undef,undef,undef,undef,undef,undef,undef,undef,undef,undef,undef,undef,undef,undef,undef,undef],defers:=[] }) ?assign ?body ?done ?stop
 case assign=>
  intro l x W K hK;gi_wp2;exact hK
 case body=>
  rintro l pre x W ⟨hp,aJ,⟨v,hv⟩,⟨u,hu⟩,hB⟩ hlen;have HP:=hide hp;have h2:w.heap.size+1+1<W.heap.size:=hu.lt;have HF:=hide (Jm x.2);have HT:=hide (ajW x.2);have qA:=hide (Ra (r:=x.2));clear hp
  by_cases h0:x.1=0
  ·have Jw:((x.1:Int)==0)=true:=by simp[h0]
   cases hx:ko x.2 with
   | false=>
    rw[hx] at HF;have HX:=hide (show kJ x.1 x.2=false by unfold kJ;rw[if_pos h0,hx]);clear hx h0 HT qA
    gi_wp2_with (refine⟨trivial,?_⟩;gi_at_call 189;refine (CallsIn.inRound l (callsIn_wide.2 (HF.out _))).mono ?_;rintro e w1 ⟨rfl,hb⟩;have bh:=hv.kept (cR hb none) (by simp);have cU:=bh.cell;have ni:=bh.frozen)
    refine⟨fun _ h=>(by cases h),?_⟩;gi_wp2;exact⟨((mH hb).trans (KeepsOthers.setCell _ _ _)).from _,rfl,pre,x,rfl,HP.out,HX.out,bh.set _,(hB.trans (hb.mono hB.size)).setCell (p:=⟨w.heap.size+1,0,none⟩) (by simp) _⟩
   | true=>
    rw[hx] at HF;rw[qA.out hx,Bool.true_or] at HT;have HX:=hide (show kJ x.1 x.2=true by unfold kJ;rw[if_pos h0,hx]);clear hx h0 qA
    gi_wp2_with first
     | (refine⟨trivial,?_⟩;gi_at_call 189;refine (CallsIn.inRound l (callsIn_wide.2 (HF.out _))).mono ?_;rintro e w1 ⟨rfl,hb⟩;have hc0:=(aJ.kept (cR hb none) (by simp)).cell)
     | (refine⟨trivial,?_⟩;gi_at_call 185;refine (CallsIn.inRound l (callsIn_wide.2 (HT.out _))).mono ?_;rintro e w2 ⟨rfl,ag⟩)
    have hb:=hb.trans (ag.mono hb.size);refine⟨(mH hb).from _,hb.block _ (by omega),fun p hp=>?_,aJ.kept (cR hb none) (by simp),⟨v,hv.kept (cR hb none) (by simp)⟩,⟨u,hu.kept (cR hb none) (by simp)⟩,hB.trans (hb.mono hB.size)⟩
    rcases List.mem_append.1 hp with hp|hp
    ·exact HP.out p hp
    have:p=x:=by simpa using hp
    rw[this];exact HX.out
  have Jw:((x.1:Int)==0)=false:=by rw[beq_eq_false_iff_ne];omega
  have hc0:=aJ.cell;obtain⟨b,jq⟩:∃b,(lj x.2||decide (x.2=58))=b:=⟨_,rfl⟩;rw[jq] at HT;have HX:=hide (show kJ x.1 x.2=b by unfold kJ;rw[if_neg h0,jq]);clear jq h0 qA HF
  gi_wp2_with fail
  refine⟨trivial,?_⟩
  cases b with
  | false=>
   gi_wp2_with (refine⟨trivial,?_⟩;gi_at_call 185;refine (CallsIn.inRound l (callsIn_wide.2 (HT.out _))).mono ?_;rintro e w1 ⟨rfl,hb⟩;have bh:=hv.kept (cR hb none) (by simp);have cU:=bh.cell;have ni:=bh.frozen)
   exact⟨((mH hb).trans (KeepsOthers.setCell _ _ _)).from _,rfl,pre,x,rfl,HP.out,HX.out,bh.set _,(hB.trans (hb.mono hB.size)).setCell (p:=⟨w.heap.size+1,0,none⟩) (by simp) _⟩
  | true=>
   gi_wp2_with (refine⟨trivial,?_⟩;gi_at_call 185;refine (CallsIn.inRound l (callsIn_wide.2 (HT.out _))).mono ?_;rintro e w1 ⟨rfl,hb⟩)
   refine⟨(mH hb).from _,hb.block _ (by omega),fun p hp=>?_,aJ.kept (cR hb none) (by simp),⟨v,hv.kept (cR hb none) (by simp)⟩,⟨u,hu.kept (cR hb none) (by simp)⟩,hB.trans (hb.mono hB.size)⟩
   rcases List.mem_append.1 hp with hp|hp
   ·exact HP.out p hp
   have:p=x:=by simpa using hp
   rw[this];exact HX.out
 case done=>
  rintro D ys W hD ew ⟨hp,aJ,⟨v,hv⟩,⟨u,hu⟩,hB⟩ hK;have hc:=hv.cell;have hf:=hv.frozen
  have nU:=hide (show take s.data.toList=s.size from by
   unfold take;rw[Mw (ok:=kJ) UN (by rw[←ew];exact fun p h=>hp p h)];exact b9 s)
  clear ew hp;gi_wp2;have c7:=hv.set (.int .i64 (s.size:Int));have gF:=(KeepsOthers.setCell W ⟨w.heap.size+1,0,none⟩ (.int .i64 (s.size:Int))).same D _ hK rfl;refine⟨by simp,.inl ⟨_,_,rfl,run_takeDeferred gF,?_⟩⟩;have bk:=cell_kept c7.cell (grownBy_putObj' _ D (.deferred none)) (fun r e=>by cases e;exact⟨_,gF,rfl⟩);refine⟨.int .i64 (s.size:Int),?_,?_⟩
  ·simp[results,Tryz.results165,go_sem,bk]
  exact⟨aU (int_eq (by rw[nU.out])),(hB.setCell (p:=⟨w.heap.size+1,0,none⟩) (by simp) _).trans (belowK_b (w:=w) (Nat.le_refl _) _ D _ _ (by simp at hD;omega) gF rfl rfl)⟩
 case stop=>
  rintro D c pre W hD ⟨rest,hsp⟩ ⟨rfl,iF,x,rfl,hp,hx,hv,hB⟩ hK;have hc:=hv.cell;have hf:=hv.frozen
  have nU:=hide (show take s.data.toList=x.1 from by
   unfold take;rw[Mv (ok:=kJ) UN hsp (fun p h=>hp p h) hx]
   rfl)
  clear hsp hp hx;gi_wp2;refine⟨by simp,.inl ⟨_,_,rfl,run_takeDeferred hK,?_⟩⟩;have bk:=cell_kept hc (grownBy_putObj' _ D (.deferred none)) (fun r e=>by cases e;exact⟨_,hK,rfl⟩);refine⟨.int .i64 (x.1:Int),?_,?_⟩
  ·simp[results,Tryz.results165,go_sem,bk]
  exact⟨aU (int_eq (by rw[nU.out])),hB.trans (belowK_b (w:=w) (Nat.le_refl _) _ D _ _ (by simp at hD;omega) hK rfl rfl)⟩
theorem ajX(s:ByteArray)(w:World)(hs:s.size≤1000000000) :
  Calls Tryz.prog 157 #[.string s] w fun e w'=>e=.returned (.int .i64 (take s.data.toList:Nat))∧Below w.heap.size w w':=by
 have HF:=hide (acx s w hs);generalize take s.data.toList=n at *
 go_enter Tryz.func157,Tryz.ntmps157
 go_wp2_with (go_at_call 165;refine HF.out.mono ?_;rintro e w' ⟨rfl,hb⟩)
 go_ret;exact⟨rfl,by assumption⟩
end
section
open Go.RowKit Tk

theorem Vz:∀(n k:Nat) (l:L),l.length≤n→∀p∈Utf.gw n k l,p.1<k+l.length
 | _,_,[],_,p,hp=>by unfold Utf.gw at hp;cases hp
 | 0,_,c :: l,h,_,_=>absurd h (by simp)
 | n+1,k,c :: l,h,p,hp=>by
  unfold Utf.gw at hp;have hl:=Utf.tU c l
  rcases List.mem_cons.1 hp with rfl|hp
  ·simp
  have:=Vz n _ _ (by rw[List.length_drop];simp at h ⊢;omega) p hp;rw[List.length_drop] at this;simp at this hl ⊢;omega
theorem VD(l:L)(p:Nat×Int)(hp:p∈Utf.pieces l):p.1<l.length:=by
 have:=Vz l.length 0 l (Nat.le_refl _) p hp;omega
theorem FA(l:L):take l≤l.length:=by
 unfold take stop
 cases h:(Utf.pieces l).find? fun p=>!kJ p.1 p.2 with
 | none=>simp
 | some x=>
  have hm:=List.mem_of_find?_eq_some h;simp only[Option.map_some,Option.getD_some];exact Nat.le_of_lt (VD l x hm)

theorem UO(w:World)(X:Nat)(s:ByteArray)(k:Nat)(hX:Sc w X s k)(ha:k≤s.size)(hs:s.size≤1000000000) :
  Calls Tryz.prog 117 #[.pointer (some ⟨X,0,none⟩)] w fun e w'=>e=.returned (.string (s.extract k (k+take (s.data.toList.drop k))))∧Sc w' X s (k+take (s.data.toList.drop k))∧ai X w w':=by
 have HP:=hide (show ∀W,Calls Tryz.prog 157 #[.string (s.extract k s.size)] W fun e w'=>e=.returned (.int .i64 (take (s.data.toList.drop k):Nat))∧Below W.heap.size W w' from fun W=>by
  have h:=ajX (s.extract k s.size) W (by rw[ByteArray.size_extract];omega);rw[kj,bg] at h;rw[kj];exact h)
 have hn:take (s.data.toList.drop k)≤s.size-k:=by
  have:=FA (s.data.toList.drop k);rwa[List.length_drop,b9] at this
 generalize take (s.data.toList.drop k)=n at *
 have HK:=hide hX;have HB:=hide (ai.refl X w);have pN:¬s.size<k:=by omega
 clear hX
 go_enter Tryz.func117,Tryz.ntmps117
 go_wp2;refine wp_region_held_drew (S:=fun W=>Sc W X s (k)∧ai X w W) (by kernel_rfl) ?_ (fun hHeld=>?_)
 ·(try dsimp only)
  first|exact⟨ae.drew HK.out,ai.drew HB.out⟩|exact⟨ae.go hHeld.1 hb,ai.go hHeld.2 hb⟩|exact hHeld
 change wpAnyH _ _ _ _ _ 11 #[false,false,false,false,false,false,false,false,false,false,false] _ _;iterate 3 (refine aB (v:=?_) rfl rfl hHeld ?_ ?_;rotate_left;(· (intro w hSw;(try dsimp only at hSw);go_simp;try with_reducible rfl));(try simp only[nx,List.set]))
 (refine aB (v:=?_) rfl rfl hHeld ?_ ?_;rotate_left;(· (intro w hSw;(try dsimp only at hSw);have q0:=Sc.c0 hSw.1;have q1:=Sc.c1 hSw.1;go_simp;try with_reducible rfl));(try simp only[nx,List.set]));iterate 3 (refine aB (v:=?_) rfl rfl hHeld ?_ ?_;rotate_left;(· (intro w hSw;(try dsimp only at hSw);go_simp;try with_reducible rfl));(try simp only[nx,List.set]))
 (refine aB (v:=?_) rfl rfl hHeld ?_ ?_;rotate_left;(· (intro w hSw;(try dsimp only at hSw);have q0:=Sc.c0 hSw.1;have q1:=Sc.c1 hSw.1;go_simp;try with_reducible rfl));(try simp only[nx,List.set]));(refine aB (v:=?_) rfl rfl hHeld ?_ ?_;rotate_left;(· (intro w hSw;(try dsimp only at hSw);go_simp;try with_reducible rfl));(try simp only[nx,List.set]));refine jr (i:=9) rfl (by kernel_rfl) (by kernel_rfl) (fun K hK=>?_);go_simp
 go_at_call 157
 refine (HP.out _).mono ?_;rintro e w' ⟨rfl,hb⟩;(try dsimp only);refine hK.out _ _ ?_ (fun bc=>?_)
 ·(try dsimp only)
  first|exact⟨ae.drew HK.out,ai.drew HB.out⟩|exact⟨ae.go hHeld.1 hb,ai.go hHeld.2 hb⟩|exact hHeld
 clear hK K hHeld;have hHeld:=bc;clear bc;(try simp only[Act.put,List.setIfInBounds_toArray,List.set_cons_zero,List.set_cons_succ]);(refine aB (v:=?_) rfl rfl hHeld ?_ ?_;rotate_left;(· (intro w hSw;(try dsimp only at hSw);go_simp;try with_reducible rfl));(try simp only[nx,List.set]));refine wpAnyH_done (by kernel_rfl) ?_ _;have K1:=hide hHeld.1;have B1:=hide hHeld.2;have q1:=Sc.c1 hHeld.1;have f1:=Sc.f1 hHeld.1;clear hHeld HP HK HB;have hw0:IntKind.i64.wrap ((k:Int)+n)=(k:Int)+n:=IntWalk.i64_in _ (by omega);have mB:IntKind.i64.wrap ((k:Int)+n-n)=(k:Int):=by rw[show (k:Int)+n-n=k by omega];exact IntWalk.i64_in _ (by omega)
 have hw2:IntKind.i64.wrap (k:Int)=(k:Int):=IntWalk.i64_in _ (by omega);have h4:(0:Int)≤(k:Int)+n∧(k:Int)+n≤(s.size:Int):=by omega
 have h5:(k:Int)≤(k:Int)+n:=by omega
 have h6:((k:Int)+n).toNat=k+n:=by omega
 have h7:(0:Int)≤(k:Int):=by omega
 go_wp2;have K2:=hide (Sc.move K1.out (k+n));have B2:=hide (B1.out.setCell (p:=⟨X,1,none⟩) (.inl rfl) (.int .i64 ((k+n:Nat):Int)));clear q1 f1 K1 B1;refine wp_region_held_drew (S:=fun W=>Sc W X s (k+n)∧ai X w W) (by kernel_rfl) ?_ (fun hHeld=>?_)
 ·(try dsimp only)
  first|exact⟨ae.drew K2.out,ai.drew B2.out⟩|exact⟨ae.go hHeld.1 hb,ai.go hHeld.2 hb⟩|exact hHeld
 change wpAnyH _ _ _ _ _ 16 #[false,false,false,false,false,false,false,false,false,false,false,false,false,false,false,false] _ _;iterate 3 (refine aB (v:=?_) rfl rfl hHeld ?_ ?_;rotate_left;(· (intro w hSw;(try dsimp only at hSw);go_simp;try with_reducible rfl));(try simp only[nx,List.set]))
 (refine aB (v:=?_) rfl rfl hHeld ?_ ?_;rotate_left;(· (intro w hSw;(try dsimp only at hSw);have q0:=Sc.c0 hSw.1;have q1:=Sc.c1 hSw.1;go_simp;try with_reducible rfl));(try simp only[nx,List.set]));iterate 3 (refine aB (v:=?_) rfl rfl hHeld ?_ ?_;rotate_left;(· (intro w hSw;(try dsimp only at hSw);go_simp;try with_reducible rfl));(try simp only[nx,List.set]))
 (refine aB (v:=?_) rfl rfl hHeld ?_ ?_;rotate_left;(· (intro w hSw;(try dsimp only at hSw);have q0:=Sc.c0 hSw.1;have q1:=Sc.c1 hSw.1;go_simp;try with_reducible rfl));(try simp only[nx,List.set]));iterate 5 (refine aB (v:=?_) rfl rfl hHeld ?_ ?_;rotate_left;(· (intro w hSw;(try dsimp only at hSw);go_simp;try with_reducible rfl));(try simp only[nx,List.set]))
 (refine aB (v:=?_) rfl rfl hHeld ?_ ?_;rotate_left;(· (intro w hSw;(try dsimp only at hSw);have q0:=Sc.c0 hSw.1;have q1:=Sc.c1 hSw.1;go_simp;try with_reducible rfl));(try simp only[nx,List.set]));iterate 2 (refine aB (v:=?_) rfl rfl hHeld ?_ ?_;rotate_left;(· (intro w hSw;(try dsimp only at hSw);go_simp;try with_reducible rfl));(try simp only[nx,List.set]))
 refine wpAnyH_done (by kernel_rfl) ?_ _;go_wp2;go_ret;exact⟨rfl,hHeld.1,hHeld.2⟩
end
end Go.Proofs.YtifiiojchlaghaaGreatDoor
