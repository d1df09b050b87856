/- The program's 'Loose' and 'Valid'. And more. -/
import Derived.Test.YtnbmfljhbpfilaaGreatDoorOw02
import Derived.Test.YtnbmfljhbpfilaaGreatDoorOw03
set_option linter.unusedSimpArgs false
set_option maxRecDepth 100000
set_option maxHeartbeats 8000000
set_option linter.unusedVariables false
namespace Go.Proofs.YtnbmfljhbpfilaaGreatDoor
section
open Go.RowKit Go.Shelf

attribute [local go_sem] Oper.semAt_some

theorem vM:(Tryz.prog.info? 5).map (fun i=>(i.zero,i.size,i.bytes))=some (some (.int .u8 0),1,1):=by kernel_rfl

def dZ(l:List Pc):List (Nat×Int):=l.map (·.1)
theorem FN(l:List Pc)(x:Pc):dZ (l++[x])=dZ l++[x.1]:=by simp[dZ]
theorem aiK(l:List Pc):(dZ l).length=l.length:=by simp[dZ]
theorem VX(l:List (Nat×Int))(x:Nat×Int):Utf.mended (l++[x])=Utf.mended l++(if x.2<0 then [0xEF,0xBF,0xBD] else (Utf.put x.2).map bv):=by
 unfold Utf.mended;rw[List.flatMap_append,List.flatMap_cons,List.flatMap_nil,List.append_nil];rfl
theorem ahk(l:List (Nat×Int)):(Utf.mended l).length≤4*l.length:=by
 induction l with
 | nil=>simp[Utf.mended]
 | cons x l ih=>
  have h:=yI x.2;unfold Utf.mended at ih ⊢;rw[List.flatMap_cons,List.length_append,List.length_cons]
  split<;>simp only[List.length_map,List.length_cons,List.length_nil]<;>omega

def IX(w:World)(pre:List Pc)(W:World):Prop :=
 (∃v n,Boxed W w.heap.size 58 v∧W.ownsRow w.heap.size 5 1 v n (cm (Utf.mended (dZ pre))))∧Boxed W (w.heap.size+1) 3 (.int .i64 (Utf.dy (dZ pre)))∧(∃u,Boxed W (w.heap.size+1+1) 9 u)∧Below w.heap.size w W

theorem aa7(w:World):OwnFrom (w.heap.size+3) (IX w):=by
 rintro s X Y row ⟨⟨v,n,hv,hr⟩,h2,⟨u,hu⟩,h3⟩ hg ai
 have hne:∀{B:Nat} {t:TypeId} {u:Value},Boxed X B t u→some B≠row:=fun h e=>by
  obtain⟨_,o,ho,hc⟩:=ai _ e.symm;rw[show X.heap[_]?=_ from h] at ho;cases ho;cases hc
 refine⟨⟨v,n,hv.kept hg (hne hv),hr.kept hg ?_⟩,h2.kept hg (hne h2),⟨u,hu.kept hg (hne hu)⟩,h3.grown hg h3.size (fun k e=>by have:=(ai k e).1;omega)⟩
 rcases hr.2 with ⟨rfl,_⟩|⟨g,cap,cur,rfl,_,dH,_⟩
 ·exact .inl rfl
 refine .inr fun e'=>?_;obtain⟨_,o,ho,hc⟩:=ai g (by simpa[Value.ownBlock] using e'.symm);rw[dH] at ho;cases ho;cases hc

theorem cK{W w1:World}(h:Below W.heap.size W w1)(row:Option Nat):W.grownBy w1 row:=⟨h.os,h.tape,h.output,h.size,fun k hk _=>h.block k hk⟩
theorem mA{W w1:World}(h:Below W.heap.size W w1):KeepsOthers W w1:=⟨h.size,fun k o hk _=>(h.block k (Array.getElem?_eq_some_iff.1 hk).1).trans hk⟩

theorem Ml{w W W2 w1:World}{pre pre':List Pc}{v v':Value}{n n':Nat}{m:List UInt8}{f1:Int}(hB:Below w.heap.size w W)(h3:w.heap.size+3≤W.heap.size)
  (vA:KeepsOthers W W2) (qU:eP (w.heap.size+1+1) W W2) (di:Below w.heap.size w W2) (hcell:∃u,Boxed W2 (w.heap.size+1+1) 9 u)
  (hv:Boxed W2 w.heap.size 58 v) (hf:Boxed W2 (w.heap.size+1) 3 (.int .i64 f1)) (ai:W2.ownsRow w.heap.size 5 1 v n (cm (Utf.mended (dZ pre))))
  (hown:w1.ownsRow w.heap.size 5 1 v' n' (cm (Utf.mended (dZ pre)++m))) (hgrow:W2.grownBy w1 v.ownBlock)
  (hm:Utf.mended (dZ pre')=Utf.mended (dZ pre)++m) (ly:Utf.dy (dZ pre')=f1) :
  Boxed w1 w.heap.size 58 v∧KeepsOthers W (w1.setCell ⟨w.heap.size,0,none⟩ v')∧eP (w.heap.size+1+1) W (w1.setCell ⟨w.heap.size,0,none⟩ v')∧IX w pre' (w1.setCell ⟨w.heap.size,0,none⟩ v'):=by
 have aX:Boxed w1 w.heap.size 58 v:=hv.kept hgrow (hv.not_row (by decide) ai);have ae6:Boxed w1 (w.heap.size+1) 3 (.int .i64 f1):=hf.kept hgrow (hf.not_row (by decide) ai);obtain⟨u,hu⟩:=hcell;have dJ:w1.heap[w.heap.size+1+1]?=W2.heap[w.heap.size+1+1]?:=hgrow.block _ hu.lt (hu.not_row (by decide) ai);have hsz:w.heap.size≤W2.heap.size:=di.size;refine⟨aX,?_,?_,⟨v',n',aX.set v',?_⟩,?_,⟨u,?_⟩,?_⟩
 ·refine (vA.trans (KeepsOthers.of_grownBy hgrow fun j o ej hj=>?_)).trans (KeepsOthers.setCell _ _ _);obtain⟨_,cs,fr,h⟩:=aG ai j ej;rw[h] at hj;cases hj;rfl
 ·refine qU.trans ?_;exact (Below.heap_setCell _ _ _ _ (by simp;omega)).trans dJ
 ·rw[hm];exact hown.kept (grownBy_setCell' w1 _ v') (.inr (aX.not_row (by decide) hown).symm)
 ·rw[ly];exact ae6.kept (grownBy_setCell' w1 _ v') (by simp)
 ·exact (Below.heap_setCell _ _ _ _ (by simp;omega)).trans (dJ.trans hu)
 refine (di.grown hgrow hsz fun j ej=>(aG ai j ej).1).setCell (p:=⟨w.heap.size,0,none⟩) (Nat.le_refl _) v'

theorem ag8(b:ByteArray)(w:World)(hs:b.size≤1000000000) :
  Calls Tryz.prog 84 #[.string b] w fun e w'=>(∃t:ByteArray,e=.returned (.tuple #[.string t,.int .i64 (Utf.dy (Utf.pieces b.data.toList))])∧fT t (Utf.mended (Utf.pieces b.data.toList)))∧Below w.heap.size w w':=by
 refine (callsIn_wide (n:=5)).1 ?_;refine callsIn_of_wp_marks Tryz.func84 rfl trivial ?_ rfl;simp only[Tryz.ntmps84,List.size_toArray,List.length_cons,List.length_nil,Nat.reduceAdd,Nat.reduceSub,Array.replicate_succ,Array.replicate_zero,List.push_toArray,List.append_toArray,List.nil_append,List.cons_append]
 gi_wp2_with (refine⟨trivial,?_⟩;gi_at_call 114;refine (callsIn_wide.2 (WW _ _)).mono ?_;rintro e w' ⟨rfl,rfl⟩)
 have b0:=Boxed.new w 58 (.slice none 0 0);have b1:=Boxed.new (w.alloc (.cells #[.slice none 0 0] 58)) 3 (.int .i64 (-1));rw[World.size_alloc] at b1;have b2:=Boxed.new ((w.alloc (.cells #[.slice none 0 0] 58)).alloc (.cells #[.int .i64 (-1)] 3)) 9 (.string b);rw[World.size_alloc,World.size_alloc] at b2
 have qE:Below w.heap.size w (((w.alloc (.cells #[.slice none 0 0] 58)).alloc (.cells #[.int .i64 (-1)] 3)).alloc (.cells #[.string b] 9)) :=
  (((Below.refl _ w).alloc (Nat.le_refl _) _).alloc (by simp) _).alloc (by simp;omega) _
 refine wpIn_rangeFunc_ownG rfl (by omega) (gf:=150) (lb:=#[.pointer (some ⟨w.heap.size+1+1,0,none⟩)]) rfl trivial (enters_of Tryz.func150 (by kernel_rfl) rfl)
  (WZ (5-1) (by omega) (w.heap.size+1+1) b hs _ (by simp) b2.cell) eP.trans (Ck (by simp)) (Below.refl _ _) (fun _=>rfl)
  (IX w) (fun _ _ _=>False) (by simpa using aa7 w) (fun _ _ _ _ _ hs _ _=>hs)
  ⟨⟨_,0,(b0.alloc _).alloc _,World.ownsRow_nil _ _ _ _⟩,b1.alloc _,⟨_,b2⟩,qE⟩
  (fun x=>{ tmps:=#[.string b,undef,.string ⟨#[]⟩,.int .i64 0,.pointer (some ⟨w.heap.size,0,none⟩),.pointer (some ⟨w.heap.size+1,0,none⟩),.int .i64 (x.1.1:Int),.int .i64 x.1.2,undef,undef,.string b,
   .func (.func 150) #[] #[.pointer (some ⟨w.heap.size+1+1,0,none⟩)],.int .i64 (x.1.1:Int),.int .i64 x.1.2,undef,undef,undef,undef,undef,undef,undef,undef,undef,undef,undef,undef,undef,undef,undef,undef],defers:=[] }) ?assign ?body ?done ?stop
 case assign=>
  intro l x W K hK;gi_wp2;exact hK
 case body=>
  rintro l pre ⟨⟨at_,r⟩,hx⟩ W ⟨⟨v,n,hv,ai⟩,hf,hu,hB⟩ hlen;obtain⟨A,c,rfl⟩:=rq ai;dsimp only at hx ⊢
  have hn:n≤4*pre.length:=by
   have h1:=ai.1;have h2:=ahk (dZ pre);rw[Jr] at h1;rw[aiK] at h2;omega
  have hc:=hv.cell;have AH:=hf.cell;have hff:=hf.frozen;obtain⟨f0,AL⟩:∃f0,Utf.dy (dZ pre)=f0:=⟨_,rfl⟩;have sS:=Utf.adW (dZ pre);rw[AL] at hf AH sS;have Qe:=hide AL;clear AL;have h3:w.heap.size+3≤W.heap.size:=by obtain⟨u,hu⟩:=hu;have:=hu.lt;omega
  by_cases hr:r<0
  ·have HP:=hide (fun W=>Xd r W (show Utf.isScalar r=false by simp[Utf.isScalar];omega));have hm:Utf.mended (dZ (pre++[⟨(at_,r),hx⟩]))=Utf.mended (dZ pre)++[0xEF,0xBF,0xBD]:=by rw[FN,VX,if_pos hr]
   have mV:Utf.dy (dZ (pre++[⟨(at_,r),hx⟩]))=if f0<0 then (at_:Int) else f0:=by rw[FN,Utf.Sv,Qe.out,if_pos hr]
   have Hm:=hide hm;have lZ:=hide mV;clear hm mV;generalize pre++[⟨(at_,r),hx⟩]=pre' at *
   by_cases dX:f0<0
   ·have vA:KeepsOthers W (W.setCell ⟨w.heap.size+1,0,none⟩ (.int .i64 (at_:Int))):=KeepsOthers.setCell _ _ _;have qU:eP (w.heap.size+1+1) W (W.setCell ⟨w.heap.size+1,0,none⟩ (.int .i64 (at_:Int))):=Below.heap_setCell _ _ _ _ (by simp);have di:=hB.setCell (p:=⟨w.heap.size+1,0,none⟩) (by simp) (.int .i64 (at_:Int))
    have hcell:∃u,Boxed (W.setCell ⟨w.heap.size+1,0,none⟩ (.int .i64 (at_:Int))) (w.heap.size+1+1) 9 u:=by
     obtain⟨u,hu⟩:=hu;exact⟨u,hu.kept (grownBy_setCell' _ _ _) (by simp)⟩
    have cS:Boxed (W.setCell ⟨w.heap.size+1,0,none⟩ (.int .i64 (at_:Int))) w.heap.size 58 (.slice A n c):=hv.kept (grownBy_setCell' _ _ _) (by simp);have xM:=hf.set (.int .i64 (at_:Int));have lH:=ai.kept (grownBy_setCell' W (w.heap.size+1) (.int .i64 (at_:Int))) (.inr (hf.not_row (by decide) ai).symm);have IA:=hide (show Utf.dy (dZ pre')=(at_:Int) by rw[lZ.out,if_pos dX]);clear lZ hu
    gi_wp2_with (first
     | (refine⟨trivial,?_⟩;gi_at_call 95;refine (CallsIn.inRound l (callsIn_wide.2 (HP.out _))).mono ?_;rintro e w' ⟨rfl,rfl⟩)
     | (gi_at_builtin;go_must (refine On _ rfl (.tmp 24) (.tmp 25) 58 9 rfl w.heap.size 5 Tryz.underlying58 Tryz.underlying9 vM (.slice A n c) n (Utf.mended (dZ pre)) rfl lH _ [0xEF,0xBF,0xBD] (show fT ⟨#[239,191,189]⟩ [0xEF,0xBF,0xBD] from rfl) rfl (by simp only[List.length_cons,List.length_nil];omega) di.size ?_);intro A1 c1 w1 hown1 cL;obtain⟨aX,cn,hs1,Ah⟩:=Ml hB h3 vA qU di hcell cS xM lH hown1 cL Hm.out IA.out;have dG:=aX.cell;have Ug:=aX.frozen))
    exact⟨cn.from _,hs1,Ah⟩
   have IA:=hide (show Utf.dy (dZ pre')=f0 by rw[lZ.out,if_neg dX]);clear lZ;have lZ:=IA;have vA:=KeepsOthers.refl W;have qU:eP (w.heap.size+1+1) W W:=rfl;have di:=hB;have hcell:=hu;have cS:=hv;have xM:=hf;have lH:=ai;clear hu
   gi_wp2_with (first
    | (refine⟨trivial,?_⟩;gi_at_call 95;refine (CallsIn.inRound l (callsIn_wide.2 (HP.out _))).mono ?_;rintro e w' ⟨rfl,rfl⟩)
    | (gi_at_builtin;go_must (refine On _ rfl (.tmp 24) (.tmp 25) 58 9 rfl w.heap.size 5 Tryz.underlying58 Tryz.underlying9 vM (.slice A n c) n (Utf.mended (dZ pre)) rfl lH _ [0xEF,0xBF,0xBD] (show fT ⟨#[239,191,189]⟩ [0xEF,0xBF,0xBD] from rfl) rfl (by simp only[List.length_cons,List.length_nil];omega) di.size ?_);intro A1 c1 w2 hown1 cL;obtain⟨aX,cn,hs1,Ah⟩:=Ml hB h3 vA qU di hcell cS xM lH hown1 cL Hm.out lZ.out;have dG:=aX.cell;have Ug:=aX.frozen))
   exact⟨cn.from _,hs1,Ah⟩
  have hsc:Utf.isScalar r=true:=by rcases hx with h|h;exact absurd h hr;exact h
  have HP:=hide (fun W=>ML r W hsc);have hm:Utf.mended (dZ (pre++[⟨(at_,r),hx⟩]))=Utf.mended (dZ pre)++(Utf.put r).map bv:=by rw[FN,VX,if_neg hr]
  have mV:Utf.dy (dZ (pre++[⟨(at_,r),hx⟩]))=f0:=by
   rw[FN,Utf.Sv,Qe.out];simp only[hr,if_false]
   split<;>omega
  have Hm:=hide hm;have lZ:=hide mV;have hpl:=yI r;clear hm mV hsc;generalize pre++[⟨(at_,r),hx⟩]=pre' at *
  clear hx;obtain⟨u,hu⟩:=hu;obtain⟨pl,ET⟩:∃pl,(Utf.put r).map bv=pl:=⟨_,rfl⟩;have aoT:pl.length≤4:=by rw[←ET];simpa using hpl
  rw[ET] at Hm;have zE:=hide ET;clear ET hpl
  gi_wp2_with (first
   | (refine⟨trivial,?_⟩;gi_at_call 95;refine (CallsIn.inRound l (callsIn_wide.2 (HP.out _))).mono ?_;rintro e w1 ⟨⟨t,rfl,ht⟩,aq⟩;rw[zE.out] at ht;have vA:=mA aq;have qU:eP (w.heap.size+1+1) W w1:=aq.block _ (by omega);have di:Below w.heap.size w w1:=hB.trans (aq.mono hB.size);have hcell:∃u,Boxed w1 (w.heap.size+1+1) 9 u:=⟨u,hu.kept (cK aq none) (by simp)⟩;have cS:=hv.kept (cK aq none) (by simp);have xM:=hf.kept (cK aq none) (by simp);have lH:=ai.kept (cK aq none) (by simp[Value.ownBlock];cases A<;>simp);have bf:=cS.cell)
   | (gi_at_builtin;go_must (refine On _ rfl (.tmp 24) (.tmp 25) 58 9 rfl w.heap.size 5 Tryz.underlying58 Tryz.underlying9 vM (.slice A n c) n (Utf.mended (dZ pre)) rfl lH _ pl ht rfl (by omega) di.size ?_);intro A1 c1 w2 hown1 cL;obtain⟨aX,cn,hs1,Ah⟩:=Ml hB h3 vA qU di hcell cS xM lH hown1 cL Hm.out lZ.out;have dG:=aX.cell;have Ug:=aX.frozen))
  exact⟨cn.from _,hs1,Ah⟩
 case done=>
  rintro D ys W hD dS ⟨⟨v,n,hv,ai⟩,hf,hu,hB⟩ hK;obtain⟨A,c,rfl⟩:=rq ai;have hc:=hv.cell;have AH:=hf.cell;have Vi:dZ ys=Utf.pieces b.data.toList:=dS;rw[Vi] at ai AH;obtain⟨t,hcv,ht⟩:=Xy (P:=Tryz.prog) W.drew 58 9 5 Tryz.underlying58 Tryz.underlying5 Tryz.underlying9 (Utf.mended (Utf.pieces b.data.toList)) ai.drew;have Ht:=hide ht;clear ht dS Vi;obtain⟨md,sY⟩:∃md,Utf.mended (Utf.pieces b.data.toList)=md:=⟨_,rfl⟩;obtain⟨fb,mV⟩:∃fb,Utf.dy (Utf.pieces b.data.toList)=fb:=⟨_,rfl⟩;rw[sY] at ai;rw[mV] at AH;have Hmd:=hide sY;have lZ:=hide mV;clear sY mV;gi_wp2
  gi_region
  all_goals gi_wp2
  all_goals
   refine⟨by simp,.inl ⟨_,_,rfl,run_takeDeferred (w:=W.drew) hK,?_⟩⟩;refine⟨_,results_tmp2 rfl _ _ _,?_⟩;exact⟨⟨t,MP rfl (int_eq lZ.out.symm),Ht.out⟩,hB.drew.trans (belowK_b (w:=w) (Nat.le_refl _) W.drew D _ _ (by simp at hD;omega) hK rfl rfl)⟩
 case stop=>
  rintro D c pre W _ _ h _;exact h.elim

theorem YB(s:ByteArray)(w:World)(hs:s.size≤1000000000) :
  Calls Tryz.prog 52 #[.string s] w fun e w'=>e=.returned (.bool (Utf.valid s.data.toList))∧Below w.heap.size w w':=by
 obtain⟨fb,mV⟩:∃fb,Utf.dy (Utf.pieces s.data.toList)=fb:=⟨_,rfl⟩;have HV:=hide (Utf.NV s.data.toList);have lZ:=hide mV;have HL:=hide (ag8 s w hs);clear mV
 go_enter Tryz.func52,Tryz.ntmps52
 go_wp2_with (go_at_call 84;refine HL.out.mono ?_;rintro e w' ⟨⟨t,rfl,_⟩,hb⟩;rw[lZ.out])
 go_ret;exact⟨aO (ck (by rw[HV.out,lZ.out])),hb⟩
end
section
open Go.RowKit Go.Shelf Tk

attribute [local go_sem] Oper.semAt_some

theorem NN(f:Nat×Int→Bool)(hf:∀p,p.2<0→f p=true):∀l:List (Nat×Int),(upTo l).find? f=l.find? f
 | []=>rfl
 | p :: l=>by
  unfold upTo;split
  ·rename_i h
   rw[List.find?_cons,List.find?_cons,hf p h]
  rw[List.find?_cons,List.find?_cons,NN f hf l]
theorem adP{α:Type}{f:α→Bool}{pre rest:List α}{x:α}(h:∀p∈pre,f p=false)(hx:f x=true):(pre++[x]++rest).find? f=some x:=by
 rw[List.append_assoc,List.find?_append,List.find?_eq_none.2 (fun p hp=>by rw[h p hp];simp)];simp[hx]
theorem Nw{ok:Nat→Int→Bool}(bF:∀k r,r<0→ok k r=false){l:L}{pre rest:List (Nat×Int)}{x:Nat×Int}(e:pre++[x]++rest=upTo (Utf.pieces l))(h:∀p∈pre,ok p.1 p.2=true)(hx:ok x.1 x.2=false):stop ok l=some x.1:=by
 unfold stop;rw[←NN _ (fun p hp=>by rw[bF _ _ hp];rfl),←e,adP (fun p hp=>by rw[h p hp];rfl) (by rw[hx];rfl)];rfl
theorem Nx{ok:Nat→Int→Bool}(bF:∀k r,r<0→ok k r=false){l:L}(h:∀p∈upTo (Utf.pieces l),ok p.1 p.2=true):stop ok l=none:=by
 unfold stop;rw[←NN _ (fun p hp=>by rw[bF _ _ hp];rfl),List.find?_eq_none.2 (fun p hp=>by rw[h p hp];simp)];rfl
theorem Jv(r:Int)(h:r<0):bI r=false:=by
 unfold bI within;simp;omega
theorem JQ(r:Int)(h:r<0):iC r=false:=by
 unfold iC within;simp;omega
theorem SL(r:Int)(h:r<0):j5 r=false:=by
 unfold j5;rw[JQ r h];unfold within;simp;omega
theorem V4(k:Nat)(r:Int)(h:r<0):gi k r=false:=by
 unfold gi;rw[JQ r h,SL r h];simp;omega

def Ov(w:World)(pre:List (Nat×Int))(W:World):Prop:=(∀p∈pre,bI p.2=true)∧(∃v,Boxed W w.heap.size 3 v)∧(∃u,Boxed W (w.heap.size+1) 9 u)∧Below w.heap.size w W
def Ow(w:World)(c:Code)(pre:List (Nat×Int))(W:World):Prop :=
 c=.ret∧∃il x,pre=il++[x]∧(∀p∈il,bI p.2=true)∧bI x.2=false∧Boxed W w.heap.size 3 (.int .i64 (x.1:Int))∧Below w.heap.size w W
theorem nO{X:World}{B:Nat}{t:TypeId}{u:Value}{row:Option Nat}{n:Nat}(ai:∀r,row=some r→n≤r∧∃o:Obj,X.heap[r]?=some o∧o.isCells=false)(h:Boxed X B t u):some B≠row:=fun e=>by
 obtain⟨_,o,ho,hc⟩:=ai _ e.symm;rw[show X.heap[_]?=_ from h] at ho;cases ho;cases hc
theorem Zc(w:World):OwnFrom (w.heap.size+1+1) (Ov w):=by
 rintro s X Y row ⟨h1,⟨v,hv⟩,⟨u,hu⟩,h3⟩ hg ai;exact⟨h1,⟨v,hv.kept hg (nO ai hv)⟩,⟨u,hu.kept hg (nO ai hu)⟩,h3.grown hg h3.size (fun k e=>by have:=(ai k e).1;omega)⟩
theorem Zd(w:World)(c:Code):OwnFrom (w.heap.size+1+1) (Ow w c):=by
 rintro s X Y row ⟨h1,p,x,h2,h4,h5,hv,h3⟩ hg ai;exact⟨h1,p,x,h2,h4,h5,hv.kept hg (nO ai hv),h3.grown hg h3.size (fun k e=>by have:=(ai k e).1;omega)⟩

theorem Jl(s:ByteArray)(w:World)(hs:s.size≤1000000000) :
  Calls Tryz.prog 28 #[.string s] w fun e w'=>e=.returned (.int .i64 (bad s.data.toList))∧Below w.heap.size w w':=by
 refine (callsIn_wide (n:=5)).1 ?_;refine callsIn_of_wp_marks Tryz.func28 rfl trivial ?_ rfl;simp only[Tryz.ntmps28,List.size_toArray,List.length_cons,List.length_nil,Nat.reduceAdd,Nat.reduceSub,Array.replicate_succ,Array.replicate_zero,List.push_toArray,List.append_toArray,List.nil_append,List.cons_append]
 gi_wp2_with (refine⟨trivial,?_⟩;gi_at_call 50;refine (callsIn_wide.2 (Nc _ _)).mono ?_;rintro e w' ⟨rfl,rfl⟩)
 have b0:=Boxed.new w 3 (.int .i64 0);have b1:=Boxed.new (w.alloc (.cells #[.int .i64 0] 3)) 9 (.string s);rw[World.size_alloc] at b1;have qE:Below w.heap.size w ((w.alloc (.cells #[.int .i64 0] 3)).alloc (.cells #[.string s] 9)):=((Below.refl _ w).alloc (Nat.le_refl _) _).alloc (by simp) _
 refine wpIn_rangeFunc_ownG rfl (by omega) (gf:=81) (lb:=#[.pointer (some ⟨w.heap.size+1,0,none⟩)]) rfl trivial (enters_of Tryz.func81 (by kernel_rfl) rfl)
  (Nd (5-1) (by omega) (w.heap.size+1) s hs _ (by simp) b1.cell) eP.trans (Ck (by simp)) (Below.refl _ _) (fun _=>rfl)
  (Ov w) (Ow w) (by simpa using Zc w) (fun c=>by simpa using Zd w c)
  ⟨(fun p hp=>by cases hp),⟨_,b0.alloc _⟩,⟨_,b1⟩,qE⟩
  (fun x=>{ tmps:=#[.string s,undef,.pointer (some ⟨w.heap.size,0,none⟩),.int .i64 (x.1:Int),.int .i64 x.2,.string s,
   .func (.func 81) #[] #[.pointer (some ⟨w.heap.size+1,0,none⟩)],.int .i64 (x.1:Int),.int .i64 x.2,undef,undef,undef,undef],defers:=[] }) ?assign ?body ?done ?stop
 case assign=>
  intro l x W K hK;gi_wp2;exact hK
 case body=>
  rintro l pre x W ⟨hp,⟨v,hv⟩,⟨u,hu⟩,hB⟩ hlen;have HP:=hide hp;have h2:w.heap.size+1<W.heap.size:=hu.lt;have HC:=hide (Jy x.2)
  cases hx:bI x.2 with
  | true=>
   rw[hx] at HC;have HX:=hide hx;clear hp hx
   gi_wp2_with (refine⟨trivial,?_⟩;gi_at_call 51;refine (CallsIn.inRound l (callsIn_wide.2 (HC.out _))).mono ?_;rintro e w1 ⟨rfl,hb⟩)
   refine⟨(mA hb).from _,hb.block _ (by omega),fun p hp=>?_,⟨v,hv.kept (cK hb none) (by simp)⟩,⟨u,hu.kept (cK hb none) (by simp)⟩,hB.trans (hb.mono hB.size)⟩
   rcases List.mem_append.1 hp with hp|hp
   ·exact HP.out p hp
   have:p=x:=by simpa using hp
   rw[this];exact HX.out
  | false=>
   rw[hx] at HC;have HX:=hide hx;clear hp hx
   gi_wp2_with (refine⟨trivial,?_⟩;gi_at_call 51;refine (CallsIn.inRound l (callsIn_wide.2 (HC.out _))).mono ?_;rintro e w1 ⟨rfl,hb⟩;have aX:=hv.kept (cK hb none) (by simp);have dG:=aX.cell;have ly:=aX.frozen)
   exact⟨((mA hb).trans (KeepsOthers.setCell _ _ _)).from _,rfl,pre,x,rfl,HP.out,HX.out,aX.set _,(hB.trans (hb.mono hB.size)).setCell (p:=⟨w.heap.size,0,none⟩) (Nat.le_refl _) _⟩
 case done=>
  rintro D ys W hD dS ⟨hp,⟨v,hv⟩,⟨u,hu⟩,hB⟩ hK;have hc:=hv.cell;have hf:=hv.frozen
  have nH:=hide (show bad s.data.toList = -1 from by
   unfold bad;rw[Nx (ok:=fun _ r=>bI r) (fun _ r h=>Jv r h) (by rw[←dS];exact fun p h=>hp p h)])
  clear dS hp;gi_wp2;have cS:=hv.set (.int .i64 (-1));have fV:=(KeepsOthers.setCell W ⟨w.heap.size,0,none⟩ (.int .i64 (-1))).same D _ hK rfl;refine⟨by simp,.inl ⟨_,_,rfl,run_takeDeferred fV,?_⟩⟩;have bf:=cell_kept cS.cell (grownBy_putObj' _ D (.deferred none)) (fun r e=>by cases e;exact⟨_,fV,rfl⟩);refine⟨.int .i64 (-1),?_,?_⟩
  ·simp[results,Tryz.results28,go_sem,bf]
  exact⟨aO (int_eq nH.out.symm),(hB.setCell (p:=⟨w.heap.size,0,none⟩) (Nat.le_refl _) _).trans (belowK_b (w:=w) (Nat.le_refl _) _ D _ _ (by simp at hD;omega) fV rfl rfl)⟩
 case stop=>
  rintro D c pre W hD ⟨rest,hsp⟩ ⟨rfl,il,x,rfl,hp,hx,hv,hB⟩ hK;have hc:=hv.cell;have hf:=hv.frozen
  have nH:=hide (show bad s.data.toList=(x.1:Int) from by
   unfold bad;rw[Nw (ok:=fun _ r=>bI r) (fun _ r h=>Jv r h) hsp (fun p h=>hp p h) hx])
  clear hsp hp hx;gi_wp2;refine⟨by simp,.inl ⟨_,_,rfl,run_takeDeferred hK,?_⟩⟩;have bf:=cell_kept hc (grownBy_putObj' _ D (.deferred none)) (fun r e=>by cases e;exact⟨_,hK,rfl⟩);refine⟨.int .i64 (x.1:Int),?_,?_⟩
  ·simp[results,Tryz.results28,go_sem,bf]
  exact⟨aO (int_eq nH.out.symm),hB.trans (belowK_b (w:=w) (Nat.le_refl _) _ D _ _ (by simp at hD;omega) hK rfl rfl)⟩
end
section
open Go.RowKit Go.Shelf Tk

attribute [local go_sem] Oper.semAt_some

def OA(w:World)(pre:List (Nat×Int))(W:World):Prop :=
 (∀p∈pre,gi p.1 p.2=true)∧Boxed W w.heap.size 91 (.func (.func 182) #[] #[])∧(∃v,Boxed W (w.heap.size+1) 3 v)∧(∃u,Boxed W (w.heap.size+1+1) 9 u)∧Below w.heap.size w W
def OC(w:World)(c:Code)(pre:List (Nat×Int))(W:World):Prop :=
 c=.ret∧∃il x,pre=il++[x]∧(∀p∈il,gi p.1 p.2=true)∧gi x.1 x.2=false∧Boxed W (w.heap.size+1) 3 (.int .i64 (x.1:Int))∧Below w.heap.size w W
theorem Zj(w:World):OwnFrom (w.heap.size+1+1+1) (OA w):=by
 rintro s X Y row ⟨h1,hb,⟨v,hv⟩,⟨u,hu⟩,h3⟩ hg ai;exact⟨h1,hb.kept hg (nO ai hb),⟨v,hv.kept hg (nO ai hv)⟩,⟨u,hu.kept hg (nO ai hu)⟩,h3.grown hg h3.size (fun k e=>by have:=(ai k e).1;omega)⟩
theorem Zl(w:World)(c:Code):OwnFrom (w.heap.size+1+1+1) (OC w c):=by
 rintro s X Y row ⟨h1,p,x,h2,h4,h5,hv,h3⟩ hg ai;exact⟨h1,p,x,h2,h4,h5,hv.kept hg (nO ai hv),h3.grown hg h3.size (fun k e=>by have:=(ai k e).1;omega)⟩
theorem Sy{r:Int}(h:iC r=true):j5 r=true:=by unfold j5;rw[h];rfl

theorem aee(s:ByteArray)(w:World)(hs:s.size≤1000000000) :
  Calls Tryz.prog 159 #[.string s,.func (.func 182) #[] #[]] w fun e w'=>e=.returned (.int .i64 (take s.data.toList:Nat))∧Below w.heap.size w w':=by
 refine (callsIn_wide (n:=5)).1 ?_;refine callsIn_of_wp_marks Tryz.func159 rfl trivial ?_ rfl;simp only[Tryz.ntmps159,List.size_toArray,List.length_cons,List.length_nil,Nat.reduceAdd,Nat.reduceSub,Array.replicate_succ,Array.replicate_zero,List.push_toArray,List.append_toArray,List.nil_append,List.cons_append]
 gi_wp2_with (refine⟨trivial,?_⟩;gi_at_call 50;refine (callsIn_wide.2 (Nc _ _)).mono ?_;rintro e w' ⟨rfl,rfl⟩)
 have b0:=Boxed.new w 91 (.func (.func 182) #[] #[]);have b1:=Boxed.new (w.alloc (.cells #[.func (.func 182) #[] #[]] 91)) 3 (.int .i64 0);rw[World.size_alloc] at b1;have b2:=Boxed.new ((w.alloc (.cells #[.func (.func 182) #[] #[]] 91)).alloc (.cells #[.int .i64 0] 3)) 9 (.string s);rw[World.size_alloc,World.size_alloc] at b2
 have qE:Below w.heap.size w (((w.alloc (.cells #[.func (.func 182) #[] #[]] 91)).alloc (.cells #[.int .i64 0] 3)).alloc (.cells #[.string s] 9)) :=
  (((Below.refl _ w).alloc (Nat.le_refl _) _).alloc (by simp) _).alloc (by simp;omega) _
 refine wpIn_rangeFunc_ownG rfl (by omega) (gf:=81) (lb:=#[.pointer (some ⟨w.heap.size+1+1,0,none⟩)]) rfl trivial (enters_of Tryz.func81 (by kernel_rfl) rfl)
  (Nd (5-1) (by omega) (w.heap.size+1+1) s hs _ (by simp) b2.cell) eP.trans (Ck (by simp)) (Below.refl _ _) (fun _=>rfl)
  (OA w) (OC w) (by simpa using Zj w) (fun c=>by simpa using Zl w c)
  ⟨(fun p hp=>by cases hp),(b0.alloc _).alloc _,⟨_,b1.alloc _⟩,⟨_,b2⟩,qE⟩
  (fun x=>{ tmps:=#[.string s,.func (.func 182) #[] #[],undef,.pointer (some ⟨w.heap.size,0,none⟩),.pointer (some ⟨w.heap.size+1,0,none⟩),.int .i64 (x.1:Int),.int .i64 x.2,.string s,
   .func (.func 81) #[] #[.pointer (some ⟨w.heap.size+1+1,0,none⟩)],.int .i64 (x.1:Int),.int .i64 x.2,undef,undef,undef,undef,undef,undef,undef,undef,undef,undef,undef,undef,undef,undef,undef,undef],defers:=[] }) ?assign ?body ?done ?stop
 case assign=>
  intro l x W K hK;gi_wp2;exact hK
 case body=>
  rintro l pre x W ⟨hp,dz,⟨v,hv⟩,⟨u,hu⟩,hB⟩ hlen;have HP:=hide hp;have h2:w.heap.size+1+1<W.heap.size:=hu.lt;have HF:=hide (JS x.2);have HT:=hide (alV x.2);have qc:=hide (Sy (r:=x.2));clear hp
  by_cases h0:x.1=0
  ·have J1:((x.1:Int)==0)=true:=by simp[h0]
   cases hx:iC x.2 with
   | false=>
    rw[hx] at HF;have HX:=hide (show gi x.1 x.2=false by unfold gi;rw[if_pos h0,hx]);clear hx h0 HT qc
    gi_wp2_with (refine⟨trivial,?_⟩;gi_at_call 186;refine (CallsIn.inRound l (callsIn_wide.2 (HF.out _))).mono ?_;rintro e w1 ⟨rfl,hb⟩;have aX:=hv.kept (cK hb none) (by simp);have dG:=aX.cell;have ly:=aX.frozen)
    refine⟨fun _ h=>(by cases h),?_⟩;gi_wp2;exact⟨((mA hb).trans (KeepsOthers.setCell _ _ _)).from _,rfl,pre,x,rfl,HP.out,HX.out,aX.set _,(hB.trans (hb.mono hB.size)).setCell (p:=⟨w.heap.size+1,0,none⟩) (by simp) _⟩
   | true=>
    rw[hx] at HF;rw[qc.out hx,Bool.true_or] at HT;have HX:=hide (show gi x.1 x.2=true by unfold gi;rw[if_pos h0,hx]);clear hx h0 qc
    gi_wp2_with first
     | (refine⟨trivial,?_⟩;gi_at_call 186;refine (CallsIn.inRound l (callsIn_wide.2 (HF.out _))).mono ?_;rintro e w1 ⟨rfl,hb⟩;have hc0:=(dz.kept (cK hb none) (by simp)).cell)
     | (refine⟨trivial,?_⟩;gi_at_call 182;refine (CallsIn.inRound l (callsIn_wide.2 (HT.out _))).mono ?_;rintro e w2 ⟨rfl,af⟩)
    have hb:=hb.trans (af.mono hb.size);refine⟨(mA hb).from _,hb.block _ (by omega),fun p hp=>?_,dz.kept (cK hb none) (by simp),⟨v,hv.kept (cK hb none) (by simp)⟩,⟨u,hu.kept (cK hb none) (by simp)⟩,hB.trans (hb.mono hB.size)⟩
    rcases List.mem_append.1 hp with hp|hp
    ·exact HP.out p hp
    have:p=x:=by simpa using hp
    rw[this];exact HX.out
  have J1:((x.1:Int)==0)=false:=by rw[beq_eq_false_iff_ne];omega
  have hc0:=dz.cell;obtain⟨b,je⟩:∃b,(j5 x.2||decide (x.2=58))=b:=⟨_,rfl⟩;rw[je] at HT;have HX:=hide (show gi x.1 x.2=b by unfold gi;rw[if_neg h0,je]);clear je h0 qc HF
  gi_wp2_with fail
  refine⟨trivial,?_⟩
  cases b with
  | false=>
   gi_wp2_with (refine⟨trivial,?_⟩;gi_at_call 182;refine (CallsIn.inRound l (callsIn_wide.2 (HT.out _))).mono ?_;rintro e w1 ⟨rfl,hb⟩;have aX:=hv.kept (cK hb none) (by simp);have dG:=aX.cell;have ly:=aX.frozen)
   exact⟨((mA hb).trans (KeepsOthers.setCell _ _ _)).from _,rfl,pre,x,rfl,HP.out,HX.out,aX.set _,(hB.trans (hb.mono hB.size)).setCell (p:=⟨w.heap.size+1,0,none⟩) (by simp) _⟩
  | true=>
   gi_wp2_with (refine⟨trivial,?_⟩;gi_at_call 182;refine (CallsIn.inRound l (callsIn_wide.2 (HT.out _))).mono ?_;rintro e w1 ⟨rfl,hb⟩)
   refine⟨(mA hb).from _,hb.block _ (by omega),fun p hp=>?_,dz.kept (cK hb none) (by simp),⟨v,hv.kept (cK hb none) (by simp)⟩,⟨u,hu.kept (cK hb none) (by simp)⟩,hB.trans (hb.mono hB.size)⟩
   rcases List.mem_append.1 hp with hp|hp
   ·exact HP.out p hp
   have:p=x:=by simpa using hp
   rw[this];exact HX.out
 case done=>
  rintro D ys W hD dS ⟨hp,dz,⟨v,hv⟩,⟨u,hu⟩,hB⟩ hK;have hc:=hv.cell;have hf:=hv.frozen
  have nH:=hide (show take s.data.toList=s.size from by
   unfold take;rw[Nx (ok:=gi) V4 (by rw[←dS];exact fun p h=>hp p h)];exact bL s)
  clear dS hp;gi_wp2;have cS:=hv.set (.int .i64 (s.size:Int));have fV:=(KeepsOthers.setCell W ⟨w.heap.size+1,0,none⟩ (.int .i64 (s.size:Int))).same D _ hK rfl;refine⟨by simp,.inl ⟨_,_,rfl,run_takeDeferred fV,?_⟩⟩;have bf:=cell_kept cS.cell (grownBy_putObj' _ D (.deferred none)) (fun r e=>by cases e;exact⟨_,fV,rfl⟩);refine⟨.int .i64 (s.size:Int),?_,?_⟩
  ·simp[results,Tryz.results159,go_sem,bf]
  exact⟨aO (int_eq (by rw[nH.out])),(hB.setCell (p:=⟨w.heap.size+1,0,none⟩) (by simp) _).trans (belowK_b (w:=w) (Nat.le_refl _) _ D _ _ (by simp at hD;omega) fV rfl rfl)⟩
 case stop=>
  rintro D c pre W hD ⟨rest,hsp⟩ ⟨rfl,il,x,rfl,hp,hx,hv,hB⟩ hK;have hc:=hv.cell;have hf:=hv.frozen
  have nH:=hide (show take s.data.toList=x.1 from by
   unfold take;rw[Nw (ok:=gi) V4 hsp (fun p h=>hp p h) hx]
   rfl)
  clear hsp hp hx;gi_wp2;refine⟨by simp,.inl ⟨_,_,rfl,run_takeDeferred hK,?_⟩⟩;have bf:=cell_kept hc (grownBy_putObj' _ D (.deferred none)) (fun r e=>by cases e;exact⟨_,hK,rfl⟩);refine⟨.int .i64 (x.1:Int),?_,?_⟩
  ·simp[results,Tryz.results159,go_sem,bf]
  exact⟨aO (int_eq (by rw[nH.out])),hB.trans (belowK_b (w:=w) (Nat.le_refl _) _ D _ _ (by simp at hD;omega) hK rfl rfl)⟩
theorem alW(s:ByteArray)(w:World)(hs:s.size≤1000000000) :
  Calls Tryz.prog 151 #[.string s] w fun e w'=>e=.returned (.int .i64 (take s.data.toList:Nat))∧Below w.heap.size w w':=by
 have HF:=hide (aee s w hs);generalize take s.data.toList=n at *
 go_enter Tryz.func151,Tryz.ntmps151
 go_wp2_with (go_at_call 159;refine HF.out.mono ?_;rintro e w' ⟨rfl,hb⟩)
 go_ret;exact⟨rfl,by assumption⟩
end
section
open Go.RowKit Tk

theorem WU:∀(n k:Nat) (l:L),l.length≤n→∀p∈Utf.fN n k l,p.1<k+l.length
 | _,_,[],_,p,hp=>by unfold Utf.fN at hp;cases hp
 | 0,_,c :: l,h,_,_=>absurd h (by simp)
 | n+1,k,c :: l,h,p,hp=>by
  unfold Utf.fN at hp;have hl:=Utf.rC c l
  rcases List.mem_cons.1 hp with rfl|hp
  ·simp
  have:=WU n _ _ (by rw[List.length_drop];simp at h ⊢;omega) p hp;rw[List.length_drop] at this;simp at this hl ⊢;omega
theorem WY(l:L)(p:Nat×Int)(hp:p∈Utf.pieces l):p.1<l.length:=by
 have:=WU l.length 0 l (Nat.le_refl _) p hp;omega
theorem F8(l:L):take l≤l.length:=by
 unfold take stop
 cases h:(Utf.pieces l).find? fun p=>!gi p.1 p.2 with
 | none=>simp
 | some x=>
  have hm:=List.mem_of_find?_eq_some h;simp only[Option.map_some,Option.getD_some];exact Nat.le_of_lt (WY l x hm)

theorem V5(w:World)(X:Nat)(s:ByteArray)(k:Nat)(hX:Sc w X s k)(ha:k≤s.size)(hs:s.size≤1000000000) :
  Calls Tryz.prog 115 #[.pointer (some ⟨X,0,none⟩)] w fun e w'=>e=.returned (.string (s.extract k (k+take (s.data.toList.drop k))))∧Sc w' X s (k+take (s.data.toList.drop k))∧ag X w w':=by
 have HP:=hide (show ∀W,Calls Tryz.prog 151 #[.string (s.extract k s.size)] W fun e w'=>e=.returned (.int .i64 (take (s.data.toList.drop k):Nat))∧Below W.heap.size W w' from fun W=>by
  have h:=alW (s.extract k s.size) W (by rw[ByteArray.size_extract];omega);rw[iY,aP] at h;rw[iY];exact h)
 have hn:take (s.data.toList.drop k)≤s.size-k:=by
  have:=F8 (s.data.toList.drop k);rwa[List.length_drop,bL] at this
 generalize take (s.data.toList.drop k)=n at *
 have HK:=hide hX;have HB:=hide (ag.refl X w);have lC:¬s.size<k:=by omega
 clear hX
 go_enter Tryz.func115,Tryz.ntmps115
 go_wp2;refine wp_region_held_drew (S:=fun W=>Sc W X s (k)∧ag X w W) (by kernel_rfl) ?_ (fun hHeld=>?_)
 ·(try dsimp only)
  first|exact⟨ae.drew HK.out,ag.drew HB.out⟩|exact⟨ae.go hHeld.1 hb,ag.go hHeld.2 hb⟩|exact hHeld
 change wpAnyH _ _ _ _ _ 11 #[false,false,false,false,false,false,false,false,false,false,false] _ _;iterate 9 (refine aY (v:=?_) rfl rfl hHeld ?_ ?_;rotate_left;(· (intro w hSw;(try dsimp only at hSw);have q0:=Sc.c0 hSw.1;have q1:=Sc.c1 hSw.1;go_simp;try with_reducible rfl));(try simp only[nx,List.set]))
 refine jg (i:=9) rfl (by kernel_rfl) (by kernel_rfl) (fun K hK=>?_);go_simp
 go_at_call 151
 refine (HP.out _).mono ?_;rintro e w' ⟨rfl,hb⟩;(try dsimp only);refine hK.out _ _ ?_ (fun aV=>?_)
 ·(try dsimp only)
  first|exact⟨ae.drew HK.out,ag.drew HB.out⟩|exact⟨ae.go hHeld.1 hb,ag.go hHeld.2 hb⟩|exact hHeld
 clear hK K hHeld;have hHeld:=aV;clear aV;(try simp only[Act.put,List.setIfInBounds_toArray,List.set_cons_zero,List.set_cons_succ]);(refine aY (v:=?_) rfl rfl hHeld ?_ ?_;rotate_left;(· (intro w hSw;(try dsimp only at hSw);go_simp;try with_reducible rfl));(try simp only[nx,List.set]));refine wpAnyH_done (by kernel_rfl) ?_ _;have K1:=hide hHeld.1;have B1:=hide hHeld.2;have q1:=Sc.c1 hHeld.1;have f1:=Sc.f1 hHeld.1;clear hHeld HP HK HB;have hw0:IntKind.i64.wrap ((k:Int)+n)=(k:Int)+n:=IntWalk.i64_in _ (by omega);have lK:IntKind.i64.wrap ((k:Int)+n-n)=(k:Int):=by rw[show (k:Int)+n-n=k by omega];exact IntWalk.i64_in _ (by omega)
 have hw2:IntKind.i64.wrap (k:Int)=(k:Int):=IntWalk.i64_in _ (by omega);have h4:(0:Int)≤(k:Int)+n∧(k:Int)+n≤(s.size:Int):=by omega
 have h5:(k:Int)≤(k:Int)+n:=by omega
 have h6:((k:Int)+n).toNat=k+n:=by omega
 have h7:(0:Int)≤(k:Int):=by omega
 go_wp2;have K2:=hide (Sc.move K1.out (k+n));have B2:=hide (B1.out.setCell (p:=⟨X,1,none⟩) (.inl rfl) (.int .i64 ((k+n:Nat):Int)));clear q1 f1 K1 B1;refine wp_region_held_drew (S:=fun W=>Sc W X s (k+n)∧ag X w W) (by kernel_rfl) ?_ (fun hHeld=>?_)
 ·(try dsimp only)
  first|exact⟨ae.drew K2.out,ag.drew B2.out⟩|exact⟨ae.go hHeld.1 hb,ag.go hHeld.2 hb⟩|exact hHeld
 change wpAnyH _ _ _ _ _ 16 #[false,false,false,false,false,false,false,false,false,false,false,false,false,false,false,false] _ _;iterate 16 (refine aY (v:=?_) rfl rfl hHeld ?_ ?_;rotate_left;(· (intro w hSw;(try dsimp only at hSw);have q0:=Sc.c0 hSw.1;have q1:=Sc.c1 hSw.1;go_simp;try with_reducible rfl));(try simp only[nx,List.set]))
 refine wpAnyH_done (by kernel_rfl) ?_ _;go_wp2;go_ret;exact⟨rfl,hHeld.1,hHeld.2⟩
end
end Go.Proofs.YtnbmfljhbpfilaaGreatDoor
