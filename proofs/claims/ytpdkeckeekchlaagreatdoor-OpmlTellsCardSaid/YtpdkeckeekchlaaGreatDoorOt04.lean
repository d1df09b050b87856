/- Characters: the program's 'Bad', 'front', 'Take'. And more. -/
import Derived.Test.YtpdkeckeekchlaaGreatDoorOt03
set_option linter.unusedSimpArgs false
set_option maxRecDepth 100000
set_option maxHeartbeats 8000000
set_option linter.unusedVariables false
namespace Go.Proofs.YtpdkeckeekchlaaGreatDoor
section
open Go.RowKit Go.Shelf Tk

attribute [local go_sem] Oper.semAt_some

theorem Oc(f:Nat×Int→Bool)(hf:∀p,p.2<0→f p=true):∀l:List (Nat×Int),(upTo l).find? f=l.find? f
 | []=>rfl
 | p :: l=>by
  unfold upTo;split
  ·rename_i h
   rw[List.find?_cons,List.find?_cons,hf p h]
  rw[List.find?_cons,List.find?_cons,Oc f hf l]
theorem aeb{α:Type}{f:α→Bool}{pre rest:List α}{x:α}(h:∀p∈pre,f p=false)(hx:f x=true):(pre++[x]++rest).find? f=some x:=by
 rw[List.append_assoc,List.find?_append,List.find?_eq_none.2 (fun p hp=>by rw[h p hp];simp)];simp[hx]
theorem NU{ok:Nat→Int→Bool}(bK:∀k r,r<0→ok k r=false){l:L}{pre rest:List (Nat×Int)}{x:Nat×Int}(e:pre++[x]++rest=upTo (Utf.pieces l))(h:∀p∈pre,ok p.1 p.2=true)(hx:ok x.1 x.2=false):stop ok l=some x.1:=by
 unfold stop;rw[←Oc _ (fun p hp=>by rw[bK _ _ hp];rfl),←e,aeb (fun p hp=>by rw[h p hp];rfl) (by rw[hx];rfl)];rfl
theorem NV{ok:Nat→Int→Bool}(bK:∀k r,r<0→ok k r=false){l:L}(h:∀p∈upTo (Utf.pieces l),ok p.1 p.2=true):stop ok l=none:=by
 unfold stop;rw[←Oc _ (fun p hp=>by rw[bK _ _ hp];rfl),List.find?_eq_none.2 (fun p hp=>by rw[h p hp];simp)];rfl
theorem J5(r:Int)(h:r<0):bX r=false:=by
 unfold bX within;simp;omega
theorem Kt(r:Int)(h:r<0):kp r=false:=by
 unfold kp within;simp;omega
theorem Tq(r:Int)(h:r<0):ly r=false:=by
 unfold ly;rw[Kt r h];unfold within;simp;omega
theorem WG(k:Nat)(r:Int)(h:r<0):kM k r=false:=by
 unfold kM;rw[Kt r h,Tq r h];simp;omega

def OV(w:World)(pre:List (Nat×Int))(W:World):Prop:=(∀p∈pre,bX p.2=true)∧(∃v,Boxed W w.heap.size 3 v)∧(∃u,Boxed W (w.heap.size+1) 9 u)∧Below w.heap.size w W
def OX(w:World)(c:Code)(pre:List (Nat×Int))(W:World):Prop :=
 c=.ret∧∃iF x,pre=iF++[x]∧(∀p∈iF,bX p.2=true)∧bX x.2=false∧Boxed W w.heap.size 3 (.int .i64 (x.1:Int))∧Below w.heap.size w W
theorem ow{X:World}{B:Nat}{t:TypeId}{u:Value}{row:Option Nat}{n:Nat}(ah:∀r,row=some r→n≤r∧∃o:Obj,X.heap[r]?=some o∧o.isCells=false)(h:Boxed X B t u):some B≠row:=fun e=>by
 obtain⟨_,o,ho,hc⟩:=ah _ e.symm;rw[show X.heap[_]?=_ from h] at ho;cases ho;cases hc
theorem Zz(w:World):OwnFrom (w.heap.size+1+1) (OV w):=by
 rintro s X Y row ⟨h1,⟨v,hv⟩,⟨u,hu⟩,h3⟩ hg ah;exact⟨h1,⟨v,hv.kept hg (ow ah hv)⟩,⟨u,hu.kept hg (ow ah hu)⟩,h3.grown hg h3.size (fun k e=>by have:=(ah k e).1;omega)⟩
theorem ZA(w:World)(c:Code):OwnFrom (w.heap.size+1+1) (OX w c):=by
 rintro s X Y row ⟨h1,p,x,h2,h4,h5,hv,h3⟩ hg ah;exact⟨h1,p,x,h2,h4,h5,hv.kept hg (ow ah hv),h3.grown hg h3.size (fun k e=>by have:=(ah k e).1;omega)⟩

theorem JW(s:ByteArray)(w:World)(hs:s.size≤1000000000) :
  Calls Tryz.prog 47 #[.string s] w fun e w'=>e=.returned (.int .i64 (bad s.data.toList))∧Below w.heap.size w w':=by
 refine (callsIn_wide (n:=5)).1 ?_;refine callsIn_of_wp_marks Tryz.func47 rfl trivial ?_ rfl;simp only[Tryz.ntmps47,List.size_toArray,List.length_cons,List.length_nil,Nat.reduceAdd,Nat.reduceSub,Array.replicate_succ,Array.replicate_zero,List.push_toArray,List.append_toArray,List.nil_append,List.cons_append]
 gi_wp2_with (refine⟨trivial,?_⟩;gi_at_call 72;refine (callsIn_wide.2 (NI _ _)).mono ?_;rintro e w' ⟨rfl,rfl⟩)
 have b0:=Boxed.new w 3 (.int .i64 0);have b1:=Boxed.new (w.alloc (.cells #[.int .i64 0] 3)) 9 (.string s);rw[World.size_alloc] at b1;have rq:Below w.heap.size w ((w.alloc (.cells #[.int .i64 0] 3)).alloc (.cells #[.string s] 9)):=((Below.refl _ w).alloc (Nat.le_refl _) _).alloc (by simp) _
 refine wpIn_rangeFunc_ownG rfl (by omega) (gf:=105) (lb:=#[.pointer (some ⟨w.heap.size+1,0,none⟩)]) rfl trivial (enters_of Tryz.func105 (by kernel_rfl) rfl)
  (NJ (5-1) (by omega) (w.heap.size+1) s hs _ (by simp) b1.cell) eX.trans (CS (by simp)) (Below.refl _ _) (fun _=>rfl)
  (OV w) (OX w) (by simpa using Zz w) (fun c=>by simpa using ZA w c)
  ⟨(fun p hp=>by cases hp),⟨_,b0.alloc _⟩,⟨_,b1⟩,rq⟩
  (fun x=>{ tmps:=#[.string s,undef,.pointer (some ⟨w.heap.size,0,none⟩),.int .i64 (x.1:Int),.int .i64 x.2,.string s,
   .func (.func 105) #[] #[.pointer (some ⟨w.heap.size+1,0,none⟩)],.int .i64 (x.1:Int),.int .i64 x.2,undef,undef,undef,undef],defers:=[] }) ?assign ?body ?done ?stop
 case assign=>
  intro l x W K hK;gi_wp2;exact hK
 case body=>
  rintro l pre x W ⟨hp,⟨v,hv⟩,⟨u,hu⟩,hB⟩ hlen;have HP:=ap hp;have h2:w.heap.size+1<W.heap.size:=hu.lt;have HC:=ap (J7 x.2)
  cases hx:bX x.2 with
  | true=>
   rw[hx] at HC;have HX:=ap hx;clear hp hx
   gi_wp2_with (refine⟨trivial,?_⟩;gi_at_call 73;refine (CallsIn.inRound l (callsIn_wide.2 (HC.o _))).mono ?_;rintro e w1 ⟨rfl,hb⟩)
   refine⟨(mN hb).from _,hb.block _ (by omega),fun p hp=>?_,⟨v,hv.kept (cM hb none) (by simp)⟩,⟨u,hu.kept (cM hb none) (by simp)⟩,hB.trans (hb.mono hB.size)⟩
   rcases List.mem_append.1 hp with hp|hp
   ·exact HP.o p hp
   have:p=x:=by simpa using hp
   rw[this];exact HX.o
  | false=>
   rw[hx] at HC;have HX:=ap hx;clear hp hx
   gi_wp2_with (refine⟨trivial,?_⟩;gi_at_call 73;refine (CallsIn.inRound l (callsIn_wide.2 (HC.o _))).mono ?_;rintro e w1 ⟨rfl,hb⟩;have aU:=hv.kept (cM hb none) (by simp);have cR:=aU.cell;have nz:=aU.frozen)
   exact⟨((mN hb).trans (KeepsOthers.setCell _ _ _)).from _,rfl,pre,x,rfl,HP.o,HX.o,aU.set _,(hB.trans (hb.mono hB.size)).setCell (p:=⟨w.heap.size,0,none⟩) (Nat.le_refl _) _⟩
 case done=>
  rintro D ys W hD dW ⟨hp,⟨v,hv⟩,⟨u,hu⟩,hB⟩ hK;have hc:=hv.cell;have hf:=hv.frozen
  have og:=ap (show bad s.data.toList = -1 from by
   unfold bad;rw[NV (ok:=fun _ r=>bX r) (fun _ r h=>J5 r h) (by rw[←dW];exact fun p h=>hp p h)])
  clear dW hp;gi_wp2;have cQ:=hv.set (.int .i64 (-1));have gy:=(KeepsOthers.setCell W ⟨w.heap.size,0,none⟩ (.int .i64 (-1))).same D _ hK rfl;refine⟨by simp,.inl ⟨_,_,rfl,run_takeDeferred gy,?_⟩⟩;have bj:=cell_kept cQ.cell (grownBy_putObj' _ D (.deferred none)) (fun r e=>by cases e;exact⟨_,gy,rfl⟩);refine⟨.int .i64 (-1),?_,?_⟩
  ·simp[results,Tryz.results47,go_sem,bj]
  exact⟨aC (int_eq og.o.symm),(hB.setCell (p:=⟨w.heap.size,0,none⟩) (Nat.le_refl _) _).trans (belowK_b (w:=w) (Nat.le_refl _) _ D _ _ (by simp at hD;omega) gy rfl rfl)⟩
 case stop=>
  rintro D c pre W hD ⟨rest,hsp⟩ ⟨rfl,iF,x,rfl,hp,hx,hv,hB⟩ hK;have hc:=hv.cell;have hf:=hv.frozen
  have og:=ap (show bad s.data.toList=(x.1:Int) from by
   unfold bad;rw[NU (ok:=fun _ r=>bX r) (fun _ r h=>J5 r h) hsp (fun p h=>hp p h) hx])
  clear hsp hp hx;gi_wp2;refine⟨by simp,.inl ⟨_,_,rfl,run_takeDeferred hK,?_⟩⟩;have bj:=cell_kept hc (grownBy_putObj' _ D (.deferred none)) (fun r e=>by cases e;exact⟨_,hK,rfl⟩);refine⟨.int .i64 (x.1:Int),?_,?_⟩
  ·simp[results,Tryz.results47,go_sem,bj]
  exact⟨aC (int_eq og.o.symm),hB.trans (belowK_b (w:=w) (Nat.le_refl _) _ D _ _ (by simp at hD;omega) hK rfl rfl)⟩
end
section
open Go.RowKit Go.Shelf Tk

attribute [local go_sem] Oper.semAt_some

def Pa(w:World)(pre:List (Nat×Int))(W:World):Prop :=
 (∀p∈pre,kM p.1 p.2=true)∧Boxed W w.heap.size 121 (.func (.func 223) #[] #[])∧(∃v,Boxed W (w.heap.size+1) 3 v)∧(∃u,Boxed W (w.heap.size+1+1) 9 u)∧Below w.heap.size w W
def Pd(w:World)(c:Code)(pre:List (Nat×Int))(W:World):Prop :=
 c=.ret∧∃iF x,pre=iF++[x]∧(∀p∈iF,kM p.1 p.2=true)∧kM x.1 x.2=false∧Boxed W (w.heap.size+1) 3 (.int .i64 (x.1:Int))∧Below w.heap.size w W
theorem ZH(w:World):OwnFrom (w.heap.size+1+1+1) (Pa w):=by
 rintro s X Y row ⟨h1,hb,⟨v,hv⟩,⟨u,hu⟩,h3⟩ hg ah;exact⟨h1,hb.kept hg (ow ah hb),⟨v,hv.kept hg (ow ah hv)⟩,⟨u,hu.kept hg (ow ah hu)⟩,h3.grown hg h3.size (fun k e=>by have:=(ah k e).1;omega)⟩
theorem ZJ(w:World)(c:Code):OwnFrom (w.heap.size+1+1+1) (Pd w c):=by
 rintro s X Y row ⟨h1,p,x,h2,h4,h5,hv,h3⟩ hg ah;exact⟨h1,p,x,h2,h4,h5,hv.kept hg (ow ah hv),h3.grown hg h3.size (fun k e=>by have:=(ah k e).1;omega)⟩
theorem SZ{r:Int}(h:kp r=true):ly r=true:=by unfold ly;rw[h];rfl

theorem aeB(s:ByteArray)(w:World)(hs:s.size≤1000000000) :
  Calls Tryz.prog 202 #[.string s,.func (.func 223) #[] #[]] w fun e w'=>e=.returned (.int .i64 (take s.data.toList:Nat))∧Below w.heap.size w w':=by
 refine (callsIn_wide (n:=5)).1 ?_;refine callsIn_of_wp_marks Tryz.func202 rfl trivial ?_ rfl;simp only[Tryz.ntmps202,List.size_toArray,List.length_cons,List.length_nil,Nat.reduceAdd,Nat.reduceSub,Array.replicate_succ,Array.replicate_zero,List.push_toArray,List.append_toArray,List.nil_append,List.cons_append]
 gi_wp2_with (refine⟨trivial,?_⟩;gi_at_call 72;refine (callsIn_wide.2 (NI _ _)).mono ?_;rintro e w' ⟨rfl,rfl⟩)
 have b0:=Boxed.new w 121 (.func (.func 223) #[] #[]);have b1:=Boxed.new (w.alloc (.cells #[.func (.func 223) #[] #[]] 121)) 3 (.int .i64 0);rw[World.size_alloc] at b1;have b2:=Boxed.new ((w.alloc (.cells #[.func (.func 223) #[] #[]] 121)).alloc (.cells #[.int .i64 0] 3)) 9 (.string s);rw[World.size_alloc,World.size_alloc] at b2
 have rq:Below w.heap.size w (((w.alloc (.cells #[.func (.func 223) #[] #[]] 121)).alloc (.cells #[.int .i64 0] 3)).alloc (.cells #[.string s] 9)) :=
  (((Below.refl _ w).alloc (Nat.le_refl _) _).alloc (by simp) _).alloc (by simp;omega) _
 refine wpIn_rangeFunc_ownG rfl (by omega) (gf:=105) (lb:=#[.pointer (some ⟨w.heap.size+1+1,0,none⟩)]) rfl trivial (enters_of Tryz.func105 (by kernel_rfl) rfl)
  (NJ (5-1) (by omega) (w.heap.size+1+1) s hs _ (by simp) b2.cell) eX.trans (CS (by simp)) (Below.refl _ _) (fun _=>rfl)
  (Pa w) (Pd w) (by simpa using ZH w) (fun c=>by simpa using ZJ w c)
  ⟨(fun p hp=>by cases hp),(b0.alloc _).alloc _,⟨_,b1.alloc _⟩,⟨_,b2⟩,rq⟩
  (fun x=>{ tmps:=#[.string s,.func (.func 223) #[] #[],undef,.pointer (some ⟨w.heap.size,0,none⟩),.pointer (some ⟨w.heap.size+1,0,none⟩),.int .i64 (x.1:Int),.int .i64 x.2,.string s,
   .func (.func 105) #[] #[.pointer (some ⟨w.heap.size+1+1,0,none⟩)],.int .i64 (x.1:Int),.int .i64 x.2,undef,undef,undef,undef,undef,undef,undef,undef,undef,undef,undef,undef,undef,undef,undef,undef],defers:=[] }) ?assign ?body ?done ?stop
 case assign=>
  intro l x W K hK;gi_wp2;exact hK
 case body=>
  rintro l pre x W ⟨hp,dA,⟨v,hv⟩,⟨u,hu⟩,hB⟩ hlen;have HP:=ap hp;have h2:w.heap.size+1+1<W.heap.size:=hu.lt;have HF:=ap (Kv x.2);have HT:=ap (amA x.2);have qN:=ap (SZ (r:=x.2));clear hp
  by_cases h0:x.1=0
  ·have KH:((x.1:Int)==0)=true:=by simp[h0]
   cases hx:kp x.2 with
   | false=>
    rw[hx] at HF;have HX:=ap (show kM x.1 x.2=false by unfold kM;rw[if_pos h0,hx]);clear hx h0 HT qN
    gi_wp2_with (refine⟨trivial,?_⟩;gi_at_call 227;refine (CallsIn.inRound l (callsIn_wide.2 (HF.o _))).mono ?_;rintro e w1 ⟨rfl,hb⟩;have aU:=hv.kept (cM hb none) (by simp);have cR:=aU.cell;have nz:=aU.frozen)
    refine⟨fun _ h=>(by cases h),?_⟩;gi_wp2;exact⟨((mN hb).trans (KeepsOthers.setCell _ _ _)).from _,rfl,pre,x,rfl,HP.o,HX.o,aU.set _,(hB.trans (hb.mono hB.size)).setCell (p:=⟨w.heap.size+1,0,none⟩) (by simp) _⟩
   | true=>
    rw[hx] at HF;rw[qN.o hx,Bool.true_or] at HT;have HX:=ap (show kM x.1 x.2=true by unfold kM;rw[if_pos h0,hx]);clear hx h0 qN
    gi_wp2_with first
     | (refine⟨trivial,?_⟩;gi_at_call 227;refine (CallsIn.inRound l (callsIn_wide.2 (HF.o _))).mono ?_;rintro e w1 ⟨rfl,hb⟩;have hc0:=(dA.kept (cM hb none) (by simp)).cell)
     | (refine⟨trivial,?_⟩;gi_at_call 223;refine (CallsIn.inRound l (callsIn_wide.2 (HT.o _))).mono ?_;rintro e w2 ⟨rfl,af⟩)
    have hb:=hb.trans (af.mono hb.size);refine⟨(mN hb).from _,hb.block _ (by omega),fun p hp=>?_,dA.kept (cM hb none) (by simp),⟨v,hv.kept (cM hb none) (by simp)⟩,⟨u,hu.kept (cM hb none) (by simp)⟩,hB.trans (hb.mono hB.size)⟩
    rcases List.mem_append.1 hp with hp|hp
    ·exact HP.o p hp
    have:p=x:=by simpa using hp
    rw[this];exact HX.o
  have KH:((x.1:Int)==0)=false:=by rw[beq_eq_false_iff_ne];omega
  have hc0:=dA.cell;obtain⟨b,fI⟩:∃b,(ly x.2||decide (x.2=58))=b:=⟨_,rfl⟩;rw[fI] at HT;have HX:=ap (show kM x.1 x.2=b by unfold kM;rw[if_neg h0,fI]);clear fI h0 qN HF
  gi_wp2_with fail
  refine⟨trivial,?_⟩
  cases b with
  | false=>
   gi_wp2_with (refine⟨trivial,?_⟩;gi_at_call 223;refine (CallsIn.inRound l (callsIn_wide.2 (HT.o _))).mono ?_;rintro e w1 ⟨rfl,hb⟩;have aU:=hv.kept (cM hb none) (by simp);have cR:=aU.cell;have nz:=aU.frozen)
   exact⟨((mN hb).trans (KeepsOthers.setCell _ _ _)).from _,rfl,pre,x,rfl,HP.o,HX.o,aU.set _,(hB.trans (hb.mono hB.size)).setCell (p:=⟨w.heap.size+1,0,none⟩) (by simp) _⟩
  | true=>
   gi_wp2_with (refine⟨trivial,?_⟩;gi_at_call 223;refine (CallsIn.inRound l (callsIn_wide.2 (HT.o _))).mono ?_;rintro e w1 ⟨rfl,hb⟩)
   refine⟨(mN hb).from _,hb.block _ (by omega),fun p hp=>?_,dA.kept (cM hb none) (by simp),⟨v,hv.kept (cM hb none) (by simp)⟩,⟨u,hu.kept (cM hb none) (by simp)⟩,hB.trans (hb.mono hB.size)⟩
   rcases List.mem_append.1 hp with hp|hp
   ·exact HP.o p hp
   have:p=x:=by simpa using hp
   rw[this];exact HX.o
 case done=>
  rintro D ys W hD dW ⟨hp,dA,⟨v,hv⟩,⟨u,hu⟩,hB⟩ hK;have hc:=hv.cell;have hf:=hv.frozen
  have og:=ap (show take s.data.toList=s.size from by
   unfold take;rw[NV (ok:=kM) WG (by rw[←dW];exact fun p h=>hp p h)];exact bV s)
  clear dW hp;gi_wp2;have cQ:=hv.set (.int .i64 (s.size:Int));have gy:=(KeepsOthers.setCell W ⟨w.heap.size+1,0,none⟩ (.int .i64 (s.size:Int))).same D _ hK rfl;refine⟨by simp,.inl ⟨_,_,rfl,run_takeDeferred gy,?_⟩⟩;have bj:=cell_kept cQ.cell (grownBy_putObj' _ D (.deferred none)) (fun r e=>by cases e;exact⟨_,gy,rfl⟩);refine⟨.int .i64 (s.size:Int),?_,?_⟩
  ·simp[results,Tryz.results202,go_sem,bj]
  exact⟨aC (int_eq (by rw[og.o])),(hB.setCell (p:=⟨w.heap.size+1,0,none⟩) (by simp) _).trans (belowK_b (w:=w) (Nat.le_refl _) _ D _ _ (by simp at hD;omega) gy rfl rfl)⟩
 case stop=>
  rintro D c pre W hD ⟨rest,hsp⟩ ⟨rfl,iF,x,rfl,hp,hx,hv,hB⟩ hK;have hc:=hv.cell;have hf:=hv.frozen
  have og:=ap (show take s.data.toList=x.1 from by
   unfold take;rw[NU (ok:=kM) WG hsp (fun p h=>hp p h) hx]
   rfl)
  clear hsp hp hx;gi_wp2;refine⟨by simp,.inl ⟨_,_,rfl,run_takeDeferred hK,?_⟩⟩;have bj:=cell_kept hc (grownBy_putObj' _ D (.deferred none)) (fun r e=>by cases e;exact⟨_,hK,rfl⟩);refine⟨.int .i64 (x.1:Int),?_,?_⟩
  ·simp[results,Tryz.results202,go_sem,bj]
  exact⟨aC (int_eq (by rw[og.o])),hB.trans (belowK_b (w:=w) (Nat.le_refl _) _ D _ _ (by simp at hD;omega) hK rfl rfl)⟩
theorem amB(s:ByteArray)(w:World)(hs:s.size≤1000000000) :
  Calls Tryz.prog 194 #[.string s] w fun e w'=>e=.returned (.int .i64 (take s.data.toList:Nat))∧Below w.heap.size w w':=by
 have HF:=ap (aeB s w hs);generalize take s.data.toList=n at *
 go_enter Tryz.func194,Tryz.ntmps194
 go_wp2_with (go_at_call 202;refine HF.o.mono ?_;rintro e w' ⟨rfl,hb⟩)
 go_ret;exact⟨rfl,by assumption⟩
end
section
open Go.RowKit Tk

theorem Xs:∀(n k:Nat) (l:L),l.length≤n→∀p∈Utf.gi n k l,p.1<k+l.length
 | _,_,[],_,p,hp=>by unfold Utf.gi at hp;cases hp
 | 0,_,c :: l,h,_,_=>absurd h (by simp)
 | n+1,k,c :: l,h,p,hp=>by
  unfold Utf.gi at hp;have hl:=Utf.uu c l
  rcases List.mem_cons.1 hp with rfl|hp
  ·simp
  have:=Xs n _ _ (by rw[List.length_drop];simp at h ⊢;omega) p hp;rw[List.length_drop] at this;simp at this hl ⊢;omega
theorem Xw(l:L)(p:Nat×Int)(hp:p∈Utf.pieces l):p.1<l.length:=by
 have:=Xs l.length 0 l (Nat.le_refl _) p hp;omega
theorem GV(l:L):take l≤l.length:=by
 unfold take stop
 cases h:(Utf.pieces l).find? fun p=>!kM p.1 p.2 with
 | none=>simp
 | some x=>
  have hm:=List.mem_of_find?_eq_some h;simp only[Option.map_some,Option.getD_some];exact Nat.le_of_lt (Xw l x hm)

theorem WH(w:World)(X:Nat)(s:ByteArray)(k:Nat)(hX:Sc w X s k)(ha:k≤s.size)(hs:s.size≤1000000000) :
  Calls Tryz.prog 144 #[.pointer (some ⟨X,0,none⟩)] w fun e w'=>e=.returned (.string (s.extract k (k+take (s.data.toList.drop k))))∧Sc w' X s (k+take (s.data.toList.drop k))∧ai X w w':=by
 have HP:=ap (show ∀W,Calls Tryz.prog 194 #[.string (s.extract k s.size)] W fun e w'=>e=.returned (.int .i64 (take (s.data.toList.drop k):Nat))∧Below W.heap.size W w' from fun W=>by
  have h:=amB (s.extract k s.size) W (by rw[ByteArray.size_extract];omega);rw[ko,aZ] at h;rw[ko];exact h)
 have hn:take (s.data.toList.drop k)≤s.size-k:=by
  have:=GV (s.data.toList.drop k);rwa[List.length_drop,bV] at this
 generalize take (s.data.toList.drop k)=n at *
 have HK:=ap hX;have HB:=ap (ai.refl X w);have pZ:¬s.size<k:=by omega
 clear hX
 go_enter Tryz.func144,Tryz.ntmps144
 go_wp2;refine wp_region_held_drew (S:=fun W=>Sc W X s (k)∧ai X w W) (by kernel_rfl) ?_ (fun hHeld=>?_)
 ·(try dsimp only)
  first|exact⟨ae.drew HK.o,ai.drew HB.o⟩|exact⟨ae.go hHeld.1 hb,ai.go hHeld.2 hb⟩|exact hHeld
 change wpAnyH _ _ _ _ _ 11 #[false,false,false,false,false,false,false,false,false,false,false] _ _;iterate 9 (refine aJ (v:=?_) rfl rfl hHeld ?_ ?_;rotate_left;(· (intro w hSw;(try dsimp only at hSw);have q0:=Sc.c0 hSw.1;have q1:=Sc.c1 hSw.1;go_simp;try with_reducible rfl));(try simp only[nx,List.set]))
 refine fU (i:=9) rfl (by kernel_rfl) (by kernel_rfl) (fun K hK=>?_);go_simp
 go_at_call 194
 refine (HP.o _).mono ?_;rintro e w' ⟨rfl,hb⟩;(try dsimp only);refine hK.out _ _ ?_ (fun aL=>?_)
 ·(try dsimp only)
  first|exact⟨ae.drew HK.o,ai.drew HB.o⟩|exact⟨ae.go hHeld.1 hb,ai.go hHeld.2 hb⟩|exact hHeld
 clear hK K hHeld;have hHeld:=aL;clear aL;(try simp only[Act.put,List.setIfInBounds_toArray,List.set_cons_zero,List.set_cons_succ]);(refine aJ (v:=?_) rfl rfl hHeld ?_ ?_;rotate_left;(· (intro w hSw;(try dsimp only at hSw);go_simp;try with_reducible rfl));(try simp only[nx,List.set]));refine wpAnyH_done (by kernel_rfl) ?_ _;have K1:=ap hHeld.1;have B1:=ap hHeld.2;have q1:=Sc.c1 hHeld.1;have f1:=Sc.f1 hHeld.1;clear hHeld HP HK HB;have hw0:IntKind.i64.wrap ((k:Int)+n)=(k:Int)+n:=IntWalk.i64_in _ (by omega);have jN:IntKind.i64.wrap ((k:Int)+n-n)=(k:Int):=by rw[show (k:Int)+n-n=k by omega];exact IntWalk.i64_in _ (by omega)
 have hw2:IntKind.i64.wrap (k:Int)=(k:Int):=IntWalk.i64_in _ (by omega);have h4:(0:Int)≤(k:Int)+n∧(k:Int)+n≤(s.size:Int):=by omega
 have h5:(k:Int)≤(k:Int)+n:=by omega
 have h6:((k:Int)+n).toNat=k+n:=by omega
 have h7:(0:Int)≤(k:Int):=by omega
 go_wp2;have K2:=ap (Sc.move K1.o (k+n));have B2:=ap (B1.o.setCell (p:=⟨X,1,none⟩) (.inl rfl) (.int .i64 ((k+n:Nat):Int)));clear q1 f1 K1 B1;refine wp_region_held_drew (S:=fun W=>Sc W X s (k+n)∧ai X w W) (by kernel_rfl) ?_ (fun hHeld=>?_)
 ·(try dsimp only)
  first|exact⟨ae.drew K2.o,ai.drew B2.o⟩|exact⟨ae.go hHeld.1 hb,ai.go hHeld.2 hb⟩|exact hHeld
 change wpAnyH _ _ _ _ _ 16 #[false,false,false,false,false,false,false,false,false,false,false,false,false,false,false,false] _ _;iterate 16 (refine aJ (v:=?_) rfl rfl hHeld ?_ ?_;rotate_left;(· (intro w hSw;(try dsimp only at hSw);have q0:=Sc.c0 hSw.1;have q1:=Sc.c1 hSw.1;go_simp;try with_reducible rfl));(try simp only[nx,List.set]))
 refine wpAnyH_done (by kernel_rfl) ?_ _;go_wp2;go_ret;exact⟨rfl,hHeld.1,hHeld.2⟩
end
section
open Go.RowKit Tk

theorem Xn{c:UInt8}{l:L}(h:[c].isPrefixOf l=true):∃r,l=c :: r:=by
 cases l with
 | nil=>simp at h
 | cons d r=>
  have:c=d:=by simpa using h
  exact⟨r,by rw[this]⟩
theorem Nn{c:UInt8}{l:L}(h:[c].isPrefixOf l=false):∀r,l≠c :: r:=by
 intro r e;rw[e] at h;simp at h
theorem vE(s:ByteArray)(a b:Nat):s.data.toList.drop (a+b)=(s.data.toList.drop a).drop b:=by rw[List.drop_drop]
theorem GH{p l:L}(h:p.isPrefixOf l=true):p.length≤l.length:=List.IsPrefix.length_le (List.isPrefixOf_iff_prefix.1 h)

def pK(w:World)(X:Nat)(s:ByteArray)(k:Nat)(o:Option (L×Nat))(e:Ending)(w':World):Prop :=
 ai X w w'∧match o with
  | none=>e=.returned (.tuple #[.string ⟨#[]⟩,.bool false])∧∃k',k≤k'∧k'≤s.size∧Sc w' X s k'
  | some x=>e=.returned (.tuple #[.string (aa x.1),.bool true])∧k+x.2≤s.size∧Sc w' X s (k+x.2)
theorem adY{d:L}(h:[61].isPrefixOf (d.drop (aS d))=false):eqv d=none:=by
 unfold eqv;split
 ·rfl
 rename_i c r e
 rw[if_neg];intro hc;subst hc;exact Nn h r e
theorem adZ{d r:L}(h:d.drop (aS d)=61 :: r):eqv d=(Tk.quoted (r.drop (aS r))).map fun x=>(x.1,aS d+1+aS r+x.2):=by
 unfold eqv;rw[h];simp

theorem ajC{q:UInt8}{r:L}(h:q=34∨q=39):Tk.quoted (q :: r)=(till [q] r).map fun k=>(r.take k,k+2):=by
 show (if q=34∨q=39 then _ else none)=_;rw[if_pos h]
theorem ajB{t:L}(h1:[34].isPrefixOf t=false)(h2:[39].isPrefixOf t=false):Tk.quoted t=none:=by
 cases t with
 | nil=>rfl
 | cons q r=>
  show (if q=34∨q=39 then _ else none)=_;rw[if_neg];rintro (rfl|rfl)
  ·exact Nn h1 r rfl
  exact Nn h2 r rfl
theorem qi0(w:World):(Instr.index 187 (.agg #[.string ⟨#[34]⟩,.string ⟨#[39]⟩]) (.int .i64 0)).run Tryz.prog w=.ok (.string ⟨#[34]⟩) w:=by kernel_rfl
theorem qi1(w:World):(Instr.index 187 (.agg #[.string ⟨#[34]⟩,.string ⟨#[39]⟩]) (.int .i64 1)).run Tryz.prog w=.ok (.string ⟨#[39]⟩) w:=by kernel_rfl
theorem NL(q:UInt8):(⟨#[q]⟩:ByteArray).size≤1000:=by
 have:(⟨#[q]⟩:ByteArray).size=1:=rfl;omega
theorem ajA(X:Nat)(s:ByteArray)(m:Nat)(q:UInt8)(r:L)(eY:6≤X)(hs:s.size≤1000000000)(hm:m+1≤s.size)(hr:s.data.toList.drop (m+1)=r)(hq:q=34∨q=39)(w W:World)(hW:Sc W X s (m+1))(hb:ai X w W)(hg:Gl w) :
  Calls Tryz.prog 148 #[.pointer (some ⟨X,0,none⟩),.string ⟨#[q]⟩] W (pK w X s m (Tk.quoted (q :: r))):=by
 rw[ajC hq]
 cases h:till [q] r with
 | none=>
  refine (amM W X s ⟨#[q]⟩ (m+1) (by rw[hr];exact h) hW eY (hg.but hb eY) hm hs (NL q)).mono ?_;rintro e w' ⟨rfl,h1,h2⟩;exact⟨hb.trans h2,rfl,m+1,by omega,hm,h1⟩
 | some n=>
  have hn:=(GX h).2;have hl:r.length=s.size-(m+1):=by rw[←hr,List.length_drop,bV]
  simp at hn;refine (amP W X s ⟨#[q]⟩ (m+1) n (by rw[hr];exact h) hW eY (hg.but hb eY) hm hs (NL q)).mono ?_;rintro e w' ⟨rfl,h1,h2⟩;refine⟨hb.trans h2,?_,by dsimp only;omega,?_⟩
  ·rw[oD,hr,show m+1+n-(m+1)=n by omega]
  have e:(⟨#[q]⟩:ByteArray).size=1:=rfl;rw[e,show m+1+n+1=m+(n+2) by omega] at h1;exact h1
theorem pK.more{w:World}{X:Nat}{s:ByteArray}{k m c:Nat}{o:Option (L×Nat)}{e:Ending}{w':World}(h:pK w X s m o e w')(hm:k+c=m):pK w X s k (o.map fun x=>(x.1,c+x.2)) e w':=by
 cases o with
 | none=>
  obtain⟨h1,h2,k',h3,h4,h5⟩:=h;exact⟨h1,h2,k',by omega,h4,h5⟩
 | some x=>
  obtain⟨h1,h2,h3,h4⟩:=h;refine⟨h1,h2,by dsimp only;omega,?_⟩;rw[show k+(c+x.2)=m+x.2 by omega];exact h4

theorem ani(w:World)(X:Nat)(s:ByteArray)(k:Nat)(hX:Sc w X s k)(eY:6≤X)(hg:Gl w)(ha:k≤s.size)(hs:s.size≤1000000000) :
  Calls Tryz.prog 147 #[.pointer (some ⟨X,0,none⟩)] w (pK w X s k (eqv (s.data.toList.drop k))):=by
 obtain⟨d,hd⟩:∃d,s.data.toList.drop k=d:=⟨_,rfl⟩;have aT:d.length=s.size-k:=by rw[←hd,List.length_drop,bV]
 obtain⟨a,vV⟩:∃a,aS d=a:=⟨_,rfl⟩;have iP:a≤s.size-k:=by have:=CB d;omega
 have ax:=ap (Ep w X s k hX ha hs);have dB:s.data.toList.drop (k+a)=d.drop a:=by rw[vE,hd]
 have HI:=ap fun W (hW:Sc W X s (k+a))=>Cj W X s ⟨#[61]⟩ (k+a) hW (by omega) hs (by decide);rw[hd,vV] at ax;rw[dB] at HI;rw[hd]
 cases hp:[61].isPrefixOf (d.drop a) with
 | false=>
  rw[adY (by rw[vV];exact hp)]
  replace HI:=ap fun W hW=>(show Calls Tryz.prog 146 #[.pointer (some ⟨X,0,none⟩),.string ⟨#[61]⟩] W fun e w'=>e=.returned (.bool false)∧Sc w' X s (k+a)∧ai X W w' from by
   have:=HI.o W hW;rw[show ((⟨#[61]⟩:ByteArray).data.toList.isPrefixOf (d.drop a))=false from hp] at this
   simpa using this)
  have HL:=ap (show k+a≤s.size by omega);clear hp hd aT dB vV iP;unfold pK
  go_enter Tryz.func147,Tryz.ntmps147
  go_wp2_with fail
  refine ax.o.mono ?_;rintro e w1 ⟨rfl,h1,b1⟩;have B1:=ap b1;have S1:=ap h1;clear b1 h1
  go_wp2_with fail
  refine (HI.o _ S1.o).mono ?_;rintro e w2 ⟨rfl,h2,b2⟩;have B2:=ap (B1.o.trans b2);have S2:=ap h2;clear b2 h2;go_wp2;go_ret2;exact⟨B2.o,rfl,k+a,by omega,HL.o,S2.o⟩
 | true=>
  obtain⟨r,hr⟩:=Xn hp;rw[adZ (by rw[vV];exact hr),vV]
  replace HI:=ap fun W hW=>(show Calls Tryz.prog 146 #[.pointer (some ⟨X,0,none⟩),.string ⟨#[61]⟩] W fun e w'=>e=.returned (.bool true)∧Sc w' X s (k+a+1)∧ai X W w' from by
   have:=HI.o W hW;rw[show ((⟨#[61]⟩:ByteArray).data.toList.isPrefixOf (d.drop a))=true from hp] at this
   simpa[ByteArray.size] using this)
  have Fp:a+1+r.length=d.length:=by
   have:=congrArg List.length hr;rw[List.length_drop,List.length_cons] at this;omega
  have bJ:s.data.toList.drop (k+a+1)=r:=by rw[vE,dB,hr];rfl
  obtain⟨b,ck⟩:∃b,aS r=b:=⟨_,rfl⟩;have bh:b≤r.length:=by have:=CB r;omega
  have ag:=ap fun W (hW:Sc W X s (k+a+1))=>Ep W X s (k+a+1) hW (by omega) hs;rw[bJ,ck] at ag;rw[ck];obtain⟨m,hm⟩:∃m,k+a+1+b=m:=⟨_,rfl⟩;rw[hm] at ag;have tI:s.data.toList.drop m=r.drop b:=by rw[←hm,vE,bJ]
  obtain⟨t,ht⟩:∃t,r.drop b=t:=⟨_,rfl⟩;rw[ht] at tI ⊢;have rL:m+t.length=s.size:=by rw[←ht,List.length_drop];omega
  have HQ:=ap fun (q:UInt8) W (hW:Sc W X s m)=>(show Calls Tryz.prog 146 #[.pointer (some ⟨X,0,none⟩),.string ⟨#[q]⟩] W fun e w'=>e=.returned (.bool ([q].isPrefixOf t))∧Sc w' X s (if [q].isPrefixOf t=true then m+1 else m)∧ai X W w' from by
   have:=Cj W X s ⟨#[q]⟩ m hW (by omega) hs (NL q);rw[tI] at this;exact this)
  have HT:=ap fun (q:UInt8) (hq:q=34∨q=39) (h:[q].isPrefixOf t=true) W (hW:Sc W X s (m+1)) (hb:ai X w W)=>(show Calls Tryz.prog 148 #[.pointer (some ⟨X,0,none⟩),.string ⟨#[q]⟩] W (pK w X s m (Tk.quoted t)) from by
   obtain⟨r2,bF⟩:=Xn h;rw[bF] at rL ⊢;rw[List.length_cons] at rL;exact ajA X s m q r2 eY hs (by omega) (by rw[vE,tI,bF];rfl) hq w W hW hb hg)
  have HN:=ap fun (h1:[34].isPrefixOf t=false) (h2:[39].isPrefixOf t=false)=>(show Tk.quoted t=none from ajB h1 h2);have HM:=ap fun (e:Ending) (w':World) (h:pK w X s m (Tk.quoted t) e w')=>(show pK w X s k ((Tk.quoted t).map fun x=>(x.1,a+1+b+x.2)) e w' from h.more (by omega));have HL:=ap (show m≤s.size by omega);generalize Tk.quoted t=o at *
  obtain⟨o',U6⟩:∃o',(o.map fun x:L×Nat=>(x.1,a+1+b+x.2))=o':=⟨_,rfl⟩;rw[U6] at HM ⊢;clear hp hd aT dB vV iP hr Fp bJ ck bh hm tI ht rL U6
  go_enter Tryz.func147,Tryz.ntmps147
  go_wp2_with fail
  refine ax.o.mono ?_;rintro e w1 ⟨rfl,h1,b1⟩;have B1:=ap b1;have S1:=ap h1;clear b1 h1
  go_wp2_with fail
  refine (HI.o _ S1.o).mono ?_;rintro e w2 ⟨rfl,h2,b2⟩;have B2:=ap (B1.o.trans b2);have S2:=ap h2;clear b2 h2 B1 S1
  go_wp2_with fail
  refine (ag.o _ S2.o).mono ?_;rintro e w3 ⟨rfl,h3,b3⟩;have B3:=ap (B2.o.trans b3);have S3:=ap h3;clear b3 h3 B2 S2;go_wp2
  go_loopg [14] 2 (fun g v wr=>∃j:Nat,g=2-j∧j≤2∧v=.int .i64 (j:Int)∧(1≤j→[34].isPrefixOf t=false)∧(2≤j→[39].isPrefixOf t=false)∧Sc wr X s m∧ai X w wr)
  case atStart=>exact⟨0,rfl,by omega,rfl,fun h=>absurd h (by omega),fun h=>absurd h (by omega),S3.o,B3.o⟩
  case round=>
   obtain⟨j,hg,hj,rfl,h1,h2,hS,hB⟩:=hrel;have Hg:=ap hg;have H1:=ap h1;have H2:=ap h2;have HS:=ap hS;have HB:=ap hB;clear hg h1 h2 hS hB;have qx0:=qi0 wr;have qx1:=qi1 wr
   rcases (show j=0∨j=1∨j=2 by omega) with rfl|rfl|rfl
   ·cases hc:[(34:UInt8)].isPrefixOf t with
    | true=>
     have jg:=ap (HQ.o 34 _ HS.o);rw[hc,if_pos rfl] at jg;have cA:=ap (HT.o 34 (.inl rfl) hc);clear hc HQ HT
     go_wp2_with fail
     refine jg.o.mono ?_;rintro e w4 ⟨rfl,h4,b4⟩;have B4:=ap (HB.o.trans b4);have S4:=ap h4;clear b4 h4
     go_wp2_with fail
     refine (cA.o _ S4.o B4.o).mono ?_;rintro e w5 hv
     cases o with
     | none=>
      obtain⟨g1,rfl,g2⟩:=hv;have G:=ap (HM.o _ _ ⟨g1,rfl,g2⟩);clear g1 g2 HM cA jg;go_wp2;go_ret2;exact G.o
     | some x=>
      obtain⟨g1,rfl,g2⟩:=hv;have G:=ap (HM.o _ _ ⟨g1,rfl,g2⟩);clear g1 g2 HM cA jg;go_wp2;go_ret2;exact G.o
    | false=>
     have jg:=ap (HQ.o 34 _ HS.o);rw[hc,if_neg (by simp)] at jg;have Hc:=ap hc;clear hc HQ HT
     go_wp2_with fail
     refine jg.o.mono ?_;rintro e w4 ⟨rfl,h4,b4⟩;have B4:=ap (HB.o.trans b4);have S4:=ap h4;clear b4 h4 jg;go_wp2
     go_roundg 1
     case measure=>have:=Hg.o;omega
     case rel=>exact⟨1,rfl,by omega,rfl,fun _=>Hc.o,fun h=>absurd h (by omega),S4.o,B4.o⟩
   ·cases hc:[(39:UInt8)].isPrefixOf t with
    | true=>
     have jg:=ap (HQ.o 39 _ HS.o);rw[hc,if_pos rfl] at jg;have cA:=ap (HT.o 39 (.inr rfl) hc);clear hc HQ HT
     go_wp2_with fail
     refine jg.o.mono ?_;rintro e w4 ⟨rfl,h4,b4⟩;have B4:=ap (HB.o.trans b4);have S4:=ap h4;clear b4 h4
     go_wp2_with fail
     refine (cA.o _ S4.o B4.o).mono ?_;rintro e w5 hv
     cases o with
     | none=>
      obtain⟨g1,rfl,g2⟩:=hv;have G:=ap (HM.o _ _ ⟨g1,rfl,g2⟩);clear g1 g2 HM cA jg;go_wp2;go_ret2;exact G.o
     | some x=>
      obtain⟨g1,rfl,g2⟩:=hv;have G:=ap (HM.o _ _ ⟨g1,rfl,g2⟩);clear g1 g2 HM cA jg;go_wp2;go_ret2;exact G.o
    | false=>
     have jg:=ap (HQ.o 39 _ HS.o);rw[hc,if_neg (by simp)] at jg;have Hc:=ap hc;clear hc HQ HT
     go_wp2_with fail
     refine jg.o.mono ?_;rintro e w4 ⟨rfl,h4,b4⟩;have B4:=ap (HB.o.trans b4);have S4:=ap h4;clear b4 h4 jg;go_wp2
     go_roundg 0
     case measure=>have:=Hg.o;omega
     case rel=>exact⟨2,rfl,by omega,rfl,fun _=>H1.o (by omega),fun _=>Hc.o,S4.o,B4.o⟩
   have ho:=HN.o (H1.o (by omega)) (H2.o (by omega));subst ho;have G:=ap (HM.o (.returned (.tuple #[.string ⟨#[]⟩,.bool false])) wr ⟨HB.o,rfl,m,by omega,HL.o,HS.o⟩);clear HM HQ HT HN;go_wp2;go_ret2;exact G.o
end
section
open Go.RowKit Tk

theorem amg(s:ByteArray):s.toList=s.data.toList:=ByteArray.toList_eq ..
theorem amf(s:ByteArray):(s.toList==([]:L))=s.data.toList.isEmpty:=by
 rw[amg]
 cases s.data.toList<;>rfl

end
section
open Go.RowKit Tk

structure aY(X T:Nat)(w w':World):Prop where
 os:w'.os=w.os
 tape:w'.tape=w.tape
 output:w'.output=w.output
 size:w.heap.size≤w'.heap.size
 block:∀k,k<w.heap.size→k≠X→k≠T→w'.heap[k]?=w.heap[k]?
section
variable {X T:Nat} {w w1 w':World}
theorem aY.refl(X T:Nat)(w:World):aY X T w w:=⟨rfl,rfl,rfl,Nat.le_refl _,fun _ _ _ _=>rfl⟩
theorem aY.trans(h:aY X T w w1)(k:aY X T w1 w'):aY X T w w' :=
 ⟨k.os.trans h.os,k.tape.trans h.tape,k.output.trans h.output,Nat.le_trans h.size k.size,fun i hi hb hc=>(k.block i (Nat.lt_of_lt_of_le hi h.size) hb hc).trans (h.block i hi hb hc)⟩
theorem aY.below{B:Nat}(h:aY X T w w')(hb:B≤X)(hc:B≤T)(hs:B≤w.heap.size):Below B w w':=⟨h.os,h.tape,h.output,h.size,fun k hk=>h.block k (by omega) (by omega) (by omega)⟩
theorem ai.YO(h:ai X w w'):aY X T w w':=⟨h.os,h.tape,h.output,h.size,fun k hk hb _=>h.block k hk hb⟩
theorem aY.go(h:aY X T w w1)(hb:Below w1.heap.size w1 w'):aY X T w w':=h.trans (ai.b8 hb).YO
theorem aY.one(h:aY X T w w1)(hb:ai X w1 w'):aY X T w w':=h.trans hb.YO
theorem aY.drew(h:aY X T w w1):aY X T w w1.drew:=⟨h.os,h.tape,h.output,h.size,h.block⟩
theorem aY.alloc(h:aY X T w w1)(o:Obj):aY X T w (w1.alloc o):=h.trans ⟨rfl,rfl,rfl,by simp,fun k hk _ _=>Below.heap_alloc _ _ _ hk⟩
theorem aY.setCell(h:aY X T w w1){p:Addr}(hp:p.block=X∨p.block=T∨w.heap.size≤p.block)(u:Value):aY X T w (w1.setCell p u):=by
 refine⟨h.os,h.tape,h.output,by simpa[World.setCell] using h.size,fun k hk hb hc=>?_⟩;rw[Below.heap_setCell _ _ _ _ (by omega)];exact h.block k hk hb hc
theorem Gl.JZ(h:Gl w)(hb:aY X T w w')(hX:6≤X)(hT:6≤T):Gl w':=h.keep fun g i v hg hv=>
 (World.cell?_of_block (a:=⟨g,i,none⟩) (hb.block g (dE hv) (by omega) (by omega))).trans hv
end
def Tb(w:World)(T:Nat)(kind:Int)(name:ByteArray)(ar:Value)(empty:Bool)(text:ByteArray)(at_ end_:Nat):Prop :=
 ae w T 112 #[.int .i8 kind,.string name,ar,.bool empty,.string text,.int .i64 (at_:Int),.int .i64 (end_:Int)]
section
variable {w:World} {T:Nat} {kind:Int} {name:ByteArray} {ar:Value} {empty:Bool} {text:ByteArray} {at_ end_:Nat}
theorem Tb.f(h:Tb w T kind name ar empty text at_ end_)(i:Nat):w.frozen? ⟨T,i,none⟩=false:=ae.frozen h i
theorem Tb.c0(h:Tb w T kind name ar empty text at_ end_):w.cell? ⟨T,0,none⟩=some (.int .i8 kind):=ae.cell h 0
theorem Tb.c1(h:Tb w T kind name ar empty text at_ end_):w.cell? ⟨T,1,none⟩=some (.string name):=ae.cell h 1
theorem Tb.c2(h:Tb w T kind name ar empty text at_ end_):w.cell? ⟨T,2,none⟩=some ar:=ae.cell h 2
theorem Tb.c3(h:Tb w T kind name ar empty text at_ end_):w.cell? ⟨T,3,none⟩=some (.bool empty):=ae.cell h 3
theorem Tb.c4(h:Tb w T kind name ar empty text at_ end_):w.cell? ⟨T,4,none⟩=some (.string text):=ae.cell h 4
theorem Tb.c5(h:Tb w T kind name ar empty text at_ end_):w.cell? ⟨T,5,none⟩=some (.int .i64 (at_:Int)):=ae.cell h 5
theorem Tb.c6(h:Tb w T kind name ar empty text at_ end_):w.cell? ⟨T,6,none⟩=some (.int .i64 (end_:Int)):=ae.cell h 6
theorem Tb.V7(h:Tb w T kind name ar empty text at_ end_)(k:Int):Tb (w.setCell ⟨T,0,none⟩ (.int .i8 k)) T k name ar empty text at_ end_:=by have:=ae.aH h 0 (.int .i8 k);simpa[Tb] using this
theorem Tb.MW(h:Tb w T kind name ar empty text at_ end_)(k:ByteArray):Tb (w.setCell ⟨T,1,none⟩ (.string k)) T kind k ar empty text at_ end_:=by have:=ae.aH h 1 (.string k);simpa[Tb] using this
theorem Tb.ab5(h:Tb w T kind name ar empty text at_ end_)(k:Value):Tb (w.setCell ⟨T,2,none⟩ k) T kind name k empty text at_ end_:=by have:=ae.aH h 2 k;simpa[Tb] using this
theorem Tb.Ki(h:Tb w T kind name ar empty text at_ end_)(k:Bool):Tb (w.setCell ⟨T,3,none⟩ (.bool k)) T kind name ar k text at_ end_:=by have:=ae.aH h 3 (.bool k);simpa[Tb] using this
theorem Tb.YM(h:Tb w T kind name ar empty text at_ end_)(k:ByteArray):Tb (w.setCell ⟨T,4,none⟩ (.string k)) T kind name ar empty k at_ end_:=by have:=ae.aH h 4 (.string k);simpa[Tb] using this
theorem Tb.adM(h:Tb w T kind name ar empty text at_ end_)(k:Nat):Tb (w.setCell ⟨T,6,none⟩ (.int .i64 (k:Int))) T kind name ar empty text at_ k:=by have:=ae.aH h 6 (.int .i64 (k:Int));simpa[Tb] using this
theorem Tb.AE{X:Nat}{w':World}(h:Tb w T kind name ar empty text at_ end_)(hb:ai X w w')(hne:T≠X):Tb w' T kind name ar empty text at_ end_:=hb.blk h hne
theorem Sc.far{X:Nat}{s:ByteArray}{k i:Nat}(h:Sc w X s k)(hne:X≠T)(u:Value):Sc (w.setCell ⟨T,i,none⟩ u) X s k:=ae.far h hne u
theorem Tb.far{X i:Nat}(h:Tb w T kind name ar empty text at_ end_)(hne:T≠X)(u:Value):Tb (w.setCell ⟨X,i,none⟩ u) T kind name ar empty text at_ end_:=ae.far h hne u
end

def kindOf(l:L):Int:=if ([60,47]:L).isPrefixOf l then 1 else if ([60,33]:L).isPrefixOf l||([60,63]:L).isPrefixOf l then 2 else if ([60]:L).isPrefixOf l then 0 else 3
theorem ahb(s:ByteArray)(w:World)(h:0<s.size):Calls Tryz.prog 112 #[.string s] w fun e w'=>e=.returned (.int .i64 (kindOf s.data.toList))∧w'=w:=by
 obtain⟨c,hc⟩:∃c,s.data.toList[0]?=some c:=⟨_,List.getElem?_eq_getElem (by rw[bV];exact h)⟩
 have hsc:s[0]=c:=by
  obtain⟨h1,h2⟩:=List.getElem?_eq_some_iff.1 hc;exact h2
 have H1:=ap (show ∀W,Calls Tryz.prog 153 #[.string s,.string ⟨#[60,47]⟩] W fun e w'=>e=.returned (.bool (([60,47]:L).isPrefixOf s.data.toList))∧w'=W from fun W=>Tryz.strings_HasPrefix s ⟨#[60,47]⟩ W);have H2:=ap (show ∀W,Calls Tryz.prog 153 #[.string s,.string ⟨#[60,33]⟩] W fun e w'=>e=.returned (.bool (([60,33]:L).isPrefixOf s.data.toList))∧w'=W from fun W=>Tryz.strings_HasPrefix s ⟨#[60,33]⟩ W);have H3:=ap (show ∀W,Calls Tryz.prog 153 #[.string s,.string ⟨#[60,63]⟩] W fun e w'=>e=.returned (.bool (([60,63]:L).isPrefixOf s.data.toList))∧w'=W from fun W=>Tryz.strings_HasPrefix s ⟨#[60,63]⟩ W)
 have hp:([60]:L).isPrefixOf s.data.toList=decide (c=60):=by
  cases hl:s.data.toList with
  | nil=>rw[hl] at hc;cases hc
  | cons d r=>
   rw[hl] at hc;cases hc;rw[Bool.eq_iff_iff];simp;exact⟨fun h=>h.symm,fun h=>h.symm⟩
 unfold kindOf;rw[hp]
 have aoB:((s[0].toNat:Int)==60)=decide (c=60):=by
  rw[hsc];rw[Bool.eq_iff_iff,beq_iff_eq,decide_eq_true_eq]
  constructor
  ·intro h;exact UInt8.toNat.inj (by show c.toNat=60;omega)
  intro h;rw[h];rfl
 generalize ([60,47]:L).isPrefixOf s.data.toList=a at *
 generalize ([60,33]:L).isPrefixOf s.data.toList=b at *
 generalize ([60,63]:L).isPrefixOf s.data.toList=d at *
 generalize decide (c=60)=f at *
 clear hp hc hsc
 cases a with
 | true=>
  go_enter Tryz.func112,Tryz.ntmps112
  go_wp2_with fail
  refine (H1.o _).mono ?_;rintro e w1 ⟨rfl,rfl⟩;go_wp2;go_ret;exact⟨rfl,rfl⟩
 | false=>
  cases b with
  | true=>
   go_enter Tryz.func112,Tryz.ntmps112
   go_wp2_with fail
   refine (H1.o _).mono ?_;rintro e w1 ⟨rfl,rfl⟩
   go_wp2_with fail
   refine (H2.o _).mono ?_;rintro e w2 ⟨rfl,rfl⟩;go_wp2;go_ret;exact⟨rfl,rfl⟩
  | false=>
   cases d with
   | true=>
    go_enter Tryz.func112,Tryz.ntmps112
    go_wp2_with fail
    refine (H1.o _).mono ?_;rintro e w1 ⟨rfl,rfl⟩
    go_wp2_with fail
    refine (H2.o _).mono ?_;rintro e w2 ⟨rfl,rfl⟩
    go_wp2_with fail
    refine (H3.o _).mono ?_;rintro e w3 ⟨rfl,rfl⟩;go_wp2;go_ret;exact⟨rfl,rfl⟩
   | false=>
    cases f with
    | true=>
     go_enter Tryz.func112,Tryz.ntmps112
     go_wp2_with fail
     refine (H1.o _).mono ?_;rintro e w1 ⟨rfl,rfl⟩
     go_wp2_with fail
     refine (H2.o _).mono ?_;rintro e w2 ⟨rfl,rfl⟩
     go_wp2_with fail
     refine (H3.o _).mono ?_;rintro e w3 ⟨rfl,rfl⟩;go_wp2;go_ret;exact⟨rfl,rfl⟩
    | false=>
     go_enter Tryz.func112,Tryz.ntmps112
     go_wp2_with fail
     refine (H1.o _).mono ?_;rintro e w1 ⟨rfl,rfl⟩
     go_wp2_with fail
     refine (H2.o _).mono ?_;rintro e w2 ⟨rfl,rfl⟩
     go_wp2_with fail
     refine (H3.o _).mono ?_;rintro e w3 ⟨rfl,rfl⟩;go_wp2;go_ret;exact⟨rfl,rfl⟩
end
end Go.Proofs.YtpdkeckeekchlaaGreatDoor
