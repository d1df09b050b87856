/- Characters: the program's 'Take': how many bytes a name at the front has. And more. -/
import Derived.Test.YtifiiojchlaghaaGreatDoorOk01
import Derived.Test.YtifiiojchlaghaaGreatDoorOk03
set_option linter.unusedSimpArgs false
set_option maxRecDepth 100000
set_option maxHeartbeats 8000000
set_option linter.unusedVariables false
namespace Go.Proofs.YtifiiojchlaghaaGreatDoor
section
open Go.RowKit Go.Shelf Tk

attribute [local go_sem] Oper.semAt_some

def FrontI(w:World)(pre:List (Nat×Int))(W:World):Prop :=
 (∀p∈pre,nameOk p.1 p.2=true)∧Boxed W w.heap.size 94 (.func (.func 185) #[] #[])∧(∃v,Boxed W (w.heap.size+1) 3 v)∧(∃u,Boxed W (w.heap.size+1+1) 9 u)∧Below w.heap.size w W
def FrontX(w:World)(c:Code)(pre:List (Nat×Int))(W:World):Prop :=
 c=.ret∧∃pre0 x,pre=pre0++[x]∧(∀p∈pre0,nameOk p.1 p.2=true)∧nameOk x.1 x.2=false∧Boxed W (w.heap.size+1) 3 (.int .i64 (x.1:Int))∧Below w.heap.size w W
theorem FrontI_own(w:World):OwnFrom (w.heap.size+1+1+1) (FrontI w):=by
 rintro s X Y row ⟨h1,hb,⟨v,hv⟩,⟨u,hu⟩,h3⟩ hg hrow;exact⟨h1,hb.kept hg (box_row hrow hb),⟨v,hv.kept hg (box_row hrow hv)⟩,⟨u,hu.kept hg (box_row hrow hu)⟩,h3.grown hg h3.size (fun k e=>by have:=(hrow k e).1;omega)⟩
theorem FrontX_own(w:World)(c:Code):OwnFrom (w.heap.size+1+1+1) (FrontX w c):=by
 rintro s X Y row ⟨h1,p,x,h2,h4,h5,hv,h3⟩ hg hrow;exact⟨h1,p,x,h2,h4,h5,hv.kept hg (box_row hrow hv),h3.grown hg h3.size (fun k e=>by have:=(hrow k e).1;omega)⟩
theorem first_further{r:Int}(h:firstOk r=true):furtherOk r=true:=by unfold furtherOk;rw[h];rfl

theorem front_any(s:ByteArray)(w:World)(hs:s.size≤1000000000) :
  Calls Tryz.prog 165 #[.string s,.func (.func 185) #[] #[]] w fun e w'=>e=.returned (.int .i64 (take s.data.toList:Nat))∧Below w.heap.size w w':=by
 refine (callsIn_wide (n:=5)).1 ?_;refine callsIn_of_wp_marks Tryz.func165 rfl trivial ?_ rfl;simp only[Tryz.ntmps165,List.size_toArray,List.length_cons,List.length_nil,Nat.reduceAdd,Nat.reduceSub,Array.replicate_succ,Array.replicate_zero,List.push_toArray,List.append_toArray,List.nil_append,List.cons_append]
 gi_wp2_with (refine⟨trivial,?_⟩;gi_at_call 52;refine (callsIn_wide.2 (scalars_mk _ _)).mono ?_;rintro e w' ⟨rfl,rfl⟩)
 have b0:=Boxed.new w 94 (.func (.func 185) #[] #[]);have b1:=Boxed.new (w.alloc (.cells #[.func (.func 185) #[] #[]] 94)) 3 (.int .i64 0);rw[World.size_alloc] at b1;have b2:=Boxed.new ((w.alloc (.cells #[.func (.func 185) #[] #[]] 94)).alloc (.cells #[.int .i64 0] 3)) 9 (.string s);rw[World.size_alloc,World.size_alloc] at b2
 have hB0:Below w.heap.size w (((w.alloc (.cells #[.func (.func 185) #[] #[]] 94)).alloc (.cells #[.int .i64 0] 3)).alloc (.cells #[.string s] 9)) :=
  (((Below.refl _ w).alloc (Nat.le_refl _) _).alloc (by simp) _).alloc (by simp;omega) _
 refine wpIn_rangeFunc_ownG rfl (by omega) (gf:=80) (lb:=#[.pointer (some ⟨w.heap.size+1+1,0,none⟩)]) rfl trivial (enters_of Tryz.func80 (by kernel_rfl) rfl)
  (scalars_stops (5-1) (by omega) (w.heap.size+1+1) s hs _ (by simp) b2.cell) SameBlk.trans (sameBlk_b (by simp)) (Below.refl _ _) (fun _=>rfl)
  (FrontI w) (FrontX w) (by simpa using FrontI_own w) (fun c=>by simpa using FrontX_own w c)
  ⟨(fun p hp=>by cases hp),(b0.alloc _).alloc _,⟨_,b1.alloc _⟩,⟨_,b2⟩,hB0⟩
  (fun x=>{ tmps:=#[.string s,.func (.func 185) #[] #[],undef,.pointer (some ⟨w.heap.size,0,none⟩),.pointer (some ⟨w.heap.size+1,0,none⟩),.int .i64 (x.1:Int),.int .i64 x.2,.string s,
   .func (.func 80) #[] #[.pointer (some ⟨w.heap.size+1+1,0,none⟩)],.int .i64 (x.1:Int),.int .i64 x.2,undef,undef,undef,undef,undef,undef,undef,undef,undef,undef,undef,undef,undef,undef,undef,undef],defers:=[] }) ?assign ?body ?done ?stop
 case assign=>
  intro l x W K hK;gi_wp2;exact hK
 case body=>
  rintro l pre x W ⟨hp,hb0,⟨v,hv⟩,⟨u,hu⟩,hB⟩ hlen;have HP:=hide hp;have h2:w.heap.size+1+1<W.heap.size:=hu.lt;have HF:=hide (first_any x.2);have HT:=hide (take1_any x.2);have Hff:=hide (first_further (r:=x.2));clear hp
  by_cases h0:x.1=0
  ·have h0':((x.1:Int)==0)=true:=by simp[h0]
   cases hx:firstOk x.2 with
   | false=>
    rw[hx] at HF;have HX:=hide (show nameOk x.1 x.2=false by unfold nameOk;rw[if_pos h0,hx]);clear hx h0 HT Hff
    gi_wp2_with (refine⟨trivial,?_⟩;gi_at_call 189;refine (CallsIn.inRound l (callsIn_wide.2 (HF.out _))).mono ?_;rintro e w1 ⟨rfl,hb⟩;have hv1:=hv.kept (grown_below hb none) (by simp);have hc1:=hv1.cell;have hf1:=hv1.frozen)
    refine⟨fun _ h=>(by cases h),?_⟩;gi_wp2;exact⟨((others_below hb).trans (KeepsOthers.setCell _ _ _)).from _,rfl,pre,x,rfl,HP.out,HX.out,hv1.set _,(hB.trans (hb.mono hB.size)).setCell (p:=⟨w.heap.size+1,0,none⟩) (by simp) _⟩
   | true=>
    rw[hx] at HF;rw[Hff.out hx,Bool.true_or] at HT;have HX:=hide (show nameOk x.1 x.2=true by unfold nameOk;rw[if_pos h0,hx]);clear hx h0 Hff
    gi_wp2_with first
     | (refine⟨trivial,?_⟩;gi_at_call 189;refine (CallsIn.inRound l (callsIn_wide.2 (HF.out _))).mono ?_;rintro e w1 ⟨rfl,hb⟩;have hc0:=(hb0.kept (grown_below hb none) (by simp)).cell)
     | (refine⟨trivial,?_⟩;gi_at_call 185;refine (CallsIn.inRound l (callsIn_wide.2 (HT.out _))).mono ?_;rintro e w2 ⟨rfl,hb2⟩)
    have hb:=hb.trans (hb2.mono hb.size);refine⟨(others_below hb).from _,hb.block _ (by omega),fun p hp=>?_,hb0.kept (grown_below hb none) (by simp),⟨v,hv.kept (grown_below hb none) (by simp)⟩,⟨u,hu.kept (grown_below hb none) (by simp)⟩,hB.trans (hb.mono hB.size)⟩
    rcases List.mem_append.1 hp with hp|hp
    ·exact HP.out p hp
    have:p=x:=by simpa using hp
    rw[this];exact HX.out
  have h0':((x.1:Int)==0)=false:=by rw[beq_eq_false_iff_ne];omega
  have hc0:=hb0.cell;obtain⟨b,hbx⟩:∃b,(furtherOk x.2||decide (x.2=58))=b:=⟨_,rfl⟩;rw[hbx] at HT;have HX:=hide (show nameOk x.1 x.2=b by unfold nameOk;rw[if_neg h0,hbx]);clear hbx h0 Hff HF
  gi_wp2_with fail
  refine⟨trivial,?_⟩
  cases b with
  | false=>
   gi_wp2_with (refine⟨trivial,?_⟩;gi_at_call 185;refine (CallsIn.inRound l (callsIn_wide.2 (HT.out _))).mono ?_;rintro e w1 ⟨rfl,hb⟩;have hv1:=hv.kept (grown_below hb none) (by simp);have hc1:=hv1.cell;have hf1:=hv1.frozen)
   exact⟨((others_below hb).trans (KeepsOthers.setCell _ _ _)).from _,rfl,pre,x,rfl,HP.out,HX.out,hv1.set _,(hB.trans (hb.mono hB.size)).setCell (p:=⟨w.heap.size+1,0,none⟩) (by simp) _⟩
  | true=>
   gi_wp2_with (refine⟨trivial,?_⟩;gi_at_call 185;refine (CallsIn.inRound l (callsIn_wide.2 (HT.out _))).mono ?_;rintro e w1 ⟨rfl,hb⟩)
   refine⟨(others_below hb).from _,hb.block _ (by omega),fun p hp=>?_,hb0.kept (grown_below hb none) (by simp),⟨v,hv.kept (grown_below hb none) (by simp)⟩,⟨u,hu.kept (grown_below hb none) (by simp)⟩,hB.trans (hb.mono hB.size)⟩
   rcases List.mem_append.1 hp with hp|hp
   ·exact HP.out p hp
   have:p=x:=by simpa using hp
   rw[this];exact HX.out
 case done=>
  rintro D ys W hD hys ⟨hp,hb0,⟨v,hv⟩,⟨u,hu⟩,hB⟩ hK;have hc:=hv.cell;have hf:=hv.frozen
  have Hbad:=hide (show take s.data.toList=s.size from by
   unfold take;rw[stop_none (ok:=nameOk) nameOk_neg (by rw[←hys];exact fun p h=>hp p h)];exact size_list s)
  clear hys hp;gi_wp2;have hv2:=hv.set (.int .i64 (s.size:Int));have hK2:=(KeepsOthers.setCell W ⟨w.heap.size+1,0,none⟩ (.int .i64 (s.size:Int))).same D _ hK rfl;refine⟨by simp,.inl ⟨_,_,rfl,run_takeDeferred hK2,?_⟩⟩;have hc2:=cell_kept hv2.cell (grownBy_putObj' _ D (.deferred none)) (fun r e=>by cases e;exact⟨_,hK2,rfl⟩);refine⟨.int .i64 (s.size:Int),?_,?_⟩
  ·simp[results,Tryz.results165,go_sem,hc2]
  exact⟨ret_eq1 (int_eq (by rw[Hbad.out])),(hB.setCell (p:=⟨w.heap.size+1,0,none⟩) (by simp) _).trans (belowK_b (w:=w) (Nat.le_refl _) _ D _ _ (by simp at hD;omega) hK2 rfl rfl)⟩
 case stop=>
  rintro D c pre W hD ⟨rest,hsp⟩ ⟨rfl,pre0,x,rfl,hp,hx,hv,hB⟩ hK;have hc:=hv.cell;have hf:=hv.frozen
  have Hbad:=hide (show take s.data.toList=x.1 from by
   unfold take;rw[stop_at (ok:=nameOk) nameOk_neg hsp (fun p h=>hp p h) hx]
   rfl)
  clear hsp hp hx;gi_wp2;refine⟨by simp,.inl ⟨_,_,rfl,run_takeDeferred hK,?_⟩⟩;have hc2:=cell_kept hc (grownBy_putObj' _ D (.deferred none)) (fun r e=>by cases e;exact⟨_,hK,rfl⟩);refine⟨.int .i64 (x.1:Int),?_,?_⟩
  ·simp[results,Tryz.results165,go_sem,hc2]
  exact⟨ret_eq1 (int_eq (by rw[Hbad.out])),hB.trans (belowK_b (w:=w) (Nat.le_refl _) _ D _ _ (by simp at hD;omega) hK rfl rfl)⟩
theorem take_any(s:ByteArray)(w:World)(hs:s.size≤1000000000) :
  Calls Tryz.prog 157 #[.string s] w fun e w'=>e=.returned (.int .i64 (take s.data.toList:Nat))∧Below w.heap.size w w':=by
 have HF:=hide (front_any s w hs);generalize take s.data.toList=n at *
 go_enter Tryz.func157,Tryz.ntmps157
 go_wp2_with (go_at_call 165;refine HF.out.mono ?_;rintro e w' ⟨rfl,hb⟩)
 go_ret;exact⟨rfl,by assumption⟩
end
section
open Go.RowKit Tk

theorem piecesN_lt:∀(n k:Nat) (l:L),l.length≤n→∀p∈Utf.piecesN n k l,p.1<k+l.length
 | _,_,[],_,p,hp=>by unfold Utf.piecesN at hp;cases hp
 | 0,_,c :: l,h,_,_=>absurd h (by simp)
 | n+1,k,c :: l,h,p,hp=>by
  unfold Utf.piecesN at hp;have hl:=Utf.piece_len c l
  rcases List.mem_cons.1 hp with rfl|hp
  ·simp
  have:=piecesN_lt n _ _ (by rw[List.length_drop];simp at h ⊢;omega) p hp;rw[List.length_drop] at this;simp at this hl ⊢;omega
theorem pieces_lt(l:L)(p:Nat×Int)(hp:p∈Utf.pieces l):p.1<l.length:=by
 have:=piecesN_lt l.length 0 l (Nat.le_refl _) p hp;omega
theorem take_le(l:L):take l≤l.length:=by
 unfold take stop
 cases h:(Utf.pieces l).find? fun p=>!nameOk p.1 p.2 with
 | none=>simp
 | some x=>
  have hm:=List.mem_of_find?_eq_some h;simp only[Option.map_some,Option.getD_some];exact Nat.le_of_lt (pieces_lt l x hm)

theorem name_any(w:World)(X:Nat)(s:ByteArray)(k:Nat)(hX:Sc w X s k)(ha:k≤s.size)(hs:s.size≤1000000000) :
  Calls Tryz.prog 117 #[.pointer (some ⟨X,0,none⟩)] w fun e w'=>e=.returned (.string (s.extract k (k+take (s.data.toList.drop k))))∧Sc w' X s (k+take (s.data.toList.drop k))∧But X w w':=by
 have HP:=hide (show ∀W,Calls Tryz.prog 157 #[.string (s.extract k s.size)] W fun e w'=>e=.returned (.int .i64 (take (s.data.toList.drop k):Nat))∧Below W.heap.size W w' from fun W=>by
  have h:=take_any (s.extract k s.size) W (by rw[ByteArray.size_extract];omega);rw[extract_end,bstr_list] at h;rw[extract_end];exact h)
 have hn:take (s.data.toList.drop k)≤s.size-k:=by
  have:=take_le (s.data.toList.drop k);rwa[List.length_drop,size_list] at this
 generalize take (s.data.toList.drop k)=n at *
 have HK:=hide hX;have HB:=hide (But.refl X w);have hns:¬s.size<k:=by omega
 clear hX
 go_enter Tryz.func117,Tryz.ntmps117
 go_wp2;refine wp_region_held_drew (S:=fun W=>Sc W X s (k)∧But X w W) (by kernel_rfl) ?_ (fun hHeld=>?_)
 ·(try dsimp only)
  first|exact⟨Blk.drew HK.out,But.drew HB.out⟩|exact⟨Blk.go hHeld.1 hb,But.go hHeld.2 hb⟩|exact hHeld
 change wpAnyH _ _ _ _ _ 11 #[false,false,false,false,false,false,false,false,false,false,false] _ _;iterate 3 (refine nxT (v:=?_) rfl rfl hHeld ?_ ?_;rotate_left;(· (intro w hSw;(try dsimp only at hSw);go_simp;try with_reducible rfl));(try simp only[nx,List.set]))
 (refine nxT (v:=?_) rfl rfl hHeld ?_ ?_;rotate_left;(· (intro w hSw;(try dsimp only at hSw);have q0:=Sc.c0 hSw.1;have q1:=Sc.c1 hSw.1;go_simp;try with_reducible rfl));(try simp only[nx,List.set]));iterate 3 (refine nxT (v:=?_) rfl rfl hHeld ?_ ?_;rotate_left;(· (intro w hSw;(try dsimp only at hSw);go_simp;try with_reducible rfl));(try simp only[nx,List.set]))
 (refine nxT (v:=?_) rfl rfl hHeld ?_ ?_;rotate_left;(· (intro w hSw;(try dsimp only at hSw);have q0:=Sc.c0 hSw.1;have q1:=Sc.c1 hSw.1;go_simp;try with_reducible rfl));(try simp only[nx,List.set]));(refine nxT (v:=?_) rfl rfl hHeld ?_ ?_;rotate_left;(· (intro w hSw;(try dsimp only at hSw);go_simp;try with_reducible rfl));(try simp only[nx,List.set]));refine held_call (i:=9) rfl (by kernel_rfl) (by kernel_rfl) (fun K hK=>?_);go_simp
 go_at_call 157
 refine (HP.out _).mono ?_;rintro e w' ⟨rfl,hb⟩;(try dsimp only);refine hK.out _ _ ?_ (fun hHeld'=>?_)
 ·(try dsimp only)
  first|exact⟨Blk.drew HK.out,But.drew HB.out⟩|exact⟨Blk.go hHeld.1 hb,But.go hHeld.2 hb⟩|exact hHeld
 clear hK K hHeld;have hHeld:=hHeld';clear hHeld';(try simp only[Act.put,List.setIfInBounds_toArray,List.set_cons_zero,List.set_cons_succ]);(refine nxT (v:=?_) rfl rfl hHeld ?_ ?_;rotate_left;(· (intro w hSw;(try dsimp only at hSw);go_simp;try with_reducible rfl));(try simp only[nx,List.set]));refine wpAnyH_done (by kernel_rfl) ?_ _;have K1:=hide hHeld.1;have B1:=hide hHeld.2;have q1:=Sc.c1 hHeld.1;have f1:=Sc.f1 hHeld.1;clear hHeld HP HK HB;have hw0:IntKind.i64.wrap ((k:Int)+n)=(k:Int)+n:=IntWalk.i64_in _ (by omega);have hw1:IntKind.i64.wrap ((k:Int)+n-n)=(k:Int):=by rw[show (k:Int)+n-n=k by omega];exact IntWalk.i64_in _ (by omega)
 have hw2:IntKind.i64.wrap (k:Int)=(k:Int):=IntWalk.i64_in _ (by omega);have h4:(0:Int)≤(k:Int)+n∧(k:Int)+n≤(s.size:Int):=by omega
 have h5:(k:Int)≤(k:Int)+n:=by omega
 have h6:((k:Int)+n).toNat=k+n:=by omega
 have h7:(0:Int)≤(k:Int):=by omega
 go_wp2;have K2:=hide (Sc.move K1.out (k+n));have B2:=hide (B1.out.setCell (p:=⟨X,1,none⟩) (.inl rfl) (.int .i64 ((k+n:Nat):Int)));clear q1 f1 K1 B1;refine wp_region_held_drew (S:=fun W=>Sc W X s (k+n)∧But X w W) (by kernel_rfl) ?_ (fun hHeld=>?_)
 ·(try dsimp only)
  first|exact⟨Blk.drew K2.out,But.drew B2.out⟩|exact⟨Blk.go hHeld.1 hb,But.go hHeld.2 hb⟩|exact hHeld
 change wpAnyH _ _ _ _ _ 16 #[false,false,false,false,false,false,false,false,false,false,false,false,false,false,false,false] _ _;iterate 3 (refine nxT (v:=?_) rfl rfl hHeld ?_ ?_;rotate_left;(· (intro w hSw;(try dsimp only at hSw);go_simp;try with_reducible rfl));(try simp only[nx,List.set]))
 (refine nxT (v:=?_) rfl rfl hHeld ?_ ?_;rotate_left;(· (intro w hSw;(try dsimp only at hSw);have q0:=Sc.c0 hSw.1;have q1:=Sc.c1 hSw.1;go_simp;try with_reducible rfl));(try simp only[nx,List.set]));iterate 3 (refine nxT (v:=?_) rfl rfl hHeld ?_ ?_;rotate_left;(· (intro w hSw;(try dsimp only at hSw);go_simp;try with_reducible rfl));(try simp only[nx,List.set]))
 (refine nxT (v:=?_) rfl rfl hHeld ?_ ?_;rotate_left;(· (intro w hSw;(try dsimp only at hSw);have q0:=Sc.c0 hSw.1;have q1:=Sc.c1 hSw.1;go_simp;try with_reducible rfl));(try simp only[nx,List.set]));iterate 5 (refine nxT (v:=?_) rfl rfl hHeld ?_ ?_;rotate_left;(· (intro w hSw;(try dsimp only at hSw);go_simp;try with_reducible rfl));(try simp only[nx,List.set]))
 (refine nxT (v:=?_) rfl rfl hHeld ?_ ?_;rotate_left;(· (intro w hSw;(try dsimp only at hSw);have q0:=Sc.c0 hSw.1;have q1:=Sc.c1 hSw.1;go_simp;try with_reducible rfl));(try simp only[nx,List.set]));iterate 2 (refine nxT (v:=?_) rfl rfl hHeld ?_ ?_;rotate_left;(· (intro w hSw;(try dsimp only at hSw);go_simp;try with_reducible rfl));(try simp only[nx,List.set]))
 refine wpAnyH_done (by kernel_rfl) ?_ _;go_wp2;go_ret;exact⟨rfl,hHeld.1,hHeld.2⟩
end
section
open Go.RowKit Tk

theorem pfx_one{c:UInt8}{l:L}(h:[c].isPrefixOf l=true):∃r,l=c :: r:=by
 cases l with
 | nil=>simp at h
 | cons d r=>
  have:c=d:=by simpa using h
  exact⟨r,by rw[this]⟩
theorem pfx_one_no{c:UInt8}{l:L}(h:[c].isPrefixOf l=false):∀r,l≠c :: r:=by
 intro r e;rw[e] at h;simp at h
theorem drop_add(s:ByteArray)(a b:Nat):s.data.toList.drop (a+b)=(s.data.toList.drop a).drop b:=by rw[List.drop_drop]
theorem pfx_len{p l:L}(h:p.isPrefixOf l=true):p.length≤l.length:=List.IsPrefix.length_le (List.isPrefixOf_iff_prefix.1 h)

def ValR(w:World)(X:Nat)(s:ByteArray)(k:Nat)(o:Option (L×Nat))(e:Ending)(w':World):Prop :=
 But X w w'∧match o with
  | none=>e=.returned (.tuple #[.string ⟨#[]⟩,.bool false])∧∃k',k≤k'∧k'≤s.size∧Sc w' X s k'
  | some x=>e=.returned (.tuple #[.string (bstr x.1),.bool true])∧k+x.2≤s.size∧Sc w' X s (k+x.2)
theorem eqv_no{d:L}(h:[61].isPrefixOf (d.drop (nsp d))=false):eqv d=none:=by
 unfold eqv;split
 ·rfl
 rename_i c r e
 rw[if_neg];intro hc;subst hc;exact pfx_one_no h r e
theorem eqv_yes{d r:L}(h:d.drop (nsp d)=61 :: r):eqv d=(Tk.quoted (r.drop (nsp r))).map fun x=>(x.1,nsp d+1+nsp r+x.2):=by
 unfold eqv;rw[h];simp

theorem quoted_yes{q:UInt8}{r:L}(h:q=34∨q=39):Tk.quoted (q :: r)=(till [q] r).map fun k=>(r.take k,k+2):=by
 show (if q=34∨q=39 then _ else none)=_;rw[if_pos h]
theorem quoted_no{t:L}(h1:[34].isPrefixOf t=false)(h2:[39].isPrefixOf t=false):Tk.quoted t=none:=by
 cases t with
 | nil=>rfl
 | cons q r=>
  show (if q=34∨q=39 then _ else none)=_;rw[if_neg];rintro (rfl|rfl)
  ·exact pfx_one_no h1 r rfl
  exact pfx_one_no h2 r rfl
theorem qi0(w:World):(Instr.index 152 (.agg #[.string ⟨#[34]⟩,.string ⟨#[39]⟩]) (.int .i64 0)).run Tryz.prog w=.ok (.string ⟨#[34]⟩) w:=by kernel_rfl
theorem qi1(w:World):(Instr.index 152 (.agg #[.string ⟨#[34]⟩,.string ⟨#[39]⟩]) (.int .i64 1)).run Tryz.prog w=.ok (.string ⟨#[39]⟩) w:=by kernel_rfl
theorem size1(q:UInt8):(⟨#[q]⟩:ByteArray).size≤1000:=by
 have:(⟨#[q]⟩:ByteArray).size=1:=rfl;omega
theorem quote_any(X:Nat)(s:ByteArray)(m:Nat)(q:UInt8)(r:L)(hX6:6≤X)(hs:s.size≤1000000000)(hm:m+1≤s.size)(hr:s.data.toList.drop (m+1)=r)(hq:q=34∨q=39)(w W:World)(hW:Sc W X s (m+1))(hb:But X w W)(hg:Gl w) :
  Calls Tryz.prog 121 #[.pointer (some ⟨X,0,none⟩),.string ⟨#[q]⟩] W (ValR w X s m (Tk.quoted (q :: r))):=by
 rw[quoted_yes hq]
 cases h:till [q] r with
 | none=>
  refine (till_no W X s ⟨#[q]⟩ (m+1) (by rw[hr];exact h) hW hX6 (hg.but hb hX6) hm hs (size1 q)).mono ?_;rintro e w' ⟨rfl,h1,h2⟩;exact⟨hb.trans h2,rfl,m+1,by omega,hm,h1⟩
 | some n=>
  have hn:=(till_some h).2;have hl:r.length=s.size-(m+1):=by rw[←hr,List.length_drop,size_list]
  simp at hn;refine (till_yes W X s ⟨#[q]⟩ (m+1) n (by rw[hr];exact h) hW hX6 (hg.but hb hX6) hm hs (size1 q)).mono ?_;rintro e w' ⟨rfl,h1,h2⟩;refine⟨hb.trans h2,?_,by dsimp only;omega,?_⟩
  ·rw[extract_bstr,hr,show m+1+n-(m+1)=n by omega]
  have e:(⟨#[q]⟩:ByteArray).size=1:=rfl;rw[e,show m+1+n+1=m+(n+2) by omega] at h1;exact h1
theorem ValR.more{w:World}{X:Nat}{s:ByteArray}{k m c:Nat}{o:Option (L×Nat)}{e:Ending}{w':World}(h:ValR w X s m o e w')(hm:k+c=m):ValR w X s k (o.map fun x=>(x.1,c+x.2)) e w':=by
 cases o with
 | none=>
  obtain⟨h1,h2,k',h3,h4,h5⟩:=h;exact⟨h1,h2,k',by omega,h4,h5⟩
 | some x=>
  obtain⟨h1,h2,h3,h4⟩:=h;refine⟨h1,h2,by dsimp only;omega,?_⟩;rw[show k+(c+x.2)=m+x.2 by omega];exact h4

theorem value_any(w:World)(X:Nat)(s:ByteArray)(k:Nat)(hX:Sc w X s k)(hX6:6≤X)(hg:Gl w)(ha:k≤s.size)(hs:s.size≤1000000000) :
  Calls Tryz.prog 120 #[.pointer (some ⟨X,0,none⟩)] w (ValR w X s k (eqv (s.data.toList.drop k))):=by
 obtain⟨d,hd⟩:∃d,s.data.toList.drop k=d:=⟨_,rfl⟩;have hdl:d.length=s.size-k:=by rw[←hd,List.length_drop,size_list]
 obtain⟨a,hak⟩:∃a,nsp d=a:=⟨_,rfl⟩;have hal:a≤s.size-k:=by have:=nsp_le d;omega
 have HB1:=hide (blanks_any w X s k hX ha hs);have hd1:s.data.toList.drop (k+a)=d.drop a:=by rw[drop_add,hd]
 have HI:=hide fun W (hW:Sc W X s (k+a))=>isp_any W X s ⟨#[61]⟩ (k+a) hW (by omega) hs (by decide);rw[hd,hak] at HB1;rw[hd1] at HI;rw[hd]
 cases hp:[61].isPrefixOf (d.drop a) with
 | false=>
  rw[eqv_no (by rw[hak];exact hp)]
  replace HI:=hide fun W hW=>(show Calls Tryz.prog 119 #[.pointer (some ⟨X,0,none⟩),.string ⟨#[61]⟩] W fun e w'=>e=.returned (.bool false)∧Sc w' X s (k+a)∧But X W w' from by
   have:=HI.out W hW;rw[show ((⟨#[61]⟩:ByteArray).data.toList.isPrefixOf (d.drop a))=false from hp] at this
   simpa using this)
  have HL:=hide (show k+a≤s.size by omega);clear hp hd hdl hd1 hak hal;unfold ValR
  go_enter Tryz.func120,Tryz.ntmps120
  go_wp2_with fail
  refine HB1.out.mono ?_;rintro e w1 ⟨rfl,h1,b1⟩;have B1:=hide b1;have S1:=hide h1;clear b1 h1
  go_wp2_with fail
  refine (HI.out _ S1.out).mono ?_;rintro e w2 ⟨rfl,h2,b2⟩;have B2:=hide (B1.out.trans b2);have S2:=hide h2;clear b2 h2;go_wp2;go_ret2;exact⟨B2.out,rfl,k+a,by omega,HL.out,S2.out⟩
 | true=>
  obtain⟨r,hr⟩:=pfx_one hp;rw[eqv_yes (by rw[hak];exact hr),hak]
  replace HI:=hide fun W hW=>(show Calls Tryz.prog 119 #[.pointer (some ⟨X,0,none⟩),.string ⟨#[61]⟩] W fun e w'=>e=.returned (.bool true)∧Sc w' X s (k+a+1)∧But X W w' from by
   have:=HI.out W hW;rw[show ((⟨#[61]⟩:ByteArray).data.toList.isPrefixOf (d.drop a))=true from hp] at this
   simpa[ByteArray.size] using this)
  have hlr:a+1+r.length=d.length:=by
   have:=congrArg List.length hr;rw[List.length_drop,List.length_cons] at this;omega
  have hd2:s.data.toList.drop (k+a+1)=r:=by rw[drop_add,hd1,hr];rfl
  obtain⟨b,hbk⟩:∃b,nsp r=b:=⟨_,rfl⟩;have hbl:b≤r.length:=by have:=nsp_le r;omega
  have HB2:=hide fun W (hW:Sc W X s (k+a+1))=>blanks_any W X s (k+a+1) hW (by omega) hs;rw[hd2,hbk] at HB2;rw[hbk];obtain⟨m,hm⟩:∃m,k+a+1+b=m:=⟨_,rfl⟩;rw[hm] at HB2;have hdm:s.data.toList.drop m=r.drop b:=by rw[←hm,drop_add,hd2]
  obtain⟨t,ht⟩:∃t,r.drop b=t:=⟨_,rfl⟩;rw[ht] at hdm ⊢;have hmt:m+t.length=s.size:=by rw[←ht,List.length_drop];omega
  have HQ:=hide fun (q:UInt8) W (hW:Sc W X s m)=>(show Calls Tryz.prog 119 #[.pointer (some ⟨X,0,none⟩),.string ⟨#[q]⟩] W fun e w'=>e=.returned (.bool ([q].isPrefixOf t))∧Sc w' X s (if [q].isPrefixOf t=true then m+1 else m)∧But X W w' from by
   have:=isp_any W X s ⟨#[q]⟩ m hW (by omega) hs (size1 q);rw[hdm] at this;exact this)
  have HT:=hide fun (q:UInt8) (hq:q=34∨q=39) (h:[q].isPrefixOf t=true) W (hW:Sc W X s (m+1)) (hb:But X w W)=>(show Calls Tryz.prog 121 #[.pointer (some ⟨X,0,none⟩),.string ⟨#[q]⟩] W (ValR w X s m (Tk.quoted t)) from by
   obtain⟨r2,hr2⟩:=pfx_one h;rw[hr2] at hmt ⊢;rw[List.length_cons] at hmt;exact quote_any X s m q r2 hX6 hs (by omega) (by rw[drop_add,hdm,hr2];rfl) hq w W hW hb hg)
  have HN:=hide fun (h1:[34].isPrefixOf t=false) (h2:[39].isPrefixOf t=false)=>(show Tk.quoted t=none from quoted_no h1 h2);have HM:=hide fun (e:Ending) (w':World) (h:ValR w X s m (Tk.quoted t) e w')=>(show ValR w X s k ((Tk.quoted t).map fun x=>(x.1,a+1+b+x.2)) e w' from h.more (by omega));have HL:=hide (show m≤s.size by omega);generalize Tk.quoted t=o at *
  obtain⟨o',ho'⟩:∃o',(o.map fun x:L×Nat=>(x.1,a+1+b+x.2))=o':=⟨_,rfl⟩;rw[ho'] at HM ⊢;clear hp hd hdl hd1 hak hal hr hlr hd2 hbk hbl hm hdm ht hmt ho'
  go_enter Tryz.func120,Tryz.ntmps120
  go_wp2_with fail
  refine HB1.out.mono ?_;rintro e w1 ⟨rfl,h1,b1⟩;have B1:=hide b1;have S1:=hide h1;clear b1 h1
  go_wp2_with fail
  refine (HI.out _ S1.out).mono ?_;rintro e w2 ⟨rfl,h2,b2⟩;have B2:=hide (B1.out.trans b2);have S2:=hide h2;clear b2 h2 B1 S1
  go_wp2_with fail
  refine (HB2.out _ S2.out).mono ?_;rintro e w3 ⟨rfl,h3,b3⟩;have B3:=hide (B2.out.trans b3);have S3:=hide h3;clear b3 h3 B2 S2;go_wp2
  go_loopg [14] 2 (fun g v wr=>∃j:Nat,g=2-j∧j≤2∧v=.int .i64 (j:Int)∧(1≤j→[34].isPrefixOf t=false)∧(2≤j→[39].isPrefixOf t=false)∧Sc wr X s m∧But X w wr)
  case atStart=>exact⟨0,rfl,by omega,rfl,fun h=>absurd h (by omega),fun h=>absurd h (by omega),S3.out,B3.out⟩
  case round=>
   obtain⟨j,hg,hj,rfl,h1,h2,hS,hB⟩:=hrel;have Hg:=hide hg;have H1:=hide h1;have H2:=hide h2;have HS:=hide hS;have HB:=hide hB;clear hg h1 h2 hS hB;have qx0:=qi0 wr;have qx1:=qi1 wr
   rcases (show j=0∨j=1∨j=2 by omega) with rfl|rfl|rfl
   ·cases hc:[(34:UInt8)].isPrefixOf t with
    | true=>
     have HQ1:=hide (HQ.out 34 _ HS.out);rw[hc,if_pos rfl] at HQ1;have HT1:=hide (HT.out 34 (.inl rfl) hc);clear hc HQ HT
     go_wp2_with fail
     refine HQ1.out.mono ?_;rintro e w4 ⟨rfl,h4,b4⟩;have B4:=hide (HB.out.trans b4);have S4:=hide h4;clear b4 h4
     go_wp2_with fail
     refine (HT1.out _ S4.out B4.out).mono ?_;rintro e w5 hv
     cases o with
     | none=>
      obtain⟨g1,rfl,g2⟩:=hv;have G:=hide (HM.out _ _ ⟨g1,rfl,g2⟩);clear g1 g2 HM HT1 HQ1;go_wp2;go_ret2;exact G.out
     | some x=>
      obtain⟨g1,rfl,g2⟩:=hv;have G:=hide (HM.out _ _ ⟨g1,rfl,g2⟩);clear g1 g2 HM HT1 HQ1;go_wp2;go_ret2;exact G.out
    | false=>
     have HQ1:=hide (HQ.out 34 _ HS.out);rw[hc,if_neg (by simp)] at HQ1;have Hc:=hide hc;clear hc HQ HT
     go_wp2_with fail
     refine HQ1.out.mono ?_;rintro e w4 ⟨rfl,h4,b4⟩;have B4:=hide (HB.out.trans b4);have S4:=hide h4;clear b4 h4 HQ1;go_wp2
     go_roundg 1
     case measure=>have:=Hg.out;omega
     case rel=>exact⟨1,rfl,by omega,rfl,fun _=>Hc.out,fun h=>absurd h (by omega),S4.out,B4.out⟩
   ·cases hc:[(39:UInt8)].isPrefixOf t with
    | true=>
     have HQ1:=hide (HQ.out 39 _ HS.out);rw[hc,if_pos rfl] at HQ1;have HT1:=hide (HT.out 39 (.inr rfl) hc);clear hc HQ HT
     go_wp2_with fail
     refine HQ1.out.mono ?_;rintro e w4 ⟨rfl,h4,b4⟩;have B4:=hide (HB.out.trans b4);have S4:=hide h4;clear b4 h4
     go_wp2_with fail
     refine (HT1.out _ S4.out B4.out).mono ?_;rintro e w5 hv
     cases o with
     | none=>
      obtain⟨g1,rfl,g2⟩:=hv;have G:=hide (HM.out _ _ ⟨g1,rfl,g2⟩);clear g1 g2 HM HT1 HQ1;go_wp2;go_ret2;exact G.out
     | some x=>
      obtain⟨g1,rfl,g2⟩:=hv;have G:=hide (HM.out _ _ ⟨g1,rfl,g2⟩);clear g1 g2 HM HT1 HQ1;go_wp2;go_ret2;exact G.out
    | false=>
     have HQ1:=hide (HQ.out 39 _ HS.out);rw[hc,if_neg (by simp)] at HQ1;have Hc:=hide hc;clear hc HQ HT
     go_wp2_with fail
     refine HQ1.out.mono ?_;rintro e w4 ⟨rfl,h4,b4⟩;have B4:=hide (HB.out.trans b4);have S4:=hide h4;clear b4 h4 HQ1;go_wp2
     go_roundg 0
     case measure=>have:=Hg.out;omega
     case rel=>exact⟨2,rfl,by omega,rfl,fun _=>H1.out (by omega),fun _=>Hc.out,S4.out,B4.out⟩
   have ho:=HN.out (H1.out (by omega)) (H2.out (by omega));subst ho;have G:=hide (HM.out (.returned (.tuple #[.string ⟨#[]⟩,.bool false])) wr ⟨HB.out,rfl,m,by omega,HL.out,HS.out⟩);clear HM HQ HT HN;go_wp2;go_ret2;exact G.out
end
section
open Go.RowKit Tk

theorem str_list(s:ByteArray):s.toList=s.data.toList:=ByteArray.toList_eq ..
theorem str_emp(s:ByteArray):(s.toList==([]:L))=s.data.toList.isEmpty:=by
 rw[str_list]
 cases s.data.toList<;>rfl

end
section
open Go.RowKit Tk

structure But2(X T:Nat)(w w':World):Prop where
 os:w'.os=w.os
 tape:w'.tape=w.tape
 output:w'.output=w.output
 size:w.heap.size≤w'.heap.size
 block:∀k,k<w.heap.size→k≠X→k≠T→w'.heap[k]?=w.heap[k]?
section
variable {X T:Nat} {w w1 w':World}
theorem But2.refl(X T:Nat)(w:World):But2 X T w w:=⟨rfl,rfl,rfl,Nat.le_refl _,fun _ _ _ _=>rfl⟩
theorem But2.trans(h:But2 X T w w1)(k:But2 X T w1 w'):But2 X T w w' :=
 ⟨k.os.trans h.os,k.tape.trans h.tape,k.output.trans h.output,Nat.le_trans h.size k.size,fun i hi hb hc=>(k.block i (Nat.lt_of_lt_of_le hi h.size) hb hc).trans (h.block i hi hb hc)⟩
theorem But2.below{B:Nat}(h:But2 X T w w')(hb:B≤X)(hc:B≤T)(hs:B≤w.heap.size):Below B w w':=⟨h.os,h.tape,h.output,h.size,fun k hk=>h.block k (by omega) (by omega) (by omega)⟩
theorem But.to2(h:But X w w'):But2 X T w w':=⟨h.os,h.tape,h.output,h.size,fun k hk hb _=>h.block k hk hb⟩
theorem But2.go(h:But2 X T w w1)(hb:Below w1.heap.size w1 w'):But2 X T w w':=h.trans (But.of_below hb).to2
theorem But2.one(h:But2 X T w w1)(hb:But X w1 w'):But2 X T w w':=h.trans hb.to2
theorem But2.drew(h:But2 X T w w1):But2 X T w w1.drew:=⟨h.os,h.tape,h.output,h.size,h.block⟩
theorem But2.alloc(h:But2 X T w w1)(o:Obj):But2 X T w (w1.alloc o):=h.trans ⟨rfl,rfl,rfl,by simp,fun k hk _ _=>Below.heap_alloc _ _ _ hk⟩
theorem But2.setCell(h:But2 X T w w1){p:Addr}(hp:p.block=X∨p.block=T∨w.heap.size≤p.block)(u:Value):But2 X T w (w1.setCell p u):=by
 refine⟨h.os,h.tape,h.output,by simpa[World.setCell] using h.size,fun k hk hb hc=>?_⟩;rw[Below.heap_setCell _ _ _ _ (by omega)];exact h.block k hk hb hc
theorem Gl.but2(h:Gl w)(hb:But2 X T w w')(hX:6≤X)(hT:6≤T):Gl w':=h.keep fun g i v hg hv=>
 (World.cell?_of_block (a:=⟨g,i,none⟩) (hb.block g (lt_of_cell hv) (by omega) (by omega))).trans hv
end
def Tb(w:World)(T:Nat)(kind:Int)(name:ByteArray)(as_:Value)(empty:Bool)(text:ByteArray)(at_ end_:Nat):Prop :=
 Blk w T 85 #[.int .i8 kind,.string name,as_,.bool empty,.string text,.int .i64 (at_:Int),.int .i64 (end_:Int)]
section
variable {w:World} {T:Nat} {kind:Int} {name:ByteArray} {as_:Value} {empty:Bool} {text:ByteArray} {at_ end_:Nat}
theorem Tb.f(h:Tb w T kind name as_ empty text at_ end_)(i:Nat):w.frozen? ⟨T,i,none⟩=false:=Blk.frozen h i
theorem Tb.c0(h:Tb w T kind name as_ empty text at_ end_):w.cell? ⟨T,0,none⟩=some (.int .i8 kind):=Blk.cell h 0
theorem Tb.c1(h:Tb w T kind name as_ empty text at_ end_):w.cell? ⟨T,1,none⟩=some (.string name):=Blk.cell h 1
theorem Tb.c2(h:Tb w T kind name as_ empty text at_ end_):w.cell? ⟨T,2,none⟩=some as_:=Blk.cell h 2
theorem Tb.c3(h:Tb w T kind name as_ empty text at_ end_):w.cell? ⟨T,3,none⟩=some (.bool empty):=Blk.cell h 3
theorem Tb.c4(h:Tb w T kind name as_ empty text at_ end_):w.cell? ⟨T,4,none⟩=some (.string text):=Blk.cell h 4
theorem Tb.c5(h:Tb w T kind name as_ empty text at_ end_):w.cell? ⟨T,5,none⟩=some (.int .i64 (at_:Int)):=Blk.cell h 5
theorem Tb.c6(h:Tb w T kind name as_ empty text at_ end_):w.cell? ⟨T,6,none⟩=some (.int .i64 (end_:Int)):=Blk.cell h 6
theorem Tb.kind_(h:Tb w T kind name as_ empty text at_ end_)(k:Int):Tb (w.setCell ⟨T,0,none⟩ (.int .i8 k)) T k name as_ empty text at_ end_:=by have:=Blk.set_ h 0 (.int .i8 k);simpa[Tb] using this
theorem Tb.name_(h:Tb w T kind name as_ empty text at_ end_)(k:ByteArray):Tb (w.setCell ⟨T,1,none⟩ (.string k)) T kind k as_ empty text at_ end_:=by have:=Blk.set_ h 1 (.string k);simpa[Tb] using this
theorem Tb.as__(h:Tb w T kind name as_ empty text at_ end_)(k:Value):Tb (w.setCell ⟨T,2,none⟩ k) T kind name k empty text at_ end_:=by have:=Blk.set_ h 2 k;simpa[Tb] using this
theorem Tb.empty_(h:Tb w T kind name as_ empty text at_ end_)(k:Bool):Tb (w.setCell ⟨T,3,none⟩ (.bool k)) T kind name as_ k text at_ end_:=by have:=Blk.set_ h 3 (.bool k);simpa[Tb] using this
theorem Tb.text_(h:Tb w T kind name as_ empty text at_ end_)(k:ByteArray):Tb (w.setCell ⟨T,4,none⟩ (.string k)) T kind name as_ empty k at_ end_:=by have:=Blk.set_ h 4 (.string k);simpa[Tb] using this
theorem Tb.end__(h:Tb w T kind name as_ empty text at_ end_)(k:Nat):Tb (w.setCell ⟨T,6,none⟩ (.int .i64 (k:Int))) T kind name as_ empty text at_ k:=by have:=Blk.set_ h 6 (.int .i64 (k:Int));simpa[Tb] using this
theorem Tb.at_but{X:Nat}{w':World}(h:Tb w T kind name as_ empty text at_ end_)(hb:But X w w')(hne:T≠X):Tb w' T kind name as_ empty text at_ end_:=hb.blk h hne
theorem Sc.far{X:Nat}{s:ByteArray}{k i:Nat}(h:Sc w X s k)(hne:X≠T)(u:Value):Sc (w.setCell ⟨T,i,none⟩ u) X s k:=Blk.far h hne u
theorem Tb.far{X i:Nat}(h:Tb w T kind name as_ empty text at_ end_)(hne:T≠X)(u:Value):Tb (w.setCell ⟨X,i,none⟩ u) T kind name as_ empty text at_ end_:=Blk.far h hne u
end

def kindOf(l:L):Int:=if ([60,47]:L).isPrefixOf l then 1 else if ([60,33]:L).isPrefixOf l||([60,63]:L).isPrefixOf l then 2 else if ([60]:L).isPrefixOf l then 0 else 3
theorem kind_any(s:ByteArray)(w:World)(h:0<s.size):Calls Tryz.prog 87 #[.string s] w fun e w'=>e=.returned (.int .i64 (kindOf s.data.toList))∧w'=w:=by
 obtain⟨c,hc⟩:∃c,s.data.toList[0]?=some c:=⟨_,List.getElem?_eq_getElem (by rw[size_list];exact h)⟩
 have hsc:s[0]=c:=by
  obtain⟨h1,h2⟩:=List.getElem?_eq_some_iff.1 hc;exact h2
 have H1:=hide (show ∀W,Calls Tryz.prog 126 #[.string s,.string ⟨#[60,47]⟩] W fun e w'=>e=.returned (.bool (([60,47]:L).isPrefixOf s.data.toList))∧w'=W from fun W=>Tryz.strings_HasPrefix s ⟨#[60,47]⟩ W);have H2:=hide (show ∀W,Calls Tryz.prog 126 #[.string s,.string ⟨#[60,33]⟩] W fun e w'=>e=.returned (.bool (([60,33]:L).isPrefixOf s.data.toList))∧w'=W from fun W=>Tryz.strings_HasPrefix s ⟨#[60,33]⟩ W);have H3:=hide (show ∀W,Calls Tryz.prog 126 #[.string s,.string ⟨#[60,63]⟩] W fun e w'=>e=.returned (.bool (([60,63]:L).isPrefixOf s.data.toList))∧w'=W from fun W=>Tryz.strings_HasPrefix s ⟨#[60,63]⟩ W)
 have hp:([60]:L).isPrefixOf s.data.toList=decide (c=60):=by
  cases hl:s.data.toList with
  | nil=>rw[hl] at hc;cases hc
  | cons d r=>
   rw[hl] at hc;cases hc;rw[Bool.eq_iff_iff];simp;exact⟨fun h=>h.symm,fun h=>h.symm⟩
 unfold kindOf;rw[hp]
 have hc60:((s[0].toNat:Int)==60)=decide (c=60):=by
  rw[hsc];rw[Bool.eq_iff_iff,beq_iff_eq,decide_eq_true_eq]
  constructor
  ·intro h;exact UInt8.toNat.inj (by show c.toNat=60;omega)
  intro h;rw[h];rfl
 generalize ([60,47]:L).isPrefixOf s.data.toList=a at *
 generalize ([60,33]:L).isPrefixOf s.data.toList=b at *
 generalize ([60,63]:L).isPrefixOf s.data.toList=d at *
 generalize decide (c=60)=f at *
 clear hp hc hsc
 cases a with
 | true=>
  go_enter Tryz.func87,Tryz.ntmps87
  go_wp2_with fail
  refine (H1.out _).mono ?_;rintro e w1 ⟨rfl,rfl⟩;go_wp2;go_ret;exact⟨rfl,rfl⟩
 | false=>
  cases b with
  | true=>
   go_enter Tryz.func87,Tryz.ntmps87
   go_wp2_with fail
   refine (H1.out _).mono ?_;rintro e w1 ⟨rfl,rfl⟩
   go_wp2_with fail
   refine (H2.out _).mono ?_;rintro e w2 ⟨rfl,rfl⟩;go_wp2;go_ret;exact⟨rfl,rfl⟩
  | false=>
   cases d with
   | true=>
    go_enter Tryz.func87,Tryz.ntmps87
    go_wp2_with fail
    refine (H1.out _).mono ?_;rintro e w1 ⟨rfl,rfl⟩
    go_wp2_with fail
    refine (H2.out _).mono ?_;rintro e w2 ⟨rfl,rfl⟩
    go_wp2_with fail
    refine (H3.out _).mono ?_;rintro e w3 ⟨rfl,rfl⟩;go_wp2;go_ret;exact⟨rfl,rfl⟩
   | false=>
    cases f with
    | true=>
     go_enter Tryz.func87,Tryz.ntmps87
     go_wp2_with fail
     refine (H1.out _).mono ?_;rintro e w1 ⟨rfl,rfl⟩
     go_wp2_with fail
     refine (H2.out _).mono ?_;rintro e w2 ⟨rfl,rfl⟩
     go_wp2_with fail
     refine (H3.out _).mono ?_;rintro e w3 ⟨rfl,rfl⟩;go_wp2;go_ret;exact⟨rfl,rfl⟩
    | false=>
     go_enter Tryz.func87,Tryz.ntmps87
     go_wp2_with fail
     refine (H1.out _).mono ?_;rintro e w1 ⟨rfl,rfl⟩
     go_wp2_with fail
     refine (H2.out _).mono ?_;rintro e w2 ⟨rfl,rfl⟩
     go_wp2_with fail
     refine (H3.out _).mono ?_;rintro e w3 ⟨rfl,rfl⟩;go_wp2;go_ret;exact⟨rfl,rfl⟩
end
section
open Go.RowKit Tk

def attrVs(l:List At):List Value:=l.flatMap fun a=>[.string (bstr a.name),.string (bstr a.value),.int .i64 (a.at_:Int)]
def TokAt(w:World)(base T:Nat)(t:Tok)(e:Nat):Prop :=
 ∃A c,Tb w T t.kind (bstr t.name) (.slice A t.attrs.length c) t.empty (bstr t.text) t.at_ e∧w.ownsRow base 148 3 (.slice A t.attrs.length c) t.attrs.length (attrVs t.attrs)
def SomeTok(w:World)(T:Nat):Prop:=∃kind name as_ empty text a e,Tb w T kind name as_ empty text a e
def PieceR(w:World)(base X T:Nat)(s:ByteArray)(k:Nat)(o:Option Tok)(e:Ending)(w':World):Prop :=
 But2 X T w w'∧match o with
  | none=>e=.returned (.bool false)∧(∃k',k'≤s.size∧Sc w' X s k')∧SomeTok w' T
  | some t=>e=.returned (.bool true)∧t.end_≤s.size∧k<t.end_∧Sc w' X s t.end_∧TokAt w' base T t 0
theorem PieceR.no{w:World}{base X T:Nat}{s:ByteArray}{k k':Nat}{o:Option Tok}{e:Ending}{w':World}(ho:o=none)(h1:But2 X T w w')(h2:e=.returned (.bool false))(h3:k'≤s.size)(h4:Sc w' X s k')(h5:SomeTok w' T):PieceR w base X T s k o e w':=by
 subst ho;exact⟨h1,h2,⟨k',h3,h4⟩,h5⟩
theorem PieceR.yes{w:World}{base X T:Nat}{s:ByteArray}{k:Nat}{t:Tok}{o:Option Tok}{e:Ending}{w':World}(ho:o=some t)(h1:But2 X T w w')(h2:e=.returned (.bool true))(h3:t.end_≤s.size)(h4:k<t.end_)(h5:Sc w' X s t.end_)(h6:TokAt w' base T t 0):PieceR w base X T s k o e w':=by
 subst ho;exact⟨h1,h2,h3,h4,h5,h6⟩
def T0(w:World)(T k:Nat):Prop:=Tb w T 0 ⟨#[]⟩ (.slice none 0 0) false ⟨#[]⟩ k 0
theorem str_emp'(l:L):((bstr l).toList==([]:L))=l.isEmpty:=str_emp (bstr l)

theorem end_any(w:World)(base X T:Nat)(s:ByteArray)(k:Nat)(hX:Sc w X s k)(hT:T0 w T k)(hne:X≠T)(ha:k+2≤s.size)(hs:s.size≤1000000000) :
  Calls Tryz.prog 84 #[.pointer (some ⟨X,0,none⟩),.pointer (some ⟨T,0,none⟩)] w (PieceR w base X T s k (Tk.end_ k (s.data.toList.drop k))):=by
 obtain⟨d,hd⟩:∃d,s.data.toList.drop k=d:=⟨_,rfl⟩;have hd2:s.data.toList.drop (k+2)=d.drop 2:=by rw[drop_add,hd]
 have HN:=hide fun W (hW:Sc W X s (k+2))=>name_any W X s (k+2) hW ha hs;rw[hd2] at HN;rw[hd];obtain⟨r,hr⟩:∃r,d.drop 2=r:=⟨_,rfl⟩;rw[hr] at HN hd2;have hrl:r.length=s.size-(k+2):=by rw[←hd2,List.length_drop,size_list]
 obtain⟨n,hn⟩:∃n,take r=n:=⟨_,rfl⟩;have hnl:n≤s.size-(k+2):=by have:=take_le r;omega
 have hex:s.extract (k+2) (k+2+n)=bstr (r.take n):=by rw[extract_bstr,hd2,show k+2+n-(k+2)=n by omega]
 rw[hn,hex] at HN;have hdn:s.data.toList.drop (k+2+n)=r.drop n:=by rw[drop_add,hd2]
 have HB:=hide fun W (hW:Sc W X s (k+2+n))=>blanks_any W X s (k+2+n) hW (by omega) hs;obtain⟨m,hm⟩:∃m,nsp (r.drop n)=m:=⟨_,rfl⟩;have hml:m≤s.size-(k+2+n):=by have:=nsp_le (r.drop n);rw[List.length_drop] at this;omega
 rw[hdn,hm] at HB;have hdm:s.data.toList.drop (k+2+n+m)=(r.drop n).drop m:=by rw[drop_add,hdn]
 have HI:=hide fun W (hW:Sc W X s (k+2+n+m))=>isp_any W X s ⟨#[62]⟩ (k+2+n+m) hW (by omega) hs (by decide);rw[hdm] at HI;obtain⟨p,hp⟩:∃p,([62]:L).isPrefixOf ((r.drop n).drop m)=p:=⟨_,rfl⟩;rw[show ((⟨#[62]⟩:ByteArray).data.toList.isPrefixOf ((r.drop n).drop m))=p from hp] at HI;obtain⟨res,hres⟩:∃o,Tk.end_ k d=o:=⟨_,rfl⟩;rw[hres]
 have hR:res=if n=0 then none else if p=true then some ⟨1,r.take n,[],false,[],k,k+2+n+m+1⟩ else none:=by
  rw[←hres];unfold Tk.end_;dsimp only;rw[hr,hn,hm,hp]
 have hpl:p=true→k+2+n+m+1≤s.size:=fun h=>by
  have:=pfx_len (by rw[hp];exact h);rw[←hdm,List.length_drop,size_list] at this;have e:([62]:L).length=1:=rfl;omega
 have hE:=str_emp' (r.take n)
 have hE2:(r.take n).isEmpty=decide (n=0):=by
  rw[Bool.eq_iff_iff,List.isEmpty_iff,decide_eq_true_eq]
  constructor
  ·intro h;have:=congrArg List.length h;rw[List.length_take,List.length_nil] at this;omega
  intro h;rw[h,List.take_zero]
 rw[hE2] at hE;have HR:=hide hR;have HPl:=hide hpl;have HS0:=hide hX;have HT0:=hide hT;have q1:=Sc.c1 hX;have f1:=Sc.f1 hX;have f0:=Tb.f hT 0;have c0:=Tb.c0 hT;have HSz:=hide (show k+2+n+m≤s.size by omega);obtain⟨nm,hnm⟩:∃nm,bstr (r.take n)=nm:=⟨_,rfl⟩;rw[hnm] at HN hE;have HNm:=hide hnm;clear hnm hres hR hpl hX hT hd hd2 hr hrl hn hnl hex hdn hm hml hdm hp hE2;have hw2:IntKind.i64.wrap ((k:Int)+2)=(k:Int)+2:=IntWalk.i64_in _ (by omega)
 go_enter Tryz.func84,Tryz.ntmps84
 go_wp2_with fail
 have S1:=hide (Sc.move (Sc.far HS0.out hne (i:=0) (.int .i8 1)) (k+2));have T1:=hide (Tb.far (i:=1) (Tb.kind_ HT0.out 1) (Ne.symm hne) (.int .i64 ((k+2:Nat):Int)));have B1:=hide (((But2.refl X T w).setCell (p:=⟨T,0,none⟩) (.inr (.inl rfl)) (.int .i8 1)).setCell (p:=⟨X,1,none⟩) (.inl rfl) (.int .i64 ((k+2:Nat):Int)));clear q1 f1 f0 c0;refine (HN.out _ S1.out).mono ?_;rintro e w2 ⟨rfl,s2,b2⟩;have T2:=hide (T1.out.at_but b2 (Ne.symm hne));have B2:=hide (B1.out.one b2);have S2:=hide s2;have f0:=Tb.f T2.out 1;have c0:=Tb.c1 T2.out;clear s2 b2 HN S1 T1 B1
 go_wp2_with fail
 have S3:=hide (Sc.far (i:=1) S2.out hne (.string nm));have T3:=hide (Tb.name_ T2.out nm);have B3:=hide (B2.out.setCell (p:=⟨T,1,none⟩) (.inr (.inl rfl)) (.string nm));clear f0 c0 S2 T2 B2;refine (HB.out _ S3.out).mono ?_;rintro e w4 ⟨rfl,s4,b4⟩;have T4:=hide (T3.out.at_but b4 (Ne.symm hne));have B4:=hide (B3.out.one b4);have S4:=hide s4;have c1:=Tb.c1 T4.out;clear s4 b4 HB S3 T3 B3
 by_cases h0:n=0
 ·rw[decide_eq_true h0] at hE;have HR0:=hide (show res=none by rw[HR.out,if_pos h0]);clear h0 HR HI;go_wp2;go_ret;exact PieceR.no HR0.out B4.out rfl HSz.out S4.out ⟨_,_,_,_,_,_,_,T4.out⟩
 rw[decide_eq_false h0] at hE;have HR0:=hide (show res=if p=true then some ⟨1,r.take n,[],false,[],k,k+2+n+m+1⟩ else none by rw[HR.out,if_neg h0]);clear h0 HR
 go_wp2_with fail
 refine (HI.out _ S4.out).mono ?_;rintro e w5 ⟨rfl,s5,b5⟩;have T5:=hide (T4.out.at_but b5 (Ne.symm hne));have B5:=hide (B4.out.one b5);have S5:=hide s5;clear s5 b5 HI S4 T4 B4 c1
 cases p with
 | false=>
  go_wp2;go_ret;refine PieceR.no (by rw[HR0.out];rfl) B5.out rfl HSz.out (k':=k+2+n+m) ?_ ⟨_,_,_,_,_,_,_,T5.out⟩
  simpa using S5.out
 | true=>
  go_wp2;go_ret;refine PieceR.yes (t:=⟨1,r.take n,[],false,[],k,k+2+n+m+1⟩) (by rw[HR0.out];rfl) B5.out rfl (HPl.out (by simp)) (by dsimp only;omega) ?_ ?_
  ·have h:=S5.out;rw[if_pos (by simp)] at h;exact h
  refine⟨none,0,?_,World.ownsRow_nil _ _ _ _⟩;have h:=T5.out;rw[←HNm.out] at h;exact h
end
end Go.Proofs.YtifiiojchlaghaaGreatDoor
