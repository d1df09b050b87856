/- Tokens: a text. (Printed by wip/genTkP.py.) And more. -/
import Derived.Test.YtnbmfljhbpfilaaGreatDoorOw05
import Derived.Deep.RegionHeld3
import Derived.Deep.AppendLies
import Derived.ScopeJumps
import Derived.WalkMore
set_option linter.unusedSimpArgs false
set_option maxRecDepth 20000
set_option maxHeartbeats 16000000
set_option linter.unusedVariables false
namespace Go.Proofs.YtnbmfljhbpfilaaGreatDoor
section
open Go.RowKit Tk

theorem index_one(l:L)(c:UInt8):Lib.index l [c]=Lib.indexByte l c:=by
 induction l with
 | nil=>rfl
 | cons b l ih=>
  unfold Lib.index Lib.indexByte;rw[ih]
  have:([c]:L).isPrefixOf (b :: l)=(b==c):=by
   simp only[List.isPrefixOf,Bool.and_true];rw[Bool.eq_iff_iff,beq_iff_eq,beq_iff_eq];exact eq_comm
  rw[this]
theorem al2(l:L):(till [60] l).getD l.length=if Lib.indexByte l 60<0 then l.length else (Lib.indexByte l 60).toNat:=by
 unfold till;rw[index_one]
 split<;>rfl
theorem agr{c:UInt8}{l:L}(h:([c]:L).isPrefixOf l=false):Lib.index l [c]≠0:=by
 cases l with
 | nil=>simp[Lib.index]
 | cons b l=>
  unfold Lib.index;rw[h];have h1:=Lib.index_ge l [c];show (if Lib.index l [c] == -1 then -1 else Lib.index l [c]+1)≠0;split
  ·decide
  rename_i h2
  have h3:Lib.index l [c]≠-1:=by simpa using h2
  omega
theorem al3{l:L}(h:([60]:L).isPrefixOf l=false)(h0:0<l.length):0<(till [60] l).getD l.length:=by
 cases ht:till [60] l with
 | none=>exact h0
 | some n=>
  have h1:=(Cr ht).1;have h2:=agr h;simp;omega
theorem al4(l:L):(till [60] l).getD l.length≤l.length:=by
 cases h:till [60] l with
 | none=>exact Nat.le_refl _
 | some n=>
  have:=(Cr h).2;simp at this ⊢;omega

theorem al0(w:World)(base X T:Nat)(s:ByteArray)(k:Nat)(hX:Sc w X s k)(hT:T0 w T k)(hne:X≠T)(bN:6≤X)(gC:6≤T)(hg:Gl w)(ha:k<s.size)(hs:s.size≤1000000000)(po:([60]:L).isPrefixOf (s.data.toList.drop k)=false) :
  Calls Tryz.prog 88 #[.pointer (some ⟨X,0,none⟩),.pointer (some ⟨T,0,none⟩)] w (dU w base X T s k (Tk.text k (s.data.toList.drop k))):=by
 have HP:=hide (show ∀W,Calls Tryz.prog 35 #[.string (s.extract k s.size),.int .u8 60] W fun e w'=>e=.returned (.int .i64 (Lib.indexByte (s.data.toList.drop k) 60))∧w'=W from fun W=>by
  have h:=Tryz.strings_IndexByte (s.extract k s.size) 60 W;rw[iY,aP] at h;rw[iY];exact h)
 have kM:=hide hX;have dE:=hide hT;have f0:=Tb.f hT 0;have c0:=Tb.c0 hT;have lC:¬s.size<k:=by omega
 have HG:=hide hg;obtain⟨z,hz⟩:∃z,Lib.indexByte (s.data.toList.drop k) 60=z:=⟨_,rfl⟩;obtain⟨n,hn⟩:∃n,(till [60] (s.data.toList.drop k)).getD (s.data.toList.drop k).length=n:=⟨_,rfl⟩;have lJ:=al2 (s.data.toList.drop k);have gY:=al4 (s.data.toList.drop k);have LK:=al3 po;rw[hn,List.length_drop,bL] at gY LK;rw[hn,hz,List.length_drop,bL] at lJ;rw[hz] at HP;have HX:=hide (show s.extract k (k+n)=aa ((s.data.toList.drop k).take n) by rw[mg,show k+n-k=n by omega])
 have HC:=hide fun W (hW:Gl W)=>(show Calls Tryz.prog 123 #[.string (s.extract k (k+n)),.string ⟨#[93,93,62]⟩] W fun e w'=>e=.returned (.bool (decide (0≤Lib.index ((s.data.toList.drop k).take n) [93,93,62])))∧w'=W from by
  obtain⟨m,hm⟩:=hW.most;have h:=Tryz.strings_Contains (s.extract k (k+n)) ⟨#[93,93,62]⟩ m W (by rw[ByteArray.size_extract];omega) hm;rw[HX.out,aP] at h;rw[HX.out];exact h)
 obtain⟨res,dC⟩:∃o,Tk.text k (s.data.toList.drop k)=o:=⟨_,rfl⟩;rw[dC]
 have hR:res=if Lib.index ((s.data.toList.drop k).take n) [93,93,62]<0 then some ⟨2,[],[],false,(s.data.toList.drop k).take n,k,k+n⟩ else none:=by
  rw[←dC];unfold Tk.text;dsimp only;rw[hn]
 obtain⟨cb,AG⟩:∃b,decide (0≤Lib.index ((s.data.toList.drop k).take n) [93,93,62])=b:=⟨_,rfl⟩;rw[AG] at HC
 have Tw:res=if cb=true then none else some ⟨2,[],[],false,(s.data.toList.drop k).take n,k,k+n⟩:=by
  rw[hR,←AG]
  by_cases h:Lib.index ((s.data.toList.drop k).take n) [93,93,62]<0
  ·rw[if_pos h,if_neg (by simp;omega)]
  rw[if_neg h,if_pos (by simp;omega)]
 have HR:=hide Tw;have HN:=hide (show k+n≤s.size by omega);have Pz:=hide (show 0<n from LK (by omega));clear dC hR Tw AG hn gY LK hz po;have anV:k≤s.size:=by omega
 clear ha
 go_enter Tryz.func88,Tryz.ntmps88
 go_wp2;have S1:=hide (Sc.far kM.out hne (i:=0) (.int .i8 2));have T1:=hide (Tb.Me dE.out 2);have B1:=hide ((aR.refl X T w).setCell (p:=⟨T,0,none⟩) (.inr (.inl rfl)) (.int .i8 2));clear f0 c0;refine wp_region_held_drew (S:=fun W=>Sc W X s k∧aR X T w W∧Tb W T 2 ⟨#[]⟩ (.slice none 0 0) false ⟨#[]⟩ k 0) (by kernel_rfl) ?_ (fun hHeld=>?_)
 ·(try dsimp only)
  first|exact⟨ae.drew S1.out,aR.drew B1.out,ae.drew T1.out⟩|exact⟨ae.go hHeld.1 hb,aR.go hHeld.2.1 hb,ae.go hHeld.2.2 hb⟩|exact hHeld
 change wpAnyH _ _ _ _ _ 11 #[false,false,false,false,false,false,false,false,false,false,false] _ _;iterate 9 (refine aY (v:=?_) rfl rfl hHeld ?_ ?_;rotate_left;(· (intro w hSw;(try dsimp only at hSw);have q0:=Sc.c0 hSw.1;have q1:=Sc.c1 hSw.1;go_simp;try with_reducible rfl));(try simp only[nx,List.set]))
 refine jg (i:=9) rfl (by kernel_rfl) (by kernel_rfl) (fun K hK=>?_);go_simp
 go_at_call 35
 refine (HP.out _).mono ?_;rintro e w' ⟨rfl,rfl⟩;(try dsimp only);refine hK.out _ _ ?_ (fun aV=>?_)
 ·(try dsimp only)
  first|exact⟨ae.drew S1.out,aR.drew B1.out,ae.drew T1.out⟩|exact⟨ae.go hHeld.1 hb,aR.go hHeld.2.1 hb,ae.go hHeld.2.2 hb⟩|exact hHeld
 clear hK K hHeld;have hHeld:=aV;clear aV;(try simp only[Act.put,List.setIfInBounds_toArray,List.set_cons_zero,List.set_cons_succ]);(refine aY (v:=?_) rfl rfl hHeld ?_ ?_;rotate_left;(· (intro w hSw;(try dsimp only at hSw);go_simp;try with_reducible rfl));(try simp only[nx,List.set]));refine wpAnyH_done (by kernel_rfl) ?_ _;have S2:=hide hHeld.1;have B2:=hide hHeld.2.1;have T2:=hide hHeld.2.2;clear hHeld HP S1 B1 T1 kM dE;generalize (w.setCell ⟨T,0,none⟩ (.int .i8 2)).drew=W2 at *
 have hw0:IntKind.i64.wrap ((k:Int)+n)=(k:Int)+n:=IntWalk.i64_in _ (by have:=HN.out;omega);have h4:(0:Int)≤(k:Int)+n∧(k:Int)+n≤(s.size:Int):=by have:=HN.out;omega
 have h5:(k:Int)≤(k:Int)+n:=by omega
 have h6:((k:Int)+n).toNat=k+n:=by omega
 by_cases hz:z<0
 ·rw[if_pos hz] at lJ;have lK:IntKind.i64.wrap ((s.size:Int)-k)=(n:Int):=by rw[show (s.size:Int)-k=n by omega];exact IntWalk.i64_in _ (by omega)
  have hnk:s.size-k=n:=by omega
  have hw2:IntKind.i64.wrap ((s.size-k:Nat):Int)=(n:Int):=by rw[show s.size-k=n by omega];exact IntWalk.i64_in _ (by omega)
  clear lJ;go_wp2;refine wp_region_held_drew (S:=fun W=>Sc W X s k∧aR X T w W∧Tb W T 2 ⟨#[]⟩ (.slice none 0 0) false ⟨#[]⟩ k 0) (by kernel_rfl) ?_ (fun hHeld=>?_)
  ·(try dsimp only)
   first|exact⟨ae.drew S2.out,aR.drew B2.out,ae.drew T2.out⟩|exact⟨ae.go hHeld.1 hb,aR.go hHeld.2.1 hb,ae.go hHeld.2.2 hb⟩|exact hHeld
  change wpAnyH _ _ _ _ _ 11 #[false,false,false,false,false,false,false,false,false,false,false] _ _;iterate 11 (refine aY (v:=?_) rfl rfl hHeld ?_ ?_;rotate_left;(· (intro w hSw;(try dsimp only at hSw);have q0:=Sc.c0 hSw.1;have q1:=Sc.c1 hSw.1;go_simp;try with_reducible rfl));(try simp only[nx,List.set]))
  refine wpAnyH_done (by kernel_rfl) ?_ _;have S3:=hide hHeld.1;have B3:=hide hHeld.2.1;have T3:=hide hHeld.2.2;clear hHeld S2 B2 T2 hz;generalize W2.drew=W3 at *
  go_wp2;refine wp_region_held_drew (S:=fun W=>Sc W X s k∧aR X T w W∧∃tx,Tb W T 2 ⟨#[]⟩ (.slice none 0 0) false tx k 0) (by kernel_rfl) ?_ (fun hHeld=>?_)
  ·(try dsimp only)
   first|exact⟨ae.drew S3.out,aR.drew B3.out,⟨_,ae.drew T3.out⟩⟩|exact⟨ae.go hHeld.1 hb,aR.go hHeld.2.1 hb,ae.go hHeld.2.2 hb⟩|exact hHeld
  change wpAnyH _ _ _ _ _ 19 #[false,false,false,false,false,false,false,false,false,false,false,false,false,false,false,false,false,false,false] _ _;iterate 18 (refine aY (v:=?_) rfl rfl hHeld ?_ ?_;rotate_left;(· (intro w hSw;(try dsimp only at hSw);have q0:=Sc.c0 hSw.1;have q1:=Sc.c1 hSw.1;go_simp;try with_reducible rfl));(try simp only[nx,List.set]))
  obtain⟨tx,qG⟩:=hHeld.2.2;have f4:=Tb.f qG 4;have c4:=Tb.c4 qG;have S6:=hide (Sc.far (i:=4) hHeld.1 hne (.string (s.extract k (k+n))));have B6:=hide (hHeld.2.1.setCell (p:=⟨T,4,none⟩) (.inr (.inl rfl)) (.string (s.extract k (k+n))));have T6:=hide (Tb.Yj qG (s.extract k (k+n)));clear qG;refine jg (i:=18) rfl (by kernel_rfl) (by kernel_rfl) (fun K hK=>?_);go_simp;(try dsimp only);refine hK.out _ _ ?_ (fun aV=>?_)
  ·exact⟨S6.out,B6.out,_,T6.out⟩
  clear f4 c4;clear hK K hHeld;have hHeld:=aV;clear aV;(try simp only[Act.put,List.setIfInBounds_toArray,List.set_cons_zero,List.set_cons_succ]);refine wpAnyH_done (by kernel_rfl) ?_ _;clear hHeld S3 B3 T3;obtain⟨W6,nY⟩:∃W6,(W3.setCell ⟨T,4,none⟩ (.string (s.extract k (k+n)))).drew=W6:=⟨_,rfl⟩;rw[nY];replace S6:=hide (show Sc W6 X s k by rw[←nY];exact S6.out);replace B6:=hide (show aR X T w W6 by rw[←nY];exact B6.out);replace T6:=hide (show Tb W6 T 2 ⟨#[]⟩ (.slice none 0 0) false (s.extract k (k+n)) k 0 by rw[←nY];exact T6.out);clear nY;have q1:=Sc.c1 S6.out;have f1:=Sc.f1 S6.out;have c4:=Tb.c4 T6.out
  go_wp2_with fail
  have S7:=hide (Sc.move S6.out (k+n));have B7:=hide (B6.out.setCell (p:=⟨X,1,none⟩) (.inl rfl) (.int .i64 ((k+n:Nat):Int)));have T7:=hide (Tb.far (i:=1) T6.out (Ne.symm hne) (.int .i64 ((k+n:Nat):Int)));clear q1 f1 c4;refine (HC.out _ (HG.out.Dw B7.out bN gC)).mono ?_;rintro e w8 ⟨rfl,rfl⟩
  cases cb with
  | true=>
   go_wp2;go_ret;exact dU.no (HR.out.trans (by simp)) B7.out rfl HN.out S7.out ⟨_,_,_,_,_,_,_,T7.out⟩
  | false=>
   go_wp2;go_ret;refine dU.yes (t:=⟨2,[],[],false,(s.data.toList.drop k).take n,k,k+n⟩) (HR.out.trans (by simp)) B7.out rfl HN.out (by have:=Pz.out;dsimp only;omega) S7.out ⟨none,0,?_,World.ownsRow_nil _ _ _ _⟩;have h:=T7.out;rw[HX.out] at h;exact h
 rw[if_neg hz] at lJ;obtain rfl:z=(n:Int):=by omega
 have Br:¬((n:Int)<0):=by omega
 clear hz lJ;go_wp2;refine wp_region_held_drew (S:=fun W=>Sc W X s k∧aR X T w W∧∃tx,Tb W T 2 ⟨#[]⟩ (.slice none 0 0) false tx k 0) (by kernel_rfl) ?_ (fun hHeld=>?_)
 ·(try dsimp only)
  first|exact⟨ae.drew S2.out,aR.drew B2.out,⟨_,ae.drew T2.out⟩⟩|exact⟨ae.go hHeld.1 hb,aR.go hHeld.2.1 hb,ae.go hHeld.2.2 hb⟩|exact hHeld
 change wpAnyH _ _ _ _ _ 19 #[false,false,false,false,false,false,false,false,false,false,false,false,false,false,false,false,false,false,false] _ _;iterate 18 (refine aY (v:=?_) rfl rfl hHeld ?_ ?_;rotate_left;(· (intro w hSw;(try dsimp only at hSw);have q0:=Sc.c0 hSw.1;have q1:=Sc.c1 hSw.1;go_simp;try with_reducible rfl));(try simp only[nx,List.set]))
 obtain⟨tx,qG⟩:=hHeld.2.2;have f4:=Tb.f qG 4;have c4:=Tb.c4 qG;have S6:=hide (Sc.far (i:=4) hHeld.1 hne (.string (s.extract k (k+n))));have B6:=hide (hHeld.2.1.setCell (p:=⟨T,4,none⟩) (.inr (.inl rfl)) (.string (s.extract k (k+n))));have T6:=hide (Tb.Yj qG (s.extract k (k+n)));clear qG;refine jg (i:=18) rfl (by kernel_rfl) (by kernel_rfl) (fun K hK=>?_);go_simp;(try dsimp only);refine hK.out _ _ ?_ (fun aV=>?_)
 ·exact⟨S6.out,B6.out,_,T6.out⟩
 clear f4 c4;clear hK K hHeld;have hHeld:=aV;clear aV;(try simp only[Act.put,List.setIfInBounds_toArray,List.set_cons_zero,List.set_cons_succ]);refine wpAnyH_done (by kernel_rfl) ?_ _;clear hHeld S2 B2 T2;obtain⟨W6,nY⟩:∃W6,(W2.setCell ⟨T,4,none⟩ (.string (s.extract k (k+n)))).drew=W6:=⟨_,rfl⟩;rw[nY];replace S6:=hide (show Sc W6 X s k by rw[←nY];exact S6.out);replace B6:=hide (show aR X T w W6 by rw[←nY];exact B6.out);replace T6:=hide (show Tb W6 T 2 ⟨#[]⟩ (.slice none 0 0) false (s.extract k (k+n)) k 0 by rw[←nY];exact T6.out);clear nY;have q1:=Sc.c1 S6.out;have f1:=Sc.f1 S6.out;have c4:=Tb.c4 T6.out
 go_wp2_with fail
 have S7:=hide (Sc.move S6.out (k+n));have B7:=hide (B6.out.setCell (p:=⟨X,1,none⟩) (.inl rfl) (.int .i64 ((k+n:Nat):Int)));have T7:=hide (Tb.far (i:=1) T6.out (Ne.symm hne) (.int .i64 ((k+n:Nat):Int)));clear q1 f1 c4;refine (HC.out _ (HG.out.Dw B7.out bN gC)).mono ?_;rintro e w8 ⟨rfl,rfl⟩
 cases cb with
 | true=>
  go_wp2;go_ret;exact dU.no (HR.out.trans (by simp)) B7.out rfl HN.out S7.out ⟨_,_,_,_,_,_,_,T7.out⟩
 | false=>
  go_wp2;go_ret;refine dU.yes (t:=⟨2,[],[],false,(s.data.toList.drop k).take n,k,k+n⟩) (HR.out.trans (by simp)) B7.out rfl HN.out (by have:=Pz.out;dsimp only;omega) S7.out ⟨none,0,?_,World.ownsRow_nil _ _ _ _⟩;have h:=T7.out;rw[HX.out] at h;exact h
end
section
open Go.RowKit Tk

section
variable {P:Program} {ops:Array Oper} {o:Oper} {a:Act} {K:Act→World→Prop} {Q:Exit→Act→World→Prop} {E:Prop}
theorem F7(W:World)(hgd:o.guard=none)(s x:Operand)(t:TypeId)(ho:o.op=.call { callee:=.builtin .append,args:=#[s,x],argTypes:=#[t,t] })
  (base:Nat) (e:TypeId) (z:Value) (size bytes:Nat) (ht:P.underlying t=some (.slice e)) (fw:(P.info? e).map (fun i=>(i.zero,i.size,i.bytes))=some (some z,size,bytes))
  (hzs:z.cells.size=size) (hsz:0<size) (v:Value) (n:Nat) (xs:List Value) (hs:a.eval s=v) (hown:W.ownsRow base e size v n xs)
  (cs:List Value) (hcs:cs.length=size) (h1:∀u∈cs,u.oneCell'=true) (H:Nat) (hH:ae W H e cs.toArray) (hx:a.eval x=.slice (some ⟨H,0,none⟩) 1 1)
  (h63:n+1≤maxLen) (hbytes:(n+1)*bytes≤140737488355328) (hbase:base≤W.heap.size)
  (h:∀g cap w',w'.ownsRow base e size (.slice (some ⟨g,0,none⟩) (n+1) cap) (n+1) (xs++cs)→W.grownBy w' v.ownBlock→g<w'.heap.size→
   K (a.put o.dst (.slice (some ⟨g,0,none⟩) (n+1) cap)) w') :
  if Region.wanted o (yielded ops a.tmps)=true then Oper.wp P o a W K Q else E:=by
 obtain⟨i,hi,hz,hsize,hby⟩:=info_parts fw;refine step_append_lies _ hgd s x t ho base e i z size bytes ht hi hz hsize hby hzs hsz v n xs hs hown ⟨H,0,none⟩ 1 1 cs hx (by omega) ?_ h1 (by omega) h63 hbytes hbase _ rfl ?_
 ·intro j u hu;exact World.news_of_block hH j u (by simpa using hu)
 intro g cap w' hown' hgrow _ hlt;exact h g cap w' hown' hgrow hlt
theorem wA{rest:List Oper}{Q:Exit→Act→World→Prop}(W:World)(hgd:o.guard=none)(s x:Operand)(t:TypeId)(ho:o.op=.call { callee:=.builtin .append,args:=#[s,x],argTypes:=#[t,t] })
  (base:Nat) (e:TypeId) (z:Value) (size bytes:Nat) (ht:P.underlying t=some (.slice e)) (fw:(P.info? e).map (fun i=>(i.zero,i.size,i.bytes))=some (some z,size,bytes))
  (hzs:z.cells.size=size) (hsz:0<size) (v:Value) (n:Nat) (xs:List Value) (hs:a.eval s=v) (hown:W.ownsRow base e size v n xs)
  (cs:List Value) (hcs:cs.length=size) (h1:∀u∈cs,u.oneCell'=true) (H:Nat) (hH:ae W H e cs.toArray) (hx:a.eval x=.slice (some ⟨H,0,none⟩) 1 1)
  (h63:n+1≤maxLen) (hbytes:(n+1)*bytes≤140737488355328) (hbase:base≤W.heap.size)
  (h:∀g cap w',w'.ownsRow base e size (.slice (some ⟨g,0,none⟩) (n+1) cap) (n+1) (xs++cs)→W.grownBy w' v.ownBlock→g<w'.heap.size→
   wpList P ops Q rest (a.put o.dst (.slice (some ⟨g,0,none⟩) (n+1) cap)) w') :
  wpList P ops Q (o :: rest) a W:=by
 obtain⟨i,hi,hz,hsize,hby⟩:=info_parts fw;refine wpList_append_lies W hgd s x t ho base e i z size bytes ht hi hz hsize hby hzs hsz v n xs hs hown ⟨H,0,none⟩ 1 1 cs hx (by omega) ?_ h1 (by omega) h63 hbytes hbase _ rfl ?_
 ·intro j u hu;exact World.news_of_block hH j u (by simpa using hu)
 intro g cap w' hown' hgrow _ hlt;exact h g cap w' hown' hgrow hlt
end

theorem abR(l:List At)(a:At):jX (l++[a])=jX l++[.string (aa a.name),.string (aa a.value),.int .i64 (a.at_:Int)]:=by simp[jX]
theorem abM(a:At):∀u∈([.string (aa a.name),.string (aa a.value),.int .i64 (a.at_:Int)]:List Value),u.oneCell'=true:=by
 intro u hu;simp only[List.mem_cons,List.not_mem_nil,or_false] at hu
 rcases hu with rfl|rfl|rfl<;>rfl
theorem agt:(Tryz.prog.info? 147).map (fun i=>(i.zero,i.size,i.bytes))=some (some (.agg #[.string ⟨#[]⟩,.string ⟨#[]⟩,.int .i64 0]),3,40):=by kernel_rfl

structure gQ(w W:World)(base X T:Nat)(s:ByteArray)(k k':Nat)(nm:ByteArray)(L:List At)(A:Option Addr)(c:Nat):Prop where
 sc:Sc W X s k'
 tb:Tb W T 0 nm (.slice A L.length c) false ⟨#[]⟩ k 0
 own:W.ownsRow base 147 3 (.slice A L.length c) L.length (jX L)
 but:aR X T w W
section
variable {w W W':World} {base X T:Nat} {s:ByteArray} {k k' j:Nat} {nm:ByteArray} {L:List At} {A:Option Addr} {c:Nat}
theorem gQ.go(h:gQ w W base X T s k k' nm L A c)(hne:X≠T)(hb:ag X W W')(hs:Sc W' X s j):gQ w W' base X T s k j nm L A c :=
 ⟨hs,h.tb.xg hb (Ne.symm hne),h.own.kept (row:=some X) ⟨hb.os,hb.tape,hb.output,hb.size,fun i hi hn=>hb.block i hi (fun e=>hn (by rw[e]))⟩ (.inr (cU h.own h.sc (by decide))),h.but.one hb⟩
theorem gQ.alloc(h:gQ w W base X T s k k' nm L A c)(o:Obj):gQ w (W.alloc o) base X T s k k' nm L A c :=
 ⟨ae.alloc h.sc o,ae.alloc h.tb o,h.own.alloc o,h.but.alloc o⟩
theorem gQ.far(h:gQ w W base X T s k k' nm L A c){p:Addr}(hp:w.heap.size≤p.block)(hX:X≠p.block)(hT:T≠p.block)(hA:(Value.slice A L.length c).ownBlock≠some p.block)(u:Value):gQ w (W.setCell p u) base X T s k k' nm L A c :=
 ⟨ae.far h.sc hX u,ae.far h.tb hT u,ownsRow_setCell_other h.own hA u,h.but.setCell (.inr (.inr hp)) u⟩
theorem gQ.some_(h:gQ w W base X T s k k' nm L A c):Jc W T:=⟨_,_,_,_,_,_,_,h.tb⟩
theorem gQ.JG(h:gQ w W base X T s k k' nm L A c)(hne:X≠T):Sc (W.setCell ⟨T,3,none⟩ (.bool true)) X s k'∧Tb (W.setCell ⟨T,3,none⟩ (.bool true)) T 0 nm (.slice A L.length c) true ⟨#[]⟩ k 0∧
  (W.setCell ⟨T,3,none⟩ (.bool true)).ownsRow base 147 3 (.slice A L.length c) L.length (jX L)∧aR X T w (W.setCell ⟨T,3,none⟩ (.bool true)) :=
 ⟨Sc.far h.sc hne _,Tb.JG h.tb true,ownsRow_setCell_other h.own (a:=⟨T,3,none⟩) (cU h.own h.tb (by decide)) _,h.but.setCell (.inr (.inl rfl)) _⟩
end
theorem abX{f off:Nat}{l:L}(h:([47,62]:L).isPrefixOf (l.drop (aL l))=true):attrs (f+1) off l=some ([],true,off+aL l+2):=by
 unfold attrs;rw[if_pos h]
theorem abW{f off:Nat}{l:L}(h:([47,62]:L).isPrefixOf (l.drop (aL l))=false)(h2:([62]:L).isPrefixOf (l.drop (aL l))=true):attrs (f+1) off l=some ([],false,off+aL l+1):=by
 unfold attrs;rw[if_neg (by rw[h];simp),if_pos h2]
theorem ab1{f off:Nat}{l:L}(h:([47,62]:L).isPrefixOf (l.drop (aL l))=false)(h2:([62]:L).isPrefixOf (l.drop (aL l))=false)(h3:aL l=0):attrs (f+1) off l=none:=by
 unfold attrs;rw[if_neg (by rw[h];simp),if_neg (by rw[h2];simp),if_pos h3]
theorem abZ{f off:Nat}{l:L}(h:([47,62]:L).isPrefixOf (l.drop (aL l))=false)(h2:([62]:L).isPrefixOf (l.drop (aL l))=false)(h3:aL l≠0) :
  attrs (f+1) off l=if take (l.drop (aL l))=0 then none else (eqv ((l.drop (aL l)).drop (take (l.drop (aL l))))).bind fun x=>if (60:UInt8)∈x.1 then none
    else (attrs f (off+aL l+take (l.drop (aL l))+x.2) ((l.drop (aL l)).drop (take (l.drop (aL l))+x.2))).map fun y=>(⟨(l.drop (aL l)).take (take (l.drop (aL l))),x.1,off+aL l⟩ :: y.1,y.2):=by
 rw[attrs,if_neg (by rw[h];simp),if_neg (by rw[h2];simp),if_neg h3]
theorem ag9(v:L):(0≤Lib.indexByte v 60)↔(60:UInt8)∈v:=by
 induction v with
 | nil=>simp[Lib.indexByte]
 | cons b l ih=>
  unfold Lib.indexByte
  by_cases hb:b=60
  ·subst hb;simp
  rw[if_neg (by simpa using hb)];have h1:=Lib.indexByte_ge l 60;have:(60:UInt8)∈b :: l↔(60:UInt8)∈l:=by simp[Ne.symm hb]
  rw[this,←ih];(try dsimp only);split
  ·rename_i h2
   have:Lib.indexByte l 60 = -1:=by simpa using h2
   omega
  rename_i h2
  have:Lib.indexByte l 60≠-1:=by simpa using h2
  omega
def glue(L:List At)(o:Option (List At×Bool×Nat)):Option (List At×Bool×Nat):=o.map fun y=>(L++y.1,y.2)
theorem SR(L:List At)(b:Bool)(e:Nat):glue L (some ([],b,e))=some (L,b,e):=by simp[glue]
theorem aep(L:List At)(a:At)(o:Option (List At×Bool×Nat)):glue L (o.map fun y=>(a :: y.1,y.2))=glue (L++[a]) o:=by
 cases o<;>simp[glue]
theorem anc{P:Program}{a:Act}{w:World}{Q:Exit→Act→World→Prop}{c rest:Code}(l:Nat)(J:Act→World→Prop)(μ:Act→World→Nat)(hf:findLabel c l=some (.seq .skip rest))
  (first:(∀a w,J a w→rest.wp P (Exit.jump l J Q) a w)→c.wp P (Exit.jump l J Q) a w)
  (pass:∀a w,J a w→rest.wp P (Exit.jump l (fun a' w'=>J a' w'∧μ a' w'<μ a w) Q) a w):(Code.scope c).wp P Q a w :=
 wp_scope_jumps l J μ hf (first fun a w h=>Code.wp_mono (fun e a' w' q=>by cases e<;>first|exact⟨q.1,q.2.1⟩|exact q) (pass a w h)) fun a w h=>wp_seq (wp_skip (pass a w h))
theorem agD{l:Nat}{J:Act→World→Prop}{Q:Exit→Act→World→Prop}{a:Act}{w:World}(h:J a w):Exit.jump l J Q (.goto l) a w:=⟨rfl,h⟩
theorem aR.grown{X T:Nat}{w w1 w':World}(h:aR X T w w1){row:Option Nat}(hg:w1.grownBy w' row)(hr:∀k,row=some k→w.heap.size≤k):aR X T w w' :=
 ⟨hg.os.trans h.os,hg.tape.trans h.tape,hg.output.trans h.output,Nat.le_trans h.size hg.size,fun k hk h1 h2=>(hg.block k (Nat.lt_of_lt_of_le hk h.size) (fun e=>by have:=hr k e.symm;omega)).trans (h.block k hk h1 h2)⟩
theorem gQ.app{w W w8:World}{base X T:Nat}{s:ByteArray}{k k' gg cap:Nat}{nm:ByteArray}{L:List At}{A:Option Addr}{c:Nat}{o:Obj}(a:At)(h:gQ w W base X T s k k' nm L A c)(hb:base=w.heap.size)(hne:X≠T)
  (hg:(W.alloc o).drew.grownBy w8 (Value.slice A L.length c).ownBlock)
  (hown:w8.ownsRow base 147 3 (.slice (some ⟨gg,0,none⟩) (L.length+1) cap) (L.length+1) (jX L++[.string (aa a.name),.string (aa a.value),.int .i64 (a.at_:Int)])) :
  gQ w (w8.setCell ⟨T,2,none⟩ (.slice (some ⟨gg,0,none⟩) (L.length+1) cap)) base X T s k k' nm (L++[a]) (some ⟨gg,0,none⟩) cap:=by
 have hX:Sc w8 X s k':=ae.grown (ae.drew (ae.alloc h.sc o)) hg (cU h.own h.sc (by decide)).symm;have hT:Tb w8 T 0 nm (.slice A L.length c) false ⟨#[]⟩ k 0:=ae.grown (ae.drew (ae.alloc h.tb o)) hg (cU h.own h.tb (by decide)).symm;have hl:(L++[a]).length=L.length+1:=by simp
 refine⟨Sc.far hX hne _,?_,?_,?_⟩
 ·rw[hl];exact Tb.abH hT _
 ·rw[hl,abR];exact ownsRow_setCell_other hown (a:=⟨T,2,none⟩) (cU hown hT (by decide)) _
 refine (aR.grown ((h.but.alloc o).drew) hg fun i hi=>?_).setCell (.inr (.inl rfl)) _;have:=(aG h.own i hi).1;omega
def xe(w:World)(X:Nat):Nat:=match w.cell? ⟨X,1,none⟩ with
 | some (.int _ k)=>k.toNat
 | _=>0
theorem Sc.xe{w:World}{X:Nat}{s:ByteArray}{k:Nat}(h:Sc w X s k):xe w X=k:=by
 unfold Go.Proofs.YtnbmfljhbpfilaaGreatDoor.xe;rw[Sc.c1 h];rfl
end
end Go.Proofs.YtnbmfljhbpfilaaGreatDoor
