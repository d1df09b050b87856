/- A range over a function whose element lies in a block of the round's own, and which may be left ahead of its end: the law of the statement. And more. -/
import Derived.Test.YtpdkeckeekchlaaGreatDoorOt08
import Derived.Lib.Builder
import Derived.Laws.Externs
import Derived.OrdersIn
set_option linter.unusedSimpArgs false
set_option maxRecDepth 100000
set_option maxHeartbeats 2000000
set_option linter.unusedVariables false
namespace Go.Proofs.YtpdkeckeekchlaaGreatDoor
section
open Go.RowKit

theorem ajI{α:Type}{F:Fence}{n:Nat}{P:Program}{g:Operand}{ps:Array Tmp}{assign body:Code}{Q:Exit→Act→World→Prop}{a:Act}{w:World}
  (hro:F.round=none) (h1:1≤n) {gf:Nat} {lb:Array Value} (hg:a.eval g=.func (.func gf) #[] lb) (KR:F.fn gf) (eg:∀args w,(callFunc gf args).run P w=.ok (.enter gf args) w)
  {oC:α→Array Value} {Kp:World→World→Prop} {S Sp:List α→Prop} {N:Nat} (Mf:SeqStopsK F (n-1) P gf lb oC Kp S Sp N w)
  (yd:∀{A B C:World},Kp A B→Kp B C→Kp A C) (vP:∀(W:World) (l:Nat) (o o':Obj),w.heap.size≤l→W.heap[l]?=some o→o.isCells=false→o.isWalk=false→Kp W (W.putObj l o')) (hKa:∀W o,Kp W (W.alloc o))
  (cP:∀x,(oC x).size=ps.size) (I:List α→World→Prop) (Ix:Code→List α→World→Prop) (hI:OwnFrom w.heap.size I) (A6:∀c,OwnFrom w.heap.size (Ix c)) (h0:I [] w) (obj:α→Obj) (a₁:α→Nat→Act)
  (Ll:∀(l:Nat) (x:α) (W:World) (K:Act→World→Prop),K (a₁ x W.heap.size) (W.alloc (obj x))→
   assign.wpIn (F.inRound l) (n-1-1) P (Exit.then K (fun _ _ _=>False)) { tmps:=(ps.zip (oC x)).foldl (fun t (p,v)=>t.setIfInBounds p v) a.tmps,defers:=[] } W)
  (Lq:∀(l:Nat) (pre:List α) (x:α) (H:Nat) (W:World),I pre W→pre.length<N→w.heap.size+2≤H→W.heap[H]?=some (obj x)→W.heap.size=H+1→
   body.wpIn (F.inRound l) (n-1-1) P (ownPostG w.heap.size Kp I Ix (pre++[x]) W) (a₁ x H) W)
  (hdone:∀(D:Nat) (xs:List α) (W:World),w.heap.size≤D→S xs→I xs W→W.heap[D]?=some (.deferred (some []))→Q .normal { a with defers:={ target:=.collected D,args:=#[] } :: a.defers } W)
  (agm:∀(D:Nat) (c:Code) (pre:List α) (W:World),w.heap.size≤D→Sp pre→Ix c pre W→W.heap[D]?=some (.deferred (some []))→c.wpIn F n P Q { a with defers:={ target:=.collected D,args:=#[] } :: a.defers } W) :
  (Code.rangeFunc g ps assign body).wpIn F n P Q a w:=by
 refine wpIn_rangeFunc fun fn wk=>?_;rw[hro]
 let D:=w.heap.size
 let rr:LoopState→Option Code→Loop:=fun st pe=>{ state:=st,pending:=pe,fn,tmps:=a.tmps,params:=ps,assign,body,defers:=D }
 let W0:=(w.alloc (.deferred (some []))).alloc (.loop (rr .ready none))
 have hsz:W0.heap.size=D+2:=by show ((w.alloc _).alloc _).heap.size=_;simp[D]
 have nG:W0.heap[D+1]?=some (.loop (rr .ready none)):=by
  have:=World.alloc_heap_new (w.alloc (.deferred (some []))) (.loop (rr .ready none));rwa[World.size_alloc] at this
 have oM:W0.heap[D]?=some (.deferred (some [])):=(Below.heap_alloc _ _ _ (by simp[D])).trans (World.alloc_heap_new w _);have vX:Below w.heap.size w W0:=((Below.refl _ w).alloc (Nat.le_refl _) _).alloc (by simp) _
 have U5:∀{A:World} {row:Option Nat},(∀r,row=some r→W0.heap.size≤r∧∃o:Obj,A.heap[r]?=some o∧o.isWalk=true)→∀r,row=some r→w.heap.size≤r∧∃o:Obj,A.heap[r]?=some o∧o.isCells=false :=
  fun hr r e=>by obtain⟨hB,o,ho,hw⟩:=hr r e;exact⟨by rw[hsz] at hB;show D≤r;omega,o,ho,Obj.not_cells_of_walk hw⟩
 have keep:∀{A B:World} {row:Option Nat} {k:Nat} {o:Obj},A.grownBy B row→(∀r,row=some r→W0.heap.size≤r∧∃o:Obj,A.heap[r]?=some o∧o.isWalk=true)→A.heap[k]?=some o→k<D+2→B.heap[k]?=some o :=
  fun hgr hr hk hlt=>(hgr.block _ (Array.getElem?_eq_some_iff.1 hk).1 (fun e=>by have:=(hr _ e.symm).1;omega)).trans hk
 refine⟨D+1,[{ target:=.collected D,args:=#[] }],W0,{ target:=.fn (.func gf) lb,args:=#[.func (.yield (D+1)) #[] #[]] },W0,gf,#[.func (.yield (D+1)) #[] #[]]++lb,W0,
  run_enterLoop_outer _ _ _ _ _,by simp only[resolve,hg];simp[go_sem],fun f' wh=>by simp[Target.leads] at wh;subst wh;exact KR,by simp[invoke,go_sem,eg],fun _=>h1,?_⟩
 refine (Mf (D+1) (fun pre W=>I pre W∧W.heap[D+1]?=some (.loop (rr .ready none))∧W.heap[D]?=some (.deferred (some [])))
  (fun pre W=>∃c,Ix c pre W∧W.heap[D+1]?=some (.loop (rr .done (some c)))∧W.heap[D]?=some (.deferred (some []))) W0 vX ?_ ?_ ?_ ⟨hI.alloc _ (hI.alloc _ h0),nG,oM⟩).mono ?_
 ·rintro s A B row ⟨hi,hl,hd⟩ hgr hr;exact⟨hI s A B row hi hgr (U5 hr),keep hgr hr hl (by omega),keep hgr hr hd (by omega)⟩
 ·rintro s A B row ⟨c,hi,hl,hd⟩ hgr hr;exact⟨c,A6 c s A B row hi hgr (U5 hr),keep hgr hr hl (by omega),keep hgr hr hd (by omega)⟩
 ·rintro pre x W ⟨hi,hl,hd⟩ hlen;have hlt:D+1<W.heap.size:=(Array.getElem?_eq_some_iff.1 hl).1;have hy:=run_yield (P:=P) (args:=oC x) hl (cP x);have cn:(W.alloc (obj x)).heap[D+1]?=some (.loop (rr .ready none)):=(Below.heap_alloc _ _ _ hlt).trans hl;have hda:(W.alloc (obj x)).heap[D]?=some (.deferred (some [])):=(Below.heap_alloc _ _ _ (by omega)).trans hd;have afQ:D+1<(W.alloc (obj x)).heap.size:=by simp;omega
  refine⟨fn,_,assign,body,hy,roundIn_of_wpIn wk (Ll _ x W _ ⟨_,run_beginRound cn rfl,?_⟩)⟩;have gC:((W.alloc (obj x)).putObj (D+1) (.loop (rr .busy none))).heap[D+1]?=some (.loop (rr .busy none)):=World.putObj_heap_same afQ;have bJ:((W.alloc (obj x)).putObj (D+1) (.loop (rr .busy none))).heap[D]?=some (.deferred (some [])):=(World.putObj_heap_other (by omega)).trans hda;have wL:((W.alloc (obj x)).putObj (D+1) (.loop (rr .busy none))).heap[W.heap.size]?=some (obj x):=(World.putObj_heap_other (by omega)).trans (World.alloc_heap_new W _);have LK:I pre ((W.alloc (obj x)).putObj (D+1) (.loop (rr .busy none))):=hI.putObj _ (hI.alloc _ hi) (Nat.le_succ D) cn rfl;refine wpIn_mono (Lq _ pre x W.heap.size _ LK hlen (by show D+2≤_;omega) wL (by simp)) ?_;rintro e a3 W3 hp
  cases e with
  | normal=>
   obtain⟨aI,jJ,pT⟩:=hp;have e8:=aI.same _ _ (Nat.le_succ D) gC rfl;have gR:=aI.same _ _ (Nat.le_refl _) bJ rfl;have kG:=(Array.getElem?_eq_some_iff.1 e8).1;have he:=run_endRound (P:=P) none e8;exact⟨_,_,he,.inl ⟨rfl,⟨hI.putObj _ pT (Nat.le_succ D) e8 rfl,World.putObj_heap_same kG,(World.putObj_heap_other (by omega)).trans gR⟩,yd (yd (yd (hKa W (obj x)) (vP _ _ _ _ (Nat.le_succ D) cn rfl rfl)) jJ) (vP _ _ _ _ (Nat.le_succ D) e8 rfl rfl)⟩⟩
  | ret=>
   obtain⟨aI,pT⟩:=hp;have e8:=aI.same _ _ (Nat.le_succ D) gC rfl;have gR:=aI.same _ _ (Nat.le_refl _) bJ rfl;have kG:=(Array.getElem?_eq_some_iff.1 e8).1;have he:=run_endRound (P:=P) (some .ret) e8;exact⟨_,_,he,.inr ⟨rfl,.ret,(A6 _).putObj _ pT (Nat.le_succ D) e8 rfl,World.putObj_heap_same kG,(World.putObj_heap_other (by omega)).trans gR⟩⟩
  | exit id=>
   obtain⟨aI,pT⟩:=hp;have e8:=aI.same _ _ (Nat.le_succ D) gC rfl;have gR:=aI.same _ _ (Nat.le_refl _) bJ rfl;have kG:=(Array.getElem?_eq_some_iff.1 e8).1;have he:=run_endRound (P:=P) (some (.exit id)) e8;exact⟨_,_,he,.inr ⟨rfl,.exit id,(A6 _).putObj _ pT (Nat.le_succ D) e8 rfl,World.putObj_heap_same kG,(World.putObj_heap_other (by omega)).trans gR⟩⟩
  | goto t=>
   obtain⟨aI,pT⟩:=hp;have e8:=aI.same _ _ (Nat.le_succ D) gC rfl;have gR:=aI.same _ _ (Nat.le_refl _) bJ rfl;have kG:=(Array.getElem?_eq_some_iff.1 e8).1;have he:=run_endRound (P:=P) (some (.goto t)) e8;exact⟨_,_,he,.inr ⟨rfl,.goto t,(A6 _).putObj _ pT (Nat.le_succ D) e8 rfl,World.putObj_heap_same kG,(World.putObj_heap_other (by omega)).trans gR⟩⟩
  | panic ch=>exact hp.elim
  | outgrown=>exact hp.elim
 rintro e W2 ⟨⟨v,rfl⟩,⟨xs,hS,hi,hl,hd⟩|⟨pre,hSp,c,hi,hl,hd⟩⟩
 ·have hlt:=(Array.getElem?_eq_some_iff.1 hl).1;exact⟨none,_,run_endLoop (P:=P) hl (by simp[rr]),hdone D xs _ (Nat.le_refl _) hS (hI.putObj _ hi (Nat.le_succ D) hl rfl) ((World.putObj_heap_other (by omega)).trans hd)⟩
 have hlt:=(Array.getElem?_eq_some_iff.1 hl).1;exact⟨some c,_,run_endLoop (P:=P) hl (by simp[rr]),agm D c pre _ (Nat.le_refl _) hSp ((A6 c).putObj _ hi (Nat.le_succ D) hl rfl) ((World.putObj_heap_other (by omega)).trans hd)⟩
end
section
open Go.RowKit

theorem VN:(Tryz.prog.info? 52).map (·.size)=some 2:=by kernel_rfl
theorem ahp:liesAt Tryz.prog Tryz.prog.depth 52 (2 / Tryz.prog.cellsOf 52) 0 52 1=true:=by kernel_rfl
theorem F5:(Tryz.prog.info? 5).map (fun i=>(i.zero,i.size,i.bytes))=some (some (.int .u8 0),1,1):=by kernel_rfl
theorem Sg(b:Nat)(w:World)(h0:w.cell? ⟨b,0,none⟩=some (.pointer (some ⟨b,0,none⟩))) :
  Calls Tryz.prog 36 #[.pointer (some ⟨b,0,none⟩)] w fun e w'=>e=.returned (.tuple #[])∧w'=w:=by
 obtain⟨j,hj,_⟩:=Option.map_eq_some_iff.1 VN
 go_enter Tryz.func36,Tryz.ntmps36
 go_wp2;rw[Lib.run_neq_ptr_same w _ Tryz.underlying49 hj];go_wp2;go_end0;exact⟨rfl,rfl⟩
theorem Sd(b:Nat)(w:World)(h0:w.cell? ⟨b,0,none⟩=some (.pointer none))(tZ:w.shape? b=some (52,2))(Ff:w.frozen? ⟨b,0,none⟩=false) :
  Calls Tryz.prog 36 #[.pointer (some ⟨b,0,none⟩)] w fun e w'=>e=.returned (.tuple #[])∧w'=w.setCell ⟨b,0,none⟩ (.pointer (some ⟨b,0,none⟩)):=by
 obtain⟨j,hj,Fj⟩:=Option.map_eq_some_iff.1 VN
 go_enter Tryz.func36,Tryz.ntmps36
 go_wp2;rw[Lib.run_to_unsafe w ⟨b,0,none⟩ Tryz.underlying49 Tryz.underlying125 hj (by rw[Fj];decide) tZ (Nat.zero_lt_succ 1)];simp only[Result.andThen];rw[Oper.upon_value];go_wp2;rw[run_callFunc_extern Tryz.func61 (by kernel_rfl) (by kernel_rfl) (by kernel_rfl) (e:=Extern.AbiNoEscape.same) (by kernel_rfl)];rw[Lib.run_noEscape];simp only[Result.andThen];rw[Oper.upon_value];go_wp2;rw[Lib.run_from_unsafe w ⟨b,0,none⟩ Tryz.underlying125 Tryz.underlying49 hj tZ ahp];simp only[Result.andThen];rw[Oper.upon_value];go_wp2;go_end0;exact⟨rfl,rfl⟩
structure bM(B b:Nat)(w w':World):Prop where
 os:w'.os=w.os
 tape:w'.tape=w.tape
 output:w'.output=w.output
 size:w.heap.size≤w'.heap.size
 block:∀k,k<w.heap.size→k≠b→(k<B∨¬bN w k 5)→w'.heap[k]?=w.heap[k]?
theorem bM.refl(B b:Nat)(w:World):bM B b w w:=⟨rfl,rfl,rfl,Nat.le_refl _,fun _ _ _ _=>rfl⟩
theorem bM.trans{B b:Nat}{w w1 w':World}(h:bM B b w w1)(k:bM B b w1 w'):bM B b w w' :=
 ⟨k.os.trans h.os,k.tape.trans h.tape,k.output.trans h.output,Nat.le_trans h.size k.size,fun i hi hb ht=>by
  have e1:=h.block i hi hb ht;refine (k.block i (Nat.lt_of_lt_of_le hi h.size) hb (ht.imp id fun hn hT=>hn ?_)).trans e1;obtain⟨cs,fr,hh⟩:=hT;exact⟨cs,fr,e1.symm.trans hh⟩⟩
theorem bM.below{B b:Nat}{w w':World}(h:bM B b w w')(hb:B≤b)(hs:B≤w.heap.size):Below B w w':=⟨h.os,h.tape,h.output,h.size,fun k hk=>h.block k (by omega) (by omega) (.inl hk)⟩
theorem bM.blk{B b g t:Nat}{cs:Array Value}{w w':World}(h:bM B b w w')(hg:ae w g t cs)(hb:g≠b)(ht:t≠5):ae w' g t cs :=
 (h.block g hg.lt hb (.inr fun⟨cs',fr,hh⟩=>by
  have:=(show w.heap[g]?=some (.cells cs t (0,0)) from hg).symm.trans hh;injection this with this
  injection this with _ h3
  exact ht h3)).trans hg
theorem bM.b8{B b:Nat}{w w':World}(h:Below w.heap.size w w'):bM B b w w':=⟨h.os,h.tape,h.output,h.size,fun k hk _ _=>h.block k hk⟩
theorem bM.setCell{B b:Nat}{w w1:World}(h:bM B b w w1)(i:Nat)(u:Value):bM B b w (w1.setCell ⟨b,i,none⟩ u) :=
 ⟨h.os,h.tape,h.output,by simpa[World.setCell] using h.size,fun k hk hb ht=>by
  rw[Below.heap_setCell _ _ _ _ (by exact hb)];exact h.block k hk hb ht⟩
theorem bM.alloc{B b:Nat}{w w1:World}(h:bM B b w w1)(o:Obj):bM B b w (w1.alloc o):=h.trans (bM.b8 (ay w1 o))
theorem bM.grown{B b:Nat}{w w1 w2:World}{row:Option Nat}(h:bM B b w w1)(hg:w1.grownBy w2 row)(hr:∀k,row=some k→B≤k∧bN w1 k 5):bM B b w w2 :=
 h.trans ⟨hg.os,hg.tape,hg.output,hg.size,fun k hk _ ht=>hg.block k hk fun e=>by
  obtain⟨h1,h2⟩:=hr k e.symm
  rcases ht with ht|ht
  ·omega
  exact ht h2⟩
theorem R9(B b:Nat)(bs:List Value)(w:World)(h:Lib.IsBuilder 52 5 B b bs w) :
  Calls Tryz.prog 36 #[.pointer (some ⟨b,0,none⟩)] w fun e w'=>e=.returned (.tuple #[])∧(Lib.BuilderAt 52 5 B b (.pointer (some ⟨b,0,none⟩)) bs w'∧bM B b w w'):=by
 rcases h with h|h
 ·refine (Sd b w h.cell0 h.shape h.frozen0).mono ?_;rintro e w' ⟨rfl,rfl⟩;exact⟨rfl,h.used _,(bM.refl B b w).setCell 0 _⟩
 refine (Sg b w h.cell0).mono ?_;rintro e w' ⟨rfl,rfl⟩;exact⟨rfl,h,bM.refl B b _⟩
theorem neB5:52≠5:=by decide
theorem Zp(B b:Nat)(bs:List Value)(s:ByteArray)(w:World)(h:Lib.IsBuilder 52 5 B b bs w)(hlen:bs.length+s.size≤140737488355328)(il:B≤w.heap.size) :
  Calls Tryz.prog 19 #[.pointer (some ⟨b,0,none⟩),.string s] w fun e w'=>e=.returned (.tuple #[.int .i64 s.size,.nilIface])∧(Lib.IsBuilder 52 5 B b (bs++Lib.strCells s) w'∧bM B b w w'):=by
 obtain⟨i0,hi,hz0,hz1,hz2⟩:=info_parts F5
 go_enter Tryz.func19,Tryz.ntmps19
 go_wp2_with fail
 refine (R9 B b bs _ h).mono ?_;rintro e w1 ⟨rfl,h1,ak⟩;obtain⟨hB,v,ck,hown,hne⟩:=h1;have c0:w1.cell? ⟨b,0,none⟩=some (.pointer (some ⟨b,0,none⟩)):=by rw[Lib.cell_of_heap ck];rfl
 have c1:w1.cell? ⟨b,1,none⟩=some v:=by rw[Lib.cell_of_heap ck];rfl
 go_wp2_with (at_builtin;refine Lib.wpList_append_own_string _ rfl _ _ 50 9 rfl B 5 i0 Tryz.underlying50 Tryz.underlying9 hi hz0 hz1 hz2 _ _ _ rfl hown s rfl ?c3 ?c4 ?c5 ?_)
 case c3=>unfold maxLen;omega
 case c4=>omega
 case c5=>have:=ak.size;omega
 intro v' w2 hown' hgrow _
 have hlt:b<w1.heap.size:=by
  rcases Nat.lt_or_ge b w1.heap.size with h' | h'
  ·exact h'
  simp[Array.getElem?_eq_none h'] at ck
 have af:w2.heap[b]?=some (.cells #[.pointer (some ⟨b,0,none⟩),v] 52 (0,0)):=by
  rw[hgrow.block b hlt (fun e=>hne e.symm)];exact ck
 have d0:w2.cell? ⟨b,0,none⟩=some (.pointer (some ⟨b,0,none⟩)):=by rw[Lib.cell_of_heap af];rfl
 have d1:w2.cell? ⟨b,1,none⟩=some v:=by rw[Lib.cell_of_heap af];rfl
 have f1:w2.frozen? ⟨b,1,none⟩=false:=Lib.frozen_of_heap af 1
 obtain⟨ao,n',cap,rfl⟩:∃ao n' cap,v'=.slice ao n' cap:=by
  rcases hown'.2 with ⟨hv,_⟩|⟨g,cap,cur,hv,_⟩
  ·exact⟨_,_,_,hv⟩
  exact⟨_,_,_,hv⟩
 go_wp2;go_ret2;refine⟨rfl,.inr ?_,?_⟩
 ·exact Lib.BuilderAt.put (T:=52) (e:=5) hB af (bs':=bs++Lib.strCells s) (by simpa[Lib.strCells_length] using hown') neB5
 exact (ak.grown hgrow (fun k hk=>⟨(hown.lt k hk).1,(aD hown k hk).2⟩)).setCell 1 _
end
section
open Go

section
variable {F:Fence} {n:Nat} {P:Program} {l:List Oper} {Q:Exit→Act→World→Prop} {md:Region.Mode}
theorem mI{i:Nat}{oi:Oper}{fuel:Nat}{listed:Array Bool}{a:Act}{w:World}{rs:List Nat}(hi:l[i]?=some oi)(hw:Region.wanted oi (yielded l.toArray a.tmps)=true)
  (h:∀K':Act→World→Prop,(∀a w,wpAnyIn F n P md l.toArray Q fuel (listed.setIfInBounds i true) a w→K' a w)→Oper.wpIn F n P oi a w K' Q)
  (hs:AllReadyIn F n P md l.toArray Q fuel listed a w rs):AllReadyIn F n P md l.toArray Q fuel listed a w (i :: rs) :=
 AllReadyIn.cons (o:=oi) (by simpa using hi) (fun K hK=>by rw[if_pos hw];exact h K hK) hs
theorem iW{i:Nat}{oi:Oper}{fuel:Nat}{listed:Array Bool}{a:Act}{w:World}(hi:l[i]?=some oi)(hr:Region.ready md l.toArray listed=[i])(hw:Region.wanted oi (yielded l.toArray a.tmps)=true)
  (h:∀K':Act→World→Prop,(∀a w,wpAnyIn F n P md l.toArray Q fuel (listed.setIfInBounds i true) a w→K' a w)→Oper.wpIn F n P oi a w K' Q):wpAnyIn F n P md l.toArray Q (fuel+1) listed a w :=
 wpAnyIn_ready hr (by simp) (mI hi hw h AllReadyIn.nil)
end
end
end Go.Proofs.YtpdkeckeekchlaaGreatDoor
