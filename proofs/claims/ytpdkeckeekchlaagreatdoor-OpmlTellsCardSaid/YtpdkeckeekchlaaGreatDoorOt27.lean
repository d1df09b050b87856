/- NFC: what Decomposed does with scalars: taken apart and sorted. And more. -/
import Derived.Test.YtpdkeckeekchlaaGreatDoorOt26
set_option linter.unusedSimpArgs false
set_option maxRecDepth 100000
set_option maxHeartbeats 8000000
set_option linter.unusedVariables false
namespace Go.Proofs.YtpdkeckeekchlaaGreatDoor
section
open Go.RowKit Go.WideShapes

attribute [local go_sem] Oper.semAt_some

theorem Zm{F:Fence}{N:Nat}{P:Program}(W:World){e:TypeId}{cs:List Value}{ops:Array Oper}{rest:List Oper}{o:Oper}{a:Act}{Q:Exit→Act→World→Prop}(hgd:o.guard=none)(s x:Operand)(t:TypeId)
  (ho:o.op=.call { callee:=.builtin .append,args:=#[s,x],argTypes:=#[t,t] })
  (base:Nat) (z:Value) (size bytes:Nat) (ht:P.underlying t=some (.slice e)) (eL:(P.info? e).map (fun i=>(i.zero,i.size,i.bytes))=some (some z,size,bytes))
  (hzs:z.cells.size=size) (hsz:0<size)
  (v:Value) (n:Nat) (xs:List Value) (hs:a.eval s=v) (hown:W.ownsRow base e size v n xs)
  (hcs:cs.length=size) (h1:∀u∈cs,u.oneCell'=true) (hx:a.eval x=.slice (some ⟨W.heap.size,0,none⟩) 1 1)
  (h63:n+1≤maxLen) (hbytes:(n+1)*bytes≤140737488355328) (hbase:base≤W.heap.size)
  (h:∀g cap w',w'.ownsRow base e size (.slice (some ⟨g,0,none⟩) (n+1) cap) (n+1) (xs++cs)→(W.alloc (.cells cs.toArray e)).grownBy w' v.ownBlock→g<w'.heap.size→base≤g→(v.ownBlock=some g∨W.heap.size≤g)→
   wpListIn F N P ops Q rest (a.put o.dst (.slice (some ⟨g,0,none⟩) (n+1) cap)) w'):wpListIn F N P ops Q (o :: rest) a (W.alloc (.cells cs.toArray e)):=by
 obtain⟨i,hi,hz,hsize,hby⟩:=info_parts eL;refine wpListIn_plain hgd fun K hK'=>?_;obtain⟨v',w',hrun,r1,r2,r3,r4⟩:=run_append_own_at (P:=P) (w:=W.alloc (.cells cs.toArray e)) base t o.type e i z size bytes ht hi hz hsize hby hzs hsz v n xs (hown.alloc _) ⟨W.heap.size,0,none⟩ 1 1 cs (by omega) (fun j u hu=>World.news_of_block (ae.new W e cs.toArray) j u (by simpa using hu)) h1 h63 hbytes (by simp;omega);obtain⟨g,cap,hv,hb,hlt⟩:=r1.form (by omega);subst hv;unfold Oper.wpIn;refine⟨?_,?_⟩
 ·simp[Oper.about,ho,resolve,Target.leads,Sem.run_pure]
 rw[Oper.semAt_plain F _ _ (by rw[ho];intro c hc';cases hc')];simp[execOp,ho,resolve,invoke,builtin,hs,hx,hrun,Result.andThen];refine hK' _ _ (h g cap w' r1 r2 hlt hb ?_)
 rcases r4 with r4|r4
 ·exact .inl r4.symm
 right
 have:g=(W.alloc (.cells cs.toArray e)).heap.size:=by simpa[Value.ownBlock] using r4
 rw[this,World.size_alloc];omega
structure xj(w:World)(pre:List Int)(W:World):Prop where
 row:∃A c,ae W w.heap.size 164 #[.slice A pre.length c]∧W.ownsRow (w.heap.size+4) 3 1 (.slice A pre.length c) pre.length (aq pre)
 b:Below w.heap.size w W
 size:w.heap.size+4≤W.heap.size
 ok:∀x∈pre,Nf.Ok x
theorem xj.keep{w W W':World}{pre:List Int}(h:xj w pre W)(hb:∀k,k<W.heap.size→k≠w.heap.size+1→k≠w.heap.size+2→k≠w.heap.size+3→W'.heap[k]?=W.heap[k]?)(hs:W.heap.size≤W'.heap.size)(ho:W'.os=W.os∧W'.tape=W.tape∧W'.output=W.output):xj w pre W':=by
 obtain⟨A,c,hk,ah⟩:=h.row;have hz:=h.size;refine⟨⟨A,c,(hb _ (by omega) (by omega) (by omega) (by omega)).trans hk,?_⟩,⟨ho.1.trans h.b.os,ho.2.1.trans h.b.tape,ho.2.2.trans h.b.output,Nat.le_trans h.b.size hs,fun k hk=>(hb k (by have:=h.b.size;omega) (by omega) (by omega) (by omega)).trans (h.b.block k hk)⟩,by omega,h.ok⟩
 rcases ah.2 with h0|⟨g,cap,cur,e,hg,hh,rest⟩
 ·exact⟨ah.1,.inl h0⟩
 exact⟨ah.1,.inr ⟨g,cap,cur,e,hg,(hb g (Array.getElem?_eq_some_iff.1 hh).1 (by omega) (by omega) (by omega)).trans hh,rest⟩⟩
theorem adi{w W w1:World}{g cap c n:Nat}{pre:List Int}{x:Int}{A:Option Addr}{o:Obj}(B:Nat)(hn:n=pre.length)
  (hk:ae W w.heap.size 164 #[.slice A n c]) (ah:W.ownsRow (w.heap.size+4) 3 1 (.slice A n c) n (aq pre))
  (hb:Below w.heap.size w W) (hsz:w.heap.size+4≤W.heap.size) (bK:∀y∈pre,Nf.Ok y) (hx:Nf.Ok x)
  (hg:(W.alloc o).grownBy w1 (Value.slice A n c).ownBlock) (nC:w.heap.size+4≤g) (dC:g<w1.heap.size) (kE:(Value.slice A n c).ownBlock=some g∨W.heap.size≤g)
  (ho:w1.ownsRow (w.heap.size+4) 3 1 (.slice (some ⟨g,0,none⟩) (n+1) cap) (n+1) (aq (pre++[x]))) :
  KeepsFrom B W (w1.setCell ⟨w.heap.size,0,none⟩ (.slice (some ⟨g,0,none⟩) (n+1) cap))∧Kq w.heap.size W (w1.setCell ⟨w.heap.size,0,none⟩ (.slice (some ⟨g,0,none⟩) (n+1) cap))∧xj w (pre++[x]) (w1.setCell ⟨w.heap.size,0,none⟩ (.slice (some ⟨g,0,none⟩) (n+1) cap)):=by
 have hne:(Value.slice A n c).ownBlock≠some w.heap.size:=bR ah hk (by decide);have hown:=aD ah;have FI:W.heap.size+1≤w1.heap.size:=by have:=hg.size;rw[World.size_alloc] at this;exact this
 have bZ:ae w1 w.heap.size 164 #[.slice A n c]:=(hk.alloc o).grown hg (fun e=>hne e.symm)
 have bu:ae (w1.setCell ⟨w.heap.size,0,none⟩ (.slice (some ⟨g,0,none⟩) (n+1) cap)) w.heap.size 164 #[.slice (some ⟨g,0,none⟩) (n+1) cap]:=by
  have:=bZ.aH 0 (.slice (some ⟨g,0,none⟩) (n+1) cap)
  simpa using this
 have wI:(w1.setCell ⟨w.heap.size,0,none⟩ (.slice (some ⟨g,0,none⟩) (n+1) cap)).heap.size=w1.heap.size:=by simp[World.setCell]
 have same:∀k,k<W.heap.size→k≠w.heap.size→(Value.slice A n c).ownBlock≠some k→(w1.setCell ⟨w.heap.size,0,none⟩ (.slice (some ⟨g,0,none⟩) (n+1) cap)).heap[k]?=W.heap[k]?:=fun k h1 h2 h3=>by
  rw[Below.heap_setCell _ _ _ _ (by exact h2),hg.block k (by rw[World.size_alloc];omega) (fun e=>h3 e.symm),Below.heap_alloc _ _ _ h1]
 have ptr:∀k,iN w.heap.size (w1.setCell ⟨w.heap.size,0,none⟩ (.slice (some ⟨g,0,none⟩) (n+1) cap)) k→k=g:=fun k ⟨n2,c2,h⟩=>by
  have h2:=bu;unfold ae at h h2;rw[h] at h2;injection h2 with h2
  injection h2 with h2
  have h3:=congrArg (fun a:Array Value=>a[0]?) h2;simp only[List.getElem?_toArray,List.getElem?_cons_zero,Option.some.injEq,Value.slice.injEq,Addr.mk.injEq] at h3;exact h3.1.1
 refine⟨?_,⟨by rw[wI];omega,fun k hc h1 h2=>same k hc.lt h1 fun h3=>h2 ?_,fun k h=>?_,fun _ k h=>by rw[ptr k h,wI];exact dC⟩,?_⟩
 ·refine (((KeepsOthers.alloc W o).trans (KeepsOthers.of_grownBy hg fun j o' ej hj=>?_)).trans (KeepsOthers.setCell _ _ _)).from B;obtain⟨_,cs,fr,h⟩:=hown j ej;have h2:(W.alloc o).heap[j]?=some (.cells cs 3 fr):=(Below.heap_alloc _ _ _ (Array.getElem?_eq_some_iff.1 h).1).trans h;rw[h2] at hj;cases hj;rfl
 ·rcases ah.2 with ⟨e0,_⟩|⟨g',cap',cur,e0,_⟩
  ·rw[e0] at h3;cases h3
  rw[e0] at h3;have:g'=k:=by simpa[Value.ownBlock] using h3
  subst this;rw[e0] at hk;exact⟨_,_,hk⟩
 ·rw[ptr k h]
  rcases kE with kE|kE
  ·left
   rcases ah.2 with ⟨e0,_⟩|⟨g',cap',cur,e0,_⟩
   ·rw[e0] at kE;cases kE
   rw[e0] at kE;have:g'=g:=by simpa[Value.ownBlock] using kE
   subst this;rw[e0] at hk;exact⟨_,_,hk⟩
  exact .inr kE
 have hl:(pre++[x]).length=n+1:=by rw[List.length_append,List.length_singleton,hn]
 refine⟨⟨some ⟨g,0,none⟩,cap,by rw[hl];exact bu,by rw[hl];exact ownsRow_setCell_other ho (by simp[Value.ownBlock];omega) _⟩,⟨?_,?_,?_,by rw[wI];have:=hb.size;omega,fun k h=>?_⟩,by rw[wI];omega,fun y hy=>?_⟩
 ·exact hg.os.trans hb.os
 ·exact hg.tape.trans hb.tape
 ·exact hg.output.trans hb.output
 ·rw[same k (by omega) (by omega) (fun e=>by have:=(hown k e).1;omega)];exact hb.block k h
 rcases List.mem_append.1 hy with hy|hy
 ·exact bK y hy
 rw[List.mem_singleton] at hy;subst hy;exact hx
theorem ah4(A:Option Addr)(n c:Nat)(w:World) :
  Calls Tryz.prog 132 #[.slice A n c] w fun e w'=>e=.returned (.func (.func 183) #[] #[.pointer (some ⟨w.heap.size,0,none⟩)])∧w'=w.alloc (.cells #[.slice A n c] 164):=by
 go_enter Tryz.func132,Tryz.ntmps132
 go_wp2;go_ret;exact⟨rfl,rfl⟩
namespace Nf
def dec(l:List Int):List Int:=sort (bU l)
end Nf
theorem aiM{w:World}{base e:Nat}{A:Option Addr}{n c:Nat}{xs:List Value}(h:w.ownsRow base e 1 (.slice A n c) n xs):n≤c:=by
 rcases h.2 with ⟨h0,h1⟩|⟨g',cap',cur,e,hb,hh,h1,h2,h3,h4⟩
 ·omega
 cases e;exact h1
theorem adg(l:List Int)(A:Option Addr)(c:Nat)(w:World)(hr:Reads w w.heap.size 1 A l.length (aq l))(bK:∀x∈l,Nf.Ok x)(hs:l.length≤250000) :
  Calls Tryz.prog 131 #[.slice A l.length c] w fun e w'=>∃A' c',e=.returned (.slice A' (Nf.dec l).length c')∧w'.ownsRow w.heap.size 3 1 (.slice A' (Nf.dec l).length c') (Nf.dec l).length (aq (Nf.dec l))∧Below w.heap.size w w':=by
 refine (callsIn_wide (n:=5)).1 ?_;refine callsIn_of_wp_marks Tryz.func131 rfl trivial ?_ rfl;simp only[Tryz.ntmps131,List.size_toArray,List.length_cons,List.length_nil,Nat.reduceAdd,Nat.reduceSub,Array.replicate_succ,Array.replicate_zero,List.push_toArray,List.append_toArray,List.nil_append,List.cons_append];obtain⟨L,hL⟩:∃L,l.length=L:=⟨_,rfl⟩;have HL:=ap hL;rw[hL] at hr hs;rw[hL];have HR:=ap hr;have ic:=ap bK;clear hL hr bK
 gi_wp2_with (refine⟨trivial,?_⟩;gi_at_call 132;refine (callsIn_wide.2 (ah4 _ _ _ _)).mono ?_;rintro e w' ⟨rfl,rfl⟩)
 have fH:ae ((w.alloc (.cells #[.slice none 0 0] 164)).alloc (.cells #[.slice A L c] 164)) (w.heap.size+1) 164 #[.slice A L c]:=by
  have:=ae.new (w.alloc (.cells #[.slice none 0 0] 164)) 164 #[.slice A L c];rwa[World.size_alloc] at this
 have kr:ae ((w.alloc (.cells #[.slice none 0 0] 164)).alloc (.cells #[.slice A L c] 164)) w.heap.size 164 #[.slice none 0 0]:=(ae.new w 164 #[.slice none 0 0]).alloc _;have dc:Below w.heap.size w ((w.alloc (.cells #[.slice none 0 0] 164)).alloc (.cells #[.slice A L c] 164)):=(ay w _).trans ((ay _ _).mono (by simp));have hz2:((w.alloc (.cells #[.slice none 0 0] 164)).alloc (.cells #[.slice A L c] 164)).heap.size=w.heap.size+2:=by simp
 generalize (w.alloc (.cells #[.slice none 0 0] 164)).alloc (.cells #[.slice A L c] 164)=W2 at fH kr dc hz2 ⊢;have eI:=ap (fun o o'=>show xj w [] ((W2.alloc o).alloc o') from⟨⟨none,0,(kr.alloc o).alloc o',World.ownsRow_nil _ _ _ _⟩,(dc.trans ((ay W2 o).mono (by omega))).trans ((ay (W2.alloc o) o').mono (by simp;omega)),by simp;omega,fun x hx=>by cases hx⟩)
 have mE:∀o o',uB (ai (w.heap.size+1)) Fence.wide (5-1) Tryz.prog 183 #[.pointer (some ⟨w.heap.size+1,0,none⟩)] (fun x:Int=>#[.int .i64 x]) (Kq w.heap.size) (fun x _=>Nf.Ok x) (fun xs=>xs=Nf.bU l) (16*L+1) ((W2.alloc o).alloc o'):=by
  intro o o';have vT:=(kr.alloc o).alloc o'
  have U4:∀k,¬iN w.heap.size ((W2.alloc o).alloc o') k:=fun k ⟨n2,c2,h⟩=>by
   unfold ae at h vT;rw[h] at vT;injection vT with vT
   injection vT with vT
   have h3:=congrArg (fun a:Array Value=>a[0]?) vT;simp at h3
  have h:=ai3 (5-1) (by omega) (w.heap.size+1) w.heap.size A c l (by rw[HL.o];omega) ((W2.alloc o).alloc o') (by rw[HL.o];exact (fH.alloc o).alloc o') (by simp;omega) (fun k h=>absurd h (U4 k)) ⟨fun hl=>by
   obtain⟨b,off,e,hb,hc⟩:=HR.o.2 (by rw[←HL.o];exact hl);refine⟨b,off,e,by omega,U4 _,fun i y hy=>?_⟩;have h1:=hc i (.int .i64 y) (by unfold aq;rw[List.getElem?_map,hy];rfl);unfold World.cell? at h1 ⊢;dsimp only at h1 ⊢;rwa[Below.heap_alloc _ _ _ (by simp;omega),Below.heap_alloc _ _ _ (by omega),dc.block b hb]⟩ ic.o
  rw[HL.o] at h;exact h
 have od:=ap (fun l A c W h=>alE l A c W h)
 refine Nv (Fr:=ai (w.heap.size+1)) (fun A B h k h1 h2=>h.block k h2 (by omega)) rfl (by omega) (gf:=183) (lb:=#[.pointer (some ⟨w.heap.size+1,0,none⟩)]) rfl trivial (enters_of Tryz.func183 (by kernel_rfl) rfl) (fun _=>rfl)
  mE ?kt ?kb (xj w) ?ip ?ib ?f eI.o
  (fun x=>{ tmps:=#[.slice A L c,undef,.pointer (some ⟨w.heap.size,0,none⟩),.int .i64 x,.slice A L c,.func (.func 183) #[] #[.pointer (some ⟨w.heap.size+1,0,none⟩)],.int .i64 x,undef,undef,undef,undef,undef,undef],defers:=[] }) ?assign ?body ?done
 case kt=>exact fun h k=>h.trans k
 case kb=>exact fun W o o' h h2=>Kq.put h h2 (by omega)
 case ip=>
  intro s W o o' h _ _;exact h.keep (fun k h1 h2 h3 h4=>World.putObj_heap_other (by omega)) (by simp[World.putObj]) ⟨rfl,rfl,rfl⟩
 case ib=>
  intro s A B h hb;exact h.keep (fun k h1 h2 h3 h4=>hb.block k h1 h2) hb.size ⟨hb.os,hb.tape,hb.output⟩
 case f=>exact fun x W o h=>h
 case assign=>
  intro l x W K hK;gi_wp2;exact hK
 case body=>
  intro l pre x W hI hf hlen hsz;obtain⟨⟨A1,c1,hk,ah⟩,hb,oV,bK⟩:=hI;have Hb:=ap hb;have vg:=ap bK;have HF:=ap hf;obtain⟨m,hm⟩:∃m,pre.length=m:=⟨_,rfl⟩;rw[hm] at hk ah hlen;have Hm:=ap hm;have q0:=hk.cell 0;have f0:=hk.frozen 0;have Hk:=ap hk;have bI:=ap ah;have gS:m≤5000000:=by omega
  clear hb bK hf hm hk ah mE fH kr dc eI
  gi_wp2_with (gi_at_builtin;go_loud (refine Zm W (cs:=[.int .i64 x]) rfl (.tmp 7) (.tmp 9) 164 rfl (w.heap.size+4) (.int .i64 0) 1 8 Tryz.underlying164 fM rfl (by omega) _ m (aq pre) rfl bI.o rfl (by simp[Value.oneCell']) rfl (by unfold maxLen;omega) (by omega) oV ?_);intro g cap w1 lQ hg1 fX ak kE;have eR:=ap (show w1.ownsRow (w.heap.size+4) 3 1 (.slice (some ⟨g,0,none⟩) (m+1) cap) (m+1) (aq (pre++[x])) from (iA pre [x]).symm▸lQ);have Ji:=ap hg1;have bZ:=WQ (Hk.o.alloc _) (bI.o.alloc _) hg1;have q1:=bZ.cell 0;have f1:=bZ.frozen 0;clear lQ hg1 bZ)
  have hst:=adi W2.heap.size Hm.o.symm Hk.o bI.o Hb.o oV vg.o HF.o Ji.o ak fX kE eR.o;exact hst
 case done=>
  intro D xs W hD fg hI hK;subst fg;obtain⟨⟨A1,c1,hk,ah⟩,hb,oV,bK⟩:=hI;have q0:=hk.cell 0;have Hk:=ap hk;have HK:=ap hK;have bI:=ap ah;have Hb:=ap hb;have ES:D=w.heap.size+2:=by omega
  subst ES;have aT:=Nf.xQ l;have HSt:=ap (od.o (Nf.bU l) A1 c1 W (Reads.cY ah) (aiM ah) (by rw[HL.o] at aT;omega));have cy:=ap (show (Nf.dec l)=Nf.sort (Nf.bU l) from rfl);clear hk ah hb bK hK mE eI fH kr dc aT;clear cy
  gi_wp2_with fail
  refine⟨trivial,?_⟩;refine (callsIn_wide.2 HSt.o).mono ?_;rintro e w3 ⟨A3,c3,rfl,b7,aA⟩;have cf:=ap b7;have aw:=ap aA;have aI:=Hk.o.go aA;have q3:=aI.cell 0;have f3:=aI.frozen 0;have br:=ap aI;clear b7 aA aI;dsimp only;gi_wp2;have e4:w.heap.size+2≠w.heap.size:=by omega
  have aop:W.heap.size≤w3.heap.size:=aw.o.size;have TM:(w3.setCell ⟨w.heap.size,0,none⟩ (.slice A3 (Nf.sort (Nf.bU l)).length c3)).heap[w.heap.size+2]?=some (.deferred (some [])):=(Below.heap_setCell _ _ _ _ (by exact e4)).trans ((aw.o.block (w.heap.size+2) (Array.getElem?_eq_some_iff.1 HK.o).1).trans HK.o);have nD:=br.o.aH 0 (.slice A3 (Nf.sort (Nf.bU l)).length c3);have q5:=nD.cell 0;refine⟨by simp,.inl ⟨_,_,rfl,run_takeDeferred TM,?_⟩⟩;have q6:=cell_kept q5 (grownBy_putObj' _ (w.heap.size+2) (.deferred none)) (fun r e=>by cases e;exact⟨_,TM,rfl⟩);refine⟨.slice A3 (Nf.sort (Nf.bU l)).length c3,?_,?_⟩
  ·simp[results,Tryz.results131,go_sem,q6]
  refine⟨A3,c3,rfl,?_,?_⟩
  ·have h:(w3.setCell ⟨w.heap.size,0,none⟩ (.slice A3 (Nf.sort (Nf.bU l)).length c3)).ownsRow W.heap.size 3 1 (.slice A3 (Nf.sort (Nf.bU l)).length c3) (Nf.sort (Nf.bU l)).length (aq (Nf.sort (Nf.bU l))):=ownsRow_setCell_below cf.o (by show w.heap.size<_;omega) _
   rcases h.2 with h0|⟨g,cap,cur,e,hg,hh,rest⟩
   ·exact⟨h.1,.inl h0⟩
   exact⟨h.1,.inr ⟨g,cap,cur,e,by omega,(World.putObj_heap_other (by omega)).trans hh,rest⟩⟩
  have h:=(Hb.o.trans (aw.o.mono Hb.o.size)).setCell (p:=⟨w.heap.size,0,none⟩) (Nat.le_refl _) (.slice A3 (Nf.sort (Nf.bU l)).length c3);exact⟨h.os,h.tape,h.output,Nat.le_trans h.size (by simp[World.putObj]),fun k hk=>(World.putObj_heap_other (by omega)).trans (h.block k hk)⟩
end
section
open Go.RowKit Go.WideShapes

theorem akI:(172:TypeId)<Tryz.prog.types.size:=of_decide_eq_true (by kernel_rfl)
theorem ab8:Tryz.prog.keyTypeAt 2 172=true:=by kernel_rfl
theorem ag7:WideMaps.KeyLaw Tryz.prog 172:=deep_law_laid Wc (m:=2) (by decide) akI ab8 (by rw[Tryz.underlying172])
theorem Gh:Maps.Keyed Tryz.prog 172:=Maps.Keyed.of_law ag7
theorem Sk:Tryz.prog.cellsOf 172=2:=by kernel_rfl
theorem ag4:Tryz.prog.keyType 172=true:=by kernel_rfl
theorem Gc{x:Int×Int}(h:cZ x):keyOf Tryz.prog 172 (o8 x)=some (di x):=by
 obtain⟨m,hm⟩:=Oa;obtain⟨h1,h2⟩:=h;unfold keyOf o8;simp only[Tryz.underlying172];rw[if_pos (by simp[ag4,Value.formed,Tryz.underlying172,Sk]),hm];unfold Program.keyLits;simp only[Tryz.underlying172,Value.cells];simp[Sk,J4,Program.keyLits,Tryz.underlying3,h1,h2,List.range_succ,List.mapM_cons,di]
structure gK(W:World)(mb n:Nat)(D:DataW Unit):Prop where
 own:W.ownsMap Tryz.prog 172 (plainElem Tryz.prog 3) mb n D
 is:Maps.IsMap D
 ok:∀x,cZ x→Maps.has D (di x)=true→∃v,Nf.whole x.1 x.2=some v∧D.atKey (di x) (.lit (.int .i64 0))=.lit (.int .i64 v)
theorem gK.new(w:World):gK (w.alloc (.map #[] 0)) w.heap.size 0 (.map []):=⟨World.ownsMap_made _ _ _ _,Maps.isMap_empty,fun _ _ h=>by cases h⟩
theorem gK.same{W W':World}{mb n:Nat}{D:DataW Unit}(h:gK W mb n D)(e:W'.heap[mb]?=W.heap[mb]?):gK W' mb n D:=⟨MU h.own e,h.is,h.ok⟩
theorem gK.lt{W:World}{mb n:Nat}{D:DataW Unit}(h:gK W mb n D):mb<W.heap.size:=h.own.lt
theorem gK.WM{W:World}{mb n:Nat}{D:DataW Unit}(h:gK W mb n D)(k t:Nat)(hk:bN W k t):k≠mb:=by
 rintro rfl;obtain⟨es,cl,hm,_⟩:=h.own;obtain⟨cs,fr,hk⟩:=hk;rw[hm] at hk;cases hk
theorem gK.next{W W':World}{mb n:Nat}{D:DataW Unit}{x:Int×Int}{v:Int}(h:gK W mb n D)(hx:cZ x)(hw:Nf.whole x.1 x.2=some v)(ho:W'.ownsMap Tryz.prog 172 (plainElem Tryz.prog 3) mb (n+1) (D.put (di x) (.lit (.int .i64 v)))):gK W' mb (n+1) (D.put (di x) (.lit (.int .i64 v))):=by
 refine⟨ho,h.is.put _ _,fun y hy hh=>?_⟩
 by_cases hm:y=x
 ·subst hm;exact⟨v,hw,Maps.atKey_put_same h.is (k:=di y) (by simp[WideAt.IsKeyLit,di]) _ _⟩
 rw[Maps.has_put_other (fun e=>hm (Cl hy hx e))] at hh;rw[Maps.atKey_put_other (fun e=>hm (Cl hy hx e))];exact h.ok y hy hh
namespace Nf
theorem Zh{a b v:Int}(h:whole a b=some v)(ha:Ok a):Ok v:=by
 unfold whole at h;unfold Ok at *
 split at h
 ·cases h;omega
 split at h
 ·rename_i hh
  cases h;have:=of_decide_eq_true hh.1;omega
 have hm:=yL h;have:=Wu _ hm;have hp:∀x∈table,0≤x.2:=by decide +kernel
 have:=hp _ hm;dsimp only at *
 omega
end Nf
def OfR(w:World)(mb n:Nat)(v:Value)(e:Ending)(w':World):Prop:=∃n' D',e=.returned v∧gK w' mb n' D'∧n'≤n+1∧ai mb w w'
theorem aia(a b:Int)(Kb mb n:Nat)(D:DataW Unit)(w:World)(ha:Nf.Ok a)(hb:Nf.Ok b)(hk:ae w Kb 234 #[.map (some mb)])(hm:gK w mb n D)(hn:n≤100000000) :
  Calls Tryz.prog 180 #[.int .i64 a,.int .i64 b,.pointer (some ⟨Kb,0,none⟩)] w (OfR w mb n (jW a b)):=by
 have gT:cZ (a,b):=⟨WalkArith.wf_i64 (by have:=ha.1;have:=ha.2;omega),WalkArith.wf_i64 (by have:=hb.1;have:=hb.2;omega)⟩;have HM:=ap hm;have HK:=ap hk;have q0:=hk.cell 0;have HW:=ap (fun W=>anx a b W ha.1 ha.2 hb.1 hb.2);have vt:=ap gT;have Hb:=ap hb;have Ha:=ap ha
 cases hh:Maps.has D (di (a,b)) with
 | true=>
  obtain⟨v,aU,cQ⟩:=hm.ok (a,b) gT hh;have Hv:=ap aU;have Ai:=ap cQ;have Hh:=ap hh;clear aU cQ hh hm hk gT ha hb
  go_enter Tryz.func180,Tryz.ntmps180
  go_wp2_with (at_lookup;refine wpList_lookup_own_ok_int _ rfl _ _ 234 rfl 172 3 .i64 Gh Tryz.underlying234 Tryz.underlying3 (mR _) mb n D rfl HM.o.own _ _ (by rfl) (Gc (x:=(a,b)) vt.o) ?_;intro cv hcv _;rw[Ai.o] at hcv;injection hcv with hcv;injection hcv with _ hcv;subst hcv;rw[Hh.o])
  go_ret2;refine⟨n,D,?_,HM.o,Nat.le_succ _,ai.refl _ _⟩;unfold jW;rw[Hv.o];rfl
 | false=>
  have Hh:=ap hh
  cases hw:Nf.whole a b with
  | none=>
   have HV:=ap (show jW a b=.tuple #[.int .i64 0,.bool false] by unfold jW;rw[hw]);rw[HV.o] at HW ⊢;clear hh hm hk gT ha hb hw HV
   go_enter Tryz.func180,Tryz.ntmps180
   go_wp2_with (at_lookup;refine wpList_lookup_own_ok_int _ rfl _ _ 234 rfl 172 3 .i64 Gh Tryz.underlying234 Tryz.underlying3 (mR _) mb n D rfl HM.o.own _ _ (by rfl) (Gc (x:=(a,b)) vt.o) ?_;intro cv hcv _;rw[Hh.o])
   refine (HW.o _).mono ?_;rintro e w2 ⟨rfl,b2⟩;have B2:=ap b2;clear b2;dsimp only;go_wp2;go_ret2;exact⟨n,D,rfl,HM.o.same (B2.o.block _ HM.o.lt),Nat.le_succ _,ai.b8 B2.o⟩
  | some v=>
   have HV:=ap (show jW a b=.tuple #[.int .i64 v,.bool true] by unfold jW;rw[hw]);have Hw:=ap hw;rw[HV.o] at HW ⊢;have Mp:=Nf.Zh hw ha;have rS:(Lit.int .i64 v).wf=true:=WalkArith.wf_i64 (by have:=Mp.1;have:=Mp.2;omega);have Hwv:=ap rS;have dU:n<maxLen:=by unfold maxLen;omega
   clear hh hm hk gT ha hb hw HV Mp rS
   go_enter Tryz.func180,Tryz.ntmps180
   go_wp2_with (at_lookup;refine wpList_lookup_own_ok_int _ rfl _ _ 234 rfl 172 3 .i64 Gh Tryz.underlying234 Tryz.underlying3 (mR _) mb n D rfl HM.o.own _ _ (by rfl) (Gc (x:=(a,b)) vt.o) ?_;intro cv hcv _;rw[Hh.o])
   refine (HW.o _).mono ?_;rintro e w2 ⟨rfl,b2⟩;have B2:=ap b2;have n8:=ap (HM.o.same (b2.block _ HM.o.lt));have bu:=HK.o.go b2;have q2:=bu.cell 0;clear b2 bu;dsimp only
   go_wp2_with (at_mapUpdate;refine wpList_mapUpdate_own _ rfl _ _ _ 234 rfl 172 3 Gh Tryz.underlying234 _ mb n D rfl n8.o.own dU _ _ _ (by rfl) (by rfl) (Gc (x:=(a,b)) vt.o) _ [] (plainElem_int Tryz.underlying3 Hwv.o) ?_;intro w8 aP aG)
   go_ret2;exact⟨n+1,_,rfl,n8.o.next vt.o Hw.o aP,Nat.le_refl _,(ai.b8 B2.o).Tz aG⟩
end
end Go.Proofs.YtpdkeckeekchlaaGreatDoor
