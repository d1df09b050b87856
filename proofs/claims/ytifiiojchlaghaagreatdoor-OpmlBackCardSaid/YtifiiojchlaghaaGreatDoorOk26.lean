/- NFC: what Decomposed does with scalars: taken apart and sorted. And more. -/
import Derived.Test.YtifiiojchlaghaaGreatDoorOk25
set_option linter.unusedSimpArgs false
set_option maxRecDepth 100000
set_option maxHeartbeats 8000000
set_option linter.unusedVariables false
namespace Go.Proofs.YtifiiojchlaghaaGreatDoor
section
open Go.RowKit Go.WideShapes

attribute [local go_sem] Oper.semAt_some

theorem wpListIn_append_elem_at{F:Fence}{N:Nat}{P:Program}(W:World){e:TypeId}{cs:List Value}{ops:Array Oper}{rest:List Oper}{o:Oper}{a:Act}{Q:Exit→Act→World→Prop}(hgd:o.guard=none)(s x:Operand)(t:TypeId)
  (ho:o.op=.call { callee:=.builtin .append,args:=#[s,x],argTypes:=#[t,t] })
  (base:Nat) (z:Value) (size bytes:Nat) (ht:P.underlying t=some (.slice e)) (hinfo:(P.info? e).map (fun i=>(i.zero,i.size,i.bytes))=some (some z,size,bytes))
  (hzs:z.cells.size=size) (hsz:0<size)
  (v:Value) (n:Nat) (xs:List Value) (hs:a.eval s=v) (hown:W.ownsRow base e size v n xs)
  (hcs:cs.length=size) (h1:∀u∈cs,u.oneCell'=true) (hx:a.eval x=.slice (some ⟨W.heap.size,0,none⟩) 1 1)
  (h63:n+1≤maxLen) (hbytes:(n+1)*bytes≤140737488355328) (hbase:base≤W.heap.size)
  (h:∀g cap w',w'.ownsRow base e size (.slice (some ⟨g,0,none⟩) (n+1) cap) (n+1) (xs++cs)→(W.alloc (.cells cs.toArray e)).grownBy w' v.ownBlock→g<w'.heap.size→base≤g→(v.ownBlock=some g∨W.heap.size≤g)→
   wpListIn F N P ops Q rest (a.put o.dst (.slice (some ⟨g,0,none⟩) (n+1) cap)) w'):wpListIn F N P ops Q (o :: rest) a (W.alloc (.cells cs.toArray e)):=by
 obtain⟨i,hi,hz,hsize,hby⟩:=info_parts hinfo;refine wpListIn_plain hgd fun K hK'=>?_;obtain⟨v',w',hrun,r1,r2,r3,r4⟩:=run_append_own_at (P:=P) (w:=W.alloc (.cells cs.toArray e)) base t o.type e i z size bytes ht hi hz hsize hby hzs hsz v n xs (hown.alloc _) ⟨W.heap.size,0,none⟩ 1 1 cs (by omega) (fun j u hu=>World.news_of_block (Blk.new W e cs.toArray) j u (by simpa using hu)) h1 h63 hbytes (by simp;omega);obtain⟨g,cap,hv,hb,hlt⟩:=r1.form (by omega);subst hv;unfold Oper.wpIn;refine⟨?_,?_⟩
 ·simp[Oper.about,ho,resolve,Target.leads,Sem.run_pure]
 rw[Oper.semAt_plain F _ _ (by rw[ho];intro c hc';cases hc')];simp[execOp,ho,resolve,invoke,builtin,hs,hx,hrun,Result.andThen];refine hK' _ _ (h g cap w' r1 r2 hlt hb ?_)
 rcases r4 with r4|r4
 ·exact .inl r4.symm
 right
 have:g=(W.alloc (.cells cs.toArray e)).heap.size:=by simpa[Value.ownBlock] using r4
 rw[this,World.size_alloc];omega
structure DecI(w:World)(pre:List Int)(W:World):Prop where
 row:∃A c,Blk W w.heap.size 166 #[.slice A pre.length c]∧W.ownsRow (w.heap.size+4) 3 1 (.slice A pre.length c) pre.length (intVs pre)
 b:Below w.heap.size w W
 size:w.heap.size+4≤W.heap.size
 ok:∀x∈pre,Nf.Ok x
theorem DecI.keep{w W W':World}{pre:List Int}(h:DecI w pre W)(hb:∀k,k<W.heap.size→k≠w.heap.size+1→k≠w.heap.size+2→k≠w.heap.size+3→W'.heap[k]?=W.heap[k]?)(hs:W.heap.size≤W'.heap.size)(ho:W'.os=W.os∧W'.tape=W.tape∧W'.output=W.output):DecI w pre W':=by
 obtain⟨A,c,hk,hrow⟩:=h.row;have hz:=h.size;refine⟨⟨A,c,(hb _ (by omega) (by omega) (by omega) (by omega)).trans hk,?_⟩,⟨ho.1.trans h.b.os,ho.2.1.trans h.b.tape,ho.2.2.trans h.b.output,Nat.le_trans h.b.size hs,fun k hk=>(hb k (by have:=h.b.size;omega) (by omega) (by omega) (by omega)).trans (h.b.block k hk)⟩,by omega,h.ok⟩
 rcases hrow.2 with h0|⟨g,cap,cur,e,hg,hh,rest⟩
 ·exact⟨hrow.1,.inl h0⟩
 exact⟨hrow.1,.inr ⟨g,cap,cur,e,hg,(hb g (Array.getElem?_eq_some_iff.1 hh).1 (by omega) (by omega) (by omega)).trans hh,rest⟩⟩
theorem dec_step{w W w1:World}{g cap c n:Nat}{pre:List Int}{x:Int}{A:Option Addr}{o:Obj}(B:Nat)(hn:n=pre.length)
  (hk:Blk W w.heap.size 166 #[.slice A n c]) (hrow:W.ownsRow (w.heap.size+4) 3 1 (.slice A n c) n (intVs pre))
  (hb:Below w.heap.size w W) (hsz:w.heap.size+4≤W.heap.size) (hok:∀y∈pre,Nf.Ok y) (hx:Nf.Ok x)
  (hg:(W.alloc o).grownBy w1 (Value.slice A n c).ownBlock) (hg4:w.heap.size+4≤g) (hgl:g<w1.heap.size) (hga:(Value.slice A n c).ownBlock=some g∨W.heap.size≤g)
  (ho:w1.ownsRow (w.heap.size+4) 3 1 (.slice (some ⟨g,0,none⟩) (n+1) cap) (n+1) (intVs (pre++[x]))) :
  KeepsFrom B W (w1.setCell ⟨w.heap.size,0,none⟩ (.slice (some ⟨g,0,none⟩) (n+1) cap))∧Kq w.heap.size W (w1.setCell ⟨w.heap.size,0,none⟩ (.slice (some ⟨g,0,none⟩) (n+1) cap))∧DecI w (pre++[x]) (w1.setCell ⟨w.heap.size,0,none⟩ (.slice (some ⟨g,0,none⟩) (n+1) cap)):=by
 have hne:(Value.slice A n c).ownBlock≠some w.heap.size:=own_blk_ne hrow hk (by decide);have hown:=own_isT hrow;have hsz1:W.heap.size+1≤w1.heap.size:=by have:=hg.size;rw[World.size_alloc] at this;exact this
 have hk1:Blk w1 w.heap.size 166 #[.slice A n c]:=(hk.alloc o).grown hg (fun e=>hne e.symm)
 have hk2:Blk (w1.setCell ⟨w.heap.size,0,none⟩ (.slice (some ⟨g,0,none⟩) (n+1) cap)) w.heap.size 166 #[.slice (some ⟨g,0,none⟩) (n+1) cap]:=by
  have:=hk1.set_ 0 (.slice (some ⟨g,0,none⟩) (n+1) cap)
  simpa using this
 have hszs:(w1.setCell ⟨w.heap.size,0,none⟩ (.slice (some ⟨g,0,none⟩) (n+1) cap)).heap.size=w1.heap.size:=by simp[World.setCell]
 have same:∀k,k<W.heap.size→k≠w.heap.size→(Value.slice A n c).ownBlock≠some k→(w1.setCell ⟨w.heap.size,0,none⟩ (.slice (some ⟨g,0,none⟩) (n+1) cap)).heap[k]?=W.heap[k]?:=fun k h1 h2 h3=>by
  rw[Below.heap_setCell _ _ _ _ (by exact h2),hg.block k (by rw[World.size_alloc];omega) (fun e=>h3 e.symm),Below.heap_alloc _ _ _ h1]
 have ptr:∀k,ObP w.heap.size (w1.setCell ⟨w.heap.size,0,none⟩ (.slice (some ⟨g,0,none⟩) (n+1) cap)) k→k=g:=fun k ⟨n2,c2,h⟩=>by
  have h2:=hk2;unfold Blk at h h2;rw[h] at h2;injection h2 with h2
  injection h2 with h2
  have h3:=congrArg (fun a:Array Value=>a[0]?) h2;simp only[List.getElem?_toArray,List.getElem?_cons_zero,Option.some.injEq,Value.slice.injEq,Addr.mk.injEq] at h3;exact h3.1.1
 refine⟨?_,⟨by rw[hszs];omega,fun k hc h1 h2=>same k hc.lt h1 fun h3=>h2 ?_,fun k h=>?_,fun _ k h=>by rw[ptr k h,hszs];exact hgl⟩,?_⟩
 ·refine (((KeepsOthers.alloc W o).trans (KeepsOthers.of_grownBy hg fun j o' ej hj=>?_)).trans (KeepsOthers.setCell _ _ _)).from B;obtain⟨_,cs,fr,h⟩:=hown j ej;have h2:(W.alloc o).heap[j]?=some (.cells cs 3 fr):=(Below.heap_alloc _ _ _ (Array.getElem?_eq_some_iff.1 h).1).trans h;rw[h2] at hj;cases hj;rfl
 ·rcases hrow.2 with ⟨e0,_⟩|⟨g',cap',cur,e0,_⟩
  ·rw[e0] at h3;cases h3
  rw[e0] at h3;have:g'=k:=by simpa[Value.ownBlock] using h3
  subst this;rw[e0] at hk;exact⟨_,_,hk⟩
 ·rw[ptr k h]
  rcases hga with hga|hga
  ·left
   rcases hrow.2 with ⟨e0,_⟩|⟨g',cap',cur,e0,_⟩
   ·rw[e0] at hga;cases hga
   rw[e0] at hga;have:g'=g:=by simpa[Value.ownBlock] using hga
   subst this;rw[e0] at hk;exact⟨_,_,hk⟩
  exact .inr hga
 have hl:(pre++[x]).length=n+1:=by rw[List.length_append,List.length_singleton,hn]
 refine⟨⟨some ⟨g,0,none⟩,cap,by rw[hl];exact hk2,by rw[hl];exact ownsRow_setCell_other ho (by simp[Value.ownBlock];omega) _⟩,⟨?_,?_,?_,by rw[hszs];have:=hb.size;omega,fun k h=>?_⟩,by rw[hszs];omega,fun y hy=>?_⟩
 ·exact hg.os.trans hb.os
 ·exact hg.tape.trans hb.tape
 ·exact hg.output.trans hb.output
 ·rw[same k (by omega) (by omega) (fun e=>by have:=(hown k e).1;omega)];exact hb.block k h
 rcases List.mem_append.1 hy with hy|hy
 ·exact hok y hy
 rw[List.mem_singleton] at hy;subst hy;exact hx
theorem nparts_any(A:Option Addr)(n c:Nat)(w:World) :
  Calls Tryz.prog 112 #[.slice A n c] w fun e w'=>e=.returned (.func (.func 151) #[] #[.pointer (some ⟨w.heap.size,0,none⟩)])∧w'=w.alloc (.cells #[.slice A n c] 166):=by
 go_enter Tryz.func112,Tryz.ntmps112
 go_wp2;go_ret;exact⟨rfl,rfl⟩
namespace Nf
def dec(l:List Int):List Int:=sort (decomp l)
end Nf
theorem own_len{w:World}{base e:Nat}{A:Option Addr}{n c:Nat}{xs:List Value}(h:w.ownsRow base e 1 (.slice A n c) n xs):n≤c:=by
 rcases h.2 with ⟨h0,h1⟩|⟨g',cap',cur,e,hb,hh,h1,h2,h3,h4⟩
 ·omega
 cases e;exact h1
theorem dec_any(l:List Int)(A:Option Addr)(c:Nat)(w:World)(hr:Reads w w.heap.size 1 A l.length (intVs l))(hok:∀x∈l,Nf.Ok x)(hs:l.length≤250000) :
  Calls Tryz.prog 111 #[.slice A l.length c] w fun e w'=>∃A' c',e=.returned (.slice A' (Nf.dec l).length c')∧w'.ownsRow w.heap.size 3 1 (.slice A' (Nf.dec l).length c') (Nf.dec l).length (intVs (Nf.dec l))∧Below w.heap.size w w':=by
 refine (callsIn_wide (n:=5)).1 ?_;refine callsIn_of_wp_marks Tryz.func111 rfl trivial ?_ rfl;simp only[Tryz.ntmps111,List.size_toArray,List.length_cons,List.length_nil,Nat.reduceAdd,Nat.reduceSub,Array.replicate_succ,Array.replicate_zero,List.push_toArray,List.append_toArray,List.nil_append,List.cons_append];obtain⟨L,hL⟩:∃L,l.length=L:=⟨_,rfl⟩;have HL:=hide hL;rw[hL] at hr hs;rw[hL];have HR:=hide hr;have HOk:=hide hok;clear hL hr hok
 gi_wp2_with (refine⟨trivial,?_⟩;gi_at_call 112;refine (callsIn_wide.2 (nparts_any _ _ _ _)).mono ?_;rintro e w' ⟨rfl,rfl⟩)
 have hR2:Blk ((w.alloc (.cells #[.slice none 0 0] 166)).alloc (.cells #[.slice A L c] 166)) (w.heap.size+1) 166 #[.slice A L c]:=by
  have:=Blk.new (w.alloc (.cells #[.slice none 0 0] 166)) 166 #[.slice A L c];rwa[World.size_alloc] at this
 have hO2:Blk ((w.alloc (.cells #[.slice none 0 0] 166)).alloc (.cells #[.slice A L c] 166)) w.heap.size 166 #[.slice none 0 0]:=(Blk.new w 166 #[.slice none 0 0]).alloc _;have hB2:Below w.heap.size w ((w.alloc (.cells #[.slice none 0 0] 166)).alloc (.cells #[.slice A L c] 166)):=(below_alloc w _).trans ((below_alloc _ _).mono (by simp));have hz2:((w.alloc (.cells #[.slice none 0 0] 166)).alloc (.cells #[.slice A L c] 166)).heap.size=w.heap.size+2:=by simp
 generalize (w.alloc (.cells #[.slice none 0 0] 166)).alloc (.cells #[.slice A L c] 166)=W2 at hR2 hO2 hB2 hz2 ⊢;have HI0:=hide (fun o o'=>show DecI w [] ((W2.alloc o).alloc o') from⟨⟨none,0,(hO2.alloc o).alloc o',World.ownsRow_nil _ _ _ _⟩,(hB2.trans ((below_alloc W2 o).mono (by omega))).trans ((below_alloc (W2.alloc o) o').mono (by simp;omega)),by simp;omega,fun x hx=>by cases hx⟩)
 have hgv:∀o o',GivesOn (But (w.heap.size+1)) Fence.wide (5-1) Tryz.prog 151 #[.pointer (some ⟨w.heap.size+1,0,none⟩)] (fun x:Int=>#[.int .i64 x]) (Kq w.heap.size) (fun x _=>Nf.Ok x) (fun xs=>xs=Nf.decomp l) (16*L+1) ((W2.alloc o).alloc o'):=by
  intro o o';have hO3:=(hO2.alloc o).alloc o'
  have hnp:∀k,¬ObP w.heap.size ((W2.alloc o).alloc o') k:=fun k ⟨n2,c2,h⟩=>by
   unfold Blk at h hO3;rw[h] at hO3;injection hO3 with hO3
   injection hO3 with hO3
   have h3:=congrArg (fun a:Array Value=>a[0]?) hO3;simp at h3
  have h:=parts1_gives (5-1) (by omega) (w.heap.size+1) w.heap.size A c l (by rw[HL.out];omega) ((W2.alloc o).alloc o') (by rw[HL.out];exact (hR2.alloc o).alloc o') (by simp;omega) (fun k h=>absurd h (hnp k)) ⟨fun hl=>by
   obtain⟨b,off,e,hb,hc⟩:=HR.out.2 (by rw[←HL.out];exact hl);refine⟨b,off,e,by omega,hnp _,fun i y hy=>?_⟩;have h1:=hc i (.int .i64 y) (by unfold intVs;rw[List.getElem?_map,hy];rfl);unfold World.cell? at h1 ⊢;dsimp only at h1 ⊢;rwa[Below.heap_alloc _ _ _ (by simp;omega),Below.heap_alloc _ _ _ (by omega),hB2.block b hb]⟩ HOk.out
  rw[HL.out] at h;exact h
 have HSo:=hide (fun l A c W h=>sort_any l A c W h)
 refine range_on (Fr:=But (w.heap.size+1)) (fun A B h k h1 h2=>h.block k h2 (by omega)) rfl (by omega) (gf:=151) (lb:=#[.pointer (some ⟨w.heap.size+1,0,none⟩)]) rfl trivial (enters_of Tryz.func151 (by kernel_rfl) rfl) (fun _=>rfl)
  hgv ?kt ?kb (DecI w) ?ip ?ib ?f HI0.out
  (fun x=>{ tmps:=#[.slice A L c,undef,.pointer (some ⟨w.heap.size,0,none⟩),.int .i64 x,.slice A L c,.func (.func 151) #[] #[.pointer (some ⟨w.heap.size+1,0,none⟩)],.int .i64 x,undef,undef,undef,undef,undef,undef],defers:=[] }) ?assign ?body ?done
 case kt=>exact fun h k=>h.trans k
 case kb=>exact fun W o o' h h2=>Kq.put h h2 (by omega)
 case ip=>
  intro s W o o' h _ _;exact h.keep (fun k h1 h2 h3 h4=>World.putObj_heap_other (by omega)) (by simp[World.putObj]) ⟨rfl,rfl,rfl⟩
 case ib=>
  intro s A B h hb;exact h.keep (fun k h1 h2 h3 h4=>hb.block k h1 h2) hb.size ⟨hb.os,hb.tape,hb.output⟩
 case f=>exact fun x W o h=>h
 case assign=>
  intro l x W K hK;gi_wp2;exact hK
 case body=>
  intro l pre x W hI hf hlen hsz;obtain⟨⟨A1,c1,hk,hrow⟩,hb,hz4,hok⟩:=hI;have Hb:=hide hb;have Hok:=hide hok;have HF:=hide hf;obtain⟨m,hm⟩:∃m,pre.length=m:=⟨_,rfl⟩;rw[hm] at hk hrow hlen;have Hm:=hide hm;have q0:=hk.cell 0;have f0:=hk.frozen 0;have Hk:=hide hk;have Hrow:=hide hrow;have hmb:m≤5000000:=by omega
  clear hb hok hf hm hk hrow hgv hR2 hO2 hB2 HI0
  gi_wp2_with (gi_at_builtin;go_loud (refine wpListIn_append_elem_at W (cs:=[.int .i64 x]) rfl (.tmp 7) (.tmp 9) 166 rfl (w.heap.size+4) (.int .i64 0) 1 8 Tryz.underlying166 info_int rfl (by omega) _ m (intVs pre) rfl Hrow.out rfl (by simp[Value.oneCell']) rfl (by unfold maxLen;omega) (by omega) hz4 ?_);intro g cap w1 ho1 hg1 hlt1 hb1 hga;have HO1:=hide (show w1.ownsRow (w.heap.size+4) 3 1 (.slice (some ⟨g,0,none⟩) (m+1) cap) (m+1) (intVs (pre++[x])) from (intVs_app pre [x]).symm▸ho1);have Hg1:=hide hg1;have hk1:=ob_kept (Hk.out.alloc _) (Hrow.out.alloc _) hg1;have q1:=hk1.cell 0;have f1:=hk1.frozen 0;clear ho1 hg1 hk1)
  have hst:=dec_step W2.heap.size Hm.out.symm Hk.out Hrow.out Hb.out hz4 Hok.out HF.out Hg1.out hb1 hlt1 hga HO1.out;exact hst
 case done=>
  intro D xs W hD hxs hI hK;subst hxs;obtain⟨⟨A1,c1,hk,hrow⟩,hb,hz4,hok⟩:=hI;have q0:=hk.cell 0;have Hk:=hide hk;have HK:=hide hK;have Hrow:=hide hrow;have Hb:=hide hb;have hDs:D=w.heap.size+2:=by omega
  subst hDs;have hdl:=Nf.decomp_len l;have HSt:=hide (HSo.out (Nf.decomp l) A1 c1 W (Reads.of_own hrow) (own_len hrow) (by rw[HL.out] at hdl;omega));have HDl:=hide (show (Nf.dec l)=Nf.sort (Nf.decomp l) from rfl);clear hk hrow hb hok hK hgv HI0 hR2 hO2 hB2 hdl;clear HDl
  gi_wp2_with fail
  refine⟨trivial,?_⟩;refine (callsIn_wide.2 HSt.out).mono ?_;rintro e w3 ⟨A3,c3,rfl,ho3,hb3⟩;have HO3:=hide ho3;have HB3:=hide hb3;have hk3:=Hk.out.go hb3;have q3:=hk3.cell 0;have f3:=hk3.frozen 0;have HK3:=hide hk3;clear ho3 hb3 hk3;dsimp only;gi_wp2;have e4:w.heap.size+2≠w.heap.size:=by omega
  have hDl3:W.heap.size≤w3.heap.size:=HB3.out.size;have hK4:(w3.setCell ⟨w.heap.size,0,none⟩ (.slice A3 (Nf.sort (Nf.decomp l)).length c3)).heap[w.heap.size+2]?=some (.deferred (some [])):=(Below.heap_setCell _ _ _ _ (by exact e4)).trans ((HB3.out.block (w.heap.size+2) (Array.getElem?_eq_some_iff.1 HK.out).1).trans HK.out);have hk5:=HK3.out.set_ 0 (.slice A3 (Nf.sort (Nf.decomp l)).length c3);have q5:=hk5.cell 0;refine⟨by simp,.inl ⟨_,_,rfl,run_takeDeferred hK4,?_⟩⟩;have q6:=cell_kept q5 (grownBy_putObj' _ (w.heap.size+2) (.deferred none)) (fun r e=>by cases e;exact⟨_,hK4,rfl⟩);refine⟨.slice A3 (Nf.sort (Nf.decomp l)).length c3,?_,?_⟩
  ·simp[results,Tryz.results111,go_sem,q6]
  refine⟨A3,c3,rfl,?_,?_⟩
  ·have h:(w3.setCell ⟨w.heap.size,0,none⟩ (.slice A3 (Nf.sort (Nf.decomp l)).length c3)).ownsRow W.heap.size 3 1 (.slice A3 (Nf.sort (Nf.decomp l)).length c3) (Nf.sort (Nf.decomp l)).length (intVs (Nf.sort (Nf.decomp l))):=ownsRow_setCell_below HO3.out (by show w.heap.size<_;omega) _
   rcases h.2 with h0|⟨g,cap,cur,e,hg,hh,rest⟩
   ·exact⟨h.1,.inl h0⟩
   exact⟨h.1,.inr ⟨g,cap,cur,e,by omega,(World.putObj_heap_other (by omega)).trans hh,rest⟩⟩
  have h:=(Hb.out.trans (HB3.out.mono Hb.out.size)).setCell (p:=⟨w.heap.size,0,none⟩) (Nat.le_refl _) (.slice A3 (Nf.sort (Nf.decomp l)).length c3);exact⟨h.os,h.tape,h.output,Nat.le_trans h.size (by simp[World.putObj]),fun k hk=>(World.putObj_heap_other (by omega)).trans (h.block k hk)⟩
end
section
open Go.RowKit Go.WideShapes

theorem row_p2:(137:TypeId)<Tryz.prog.types.size:=of_decide_eq_true (by kernel_rfl)
theorem at_p2:Tryz.prog.keyTypeAt 2 137=true:=by kernel_rfl
theorem key_p2:WideMaps.KeyLaw Tryz.prog 137:=deep_law_laid laidOut_n (m:=2) (by decide) row_p2 at_p2 (by rw[Tryz.underlying137])
theorem law_p2:Maps.Keyed Tryz.prog 137:=Maps.Keyed.of_law key_p2
theorem cells_p2:Tryz.prog.cellsOf 137=2:=by kernel_rfl
theorem keyT_p2:Tryz.prog.keyType 137=true:=by kernel_rfl
theorem keyOf_p2{x:Int×Int}(h:Wf2 x):keyOf Tryz.prog 137 (prV x)=some (klP x):=by
 obtain⟨m,hm⟩:=types_pr;obtain⟨h1,h2⟩:=h;unfold keyOf prV;simp only[Tryz.underlying137];rw[if_pos (by simp[keyT_p2,Value.formed,Tryz.underlying137,cells_p2]),hm];unfold Program.keyLits;simp only[Tryz.underlying137,Value.cells];simp[cells_p2,cells_i,Program.keyLits,Tryz.underlying3,h1,h2,List.range_succ,List.mapM_cons,klP]
structure Memo(W:World)(mb n:Nat)(D:DataW Unit):Prop where
 own:W.ownsMap Tryz.prog 137 (plainElem Tryz.prog 3) mb n D
 is:Maps.IsMap D
 ok:∀x,Wf2 x→Maps.has D (klP x)=true→∃v,Nf.whole x.1 x.2=some v∧D.atKey (klP x) (.lit (.int .i64 0))=.lit (.int .i64 v)
theorem Memo.new(w:World):Memo (w.alloc (.map #[] 0)) w.heap.size 0 (.map []):=⟨World.ownsMap_made _ _ _ _,Maps.isMap_empty,fun _ _ h=>by cases h⟩
theorem Memo.same{W W':World}{mb n:Nat}{D:DataW Unit}(h:Memo W mb n D)(e:W'.heap[mb]?=W.heap[mb]?):Memo W' mb n D:=⟨map_sameN h.own e,h.is,h.ok⟩
theorem Memo.lt{W:World}{mb n:Nat}{D:DataW Unit}(h:Memo W mb n D):mb<W.heap.size:=h.own.lt
theorem Memo.notCells{W:World}{mb n:Nat}{D:DataW Unit}(h:Memo W mb n D)(k t:Nat)(hk:IsT W k t):k≠mb:=by
 rintro rfl;obtain⟨es,cl,hm,_⟩:=h.own;obtain⟨cs,fr,hk⟩:=hk;rw[hm] at hk;cases hk
theorem Memo.next{W W':World}{mb n:Nat}{D:DataW Unit}{x:Int×Int}{v:Int}(h:Memo W mb n D)(hx:Wf2 x)(hw:Nf.whole x.1 x.2=some v)(ho:W'.ownsMap Tryz.prog 137 (plainElem Tryz.prog 3) mb (n+1) (D.put (klP x) (.lit (.int .i64 v)))):Memo W' mb (n+1) (D.put (klP x) (.lit (.int .i64 v))):=by
 refine⟨ho,h.is.put _ _,fun y hy hh=>?_⟩
 by_cases hm:y=x
 ·subst hm;exact⟨v,hw,Maps.atKey_put_same h.is (k:=klP y) (by simp[WideAt.IsKeyLit,klP]) _ _⟩
 rw[Maps.has_put_other (fun e=>hm (klP_inj hy hx e))] at hh;rw[Maps.atKey_put_other (fun e=>hm (klP_inj hy hx e))];exact h.ok y hy hh
namespace Nf
theorem whole_ok{a b v:Int}(h:whole a b=some v)(ha:Ok a):Ok v:=by
 unfold whole at h;unfold Ok at *
 split at h
 ·cases h;omega
 split at h
 ·rename_i hh
  cases h;have:=of_decide_eq_true hh.1;omega
 have hm:=lookW_mem h;have:=look_low _ hm;have hp:∀x∈table,0≤x.2:=by decide +kernel
 have:=hp _ hm;dsimp only at *
 omega
end Nf
def OfR(w:World)(mb n:Nat)(v:Value)(e:Ending)(w':World):Prop:=∃n' D',e=.returned v∧Memo w' mb n' D'∧n'≤n+1∧But mb w w'
theorem of_any(a b:Int)(Kb mb n:Nat)(D:DataW Unit)(w:World)(ha:Nf.Ok a)(hb:Nf.Ok b)(hk:Blk w Kb 189 #[.map (some mb)])(hm:Memo w mb n D)(hn:n≤100000000) :
  Calls Tryz.prog 148 #[.int .i64 a,.int .i64 b,.pointer (some ⟨Kb,0,none⟩)] w (OfR w mb n (wholeV a b)):=by
 have hwf:Wf2 (a,b):=⟨WalkArith.wf_i64 (by have:=ha.1;have:=ha.2;omega),WalkArith.wf_i64 (by have:=hb.1;have:=hb.2;omega)⟩;have HM:=hide hm;have HK:=hide hk;have q0:=hk.cell 0;have HW:=hide (fun W=>whole_any a b W ha.1 ha.2 hb.1 hb.2);have Hwf:=hide hwf;have Hb:=hide hb;have Ha:=hide ha
 cases hh:Maps.has D (klP (a,b)) with
 | true=>
  obtain⟨v,hv1,hv2⟩:=hm.ok (a,b) hwf hh;have Hv:=hide hv1;have Hv2:=hide hv2;have Hh:=hide hh;clear hv1 hv2 hh hm hk hwf ha hb
  go_enter Tryz.func148,Tryz.ntmps148
  go_wp2_with (at_lookup;refine wpList_lookup_own_ok_int _ rfl _ _ 189 rfl 137 3 .i64 law_p2 Tryz.underlying189 Tryz.underlying3 (zero_intF _) mb n D rfl HM.out.own _ _ (by rfl) (keyOf_p2 (x:=(a,b)) Hwf.out) ?_;intro cv hcv _;rw[Hv2.out] at hcv;injection hcv with hcv;injection hcv with _ hcv;subst hcv;rw[Hh.out])
  go_ret2;refine⟨n,D,?_,HM.out,Nat.le_succ _,But.refl _ _⟩;unfold wholeV;rw[Hv.out];rfl
 | false=>
  have Hh:=hide hh
  cases hw:Nf.whole a b with
  | none=>
   have HV:=hide (show wholeV a b=.tuple #[.int .i64 0,.bool false] by unfold wholeV;rw[hw]);rw[HV.out] at HW ⊢;clear hh hm hk hwf ha hb hw HV
   go_enter Tryz.func148,Tryz.ntmps148
   go_wp2_with (at_lookup;refine wpList_lookup_own_ok_int _ rfl _ _ 189 rfl 137 3 .i64 law_p2 Tryz.underlying189 Tryz.underlying3 (zero_intF _) mb n D rfl HM.out.own _ _ (by rfl) (keyOf_p2 (x:=(a,b)) Hwf.out) ?_;intro cv hcv _;rw[Hh.out])
   refine (HW.out _).mono ?_;rintro e w2 ⟨rfl,b2⟩;have B2:=hide b2;clear b2;dsimp only;go_wp2;go_ret2;exact⟨n,D,rfl,HM.out.same (B2.out.block _ HM.out.lt),Nat.le_succ _,But.of_below B2.out⟩
  | some v=>
   have HV:=hide (show wholeV a b=.tuple #[.int .i64 v,.bool true] by unfold wholeV;rw[hw]);have Hw:=hide hw;rw[HV.out] at HW ⊢;have hvo:=Nf.whole_ok hw ha;have hwv:(Lit.int .i64 v).wf=true:=WalkArith.wf_i64 (by have:=hvo.1;have:=hvo.2;omega);have Hwv:=hide hwv;have hnb:n<maxLen:=by unfold maxLen;omega
   clear hh hm hk hwf ha hb hw HV hvo hwv
   go_enter Tryz.func148,Tryz.ntmps148
   go_wp2_with (at_lookup;refine wpList_lookup_own_ok_int _ rfl _ _ 189 rfl 137 3 .i64 law_p2 Tryz.underlying189 Tryz.underlying3 (zero_intF _) mb n D rfl HM.out.own _ _ (by rfl) (keyOf_p2 (x:=(a,b)) Hwf.out) ?_;intro cv hcv _;rw[Hh.out])
   refine (HW.out _).mono ?_;rintro e w2 ⟨rfl,b2⟩;have B2:=hide b2;have HM2:=hide (HM.out.same (b2.block _ HM.out.lt));have hk2:=HK.out.go b2;have q2:=hk2.cell 0;clear b2 hk2;dsimp only
   go_wp2_with (at_mapUpdate;refine wpList_mapUpdate_own _ rfl _ _ _ 189 rfl 137 3 law_p2 Tryz.underlying189 _ mb n D rfl HM2.out.own hnb _ _ _ (by rfl) (by rfl) (keyOf_p2 (x:=(a,b)) Hwf.out) _ [] (plainElem_int Tryz.underlying3 Hwv.out) ?_;intro w8 hown8 hgrow8)
   go_ret2;exact⟨n+1,_,rfl,HM2.out.next Hwf.out Hw.out hown8,Nat.le_refl _,(But.of_below B2.out).grownN hgrow8⟩
end
end Go.Proofs.YtifiiojchlaghaaGreatDoor
