/- NFC: what Decomposed does with scalars: taken apart and sorted. And more. -/
import Derived.Test.YtnbmfljhbpfilaaGreatDoorOw27
set_option linter.unusedSimpArgs false
set_option maxRecDepth 100000
set_option maxHeartbeats 8000000
set_option linter.unusedVariables false
namespace Go.Proofs.YtnbmfljhbpfilaaGreatDoor
section
open Go.RowKit Go.WideShapes

attribute [local go_sem] Oper.semAt_some

theorem YR{F:Fence}{N:Nat}{P:Program}(W:World){e:TypeId}{cs:List Value}{ops:Array Oper}{rest:List Oper}{o:Oper}{a:Act}{Q:Exit→Act→World→Prop}(hgd:o.guard=none)(s x:Operand)(t:TypeId)
  (ho:o.op=.call { callee:=.builtin .append,args:=#[s,x],argTypes:=#[t,t] })
  (base:Nat) (z:Value) (size bytes:Nat) (ht:P.underlying t=some (.slice e)) (fw:(P.info? e).map (fun i=>(i.zero,i.size,i.bytes))=some (some z,size,bytes))
  (hzs:z.cells.size=size) (hsz:0<size)
  (v:Value) (n:Nat) (xs:List Value) (hs:a.eval s=v) (hown:W.ownsRow base e size v n xs)
  (hcs:cs.length=size) (h1:∀u∈cs,u.oneCell'=true) (hx:a.eval x=.slice (some ⟨W.heap.size,0,none⟩) 1 1)
  (h63:n+1≤maxLen) (hbytes:(n+1)*bytes≤140737488355328) (hbase:base≤W.heap.size)
  (h:∀g cap w',w'.ownsRow base e size (.slice (some ⟨g,0,none⟩) (n+1) cap) (n+1) (xs++cs)→(W.alloc (.cells cs.toArray e)).grownBy w' v.ownBlock→g<w'.heap.size→base≤g→(v.ownBlock=some g∨W.heap.size≤g)→
   wpListIn F N P ops Q rest (a.put o.dst (.slice (some ⟨g,0,none⟩) (n+1) cap)) w'):wpListIn F N P ops Q (o :: rest) a (W.alloc (.cells cs.toArray e)):=by
 obtain⟨i,hi,hz,hsize,hby⟩:=info_parts fw;refine wpListIn_plain hgd fun K hK'=>?_;obtain⟨v',w',hrun,r1,r2,r3,r4⟩:=run_append_own_at (P:=P) (w:=W.alloc (.cells cs.toArray e)) base t o.type e i z size bytes ht hi hz hsize hby hzs hsz v n xs (hown.alloc _) ⟨W.heap.size,0,none⟩ 1 1 cs (by omega) (fun j u hu=>World.news_of_block (ae.new W e cs.toArray) j u (by simpa using hu)) h1 h63 hbytes (by simp;omega);obtain⟨g,cap,hv,hb,hlt⟩:=r1.form (by omega);subst hv;unfold Oper.wpIn;refine⟨?_,?_⟩
 ·simp[Oper.about,ho,resolve,Target.leads,Sem.run_pure]
 rw[Oper.semAt_plain F _ _ (by rw[ho];intro c hc';cases hc')];simp[execOp,ho,resolve,invoke,builtin,hs,hx,hrun,Result.andThen];refine hK' _ _ (h g cap w' r1 r2 hlt hb ?_)
 rcases r4 with r4|r4
 ·exact .inl r4.symm
 right
 have:g=(W.alloc (.cells cs.toArray e)).heap.size:=by simpa[Value.ownBlock] using r4
 rw[this,World.size_alloc];omega
structure wC(w:World)(pre:List Int)(W:World):Prop where
 row:∃A c,ae W w.heap.size 124 #[.slice A pre.length c]∧W.ownsRow (w.heap.size+4) 3 1 (.slice A pre.length c) pre.length (ar pre)
 b:Below w.heap.size w W
 size:w.heap.size+4≤W.heap.size
 ok:∀x∈pre,Nf.Ok x
theorem wC.keep{w W W':World}{pre:List Int}(h:wC w pre W)(hb:∀k,k<W.heap.size→k≠w.heap.size+1→k≠w.heap.size+2→k≠w.heap.size+3→W'.heap[k]?=W.heap[k]?)(hs:W.heap.size≤W'.heap.size)(ho:W'.os=W.os∧W'.tape=W.tape∧W'.output=W.output):wC w pre W':=by
 obtain⟨A,c,hk,ai⟩:=h.row;have hz:=h.size;refine⟨⟨A,c,(hb _ (by omega) (by omega) (by omega) (by omega)).trans hk,?_⟩,⟨ho.1.trans h.b.os,ho.2.1.trans h.b.tape,ho.2.2.trans h.b.output,Nat.le_trans h.b.size hs,fun k hk=>(hb k (by have:=h.b.size;omega) (by omega) (by omega) (by omega)).trans (h.b.block k hk)⟩,by omega,h.ok⟩
 rcases ai.2 with h0|⟨g,cap,cur,e,hg,hh,rest⟩
 ·exact⟨ai.1,.inl h0⟩
 exact⟨ai.1,.inr ⟨g,cap,cur,e,hg,(hb g (Array.getElem?_eq_some_iff.1 hh).1 (by omega) (by omega) (by omega)).trans hh,rest⟩⟩
theorem acV{w W w1:World}{g cap c n:Nat}{pre:List Int}{x:Int}{A:Option Addr}{o:Obj}(B:Nat)(hn:n=pre.length)
  (hk:ae W w.heap.size 124 #[.slice A n c]) (ai:W.ownsRow (w.heap.size+4) 3 1 (.slice A n c) n (ar pre))
  (hb:Below w.heap.size w W) (hsz:w.heap.size+4≤W.heap.size) (bF:∀y∈pre,Nf.Ok y) (hx:Nf.Ok x)
  (hg:(W.alloc o).grownBy w1 (Value.slice A n c).ownBlock) (mW:w.heap.size+4≤g) (dA:g<w1.heap.size) (oa:(Value.slice A n c).ownBlock=some g∨W.heap.size≤g)
  (ho:w1.ownsRow (w.heap.size+4) 3 1 (.slice (some ⟨g,0,none⟩) (n+1) cap) (n+1) (ar (pre++[x]))) :
  KeepsFrom B W (w1.setCell ⟨w.heap.size,0,none⟩ (.slice (some ⟨g,0,none⟩) (n+1) cap))∧Kq w.heap.size W (w1.setCell ⟨w.heap.size,0,none⟩ (.slice (some ⟨g,0,none⟩) (n+1) cap))∧wC w (pre++[x]) (w1.setCell ⟨w.heap.size,0,none⟩ (.slice (some ⟨g,0,none⟩) (n+1) cap)):=by
 have hne:(Value.slice A n c).ownBlock≠some w.heap.size:=cU ai hk (by decide);have hown:=aG ai;have E4:W.heap.size+1≤w1.heap.size:=by have:=hg.size;rw[World.size_alloc] at this;exact this
 have cn:ae w1 w.heap.size 124 #[.slice A n c]:=(hk.alloc o).grown hg (fun e=>hne e.symm)
 have cu:ae (w1.setCell ⟨w.heap.size,0,none⟩ (.slice (some ⟨g,0,none⟩) (n+1) cap)) w.heap.size 124 #[.slice (some ⟨g,0,none⟩) (n+1) cap]:=by
  have:=cn.aI 0 (.slice (some ⟨g,0,none⟩) (n+1) cap)
  simpa using this
 have vJ:(w1.setCell ⟨w.heap.size,0,none⟩ (.slice (some ⟨g,0,none⟩) (n+1) cap)).heap.size=w1.heap.size:=by simp[World.setCell]
 have same:∀k,k<W.heap.size→k≠w.heap.size→(Value.slice A n c).ownBlock≠some k→(w1.setCell ⟨w.heap.size,0,none⟩ (.slice (some ⟨g,0,none⟩) (n+1) cap)).heap[k]?=W.heap[k]?:=fun k h1 h2 h3=>by
  rw[Below.heap_setCell _ _ _ _ (by exact h2),hg.block k (by rw[World.size_alloc];omega) (fun e=>h3 e.symm),Below.heap_alloc _ _ _ h1]
 have ptr:∀k,iw w.heap.size (w1.setCell ⟨w.heap.size,0,none⟩ (.slice (some ⟨g,0,none⟩) (n+1) cap)) k→k=g:=fun k ⟨n2,c2,h⟩=>by
  have h2:=cu;unfold ae at h h2;rw[h] at h2;injection h2 with h2
  injection h2 with h2
  have h3:=congrArg (fun a:Array Value=>a[0]?) h2;simp only[List.getElem?_toArray,List.getElem?_cons_zero,Option.some.injEq,Value.slice.injEq,Addr.mk.injEq] at h3;exact h3.1.1
 refine⟨?_,⟨by rw[vJ];omega,fun k hc h1 h2=>same k hc.lt h1 fun h3=>h2 ?_,fun k h=>?_,fun _ k h=>by rw[ptr k h,vJ];exact dA⟩,?_⟩
 ·refine (((KeepsOthers.alloc W o).trans (KeepsOthers.of_grownBy hg fun j o' ej hj=>?_)).trans (KeepsOthers.setCell _ _ _)).from B;obtain⟨_,cs,fr,h⟩:=hown j ej;have h2:(W.alloc o).heap[j]?=some (.cells cs 3 fr):=(Below.heap_alloc _ _ _ (Array.getElem?_eq_some_iff.1 h).1).trans h;rw[h2] at hj;cases hj;rfl
 ·rcases ai.2 with ⟨e0,_⟩|⟨g',cap',cur,e0,_⟩
  ·rw[e0] at h3;cases h3
  rw[e0] at h3;have:g'=k:=by simpa[Value.ownBlock] using h3
  subst this;rw[e0] at hk;exact⟨_,_,hk⟩
 ·rw[ptr k h]
  rcases oa with oa|oa
  ·left
   rcases ai.2 with ⟨e0,_⟩|⟨g',cap',cur,e0,_⟩
   ·rw[e0] at oa;cases oa
   rw[e0] at oa;have:g'=g:=by simpa[Value.ownBlock] using oa
   subst this;rw[e0] at hk;exact⟨_,_,hk⟩
  exact .inr oa
 have hl:(pre++[x]).length=n+1:=by rw[List.length_append,List.length_singleton,hn]
 refine⟨⟨some ⟨g,0,none⟩,cap,by rw[hl];exact cu,by rw[hl];exact ownsRow_setCell_other ho (by simp[Value.ownBlock];omega) _⟩,⟨?_,?_,?_,by rw[vJ];have:=hb.size;omega,fun k h=>?_⟩,by rw[vJ];omega,fun y hy=>?_⟩
 ·exact hg.os.trans hb.os
 ·exact hg.tape.trans hb.tape
 ·exact hg.output.trans hb.output
 ·rw[same k (by omega) (by omega) (fun e=>by have:=(hown k e).1;omega)];exact hb.block k h
 rcases List.mem_append.1 hy with hy|hy
 ·exact bF y hy
 rw[List.mem_singleton] at hy;subst hy;exact hx
theorem ahG(A:Option Addr)(n c:Nat)(w:World) :
  Calls Tryz.prog 140 #[.slice A n c] w fun e w'=>e=.returned (.func (.func 173) #[] #[.pointer (some ⟨w.heap.size,0,none⟩)])∧w'=w.alloc (.cells #[.slice A n c] 124):=by
 go_enter Tryz.func140,Tryz.ntmps140
 go_wp2;go_ret;exact⟨rfl,rfl⟩
namespace Nf
def dec(l:List Int):List Int:=sort (bT l)
end Nf
theorem aik{w:World}{base e:Nat}{A:Option Addr}{n c:Nat}{xs:List Value}(h:w.ownsRow base e 1 (.slice A n c) n xs):n≤c:=by
 rcases h.2 with ⟨h0,h1⟩|⟨g',cap',cur,e,hb,hh,h1,h2,h3,h4⟩
 ·omega
 cases e;exact h1
theorem acT(l:List Int)(A:Option Addr)(c:Nat)(w:World)(hr:Reads w w.heap.size 1 A l.length (ar l))(bF:∀x∈l,Nf.Ok x)(hs:l.length≤250000) :
  Calls Tryz.prog 139 #[.slice A l.length c] w fun e w'=>∃A' c',e=.returned (.slice A' (Nf.dec l).length c')∧w'.ownsRow w.heap.size 3 1 (.slice A' (Nf.dec l).length c') (Nf.dec l).length (ar (Nf.dec l))∧Below w.heap.size w w':=by
 refine (callsIn_wide (n:=5)).1 ?_;refine callsIn_of_wp_marks Tryz.func139 rfl trivial ?_ rfl;simp only[Tryz.ntmps139,List.size_toArray,List.length_cons,List.length_nil,Nat.reduceAdd,Nat.reduceSub,Array.replicate_succ,Array.replicate_zero,List.push_toArray,List.append_toArray,List.nil_append,List.cons_append];obtain⟨L,hL⟩:∃L,l.length=L:=⟨_,rfl⟩;have HL:=hide hL;rw[hL] at hr hs;rw[hL];have HR:=hide hr;have fO:=hide bF;clear hL hr bF
 gi_wp2_with (refine⟨trivial,?_⟩;gi_at_call 140;refine (callsIn_wide.2 (ahG _ _ _ _)).mono ?_;rintro e w' ⟨rfl,rfl⟩)
 have gW:ae ((w.alloc (.cells #[.slice none 0 0] 124)).alloc (.cells #[.slice A L c] 124)) (w.heap.size+1) 124 #[.slice A L c]:=by
  have:=ae.new (w.alloc (.cells #[.slice none 0 0] 124)) 124 #[.slice A L c];rwa[World.size_alloc] at this
 have j6:ae ((w.alloc (.cells #[.slice none 0 0] 124)).alloc (.cells #[.slice A L c] 124)) w.heap.size 124 #[.slice none 0 0]:=(ae.new w 124 #[.slice none 0 0]).alloc _;have di:Below w.heap.size w ((w.alloc (.cells #[.slice none 0 0] 124)).alloc (.cells #[.slice A L c] 124)):=(az w _).trans ((az _ _).mono (by simp));have hz2:((w.alloc (.cells #[.slice none 0 0] 124)).alloc (.cells #[.slice A L c] 124)).heap.size=w.heap.size+2:=by simp
 generalize (w.alloc (.cells #[.slice none 0 0] 124)).alloc (.cells #[.slice A L c] 124)=W2 at gW j6 di hz2 ⊢;have gN:=hide (fun o o'=>show wC w [] ((W2.alloc o).alloc o') from⟨⟨none,0,(j6.alloc o).alloc o',World.ownsRow_nil _ _ _ _⟩,(di.trans ((az W2 o).mono (by omega))).trans ((az (W2.alloc o) o').mono (by simp;omega)),by simp;omega,fun x hx=>by cases hx⟩)
 have mm:∀o o',tQ (ag (w.heap.size+1)) Fence.wide (5-1) Tryz.prog 173 #[.pointer (some ⟨w.heap.size+1,0,none⟩)] (fun x:Int=>#[.int .i64 x]) (Kq w.heap.size) (fun x _=>Nf.Ok x) (fun xs=>xs=Nf.bT l) (16*L+1) ((W2.alloc o).alloc o'):=by
  intro o o';have uV:=(j6.alloc o).alloc o'
  have UB:∀k,¬iw w.heap.size ((W2.alloc o).alloc o') k:=fun k ⟨n2,c2,h⟩=>by
   unfold ae at h uV;rw[h] at uV;injection uV with uV
   injection uV with uV
   have h3:=congrArg (fun a:Array Value=>a[0]?) uV;simp at h3
  have h:=aiE (5-1) (by omega) (w.heap.size+1) w.heap.size A c l (by rw[HL.out];omega) ((W2.alloc o).alloc o') (by rw[HL.out];exact (gW.alloc o).alloc o') (by simp;omega) (fun k h=>absurd h (UB k)) ⟨fun hl=>by
   obtain⟨b,off,e,hb,hc⟩:=HR.out.2 (by rw[←HL.out];exact hl);refine⟨b,off,e,by omega,UB _,fun i y hy=>?_⟩;have h1:=hc i (.int .i64 y) (by unfold ar;rw[List.getElem?_map,hy];rfl);unfold World.cell? at h1 ⊢;dsimp only at h1 ⊢;rwa[Below.heap_alloc _ _ _ (by simp;omega),Below.heap_alloc _ _ _ (by omega),di.block b hb]⟩ fO.out
  rw[HL.out] at h;exact h
 have pX:=hide (fun l A c W h=>akX l A c W h)
 refine MM (Fr:=ag (w.heap.size+1)) (fun A B h k h1 h2=>h.block k h2 (by omega)) rfl (by omega) (gf:=173) (lb:=#[.pointer (some ⟨w.heap.size+1,0,none⟩)]) rfl trivial (enters_of Tryz.func173 (by kernel_rfl) rfl) (fun _=>rfl)
  mm ?kt ?kb (wC w) ?ip ?ib ?f gN.out
  (fun x=>{ tmps:=#[.slice A L c,undef,.pointer (some ⟨w.heap.size,0,none⟩),.int .i64 x,.slice A L c,.func (.func 173) #[] #[.pointer (some ⟨w.heap.size+1,0,none⟩)],.int .i64 x,undef,undef,undef,undef,undef,undef],defers:=[] }) ?assign ?body ?done
 case kt=>exact fun h k=>h.trans k
 case kb=>exact fun W o o' h h2=>Kq.put h h2 (by omega)
 case ip=>
  intro s W o o' h _ _;exact h.keep (fun k h1 h2 h3 h4=>World.putObj_heap_other (by omega)) (by simp[World.putObj]) ⟨rfl,rfl,rfl⟩
 case ib=>
  intro s A B h hb;exact h.keep (fun k h1 h2 h3 h4=>hb.block k h1 h2) hb.size ⟨hb.os,hb.tape,hb.output⟩
 case f=>exact fun x W o h=>h
 case assign=>
  intro l x W K hK;gi_wp2;exact hK
 case body=>
  intro l pre x W hI hf hlen hsz;obtain⟨⟨A1,c1,hk,ai⟩,hb,pG,bF⟩:=hI;have Hb:=hide hb;have Hok:=hide bF;have HF:=hide hf;obtain⟨m,hm⟩:∃m,pre.length=m:=⟨_,rfl⟩;rw[hm] at hk ai hlen;have Hm:=hide hm;have q0:=hk.cell 0;have f0:=hk.frozen 0;have Hk:=hide hk;have jy:=hide ai;have ji:m≤5000000:=by omega
  clear hb bF hf hm hk ai mm gW j6 di gN
  gi_wp2_with (gi_at_builtin;go_loud (refine YR W (cs:=[.int .i64 x]) rfl (.tmp 7) (.tmp 9) 124 rfl (w.heap.size+4) (.int .i64 0) 1 8 Tryz.underlying124 fD rfl (by omega) _ m (ar pre) rfl jy.out rfl (by simp[Value.oneCell']) rfl (by unfold maxLen;omega) (by omega) pG ?_);intro g cap w1 og hg1 fL aq oa;have eN:=hide (show w1.ownsRow (w.heap.size+4) 3 1 (.slice (some ⟨g,0,none⟩) (m+1) cap) (m+1) (ar (pre++[x])) from (ic pre [x]).symm▸og);have Im:=hide hg1;have cn:=Wh (Hk.out.alloc _) (jy.out.alloc _) hg1;have q1:=cn.cell 0;have f1:=cn.frozen 0;clear og hg1 cn)
  have hst:=acV W2.heap.size Hm.out.symm Hk.out jy.out Hb.out pG Hok.out HF.out Im.out aq fL oa eN.out;exact hst
 case done=>
  intro D xs W hD eG hI hK;subst eG;obtain⟨⟨A1,c1,hk,ai⟩,hb,pG,bF⟩:=hI;have q0:=hk.cell 0;have Hk:=hide hk;have HK:=hide hK;have jy:=hide ai;have Hb:=hide hb;have Ec:D=w.heap.size+2:=by omega
  subst Ec;have aQ:=Nf.xq l;have HSt:=hide (pX.out (Nf.bT l) A1 c1 W (Reads.eH ai) (aik ai) (by rw[HL.out] at aQ;omega));have cf:=hide (show (Nf.dec l)=Nf.sort (Nf.bT l) from rfl);clear hk ai hb bF hK mm gN gW j6 di aQ;clear cf
  gi_wp2_with fail
  refine⟨trivial,?_⟩;refine (callsIn_wide.2 HSt.out).mono ?_;rintro e w3 ⟨A3,c3,rfl,bW,aB⟩;have bZ:=hide bW;have aw:=hide aB;have aH:=Hk.out.go aB;have q3:=aH.cell 0;have f3:=aH.frozen 0;have cQ:=hide aH;clear bW aB aH;dsimp only;gi_wp2;have e4:w.heap.size+2≠w.heap.size:=by omega
  have anO:W.heap.size≤w3.heap.size:=aw.out.size;have Tj:(w3.setCell ⟨w.heap.size,0,none⟩ (.slice A3 (Nf.sort (Nf.bT l)).length c3)).heap[w.heap.size+2]?=some (.deferred (some [])):=(Below.heap_setCell _ _ _ _ (by exact e4)).trans ((aw.out.block (w.heap.size+2) (Array.getElem?_eq_some_iff.1 HK.out).1).trans HK.out);have EG:=cQ.out.aI 0 (.slice A3 (Nf.sort (Nf.bT l)).length c3);have q5:=EG.cell 0;refine⟨by simp,.inl ⟨_,_,rfl,run_takeDeferred Tj,?_⟩⟩;have q6:=cell_kept q5 (grownBy_putObj' _ (w.heap.size+2) (.deferred none)) (fun r e=>by cases e;exact⟨_,Tj,rfl⟩);refine⟨.slice A3 (Nf.sort (Nf.bT l)).length c3,?_,?_⟩
  ·simp[results,Tryz.results139,go_sem,q6]
  refine⟨A3,c3,rfl,?_,?_⟩
  ·have h:(w3.setCell ⟨w.heap.size,0,none⟩ (.slice A3 (Nf.sort (Nf.bT l)).length c3)).ownsRow W.heap.size 3 1 (.slice A3 (Nf.sort (Nf.bT l)).length c3) (Nf.sort (Nf.bT l)).length (ar (Nf.sort (Nf.bT l))):=ownsRow_setCell_below bZ.out (by show w.heap.size<_;omega) _
   rcases h.2 with h0|⟨g,cap,cur,e,hg,hh,rest⟩
   ·exact⟨h.1,.inl h0⟩
   exact⟨h.1,.inr ⟨g,cap,cur,e,by omega,(World.putObj_heap_other (by omega)).trans hh,rest⟩⟩
  have h:=(Hb.out.trans (aw.out.mono Hb.out.size)).setCell (p:=⟨w.heap.size,0,none⟩) (Nat.le_refl _) (.slice A3 (Nf.sort (Nf.bT l)).length c3);exact⟨h.os,h.tape,h.output,Nat.le_trans h.size (by simp[World.putObj]),fun k hk=>(World.putObj_heap_other (by omega)).trans (h.block k hk)⟩
end
section
open Go.RowKit Go.WideShapes

theorem akc:(134:TypeId)<Tryz.prog.types.size:=of_decide_eq_true (by kernel_rfl)
theorem abJ:Tryz.prog.keyTypeAt 2 134=true:=by kernel_rfl
theorem agK:WideMaps.KeyLaw Tryz.prog 134:=deep_law_laid VD (m:=2) (by decide) akc abJ (by rw[Tryz.underlying134])
theorem Fw:Maps.Keyed Tryz.prog 134:=Maps.Keyed.of_law agK
theorem RD:Tryz.prog.cellsOf 134=2:=by kernel_rfl
theorem agI:Tryz.prog.keyType 134=true:=by kernel_rfl
theorem Fs{x:Int×Int}(h:dh x):keyOf Tryz.prog 134 (oD x)=some (dm x):=by
 obtain⟨m,hm⟩:=NM;obtain⟨h1,h2⟩:=h;unfold keyOf oD;simp only[Tryz.underlying134];rw[if_pos (by simp[agI,Value.formed,Tryz.underlying134,RD]),hm];unfold Program.keyLits;simp only[Tryz.underlying134,Value.cells];simp[RD,Ju,Program.keyLits,Tryz.underlying3,h1,h2,List.range_succ,List.mapM_cons,dm]
structure gw(W:World)(mb n:Nat)(D:DataW Unit):Prop where
 own:W.ownsMap Tryz.prog 134 (plainElem Tryz.prog 3) mb n D
 is:Maps.IsMap D
 ok:∀x,dh x→Maps.has D (dm x)=true→∃v,Nf.whole x.1 x.2=some v∧D.atKey (dm x) (.lit (.int .i64 0))=.lit (.int .i64 v)
theorem gw.new(w:World):gw (w.alloc (.map #[] 0)) w.heap.size 0 (.map []):=⟨World.ownsMap_made _ _ _ _,Maps.isMap_empty,fun _ _ h=>by cases h⟩
theorem gw.same{W W':World}{mb n:Nat}{D:DataW Unit}(h:gw W mb n D)(e:W'.heap[mb]?=W.heap[mb]?):gw W' mb n D:=⟨Mo h.own e,h.is,h.ok⟩
theorem gw.lt{W:World}{mb n:Nat}{D:DataW Unit}(h:gw W mb n D):mb<W.heap.size:=h.own.lt
theorem gw.Wc{W:World}{mb n:Nat}{D:DataW Unit}(h:gw W mb n D)(k t:Nat)(hk:bO W k t):k≠mb:=by
 rintro rfl;obtain⟨es,cl,hm,_⟩:=h.own;obtain⟨cs,fr,hk⟩:=hk;rw[hm] at hk;cases hk
theorem gw.next{W W':World}{mb n:Nat}{D:DataW Unit}{x:Int×Int}{v:Int}(h:gw W mb n D)(hx:dh x)(hw:Nf.whole x.1 x.2=some v)(ho:W'.ownsMap Tryz.prog 134 (plainElem Tryz.prog 3) mb (n+1) (D.put (dm x) (.lit (.int .i64 v)))):gw W' mb (n+1) (D.put (dm x) (.lit (.int .i64 v))):=by
 refine⟨ho,h.is.put _ _,fun y hy hh=>?_⟩
 by_cases hm:y=x
 ·subst hm;exact⟨v,hw,Maps.atKey_put_same h.is (k:=dm y) (by simp[WideAt.IsKeyLit,dm]) _ _⟩
 rw[Maps.has_put_other (fun e=>hm (Bz hy hx e))] at hh;rw[Maps.atKey_put_other (fun e=>hm (Bz hy hx e))];exact h.ok y hy hh
namespace Nf
theorem YM{a b v:Int}(h:whole a b=some v)(ha:Ok a):Ok v:=by
 unfold whole at h;unfold Ok at *
 split at h
 ·cases h;omega
 split at h
 ·rename_i hh
  cases h;have:=of_decide_eq_true hh.1;omega
 have hm:=yi h;have:=VT _ hm;have hp:∀x∈table,0≤x.2:=by decide +kernel
 have:=hp _ hm;dsimp only at *
 omega
end Nf
def OfR(w:World)(mb n:Nat)(v:Value)(e:Ending)(w':World):Prop:=∃n' D',e=.returned v∧gw w' mb n' D'∧n'≤n+1∧ag mb w w'
theorem ahK(a b:Int)(Kb mb n:Nat)(D:DataW Unit)(w:World)(ha:Nf.Ok a)(hb:Nf.Ok b)(hk:ae w Kb 207 #[.map (some mb)])(hm:gw w mb n D)(hn:n≤100000000) :
  Calls Tryz.prog 170 #[.int .i64 a,.int .i64 b,.pointer (some ⟨Kb,0,none⟩)] w (OfR w mb n (jO a b)):=by
 have gG:dh (a,b):=⟨WalkArith.wf_i64 (by have:=ha.1;have:=ha.2;omega),WalkArith.wf_i64 (by have:=hb.1;have:=hb.2;omega)⟩;have HM:=hide hm;have HK:=hide hk;have q0:=hk.cell 0;have HW:=hide (fun W=>amU a b W ha.1 ha.2 hb.1 hb.2);have uB:=hide gG;have Hb:=hide hb;have Ha:=hide ha
 cases hh:Maps.has D (dm (a,b)) with
 | true=>
  obtain⟨v,aX,cS⟩:=hm.ok (a,b) gG hh;have Hv:=hide aX;have zH:=hide cS;have Hh:=hide hh;clear aX cS hh hm hk gG ha hb
  go_enter Tryz.func170,Tryz.ntmps170
  go_wp2_with (at_lookup;refine wpList_lookup_own_ok_int _ rfl _ _ 207 rfl 134 3 .i64 Fw Tryz.underlying207 Tryz.underlying3 (mE _) mb n D rfl HM.out.own _ _ (by rfl) (Fs (x:=(a,b)) uB.out) ?_;intro cv hcv _;rw[zH.out] at hcv;injection hcv with hcv;injection hcv with _ hcv;subst hcv;rw[Hh.out])
  go_ret2;refine⟨n,D,?_,HM.out,Nat.le_succ _,ag.refl _ _⟩;unfold jO;rw[Hv.out];rfl
 | false=>
  have Hh:=hide hh
  cases hw:Nf.whole a b with
  | none=>
   have HV:=hide (show jO a b=.tuple #[.int .i64 0,.bool false] by unfold jO;rw[hw]);rw[HV.out] at HW ⊢;clear hh hm hk gG ha hb hw HV
   go_enter Tryz.func170,Tryz.ntmps170
   go_wp2_with (at_lookup;refine wpList_lookup_own_ok_int _ rfl _ _ 207 rfl 134 3 .i64 Fw Tryz.underlying207 Tryz.underlying3 (mE _) mb n D rfl HM.out.own _ _ (by rfl) (Fs (x:=(a,b)) uB.out) ?_;intro cv hcv _;rw[Hh.out])
   refine (HW.out _).mono ?_;rintro e w2 ⟨rfl,b2⟩;have B2:=hide b2;clear b2;dsimp only;go_wp2;go_ret2;exact⟨n,D,rfl,HM.out.same (B2.out.block _ HM.out.lt),Nat.le_succ _,ag.bX B2.out⟩
  | some v=>
   have HV:=hide (show jO a b=.tuple #[.int .i64 v,.bool true] by unfold jO;rw[hw]);have Hw:=hide hw;rw[HV.out] at HW ⊢;have LN:=Nf.YM hw ha;have qZ:(Lit.int .i64 v).wf=true:=WalkArith.wf_i64 (by have:=LN.1;have:=LN.2;omega);have Hwv:=hide qZ;have kr:n<maxLen:=by unfold maxLen;omega
   clear hh hm hk gG ha hb hw HV LN qZ
   go_enter Tryz.func170,Tryz.ntmps170
   go_wp2_with (at_lookup;refine wpList_lookup_own_ok_int _ rfl _ _ 207 rfl 134 3 .i64 Fw Tryz.underlying207 Tryz.underlying3 (mE _) mb n D rfl HM.out.own _ _ (by rfl) (Fs (x:=(a,b)) uB.out) ?_;intro cv hcv _;rw[Hh.out])
   refine (HW.out _).mono ?_;rintro e w2 ⟨rfl,b2⟩;have B2:=hide b2;have ug:=hide (HM.out.same (b2.block _ HM.out.lt));have cu:=HK.out.go b2;have q2:=cu.cell 0;clear b2 cu;dsimp only
   go_wp2_with (at_mapUpdate;refine wpList_mapUpdate_own _ rfl _ _ _ 207 rfl 134 3 Fw Tryz.underlying207 _ mb n D rfl ug.out.own kr _ _ _ (by rfl) (by rfl) (Fs (x:=(a,b)) uB.out) _ [] (plainElem_int Tryz.underlying3 Hwv.out) ?_;intro w8 aM aF)
   go_ret2;exact⟨n+1,_,rfl,ug.out.next uB.out Hw.out aM,Nat.le_refl _,(ag.bX B2.out).SV aF⟩
end
end Go.Proofs.YtnbmfljhbpfilaaGreatDoor
