/- NFC: the iterator over runs (order.runs); order.Sort. And more. -/
import Derived.Test.YtifiiojchlaghaaGreatDoorOk24
import Derived.Sort.LoopGhostIn
set_option linter.unusedSimpArgs false
set_option maxRecDepth 100000
set_option maxHeartbeats 8000000
set_option linter.unusedVariables false
namespace Go.Proofs.YtifiiojchlaghaaGreatDoor
section
open Go.RowKit Go.WideShapes

attribute [local go_sem] Oper.semAt_some

namespace Nf
theorem marks_at{tl:List Int}{t:Nat}{x:Int}(h:tl[t]?=some x)(ht:t<(marks tl).length):0<cls x:=by
 unfold marks at ht
 induction tl generalizing t with
 | nil=>cases h
 | cons y tl ih=>
  rw[List.takeWhile_cons] at ht
  split at ht
  ·rename_i hy
   cases t with
   | zero=>cases h;exact of_decide_eq_true hy
   | succ t=>exact ih h (by simpa using ht)
  simp at ht
theorem marks_end{tl:List Int}{x:Int}(h:tl[(marks tl).length]?=some x):¬0<cls x:=by
 unfold marks at h
 induction tl with
 | nil=>cases h
 | cons y tl ih=>
  rw[List.takeWhile_cons] at h
  split at h
  ·exact ih (by simpa using h)
  rename_i hy
  cases h;exact of_decide_eq_false (by simpa using hy)
theorem marks_le(tl:List Int):(marks tl).length≤tl.length:=by
 unfold marks
 induction tl with
 | nil=>simp
 | cons y tl ih=>rw[List.takeWhile_cons];split<;>simp<;>omega
theorem marks_app(tl:List Int):marks tl++tl.drop (marks tl).length=tl:=by
 unfold marks
 induction tl with
 | nil=>rfl
 | cons y tl ih=>rw[List.takeWhile_cons];split<;>simp[ih]
theorem marks_take(tl:List Int):tl.take (marks tl).length=marks tl:=by
 have h:=marks_app tl;have h2:(marks tl++tl.drop (marks tl).length).take (marks tl).length=marks tl:=List.take_left' rfl;rwa[h] at h2
end Nf
structure Rn where
 A:Option Addr
 l:List Int
def rnE(x:Rn):Array Value:=#[.slice x.A x.l.length x.l.length]
def KpR(h0 R:Nat)(W W':World):Prop:=W.heap.size≤W'.heap.size∧∀k,k<W.heap.size→(k<h0∨k=R)→W'.heap[k]?=W.heap[k]?
theorem KpR.trans{h0 R:Nat}{X Y Z:World}(h:KpR h0 R X Y)(k:KpR h0 R Y Z):KpR h0 R X Z:=⟨Nat.le_trans h.1 k.1,fun g hg hk=>(k.2 g (Nat.lt_of_lt_of_le hg h.1) hk).trans (h.2 g hg hk)⟩
theorem Reads.drop_{w:World}{B n k:Nat}{gb off:Nat}{xs:List Value}(h:Reads w B 1 (some ⟨gb,off,none⟩) n xs)(hk:k≤n)(A:Option Addr)(hA:k<n→A=some ⟨gb,off+k,none⟩)(hB:0<n):Reads w B 1 A (n-k) (xs.drop k):=by
 refine⟨by rw[List.length_drop,h.1];omega,fun hn=>?_⟩;obtain⟨b,o,e,hb,hc⟩:=h.2 hB;cases e;refine⟨gb,off+k,hA (by omega),hb,fun j u hu=>?_⟩;rw[List.getElem?_drop] at hu;rw[Nat.add_assoc];exact hc _ _ hu
theorem Reads.take_{w:World}{B n k:Nat}{A:Option Addr}{xs:List Value}(h:Reads w B 1 A n xs)(hk:k≤n):Reads w B 1 A k (xs.take k):=by
 refine⟨by rw[List.length_take,h.1];omega,fun hn=>?_⟩;obtain⟨b,o,e,hb,hc⟩:=h.2 (by omega);refine⟨b,o,e,hb,fun j u hu=>hc j u ?_⟩;rw[List.getElem?_take] at hu
 split at hu
 ·exact hu
 cases hu
theorem runs1_gives(n:Nat)(hn:1≤n)(R h0:Nat)(A0:Option Addr)(c0:Nat)(ls:List Int)(hs:ls.length≤1000000000)(W:World)(hR:h0≤R)(hc:Blk W R 166 #[.slice A0 ls.length c0])(hc0:ls.length≤c0)(hrd:Reads W h0 1 A0 ls.length (intVs ls)) :
  GivesOn (But R) Fence.wide n Tryz.prog 183 #[.pointer (some ⟨R,0,none⟩)] rnE (KpR h0 R) (fun x W'=>Reads W' h0 1 x.A x.l.length (intVs x.l)∧0<x.l.length∧x.l.length≤ls.length) (fun xs=>xs.map (·.l)=Nf.runs (ls.length+1) ls) (ls.length+1) W:=by
 intro l J hJ h0J hY;refine callsIn_of_wp Tryz.func183 rfl trivial ?_ rfl;simp only[Tryz.ntmps183,List.size_toArray,List.length_cons,List.length_nil,Nat.reduceAdd,Nat.reduceSub,Array.replicate_succ,Array.replicate_zero,List.push_toArray,List.append_toArray,List.nil_append,List.cons_append];obtain⟨all,hall⟩:∃all,Nf.runs (ls.length+1) ls=all:=⟨_,rfl⟩;rw[hall];have Hall:=hide hall;clear hall;have HJ:=hide hJ;have HY:=hide hY;have H0:=hide h0J;have HC0:=hide hc;have HRd:=hide hrd;have HCl:=hide (fun r W=>class_any r W);clear hJ hY h0J hc hrd;gi_wp2
 gi_loopg [3] ls.length (fun g v3 wr=>∃(rest:List Int) (f:Nat) (pre:List Rn) (A:Option Addr) (c:Nat),g=rest.length∧rest.length<f∧J pre wr∧pre.map (·.l)++Nf.runs f rest=all∧pre.length+rest.length≤ls.length∧Blk wr R 166 #[.slice A rest.length c]∧rest.length≤c∧Reads wr h0 1 A rest.length (intVs rest))
 case atStart=>exact⟨ls,ls.length+1,[],A0,c0,rfl,by omega,H0.out,by rw[←Hall.out];rfl,by simp,HC0.out,hc0,HRd.out⟩
 case round=>
  obtain⟨rest,f,pre,A,c,hg,hf,hj,hall,hlen,hb,hcc,hrd⟩:=hrel;have Hg:=hide hg;have Hj:=hide hj;have Hal:=hide hall;have HB:=hide hb;have HR:=hide hrd;have q0:=hb.cell 0;clear hg hj hall hb hrd
  cases rest with
  | nil=>
   gi_wp2;go_end0
   exact⟨⟨_,rfl⟩,pre,by
    have:=Hal.out
    cases f with
    | zero=>exact absurd hf (by simp)
    | succ f=>simpa[Nf.runs] using this,Hj.out⟩
  | cons r tl=>
   obtain⟨f,rfl⟩:∃f',f=f'+1:=⟨f-1,by omega⟩;obtain⟨gb,off,rfl,hgb,hcell⟩:=HR.out.2 (by simp);obtain⟨k,hk⟩:∃k,(r :: tl).length=k:=⟨_,rfl⟩;rw[hk] at q0 hcc HB HR hlen hf;have hkt:k=tl.length+1:=by rw[←hk];rfl
   have Hkt:=hide hkt;have hk0:0<k:=by omega
   have Hk:=hide hk;clear hk hkt;obtain⟨mk,hmk⟩:∃mk,(Nf.marks tl).length=mk:=⟨_,rfl⟩;have Hmk:=hide hmk;have hmkl:mk+1≤k:=by rw[←hmk,Hkt.out];have:=Nf.marks_le tl;omega
   clear hmk;gi_wp2
   gi_loopg [3] mk (fun g v3 wq=>∃t:Nat,g=mk-t∧t≤mk∧v3=.int .i64 ((t+1:Nat):Int)∧wq=wr)
   case atStart=>exact⟨0,rfl,by omega,rfl,rfl⟩
   case round=>
    rename_i hkr
    obtain⟨t,hgt,htm,rfl,hwq⟩:=hrel;subst hwq;have Hgt:=hide hgt;clear hgt;obtain⟨t1,ht1⟩:∃t1,t+1=t1:=⟨_,rfl⟩;rw[ht1];have Ht1:=hide ht1
    by_cases hlt:t<mk
    ·obtain⟨x,hx⟩:∃x,tl[t]?=some x:=⟨_,List.getElem?_eq_getElem (by have:=Hmk.out;have:=Nf.marks_le tl;omega)⟩;have hcx:=Nf.marks_at hx (by rw[Hmk.out];exact hlt);have y0:wr.cell? ⟨gb,off+t1,none⟩=some (.int .i64 x):=hcell t1 _ (by unfold intVs;rw[List.getElem?_map,←ht1,List.getElem?_cons_succ,hx];rfl);have hC:=HCl.out x wr;obtain⟨cx,hcx2⟩:∃cx,Nf.cls x=cx:=⟨_,rfl⟩;rw[hcx2] at hcx hC;have ht1k:(t1:Int)<(k:Int):=by omega
     have z1:IntKind.i64.wrap ((t1:Int)+1)=((t1+1:Nat):Int):=by rw[IntWalk.i64_in _ (by have:=Hk.out;have:=hlen;omega)];omega
     have HC:=hide hC;clear hx ht1 hcx2 hC
     gi_wp2_with (refine⟨trivial,?_⟩;gi_at_call 150;refine (callsIn_wide.2 HC.out).mono ?_;rintro e w2 ⟨rfl,hw2⟩;subst w2)
     go_roundg (mk-(t+1))
     case measure=>have:=Hgt.out;omega
     case rel=>exact⟨t+1,rfl,hlt,by rw[Ht1.out];first|rfl|go_num,rfl⟩
    by_cases hek:t1<k
    ·obtain⟨x,hx⟩:∃x,tl[t]?=some x:=⟨_,List.getElem?_eq_getElem (by have:=Hkt.out;omega)⟩;have hcx:¬0<Nf.cls x:=Nf.marks_end (by rw[Hmk.out,show mk=t by omega];exact hx);have y0:wr.cell? ⟨gb,off+t1,none⟩=some (.int .i64 x):=hcell t1 _ (by unfold intVs;rw[List.getElem?_map,←ht1,List.getElem?_cons_succ,hx];rfl);have hC:=HCl.out x wr;obtain⟨cx,hcx2⟩:∃cx,Nf.cls x=cx:=⟨_,rfl⟩;rw[hcx2] at hcx hC;have ht1k:(t1:Int)<(k:Int):=by omega
     have HC:=hide hC;clear hx hcx2 hC;have hmt:t=mk:=by omega
     have Hmt:=hide hmt
     have HX:=hide (show Reads wr h0 1 (some ⟨gb,off,none⟩) (r :: Nf.marks tl).length (intVs (r :: Nf.marks tl)) by
      have h1:=HR.out.take_ (k:=mk+1) hmkl
      have e1:(intVs (r :: tl)).take (mk+1)=intVs (r :: Nf.marks tl):=by
       rw[←Hmk.out];unfold intVs;rw[←List.map_take,List.take_succ_cons,Nf.marks_take]
      rw[e1] at h1;have e2:(r :: Nf.marks tl).length=mk+1:=by rw[List.length_cons,Hmk.out]
      rw[e2];exact h1)
     have hYx:=HY.out pre ⟨some ⟨gb,off,none⟩,r :: Nf.marks tl⟩ wr Hj.out ⟨HX.out,by simp,by rw[List.length_cons,Hmk.out];omega⟩ (by omega);unfold rnE at hYx;dsimp only at hYx;rw[show (r :: Nf.marks tl).length=t1 by rw[List.length_cons,Hmk.out,←Ht1.out,Hmt.out]] at hYx;obtain⟨fn,tmps,assign,body,hy,hRn⟩:=hYx;have HRn:=hide hRn;have hb1:0≤(t1:Int)∧(t1:Int)≤(t1:Int)∧(t1:Int)≤(c:Int):=by omega
     have hb2:0≤(t1:Int)∧(t1:Int)≤(k:Int)∧(k:Int)≤(c:Int):=by omega
     clear hRn hmt ht1
     gi_wp2_with (refine⟨trivial,?_⟩;gi_at_call 150;refine (callsIn_wide.2 HC.out).mono ?_;rintro e w2 ⟨rfl,hw2⟩;subst w2)
     refine HRn.out.mono ?_;rintro e W3 ⟨rfl,hJ3,hk3⟩;have HJ3:=hide hJ3;have hB3:Blk W3 R 166 #[.slice (some ⟨gb,off,none⟩) k c]:=(hk3.2 R HB.out.lt (.inr rfl)).trans HB.out;have q3:=hB3.cell 0;have f3:=hB3.frozen 0;have HB3:=hide hB3
     have HR3:=hide (HR.out.keep (w':=W3) (fun p hp=>by
      unfold World.cell?;rw[hk3.2 p.block (by have:=HB.out.lt;omega) (.inl hp)]))
     clear hJ3 hk3 hB3;gi_wp2
     all_goals
      go_roundg (tl.drop mk).length
      case measure=>have:=Hg.out;have:=Hk.out;rw[List.length_drop];rw[List.length_cons] at *;omega
      case rel=>
       have w1:=Ht1.out;have w2:=Hmt.out;have w3:=Hkt.out;have w4:=HB.out.lt;have hdl:(tl.drop mk).length=k-t1:=by rw[List.length_drop];omega
       first
        | (
          refine⟨tl.drop mk,f,pre++[⟨some ⟨gb,off,none⟩,r :: Nf.marks tl⟩],some ⟨gb,off+t1,none⟩,c-t1,rfl,by omega,HJ.out _ _ _ HJ3.out ((But.refl R W3).setCell (.inl rfl) _),?_,by rw[hdl,List.length_append,List.length_singleton];omega,?_,by omega,?_⟩
          ·rw[←Hal.out,Nf.runs,Hmk.out];simp
          ·rw[hdl];have:=HB3.out.set_ 0 (.slice (some ⟨gb,off+t1,none⟩) (k-t1) (c-t1))
           simpa using this
          rw[hdl];have e1:intVs (tl.drop mk)=(intVs (r :: tl)).drop t1:=by unfold intVs;rw[←List.map_drop,←Ht1.out,Hmt.out,List.drop_succ_cons]
          rw[e1];refine ((HR3.out.drop_ (k:=t1) (by omega) (some ⟨gb,off+t1,none⟩) (fun h=>?_) (by omega)).keep fun p hp=>?_)
          ·first|rfl|omega
          unfold World.cell?;rw[Below.heap_setCell _ _ _ _ (by show p.block≠R;omega)])
        | (
          refine⟨tl.drop mk,f,pre++[⟨some ⟨gb,off,none⟩,r :: Nf.marks tl⟩],some ⟨gb,off,none⟩,0,rfl,by omega,HJ.out _ _ _ HJ3.out ((But.refl R W3).setCell (.inl rfl) _),?_,by rw[hdl,List.length_append,List.length_singleton];omega,?_,by omega,?_⟩
          ·rw[←Hal.out,Nf.runs,Hmk.out];simp
          ·rw[hdl];have:=HB3.out.set_ 0 (.slice (some ⟨gb,off,none⟩) (k-t1) 0)
           simpa using this
          rw[hdl];have e1:intVs (tl.drop mk)=(intVs (r :: tl)).drop t1:=by unfold intVs;rw[←List.map_drop,←Ht1.out,Hmt.out,List.drop_succ_cons]
          rw[e1];refine ((HR3.out.drop_ (k:=t1) (by omega) (some ⟨gb,off,none⟩) (fun h=>?_) (by omega)).keep fun p hp=>?_)
          ·first|rfl|omega
          unfold World.cell?;rw[Below.heap_setCell _ _ _ _ (by show p.block≠R;omega)])
    have ht1k:¬(t1:Int)<(k:Int):=by omega
    have hmt:t=mk:=by omega
    have Hmt:=hide hmt
    have HX:=hide (show Reads wr h0 1 (some ⟨gb,off,none⟩) (r :: Nf.marks tl).length (intVs (r :: Nf.marks tl)) by
     have h1:=HR.out.take_ (k:=mk+1) hmkl
     have e1:(intVs (r :: tl)).take (mk+1)=intVs (r :: Nf.marks tl):=by
      rw[←Hmk.out];unfold intVs;rw[←List.map_take,List.take_succ_cons,Nf.marks_take]
     rw[e1] at h1;have e2:(r :: Nf.marks tl).length=mk+1:=by rw[List.length_cons,Hmk.out]
     rw[e2];exact h1)
    have hYx:=HY.out pre ⟨some ⟨gb,off,none⟩,r :: Nf.marks tl⟩ wr Hj.out ⟨HX.out,by simp,by rw[List.length_cons,Hmk.out];omega⟩ (by omega);unfold rnE at hYx;dsimp only at hYx;rw[show (r :: Nf.marks tl).length=t1 by rw[List.length_cons,Hmk.out,←Ht1.out,Hmt.out]] at hYx;obtain⟨fn,tmps,assign,body,hy,hRn⟩:=hYx;have HRn:=hide hRn;have hb1:0≤(t1:Int)∧(t1:Int)≤(t1:Int)∧(t1:Int)≤(c:Int):=by omega
    have hb2:0≤(t1:Int)∧(t1:Int)≤(k:Int)∧(k:Int)≤(c:Int):=by omega
    clear hRn hmt ht1;gi_wp2;refine⟨trivial,?_⟩;gi_wp2;refine HRn.out.mono ?_;rintro e W3 ⟨rfl,hJ3,hk3⟩;have HJ3:=hide hJ3;have hB3:Blk W3 R 166 #[.slice (some ⟨gb,off,none⟩) k c]:=(hk3.2 R HB.out.lt (.inr rfl)).trans HB.out;have q3:=hB3.cell 0;have f3:=hB3.frozen 0;have HB3:=hide hB3
    have HR3:=hide (HR.out.keep (w':=W3) (fun p hp=>by
     unfold World.cell?;rw[hk3.2 p.block (by have:=HB.out.lt;omega) (.inl hp)]))
    clear hJ3 hk3 hB3;gi_wp2
    all_goals
     go_roundg (tl.drop mk).length
     case measure=>have:=Hg.out;have:=Hk.out;rw[List.length_drop];rw[List.length_cons] at *;omega
     case rel=>
      have w1:=Ht1.out;have w2:=Hmt.out;have w3:=Hkt.out;have w4:=HB.out.lt;have hdl:(tl.drop mk).length=k-t1:=by rw[List.length_drop];omega
      first
       | (
         refine⟨tl.drop mk,f,pre++[⟨some ⟨gb,off,none⟩,r :: Nf.marks tl⟩],some ⟨gb,off+t1,none⟩,c-t1,rfl,by omega,HJ.out _ _ _ HJ3.out ((But.refl R W3).setCell (.inl rfl) _),?_,by rw[hdl,List.length_append,List.length_singleton];omega,?_,by omega,?_⟩
         ·rw[←Hal.out,Nf.runs,Hmk.out];simp
         ·rw[hdl];have:=HB3.out.set_ 0 (.slice (some ⟨gb,off+t1,none⟩) (k-t1) (c-t1))
          simpa using this
         rw[hdl];have e1:intVs (tl.drop mk)=(intVs (r :: tl)).drop t1:=by unfold intVs;rw[←List.map_drop,←Ht1.out,Hmt.out,List.drop_succ_cons]
         rw[e1];refine ((HR3.out.drop_ (k:=t1) (by omega) (some ⟨gb,off+t1,none⟩) (fun h=>?_) (by omega)).keep fun p hp=>?_)
         ·first|rfl|omega
         unfold World.cell?;rw[Below.heap_setCell _ _ _ _ (by show p.block≠R;omega)])
       | (
         refine⟨tl.drop mk,f,pre++[⟨some ⟨gb,off,none⟩,r :: Nf.marks tl⟩],some ⟨gb,off,none⟩,0,rfl,by omega,HJ.out _ _ _ HJ3.out ((But.refl R W3).setCell (.inl rfl) _),?_,by rw[hdl,List.length_append,List.length_singleton];omega,?_,by omega,?_⟩
         ·rw[←Hal.out,Nf.runs,Hmk.out];simp
         ·rw[hdl];have:=HB3.out.set_ 0 (.slice (some ⟨gb,off,none⟩) (k-t1) 0)
          simpa using this
         rw[hdl];have e1:intVs (tl.drop mk)=(intVs (r :: tl)).drop t1:=by unfold intVs;rw[←List.map_drop,←Ht1.out,Hmt.out,List.drop_succ_cons]
         rw[e1];refine ((HR3.out.drop_ (k:=t1) (by omega) (some ⟨gb,off,none⟩) (fun h=>?_) (by omega)).keep fun p hp=>?_)
         ·first|rfl|omega
         unfold World.cell?;rw[Below.heap_setCell _ _ _ _ (by show p.block≠R;omega)])
end
section
open Go.RowKit Go.WideShapes

attribute [local go_sem] Oper.semAt_some

theorem wpListIn_append_reads{F:Fence}{N:Nat}{P:Program}(W:World){e:TypeId}{ops:Array Oper}{rest:List Oper}{o:Oper}{a:Act}{Q:Exit→Act→World→Prop}(hgd:o.guard=none)(s x:Operand)(t:TypeId)
  (ho:o.op=.call { callee:=.builtin .append,args:=#[s,x],argTypes:=#[t,t] })
  (base:Nat) (z:Value) (bytes:Nat) (ht:P.underlying t=some (.slice e)) (hinfo:(P.info? e).map (fun i=>(i.zero,i.size,i.bytes))=some (some z,1,bytes))
  (hzs:z.cells.size=1) (v:Value) (n:Nat) (xs:List Value) (hs:a.eval s=v) (hown:W.ownsRow base e 1 v n xs)
  (B:Nat) (A:Option Addr) (m c:Nat) (cs:List Value) (hr:Reads W B 1 A m cs) (hm:0<m) (h1:∀u∈cs,u.oneCell'=true) (hx:a.eval x=.slice A m c)
  (h63:n+m≤maxLen) (hbytes:(n+m)*bytes≤140737488355328) (hbase:base≤W.heap.size)
  (h:∀g cap w',w'.ownsRow base e 1 (.slice (some ⟨g,0,none⟩) (n+m) cap) (n+m) (xs++cs)→W.grownBy w' v.ownBlock→g<w'.heap.size→base≤g→
   wpListIn F N P ops Q rest (a.put o.dst (.slice (some ⟨g,0,none⟩) (n+m) cap)) w'):wpListIn F N P ops Q (o :: rest) a W:=by
 obtain⟨i,hi,hz,hsize,hby⟩:=info_parts hinfo;obtain⟨b,off,rfl,_,hc⟩:=hr.2 hm;refine wpListIn_append_own W hgd s x t ho base e i z 1 bytes ht hi hz hsize hby hzs (by omega) v n xs hs hown ⟨b,off,none⟩ m c cs hx (by rw[hr.1]) ?_ h1 h63 hbytes hbase ?_
 ·intro j u hu;have:=hc j u hu;unfold Addr.add;split
  ·subst_vars;exact this
  exact this
 intro v' w' hown' hgrow _;obtain⟨g,cap,hv,hb,hlt⟩:=hown'.form (by omega);subst hv;exact h g cap w' hown' hgrow hlt hb
theorem own_srow{w:World}{base g n cap:Nat}{out run:List Int}(h:w.ownsRow base 3 1 (.slice (some ⟨g,0,none⟩) n cap) n (intVs (out++run))) :
  ∃post,SRow w g out.length (intVs out) post run∧∀w' run',SRow w' g out.length (intVs out) post run'→run'.length=run.length→w'.ownsRow base 3 1 (.slice (some ⟨g,0,none⟩) n cap) n (intVs (out++run')):=by
 have hn:(out++run).length=n:=by have:=h.1;rw[intVs_len] at this;omega
 rcases h.2 with ⟨h0,_⟩|⟨g',cap',cur,e,hb,hh,h1,h2,h3,h4⟩
 ·cases h0
 cases e;rw[Nat.mul_one] at h3 h4
 have e:cur.toList=intVs out++intVs run++cur.toList.drop n:=by
  rw[←intVs_app,←h4,List.take_append_drop]
 refine⟨cur.toList.drop n,⟨?_,intVs_len _⟩,fun w' run' hs hl=>?_⟩
 ·unfold Blk;rw[←e];exact hh
 have hb2:=hs.blk;unfold Blk at hb2;refine⟨by rw[intVs_len,List.length_append,hl,←List.length_append,hn];omega,.inr ⟨g,cap,_,rfl,hb,hb2,h1,h2,?_,?_⟩⟩
 ·rw[Nat.mul_one,←h3,←Array.length_toList,←Array.length_toList];show (intVs out++intVs run'++cur.toList.drop n).length=cur.toList.length
  conv=>rhs;rw[e]
  simp only[List.length_append,intVs_len,hl]
 rw[Nat.mul_one];show (intVs out++intVs run'++cur.toList.drop n).take n=_;rw[←intVs_app];exact List.take_left' (by rw[intVs_len,List.length_append,hl,←List.length_append,hn])
structure SortI(w:World)(L:Nat)(pre:List Rn)(W:World):Prop where
 row:∃A c,Blk W w.heap.size 166 #[.slice A ((pre.map (·.l)).flatMap Nf.sortR).length c]∧W.ownsRow (w.heap.size+4) 3 1 (.slice A ((pre.map (·.l)).flatMap Nf.sortR).length c) ((pre.map (·.l)).flatMap Nf.sortR).length (intVs ((pre.map (·.l)).flatMap Nf.sortR))
 b:Below w.heap.size w W
 size:w.heap.size+4≤W.heap.size
 len:∀x∈pre,x.l.length≤L
theorem SortI.len_{w W:World}{L:Nat}{pre:List Rn}(h:SortI w L pre W):((pre.map (·.l)).flatMap Nf.sortR).length≤pre.length*L:=by
 have hl:=h.len;clear h
 induction pre with
 | nil=>simp
 | cons x pre ih=>
  rw[List.map_cons,List.flatMap_cons,List.length_append,Nf.sortR_len,List.length_cons,Nat.add_mul];have:=hl x (List.mem_cons_self ..);have:=ih fun y hy=>hl y (List.mem_cons_of_mem _ hy);omega
theorem SortI.keep{w W W':World}{L:Nat}{pre:List Rn}(h:SortI w L pre W)(hb:∀k,k<W.heap.size→k≠w.heap.size+1→k≠w.heap.size+2→k≠w.heap.size+3→W'.heap[k]?=W.heap[k]?)(hs:W.heap.size≤W'.heap.size)(ho:W'.os=W.os∧W'.tape=W.tape∧W'.output=W.output):SortI w L pre W':=by
 obtain⟨A,c,hk,hrow⟩:=h.row;have hz:=h.size;refine⟨⟨A,c,(hb _ (by omega) (by omega) (by omega) (by omega)).trans hk,?_⟩,⟨ho.1.trans h.b.os,ho.2.1.trans h.b.tape,ho.2.2.trans h.b.output,Nat.le_trans h.b.size hs,fun k hk=>(hb k (by have:=h.b.size;omega) (by omega) (by omega) (by omega)).trans (h.b.block k hk)⟩,by omega,h.len⟩
 rcases hrow.2 with h0|⟨g,cap,cur,e,hg,hh,rest⟩
 ·exact⟨hrow.1,.inl h0⟩
 exact⟨hrow.1,.inr ⟨g,cap,cur,e,hg,(hb g (Array.getElem?_eq_some_iff.1 hh).1 (by omega) (by omega) (by omega)).trans hh,rest⟩⟩
theorem ob_kept{W w1:World}{b base n0 c1:Nat}{A1:Option Addr}{xs:List Value}(hk:Blk W b 166 #[.slice A1 n0 c1])(hrow:W.ownsRow base 3 1 (.slice A1 n0 c1) n0 xs)(hg:W.grownBy w1 (Value.slice A1 n0 c1).ownBlock):Blk w1 b 166 #[.slice A1 n0 c1] :=
 hk.grown hg (fun e=>own_blk_ne hrow hk (by decide) e.symm)
theorem own_capQ{w:World}{base e g n cap:Nat}{xs:List Value}(h:w.ownsRow base e 1 (.slice (some ⟨g,0,none⟩) n cap) n xs):n≤cap:=by
 rcases h.2 with ⟨h0,_⟩|⟨g',cap',cur,e,hb,hh,h1,h2,h3,h4⟩
 ·cases h0
 cases e;exact h1
theorem others_but{w w':World}{g t:Nat}(h:But g w w')(hg:IsT w g t):KeepsOthers w w':=⟨h.size,fun k o hk ho=>by
 refine (h.block k (Array.getElem?_eq_some_iff.1 hk).1 ?_).trans hk;rintro rfl;obtain⟨cs,fr,h2⟩:=hg;rw[hk] at h2;cases h2
 cases ho⟩
theorem sort_step{w W w1 w3:World}{L g cap c:Nat}{pre:List Rn}{x:Rn}{A:Option Addr}{post:List Value}(B n1:Nat)
  (hk:Blk W w.heap.size 166 #[.slice A ((pre.map (·.l)).flatMap Nf.sortR).length c]) (hrow:W.ownsRow (w.heap.size+4) 3 1 (.slice A ((pre.map (·.l)).flatMap Nf.sortR).length c) ((pre.map (·.l)).flatMap Nf.sortR).length (intVs ((pre.map (·.l)).flatMap Nf.sortR)))
  (hb:Below w.heap.size w W) (hsz:w.heap.size+4≤W.heap.size) (hlen:∀y∈pre,y.l.length≤L) (hx:x.l.length≤L)
  (hn1:n1=((pre.map (·.l)).flatMap Nf.sortR).length+x.l.length)
  (hg:W.grownBy w1 (Value.slice A ((pre.map (·.l)).flatMap Nf.sortR).length c).ownBlock) (hg4:w.heap.size+4≤g)
  (ho:w1.ownsRow (w.heap.size+4) 3 1 (.slice (some ⟨g,0,none⟩) n1 cap) n1 (intVs ((pre.map (·.l)).flatMap Nf.sortR++x.l)))
  (hback:∀w' run',SRow w' g ((pre.map (·.l)).flatMap Nf.sortR).length (intVs ((pre.map (·.l)).flatMap Nf.sortR)) post run'→run'.length=x.l.length→w'.ownsRow (w.heap.size+4) 3 1 (.slice (some ⟨g,0,none⟩) n1 cap) n1 (intVs ((pre.map (·.l)).flatMap Nf.sortR++run')))
  (hs:SRow w3 g ((pre.map (·.l)).flatMap Nf.sortR).length (intVs ((pre.map (·.l)).flatMap Nf.sortR)) post (Nf.sortR x.l)) (h3:But g (w1.setCell ⟨w.heap.size,0,none⟩ (.slice (some ⟨g,0,none⟩) n1 cap)) w3) :
  KeepsFrom B W w3∧KpR w.heap.size (w.heap.size+1) W w3∧SortI w L (pre++[x]) w3:=by
 have hne:(Value.slice A ((pre.map (·.l)).flatMap Nf.sortR).length c).ownBlock≠some w.heap.size:=own_blk_ne hrow hk (by decide);have hown:=own_isT hrow;have hk1:Blk w1 w.heap.size 166 #[.slice A ((pre.map (·.l)).flatMap Nf.sortR).length c]:=hk.grown hg (fun e=>hne e.symm)
 have hk2:Blk (w1.setCell ⟨w.heap.size,0,none⟩ (.slice (some ⟨g,0,none⟩) n1 cap)) w.heap.size 166 #[.slice (some ⟨g,0,none⟩) n1 cap]:=by
  have:=hk1.set_ 0 (.slice (some ⟨g,0,none⟩) n1 cap)
  simpa using this
 have hk3:=h3.blk hk2 (by omega)
 have hisg:IsT (w1.setCell ⟨w.heap.size,0,none⟩ (.slice (some ⟨g,0,none⟩) n1 cap)) g 3:=by
  obtain⟨cs,fr,e⟩:=(own_isT ho g rfl).2;exact⟨cs,fr,(Below.heap_setCell _ _ _ _ (by show g≠w.heap.size;omega)).trans e⟩
 have hsz1:W.heap.size≤w1.heap.size:=hg.size;have hszs:(w1.setCell ⟨w.heap.size,0,none⟩ (.slice (some ⟨g,0,none⟩) n1 cap)).heap.size=w1.heap.size:=by simp[World.setCell]
 have low:∀k,k<w.heap.size+4→k≠w.heap.size→w3.heap[k]?=W.heap[k]?:=fun k hk4 h0=>by
  rw[h3.block k (by rw[hszs];omega) (by omega),Below.heap_setCell _ _ _ _ (by exact h0),hg.block k (by omega) (fun e=>by have:=(hown k e.symm).1;omega)]
 have hsz3:W.heap.size≤w3.heap.size:=by have:=h3.size;rw[hszs] at this;omega
 refine⟨?_,⟨hsz3,fun k hk0 h1=>low k (by omega) (by omega)⟩,?_⟩
 ·refine (((KeepsOthers.of_grownBy hg fun j o ej hj=>?_).trans (KeepsOthers.setCell _ _ _)).trans (others_but h3 hisg)).from B;obtain⟨_,cs,fr,h⟩:=hown j ej;rw[h] at hj;cases hj;rfl
 have e1:((pre++[x]).map (·.l)).flatMap Nf.sortR=(pre.map (·.l)).flatMap Nf.sortR++Nf.sortR x.l:=by simp
 have e2:((pre.map (·.l)).flatMap Nf.sortR++Nf.sortR x.l).length=n1:=by rw[List.length_append,Nf.sortR_len,hn1]
 refine⟨⟨some ⟨g,0,none⟩,cap,?_,?_⟩,⟨?_,?_,?_,by have:=hb.size;omega,fun k hk0=>(low k (by omega) (by omega)).trans (hb.block k hk0)⟩,by omega,fun y hy=>?_⟩
 ·rw[e1,e2];exact hk3
 ·rw[e1,e2];exact hback _ _ hs (Nf.sortR_len _)
 ·exact (h3.os.trans hg.os).trans hb.os
 ·exact (h3.tape.trans hg.tape).trans hb.tape
 ·exact (h3.output.trans hg.output).trans hb.output
 rcases List.mem_append.1 hy with hy|hy
 ·exact hlen y hy
 rw[List.mem_singleton] at hy;subst hy;exact hx
theorem runs_any(A:Option Addr)(n c:Nat)(w:World) :
  Calls Tryz.prog 153 #[.slice A n c] w fun e w'=>e=.returned (.func (.func 183) #[] #[.pointer (some ⟨w.heap.size,0,none⟩)])∧w'=w.alloc (.cells #[.slice A n c] 166):=by
 go_enter Tryz.func153,Tryz.ntmps153
 go_wp2;go_ret;exact⟨rfl,rfl⟩
theorem sort_any(l:List Int)(A:Option Addr)(c:Nat)(w:World)(hr:Reads w w.heap.size 1 A l.length (intVs l))(hlc:l.length≤c)(hs:l.length≤4000000) :
  Calls Tryz.prog 113 #[.slice A l.length c] w fun e w'=>∃A' c',e=.returned (.slice A' (Nf.sort l).length c')∧w'.ownsRow w.heap.size 3 1 (.slice A' (Nf.sort l).length c') (Nf.sort l).length (intVs (Nf.sort l))∧Below w.heap.size w w':=by
 refine (callsIn_wide (n:=5)).1 ?_;refine callsIn_of_wp_marks Tryz.func113 rfl trivial ?_ rfl;simp only[Tryz.ntmps113,List.size_toArray,List.length_cons,List.length_nil,Nat.reduceAdd,Nat.reduceSub,Array.replicate_succ,Array.replicate_zero,List.push_toArray,List.append_toArray,List.nil_append,List.cons_append];obtain⟨L,hL⟩:∃L,l.length=L:=⟨_,rfl⟩;have HL:=hide hL;rw[hL] at hr hlc hs;rw[hL];have HR:=hide hr;clear hL hr
 gi_wp2_with (refine⟨trivial,?_⟩;gi_at_call 153;refine (callsIn_wide.2 (runs_any _ _ _ _)).mono ?_;rintro e w' ⟨rfl,rfl⟩)
 have hR2:Blk ((w.alloc (.cells #[.slice none 0 0] 166)).alloc (.cells #[.slice A L c] 166)) (w.heap.size+1) 166 #[.slice A L c]:=by
  have:=Blk.new (w.alloc (.cells #[.slice none 0 0] 166)) 166 #[.slice A L c];rwa[World.size_alloc] at this
 have hO2:Blk ((w.alloc (.cells #[.slice none 0 0] 166)).alloc (.cells #[.slice A L c] 166)) w.heap.size 166 #[.slice none 0 0]:=(Blk.new w 166 #[.slice none 0 0]).alloc _;have hB2:Below w.heap.size w ((w.alloc (.cells #[.slice none 0 0] 166)).alloc (.cells #[.slice A L c] 166)):=(below_alloc w _).trans ((below_alloc _ _).mono (by simp));have hz2:((w.alloc (.cells #[.slice none 0 0] 166)).alloc (.cells #[.slice A L c] 166)).heap.size=w.heap.size+2:=by simp
 generalize (w.alloc (.cells #[.slice none 0 0] 166)).alloc (.cells #[.slice A L c] 166)=W2 at hR2 hO2 hB2 hz2 ⊢;have HI0:=hide (fun o o'=>show SortI w L [] ((W2.alloc o).alloc o') from⟨⟨none,0,(hO2.alloc o).alloc o',World.ownsRow_nil _ _ _ _⟩,(hB2.trans ((below_alloc W2 o).mono (by omega))).trans ((below_alloc (W2.alloc o) o').mono (by simp;omega)),by simp;omega,fun x hx=>by cases hx⟩)
 have hgv:∀o o',GivesOn (But (w.heap.size+1)) Fence.wide (5-1) Tryz.prog 183 #[.pointer (some ⟨w.heap.size+1,0,none⟩)] rnE (KpR w.heap.size (w.heap.size+1)) (fun x W'=>Reads W' w.heap.size 1 x.A x.l.length (intVs x.l)∧0<x.l.length∧x.l.length≤L) (fun xs=>xs.map (·.l)=Nf.runs (L+1) l) (L+1) ((W2.alloc o).alloc o'):=by
  intro o o'
  have h:=runs1_gives (5-1) (by omega) (w.heap.size+1) w.heap.size A c l (by rw[HL.out];omega) ((W2.alloc o).alloc o') (by omega) (by rw[HL.out];exact (hR2.alloc o).alloc o') (by rw[HL.out];exact hlc) (by rw[HL.out];exact (HR.out.below hB2).keep (fun p hp=>by
   unfold World.cell?;rw[Below.heap_alloc _ _ _ (by simp;omega),Below.heap_alloc _ _ _ (by omega)]))
  rw[HL.out] at h;exact h
 have HSt:=hide (fun l pre post g off cap n W h=>sortStable_any l pre post g off cap n W h)
 refine range_on (Fr:=But (w.heap.size+1)) (fun A B h k h1 h2=>h.block k h2 (by omega)) rfl (by omega) (gf:=183) (lb:=#[.pointer (some ⟨w.heap.size+1,0,none⟩)]) rfl trivial (enters_of Tryz.func183 (by kernel_rfl) rfl) (fun _=>rfl)
  hgv ?kt ?kb (SortI w L) ?ip ?ib ?f HI0.out
  (fun x=>{ tmps:=#[.slice A L c,undef,.slice none 0 0,.pointer (some ⟨w.heap.size,0,none⟩),.slice x.A x.l.length x.l.length,undef,.slice A L c,.func (.func 183) #[] #[.pointer (some ⟨w.heap.size+1,0,none⟩)],.slice x.A x.l.length x.l.length,undef,undef,undef,undef,undef,undef,undef,undef,undef,undef],defers:=[] }) ?assign ?body ?done
 case kt=>exact fun h k=>h.trans k
 case kb=>exact fun W o o' h _=>⟨by simp[World.putObj],fun k hk h1=>World.putObj_heap_other (by omega)⟩
 case ip=>
  intro s W o o' h _ _;exact h.keep (fun k h1 h2 h3 h4=>World.putObj_heap_other (by omega)) (by simp[World.putObj]) ⟨rfl,rfl,rfl⟩
 case ib=>
  intro s A B h hb;exact h.keep (fun k h1 h2 h3 h4=>hb.block k h1 h2) hb.size ⟨hb.os,hb.tape,hb.output⟩
 case f=>
  intro x W o h
  exact⟨h.1.keep (fun p hp=>by
   unfold World.cell?;rw[World.putObj_heap_other (by omega)]),h.2⟩
 case assign=>
  intro l x W K hK;unfold rnE at *
  gi_wp2;exact hK
 case body=>
  intro l pre x W hI hf hlen hsz;have hol:=hI.len_;obtain⟨⟨A1,c1,hk,hrow⟩,hb,hz4,hln⟩:=hI;have Hk:=hide hk;have Hrow:=hide hrow;have Hb:=hide hb;have Hln:=hide hln;have q0:=hk.cell 0;have HF:=hide hf;obtain⟨out,hout⟩:∃out,(pre.map (·.l)).flatMap Nf.sortR=out:=⟨_,rfl⟩;have Hout:=hide hout;rw[hout] at q0 hol;have Hrow1:=hide (hout▸hrow:W.ownsRow (w.heap.size+4) 3 1 (.slice A1 out.length c1) out.length (intVs out));obtain⟨m,hm⟩:∃m,x.l.length=m:=⟨_,rfl⟩;have Hm:=hide hm;have hm0:0<m:=by rw[←hm];exact hf.2.1
  have hmL:m≤L:=by rw[←hm];exact hf.2.2
  have hX:=hf.1;rw[hm] at hX;have HX:=hide hX;obtain⟨n0,hn0⟩:∃n0,out.length=n0:=⟨_,rfl⟩;rw[hn0] at q0 hol Hrow1;have Hn0:=hide hn0;have Hk1:=hide (show Blk W w.heap.size 166 #[.slice A1 n0 c1] by have h:=Hk.out;rw[hout,hn0] at h;exact h)
  have hn0b:n0≤16000004000000:=by
   refine Nat.le_trans hol (Nat.le_trans (Nat.mul_le_mul (Nat.le_of_lt hlen) (Nat.le_refl L)) ?_);exact Nat.le_trans (Nat.mul_le_mul (Nat.succ_le_succ hs) hs) (by omega)
  have hsz4:w.heap.size+4≤W.heap.size:=hz4;rw[hm];have HFz:=hide (hk.frozen 0);clear hk hrow hb hln hf hout hm hX hn0 hgv hR2 hO2 hB2 HI0
  gi_wp2_with (gi_at_builtin;go_loud (refine wpListIn_append_reads W rfl (.tmp 11) (.tmp 12) 166 rfl (w.heap.size+4) (.int .i64 0) 8 Tryz.underlying166 info_int rfl _ n0 (intVs out) rfl Hrow1.out w.heap.size x.A m m (intVs x.l) HX.out hm0 (intVs_one _) rfl (by unfold maxLen;omega) (by omega) hsz4 ?_);intro g cap w1 ho1 hg1 hlt1 hb1;obtain⟨n1,hn1⟩:∃n1,n0+m=n1:=⟨_,rfl⟩;rw[hn1] at ho1 ⊢;have Hn1:=hide hn1;have Hg1:=hide hg1;have HO1:=hide (show w1.ownsRow (w.heap.size+4) 3 1 (.slice (some ⟨g,0,none⟩) n1 cap) n1 (intVs (out++x.l)) from (intVs_app out x.l).symm▸ho1);have hk1:=ob_kept Hk1.out Hrow1.out hg1;have q1:=hk1.cell 0;have f1:=hk1.frozen 0;have hz1:w.heap.size+4≤w1.heap.size:=Nat.le_trans hsz4 hg1.size;have hcap:=own_capQ ho1;have hsb:0≤(n0:Int)∧(n0:Int)≤(n1:Int)∧(n1:Int)≤(cap:Int):=(by omega);have hg4:w.heap.size+4≤g:=hb1;have hnc:n0<cap:=(by omega);clear ho1 hg1 hk1 hn1 hb1)
  obtain⟨post,hsr,hback⟩:=own_srow HO1.out;have hn10:n1-n0=m:=by have:=Hn1.out;omega
  rw[hn10];have hgo:g≠w.heap.size:=by omega
  have hS2:SRow (w1.setCell ⟨w.heap.size,0,none⟩ (.slice (some ⟨g,0,none⟩) n1 cap)) g n0 (intVs out) post x.l:=by
   have h1:=hsr.off_;exact⟨hsr.blk.far (by exact hgo) _,by rw[intVs_len];exact Hn0.out⟩
  have HS2:=hide (HSt.out x.l (intVs out) post g n0 (cap-n0) m _ hS2 Hm.out.symm (by omega));refine⟨trivial,?_⟩;refine (callsIn_wide.2 HS2.out).mono ?_;rintro e w3 ⟨rfl,hr3,hb3⟩;have HR3:=hide hr3;have HB3:=hide hb3;have HBk:=hide hback;clear hsr hback hS2 hr3 hb3 q1 f1 q0;gi_wp2;have hO:=Hout.out;have hN:=Hn0.out;subst hO;have hst:=sort_step (L:=L) (cap:=cap) (x:=x) (post:=post) W2.heap.size n1 Hk.out Hrow.out Hb.out hsz4 Hln.out HF.out.2.2 (by rw[hN,Hm.out,Hn1.out]) (by rw[hN];exact Hg1.out) hg4 HO1.out HBk.out (by rw[hN];exact HR3.out) HB3.out;exact hst
 case done=>
  intro D xs W hD hxs hI hK;obtain⟨⟨A1,c1,hk,hrow⟩,hb,hz4,hln⟩:=hI
  have e1:(xs.map (·.l)).flatMap Nf.sortR=Nf.sort l:=by
   unfold Nf.sort;rw[hxs,HL.out]
  rw[e1] at hk hrow;have q0:=hk.cell 0;have HK:=hide hK;have Hrow:=hide hrow;have Hb:=hide hb;have hDs:D=w.heap.size+2:=by omega
  clear hk hrow hb hln hK hgv HI0 hR2 hO2 hB2;gi_wp2;refine⟨by simp,.inl ⟨_,_,rfl,run_takeDeferred (w:=W) HK.out,?_⟩⟩;refine⟨.slice A1 (Nf.sort l).length c1,?_,?_⟩
  ·simp[results,Tryz.results113,go_sem]
  refine⟨A1,c1,rfl,?_,?_⟩
  ·have h:=Hrow.out
   rcases h.2 with h0|⟨g,cap,cur,e,hg,hh,rest⟩
   ·exact⟨h.1,.inl h0⟩
   exact⟨h.1,.inr ⟨g,cap,cur,e,by omega,(World.putObj_heap_other (by omega)).trans hh,rest⟩⟩
  exact⟨Hb.out.os,Hb.out.tape,Hb.out.output,Nat.le_trans Hb.out.size (by simp[World.putObj]),fun k hk=>(World.putObj_heap_other (by omega)).trans (Hb.out.block k hk)⟩
end
section
open Go.RowKit Go.WideShapes

attribute [local go_sem] Oper.semAt_some

def IsC(W:World)(k:Nat):Prop:=∃cs t fr,W.heap[k]?=some (.cells cs t fr)
theorem IsC.of_cell{W:World}{g i:Nat}{u:Value}(h:W.cell? ⟨g,i,none⟩=some u):IsC W g:=by
 unfold World.cell? at h;dsimp only at h
 split at h
 ·rename_i cs t fr e;exact⟨cs,t,fr,e⟩
 cases h
theorem IsC.lt{W:World}{k:Nat}(h:IsC W k):k<W.heap.size:=by
 obtain⟨cs,t,fr,h⟩:=h;exact (Array.getElem?_eq_some_iff.1 h).1
def ObP(Ob:Nat)(W:World)(k:Nat):Prop:=∃n c,Blk W Ob 166 #[.slice (some ⟨k,0,none⟩) n c]
structure Kq(Ob:Nat)(W W':World):Prop where
 size:W.heap.size≤W'.heap.size
 keep:∀k,IsC W k→k≠Ob→¬ObP Ob W k→W'.heap[k]?=W.heap[k]?
 ptr:∀k,ObP Ob W' k→ObP Ob W k∨W.heap.size≤k
 lt:(∀k,ObP Ob W k→k<W.heap.size)→∀k,ObP Ob W' k→k<W'.heap.size
theorem Kq.trans{Ob:Nat}{X Y Z:World}(h:Kq Ob X Y)(k:Kq Ob Y Z):Kq Ob X Z:=by
 refine⟨Nat.le_trans h.size k.size,fun i hc hne hp=>?_,fun i hp=>?_,fun hl=>k.lt (h.lt hl)⟩
 ·have e:=h.keep i hc hne hp;refine (k.keep i ?_ hne fun hp2=>?_).trans e
  ·obtain⟨cs,t,fr,hc⟩:=hc;exact⟨cs,t,fr,e.trans hc⟩
  rcases h.ptr i hp2 with h1|h1
  ·exact hp h1
  have:=hc.lt;omega
 rcases k.ptr i hp with h1|h1
 ·exact h.ptr i h1
 exact .inr (Nat.le_trans h.size h1)
theorem Kq.put{Ob l:Nat}{W:World}{o o':Obj}(hl:W.heap[l]?=some o')(hc:o'.isCells=false)(hne:Ob≠l):Kq Ob W (W.putObj l o):=by
 have hO:(W.putObj l o).heap[Ob]?=W.heap[Ob]?:=World.putObj_heap_other hne;have hp:∀k,ObP Ob (W.putObj l o) k→ObP Ob W k:=fun k ⟨n,c,h⟩=>⟨n,c,hO.symm.trans h⟩;refine⟨by simp[World.putObj],fun k hk _ _=>World.putObj_heap_other ?_,fun k h=>.inl (hp k h),fun h k hk=>by have:=h k (hp k hk);simp[World.putObj];exact this⟩;rintro rfl;obtain⟨cs,t,fr,e⟩:=hk;rw[hl] at e;cases e;cases hc
theorem ObP.of_eq{Ob:Nat}{W W':World}{k:Nat}(h:ObP Ob W' k)(e:W'.heap[Ob]?=W.heap[Ob]?):ObP Ob W k:=by
 obtain⟨n,c,h⟩:=h;exact⟨n,c,e.symm.trans h⟩
structure PRow(Ob:Nat)(W:World)(A:Option Addr)(l:List Int):Prop where
 is:0<l.length→∃gp off,A=some ⟨gp,off,none⟩∧gp≠Ob∧¬ObP Ob W gp∧∀i y,l[i]?=some y→W.cell? ⟨gp,off+i,none⟩=some (.int .i64 y)
theorem PRow.kq{Ob:Nat}{W W':World}{A:Option Addr}{l:List Int}(h:PRow Ob W A l)(k:Kq Ob W W'):PRow Ob W' A l:=⟨fun hl=>by
 obtain⟨gp,off,e,h1,h2,h3⟩:=h.is hl;have hc:IsC W gp:=IsC.of_cell (h3 0 l[0] (List.getElem?_eq_getElem hl));have hk:=k.keep gp hc h1 h2;refine⟨gp,off,e,h1,fun hp=>?_,fun i y hy=>?_⟩
 ·rcases k.ptr gp hp with h4|h4
  ·exact h2 h4
  have:=hc.lt;omega
 have:=h3 i y hy;unfold World.cell? at this ⊢;dsimp only at this ⊢;rwa[hk]⟩
theorem PRow.below{Ob:Nat}{W W':World}{A:Option Addr}{l:List Int}(h:PRow Ob W A l)(hO:Ob<W.heap.size)(k:Below W.heap.size W W'):PRow Ob W' A l:=⟨fun hl=>by
 obtain⟨gp,off,e,h1,h2,h3⟩:=h.is hl;have hc:IsC W gp:=IsC.of_cell (h3 0 l[0] (List.getElem?_eq_getElem hl));refine⟨gp,off,e,h1,fun hp=>h2 (hp.of_eq (k.block Ob hO)),fun i y hy=>(k.cell (p:=⟨gp,off+i,none⟩) hc.lt).trans (h3 i y hy)⟩⟩
theorem prow_own{Ob M cp:Nat}{W w2:World}{Ap:Option Addr}{l:List Int}(ho:w2.ownsRow W.heap.size 3 1 (.slice Ap M cp) M (intVs l))(hM:l.length=M)(hO:Ob<W.heap.size)(hp:∀k,ObP Ob W k→k<W.heap.size)(hb:Below W.heap.size W w2):PRow Ob w2 Ap l:=⟨fun hl=>by
 obtain⟨b,off,e,_,hc⟩:=(Reads.of_own ho).2 (by omega);obtain⟨g,cap,hv,hg,_⟩:=ho.form (by omega);injection hv with hA
 rw[hA] at e;injection e with e
 injection e with e1 e2
 subst e1;refine⟨g,off,by rw[hA,e2],by omega,fun h=>?_,fun i y hy=>hc i _ (by unfold intVs;rw[List.getElem?_map,hy];rfl)⟩;have:=hp g (h.of_eq (hb.block Ob hO))
 omega⟩
theorem parts1_gives(n:Nat)(hn:1≤n)(Bs Ob:Nat)(A0:Option Addr)(c0:Nat)(ls:List Int)(hs:ls.length≤1000000)(W:World)(hc:Blk W Bs 166 #[.slice A0 ls.length c0])(hO:Ob<W.heap.size)(hp:∀k,ObP Ob W k→k<W.heap.size)
  (hrd:PRow Ob W A0 ls) (hok:∀x∈ls,Nf.Ok x) :
  GivesOn (But Bs) Fence.wide n Tryz.prog 151 #[.pointer (some ⟨Bs,0,none⟩)] (fun x:Int=>#[.int .i64 x]) (Kq Ob) (fun x _=>Nf.Ok x) (fun xs=>xs=Nf.decomp ls) (16*ls.length+1) W:=by
 intro l J hJ h0J hY;refine callsIn_of_wp Tryz.func151 rfl trivial ?_ rfl;simp only[Tryz.ntmps151,List.size_toArray,List.length_cons,List.length_nil,Nat.reduceAdd,Nat.reduceSub,Array.replicate_succ,Array.replicate_zero,List.push_toArray,List.append_toArray,List.nil_append,List.cons_append];obtain⟨N,hN⟩:∃N,ls.length=N:=⟨_,rfl⟩;rw[hN] at hs hc;have HN:=hide hN;have HJ:=hide hJ;have HY:=hide hY;have H0:=hide h0J;have HRd:=hide hrd;have HOk:=hide hok;have HP:=hide hp;have HOl:=hide hO;have q0:=hc.cell 0;clear hJ hY h0J hc hrd hok hp hO hN;gi_wp2
 gi_loopg [9] N (fun g v9 wr=>∃(j:Nat),g=N-j∧j≤N∧v9=.int .i64 (j:Int)∧J (Nf.decomp (ls.take j)) wr∧PRow Ob wr A0 ls∧(∀k,ObP Ob wr k→k<wr.heap.size)∧Ob<wr.heap.size)
 case atStart=>exact⟨0,rfl,by omega,rfl,H0.out,HRd.out,HP.out,HOl.out⟩
 case round=>
  obtain⟨j,hg,hj,rfl,hJj,hrd,hpt,hOl⟩:=hrel;have Hg:=hide hg;have Hj:=hide hJj;have HR:=hide hrd;have HPt:=hide hpt;have HOl2:=hide hOl;clear hg hJj hrd hpt hOl
  by_cases hlt:j<N
  ·obtain⟨r,hr⟩:∃r,ls[j]?=some r:=⟨_,List.getElem?_eq_getElem (by rw[HN.out];exact hlt)⟩;obtain⟨gb,off,rfl,_,_,hcell⟩:=HR.out.is (by rw[HN.out];omega);have y0:=hcell j r hr;have HD:=hide (Nf.decomp_next hr);have hrok:=HOk.out r (List.mem_of_getElem? hr);have HPa:=hide (parts_any r wr hrok);have HPo:=hide (Nf.parts_ok hrok);have hln:=Nf.decomp_len (ls.take (j+1));rw[HD.out,List.length_append] at hln;have hln2:(Nf.decomp (ls.take j)).length+(Nf.parts r).length≤16*N:=Nat.le_trans hln (Nat.mul_le_mul (Nat.le_refl _) (by rw[List.length_take];have:=HN.out;omega));obtain⟨M,hM⟩:∃M,(Nf.parts r).length=M:=⟨_,rfl⟩;rw[hM] at HPa hln2;have HM:=hide hM;clear hcell hr hM hln
   gi_wp2_with (refine⟨trivial,?_⟩;gi_at_call 152;refine (callsIn_wide.2 HPa.out).mono ?_;rintro e w2 ⟨Ap,cp,rfl,ho,hb⟩;have HB2:=hide hb;have HRp:=hide (prow_own ho HM.out HOl2.out HPt.out hb);clear ho hb)
   have Hj2:=hide (HJ.out _ _ _ Hj.out (But.of_below (R:=Bs) HB2.out));have HR2:=hide (HR.out.below HOl2.out HB2.out);have HPt2:=hide (show ∀k,ObP Ob w2 k→k<w2.heap.size from fun k h=>Nat.lt_of_lt_of_le (HPt.out k (h.of_eq (HB2.out.block Ob HOl2.out))) HB2.out.size);have HOl3:=hide (show Ob<w2.heap.size from Nat.lt_of_lt_of_le HOl2.out HB2.out.size);clear y0
   gi_loopg [16] M (fun g v16 wq=>∃(t:Nat),g=M-t∧t≤M∧v16=.int .i64 (t:Int)∧J (Nf.decomp (ls.take j)++(Nf.parts r).take t) wq∧PRow Ob wq (some ⟨gb,off,none⟩) ls∧PRow Ob wq Ap (Nf.parts r)∧(∀k,ObP Ob wq k→k<wq.heap.size)∧Ob<wq.heap.size)
   case atStart=>exact⟨0,rfl,by omega,rfl,by simpa using Hj2.out,HR2.out,HRp.out,HPt2.out,HOl3.out⟩
   case round=>
    obtain⟨t,hgt,htM,rfl,hJt,hrd3,hrp3,hpt3,hOl4⟩:=hrel;have Hgt:=hide hgt;have Hjt:=hide hJt;have HR3:=hide hrd3;have HRp3:=hide hrp3;have HPt3:=hide hpt3;have HOl4:=hide hOl4;clear hgt hJt hrd3 hrp3 hpt3 hOl4
    by_cases hlt2:t<M
    ·obtain⟨y,hy⟩:∃y,(Nf.parts r)[t]?=some y:=⟨_,List.getElem?_eq_getElem (by rw[HM.out];exact hlt2)⟩;obtain⟨gp,offp,rfl,_,_,hcp⟩:=HRp3.out.is (by rw[HM.out];omega);have y1:=hcp t y hy;have hyok:=HPo.out y (List.mem_of_getElem? hy);have hYx:=HY.out (Nf.decomp (ls.take j)++(Nf.parts r).take t) y wr Hjt.out hyok (by rw[List.length_append,List.length_take];have:=HM.out;have:=HN.out;omega);obtain⟨fn,tmps,assign,body,hyy,hRn⟩:=hYx;have Hy:=hide hy;have HRn:=hide hRn;clear hcp hyok hy hRn;gi_wp2;refine HRn.out.mono ?_;rintro e W3 ⟨rfl,hJ3,hk3⟩;have HJ3:=hide hJ3;have HK3:=hide hk3;clear hJ3 hk3 y1;gi_wp2
     go_roundg (M-(t+1))
     case measure=>have:=Hgt.out;omega
     case rel=>exact⟨t+1,rfl,by omega,by first|rfl|go_num,by rw[take_next Hy.out,←List.append_assoc];exact HJ3.out,HR3.out.kq HK3.out,HRp3.out.kq HK3.out,HK3.out.lt HPt3.out,Nat.lt_of_lt_of_le HOl4.out HK3.out.size⟩
    have htm:t=M:=by omega
    have Htm:=hide htm;clear htm;gi_wp2
    go_roundg (N-(j+1))
    case measure=>have:=Hg.out;omega
    case rel=>
     have h1:=Hjt.out;rw[List.take_of_length_le (l:=Nf.parts r) (by rw[HM.out,Htm.out];exact Nat.le_refl _),←HD.out] at h1;exact⟨j+1,rfl,by omega,by first|rfl|go_num,h1,HR3.out,HPt3.out,HOl4.out⟩
  gi_wp2;go_end0;have hjN:j=N:=by omega
  have h1:=Hj.out;rw[List.take_of_length_le (by rw[HN.out];omega)] at h1;exact⟨⟨_,rfl⟩,_,rfl,h1⟩
end
end Go.Proofs.YtifiiojchlaghaaGreatDoor
